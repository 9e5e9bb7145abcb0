/-
  What the law needs, packed: Rep.
-/
import Derived.Test.YtmiilonaehgplaaM3
namespace Go.HH
open Go Go.RowKit
abbrev Store:=Nat->Nat->Option Value
def Store.le (S S':Store):Prop:=∀ b o v,S b o=some v->S' b o=some v
theorem Store.le.refl (S:Store):S.le S:=fun _ _ _ h=>h
theorem Store.le.trans {A B D:Store} (h:A.le B) (k:B.le D):A.le D:=fun b o v x=>k b o v (h b o v x)
inductive Rep (S:Store) (M:List Nat):PV->Value->Prop
 | top (v):Rep S M .top v
 | bool (b):Rep S M (.bool b) (.bool b)
 | int (k n):Rep S M (.int k n) (.int k n)
 | str (s:List UInt8):Rep S M (.str s) (.string ⟨s.toArray⟩)
 | nils:Rep S M .nils (.slice none 0 0)
 | slE (a cap):Rep S M (.sl []) (.slice a 0 cap)
 | sl (xs:List PV) (b o cap:Nat) (f:Nat->Value) (hc:xs.length<=cap) (hz:∃ sz,∀ x ∈ xs,x.cells.length=sz)
  (hs:∀ i,i < (flat xs).length->S b (o+i)=some (f i)) (h1:∀ i,i < (flat xs).length->(f i).oneCell'=true)
  (hr:∀ i (h:i < (flat xs).length),Rep S M ((flat xs)[i]) (f i)):Rep S M (.sl xs) (.slice (some ⟨b,o,none⟩) xs.length cap)
 | osl (e xs v) (h:Rep S M (.sl xs) v):Rep S M (.osl e xs) v
 | ip (cs:List PV) (b o:Nat) (f:Nat->Value)
  (hs:∀ i,i < cs.length->S b (o+i)=some (f i)) (h1:∀ i,i < cs.length->(f i).oneCell'=true)
  (hr:∀ i (h:i < cs.length),Rep S M (cs[i]) (f i)):Rep S M (.ip cs) (.pointer (some ⟨b,o,none⟩))
 | bp (id off b) (h:M[id]?=some b):Rep S M (.bp id off) (.pointer (some ⟨b,off,none⟩))
 | rs (id len b cap) (h:M[id]?=some b) (hc:len<=cap):Rep S M (.rs id len) (.slice (some ⟨b,0,none⟩) len cap)
 | mv (id b) (h:M[id]?=some b):Rep S M (.mv id) (.map (some b))
 | nilp:Rep S M .nilp (.pointer none)
 | fn (f a c) (va vc:Array Value) (la:va.size=a.length) (lc:vc.size=c.length)
  (ha:∀ i (h:i < a.length) (h':i < va.size),Rep S M (a[i]) (va[i]))
  (hc:∀ i (h:i < c.length) (h':i < vc.size),Rep S M (c[i]) (vc[i])):Rep S M (.fn f a c) (.func (.func f) va vc)
 | nilf:Rep S M .nilf .nilFunc
 | iface (t v x) (h:Rep S M v x):Rep S M (.iface t v) (.iface t x)
 | nili:Rep S M .nili .nilIface
 | agg (cs) (vs:Array Value) (l:vs.size=cs.length) (h1:∀ i (h:i < vs.size),(vs[i]).oneCell'=true)
  (hr:∀ i (h:i < cs.length) (h':i < vs.size),Rep S M (cs[i]) (vs[i])):Rep S M (.agg cs) (.agg vs)
 | tup (cs) (vs:Array Value) (l:vs.size=cs.length)
  (hr:∀ i (h:i < cs.length) (h':i < vs.size),Rep S M (cs[i]) (vs[i])):Rep S M (.tup cs) (.tuple vs)
theorem Rep.mono {S S':Store} {M M':List Nat} (hS:S.le S') (hM:∀ (id b:Nat),M[id]?=some b->M'[id]?=some b) {p:PV} {v:Value} (h:Rep S M p v):Rep S' M' p v:=by
 induction h with
 | top v=>exact .top v
 | bool b=>exact .bool b
 | int k n=>exact .int k n
 | str s=>exact .str s
 | nils=>exact .nils
 | slE a cap=>exact .slE a cap
 | sl xs b o cap f hc hz hs h1 hr ih=>exact .sl xs b o cap f hc hz (fun i h=>hS _ _ _ (hs i h)) h1 ih
 | osl e xs v h ih=>exact .osl e xs v ih
 | ip cs b o f hs h1 hr ih=>exact .ip cs b o f (fun i h=>hS _ _ _ (hs i h)) h1 ih
 | bp id off b h=>exact .bp id off b (hM _ _ h)
 | rs id len b cap h hc=>exact .rs id len b cap (hM _ _ h) hc
 | mv id b h=>exact .mv id b (hM _ _ h)
 | nilp=>exact .nilp
 | fn f a c va vc la lc ha hc iha ihc=>exact .fn f a c va vc la lc iha ihc
 | nilf=>exact .nilf
 | iface t v x h ih=>exact .iface t v x ih
 | nili=>exact .nili
 | agg cs vs l h1 hr ih=>exact .agg cs vs l h1 ih
 | tup cs vs l hr ih=>exact .tup cs vs l ih
theorem pureL_get {l:List PV} (h:pureL l=true):∀ i (hi:i < l.length),(l[i]).pure=true:=by
 induction l with
 | nil=>intro i hi;simp at hi
 | cons v r ih=>
  simp only [pureL,Bool.and_eq_true] at h
  intro i hi
  cases i with
  | zero=>exact h.1
  | succ i=>exact ih h.2 i (by simpa using hi)
theorem pureL_append {a b:List PV}:pureL (a++b)=(pureL a && pureL b):=by
 induction a with
 | nil=>simp [pureL]
 | cons v r ih=>simp [pureL,ih,Bool.and_assoc]
theorem pureL_cells {v:PV} (h:v.pure=true):pureL v.cells=true:=by
 cases v <;> simp_all [PV.cells,pureL,PV.pure]
theorem pureL_flat {xs:List PV} (h:pureL xs=true):pureL (flat xs)=true:=by
 induction xs with
 | nil=>rfl
 | cons v r ih=>
  simp only [pureL,Bool.and_eq_true] at h
  simp only [flat,List.flatMap_cons]
  rw [pureL_append,pureL_cells h.1]
  exact ih h.2
theorem Rep.ofPure {S:Store} {M:List Nat} (M':List Nat) {p:PV} {v:Value} (h:Rep S M p v):p.pure=true->Rep S M' p v:=by
 induction h with
 | top v=>intro hp;simp [PV.pure] at hp
 | bool b=>exact fun _=>.bool b
 | int k n=>exact fun _=>.int k n
 | str s=>exact fun _=>.str s
 | nils=>exact fun _=>.nils
 | slE a cap=>exact fun _=>.slE a cap
 | sl xs b o cap f hc hz hs h1 hr ih=>
  intro hp
  have hp':=pureL_flat (xs:=xs) (by simpa [PV.pure] using hp)
  exact .sl xs b o cap f hc hz hs h1 fun i h=>ih i h (pureL_get hp' i h)
 | osl e xs v h ih=>exact fun hp=>.osl e xs v (ih (by simpa [PV.pure] using hp))
 | ip cs b o f hs h1 hr ih=>exact fun hp=>.ip cs b o f hs h1 fun i h=>ih i h (pureL_get (by simpa [PV.pure] using hp) i h)
 | bp id off b h=>intro hp;simp [PV.pure] at hp
 | rs id len b cap h hc=>intro hp;simp [PV.pure] at hp
 | mv id b h=>intro hp;simp [PV.pure] at hp
 | nilp=>exact fun _=>.nilp
 | fn f a c va vc la lc ha hc iha ihc=>
  intro hp
  simp only [PV.pure,Bool.and_eq_true] at hp
  exact .fn f a c va vc la lc (fun i h h'=>iha i h h' (pureL_get hp.1 i h)) (fun i h h'=>ihc i h h' (pureL_get hp.2 i h))
 | nilf=>exact fun _=>.nilf
 | iface t v x h ih=>exact fun hp=>.iface t v x (ih (by simpa [PV.pure] using hp))
 | nili=>exact fun _=>.nili
 | agg cs vs l h1 hr ih=>exact fun hp=>.agg cs vs l h1 fun i h h'=>ih i h h' (pureL_get (by simpa [PV.pure] using hp) i h)
 | tup cs vs l hr ih=>exact fun hp=>.tup cs vs l fun i h h'=>ih i h h' (pureL_get (by simpa [PV.pure] using hp) i h)
theorem underL_get {n:Nat} {l:List PV} (h:underL n l=true):∀ i (hi:i < l.length),(l[i]).under n=true:=by
 induction l with
 | nil=>intro i hi;simp at hi
 | cons v r ih=>
  simp only [underL,Bool.and_eq_true] at h
  intro i hi
  cases i with
  | zero=>exact h.1
  | succ i=>exact ih h.2 i (by simpa using hi)
theorem underL_append {n:Nat} {a b:List PV}:underL n (a++b)=(underL n a && underL n b):=by
 induction a with
 | nil=>simp [underL]
 | cons v r ih=>simp [underL,ih,Bool.and_assoc]
theorem underL_cells {n:Nat} {v:PV} (h:v.under n=true):underL n v.cells=true:=by
 cases v <;> simp_all [PV.cells,underL,PV.under]
theorem underL_flat {n:Nat} {xs:List PV} (h:underL n xs=true):underL n (flat xs)=true:=by
 induction xs with
 | nil=>rfl
 | cons v r ih=>
  simp only [underL,Bool.and_eq_true] at h
  simp only [flat,List.flatMap_cons]
  rw [underL_append,underL_cells h.1]
  exact ih h.2
theorem Rep.ofUnder {S:Store} {M:List Nat} (n:Nat) (M':List Nat) (hM:∀ (id b:Nat),id < n->M[id]?=some b->M'[id]?=some b) {p:PV} {v:Value} (h:Rep S M p v):p.under n=true->Rep S M' p v:=by
 induction h with
 | top v=>intro hp;simp [PV.under] at hp
 | bool b=>exact fun _=>.bool b
 | int k n=>exact fun _=>.int k n
 | str s=>exact fun _=>.str s
 | nils=>exact fun _=>.nils
 | slE a cap=>exact fun _=>.slE a cap
 | sl xs b o cap f hc hz hs h1 hr ih=>
  intro hp
  have hp':=underL_flat (n:=n) (xs:=xs) (by simpa [PV.under] using hp)
  exact .sl xs b o cap f hc hz hs h1 fun i h=>ih i h (underL_get hp' i h)
 | osl e xs v h ih=>exact fun hp=>.osl e xs v (ih (by simpa [PV.under] using hp))
 | ip cs b o f hs h1 hr ih=>exact fun hp=>.ip cs b o f hs h1 fun i h=>ih i h (underL_get (by simpa [PV.under] using hp) i h)
 | bp id off b h=>exact fun hp=>.bp id off b (hM _ _ (by simpa [PV.under] using hp) h)
 | rs id len b cap h hc=>exact fun hp=>.rs id len b cap (hM _ _ (by simpa [PV.under] using hp) h) hc
 | mv id b h=>exact fun hp=>.mv id b (hM _ _ (by simpa [PV.under] using hp) h)
 | nilp=>exact fun _=>.nilp
 | fn f a c va vc la lc ha hc iha ihc=>
  intro hp
  simp only [PV.under,Bool.and_eq_true] at hp
  exact .fn f a c va vc la lc (fun i h h'=>iha i h h' (underL_get hp.1 i h)) (fun i h h'=>ihc i h h' (underL_get hp.2 i h))
 | nilf=>exact fun _=>.nilf
 | iface t v x h ih=>exact fun hp=>.iface t v x (ih (by simpa [PV.under] using hp))
 | nili=>exact fun _=>.nili
 | agg cs vs l h1 hr ih=>exact fun hp=>.agg cs vs l h1 fun i h h'=>ih i h h' (underL_get (by simpa [PV.under] using hp) i h)
 | tup cs vs l hr ih=>exact fun hp=>.tup cs vs l fun i h h'=>ih i h h' (underL_get (by simpa [PV.under] using hp) i h)
theorem Rep.ro {S:Store} {M:List Nat} {p:PV} {v:Value} (h:Rep S M p v):Rep S M p.ro v:=by
 cases h with
 | osl e xs v h=>exact h
 | _=>constructor <;> assumption
theorem Rep.seal1 {S:Store} {M:List Nat} {p:PV} {v:Value} (h:Rep S M p v):Rep S M p.seal1 v:=by
 cases h with
 | osl e xs v h=>exact h
 | nils=>exact .slE none 0
 | _=>constructor <;> assumption
theorem Rep.shutV {S:Store} {M:List Nat} {p:PV} {v:Value} (h:Rep S M p v):Rep S M p.shutV v:=by
 cases h with
 | agg cs vs l h1 hr=>
  exact .agg _ vs (by simpa using l) h1 fun i h h'=>by simpa using (hr i (by simpa using h) h').seal1
 | osl e xs v h=>exact h
 | nils=>exact .slE none 0
 | _=>constructor <;> assumption
def RepL (S:Store) (M:List Nat) (ps:List PV) (vs:List Value):Prop:=
 ps.length=vs.length∧∀ i (h:i < ps.length) (h':i < vs.length),Rep S M ps[i] vs[i]
theorem RepL.nil (S:Store) (M:List Nat):RepL S M [] []:=⟨rfl,fun i h=>by simp at h⟩
theorem RepL.cons {S:Store} {M:List Nat} {p:PV} {v:Value} {ps:List PV} {vs:List Value} (h:Rep S M p v) (hs:RepL S M ps vs):RepL S M (p :: ps) (v :: vs):=by
 refine ⟨by simp [hs.1],fun i hi hi'=>?_⟩
 cases i with
 | zero=>exact h
 | succ i=>exact hs.2 i (by simpa using hi) (by simpa using hi')
theorem RepL.cons' {S:Store} {M:List Nat} {p:PV} {v:Value} {ps:List PV} {vs:List Value} (hs:RepL S M ps vs) (h:Rep S M p v):RepL S M (p :: ps) (v :: vs):=.cons h hs
theorem RepL.cons_inv {S:Store} {M:List Nat} {p:PV} {v:Value} {ps:List PV} {vs:List Value} (h:RepL S M (p :: ps) (v :: vs)):Rep S M p v∧RepL S M ps vs:=
 ⟨h.2 0 (by simp) (by simp),by simpa using h.1,fun i a b=>by
  have:=h.2 (i+1) (by simpa using a) (by simpa using b)
  simp only [List.getElem_cons_succ] at this
  exact this⟩
theorem RepL.append {S:Store} {M:List Nat} {ps qs:List PV} {vs us:List Value} (h:RepL S M ps vs) (k:RepL S M qs us):RepL S M (ps++qs) (vs++us):=by
 refine ⟨by simp [h.1,k.1],fun i hi hi'=>?_⟩
 by_cases hlt:i < ps.length
 · rw [List.getElem_append_left hlt,List.getElem_append_left (by have:=h.1;omega)]
   exact h.2 i hlt _
 · rw [List.getElem_append_right (by omega),List.getElem_append_right (by have:=h.1;omega)]
   have e:i - ps.length=i - vs.length:=by rw [h.1]
   have:=k.2 (i - ps.length) (by simp at hi;omega) (by simp at hi';have:=h.1;omega)
   simpa [e] using this
theorem RepL.mono {S S':Store} {M M':List Nat} (hS:S.le S') (hM:∀ (id b:Nat),M[id]?=some b->M'[id]?=some b) {ps:List PV} {vs:List Value} (h:RepL S M ps vs):RepL S' M' ps vs:=
 ⟨h.1,fun i a b=>(h.2 i a b).mono hS hM⟩
end Go.HH
