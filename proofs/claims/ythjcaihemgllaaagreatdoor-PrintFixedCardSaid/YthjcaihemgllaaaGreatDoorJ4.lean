/-
  What the law needs, packed: Rep.
-/
import Derived.Test.YthjcaihemgllaaaGreatDoorJ3
open Bool renaming and_eq_true->Aa0,and_assoc->Aa4
open List renaming getElem_append_right->Aa1,getElem_append_left->Aa2,flatMap_cons->Aa3
namespace Go.HH
open Go Go.RowKit
abbrev AI:=Nat->Nat->Option Value
def AI.le (S S':AI):Prop:=∀ b o v,S b o=some v->S' b o=some v
theorem AI.le.refl (S:AI):S.le S:=fun _ _ _ h=>h
theorem AI.le.trans {A B D:AI} (h:A.le B) (k:B.le D):A.le D:=fun b o v x=>k b o v (h b o v x)
inductive Rep (S:AI) (M:List Nat):PV->Value->Prop
 | top (v):Rep S M .top v
 | bool (b):Rep S M (.bool b) (.bool b)
 | int (k n):Rep S M (.int k n) (.int k n)
 | str (s:List UInt8):Rep S M (.str s) (.string ⟨s.toArray⟩)
 | nils:Rep S M .nils (.slice none 0 0)
 | slE (a cap):Rep S M (.sl []) (.slice a 0 cap)
 | sl (xs:List PV) (b o cap:Nat) (f:Nat->Value) (hc:xs.length<=cap) (hz:∃ sz,∀ x ∈ xs,x.cells.length=sz)
  (hs:∀ i,i < (flat xs).length->S b (o+i)=some (f i)) (h1:∀ i,i < (flat xs).length->(f i).oneCell'=true)
  (hr:∀ i (h:i < (flat xs).length),Rep S M ((flat xs)[i]) (f i)):Rep S M (.sl xs) (.slice (some ⟨b,o,none⟩) xs.length cap)
 | osl (e xs v) (h:Rep S M (.sl xs) v):Rep S M (.osl e xs) v
 | ip (cs:List PV) (b o:Nat) (f:Nat->Value)
  (hs:∀ i,i < cs.length->S b (o+i)=some (f i)) (h1:∀ i,i < cs.length->(f i).oneCell'=true)
  (hr:∀ i (h:i < cs.length),Rep S M (cs[i]) (f i)):Rep S M (.ip cs) (.pointer (some ⟨b,o,none⟩))
 | bp (id off b) (h:M[id]?=some b):Rep S M (.bp id off) (.pointer (some ⟨b,off,none⟩))
 | nilp:Rep S M .nilp (.pointer none)
 | fn (f a c) (va vc:Array Value) (la:va.size=a.length) (lc:vc.size=c.length)
  (ha:∀ i (h:i < a.length) (h':i < va.size),Rep S M (a[i]) (va[i]))
  (hc:∀ i (h:i < c.length) (h':i < vc.size),Rep S M (c[i]) (vc[i])):Rep S M (.fn f a c) (.func (.func f) va vc)
 | nilf:Rep S M .nilf .nilFunc
 | iface (t v x) (h:Rep S M v x):Rep S M (.iface t v) (.iface t x)
 | nili:Rep S M .nili .nilIface
 | agg (cs) (vs:Array Value) (l:vs.size=cs.length) (h1:∀ i (h:i < vs.size),(vs[i]).oneCell'=true)
  (hr:∀ i (h:i < cs.length) (h':i < vs.size),Rep S M (cs[i]) (vs[i])):Rep S M (.agg cs) (.agg vs)
 | tup (cs) (vs:Array Value) (l:vs.size=cs.length)
  (hr:∀ i (h:i < cs.length) (h':i < vs.size),Rep S M (cs[i]) (vs[i])):Rep S M (.tup cs) (.tuple vs)
theorem Rep.mono {S S':AI} {M M':List Nat} (hS:S.le S') (hM:∀ (id b:Nat),M[id]?=some b->M'[id]?=some b) {p:PV} {v:Value} (h:Rep S M p v):Rep S' M' p v:=by
 induction h with
 | top v=>exact .top v
 | bool b=>exact .bool b
 | int k n=>exact .int k n
 | str s=>exact .str s
 | nils=>exact .nils
 | slE a cap=>exact .slE a cap
 | sl xs b o cap f hc hz hs h1 hr ih=>exact .sl xs b o cap f hc hz (fun i h=>hS _ _ _ (hs i h)) h1 ih
 | osl e xs v h ih=>exact .osl e xs v ih
 | ip cs b o f hs h1 hr ih=>exact .ip cs b o f (fun i h=>hS _ _ _ (hs i h)) h1 ih
 | bp id off b h=>exact .bp id off b (hM _ _ h)
 | nilp=>exact .nilp
 | fn f a c va vc la lc ha hc iha ihc=>exact .fn f a c va vc la lc iha ihc
 | nilf=>exact .nilf
 | iface t v x h ih=>exact .iface t v x ih
 | nili=>exact .nili
 | agg cs vs l h1 hr ih=>exact .agg cs vs l h1 ih
 | tup cs vs l hr ih=>exact .tup cs vs l ih
theorem FY {l:List PV} (h:Al l=true):∀ i (hi:i < l.length),(l[i]).pure=true:=by
 induction l with
 | nil=>intro i hi;simp at hi
 | cons v r ih=>
  simp only [Al,Aa0] at h;intro i hi;cases i with
  | zero=>exact h.1
  | succ i=>exact ih h.2 i (by simpa using hi)
theorem VK {a b:List PV}:Al (a++b)=(Al a && Al b):=by
 induction a with
 | nil=>simp [Al]
 | cons v r ih=>simp [Al,ih,Aa4]
theorem XJ {v:PV} (h:v.pure=true):Al v.cells=true:=by
 cases v <;> simp_all [PV.cells,Al,PV.pure]
theorem ZO {xs:List PV} (h:Al xs=true):Al (flat xs)=true:=by
 induction xs with
 | nil=>rfl
 | cons v r ih=>
  simp only [Al,Aa0] at h;simp only [flat,Aa3];rw [VK,XJ h.1];exact ih h.2
theorem Rep.ofPure {S:AI} {M:List Nat} (M':List Nat) {p:PV} {v:Value} (h:Rep S M p v):p.pure=true->Rep S M' p v:=by
 induction h with
 | top v=>intro hp;simp [PV.pure] at hp
 | bool b=>exact fun _=>.bool b
 | int k n=>exact fun _=>.int k n
 | str s=>exact fun _=>.str s
 | nils=>exact fun _=>.nils
 | slE a cap=>exact fun _=>.slE a cap
 | sl xs b o cap f hc hz hs h1 hr ih=>
  intro hp;have pF:=ZO (xs:=xs) (by simpa [PV.pure] using hp);exact .sl xs b o cap f hc hz hs h1 fun i h=>ih i h (FY pF i h)
 | osl e xs v h ih=>exact fun hp=>.osl e xs v (ih (by simpa [PV.pure] using hp))
 | ip cs b o f hs h1 hr ih=>exact fun hp=>.ip cs b o f hs h1 fun i h=>ih i h (FY (by simpa [PV.pure] using hp) i h)
 | bp id off b h=>intro hp;simp [PV.pure] at hp
 | nilp=>exact fun _=>.nilp
 | fn f a c va vc la lc ha hc iha ihc=>
  intro hp;simp only [PV.pure,Aa0] at hp;exact .fn f a c va vc la lc (fun i h h'=>iha i h h' (FY hp.1 i h)) (fun i h h'=>ihc i h h' (FY hp.2 i h))
 | nilf=>exact fun _=>.nilf
 | iface t v x h ih=>exact fun hp=>.iface t v x (ih (by simpa [PV.pure] using hp))
 | nili=>exact fun _=>.nili
 | agg cs vs l h1 hr ih=>exact fun hp=>.agg cs vs l h1 fun i h h'=>ih i h h' (FY (by simpa [PV.pure] using hp) i h)
 | tup cs vs l hr ih=>exact fun hp=>.tup cs vs l fun i h h'=>ih i h h' (FY (by simpa [PV.pure] using hp) i h)
theorem DO {n:Nat} {l:List PV} (h:Ar n l=true):∀ i (hi:i < l.length),(l[i]).under n=true:=by
 induction l with
 | nil=>intro i hi;simp at hi
 | cons v r ih=>
  simp only [Ar,Aa0] at h;intro i hi;cases i with
  | zero=>exact h.1
  | succ i=>exact ih h.2 i (by simpa using hi)
theorem Td {n:Nat} {a b:List PV}:Ar n (a++b)=(Ar n a && Ar n b):=by
 induction a with
 | nil=>simp [Ar]
 | cons v r ih=>simp [Ar,ih,Aa4]
theorem VL {n:Nat} {v:PV} (h:v.under n=true):Ar n v.cells=true:=by
 cases v <;> simp_all [PV.cells,Ar,PV.under]
theorem XK {n:Nat} {xs:List PV} (h:Ar n xs=true):Ar n (flat xs)=true:=by
 induction xs with
 | nil=>rfl
 | cons v r ih=>
  simp only [Ar,Aa0] at h;simp only [flat,Aa3];rw [Td,VL h.1];exact ih h.2
theorem Rep.ofUnder {S:AI} {M:List Nat} (n:Nat) (M':List Nat) (hM:∀ (id b:Nat),id < n->M[id]?=some b->M'[id]?=some b) {p:PV} {v:Value} (h:Rep S M p v):p.under n=true->Rep S M' p v:=by
 induction h with
 | top v=>intro hp;simp [PV.under] at hp
 | bool b=>exact fun _=>.bool b
 | int k n=>exact fun _=>.int k n
 | str s=>exact fun _=>.str s
 | nils=>exact fun _=>.nils
 | slE a cap=>exact fun _=>.slE a cap
 | sl xs b o cap f hc hz hs h1 hr ih=>
  intro hp;have pF:=XK (n:=n) (xs:=xs) (by simpa [PV.under] using hp);exact .sl xs b o cap f hc hz hs h1 fun i h=>ih i h (DO pF i h)
 | osl e xs v h ih=>exact fun hp=>.osl e xs v (ih (by simpa [PV.under] using hp))
 | ip cs b o f hs h1 hr ih=>exact fun hp=>.ip cs b o f hs h1 fun i h=>ih i h (DO (by simpa [PV.under] using hp) i h)
 | bp id off b h=>exact fun hp=>.bp id off b (hM _ _ (by simpa [PV.under] using hp) h)
 | nilp=>exact fun _=>.nilp
 | fn f a c va vc la lc ha hc iha ihc=>
  intro hp;simp only [PV.under,Aa0] at hp;exact .fn f a c va vc la lc (fun i h h'=>iha i h h' (DO hp.1 i h)) (fun i h h'=>ihc i h h' (DO hp.2 i h))
 | nilf=>exact fun _=>.nilf
 | iface t v x h ih=>exact fun hp=>.iface t v x (ih (by simpa [PV.under] using hp))
 | nili=>exact fun _=>.nili
 | agg cs vs l h1 hr ih=>exact fun hp=>.agg cs vs l h1 fun i h h'=>ih i h h' (DO (by simpa [PV.under] using hp) i h)
 | tup cs vs l hr ih=>exact fun hp=>.tup cs vs l fun i h h'=>ih i h h' (DO (by simpa [PV.under] using hp) i h)
theorem Rep.ro {S:AI} {M:List Nat} {p:PV} {v:Value} (h:Rep S M p v):Rep S M p.ro v:=by
 cases h with
 | osl e xs v h=>exact h
 | _=>constructor <;> assumption
theorem Rep.seal1 {S:AI} {M:List Nat} {p:PV} {v:Value} (h:Rep S M p v):Rep S M p.seal1 v:=by
 cases h with
 | osl e xs v h=>exact h
 | nils=>exact .slE none 0
 | _=>constructor <;> assumption
theorem Rep.shutV {S:AI} {M:List Nat} {p:PV} {v:Value} (h:Rep S M p v):Rep S M p.shutV v:=by
 cases h with
 | agg cs vs l h1 hr=>
  exact .agg _ vs (by simpa using l) h1 fun i h h'=>by simpa using (hr i (by simpa using h) h').seal1
 | osl e xs v h=>exact h
 | nils=>exact .slE none 0
 | _=>constructor <;> assumption
def Cd (S:AI) (M:List Nat) (ps:List PV) (vs:List Value):Prop:=
 ps.length=vs.length/\∀ i (h:i < ps.length) (h':i < vs.length),Rep S M ps[i] vs[i]
theorem Cd.nil (S:AI) (M:List Nat):Cd S M [] []:=⟨rfl,fun i h=>by simp at h⟩
theorem Cd.cons {S:AI} {M:List Nat} {p:PV} {v:Value} {ps:List PV} {vs:List Value} (h:Rep S M p v) (hs:Cd S M ps vs):Cd S M (p :: ps) (v :: vs):=by
 refine ⟨by simp [hs.1],fun i hi Dp=>?_⟩;cases i with
 | zero=>exact h
 | succ i=>exact hs.2 i (by simpa using hi) (by simpa using Dp)
theorem Cd.cons' {S:AI} {M:List Nat} {p:PV} {v:Value} {ps:List PV} {vs:List Value} (hs:Cd S M ps vs) (h:Rep S M p v):Cd S M (p :: ps) (v :: vs):=.cons h hs
theorem Cd.cons_inv {S:AI} {M:List Nat} {p:PV} {v:Value} {ps:List PV} {vs:List Value} (h:Cd S M (p :: ps) (v :: vs)):Rep S M p v/\Cd S M ps vs:=
 ⟨h.2 0 (by simp) (by simp),by simpa using h.1,fun i a b=>by
  have:=h.2 (i+1) (by simpa using a) (by simpa using b);simp only [List.getElem_cons_succ] at this;exact this⟩
theorem Cd.append {S:AI} {M:List Nat} {ps qs:List PV} {vs us:List Value} (h:Cd S M ps vs) (k:Cd S M qs us):Cd S M (ps++qs) (vs++us):=by
 refine ⟨by simp [h.1,k.1],fun i hi Dp=>?_⟩;by_cases Bz:i < ps.length
 · rw [Aa2 Bz,Aa2 (by have:=h.1;omega)]
   exact h.2 i Bz _
 · rw [Aa1 (by omega),Aa1 (by have:=h.1;omega)]
   have e:i - ps.length=i - vs.length:=by rw [h.1]
   have:=k.2 (i - ps.length) (by simp at hi;omega) (by simp at Dp;have:=h.1;omega);simpa [e] using this
theorem Cd.mono {S S':AI} {M M':List Nat} (hS:S.le S') (hM:∀ (id b:Nat),M[id]?=some b->M'[id]?=some b) {ps:List PV} {vs:List Value} (h:Cd S M ps vs):Cd S' M' ps vs:=
 ⟨h.1,fun i a b=>(h.2 i a b).mono hS hM⟩
end Go.HH
