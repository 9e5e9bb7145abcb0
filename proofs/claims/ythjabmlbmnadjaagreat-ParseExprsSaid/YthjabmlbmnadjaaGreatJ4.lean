/-
  What the law needs, packed: Rep.
-/
import Derived.Test.YthjabmlbmnadjaaGreatJ3
open Bool renaming and_eq_true->yW,and_assoc->y0
open List renaming getElem_append_right->yX,getElem_append_left->yY,flatMap_cons->yZ
namespace Go.HH
open Go Go.RowKit
abbrev AY:=Nat->Nat->Option Value
def AY.le (S S':AY):Prop:=∀ b o v,S b o=some v->S' b o=some v
theorem AY.le.refl (S:AY):S.le S:=fun _ _ _ h=>h
theorem AY.le.trans {A B D:AY} (h:A.le B) (k:B.le D):A.le D:=fun b o v x=>k b o v (h b o v x)
inductive Rep (S:AY) (M:List Nat):PV->Value->Prop
 | top (v):Rep S M .top v
 | bool (b):Rep S M (.bool b) (.bool b)
 | int (k n):Rep S M (.int k n) (.int k n)
 | str (s:List UInt8):Rep S M (.str s) (.string ⟨s.toArray⟩)
 | nils:Rep S M .nils (.slice none 0 0)
 | slE (a cap):Rep S M (.sl []) (.slice a 0 cap)
 | sl (xs:List PV) (b o cap:Nat) (f:Nat->Value) (hc:xs.length<=cap) (hz:∃ sz,∀ x ∈ xs,x.cells.length=sz)
  (hs:∀ i,i < (flat xs).length->S b (o+i)=some (f i)) (h1:∀ i,i < (flat xs).length->(f i).oneCell'=true)
  (hr:∀ i (h:i < (flat xs).length),Rep S M ((flat xs)[i]) (f i)):Rep S M (.sl xs) (.slice (some ⟨b,o,none⟩) xs.length cap)
 | osl (e xs v) (h:Rep S M (.sl xs) v):Rep S M (.osl e xs) v
 | ip (cs:List PV) (b o:Nat) (f:Nat->Value)
  (hs:∀ i,i < cs.length->S b (o+i)=some (f i)) (h1:∀ i,i < cs.length->(f i).oneCell'=true)
  (hr:∀ i (h:i < cs.length),Rep S M (cs[i]) (f i)):Rep S M (.ip cs) (.pointer (some ⟨b,o,none⟩))
 | bp (id off b) (h:M[id]?=some b):Rep S M (.bp id off) (.pointer (some ⟨b,off,none⟩))
 | nilp:Rep S M .nilp (.pointer none)
 | fn (f a c) (va vc:Array Value) (la:va.size=a.length) (lc:vc.size=c.length)
  (ha:∀ i (h:i < a.length) (h':i < va.size),Rep S M (a[i]) (va[i]))
  (hc:∀ i (h:i < c.length) (h':i < vc.size),Rep S M (c[i]) (vc[i])):Rep S M (.fn f a c) (.func (.func f) va vc)
 | nilf:Rep S M .nilf .nilFunc
 | iface (t v x) (h:Rep S M v x):Rep S M (.iface t v) (.iface t x)
 | nili:Rep S M .nili .nilIface
 | agg (cs) (vs:Array Value) (l:vs.size=cs.length) (h1:∀ i (h:i < vs.size),(vs[i]).oneCell'=true)
  (hr:∀ i (h:i < cs.length) (h':i < vs.size),Rep S M (cs[i]) (vs[i])):Rep S M (.agg cs) (.agg vs)
 | tup (cs) (vs:Array Value) (l:vs.size=cs.length)
  (hr:∀ i (h:i < cs.length) (h':i < vs.size),Rep S M (cs[i]) (vs[i])):Rep S M (.tup cs) (.tuple vs)
theorem Rep.mono {S S':AY} {M M':List Nat} (hS:S.le S') (hM:∀ (id b:Nat),M[id]?=some b->M'[id]?=some b) {p:PV} {v:Value} (h:Rep S M p v):Rep S' M' p v:=by
 induction h with
 | top v=>exact .top v
 | bool b=>exact .bool b
 | int k n=>exact .int k n
 | str s=>exact .str s
 | nils=>exact .nils
 | slE a cap=>exact .slE a cap
 | sl xs b o cap f hc hz hs h1 hr ih=>exact .sl xs b o cap f hc hz (fun i h=>hS _ _ _ (hs i h)) h1 ih
 | osl e xs v h ih=>exact .osl e xs v ih
 | ip cs b o f hs h1 hr ih=>exact .ip cs b o f (fun i h=>hS _ _ _ (hs i h)) h1 ih
 | bp id off b h=>exact .bp id off b (hM _ _ h)
 | nilp=>exact .nilp
 | fn f a c va vc la lc ha hc iha ihc=>exact .fn f a c va vc la lc iha ihc
 | nilf=>exact .nilf
 | iface t v x h ih=>exact .iface t v x ih
 | nili=>exact .nili
 | agg cs vs l h1 hr ih=>exact .agg cs vs l h1 ih
 | tup cs vs l hr ih=>exact .tup cs vs l ih
theorem GA {l:List PV} (h:Aq l=true):∀ i (hi:i < l.length),(l[i]).pure=true:=by
 induction l with
 | nil=>intro i hi;simp at hi
 | cons v r ih=>
  simp only [Aq,yW] at h;intro i hi;cases i with
  | zero=>exact h.1
  | succ i=>exact ih h.2 i (by simpa using hi)
theorem WS {a b:List PV}:Aq (a++b)=(Aq a && Aq b):=by
 induction a with
 | nil=>simp [Aq]
 | cons v r ih=>simp [Aq,ih,y0]
theorem YT {v:PV} (h:v.pure=true):Aq v.cells=true:=by
 cases v <;> simp_all [PV.cells,Aq,PV.pure]
theorem bF {xs:List PV} (h:Aq xs=true):Aq (flat xs)=true:=by
 induction xs with
 | nil=>rfl
 | cons v r ih=>
  simp only [Aq,yW] at h;simp only [flat,yZ];rw [WS,YT h.1];exact ih h.2
theorem Rep.ofPure {S:AY} {M:List Nat} (M':List Nat) {p:PV} {v:Value} (h:Rep S M p v):p.pure=true->Rep S M' p v:=by
 induction h with
 | top v=>intro hp;simp [PV.pure] at hp
 | bool b=>exact fun _=>.bool b
 | int k n=>exact fun _=>.int k n
 | str s=>exact fun _=>.str s
 | nils=>exact fun _=>.nils
 | slE a cap=>exact fun _=>.slE a cap
 | sl xs b o cap f hc hz hs h1 hr ih=>
  intro hp;have oS:=bF (xs:=xs) (by simpa [PV.pure] using hp);exact .sl xs b o cap f hc hz hs h1 fun i h=>ih i h (GA oS i h)
 | osl e xs v h ih=>exact fun hp=>.osl e xs v (ih (by simpa [PV.pure] using hp))
 | ip cs b o f hs h1 hr ih=>exact fun hp=>.ip cs b o f hs h1 fun i h=>ih i h (GA (by simpa [PV.pure] using hp) i h)
 | bp id off b h=>intro hp;simp [PV.pure] at hp
 | nilp=>exact fun _=>.nilp
 | fn f a c va vc la lc ha hc iha ihc=>
  intro hp;simp only [PV.pure,yW] at hp;exact .fn f a c va vc la lc (fun i h h'=>iha i h h' (GA hp.1 i h)) (fun i h h'=>ihc i h h' (GA hp.2 i h))
 | nilf=>exact fun _=>.nilf
 | iface t v x h ih=>exact fun hp=>.iface t v x (ih (by simpa [PV.pure] using hp))
 | nili=>exact fun _=>.nili
 | agg cs vs l h1 hr ih=>exact fun hp=>.agg cs vs l h1 fun i h h'=>ih i h h' (GA (by simpa [PV.pure] using hp) i h)
 | tup cs vs l hr ih=>exact fun hp=>.tup cs vs l fun i h h'=>ih i h h' (GA (by simpa [PV.pure] using hp) i h)
theorem EY {n:Nat} {l:List PV} (h:Au n l=true):∀ i (hi:i < l.length),(l[i]).under n=true:=by
 induction l with
 | nil=>intro i hi;simp at hi
 | cons v r ih=>
  simp only [Au,yW] at h;intro i hi;cases i with
  | zero=>exact h.1
  | succ i=>exact ih h.2 i (by simpa using hi)
theorem Up {n:Nat} {a b:List PV}:Au n (a++b)=(Au n a && Au n b):=by
 induction a with
 | nil=>simp [Au]
 | cons v r ih=>simp [Au,ih,y0]
theorem WT {n:Nat} {v:PV} (h:v.under n=true):Au n v.cells=true:=by
 cases v <;> simp_all [PV.cells,Au,PV.under]
theorem YU {n:Nat} {xs:List PV} (h:Au n xs=true):Au n (flat xs)=true:=by
 induction xs with
 | nil=>rfl
 | cons v r ih=>
  simp only [Au,yW] at h;simp only [flat,yZ];rw [Up,WT h.1];exact ih h.2
theorem Rep.ofUnder {S:AY} {M:List Nat} (n:Nat) (M':List Nat) (hM:∀ (id b:Nat),id < n->M[id]?=some b->M'[id]?=some b) {p:PV} {v:Value} (h:Rep S M p v):p.under n=true->Rep S M' p v:=by
 induction h with
 | top v=>intro hp;simp [PV.under] at hp
 | bool b=>exact fun _=>.bool b
 | int k n=>exact fun _=>.int k n
 | str s=>exact fun _=>.str s
 | nils=>exact fun _=>.nils
 | slE a cap=>exact fun _=>.slE a cap
 | sl xs b o cap f hc hz hs h1 hr ih=>
  intro hp;have oS:=YU (n:=n) (xs:=xs) (by simpa [PV.under] using hp);exact .sl xs b o cap f hc hz hs h1 fun i h=>ih i h (EY oS i h)
 | osl e xs v h ih=>exact fun hp=>.osl e xs v (ih (by simpa [PV.under] using hp))
 | ip cs b o f hs h1 hr ih=>exact fun hp=>.ip cs b o f hs h1 fun i h=>ih i h (EY (by simpa [PV.under] using hp) i h)
 | bp id off b h=>exact fun hp=>.bp id off b (hM _ _ (by simpa [PV.under] using hp) h)
 | nilp=>exact fun _=>.nilp
 | fn f a c va vc la lc ha hc iha ihc=>
  intro hp;simp only [PV.under,yW] at hp;exact .fn f a c va vc la lc (fun i h h'=>iha i h h' (EY hp.1 i h)) (fun i h h'=>ihc i h h' (EY hp.2 i h))
 | nilf=>exact fun _=>.nilf
 | iface t v x h ih=>exact fun hp=>.iface t v x (ih (by simpa [PV.under] using hp))
 | nili=>exact fun _=>.nili
 | agg cs vs l h1 hr ih=>exact fun hp=>.agg cs vs l h1 fun i h h'=>ih i h h' (EY (by simpa [PV.under] using hp) i h)
 | tup cs vs l hr ih=>exact fun hp=>.tup cs vs l fun i h h'=>ih i h h' (EY (by simpa [PV.under] using hp) i h)
theorem Rep.ro {S:AY} {M:List Nat} {p:PV} {v:Value} (h:Rep S M p v):Rep S M p.ro v:=by
 cases h with
 | osl e xs v h=>exact h
 | _=>constructor <;> assumption
theorem Rep.seal1 {S:AY} {M:List Nat} {p:PV} {v:Value} (h:Rep S M p v):Rep S M p.seal1 v:=by
 cases h with
 | osl e xs v h=>exact h
 | nils=>exact .slE none 0
 | _=>constructor <;> assumption
theorem Rep.shutV {S:AY} {M:List Nat} {p:PV} {v:Value} (h:Rep S M p v):Rep S M p.shutV v:=by
 cases h with
 | agg cs vs l h1 hr=>
  exact .agg _ vs (by simpa using l) h1 fun i h h'=>by simpa using (hr i (by simpa using h) h').seal1
 | osl e xs v h=>exact h
 | nils=>exact .slE none 0
 | _=>constructor <;> assumption
def CD (S:AY) (M:List Nat) (ps:List PV) (vs:List Value):Prop:=
 ps.length=vs.length/\∀ i (h:i < ps.length) (h':i < vs.length),Rep S M ps[i] vs[i]
theorem CD.nil (S:AY) (M:List Nat):CD S M [] []:=⟨rfl,fun i h=>by simp at h⟩
theorem CD.cons {S:AY} {M:List Nat} {p:PV} {v:Value} {ps:List PV} {vs:List Value} (h:Rep S M p v) (hs:CD S M ps vs):CD S M (p :: ps) (v :: vs):=by
 refine ⟨by simp [hs.1],fun i hi Ey=>?_⟩;cases i with
 | zero=>exact h
 | succ i=>exact hs.2 i (by simpa using hi) (by simpa using Ey)
theorem CD.cons' {S:AY} {M:List Nat} {p:PV} {v:Value} {ps:List PV} {vs:List Value} (hs:CD S M ps vs) (h:Rep S M p v):CD S M (p :: ps) (v :: vs):=.cons h hs
theorem CD.cons_inv {S:AY} {M:List Nat} {p:PV} {v:Value} {ps:List PV} {vs:List Value} (h:CD S M (p :: ps) (v :: vs)):Rep S M p v/\CD S M ps vs:=
 ⟨h.2 0 (by simp) (by simp),by simpa using h.1,fun i a b=>by
  have:=h.2 (i+1) (by simpa using a) (by simpa using b);simp only [List.getElem_cons_succ] at this;exact this⟩
theorem CD.append {S:AY} {M:List Nat} {ps qs:List PV} {vs us:List Value} (h:CD S M ps vs) (k:CD S M qs us):CD S M (ps++qs) (vs++us):=by
 refine ⟨by simp [h.1,k.1],fun i hi Ey=>?_⟩;by_cases Bq:i < ps.length
 · rw [yY Bq,yY (by have:=h.1;omega)]
   exact h.2 i Bq _
 · rw [yX (by omega),yX (by have:=h.1;omega)]
   have e:i - ps.length=i - vs.length:=by rw [h.1]
   have:=k.2 (i - ps.length) (by simp at hi;omega) (by simp at Ey;have:=h.1;omega);simpa [e] using this
theorem CD.mono {S S':AY} {M M':List Nat} (hS:S.le S') (hM:∀ (id b:Nat),M[id]?=some b->M'[id]?=some b) {ps:List PV} {vs:List Value} (h:CD S M ps vs):CD S' M' ps vs:=
 ⟨h.1,fun i a b=>(h.2 i a b).mono hS hM⟩
end Go.HH
