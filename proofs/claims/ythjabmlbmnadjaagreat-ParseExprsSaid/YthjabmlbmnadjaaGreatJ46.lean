/-
  What the law needs, packed: GR UP HE HF Shelf C1 BB HB.
-/
import Derived.Shelf.Strings.Builder1
import Derived.Shelf.Small.Strs
import Derived.Shelf.Strings.Search1
import Derived.Test.YthjabmlbmnadjaaGreatProg
import Derived.Lib.LaidTab
import Derived.Test.YthjabmlbmnadjaaGreatJ45
open Go.Proofs.Tryz renaming f10->yW,underlying133->y1,prog->y2,underlying145->y3,underlying9->y5,underlying135->y6,f29->y9,underlying4->zg,zeroValue9->zl,zeroValue135->zo,zeroValue133->zq,sizeOf9->zr,f4->zt,isAgg9->zx,sizeOf135->zE,sizeOf133->zG,isAgg135->zJ,isAgg133->zL,func139->zM,zeroValue145->zR,underlying5->zS,underlying3->zU,zeroValue5->zY,zeroValue4->zZ,zeroValue3->z6,sizeOf145->z7,ntmps139->Aa0,isAgg145->Aa1,sizeOf5->Aa5,sizeOf4->Aa6,sizeOf3->Aa7,func132->Aa8,func116->Aa9,isAgg5->Aaa,isAgg4->Aab,isAgg3->Aac
open List renaming getElem?_cons_zero->yX,getElem?_cons_succ->yY,getElem?_toArray->yZ,mem_range->y4,range->y7,getElem_cons_zero->y',contains_iff_mem->zd,getElem_toArray->ze,prefix_refl->zh,all_eq_true->zi,getElem_cons_succ->zk,all_cons->zn,mem_reverse->zu,length_cons->zw,nodup_cons->zC,getElem?_eq_some_iff->zI,set_cons_zero->zO,set_cons_succ->zP,mem_singleton->zQ,mem_flatMap->zW,mem_cons->Aa2
open Option renaming getD->y0,map_eq_some_iff->y8
open Array renaming getElem?_modify->za
open Go.World renaming freeze->zf,setCell->zH,shape?->z'
open Bool renaming and_eq_true->zj,and_self->Aa3
open Nat renaming le_of_ble_eq_true->zm,le_refl->zB,zero_add->zN
open Go.Result renaming andThen->zy
open Go.Oper renaming upon_value->zA
open Go.Builtin renaming unsafeSliceData_->zD
open Go.Extern.AbiNoEscape renaming same->zX
open Go.Value renaming slice->Aa4
namespace Go.HH
open Go Go.Proofs
set_option maxRecDepth 100000
set_option maxHeartbeats 4000000
set_option linter.unusedSimpArgs false
set_option linter.unusedVariables false
set_option linter.unusedSectionVars false
theorem MN:Bk CC y9 (y9.body.getD .skip)=true:=by kernel_rfl
theorem LR:CC.P.funcs[29]?=some y9:=by kernel_rfl
theorem Ew {x:List PV} {b:List PBox} (h:x.length.ble y9.ntmps=true):Ae CC 29 x b=CB CC y9.results.toList (Cp CC (y9.body.getD .skip) ⟨x,b⟩):=Ah (fn:=y9) (c:=y9.body.getD .skip) rfl rfl LR rfl MN (zm h)
def CS (L:List Tk) (n o:Nat) (s:RS):ZR:=zb (zF L n .expr o s) fun e s2=>if s2.c=0/\Ry e≠0 then some (e,⟨s2.i,Ry e,atT L s.i⟩) else some (e,s2)
theorem HL {L:List Tk} (hT:TokOK L) {n o:Nat} {s:RS} (hi:inv L s) {a:Tr} {s2:RS} (h:CS L n o s=some (a,s2)):inv L s2:=by
 unfold CS at h;refine Fp h (fun _ _ e=>Ho hT _ _ _ _ _ _ hi e) fun b t h1 h=>?_;split at h
 · rename_i hh
   exact B4 h fun hc=>h1 hh.1
 · exact B4 h h1
theorem X7 {L:List Tk} (hT:TokOK L) {n i t:Nat} (hi:i < L.length) (hn:12 * (L.length - i)+10<=n):ZL (Db L n i) t (CS L n 0 ⟨i,0,t⟩):=by
 unfold Db CS;refine D9 (pO hT n .expr 0 i t hi hn) (fun e j _=>?_) (fun e s h=>⟨e,if_neg fun hh=>h hh.1⟩);by_cases hz:Ry e=0
 · rw [if_pos hz,if_neg (fun hh=>hh.2 hz)]
   rfl
 · rw [if_neg hz,if_pos ⟨rfl,hz⟩]
   exact ⟨⟨_,_,rfl⟩,hz⟩
section
variable {id:Nat} {L:List Tk} {Nm:PV} (hR:Nm.pure=true) (hT:TokOK L)
include hR hT
theorem aK {n o i t:Nat} (hi:i < L.length) (hn:12 * (L.length - i)+10<=n) (ho:o+n<=1000000):YD 29 [] id L o Nm ⟨i,0,t⟩ (fun t:Tr=>.agg (A7 t)) (CS L n o ⟨i,0,t⟩):=by
 have wz:inv L ⟨i,0,t⟩:=fun _=>hi;unfold CS;have h1:=(oA (id:=id) hR hT n).1 o _ wz ho;have hz:=pO hT n .expr o i t hi hn;have hg:=Fg hi;unfold ID at hg;have DF:¬ ((i:Int) < 0):=by omega
 cases z1:zF L n .expr o ⟨i,0,t⟩ with
 | none=>trivial
 | some d=>
  rw [z1,AB] at h1;rw [MK];by_cases c0:d.2.c=0
  · have iX:Fi d.1:=by
     cases r:pz L n .expr o i with
     | ok a j=>
      rw [r,z1] at hz;have hz:some d=some (a,⟨j,0,t⟩):=hz;injection hz with hz
      rw [hz];exact Z3 hT _ _ _ _ _ _ (by trivial) r
     | bad t2 e=>
      rw [r,z1] at hz;obtain ⟨⟨a,i2,hz⟩,he⟩:=hz;injection hz with hz
      rw [hz] at c0;exact absurd c0 he
     | out=>exact absurd r (kN hT n .expr o i hi hn)
    have fF:=Xq d.1 iX;rw [An] at fF;have Dq:(d.2.c == 0)=true:=by rw [c0];rfl
    by_cases hk:Ry d.1=0
    · have Ft:(Ry d.1 != 0)=false:=by rw [hk];rfl
      rw [if_neg (fun hh=>hh.2 hk),AB];refine BK hR (QA _) fun bx Ad hc=>?_;have t1:=Aj Ad hc hR h1;unfold Be;rw [Ew rfl];rw [<- Am];rw [<- AK] at t1 fF;simp only [Aa,Ac,y9,y0];simp only [S9,Ag,seval,PY,Bv,PZ,Aw,Al,hg,DF,t1,SX,Dq,fF,Ft,Ad];exact ⟨_,rfl⟩
    · have Ft:(Ry d.1 != 0)=true:=by simp [hk]
      rw [if_pos ⟨c0,hk⟩,AB];refine BK hR (QA _) fun bx Ad hc=>?_;have t1:=Aj Ad hc hR h1;unfold Be atT;rw [Ew rfl];rw [<- Am];rw [<- AK] at t1 fF;simp only [Aa,Ac,y9,y0];simp only [S9,Ag,seval,PY,Bv,PZ,Aw,Al,hg,DF,t1,SX,Dq,fF,Ft,Ad];exact ⟨_,rfl⟩
  · have Dq:(d.2.c == 0)=false:=beq_eq_false_iff_ne.2 c0
    rw [if_neg (fun hh=>c0 hh.1),AB];refine BK hR (QA _) fun bx Ad hc=>?_;have t1:=Aj Ad hc hR h1;unfold Be;rw [Ew rfl];rw [<- Am];rw [<- AK] at t1;simp only [Aa,Ac,y9,y0];simp only [S9,Ag,seval,PY,Bv,PZ,Aw,Al,hg,DF,t1,SX,Dq,Ad];exact ⟨_,rfl⟩
end
open Go
theorem WB:∀ (l m:List Nat),l.Nodup->(∀ x ∈ l,x ∈ m)->l.length<=m.length
 | [],_,_,_=>Nat.zero_le _
 | x :: l,m,hn,hs=>by
  rw [zC] at hn;have hx:=hs x (List.mem_cons_self ..);have h:=WB l (m.erase x) hn.2 (fun y hy=>(List.mem_erase_of_ne (fun e:y=x=>hn.1 (by rw [<- e];exact hy))).2 (hs y (List.mem_cons_of_mem _ hy)));rw [List.length_erase_of_mem hx] at h;have:=List.length_pos_of_mem hx;rw [zw];omega
theorem TS (ops:Array Oper):∀ (k:Nat) (acc l:List Nat),acc.Nodup->(∀ x ∈ acc,x < ops.size)->l ∈ EN ops k acc->l.Nodup/\(∀ x ∈ l,x < ops.size)/\l.length=acc.length+k
 | 0,acc,l,h1,h2,h=>by
  simp only [EN,zQ] at h;subst h;exact ⟨by unfold List.Nodup at h1 |-;rw [List.pairwise_reverse];exact h1.imp (fun h=>Ne.symm h),fun x hx=>h2 x (zu.1 hx),List.length_reverse ..⟩
 | k+1,acc,l,h1,h2,h=>by
  unfold EN at h;rw [zW] at h;obtain ⟨i,hi,h⟩:=h;split at h
  · rename_i hr
    have Pe:=hr;unfold Nd at Pe;rw [zj] at Pe
    have hn:i ∉ acc:=fun hm=>by
     have:=zd.2 hm;rw [this] at Pe;cases Pe.1
    obtain ⟨g1,g2,g3⟩:=TS ops k (i :: acc) l (zC.2 ⟨hn,h1⟩) (fun x hx=>by
     rcases Aa2.1 hx with rfl | hx
     · exact y4.1 hi
     · exact h2 x hx) h
    exact ⟨g1,g2,by rw [g3,zw];omega⟩
  · cases h
theorem TU (ops:Array Oper):((Cc ops).all fun l=>(y7 ops.size).all fun j=>l.contains j)=true:=by
 rw [zi];intro l hl;obtain ⟨g1,g2,g3⟩:=TS ops ops.size [] l List.nodup_nil (fun x hx=>by cases hx) hl;rw [List.length_nil,zN] at g3;rw [zi];intro j hj;rw [zd];by_cases h:j ∈ l
 · exact h
 · exfalso
   have hjr:=y4.1 hj
   have h5:=WB (j :: l) (y7 ops.size) (zC.2 ⟨h,g1⟩) (fun x hx=>by
    rcases Aa2.1 hx with rfl | hx
    · exact hj
    · exact y4.2 (g2 x hx))
   rw [zw,List.length_range] at h5;omega
def lH (ops:Array Oper):Bool:=(y7 ops.size).all fun i=>match ops[i]? with
 | some o=>o.after.toList.all fun e=>!Region.binds .any e || decide (e.on < i)
 | none=>false
theorem WC {ops:Array Oper} (h:lH ops=true):(Cc ops).isEmpty=false:=by
 have hb:=zi.1 h
 have go:∀ (k m:Nat),m+k=ops.size->∃ l,l ∈ EN ops k (y7 m).reverse:=by
  intro k
  induction k with
  | zero=>intro m hm;exact ⟨_,zQ.2 rfl⟩
  | succ k ih=>
   intro m hm;obtain ⟨l,hl⟩:=ih (m+1) (by omega);refine ⟨l,?_⟩;unfold EN;rw [zW];refine ⟨m,y4.2 (by omega),?_⟩
   have hr:Nd ops (y7 m).reverse m=true:=by
    have h1:=hb m (y4.2 (by omega));unfold Nd;rw [zj];refine ⟨?_,?_⟩
    · rw [Bool.not_eq_true']
      cases hc:(y7 m).reverse.contains m with
      | false=>rfl
      | true=>
       have:=y4.1 (zu.1 (zd.1 hc));omega
    · cases ho:ops[m]? with
      | none=>rw [ho] at h1;cases h1
      | some o=>
       rw [ho] at h1;rw [zi] at h1 |-;intro e he;have:=h1 e he;rw [Bool.or_eq_true] at this |-;rcases this with h2 | h2
       · exact .inl h2
       · exact .inr (zd.2 (zu.2 (y4.2 (of_decide_eq_true h2))))
   rw [hr,if_pos rfl,show m :: (y7 m).reverse=(y7 (m+1)).reverse from by rw [List.range_succ,List.reverse_append];rfl];exact hl
 obtain ⟨l,hl⟩:=go ops.size 0 (zN _);unfold Cc;cases hc:EN ops ops.size [] with
 | nil=>rw [show (y7 0).reverse=([]:List Nat) from rfl,hc] at hl;cases hl
 | cons a r=>rfl
theorem ri:GY CC yW (yW.body.getD .skip)=true:=by kernel_rfl
theorem rj:Bk CC yW (yW.body.getD .skip)=false:=by kernel_rfl
theorem rl:CC.P.funcs[10]?=some yW:=by kernel_rfl
theorem WD {x:List PV} {b:List PBox} (h:x.length.ble yW.ntmps=true):Ae CC 10 x b=CB CC yW.results.toList (Hg CC (yW.body.getD .skip) ⟨x,b⟩):=Ce (fn:=yW) (c:=yW.body.getD .skip) rfl rfl rl rfl rj ri (zm h)
theorem uL:Cl CC (opsOf (Aa yW [1,1,1,1,1,1,0,1,0,0]))=false:=by kernel_rfl
theorem lI:Cl CC (opsOf (Aa yW [1,1,1,1,1,0,0]))=true:=by kernel_rfl
theorem oC:lH (opsOf (Aa yW [1,1,1,1,1,1,0,1,0,0]))=true:=by kernel_rfl
theorem fh:(opsOf (Aa yW [1,1,1,1,1,1,0,1,0,0])).size=12:=by kernel_rfl
theorem yD:Bp CC 35 []=some (.agg Cq):=by kernel_rfl
def GK (s:RS):List (Nat×Nat×PV):=[(0,52,.agg Cq),(1,53,.bp 1 0),(2,54,.bp 1 0),(3,55,.bp 1 3),(4,56,.int .i64 (s.t:Int)),(5,57,.bp 1 0),(6,58,.bp 1 0),(7,59,.bp 1 2),(8,60,.int .i64 s.c),(10,3,.int .i64 (s.t:Int)),(11,4,.int .i64 s.c)]
def TV (L:List Tk) (s:RS) (X:PBox):List PBox:=[.cells 35 Cq,Be L s 0 .nils,X]
theorem dy (s:RS):(GK s).Pairwise (fun x y=>x.1≠y.1/\x.2.1≠y.2.1):=by unfold GK;simp
theorem oD {L:List Tk} {s:RS} (X:PBox) (e:List PV) (h2:getT e 2=.bp 0 0) (h8:getT e 8=.bp 1 0) :
 ∃ e',drawAll CC (Ae CC) (opsOf (Aa yW [1,1,1,1,1,1,0,1,0,0])) ⟨e,TV L s X⟩=some (.normal,⟨e',TV L s X⟩)/\getT e' 2=.bp 0 0/\getT e' 3=.int .i64 (s.t:Int)/\getT e' 4=.int .i64 s.c:=by
 refine ⟨_,E0 (e0:=e) (L:=GK s) (bxOf:=fun _=>TV L s X) (TU _) (WC oC) (fun D j op A1 hD Dd QE=>?_) (by unfold GK;simp [AD]) (r:=⟨AD e (fun _=>true) (GK s),TV L s X⟩) (fun D hD=>?_),?_,?_,?_⟩
 · have hj:j < 12:=by
    have:=(Array.getElem?_eq_some_iff.1 A1).1;rw [fh] at this;exact this
   have De:=dy s;have z2:getT (AD e D (GK s)) 2=.bp 0 0:=by rw [ED e D 2 _ (by unfold GK;simp)];exact h2
   have z8:getT (AD e D (GK s)) 8=.bp 1 0:=by rw [ED e D 8 _ (by unfold GK;simp)];exact h8
   have hE:=yD;by_cases e0:j=0
   · subst e0
     simp only [opsOf,Aa,Ac,yW,y0,yZ,yY,yX] at A1;injection A1 with A1
     subst A1;refine ⟨rfl,fun al=>?_⟩;rw [<- AL e D 0 52 (.agg Cq) hD _ (by unfold GK;simp) De];generalize AD e D (GK s)=E at *;unfold TV Be Cq at *;rw [<- Gh];simp only [S9,Gi,seval,PY,Bv,ZC,Al,z2,z8,hE];exact ⟨_,rfl⟩
   by_cases e1:j=1
   · subst e1
     simp only [opsOf,Aa,Ac,yW,y0,yZ,yY,yX] at A1;injection A1 with A1
     subst A1;refine ⟨rfl,fun al=>?_⟩;rw [<- AL e D 1 53 (.bp 1 0) hD _ (by unfold GK;simp) De];generalize AD e D (GK s)=E at *;unfold TV Be Cq at *;rw [<- Gh];simp only [S9,Gi,seval,PY,Bv,ZC,Al,z2,z8,hE];exact ⟨_,rfl⟩
   by_cases e2:j=2
   · subst e2
     simp only [opsOf,Aa,Ac,yW,y0,yZ,yY,yX] at A1;injection A1 with A1
     subst A1;refine ⟨rfl,fun al=>?_⟩;have d1:D 1=true:=Dd ⟨1,.data⟩ (by simp) rfl;have z53:getT (AD e D (GK s)) 53=.bp 1 0:=Ba e D 1 53 _ d1 _ (by unfold GK;simp) De;rw [<- AL e D 2 54 (.bp 1 0) hD _ (by unfold GK;simp) De];generalize AD e D (GK s)=E at *;unfold TV Be Cq at *;rw [<- Gh];simp only [S9,Gi,seval,PY,Bv,ZC,Al,z2,z8,hE,z53];exact ⟨_,rfl⟩
   by_cases e3:j=3
   · subst e3
     simp only [opsOf,Aa,Ac,yW,y0,yZ,yY,yX] at A1;injection A1 with A1
     subst A1;refine ⟨rfl,fun al=>?_⟩;have d2:D 2=true:=Dd ⟨2,.data⟩ (by simp) rfl;have z54:getT (AD e D (GK s)) 54=.bp 1 0:=Ba e D 2 54 _ d2 _ (by unfold GK;simp) De;rw [<- AL e D 3 55 (.bp 1 3) hD _ (by unfold GK;simp) De];generalize AD e D (GK s)=E at *;unfold TV Be Cq at *;rw [<- Gh];simp only [S9,Gi,seval,PY,Bv,ZC,Al,z2,z8,hE,z54];exact ⟨_,rfl⟩
   by_cases e4:j=4
   · subst e4
     simp only [opsOf,Aa,Ac,yW,y0,yZ,yY,yX] at A1;injection A1 with A1
     subst A1;refine ⟨rfl,fun al=>?_⟩;have d3:D 3=true:=Dd ⟨3,.data⟩ (by simp) rfl;have z55:getT (AD e D (GK s)) 55=.bp 1 3:=Ba e D 3 55 _ d3 _ (by unfold GK;simp) De;rw [<- AL e D 4 56 (.int .i64 (s.t:Int)) hD _ (by unfold GK;simp) De];generalize AD e D (GK s)=E at *;unfold TV Be Cq at *;rw [<- Gh];simp only [S9,Gi,seval,PY,Bv,ZC,Al,z2,z8,hE,z55];exact ⟨_,rfl⟩
   by_cases e5:j=5
   · subst e5
     simp only [opsOf,Aa,Ac,yW,y0,yZ,yY,yX] at A1;injection A1 with A1
     subst A1;refine ⟨rfl,fun al=>?_⟩;rw [<- AL e D 5 57 (.bp 1 0) hD _ (by unfold GK;simp) De];generalize AD e D (GK s)=E at *;unfold TV Be Cq at *;rw [<- Gh];simp only [S9,Gi,seval,PY,Bv,ZC,Al,z2,z8,hE];exact ⟨_,rfl⟩
   by_cases e6:j=6
   · subst e6
     simp only [opsOf,Aa,Ac,yW,y0,yZ,yY,yX] at A1;injection A1 with A1
     subst A1;refine ⟨rfl,fun al=>?_⟩;have d5:D 5=true:=Dd ⟨5,.data⟩ (by simp) rfl;have z57:getT (AD e D (GK s)) 57=.bp 1 0:=Ba e D 5 57 _ d5 _ (by unfold GK;simp) De;rw [<- AL e D 6 58 (.bp 1 0) hD _ (by unfold GK;simp) De];generalize AD e D (GK s)=E at *;unfold TV Be Cq at *;rw [<- Gh];simp only [S9,Gi,seval,PY,Bv,ZC,Al,z2,z8,hE,z57];exact ⟨_,rfl⟩
   by_cases e7:j=7
   · subst e7
     simp only [opsOf,Aa,Ac,yW,y0,yZ,yY,yX] at A1;injection A1 with A1
     subst A1;refine ⟨rfl,fun al=>?_⟩;have d6:D 6=true:=Dd ⟨6,.data⟩ (by simp) rfl;have z58:getT (AD e D (GK s)) 58=.bp 1 0:=Ba e D 6 58 _ d6 _ (by unfold GK;simp) De;rw [<- AL e D 7 59 (.bp 1 2) hD _ (by unfold GK;simp) De];generalize AD e D (GK s)=E at *;unfold TV Be Cq at *;rw [<- Gh];simp only [S9,Gi,seval,PY,Bv,ZC,Al,z2,z8,hE,z58];exact ⟨_,rfl⟩
   by_cases e8:j=8
   · subst e8
     simp only [opsOf,Aa,Ac,yW,y0,yZ,yY,yX] at A1;injection A1 with A1
     subst A1;refine ⟨rfl,fun al=>?_⟩;have d7:D 7=true:=Dd ⟨7,.data⟩ (by simp) rfl;have z59:getT (AD e D (GK s)) 59=.bp 1 2:=Ba e D 7 59 _ d7 _ (by unfold GK;simp) De;rw [<- AL e D 8 60 (.int .i64 s.c) hD _ (by unfold GK;simp) De];generalize AD e D (GK s)=E at *;unfold TV Be Cq at *;rw [<- Gh];simp only [S9,Gi,seval,PY,Bv,ZC,Al,z2,z8,hE,z59];exact ⟨_,rfl⟩
   by_cases e9:j=9
   · subst e9
     simp only [opsOf,Aa,Ac,yW,y0,yZ,yY,yX] at A1;injection A1 with A1
     subst A1;refine ⟨rfl,fun al=>?_⟩;have d0:D 0=true:=Dd ⟨0,.data⟩ (by simp) rfl;have z52:getT (AD e D (GK s)) 52=.agg Cq:=Ba e D 0 52 _ d0 _ (by unfold GK;simp) De;rw [GD e D 9 _ (by unfold GK;simp)];generalize AD e D (GK s)=E at *;unfold TV Be Cq at *;rw [<- Gh];simp only [S9,Gi,seval,PY,Bv,ZC,Al,z2,z8,hE,z52];exact ⟨_,rfl⟩
   by_cases e10:j=10
   · subst e10
     simp only [opsOf,Aa,Ac,yW,y0,yZ,yY,yX] at A1;injection A1 with A1
     subst A1;refine ⟨rfl,fun al=>?_⟩;have d4:D 4=true:=Dd ⟨4,.data⟩ (by simp) rfl;have z56:getT (AD e D (GK s)) 56=.int .i64 (s.t:Int):=Ba e D 4 56 _ d4 _ (by unfold GK;simp) De;rw [<- AL e D 10 3 (.int .i64 (s.t:Int)) hD _ (by unfold GK;simp) De];generalize AD e D (GK s)=E at *;unfold TV Be Cq at *;rw [<- Gh];simp only [S9,Gi,seval,PY,Bv,ZC,Al,z2,z8,hE,z56];exact ⟨_,rfl⟩
   by_cases e11:j=11
   · subst e11
     simp only [opsOf,Aa,Ac,yW,y0,yZ,yY,yX] at A1;injection A1 with A1
     subst A1;refine ⟨rfl,fun al=>?_⟩;have d8:D 8=true:=Dd ⟨8,.data⟩ (by simp) rfl;have z60:getT (AD e D (GK s)) 60=.int .i64 s.c:=Ba e D 8 60 _ d8 _ (by unfold GK;simp) De;rw [<- AL e D 11 4 (.int .i64 s.c) hD _ (by unfold GK;simp) De];generalize AD e D (GK s)=E at *;unfold TV Be Cq at *;rw [<- Gh];simp only [S9,Gi,seval,PY,Bv,ZC,Al,z2,z8,hE,z60];exact ⟨_,rfl⟩
   omega
 · have JE:=fh
   have hd:∀ j,j < 12->D j=true:=fun j hj=>hD j (by rw [JE];exact hj);unfold GK;simp only [AD,hd 0 (by decide),hd 1 (by decide),hd 2 (by decide),hd 3 (by decide),hd 4 (by decide),hd 5 (by decide),hd 6 (by decide),hd 7 (by decide),hd 8 (by decide),hd 10 (by decide),hd 11 (by decide),if_true]
 · rw [ED e _ 2 _ (by unfold GK;simp)];exact h2
 · exact Ba e _ 10 3 _ rfl _ (by unfold GK;simp) (dy s)
 · exact Ba e _ 11 4 _ rfl _ (by unfold GK;simp) (dy s)
theorem yM (l:List PV):Bp CC 69 [(0,.sl l)]=some (.agg [.sl l,.int .i64 0,.int .i64 0,.int .i64 0,.int .i64 0,.nils]):=by kernel_rfl
theorem O4 (s:List UInt8) (hs:s.length<=40000) (h0:(Bd s).2.2≠0):∃ bx,Ae CC 10 [.str s] []=some (.ret (.tup [.agg (A7 zT),.int .i64 ((Bd s).2.1:Nat),.int .i64 (Bd s).2.2]),bx):=by
 have ht:=GP s hs;have hn:((Bd s).2.2 != 0)=true:=bne_iff_ne.2 h0;have hE:=yD;generalize Bd s=T at *;rw [WD rfl];unfold Cq at hE;rw [show zT=.mk 0 0 0 [] (0,0,[]) (0,[],[]) [] from rfl,CM,Bi];rw [<- B5];rw [<- Cu] at ht;simp only [opsOf,Aa,Ac,yW,y0];simp only [S9,AT,seval,PY,Bv,ZC,Al,ht,hn,hE];exact ⟨_,rfl⟩
theorem xz (L:List Tk) (s:RS) (ys:List PBox) (h:∀ n,ys.all (·.under n)=true):C5 (.cells 35 Cq :: Be L s 0 .nils :: ys):=by
 unfold C5;rw [zn,zn,h,Cb L s 0 rfl,show ∀ n,(PBox.cells 35 Cq).under n=true from fun n=>by simp [Cq,PBox.under,Au,PV.under]];rfl
theorem fi {L:List Tk} {f:FuncId} {xs:List PV} {v:PV} {s s2:RS} (h:CF f xs 1 L 0 0 .nils s v s2) (ys:List PBox) (hy:∀ n,ys.all (·.under n)=true):Ak CC (Ae CC) f (.bp 1 0 :: xs) (.cells 35 Cq :: Be L s 0 .nils :: ys)=some (.ret v,.cells 35 Cq :: Be L s2 0 .nils :: ys):=h _ ⟨xz L s ys hy,rfl⟩
def uM (a:Tr) (s:RS):List PV:=if s.c=0 then A7 a else Cq
def uN (s:RS):Int:=if s.c=0 then 0 else (s.t:Int)
theorem yN (T:Code) (hL:T=Aa yW [1,1,1,1,1,1]) {L:List Tk} (a:Tr) (s:RS) (e:List PV) (h2:getT e 2=.bp 0 0) (h8:getT e 8=.bp 1 0) (h9:getT e 9=.bp 2 0) :
 ∃ e' r,Hg CC T ⟨e,TV L s (.cells 35 (A7 a))⟩=some (.ret,⟨e',.cells 35 (uM a s) :: r⟩)/\getT e' 2=.bp 0 0/\getT e' 3=.int .i64 (uN s)/\getT e' 4=.int .i64 s.c:=by
 have hd:=fun e h2 h8=>oD (L:=L) (s:=s) (.cells 35 (A7 a)) e h2 h8;simp only [<- AP uL] at hd;obtain ⟨k,n1,m1,sn,v,q,kids⟩:=a;have hk:∀ n,Au n (BS kids)=true:=fun z=>AE z _ (By kids);rw [hL];unfold uM uN;by_cases c0:s.c=0
 · have K5:(s.c != 0)=false:=by rw [c0];rfl
   rw [if_pos c0,if_pos c0];simp only [CM];unfold TV Be Cq;rw [<- B5];simp only [opsOf,Aa,Ac,yW,y0] at |-;simp only [S9,AT,seval,PY,Bv,ZC,Al,h2,h8,h9,K5,hk];exact ⟨_,_,rfl,by simp only [S7,AT,seval,h2],by simp only [S7,AT,seval],by simp only [S7,AT,seval,c0]⟩
 · have K5:(s.c != 0)=true:=bne_iff_ne.2 c0
   rw [if_neg c0,if_neg c0];simp only [CM] at hd |-;unfold TV Be at hd |-;rw [<- B5];rw [<- Fm] at hd;simp only [opsOf,Aa,Ac,yW,y0] at|-hd;simp only [S9,AT,seval,PY,Bv,ZC,Al,h2,h8,h9,K5];generalize hE:Zk _ _=z
   have hP:∃ e',z=some (.normal,⟨e',[.cells 35 Cq,.cells 69 [.sl (A2 L),.int .i64 (s.i:Int),.int .i64 s.c,.int .i64 (s.t:Int),.int .i64 ((0:Nat):Int),.nils],.cells 35 [.int .i64 k,.int .i64 n1,.int .i64 m1,.str sn,.int .i64 v.1,.int .i64 v.2.1,.str v.2.2,.int .i64 q.1,.str q.2.1,.str q.2.2,.sl (BS kids)]]⟩)/\getT e' 2=.bp 0 0/\getT e' 3=.int .i64 (s.t:Int)/\getT e' 4=.int .i64 s.c:=by
    rw [<- hE];refine hd _ ?_ ?_
    all_goals simp only [S7,AT,seval,h2,h8]
   obtain ⟨e',he,g2,g3,g4⟩:=hP;subst he;clear hE hd;simp only [S9,AT,seval,PY,Bv,ZC,Al,SX];exact ⟨_,_,rfl,g2,g3,g4⟩
def uO (d:Tr×RS):PV:=.tup [.agg (A7 (if d.2.c=0 then d.1 else zT)),.int .i64 (uN d.2),.int .i64 d.2.c]
theorem rm (e:List PV) (a:Tr) (s:RS) (r:List PBox) (h2:getT e 2=.bp 0 0) (h3:getT e 3=.int .i64 (uN s)) (h4:getT e 4=.int .i64 s.c):CB CC yW.results.toList (some (.ret,⟨e,.cells 35 (uM a s) :: r⟩))=some (.ret (uO (a,s)),.cells 35 (uM a s) :: r):=by
 unfold uO uM;by_cases c0:s.c=0
 · simp only [c0,if_true]
   rw [c0] at h4;obtain ⟨k,n1,m1,sn,v,q,kids⟩:=a;simp only [CM];simp only [yW];simp only [S9,AT,seval,PY,Bv,ZC,Al,h2,h3,h4]
 · simp only [c0,if_false]
   rw [show zT=.mk 0 0 0 [] (0,0,[]) (0,[],[]) [] from rfl,CM,Bi];unfold Cq;simp only [yW];simp only [S9,AT,seval,PY,Bv,ZC,Al,h2,h3,h4]
theorem VL (s:List UInt8) (hs:s.length<=40000) (h0:(Bd s).2.2=0) (hT:TokOK (Bd s).1) (n:Nat) (hn:12 * (Bd s).1.length+10<=n) (RR:n<=1000000) {d:Tr×RS} (hd:CS (Bd s).1 n 0 ⟨0,0,0⟩=some d):∃ bx,Ae CC 10 [.str s] []=some (.ret (uO (d.1,if d.2.c=0/\(tokAt (Bd s).1 d.2.i).1≠0 then B9 (Bd s).1 d.2 12 else d.2)),bx):=by
 have ht:=GP s hs;have hi:inv (Bd s).1 d.2:=HL hT (fun _=>hT.pos) hd;have hw:=aK (id:=1) (Nm:=.nils) rfl hT (n:=n) (o:=0) (t:=0) hT.pos (by omega) (by omega);rw [hd,AB] at hw;have hP:=yM;rw [h0] at ht;generalize (Bd s).1=L at *;generalize (Bd s).2.1=at0 at *;clear hs h0 hd hn RR;have t1:=fi hw [] (fun _=>rfl);have t2:=fi (D8 (id:=1) (o:=0) (Nm:=.nils) rfl hi 12) [.cells 35 (A7 d.1)] (fun n=>by simp only [zn,List.all_nil,PBox.under,AE n _ (Fx d.1),Aa3]);clear hw;have tl:=fun s2 e=>yN _ rfl (L:=L) d.1 s2 e;obtain ⟨a,r⟩:=d;simp only at hi t1 t2 tl |-;rw [WD rfl];obtain ⟨T6,p7⟩:∃ T6,T6=Aa yW [1,1,1,1,1,1]:=⟨_,rfl⟩;have CY:yW.body.getD .skip=.seq (Aa yW [0]) (.seq (Aa yW [1,0]) (.seq (Aa yW [1,1,0]) (.seq (Aa yW [1,1,1,0]) (.seq (Aa yW [1,1,1,1,0]) (.seq (Aa yW [1,1,1,1,1,0]) T6))))):=by rw [p7];rfl
 rw [<- p7] at tl;rw [CY]
 have key:∀ (s2:RS),(∃ e,Hg CC (.seq (Aa yW [0]) (.seq (Aa yW [1,0]) (.seq (Aa yW [1,1,0]) (.seq (Aa yW [1,1,1,0]) (.seq (Aa yW [1,1,1,1,0]) (.seq (Aa yW [1,1,1,1,1,0]) T6)))))) ⟨[.str s],[]⟩=Hg CC T6 ⟨e,TV L s2 (.cells 35 (A7 a))⟩/\getT e 2=.bp 0 0/\getT e 8=.bp 1 0/\getT e 9=.bp 2 0)->∃ bx,CB CC yW.results.toList (Hg CC (.seq (Aa yW [0]) (.seq (Aa yW [1,0]) (.seq (Aa yW [1,1,0]) (.seq (Aa yW [1,1,1,0]) (.seq (Aa yW [1,1,1,1,0]) (.seq (Aa yW [1,1,1,1,1,0]) T6)))))) ⟨[.str s],[]⟩)=some (.ret (uO (a,s2)),bx):=fun s2 ⟨e,he,k2,k8,k9⟩=>by
  obtain ⟨e',r',hh,g2,g3,g4⟩:=tl s2 e k2 k8 k9;rw [he,hh];exact ⟨_,rm e' a s2 r' g2 g3 g4⟩
 refine key _ ?_;clear key tl;have rP:∃ k n1 m1 sn v q kids,a=.mk k n1 m1 sn v q kids:=by obtain ⟨k,n1,m1,sn,v,q,kids⟩:=a;exact ⟨_,_,_,_,_,_,_,rfl⟩
 obtain ⟨k,n1,m1,sn,v,q,kids,rfl⟩:=rP;have hk:∀ n,Au n (BS kids)=true:=fun z=>AE z _ (By kids);simp only [CM] at t1 t2 |-;have VU:((0:Nat):Int)=0:=rfl;by_cases c0:r.c=0
 · have hg:=Fg (hi c0)
   unfold ID at hg;have Dq:(r.c == 0)=true:=beq_iff_eq.2 c0;have DF:¬ ((r.i:Int) < 0):=by omega
   have Ft:=JX (tokAt L r.i).1 0;by_cases Yv:(tokAt L r.i).1=0
   · rw [if_neg (fun h=>h.2 Yv)]
     rw [beq_iff_eq.2 Yv] at Ft;have Ft:(((tokAt L r.i).1:Int) != 0)=false:=Ft;unfold TV Be Cq at *;simp only [VU] at t1 t2 |-;have HN:=fun st=>Ep (call:=Ae CC) (st:=st) lI;rw [<- B5];rw [<- Cu] at ht t1 t2;rw [<- Fm,<- Ih] at HN;simp only [opsOf,Aa,Ac,yW,y0] at HN |-;simp only [S9,AT,seval,PY,Bv,ZC,Al,HN,ht,hP,t1,hk,hg,DF,Dq,Ft];exact ⟨_,rfl,by first | rfl | simp only [S7,AT,seval],by first | rfl | simp only [S7,AT,seval],by first | rfl | simp only [S7,AT,seval]⟩
   · rw [if_pos ⟨c0,Yv⟩]
     rw [beq_eq_false_iff_ne.2 Yv] at Ft;have Ft:(((tokAt L r.i).1:Int) != 0)=true:=Ft;generalize B9 L r 12=r2 at *;unfold TV Be Cq at *;simp only [VU] at t1 t2 |-;have HN:=fun st=>Ep (call:=Ae CC) (st:=st) lI;rw [<- B5];rw [<- Cu] at ht t1 t2;rw [<- Fm,<- Ih] at HN;simp only [opsOf,Aa,Ac,yW,y0] at HN |-;simp only [S9,AT,seval,PY,Bv,ZC,Al,HN,ht,hP,t1,t2,hk,hg,DF,Dq,Ft];exact ⟨_,rfl,by first | rfl | simp only [S7,AT,seval],by first | rfl | simp only [S7,AT,seval],by first | rfl | simp only [S7,AT,seval]⟩
 · have Dq:(r.c == 0)=false:=beq_eq_false_iff_ne.2 c0
   rw [if_neg (fun h=>c0 h.1)];unfold TV Be Cq at *;simp only [VU] at t1 t2 |-;have HN:=fun st=>Ep (call:=Ae CC) (st:=st) lI;rw [<- B5];rw [<- Cu] at ht t1 t2;rw [<- Fm,<- Ih] at HN;simp only [opsOf,Aa,Ac,yW,y0] at HN |-;simp only [S9,AT,seval,PY,Bv,ZC,Al,HN,ht,hP,t1,hk,Dq];exact ⟨_,rfl,by first | rfl | simp only [S7,AT,seval],by first | rfl | simp only [S7,AT,seval],by first | rfl | simp only [S7,AT,seval]⟩
theorem O5:Bk CC zt (zt.body.getD .skip)=true:=by kernel_rfl
theorem NV:CC.P.funcs[4]?=some zt:=by kernel_rfl
theorem yO (s:List UInt8) (hs:s.length<=3900) (bx:List PBox):Ak CC (Ae CC) 9 [.str s] bx=some (.ret (.tup [.agg (A7 (EF s).1),.int .i64 ((EF s).2.1:Int),.int .i64 (EF s).2.2]),bx):=by
 rw [<- An];exact GR s hs bx
theorem O6:Fi zT:=by unfold zT;exact II (by simp) (by simp [zV]) (by simp [zK]) (by simp [zK])
theorem rn {s:List UInt8} (hs:s.length<=3900):Fi (EF s).1:=by
 unfold EF;by_cases h0:(Bd s).2.2=0
 · rw [if_pos h0]
   have hT:=GJ s hs h0;unfold Db;cases hr:pz (Bd s).1 (Ww (Bd s).1) .expr 0 0 with
   | out=>exact O6
   | bad t c=>exact O6
   | ok a i=>
    simp only [PR.bind];split
    · rename_i a' i' h
      have:a'=a:=by
       split at h
       · rename_i a2 i2 h2
         split at h2
         · split at h
           · injection h with h _
             injection h2 with h2 _
             rw [<- h,<- h2]
           · cases h
           · cases h
         · cases h2
       · cases h
       · cases h
      rw [this];exact Z3 hT _ .expr _ _ a _ trivial hr
    · exact O6
    · exact O6
 · rw [if_neg h0]
   exact O6
theorem yP (t:Tr) (h:Fi t) (bx):Ak CC (Ae CC) 11 [.agg (A7 t),.agg (A7 t)] bx=some (.ret (.bool true),bx):=by rw [<- An];exact Ge t h bx
theorem rq (s:List UInt8) (hs:s.length<=3900) (bx):Ak CC (Ae CC) 10 [.str s] bx=some (.ret (.tup [.agg (A7 (EF s).1),.int .i64 ((EF s).2.1:Int),.int .i64 (EF s).2.2]),bx):=by
 have vE:∀ (t:Tr) (a b:Int),(PV.tup [.agg (A7 t),.int .i64 a,.int .i64 b]).pure=true:=fun t a b=>by simp only [PV.pure,Aq,Fx,Aa3]
 have h:∃ bx',Ae CC 10 [.str s] []=some (.ret (.tup [.agg (A7 (EF s).1),.int .i64 ((EF s).2.1:Int),.int .i64 (EF s).2.2]),bx'):=by
  unfold EF;by_cases h0:(Bd s).2.2=0
  · rw [if_pos h0]
    have hT:=GJ s hs h0;have hf:Ww (Bd s).1=12 * (Bd s).1.length+10:=rfl;have hlen:=hT.len;have w0:=X7 hT (n:=Ww (Bd s).1) (t:=0) hT.pos (by omega);have BD:=fun d hd=>VL s (by omega) h0 hT (Ww (Bd s).1) (by omega) (by omega) (d:=d) hd;cases hr:Db (Bd s).1 (Ww (Bd s).1) 0 with
    | out=>exact absurd hr (H' hT hT.pos)
    | bad t c=>
     rw [hr] at w0;obtain ⟨⟨a,i2,h⟩,he⟩:=w0;obtain ⟨b0,hc⟩:=BD _ h;rw [if_neg (fun x=>he x.1)] at hc;unfold uO uN at hc;simp only [if_neg he] at hc;exact ⟨b0,hc⟩
    | ok a i=>
     rw [hr] at w0;have h:CS (Bd s).1 (Ww (Bd s).1) 0 ⟨0,0,0⟩=some (a,⟨i,0,0⟩):=w0;obtain ⟨b0,hc⟩:=BD _ h;rw [AA];unfold IY;by_cases hk:(tokAt (Bd s).1 i).1=0
     · rw [if_neg (fun x=>x.2 hk)] at hc
       rw [if_pos hk];exact ⟨b0,hc⟩
     · rw [if_pos ⟨rfl,hk⟩] at hc
       rw [if_neg hk];exact ⟨b0,hc⟩
  · rw [if_neg h0]
    exact O4 s (by omega) h0
 obtain ⟨b0,h⟩:=h;exact Ax rfl (by simp only [SA,Bool.and_true]) h (vE _ _ _)
theorem TW (s:List UInt8) (_:s.length<=maxLen):∃ bx,Ae CC 4 [.str s] []=some (.ret (.bool true),bx):=by
 have pe:=ax;rw [Ah (fn:=zt) (c:=zt.body.getD .skip) rfl rfl NV rfl O5 (zm rfl)];have hlen:=AX s;by_cases c1:3000 < s.length
 · have c1':(s.length:Int) > 3000:=by omega
   rw [<- Am];rw [<- AK] at pe;simp only [Aa,Ac,zt,y0];simp only [S9,Ag,seval,ZC,C8,zO,zP,hlen,c1',pe];exact ⟨_,rfl⟩
 · have c1':¬ (s.length:Int) > 3000:=by omega
   have x1:=yO s (by omega);have x2:=rq s (by omega);have sm:=yP _ (rn (s:=s) (by omega));generalize (EF s).1=a at *;generalize (EF s).2.1=n at *;generalize (EF s).2.2=er at *;obtain ⟨k,n1,m1,sn,v,q,kids⟩:=a;have hk:∀ n,Au n (BS kids)=true:=fun z=>AE z _ (By kids);simp only [CM] at x1 x2 sm;rw [<- Am];rw [<- AK] at pe x1 x2 sm;simp only [Aa,Ac,zt,y0];simp only [S9,Ag,seval,ZC,C8,zO,zP,SX,hlen,c1',pe,x1,x2,sm,hk,PV.pure,Aq];exact ⟨_,rfl⟩
end Go.HH
namespace Go.Proofs
open Go.Shelf
def Tryz.lays169_ren:Go.Shelf.Ren:=⟨fun | 169=>132 | n=>n,fun | 70=>133 | 9=>9 | 0=>0 | 72=>135 | 37=>125 | 127=>144 | 3=>3 | 5=>5 | n=>n,fun | n=>n⟩
theorem Tryz.lays169:Go.Proofs.Lays.n169 y2 Tryz.lays169_ren:={
 mixed:=by kernel_rfl
 f169:=Aa8.trans (congrArg some (by kernel_rfl))
 t0:=Tryz.underlying0
 a0:=Tryz.isAgg0
 z0:=Tryz.sizeOf0
 v0:=Tryz.zeroValue0
 t3:=zU
 a3:=Aac
 z3:=Aa7
 v3:=z6
 t9:=y5
 a9:=zx
 z9:=zr
 v9:=zl
 t37:=Tryz.underlying125
 a37:=Tryz.isAgg125
 z37:=Tryz.sizeOf125
 v37:=Tryz.zeroValue125
 t70:=y1
 a70:=zL
 z70:=zG
 v70:=zq
 t72:=y6
 a72:=zJ
 z72:=zE
 v72:=zo
 t127:=Tryz.underlying144
 a127:=Tryz.isAgg144
 z127:=Tryz.sizeOf144
 v127:=Tryz.zeroValue144 }
theorem Tryz.Builder_Extra_169:Builder.Extra y2 Tryz.lays169_ren:={
 sizeBuilder:=by kernel_rfl
 liesBuilder:=by kernel_rfl
 t5:=zS
 a5:=Aaa
 z5:=Aa5
 v5:=zY
 infoByte:=by kernel_rfl
 cellsByte:=by kernel_rfl
 sizeByte:=by kernel_rfl
 neB5:=by decide }
def Tryz.lays137_ren:Go.Shelf.Ren:=⟨fun | 137=>116 | 217=>126 | 266=>133 | n=>n,fun | 9=>9 | 5=>5 | 3=>3 | n=>n,fun | n=>n⟩
theorem Tryz.lays137:Go.Proofs.Lays.n137 y2 Tryz.lays137_ren:={
 mixed:=by kernel_rfl
 f137:=Aa9.trans (congrArg some (by kernel_rfl))
 f217:=Tryz.func126.trans (congrArg some (by kernel_rfl))
 f266:=Tryz.func133.trans (congrArg some (by kernel_rfl))
 t3:=zU
 a3:=Aac
 z3:=Aa7
 v3:=z6
 t5:=zS
 a5:=Aaa
 z5:=Aa5
 v5:=zY
 t9:=y5
 a9:=zx
 z9:=zr
 v9:=zl }
open Go.RowKit in
theorem Tryz.strings_IndexByte (s:ByteArray) (c:Int) (w:World) :
 Calls y2 116 #[.string s,.int .u8 c] w fun e w'=>e=.returned (.int .i64 (Lib.indexByte s.data.toList c.toNat.toUInt8))/\w'=w:=Any.strings_IndexByte Tryz.lays137 s c w
end Go.Proofs
namespace Go.HH
open Go Go.Proofs Go.RowKit
set_option maxRecDepth 100000
def lJ (f:FuncId) (g:List PV->Option PV):Prop:=F4 CC.P f/\∀ (args:List PV) (r:PV),g args=some r->(∀ t xs,r≠.osl t xs) /\
 ∀ (S:AY) (vs:List Value) (w:World),(∀ b o v,S b o=some v->w.cell? ⟨b,o,none⟩=some v) ->
  (∀ g cs,CC.glob g=some cs->Rep S [] (.ip cs) (.pointer (some ⟨g,0,none⟩)))->(∀ g cs,CC.glob g=some cs->∃ c e f,w.heap[g]?=some (.cells c e f)/\c.size=cs.length)->CD S [] args vs ->
  Calls CC.P f vs.toArray w fun e w'=>∃ S',Kept S w S' w'/\∃ v,e=.returned v/\Rep S' [] r v
theorem ik {S:AY} {w:World} (hS:∀ b o v,S b o=some v->w.cell? ⟨b,o,none⟩=some v):Kept S w S w:=⟨rfl,rfl,rfl,zB _,fun _ _=>rfl,AY.le.refl _,fun _ _ _=>rfl,hS⟩
theorem lK {S:AY} {p q:PV} {vs:List Value} (h:CD S [] [p,q] vs):∃ v u,vs=[v,u]/\Rep S [] p v/\Rep S [] q u:=by
 match vs,h with
 | [v,u],h=>exact ⟨v,u,rfl,h.2 0 (by simp) (by simp),h.2 1 (by simp) (by simp)⟩
 | [],h=>have:=h.1;cases this
 | [_],h=>have:=h.1;simp at this
 | _ :: _ :: _ :: _,h=>have:=h.1;simp at this
theorem lL {args:List PV} {r:PV} (h:gl args=some r):∃ s c,args=[.str s,.int .u8 c]/\r=.int .i64 (Lib.indexByte s c.toNat.toUInt8):=by
 unfold gl at h;split at h
 · injection h with h
   exact ⟨_,_,rfl,h.symm⟩
 · cases h
theorem TX:lJ 116 gl:=by
 refine ⟨⟨Tryz.f116,_,Aa9,by kernel_rfl,rfl⟩,fun args r hr=>?_⟩;obtain ⟨s,c,rfl,rfl⟩:=lL hr;refine ⟨fun t xs h=>(by cases h),fun S vs w hS fx hgw Ez=>?_⟩;obtain ⟨v,u,rfl,h0,h1⟩:=lK Ez;cases h0 with
 | str=>
  cases h1 with
  | int=>
   refine (Tryz.strings_IndexByte ⟨s.toArray⟩ c w).mono ?_
   rintro e w' ⟨rfl,rfl⟩
   exact ⟨S,ik hS,_,rfl,.int _ _⟩
theorem WE:HE CC:=by
 intro f g hg;show lJ f g;have Fs:cu f=some g:=hg;unfold cu at Fs;split at Fs
 · rename_i h
   subst h;injection Fs with Fs
   subst Fs;exact TX
 cases Fs
open Go Go.Proofs Go.Shelf Go.RowKit Go.Lib
variable {P:Program} {ρ:Ren}
set_option maxHeartbeats 2000000 in
set_option maxRecDepth 100000 in
theorem lM (L:Lays.n169 P ρ) (X:Builder.Extra P ρ) (b g cap:Nat) (p:Value) (cur:Array Value) (fr:Nat×Nat) (l:List UInt8) (w:World) (h0:l≠[]) (v8:l.length<=cap) (rO:cap<=maxLen) (Jc:cur.size=cap)
 (vI:w.heap[b]?=some (.cells #[p,.slice (some ⟨g,0,none⟩) l.length cap] (ρ.t 72) (0,0))) (hg:w.heap[g]?=some (.cells cur (ρ.t 5) fr))
 (Ip:∀ j x,l[j]?=some x->w.cell? ⟨g,j,none⟩=some (.int .u8 x.toNat)) :
 Calls P (ρ.f 169) #[.pointer (some ⟨b,0,none⟩)] w fun e w'=>e=.returned (.string ⟨l.toArray⟩)/\w'=w.drew.freeze ⟨g,0,none⟩ l.length:=by
 have Ub:l.length≠0:=by simpa using h0
 have c1:w.drew.cell? ⟨b,1,none⟩=some (.slice (some ⟨g,0,none⟩) l.length cap):=by
  have:w.drew.heap[b]?=some (.cells #[p,.slice (some ⟨g,0,none⟩) l.length cap] (ρ.t 72) (0,0)):=vI;rw [Lib.cell_of_heap this];rfl
 have hSD:(zD #[(ρ.t 37)] (ρ.t 127) #[.slice (some ⟨g,0,none⟩) l.length cap]).run P w.drew=.ok (.pointer (some ⟨g,0,none⟩)) w.drew:=
  Lib.run_unsafeSliceData_row _ _ _ _ _ _ (by omega)
 have hUS:(Builtin.unsafeString_ #[(ρ.t 127),(ρ.t 3)] (ρ.t 9) #[.pointer (some ⟨g,0,none⟩),.int .i64 l.length]).run P w.drew=.ok (.string ⟨l.toArray⟩) (w.drew.freeze ⟨g,0,none⟩ l.length):=by
  refine Lib.run_unsafeString_row w.drew (ρ.t 127) (ρ.t 3) (ρ.t 9) (ρ.t 5) L.t127 X.cellsByte g cur.size (by have Fs:w.drew.heap[g]?=some (.cells cur (ρ.t 5) fr):=hg;simp [z',Fs]) l h0 (by omega) (by unfold maxLen at rO;omega) ?_;intro j x hx;have:=Ip j x hx;rw [show (⟨g,0,none⟩:Addr).add j=⟨g,j,none⟩ from by unfold Addr.add;split <;> simp_all];exact this
 have mixed:=L.mixed;have t72:=L.t72;have a72:=L.a72;have z72:=L.z72;have v72:=L.v72;have u72:=run_underlying L.t72;have t70:=L.t70;have a70:=L.a70;have z70:=L.z70;have v70:=L.v70;have u70:=run_underlying L.t70;have t37:=L.t37;have a37:=L.a37;have z37:=L.z37;have v37:=L.v37;have u37:=run_underlying L.t37;have t127:=L.t127;have a127:=L.a127;have z127:=L.z127;have v127:=L.v127;have u127:=run_underlying L.t127;have t3:=L.t3;have a3:=L.a3;have z3:=L.z3;have v3:=L.v3;have u3:=run_underlying L.t3;have t9:=L.t9;have a9:=L.a9;have z9:=L.z9;have v9:=L.v9;have u9:=run_underlying L.t9;have t5:=X.t5;have a5:=X.a5;have z5:=X.z5;have v5:=X.v5;have u5:=run_underlying X.t5
 go_enter L.f169,Body.n169_ntmps ρ
 go_wp2
 go_region_o
 all_goals (go_wp2;go_ret;exact ⟨rfl,rfl⟩)
set_option maxHeartbeats 2000000 in
set_option maxRecDepth 100000 in
theorem lN (L:Lays.n169 P ρ) (X:Builder.Extra P ρ) (b:Nat) (p:Value) (w:World) (vI:w.heap[b]?=some (.cells #[p,.slice none 0 0] (ρ.t 72) (0,0))) :
 Calls P (ρ.f 169) #[.pointer (some ⟨b,0,none⟩)] w fun e w'=>e=.returned (.string ⟨#[]⟩)/\w'=w.drew:=by
 have hUS:=Any.unsafeString_none L X
 have c1:w.drew.cell? ⟨b,1,none⟩=some (.slice none 0 0):=by
  have:w.drew.heap[b]?=some (.cells #[p,.slice none 0 0] (ρ.t 72) (0,0)):=vI;rw [Lib.cell_of_heap this];rfl
 have hSD:(zD #[(ρ.t 37)] (ρ.t 127) #[.slice none 0 0]).run P w.drew=.ok (.pointer none) w.drew:=rfl;have mixed:=L.mixed;have t72:=L.t72;have a72:=L.a72;have z72:=L.z72;have v72:=L.v72;have u72:=run_underlying L.t72;have t70:=L.t70;have a70:=L.a70;have z70:=L.z70;have v70:=L.v70;have u70:=run_underlying L.t70;have t37:=L.t37;have a37:=L.a37;have z37:=L.z37;have v37:=L.v37;have u37:=run_underlying L.t37;have t127:=L.t127;have a127:=L.a127;have z127:=L.z127;have v127:=L.v127;have u127:=run_underlying L.t127;have t3:=L.t3;have a3:=L.a3;have z3:=L.z3;have v3:=L.v3;have u3:=run_underlying L.t3;have t9:=L.t9;have a9:=L.a9;have z9:=L.z9;have v9:=L.v9;have u9:=run_underlying L.t9;have t5:=X.t5;have a5:=X.a5;have z5:=X.z5;have v5:=X.v5;have u5:=run_underlying X.t5
 go_enter L.f169,Body.n169_ntmps ρ
 go_wp2
 go_region_o
 all_goals (go_wp2;go_ret;exact ⟨rfl,rfl⟩)
theorem fj:(y2.info? 135).map (·.size)=some 2:=by kernel_rfl
theorem oE:liesAt y2 y2.depth 135 (2 / y2.cellsOf 135) 0 135 1=true:=by kernel_rfl
set_option maxHeartbeats 2000000 in
set_option maxRecDepth 100000 in
theorem oF (b:Nat) (w:World) (h0:w.cell? ⟨b,0,none⟩=some (.pointer (some ⟨b,0,none⟩))) :
 Calls y2 139 #[.pointer (some ⟨b,0,none⟩)] w fun e w'=>e=.returned (.tuple #[])/\w'=w:=by
 obtain ⟨j,hj,_⟩:=y8.1 fj;have mixed:y2.follows .mixedOrders=true:=by kernel_rfl
 have t0:=y6;have a0:=zJ;have z0:=zE;have v0:=zo;have u0:=run_underlying y6;have t1:=y1;have a1:=zL;have z1:=zG;have v1:=zq;have u1:=run_underlying y1;have t2:=y5;have a2:=zx;have z2:=zr;have v2:=zl;have u2:=run_underlying y5;have t3:=zg;have a3:=Aab;have z3:=Aa6;have v3:=zZ;have u3:=run_underlying zg;have t4:=y3;have a4:=Aa1;have z4:=z7;have v4:=zR;have u4:=run_underlying y3
 go_enter zM,Aa0
 go_wp2
 rw [Lib.run_neq_ptr_same w _ y1 hj]
 go_wp2
 go_end0
 exact ⟨rfl,rfl⟩
set_option maxHeartbeats 2000000 in
set_option maxRecDepth 100000 in
theorem lO (b:Nat) (w:World) (h0:w.cell? ⟨b,0,none⟩=some (.pointer none)) (iX:w.shape? b=some (135,2)) (iD:w.frozen? ⟨b,0,none⟩=false) :
 Calls y2 139 #[.pointer (some ⟨b,0,none⟩)] w fun e w'=>e=.returned (.tuple #[])/\w'=w.setCell ⟨b,0,none⟩ (.pointer (some ⟨b,0,none⟩)):=by
 obtain ⟨j,hj,hjs⟩:=y8.1 fj;have mixed:y2.follows .mixedOrders=true:=by kernel_rfl
 have t0:=y6;have a0:=zJ;have z0:=zE;have v0:=zo;have u0:=run_underlying y6;have t1:=y1;have a1:=zL;have z1:=zG;have v1:=zq;have u1:=run_underlying y1;have t2:=y5;have a2:=zx;have z2:=zr;have v2:=zl;have u2:=run_underlying y5;have t3:=zg;have a3:=Aab;have z3:=Aa6;have v3:=zZ;have u3:=run_underlying zg;have t4:=y3;have a4:=Aa1;have z4:=z7;have v4:=zR;have u4:=run_underlying y3
 go_enter zM,Aa0
 go_wp2
 rw [Lib.run_to_unsafe w ⟨b,0,none⟩ y1 y3 hj (by rw [hjs];decide) iX (Nat.zero_lt_succ 1)];simp only [zy];rw [zA]
 go_wp2
 rw [run_callFunc_extern Tryz.func143 (by kernel_rfl) (by kernel_rfl) (by kernel_rfl) (e:=zX) (by kernel_rfl)];rw [Lib.run_noEscape];simp only [zy];rw [zA]
 go_wp2
 rw [Lib.run_from_unsafe w ⟨b,0,none⟩ y3 y1 hj iX oE];simp only [zy];rw [zA]
 go_wp2
 go_end0
 exact ⟨rfl,rfl⟩
theorem oG {args:List PV} {bx bx':List PBox} {p:Bool} {v:PV} (h:sE args bx=some (p,v,bx')):∃ id q,args=[.bp id 0]/\p=false/\v=.tup [] /\
 ((bx[id]?=some (.cells 135 [.nilp,q])/\bx'=bx.set id (.cells 135 [.bp id 0,q]))\/(bx[id]?=some (.cells 135 [.bp id 0,q])/\bx'=bx)):=by
 unfold sE at h;split at h
 · rename_i id
   split at h
   · rename_i t q hb
     split at h
     · rename_i ht
       subst ht;injection h with h
       injection h with h1 h
       injection h with h2 h3
       exact ⟨id,q,rfl,h1.symm,h2.symm,.inl ⟨hb,h3.symm⟩⟩
     · cases h
   · rename_i t id' q hb
     split at h
     · rename_i ht
       obtain ⟨vG,vH⟩:=ht;subst vG vH;injection h with h
       injection h with h1 h
       injection h with h2 h3
       exact ⟨_,q,rfl,h1.symm,h2.symm,.inr ⟨hb,h3.symm⟩⟩
     · cases h
   · cases h
 · cases h
theorem il {args:List PV} {bx bx':List PBox} {p:Bool} {v:PV} (h:Qr args bx=some (p,v,bx')):∃ id q,args=[.bp id 0]/\p=false /\
 ((bx[id]?=some (.cells 135 [q,.nils])/\v=.str []/\bx'=bx) \/
  (∃ xs l,bx[id]?=some (.cells 135 [q,.osl 5 xs])/\xs≠[]/\xs.all Wh=true/\bytesOf xs=some l/\v=.str l/\bx'=bx.set id (.cells 135 [q,.sl xs]))):=by
 unfold Qr at h;split at h
 · rename_i id
   split at h
   · rename_i t q hb
     split at h
     · rename_i ht
       subst ht;injection h with h
       injection h with h1 h
       injection h with h2 h3
       exact ⟨id,q,rfl,h1.symm,.inl ⟨hb,h2.symm,h3.symm⟩⟩
     · cases h
   · rename_i t q e xs hb
     split at h
     · rename_i ht
       obtain ⟨vG,vH,ht3,ht4⟩:=ht;subst vG vH;obtain ⟨l,hl,h⟩:=y8.1 h;injection h with h1 h
       injection h with h2 h3
       exact ⟨id,q,rfl,h1.symm,.inr ⟨xs,l,hb,(fun e=>by subst e;cases ht3),ht4,hl,h2.symm,h3.symm⟩⟩
     · cases h
   · cases h
 · cases h
theorem aL:∀ (xs:List PV) (l:List UInt8),xs.all Wh=true->bytesOf xs=some l->xs=l.map fun b=>PV.int .u8 (b.toNat:Int)
 | [],l,_,h=>by injection h with h;subst h;rfl
 | v :: r,l,ha,h=>by
  simp only [zn,zj] at ha;obtain ⟨hv,hr⟩:=ha;unfold Wh at hv;split at hv
  · rename_i n
    simp only [zj,decide_eq_true_eq] at hv;unfold bytesOf at h;obtain ⟨l',FU,rfl⟩:=y8.1 h;have ih:=aL r l' hr FU;rw [List.map_cons,<- ih]
    congr 2
    rw [UInt8.toNat_ofNat'];omega
  · cases hv
theorem dz (l:List UInt8):flat (l.map fun b=>PV.int .u8 (b.toNat:Int))=l.map fun b=>PV.int .u8 (b.toNat:Int):=by
 induction l with
 | nil=>rfl
 | cons b r ih=>
  show PV.cells (PV.int .u8 (b.toNat:Int))++flat (r.map fun b=>PV.int .u8 (b.toNat:Int))=_;rw [ih];rfl
theorem aM (w:World) (g n:Nat) (a:Addr):(w.drew.freeze ⟨g,0,none⟩ n).cell? a=w.cell? a:=by
 unfold zf;split
 · rfl
 · unfold World.cell?
   simp only [za];by_cases h:g=a.block
   · rw [if_pos h]
     show (match Option.map _ (w.heap[a.block]?) with | some (Obj.cells c _ _)=>_ | _=>none)=_;cases w.heap[a.block]? with
     | none=>rfl
     | some o=>
      cases o with
      | cells c e f=>obtain ⟨lo,hi⟩:=f;rfl
      | _=>rfl
   · rw [if_neg h]
     rfl
theorem X8 (w:World) (g n k:Nat) (h:k≠g):(w.drew.freeze ⟨g,0,none⟩ n).heap[k]?=w.heap[k]?:=by
 unfold zf;split
 · rfl
 · simp only
   rw [za,if_neg (fun e=>h e.symm)];rfl
theorem aN (w:World) (g n:Nat):(w.drew.freeze ⟨g,0,none⟩ n).heap.size=w.heap.size:=by
 unfold zf;split
 · rfl
 · simp only [Array.size_modify]
   rfl
theorem X9 {w:World} {b:Nat} {c:Array Value} {t:TypeId} {f:Nat×Nat} (h:w.heap[b]?=some (.cells c t f)) (v:Value):(w.setCell ⟨b,0,none⟩ v).heap[b]?=some (.cells (c.setIfInBounds 0 v) t f):=by
 simp [zH,za,h]
theorem NW {w:World} {b k:Nat} (v:Value) (h:k≠b):(w.setCell ⟨b,0,none⟩ v).heap[k]?=w.heap[k]?:=by
 simp only [zH,za];rw [if_neg (fun e=>h e.symm)]
theorem X' {c:Array Value} (h:c.size=2):∃ p q,c=#[p,q]:=⟨c[0],c[1],by apply Array.ext;simp [h];intro i h1 h2;match i with | 0=>rfl | 1=>rfl | n+2=>omega⟩
theorem WG {S:AY} {M:List Nat} {p:PV} {vs:List Value} (h:CD S M [p] vs):∃ v,vs=[v]/\Rep S M p v:=by
 match vs,h with
 | [v],h=>exact ⟨v,rfl,h.2 0 (by simp) (by simp)⟩
 | [],h=>have:=h.1;cases this
 | _ :: _ :: _,h=>have:=h.1;simp at this
theorem uP (args:List PV) (bx:List PBox) (p:Bool) (v:PV) (bx':List PBox) (h:sE args bx=some (p,v,bx')) :
 F4 CC.P 139/\((∀ p ∈ args,∀ t xs,p≠.osl t xs) ->
  ∀ (B:Nat) (T:Nat->Prop) (S:AY) (M:List Nat) (vs:List Value) (w:World),Du CC B T S M bx w->CD S M args vs ->
   Calls CC.P 139 vs.toArray w fun e w'=>∃ S' M',Du CC B T S' M' bx' w'/\Grows B T S w S' w'/\M <+: M'/\Outcome S' M' (if p then .pan v else .ret v) e):=by
 obtain ⟨id,q,rfl,rfl,rfl,WO⟩:=oG h;refine ⟨⟨Tryz.f139,_,zM,by kernel_rfl,rfl⟩,fun HM B T S M vs w hs Ez=>?_⟩;obtain ⟨u,rfl,hu⟩:=WG Ez;obtain ⟨b,hm,rfl⟩:=hu.bp_inv
 have Yl:∃ p0,bx[id]?=some (.cells 135 [p0,q]):=by
  rcases WO with ⟨h1,_⟩ | ⟨h1,_⟩
  · exact ⟨_,h1⟩
  · exact ⟨_,h1⟩
 rcases WO with ⟨hb,rfl⟩ | ⟨hb,rfl⟩
 · obtain ⟨b',c,Im,hh,hl,h1,hr⟩:=BoxAt.getT hs hb
   rw [hm] at Im;injection Im with Im
   subst Im;obtain ⟨c0,c1,rfl⟩:=X' hl;have r0:=hr 0 (by simp) (by simp);have r1:=hr 1 (by simp) (by simp);simp only [y',zk,ze] at r0 r1;have e0:c0=.pointer none:=by cases r0;rfl
   subst e0;refine (lO b w (by rw [cell_of_heap hh] <;> rfl) (by simp [z',hh]) (by simp [World.frozen?,hh])).mono ?_
   rintro e w' ⟨rfl,rfl⟩
   have Ad:id < bx.length:=(zI.1 hb).1;have fB:=X9 hh (.pointer (some ⟨b,0,none⟩))
   have P9:BoxAt S M (w.setCell ⟨b,0,none⟩ (.pointer (some ⟨b,0,none⟩))) (.cells 135 [.bp id 0,q]) b:=by
    refine .cells _ _ b _ fB rfl (fun i hi=>?_) (fun i hi Ey=>?_)
    · match i,hi with
      | 0,_=>rfl
      | 1,hi=>exact h1 1 (by simp)
    · match i,hi with
      | 0,_=>exact .bp id 0 b hm
      | 1,_=>exact r1
   obtain ⟨g1,g2⟩:=Sim.setBoxObj hs hm Ad P9 rfl rfl rfl (by simp [zH]) (fun k hk=>NW _ hk) (fun t cs off e xs v hx hc hv=>by
    injection hx with _ hx
    subst hx
    match off,hc with
    | 0,hc=>cases hc
    | 1,hc=>
     left
     injection hc with hc
     subst hc;refine ⟨_,b,by unfold Bg;rw [hb],rfl,hm,?_⟩;rw [cell_of_heap fB] at hv;rw [cell_of_heap hh];exact hv
    | n+2,hc=>cases hc)
   exact ⟨S,M,g1,g2,zh _,show Outcome S M (.ret (.tup [])) _ from ⟨fun t xs h=>(by cases h),_,rfl,.tup _ _ rfl (fun i h=>by simp at h)⟩⟩
 · obtain ⟨b',c,Im,hh,hl,h1,hr⟩:=BoxAt.getT hs hb
   rw [hm] at Im;injection Im with Im
   subst Im;obtain ⟨c0,c1,rfl⟩:=X' hl;have r0:=hr 0 (by simp) (by simp);simp only [y',ze] at r0;obtain ⟨b2,s8,e0⟩:=r0.bp_inv;rw [hm] at s8;injection s8 with s8
   subst s8;subst e0;refine (oF b w (by rw [cell_of_heap hh] <;> rfl)).mono ?_
   rintro e w' ⟨rfl,rfl⟩
   exact ⟨S,M,hs,Grows.refl _ _ _ _,zh _,show Outcome S M (.ret (.tup [])) _ from ⟨fun t xs h=>(by cases h),_,rfl,.tup _ _ rfl (fun i h=>by simp at h)⟩⟩
theorem aO:∃ i,y2.info? 5=some i/\i.size=1:=⟨(y2.info? 5).getD default,by kernel_rfl,by kernel_rfl⟩
theorem ry (args:List PV) (bx:List PBox) (p:Bool) (v:PV) (bx':List PBox) (h:Qr args bx=some (p,v,bx')) :
 F4 CC.P 132/\((∀ p ∈ args,∀ t xs,p≠.osl t xs) ->
  ∀ (B:Nat) (T:Nat->Prop) (S:AY) (M:List Nat) (vs:List Value) (w:World),Du CC B T S M bx w->CD S M args vs ->
   Calls CC.P 132 vs.toArray w fun e w'=>∃ S' M',Du CC B T S' M' bx' w'/\Grows B T S w S' w'/\M <+: M'/\Outcome S' M' (if p then .pan v else .ret v) e):=by
 obtain ⟨id,q,rfl,rfl,WO⟩:=il h;refine ⟨⟨Tryz.f132,_,Aa8,by kernel_rfl,rfl⟩,fun HM B T S M vs w hs Ez=>?_⟩;obtain ⟨u,rfl,hu⟩:=WG Ez;obtain ⟨b,hm,rfl⟩:=hu.bp_inv;rcases WO with ⟨hb,rfl,rfl⟩ | ⟨xs,l,hb,DZ,FA,pV,rfl,rfl⟩
 · obtain ⟨b',c,Im,hh,hl,h1,hr⟩:=BoxAt.getT hs hb
   rw [hm] at Im;injection Im with Im
   subst Im;obtain ⟨c0,c1,rfl⟩:=X' hl;have r1:=hr 1 (by simp) (by simp);simp only [y',zk,ze] at r1;have e1:c1=.slice none 0 0:=r1.nils_inv;subst e1;refine (lN Tryz.lays169 Tryz.Builder_Extra_169 b c0 w hh).mono ?_
   rintro e w' ⟨rfl,rfl⟩
   refine ⟨S,M,?_,?_,zh _,show Outcome S M (.ret (.str [])) _ from ⟨fun t xs h=>(by cases h),_,rfl,.str []⟩⟩
   · exact (Sim.touch hs none (fun k h=>by cases h) (fun _ _ _ _ _ _ _ h=>by cases h) (fun k h=>by cases h) (S':=S) (w':=w.drew) rfl rfl rfl (zB _) (fun _ _ _=>rfl) (AY.le.refl _) (fun _ _ _ _=>rfl) (fun b o v h=>hs.holds b o v h)).1
   · exact (Sim.touch hs none (fun k h=>by cases h) (fun _ _ _ _ _ _ _ h=>by cases h) (fun k h=>by cases h) (S':=S) (w':=w.drew) rfl rfl rfl (zB _) (fun _ _ _=>rfl) (AY.le.refl _) (fun _ _ _ _=>rfl) (fun b o v h=>hs.holds b o v h)).2
 · obtain ⟨b',c,Im,hh,hl,h1,hr⟩:=BoxAt.getT hs hb
   rw [hm] at Im;injection Im with Im
   subst Im;obtain ⟨c0,c1,rfl⟩:=X' hl;have r1:=hr 1 (by simp) (by simp);simp only [y',zk,ze] at r1;have hbc:Bg bx id=some [q,.osl 5 xs]:=by unfold Bg;rw [hb]
   have Io:LocAt ⟨[],bx⟩ M ⟨#[],[]⟩ w (.box id 1) (.osl 5 xs) c1:=⟨_,b,hbc,rfl,hm,by rw [cell_of_heap hh];rfl⟩;obtain ⟨⟨i,vals,hi,HC,fw,sU⟩,sS⟩:=hs.own _ _ _ _ Io;obtain ⟨i',Ey,B8⟩:=aO;have hii:i=i':=Option.some.inj (hi.symm.trans Ey);subst hii;rw [B8] at HC;have YF:=aL xs l FA pV;have hlen:xs.length=l.length:=by rw [YF];simp
   have Ub:l≠[]:=fun e=>DZ (by rw [YF,e] <;> rfl);have sW:Rep S M (.sl xs) c1:=by cases r1 with | osl _ _ _ h=>exact h
   rcases HC.2 with ⟨hz,hz2⟩ | ⟨g,cap,cur,hv,_,hg,v8,rO,Jc,htake⟩
   · exfalso
     have:l.length=0:=by omega
     exact Ub (List.length_eq_zero_iff.1 this)
   · subst hv
     have Ip:∀ j x,l[j]?=some x->w.cell? ⟨g,j,none⟩=some (.int .u8 x.toNat):=by
      intro j x hj;have hjl:j < l.length:=(zI.1 hj).1;have YE:flat xs=xs:=by rw [YF];exact dz l
      generalize Hp:Aa4 (some ⟨g,0,none⟩) xs.length cap=sv at sW;cases sW with
      | slE=>exact absurd rfl DZ
      | sl _ b0 o0 cap0 f0 hc hz hsS l4 WL=>
       injection Hp with vt hv2 hv3
       injection vt with vt
       injection vt with hv4 hv5 hv6
       subst hv4;subst hv5;have Ul:j < (flat xs).length:=by rw [YE,hlen];exact hjl
       have a1:=hsS j Ul;have a2:=WL j Ul
       have a3:(flat xs)[j]?=some (.int .u8 (x.toNat:Int)):=by
        rw [YE,YF,List.getElem?_map,hj];rfl
       rw [List.getElem?_eq_getElem Ul] at a3;injection a3 with a3
       rw [a3] at a2;rw [zN] at a1;have a4:=hs.holds _ _ _ a1;generalize f0 j=fv at a2 a4;cases a2 with
       | int=>exact a4
     rw [hlen] at hh v8;refine (lM Tryz.lays169 Tryz.Builder_Extra_169 b g cap c0 cur (0,0) l w Ub v8 rO (by omega) hh hg Ip).mono ?_
     rintro e w' ⟨rfl,rfl⟩
     have Hp:FZ ⟨[],bx⟩ (.box id 1)=.osl 5 xs:=by unfold FZ;simp only [hbc];rfl
     obtain ⟨k1,k2⟩:=Sim.roLoc hs (.box id 1) Hp
     have Fq:Gx ⟨[],bx⟩ (.box id 1) (.sl xs)=⟨[],bx.set id (.cells 135 [q,.sl xs])⟩:=by
      unfold Gx RT;simp only [hb];rfl
     rw [Fq] at k1 k2;have N3:(Aa4 (some ⟨g,0,none⟩) xs.length cap).ownBlock=some g:=rfl
     have tt:=Sim.touch k1 (some g) (fun k h=>by injection h with h;subst h;exact (sU g N3).1)
      (fun l' e' xs' v' k FU QD yg=>by
       injection yg with yg
       subst yg;obtain ⟨m1,m2⟩:=k2 l' e' xs' v' FU;exact m2 (hs.apart _ _ _ _ _ _ _ _ g m1 Io QD N3))
      (fun k h=>by injection h with h;subst h;exact sS g N3)
      (S':=S) (w':=w.drew.freeze ⟨g,0,none⟩ l.length) (by unfold zf;split <;> rfl) (by unfold zf;split <;> rfl) (by unfold zf;split <;> rfl)
      (by rw [aN];exact zB _) (fun k _ hk=>X8 w g l.length k (fun e=>hk (by rw [e]))) (AY.le.refl _) (fun _ _ _ _=>rfl)
      (fun b o v h=>by rw [aM];exact hs.holds b o v h)
     exact ⟨S,M,tt.1,tt.2,zh _,show Outcome S M (.ret (.str l)) _ from ⟨fun t xs h=>(by cases h),_,rfl,.str l⟩⟩
theorem TY:H0 CC:=by
 intro f g hg;have Fs:(if f=139 then some sE else if f=132 then some Qr else none)=some g:=hg;split at Fs
 · rename_i h
   subst h;injection Fs with Fs
   subst Fs;exact uP
 · split at Fs
   · rename_i h
     subst h;injection Fs with Fs
     subst Fs;exact ry
   · cases Fs
end Go.HH
