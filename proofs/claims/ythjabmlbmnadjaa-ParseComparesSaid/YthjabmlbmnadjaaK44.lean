/-
  What the law needs, packed: UG UH UN UI UJ Shelf C1 BB HB.
-/
import Derived.Shelf.Strings.Builder1
import Derived.Shelf.Small.Strs
import Derived.Shelf.Strings.Search1
import Derived.Test.YthjabmlbmnadjaaProg
import Derived.Lib.LaidTab
import Derived.Test.YthjabmlbmnadjaaK43
namespace Go.HH
open Go Go.Proofs
set_option maxRecDepth 100000
set_option maxHeartbeats 4000000
set_option linter.unusedSimpArgs false
set_option linter.unusedVariables false
theorem ok_L29_lit:fnOK CC Try.f22 (Try.f22.body.getD .skip)=true:=by kernel_rfl
theorem fat_L29_lit:CC.P.funcs[22]?=some Try.f22:=by kernel_rfl
theorem ok_L29_num:fnOK CC Try.f21 (Try.f21.body.getD .skip)=true:=by kernel_rfl
theorem fat_L29_num:CC.P.funcs[21]?=some Try.f21:=by kernel_rfl
theorem ok_L29_node:fnOK CC Try.f19 (Try.f19.body.getD .skip)=true:=by kernel_rfl
theorem fat_L29_node:CC.P.funcs[19]?=some Try.f19:=by kernel_rfl
theorem ok_L29_not:fnOK CC Try.f20 (Try.f20.body.getD .skip)=true:=by kernel_rfl
theorem fat_L29_not:CC.P.funcs[20]?=some Try.f20:=by kernel_rfl
theorem op_lawlit (k n:Int) (bx):callOp CC (callL CC) 22 [.int .i64 k,.int .i64 n] bx=some (.ret (.agg (exC (litT k n))),bx):=by
 suffices h:∃ b,callL CC 22 [.int .i64 k,.int .i64 n] []=some (.ret (.agg (exC (litT k n))),b) by
  obtain ⟨b,h⟩:=h
  exact callOp_of rfl (by simp only [SA,Bool.and_true]) h (by rw [<- trV_exC];exact trV_pure _)
 rw [<- trV_exC]
 rw [callL_enter (fn:=Try.f22) (c:=Try.f22.body.getD .skip) rfl rfl fat_L29_lit rfl ok_L29_lit (Nat.le_of_ble_eq_true rfl)]
 unfold litT trV trVs zK
 obtain ⟨ev,eo,so,co,⟨hev,hco⟩,R⟩:=RULES CC;rw [<- hev]
 simp only [fpart,part',Try.f22,Option.getD]
 simp only [S9,R,seval,ZC,nchP,List.set_cons_zero,List.set_cons_succ,buildVl2,buildLit]
 exact ⟨_,rfl⟩
theorem op_lawnum (n:Int) (bx):callOp CC (callL CC) 21 [.int .i64 n] bx=some (.ret (.agg (exC (litT 2 n))),bx):=by
 suffices h:∃ b,callL CC 21 [.int .i64 n] []=some (.ret (.agg (exC (litT 2 n))),b) by
  obtain ⟨b,h⟩:=h
  exact callOp_of rfl (by simp only [SA,Bool.and_true]) h (by rw [<- trV_exC];exact trV_pure _)
 have hl:=op_lawlit 2 n
 rw [callL_enter (fn:=Try.f21) (c:=Try.f21.body.getD .skip) rfl rfl fat_L29_num rfl ok_L29_num (Nat.le_of_ble_eq_true rfl)]
 obtain ⟨ev,eo,so,co,⟨hev,hco⟩,R⟩:=RULES CC;rw [<- hev]
 rw [<- hco] at hl
 simp only [fpart,part',Try.f21,Option.getD]
 simp only [S9,R,seval,ZC,nchP,List.set_cons_zero,List.set_cons_succ,hl,SX]
 exact ⟨_,rfl⟩
theorem exC_nod (k:Int) (l:List Tr):exC (nodT k l)=[.int .i64 k,.int .i64 0,.int .i64 0,.str [],.int .i64 0,.int .i64 0,.str [],.int .i64 0,.str [],.str [],.sl (trVs l)]:=by unfold exC nodT trV zV zK;rfl
theorem op_lawnode (k:Int) (a b:Tr) (bx):callOp CC (callL CC) 19 [.int .i64 k,.agg (exC a),.agg (exC b)] bx=some (.ret (.agg (exC (nodT k [a,b]))),bx):=by
 suffices h:∃ q,callL CC 19 [.int .i64 k,.agg (exC a),.agg (exC b)] []=some (.ret (.agg (exC (nodT k [a,b]))),q) by
  obtain ⟨q,h⟩:=h
  exact callOp_of rfl (by simp only [SA,SE,PV.pure,exC_pure,Bool.and_true]) h (by rw [<- trV_exC];exact trV_pure _)
 rw [exC_nod,trVs_exC]
 have hb:=bsE2 a b
 rw [callL_enter (fn:=Try.f19) (c:=Try.f19.body.getD .skip) rfl rfl fat_L29_node rfl ok_L29_node (Nat.le_of_ble_eq_true rfl)]
 obtain ⟨ev,eo,so,co,⟨hev,hco⟩,R⟩:=RULES CC;rw [<- hev]
 simp only [fpart,part',Try.f19,Option.getD]
 simp only [S9,R,seval,ZC,nchP,List.set_cons_zero,List.set_cons_succ,SX,hb,buildNod]
 exact ⟨_,rfl⟩
theorem op_lawnot (a:Tr) (bx):callOp CC (callL CC) 20 [.agg (exC a)] bx=some (.ret (.agg (exC (nodT 6 [a]))),bx):=by
 suffices h:∃ q,callL CC 20 [.agg (exC a)] []=some (.ret (.agg (exC (nodT 6 [a]))),q) by
  obtain ⟨q,h⟩:=h
  exact callOp_of rfl (by simp only [SA,SE,PV.pure,exC_pure,Bool.and_true]) h (by rw [<- trV_exC];exact trV_pure _)
 rw [exC_nod,trVs_exC]
 have hb:=bsE1 a
 rw [callL_enter (fn:=Try.f20) (c:=Try.f20.body.getD .skip) rfl rfl fat_L29_not rfl ok_L29_not (Nat.le_of_ble_eq_true rfl)]
 obtain ⟨ev,eo,so,co,⟨hev,hco⟩,R⟩:=RULES CC;rw [<- hev]
 simp only [fpart,part',Try.f20,Option.getD]
 simp only [S9,R,seval,ZC,nchP,List.set_cons_zero,List.set_cons_succ,SX,hb,buildNod]
 exact ⟨_,rfl⟩
theorem okB_aw:fnOKB CC Try.f8 (Try.f8.body.getD .skip)=true:=by kernel_rfl
theorem noB_aw:fnOK CC Try.f8 (Try.f8.body.getD .skip)=false:=by kernel_rfl
theorem fat_aw:CC.P.funcs[8]?=some Try.f8:=by kernel_rfl
theorem draw_no_aw:drawOK CC (opsOf (fpart Try.f8 [1,1,1,1,1,1,1,0]))=false:=by kernel_rfl
theorem ords_aw:((orders (opsOf (fpart Try.f8 [1,1,1,1,1,1,1,0]))).all fun l=>(List.range (opsOf (fpart Try.f8 [1,1,1,1,1,1,1,0])).size).all fun j=>l.contains j)=true:=by kernel_rfl
theorem ordn_aw:(orders (opsOf (fpart Try.f8 [1,1,1,1,1,1,1,0]))).isEmpty=false:=by kernel_rfl
theorem size_aw:(opsOf (fpart Try.f8 [1,1,1,1,1,1,1,0])).size=10:=by kernel_rfl
def awK:List PV:=[.int .i64 3,.str [111,110,111,102,102],.str [111,110]]
def awG:PV:=.agg [.int .i64 3,.int .i64 0,.str [],.str [],.int .i64 0,.str [],.str [],.str [],.int .i64 1350,.int .i64 127]
def awL (n:Int):List PV:=[.int .i64 1,.int .i64 0,.int .i64 0,.str [],.int .i64 1,.int .i64 n,.str [],.int .i64 0,.str [],.str [],.sl []]
def awS:List PV:=[.int .i64 1,.int .i64 3,.str [111,110,111,102,102],.str [111,110],.str [],.int .i64 1,.int .i64 0,.int .i64 0,.str [],.int .i64 1,.int .i64 0,.str [],.int .i64 0,.str [],.str [],.sl []]
def awR:List PV:=[.str [110,105,103,104,116],.int .i64 0,.sl [awG],.int .i64 1,.int .i64 0,.int .i64 0,.str [],.int .i64 1,.int .i64 1,.str [],.int .i64 0,.str [],.str [],.sl [],.sl [.agg awS]]
def awZ:List PV:=[.str [],.int .i64 0,.nils,.int .i64 0,.int .i64 0,.int .i64 0,.str [],.int .i64 0,.int .i64 0,.str [],.int .i64 0,.str [],.str [],.nils,.nils]
theorem awB0:buildP CC 59 [(0,.int .i64 3),(4,.int .i64 1350),(5,.int .i64 127)]=some awG:=by kernel_rfl
theorem awB1:buildSliceP CC 27 1 [(0,awG)]=some (.osl 59 [awG]):=by kernel_rfl
theorem awB5:buildP CC 41 [(0,.int .i64 1),(1,.agg awK),(3,.agg (awL 0))]=some (.agg awS):=by kernel_rfl
theorem awB6:buildSliceP CC 35 1 [(0,.agg awS)]=some (.osl 41 [.agg awS]):=by kernel_rfl
theorem awB7:buildP CC 37 [(0,.str [110,105,103,104,116]),(2,.sl [awG]),(3,.agg (awL 1)),(4,.sl [.agg awS])]=some (.agg awR):=by kernel_rfl
theorem awLm (n:Int):(awL n).map PV.seal1=awL n:=rfl
theorem awL_ex (n:Int):exC (litT 1 n)=awL n:=by unfold exC litT trV trVs zK awL;rfl
def awLs:List (Nat×Nat×PV):=[(0,47,awG),(1,48,.osl 59 [awG]),(2,49,.agg (awL 1)),(3,50,.agg awK),(4,51,.agg (awL 0)),(5,52,.agg awS),(6,53,.osl 41 [.agg awS]),(7,54,.agg awR),(8,15,.bp 5 0)]
def awBx (b0 b1 b2 b3:PBox) (D:Nat->Bool):List PBox:=[b0,b1,b2,b3,.cells 31 awK]++(if D 9 then [.cells 37 awR] else if D 8 then [.cells 37 awZ] else [])
theorem awLs_pw:awLs.Pairwise (fun x y=>x.1≠y.1∧x.2.1≠y.2.1):=by unfold awLs;simp
theorem awBx_get (b0 b1 b2 b3:PBox) (D:Nat->Bool):(awBx b0 b1 b2 b3 D)[4]?=some (.cells 31 awK):=rfl
theorem draw_aw (b0 b1 b2 b3:PBox) (e:List PV) (h14:getT e 14=.bp 4 0) :
 ∃ e',drawAll CC (callL CC) (opsOf (fpart Try.f8 [1,1,1,1,1,1,1,0])) ⟨e,[b0,b1,b2,b3,.cells 31 awK]⟩=some (.normal,⟨e',[b0,b1,b2,b3,.cells 31 awK,.cells 37 awR]⟩)∧getT e' 15=.bp 5 0∧∀ t,(∀ x ∈ awLs,x.2.1≠t)->getT e' t=getT e t:=by
 refine ⟨_,drawAll_states (e0:=e) (L:=awLs) (bxOf:=awBx b0 b1 b2 b3) ords_aw ordn_aw (fun D j op hop hD hdep hcl=>?_) (by unfold awBx awLs;simp [setsD]) (r:=⟨setsD e (fun _=>true) awLs,[b0,b1,b2,b3,.cells 31 awK,.cells 37 awR]⟩) (fun D hD=>?_),?_,fun t ht=>getT_off e _ t _ ht⟩
 · have hcl9:D 9=true->D 8=true:=fun h=>hcl 9 _ rfl h ⟨8,.data⟩ (by simp [opsOf,fpart,part',Try.f8]) rfl
   have hj:j < 10:=by
    have:=(Array.getElem?_eq_some_iff.1 hop).1
    rw [size_aw] at this
    exact this
   have hpw:=awLs_pw
   have z14:getT (setsD e D awLs) 14=.bp 4 0:=by rw [getT_off e D 14 _ (by unfold awLs;simp)];exact h14
   have hget:=awBx_get b0 b1 b2 b3 D
   have hl0:=op_lawlit 1 0
   have hl1:=op_lawlit 1 1
   rw [awL_ex] at hl0 hl1
   have hlenB:D 8=false->D 9=false->(awBx b0 b1 b2 b3 D).length=5:=fun a b=>by unfold awBx;rw [a,b];rfl
   by_cases e0:j=0
   · subst e0
     simp only [opsOf,fpart,part',Try.f8,Option.getD,List.getElem?_toArray,List.getElem?_cons_succ,List.getElem?_cons_zero] at hop
     injection hop with hop
     subst hop
     refine ⟨rfl,fun al=>?_⟩
     rw [<- setsD_add e D 0 47 (awG) hD _ (by unfold awLs;simp) hpw]
     have hb:awBx b0 b1 b2 b3 (addD D 0)=awBx b0 b1 b2 b3 D:=by unfold awBx;rw [addD_ne (by decide),addD_ne (by decide)]
     rw [hb]
     generalize awBx b0 b1 b2 b3 D=Bx at *
     generalize setsD e D awLs=E at *
     obtain ⟨ev,eo,so,co,⟨hev,hco,heo,hso⟩,R⟩:=RULES0 CC
     rw [<- hso]
     simp only [S9,R,seval,ZC,nchP,List.set_cons_zero,List.set_cons_succ,awB0]
     exact ⟨_,rfl⟩
   by_cases e1:j=1
   · subst e1
     simp only [opsOf,fpart,part',Try.f8,Option.getD,List.getElem?_toArray,List.getElem?_cons_succ,List.getElem?_cons_zero] at hop
     injection hop with hop
     subst hop
     refine ⟨rfl,fun al=>?_⟩
     have d0:D 0=true:=hdep ⟨0,.data⟩ (by simp) rfl
     have z47:getT (setsD e D awLs) 47=awG:=getT_on e D 0 47 _ d0 _ (by unfold awLs;simp) hpw
     rw [<- setsD_add e D 1 48 (.osl 59 [awG]) hD _ (by unfold awLs;simp) hpw]
     have hb:awBx b0 b1 b2 b3 (addD D 1)=awBx b0 b1 b2 b3 D:=by unfold awBx;rw [addD_ne (by decide),addD_ne (by decide)]
     rw [hb]
     generalize awBx b0 b1 b2 b3 D=Bx at *
     generalize setsD e D awLs=E at *
     obtain ⟨ev,eo,so,co,⟨hev,hco,heo,hso⟩,R⟩:=RULES0 CC
     rw [<- hso]
     simp only [S9,R,seval,ZC,nchP,List.set_cons_zero,List.set_cons_succ,z47,awB1]
     exact ⟨_,rfl⟩
   by_cases e2:j=2
   · subst e2
     simp only [opsOf,fpart,part',Try.f8,Option.getD,List.getElem?_toArray,List.getElem?_cons_succ,List.getElem?_cons_zero] at hop
     injection hop with hop
     subst hop
     refine ⟨rfl,fun al=>?_⟩
     rw [<- setsD_add e D 2 49 (.agg (awL 1)) hD _ (by unfold awLs;simp) hpw]
     have hb:awBx b0 b1 b2 b3 (addD D 2)=awBx b0 b1 b2 b3 D:=by unfold awBx;rw [addD_ne (by decide),addD_ne (by decide)]
     rw [hb]
     generalize awBx b0 b1 b2 b3 D=Bx at *
     generalize setsD e D awLs=E at *
     obtain ⟨ev,eo,so,co,⟨hev,hco,heo,hso⟩,R⟩:=RULES0 CC
     rw [<- hso]
     rw [<- hco] at hl0 hl1
     simp only [S9,R,seval,ZC,nchP,List.set_cons_zero,List.set_cons_succ,hl1]
     exact ⟨_,rfl⟩
   by_cases e3:j=3
   · subst e3
     simp only [opsOf,fpart,part',Try.f8,Option.getD,List.getElem?_toArray,List.getElem?_cons_succ,List.getElem?_cons_zero] at hop
     injection hop with hop
     subst hop
     refine ⟨rfl,fun al=>?_⟩
     rw [<- setsD_add e D 3 50 (.agg awK) hD _ (by unfold awLs;simp) hpw]
     have hb:awBx b0 b1 b2 b3 (addD D 3)=awBx b0 b1 b2 b3 D:=by unfold awBx;rw [addD_ne (by decide),addD_ne (by decide)]
     rw [hb]
     generalize awBx b0 b1 b2 b3 D=Bx at *
     generalize setsD e D awLs=E at *
     unfold awK at hget ⊢
     obtain ⟨ev,eo,so,co,⟨hev,hco,heo,hso⟩,R⟩:=RULES0 CC
     rw [<- hso]
     simp only [S9,R,seval,ZC,nchP,List.set_cons_zero,List.set_cons_succ,z14,hget]
     exact ⟨_,rfl⟩
   by_cases e4:j=4
   · subst e4
     simp only [opsOf,fpart,part',Try.f8,Option.getD,List.getElem?_toArray,List.getElem?_cons_succ,List.getElem?_cons_zero] at hop
     injection hop with hop
     subst hop
     refine ⟨rfl,fun al=>?_⟩
     rw [<- setsD_add e D 4 51 (.agg (awL 0)) hD _ (by unfold awLs;simp) hpw]
     have hb:awBx b0 b1 b2 b3 (addD D 4)=awBx b0 b1 b2 b3 D:=by unfold awBx;rw [addD_ne (by decide),addD_ne (by decide)]
     rw [hb]
     generalize awBx b0 b1 b2 b3 D=Bx at *
     generalize setsD e D awLs=E at *
     obtain ⟨ev,eo,so,co,⟨hev,hco,heo,hso⟩,R⟩:=RULES0 CC
     rw [<- hso]
     rw [<- hco] at hl0 hl1
     simp only [S9,R,seval,ZC,nchP,List.set_cons_zero,List.set_cons_succ,hl0]
     exact ⟨_,rfl⟩
   by_cases e5:j=5
   · subst e5
     simp only [opsOf,fpart,part',Try.f8,Option.getD,List.getElem?_toArray,List.getElem?_cons_succ,List.getElem?_cons_zero] at hop
     injection hop with hop
     subst hop
     refine ⟨rfl,fun al=>?_⟩
     have d3:D 3=true:=hdep ⟨3,.data⟩ (by simp) rfl
     have z50:getT (setsD e D awLs) 50=.agg awK:=getT_on e D 3 50 _ d3 _ (by unfold awLs;simp) hpw
     have d4:D 4=true:=hdep ⟨4,.data⟩ (by simp) rfl
     have z51:getT (setsD e D awLs) 51=.agg (awL 0):=getT_on e D 4 51 _ d4 _ (by unfold awLs;simp) hpw
     rw [<- setsD_add e D 5 52 (.agg awS) hD _ (by unfold awLs;simp) hpw]
     have hb:awBx b0 b1 b2 b3 (addD D 5)=awBx b0 b1 b2 b3 D:=by unfold awBx;rw [addD_ne (by decide),addD_ne (by decide)]
     rw [hb]
     generalize awBx b0 b1 b2 b3 D=Bx at *
     generalize setsD e D awLs=E at *
     obtain ⟨ev,eo,so,co,⟨hev,hco,heo,hso⟩,R⟩:=RULES0 CC
     rw [<- hso]
     simp only [S9,R,seval,ZC,nchP,List.set_cons_zero,List.set_cons_succ,z50,z51,awB5]
     exact ⟨_,rfl⟩
   by_cases e6:j=6
   · subst e6
     simp only [opsOf,fpart,part',Try.f8,Option.getD,List.getElem?_toArray,List.getElem?_cons_succ,List.getElem?_cons_zero] at hop
     injection hop with hop
     subst hop
     refine ⟨rfl,fun al=>?_⟩
     have d5:D 5=true:=hdep ⟨5,.data⟩ (by simp) rfl
     have z52:getT (setsD e D awLs) 52=.agg awS:=getT_on e D 5 52 _ d5 _ (by unfold awLs;simp) hpw
     rw [<- setsD_add e D 6 53 (.osl 41 [.agg awS]) hD _ (by unfold awLs;simp) hpw]
     have hb:awBx b0 b1 b2 b3 (addD D 6)=awBx b0 b1 b2 b3 D:=by unfold awBx;rw [addD_ne (by decide),addD_ne (by decide)]
     rw [hb]
     generalize awBx b0 b1 b2 b3 D=Bx at *
     generalize setsD e D awLs=E at *
     obtain ⟨ev,eo,so,co,⟨hev,hco,heo,hso⟩,R⟩:=RULES0 CC
     rw [<- hso]
     simp only [S9,R,seval,ZC,nchP,List.set_cons_zero,List.set_cons_succ,z52,awB6]
     exact ⟨_,rfl⟩
   by_cases e7:j=7
   · subst e7
     simp only [opsOf,fpart,part',Try.f8,Option.getD,List.getElem?_toArray,List.getElem?_cons_succ,List.getElem?_cons_zero] at hop
     injection hop with hop
     subst hop
     refine ⟨rfl,fun al=>?_⟩
     have d1:D 1=true:=hdep ⟨1,.data⟩ (by simp) rfl
     have z48:getT (setsD e D awLs) 48=.osl 59 [awG]:=getT_on e D 1 48 _ d1 _ (by unfold awLs;simp) hpw
     have d2:D 2=true:=hdep ⟨2,.data⟩ (by simp) rfl
     have z49:getT (setsD e D awLs) 49=.agg (awL 1):=getT_on e D 2 49 _ d2 _ (by unfold awLs;simp) hpw
     have d6:D 6=true:=hdep ⟨6,.data⟩ (by simp) rfl
     have z53:getT (setsD e D awLs) 53=.osl 41 [.agg awS]:=getT_on e D 6 53 _ d6 _ (by unfold awLs;simp) hpw
     rw [<- setsD_add e D 7 54 (.agg awR) hD _ (by unfold awLs;simp) hpw]
     have hb:awBx b0 b1 b2 b3 (addD D 7)=awBx b0 b1 b2 b3 D:=by unfold awBx;rw [addD_ne (by decide),addD_ne (by decide)]
     rw [hb]
     generalize awBx b0 b1 b2 b3 D=Bx at *
     generalize setsD e D awLs=E at *
     obtain ⟨ev,eo,so,co,⟨hev,hco,heo,hso⟩,R⟩:=RULES0 CC
     rw [<- hso]
     simp only [S9,R,seval,ZC,nchP,List.set_cons_zero,List.set_cons_succ,z48,z49,z53,awB7,awLm]
     exact ⟨_,rfl⟩
   by_cases e8:j=8
   · subst e8
     simp only [opsOf,fpart,part',Try.f8,Option.getD,List.getElem?_toArray,List.getElem?_cons_succ,List.getElem?_cons_zero] at hop
     injection hop with hop
     subst hop
     refine ⟨rfl,fun al=>?_⟩
     rw [<- setsD_add e D 8 15 (.bp 5 0) hD _ (by unfold awLs;simp) hpw]
     have d9:D 9=false:=by
      cases h9:D 9 with
      | false=>rfl
      | true=>exact absurd (hcl9 h9) (by rw [hD];decide)
     have hl:=hlenB hD d9
     have hb:awBx b0 b1 b2 b3 (addD D 8)=awBx b0 b1 b2 b3 D++[.cells 37 awZ]:=by unfold awBx;rw [addD_ne (by decide),addD_self,d9,hD];rfl
     rw [hb]
     generalize awBx b0 b1 b2 b3 D=Bx at *
     generalize setsD e D awLs=E at *
     unfold awZ
     obtain ⟨ev,eo,so,co,⟨hev,hco,heo,hso⟩,R⟩:=RULES0 CC
     rw [<- hso]
     simp only [S9,R,seval,ZC,nchP,List.set_cons_zero,List.set_cons_succ,hl]
     exact ⟨_,rfl⟩
   by_cases e9:j=9
   · subst e9
     simp only [opsOf,fpart,part',Try.f8,Option.getD,List.getElem?_toArray,List.getElem?_cons_succ,List.getElem?_cons_zero] at hop
     injection hop with hop
     subst hop
     refine ⟨rfl,fun al=>?_⟩
     have d7:D 7=true:=hdep ⟨7,.data⟩ (by simp) rfl
     have z54:getT (setsD e D awLs) 54=.agg awR:=getT_on e D 7 54 _ d7 _ (by unfold awLs;simp) hpw
     have d8:D 8=true:=hdep ⟨8,.data⟩ (by simp) rfl
     have z15:getT (setsD e D awLs) 15=.bp 5 0:=getT_on e D 8 15 _ d8 _ (by unfold awLs;simp) hpw
     rw [setsD_skip e D 9 _ (by unfold awLs;simp)]
     have hb:awBx b0 b1 b2 b3 (addD D 9)=[b0,b1,b2,b3,.cells 31 awK,.cells 37 awR]:=by unfold awBx;rw [addD_self];rfl
     have hb0:awBx b0 b1 b2 b3 D=[b0,b1,b2,b3,.cells 31 awK,.cells 37 awZ]:=by unfold awBx;rw [hD,d8];rfl
     rw [hb,hb0]
     generalize setsD e D awLs=E at *
     unfold awR at z54 ⊢
     unfold awZ
     obtain ⟨ev,eo,so,co,⟨hev,hco,heo,hso⟩,R⟩:=RULES0 CC
     rw [<- hso]
     simp only [S9,R,seval,ZC,nchP,List.set_cons_zero,List.set_cons_succ,z54,z15]
     exact ⟨_,rfl⟩
   omega
 · have hsz:=size_aw
   have hd:∀ j,j < 10->D j=true:=fun j hj=>hD j (by rw [hsz];exact hj)
   unfold awLs awBx
   simp only [setsD,hd 0 (by decide),hd 1 (by decide),hd 2 (by decide),hd 3 (by decide),hd 4 (by decide),hd 5 (by decide),hd 6 (by decide),hd 7 (by decide),hd 8 (by decide),hd 9 (by decide),if_true]
   rfl
 · exact getT_on e _ 8 15 _ rfl _ (by unfold awLs;simp) awLs_pw
end Go.HH
namespace Go.HH
open Go Go.Proofs
set_option maxRecDepth 100000
set_option maxHeartbeats 4000000
set_option linter.unusedSimpArgs false
set_option linter.unusedVariables false
def awS1:List UInt8:=[49,32,43,32,50,32,42,32,51,32,61,61,32,55,32,97,110,100,32,110,111,116,32,102,97,108,115,101]
def awS2:List UInt8:=[45,45,51]
def awS3:List UInt8:=[49,32,60,32,50,32,60,32,51]
def awS4:List UInt8:=[114,117,108,101,32,110,105,103,104,116,32,123,32,111,110,32,116,105,109,101,32,50,50,58,51,48,59,32,100,111,32,115,101,116,32,51,46,111,110,111,102,102,46,111,110,32,61,32,102,97,108,115,101,59,32,125]
def awT1:Tr:=nodT 7 [nodT 9 [nodT 11 [litT 2 1,nodT 13 [litT 2 2,litT 2 3]],litT 2 7],nodT 6 [litT 1 0]]
def awT2:Tr:=nodT 12 [litT 2 0,litT 2 (-3)]
def awRl:Rl:=⟨[110,105,103,104,116],0,[⟨3,zK,zK,[],1350,127⟩],wT,[⟨1,(3,[111,110,111,102,102],[111,110]),[],litT 1 0⟩]⟩
theorem exA1:exprA awS1=(awT1,0,0):=by kernel_rfl
theorem exA2:exprA awS2=(awT2,0,0):=by kernel_rfl
theorem exA3:exprA awS3=(zT,6,12):=by kernel_rfl
theorem exA4:rulesA awS4=([awRl],0,0):=by kernel_rfl
theorem rlA:rlP awRl=.agg awR:=by
 unfold rlP awRl awR wT litT
 simp only [rcs,List.map_cons,List.map_nil]
 unfold tgV spV spC
 simp only [exC_mk,trVs_nil,zK,zV]
 rfl
theorem op_aw1 (bx):callOp CC (callL CC) 14 [.str awS1] bx=some (.ret (.tup [.agg (exC awT1),.int .i64 0,.int .i64 0]),bx):=by
 have:=op_parse_Expr awS1 (by decide) bx
 rw [exA1,trV_exC] at this
 exact this
theorem op_aw2 (bx):callOp CC (callL CC) 14 [.str awS2] bx=some (.ret (.tup [.agg (exC awT2),.int .i64 0,.int .i64 0]),bx):=by
 have:=op_parse_Expr awS2 (by decide) bx
 rw [exA2,trV_exC] at this
 exact this
theorem op_aw3 (bx):callOp CC (callL CC) 14 [.str awS3] bx=some (.ret (.tup [.agg (exC zT),.int .i64 6,.int .i64 12]),bx):=by
 have:=op_parse_Expr awS3 (by decide) bx
 rw [exA3,trV_exC] at this
 exact this
theorem op_aw4 (bx):callOp CC (callL CC) 9 [.str awS4] bx=some (.ret (.tup [.sl [.agg awR],.int .i64 0,.int .i64 0]),bx):=by
 have:=op_parse_Rules awS4 (by decide) bx
 rw [exA4] at this
 simp only [List.map_cons,List.map_nil,rlA] at this
 exact this
theorem sh_awT1:shT awT1:=by
 have h:∀ k n,shT (litT k n):=sh_lit
 exact sh_n2 (sh_n2 (sh_n2 (h _ _) (sh_n2 (h _ _) (h _ _))) (h _ _)) (sh_n1 (h _ _))
theorem sh_awT2:shT awT2:=sh_n2 (sh_lit _ _) (sh_lit _ _)
theorem sm_aw1 (bx):callOp CC (callL CC) 15 [.agg (exC awT1),.agg (exC awT1)] bx=some (.ret (.bool true),bx):=by rw [<- trV_exC];exact op_Same_refl _ sh_awT1 bx
theorem sm_aw2 (bx):callOp CC (callL CC) 15 [.agg (exC awT2),.agg (exC awT2)] bx=some (.ret (.bool true),bx):=by rw [<- trV_exC];exact op_Same_refl _ sh_awT2 bx
theorem sm_aw4 (bx):callOp CC (callL CC) 13 [.sl [.agg awR],.sl [.agg awR]] bx=some (.ret (.bool true),bx):=by
 have:=op_R29_Same [awRl] (by decide) (fun x hx=>by
  rw [List.mem_singleton] at hx
  subst hx
  exact ⟨by decide,by decide,sh_lit 1 1,fun y hy=>by
   have:y=⟨1,(3,[111,110,111,102,102],[111,110]),[],litT 1 0⟩:=List.mem_singleton.1 hy
   rw [this]
   exact sh_lit 1 0⟩) bx
 simp only [List.map_cons,List.map_nil,rlA] at this
 exact this
theorem awRb:buildSliceP CC 23 1 [(0,.agg awR)]=some (.osl 37 [.agg awR]):=by kernel_rfl
theorem awRp:pureL awR=true:=by kernel_rfl
theorem awKz:buildP CC 31 [(0,.int .i64 3),(1,.str [111,110,111,102,102]),(2,.str [111,110])]=some (.agg awK):=by kernel_rfl
theorem awRl_len:awR.length=15∧awR.take 15=awR∧awR.drop 15=[]∧awR.map PV.ro=awR∧awR.map PV.seal1=awR∧awR.all PV.one=true:=⟨rfl,rfl,rfl,rfl,rfl,rfl⟩
theorem awKl:awK.length=3∧awK.take 3=awK∧awK.drop 3=[]∧awK.map PV.ro=awK∧awK.map PV.seal1=awK∧awK.all PV.one=true:=⟨rfl,rfl,rfl,rfl,rfl,rfl⟩
theorem draw_ok_aw:drawOK CC (opsOf (fpart Try.f8 [1,1,1,1,1,1,1,1,0]))=true:=by kernel_rfl
theorem call_awake:∃ bx,callL CC 8 [] []=some (.ret (.bool true),bx):=by
 have x1:=op_aw1
 have x2:=op_aw2
 have x3:=op_aw3
 have x4:=op_aw4
 have m1:=sm_aw1
 have m2:=sm_aw2
 have m4:=sm_aw4
 unfold awS1 at x1
 unfold awS2 at x2
 unfold awS3 at x3
 unfold awS4 at x4
 have n1:=op_lawnum 1
 have n2:=op_lawnum 2
 have n3:=op_lawnum 3
 have n7:=op_lawnum 7
 have n0:=op_lawnum 0
 have nm:=op_lawnum (-3)
 have l0:=op_lawlit 1 0
 have nt:=op_lawnot
 have nd:=op_lawnode
 have hb:=awRb
 have hp:=awRp
 have hk:=awKz
 have hl:=awRl_len
 have hkl:=awKl
 have ht1:nodT 7 [nodT 9 [nodT 11 [litT 2 1,nodT 13 [litT 2 2,litT 2 3]],litT 2 7],nodT 6 [litT 1 0]]=awT1:=rfl
 have ht2:nodT 12 [litT 2 0,litT 2 (-3)]=awT2:=rfl
 rw [callL_enterB (fn:=Try.f8) (c:=Try.f8.body.getD .skip) rfl rfl fat_aw rfl noB_aw okB_aw (Nat.le_of_ble_eq_true rfl)]
 have hd:=fun b0 b1 b2 b3 e h=>draw_aw b0 b1 b2 b3 e h
 simp only [<- drawM_all draw_no_aw] at hd
 have hd2:=fun st=>drawM_calm (call:=callL CC) (st:=st) draw_ok_aw
 generalize awT1=u1 at *
 generalize awT2=u2 at *
 generalize awR=rr at *
 generalize awK=kk at *
 obtain ⟨dr,ev,eo,so,co,⟨hev,hco,heo,hdr⟩,R⟩:=RULESB CC
 rw [<- hev]
 rw [<- hco] at x1 x2 x3 x4 m1 m2 m4 n1 n2 n3 n7 n0 nm l0 nt nd
 rw [<- hdr] at hd
 rw [<- hdr,<- heo] at hd2
 simp only [opsOf,fpart,part',Try.f8,Option.getD] at hd hd2 ⊢
 simp only [S9,R,seval,ZC,nchP,List.set_cons_zero,List.set_cons_succ,SX,x1,x2,x3,x4,n1,n2,n3,n7,l0,nt,nd,ht1,hk,hkl]
 have hd3:∀ e,getT e 14=.bp 4 0->getT e 3=.int .i64 0->getT e 1=.bp 0 0->getT e 4=.bp 1 0->getT e 7=.int .i64 0->getT e 5=.bp 2 0->getT e 9=.int .i64 6->getT e 10=.int .i64 12->getT e 13=.int .i64 0->getT e 11=.sl [.agg rr]->∃ e',dr _ ⟨e,[.cells 34 (exC u1),.cells 34 (exC u1),.cells 34 (exC u2),.cells 34 (exC zT),.cells 31 kk]⟩=some (.normal,⟨e',[.cells 34 (exC u1),.cells 34 (exC u1),.cells 34 (exC u2),.cells 34 (exC zT),.cells 31 kk,.cells 37 rr]⟩)∧getT e' 15=.bp 5 0∧getT e' 3=.int .i64 0∧getT e' 1=.bp 0 0∧getT e' 4=.bp 1 0∧getT e' 7=.int .i64 0∧getT e' 5=.bp 2 0∧getT e' 9=.int .i64 6∧getT e' 10=.int .i64 12∧getT e' 13=.int .i64 0∧getT e' 11=.sl [.agg rr]:=fun e h14 k3 k1 k4 k7 k5 k9 k10 k13 k11=>by
  obtain ⟨e',h1,h2,h3⟩:=hd (.cells 34 (exC u1)) (.cells 34 (exC u1)) (.cells 34 (exC u2)) (.cells 34 (exC zT)) e h14
  exact ⟨e',h1,h2,(h3 3 (by unfold awLs;simp)).trans k3,(h3 1 (by unfold awLs;simp)).trans k1,(h3 4 (by unfold awLs;simp)).trans k4,(h3 7 (by unfold awLs;simp)).trans k7,(h3 5 (by unfold awLs;simp)).trans k5,(h3 9 (by unfold awLs;simp)).trans k9,(h3 10 (by unfold awLs;simp)).trans k10,(h3 13 (by unfold awLs;simp)).trans k13,(h3 11 (by unfold awLs;simp)).trans k11⟩
 clear hd
 generalize hE:dr _ _=z
 have hP:∃ e',z=some (.normal,⟨e',[.cells 34 (exC u1),.cells 34 (exC u1),.cells 34 (exC u2),.cells 34 (exC zT),.cells 31 kk,.cells 37 rr]⟩)∧getT e' 15=.bp 5 0∧getT e' 3=.int .i64 0∧getT e' 1=.bp 0 0∧getT e' 4=.bp 1 0∧getT e' 7=.int .i64 0∧getT e' 5=.bp 2 0∧getT e' 9=.int .i64 6∧getT e' 10=.int .i64 12∧getT e' 13=.int .i64 0∧getT e' 11=.sl [.agg rr]:=by
  rw [<- hE]
  refine hd3 _ ?_ ?_ ?_ ?_ ?_ ?_ ?_ ?_ ?_ ?_
  all_goals first | (simp only [S7,R,seval];done) | (simp only [S7,R,seval] <;> rfl)
 obtain ⟨e',he,g15,g3,g1,g4,g7,g5,g9,g10,g13,g11⟩:=hP
 subst he
 clear hE hd3
 simp only [S9,R,seval,ZC,nchP,List.set_cons_zero,List.set_cons_succ,SX,hd2,m1,m2,m4,n0,nm,nd,ht2,hb,hp,hl,hkl,PV.pure,pureL,g15,g3,g1,g4,g7,g5,g9,g10,g13,g11]
 exact ⟨_,rfl⟩
theorem op_awake (bx):callOp CC (callL CC) 8 [] bx=some (.ret (.bool true),bx):=by
 obtain ⟨b,h⟩:=call_awake
 exact callOp_of rfl rfl h rfl
end Go.HH
namespace Go.HH
open Go Go.Proofs
set_option maxRecDepth 100000
set_option linter.unusedVariables false
def nz {α:Type} (r:PR α):Prop:=∀ t e,r=.bad t e->e≠0
theorem ok_nz {α:Type} (a:α) (i:Nat):nz (PR.ok a i):=fun t e h=>by cases h
theorem out_nz {α:Type}:nz (PR.out:PR α):=fun t e h=>by cases h
theorem bad_nz {α:Type} {t:Nat} {e:Int} (h:e≠0):nz (PR.bad t e:PR α):=fun t' e' h'=>by
 injection h' with _ h'
 exact h' ▸ h
theorem bind_nz {α β:Type} {r:PR α} {f:α->Nat->PR β} (h:nz r) (h2:∀ a i,nz (f a i)):nz (r.bind f):=by
 cases r with
 | ok a i=>exact h2 a i
 | bad t e=>exact fun t' e' h'=>by injection h' with _ h';exact h' ▸ h t e rfl
 | out=>exact out_nz
section
variable {L:List Tk}
theorem mustP_nz {k:Nat} {w:List UInt8} {i:Nat}:nz (mustP L k w i):=by unfold mustP;split <;> first | exact ok_nz _ _ | exact bad_nz (by decide)
theorem nameP_nz {i:Nat}:nz (nameP L i):=by
 unfold nameP
 split
 · split <;> first | exact ok_nz _ _ | exact bad_nz (by decide)
 · exact bad_nz (by decide)
theorem numP_nz {lo hi i:Nat}:nz (numP L lo hi i):=by
 unfold numP
 split
 · split <;> first | exact ok_nz _ _ | exact bad_nz (by decide)
 · exact bad_nz (by decide)
theorem oneP_nz {k i:Nat}:nz (oneP L k i):=by unfold oneP;split <;> first | exact ok_nz _ _ | exact bad_nz (by decide)
theorem twoP_nz {hi i:Nat}:nz (twoP L hi i):=by
 unfold twoP
 split
 · exact bad_nz (by decide)
 · exact numP_nz
theorem pathP_nz {i:Nat}:nz (pathP L i):=bind_nz numP_nz fun _ _=>bind_nz mustP_nz fun _ _=>bind_nz nameP_nz fun _ _=>bind_nz mustP_nz fun _ _=>bind_nz nameP_nz fun _ _=>ok_nz _ _
theorem clockP_nz {i:Nat}:nz (clockP L i):=bind_nz twoP_nz fun _ _=>bind_nz mustP_nz fun _ _=>bind_nz twoP_nz fun _ _=>ok_nz _ _
theorem dayP_nz {i:Nat}:nz (dayP L i):=by unfold dayP;split <;> first | exact ok_nz _ _ | exact bad_nz (by decide)
theorem daysL_nz:∀ (n m i:Nat),nz (daysL L n m i)
 | 0,_,_=>out_nz
 | n+1,m,i=>by
  rw [daysL]
  refine bind_nz dayP_nz fun k j=>?_
  split
  · exact daysL_nz n _ _
  · exact ok_nz _ _
theorem daysP_nz {i:Nat}:nz (daysP L i):=daysL_nz _ _ _
theorem condP_nz {i:Nat}:nz (condP L i):=by
 unfold condP
 repeat' first | exact ok_nz _ _ | exact bad_nz (by decide) | exact nameP_nz | exact mustP_nz | exact clockP_nz | exact daysP_nz | (refine bind_nz ?_ fun _ _=>?_) | split
theorem pz_nz:∀ (n:Nat) (nt:NT) (o i:Nat),nz (pz L n nt o i):=by
 intro n
 induction n with
 | zero=>intro nt o i;exact out_nz
 | succ n ih=>
  intro nt o i
  cases nt <;> rw [pz] <;> repeat' first | exact ok_nz _ _ | exact bad_nz (by decide) | exact ih _ _ _ | exact numP_nz | exact mustP_nz | exact pathP_nz | exact condP_nz | (refine bind_nz ?_ fun _ _=>?_) | split
theorem wholeP_nz {n i:Nat}:nz (wholeP L n i):=by
 unfold wholeP
 refine bind_nz (pz_nz _ _ _ _) fun a j=>?_
 split
 · exact ok_nz _ _
 · rename_i h;exact bad_nz h
theorem triggerP_nz {i:Nat}:nz (triggerP L i):=by
 unfold triggerP
 repeat' first | exact ok_nz _ _ | exact bad_nz (by decide) | exact nameP_nz | exact numP_nz | exact mustP_nz | exact pathP_nz | exact clockP_nz | exact daysP_nz | (refine bind_nz ?_ fun _ _=>?_) | split
theorem stepP_nz {n i:Nat}:nz (stepP L n i):=by
 unfold stepP
 repeat' first | exact ok_nz _ _ | exact bad_nz (by decide) | exact nameP_nz | exact oneP_nz | exact mustP_nz | exact pathP_nz | exact wholeP_nz | (refine bind_nz ?_ fun _ _=>?_) | split
theorem severalP_nz {α:Type} {w:List UInt8} {part:Nat->PR α} (hp:∀ i,nz (part i)):∀ (m:Nat) (acc:List α) (i:Nat),nz (severalP L w part m acc i)
 | 0,_,_=>out_nz
 | m+1,acc,i=>by
  rw [severalP]
  split
  · split
    · exact bad_nz (by decide)
    · exact bind_nz mustP_nz fun _ _=>bind_nz (hp _) fun _ _=>bind_nz mustP_nz fun _ _=>severalP_nz hp m _ _
  · exact ok_nz _ _
theorem ruleP_nz {n:Nat} {rs:List Rl} {i:Nat}:nz (ruleP L n rs i):=by
 unfold ruleP
 repeat' first | exact ok_nz _ _ | exact bad_nz (by decide) | exact nameP_nz | exact numP_nz | exact mustP_nz | exact wholeP_nz | exact severalP_nz (fun _=>triggerP_nz) _ _ _ | exact severalP_nz (fun _=>stepP_nz) _ _ _ | (refine bind_nz ?_ fun _ _=>?_) | split
theorem rulesP_nz {n:Nat}:∀ (m:Nat) (rs:List Rl) (i:Nat),nz (rulesP L n m rs i)
 | 0,_,_=>out_nz
 | m+1,rs,i=>by
  rw [rulesP]
  split
  · exact ok_nz _ _
  · exact bind_nz ruleP_nz fun _ _=>rulesP_nz m _ _
end
end Go.HH
namespace Go.HH
open Go Go.Proofs
set_option maxRecDepth 100000
set_option linter.unusedSimpArgs false
set_option linter.unusedVariables false
theorem isT_zero {L:List Tk} {i k:Nat} {w:List UInt8} (h:(tokAt L i).1=0) (hk:k≠0):isT L k w i=false:=by
 unfold isT
 rw [h,show ((0:Nat) == k)=false from beq_eq_false_iff_ne.2 (Ne.symm hk),Bool.false_and]
theorem isT_kne {L:List Tk} {i k k':Nat} {w:List UInt8} (h:(tokAt L i).1=k') (hk:k≠k'):isT L k w i=false:=by
 unfold isT
 rw [h,show (k' == k)=false from beq_eq_false_iff_ne.2 (Ne.symm hk),Bool.false_and]
theorem isT_tne {L:List Tk} {i k:Nat} {w w':List UInt8} (h:(tokAt L i).2.1=w') (hk:(w' == w)=false):isT L k w i=false:=by
 unfold isT
 rw [h,hk,Bool.and_false]
theorem isT_is {L:List Tk} {i k:Nat} {w:List UInt8} (h:(tokAt L i).1=k) (h2:(tokAt L i).2.1=w):isT L k w i=true:=by
 unfold isT
 rw [h,h2,beq_self_eq_true,beq_self_eq_true];rfl
theorem up_sum {M:List Tk} {n o i:Nat} {e:Tr} {j:Nat} (h:pz M n .prim o i=.ok e j) (h1:isT M 4 [45] i=false) (h2:isT M 4 [42] j=false) (h3:isT M 4 [43] j=false) (h4:isT M 4 [45] j=false):pz M (n+3) .sum o i=.ok e j:=by
 have a1:pz M (n+1) .un o i=.ok e j:=by rw [pz,h1,if_neg (by decide)];exact h
 have a2:pz M (n+2) .prod o i=.ok e j:=by
  rw [pz]
  refine bind_to a1 ?_
  rw [pz,h2,if_neg (by decide)]
 rw [pz]
 refine bind_to a2 ?_
 rw [pz,h3,h4,if_neg (by decide),if_neg (by decide)]
theorem up_expr {M:List Tk} {n o i:Nat} {e:Tr} {j:Nat} (h:pz M n .cmp o i=.ok e j) (h1:(tokAt M i).1=4) (h2:(tokAt M j).1=0):pz M (n+4) .expr o i=.ok e j:=by
 have w1:∀ w,isT M 1 w i=false:=fun w=>isT_kne h1 (by decide)
 have w2:∀ w,isT M 1 w j=false:=fun w=>isT_zero h2 (by decide)
 have a1:pz M (n+1) .not o i=.ok e j:=by rw [pz,w1,if_neg (by decide)];exact h
 have a2:pz M (n+2) (.chain false) o i=.ok e j:=by
  rw [pz]
  refine bind_to a1 ?_
  rw [pz,w2,if_neg (by decide)]
  rfl
 have a3:pz M (n+3) (.chain true) o i=.ok e j:=by
  rw [pz]
  refine bind_to a2 ?_
  rw [pz,w2,if_neg (by decide)]
  rfl
 rw [pz,w1,if_neg (by decide)]
 exact a3
theorem up_paren {M:List Tk} {n o i:Nat} {e:Tr} {j:Nat} (h:pz M n .expr (o+1) (i+1)=.ok e j) (ho:o < 100) (h1:(tokAt M i).1=4) (h1':(tokAt M i).2.1=[40]) (h2:isT M 4 [41] j=true):pz M (n+1) .prim o i=.ok e (j+1):=by
 have hp:plainB M i=false:=by unfold plainB;rw [h1];rfl
 rw [pz,hp,if_neg (by decide),if_neg (by rw [h1];decide),if_neg (by rw [h1];decide),isT_tne h1' (by decide),if_neg (by decide),isT_is h1 h1',if_pos rfl,if_pos ho]
 refine bind_to h ?_
 unfold mustP
 rw [h2]
 rfl
theorem toks_open (u:List UInt8) (hu:u.length<=3900) (h0:(toks u).2.2=0):toks (40 :: u)=((4,[40],0) :: (toks u).1.map (moK 1),0,0):=by
 have h1:sk (40 :: u) 0=0:=by
  rw [sk_eq (Nat.zero_le _),if_pos (by simp)]
  rw [show atL (40 :: u) 0=40 from rfl,if_neg (by decide),if_neg (fun h=>absurd h.1 (by decide))]
 have hol:opLen (40 :: u) 0=1:=by
  unfold opLen
  rw [show atL (40 :: u) 0=40 from rfl,if_neg (fun h=>absurd h.2 (by decide)),if_pos (by decide)]
 have ho:oneL (40 :: u) 0=.inl ((4,[40],0),1):=by
  unfold oneL
  simp only
  rw [hol,show atL (40 :: u) 0=40 from rfl,if_neg (by decide),if_neg (by decide),if_neg (by decide),if_neg (by decide)]
  rfl
 have h2:=toks_suf [40] u [(4,[40],0)] (by simp;omega)
 have h3:sk (40 :: u) 1=1+sk u 0:=sk_suf [40] u u.length 0 (by omega) (by omega)
 rw [toks_eq (by simp;omega),h1,tk_eq _ (Nat.zero_le _),if_pos (by simp),if_neg (by decide),ho]
 simp only
 rw [h3,List.nil_append]
 have h4:tk (40 :: u) (1+sk u 0) [(4,[40],0)]=moR 1 [(4,[40],0)] (tk u (sk u 0) []):=h2
 rw [h4,<- toks_eq (by omega)]
 unfold moR
 rw [if_pos h0]
 rfl
theorem toks_close:toks [41]=([(4,[41],0),(0,[],1)],0,0):=by kernel_rfl
theorem app_end {r r':List Tk} {x y:Tk} (h:r++[x]=r'++[y]):r=r':=(List.append_inj' h rfl).1
theorem exprA_ok {s:List UInt8} (hs:s.length<=3900) (h:(exprA s).2.2=0):∃ r,toks s=(r++[(0,[],s.length)],0,0)∧chainT r∧r.length<=s.length∧TokOK (r++[(0,[],s.length)])∧pz (r++[(0,[],s.length)]) (fuN (r++[(0,[],s.length)])) .expr 0 0=.ok (exprA s).1 r.length∧ckT (exprA s).1=0:=by
 by_cases h0:(toks s).2.2=0
 · obtain ⟨r,h1,h2,h3⟩:=toks_shape s hs h0
   have hT:=TokOK_of hs h1 h2 h3
   have hlen:(r++[(0,[],s.length)]).length=r.length+1:=by rw [List.length_append];rfl
   refine ⟨r,h1,h2,h3,hT,?_⟩
   unfold exprA at h ⊢
   rw [if_pos h0] at h ⊢
   rw [h1] at h ⊢
   simp only at h ⊢
   unfold wholeP at h ⊢
   cases hr:pz (r++[(0,[],s.length)]) (fuN (r++[(0,[],s.length)])) .expr 0 0 with
   | out=>exact absurd hr (pz_out hT _ _ _ _ hT.pos (by unfold fuN;have:rkN .expr=10:=rfl;omega))
   | bad t c=>
    rw [hr] at h
    exact absurd h (pz_nz _ _ _ _ _ _ hr)
   | ok a j=>
    rw [hr] at h
    simp only [PR.bind] at h ⊢
    by_cases hc:ckT a=0
    · rw [if_pos hc] at h ⊢
      simp only at h ⊢
      have hj:=pz_lt hT _ _ _ _ _ _ hT.pos hr
      unfold oneP at h ⊢
      by_cases hk:(tokAt (r++[(0,[],s.length)]) j).1=0
      · rw [if_pos hk]
        refine ⟨?_,hc⟩
        have:¬ j+1 < (r++[(0,[],s.length)]).length:=fun h5=>hT.inner j h5 hk
        have:j=r.length:=by omega
        rw [this]
      · rw [if_neg hk] at h
        exact absurd (show (12:Int)=0 from h) (by decide)
    · rw [if_neg hc] at h
      exact absurd h hc
 · unfold exprA at h
   rw [if_neg h0] at h
   exact absurd h h0
theorem tokAt_app {r t:List Tk} (k:Nat):tokAt (r++t) (r.length+k)=tokAt t k:=by
 unfold tokAt
 rw [List.getD_eq_getElem?_getD,List.getD_eq_getElem?_getD,List.getElem?_append_right (by omega),show r.length+k - r.length=k from by omega]
theorem tokAt_app0 {r t:List Tk} {k:Nat} (h:k < r.length):tokAt (r++t) k=tokAt r k:=by
 unfold tokAt
 rw [List.getD_eq_getElem?_getD,List.getD_eq_getElem?_getD,List.getElem?_append_left h]
theorem tokAt_mo {r:List Tk} {n k:Nat} (h:k < r.length):(tokAt (r.map (moK n)) k).1=(tokAt r k).1∧(tokAt (r.map (moK n)) k).2.1=(tokAt r k).2.1:=by
 unfold tokAt
 rw [List.getD_eq_getElem?_getD,List.getD_eq_getElem?_getD,List.getElem?_map,List.getElem?_eq_getElem h]
 exact ⟨rfl,rfl⟩
theorem tokAt_cons (x:Tk) (t:List Tk) (k:Nat):tokAt (x :: t) (k+1)=tokAt t k:=rfl
theorem edge_in {r A B:List Tk} {n m:Nat} {x y:Tk} (hx:x.1=0) (hy:y.1=4∧y.2.1=[41]):edgeL (r++[x]) (A++(r.map (moK n)++(y :: B))) A.length r.length:=fun k hk=>by
 rw [show k+A.length=A.length+k from Nat.add_comm _ _,tokAt_app]
 by_cases h:k < r.length
 · rw [tokAt_app0 h,tokAt_app0 (by rw [List.length_map];exact h)]
   obtain ⟨h1,h2⟩:=tokAt_mo (n:=n) h
   exact .inl ⟨h1.symm,h2.symm⟩
 · have:k=r.length+0:=by omega
   rw [this,tokAt_app,show r.length+0=(r.map (moK n)).length+0 from by rw [List.length_map],tokAt_app]
   exact .inr ⟨hx,hy⟩
end Go.HH
namespace Go.HH
open Go Go.Proofs
set_option maxRecDepth 100000
set_option maxHeartbeats 4000000
set_option linter.unusedSimpArgs false
set_option linter.unusedVariables false
theorem exE (s:List UInt8) (hs:s.length<=3900) (bx:List PBox):callOp CC (callL CC) 14 [.str s] bx=some (.ret (.tup [.agg (exC (exprA s).1),.int .i64 ((exprA s).2.1:Int),.int .i64 (exprA s).2.2]),bx):=by
 rw [<- trV_exC]
 exact op_parse_Expr s hs bx
theorem sh_zT:shT zT:=by unfold zT;exact sh_leaf (by simp) (by simp [zV]) (by simp [zK]) (by simp [zK])
theorem exA_sh {s:List UInt8} (hs:s.length<=3900):shT (exprA s).1:=by
 unfold exprA
 by_cases h0:(toks s).2.2=0
 · rw [if_pos h0]
   have hT:=toks_TokOK s hs h0
   unfold wholeP
   cases hr:pz (toks s).1 (fuN (toks s).1) .expr 0 0 with
   | out=>exact sh_zT
   | bad t c=>exact sh_zT
   | ok a i=>
    simp only [PR.bind]
    split
    · rename_i a' i' h
      have:a'=a:=by
       split at h
       · rename_i a2 i2 h2
         split at h2
         · split at h
           · injection h with h _
             injection h2 with h2 _
             rw [<- h,<- h2]
           · cases h
           · cases h
         · cases h2
       · cases h
       · cases h
      rw [this]
      exact sh_pz hT _ .expr _ _ a _ trivial hr
    · exact sh_zT
    · exact sh_zT
 · rw [if_neg h0]
   exact sh_zT
theorem smE (t:Tr) (h:shT t) (bx):callOp CC (callL CC) 15 [.agg (exC t),.agg (exC t)] bx=some (.ret (.bool true),bx):=by rw [<- trV_exC];exact op_Same_refl t h bx
end Go.HH
namespace Go.Proofs
open Go.Shelf
def Try.lays169_ren:Go.Shelf.Ren:=⟨fun | 169=>90 | n=>n,fun | 70=>115 | 9=>9 | 0=>0 | 72=>118 | 37=>116 | 127=>127 | 3=>3 | 5=>5 | n=>n,fun | n=>n⟩
theorem Try.lays169:Go.Proofs.Lays.n169 Try.prog Try.lays169_ren:={
 mixed:=by kernel_rfl
 f169:=Try.func90.trans (congrArg some (by kernel_rfl))
 t0:=Try.underlying0
 a0:=Try.isAgg0
 z0:=Try.sizeOf0
 v0:=Try.zeroValue0
 t3:=Try.underlying3
 a3:=Try.isAgg3
 z3:=Try.sizeOf3
 v3:=Try.zeroValue3
 t9:=Try.underlying9
 a9:=Try.isAgg9
 z9:=Try.sizeOf9
 v9:=Try.zeroValue9
 t37:=Try.underlying116
 a37:=Try.isAgg116
 z37:=Try.sizeOf116
 v37:=Try.zeroValue116
 t70:=Try.underlying115
 a70:=Try.isAgg115
 z70:=Try.sizeOf115
 v70:=Try.zeroValue115
 t72:=Try.underlying118
 a72:=Try.isAgg118
 z72:=Try.sizeOf118
 v72:=Try.zeroValue118
 t127:=Try.underlying127
 a127:=Try.isAgg127
 z127:=Try.sizeOf127
 v127:=Try.zeroValue127 }
theorem Try.Builder_Extra_169:Builder.Extra Try.prog Try.lays169_ren:={
 sizeBuilder:=by kernel_rfl
 liesBuilder:=by kernel_rfl
 t5:=Try.underlying5
 a5:=Try.isAgg5
 z5:=Try.sizeOf5
 v5:=Try.zeroValue5
 infoByte:=by kernel_rfl
 cellsByte:=by kernel_rfl
 sizeByte:=by kernel_rfl
 neB5:=by decide }
def Try.lays137_ren:Go.Shelf.Ren:=⟨fun | 137=>83 | 217=>86 | 266=>91 | n=>n,fun | 9=>9 | 5=>5 | 3=>3 | n=>n,fun | n=>n⟩
theorem Try.lays137:Go.Proofs.Lays.n137 Try.prog Try.lays137_ren:={
 mixed:=by kernel_rfl
 f137:=Try.func83.trans (congrArg some (by kernel_rfl))
 f217:=Try.func86.trans (congrArg some (by kernel_rfl))
 f266:=Try.func91.trans (congrArg some (by kernel_rfl))
 t3:=Try.underlying3
 a3:=Try.isAgg3
 z3:=Try.sizeOf3
 v3:=Try.zeroValue3
 t5:=Try.underlying5
 a5:=Try.isAgg5
 z5:=Try.sizeOf5
 v5:=Try.zeroValue5
 t9:=Try.underlying9
 a9:=Try.isAgg9
 z9:=Try.sizeOf9
 v9:=Try.zeroValue9 }
open Go.RowKit in
theorem Try.strings_IndexByte (s:ByteArray) (c:Int) (w:World) :
 Calls Try.prog 83 #[.string s,.int .u8 c] w fun e w'=>e=.returned (.int .i64 (Lib.indexByte s.data.toList c.toNat.toUInt8))∧w'=w:=Any.strings_IndexByte Try.lays137 s c w
end Go.Proofs
namespace Go.HH
open Go Go.Proofs Go.RowKit
set_option maxRecDepth 100000
def PrimOK (f:FuncId) (g:List PV->Option PV):Prop:=HasBody CC.P f∧∀ (args:List PV) (r:PV),g args=some r->(∀ t xs,r≠.osl t xs) ∧
 ∀ (S:Store) (vs:List Value) (w:World),(∀ b o v,S b o=some v->w.cell? ⟨b,o,none⟩=some v) ->
  (∀ g cs,CC.glob g=some cs->Rep S [] (.ip cs) (.pointer (some ⟨g,0,none⟩)))->(∀ g cs,CC.glob g=some cs->∃ c e f,w.heap[g]?=some (.cells c e f)∧c.size=cs.length)->RepL S [] args vs ->
  Calls CC.P f vs.toArray w fun e w'=>∃ S',Kept S w S' w'∧∃ v,e=.returned v∧Rep S' [] r v
theorem kept_same {S:Store} {w:World} (hS:∀ b o v,S b o=some v->w.cell? ⟨b,o,none⟩=some v):Kept S w S w:=⟨rfl,rfl,rfl,Nat.le_refl _,fun _ _=>rfl,Store.le.refl _,fun _ _ _=>rfl,hS⟩
theorem repL_two {S:Store} {p q:PV} {vs:List Value} (h:RepL S [] [p,q] vs):∃ v u,vs=[v,u]∧Rep S [] p v∧Rep S [] q u:=by
 match vs,h with
 | [v,u],h=>exact ⟨v,u,rfl,h.2 0 (by simp) (by simp),h.2 1 (by simp) (by simp)⟩
 | [],h=>have:=h.1;cases this
 | [_],h=>have:=h.1;simp at this
 | _ :: _ :: _ :: _,h=>have:=h.1;simp at this
theorem ixbP_inv {args:List PV} {r:PV} (h:ixbP args=some r):∃ s c,args=[.str s,.int .u8 c]∧r=.int .i64 (Lib.indexByte s c.toNat.toUInt8):=by
 unfold ixbP at h
 split at h
 · injection h with h
   exact ⟨_,_,rfl,h.symm⟩
 · cases h
theorem prim_IndexByte:PrimOK 83 ixbP:=by
 refine ⟨⟨Try.f83,_,Try.func83,by kernel_rfl,rfl⟩,fun args r hr=>?_⟩
 obtain ⟨s,c,rfl,rfl⟩:=ixbP_inv hr
 refine ⟨fun t xs h=>(by cases h),fun S vs w hS hgl hgw hrep=>?_⟩
 obtain ⟨v,u,rfl,h0,h1⟩:=repL_two hrep
 cases h0 with
 | str=>
  cases h1 with
  | int=>
   refine (Try.strings_IndexByte ⟨s.toArray⟩ c w).mono ?_
   rintro e w' ⟨rfl,rfl⟩
   exact ⟨S,kept_same hS,_,rfl,.int _ _⟩
theorem primSound:PrimSound CC:=by
 intro f g hg
 show PrimOK f g
 have hg':primCC f=some g:=hg
 unfold primCC at hg'
 split at hg'
 · rename_i h
   subst h
   injection hg' with hg'
   subst hg'
   exact prim_IndexByte
 cases hg'
end Go.HH
namespace Go.HH
open Go Go.Proofs Go.Shelf Go.RowKit Go.Lib
variable {P:Program} {ρ:Ren}
set_option maxHeartbeats 2000000 in
set_option maxRecDepth 100000 in
theorem bstr_row (L:Lays.n169 P ρ) (X:Builder.Extra P ρ) (b g cap:Nat) (p:Value) (cur:Array Value) (fr:Nat×Nat) (l:List UInt8) (w:World) (h0:l≠[]) (hnc:l.length<=cap) (hcm:cap<=maxLen) (hcs:cur.size=cap)
 (hbk:w.heap[b]?=some (.cells #[p,.slice (some ⟨g,0,none⟩) l.length cap] (ρ.t 72) (0,0))) (hg:w.heap[g]?=some (.cells cur (ρ.t 5) fr))
 (hat:∀ j x,l[j]?=some x->w.cell? ⟨g,j,none⟩=some (.int .u8 x.toNat)) :
 Calls P (ρ.f 169) #[.pointer (some ⟨b,0,none⟩)] w fun e w'=>e=.returned (.string ⟨l.toArray⟩)∧w'=w.drew.freeze ⟨g,0,none⟩ l.length:=by
 have hl0:l.length≠0:=by simpa using h0
 have c1:w.drew.cell? ⟨b,1,none⟩=some (.slice (some ⟨g,0,none⟩) l.length cap):=by
  have:w.drew.heap[b]?=some (.cells #[p,.slice (some ⟨g,0,none⟩) l.length cap] (ρ.t 72) (0,0)):=hbk
  rw [Lib.cell_of_heap this];rfl
 have hSD:(Builtin.unsafeSliceData_ #[(ρ.t 37)] (ρ.t 127) #[.slice (some ⟨g,0,none⟩) l.length cap]).run P w.drew=.ok (.pointer (some ⟨g,0,none⟩)) w.drew:=
  Lib.run_unsafeSliceData_row _ _ _ _ _ _ (by omega)
 have hUS:(Builtin.unsafeString_ #[(ρ.t 127),(ρ.t 3)] (ρ.t 9) #[.pointer (some ⟨g,0,none⟩),.int .i64 l.length]).run P w.drew=.ok (.string ⟨l.toArray⟩) (w.drew.freeze ⟨g,0,none⟩ l.length):=by
  refine Lib.run_unsafeString_row w.drew (ρ.t 127) (ρ.t 3) (ρ.t 9) (ρ.t 5) L.t127 X.cellsByte g cur.size (by have hg':w.drew.heap[g]?=some (.cells cur (ρ.t 5) fr):=hg;simp [World.shape?,hg']) l h0 (by omega) (by unfold maxLen at hcm;omega) ?_
  intro j x hx
  have:=hat j x hx
  rw [show (⟨g,0,none⟩:Addr).add j=⟨g,j,none⟩ from by unfold Addr.add;split <;> simp_all]
  exact this
 have mixed:=L.mixed
 have t72:=L.t72;have a72:=L.a72;have z72:=L.z72;have v72:=L.v72;have u72:=run_underlying L.t72
 have t70:=L.t70;have a70:=L.a70;have z70:=L.z70;have v70:=L.v70;have u70:=run_underlying L.t70
 have t37:=L.t37;have a37:=L.a37;have z37:=L.z37;have v37:=L.v37;have u37:=run_underlying L.t37
 have t127:=L.t127;have a127:=L.a127;have z127:=L.z127;have v127:=L.v127;have u127:=run_underlying L.t127
 have t3:=L.t3;have a3:=L.a3;have z3:=L.z3;have v3:=L.v3;have u3:=run_underlying L.t3
 have t9:=L.t9;have a9:=L.a9;have z9:=L.z9;have v9:=L.v9;have u9:=run_underlying L.t9
 have t5:=X.t5;have a5:=X.a5;have z5:=X.z5;have v5:=X.v5;have u5:=run_underlying X.t5
 go_enter L.f169,Body.n169_ntmps ρ
 go_wp2
 go_region_o
 all_goals (go_wp2;go_ret;exact ⟨rfl,rfl⟩)
set_option maxHeartbeats 2000000 in
set_option maxRecDepth 100000 in
theorem bstr_nil (L:Lays.n169 P ρ) (X:Builder.Extra P ρ) (b:Nat) (p:Value) (w:World) (hbk:w.heap[b]?=some (.cells #[p,.slice none 0 0] (ρ.t 72) (0,0))) :
 Calls P (ρ.f 169) #[.pointer (some ⟨b,0,none⟩)] w fun e w'=>e=.returned (.string ⟨#[]⟩)∧w'=w.drew:=by
 have hUS:=Any.unsafeString_none L X
 have c1:w.drew.cell? ⟨b,1,none⟩=some (.slice none 0 0):=by
  have:w.drew.heap[b]?=some (.cells #[p,.slice none 0 0] (ρ.t 72) (0,0)):=hbk
  rw [Lib.cell_of_heap this];rfl
 have hSD:(Builtin.unsafeSliceData_ #[(ρ.t 37)] (ρ.t 127) #[.slice none 0 0]).run P w.drew=.ok (.pointer none) w.drew:=rfl
 have mixed:=L.mixed
 have t72:=L.t72;have a72:=L.a72;have z72:=L.z72;have v72:=L.v72;have u72:=run_underlying L.t72
 have t70:=L.t70;have a70:=L.a70;have z70:=L.z70;have v70:=L.v70;have u70:=run_underlying L.t70
 have t37:=L.t37;have a37:=L.a37;have z37:=L.z37;have v37:=L.v37;have u37:=run_underlying L.t37
 have t127:=L.t127;have a127:=L.a127;have z127:=L.z127;have v127:=L.v127;have u127:=run_underlying L.t127
 have t3:=L.t3;have a3:=L.a3;have z3:=L.z3;have v3:=L.v3;have u3:=run_underlying L.t3
 have t9:=L.t9;have a9:=L.a9;have z9:=L.z9;have v9:=L.v9;have u9:=run_underlying L.t9
 have t5:=X.t5;have a5:=X.a5;have z5:=X.z5;have v5:=X.v5;have u5:=run_underlying X.t5
 go_enter L.f169,Body.n169_ntmps ρ
 go_wp2
 go_region_o
 all_goals (go_wp2;go_ret;exact ⟨rfl,rfl⟩)
theorem sizeBld:(Try.prog.info? 118).map (·.size)=some 2:=by kernel_rfl
theorem liesBld:liesAt Try.prog Try.prog.depth 118 (2 / Try.prog.cellsOf 118) 0 118 1=true:=by kernel_rfl
set_option maxHeartbeats 2000000 in
set_option maxRecDepth 100000 in
theorem cc_used (b:Nat) (w:World) (h0:w.cell? ⟨b,0,none⟩=some (.pointer (some ⟨b,0,none⟩))) :
 Calls Try.prog 95 #[.pointer (some ⟨b,0,none⟩)] w fun e w'=>e=.returned (.tuple #[])∧w'=w:=by
 obtain ⟨j,hj,_⟩:=Option.map_eq_some_iff.1 sizeBld
 have mixed:Try.prog.follows .mixedOrders=true:=by kernel_rfl
 have t0:=Try.underlying118;have a0:=Try.isAgg118;have z0:=Try.sizeOf118;have v0:=Try.zeroValue118;have u0:=run_underlying Try.underlying118
 have t1:=Try.underlying115;have a1:=Try.isAgg115;have z1:=Try.sizeOf115;have v1:=Try.zeroValue115;have u1:=run_underlying Try.underlying115
 have t2:=Try.underlying9;have a2:=Try.isAgg9;have z2:=Try.sizeOf9;have v2:=Try.zeroValue9;have u2:=run_underlying Try.underlying9
 have t3:=Try.underlying4;have a3:=Try.isAgg4;have z3:=Try.sizeOf4;have v3:=Try.zeroValue4;have u3:=run_underlying Try.underlying4
 have t4:=Try.underlying128;have a4:=Try.isAgg128;have z4:=Try.sizeOf128;have v4:=Try.zeroValue128;have u4:=run_underlying Try.underlying128
 go_enter Try.func95,Try.ntmps95
 go_wp2
 rw [Lib.run_neq_ptr_same w _ Try.underlying115 hj]
 go_wp2
 go_end0
 exact ⟨rfl,rfl⟩
set_option maxHeartbeats 2000000 in
set_option maxRecDepth 100000 in
theorem cc_fresh (b:Nat) (w:World) (h0:w.cell? ⟨b,0,none⟩=some (.pointer none)) (hsh:w.shape? b=some (118,2)) (hfz:w.frozen? ⟨b,0,none⟩=false) :
 Calls Try.prog 95 #[.pointer (some ⟨b,0,none⟩)] w fun e w'=>e=.returned (.tuple #[])∧w'=w.setCell ⟨b,0,none⟩ (.pointer (some ⟨b,0,none⟩)):=by
 obtain ⟨j,hj,hjs⟩:=Option.map_eq_some_iff.1 sizeBld
 have mixed:Try.prog.follows .mixedOrders=true:=by kernel_rfl
 have t0:=Try.underlying118;have a0:=Try.isAgg118;have z0:=Try.sizeOf118;have v0:=Try.zeroValue118;have u0:=run_underlying Try.underlying118
 have t1:=Try.underlying115;have a1:=Try.isAgg115;have z1:=Try.sizeOf115;have v1:=Try.zeroValue115;have u1:=run_underlying Try.underlying115
 have t2:=Try.underlying9;have a2:=Try.isAgg9;have z2:=Try.sizeOf9;have v2:=Try.zeroValue9;have u2:=run_underlying Try.underlying9
 have t3:=Try.underlying4;have a3:=Try.isAgg4;have z3:=Try.sizeOf4;have v3:=Try.zeroValue4;have u3:=run_underlying Try.underlying4
 have t4:=Try.underlying128;have a4:=Try.isAgg128;have z4:=Try.sizeOf128;have v4:=Try.zeroValue128;have u4:=run_underlying Try.underlying128
 go_enter Try.func95,Try.ntmps95
 go_wp2
 rw [Lib.run_to_unsafe w ⟨b,0,none⟩ Try.underlying115 Try.underlying128 hj (by rw [hjs];decide) hsh (Nat.zero_lt_succ 1)]
 simp only [Result.andThen]
 rw [Oper.upon_value]
 go_wp2
 rw [run_callFunc_extern Try.func98 (by kernel_rfl) (by kernel_rfl) (by kernel_rfl) (e:=Extern.AbiNoEscape.same) (by kernel_rfl)]
 rw [Lib.run_noEscape]
 simp only [Result.andThen]
 rw [Oper.upon_value]
 go_wp2
 rw [Lib.run_from_unsafe w ⟨b,0,none⟩ Try.underlying128 Try.underlying115 hj hsh liesBld]
 simp only [Result.andThen]
 rw [Oper.upon_value]
 go_wp2
 go_end0
 exact ⟨rfl,rfl⟩
end Go.HH
namespace Go.HH
open Go Go.Proofs Go.RowKit
set_option maxRecDepth 100000
theorem ccP_inv {args:List PV} {bx bx':List PBox} {p:Bool} {v:PV} (h:ccP args bx=some (p,v,bx')):∃ id q,args=[.bp id 0]∧p=false∧v=.tup [] ∧
 ((bx[id]?=some (.cells 118 [.nilp,q])∧bx'=bx.set id (.cells 118 [.bp id 0,q]))∨(bx[id]?=some (.cells 118 [.bp id 0,q])∧bx'=bx)):=by
 unfold ccP at h
 split at h
 · rename_i id
   split at h
   · rename_i t q hb
     split at h
     · rename_i ht
       subst ht
       injection h with h
       injection h with h1 h
       injection h with h2 h3
       exact ⟨id,q,rfl,h1.symm,h2.symm,.inl ⟨hb,h3.symm⟩⟩
     · cases h
   · rename_i t id' q hb
     split at h
     · rename_i ht
       obtain ⟨ht1,ht2⟩:=ht
       subst ht1 ht2
       injection h with h
       injection h with h1 h
       injection h with h2 h3
       exact ⟨_,q,rfl,h1.symm,h2.symm,.inr ⟨hb,h3.symm⟩⟩
     · cases h
   · cases h
 · cases h
theorem bstrP_inv {args:List PV} {bx bx':List PBox} {p:Bool} {v:PV} (h:bstrP args bx=some (p,v,bx')):∃ id q,args=[.bp id 0]∧p=false ∧
 ((bx[id]?=some (.cells 118 [q,.nils])∧v=.str []∧bx'=bx) ∨
  (∃ xs l,bx[id]?=some (.cells 118 [q,.osl 5 xs])∧xs≠[]∧xs.all byteV=true∧bytesOf xs=some l∧v=.str l∧bx'=bx.set id (.cells 118 [q,.sl xs]))):=by
 unfold bstrP at h
 split at h
 · rename_i id
   split at h
   · rename_i t q hb
     split at h
     · rename_i ht
       subst ht
       injection h with h
       injection h with h1 h
       injection h with h2 h3
       exact ⟨id,q,rfl,h1.symm,.inl ⟨hb,h2.symm,h3.symm⟩⟩
     · cases h
   · rename_i t q e xs hb
     split at h
     · rename_i ht
       obtain ⟨ht1,ht2,ht3,ht4⟩:=ht
       subst ht1 ht2
       obtain ⟨l,hl,h⟩:=Option.map_eq_some_iff.1 h
       injection h with h1 h
       injection h with h2 h3
       exact ⟨id,q,rfl,h1.symm,.inr ⟨xs,l,hb,(fun e=>by subst e;cases ht3),ht4,hl,h2.symm,h3.symm⟩⟩
     · cases h
   · cases h
 · cases h
theorem bytes_at:∀ (xs:List PV) (l:List UInt8),xs.all byteV=true->bytesOf xs=some l->xs=l.map fun b=>PV.int .u8 (b.toNat:Int)
 | [],l,_,h=>by injection h with h;subst h;rfl
 | v :: r,l,ha,h=>by
  simp only [List.all_cons,Bool.and_eq_true] at ha
  obtain ⟨hv,hr⟩:=ha
  unfold byteV at hv
  split at hv
  · rename_i n
    simp only [Bool.and_eq_true,decide_eq_true_eq] at hv
    unfold bytesOf at h
    obtain ⟨l',hl',rfl⟩:=Option.map_eq_some_iff.1 h
    have ih:=bytes_at r l' hr hl'
    rw [List.map_cons,<- ih]
    congr 2
    rw [UInt8.toNat_ofNat']
    omega
  · cases hv
theorem flat_bytes (l:List UInt8):flat (l.map fun b=>PV.int .u8 (b.toNat:Int))=l.map fun b=>PV.int .u8 (b.toNat:Int):=by
 induction l with
 | nil=>rfl
 | cons b r ih=>
  show PV.cells (PV.int .u8 (b.toNat:Int))++flat (r.map fun b=>PV.int .u8 (b.toNat:Int))=_
  rw [ih]
  rfl
theorem freeze_cell (w:World) (g n:Nat) (a:Addr):(w.drew.freeze ⟨g,0,none⟩ n).cell? a=w.cell? a:=by
 unfold World.freeze
 split
 · rfl
 · unfold World.cell?
   simp only [Array.getElem?_modify]
   by_cases h:g=a.block
   · rw [if_pos h]
     show (match Option.map _ (w.heap[a.block]?) with | some (Obj.cells c _ _)=>_ | _=>none)=_
     cases w.heap[a.block]? with
     | none=>rfl
     | some o=>
      cases o with
      | cells c e f=>obtain ⟨lo,hi⟩:=f;rfl
      | _=>rfl
   · rw [if_neg h]
     rfl
theorem freeze_other (w:World) (g n k:Nat) (h:k≠g):(w.drew.freeze ⟨g,0,none⟩ n).heap[k]?=w.heap[k]?:=by
 unfold World.freeze
 split
 · rfl
 · simp only
   rw [Array.getElem?_modify,if_neg (fun e=>h e.symm)]
   rfl
theorem freeze_size (w:World) (g n:Nat):(w.drew.freeze ⟨g,0,none⟩ n).heap.size=w.heap.size:=by
 unfold World.freeze
 split
 · rfl
 · simp only [Array.size_modify]
   rfl
theorem setCell_heap {w:World} {b:Nat} {c:Array Value} {t:TypeId} {f:Nat×Nat} (h:w.heap[b]?=some (.cells c t f)) (v:Value):(w.setCell ⟨b,0,none⟩ v).heap[b]?=some (.cells (c.setIfInBounds 0 v) t f):=by
 simp [World.setCell,Array.getElem?_modify,h]
theorem setCell_heap_other {w:World} {b k:Nat} (v:Value) (h:k≠b):(w.setCell ⟨b,0,none⟩ v).heap[k]?=w.heap[k]?:=by
 simp only [World.setCell,Array.getElem?_modify]
 rw [if_neg (fun e=>h e.symm)]
theorem two_of {c:Array Value} (h:c.size=2):∃ p q,c=#[p,q]:=⟨c[0],c[1],by apply Array.ext;simp [h];intro i h1 h2;match i with | 0=>rfl | 1=>rfl | n+2=>omega⟩
theorem repL_one' {S:Store} {M:List Nat} {p:PV} {vs:List Value} (h:RepL S M [p] vs):∃ v,vs=[v]∧Rep S M p v:=by
 match vs,h with
 | [v],h=>exact ⟨v,rfl,h.2 0 (by simp) (by simp)⟩
 | [],h=>have:=h.1;cases this
 | _ :: _ :: _,h=>have:=h.1;simp at this
theorem hb_cc (args:List PV) (bx:List PBox) (p:Bool) (v:PV) (bx':List PBox) (h:ccP args bx=some (p,v,bx')) :
 HasBody CC.P 95∧((∀ p ∈ args,∀ t xs,p≠.osl t xs) ->
  ∀ (B:Nat) (T:Nat->Prop) (S:Store) (M:List Nat) (vs:List Value) (w:World),HSim CC B T S M bx w->RepL S M args vs ->
   Calls CC.P 95 vs.toArray w fun e w'=>∃ S' M',HSim CC B T S' M' bx' w'∧Grows B T S w S' w'∧M <+: M'∧Outcome S' M' (if p then .pan v else .ret v) e):=by
 obtain ⟨id,q,rfl,rfl,rfl,hcase⟩:=ccP_inv h
 refine ⟨⟨Try.f95,_,Try.func95,by kernel_rfl,rfl⟩,fun hno B T S M vs w hs hrep=>?_⟩
 obtain ⟨u,rfl,hu⟩:=repL_one' hrep
 obtain ⟨b,hm,rfl⟩:=hu.bp_inv
 have hbx:∃ p0,bx[id]?=some (.cells 118 [p0,q]):=by
  rcases hcase with ⟨h1,_⟩ | ⟨h1,_⟩
  · exact ⟨_,h1⟩
  · exact ⟨_,h1⟩
 rcases hcase with ⟨hb,rfl⟩ | ⟨hb,rfl⟩
 · obtain ⟨b',c,hm',hh,hl,h1,hr⟩:=BoxAt.getT hs hb
   rw [hm] at hm'
   injection hm' with hm'
   subst hm'
   obtain ⟨c0,c1,rfl⟩:=two_of hl
   have r0:=hr 0 (by simp) (by simp)
   have r1:=hr 1 (by simp) (by simp)
   simp only [List.getElem_cons_zero,List.getElem_cons_succ,List.getElem_toArray] at r0 r1
   have e0:c0=.pointer none:=by cases r0;rfl
   subst e0
   refine (cc_fresh b w (by rw [cell_of_heap hh] <;> rfl) (by simp [World.shape?,hh]) (by simp [World.frozen?,hh])).mono ?_
   rintro e w' ⟨rfl,rfl⟩
   have hid:id < bx.length:=(List.getElem?_eq_some_iff.1 hb).1
   have hh':=setCell_heap hh (.pointer (some ⟨b,0,none⟩))
   have hbox:BoxAt S M (w.setCell ⟨b,0,none⟩ (.pointer (some ⟨b,0,none⟩))) (.cells 118 [.bp id 0,q]) b:=by
    refine .cells _ _ b _ hh' rfl (fun i hi=>?_) (fun i hi hi'=>?_)
    · match i,hi with
      | 0,_=>rfl
      | 1,hi=>exact h1 1 (by simp)
    · match i,hi with
      | 0,_=>exact .bp id 0 b hm
      | 1,_=>exact r1
   obtain ⟨g1,g2⟩:=Sim.setBoxObj hs hm hid hbox rfl rfl rfl (by simp [World.setCell]) (fun k hk=>setCell_heap_other _ hk) (fun t cs off e xs v hx hc hv=>by
    injection hx with _ hx
    subst hx
    match off,hc with
    | 0,hc=>cases hc
    | 1,hc=>
     left
     injection hc with hc
     subst hc
     refine ⟨_,b,by unfold boxCells;rw [hb],rfl,hm,?_⟩
     rw [cell_of_heap hh'] at hv
     rw [cell_of_heap hh]
     exact hv
    | n+2,hc=>cases hc)
   exact ⟨S,M,g1,g2,List.prefix_refl _,show Outcome S M (.ret (.tup [])) _ from ⟨fun t xs h=>(by cases h),_,rfl,.tup _ _ rfl (fun i h=>by simp at h)⟩⟩
 · obtain ⟨b',c,hm',hh,hl,h1,hr⟩:=BoxAt.getT hs hb
   rw [hm] at hm'
   injection hm' with hm'
   subst hm'
   obtain ⟨c0,c1,rfl⟩:=two_of hl
   have r0:=hr 0 (by simp) (by simp)
   simp only [List.getElem_cons_zero,List.getElem_toArray] at r0
   obtain ⟨b2,hm2,e0⟩:=r0.bp_inv
   rw [hm] at hm2
   injection hm2 with hm2
   subst hm2
   subst e0
   refine (cc_used b w (by rw [cell_of_heap hh] <;> rfl)).mono ?_
   rintro e w' ⟨rfl,rfl⟩
   exact ⟨S,M,hs,Grows.refl _ _ _ _,List.prefix_refl _,show Outcome S M (.ret (.tup [])) _ from ⟨fun t xs h=>(by cases h),_,rfl,.tup _ _ rfl (fun i h=>by simp at h)⟩⟩
theorem infoByte:∃ i,Try.prog.info? 5=some i∧i.size=1:=⟨(Try.prog.info? 5).getD default,by kernel_rfl,by kernel_rfl⟩
theorem hb_str (args:List PV) (bx:List PBox) (p:Bool) (v:PV) (bx':List PBox) (h:bstrP args bx=some (p,v,bx')) :
 HasBody CC.P 90∧((∀ p ∈ args,∀ t xs,p≠.osl t xs) ->
  ∀ (B:Nat) (T:Nat->Prop) (S:Store) (M:List Nat) (vs:List Value) (w:World),HSim CC B T S M bx w->RepL S M args vs ->
   Calls CC.P 90 vs.toArray w fun e w'=>∃ S' M',HSim CC B T S' M' bx' w'∧Grows B T S w S' w'∧M <+: M'∧Outcome S' M' (if p then .pan v else .ret v) e):=by
 obtain ⟨id,q,rfl,rfl,hcase⟩:=bstrP_inv h
 refine ⟨⟨Try.f90,_,Try.func90,by kernel_rfl,rfl⟩,fun hno B T S M vs w hs hrep=>?_⟩
 obtain ⟨u,rfl,hu⟩:=repL_one' hrep
 obtain ⟨b,hm,rfl⟩:=hu.bp_inv
 rcases hcase with ⟨hb,rfl,rfl⟩ | ⟨xs,l,hb,hne,hall,hby,rfl,rfl⟩
 · obtain ⟨b',c,hm',hh,hl,h1,hr⟩:=BoxAt.getT hs hb
   rw [hm] at hm'
   injection hm' with hm'
   subst hm'
   obtain ⟨c0,c1,rfl⟩:=two_of hl
   have r1:=hr 1 (by simp) (by simp)
   simp only [List.getElem_cons_zero,List.getElem_cons_succ,List.getElem_toArray] at r1
   have e1:c1=.slice none 0 0:=r1.nils_inv
   subst e1
   refine (bstr_nil Try.lays169 Try.Builder_Extra_169 b c0 w hh).mono ?_
   rintro e w' ⟨rfl,rfl⟩
   refine ⟨S,M,?_,?_,List.prefix_refl _,show Outcome S M (.ret (.str [])) _ from ⟨fun t xs h=>(by cases h),_,rfl,.str []⟩⟩
   · exact (Sim.touch hs none (fun k h=>by cases h) (fun _ _ _ _ _ _ _ h=>by cases h) (fun k h=>by cases h) (S':=S) (w':=w.drew) rfl rfl rfl (Nat.le_refl _) (fun _ _ _=>rfl) (Store.le.refl _) (fun _ _ _ _=>rfl) (fun b o v h=>hs.holds b o v h)).1
   · exact (Sim.touch hs none (fun k h=>by cases h) (fun _ _ _ _ _ _ _ h=>by cases h) (fun k h=>by cases h) (S':=S) (w':=w.drew) rfl rfl rfl (Nat.le_refl _) (fun _ _ _=>rfl) (Store.le.refl _) (fun _ _ _ _=>rfl) (fun b o v h=>hs.holds b o v h)).2
 · obtain ⟨b',c,hm',hh,hl,h1,hr⟩:=BoxAt.getT hs hb
   rw [hm] at hm'
   injection hm' with hm'
   subst hm'
   obtain ⟨c0,c1,rfl⟩:=two_of hl
   have r1:=hr 1 (by simp) (by simp)
   simp only [List.getElem_cons_zero,List.getElem_cons_succ,List.getElem_toArray] at r1
   have hbc:boxCells bx id=some [q,.osl 5 xs]:=by unfold boxCells;rw [hb]
   have hloc:LocAt ⟨[],bx⟩ M ⟨#[],[]⟩ w (.box id 1) (.osl 5 xs) c1:=⟨_,b,hbc,rfl,hm,by rw [cell_of_heap hh];rfl⟩
   obtain ⟨⟨i,vals,hi,hrow,hxs,hgM⟩,hBT⟩:=hs.own _ _ _ _ hloc
   obtain ⟨i',hi',hi1⟩:=infoByte
   have hii:i=i':=Option.some.inj (hi.symm.trans hi')
   subst hii
   rw [hi1] at hrow
   have hxl:=bytes_at xs l hall hby
   have hlen:xs.length=l.length:=by rw [hxl];simp
   have hl0:l≠[]:=fun e=>hne (by rw [hxl,e] <;> rfl)
   have hrs:Rep S M (.sl xs) c1:=by cases r1 with | osl _ _ _ h=>exact h
   rcases hrow.2 with ⟨hz,hz2⟩ | ⟨g,cap,cur,hv,_,hg,hnc,hcm,hcs,htake⟩
   · exfalso
     have:l.length=0:=by omega
     exact hl0 (List.length_eq_zero_iff.1 this)
   · subst hv
     have hat:∀ j x,l[j]?=some x->w.cell? ⟨g,j,none⟩=some (.int .u8 x.toNat):=by
      intro j x hj
      have hjl:j < l.length:=(List.getElem?_eq_some_iff.1 hj).1
      have hfl:flat xs=xs:=by rw [hxl];exact flat_bytes l
      generalize hval:Value.slice (some ⟨g,0,none⟩) xs.length cap=sv at hrs
      cases hrs with
      | slE=>exact absurd rfl hne
      | sl _ b0 o0 cap0 f0 hc hz hsS h1' hr'=>
       injection hval with hv1 hv2 hv3
       injection hv1 with hv1
       injection hv1 with hv4 hv5 hv6
       subst hv4
       subst hv5
       have hj':j < (flat xs).length:=by rw [hfl,hlen];exact hjl
       have a1:=hsS j hj'
       have a2:=hr' j hj'
       have a3:(flat xs)[j]?=some (.int .u8 (x.toNat:Int)):=by
        rw [hfl,hxl,List.getElem?_map,hj]
        rfl
       rw [List.getElem?_eq_getElem hj'] at a3
       injection a3 with a3
       rw [a3] at a2
       rw [Nat.zero_add] at a1
       have a4:=hs.holds _ _ _ a1
       generalize f0 j=fv at a2 a4
       cases a2 with
       | int=>exact a4
     rw [hlen] at hh hnc
     refine (bstr_row Try.lays169 Try.Builder_Extra_169 b g cap c0 cur (0,0) l w hl0 hnc hcm (by omega) hh hg hat).mono ?_
     rintro e w' ⟨rfl,rfl⟩
     have hval:locVal ⟨[],bx⟩ (.box id 1)=.osl 5 xs:=by unfold locVal;simp only [hbc];rfl
     obtain ⟨k1,k2⟩:=Sim.roLoc hs (.box id 1) hval
     have hst:setLoc ⟨[],bx⟩ (.box id 1) (.sl xs)=⟨[],bx.set id (.cells 118 [q,.sl xs])⟩:=by
      unfold setLoc setBox
      simp only [hb]
      rfl
     rw [hst] at k1 k2
     have hown:(Value.slice (some ⟨g,0,none⟩) xs.length cap).ownBlock=some g:=rfl
     have tt:=Sim.touch k1 (some g) (fun k h=>by injection h with h;subst h;exact (hgM g hown).1)
      (fun l' e' xs' v' k hl' hv' hgk=>by
       injection hgk with hgk
       subst hgk
       obtain ⟨m1,m2⟩:=k2 l' e' xs' v' hl'
       exact m2 (hs.apart _ _ _ _ _ _ _ _ g m1 hloc hv' hown))
      (fun k h=>by injection h with h;subst h;exact hBT g hown)
      (S':=S) (w':=w.drew.freeze ⟨g,0,none⟩ l.length) (by unfold World.freeze;split <;> rfl) (by unfold World.freeze;split <;> rfl) (by unfold World.freeze;split <;> rfl)
      (by rw [freeze_size];exact Nat.le_refl _) (fun k _ hk=>freeze_other w g l.length k (fun e=>hk (by rw [e]))) (Store.le.refl _) (fun _ _ _ _=>rfl)
      (fun b o v h=>by rw [freeze_cell];exact hs.holds b o v h)
     exact ⟨S,M,tt.1,tt.2,List.prefix_refl _,show Outcome S M (.ret (.str l)) _ from ⟨fun t xs h=>(by cases h),_,rfl,.str l⟩⟩
theorem hprimSound:HPrimSound CC:=by
 intro f g hg
 have hg':(if f=95 then some ccP else if f=90 then some bstrP else none)=some g:=hg
 split at hg'
 · rename_i h
   subst h
   injection hg' with hg'
   subst hg'
   exact hb_cc
 · split at hg'
   · rename_i h
     subst h
     injection hg' with hg'
     subst hg'
     exact hb_str
   · cases hg'
end Go.HH
