/-
  What the law needs, packed: PH PI PK PL PM PN.
-/
import Derived.Test.YthjcaihemgllaaaGreatDoorM37
namespace Go.HH
open Go Go.Proofs
set_option maxRecDepth 100000
set_option maxHeartbeats 4000000
set_option linter.unusedSimpArgs false
set_option linter.unusedVariables false
theorem okB_plain:fnOKB CC Tryz.f188 (Tryz.f188.body.getD .skip)=true:=by kernel_rfl
theorem noB_plain:fnOK CC Tryz.f188 (Tryz.f188.body.getD .skip)=false:=by kernel_rfl
theorem fat_plain:CC.P.funcs[188]?=some Tryz.f188:=by kernel_rfl
theorem draw_no_plain:drawOK CC (opsOf (fpart Tryz.f188 [1,1,0]))=false:=by kernel_rfl
theorem ords_plain:((orders (opsOf (fpart Tryz.f188 [1,1,0]))).all fun l=>(List.range (opsOf (fpart Tryz.f188 [1,1,0])).size).all fun j=>l.contains j)=true:=by kernel_rfl
theorem ordn_plain:(orders (opsOf (fpart Tryz.f188 [1,1,0]))).isEmpty=false:=by kernel_rfl
theorem size_plain:(opsOf (fpart Tryz.f188 [1,1,0])).size=13:=by kernel_rfl
def plL (bx:List PBox) (id:Nat) (L:List Tk) (i:Nat):List (Nat×Nat×PV):=[(0,8,.bp id 0),(1,9,.bp id 0),(2,10,.bp id 0),(3,11,.sl (tkVs L)),(4,12,.bp id 0),(5,13,.bp id 0),(6,14,.bp id 1),(7,15,.int .i64 (i:Int)),(8,16,.int .i64 ((i+1:Nat):Int)),(9,17,.ip [.int .i64 ((tokAt L (i+1)).1:Int),.str (tokAt L (i+1)).2.1,.int .i64 ((tokAt L (i+1)).2.2:Int)]),(10,18,.agg [.int .i64 ((tokAt L (i+1)).1:Int),.str (tokAt L (i+1)).2.1,.int .i64 ((tokAt L (i+1)).2.2:Int)]),(11,3,.bp bx.length 0)]
def plB (bx:List PBox) (id:Nat) (L:List Tk) (i o:Nat) (RL:PV) (D:Nat->Bool):List PBox:=BX bx id (PSR L i o RL) (if D 12 then [.cells 80 [.int .i64 ((tokAt L (i+1)).1:Int),.str (tokAt L (i+1)).2.1,.int .i64 ((tokAt L (i+1)).2.2:Int)]] else if D 11 then [.cells 80 [.int .i64 0,.str [],.int .i64 0]] else [])
theorem plL_pw (bx:List PBox) (id:Nat) (L:List Tk) (i:Nat):(plL bx id L i).Pairwise (fun x y=>x.1≠y.1∧x.2.1≠y.2.1):=by unfold plL;simp
theorem plB_get {bx:List PBox} {id:Nat} {L:List Tk} {i o:Nat} {RL:PV} {D:Nat->Bool} (hid:id < bx.length):(plB bx id L i o RL D)[id]?=some (PSR L i o RL):=BX_get hid
theorem draw_plain {bx:List PBox} {id:Nat} {L:List Tk} {i o:Nat} {RL:PV} (hR:RL.pure=true) (hT:TokOK L) (hid:id < bx.length) (hi2:i+1 < L.length) (e:List PV) (h0:getT e 0=.bp id 0) :
 ∃ e',drawAll CC (callL CC) (opsOf (fpart Tryz.f188 [1,1,0])) ⟨e,BX bx id (PSR L i o RL) []⟩=some (.normal,⟨e',BX bx id (PSR L i o RL) [.cells 80 [.int .i64 ((tokAt L (i+1)).1:Int),.str (tokAt L (i+1)).2.1,.int .i64 ((tokAt L (i+1)).2.2:Int)]]⟩)∧getT e' 0=.bp id 0∧getT e' 3=.bp bx.length 0:=by
 refine ⟨_,drawAll_states (e0:=e) (L:=plL bx id L i) (bxOf:=plB bx id L i o RL) ords_plain ordn_plain (fun D j op hop hD hdep hcl=>?_) (by unfold plB plL;simp [setsD]) (r:=⟨setsD e (fun _=>true) (plL bx id L i),BX bx id (PSR L i o RL) [.cells 80 [.int .i64 ((tokAt L (i+1)).1:Int),.str (tokAt L (i+1)).2.1,.int .i64 ((tokAt L (i+1)).2.2:Int)]]⟩) (fun D hD=>?_),?_,?_⟩
 · have pbp:pureL [PV.bp id 0]=false:=rfl
   have hcl12:D 12=true->D 11=true:=fun h=>hcl 12 _ rfl h ⟨11,.data⟩ (by simp [opsOf,fpart,part',Tryz.f188]) rfl
   have hj:j < 13:=by
    have:=(Array.getElem?_eq_some_iff.1 hop).1
    rw [size_plain] at this
    exact this
   have hw:IntKind.wrap .i64 ((i:Int)+1)=((i+1:Nat):Int):=by rw [wrap_i64 ⟨by omega,by have:=hT.len;omega⟩];omega
   have hg:=tok_get hi2
   unfold tkV at hg
   have hi0:¬ (((i+1:Nat):Int) < 0):=by omega
   have hn:((i+1:Nat):Int).toNat=i+1:=by omega
   have hpw:=plL_pw bx id L i
   have z0:getT (setsD e D (plL bx id L i)) 0=.bp id 0:=by rw [getT_off e D 0 _ (by unfold plL;simp)];exact h0
   have hget:=plB_get (L:=L) (i:=i) (o:=o) (RL:=RL) (D:=D) hid
   unfold PSR at hget
   have hlenB:D 11=false->D 12=false->(plB bx id L i o RL D).length=bx.length:=fun a b=>by unfold plB;rw [a,b];simp [BX_len]
   by_cases e0:j=0
   · subst e0
     simp only [opsOf,fpart,part',Tryz.f188,Option.getD,List.getElem?_toArray,List.getElem?_cons_succ,List.getElem?_cons_zero] at hop
     injection hop with hop
     subst hop
     refine ⟨rfl,fun al=>?_⟩
     rw [<- setsD_add e D 0 8 (.bp id 0) hD _ (by unfold plL;simp) hpw]
     have hb:plB bx id L i o RL (addD D 0)=plB bx id L i o RL D:=by unfold plB;rw [addD_ne (by decide),addD_ne (by decide)]
     rw [hb]
     generalize plB bx id L i o RL D=Bx at *
     generalize setsD e D (plL bx id L i)=E at *
     obtain ⟨ev,eo,so,co,⟨hev,hco,heo,hso⟩,R⟩:=RULES0 CC
     rw [<- hso]
     simp only [S9,R,seval,PY,PZ,pbp,z0,hget,hg,hi0,hn,hw,hid]
     exact ⟨_,rfl⟩
   by_cases e1:j=1
   · subst e1
     simp only [opsOf,fpart,part',Tryz.f188,Option.getD,List.getElem?_toArray,List.getElem?_cons_succ,List.getElem?_cons_zero] at hop
     injection hop with hop
     subst hop
     refine ⟨rfl,fun al=>?_⟩
     have d0:D 0=true:=hdep ⟨0,.data⟩ (by simp) rfl
     have z8:getT (setsD e D (plL bx id L i)) 8=.bp id 0:=getT_on e D 0 8 _ d0 _ (by unfold plL;simp) hpw
     rw [<- setsD_add e D 1 9 (.bp id 0) hD _ (by unfold plL;simp) hpw]
     have hb:plB bx id L i o RL (addD D 1)=plB bx id L i o RL D:=by unfold plB;rw [addD_ne (by decide),addD_ne (by decide)]
     rw [hb]
     generalize plB bx id L i o RL D=Bx at *
     generalize setsD e D (plL bx id L i)=E at *
     obtain ⟨ev,eo,so,co,⟨hev,hco,heo,hso⟩,R⟩:=RULES0 CC
     rw [<- hso]
     simp only [S9,R,seval,PY,PZ,pbp,z0,hget,hg,hi0,hn,hw,z8,hid]
     exact ⟨_,rfl⟩
   by_cases e2:j=2
   · subst e2
     simp only [opsOf,fpart,part',Tryz.f188,Option.getD,List.getElem?_toArray,List.getElem?_cons_succ,List.getElem?_cons_zero] at hop
     injection hop with hop
     subst hop
     refine ⟨rfl,fun al=>?_⟩
     have d1:D 1=true:=hdep ⟨1,.data⟩ (by simp) rfl
     have z9:getT (setsD e D (plL bx id L i)) 9=.bp id 0:=getT_on e D 1 9 _ d1 _ (by unfold plL;simp) hpw
     rw [<- setsD_add e D 2 10 (.bp id 0) hD _ (by unfold plL;simp) hpw]
     have hb:plB bx id L i o RL (addD D 2)=plB bx id L i o RL D:=by unfold plB;rw [addD_ne (by decide),addD_ne (by decide)]
     rw [hb]
     generalize plB bx id L i o RL D=Bx at *
     generalize setsD e D (plL bx id L i)=E at *
     obtain ⟨ev,eo,so,co,⟨hev,hco,heo,hso⟩,R⟩:=RULES0 CC
     rw [<- hso]
     simp only [S9,R,seval,PY,PZ,pbp,z0,hget,hg,hi0,hn,hw,z9,hid]
     exact ⟨_,rfl⟩
   by_cases e3:j=3
   · subst e3
     simp only [opsOf,fpart,part',Tryz.f188,Option.getD,List.getElem?_toArray,List.getElem?_cons_succ,List.getElem?_cons_zero] at hop
     injection hop with hop
     subst hop
     refine ⟨rfl,fun al=>?_⟩
     have d2:D 2=true:=hdep ⟨2,.data⟩ (by simp) rfl
     have z10:getT (setsD e D (plL bx id L i)) 10=.bp id 0:=getT_on e D 2 10 _ d2 _ (by unfold plL;simp) hpw
     rw [<- setsD_add e D 3 11 (.sl (tkVs L)) hD _ (by unfold plL;simp) hpw]
     have hb:plB bx id L i o RL (addD D 3)=plB bx id L i o RL D:=by unfold plB;rw [addD_ne (by decide),addD_ne (by decide)]
     rw [hb]
     generalize plB bx id L i o RL D=Bx at *
     generalize setsD e D (plL bx id L i)=E at *
     obtain ⟨ev,eo,so,co,⟨hev,hco,heo,hso⟩,R⟩:=RULES0 CC
     rw [<- hso]
     simp only [S9,R,seval,PY,PZ,pbp,z0,hget,hg,hi0,hn,hw,z10,hid]
     exact ⟨_,rfl⟩
   by_cases e4:j=4
   · subst e4
     simp only [opsOf,fpart,part',Tryz.f188,Option.getD,List.getElem?_toArray,List.getElem?_cons_succ,List.getElem?_cons_zero] at hop
     injection hop with hop
     subst hop
     refine ⟨rfl,fun al=>?_⟩
     rw [<- setsD_add e D 4 12 (.bp id 0) hD _ (by unfold plL;simp) hpw]
     have hb:plB bx id L i o RL (addD D 4)=plB bx id L i o RL D:=by unfold plB;rw [addD_ne (by decide),addD_ne (by decide)]
     rw [hb]
     generalize plB bx id L i o RL D=Bx at *
     generalize setsD e D (plL bx id L i)=E at *
     obtain ⟨ev,eo,so,co,⟨hev,hco,heo,hso⟩,R⟩:=RULES0 CC
     rw [<- hso]
     simp only [S9,R,seval,PY,PZ,pbp,z0,hget,hg,hi0,hn,hw,hid]
     exact ⟨_,rfl⟩
   by_cases e5:j=5
   · subst e5
     simp only [opsOf,fpart,part',Tryz.f188,Option.getD,List.getElem?_toArray,List.getElem?_cons_succ,List.getElem?_cons_zero] at hop
     injection hop with hop
     subst hop
     refine ⟨rfl,fun al=>?_⟩
     have d4:D 4=true:=hdep ⟨4,.data⟩ (by simp) rfl
     have z12:getT (setsD e D (plL bx id L i)) 12=.bp id 0:=getT_on e D 4 12 _ d4 _ (by unfold plL;simp) hpw
     rw [<- setsD_add e D 5 13 (.bp id 0) hD _ (by unfold plL;simp) hpw]
     have hb:plB bx id L i o RL (addD D 5)=plB bx id L i o RL D:=by unfold plB;rw [addD_ne (by decide),addD_ne (by decide)]
     rw [hb]
     generalize plB bx id L i o RL D=Bx at *
     generalize setsD e D (plL bx id L i)=E at *
     obtain ⟨ev,eo,so,co,⟨hev,hco,heo,hso⟩,R⟩:=RULES0 CC
     rw [<- hso]
     simp only [S9,R,seval,PY,PZ,pbp,z0,hget,hg,hi0,hn,hw,z12,hid]
     exact ⟨_,rfl⟩
   by_cases e6:j=6
   · subst e6
     simp only [opsOf,fpart,part',Tryz.f188,Option.getD,List.getElem?_toArray,List.getElem?_cons_succ,List.getElem?_cons_zero] at hop
     injection hop with hop
     subst hop
     refine ⟨rfl,fun al=>?_⟩
     have d5:D 5=true:=hdep ⟨5,.data⟩ (by simp) rfl
     have z13:getT (setsD e D (plL bx id L i)) 13=.bp id 0:=getT_on e D 5 13 _ d5 _ (by unfold plL;simp) hpw
     rw [<- setsD_add e D 6 14 (.bp id 1) hD _ (by unfold plL;simp) hpw]
     have hb:plB bx id L i o RL (addD D 6)=plB bx id L i o RL D:=by unfold plB;rw [addD_ne (by decide),addD_ne (by decide)]
     rw [hb]
     generalize plB bx id L i o RL D=Bx at *
     generalize setsD e D (plL bx id L i)=E at *
     obtain ⟨ev,eo,so,co,⟨hev,hco,heo,hso⟩,R⟩:=RULES0 CC
     rw [<- hso]
     simp only [S9,R,seval,PY,PZ,pbp,z0,hget,hg,hi0,hn,hw,z13,hid]
     exact ⟨_,rfl⟩
   by_cases e7:j=7
   · subst e7
     simp only [opsOf,fpart,part',Tryz.f188,Option.getD,List.getElem?_toArray,List.getElem?_cons_succ,List.getElem?_cons_zero] at hop
     injection hop with hop
     subst hop
     refine ⟨rfl,fun al=>?_⟩
     have d6:D 6=true:=hdep ⟨6,.data⟩ (by simp) rfl
     have z14:getT (setsD e D (plL bx id L i)) 14=.bp id 1:=getT_on e D 6 14 _ d6 _ (by unfold plL;simp) hpw
     rw [<- setsD_add e D 7 15 (.int .i64 (i:Int)) hD _ (by unfold plL;simp) hpw]
     have hb:plB bx id L i o RL (addD D 7)=plB bx id L i o RL D:=by unfold plB;rw [addD_ne (by decide),addD_ne (by decide)]
     rw [hb]
     generalize plB bx id L i o RL D=Bx at *
     generalize setsD e D (plL bx id L i)=E at *
     obtain ⟨ev,eo,so,co,⟨hev,hco,heo,hso⟩,R⟩:=RULES0 CC
     rw [<- hso]
     simp only [S9,R,seval,PY,PZ,pbp,z0,hget,hg,hi0,hn,hw,z14,hid]
     exact ⟨_,rfl⟩
   by_cases e8:j=8
   · subst e8
     simp only [opsOf,fpart,part',Tryz.f188,Option.getD,List.getElem?_toArray,List.getElem?_cons_succ,List.getElem?_cons_zero] at hop
     injection hop with hop
     subst hop
     refine ⟨rfl,fun al=>?_⟩
     have d7:D 7=true:=hdep ⟨7,.data⟩ (by simp) rfl
     have z15:getT (setsD e D (plL bx id L i)) 15=.int .i64 (i:Int):=getT_on e D 7 15 _ d7 _ (by unfold plL;simp) hpw
     rw [<- setsD_add e D 8 16 (.int .i64 ((i+1:Nat):Int)) hD _ (by unfold plL;simp) hpw]
     have hb:plB bx id L i o RL (addD D 8)=plB bx id L i o RL D:=by unfold plB;rw [addD_ne (by decide),addD_ne (by decide)]
     rw [hb]
     generalize plB bx id L i o RL D=Bx at *
     generalize setsD e D (plL bx id L i)=E at *
     obtain ⟨ev,eo,so,co,⟨hev,hco,heo,hso⟩,R⟩:=RULES0 CC
     rw [<- hso]
     simp only [S9,R,seval,PY,PZ,pbp,z0,hget,hg,hi0,hn,hw,z15,hid]
     exact ⟨_,rfl⟩
   by_cases e9:j=9
   · subst e9
     simp only [opsOf,fpart,part',Tryz.f188,Option.getD,List.getElem?_toArray,List.getElem?_cons_succ,List.getElem?_cons_zero] at hop
     injection hop with hop
     subst hop
     refine ⟨rfl,fun al=>?_⟩
     have d3:D 3=true:=hdep ⟨3,.data⟩ (by simp) rfl
     have z11:getT (setsD e D (plL bx id L i)) 11=.sl (tkVs L):=getT_on e D 3 11 _ d3 _ (by unfold plL;simp) hpw
     have d8:D 8=true:=hdep ⟨8,.data⟩ (by simp) rfl
     have z16:getT (setsD e D (plL bx id L i)) 16=.int .i64 ((i+1:Nat):Int):=getT_on e D 8 16 _ d8 _ (by unfold plL;simp) hpw
     rw [<- setsD_add e D 9 17 (.ip [.int .i64 ((tokAt L (i+1)).1:Int),.str (tokAt L (i+1)).2.1,.int .i64 ((tokAt L (i+1)).2.2:Int)]) hD _ (by unfold plL;simp) hpw]
     have hb:plB bx id L i o RL (addD D 9)=plB bx id L i o RL D:=by unfold plB;rw [addD_ne (by decide),addD_ne (by decide)]
     rw [hb]
     generalize plB bx id L i o RL D=Bx at *
     generalize setsD e D (plL bx id L i)=E at *
     obtain ⟨ev,eo,so,co,⟨hev,hco,heo,hso⟩,R⟩:=RULES0 CC
     rw [<- hso]
     simp only [S9,R,seval,PY,PZ,pbp,z0,hget,hg,hi0,hn,hw,z11,z16,hid]
     exact ⟨_,rfl⟩
   by_cases e10:j=10
   · subst e10
     simp only [opsOf,fpart,part',Tryz.f188,Option.getD,List.getElem?_toArray,List.getElem?_cons_succ,List.getElem?_cons_zero] at hop
     injection hop with hop
     subst hop
     refine ⟨rfl,fun al=>?_⟩
     have d9:D 9=true:=hdep ⟨9,.data⟩ (by simp) rfl
     have z17:getT (setsD e D (plL bx id L i)) 17=.ip [.int .i64 ((tokAt L (i+1)).1:Int),.str (tokAt L (i+1)).2.1,.int .i64 ((tokAt L (i+1)).2.2:Int)]:=getT_on e D 9 17 _ d9 _ (by unfold plL;simp) hpw
     rw [<- setsD_add e D 10 18 (.agg [.int .i64 ((tokAt L (i+1)).1:Int),.str (tokAt L (i+1)).2.1,.int .i64 ((tokAt L (i+1)).2.2:Int)]) hD _ (by unfold plL;simp) hpw]
     have hb:plB bx id L i o RL (addD D 10)=plB bx id L i o RL D:=by unfold plB;rw [addD_ne (by decide),addD_ne (by decide)]
     rw [hb]
     generalize plB bx id L i o RL D=Bx at *
     generalize setsD e D (plL bx id L i)=E at *
     obtain ⟨ev,eo,so,co,⟨hev,hco,heo,hso⟩,R⟩:=RULES0 CC
     rw [<- hso]
     simp only [S9,R,seval,PY,PZ,pbp,z0,hget,hg,hi0,hn,hw,z17,hid]
     exact ⟨_,rfl⟩
   by_cases e11:j=11
   · subst e11
     simp only [opsOf,fpart,part',Tryz.f188,Option.getD,List.getElem?_toArray,List.getElem?_cons_succ,List.getElem?_cons_zero] at hop
     injection hop with hop
     subst hop
     refine ⟨rfl,fun al=>?_⟩
     rw [<- setsD_add e D 11 3 (.bp bx.length 0) hD _ (by unfold plL;simp) hpw]
     have d12:D 12=false:=by
      cases h12:D 12 with
      | false=>rfl
      | true=>exact absurd (hcl12 h12) (by rw [hD];decide)
     have hl:=hlenB hD d12
     have hb:plB bx id L i o RL (addD D 11)=plB bx id L i o RL D++[.cells 80 [.int .i64 0,.str [],.int .i64 0]]:=by unfold plB;rw [addD_ne (by decide),addD_self,d12,hD];simp [BX_app]
     rw [hb]
     generalize plB bx id L i o RL D=Bx at *
     generalize setsD e D (plL bx id L i)=E at *
     obtain ⟨ev,eo,so,co,⟨hev,hco,heo,hso⟩,R⟩:=RULES0 CC
     rw [<- hso]
     simp only [S9,R,seval,PY,PZ,pbp,z0,hget,hg,hi0,hn,hw,hl,hid]
     exact ⟨_,rfl⟩
   by_cases e12:j=12
   · subst e12
     simp only [opsOf,fpart,part',Tryz.f188,Option.getD,List.getElem?_toArray,List.getElem?_cons_succ,List.getElem?_cons_zero] at hop
     injection hop with hop
     subst hop
     refine ⟨rfl,fun al=>?_⟩
     have d10:D 10=true:=hdep ⟨10,.data⟩ (by simp) rfl
     have z18:getT (setsD e D (plL bx id L i)) 18=.agg [.int .i64 ((tokAt L (i+1)).1:Int),.str (tokAt L (i+1)).2.1,.int .i64 ((tokAt L (i+1)).2.2:Int)]:=getT_on e D 10 18 _ d10 _ (by unfold plL;simp) hpw
     have d11:D 11=true:=hdep ⟨11,.data⟩ (by simp) rfl
     have z3:getT (setsD e D (plL bx id L i)) 3=.bp bx.length 0:=getT_on e D 11 3 _ d11 _ (by unfold plL;simp) hpw
     rw [setsD_skip e D 12 _ (by unfold plL;simp)]
     have hb:plB bx id L i o RL (addD D 12)=BX bx id (PSR L i o RL) [.cells 80 [.int .i64 ((tokAt L (i+1)).1:Int),.str (tokAt L (i+1)).2.1,.int .i64 ((tokAt L (i+1)).2.2:Int)]]:=by unfold plB;rw [addD_self];rfl
     have hb0:plB bx id L i o RL D=BX bx id (PSR L i o RL) [.cells 80 [.int .i64 0,.str [],.int .i64 0]]:=by unfold plB;rw [hD,d11];rfl
     rw [hb,hb0]
     generalize setsD e D (plL bx id L i)=E at *
     unfold PSR
     obtain ⟨ev,eo,so,co,⟨hev,hco,heo,hso⟩,R⟩:=RULES0 CC
     rw [<- hso]
     simp only [S9,R,seval,PY,PZ,pbp,z0,hget,hg,hi0,hn,hw,z18,z3,hid]
     exact ⟨_,rfl⟩
   omega
 · have hsz:=size_plain
   have hd:∀ j,j < 13->D j=true:=fun j hj=>hD j (by rw [hsz];exact hj)
   unfold plL plB
   simp only [setsD,hd 0 (by decide),hd 1 (by decide),hd 2 (by decide),hd 3 (by decide),hd 4 (by decide),hd 5 (by decide),hd 6 (by decide),hd 7 (by decide),hd 8 (by decide),hd 9 (by decide),hd 10 (by decide),hd 11 (by decide),hd 12 (by decide),if_true]
 · rw [getT_off e _ 0 _ (by unfold plL;simp)];exact h0
 · exact getT_on e _ 11 3 _ rfl _ (by unfold plL;simp) (plL_pw bx id L i)
end Go.HH
namespace Go.HH
open Go Go.Proofs
set_option maxRecDepth 100000
set_option maxHeartbeats 4000000
set_option linter.unusedSimpArgs false
set_option linter.unusedVariables false
theorem okc_plain {id:Nat} {L:List Tk} {i o:Nat} {RL:PV} (hR:RL.pure=true) (hi:i < L.length) (hT:TokOK L):OKc 188 [] id L RL i o (.bool (plainB L i)) i o:=by
 refine okc_of hR (fun n=>by simp [PV.under]) fun bx hid hc=>?_
 have pbp:pureL [PV.bp id 0]=false:=rfl
 have t0:=okc_use hid hc hR (okc_token (id:=id) (o:=o) hR hi)
 have hq:=natBne (tokAt L i).1 2
 rw [callL_enterB (fn:=Tryz.f188) (c:=Tryz.f188.body.getD .skip) rfl rfl fat_plain rfl noB_plain okB_plain (Nat.le_of_ble_eq_true rfl)]
 unfold plainB
 by_cases hk:(tokAt L i).1=2
 · have hi2:=next_lt hT hi (by rw [hk];decide)
   rw [beq_iff_eq.2 hk] at hq ⊢
   have hq:(((tokAt L i).1:Int) != 2)=false:=hq
   have hd:=fun e=>draw_plain (o:=o) (id:=id) hR hT hid hi2 e
   simp only [<- drawM_all draw_no_plain] at hd
   have hq4:=natBne (tokAt L (i+1)).1 4
   have hs:strP .neq (tokAt L (i+1)).2.1 [46]=some (.bool (!((tokAt L (i+1)).2.1 == [46]))):=rfl
   obtain ⟨dr,ev,eo,so,co,⟨hev,hco,heo,hdr⟩,R⟩:=RULESB CC
   rw [<- hev]
   rw [<- hco] at t0
   rw [<- hdr] at hd
   unfold PSR at hd ⊢
   simp only [opsOf,fpart,part',Tryz.f188,Option.getD] at hd ⊢
   simp only [S9,R,seval,PY,PZ,pbp,t0,hq,hid]
   generalize hE:dr _ _=z
   have hP:∃ e',z=some (.normal,⟨e',BX bx id (.cells 92 [.sl (tkVs L),.int .i64 ((i:Nat):Int),.int .i64 ((o:Nat):Int),RL]) [.cells 80 [.int .i64 ((tokAt L (i+1)).1:Int),.str (tokAt L (i+1)).2.1,.int .i64 ((tokAt L (i+1)).2.2:Int)]]⟩)∧getT e' 0=.bp id 0∧getT e' 3=.bp bx.length 0:=by
    rw [<- hE]
    refine hd _ ?_
    simp only [S7,R,seval]
   obtain ⟨e',he,g0,g3⟩:=hP
   subst he
   clear hE hd
   by_cases hk4:(tokAt L (i+1)).1=4
   · rw [beq_iff_eq.2 hk4] at hq4
     have hq4:(((tokAt L (i+1)).1:Int) != 4)=false:=hq4
     have hr:isT L 4 [46] (i+1)=((tokAt L (i+1)).2.1 == [46]):=by unfold isT;rw [beq_iff_eq.2 hk4];rfl
     rw [hr]
     simp only [S9,R,seval,PY,PZ,pbp,g0,g3,hq4,hs,Bool.true_and,hid]
     exact ⟨_,rfl⟩
   · rw [beq_eq_false_iff_ne.2 hk4] at hq4
     have hq4:(((tokAt L (i+1)).1:Int) != 4)=true:=hq4
     have hr:isT L 4 [46] (i+1)=false:=by unfold isT;rw [beq_eq_false_iff_ne.2 hk4];rfl
     rw [hr]
     simp only [S9,R,seval,PY,PZ,pbp,g0,g3,hq4,hs,Bool.true_and,hid]
     exact ⟨_,rfl⟩
 · rw [beq_eq_false_iff_ne.2 hk] at hq ⊢
   have hq:(((tokAt L i).1:Int) != 2)=true:=hq
   obtain ⟨dr,ev,eo,so,co,⟨hev,hco,heo,hdr⟩,R⟩:=RULESB CC
   rw [<- hev]
   rw [<- hco] at t0
   unfold PSR
   simp only [fpart,part',Tryz.f188,Option.getD]
   simp only [S9,R,seval,PY,PZ,pbp,t0,hq,Bool.false_and,hid]
   exact ⟨_,rfl⟩
end Go.HH
namespace Go.HH
open Go Go.Proofs
set_option maxRecDepth 100000
set_option maxHeartbeats 4000000
set_option linter.unusedSimpArgs false
set_option linter.unusedVariables false
def exC (t:Tr):List PV:=(trV t).cells
theorem trV_exC (t:Tr):trV t=.agg (exC t):=by cases t;unfold exC trV;rfl
theorem exC_len (t:Tr):(exC t).length=11:=by cases t;unfold exC trV;rfl
theorem exC_ro (t:Tr):(exC t).map PV.ro=exC t:=by cases t;unfold exC trV;rfl
theorem exC_seal (t:Tr):(exC t).map PV.seal1=exC t:=by cases t;unfold exC trV;rfl
theorem exC_one (t:Tr):(exC t).all PV.one=true:=by cases t;unfold exC trV;rfl
theorem exC_pure (t:Tr):pureL (exC t)=true:=by
 have:=trV_pure t
 rw [trV_exC] at this
 simpa [PV.pure] using this
theorem exC_under (n:Nat) (t:Tr):underL n (exC t)=true:=underL_of_pure n _ (exC_pure t)
theorem exC_take (t:Tr):(exC t).take 11=exC t:=List.take_of_length_le (by rw [exC_len];exact Nat.le_refl _)
theorem exC_drop (t:Tr):(exC t).drop 11=[]:=List.drop_of_length_le (by rw [exC_len];exact Nat.le_refl _)
theorem SX:(∀ t,(exC t).length=11)∧(∀ t,(exC t).map PV.ro=exC t)∧(∀ t,(exC t).map PV.seal1=exC t)∧(∀ t,(exC t).all PV.one=true)∧(∀ t,pureL (exC t)=true)∧(∀ n t,underL n (exC t)=true)∧(∀ t,(exC t).take 11=exC t)∧(∀ t,(exC t).drop 11=[])∧(∀ n x r,(PV.bp x r).under n=decide (x < n)):=
 ⟨exC_len,exC_ro,exC_seal,exC_one,exC_pure,exC_under,exC_take,exC_drop,fun _ _ _=>by simp [PV.under]⟩
noncomputable def IE:TypeInfo:=(Tryz.prog.info? 29).getD default
theorem sealE (t:Tr):sealNew true 11 (.agg (exC t))=some (.agg (exC t)):=by
 unfold sealNew
 simp only [PV.shutV,exC_seal,exC_len]
 rfl
theorem bsF:tZero CC 29=some (.agg zeroE)∧CC.P.info? 29=some IE∧IE.size=11∧CC.P.underlying 27=some (.slice 29)∧tAgg CC 29=true∧(PV.agg zeroE).cells.length=11∧(PV.agg zeroE).val=true:=⟨by kernel_rfl,by kernel_rfl,by kernel_rfl,by kernel_rfl,by kernel_rfl,rfl,by kernel_rfl⟩
theorem bsE1 (a:Tr):buildSliceP CC 27 1 [(0,.agg (exC a))]=some (.osl 29 [.agg (exC a)]):=by
 obtain ⟨hz,hi,hs,hu,ht,hl,hv⟩:=bsF
 unfold buildSliceP
 simp only [hu,hz,hi,hs,ht,hl,hv,List.foldlM_cons,List.foldlM_nil,sealE]
 rfl
theorem bsE2 (a b:Tr):buildSliceP CC 27 2 [(0,.agg (exC a)),(1,.agg (exC b))]=some (.osl 29 [.agg (exC a),.agg (exC b)]):=by
 obtain ⟨hz,hi,hs,hu,ht,hl,hv⟩:=bsF
 unfold buildSliceP
 simp only [hu,hz,hi,hs,ht,hl,hv,List.foldlM_cons,List.foldlM_nil,sealE]
 rfl
theorem bsE3 (a b c:Tr):buildSliceP CC 27 3 [(0,.agg (exC a)),(1,.agg (exC b)),(2,.agg (exC c))]=some (.osl 29 [.agg (exC a),.agg (exC b),.agg (exC c)]):=by
 obtain ⟨hz,hi,hs,hu,ht,hl,hv⟩:=bsF
 unfold buildSliceP
 simp only [hu,hz,hi,hs,ht,hl,hv,List.foldlM_cons,List.foldlM_nil,sealE]
 rfl
theorem trVs_exC:∀ l:List Tr,trVs l=l.map fun t=>PV.agg (exC t)
 | []=>by unfold trVs;rfl
 | t :: r=>by unfold trVs;rw [trVs_exC r,trV_exC];rfl
theorem nodE (k:Int) (l:List Tr) (bx):callOp CC (callL CC) 141 [.int .i64 k,.sl (l.map fun t=>PV.agg (exC t))] bx=some (.ret (.agg (exC (nodT k l))),bx):=by
 have:=op_parse_node k l bx
 rw [trVs_exC,trV_exC] at this
 exact this
theorem nod1 (k:Int) (a:Tr) (bx):callOp CC (callL CC) 141 [.int .i64 k,.sl [.agg (exC a)]] bx=some (.ret (.agg (exC (nodT k [a]))),bx):=nodE k [a] bx
theorem nod2 (k:Int) (a b:Tr) (bx):callOp CC (callL CC) 141 [.int .i64 k,.sl [.agg (exC a),.agg (exC b)]] bx=some (.ret (.agg (exC (nodT k [a,b]))),bx):=nodE k [a,b] bx
theorem nod3 (k:Int) (a b c:Tr) (bx):callOp CC (callL CC) 141 [.int .i64 k,.sl [.agg (exC a),.agg (exC b),.agg (exC c)]] bx=some (.ret (.agg (exC (nodT k [a,b,c]))),bx):=nodE k [a,b,c] bx
theorem litE (k n:Int) (bx):callOp CC (callL CC) 104 [.int .i64 k,.int .i64 n] bx=some (.ret (.agg (exC (litT k n))),bx):=by rw [<- trV_exC];exact op_parse_literal k n bx
theorem normP_normal (st:St):normP (some (.normal,st))=some (.normal,st):=rfl
theorem normP_pan (v:PV) (st:St):normP (some (.pan v,st))=some (.pan v,⟨[],st.bx⟩):=rfl
theorem setT_srt (e:List PV) (i j:Nat) (a b:PV) (h:j < i):setT (setT e i a) j b=setT (setT e j b) i a:=setT_swap e i j a b (by omega)
theorem evB_at {L:Code} (b:Code) (h:L=.loop b) (st:St):evB CC L st=thenE (evB CC b st) (evB CC L):=by
 subst h
 exact evLB_loop true b st
end Go.HH
namespace Go.HH
open Go Go.Proofs
set_option maxRecDepth 100000
set_option maxHeartbeats 4000000
set_option linter.unusedSimpArgs false
set_option linter.unusedVariables false
theorem no_prod:drawOK CC (opsOf (fpart Tryz.f178 [1,1,0,0,0,1,0]))=false:=by kernel_rfl
theorem ord_prod:orders (opsOf (fpart Tryz.f178 [1,1,0,0,0,1,0]))=[[0,1,2,3,4,5],[1,0,2,3,4,5],[1,2,0,3,4,5]]:=by kernel_rfl
theorem draw_prod_ok {bx:List PBox} {id:Nat} {L:List Tk} {i o:Nat} {RL:PV} (hR:RL.pure=true) (a b:Tr) {j:Nat} (hid:id < bx.length) (hc:clB bx)  (e:List PV) (g0:getT e 0=.bp id 0) (g3:getT e 3=.bp (bx.length+1) 0) (t1:∀ ys:List PBox,(ys.all fun x=>x.under (bx.length+ys.length))=true->callOp CC (callL CC) 184 [.bp id 0] (BX bx id (.cells 92 [.sl (tkVs L),.int .i64 ((i:Nat):Int),.int .i64 ((o:Nat):Int),RL]) ys)=some (.ret (.agg (exC b)),BX bx id (.cells 92 [.sl (tkVs L),.int .i64 ((j:Nat):Int),.int .i64 ((o:Nat):Int),RL]) ys)) :
 drawAll CC (callL CC) (opsOf (fpart Tryz.f178 [1,1,0,0,0,1,0])) ⟨e,BX bx id (PSR L i o RL) [.cells 29 [.int .i64 0,.int .i64 0,.int .i64 0,.str [],.int .i64 0,.int .i64 0,.str [],.int .i64 0,.str [],.str [],.nils],.cells 29 (exC a)]⟩=some (.normal,⟨(setT (setT (setT (setT (setT e 8 (.agg (exC a))) 9 (.bp id 0)) 10 (.agg (exC b))) 11 (.osl 29 [.agg (exC a),.agg (exC b)])) 12 (.agg (exC (nodT 13 [a,b])))),BX bx id (PSR L j o RL) [.cells 29 [.int .i64 0,.int .i64 0,.int .i64 0,.str [],.int .i64 0,.int .i64 0,.str [],.int .i64 0,.str [],.str [],.nils],.cells 29 (exC (nodT 13 [a,b]))]⟩):=by
 have hb:=bsE2 a b
 have hn:=nod2 13 a b
 refine drawAll_iff.2 ⟨by rw [ord_prod];simp,fun l hl=>?_⟩
 rw [ord_prod] at hl
 have pbp:pureL [PV.bp id 0]=false:=rfl
 unfold PSR
 obtain ⟨dr,ev,eo,so,co,⟨hev,hco,heo,hdr⟩,R⟩:=RULESB CC
 rw [<- heo]
 rw [<- hco] at t1 hn
 simp only [List.mem_cons,List.not_mem_nil,or_false] at hl
 rcases hl with rfl | rfl | rfl
 all_goals
  simp only [opsOf,fpart,part',Tryz.f178,Option.getD,pickOps,List.filterMap_cons,List.filterMap_nil,List.getElem?_toArray,List.getElem?_cons_succ,List.getElem?_cons_zero]
  simp only [S9,R,seval,PY,PZ,pbp,g0,g3,SX,normP_normal,normP_pan,t1,hb,hn,hid]
  try simp only [setT_srt,Nat.reduceLT]
theorem draw_prod_bad {bx:List PBox} {id:Nat} {L:List Tk} {i o:Nat} {RL:PV} (hR:RL.pure=true) (a:Tr) {t:Nat} {c:Int} {i' o':Nat} (hid:id < bx.length) (hc:clB bx)  (e:List PV) (g0:getT e 0=.bp id 0) (g3:getT e 3=.bp (bx.length+1) 0) (t1:∀ ys:List PBox,(ys.all fun x=>x.under (bx.length+ys.length))=true->callOp CC (callL CC) 184 [.bp id 0] (BX bx id (.cells 92 [.sl (tkVs L),.int .i64 ((i:Nat):Int),.int .i64 ((o:Nat):Int),RL]) ys)=some (.pan (fltV t c),BX bx id (.cells 92 [.sl (tkVs L),.int .i64 ((i':Nat):Int),.int .i64 ((o':Nat):Int),RL]) ys)) :
 drawAll CC (callL CC) (opsOf (fpart Tryz.f178 [1,1,0,0,0,1,0])) ⟨e,BX bx id (PSR L i o RL) [.cells 29 [.int .i64 0,.int .i64 0,.int .i64 0,.str [],.int .i64 0,.int .i64 0,.str [],.int .i64 0,.str [],.str [],.nils],.cells 29 (exC a)]⟩=some (.pan (fltV t c),⟨[],BX bx id (PSR L i' o' RL) [.cells 29 [.int .i64 0,.int .i64 0,.int .i64 0,.str [],.int .i64 0,.int .i64 0,.str [],.int .i64 0,.str [],.str [],.nils],.cells 29 (exC a)]⟩):=by
 refine drawAll_iff.2 ⟨by rw [ord_prod];simp,fun l hl=>?_⟩
 rw [ord_prod] at hl
 have pbp:pureL [PV.bp id 0]=false:=rfl
 unfold PSR
 obtain ⟨dr,ev,eo,so,co,⟨hev,hco,heo,hdr⟩,R⟩:=RULESB CC
 rw [<- heo]
 rw [<- hco] at t1
 simp only [List.mem_cons,List.not_mem_nil,or_false] at hl
 rcases hl with rfl | rfl | rfl
 all_goals
  simp only [opsOf,fpart,part',Tryz.f178,Option.getD,pickOps,List.filterMap_cons,List.filterMap_nil,List.getElem?_toArray,List.getElem?_cons_succ,List.getElem?_cons_zero]
  simp only [S9,R,seval,PY,PZ,pbp,g0,g3,SX,normP_normal,normP_pan,t1,hid]
theorem no_sumA:drawOK CC (opsOf (fpart Tryz.f171 [1,1,0,0,0,0,1,0]))=false:=by kernel_rfl
theorem ord_sumA:orders (opsOf (fpart Tryz.f171 [1,1,0,0,0,0,1,0]))=[[0,1,2,3,4,5],[1,0,2,3,4,5],[1,2,0,3,4,5]]:=by kernel_rfl
theorem draw_sumA_ok {bx:List PBox} {id:Nat} {L:List Tk} {i o:Nat} {RL:PV} (hR:RL.pure=true) (a b:Tr) {j:Nat} (hid:id < bx.length) (hc:clB bx)  (e:List PV) (g0:getT e 0=.bp id 0) (g3:getT e 3=.bp (bx.length+1) 0) (t1:∀ ys:List PBox,(ys.all fun x=>x.under (bx.length+ys.length))=true->callOp CC (callL CC) 178 [.bp id 0] (BX bx id (.cells 92 [.sl (tkVs L),.int .i64 ((i:Nat):Int),.int .i64 ((o:Nat):Int),RL]) ys)=some (.ret (.agg (exC b)),BX bx id (.cells 92 [.sl (tkVs L),.int .i64 ((j:Nat):Int),.int .i64 ((o:Nat):Int),RL]) ys)) :
 drawAll CC (callL CC) (opsOf (fpart Tryz.f171 [1,1,0,0,0,0,1,0])) ⟨e,BX bx id (PSR L i o RL) [.cells 29 [.int .i64 0,.int .i64 0,.int .i64 0,.str [],.int .i64 0,.int .i64 0,.str [],.int .i64 0,.str [],.str [],.nils],.cells 29 (exC a)]⟩=some (.normal,⟨(setT (setT (setT (setT (setT e 10 (.agg (exC a))) 11 (.bp id 0)) 12 (.agg (exC b))) 13 (.osl 29 [.agg (exC a),.agg (exC b)])) 14 (.agg (exC (nodT 11 [a,b])))),BX bx id (PSR L j o RL) [.cells 29 [.int .i64 0,.int .i64 0,.int .i64 0,.str [],.int .i64 0,.int .i64 0,.str [],.int .i64 0,.str [],.str [],.nils],.cells 29 (exC (nodT 11 [a,b]))]⟩):=by
 have hb:=bsE2 a b
 have hn:=nod2 11 a b
 refine drawAll_iff.2 ⟨by rw [ord_sumA];simp,fun l hl=>?_⟩
 rw [ord_sumA] at hl
 have pbp:pureL [PV.bp id 0]=false:=rfl
 unfold PSR
 obtain ⟨dr,ev,eo,so,co,⟨hev,hco,heo,hdr⟩,R⟩:=RULESB CC
 rw [<- heo]
 rw [<- hco] at t1 hn
 simp only [List.mem_cons,List.not_mem_nil,or_false] at hl
 rcases hl with rfl | rfl | rfl
 all_goals
  simp only [opsOf,fpart,part',Tryz.f171,Option.getD,pickOps,List.filterMap_cons,List.filterMap_nil,List.getElem?_toArray,List.getElem?_cons_succ,List.getElem?_cons_zero]
  simp only [S9,R,seval,PY,PZ,pbp,g0,g3,SX,normP_normal,normP_pan,t1,hb,hn,hid]
  try simp only [setT_srt,Nat.reduceLT]
theorem draw_sumA_bad {bx:List PBox} {id:Nat} {L:List Tk} {i o:Nat} {RL:PV} (hR:RL.pure=true) (a:Tr) {t:Nat} {c:Int} {i' o':Nat} (hid:id < bx.length) (hc:clB bx)  (e:List PV) (g0:getT e 0=.bp id 0) (g3:getT e 3=.bp (bx.length+1) 0) (t1:∀ ys:List PBox,(ys.all fun x=>x.under (bx.length+ys.length))=true->callOp CC (callL CC) 178 [.bp id 0] (BX bx id (.cells 92 [.sl (tkVs L),.int .i64 ((i:Nat):Int),.int .i64 ((o:Nat):Int),RL]) ys)=some (.pan (fltV t c),BX bx id (.cells 92 [.sl (tkVs L),.int .i64 ((i':Nat):Int),.int .i64 ((o':Nat):Int),RL]) ys)) :
 drawAll CC (callL CC) (opsOf (fpart Tryz.f171 [1,1,0,0,0,0,1,0])) ⟨e,BX bx id (PSR L i o RL) [.cells 29 [.int .i64 0,.int .i64 0,.int .i64 0,.str [],.int .i64 0,.int .i64 0,.str [],.int .i64 0,.str [],.str [],.nils],.cells 29 (exC a)]⟩=some (.pan (fltV t c),⟨[],BX bx id (PSR L i' o' RL) [.cells 29 [.int .i64 0,.int .i64 0,.int .i64 0,.str [],.int .i64 0,.int .i64 0,.str [],.int .i64 0,.str [],.str [],.nils],.cells 29 (exC a)]⟩):=by
 refine drawAll_iff.2 ⟨by rw [ord_sumA];simp,fun l hl=>?_⟩
 rw [ord_sumA] at hl
 have pbp:pureL [PV.bp id 0]=false:=rfl
 unfold PSR
 obtain ⟨dr,ev,eo,so,co,⟨hev,hco,heo,hdr⟩,R⟩:=RULESB CC
 rw [<- heo]
 rw [<- hco] at t1
 simp only [List.mem_cons,List.not_mem_nil,or_false] at hl
 rcases hl with rfl | rfl | rfl
 all_goals
  simp only [opsOf,fpart,part',Tryz.f171,Option.getD,pickOps,List.filterMap_cons,List.filterMap_nil,List.getElem?_toArray,List.getElem?_cons_succ,List.getElem?_cons_zero]
  simp only [S9,R,seval,PY,PZ,pbp,g0,g3,SX,normP_normal,normP_pan,t1,hid]
theorem no_sumB:drawOK CC (opsOf (fpart Tryz.f171 [1,1,0,0,0,0,1,1,1,0]))=false:=by kernel_rfl
theorem ord_sumB:orders (opsOf (fpart Tryz.f171 [1,1,0,0,0,0,1,1,1,0]))=[[0,1,2,3,4,5],[1,0,2,3,4,5],[1,2,0,3,4,5]]:=by kernel_rfl
theorem draw_sumB_ok {bx:List PBox} {id:Nat} {L:List Tk} {i o:Nat} {RL:PV} (hR:RL.pure=true) (a b:Tr) {j:Nat} (hid:id < bx.length) (hc:clB bx)  (e:List PV) (g0:getT e 0=.bp id 0) (g3:getT e 3=.bp (bx.length+1) 0) (t1:∀ ys:List PBox,(ys.all fun x=>x.under (bx.length+ys.length))=true->callOp CC (callL CC) 178 [.bp id 0] (BX bx id (.cells 92 [.sl (tkVs L),.int .i64 ((i:Nat):Int),.int .i64 ((o:Nat):Int),RL]) ys)=some (.ret (.agg (exC b)),BX bx id (.cells 92 [.sl (tkVs L),.int .i64 ((j:Nat):Int),.int .i64 ((o:Nat):Int),RL]) ys)) :
 drawAll CC (callL CC) (opsOf (fpart Tryz.f171 [1,1,0,0,0,0,1,1,1,0])) ⟨e,BX bx id (PSR L i o RL) [.cells 29 [.int .i64 0,.int .i64 0,.int .i64 0,.str [],.int .i64 0,.int .i64 0,.str [],.int .i64 0,.str [],.str [],.nils],.cells 29 (exC a)]⟩=some (.normal,⟨(setT (setT (setT (setT (setT e 18 (.agg (exC a))) 19 (.bp id 0)) 20 (.agg (exC b))) 21 (.osl 29 [.agg (exC a),.agg (exC b)])) 22 (.agg (exC (nodT 12 [a,b])))),BX bx id (PSR L j o RL) [.cells 29 [.int .i64 0,.int .i64 0,.int .i64 0,.str [],.int .i64 0,.int .i64 0,.str [],.int .i64 0,.str [],.str [],.nils],.cells 29 (exC (nodT 12 [a,b]))]⟩):=by
 have hb:=bsE2 a b
 have hn:=nod2 12 a b
 refine drawAll_iff.2 ⟨by rw [ord_sumB];simp,fun l hl=>?_⟩
 rw [ord_sumB] at hl
 have pbp:pureL [PV.bp id 0]=false:=rfl
 unfold PSR
 obtain ⟨dr,ev,eo,so,co,⟨hev,hco,heo,hdr⟩,R⟩:=RULESB CC
 rw [<- heo]
 rw [<- hco] at t1 hn
 simp only [List.mem_cons,List.not_mem_nil,or_false] at hl
 rcases hl with rfl | rfl | rfl
 all_goals
  simp only [opsOf,fpart,part',Tryz.f171,Option.getD,pickOps,List.filterMap_cons,List.filterMap_nil,List.getElem?_toArray,List.getElem?_cons_succ,List.getElem?_cons_zero]
  simp only [S9,R,seval,PY,PZ,pbp,g0,g3,SX,normP_normal,normP_pan,t1,hb,hn,hid]
  try simp only [setT_srt,Nat.reduceLT]
theorem draw_sumB_bad {bx:List PBox} {id:Nat} {L:List Tk} {i o:Nat} {RL:PV} (hR:RL.pure=true) (a:Tr) {t:Nat} {c:Int} {i' o':Nat} (hid:id < bx.length) (hc:clB bx)  (e:List PV) (g0:getT e 0=.bp id 0) (g3:getT e 3=.bp (bx.length+1) 0) (t1:∀ ys:List PBox,(ys.all fun x=>x.under (bx.length+ys.length))=true->callOp CC (callL CC) 178 [.bp id 0] (BX bx id (.cells 92 [.sl (tkVs L),.int .i64 ((i:Nat):Int),.int .i64 ((o:Nat):Int),RL]) ys)=some (.pan (fltV t c),BX bx id (.cells 92 [.sl (tkVs L),.int .i64 ((i':Nat):Int),.int .i64 ((o':Nat):Int),RL]) ys)) :
 drawAll CC (callL CC) (opsOf (fpart Tryz.f171 [1,1,0,0,0,0,1,1,1,0])) ⟨e,BX bx id (PSR L i o RL) [.cells 29 [.int .i64 0,.int .i64 0,.int .i64 0,.str [],.int .i64 0,.int .i64 0,.str [],.int .i64 0,.str [],.str [],.nils],.cells 29 (exC a)]⟩=some (.pan (fltV t c),⟨[],BX bx id (PSR L i' o' RL) [.cells 29 [.int .i64 0,.int .i64 0,.int .i64 0,.str [],.int .i64 0,.int .i64 0,.str [],.int .i64 0,.str [],.str [],.nils],.cells 29 (exC a)]⟩):=by
 refine drawAll_iff.2 ⟨by rw [ord_sumB];simp,fun l hl=>?_⟩
 rw [ord_sumB] at hl
 have pbp:pureL [PV.bp id 0]=false:=rfl
 unfold PSR
 obtain ⟨dr,ev,eo,so,co,⟨hev,hco,heo,hdr⟩,R⟩:=RULESB CC
 rw [<- heo]
 rw [<- hco] at t1
 simp only [List.mem_cons,List.not_mem_nil,or_false] at hl
 rcases hl with rfl | rfl | rfl
 all_goals
  simp only [opsOf,fpart,part',Tryz.f171,Option.getD,pickOps,List.filterMap_cons,List.filterMap_nil,List.getElem?_toArray,List.getElem?_cons_succ,List.getElem?_cons_zero]
  simp only [S9,R,seval,PY,PZ,pbp,g0,g3,SX,normP_normal,normP_pan,t1,hid]
end Go.HH
namespace Go.HH
open Go Go.Proofs
set_option maxRecDepth 100000
set_option maxHeartbeats 4000000
set_option linter.unusedSimpArgs false
set_option linter.unusedVariables false
theorem condP_lt {L:List Tk} {i:Nat} {a:Tr} {j:Nat} (hT:TokOK L) (hi:i < L.length) (h:condP L i=.ok a j):i < j∧j < L.length:=by
 unfold condP at h
 split at h
 · rename_i hk
   injection h with _ h
   have:=isT_lt hT hi hk (by decide)
   omega
 split at h
 · rename_i hk
   injection h with _ h
   have:=isT_lt hT hi hk (by decide)
   omega
 split at h
 · rename_i hk
   have h0:=isT_lt hT hi hk (by decide)
   obtain ⟨_,i1,r1,h⟩:=bind_ok h
   obtain ⟨_,i2,r2,h⟩:=bind_ok h
   injection h with _ h
   have h1:=mustP_lt hT h0 (by decide) r1
   have h2:=nameP_lt hT h1.2 r2
   omega
 split at h
 · rename_i hk
   have h0:=isT_lt hT hi hk (by decide)
   obtain ⟨_,i1,r1,h⟩:=bind_ok h
   obtain ⟨_,i2,r2,h⟩:=bind_ok h
   obtain ⟨_,i3,r3,h⟩:=bind_ok h
   injection h with _ h
   have h1:=clockP_lt hT h0 r1
   have h2:=mustP_lt hT h1.2.1 (by decide) r2
   have h3:=clockP_lt hT h2.2 r3
   omega
 split at h
 · rename_i hk
   have h0:=isT_lt hT hi hk (by decide)
   obtain ⟨_,i1,r1,h⟩:=bind_ok h
   injection h with _ h
   have h1:=daysP_lt hT h0 r1
   omega
 split at h
 · rename_i hk
   have h0:=isT_lt hT hi hk (by decide)
   split at h
   · rename_i k hp
     injection h with _ h
     obtain ⟨_,_,h4⟩:=pickW_lt hp
     have:=isT_lt hT h0 h4 (by decide)
     omega
   · injection h with _ h
     omega
 · cases h
theorem pz_lt {L:List Tk} (hT:TokOK L):∀ (n:Nat) (nt:NT) (o i:Nat) (a:Tr) (j:Nat),i < L.length->pz L n nt o i=.ok a j->i<=j∧j < L.length:=by
 intro n
 induction n with
 | zero=>intro nt o i a j hi h;cases h
 | succ n ih=>
  intro nt o i a j hi h
  cases nt with
  | expr=>
   rw [pz] at h
   split at h
   · rename_i hk
     have h0:=isT_lt hT hi hk (by decide)
     split at h
     · obtain ⟨_,i1,r1,h⟩:=bind_ok h
       obtain ⟨_,i2,r2,h⟩:=bind_ok h
       obtain ⟨_,i3,r3,h⟩:=bind_ok h
       obtain ⟨_,i4,r4,h⟩:=bind_ok h
       obtain ⟨_,i5,r5,h⟩:=bind_ok h
       injection h with _ h
       have h1:=ih _ _ _ _ _ h0 r1
       have h2:=mustP_lt hT h1.2 (by decide) r2
       have h3:=ih _ _ _ _ _ h2.2 r3
       have h4:=mustP_lt hT h3.2 (by decide) r4
       have h5:=ih _ _ _ _ _ h4.2 r5
       omega
     · cases h
   · exact ih _ _ _ _ _ hi h
  | chain b=>
   rw [pz] at h
   obtain ⟨_,i1,r1,h⟩:=bind_ok h
   have h1:=ih _ _ _ _ _ hi r1
   have h2:=ih _ _ _ _ _ h1.2 h
   omega
  | chainL b acc=>
   rw [pz] at h
   split at h
   · rename_i hk
     have h0:=isT_lt hT hi hk (by decide)
     split at h
     · cases h
     · obtain ⟨_,i1,r1,h⟩:=bind_ok h
       have h1:=ih _ _ _ _ _ h0 r1
       have h2:=ih _ _ _ _ _ h1.2 h
       omega
   · injection h with _ h;omega
  | not=>
   rw [pz] at h
   split at h
   · rename_i hk
     have h0:=isT_lt hT hi hk (by decide)
     split at h
     · obtain ⟨_,i1,r1,h⟩:=bind_ok h
       injection h with _ h
       have h1:=ih _ _ _ _ _ h0 r1
       omega
     · cases h
   · exact ih _ _ _ _ _ hi h
  | cmp=>
   rw [pz] at h
   obtain ⟨_,i1,r1,h⟩:=bind_ok h
   have h1:=ih _ _ _ _ _ hi r1
   split at h
   · rename_i k hp
     obtain ⟨_,_,h4⟩:=pickW_lt hp
     have h0:=isT_lt hT h1.2 h4 (by decide)
     obtain ⟨_,i2,r2,h⟩:=bind_ok h
     injection h with _ h
     have h2:=ih _ _ _ _ _ h0 r2
     omega
   · injection h with _ h;omega
  | sum=>
   rw [pz] at h
   obtain ⟨_,i1,r1,h⟩:=bind_ok h
   have h1:=ih _ _ _ _ _ hi r1
   have h2:=ih _ _ _ _ _ h1.2 h
   omega
  | sumL e=>
   rw [pz] at h
   split at h
   · rename_i hk
     have h0:=isT_lt hT hi hk (by decide)
     obtain ⟨_,i1,r1,h⟩:=bind_ok h
     have h1:=ih _ _ _ _ _ h0 r1
     have h2:=ih _ _ _ _ _ h1.2 h
     omega
   · split at h
     · rename_i hk
       have h0:=isT_lt hT hi hk (by decide)
       obtain ⟨_,i1,r1,h⟩:=bind_ok h
       have h1:=ih _ _ _ _ _ h0 r1
       have h2:=ih _ _ _ _ _ h1.2 h
       omega
     · injection h with _ h;omega
  | prod=>
   rw [pz] at h
   obtain ⟨_,i1,r1,h⟩:=bind_ok h
   have h1:=ih _ _ _ _ _ hi r1
   have h2:=ih _ _ _ _ _ h1.2 h
   omega
  | prodL e=>
   rw [pz] at h
   split at h
   · rename_i hk
     have h0:=isT_lt hT hi hk (by decide)
     obtain ⟨_,i1,r1,h⟩:=bind_ok h
     have h1:=ih _ _ _ _ _ h0 r1
     have h2:=ih _ _ _ _ _ h1.2 h
     omega
   · injection h with _ h;omega
  | un=>
   rw [pz] at h
   split at h
   · rename_i hk
     have h0:=isT_lt hT hi hk (by decide)
     split at h
     · rename_i hp
       injection h with _ h
       unfold plainB at hp
       simp only [Bool.and_eq_true,beq_iff_eq] at hp
       have:=next_lt hT h0 (by rw [hp.1];decide)
       omega
     · split at h
       · obtain ⟨_,i1,r1,h⟩:=bind_ok h
         injection h with _ h
         have h1:=ih _ _ _ _ _ h0 r1
         omega
       · cases h
   · exact ih _ _ _ _ _ hi h
  | prim=>
   rw [pz] at h
   split at h
   · rename_i hp
     injection h with _ h
     unfold plainB at hp
     simp only [Bool.and_eq_true,beq_iff_eq] at hp
     have:=next_lt hT hi (by rw [hp.1];decide)
     omega
   · split at h
     · obtain ⟨_,i1,r1,h⟩:=bind_ok h
       injection h with _ h
       have h1:=pathP_lt hT hi r1
       omega
     · split at h
       · rename_i hk
         injection h with _ h
         have:=next_lt hT hi (by rw [hk];decide)
         omega
       · split at h
         · rename_i hk
           have h0:=isT_lt hT hi hk (by decide)
           obtain ⟨_,i1,r1,h⟩:=bind_ok h
           injection h with _ h
           have h1:=numP_lt hT h0 r1
           omega
         · split at h
           · rename_i hk
             have h0:=isT_lt hT hi hk (by decide)
             split at h
             · obtain ⟨_,i1,r1,h⟩:=bind_ok h
               obtain ⟨_,i2,r2,h⟩:=bind_ok h
               injection h with _ h
               have h1:=ih _ _ _ _ _ h0 r1
               have h2:=mustP_lt hT h1.2 (by decide) r2
               omega
             · cases h
           · have:=condP_lt hT hi h
             omega
def CtrE (f:FuncId) (nt:NT) (id:Nat) (L:List Tk) (RL:PV) (n:Nat):Prop:=∀ i o,i < L.length->o<=100->ANS f [] id L RL i o trV (pz L n nt o i)
theorem okB_parse_parser_product:fnOKB CC Tryz.f178 (Tryz.f178.body.getD .skip)=true:=by kernel_rfl
theorem noB_parse_parser_product:fnOK CC Tryz.f178 (Tryz.f178.body.getD .skip)=false:=by kernel_rfl
theorem fatB_parse_parser_product:CC.P.funcs[178]?=some Tryz.f178:=by kernel_rfl
theorem loop_prod (Lc:Code) (hL:Lc=fpart Tryz.f178 [1,1,0,0]) {id:Nat} {L:List Tk} {o:Nat} {RL:PV} (hR:RL.pure=true) (hT:TokOK L) (ho:o<=100):∀ (m:Nat),(∀ k,k < m->CtrE 184 .un id L RL k)->∀ (i:Nat) (a:Tr),i < L.length->match pz L m (.prodL a) o i with
 | .ok v j=>∀ (bx:List PBox) (hid:id < bx.length) (hc:clB bx) (e:List PV),getT e 0=.bp id 0->getT e 2=.bp bx.length 0->getT e 3=.bp (bx.length+1) 0->∃ e',evB CC Lc ⟨e,BX bx id (PSR L i o RL) [.cells 29 [.int .i64 0,.int .i64 0,.int .i64 0,.str [],.int .i64 0,.int .i64 0,.str [],.int .i64 0,.str [],.str [],.nils],.cells 29 (exC a)]⟩=some (.exit 0,⟨e',BX bx id (PSR L j o RL) [.cells 29 [.int .i64 0,.int .i64 0,.int .i64 0,.str [],.int .i64 0,.int .i64 0,.str [],.int .i64 0,.str [],.str [],.nils],.cells 29 (exC v)]⟩)∧getT e' 2=.bp bx.length 0∧getT e' 3=.bp (bx.length+1) 0
 | .bad t c=>∃ i' o',∀ (bx:List PBox) (hid:id < bx.length) (hc:clB bx) (e:List PV),getT e 0=.bp id 0->getT e 2=.bp bx.length 0->getT e 3=.bp (bx.length+1) 0->∃ e' ys',evB CC Lc ⟨e,BX bx id (PSR L i o RL) [.cells 29 [.int .i64 0,.int .i64 0,.int .i64 0,.str [],.int .i64 0,.int .i64 0,.str [],.int .i64 0,.str [],.str [],.nils],.cells 29 (exC a)]⟩=some (.pan (fltV t c),⟨e',BX bx id (PSR L i' o' RL) ys'⟩)
 | .out=>True:=by
 have pbp:pureL [PV.bp id 0]=false:=rfl
 intro m
 induction m with
 | zero=>intro _ i a hi;trivial
 | succ m ih=>
  intro hu i a hi
  rw [pz]
  cases hk:isT L 4 [42] i with
  | false=>
   simp only [Bool.false_eq_true,if_false]
   intro bx hid hc e g0 g2 g3
   have t0:=okc_use hid hc hR (okc_op_f (id:=id) (o:=o) hR hi hT _ hk)
   rw [evB_at (fpart Tryz.f178 [1,1,0,0,0]) hL]
   unfold PSR at ⊢
   obtain ⟨dr,ev,eo,so,co,⟨hev,hco,heo,hdr⟩,R⟩:=RULESB CC
   rw [<- hev]
   rw [<- hco] at t0
   simp only [opsOf,fpart,part',Tryz.f178,Option.getD] at ⊢
   simp only [S9,R,seval,PY,PZ,pbp,g0,g2,g3,t0,SX,hid]
   exact ⟨_,rfl,by simp only [S7,R,seval,g2],by simp only [S7,R,seval,g3]⟩
  | true=>
   simp only [if_true]
   have hi1:=isT_lt hT hi hk (by decide)
   have h1:=hu m (by omega) (i+1) o hi1 ho
   cases r1:pz L m .un o (i+1) with
   | out=>trivial
   | bad t c=>
    rw [r1] at h1
    obtain ⟨i',o',h1⟩:=h1
    refine ⟨i',o',fun bx hid hc e g0 g2 g3=>?_⟩
    have t0:=okc_use hid hc hR (okc_op_t (id:=id) (o:=o) hR hi hT _ hk)
    have t1:=badx_use hid hc hR h1
    have hd:=fun e g0 g3=>draw_prod_bad (L:=L) hR a hid hc e g0 g3 t1
    rw [evB_at (fpart Tryz.f178 [1,1,0,0,0]) hL]
    simp only [<- drawM_all no_prod] at hd
    unfold PSR at⊢hd
    obtain ⟨dr,ev,eo,so,co,⟨hev,hco,heo,hdr⟩,R⟩:=RULESB CC
    rw [<- hev]
    rw [<- hco] at t0
    rw [<- hdr] at hd
    simp only [opsOf,fpart,part',Tryz.f178,Option.getD] at⊢hd
    simp only [S9,R,seval,PY,PZ,pbp,g0,g2,g3,t0,hd,SX,hid]
    exact ⟨_,_,rfl⟩
   | ok b i1=>
    rw [r1] at h1
    have hi2:=(pz_lt hT _ _ _ _ _ _ hi1 r1).2
    dsimp only [bind_okk]
    have key:=ih (fun k hk=>hu k (by omega)) i1 (nodT 13 [a,b]) hi2
    cases r2:pz L m (.prodL (nodT 13 [a,b])) o i1 with
    | out=>trivial
    | ok v j=>
     rw [r2] at key
     intro bx hid hc e g0 g2 g3
     have key:=key bx hid hc
     have t0:=okc_use hid hc hR (okc_op_t (id:=id) (o:=o) hR hi hT _ hk)
     have t1:=okc_use hid hc hR h1
     rw [trV_exC] at t1
     have hd:=fun e g0 g3=>draw_prod_ok (L:=L) hR a b hid hc e g0 g3 t1
     rw [evB_at (fpart Tryz.f178 [1,1,0,0,0]) hL]
     simp only [<- drawM_all no_prod] at hd
     unfold PSR at⊢hd key
     obtain ⟨dr,ev,eo,so,co,⟨hev,hco,heo,hdr⟩,R⟩:=RULESB CC
     rw [<- hev]
     rw [<- hev] at key
     rw [<- hco] at t0
     rw [<- hdr] at hd
     simp only [opsOf,fpart,part',Tryz.f178,Option.getD] at⊢hd key
     simp only [S9,R,seval,PY,PZ,pbp,g0,g2,g3,t0,hd,SX,hid]
     refine key _ ?_ ?_ ?_
     · simp only [S7,R,seval,g0]
     · simp only [S7,R,seval,g2]
     · simp only [S7,R,seval,g3]
    | bad t c=>
     rw [r2] at key
     obtain ⟨i',o',key⟩:=key
     refine ⟨i',o',fun bx hid hc e g0 g2 g3=>?_⟩
     have key:=key bx hid hc
     have t0:=okc_use hid hc hR (okc_op_t (id:=id) (o:=o) hR hi hT _ hk)
     have t1:=okc_use hid hc hR h1
     rw [trV_exC] at t1
     have hd:=fun e g0 g3=>draw_prod_ok (L:=L) hR a b hid hc e g0 g3 t1
     rw [evB_at (fpart Tryz.f178 [1,1,0,0,0]) hL]
     simp only [<- drawM_all no_prod] at hd
     unfold PSR at⊢hd key
     obtain ⟨dr,ev,eo,so,co,⟨hev,hco,heo,hdr⟩,R⟩:=RULESB CC
     rw [<- hev]
     rw [<- hev] at key
     rw [<- hco] at t0
     rw [<- hdr] at hd
     simp only [opsOf,fpart,part',Tryz.f178,Option.getD] at⊢hd key
     simp only [S9,R,seval,PY,PZ,pbp,g0,g2,g3,t0,hd,SX,hid]
     refine key _ ?_ ?_ ?_
     · simp only [S7,R,seval,g0]
     · simp only [S7,R,seval,g2]
     · simp only [S7,R,seval,g3]
theorem ctr_prod {id:Nat} {L:List Tk} {RL:PV} (hR:RL.pure=true) (hT:TokOK L) (n:Nat) (hu:∀ k,k<=n->CtrE 184 .un id L RL k):CtrE 178 .prod id L RL (n+1):=by
 intro i o hi ho
 rw [pz]
 have h0:=hu n (Nat.le_refl _) i o hi ho
 cases r0:pz L n .un o i with
 | out=>exact ans_out
 | bad t c=>
  rw [r0] at h0
  obtain ⟨i',o',h0⟩:=h0
  refine ans_bad ⟨i',o',badx_of hR fun bx hid hc=>?_⟩
  have pbp:pureL [PV.bp id 0]=false:=rfl
  have t0:=badx_use hid hc hR h0
  rw [callL_enterB (fn:=Tryz.f178) (c:=Tryz.f178.body.getD .skip) rfl rfl fatB_parse_parser_product rfl noB_parse_parser_product okB_parse_parser_product (Nat.le_of_ble_eq_true rfl)]
  unfold PSR at ⊢
  obtain ⟨dr,ev,eo,so,co,⟨hev,hco,heo,hdr⟩,R⟩:=RULESB CC
  rw [<- hev]
  rw [<- hco] at t0
  simp only [opsOf,fpart,part',Tryz.f178,Option.getD] at ⊢
  simp only [S9,R,seval,PY,PZ,pbp,t0,SX,hid]
  exact ⟨_,rfl⟩
 | ok a i1=>
  rw [r0] at h0
  dsimp only [bind_okk]
  have hi1:=(pz_lt hT _ _ _ _ _ _ hi r0).2
  have hloop:=loop_prod _ rfl (id:=id) (RL:=RL) hR hT ho n (fun k hk=>hu k (by omega)) i1 a hi1
  cases r1:pz L n (.prodL a) o i1 with
  | out=>exact ans_out
  | ok v j=>
   rw [r1] at hloop
   refine ans_ok (okc_of hR (fun n=>by rw [trV_exC];simp only [SX,PV.under]) fun bx hid hc=>?_)
   have hloop:=hloop bx hid hc
   have pbp:pureL [PV.bp id 0]=false:=rfl
   have t0:=okc_use hid hc hR h0
   rw [trV_exC] at t0
   rw [callL_enterB (fn:=Tryz.f178) (c:=Tryz.f178.body.getD .skip) rfl rfl fatB_parse_parser_product rfl noB_parse_parser_product okB_parse_parser_product (Nat.le_of_ble_eq_true rfl)]
   rw [trV_exC]
   unfold PSR at⊢hloop
   obtain ⟨dr,ev,eo,so,co,⟨hev,hco,heo,hdr⟩,R⟩:=RULESB CC
   rw [<- hev]
   rw [<- hev] at hloop
   rw [<- hco] at t0
   simp only [opsOf,fpart,part',Tryz.f178,Option.getD] at⊢hloop
   simp only [S9,R,seval,PY,PZ,pbp,t0,SX,hid]
   generalize hE:ev _ _=z
   have hP:∃ e',z=some (.exit 0,⟨e',BX bx id (.cells 92 [.sl (tkVs L),.int .i64 ((j:Nat):Int),.int .i64 ((o:Nat):Int),RL]) [.cells 29 [.int .i64 0,.int .i64 0,.int .i64 0,.str [],.int .i64 0,.int .i64 0,.str [],.int .i64 0,.str [],.str [],.nils],.cells 29 (exC v)]⟩)∧getT e' 2=.bp bx.length 0∧getT e' 3=.bp (bx.length+1) 0:=by
    rw [<- hE]
    refine hloop _ ?_ ?_ ?_
    · simp only [S7,R,seval]
    · simp only [S7,R,seval]
    · simp only [S7,R,seval]
   obtain ⟨e',he,g2,g3⟩:=hP
   subst he
   clear hE hloop
   simp only [S9,R,seval,PY,PZ,pbp,SX,g2,g3,hid]
   exact ⟨_,rfl⟩
  | bad t c=>
   rw [r1] at hloop
   obtain ⟨i',o',hloop⟩:=hloop
   refine ans_bad ⟨i',o',badx_of hR fun bx hid hc=>?_⟩
   have hloop:=hloop bx hid hc
   have pbp:pureL [PV.bp id 0]=false:=rfl
   have t0:=okc_use hid hc hR h0
   rw [trV_exC] at t0
   rw [callL_enterB (fn:=Tryz.f178) (c:=Tryz.f178.body.getD .skip) rfl rfl fatB_parse_parser_product rfl noB_parse_parser_product okB_parse_parser_product (Nat.le_of_ble_eq_true rfl)]
   unfold PSR at⊢hloop
   obtain ⟨dr,ev,eo,so,co,⟨hev,hco,heo,hdr⟩,R⟩:=RULESB CC
   rw [<- hev]
   rw [<- hev] at hloop
   rw [<- hco] at t0
   simp only [opsOf,fpart,part',Tryz.f178,Option.getD] at⊢hloop
   simp only [S9,R,seval,PY,PZ,pbp,t0,SX,hid]
   generalize hE:ev _ _=z
   have hP:∃ e' ys',z=some (.pan (fltV t c),⟨e',BX bx id (.cells 92 [.sl (tkVs L),.int .i64 ((i':Nat):Int),.int .i64 ((o':Nat):Int),RL]) ys'⟩):=by
    rw [<- hE]
    refine hloop _ ?_ ?_ ?_
    · simp only [S7,R,seval]
    · simp only [S7,R,seval]
    · simp only [S7,R,seval]
   obtain ⟨e',ys',he⟩:=hP
   subst he
   clear hE hloop
   simp only [S9,R,seval,PY,PZ,pbp,SX,hid]
   exact ⟨_,rfl⟩
end Go.HH
namespace Go.HH
open Go Go.Proofs
set_option maxRecDepth 100000
set_option maxHeartbeats 4000000
set_option linter.unusedSimpArgs false
set_option linter.unusedVariables false
theorem okB_parse_parser_sum:fnOKB CC Tryz.f171 (Tryz.f171.body.getD .skip)=true:=by kernel_rfl
theorem noB_parse_parser_sum:fnOK CC Tryz.f171 (Tryz.f171.body.getD .skip)=false:=by kernel_rfl
theorem fatB_parse_parser_sum:CC.P.funcs[171]?=some Tryz.f171:=by kernel_rfl
theorem loop_sum (Lc:Code) (hL:Lc=fpart Tryz.f171 [1,1,0]) {id:Nat} {L:List Tk} {o:Nat} {RL:PV} (hR:RL.pure=true) (hT:TokOK L) (ho:o<=100):∀ (m:Nat),(∀ k,k < m->CtrE 178 .prod id L RL k)->∀ (i:Nat) (a:Tr),i < L.length->match pz L m (.sumL a) o i with
 | .ok v j=>∀ (bx:List PBox) (hid:id < bx.length) (hc:clB bx) (e:List PV),getT e 0=.bp id 0->getT e 2=.bp bx.length 0->getT e 3=.bp (bx.length+1) 0->∃ e',evB CC Lc ⟨e,BX bx id (PSR L i o RL) [.cells 29 [.int .i64 0,.int .i64 0,.int .i64 0,.str [],.int .i64 0,.int .i64 0,.str [],.int .i64 0,.str [],.str [],.nils],.cells 29 (exC a)]⟩=some (.ret,⟨e',BX bx id (PSR L j o RL) [.cells 29 (exC v),.cells 29 (exC v)]⟩)∧getT e' 2=.bp bx.length 0
 | .bad t c=>∃ i' o',∀ (bx:List PBox) (hid:id < bx.length) (hc:clB bx) (e:List PV),getT e 0=.bp id 0->getT e 2=.bp bx.length 0->getT e 3=.bp (bx.length+1) 0->∃ e' ys',evB CC Lc ⟨e,BX bx id (PSR L i o RL) [.cells 29 [.int .i64 0,.int .i64 0,.int .i64 0,.str [],.int .i64 0,.int .i64 0,.str [],.int .i64 0,.str [],.str [],.nils],.cells 29 (exC a)]⟩=some (.pan (fltV t c),⟨e',BX bx id (PSR L i' o' RL) ys'⟩)
 | .out=>True:=by
 have pbp:pureL [PV.bp id 0]=false:=rfl
 intro m
 induction m with
 | zero=>intro _ i a hi;trivial
 | succ m ih=>
  intro hu i a hi
  rw [pz]
  cases hk:isT L 4 [43] i with
  | true=>
   simp only [if_true]
   have hi1:=isT_lt hT hi hk (by decide)
   have h1:=hu m (by omega) (i+1) o hi1 ho
   cases r1:pz L m .prod o (i+1) with
   | out=>trivial
   | bad t c=>
    rw [r1] at h1
    obtain ⟨i',o',h1⟩:=h1
    refine ⟨i',o',fun bx hid hc e g0 g2 g3=>?_⟩
    have t0:=okc_use hid hc hR (okc_op_t (id:=id) (o:=o) hR hi hT _ hk)
    have t1:=badx_use hid hc hR h1
    have hd:=fun e g0 g3=>draw_sumA_bad (L:=L) hR a hid hc e g0 g3 t1
    rw [evB_at (fpart Tryz.f171 [1,1,0,0]) hL]
    simp only [<- drawM_all no_sumA] at hd
    unfold PSR at⊢hd
    obtain ⟨dr,ev,eo,so,co,⟨hev,hco,heo,hdr⟩,R⟩:=RULESB CC
    rw [<- hev]
    rw [<- hco] at t0
    rw [<- hdr] at hd
    simp only [opsOf,fpart,part',Tryz.f171,Option.getD] at⊢hd
    simp only [S9,R,seval,PY,PZ,pbp,g0,g2,g3,t0,hd,SX,hid]
    exact ⟨_,_,rfl⟩
   | ok b i1=>
    rw [r1] at h1
    have hi2:=(pz_lt hT _ _ _ _ _ _ hi1 r1).2
    dsimp only [bind_okk]
    have key:=ih (fun k hk=>hu k (by omega)) i1 (nodT 11 [a,b]) hi2
    cases r2:pz L m (.sumL (nodT 11 [a,b])) o i1 with
    | out=>trivial
    | ok v j=>
     rw [r2] at key
     intro bx hid hc e g0 g2 g3
     have key:=key bx hid hc
     have t0:=okc_use hid hc hR (okc_op_t (id:=id) (o:=o) hR hi hT _ hk)
     have t1:=okc_use hid hc hR h1
     rw [trV_exC] at t1
     have hd:=fun e g0 g3=>draw_sumA_ok (L:=L) hR a b hid hc e g0 g3 t1
     rw [evB_at (fpart Tryz.f171 [1,1,0,0]) hL]
     simp only [<- drawM_all no_sumA] at hd
     unfold PSR at⊢hd key
     obtain ⟨dr,ev,eo,so,co,⟨hev,hco,heo,hdr⟩,R⟩:=RULESB CC
     rw [<- hev]
     rw [<- hev] at key
     rw [<- hco] at t0
     rw [<- hdr] at hd
     simp only [opsOf,fpart,part',Tryz.f171,Option.getD] at⊢hd key
     simp only [S9,R,seval,PY,PZ,pbp,g0,g2,g3,t0,hd,SX,hid]
     refine key _ ?_ ?_ ?_
     · simp only [S7,R,seval,g0]
     · simp only [S7,R,seval,g2]
     · simp only [S7,R,seval,g3]
    | bad t c=>
     rw [r2] at key
     obtain ⟨i',o',key⟩:=key
     refine ⟨i',o',fun bx hid hc e g0 g2 g3=>?_⟩
     have key:=key bx hid hc
     have t0:=okc_use hid hc hR (okc_op_t (id:=id) (o:=o) hR hi hT _ hk)
     have t1:=okc_use hid hc hR h1
     rw [trV_exC] at t1
     have hd:=fun e g0 g3=>draw_sumA_ok (L:=L) hR a b hid hc e g0 g3 t1
     rw [evB_at (fpart Tryz.f171 [1,1,0,0]) hL]
     simp only [<- drawM_all no_sumA] at hd
     unfold PSR at⊢hd key
     obtain ⟨dr,ev,eo,so,co,⟨hev,hco,heo,hdr⟩,R⟩:=RULESB CC
     rw [<- hev]
     rw [<- hev] at key
     rw [<- hco] at t0
     rw [<- hdr] at hd
     simp only [opsOf,fpart,part',Tryz.f171,Option.getD] at⊢hd key
     simp only [S9,R,seval,PY,PZ,pbp,g0,g2,g3,t0,hd,SX,hid]
     refine key _ ?_ ?_ ?_
     · simp only [S7,R,seval,g0]
     · simp only [S7,R,seval,g2]
     · simp only [S7,R,seval,g3]
  | false=>
   have hk0:=hk
   clear hk
   simp only [Bool.false_eq_true,if_false]
   cases hk:isT L 4 [45] i with
   | true=>
    simp only [if_true]
    have hi1:=isT_lt hT hi hk (by decide)
    have h1:=hu m (by omega) (i+1) o hi1 ho
    cases r1:pz L m .prod o (i+1) with
    | out=>trivial
    | bad t c=>
     rw [r1] at h1
     obtain ⟨i',o',h1⟩:=h1
     refine ⟨i',o',fun bx hid hc e g0 g2 g3=>?_⟩
     have t0:=okc_use hid hc hR (okc_op_f (id:=id) (o:=o) hR hi hT _ hk0)
     have t2:=okc_use hid hc hR (okc_op_t (id:=id) (o:=o) hR hi hT _ hk)
     have t1:=badx_use hid hc hR h1
     have hd:=fun e g0 g3=>draw_sumB_bad (L:=L) hR a hid hc e g0 g3 t1
     rw [evB_at (fpart Tryz.f171 [1,1,0,0]) hL]
     simp only [<- drawM_all no_sumB] at hd
     unfold PSR at⊢hd
     obtain ⟨dr,ev,eo,so,co,⟨hev,hco,heo,hdr⟩,R⟩:=RULESB CC
     rw [<- hev]
     rw [<- hco] at t0 t2
     rw [<- hdr] at hd
     simp only [opsOf,fpart,part',Tryz.f171,Option.getD] at⊢hd
     simp only [S9,R,seval,PY,PZ,pbp,g0,g2,g3,t0,t2,hd,SX,hid]
     exact ⟨_,_,rfl⟩
    | ok b i1=>
     rw [r1] at h1
     have hi2:=(pz_lt hT _ _ _ _ _ _ hi1 r1).2
     dsimp only [bind_okk]
     have key:=ih (fun k hk=>hu k (by omega)) i1 (nodT 12 [a,b]) hi2
     cases r2:pz L m (.sumL (nodT 12 [a,b])) o i1 with
     | out=>trivial
     | ok v j=>
      rw [r2] at key
      intro bx hid hc e g0 g2 g3
      have key:=key bx hid hc
      have t0:=okc_use hid hc hR (okc_op_f (id:=id) (o:=o) hR hi hT _ hk0)
      have t2:=okc_use hid hc hR (okc_op_t (id:=id) (o:=o) hR hi hT _ hk)
      have t1:=okc_use hid hc hR h1
      rw [trV_exC] at t1
      have hd:=fun e g0 g3=>draw_sumB_ok (L:=L) hR a b hid hc e g0 g3 t1
      rw [evB_at (fpart Tryz.f171 [1,1,0,0]) hL]
      simp only [<- drawM_all no_sumB] at hd
      unfold PSR at⊢hd key
      obtain ⟨dr,ev,eo,so,co,⟨hev,hco,heo,hdr⟩,R⟩:=RULESB CC
      rw [<- hev]
      rw [<- hev] at key
      rw [<- hco] at t0 t2
      rw [<- hdr] at hd
      simp only [opsOf,fpart,part',Tryz.f171,Option.getD] at⊢hd key
      simp only [S9,R,seval,PY,PZ,pbp,g0,g2,g3,t0,t2,hd,SX,hid]
      refine key _ ?_ ?_ ?_
      · simp only [S7,R,seval,g0]
      · simp only [S7,R,seval,g2]
      · simp only [S7,R,seval,g3]
     | bad t c=>
      rw [r2] at key
      obtain ⟨i',o',key⟩:=key
      refine ⟨i',o',fun bx hid hc e g0 g2 g3=>?_⟩
      have key:=key bx hid hc
      have t0:=okc_use hid hc hR (okc_op_f (id:=id) (o:=o) hR hi hT _ hk0)
      have t2:=okc_use hid hc hR (okc_op_t (id:=id) (o:=o) hR hi hT _ hk)
      have t1:=okc_use hid hc hR h1
      rw [trV_exC] at t1
      have hd:=fun e g0 g3=>draw_sumB_ok (L:=L) hR a b hid hc e g0 g3 t1
      rw [evB_at (fpart Tryz.f171 [1,1,0,0]) hL]
      simp only [<- drawM_all no_sumB] at hd
      unfold PSR at⊢hd key
      obtain ⟨dr,ev,eo,so,co,⟨hev,hco,heo,hdr⟩,R⟩:=RULESB CC
      rw [<- hev]
      rw [<- hev] at key
      rw [<- hco] at t0 t2
      rw [<- hdr] at hd
      simp only [opsOf,fpart,part',Tryz.f171,Option.getD] at⊢hd key
      simp only [S9,R,seval,PY,PZ,pbp,g0,g2,g3,t0,t2,hd,SX,hid]
      refine key _ ?_ ?_ ?_
      · simp only [S7,R,seval,g0]
      · simp only [S7,R,seval,g2]
      · simp only [S7,R,seval,g3]
   | false=>
    simp only [Bool.false_eq_true,if_false]
    intro bx hid hc e g0 g2 g3
    have t0:=okc_use hid hc hR (okc_op_f (id:=id) (o:=o) hR hi hT _ hk0)
    have t2:=okc_use hid hc hR (okc_op_f (id:=id) (o:=o) hR hi hT _ hk)
    rw [evB_at (fpart Tryz.f171 [1,1,0,0]) hL]
    unfold PSR at ⊢
    obtain ⟨dr,ev,eo,so,co,⟨hev,hco,heo,hdr⟩,R⟩:=RULESB CC
    rw [<- hev]
    rw [<- hco] at t0 t2
    simp only [opsOf,fpart,part',Tryz.f171,Option.getD] at ⊢
    simp only [S9,R,seval,PY,PZ,pbp,g0,g2,g3,t0,t2,SX,hid]
    exact ⟨_,rfl,by simp only [S7,R,seval,g2]⟩
theorem ctr_sum {id:Nat} {L:List Tk} {RL:PV} (hR:RL.pure=true) (hT:TokOK L) (n:Nat) (hu:∀ k,k<=n->CtrE 178 .prod id L RL k):CtrE 171 .sum id L RL (n+1):=by
 intro i o hi ho
 rw [pz]
 have h0:=hu n (Nat.le_refl _) i o hi ho
 cases r0:pz L n .prod o i with
 | out=>exact ans_out
 | bad t c=>
  rw [r0] at h0
  obtain ⟨i',o',h0⟩:=h0
  refine ans_bad ⟨i',o',badx_of hR fun bx hid hc=>?_⟩
  have pbp:pureL [PV.bp id 0]=false:=rfl
  have t0:=badx_use hid hc hR h0
  rw [callL_enterB (fn:=Tryz.f171) (c:=Tryz.f171.body.getD .skip) rfl rfl fatB_parse_parser_sum rfl noB_parse_parser_sum okB_parse_parser_sum (Nat.le_of_ble_eq_true rfl)]
  unfold PSR at ⊢
  obtain ⟨dr,ev,eo,so,co,⟨hev,hco,heo,hdr⟩,R⟩:=RULESB CC
  rw [<- hev]
  rw [<- hco] at t0
  simp only [opsOf,fpart,part',Tryz.f171,Option.getD] at ⊢
  simp only [S9,R,seval,PY,PZ,pbp,t0,SX,hid]
  exact ⟨_,rfl⟩
 | ok a i1=>
  rw [r0] at h0
  dsimp only [bind_okk]
  have hi1:=(pz_lt hT _ _ _ _ _ _ hi r0).2
  have hloop:=loop_sum _ rfl (id:=id) (RL:=RL) hR hT ho n (fun k hk=>hu k (by omega)) i1 a hi1
  cases r1:pz L n (.sumL a) o i1 with
  | out=>exact ans_out
  | ok v j=>
   rw [r1] at hloop
   refine ans_ok (okc_of hR (fun n=>by rw [trV_exC];simp only [SX,PV.under]) fun bx hid hc=>?_)
   have hloop:=hloop bx hid hc
   have pbp:pureL [PV.bp id 0]=false:=rfl
   have t0:=okc_use hid hc hR h0
   rw [trV_exC] at t0
   rw [callL_enterB (fn:=Tryz.f171) (c:=Tryz.f171.body.getD .skip) rfl rfl fatB_parse_parser_sum rfl noB_parse_parser_sum okB_parse_parser_sum (Nat.le_of_ble_eq_true rfl)]
   rw [trV_exC]
   unfold PSR at⊢hloop
   obtain ⟨dr,ev,eo,so,co,⟨hev,hco,heo,hdr⟩,R⟩:=RULESB CC
   rw [<- hev]
   rw [<- hev] at hloop
   rw [<- hco] at t0
   simp only [opsOf,fpart,part',Tryz.f171,Option.getD] at⊢hloop
   simp only [S9,R,seval,PY,PZ,pbp,t0,SX,hid]
   generalize hE:ev _ _=z
   have hP:∃ e',z=some (.ret,⟨e',BX bx id (.cells 92 [.sl (tkVs L),.int .i64 ((j:Nat):Int),.int .i64 ((o:Nat):Int),RL]) [.cells 29 (exC v),.cells 29 (exC v)]⟩)∧getT e' 2=.bp bx.length 0:=by
    rw [<- hE]
    refine hloop _ ?_ ?_ ?_
    · simp only [S7,R,seval]
    · simp only [S7,R,seval]
    · simp only [S7,R,seval]
   obtain ⟨e',he,g2⟩:=hP
   subst he
   clear hE hloop
   simp only [S9,R,seval,PY,PZ,pbp,SX,g2,hid]
   exact ⟨_,rfl⟩
  | bad t c=>
   rw [r1] at hloop
   obtain ⟨i',o',hloop⟩:=hloop
   refine ans_bad ⟨i',o',badx_of hR fun bx hid hc=>?_⟩
   have hloop:=hloop bx hid hc
   have pbp:pureL [PV.bp id 0]=false:=rfl
   have t0:=okc_use hid hc hR h0
   rw [trV_exC] at t0
   rw [callL_enterB (fn:=Tryz.f171) (c:=Tryz.f171.body.getD .skip) rfl rfl fatB_parse_parser_sum rfl noB_parse_parser_sum okB_parse_parser_sum (Nat.le_of_ble_eq_true rfl)]
   unfold PSR at⊢hloop
   obtain ⟨dr,ev,eo,so,co,⟨hev,hco,heo,hdr⟩,R⟩:=RULESB CC
   rw [<- hev]
   rw [<- hev] at hloop
   rw [<- hco] at t0
   simp only [opsOf,fpart,part',Tryz.f171,Option.getD] at⊢hloop
   simp only [S9,R,seval,PY,PZ,pbp,t0,SX,hid]
   generalize hE:ev _ _=z
   have hP:∃ e' ys',z=some (.pan (fltV t c),⟨e',BX bx id (.cells 92 [.sl (tkVs L),.int .i64 ((i':Nat):Int),.int .i64 ((o':Nat):Int),RL]) ys'⟩):=by
    rw [<- hE]
    refine hloop _ ?_ ?_ ?_
    · simp only [S7,R,seval]
    · simp only [S7,R,seval]
    · simp only [S7,R,seval]
   obtain ⟨e',ys',he⟩:=hP
   subst he
   clear hE hloop
   simp only [S9,R,seval,PY,PZ,pbp,SX,hid]
   exact ⟨_,rfl⟩
end Go.HH
