/-
  What the law needs, packed: WU WV WW WX CL CM CN.
-/
import Derived.Lib.SliceRun
import Derived.RangeFuncNested
import Derived.RangeFuncBound
import Derived.RangeFuncCalls
import Derived.RangeFuncLeaves
import Derived.RangeFuncBox
import Derived.Shelf.Abstract
import Derived.WalkKit
import Derived.OwnWalkIn
import Derived.TacticsInMore
import Derived.LoopNIn
import Derived.LoopIn
import Derived.Maps.AppendAt
import Derived.Test.YtmiilonaehgplaaM38
namespace Go.HH
open Go Go.Proofs
set_option maxRecDepth 100000
set_option maxHeartbeats 4000000
set_option linter.unusedSimpArgs false
set_option linter.unusedVariables false
theorem op_step (us:List Up) (hl:us.length<=10000) (f:Fw) (hi:Inv f us) (a b c:Nat) (hb:b < 65536) (t:Int):∃ cur,NxR us f cur∧∀ bx,callOp CC (callL CC) 7 [.sl (ups us),fwV f,stV a b c,.int .i64 t] bx=some (.ret (.sl (ups cur)),bx):=by
 by_cases hne:us=[]
 · subst hne
   exact ⟨[],.inr (MvR.refl []),fun bx=>op_un f a b c t bx⟩
 · exact op_us us hne hl hi.hv f a b c hb t
def stsV (l:List (Nat×Nat×Nat)):List PV:=l.map fun s=>stV s.1 s.2.1 s.2.2
theorem stsV_length (l:List (Nat×Nat×Nat)):(stsV l).length=l.length:=List.length_map _
def PTo (bx:List PBox) (res:Option (Ex×St)):Prop:=∃ e',res=some (.exit 0,⟨e',bx⟩)
theorem PTo.of {ev:Code->St->Option (Ex×St)} {L:Code} {st:St} {bx:List PBox} {z:Option (Ex×St)} (hE:ev L st=z) (h:PTo bx (ev L st)):PTo bx z:=hE ▸ h
theorem loop_to (L:Code) (hL:L=fpart Try.f3 [1,1,1,1,1,0,1,0]) (f:Fw) (hf:1<=f.vr) (sts:List (Nat×Nat×Nat)) (hsl:sts.length<=1000) (hsb:∀ s ∈ sts,s.2.1 < 65536∧s.2.2 < 65536) (bx:List PBox) (hb:bx[1]?=some (.cells 28 [.int .i64 f.vn,.int .i64 f.vr,.sl (ints f.sums)])):∀ (k i:Nat) (us:List Up) (n:Int) (e:List PV),i+k=sts.length->us.length<=1000->Inv f us ->
 getT e 2=.sl (stsV sts)->getT e 4=.bp 1 0->getT e 7=.sl (ups us)->getT e 9=.int .i64 n->getT e 10=.int .i64 (i:Nat)->PTo bx (evL CC L ⟨e,bx⟩):=by
 intro k
 induction k with
 | zero=>
  intro i us n e hk hul hinv h2 h4 h7 h9 h10
  rw [evL_at (fpart Try.f3 [1,1,1,1,1,0,1,0,0]) hL]
  have hi:¬ ((i:Int) < (sts.length:Int)):=by omega
  have hln:=stsV_length sts
  generalize stsV sts=xs at *
  obtain ⟨fa,fb,fv,hfn⟩:=FNs
  obtain ⟨ev,eo,so,co,⟨hev,hco⟩,R⟩:=RULES CC;rw [<- hev]
  simp only [fpart,part',Try.f3,Option.getD]
  simp (maxSteps:=5000000) only [SA,SB,SD,R,SF,SG,SH,seval,TG,SE,SC,UTT,ZCT,RV,dynR,hfn,nchP,List.getElem?_concat_length,ss1,List.set_cons_zero,List.set_cons_succ,Bool.not_not,strP_eql,strP_neq,h2,h4,h7,h9,h10,hi,hln]
  exact ⟨_,rfl⟩
 | succ k ih=>
  intro i us n e hk hul hinv h2 h4 h7 h9 h10
  rw [evL_at (fpart Try.f3 [1,1,1,1,1,0,1,0,0]) hL]
  have hi:((i:Int) < (sts.length:Int)):=by omega
  have hi0:¬ ((i:Int) < 0):=by omega
  have hw:=wrap_i64 (n:=(i:Int)+1) ⟨by omega,by omega⟩
  have key:=fun us n e=>ih (i+1) us n e (by omega)
  have cast1:((i+1:Nat):Int)=(i:Int)+1:=by omega
  rw [cast1] at key
  have hx:(stsV sts)[i]?=some (stV (sts[i]'(by omega)).1 (sts[i]'(by omega)).2.1 (sts[i]'(by omega)).2.2):=map_get (f:=fun s:Nat×Nat×Nat=>stV s.1 s.2.1 s.2.2) (List.getElem?_eq_getElem (by omega))
  obtain ⟨hx1,hx2⟩:=hsb (sts[i]'(by omega)) (List.getElem_mem _)
  generalize sts[i]'(by omega)=x at *
  obtain ⟨a,b,c⟩:=x
  simp only at hx hx1 hx2
  have hcv:=cv16 c hx2
  have hto:=op_Stopped us (by omega)
  obtain ⟨cur,hnx,hop⟩:=op_step us (by omega) f hinv a b c hx1 (IntKind.wrap .i64 (n+(c:Nat)))
  have hinv2:=next_inv hf hinv hnx
  have hlen:=next_len hnx
  have hloop:=fun e=>loop_ti _ rfl us cur (by omega) (by omega) (stopB us) (fun g i u c hu hc h0=>next_stop hnx g i u c hu hc h0) hinv2.bad hinv2.waves bx cur.length 0 e (by omega)
  have hul2:cur.length<=1000:=by omega
  have key2:=key cur (IntKind.wrap .i64 (n+(c:Nat)))
  have hln:=stsV_length sts
  have hsp:=ups_pure us
  have hl1:=ups_length us
  have hl2:=ups_length cur
  have hne:((cur.length:Int) != (us.length:Int))=false:=by rw [hlen];simp
  clear ih key hnx
  generalize hn2:IntKind.wrap .i64 (n+(c:Nat))=n2 at *
  generalize stopB us=s at *
  obtain ⟨fvn,fvr,fs⟩:=f
  unfold fwV stV at hop
  unfold stV at hx
  simp only at hop hb
  have hsi:pureL (ints fs)=true:=pureL_ints fs
  generalize ints fs=zs at *
  generalize hxs1:ups us=xs1 at *
  generalize hxs2:ups cur=xs2 at *
  generalize stsV sts=xs at *
  obtain ⟨fa,fb,fv,hfn⟩:=FNs
  obtain ⟨ev,eo,so,co,⟨hev,hco⟩,R⟩:=RULES CC;rw [<- hev]
  rw [<- hco] at hto hop
  rw [<- hev] at hloop key2
  simp only [fpart,part',Try.f3,Option.getD] at hloop ⊢
  simp (maxSteps:=5000000) only [SA,SB,SD,R,SF,SG,SH,seval,TG,SE,SC,UTT,ZCT,RV,dynR,hfn,nchP,List.getElem?_concat_length,ss1,List.set_cons_zero,List.set_cons_succ,Bool.not_not,strP_eql,strP_neq,h2,h4,h7,h9,h10,hi,hi0,hx,hb,hcv,hto,hop,hln,hsp,hsi,hl1,hl2,hne,hn2,Nat.mul_one]
  generalize hE:ev _ _=z
  obtain ⟨e',he,hk⟩:=PTi.of hE (hloop _ (by simp (maxSteps:=5000000) only [SA,SB,SD,R,SF,seval,h7]) (by simp (maxSteps:=5000000) only [SA,SB,SD,R,SF,seval]) (by simp (maxSteps:=5000000) only [SA,SB,SD,R,SF,seval]) (by simp (maxSteps:=5000000) only [SA,SB,SD,R,SF,seval] <;> rfl))
  have g2:=hk 2 (by simp)
  have g4:=hk 4 (by simp)
  have g9:=hk 9 (by simp)
  have g10:=hk 10 (by simp)
  have g12:=hk 12 (by simp)
  simp (maxSteps:=5000000) only [SA,SB,SD,R,SF,seval,h2,h4,h10] at g2 g4 g9 g10 g12
  subst he
  clear hloop hE
  simp (maxSteps:=5000000) only [SA,SB,SD,R,SF,SG,SH,seval,TG,SE,SC,UTT,ZCT,RV,dynR,hfn,nchP,List.getElem?_concat_length,ss1,List.set_cons_zero,List.set_cons_succ,Bool.not_not,strP_eql,strP_neq,g2,g4,g9,g10,g12,hw]
  refine key2 _ hul2 hinv2 ?_ ?_ ?_ ?_ ?_
  all_goals simp (maxSteps:=5000000) only [SA,SB,SD,R,SF,seval,g2,g4,g9,g10,g12]
theorem call_Top (hUp:∀ bx,callOp CC (callL CC) 4 [] bx=some (.ret (.bool true),bx)) (h:Hm) (hh:okHm h) (f:Fw) (sts:List (Nat×Nat×Nat)) (hsb:∀ s ∈ sts,s.2.1 < 65536∧s.2.2 < 65536):∃ bx,callL CC 3 [hmV h,fwV f,.sl (stsV sts)] []=some (.ret (.bool true),bx):=by
 rw [callL_enter (fn:=Try.f3) (c:=Try.f3.body.getD .skip) rfl rfl fat_homehubtop_TopUpdates rfl ok_homehubtop_TopUpdates (Nat.le_of_ble_eq_true rfl)]
 have hnw:=fun hd=>op_New h hh hd f
 have hloop:=fun hf hsl bx hb us n e hul hinv=>loop_to _ rfl f hf sts hsl hsb bx hb sts.length 0 us n e (by omega) hul hinv
 have hd1:(h.dvs.map dvV).length=h.dvs.length:=List.length_map _
 have hs1:(ints f.sums).length=f.sums.length:=List.length_map _
 have hst:=stsV_length sts
 have hpu:=hmV_pure h
 have hsi:pureL (ints f.sums)=true:=pureL_ints f.sums
 have hnf:(newF h hh f).2=0->ckF f=0∧(newF h hh f).1=newL f h.dvs:=fun g=>by
  unfold newF at g ⊢
  by_cases n0:dcK h hh=0
  · rw [if_neg (fun k=>k n0)] at g ⊢
    by_cases c0:ckF f=0
    · rw [if_neg (fun k=>k c0)]
      exact ⟨c0,rfl⟩
    · rw [if_pos c0] at g
      exact absurd g c0
  · rw [if_pos n0] at g
    exact absurd g n0
 have hnl:(newL f h.dvs).length<=h.dvs.length:=by
  unfold newL
  rw [List.length_map]
  exact List.length_filter_le _ _
 have hni:=fun g=>new_inv f h.dvs g
 have hver:=fun g=>(@ckF_ok f g).1
 generalize newF h hh f=r at *
 obtain ⟨us,n⟩:=r
 simp only at hnw hnf
 obtain ⟨cls,dvs⟩:=h
 obtain ⟨fvn,fvr,fs⟩:=f
 unfold hmV fwV at *
 simp only at hnw hd1 hs1 hpu hsi hnl hloop hver ⊢
 have hq1:=clvs_pure cls
 have hq2:=dvs_pure dvs
 generalize List.map clV cls=xs at *
 generalize List.map dvV dvs=ys at *
 generalize ints fs=zs at *
 obtain ⟨fa,fb,fv,hfn⟩:=FNs
 by_cases c1:(dvs.length:Int) > 8
 · skip
   obtain ⟨ev,eo,so,co,⟨hev,hco⟩,R⟩:=RULES CC;rw [<- hev]
   rw [<- hco] at hUp
   simp only [fpart,part',Try.f3,Option.getD]
   simp (maxSteps:=5000000) only [SA,SB,SD,R,SF,SG,SH,seval,TG,SE,SC,UTT,ZCT,RV,dynR,hfn,nchP,List.getElem?_concat_length,ss1,List.set_cons_zero,List.set_cons_succ,Bool.not_not,strP_eql,strP_neq,hUp,hd1,c1]
   exact ⟨_,rfl⟩
 by_cases c2:(fs.length:Int) > 4
 · skip
   obtain ⟨ev,eo,so,co,⟨hev,hco⟩,R⟩:=RULES CC;rw [<- hev]
   rw [<- hco] at hUp
   simp only [fpart,part',Try.f3,Option.getD]
   simp (maxSteps:=5000000) only [SA,SB,SD,R,SF,SG,SH,seval,TG,SE,SC,UTT,ZCT,RV,dynR,hfn,nchP,List.getElem?_concat_length,ss1,List.set_cons_zero,List.set_cons_succ,Bool.not_not,strP_eql,strP_neq,hUp,hd1,hs1,c1,c2]
   exact ⟨_,rfl⟩
 by_cases c3:(sts.length:Int) > 60
 · skip
   generalize stsV sts=ss at *
   obtain ⟨ev,eo,so,co,⟨hev,hco⟩,R⟩:=RULES CC;rw [<- hev]
   rw [<- hco] at hUp
   simp only [fpart,part',Try.f3,Option.getD]
   simp (maxSteps:=5000000) only [SA,SB,SD,R,SF,SG,SH,seval,TG,SE,SC,UTT,ZCT,RV,dynR,hfn,nchP,List.getElem?_concat_length,ss1,List.set_cons_zero,List.set_cons_succ,Bool.not_not,strP_eql,strP_neq,hUp,hd1,hs1,hst,c1,c2,c3]
   exact ⟨_,rfl⟩
 have hnw:=hnw (by omega)
 by_cases n0:n=0
 · have n1:(n != 0)=false:=by simp [n0]
   obtain ⟨hc0,hus⟩:=hnf n0
   have hloop:=hloop (hver hc0) (by omega) [.cells 25 [.sl xs,.sl ys],.cells 28 [.int .i64 fvn,.int .i64 fvr,.sl zs]] rfl us 0
   have hul:us.length<=1000:=by rw [hus];exact Nat.le_trans hnl (by omega)
   have hinv:Inv ⟨fvn,fvr,fs⟩ us:=by rw [hus];exact hni hc0
   generalize ups us=xu at *
   generalize stsV sts=ss at *
   obtain ⟨ev,eo,so,co,⟨hev,hco⟩,R⟩:=RULES CC;rw [<- hev]
   rw [<- hco] at hUp hnw
   rw [<- hev] at hloop
   simp only [fpart,part',Try.f3,Option.getD] at hloop ⊢
   simp (maxSteps:=5000000) only [SA,SB,SD,R,SF,SG,SH,seval,TG,SE,SC,UTT,ZCT,RV,dynR,hfn,nchP,List.getElem?_concat_length,ss1,List.set_cons_zero,List.set_cons_succ,Bool.not_not,strP_eql,strP_neq,hUp,hd1,hs1,hst,c1,c2,c3,hnw,hq1,hq2,hsi,n1]
   generalize hE:ev _ _=z
   obtain ⟨e',he⟩:=PTo.of hE (hloop _ hul hinv (by simp (maxSteps:=5000000) only [SA,SB,SD,R,SF,seval] <;> rfl) (by simp (maxSteps:=5000000) only [SA,SB,SD,R,SF,seval] <;> rfl) (by simp (maxSteps:=5000000) only [SA,SB,SD,R,SF,seval] <;> rfl) (by simp (maxSteps:=5000000) only [SA,SB,SD,R,SF,seval] <;> rfl) (by simp (maxSteps:=5000000) only [SA,SB,SD,R,SF,seval] <;> rfl))
   subst he
   clear hloop hE
   simp (maxSteps:=5000000) only [SA,SB,SD,R,SF,SG,SH,seval,TG,SE,SC,UTT,ZCT,RV,dynR,hfn,nchP,List.getElem?_concat_length,ss1,List.set_cons_zero,List.set_cons_succ,Bool.not_not,strP_eql,strP_neq,hUp]
   exact ⟨_,rfl⟩
 · have n1:(n != 0)=true:=by simpa using n0
   generalize ups us=xu at *
   generalize stsV sts=ss at *
   obtain ⟨ev,eo,so,co,⟨hev,hco⟩,R⟩:=RULES CC;rw [<- hev]
   rw [<- hco] at hUp hnw
   simp only [fpart,part',Try.f3,Option.getD]
   simp (maxSteps:=5000000) only [SA,SB,SD,R,SF,SG,SH,seval,TG,SE,SC,UTT,ZCT,RV,dynR,hfn,nchP,List.getElem?_concat_length,ss1,List.set_cons_zero,List.set_cons_succ,Bool.not_not,strP_eql,strP_neq,hUp,hd1,hs1,hst,c1,c2,c3,hnw,hq1,hq2,hsi,n1]
   exact ⟨_,rfl⟩
end Go.HH
namespace Go.HH
open Go Go.Proofs
set_option maxRecDepth 100000
set_option maxHeartbeats 4000000
set_option linter.unusedSimpArgs false
set_option linter.unusedVariables false
def stdC:List Cl:=[⟨[111,110,111,102,102],[⟨[111,110],1,0,0,[],true,false⟩],[⟨[111,110],⟨[],0,0,0,[],false,false⟩,[⟨1,[111,110],1⟩]⟩,⟨[111,102,102],⟨[],0,0,0,[],false,false⟩,[⟨1,[111,110],0⟩]⟩,⟨[116,111,103,103,108,101],⟨[],0,0,0,[],false,false⟩,[⟨4,[111,110],0⟩]⟩],[]⟩,
 ⟨[108,101,118,101,108],[⟨[108,101,118,101,108],2,0,100,[],true,false⟩],[⟨[109,111,118,101],⟨[116,111],2,0,100,[],false,false⟩,[⟨2,[108,101,118,101,108],0⟩]⟩,⟨[115,116,101,112],⟨[],0,0,0,[],false,false⟩,[⟨3,[108,101,118,101,108],10⟩]⟩],[]⟩,
 ⟨[108,111,99,107],[⟨[108,111,99,107,101,100],1,0,0,[],true,true⟩],[⟨[108,111,99,107],⟨[],0,0,0,[],false,false⟩,[⟨1,[108,111,99,107,101,100],1⟩]⟩,⟨[117,110,108,111,99,107],⟨[],0,0,0,[],false,false⟩,[⟨1,[108,111,99,107,101,100],0⟩]⟩],[[106,97,109]]⟩,
 ⟨[116,104,101,114,109,111,115,116,97,116],[⟨[116,97,114,103,101,116],2,50,300,[],true,false⟩,⟨[116,101,109,112],2,-500,1000,[],false,false⟩],[],[]⟩,
 ⟨[115,109,111,107,101],[⟨[97,108,97,114,109],1,0,0,[],false,true⟩],[],[[116,101,115,116]]⟩,
 ⟨[108,101,97,107],[⟨[119,101,116],1,0,0,[],false,true⟩],[],[]⟩,
 ⟨[118,97,108,118,101],[⟨[111,112,101,110],1,0,0,[],true,true⟩],[⟨[111,112,101,110],⟨[],0,0,0,[],false,false⟩,[⟨1,[111,112,101,110],1⟩]⟩,⟨[99,108,111,115,101],⟨[],0,0,0,[],false,false⟩,[⟨1,[111,112,101,110],0⟩]⟩],[]⟩,
 ⟨[109,101,116,101,114],[⟨[112,111,119,101,114],2,0,100000,[],false,false⟩],[],[]⟩]
def stdH:Hm:=⟨stdC,[⟨3,9,1,false,0,[104,97,108,108],[[111,110,111,102,102]]⟩]⟩
def stdF:Fw:=⟨1,2,[7]⟩
noncomputable def chk (f:FuncId) (a:List PV) (v:PV):Bool:=match callF CC 100 f a [] with
 | some (.ret x,_)=>PV.eqB x v
 | _=>false
theorem of_chk {f:FuncId} {a:List PV} {v:PV} (h:chk f a v=true) (hp:pureL a=true) (hv:v.pure=true) (bx) (hh:CC.heap f=false:=by rfl):callOp CC (callL CC) f a bx=some (.ret v,bx):=by
 unfold chk at h
 split at h
 · rename_i x b hs
   obtain rfl:=eqB_eq _ _ h
   exact callOp_of hh hp (callL_iff.2 ⟨100,hs⟩) hv
 · cases h
theorem ex_std:chk 9 [] (.sl (stdC.map clV))=true:=by kernel_rfl
theorem ex_fck:chk 16 [fwV stdF] (.int .i64 0)=true:=by kernel_rfl
theorem ex_start:chk 10 [.sl (ups [⟨3,0,0,0,0,[false]⟩]),fwV stdF,.int .i64 10] (.sl (ups [⟨3,1,0,0,10,[false]⟩]))=true:=by kernel_rfl
theorem ex_have:chk 12 [.sl (ups [⟨3,1,0,0,10,[false]⟩]),fwV stdF,.int .i64 3,.sl [.bool true]] (.sl (ups [⟨3,2,0,0,10,[true]⟩]))=true:=by kernel_rfl
theorem ex_confirm:chk 13 [.sl (ups [⟨3,3,2,0,20,[true]⟩]),.int .i64 3,.bool true,.int .i64 620] (.sl (ups [⟨3,4,2,0,20,[true]⟩]))=true:=by kernel_rfl
theorem ex_wave:chk 14 [.sl (ups [⟨3,4,2,0,20,[true]⟩]),fwV stdF] (.int .i64 (-1))=true:=by kernel_rfl
theorem ex_dck:chk 15 [hmV stdH] (.int .i64 0)=true:=by kernel_rfl
end Go.HH
namespace Go.HH
open Go Go.Proofs
set_option maxRecDepth 100000
set_option maxHeartbeats 4000000
set_option linter.unusedSimpArgs false
set_option linter.unusedVariables false
theorem okB_Upd:fnOKB CC Try.f4 (Try.f4.body.getD .skip)=true:=by kernel_rfl
theorem noB_Upd:fnOK CC Try.f4 (Try.f4.body.getD .skip)=false:=by kernel_rfl
theorem fat_Upd:CC.P.funcs[4]?=some Try.f4:=by kernel_rfl
theorem okStdB:(stdC.all fun c=>decide (c.ats.length<=100) && decide (c.cms.length<=100) && decide (c.ev.length<=100) && c.cms.all fun m=>decide (m.ef.length<=100))=true:=by decide
theorem okStd:okHm stdH:=by
 refine ⟨by decide,by decide,fun c hc=>?_,fun d hd=>?_⟩
 · have:=List.all_eq_true.1 okStdB c hc
   simp only [Bool.and_eq_true,decide_eq_true_eq,List.all_eq_true] at this
   obtain ⟨⟨⟨h1,h2⟩,h3⟩,h4⟩:=this
   exact ⟨by unfold big;omega,by unfold big;omega,by unfold big;omega,fun m hm=>by have:=h4 m hm;unfold okCm big;omega⟩
 · have:d=⟨3,9,1,false,0,[104,97,108,108],[[111,110,111,102,102]]⟩:=by simpa [stdH] using hd
   subst this
   decide
theorem dck_std:dcK stdH okStd=0:=by
 have h:=op_dcK stdH okStd []
 rw [of_chk ex_dck (by simp only [SA,hmV_pure,Bool.and_true]) rfl []] at h
 simpa using h.symm
theorem ckf_std:ckF stdF=0:=by
 have h:=op_fwCheck stdF []
 rw [of_chk ex_fck (by simp only [SA,fwV_pure,Bool.and_true]) rfl []] at h
 simpa using h.symm
theorem new_std:newF stdH okStd stdF=([⟨3,0,0,0,0,[false]⟩],0):=by
 unfold newF
 rw [dck_std,ckf_std]
 rfl
theorem inst_std:instF [⟨3,2,0,0,10,[true]⟩] stdF 3 20=[⟨3,3,2,0,20,[true]⟩]:=by
 unfold instF
 rw [ckf_std]
 rfl
theorem no_up:drawOK CC (opsOf (fpart Try.f4 [1,1,1,1,1,1,1,0]))=false:=by kernel_rfl
theorem back_up:backB (opsOf (fpart Try.f4 [1,1,1,1,1,1,1,0]))=true:=by kernel_rfl
theorem size_up:(opsOf (fpart Try.f4 [1,1,1,1,1,1,1,0])).size=7:=by kernel_rfl
def upL:List (Nat×Nat×PV):=[(0,45,.sl [.agg [.int .i64 3,.int .i64 1,.int .i64 0,.int .i64 0,.int .i64 10,.sl [.bool false]]]),(1,46,.agg [.int .i64 1,.int .i64 2,.sl [.int .i64 7]]),(2,47,.osl 4 [.bool true]),(3,48,.sl [.agg [.int .i64 3,.int .i64 2,.int .i64 0,.int .i64 0,.int .i64 10,.sl [.bool true]]]),(4,49,.agg [.int .i64 1,.int .i64 2,.sl [.int .i64 7]]),(5,50,.sl [.agg [.int .i64 3,.int .i64 3,.int .i64 2,.int .i64 0,.int .i64 20,.sl [.bool true]]])]
theorem upL_pw:upL.Pairwise (fun x y=>x.1≠y.1∧x.2.1≠y.2.1):=by unfold upL;simp
theorem bsT1:buildSliceP CC 39 1 [(0,.bool true)]=some (.osl 4 [.bool true]):=by kernel_rfl
def PUd (B:List PBox) (e:List PV) (res:Option (Ex×St)):Prop:=∃ e',res=some (.normal,⟨e',B⟩)∧getT e' 3=.sl [.agg [.int .i64 3,.int .i64 3,.int .i64 2,.int .i64 0,.int .i64 20,.sl [.bool true]]]∧getT e' 2=getT e 2
theorem PUd.of {dr:Array Oper->St->Option (Ex×St)} {O:Array Oper} {st:St} {B:List PBox} {e:List PV} {z:Option (Ex×St)} (hE:dr O st=z) (h:PUd B e (dr O st)):PUd B e z:=hE ▸ h
theorem draw_up (B:List PBox) (e:List PV) (hb:B[1]?=some (.cells 28 [.int .i64 1,.int .i64 2,.sl [.int .i64 7]])) (h2:getT e 2=.bp 1 0) (h3:getT e 3=.sl [.agg [.int .i64 3,.int .i64 1,.int .i64 0,.int .i64 0,.int .i64 10,.sl [.bool false]]]):PUd B e (drawAll CC (callL CC) (opsOf (fpart Try.f4 [1,1,1,1,1,1,1,0])) ⟨e,B⟩):=by
 have hhv:∀ bx,callOp CC (callL CC) 12 [.sl [.agg [.int .i64 3,.int .i64 1,.int .i64 0,.int .i64 0,.int .i64 10,.sl [.bool false]]],.agg [.int .i64 1,.int .i64 2,.sl [.int .i64 7]],.int .i64 3,.sl [.bool true]] bx=some (.ret (.sl [.agg [.int .i64 3,.int .i64 2,.int .i64 0,.int .i64 0,.int .i64 10,.sl [.bool true]]]),bx):=fun bx=>of_chk ex_have rfl rfl bx
 have hin:∀ bx,callOp CC (callL CC) 11 [.sl [.agg [.int .i64 3,.int .i64 2,.int .i64 0,.int .i64 0,.int .i64 10,.sl [.bool true]]],.agg [.int .i64 1,.int .i64 2,.sl [.int .i64 7]],.int .i64 3,.int .i64 20] bx=some (.ret (.sl [.agg [.int .i64 3,.int .i64 3,.int .i64 2,.int .i64 0,.int .i64 20,.sl [.bool true]]]),bx):=fun bx=>by
  have h:=op_Install [⟨3,2,0,0,10,[true]⟩] (by simp) (by simp) (fun u hu=>by simp at hu;subst hu;decide) stdF 3 20 bx
  rw [inst_std] at h
  exact h
 have h6f:∀ D:Nat->Bool,(∀ j o,(opsOf (fpart Try.f4 [1,1,1,1,1,1,1,0]))[j]?=some o->D j=true->∀ e ∈ o.after.toList,Region.binds .any e=true->D e.on=true)->∀ j,j < 6->D j=false->D 6=false:=by
  intro D hcl j hj hD
  cases h:D 6 with
  | false=>rfl
  | true=>
   have hx:∃ o,(opsOf (fpart Try.f4 [1,1,1,1,1,1,1,0]))[6]?=some o∧∀ j,j < 6->(⟨j,.phase⟩:Edge) ∈ o.after.toList:=⟨_,by simp only [opsOf,fpart,part',Try.f4,Option.getD,List.getElem?_toArray,List.getElem?_cons_succ,List.getElem?_cons_zero];rfl,fun j hj=>by
    have:j=0∨j=1∨j=2∨j=3∨j=4∨j=5:=by omega
    rcases this with rfl | rfl | rfl | rfl | rfl | rfl <;> simp⟩
   obtain ⟨o,ho,hm⟩:=hx
   have:=hcl 6 o ho h _ (hm j hj) rfl
   rw [hD] at this
   cases this
 refine ⟨_,drawAll_states (e0:=e) (L:=(6,3,.sl [.agg [.int .i64 3,.int .i64 3,.int .i64 2,.int .i64 0,.int .i64 20,.sl [.bool true]]]) :: upL) (bxOf:=fun _=>B) (orders_all _) (orders_ne back_up) (fun D oo op hop hD hdep hcl=>?_) (by unfold upL;simp [setsD]) (r:=⟨setsD e (fun _=>true) ((6,3,.sl [.agg [.int .i64 3,.int .i64 3,.int .i64 2,.int .i64 0,.int .i64 20,.sl [.bool true]]]) :: upL),B⟩) (fun D hD=>?_),?_,?_⟩
 · have hj:oo < 7:=by
    have:=(Array.getElem?_eq_some_iff.1 hop).1
    rw [size_up] at this
    exact this
   have hpw:=upL_pw
   have z2:getT (setsD e D upL) 2=.bp 1 0:=by rw [getT_off e D 2 _ (by unfold upL;simp)];exact h2
   have z3:getT (setsD e D upL) 3=.sl [.agg [.int .i64 3,.int .i64 1,.int .i64 0,.int .i64 0,.int .i64 10,.sl [.bool false]]]:=by rw [getT_off e D 3 _ (by unfold upL;simp)];exact h3
   obtain ⟨fa,fb,fv,hfn⟩:=FNs
   by_cases e0:oo=0
   · subst e0
     have h6:=h6f D hcl 0 (by decide) hD
     simp only [opsOf,fpart,part',Try.f4,Option.getD,List.getElem?_toArray,List.getElem?_cons_succ,List.getElem?_cons_zero] at hop
     injection hop with hop
     subst hop
     refine ⟨rfl,fun al=>?_⟩
     rw [setsD_nolast e D 6 3 _ _ h6,setsD_nolast e (addD D 0) 6 3 _ _ (by rw [addD_ne (by decide)];exact h6)]
     rw [<- setsD_add e D 0 45 (.sl [.agg [.int .i64 3,.int .i64 1,.int .i64 0,.int .i64 0,.int .i64 10,.sl [.bool false]]]) hD _ (by unfold upL;simp) hpw]
     generalize setsD e D upL=E at *
     obtain ⟨ev,eo,so,co,⟨hev,hco,heo,hso⟩,R⟩:=RULES0 CC
     rw [<- hso]
     simp (maxSteps:=5000000) only [SA,SB,SD,R,SF,SG,SH,seval,TG,SE,SC,UTT,ZCT,RV,dynR,hfn,nchP,List.getElem?_concat_length,ss1,List.set_cons_zero,List.set_cons_succ,Bool.not_not,strP_eql,strP_neq,z2,z3]
     exact ⟨_,rfl⟩
   by_cases e1:oo=1
   · subst e1
     have h6:=h6f D hcl 1 (by decide) hD
     simp only [opsOf,fpart,part',Try.f4,Option.getD,List.getElem?_toArray,List.getElem?_cons_succ,List.getElem?_cons_zero] at hop
     injection hop with hop
     subst hop
     refine ⟨rfl,fun al=>?_⟩
     rw [setsD_nolast e D 6 3 _ _ h6,setsD_nolast e (addD D 1) 6 3 _ _ (by rw [addD_ne (by decide)];exact h6)]
     rw [<- setsD_add e D 1 46 (.agg [.int .i64 1,.int .i64 2,.sl [.int .i64 7]]) hD _ (by unfold upL;simp) hpw]
     generalize setsD e D upL=E at *
     obtain ⟨ev,eo,so,co,⟨hev,hco,heo,hso⟩,R⟩:=RULES0 CC
     rw [<- hso]
     simp (maxSteps:=5000000) only [SA,SB,SD,R,SF,SG,SH,seval,TG,SE,SC,UTT,ZCT,RV,dynR,hfn,nchP,List.getElem?_concat_length,ss1,List.set_cons_zero,List.set_cons_succ,Bool.not_not,strP_eql,strP_neq,z2,z3,hb]
     exact ⟨_,rfl⟩
   by_cases e2:oo=2
   · subst e2
     have h6:=h6f D hcl 2 (by decide) hD
     simp only [opsOf,fpart,part',Try.f4,Option.getD,List.getElem?_toArray,List.getElem?_cons_succ,List.getElem?_cons_zero] at hop
     injection hop with hop
     subst hop
     refine ⟨rfl,fun al=>?_⟩
     rw [setsD_nolast e D 6 3 _ _ h6,setsD_nolast e (addD D 2) 6 3 _ _ (by rw [addD_ne (by decide)];exact h6)]
     rw [<- setsD_add e D 2 47 (.osl 4 [.bool true]) hD _ (by unfold upL;simp) hpw]
     generalize setsD e D upL=E at *
     obtain ⟨ev,eo,so,co,⟨hev,hco,heo,hso⟩,R⟩:=RULES0 CC
     rw [<- hso]
     simp (maxSteps:=5000000) only [SA,SB,SD,R,SF,SG,SH,seval,TG,SE,SC,UTT,ZCT,RV,dynR,hfn,nchP,List.getElem?_concat_length,ss1,List.set_cons_zero,List.set_cons_succ,Bool.not_not,strP_eql,strP_neq,z2,z3,bsT1]
     exact ⟨_,rfl⟩
   by_cases e3:oo=3
   · subst e3
     have h6:=h6f D hcl 3 (by decide) hD
     simp only [opsOf,fpart,part',Try.f4,Option.getD,List.getElem?_toArray,List.getElem?_cons_succ,List.getElem?_cons_zero] at hop
     injection hop with hop
     subst hop
     refine ⟨rfl,fun al=>?_⟩
     have d0:D 0=true:=hdep ⟨0,.data⟩ (by simp) rfl
     have z45:getT (setsD e D upL) 45=.sl [.agg [.int .i64 3,.int .i64 1,.int .i64 0,.int .i64 0,.int .i64 10,.sl [.bool false]]]:=getT_on e D 0 45 _ d0 _ (by unfold upL;simp) hpw
     have d1:D 1=true:=hdep ⟨1,.data⟩ (by simp) rfl
     have z46:getT (setsD e D upL) 46=.agg [.int .i64 1,.int .i64 2,.sl [.int .i64 7]]:=getT_on e D 1 46 _ d1 _ (by unfold upL;simp) hpw
     have d2:D 2=true:=hdep ⟨2,.data⟩ (by simp) rfl
     have z47:getT (setsD e D upL) 47=.osl 4 [.bool true]:=getT_on e D 2 47 _ d2 _ (by unfold upL;simp) hpw
     rw [setsD_nolast e D 6 3 _ _ h6,setsD_nolast e (addD D 3) 6 3 _ _ (by rw [addD_ne (by decide)];exact h6)]
     rw [<- setsD_add e D 3 48 (.sl [.agg [.int .i64 3,.int .i64 2,.int .i64 0,.int .i64 0,.int .i64 10,.sl [.bool true]]]) hD _ (by unfold upL;simp) hpw]
     generalize setsD e D upL=E at *
     obtain ⟨ev,eo,so,co,⟨hev,hco,heo,hso⟩,R⟩:=RULES0 CC
     rw [<- hco] at hhv
     rw [<- hso]
     simp (maxSteps:=5000000) only [SA,SB,SD,R,SF,SG,SH,seval,TG,SE,SC,UTT,ZCT,RV,dynR,hfn,nchP,List.getElem?_concat_length,ss1,List.set_cons_zero,List.set_cons_succ,Bool.not_not,strP_eql,strP_neq,z2,z3,z45,z46,z47,hhv]
     exact ⟨_,rfl⟩
   by_cases e4:oo=4
   · subst e4
     have h6:=h6f D hcl 4 (by decide) hD
     simp only [opsOf,fpart,part',Try.f4,Option.getD,List.getElem?_toArray,List.getElem?_cons_succ,List.getElem?_cons_zero] at hop
     injection hop with hop
     subst hop
     refine ⟨rfl,fun al=>?_⟩
     rw [setsD_nolast e D 6 3 _ _ h6,setsD_nolast e (addD D 4) 6 3 _ _ (by rw [addD_ne (by decide)];exact h6)]
     rw [<- setsD_add e D 4 49 (.agg [.int .i64 1,.int .i64 2,.sl [.int .i64 7]]) hD _ (by unfold upL;simp) hpw]
     generalize setsD e D upL=E at *
     obtain ⟨ev,eo,so,co,⟨hev,hco,heo,hso⟩,R⟩:=RULES0 CC
     rw [<- hso]
     simp (maxSteps:=5000000) only [SA,SB,SD,R,SF,SG,SH,seval,TG,SE,SC,UTT,ZCT,RV,dynR,hfn,nchP,List.getElem?_concat_length,ss1,List.set_cons_zero,List.set_cons_succ,Bool.not_not,strP_eql,strP_neq,z2,z3,hb]
     exact ⟨_,rfl⟩
   by_cases e5:oo=5
   · subst e5
     have h6:=h6f D hcl 5 (by decide) hD
     simp only [opsOf,fpart,part',Try.f4,Option.getD,List.getElem?_toArray,List.getElem?_cons_succ,List.getElem?_cons_zero] at hop
     injection hop with hop
     subst hop
     refine ⟨rfl,fun al=>?_⟩
     have d3:D 3=true:=hdep ⟨3,.data⟩ (by simp) rfl
     have z48:getT (setsD e D upL) 48=.sl [.agg [.int .i64 3,.int .i64 2,.int .i64 0,.int .i64 0,.int .i64 10,.sl [.bool true]]]:=getT_on e D 3 48 _ d3 _ (by unfold upL;simp) hpw
     have d4:D 4=true:=hdep ⟨4,.data⟩ (by simp) rfl
     have z49:getT (setsD e D upL) 49=.agg [.int .i64 1,.int .i64 2,.sl [.int .i64 7]]:=getT_on e D 4 49 _ d4 _ (by unfold upL;simp) hpw
     rw [setsD_nolast e D 6 3 _ _ h6,setsD_nolast e (addD D 5) 6 3 _ _ (by rw [addD_ne (by decide)];exact h6)]
     rw [<- setsD_add e D 5 50 (.sl [.agg [.int .i64 3,.int .i64 3,.int .i64 2,.int .i64 0,.int .i64 20,.sl [.bool true]]]) hD _ (by unfold upL;simp) hpw]
     generalize setsD e D upL=E at *
     obtain ⟨ev,eo,so,co,⟨hev,hco,heo,hso⟩,R⟩:=RULES0 CC
     rw [<- hco] at hin
     rw [<- hso]
     simp (maxSteps:=5000000) only [SA,SB,SD,R,SF,SG,SH,seval,TG,SE,SC,UTT,ZCT,RV,dynR,hfn,nchP,List.getElem?_concat_length,ss1,List.set_cons_zero,List.set_cons_succ,Bool.not_not,strP_eql,strP_neq,z2,z3,z48,z49,hin]
     exact ⟨_,rfl⟩
   by_cases e6:oo=6
   · subst e6
     simp only [opsOf,fpart,part',Try.f4,Option.getD,List.getElem?_toArray,List.getElem?_cons_succ,List.getElem?_cons_zero] at hop
     injection hop with hop
     subst hop
     refine ⟨rfl,fun al=>?_⟩
     have d5:D 5=true:=hdep ⟨5,.data⟩ (by simp) rfl
     have z50:getT (setsD e D upL) 50=.sl [.agg [.int .i64 3,.int .i64 3,.int .i64 2,.int .i64 0,.int .i64 20,.sl [.bool true]]]:=getT_on e D 5 50 _ d5 _ (by unfold upL;simp) hpw
     rw [setsD_nolast e D 6 3 _ _ hD,setsD_last e (addD D 6) 6 3 _ _ addD_self,setsD_skip e D 6 _ (by unfold upL;simp)]
     generalize setsD e D upL=E at *
     obtain ⟨ev,eo,so,co,⟨hev,hco,heo,hso⟩,R⟩:=RULES0 CC
     rw [<- hso]
     simp (maxSteps:=5000000) only [SA,SB,SD,R,SF,SG,SH,seval,TG,SE,SC,UTT,ZCT,RV,dynR,hfn,nchP,List.getElem?_concat_length,ss1,List.set_cons_zero,List.set_cons_succ,Bool.not_not,strP_eql,strP_neq,z2,z3,z50]
     exact ⟨_,rfl⟩
   omega
 · have hsz:=size_up
   have hd:∀ j,j < 7->D j=true:=fun j hj=>hD j (by rw [hsz];exact hj)
   unfold upL
   simp only [setsD,hd 0 (by decide),hd 1 (by decide),hd 2 (by decide),hd 3 (by decide),hd 4 (by decide),hd 5 (by decide),hd 6 (by decide),if_true]
 · rw [setsD_last _ _ _ _ _ _ rfl,getT_setT,if_pos rfl]
 · rw [setsD_last _ _ _ _ _ _ rfl,getT_setT,if_neg (by decide)]
   exact getT_off e _ 2 _ (by unfold upL;simp)
theorem bx1:buildSliceP CC 46 1 [(0,.str [111,110,111,102,102])]=some (.osl 9 [.str [111,110,111,102,102]]):=by kernel_rfl
theorem bx2:buildP CC 48 [(0,.int .i64 3),(1,.int .u64 9),(2,.int .i64 1),(5,.str [104,97,108,108]),(6,.sl [.str [111,110,111,102,102]])]=some (.agg [.int .i64 3,.int .u64 9,.int .i64 1,.bool false,.int .i64 0,.str [104,97,108,108],.sl [.str [111,110,111,102,102]]]):=by kernel_rfl
theorem bx3:buildSliceP CC 23 1 [(0,.agg [.int .i64 3,.int .u64 9,.int .i64 1,.bool false,.int .i64 0,.str [104,97,108,108],.sl [.str [111,110,111,102,102]]])]=some (.osl 48 [.agg [.int .i64 3,.int .u64 9,.int .i64 1,.bool false,.int .i64 0,.str [104,97,108,108],.sl [.str [111,110,111,102,102]]]]):=by kernel_rfl
theorem bx4 (xs:List PV):buildP CC 25 [(0,.sl xs),(1,.sl [.agg [.int .i64 3,.int .u64 9,.int .i64 1,.bool false,.int .i64 0,.str [104,97,108,108],.sl [.str [111,110,111,102,102]]]])]=some (.agg [.sl xs,.sl [.agg [.int .i64 3,.int .u64 9,.int .i64 1,.bool false,.int .i64 0,.str [104,97,108,108],.sl [.str [111,110,111,102,102]]]]]):=by kernel_rfl
theorem bx5:buildSliceP CC 26 1 [(0,.int .i64 7)]=some (.osl 3 [.int .i64 7]):=by kernel_rfl
theorem bx6:buildP CC 28 [(0,.int .i64 1),(1,.int .i64 2),(2,.sl [.int .i64 7])]=some (.agg [.int .i64 1,.int .i64 2,.sl [.int .i64 7]]):=by kernel_rfl
theorem zcH:zeroCells CC 25=some [.nils,.nils]:=by kernel_rfl
theorem zcF:zeroCells CC 28=some [.int .i64 0,.int .i64 0,.nils]:=by kernel_rfl
theorem call_updated:∃ bx,callL CC 4 [] []=some (.ret (.bool true),bx):=by
 rw [callL_enterB (fn:=Try.f4) (c:=Try.f4.body.getD .skip) rfl rfl fat_Upd rfl noB_Upd okB_Upd (Nat.le_of_ble_eq_true rfl)]
 have hst:∀ bx,callOp CC (callL CC) 9 [] bx=some (.ret (.sl (stdC.map clV)),bx):=fun bx=>of_chk ex_std rfl (clvs_pure _) bx
 have hnw:∀ bx,callOp CC (callL CC) 5 [.agg [.sl (stdC.map clV),.sl [.agg [.int .i64 3,.int .u64 9,.int .i64 1,.bool false,.int .i64 0,.str [104,97,108,108],.sl [.str [111,110,111,102,102]]]]],.agg [.int .i64 1,.int .i64 2,.sl [.int .i64 7]],.sl []] bx=some (.ret (.tup [.sl [.agg [.int .i64 3,.int .i64 0,.int .i64 0,.int .i64 0,.int .i64 0,.sl [.bool false]]],.int .i64 0]),bx):=fun bx=>by
  have h:=op_New stdH okStd (by decide) stdF bx
  rw [new_std] at h
  exact h
 have hsta:∀ bx,callOp CC (callL CC) 10 [.sl [.agg [.int .i64 3,.int .i64 0,.int .i64 0,.int .i64 0,.int .i64 0,.sl [.bool false]]],.agg [.int .i64 1,.int .i64 2,.sl [.int .i64 7]],.int .i64 10] bx=some (.ret (.sl [.agg [.int .i64 3,.int .i64 1,.int .i64 0,.int .i64 0,.int .i64 10,.sl [.bool false]]]),bx):=fun bx=>of_chk ex_start rfl rfl bx
 have hcon:∀ bx,callOp CC (callL CC) 13 [.sl [.agg [.int .i64 3,.int .i64 3,.int .i64 2,.int .i64 0,.int .i64 20,.sl [.bool true]]],.int .i64 3,.bool true,.int .i64 620] bx=some (.ret (.sl [.agg [.int .i64 3,.int .i64 4,.int .i64 2,.int .i64 0,.int .i64 20,.sl [.bool true]]]),bx):=fun bx=>of_chk ex_confirm rfl rfl bx
 have hwav:∀ bx,callOp CC (callL CC) 14 [.sl [.agg [.int .i64 3,.int .i64 4,.int .i64 2,.int .i64 0,.int .i64 20,.sl [.bool true]]],.agg [.int .i64 1,.int .i64 2,.sl [.int .i64 7]]] bx=some (.ret (.int .i64 (-1)),bx):=fun bx=>of_chk ex_wave rfl rfl bx
 have hdr:∀ (B:List PBox) e,B[1]?=some (.cells 28 [.int .i64 1,.int .i64 2,.sl [.int .i64 7]])->getT e 2=.bp 1 0->getT e 3=.sl [.agg [.int .i64 3,.int .i64 1,.int .i64 0,.int .i64 0,.int .i64 10,.sl [.bool false]]]->PUd B e (drawAll CC (callL CC) (opsOf (fpart Try.f4 [1,1,1,1,1,1,1,0])) ⟨e,B⟩):=fun B e hb h2 h3=>draw_up B e hb h2 h3
 simp only [<- drawM_all no_up] at hdr
 have hxp:=clvs_pure stdC
 have hb4:=bx4 (stdC.map clV)
 generalize stdC.map clV=xs at *
 obtain ⟨fa,fb,fv,hfn⟩:=FNs
 obtain ⟨dr,ev,eo,so,co,⟨hev,hco,heo,hdr'⟩,R⟩:=RULESB CC
 rw [<- hev]
 rw [<- hco] at hst hnw hsta hcon hwav
 rw [<- hdr'] at hdr
 simp only [opsOf,fpart,part',Try.f4,Option.getD] at hdr ⊢
 simp (maxSteps:=5000000) only [SA,SB,SD,R,SF,SG,SH,seval,TG,SE,SC,UTT,ZCT,RV,dynR,hfn,nchP,List.getElem?_concat_length,ss1,List.set_cons_zero,List.set_cons_succ,Bool.not_not,strP_eql,strP_neq,hst,hnw,hsta,hcon,hwav,hxp,bx1,bx2,bx3,hb4,bx5,bx6,zcH,zcF]
 generalize hE:dr _ _=z
 obtain ⟨e',he,g3,g2⟩:=PUd.of hE (hdr _ _ rfl (by simp (maxSteps:=5000000) only [SA,SB,SD,R,SF,seval] <;> rfl) (by simp (maxSteps:=5000000) only [SA,SB,SD,R,SF,seval] <;> rfl))
 simp (maxSteps:=5000000) only [SA,SB,SD,R,SF,seval] at g2
 subst he
 clear hdr hE
 simp (maxSteps:=5000000) only [SA,SB,SD,R,SF,SG,SH,seval,TG,SE,SC,UTT,ZCT,RV,dynR,hfn,nchP,List.getElem?_concat_length,ss1,List.set_cons_zero,List.set_cons_succ,Bool.not_not,strP_eql,strP_neq,hcon,hwav,g3,g2]
 exact ⟨_,rfl⟩
theorem op_updated (bx):callOp CC (callL CC) 4 [] bx=some (.ret (.bool true),bx):=by
 obtain ⟨b,h⟩:=call_updated
 exact callOp_of rfl rfl h rfl
end Go.HH
namespace Go.HH
open Go Go.Proofs
set_option maxRecDepth 100000
set_option maxHeartbeats 4000000
set_option linter.unusedSimpArgs false
set_option linter.unusedVariables false
def tt0 {α:Type} (_:α):Prop:=True
theorem mx {n:Nat} (h:n<=maxLen):n<=9223372036854775807:=by simpa [maxLen] using h
theorem hasV_ef {p:PV} (h:HasV Try.prog 64 p):∃ a:Ef,p=efV a∧tt0 a:=by
 have ht:Try.prog.underlying 64=some (.struct ((match Try.prog.underlying 64 with | some (.struct f)=>f | _=>#[]))):=by kernel_rfl
 have hl:((match Try.prog.underlying 64 with | some (.struct f)=>f | _=>#[]):Array Field).toList.map (fun f=>(f.type,f.offset))=[(3,0),(9,1),(3,2)]:=by kernel_rfl
 have c0:Try.prog.cellsOf 64=3:=by kernel_rfl
 have k0:Try.prog.cellsOf 3=1:=by kernel_rfl
 have k1:Try.prog.cellsOf 9=1:=by kernel_rfl
 obtain ⟨n,cs,rfl,hlen,hf⟩:=hasV_struct ht hl h
 rw [c0] at hlen
 match cs,hlen with
 | [a0,a1,a2],_=>
  have f0:=hf (3,0) (by simp)
  have f1:=hf (9,1) (by simp)
  have f2:=hf (3,2) (by simp)
  simp only [k0,k1] at f0 f1 f2
  obtain ⟨x0,e0,h0⟩:=hasT_i64 (P:=Try.prog) Try.underlying3 f0
  injection e0 with e0
  obtain ⟨x1,e1,h1⟩:=hasT_str (P:=Try.prog) Try.underlying9 f1
  injection e1 with e1
  obtain ⟨x2,e2,h2⟩:=hasT_i64 (P:=Try.prog) Try.underlying3 f2
  injection e2 with e2
  subst e0
  subst e1
  subst e2
  exact ⟨⟨x0,x1,x2⟩,rfl,trivial⟩
theorem hasV_cm {p:PV} (h:HasV Try.prog 69 p):∃ a:Cm,p=cmV a∧okCm a:=by
 have ht:Try.prog.underlying 69=some (.struct ((match Try.prog.underlying 69 with | some (.struct f)=>f | _=>#[]))):=by kernel_rfl
 have hl:((match Try.prog.underlying 69 with | some (.struct f)=>f | _=>#[]):Array Field).toList.map (fun f=>(f.type,f.offset))=[(9,0),(67,1),(65,8)]:=by kernel_rfl
 have c0:Try.prog.cellsOf 69=9:=by kernel_rfl
 have k0:Try.prog.cellsOf 9=1:=by kernel_rfl
 have k1:Try.prog.cellsOf 67=7:=by kernel_rfl
 have k2:Try.prog.cellsOf 65=1:=by kernel_rfl
 obtain ⟨n,cs,rfl,hlen,hf⟩:=hasV_struct ht hl h
 rw [c0] at hlen
 match cs,hlen with
 | [a0,a1,a2,a3,a4,a5,a6,a7,a8],_=>
  have f0:=hf (9,0) (by simp)
  have f1:=hf (67,1) (by simp)
  have f2:=hf (65,8) (by simp)
  simp only [k0,k1,k2] at f0 f1 f2
  obtain ⟨x0,e0,h0⟩:=hasT_str (P:=Try.prog) Try.underlying9 f0
  injection e0 with e0
  obtain ⟨x1,e1,h1⟩:=hasV_att (p:=.agg [a1,a2,a3,a4,a5,a6,a7]) ⟨n,[a1,a2,a3,a4,a5,a6,a7],(by unfold mkV;rw [show aggT Try.prog 67=true from by kernel_rfl] <;> rfl),fun _=>k1.symm,f1⟩
  unfold attV at e1
  injection e1 with e1
  obtain ⟨y2,e2,h2,g2⟩:=hasT_slice (P:=Try.prog) (show Try.prog.underlying 65=some (.slice 64) from by kernel_rfl) f2
  obtain ⟨x2,rfl,q2⟩:=list_of (f:=efV) (Q:=tt0) y2 (fun x hx=>hasV_ef (g2 x hx))
  rw [List.length_map] at h2
  injection e2 with e2
  subst e0
  simp only [List.cons.injEq,and_true] at e1
  obtain ⟨b0,b1,b2,b3,b4,b5,b6⟩:=e1
  subst b0 b1 b2 b3 b4 b5 b6
  subst e2
  exact ⟨⟨x0,x1,x2⟩,rfl,mx h2⟩
theorem hasV_cl {p:PV} (h:HasV Try.prog 76 p):∃ a:Cl,p=clV a∧okCl a:=by
 have ht:Try.prog.underlying 76=some (.struct ((match Try.prog.underlying 76 with | some (.struct f)=>f | _=>#[]))):=by kernel_rfl
 have hl:((match Try.prog.underlying 76 with | some (.struct f)=>f | _=>#[]):Array Field).toList.map (fun f=>(f.type,f.offset))=[(9,0),(72,1),(74,2),(46,3)]:=by kernel_rfl
 have c0:Try.prog.cellsOf 76=4:=by kernel_rfl
 have k0:Try.prog.cellsOf 9=1:=by kernel_rfl
 have k1:Try.prog.cellsOf 72=1:=by kernel_rfl
 have k2:Try.prog.cellsOf 74=1:=by kernel_rfl
 have k3:Try.prog.cellsOf 46=1:=by kernel_rfl
 obtain ⟨n,cs,rfl,hlen,hf⟩:=hasV_struct ht hl h
 rw [c0] at hlen
 match cs,hlen with
 | [a0,a1,a2,a3],_=>
  have f0:=hf (9,0) (by simp)
  have f1:=hf (72,1) (by simp)
  have f2:=hf (74,2) (by simp)
  have f3:=hf (46,3) (by simp)
  simp only [k0,k1,k2,k3] at f0 f1 f2 f3
  obtain ⟨x0,e0,h0⟩:=hasT_str (P:=Try.prog) Try.underlying9 f0
  injection e0 with e0
  obtain ⟨y1,e1,h1,g1⟩:=hasT_slice (P:=Try.prog) (show Try.prog.underlying 72=some (.slice 67) from by kernel_rfl) f1
  obtain ⟨x1,rfl,q1⟩:=list_of (f:=attV) (Q:=okAt) y1 (fun x hx=>hasV_att (g1 x hx))
  rw [List.length_map] at h1
  injection e1 with e1
  obtain ⟨y2,e2,h2,g2⟩:=hasT_slice (P:=Try.prog) (show Try.prog.underlying 74=some (.slice 69) from by kernel_rfl) f2
  obtain ⟨x2,rfl,q2⟩:=list_of (f:=cmV) (Q:=okCm) y2 (fun x hx=>hasV_cm (g2 x hx))
  rw [List.length_map] at h2
  injection e2 with e2
  obtain ⟨y3,e3,h3,g3⟩:=hasT_slice (P:=Try.prog) (show Try.prog.underlying 46=some (.slice 9) from by kernel_rfl) f3
  obtain ⟨x3,rfl,q3⟩:=list_of (f:=PV.str) (Q:=fun x:List UInt8=>x.length<=maxLen) y3 (fun x hx=>hasV_str (P:=Try.prog) Try.underlying9 (g3 x hx))
  rw [List.length_map] at h3
  injection e3 with e3
  subst e0
  subst e1
  subst e2
  subst e3
  exact ⟨⟨x0,x1,x2,x3⟩,rfl,mx h1,mx h2,mx h3,q2⟩
def okDv (d:Dv):Prop:=d.cl.length<=9223372036854775807
theorem hasV_dv {p:PV} (h:HasV Try.prog 48 p):∃ a:Dv,p=dvV a∧okDv a:=by
 have ht:Try.prog.underlying 48=some (.struct ((match Try.prog.underlying 48 with | some (.struct f)=>f | _=>#[]))):=by kernel_rfl
 have hl:((match Try.prog.underlying 48 with | some (.struct f)=>f | _=>#[]):Array Field).toList.map (fun f=>(f.type,f.offset))=[(3,0),(45,1),(3,2),(4,3),(3,4),(9,5),(46,6)]:=by kernel_rfl
 have c0:Try.prog.cellsOf 48=7:=by kernel_rfl
 have k0:Try.prog.cellsOf 3=1:=by kernel_rfl
 have k1:Try.prog.cellsOf 45=1:=by kernel_rfl
 have k2:Try.prog.cellsOf 4=1:=by kernel_rfl
 have k3:Try.prog.cellsOf 9=1:=by kernel_rfl
 have k4:Try.prog.cellsOf 46=1:=by kernel_rfl
 obtain ⟨n,cs,rfl,hlen,hf⟩:=hasV_struct ht hl h
 rw [c0] at hlen
 match cs,hlen with
 | [a0,a1,a2,a3,a4,a5,a6],_=>
  have f0:=hf (3,0) (by simp)
  have f1:=hf (45,1) (by simp)
  have f2:=hf (3,2) (by simp)
  have f3:=hf (4,3) (by simp)
  have f4:=hf (3,4) (by simp)
  have f5:=hf (9,5) (by simp)
  have f6:=hf (46,6) (by simp)
  simp only [k0,k1,k2,k3,k4] at f0 f1 f2 f3 f4 f5 f6
  obtain ⟨x0,e0,h0⟩:=hasT_i64 (P:=Try.prog) Try.underlying3 f0
  injection e0 with e0
  obtain ⟨x1,e1,h1⟩:=hasT_int (P:=Try.prog) Try.underlying45 f1
  injection e1 with e1
  obtain ⟨x2,e2,h2⟩:=hasT_i64 (P:=Try.prog) Try.underlying3 f2
  injection e2 with e2
  obtain ⟨x3,e3⟩:=hasT_bool (P:=Try.prog) Try.underlying4 f3
  injection e3 with e3
  obtain ⟨x4,e4,h4⟩:=hasT_i64 (P:=Try.prog) Try.underlying3 f4
  injection e4 with e4
  obtain ⟨x5,e5,h5⟩:=hasT_str (P:=Try.prog) Try.underlying9 f5
  injection e5 with e5
  obtain ⟨y6,e6,h6,g6⟩:=hasT_slice (P:=Try.prog) (show Try.prog.underlying 46=some (.slice 9) from by kernel_rfl) f6
  obtain ⟨x6,rfl,q6⟩:=list_of (f:=PV.str) (Q:=fun x:List UInt8=>x.length<=maxLen) y6 (fun x hx=>hasV_str (P:=Try.prog) Try.underlying9 (g6 x hx))
  rw [List.length_map] at h6
  injection e6 with e6
  subst e0
  subst e1
  subst e2
  subst e3
  subst e4
  subst e5
  subst e6
  exact ⟨⟨x0,x1,x2,x3,x4,x5,x6⟩,rfl,mx h6⟩
theorem hasV_hm {p:PV} (h:HasV Try.prog 25 p):∃ a:Hm,p=hmV a∧okHm a:=by
 have ht:Try.prog.underlying 25=some (.struct ((match Try.prog.underlying 25 with | some (.struct f)=>f | _=>#[]))):=by kernel_rfl
 have hl:((match Try.prog.underlying 25 with | some (.struct f)=>f | _=>#[]):Array Field).toList.map (fun f=>(f.type,f.offset))=[(22,0),(23,1)]:=by kernel_rfl
 have c0:Try.prog.cellsOf 25=2:=by kernel_rfl
 have k0:Try.prog.cellsOf 22=1:=by kernel_rfl
 have k1:Try.prog.cellsOf 23=1:=by kernel_rfl
 obtain ⟨n,cs,rfl,hlen,hf⟩:=hasV_struct ht hl h
 rw [c0] at hlen
 match cs,hlen with
 | [a0,a1],_=>
  have f0:=hf (22,0) (by simp)
  have f1:=hf (23,1) (by simp)
  simp only [k0,k1] at f0 f1
  obtain ⟨y0,e0,h0,g0⟩:=hasT_slice (P:=Try.prog) (show Try.prog.underlying 22=some (.slice 76) from by kernel_rfl) f0
  obtain ⟨x0,rfl,q0⟩:=list_of (f:=clV) (Q:=okCl) y0 (fun x hx=>hasV_cl (g0 x hx))
  rw [List.length_map] at h0
  injection e0 with e0
  obtain ⟨y1,e1,h1,g1⟩:=hasT_slice (P:=Try.prog) (show Try.prog.underlying 23=some (.slice 48) from by kernel_rfl) f1
  obtain ⟨x1,rfl,q1⟩:=list_of (f:=dvV) (Q:=okDv) y1 (fun x hx=>hasV_dv (g1 x hx))
  rw [List.length_map] at h1
  injection e1 with e1
  subst e0
  subst e1
  exact ⟨⟨x0,x1⟩,rfl,mx h0,mx h1,q0,q1⟩
theorem hasV_fw {p:PV} (h:HasV Try.prog 28 p):∃ a:Fw,p=fwV a∧tt0 a:=by
 have ht:Try.prog.underlying 28=some (.struct ((match Try.prog.underlying 28 with | some (.struct f)=>f | _=>#[]))):=by kernel_rfl
 have hl:((match Try.prog.underlying 28 with | some (.struct f)=>f | _=>#[]):Array Field).toList.map (fun f=>(f.type,f.offset))=[(3,0),(3,1),(26,2)]:=by kernel_rfl
 have c0:Try.prog.cellsOf 28=3:=by kernel_rfl
 have k0:Try.prog.cellsOf 3=1:=by kernel_rfl
 have k1:Try.prog.cellsOf 26=1:=by kernel_rfl
 obtain ⟨n,cs,rfl,hlen,hf⟩:=hasV_struct ht hl h
 rw [c0] at hlen
 match cs,hlen with
 | [a0,a1,a2],_=>
  have f0:=hf (3,0) (by simp)
  have f1:=hf (3,1) (by simp)
  have f2:=hf (26,2) (by simp)
  simp only [k0,k1] at f0 f1 f2
  obtain ⟨x0,e0,h0⟩:=hasT_i64 (P:=Try.prog) Try.underlying3 f0
  injection e0 with e0
  obtain ⟨x1,e1,h1⟩:=hasT_i64 (P:=Try.prog) Try.underlying3 f1
  injection e1 with e1
  obtain ⟨y2,e2,h2,g2⟩:=hasT_slice (P:=Try.prog) (show Try.prog.underlying 26=some (.slice 3) from by kernel_rfl) f2
  obtain ⟨x2,rfl,q2⟩:=list_of (f:=PV.int .i64) (Q:=inI) y2 (fun x hx=>hasV_int Try.underlying3 (g2 x hx))
  rw [List.length_map] at h2
  injection e2 with e2
  subst e0
  subst e1
  subst e2
  exact ⟨⟨x0,x1,x2⟩,rfl,trivial⟩
theorem hasV_st {p:PV} (h:HasV Try.prog 36 p):∃ s:Nat×Nat×Nat,p=stV s.1 s.2.1 s.2.2∧(s.2.1 < 65536∧s.2.2 < 65536):=by
 have ht:Try.prog.underlying 36=some (.array 3 35):=by kernel_rfl
 have hc:Try.prog.cellsOf 36=3:=by kernel_rfl
 have h1:Try.prog.cellsOf 35=1:=by kernel_rfl
 have hu:Try.prog.underlying 35=some (.int .u16):=by kernel_rfl
 obtain ⟨n,cs,rfl,hl,h⟩:=h
 have hl:=hl (by simp [aggT,ht])
 rw [hc] at hl
 cases n with
 | zero=>exact h.elim
 | succ n=>
  unfold HasT at h
  rw [ht] at h
  match cs,hl with
  | [a,b,c],_=>
   have f0:=h 0 (by decide)
   have f1:=h 1 (by decide)
   have f2:=h 2 (by decide)
   rw [h1] at f0 f1 f2
   obtain ⟨x0,e0,w0⟩:=hasT_int hu f0
   obtain ⟨x1,e1,w1⟩:=hasT_int hu f1
   obtain ⟨x2,e2,w2⟩:=hasT_int hu f2
   injection e0 with e0
   injection e1 with e1
   injection e2 with e2
   subst e0 e1 e2
   simp only [Lit.wf,Bool.and_eq_true,decide_eq_true_eq] at w0 w1 w2
   have hmin:IntKind.min .u16=0:=rfl
   have hmax:IntKind.max .u16=65535:=rfl
   rw [hmin,hmax] at w0 w1 w2
   refine ⟨(x0.toNat,x1.toNat,x2.toNat),?_,by show x1.toNat < 65536;omega,by show x2.toNat < 65536;omega⟩
   unfold stV
   simp only [Int.toNat_of_nonneg w0.1,Int.toNat_of_nonneg w1.1,Int.toNat_of_nonneg w2.1]
   simp [mkV,aggT,ht]
theorem hasV_sts {p:PV} (h:HasV Try.prog 29 p):∃ l:List (Nat×Nat×Nat),p=.sl (stsV l)∧∀ s ∈ l,s.2.1 < 65536∧s.2.2 < 65536:=by
 obtain ⟨xs,rfl,_,h2⟩:=hasV_slice (P:=Try.prog) (show Try.prog.underlying 29=some (.slice 36) from by kernel_rfl) h
 obtain ⟨l,rfl,h3⟩:=list_of (f:=fun s:Nat×Nat×Nat=>stV s.1 s.2.1 s.2.2) (Q:=fun s=>s.2.1 < 65536∧s.2.2 < 65536) xs (fun x hx=>hasV_st (h2 x hx))
 exact ⟨l,rfl,h3⟩
theorem law_TopUpdates (h:Hm) (hh:okHm h) (f:Fw) (_:tt0 f) (l:List (Nat×Nat×Nat)) (hl:∀ s ∈ l,s.2.1 < 65536∧s.2.2 < 65536):∃ bx,callL CC 3 [hmV h,fwV f,.sl (stsV l)] []=some (.ret (.bool true),bx):=call_Top op_updated h hh f l hl
end Go.HH
namespace Go.HH.W
open Go Go.Proofs Go.HH Go.RowKit Go.Shelf
attribute [local go_sem] Oper.semAt_some
set_option maxRecDepth 100000
set_option maxHeartbeats 4000000
set_option linter.unusedSimpArgs false
set_option linter.unusedVariables false
theorem wpListIn_append_src {F:Fence} {n:Nat} {P:Program} (w:World) {ops:Array Oper} {rest:List Oper} {o:Oper} {a:Act} {Q:Exit->Act->World->Prop}
 (hg:o.guard=none) (s x:Operand) (t:TypeId) (hop:o.op=Op.call { callee:=Callee.builtin Builtin.append,args:=#[s,x],argTypes:=#[t,t] })
 (e:TypeId) (i:TypeInfo) (z:Value) (h1:P.underlying t=some (.slice e)) (h2:P.info? e=some i) (h3:i.zero=some z) (h6:z.cells.size=i.size)
 (v:Value) (k:Nat) (xs:List Value) (hs:a.eval s=v) (hown:w.ownsRow 0 e i.size v k xs) (xv:Value) (m:Nat) (news:List Value) (hx:a.eval x=xv) (hsrc:Src P i.size t xv m news w)
 (b1:k+m<=maxLen) (b2:(k+m) * i.bytes<=140737488355328)
 (hK:∀ v' w',w'.ownsRow 0 e i.size v' (k+m) (xs++news)->w'.os=w.os->w'.tape=w.tape->w'.output=w.output->w.heap.size<=w'.heap.size ->
  ((∃ g,v.ownBlock=some g∧v'.ownBlock=some g∧∀ k,k≠g->w'.heap[k]?=w.heap[k]?)∨((v'.ownBlock=none∨v'.ownBlock=some w.heap.size)∧∀ k,k < w.heap.size->w'.heap[k]?=w.heap[k]?)) ->
  wpListIn F n P ops Q rest (a.put o.dst v') w') :
 wpListIn F n P ops Q (o :: rest) a w:=by
 refine wpListIn_plain hg fun K hK'=>?_
 obtain ⟨v',w',hrun,r1,r2,r3,r4,r5,r6⟩:=run_append_src (P:=P) w t t o.type e i z h1 h2 h3 h6 v k xs hown xv m news hsrc b1 b2
 unfold Oper.wpIn
 refine ⟨?_,?_⟩
 · simp [Oper.about,hop,resolve,Target.leads,Sem.run_pure]
 · rw [Oper.semAt_plain F _ _ (by rw [hop];intro c hc';cases hc')]
   simp [execOp,hop,resolve,invoke,builtin,hs,hx,hrun,Result.andThen]
   exact hK' _ _ (hK v' w' r1 r2 r3 r4 r5 r6)
def RowAt (w:World) (a:Option Addr) (n:Nat) (vals:List Value):Prop:=n=0∨∃ b o,a=some ⟨b,o,none⟩∧b < w.heap.size∧∀ j u,vals[j]?=some u->w.cell? ⟨b,o+j,none⟩=some u
noncomputable def IB:TypeInfo:=(Try.prog.info? 4).getD default
theorem infoB:Try.prog.info? 4=some IB:=by kernel_rfl
theorem sizeB:IB.size=1:=by kernel_rfl
theorem bytesB:IB.bytes=1:=by kernel_rfl
theorem uSB:Try.prog.underlying 39=some (.slice 4):=by kernel_rfl
theorem zeroB:∃ z,IB.zero=some z∧z.cells.size=1:=by
 have h:(match IB.zero with | some z=>z.cells.size == 1 | none=>false)=true:=by kernel_rfl
 split at h
 · rename_i z e;exact ⟨z,e,by simpa using h⟩
 · cases h
theorem clone_B (vals:List Value) (n:Nat) (hlen:vals.length=n * 1) (hone:∀ u ∈ vals,u.oneCell'=true) (hmax:n<=maxLen) (hby:n * 1<=140737488355328) (a:Option Addr) (cap:Nat) (hcap:n<=cap) (w:World) (hL:RowAt w a n vals) :
 CallsIn Fence.wide 5 Try.prog 39 #[.slice a n cap] w fun e w'=>∃ v,e=.returned v∧w'.ownsRow 0 4 1 v n vals∧(∀ g,v.ownBlock=some g->w.heap.size<=g)∧Below w.heap.size w w':=by
 refine callsIn_of_wp Try.func39 rfl trivial ?_ rfl
 simp only [Try.ntmps39,List.size_toArray,List.length_cons,List.length_nil,Nat.reduceAdd,Nat.reduceSub,Array.replicate_succ,Array.replicate_zero,List.push_toArray,List.append_toArray,List.nil_append,List.cons_append]
 obtain ⟨z,hz0,hz1⟩:=zeroB
 have q22:∀ (w:World) (a:Option Addr) (n c n' c':Nat),(binOp .eql 39 (.slice a n c) (.slice none n' c')).run Try.prog w=.ok (.bool a.isNone) w:=fun w a n c n' c'=>Lib.run_eql_slice_nil w _ _ a n c n' c' uSB
 cases a with
 | none=>
  have hn:n=0:=by
   rcases hL with h | ⟨b,o,h,_⟩
   · exact h
   · cases h
  subst hn
  obtain rfl:vals=[]:=List.eq_nil_of_length_eq_zero (by simpa using hlen)
  gi_wp2
  go_ret
  exact ⟨_,rfl,World.ownsRow_nil w 0 4 1,fun g h=>(by cases h),Below.refl _ _⟩
 | some ad=>
  obtain ⟨W1,hW1⟩:∃ W1,w.alloc (.cells #[] 4)=W1:=⟨_,rfl⟩
  have hb1:Below w.heap.size w W1:=by rw [<- hW1];exact (Below.refl _ w).alloc (Nat.le_refl _) _
  have hrow:W1.ownsRow 0 4 1 (.slice (some ⟨w.heap.size,0,none⟩) 0 0) 0 []:=by
   rw [<- hW1]
   exact ⟨rfl,.inr ⟨w.heap.size,0,#[],rfl,Nat.zero_le _,World.alloc_heap_new w _,Nat.le_refl _,Nat.zero_le _,rfl,rfl⟩⟩
  have hsrc:Src Try.prog 1 39 (.slice (some ad) n cap) n vals W1:=by
   refine Src.ofSlice W1 uSB ad n cap vals hlen (fun j u hu=>?_) hone
   rcases hL with h | ⟨b,o,h,hb,hc⟩
   · subst h
     obtain rfl:vals=[]:=List.eq_nil_of_length_eq_zero (by simpa using hlen)
     simp at hu
   · injection h with h
     subst h
     have h4:(⟨b,o,none⟩:Addr).add j=⟨b,o+j,none⟩:=by first | rfl | simp [Addr.add_lit] | simp [Addr.add]
     rw [h4]
     exact (hb1.cell (p:=⟨b,o+j,none⟩) hb).trans (hc j u hu)
  subst hW1
  have hb1':0+n<=maxLen:=by omega
  have hb2':(0+n) * 1<=140737488355328:=by omega
  gi_wp2_with (gi_at_builtin;refine wpListIn_append_src _ rfl _ _ 39 rfl 4 IB z uSB infoB hz0 (by rw [sizeB];exact hz1) (.slice (some ⟨w.heap.size,0,none⟩) 0 0) 0 [] rfl (by rw [sizeB];exact hrow) _ n vals rfl (by rw [sizeB];exact hsrc) hb1' (by rw [bytesB];exact hb2') ?_;intro v' w1 hown' os' tape' out' size' hwh)
  rw [sizeB,Nat.zero_add,List.nil_append] at hown'
  go_ret
  refine ⟨v',rfl,hown',fun g hg=>?_,⟨os',tape',out',by simp at size';omega,fun k hk=>?_⟩⟩
  · rcases hwh with ⟨g2,h1,h2,h3⟩ | ⟨h1,h2⟩
    · rw [h2] at hg
      have e:w.heap.size=g2:=by simpa [Value.ownBlock] using h1
      injection hg with hg
      omega
    · rcases h1 with h1 | h1
      · rw [h1] at hg;cases hg
      · rw [h1] at hg
        injection hg with hg
        simp at hg
        omega
  · have h0:=Below.heap_alloc w (.cells #[] 4) k hk
    rcases hwh with ⟨g2,h1,h2,h3⟩ | ⟨h1,h2⟩
    · have e:w.heap.size=g2:=by simpa [Value.ownBlock] using h1
      exact (h3 k (by omega)).trans h0
    · exact (h2 k (by simp;omega)).trans h0
noncomputable def IS:TypeInfo:=(Try.prog.info? 9).getD default
theorem infoS:Try.prog.info? 9=some IS:=by kernel_rfl
theorem sizeS:IS.size=1:=by kernel_rfl
theorem bytesS:IS.bytes=16:=by kernel_rfl
theorem uSS:Try.prog.underlying 46=some (.slice 9):=by kernel_rfl
theorem zeroS:∃ z,IS.zero=some z∧z.cells.size=1:=by
 have h:(match IS.zero with | some z=>z.cells.size == 1 | none=>false)=true:=by kernel_rfl
 split at h
 · rename_i z e;exact ⟨z,e,by simpa using h⟩
 · cases h
theorem clone_S (vals:List Value) (n:Nat) (hlen:vals.length=n * 1) (hone:∀ u ∈ vals,u.oneCell'=true) (hmax:n<=maxLen) (hby:n * 16<=140737488355328) (a:Option Addr) (cap:Nat) (hcap:n<=cap) (w:World) (hL:RowAt w a n vals) :
 CallsIn Fence.wide 5 Try.prog 57 #[.slice a n cap] w fun e w'=>∃ v,e=.returned v∧w'.ownsRow 0 9 1 v n vals∧(∀ g,v.ownBlock=some g->w.heap.size<=g)∧Below w.heap.size w w':=by
 refine callsIn_of_wp Try.func57 rfl trivial ?_ rfl
 simp only [Try.ntmps57,List.size_toArray,List.length_cons,List.length_nil,Nat.reduceAdd,Nat.reduceSub,Array.replicate_succ,Array.replicate_zero,List.push_toArray,List.append_toArray,List.nil_append,List.cons_append]
 obtain ⟨z,hz0,hz1⟩:=zeroS
 have q22:∀ (w:World) (a:Option Addr) (n c n' c':Nat),(binOp .eql 46 (.slice a n c) (.slice none n' c')).run Try.prog w=.ok (.bool a.isNone) w:=fun w a n c n' c'=>Lib.run_eql_slice_nil w _ _ a n c n' c' uSS
 cases a with
 | none=>
  have hn:n=0:=by
   rcases hL with h | ⟨b,o,h,_⟩
   · exact h
   · cases h
  subst hn
  obtain rfl:vals=[]:=List.eq_nil_of_length_eq_zero (by simpa using hlen)
  gi_wp2
  go_ret
  exact ⟨_,rfl,World.ownsRow_nil w 0 9 1,fun g h=>(by cases h),Below.refl _ _⟩
 | some ad=>
  obtain ⟨W1,hW1⟩:∃ W1,w.alloc (.cells #[] 9)=W1:=⟨_,rfl⟩
  have hb1:Below w.heap.size w W1:=by rw [<- hW1];exact (Below.refl _ w).alloc (Nat.le_refl _) _
  have hrow:W1.ownsRow 0 9 1 (.slice (some ⟨w.heap.size,0,none⟩) 0 0) 0 []:=by
   rw [<- hW1]
   exact ⟨rfl,.inr ⟨w.heap.size,0,#[],rfl,Nat.zero_le _,World.alloc_heap_new w _,Nat.le_refl _,Nat.zero_le _,rfl,rfl⟩⟩
  have hsrc:Src Try.prog 1 46 (.slice (some ad) n cap) n vals W1:=by
   refine Src.ofSlice W1 uSS ad n cap vals hlen (fun j u hu=>?_) hone
   rcases hL with h | ⟨b,o,h,hb,hc⟩
   · subst h
     obtain rfl:vals=[]:=List.eq_nil_of_length_eq_zero (by simpa using hlen)
     simp at hu
   · injection h with h
     subst h
     have h4:(⟨b,o,none⟩:Addr).add j=⟨b,o+j,none⟩:=by first | rfl | simp [Addr.add_lit] | simp [Addr.add]
     rw [h4]
     exact (hb1.cell (p:=⟨b,o+j,none⟩) hb).trans (hc j u hu)
  subst hW1
  have hb1':0+n<=maxLen:=by omega
  have hb2':(0+n) * 16<=140737488355328:=by omega
  gi_wp2_with (gi_at_builtin;refine wpListIn_append_src _ rfl _ _ 46 rfl 9 IS z uSS infoS hz0 (by rw [sizeS];exact hz1) (.slice (some ⟨w.heap.size,0,none⟩) 0 0) 0 [] rfl (by rw [sizeS];exact hrow) _ n vals rfl (by rw [sizeS];exact hsrc) hb1' (by rw [bytesS];exact hb2') ?_;intro v' w1 hown' os' tape' out' size' hwh)
  rw [sizeS,Nat.zero_add,List.nil_append] at hown'
  go_ret
  refine ⟨v',rfl,hown',fun g hg=>?_,⟨os',tape',out',by simp at size';omega,fun k hk=>?_⟩⟩
  · rcases hwh with ⟨g2,h1,h2,h3⟩ | ⟨h1,h2⟩
    · rw [h2] at hg
      have e:w.heap.size=g2:=by simpa [Value.ownBlock] using h1
      injection hg with hg
      omega
    · rcases h1 with h1 | h1
      · rw [h1] at hg;cases hg
      · rw [h1] at hg
        injection hg with hg
        simp at hg
        omega
  · have h0:=Below.heap_alloc w (.cells #[] 9) k hk
    rcases hwh with ⟨g2,h1,h2,h3⟩ | ⟨h1,h2⟩
    · have e:w.heap.size=g2:=by simpa [Value.ownBlock] using h1
      exact (h3 k (by omega)).trans h0
    · exact (h2 k (by simp;omega)).trans h0
noncomputable def IU:TypeInfo:=(Try.prog.info? 41).getD default
theorem infoU:Try.prog.info? 41=some IU:=by kernel_rfl
theorem sizeU:IU.size=6:=by kernel_rfl
theorem bytesU:IU.bytes=64:=by kernel_rfl
theorem uSU:Try.prog.underlying 31=some (.slice 41):=by kernel_rfl
theorem zeroU:∃ z,IU.zero=some z∧z.cells.size=6:=by
 have h:(match IU.zero with | some z=>z.cells.size == 6 | none=>false)=true:=by kernel_rfl
 split at h
 · rename_i z e;exact ⟨z,e,by simpa using h⟩
 · cases h
theorem clone_U (vals:List Value) (n:Nat) (hlen:vals.length=n * 6) (hone:∀ u ∈ vals,u.oneCell'=true) (hmax:n<=maxLen) (hby:n * 64<=140737488355328) (a:Option Addr) (cap:Nat) (hcap:n<=cap) (w:World) (hL:RowAt w a n vals) :
 CallsIn Fence.wide 5 Try.prog 38 #[.slice a n cap] w fun e w'=>∃ v,e=.returned v∧w'.ownsRow 0 41 6 v n vals∧(∀ g,v.ownBlock=some g->w.heap.size<=g)∧Below w.heap.size w w':=by
 refine callsIn_of_wp Try.func38 rfl trivial ?_ rfl
 simp only [Try.ntmps38,List.size_toArray,List.length_cons,List.length_nil,Nat.reduceAdd,Nat.reduceSub,Array.replicate_succ,Array.replicate_zero,List.push_toArray,List.append_toArray,List.nil_append,List.cons_append]
 obtain ⟨z,hz0,hz1⟩:=zeroU
 have q22:∀ (w:World) (a:Option Addr) (n c n' c':Nat),(binOp .eql 31 (.slice a n c) (.slice none n' c')).run Try.prog w=.ok (.bool a.isNone) w:=fun w a n c n' c'=>Lib.run_eql_slice_nil w _ _ a n c n' c' uSU
 cases a with
 | none=>
  have hn:n=0:=by
   rcases hL with h | ⟨b,o,h,_⟩
   · exact h
   · cases h
  subst hn
  obtain rfl:vals=[]:=List.eq_nil_of_length_eq_zero (by simpa using hlen)
  gi_wp2
  go_ret
  exact ⟨_,rfl,World.ownsRow_nil w 0 41 6,fun g h=>(by cases h),Below.refl _ _⟩
 | some ad=>
  obtain ⟨W1,hW1⟩:∃ W1,w.alloc (.cells #[] 41)=W1:=⟨_,rfl⟩
  have hb1:Below w.heap.size w W1:=by rw [<- hW1];exact (Below.refl _ w).alloc (Nat.le_refl _) _
  have hrow:W1.ownsRow 0 41 6 (.slice (some ⟨w.heap.size,0,none⟩) 0 0) 0 []:=by
   rw [<- hW1]
   exact ⟨rfl,.inr ⟨w.heap.size,0,#[],rfl,Nat.zero_le _,World.alloc_heap_new w _,Nat.le_refl _,Nat.zero_le _,rfl,rfl⟩⟩
  have hsrc:Src Try.prog 6 31 (.slice (some ad) n cap) n vals W1:=by
   refine Src.ofSlice W1 uSU ad n cap vals hlen (fun j u hu=>?_) hone
   rcases hL with h | ⟨b,o,h,hb,hc⟩
   · subst h
     obtain rfl:vals=[]:=List.eq_nil_of_length_eq_zero (by simpa using hlen)
     simp at hu
   · injection h with h
     subst h
     have h4:(⟨b,o,none⟩:Addr).add j=⟨b,o+j,none⟩:=by first | rfl | simp [Addr.add_lit] | simp [Addr.add]
     rw [h4]
     exact (hb1.cell (p:=⟨b,o+j,none⟩) hb).trans (hc j u hu)
  subst hW1
  have hb1':0+n<=maxLen:=by omega
  have hb2':(0+n) * 64<=140737488355328:=by omega
  gi_wp2_with (gi_at_builtin;refine wpListIn_append_src _ rfl _ _ 31 rfl 41 IU z uSU infoU hz0 (by rw [sizeU];exact hz1) (.slice (some ⟨w.heap.size,0,none⟩) 0 0) 0 [] rfl (by rw [sizeU];exact hrow) _ n vals rfl (by rw [sizeU];exact hsrc) hb1' (by rw [bytesU];exact hb2') ?_;intro v' w1 hown' os' tape' out' size' hwh)
  rw [sizeU,Nat.zero_add,List.nil_append] at hown'
  go_ret
  refine ⟨v',rfl,hown',fun g hg=>?_,⟨os',tape',out',by simp at size';omega,fun k hk=>?_⟩⟩
  · rcases hwh with ⟨g2,h1,h2,h3⟩ | ⟨h1,h2⟩
    · rw [h2] at hg
      have e:w.heap.size=g2:=by simpa [Value.ownBlock] using h1
      injection hg with hg
      omega
    · rcases h1 with h1 | h1
      · rw [h1] at hg;cases hg
      · rw [h1] at hg
        injection hg with hg
        simp at hg
        omega
  · have h0:=Below.heap_alloc w (.cells #[] 41) k hk
    rcases hwh with ⟨g2,h1,h2,h3⟩ | ⟨h1,h2⟩
    · have e:w.heap.size=g2:=by simpa [Value.ownBlock] using h1
      exact (h3 k (by omega)).trans h0
    · exact (h2 k (by simp;omega)).trans h0
end Go.HH.W
namespace Go.HH
open Go Go.Proofs Go.RowKit
set_option maxRecDepth 100000
theorem store_lt {S:Store} {w:World} (hS:∀ b o v,S b o=some v->w.cell? ⟨b,o,none⟩=some v) {b o:Nat} {v:Value} (h:S b o=some v):b < w.heap.size:=block_lt (hS b o v h)
theorem row_of {S:Store} {M:List Nat} {xs:List PV} {v:Value} {w:World} {sz:Nat} (hS:∀ b o v,S b o=some v->w.cell? ⟨b,o,none⟩=some v) (h:Rep S M (.sl xs) v) (hsz:∀ x ∈ xs,x.cells.length=sz) (h0:sz≠0) :
 ∃ ad cap vals,v=.slice ad xs.length cap∧xs.length<=cap∧W.RowAt w ad xs.length vals∧vals.length=xs.length * sz∧(∀ u ∈ vals,u.oneCell'=true)∧∀ i (h:i < (flat xs).length) (h':i < vals.length),Rep S M ((flat xs)[i]) (vals[i]):=by
 obtain ⟨ad,cap,hv,hc,hx⟩:=h.elems_inv rfl
 have hfl:=flat_length hsz
 rcases hx with rfl | ⟨b,o,had,_,f,hs,h1,hr⟩
 · exact ⟨ad,cap,[],hv,hc,.inl rfl,by simp,by simp,fun i h=>by simp [flat] at h⟩
 · refine ⟨ad,cap,(List.range (flat xs).length).map f,hv,hc,?_,by simp [hfl],fun u hu=>?_,fun i hi hi'=>?_⟩
   · by_cases hn:xs.length=0
     · exact .inl hn
     · have hpos:0 < (flat xs).length:=by rw [hfl];exact Nat.mul_pos (by omega) (by omega)
       refine .inr ⟨b,o,had,?_,fun j u hu=>?_⟩
       · have:=hs 0 hpos
         exact store_lt hS this
       · rw [List.getElem?_map] at hu
         cases hj:(List.range (flat xs).length)[j]? with
         | none=>rw [hj] at hu;cases hu
         | some k=>
          rw [hj] at hu
          have hjl:=(List.getElem?_eq_some_iff.1 hj)
          obtain ⟨hjl,hjk⟩:=hjl
          rw [List.getElem_range] at hjk
          subst hjk
          injection hu with hu
          subst hu
          exact hS _ _ _ (hs j (by simpa using hjl))
   · obtain ⟨i,hi,rfl⟩:=List.mem_map.1 hu
     exact h1 i (List.mem_range.1 hi)
   · rw [List.getElem_map,List.getElem_range]
     exact hr i hi
theorem kept_sl {S:Store} {w w':World} {xs:List PV} {vals:List Value} {v:Value} {e:TypeId} {sz:Nat} (hS:∀ b o v,S b o=some v->w.cell? ⟨b,o,none⟩=some v) (hsz:∀ x ∈ xs,x.cells.length=sz) (hrow:w'.ownsRow 0 e sz v xs.length vals) (hone:∀ u ∈ vals,u.oneCell'=true)
 (hr:∀ i (h:i < (flat xs).length) (h':i < vals.length),Rep S [] ((flat xs)[i]) (vals[i])) (hg:∀ g,v.ownBlock=some g->w.heap.size<=g) (hB:Below w.heap.size w w'):∃ S',Kept S w S' w'∧Rep S' [] (.sl xs) v:=by
 have hle:S.le (fun b o=>if b < w.heap.size then S b o else w'.cell? ⟨b,o,none⟩):=fun b o u hu=>by
  have:b < w.heap.size:=store_lt hS hu
  show (if b < w.heap.size then S b o else w'.cell? ⟨b,o,none⟩)=some u
  rw [if_pos this];exact hu
 refine ⟨fun b o=>if b < w.heap.size then S b o else w'.cell? ⟨b,o,none⟩,⟨hB.os,hB.tape,hB.output,hB.size,hB.block,hle,fun k hk o=>if_pos hk,fun b o u hu=>?_⟩,?_⟩
 · have hu':(if b < w.heap.size then S b o else w'.cell? ⟨b,o,none⟩)=some u:=hu
   by_cases hb:b < w.heap.size
   · rw [if_pos hb] at hu'
     exact (hB.cell (p:=⟨b,o,none⟩) hb).trans (hS b o u hu')
   · rw [if_neg hb] at hu';exact hu'
 · have hfl:=flat_length hsz
   have hvl:vals.length=(flat xs).length:=by rw [hrow.1,hfl]
   rcases hrow.2 with ⟨rfl,h0⟩ | ⟨g,cap,cur,rfl,hbg,hgb,hnc,hcm,hcs,htake⟩
   · obtain rfl:=List.eq_nil_of_length_eq_zero h0
     exact .slE none 0
   · have hge:=hg g rfl
     refine .sl xs g 0 cap (fun i=>vals.getD i undef) hnc ⟨sz,hsz⟩ (fun i hi=>?_) (fun i hi=>?_) (fun i hi=>?_)
     · show (if g < w.heap.size then S g (0+i) else w'.cell? ⟨g,0+i,none⟩)=some (vals.getD i undef)
       rw [if_neg (by omega)]
       have h2:=hrow.cells (g:=g) rfl i (vals[i]'(by omega)) (List.getElem?_eq_getElem (by omega))
       have h4:(⟨g,0,none⟩:Addr).add i=⟨g,0+i,none⟩:=by first | rfl | simp [Addr.add_lit] | simp [Addr.add]
       rw [h4] at h2
       rw [h2,List.getD_eq_getElem?_getD,List.getElem?_eq_getElem (by omega)]
       rfl
     · rw [List.getD_eq_getElem?_getD,List.getElem?_eq_getElem (by omega)]
       exact hone _ (List.getElem_mem _)
     · rw [List.getD_eq_getElem?_getD,List.getElem?_eq_getElem (by omega)]
       exact (hr i hi (by omega)).mono hle (fun id b h=>h)
theorem repL_one {S:Store} {M:List Nat} {p:PV} {vs:List Value} (h:RepL S M [p] vs):∃ v,vs=[v]∧Rep S M p v:=by
 match vs,h with
 | [v],h=>exact ⟨v,rfl,h.2 0 (by simp) (by simp)⟩
 | [],h=>have:=h.1;cases this
 | _ :: _ :: _,h=>have:=h.1;simp at this
def PrimOK (f:FuncId) (g:List PV->Option PV):Prop:=HasBody CC.P f∧∀ (args:List PV) (r:PV),g args=some r->(∀ t xs,r≠.osl t xs) ∧
 ∀ (S:Store) (vs:List Value) (w:World),(∀ b o v,S b o=some v->w.cell? ⟨b,o,none⟩=some v) ->
  (∀ g cs,CC.glob g=some cs->Rep S [] (.ip cs) (.pointer (some ⟨g,0,none⟩)))->(∀ g cs,CC.glob g=some cs->∃ c e f,w.heap[g]?=some (.cells c e f)∧c.size=cs.length)->RepL S [] args vs ->
  Calls CC.P f vs.toArray w fun e w'=>∃ S',Kept S w S' w'∧∃ v,e=.returned v∧Rep S' [] r v
theorem cbP_inv {args:List PV} {r:PV} (h:cbP args=some r):∃ xs,args=[.sl xs]∧(∀ x ∈ xs,x.cells.length=1)∧xs.length<=1000000000000∧r=.sl xs:=by
 unfold cbP at h
 split at h
 · split at h
   · rename_i xs hx
     injection h with h
     exact ⟨xs,rfl,fun x hm=>by have:=List.all_eq_true.1 hx.1 x hm;cases x <;> first | rfl | (cases this),hx.2,h.symm⟩
   · cases h
 · cases h
theorem csP_inv {args:List PV} {r:PV} (h:csP args=some r):∃ xs,args=[.sl xs]∧(∀ x ∈ xs,x.cells.length=1)∧xs.length<=1000000000000∧r=.sl xs:=by
 unfold csP at h
 split at h
 · split at h
   · rename_i xs hx
     injection h with h
     exact ⟨xs,rfl,fun x hm=>by have:=List.all_eq_true.1 hx.1 x hm;cases x <;> first | rfl | (cases this),hx.2,h.symm⟩
   · cases h
 · cases h
theorem prim_B:PrimOK 39 cbP:=by
 refine ⟨⟨Try.f39,_,Try.func39,by kernel_rfl,rfl⟩,fun args r hr=>?_⟩
 obtain ⟨xs,rfl,hsz,hb,rfl⟩:=cbP_inv hr
 refine ⟨fun t xs h=>(by cases h),fun S vs w hS _ _ hrep=>?_⟩
 obtain ⟨v,rfl,h0⟩:=repL_one hrep
 obtain ⟨ad,cap,vals,rfl,hc,hrow,hvl,hone,hr2⟩:=row_of hS h0 hsz (by decide)
 refine (callsIn_wide.1 (W.clone_B vals xs.length hvl hone (by simp only [maxLen];omega) (by omega) ad cap hc w hrow)).mono ?_
 rintro e w' ⟨v,rfl,hrow',hg,hB⟩
 obtain ⟨S',hk,hv⟩:=kept_sl hS hsz hrow' hone hr2 hg hB
 exact ⟨S',hk,v,rfl,hv⟩
theorem prim_S:PrimOK 57 csP:=by
 refine ⟨⟨Try.f57,_,Try.func57,by kernel_rfl,rfl⟩,fun args r hr=>?_⟩
 obtain ⟨xs,rfl,hsz,hb,rfl⟩:=csP_inv hr
 refine ⟨fun t xs h=>(by cases h),fun S vs w hS _ _ hrep=>?_⟩
 obtain ⟨v,rfl,h0⟩:=repL_one hrep
 obtain ⟨ad,cap,vals,rfl,hc,hrow,hvl,hone,hr2⟩:=row_of hS h0 hsz (by decide)
 refine (callsIn_wide.1 (W.clone_S vals xs.length hvl hone (by simp only [maxLen];omega) (by omega) ad cap hc w hrow)).mono ?_
 rintro e w' ⟨v,rfl,hrow',hg,hB⟩
 obtain ⟨S',hk,hv⟩:=kept_sl hS hsz hrow' hone hr2 hg hB
 exact ⟨S',hk,v,rfl,hv⟩
theorem primSound:PrimSound CC:=by
 intro f g hg
 show PrimOK f g
 have hg':primCC f=some g:=hg
 unfold primCC at hg'
 split at hg'
 · rename_i h
   subst h
   injection hg' with hg'
   subst hg'
   exact prim_B
 split at hg'
 · rename_i h
   subst h
   injection hg' with hg'
   subst hg'
   exact prim_S
 cases hg'
end Go.HH
namespace Go.HH
open Go Go.Proofs Go.RowKit
set_option maxRecDepth 100000
theorem cuP_inv {args:List PV} {bx bx':List PBox} {p:Bool} {v:PV} (h:cuP args bx=some (p,v,bx')):∃ xs,args=[.sl xs]∧p=false∧((xs=[]∧v=.sl []∧bx'=bx)∨(xs≠[]∧(∀ x ∈ xs,x.cells.length=6)∧xs.length<=1000000000000∧v=.rs bx.length xs.length∧bx'=bx++[.cells 41 ((flat xs).map PV.ro)])):=by
 unfold cuP at h
 split at h
 · rename_i xs
   split at h
   · rename_i he
     injection h with h
     injection h with h1 h
     injection h with h2 h3
     exact ⟨xs,rfl,h1.symm,.inl ⟨by simpa using he,h2.symm,h3.symm⟩⟩
   · rename_i he
     split at h
     · rename_i hx
       injection h with h
       injection h with h1 h
       injection h with h2 h3
       exact ⟨xs,rfl,h1.symm,.inr ⟨by simpa using he,fun x hm=>by simpa using List.all_eq_true.1 hx.1 x hm,hx.2,h2.symm,h3.symm⟩⟩
     · cases h
 · cases h
theorem kept_below {S:Store} {w w':World} (hS:∀ b o v,S b o=some v->w.cell? ⟨b,o,none⟩=some v) (hB:Below w.heap.size w w'):Kept S w S w':=
 ⟨hB.os,hB.tape,hB.output,hB.size,hB.block,Store.le.refl _,fun _ _ _=>rfl,fun b o v h=>(hB.cell (p:=⟨b,o,none⟩) (store_lt hS h)).trans (hS b o v h)⟩
theorem ro_osl (p:PV) (e:TypeId) (xs:List PV):p.ro≠.osl e xs:=by
 unfold PV.ro
 split <;> simp_all
theorem hb_U:HasBody CC.P 38:=⟨Try.f38,_,Try.func38,by kernel_rfl,rfl⟩
theorem hprimSound:HPrimSound CC:=by
 intro f g hg args bx p v bx' hr
 have hg':(if f=38 then some cuP else none)=some g:=hg
 split at hg'
 rotate_left
 · cases hg'
 rename_i hf
 subst hf
 injection hg' with hg'
 subst hg'
 refine ⟨hb_U,fun _ B T S M vs w hs hrep=>?_⟩
 obtain ⟨xs,rfl,rfl,hx⟩:=cuP_inv hr
 obtain ⟨v0,rfl,h0⟩:=repL_one hrep
 have hsim:Sim CC [] B T S M 0 ⟨[],bx⟩ ⟨#[],[]⟩ w:=hs
 rcases hx with ⟨rfl,rfl,rfl⟩ | ⟨hne,hsz,hlen,rfl,rfl⟩
 · obtain ⟨ad,cap,hv,hc,_⟩:=h0.elems_inv rfl
   subst hv
   refine (callsIn_wide.1 (W.clone_U [] 0 (by simp) (by simp) (by simp [maxLen]) (by simp) ad cap (Nat.zero_le _) w (.inl rfl))).mono ?_
   rintro e w' ⟨v,rfl,hrow,hg,hB⟩
   have hk:=hsim.kept (kept_below hsim.holds hB)
   refine ⟨S,M,hk,⟨hB.os,hB.tape,hB.output,hB.size,fun k hk _=>hB.block k (by have:=hsim.hB;omega),Store.le.refl _,fun _ _ _ _=>rfl⟩,List.prefix_refl _,?_⟩
   show Outcome S M (.ret (.sl [])) _
   refine ⟨fun t xs h=>(by cases h),v,rfl,?_⟩
   rcases hrow.2 with ⟨rfl,_⟩ | ⟨g,cap,cur,rfl,_⟩
   · exact .slE none 0
   · exact .slE _ _
 · obtain ⟨ad,cap,vals,rfl,hc,hrow,hvl,hone,hr2⟩:=row_of hsim.holds h0 hsz (by decide)
   refine (callsIn_wide.1 (W.clone_U vals xs.length hvl hone (by simp only [maxLen];omega) (by omega) ad cap hc w hrow)).mono ?_
   rintro e w' ⟨v,rfl,hrow',hg,hB⟩
   have hk:=hsim.kept (kept_below hsim.holds hB)
   have hfl:=flat_length hsz
   rcases hrow'.2 with ⟨_,hz⟩ | ⟨g,cap',cur,rfl,hbg,hgb,hnc,hcm,hcs,htake⟩
   · exact absurd (List.eq_nil_of_length_eq_zero hz) hne
   have hge:w.heap.size<=g:=hg g rfl
   have hgM:g ∉ M:=fun h=>by have:=hsim.mlt h;omega
   have hgS:∀ o,S g o=none:=fun o=>store_fresh hsim.holds g (by omega) o
   have hgT:B<=g∨T g:=.inl (by have:=hsim.hB;omega)
   have hpre:∀ (id b:Nat),M[id]?=some b->(M++[g])[id]?=some b:=fun id b hb=>prefix_get (List.prefix_append _ _) id b hb
   have hcl:vals.length<=cur.size:=by
    have:=congrArg List.length htake
    rw [List.length_take,show cur.toList.length=cur.size from Array.length_toList] at this
    omega
   have hcn:∀ i (h1:i < cur.size) (h2:i < vals.length),cur[i]=vals[i]:=by
    intro i h1 h2
    have:(cur.toList.take (xs.length * 6))[i]?=vals[i]?:=by rw [htake]
    rw [List.getElem?_take_of_lt (by omega),List.getElem?_eq_getElem h2,List.getElem?_eq_getElem (by simpa using h1)] at this
    simpa using this
   have hml:((flat xs).map PV.ro).length=vals.length:=by rw [List.length_map,hfl,hvl]
   have hbox:BoxAt S (M++[g]) w' (.cells 41 ((flat xs).map PV.ro)) g:=by
    refine .cells 41 _ g cur hgb (by omega) (fun i hi hi2=>?_) (fun i hi hi2=>?_)
    · rw [hcn i hi (by omega)]
      exact hone _ (List.getElem_mem _)
    · rw [hcn i hi2 (by omega),List.getElem_map]
      exact (hr2 i (by rw [hfl];omega) (by omega)).ro.mono (Store.le.refl _) hpre
   have hgo:∀ l e xs v,LocAt ⟨[],bx⟩ M ⟨#[],[]⟩ w' l (.osl e xs) v->v.ownBlock≠some g:=fun l e xs v hl hv=>by
    have hl':=LocAt.back (fun b hb=>hB.block b (hsim.mlt hb)) hl
    have:=(hsim.own l e xs v hl').1.lt hv
    omega
   have hs3:=hk.addBox g _ hbox hgM hgS hgT hgo (fun t cs he p hp e xs=>by
    injection he with _ he
    subst he
    obtain ⟨q,_,rfl⟩:=List.mem_map.1 hp
    exact ro_osl q e xs)
   refine ⟨S,M++[g],hs3,⟨hB.os,hB.tape,hB.output,hB.size,fun k hk _=>hB.block k (by have:=hsim.hB;omega),Store.le.refl _,fun _ _ _ _=>rfl⟩,List.prefix_append _ _,?_⟩
   show Outcome S (M++[g]) (.ret (.rs bx.length xs.length)) _
   refine ⟨fun t xs h=>(by cases h),_,rfl,.rs _ _ g cap' ?_ hnc⟩
   have:=hsim.mlen
   rw [List.getElem?_append_right (by rw [this];exact Nat.le_refl _),this]
   simp
end Go.HH
