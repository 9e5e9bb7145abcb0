/-
  What the law needs, packed: Catch.
-/
import Derived.Recover
import Derived.Orders
import Derived.Test.YthjabmlbmnadjaaGreatJ28
open Bool renaming and_eq_true->yW,and_self->y4
open Nat renaming lt_of_lt_of_le->yX,add_comm->y6
open Array renaming getElem?_toList->yY,replicate->yZ
open Go.Region renaming wanted->y0
open List renaming range'->y1,range'_succ->y3
open Go.Instr renaming typeAssert->y2
open Go.Oper renaming wp->y5
namespace Go.HH
open Go Go.RowKit
theorem Pn {P:Program} {ops:Array Oper} {Q:Exit->Act->List Frame->World->Prop} {cs:List Frame} (HM:∀ a w,¬ Q .outgrown a cs w):∀ (l:List Nat) (a:Act) (w:World),
 wpOps P ops (fun e a w=>Q e a cs w) l a w->wpOpsS P ops Q l a cs w
 | [],a,w,h=>h
 | i :: rest,a,w,h=>by
  have ih:=Pn (P:=P) (ops:=ops) HM rest;simp only [wpOps,wpOpsS] at h |-;cases ho:ops[i]? with
  | none=>rw [ho] at h;exact ih a w h
  | some o=>
   rw [ho] at h;simp only at h |-;by_cases hw:y0 o (yielded ops a.tmps)=true
   · rw [if_pos hw] at h |-
     rcases h with h | ⟨_,a',w',hq⟩
     · have h2:=Oper.wp_mono (K':=fun a' w'=>wpOpsS P ops Q rest a' cs w') ih h
       unfold y5 at h2;generalize (execOp a.eval o).run P w=r at h2 |-;split
       · exact h2.elim
       · exact h2
     · exact (HM a' w' hq).elim
   · rw [if_neg hw] at h |-
     exact ih _ _ h
def plainC (C:Cfg):Cfg:={ P:=C.P,glob:=C.glob,prim:=fun _=>none,heap:=C.heap,hprim:=fun _=>none,cat:=fun _=>none }
def noCall:C4:=fun _ _ _=>none
theorem Fb (C:Cfg):EH C noCall:=fun _ _ _ _ _ h=>by cases h
section
variable {C:Cfg} {D:List Deferred} {B:Nat} {T:Nat->Prop} {S:AY} {M:List Nat} {n:Nat} {st:St} {a:Act} {w:World}
mutual
theorem BL (k:Nat):∀ v:PV,v.pure=true->v.under k=true
 | .top,h=>by simp [PV.pure] at h
 | .bool _,_=>by simp [PV.under]
 | .int _ _,_=>by simp [PV.under]
 | .str _,_=>by simp [PV.under]
 | .nils,_=>by simp [PV.under]
 | .sl xs,h=>by simp only [PV.pure] at h;simp only [PV.under];exact AE k xs h
 | .osl _ xs,h=>by simp only [PV.pure] at h;simp only [PV.under];exact AE k xs h
 | .ip xs,h=>by simp only [PV.pure] at h;simp only [PV.under];exact AE k xs h
 | .bp _ _,h=>by simp [PV.pure] at h
 | .nilp,_=>by simp [PV.under]
 | .fn _ x y,h=>by
  simp only [PV.pure,yW] at h;simp only [PV.under,yW];exact ⟨AE k x h.1,AE k y h.2⟩
 | .nilf,_=>by simp [PV.under]
 | .iface _ v,h=>by simp only [PV.pure] at h;simp only [PV.under];exact BL k v h
 | .nili,_=>by simp [PV.under]
 | .agg xs,h=>by simp only [PV.pure] at h;simp only [PV.under];exact AE k xs h
 | .tup xs,h=>by simp only [PV.pure] at h;simp only [PV.under];exact AE k xs h
theorem AE (k:Nat):∀ vs:List PV,Aq vs=true->Au k vs=true
 | [],_=>by simp [Au]
 | v :: r,h=>by
  simp only [Aq,yW] at h;simp only [Au,yW];exact ⟨BL k v h.1,AE k r h.2⟩
end
theorem Sim.laid (h:Sim C D B T S M n st a w) (D':List Deferred):Sim C D' B T S M n st { a with defers:=D' } w:=
 ⟨h.holds,h.glob,h.gw,h.size,rfl,h.env,h.mlen,h.boxes,h.nodup,h.mS,h.mT,h.hB,fun l e xs v hl=>h.own l e xs v (by cases l <;> exact hl),fun l l' e e' xs xs' v v' g hl FU=>h.apart l l' e e' xs xs' v v' g (by cases l <;> exact hl) (by cases l' <;> exact FU)⟩
structure CatchRuns (C:Cfg) (g:FuncId) (gn:Func) (TI TF:TypeId) (zp:PV) (bx:List PBox) (bxR bxI:List PBox) (rv:PV):Prop where
 hg:C.P.funcs[g]?=some gn
 parts:∃ (i0 i1 i2:Nat) (ops0 ops1 ops2:Array Oper) (ol:List Oper) (ty0 ty1:TypeId) (p0 p1:String) (af0 af1:Array Edge) (st3 st4 st5 st3' st4':St),
  gn.body=some (.seq (.region i0 ops0 false) (.seq (.region i1 ops1 false) (.cond (.tmp 10) (.region i2 ops2 true) .skip))) /\
  ops0.toList=⟨some 6,.call { callee:=.builtin .recover,args:=#[],argTypes:=#[] },ty0,p0,af0,none⟩:: ⟨some 7,.typeAssert (.tmp 6) TI TF true,ty1,p1,af1,none⟩:: ol /\
  dstOK gn.ntmps ops0=true/\dstOK gn.ntmps ops1=true/\dstOK gn.ntmps ops2=true/\edgesOK ops2=true/\gn.results=#[] /\
  evOps (plainC C) noCall false ops0 ol [] ⟨setT (setT [.bp 0 0,.bp 1 0,.bp 2 0] 6 (.iface TF rv)) 7 (.tup [rv,.bool true]),bx⟩=some (.normal,st3) /\
  evOps (plainC C) noCall false ops1 ops1.toList [] st3=some (.normal,st4)/\opd (plainC C) st4.env (.tmp 10)=.bool true/\drawAll (plainC C) noCall ops2 st4=some (.normal,st5)/\st5.bx=bxR /\
  evOps (plainC C) noCall false ops0 ol [] ⟨setT (setT [.bp 0 0,.bp 1 0,.bp 2 0] 6 .nili) 7 (.tup [zp,.bool false]),bx⟩=some (.normal,st3') /\
  evOps (plainC C) noCall false ops1 ops1.toList [] st3'=some (.normal,st4')/\opd (plainC C) st4'.env (.tmp 10)=.bool false/\st4'.bx=bxI
theorem Sim.toC {C':Cfg} (hP:C'.P=C.P) (hG:C'.glob=C.glob) (h:Sim C D B T S M n st a w):Sim C' D B T S M n st a w:=by
 refine ⟨h.holds,fun g cs hg=>h.glob g cs (by rw [<- hG];exact hg),fun g cs hg=>h.gw g cs (by rw [<- hG];exact hg),h.size,h.dfr,h.env,h.mlen,h.boxes,h.nodup,h.mS,h.mT,h.hB,fun l e xs v hl=>?_,h.apart⟩;rw [hP];exact h.own l e xs v hl
theorem Qp {ops:Array Oper} {o0 o1:Oper} {ol:List Oper} (h:ops.toList=o0 :: o1 :: ol):List.range ops.size=0 :: 1 :: y1 2 ol.length/\ops[0]?=some o0/\ops[1]?=some o1:=by
 have hs:ops.size=ol.length+2:=by rw [<- Array.length_toList,h];rfl
 refine ⟨?_,?_,?_⟩
 · rw [hs,List.range_eq_range',show ol.length+2=(ol.length+1)+1 from rfl,y3,y3]
 · rw [<- yY,h];rfl
 · rw [<- yY,h];rfl
theorem Qq {a:Act} {P:Program} {w:World} {d:Option Tmp} {ty:TypeId} {p:String} {af:Array Edge} {g:Option (Nat×Bool)}:(execOp a.eval ⟨d,.call { callee:=.builtin .recover,args:=#[],argTypes:=#[] },ty,p,af,g⟩).run P w=.ok .recover w:=by
 simp [go_sem]
theorem cq {a:Act} {P:Program} {w:World} {d:Option Tmp} {TI TF:TypeId} {ty:TypeId} {p:String} {af:Array Edge} {g:Option (Nat×Bool)} {v:Value} {fs:Array Field} (hu:P.underlying TF=some (.struct fs)) (hx:a.eval (.tmp 6)=.iface TF v) :
 (execOp a.eval ⟨d,.typeAssert (.tmp 6) TI TF true,ty,p,af,g⟩).run P w=.ok (.value (.tuple #[v,.bool true])) w:=by
 simp [execOp,hx,y2,AS (C:={ P:=P,glob:=fun _=>none,prim:=fun _=>none,heap:=fun _=>false }) hu]
theorem FK {o:Oper} {y:Nat->Option Bool} (h:o.guard=none):y0 o y=true:=by unfold y0;rw [h]
theorem gk {g:FuncId} {gn:Func} {TI TF:TypeId} {zp:PV} {bx bxR bxI:List PBox} {rv:PV} {fs:Array Field} (hr:CatchRuns C g gn TI TF zp bx bxR bxI rv) (hu:C.P.underlying TF=some (.struct fs)) (hh:Du C B T S M bx w)
 {vs:List Value} {v:Value} (dG:CD S M [.bp 0 0,.bp 1 0,.bp 2 0] vs) (hv:Rep S M rv v) (HM:∀ e xs,rv≠.osl e xs) (h3:8<=gn.ntmps) (older:List PanicEntry) :
 CallsD C.P g vs.toArray (.panicking ({ v:=.iface TF v,recovered:=false } :: older)) w fun e u' w'=>(∃ r,e=.returned r)/\u'=.panicking ({ v:=.iface TF v,recovered:=true } :: older) /\
  ∃ S' M',Du C B T S' M' bxR w'/\Grows B T S w S' w'/\M <+: M':=by
 obtain ⟨hg,i0,i1,i2,ops0,ops1,ops2,ol,ty0,ty1,p0,p1,af0,af1,st3,st4,st5,st3',st4',hb,dO,d0,d1,d2,he2,ma,r0,r1,hc,r2,Yl,_⟩:=hr;refine callsD_of_wpS hg hb fun c₀ cs fD=>?_
 have Ue:Sim (plainC C) [] B T S M gn.ntmps ⟨[.bp 0 0,.bp 1 0,.bp 2 0],bx⟩ { tmps:=vs.toArray++yZ (gn.ntmps - vs.toArray.size) undef,defers:=[] } w:=
  Sim.toC (C:=C) (C':=plainC C) rfl rfl (Du.enter (k:=gn.ntmps) hh dG (fun p hp e xs=>by simp at hp;rcases hp with rfl | rfl | rfl <;> simp) (by simp;omega))
 generalize ({ tmps:=vs.toArray++yZ (gn.ntmps - vs.toArray.size) undef,defers:=[] }:Act)=a0 at Ue |-;obtain ⟨q1,q2,q3⟩:=Qp dO;refine wpS_seq (wpS_region ?_);rw [q1];unfold wpOpsS;simp only [q2];rw [if_pos (FK rfl),Qq]
 have rZ:recoverD (c₀ :: cs)=some (.iface TF v,{ c₀ with mode:=.panicking ({ v:=.iface TF v,recovered:=true } :: older) } :: cs):=by
  unfold recoverD;simp only [fD]
 simp only [rZ];have WM:=Ue.put (some 6) (fun k hk=>by cases hk;exact yX (by decide) h3) (Rep.iface TF _ _ hv) (fun e xs=>by simp);unfold wpOpsS;simp only [q3]
 have N4:(a0.put (some 6) (.iface TF v)).eval (.tmp 6)=.iface TF v:=by
  show (a0.put (some 6) (.iface TF v)).tmps.getD 6 undef=_;rw [HY,Jf _ _ _ _ (by rw [Ue.size];omega),if_pos rfl]
 rw [if_pos (FK rfl),cq hu N4];simp only;show wpOpsS _ _ _ _ _ _ _
 have aW:=WM.put (some 7) (fun k hk=>by cases hk;exact yX (by decide) h3) (p:=.tup [rv,.bool true]) (v:=.tuple #[v,.bool true]) (.tup _ _ rfl (fun i h1 h2=>by
  match i,h1 with
  | 0,_=>exact hv
  | 1,_=>exact .bool true)) (fun e xs=>by simp)
 refine Pn (fun a w h=>?_) _ _ _ ?_
 · obtain ⟨u',⟨r,hr⟩,_⟩:=h
   cases hr
 rw [show y1 2 ol.length=y1 2 ol.length from rfl,wpOps_eq_wpList ol 2 (fun j=>by rw [<- yY,dO,y6] <;> rfl)];refine DB (C:=plainC C) (D:=[]) (Fb _) false ops0 ol [] _ S M _ w (fun o ho=>Fa d0 o (by rw [dO];simp [ho])) aW (fun p hp=>by simp at hp) r0 ?_;intro S1 M1 a1 w1 Ig pX YG;refine wpS_of_wp (wp_seq (wp_region_list (DB (C:=plainC C) (D:=[]) (Fb _) false ops1 ops1.toList [] st3 S1 M1 a1 w1 (Fa d1) Ig (fun p hp=>by simp at hp) r1 ?_)));intro S2 M2 a2 w2 Ys l9 bu;refine wp_cond (t:=true) ?_ ?_
 · have hx:=Ys.opd (.tmp 10)
   rw [hc] at hx;exact hx.bool_inv
 simp only [if_true];refine IU (C:=plainC C) noCall (Fb _) i2 ops2 gn.ntmps _ st4 st5 B T S2 M2 [] a2 w2 _ d2 he2 r2 Ys ?_;intro S3 M3 a3 w3 sa hg3 hp3;refine ⟨sa.dfr,_,rfl,.tuple #[],?_,⟨_,rfl⟩,rfl,S3,M3,?_,pX.trans (l9.trans hg3),YG.trans (bu.trans hp3)⟩
 · have:=IA (C:=C) (a:=a3) (w:=w3) (fn:=gn) (rs:=[]) (by rw [ma]) (vs:=[]) rfl (fun i h=>by simp at h)
   simpa using this
 · rw [<- Yl]
   exact Sim.toC (C:=plainC C) (C':=C) rfl rfl sa.heapOnly
theorem Uu {a:Act} {w:World} {d:Option Tmp} {TI TF:TypeId} {ty:TypeId} {p:String} {af:Array Edge} {g:Option (Nat×Bool)} {i:TypeInfo} {z:Value} {fs:Array Field} (hu:C.P.underlying TF=some (.struct fs)) (hi:C.P.info? TF=some i) (hz:i.zero=some z) (hx:a.eval (.tmp 6)=.nilIface) :
 (execOp a.eval ⟨d,.typeAssert (.tmp 6) TI TF true,ty,p,af,g⟩).run C.P w=.ok (.value (.tuple #[z,.bool false])) w:=by
 simp [execOp,hx,y2,AS (C:=C) hu,zeroValue,typeInfo,hi,hz]
theorem ct {g:FuncId} {gn:Func} {TI TF:TypeId} {zp:PV} {bx bxR bxI:List PBox} {rv:PV} {fs:Array Field} (hr:CatchRuns C g gn TI TF zp bx bxR bxI rv) (hu:C.P.underlying TF=some (.struct fs)) (hz:tZero C TF=some zp) (hzo:∀ e xs,zp≠.osl e xs) (hh:Du C B T S M bx w)
 {vs:List Value} (dG:CD S M [.bp 0 0,.bp 1 0,.bp 2 0] vs) (h3:8<=gn.ntmps) :
 CallsD C.P g vs.toArray .returning w fun e u' w'=>(∃ r,e=.returned r)/\u'=.returning /\
  ∃ S' M',Du C B T S' M' bxI w'/\Grows B T S w S' w'/\M <+: M':=by
 obtain ⟨hg,i0,i1,i2,ops0,ops1,ops2,ol,ty0,ty1,p0,p1,af0,af1,st3,st4,st5,st3',st4',hb,dO,d0,d1,d2,he2,ma,_,_,_,_,_,r0,r1,hc,Yl⟩:=hr
 obtain ⟨i,z,hi,my,rfl⟩:∃ i z,C.P.info? TF=some i/\i.zero=some z/\cval z=zp:=by
  unfold tZero at hz;cases hi:C.P.info? TF with
  | none=>rw [hi] at hz;cases hz
  | some i=>
   rw [hi] at hz;obtain ⟨z,h1,h2⟩:=Option.map_eq_some_iff.1 hz;exact ⟨i,z,rfl,h1,h2⟩
 refine callsD_of_wpS hg hb fun c₀ cs fD=>?_
 have Ue:Sim (plainC C) [] B T S M gn.ntmps ⟨[.bp 0 0,.bp 1 0,.bp 2 0],bx⟩ { tmps:=vs.toArray++yZ (gn.ntmps - vs.toArray.size) undef,defers:=[] } w:=
  Sim.toC (C:=C) (C':=plainC C) rfl rfl (Du.enter (k:=gn.ntmps) hh dG (fun p hp e xs=>by simp at hp;rcases hp with rfl | rfl | rfl <;> simp) (by simp;omega))
 generalize ({ tmps:=vs.toArray++yZ (gn.ntmps - vs.toArray.size) undef,defers:=[] }:Act)=a0 at Ue |-;obtain ⟨q1,q2,q3⟩:=Qp dO;refine wpS_seq (wpS_region ?_);rw [q1];unfold wpOpsS;simp only [q2];rw [if_pos (FK rfl),Qq]
 have rZ:recoverD (c₀ :: cs)=none:=by
  unfold recoverD;simp only [fD]
 simp only [rZ];have WM:=Ue.put (some 6) (fun k hk=>by cases hk;exact yX (by decide) h3) (p:=.nili) (v:=.nilIface) .nili (fun e xs=>by simp);unfold wpOpsS;simp only [q3]
 have N4:(a0.put (some 6) .nilIface).eval (.tmp 6)=.nilIface:=by
  show (a0.put (some 6) .nilIface).tmps.getD 6 undef=_;rw [HY,Jf _ _ _ _ (by rw [Ue.size];omega),if_pos rfl]
 rw [if_pos (FK rfl),Uu hu hi my N4];simp only;show wpOpsS _ _ _ _ _ _ _
 have aW:=WM.put (some 7) (fun k hk=>by cases hk;exact yX (by decide) h3) (p:=.tup [cval z,.bool false]) (v:=.tuple #[z,.bool false]) (.tup _ _ rfl (fun i h1 h2=>by
  match i,h1 with
  | 0,_=>exact .cval z
  | 1,_=>exact .bool false)) (fun e xs=>by simp)
 refine Pn (fun a w h=>?_) _ _ _ ?_
 · obtain ⟨u',⟨r,hr⟩,_⟩:=h
   cases hr
 rw [wpOps_eq_wpList ol 2 (fun j=>by rw [<- yY,dO,y6] <;> rfl)];refine DB (C:=plainC C) (D:=[]) (Fb _) false ops0 ol [] _ S M _ w (fun o ho=>Fa d0 o (by rw [dO];simp [ho])) aW (fun p hp=>by simp at hp) r0 ?_;intro S1 M1 a1 w1 Ig pX YG;refine wpS_of_wp (wp_seq (wp_region_list (DB (C:=plainC C) (D:=[]) (Fb _) false ops1 ops1.toList [] st3' S1 M1 a1 w1 (Fa d1) Ig (fun p hp=>by simp at hp) r1 ?_)));intro S2 M2 a2 w2 Ys l9 bu;refine wp_cond (t:=false) ?_ ?_
 · have hx:=Ys.opd (.tmp 10)
   rw [hc] at hx;exact hx.bool_inv
 simp only [Bool.false_eq_true,if_false];refine wp_skip ?_;refine ⟨Ys.dfr,.returning,?_,.tuple #[],?_,⟨_,rfl⟩,rfl,S2,M2,?_,pX.trans l9,YG.trans bu⟩
 · rw [<- fD]
 · have:=IA (C:=C) (a:=a2) (w:=w2) (fn:=gn) (rs:=[]) (by rw [ma]) (vs:=[]) rfl (fun i h=>by simp at h)
   simpa using this
 · rw [<- Yl]
   exact Sim.toC (C:=plainC C) (C':=C) rfl rfl Ys.heapOnly
def bq (n0:Nat) (st:St):Bool:=match getT st.env 2,getT st.env 3,getT st.env 4,st.bx with
 | .bp 0 0,.bp 1 0,.bp 2 0,.cells _ c0 :: .cells _ [x1] :: .cells _ [x2] :: _=>decide (c0.length=n0) && (Aq c0 && (x1.pure && x2.pure))
 | _,_,_,_=>false
theorem dY {n0:Nat} {st:St} (h:bq n0 st=true):getT st.env 2=.bp 0 0/\getT st.env 3=.bp 1 0/\getT st.env 4=.bp 2 0 /\
 ∃ t0 c0 t1 x1 t2 x2 r,st.bx=.cells t0 c0 :: .cells t1 [x1] :: .cells t2 [x2] :: r/\c0.length=n0/\Aq c0=true/\x1.pure=true/\x2.pure=true:=by
 unfold bq at h;split at h
 · rename_i e2 e3 e4 e5
   simp only [yW,decide_eq_true_eq] at h;exact ⟨e2,e3,e4,_,_,_,_,_,_,_,e5,h.1,h.2.1,h.2.2.1,h.2.2.2⟩
 · cases h
def JQ (TF:TypeId) (n0:Nat) (zc:List PV) (fin:List PV->PV):Ex×St->Option (CR×List PBox)
 | (.pan (.iface t (.agg [.int .i64 x,.int .i64 y])),st)=>if (decide (t=TF) && bq n0 st)=true then some (.ret (.tup [fin zc,.int .i64 x,.int .i64 y]),[]) else none
 | (.ret,st)=>if bq n0 st=true then (match st.bx with
  | .cells _ c0 :: .cells _ [.int .i64 x] :: .cells _ [.int .i64 y] :: _=>some (.ret (.tup [fin c0,.int .i64 x,.int .i64 y]),[])
  | _=>none) else none
 | _=>none
def W7 (g:FuncId) (envA:List UInt8->List PV) (bx0:List PBox) (args:List PV) (bx:List PBox):Option St:=match args,bx with
 | [.str s],[]=>some ⟨setT (envA s) 6 (.fn g [] [.bp 0 0,.bp 1 0,.bp 2 0]),bx0⟩
 | _,_=>none
theorem MV {f:FuncId} {fn:Func} {code:Code} {i0 i1:Nat} {opsA opsB:Array Oper} {g:FuncId} {gn:Func} {envA:List UInt8->List PV} {bx0:List PBox} {ty6 tyd:TypeId} {p6 pd:String} {af6 afd:Array Edge}
 {TI TF:TypeId} {zp:PV} {n0:Nat} {zc:List PV} {fin:List PV->PV} {fs:Array Field}
 (hf:C.P.funcs[f]?=some fn) (Hc:(fn.name == "runtime.NumGoroutine")=false) (hb:fn.body=some (.seq (.region i0 opsA false) (.seq (.region i1 opsB false) code)))
 (hn:8<=fn.ntmps) (hgn:8<=gn.ntmps) (hgname:(gn.name == "runtime.NumGoroutine")=false) (dA:dstOK fn.ntmps opsA=true) (hA:∀ s,evOps (plainC C) noCall false opsA opsA.toList [] ⟨[.str s],[]⟩=some (.normal,⟨envA s,bx0⟩))
 (hB:opsB.toList=[⟨some 6,.makeFunc (.func g) #[] #[.tmp 2,.tmp 3,.tmp 4],ty6,p6,af6,none⟩,⟨none,.defer { callee:=.value (.tmp 6),args:=#[],argTypes:=#[] },tyd,pd,afd,none⟩])
 (hE:∀ s,getT (envA s) 2=.bp 0 0/\getT (envA s) 3=.bp 1 0/\getT (envA s) 4=.bp 2 0)
 (ES:F1 C fn.ntmps code=true)
 (mb:∀ t0 c0 t1 x1 t2 x2 x y,c0.length=n0->CatchRuns C g gn TI TF zp [.cells t0 c0,.cells t1 [x1],.cells t2 [x2]] [.cells t0 zc,.cells t1 [.int .i64 x],.cells t2 [.int .i64 y],.cells TF [.int .i64 x,.int .i64 y]]
  [.cells t0 c0,.cells t1 [x1],.cells t2 [x2],.cells TF [.int .i64 0,.int .i64 0]] (.agg [.int .i64 x,.int .i64 y]))
 (hu:C.P.underlying TF=some (.struct fs)) (hz:tZero C TF=some zp) (hzo:∀ e xs,zp≠.osl e xs) (wa:Aq zc=true)
 (hfin:∀ c0,Aq c0=true->(fin c0).pure=true)
 (ma:∀ env t0 c0 t1 x t2 y r,getT env 2=.bp 0 0->getT env 3=.bp 1 0->getT env 4=.bp 2 0->(c0.length=n0\/c0=zc)->CU C ⟨env,.cells t0 c0 :: .cells t1 [.int .i64 x] :: .cells t2 [.int .i64 y] :: r⟩ fn.results.toList=some [fin c0,.int .i64 x,.int .i64 y])
 (ev:Code->St->Option (Ex×St)) (N4:EI C false ev) (args:List PV) (bx:List PBox) (cr:CR) (bx':List PBox) (CA:Ea ⟨code,W7 g envA bx0,JQ TF n0 zc fin⟩ ev args bx=some (cr,bx')) :
 F4 C.P f/\((∀ p ∈ args,∀ t xs,p≠.osl t xs)->∀ (B:Nat) (T:Nat->Prop) (S:AY) (M:List Nat) (vs:List Value) (w:World),Du C B T S M bx w->CD S M args vs ->
  Calls C.P f vs.toArray w fun e w'=>∃ S' M',Du C B T S' M' bx' w'/\Grows B T S w S' w'/\M <+: M'/\Outcome S' M' cr e):=by
 refine ⟨⟨fn,_,hf,Hc,hb⟩,fun HM B T S M vs w hh Ez=>?_⟩;unfold Ea at CA;simp only [W7] at CA;split at CA
 rotate_left
 · cases CA
 rename_i st0 mc;split at mc
 rotate_left
 · cases mc
 rename_i s;injection mc with mc
 subst mc;split at CA
 rotate_left
 · cases CA
 rename_i r hcodeR;have hM:M=[]:=List.eq_nil_of_length_eq_zero hh.mlen;subst hM;refine calls_of_wp_defers hf hb ?_;have Ja:=hh.enter Ez HM (k:=fn.ntmps) (by simp;omega);refine wp_seq (wp_region_list (DB (C:=plainC C) (D:=[]) (Fb _) false opsA opsA.toList [] _ S [] _ w (Fa dA) (Sim.toC (C:=C) (C':=plainC C) rfl rfl Ja) (fun p hp=>by simp at hp) (hA s) ?_));intro S1 M1 a1 w1 Ig pX YG;have Ig:Sim C [] B T S1 M1 fn.ntmps ⟨envA s,bx0⟩ a1 w1:=Sim.toC (C:=plainC C) (C':=C) rfl rfl Ig;refine wp_seq (wp_region_list ?_);rw [hB];refine wpList_step fun K hK=>?_;rw [FK rfl];simp only [if_true];obtain ⟨e2,e3,e4⟩:=hE s
 -- the closure is made
 have K4:CD S1 M1 [.bp 0 0,.bp 1 0,.bp 2 0] [a1.tmps.getD 2 undef,a1.tmps.getD 3 undef,a1.tmps.getD 4 undef]:=by
  have h2:=Ig.env 2;have h3:=Ig.env 3;have h4:=Ig.env 4;simp only [e2,e3,e4] at h2 h3 h4;exact CD.cons h2 (CD.cons h3 (CD.cons h4 (CD.nil _ _)))
 generalize YH:[a1.tmps.getD 2 undef,a1.tmps.getD 3 undef,a1.tmps.getD 4 undef]=cv at K4
 have vh:Rep S1 M1 (.fn g [] [.bp 0 0,.bp 1 0,.bp 2 0]) (.func (.func g) #[] cv.toArray):=
  .fn g [] _ #[] _ rfl (by simp [<- YH]) (fun i h=>by simp at h) (fun i h h'=>by simpa using K4.2 i h (by simpa using h'))
 have hmk:(execOp a1.eval ⟨some 6,.makeFunc (.func g) #[] #[.tmp 2,.tmp 3,.tmp 4],ty6,p6,af6,none⟩).run C.P w1=.ok (.value (.func (.func g) #[] cv.toArray)) w1:=by
  rw [<- YH];simp [execOp,Instr.makeFunc,Act.eval]
 unfold y5;rw [hmk];have Ys:=Ig.put (some 6) (fun k hk=>by cases hk;exact yX (by decide) hn) vh (fun e xs=>by simp)
 have h6:(a1.put (some 6) (.func (.func g) #[] cv.toArray)).eval (.tmp 6)=.func (.func g) #[] cv.toArray:=by
  show (a1.put (some 6) _).tmps.getD 6 undef=_;rw [HY,Jf _ _ _ _ (by rw [Ig.size];omega),if_pos rfl]
 refine hK _ _ ?_;generalize a1.put (some 6) (.func (.func g) #[] cv.toArray)=a2 at Ys h6 |-;refine wpList_step fun K' hK'=>?_;rw [FK rfl];simp only [if_true]
 have hdf:(execOp a2.eval ⟨none,.defer { callee:=.value (.tmp 6),args:=#[],argTypes:=#[] },tyd,pd,afd,none⟩).run C.P w1=.ok (.defer { target:=.fn (.func g) cv.toArray,args:=#[] }) w1:=by
  simp [execOp,resolve,h6,Deferred.ofValue]
 unfold y5;rw [hdf];refine hK' _ _ ?_;have HN:a2.defers=[]:=Ys.dfr;have sa:=Ys.laid [{ target:=.fn (.func g) cv.toArray,args:=#[] }];rw [HN];refine wpList_nil ?_;show code.wp C.P _ ({ a2 with defers:=[{ target:=.fn (.func g) cv.toArray,args:=#[] }] }:Act) w1
 have hinv:∀ w',(invoke (.fn (.func g) cv.toArray) #[]).run C.P w'=.ok (.enter g cv.toArray) w':=by
  intro w';obtain ⟨hg,_,_,_,_,_,_,_,_,_,_,_,_,_,_,_,_,_,_,hgb,_⟩:=mb 0 (List.replicate n0 .nils) 0 .nils 0 .nils 0 0 (by simp);unfold invoke;rw [Go.MuLone.run_callFunc_enter hg hgname hgb]
  congr 2
  simp
 refine N4 code _ r.1 r.2 fn.ntmps (by unfold Ur;exact ES) (by exact hcodeR) B T S1 M1 [{ target:=.fn (.func g) cv.toArray,args:=#[] }] _ w1 _ sa ?_
 -- at the door
 have door:∀ (env:List PV) (t0:TypeId) (c0:List PV) (t1:TypeId) (x1:PV) (t2:TypeId) (x2:PV) (rest:List PBox) (S':AY) (M':List Nat) (a':Act) (w':World) (u:FrameMode),getT env 2=.bp 0 0->getT env 3=.bp 1 0->getT env 4=.bp 2 0 ->
  c0.length=n0->Aq c0=true->x1.pure=true->x2.pure=true ->
  Sim C [{ target:=.fn (.func g) cv.toArray,args:=#[] }] B T S' M' fn.ntmps ⟨env,.cells t0 c0 :: .cells t1 [x1] :: .cells t2 [x2] :: rest⟩ a' w'->Grows B T S1 w1 S' w'->M1 <+: M' ->
  (∃ x y,u=.returning/\x1=.int .i64 x/\x2=.int .i64 y/\cr=.ret (.tup [fin c0,.int .i64 x,.int .i64 y])/\bx'=[])\/(∃ x y v,u=.panicking [{ v:=.iface TF v,recovered:=false }]/\Rep S' M' (.agg [.int .i64 x,.int .i64 y]) v/\cr=.ret (.tup [fin zc,.int .i64 x,.int .i64 y])/\bx'=[]) ->
  Leaves C.P fn a'.tmps (fun e w'=>∃ S' M',Du C B T S' M' bx' w'/\Grows B T S w S' w'/\[] <+: M'/\Outcome S' M' cr e) a'.defers u w':=by
  intro env t0 c0 t1 x1 t2 x2 rest S' M' a' w' u g2 g3 g4 Dq oX YG bu hs Fs oS WO;rw [show a'.defers=_ from hs.dfr];have hlen:M'.length=rest.length+3:=by have:=hs.mlen;simpa using this
  have dJ:(M'.take 3).length=3:=by simp;omega
  have vj:∀ (t0 t1 t2:TypeId) (c0:List PV) (x1 x2:PV),Aq c0=true->x1.pure=true->x2.pure=true->([PBox.cells t0 c0,.cells t1 [x1],.cells t2 [x2]].all (·.under 3))=true:=by
   intro t0 t1 t2 c0 x1 x2 h0 h1 h2;simp only [List.all_cons,List.all_nil,PBox.under,Au,BL 3 _ h1,BL 3 _ h2,AE 3 _ h0,y4]
  have Fq:Du C B T S' (M'.take 3) [.cells t0 c0,.cells t1 [x1],.cells t2 [x2]] w':=by
   have:=Du.trunc (M:=M'.take 3) hs.heapOnly (List.take_prefix 3 M') (by rw [dJ];exact vj _ _ _ _ _ _ oX YG bu);rw [dJ] at this;exact this
  have hcv':CD S' (M'.take 3) [.bp 0 0,.bp 1 0,.bp 2 0] cv:=by
   refine ⟨K4.1,fun i x y=>?_⟩;have h1:=(K4.2 i x y).mono Fs.store (GB oS);refine h1.ofUnder 3 _ (fun id b Ad hb=>by rw [List.getElem?_take_of_lt Ad];exact hb) ?_
   match i,x with
   | 0,_=>rfl
   | 1,_=>rfl
   | 2,_=>rfl
  -- what comes behind the closure
  have fin':∀ (c:List PV) (x y:Int) (S2:AY) (w2:World),(c.length=n0\/c=zc)->Aq c=true->Sim C [{ target:=.fn (.func g) cv.toArray,args:=#[] }] B T S2 M' fn.ntmps ⟨env,.cells t0 c :: .cells t1 [.int .i64 x] :: .cells t2 [.int .i64 y] :: rest⟩ a' w2->Grows B T S' w' S2 w2 ->
   cr=.ret (.tup [fin c,.int .i64 x,.int .i64 y])->bx'=[]->Leaves C.P fn a'.tmps (fun e w'=>∃ S' M',Du C B T S' M' bx' w'/\Grows B T S w S' w'/\[] <+: M'/\Outcome S' M' cr e) [] .returning w2:=by
   intro c x y S2 w2 hc Yq Ys l9 l5 EM;subst l5 EM;obtain ⟨us,r1,r2,r3,r4⟩:=JP Ys _ _ (ma env t0 c t1 x t2 y rest g2 g3 g4 hc);obtain ⟨h5,h6⟩:=Wa r1 r3;have aZ:(PV.tup [fin c,.int .i64 x,.int .i64 y]).pure=true:=by simp only [PV.pure,Aq,hfin c Yq,y4]
   refine ⟨_,IA rfl r2 r4,S2,[],?_,pX.trans (Fs.trans l9),List.prefix_refl _,h6,_,rfl,h5.ofPure [] aZ⟩;exact Du.trunc (M:=[]) Ys.heapOnly (List.nil_prefix) (by simp)
  rcases WO with ⟨x,y,rfl,rfl,rfl,l5,EM⟩ | ⟨x,y,v,rfl,hv,l5,EM⟩
  · refine leaves_cons (f:=g) (args:=cv.toArray) (by simp) (hinv w') ?_
    refine (ct (mb t0 c0 t1 (.int .i64 x) t2 (.int .i64 y) 0 0 Dq) hu hz hzo Fq.sharedStart hcv' hgn).mono ?_
    rintro e u' w'' ⟨⟨r,rfl⟩,rfl,S'',M'',fB,sc,sd⟩
    have iB:=Du.trunc fB sd (by rw [dJ];exact vj t0 t1 t2 c0 (.int .i64 x) (.int .i64 y) oX YG bu);rw [dJ] at iB;obtain ⟨f1,f2,_⟩:=hs.afterCut (m:=3) (by omega) Fq iB sc;exact fin' c0 x y S'' w'' (.inl Dq) oX f1 f2 l5 EM
  · refine leaves_cons (f:=g) (args:=cv.toArray) (by simp) (hinv w') ?_
    refine (gk (mb t0 c0 t1 x1 t2 x2 x y Dq) hu Fq.sharedStart hcv' (hv.ofPure _ (by simp [PV.pure,Aq])) (fun e xs=>by simp) hgn []).mono ?_
    rintro e u' w'' ⟨⟨r,rfl⟩,rfl,S'',M'',fB,sc,sd⟩
    have iB:=Du.trunc fB sd (by rw [dJ];exact vj t0 t1 t2 zc (.int .i64 x) (.int .i64 y) wa (by simp [PV.pure]) (by simp [PV.pure]));rw [dJ] at iB;obtain ⟨f1,f2,_⟩:=hs.afterCut (m:=3) (by omega) Fq iB sc;exact fin' zc x y S'' w'' (.inr rfl) wa f1 f2 l5 EM
 obtain ⟨ex,st'⟩:=r;cases ex with
 | normal=>simp [JQ] at CA
 | exit i=>simp [JQ] at CA
 | ret=>
  simp only [JQ] at CA;split at CA
  rotate_left
  · cases CA
  rename_i Ek;obtain ⟨g2,g3,g4,t0,c0,t1,x1,t2,x2,rest,Yl,Dq,oX,YG,bu⟩:=dY Ek;rw [Yl] at CA;split at CA
  rotate_left
  · cases CA
  rename_i t0' c0' t1' x t2' y rest' heq;injection heq with q1 q2
  injection q1 with q1 q1'
  injection q2 with q2 q3
  injection q2 with q2 q2'
  injection q3 with q3 q4
  injection q3 with q3 q3'
  injection q2' with q2' _
  injection q3' with q3' _
  subst q1 q1' q2 q2' q3 q3' q4;injection CA with CA
  injection CA with l5 EM
  intro S' M' a' w' hs Fs oS;obtain ⟨env,bxx⟩:=st';simp only at Yl g2 g3 g4;subst Yl;exact door env t0 c0 t1 _ t2 _ rest S' M' a' w' .returning g2 g3 g4 Dq oX YG bu hs Fs oS (.inl ⟨x,y,rfl,rfl,rfl,l5.symm,EM.symm⟩)
 | pan v=>
  unfold JQ at CA;split at CA
  rotate_left
  · rename_i heq;cases heq
  · cases CA
  rename_i t x y st'' heq;injection heq with q1 q2
  injection q1 with q1
  subst q1 q2;split at CA
  rotate_left
  · cases CA
  rename_i Ek;simp only [yW,decide_eq_true_eq] at Ek;obtain ⟨rfl,Ek⟩:=Ek;obtain ⟨g2,g3,g4,t0,c0,t1,x1,t2,x2,rest,Yl,Dq,oX,YG,bu⟩:=dY Ek;injection CA with CA
  injection CA with l5 EM
  intro S' M' a' w' ch u e' vu hs Fs oS iO hch
  have rP:e'=st'.env:=by
   rcases vu with vu | vu
   · rw [vu] at g2;simp [getT,und] at g2
   · exact vu
  subst rP;obtain ⟨env,bxx⟩:=st';simp only at Yl g2 g3 g4;subst Yl;subst hch;cases iO with
  | iface _ _ vv sQ=>exact door env t0 c0 t1 x1 t2 x2 rest S' M' a' w' _ g2 g3 g4 Dq oX YG bu hs Fs oS (.inr ⟨x,y,vv,rfl,sQ,l5.symm,EM.symm⟩)
end
end Go.HH
