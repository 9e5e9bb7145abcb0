/-
  What the law needs, packed: Catch.
-/
import Derived.Recover
import Derived.Orders
import Derived.Test.YthjcaihemgllaaaGreatDoorJ29
open Bool renaming and_eq_true->Aa0,and_self->Aa8
open Nat renaming lt_of_lt_of_le->Aa1,add_comm->Aaa
open Array renaming getElem?_toList->Aa2,replicate->Aa3
open Go.Region renaming wanted->Aa4
open List renaming range'->Aa5,range'_succ->Aa7
open Go.Instr renaming typeAssert->Aa6
open Go.Oper renaming wp->Aa9
namespace Go.HH
open Go Go.RowKit
theorem NR {P:Program} {ops:Array Oper} {Q:Exit->Act->List Frame->World->Prop} {cs:List Frame} (GU:∀ a w,¬ Q .outgrown a cs w):∀ (l:List Nat) (a:Act) (w:World),
 wpOps P ops (fun e a w=>Q e a cs w) l a w->wpOpsS P ops Q l a cs w
 | [],a,w,h=>h
 | i :: rest,a,w,h=>by
  have ih:=NR (P:=P) (ops:=ops) GU rest;simp only [wpOps,wpOpsS] at h |-;cases ho:ops[i]? with
  | none=>rw [ho] at h;exact ih a w h
  | some o=>
   rw [ho] at h;simp only at h |-;by_cases hw:Aa4 o (yielded ops a.tmps)=true
   · rw [if_pos hw] at h |-
     rcases h with h | ⟨_,a',w',hq⟩
     · have h2:=Oper.wp_mono (K':=fun a' w'=>wpOpsS P ops Q rest a' cs w') ih h
       unfold Aa9 at h2;generalize (execOp a.eval o).run P w=r at h2 |-;split
       · exact h2.elim
       · exact h2
     · exact (GU a' w' hq).elim
   · rw [if_neg hw] at h |-
     exact ih _ _ h
def plainC (C:Cfg):Cfg:={ P:=C.P,glob:=C.glob,prim:=fun _=>none,heap:=C.heap,hprim:=fun _=>none,cat:=fun _=>none }
def noCall:Cl:=fun _ _ _=>none
theorem Ej (C:Cfg):DX C noCall:=fun _ _ _ _ _ h=>by cases h
section
variable {C:Cfg} {D:List Deferred} {B:Nat} {T:Nat->Prop} {S:AI} {M:List Nat} {n:Nat} {st:St} {a:Act} {w:World}
mutual
theorem EC (k:Nat):∀ v:PV,v.pure=true->v.under k=true
 | .top,h=>by simp [PV.pure] at h
 | .bool _,_=>by simp [PV.under]
 | .int _ _,_=>by simp [PV.under]
 | .str _,_=>by simp [PV.under]
 | .nils,_=>by simp [PV.under]
 | .sl xs,h=>by simp only [PV.pure] at h;simp only [PV.under];exact Ax k xs h
 | .osl _ xs,h=>by simp only [PV.pure] at h;simp only [PV.under];exact Ax k xs h
 | .ip xs,h=>by simp only [PV.pure] at h;simp only [PV.under];exact Ax k xs h
 | .bp _ _,h=>by simp [PV.pure] at h
 | .nilp,_=>by simp [PV.under]
 | .fn _ x y,h=>by
  simp only [PV.pure,Aa0] at h;simp only [PV.under,Aa0];exact ⟨Ax k x h.1,Ax k y h.2⟩
 | .nilf,_=>by simp [PV.under]
 | .iface _ v,h=>by simp only [PV.pure] at h;simp only [PV.under];exact EC k v h
 | .nili,_=>by simp [PV.under]
 | .agg xs,h=>by simp only [PV.pure] at h;simp only [PV.under];exact Ax k xs h
 | .tup xs,h=>by simp only [PV.pure] at h;simp only [PV.under];exact Ax k xs h
theorem Ax (k:Nat):∀ vs:List PV,Al vs=true->Ar k vs=true
 | [],_=>by simp [Ar]
 | v :: r,h=>by
  simp only [Al,Aa0] at h;simp only [Ar,Aa0];exact ⟨EC k v h.1,Ax k r h.2⟩
end
theorem Sim.laid (h:Sim C D B T S M n st a w) (D':List Deferred):Sim C D' B T S M n st { a with defers:=D' } w:=
 ⟨h.holds,h.glob,h.gw,h.size,rfl,h.env,h.mlen,h.boxes,h.nodup,h.mS,h.mT,h.hB,fun l e xs v hl=>h.own l e xs v (by cases l <;> exact hl),fun l l' e e' xs xs' v v' g hl D4=>h.apart l l' e e' xs xs' v v' g (by cases l <;> exact hl) (by cases l' <;> exact D4)⟩
structure CatchRuns (C:Cfg) (g:FuncId) (gn:Func) (TI TF:TypeId) (zp:PV) (bx:List PBox) (bxR bxI:List PBox) (rv:PV):Prop where
 hg:C.P.funcs[g]?=some gn
 parts:∃ (i0 i1 i2:Nat) (ops0 ops1 ops2:Array Oper) (ol:List Oper) (ty0 ty1:TypeId) (p0 p1:String) (af0 af1:Array Edge) (st3 st4 st5 st3' st4':St),
  gn.body=some (.seq (.region i0 ops0 false) (.seq (.region i1 ops1 false) (.cond (.tmp 10) (.region i2 ops2 true) .skip))) /\
  ops0.toList=⟨some 6,.call { callee:=.builtin .recover,args:=#[],argTypes:=#[] },ty0,p0,af0,none⟩:: ⟨some 7,.typeAssert (.tmp 6) TI TF true,ty1,p1,af1,none⟩:: ol /\
  dstOK gn.ntmps ops0=true/\dstOK gn.ntmps ops1=true/\dstOK gn.ntmps ops2=true/\edgesOK ops2=true/\gn.results=#[] /\
  evOps (plainC C) noCall false ops0 ol [] ⟨setT (setT [.bp 0 0,.bp 1 0,.bp 2 0] 6 (.iface TF rv)) 7 (.tup [rv,.bool true]),bx⟩=some (.normal,st3) /\
  evOps (plainC C) noCall false ops1 ops1.toList [] st3=some (.normal,st4)/\opd (plainC C) st4.env (.tmp 10)=.bool true/\drawAll (plainC C) noCall ops2 st4=some (.normal,st5)/\st5.bx=bxR /\
  evOps (plainC C) noCall false ops0 ol [] ⟨setT (setT [.bp 0 0,.bp 1 0,.bp 2 0] 6 .nili) 7 (.tup [zp,.bool false]),bx⟩=some (.normal,st3') /\
  evOps (plainC C) noCall false ops1 ops1.toList [] st3'=some (.normal,st4')/\opd (plainC C) st4'.env (.tmp 10)=.bool false/\st4'.bx=bxI
theorem Sim.toC {C':Cfg} (hP:C'.P=C.P) (hG:C'.glob=C.glob) (h:Sim C D B T S M n st a w):Sim C' D B T S M n st a w:=by
 refine ⟨h.holds,fun g cs hg=>h.glob g cs (by rw [<- hG];exact hg),fun g cs hg=>h.gw g cs (by rw [<- hG];exact hg),h.size,h.dfr,h.env,h.mlen,h.boxes,h.nodup,h.mS,h.mT,h.hB,fun l e xs v hl=>?_,h.apart⟩;rw [hP];exact h.own l e xs v hl
theorem O' {ops:Array Oper} {o0 o1:Oper} {ol:List Oper} (h:ops.toList=o0 :: o1 :: ol):List.range ops.size=0 :: 1 :: Aa5 2 ol.length/\ops[0]?=some o0/\ops[1]?=some o1:=by
 have hs:ops.size=ol.length+2:=by rw [<- Array.length_toList,h];rfl
 refine ⟨?_,?_,?_⟩
 · rw [hs,List.range_eq_range',show ol.length+2=(ol.length+1)+1 from rfl,Aa7,Aa7]
 · rw [<- Aa2,h];rfl
 · rw [<- Aa2,h];rfl
theorem Pa {a:Act} {P:Program} {w:World} {d:Option Tmp} {ty:TypeId} {p:String} {af:Array Edge} {g:Option (Nat×Bool)}:(execOp a.eval ⟨d,.call { callee:=.builtin .recover,args:=#[],argTypes:=#[] },ty,p,af,g⟩).run P w=.ok .recover w:=by
 simp [go_sem]
theorem ax {a:Act} {P:Program} {w:World} {d:Option Tmp} {TI TF:TypeId} {ty:TypeId} {p:String} {af:Array Edge} {g:Option (Nat×Bool)} {v:Value} {fs:Array Field} (hu:P.underlying TF=some (.struct fs)) (hx:a.eval (.tmp 6)=.iface TF v) :
 (execOp a.eval ⟨d,.typeAssert (.tmp 6) TI TF true,ty,p,af,g⟩).run P w=.ok (.value (.tuple #[v,.bool true])) w:=by
 simp [execOp,hx,Aa6,AH (C:={ P:=P,glob:=fun _=>none,prim:=fun _=>none,heap:=fun _=>false }) hu]
theorem EW {o:Oper} {y:Nat->Option Bool} (h:o.guard=none):Aa4 o y=true:=by unfold Aa4;rw [h]
theorem fh {g:FuncId} {gn:Func} {TI TF:TypeId} {zp:PV} {bx bxR bxI:List PBox} {rv:PV} {fs:Array Field} (hr:CatchRuns C g gn TI TF zp bx bxR bxI rv) (hu:C.P.underlying TF=some (.struct fs)) (hh:CO C B T S M bx w)
 {vs:List Value} {v:Value} (bP:Cd S M [.bp 0 0,.bp 1 0,.bp 2 0] vs) (hv:Rep S M rv v) (GU:∀ e xs,rv≠.osl e xs) (h3:8<=gn.ntmps) (older:List PanicEntry) :
 CallsD C.P g vs.toArray (.panicking ({ v:=.iface TF v,recovered:=false } :: older)) w fun e u' w'=>(∃ r,e=.returned r)/\u'=.panicking ({ v:=.iface TF v,recovered:=true } :: older) /\
  ∃ S' M',CO C B T S' M' bxR w'/\Grows B T S w S' w'/\M <+: M':=by
 obtain ⟨hg,i0,i1,i2,ops0,ops1,ops2,ol,ty0,ty1,p0,p1,af0,af1,st3,st4,st5,st3',st4',hb,bX,d0,d1,d2,vq,mw,r0,r1,hc,r2,J8,_⟩:=hr;refine callsD_of_wpS hg hb fun c₀ cs ew=>?_
 have S4:Sim (plainC C) [] B T S M gn.ntmps ⟨[.bp 0 0,.bp 1 0,.bp 2 0],bx⟩ { tmps:=vs.toArray++Aa3 (gn.ntmps - vs.toArray.size) undef,defers:=[] } w:=
  Sim.toC (C:=C) (C':=plainC C) rfl rfl (CO.enter (k:=gn.ntmps) hh bP (fun p hp e xs=>by simp at hp;rcases hp with rfl | rfl | rfl <;> simp) (by simp;omega))
 generalize ({ tmps:=vs.toArray++Aa3 (gn.ntmps - vs.toArray.size) undef,defers:=[] }:Act)=a0 at S4 |-;obtain ⟨q1,q2,q3⟩:=O' bX;refine wpS_seq (wpS_region ?_);rw [q1];unfold wpOpsS;simp only [q2];rw [if_pos (EW rfl),Pa]
 have uA:recoverD (c₀ :: cs)=some (.iface TF v,{ c₀ with mode:=.panicking ({ v:=.iface TF v,recovered:=true } :: older) } :: cs):=by
  unfold recoverD;simp only [ew]
 simp only [uA];have VF:=S4.put (some 6) (fun k hk=>by cases hk;exact Aa1 (by decide) h3) (Rep.iface TF _ _ hv) (fun e xs=>by simp);unfold wpOpsS;simp only [q3]
 have Ih:(a0.put (some 6) (.iface TF v)).eval (.tmp 6)=.iface TF v:=by
  show (a0.put (some 6) (.iface TF v)).tmps.getD 6 undef=_;rw [G4,Ij _ _ _ _ (by rw [S4.size];omega),if_pos rfl]
 rw [if_pos (EW rfl),ax hu Ih];simp only;show wpOpsS _ _ _ _ _ _ _
 have Zo:=VF.put (some 7) (fun k hk=>by cases hk;exact Aa1 (by decide) h3) (p:=.tup [rv,.bool true]) (v:=.tuple #[v,.bool true]) (.tup _ _ rfl (fun i h1 h2=>by
  match i,h1 with
  | 0,_=>exact hv
  | 1,_=>exact .bool true)) (fun e xs=>by simp)
 refine NR (fun a w h=>?_) _ _ _ ?_
 · obtain ⟨u',⟨r,hr⟩,_⟩:=h
   cases hr
 rw [show Aa5 2 ol.length=Aa5 2 ol.length from rfl,wpOps_eq_wpList ol 2 (fun j=>by rw [<- Aa2,bX,Aaa] <;> rfl)];refine CW (C:=plainC C) (D:=[]) (Ej _) false ops0 ol [] _ S M _ w (fun o ho=>Eh d0 o (by rw [bX];simp [ho])) Zo (fun p hp=>by simp at hp) r0 ?_;intro S1 M1 a1 w1 ZF pL Xg;refine wpS_of_wp (wp_seq (wp_region_list (CW (C:=plainC C) (D:=[]) (Ej _) false ops1 ops1.toList [] st3 S1 M1 a1 w1 (Eh d1) ZF (fun p hp=>by simp at hp) r1 ?_)));intro S2 M2 a2 w2 ZG pP Zm;refine wp_cond (t:=true) ?_ ?_
 · have hx:=ZG.opd (.tmp 10)
   rw [hc] at hx;exact hx.bool_inv
 simp only [if_true];refine HS (C:=plainC C) noCall (Ej _) i2 ops2 gn.ntmps _ st4 st5 B T S2 M2 [] a2 w2 _ d2 vq r2 ZG ?_;intro S3 M3 a3 w3 yQ hg3 hp3;refine ⟨yQ.dfr,_,rfl,.tuple #[],?_,⟨_,rfl⟩,rfl,S3,M3,?_,pL.trans (pP.trans hg3),Xg.trans (Zm.trans hp3)⟩
 · have:=HF (C:=C) (a:=a3) (w:=w3) (fn:=gn) (rs:=[]) (by rw [mw]) (vs:=[]) rfl (fun i h=>by simp at h)
   simpa using this
 · rw [<- J8]
   exact Sim.toC (C:=plainC C) (C':=C) rfl rfl yQ.heapOnly
theorem Tj {a:Act} {w:World} {d:Option Tmp} {TI TF:TypeId} {ty:TypeId} {p:String} {af:Array Edge} {g:Option (Nat×Bool)} {i:TypeInfo} {z:Value} {fs:Array Field} (hu:C.P.underlying TF=some (.struct fs)) (hi:C.P.info? TF=some i) (hz:i.zero=some z) (hx:a.eval (.tmp 6)=.nilIface) :
 (execOp a.eval ⟨d,.typeAssert (.tmp 6) TI TF true,ty,p,af,g⟩).run C.P w=.ok (.value (.tuple #[z,.bool false])) w:=by
 simp [execOp,hx,Aa6,AH (C:=C) hu,zeroValue,typeInfo,hi,hz]
theorem ay {g:FuncId} {gn:Func} {TI TF:TypeId} {zp:PV} {bx bxR bxI:List PBox} {rv:PV} {fs:Array Field} (hr:CatchRuns C g gn TI TF zp bx bxR bxI rv) (hu:C.P.underlying TF=some (.struct fs)) (hz:tZero C TF=some zp) (hzo:∀ e xs,zp≠.osl e xs) (hh:CO C B T S M bx w)
 {vs:List Value} (bP:Cd S M [.bp 0 0,.bp 1 0,.bp 2 0] vs) (h3:8<=gn.ntmps) :
 CallsD C.P g vs.toArray .returning w fun e u' w'=>(∃ r,e=.returned r)/\u'=.returning /\
  ∃ S' M',CO C B T S' M' bxI w'/\Grows B T S w S' w'/\M <+: M':=by
 obtain ⟨hg,i0,i1,i2,ops0,ops1,ops2,ol,ty0,ty1,p0,p1,af0,af1,st3,st4,st5,st3',st4',hb,bX,d0,d1,d2,vq,mw,_,_,_,_,_,r0,r1,hc,J8⟩:=hr
 obtain ⟨i,z,hi,mM,rfl⟩:∃ i z,C.P.info? TF=some i/\i.zero=some z/\cval z=zp:=by
  unfold tZero at hz;cases hi:C.P.info? TF with
  | none=>rw [hi] at hz;cases hz
  | some i=>
   rw [hi] at hz;obtain ⟨z,h1,h2⟩:=Option.map_eq_some_iff.1 hz;exact ⟨i,z,rfl,h1,h2⟩
 refine callsD_of_wpS hg hb fun c₀ cs ew=>?_
 have S4:Sim (plainC C) [] B T S M gn.ntmps ⟨[.bp 0 0,.bp 1 0,.bp 2 0],bx⟩ { tmps:=vs.toArray++Aa3 (gn.ntmps - vs.toArray.size) undef,defers:=[] } w:=
  Sim.toC (C:=C) (C':=plainC C) rfl rfl (CO.enter (k:=gn.ntmps) hh bP (fun p hp e xs=>by simp at hp;rcases hp with rfl | rfl | rfl <;> simp) (by simp;omega))
 generalize ({ tmps:=vs.toArray++Aa3 (gn.ntmps - vs.toArray.size) undef,defers:=[] }:Act)=a0 at S4 |-;obtain ⟨q1,q2,q3⟩:=O' bX;refine wpS_seq (wpS_region ?_);rw [q1];unfold wpOpsS;simp only [q2];rw [if_pos (EW rfl),Pa]
 have uA:recoverD (c₀ :: cs)=none:=by
  unfold recoverD;simp only [ew]
 simp only [uA];have VF:=S4.put (some 6) (fun k hk=>by cases hk;exact Aa1 (by decide) h3) (p:=.nili) (v:=.nilIface) .nili (fun e xs=>by simp);unfold wpOpsS;simp only [q3]
 have Ih:(a0.put (some 6) .nilIface).eval (.tmp 6)=.nilIface:=by
  show (a0.put (some 6) .nilIface).tmps.getD 6 undef=_;rw [G4,Ij _ _ _ _ (by rw [S4.size];omega),if_pos rfl]
 rw [if_pos (EW rfl),Tj hu hi mM Ih];simp only;show wpOpsS _ _ _ _ _ _ _
 have Zo:=VF.put (some 7) (fun k hk=>by cases hk;exact Aa1 (by decide) h3) (p:=.tup [cval z,.bool false]) (v:=.tuple #[z,.bool false]) (.tup _ _ rfl (fun i h1 h2=>by
  match i,h1 with
  | 0,_=>exact .cval z
  | 1,_=>exact .bool false)) (fun e xs=>by simp)
 refine NR (fun a w h=>?_) _ _ _ ?_
 · obtain ⟨u',⟨r,hr⟩,_⟩:=h
   cases hr
 rw [wpOps_eq_wpList ol 2 (fun j=>by rw [<- Aa2,bX,Aaa] <;> rfl)];refine CW (C:=plainC C) (D:=[]) (Ej _) false ops0 ol [] _ S M _ w (fun o ho=>Eh d0 o (by rw [bX];simp [ho])) Zo (fun p hp=>by simp at hp) r0 ?_;intro S1 M1 a1 w1 ZF pL Xg;refine wpS_of_wp (wp_seq (wp_region_list (CW (C:=plainC C) (D:=[]) (Ej _) false ops1 ops1.toList [] st3' S1 M1 a1 w1 (Eh d1) ZF (fun p hp=>by simp at hp) r1 ?_)));intro S2 M2 a2 w2 ZG pP Zm;refine wp_cond (t:=false) ?_ ?_
 · have hx:=ZG.opd (.tmp 10)
   rw [hc] at hx;exact hx.bool_inv
 simp only [Bool.false_eq_true,if_false];refine wp_skip ?_;refine ⟨ZG.dfr,.returning,?_,.tuple #[],?_,⟨_,rfl⟩,rfl,S2,M2,?_,pL.trans pP,Xg.trans Zm⟩
 · rw [<- ew]
 · have:=HF (C:=C) (a:=a2) (w:=w2) (fn:=gn) (rs:=[]) (by rw [mw]) (vs:=[]) rfl (fun i h=>by simp at h)
   simpa using this
 · rw [<- J8]
   exact Sim.toC (C:=plainC C) (C':=C) rfl rfl ZG.heapOnly
def mJ (n0:Nat) (st:St):Bool:=match getT st.env 2,getT st.env 3,getT st.env 4,st.bx with
 | .bp 0 0,.bp 1 0,.bp 2 0,.cells _ c0 :: .cells _ [x1] :: .cells _ [x2] :: _=>decide (c0.length=n0) && (Al c0 && (x1.pure && x2.pure))
 | _,_,_,_=>false
theorem cw {n0:Nat} {st:St} (h:mJ n0 st=true):getT st.env 2=.bp 0 0/\getT st.env 3=.bp 1 0/\getT st.env 4=.bp 2 0 /\
 ∃ t0 c0 t1 x1 t2 x2 r,st.bx=.cells t0 c0 :: .cells t1 [x1] :: .cells t2 [x2] :: r/\c0.length=n0/\Al c0=true/\x1.pure=true/\x2.pure=true:=by
 unfold mJ at h;split at h
 · rename_i e2 e3 e4 e5
   simp only [Aa0,decide_eq_true_eq] at h;exact ⟨e2,e3,e4,_,_,_,_,_,_,_,e5,h.1,h.2.1,h.2.2.1,h.2.2.2⟩
 · cases h
def I5 (TF:TypeId) (n0:Nat) (zc:List PV) (fin:List PV->PV):Ex×St->Option (CR×List PBox)
 | (.pan (.iface t (.agg [.int .i64 x,.int .i64 y])),st)=>if (decide (t=TF) && mJ n0 st)=true then some (.ret (.tup [fin zc,.int .i64 x,.int .i64 y]),[]) else none
 | (.ret,st)=>if mJ n0 st=true then (match st.bx with
  | .cells _ c0 :: .cells _ [.int .i64 x] :: .cells _ [.int .i64 y] :: _=>some (.ret (.tup [fin c0,.int .i64 x,.int .i64 y]),[])
  | _=>none) else none
 | _=>none
def VZ (g:FuncId) (envA:List UInt8->List PV) (bx0:List PBox) (args:List PV) (bx:List PBox):Option St:=match args,bx with
 | [.str s],[]=>some ⟨setT (envA s) 6 (.fn g [] [.bp 0 0,.bp 1 0,.bp 2 0]),bx0⟩
 | _,_=>none
theorem LF {f:FuncId} {fn:Func} {code:Code} {i0 i1:Nat} {opsA opsB:Array Oper} {g:FuncId} {gn:Func} {envA:List UInt8->List PV} {bx0:List PBox} {ty6 tyd:TypeId} {p6 pd:String} {af6 afd:Array Edge}
 {TI TF:TypeId} {zp:PV} {n0:Nat} {zc:List PV} {fin:List PV->PV} {fs:Array Field}
 (hf:C.P.funcs[f]?=some fn) (Gt:(fn.name == "runtime.NumGoroutine")=false) (hb:fn.body=some (.seq (.region i0 opsA false) (.seq (.region i1 opsB false) code)))
 (hn:8<=fn.ntmps) (hgn:8<=gn.ntmps) (hgname:(gn.name == "runtime.NumGoroutine")=false) (dA:dstOK fn.ntmps opsA=true) (hA:∀ s,evOps (plainC C) noCall false opsA opsA.toList [] ⟨[.str s],[]⟩=some (.normal,⟨envA s,bx0⟩))
 (hB:opsB.toList=[⟨some 6,.makeFunc (.func g) #[] #[.tmp 2,.tmp 3,.tmp 4],ty6,p6,af6,none⟩,⟨none,.defer { callee:=.value (.tmp 6),args:=#[],argTypes:=#[] },tyd,pd,afd,none⟩])
 (hE:∀ s,getT (envA s) 2=.bp 0 0/\getT (envA s) 3=.bp 1 0/\getT (envA s) 4=.bp 2 0)
 (GI:Fe C fn.ntmps code=true)
 (my:∀ t0 c0 t1 x1 t2 x2 x y,c0.length=n0->CatchRuns C g gn TI TF zp [.cells t0 c0,.cells t1 [x1],.cells t2 [x2]] [.cells t0 zc,.cells t1 [.int .i64 x],.cells t2 [.int .i64 y],.cells TF [.int .i64 x,.int .i64 y]]
  [.cells t0 c0,.cells t1 [x1],.cells t2 [x2],.cells TF [.int .i64 0,.int .i64 0]] (.agg [.int .i64 x,.int .i64 y]))
 (hu:C.P.underlying TF=some (.struct fs)) (hz:tZero C TF=some zp) (hzo:∀ e xs,zp≠.osl e xs) (vg:Al zc=true)
 (pR:∀ c0,Al c0=true->(fin c0).pure=true)
 (mw:∀ env t0 c0 t1 x t2 y r,getT env 2=.bp 0 0->getT env 3=.bp 1 0->getT env 4=.bp 2 0->(c0.length=n0\/c0=zc)->Cn C ⟨env,.cells t0 c0 :: .cells t1 [.int .i64 x] :: .cells t2 [.int .i64 y] :: r⟩ fn.results.toList=some [fin c0,.int .i64 x,.int .i64 y])
 (ev:Code->St->Option (Ex×St)) (Ih:DY C false ev) (args:List PV) (bx:List PBox) (cr:CR) (bx':List PBox) (BW:Et ⟨code,VZ g envA bx0,I5 TF n0 zc fin⟩ ev args bx=some (cr,bx')) :
 Fi C.P f/\((∀ p ∈ args,∀ t xs,p≠.osl t xs)->∀ (B:Nat) (T:Nat->Prop) (S:AI) (M:List Nat) (vs:List Value) (w:World),CO C B T S M bx w->Cd S M args vs ->
  Calls C.P f vs.toArray w fun e w'=>∃ S' M',CO C B T S' M' bx' w'/\Grows B T S w S' w'/\M <+: M'/\Outcome S' M' cr e):=by
 refine ⟨⟨fn,_,hf,Gt,hb⟩,fun GU B T S M vs w hh DL=>?_⟩;unfold Et at BW;simp only [VZ] at BW;split at BW
 rotate_left
 · cases BW
 rename_i st0 mz;split at mz
 rotate_left
 · cases mz
 rename_i s;injection mz with mz
 subst mz;split at BW
 rotate_left
 · cases BW
 rename_i r hcodeR;have hM:M=[]:=List.eq_nil_of_length_eq_zero hh.mlen;subst hM;refine calls_of_wp_defers hf hb ?_;have Ie:=hh.enter DL GU (k:=fn.ntmps) (by simp;omega);refine wp_seq (wp_region_list (CW (C:=plainC C) (D:=[]) (Ej _) false opsA opsA.toList [] _ S [] _ w (Eh dA) (Sim.toC (C:=C) (C':=plainC C) rfl rfl Ie) (fun p hp=>by simp at hp) (hA s) ?_));intro S1 M1 a1 w1 ZF pL Xg;have ZF:Sim C [] B T S1 M1 fn.ntmps ⟨envA s,bx0⟩ a1 w1:=Sim.toC (C:=plainC C) (C':=C) rfl rfl ZF;refine wp_seq (wp_region_list ?_);rw [hB];refine wpList_step fun K hK=>?_;rw [EW rfl];simp only [if_true];obtain ⟨e2,e3,e4⟩:=hE s
 -- the closure is made
 have J5:Cd S1 M1 [.bp 0 0,.bp 1 0,.bp 2 0] [a1.tmps.getD 2 undef,a1.tmps.getD 3 undef,a1.tmps.getD 4 undef]:=by
  have h2:=ZF.env 2;have h3:=ZF.env 3;have h4:=ZF.env 4;simp only [e2,e3,e4] at h2 h3 h4;exact Cd.cons h2 (Cd.cons h3 (Cd.cons h4 (Cd.nil _ _)))
 generalize ZH:[a1.tmps.getD 2 undef,a1.tmps.getD 3 undef,a1.tmps.getD 4 undef]=cv at J5
 have mo:Rep S1 M1 (.fn g [] [.bp 0 0,.bp 1 0,.bp 2 0]) (.func (.func g) #[] cv.toArray):=
  .fn g [] _ #[] _ rfl (by simp [<- ZH]) (fun i h=>by simp at h) (fun i h h'=>by simpa using J5.2 i h (by simpa using h'))
 have hmk:(execOp a1.eval ⟨some 6,.makeFunc (.func g) #[] #[.tmp 2,.tmp 3,.tmp 4],ty6,p6,af6,none⟩).run C.P w1=.ok (.value (.func (.func g) #[] cv.toArray)) w1:=by
  rw [<- ZH];simp [execOp,Instr.makeFunc,Act.eval]
 unfold Aa9;rw [hmk];have ZG:=ZF.put (some 6) (fun k hk=>by cases hk;exact Aa1 (by decide) hn) mo (fun e xs=>by simp)
 have h6:(a1.put (some 6) (.func (.func g) #[] cv.toArray)).eval (.tmp 6)=.func (.func g) #[] cv.toArray:=by
  show (a1.put (some 6) _).tmps.getD 6 undef=_;rw [G4,Ij _ _ _ _ (by rw [ZF.size];omega),if_pos rfl]
 refine hK _ _ ?_;generalize a1.put (some 6) (.func (.func g) #[] cv.toArray)=a2 at ZG h6 |-;refine wpList_step fun K' hK'=>?_;rw [EW rfl];simp only [if_true]
 have hdf:(execOp a2.eval ⟨none,.defer { callee:=.value (.tmp 6),args:=#[],argTypes:=#[] },tyd,pd,afd,none⟩).run C.P w1=.ok (.defer { target:=.fn (.func g) cv.toArray,args:=#[] }) w1:=by
  simp [execOp,resolve,h6,Deferred.ofValue]
 unfold Aa9;rw [hdf];refine hK' _ _ ?_;have hQ:a2.defers=[]:=ZG.dfr;have yQ:=ZG.laid [{ target:=.fn (.func g) cv.toArray,args:=#[] }];rw [hQ];refine wpList_nil ?_;show code.wp C.P _ ({ a2 with defers:=[{ target:=.fn (.func g) cv.toArray,args:=#[] }] }:Act) w1
 have hinv:∀ w',(invoke (.fn (.func g) cv.toArray) #[]).run C.P w'=.ok (.enter g cv.toArray) w':=by
  intro w';obtain ⟨hg,_,_,_,_,_,_,_,_,_,_,_,_,_,_,_,_,_,_,hgb,_⟩:=my 0 (List.replicate n0 .nils) 0 .nils 0 .nils 0 0 (by simp);unfold invoke;rw [Go.MuLone.run_callFunc_enter hg hgname hgb]
  congr 2
  simp
 refine Ih code _ r.1 r.2 fn.ntmps (by unfold Tf;exact GI) (by exact hcodeR) B T S1 M1 [{ target:=.fn (.func g) cv.toArray,args:=#[] }] _ w1 _ yQ ?_
 -- at the door
 have door:∀ (env:List PV) (t0:TypeId) (c0:List PV) (t1:TypeId) (x1:PV) (t2:TypeId) (x2:PV) (rest:List PBox) (S':AI) (M':List Nat) (a':Act) (w':World) (u:FrameMode),getT env 2=.bp 0 0->getT env 3=.bp 1 0->getT env 4=.bp 2 0 ->
  c0.length=n0->Al c0=true->x1.pure=true->x2.pure=true ->
  Sim C [{ target:=.fn (.func g) cv.toArray,args:=#[] }] B T S' M' fn.ntmps ⟨env,.cells t0 c0 :: .cells t1 [x1] :: .cells t2 [x2] :: rest⟩ a' w'->Grows B T S1 w1 S' w'->M1 <+: M' ->
  (∃ x y,u=.returning/\x1=.int .i64 x/\x2=.int .i64 y/\cr=.ret (.tup [fin c0,.int .i64 x,.int .i64 y])/\bx'=[])\/(∃ x y v,u=.panicking [{ v:=.iface TF v,recovered:=false }]/\Rep S' M' (.agg [.int .i64 x,.int .i64 y]) v/\cr=.ret (.tup [fin zc,.int .i64 x,.int .i64 y])/\bx'=[]) ->
  Leaves C.P fn a'.tmps (fun e w'=>∃ S' M',CO C B T S' M' bx' w'/\Grows B T S w S' w'/\[] <+: M'/\Outcome S' M' cr e) a'.defers u w':=by
  intro env t0 c0 t1 x1 t2 x2 rest S' M' a' w' u g2 g3 g4 Xh pJ Xg Zm hs D5 pF JJ;rw [show a'.defers=_ from hs.dfr];have hlen:M'.length=rest.length+3:=by have:=hs.mlen;simpa using this
  have Xl:(M'.take 3).length=3:=by simp;omega
  have rb:∀ (t0 t1 t2:TypeId) (c0:List PV) (x1 x2:PV),Al c0=true->x1.pure=true->x2.pure=true->([PBox.cells t0 c0,.cells t1 [x1],.cells t2 [x2]].all (·.under 3))=true:=by
   intro t0 t1 t2 c0 x1 x2 h0 h1 h2;simp only [List.all_cons,List.all_nil,PBox.under,Ar,EC 3 _ h1,EC 3 _ h2,Ax 3 _ h0,Aa8]
  have Ez:CO C B T S' (M'.take 3) [.cells t0 c0,.cells t1 [x1],.cells t2 [x2]] w':=by
   have:=CO.trunc (M:=M'.take 3) hs.heapOnly (List.take_prefix 3 M') (by rw [Xl];exact rb _ _ _ _ _ _ pJ Xg Zm);rw [Xl] at this;exact this
  have hcv':Cd S' (M'.take 3) [.bp 0 0,.bp 1 0,.bp 2 0] cv:=by
   refine ⟨J5.1,fun i x y=>?_⟩;have h1:=(J5.2 i x y).mono D5.store (FZ pF);refine h1.ofUnder 3 _ (fun id b hid hb=>by rw [List.getElem?_take_of_lt hid];exact hb) ?_
   match i,x with
   | 0,_=>rfl
   | 1,_=>rfl
   | 2,_=>rfl
  -- what comes behind the closure
  have fin':∀ (c:List PV) (x y:Int) (S2:AI) (w2:World),(c.length=n0\/c=zc)->Al c=true->Sim C [{ target:=.fn (.func g) cv.toArray,args:=#[] }] B T S2 M' fn.ntmps ⟨env,.cells t0 c :: .cells t1 [.int .i64 x] :: .cells t2 [.int .i64 y] :: rest⟩ a' w2->Grows B T S' w' S2 w2 ->
   cr=.ret (.tup [fin c,.int .i64 x,.int .i64 y])->bx'=[]->Leaves C.P fn a'.tmps (fun e w'=>∃ S' M',CO C B T S' M' bx' w'/\Grows B T S w S' w'/\[] <+: M'/\Outcome S' M' cr e) [] .returning w2:=by
   intro c x y S2 w2 hc mn ZG pP mq Ms;subst mq Ms;obtain ⟨us,r1,r2,r3,r4⟩:=I3 ZG _ _ (mw env t0 c t1 x t2 y rest g2 g3 g4 hc);obtain ⟨h5,h6⟩:=UR r1 r3;have Zr:(PV.tup [fin c,.int .i64 x,.int .i64 y]).pure=true:=by simp only [PV.pure,Al,pR c mn,Aa8]
   refine ⟨_,HF rfl r2 r4,S2,[],?_,pL.trans (D5.trans pP),List.prefix_refl _,h6,_,rfl,h5.ofPure [] Zr⟩;exact CO.trunc (M:=[]) ZG.heapOnly (List.nil_prefix) (by simp)
  rcases JJ with ⟨x,y,rfl,rfl,rfl,mq,Ms⟩ | ⟨x,y,v,rfl,hv,mq,Ms⟩
  · refine leaves_cons (f:=g) (args:=cv.toArray) (by simp) (hinv w') ?_
    refine (ay (my t0 c0 t1 (.int .i64 x) t2 (.int .i64 y) 0 0 Xh) hu hz hzo Ez.sharedStart hcv' hgn).mono ?_
    rintro e u' w'' ⟨⟨r,rfl⟩,rfl,S'',M'',ej,uB,uC⟩
    have xX:=CO.trunc ej uC (by rw [Xl];exact rb t0 t1 t2 c0 (.int .i64 x) (.int .i64 y) pJ Xg Zm);rw [Xl] at xX;obtain ⟨f1,f2,_⟩:=hs.afterCut (m:=3) (by omega) Ez xX uB;exact fin' c0 x y S'' w'' (.inl Xh) pJ f1 f2 mq Ms
  · refine leaves_cons (f:=g) (args:=cv.toArray) (by simp) (hinv w') ?_
    refine (fh (my t0 c0 t1 x1 t2 x2 x y Xh) hu Ez.sharedStart hcv' (hv.ofPure _ (by simp [PV.pure,Al])) (fun e xs=>by simp) hgn []).mono ?_
    rintro e u' w'' ⟨⟨r,rfl⟩,rfl,S'',M'',ej,uB,uC⟩
    have xX:=CO.trunc ej uC (by rw [Xl];exact rb t0 t1 t2 zc (.int .i64 x) (.int .i64 y) vg (by simp [PV.pure]) (by simp [PV.pure]));rw [Xl] at xX;obtain ⟨f1,f2,_⟩:=hs.afterCut (m:=3) (by omega) Ez xX uB;exact fin' zc x y S'' w'' (.inr rfl) vg f1 f2 mq Ms
 obtain ⟨ex,st'⟩:=r;cases ex with
 | normal=>simp [I5] at BW
 | exit i=>simp [I5] at BW
 | ret=>
  simp only [I5] at BW;split at BW
  rotate_left
  · cases BW
  rename_i EA;obtain ⟨g2,g3,g4,t0,c0,t1,x1,t2,x2,rest,J8,Xh,pJ,Xg,Zm⟩:=cw EA;rw [J8] at BW;split at BW
  rotate_left
  · cases BW
  rename_i t0' c0' t1' x t2' y rest' heq;injection heq with q1 q2
  injection q1 with q1 q1'
  injection q2 with q2 q3
  injection q2 with q2 q2'
  injection q3 with q3 q4
  injection q3 with q3 q3'
  injection q2' with q2' _
  injection q3' with q3' _
  subst q1 q1' q2 q2' q3 q3' q4;injection BW with BW
  injection BW with mq Ms
  intro S' M' a' w' hs D5 pF;obtain ⟨env,bxx⟩:=st';simp only at J8 g2 g3 g4;subst J8;exact door env t0 c0 t1 _ t2 _ rest S' M' a' w' .returning g2 g3 g4 Xh pJ Xg Zm hs D5 pF (.inl ⟨x,y,rfl,rfl,rfl,mq.symm,Ms.symm⟩)
 | pan v=>
  unfold I5 at BW;split at BW
  rotate_left
  · rename_i heq;cases heq
  · cases BW
  rename_i t x y st'' heq;injection heq with q1 q2
  injection q1 with q1
  subst q1 q2;split at BW
  rotate_left
  · cases BW
  rename_i EA;simp only [Aa0,decide_eq_true_eq] at EA;obtain ⟨rfl,EA⟩:=EA;obtain ⟨g2,g3,g4,t0,c0,t1,x1,t2,x2,rest,J8,Xh,pJ,Xg,Zm⟩:=cw EA;injection BW with BW
  injection BW with mq Ms
  intro S' M' a' w' ch u e' xY hs D5 pF hF hch
  have xQ:e'=st'.env:=by
   rcases xY with xY | xY
   · rw [xY] at g2;simp [getT,und] at g2
   · exact xY
  subst xQ;obtain ⟨env,bxx⟩:=st';simp only at J8 g2 g3 g4;subst J8;subst hch;cases hF with
  | iface _ _ vv ve=>exact door env t0 c0 t1 x1 t2 x2 rest S' M' a' w' _ g2 g3 g4 Xh pJ Xg Zm hs D5 pF (.inr ⟨x,y,vv,rfl,ve,mq.symm,Ms.symm⟩)
end
end Go.HH
