/-
  What the law needs, packed: RC RD RE RF RG.
-/
import Derived.Test.YthjabmlbmnadjaaK39
namespace Go.HH
open Go Go.Proofs
set_option maxRecDepth 100000
set_option maxHeartbeats 4000000
set_option linter.unusedSimpArgs false
set_option linter.unusedVariables false
theorem okB_parse_parser_rule_1:fnOKB CC Try.f45 (Try.f45.body.getD .skip)=true:=by kernel_rfl
theorem noB_parse_parser_rule_1:fnOK CC Try.f45 (Try.f45.body.getD .skip)=false:=by kernel_rfl
theorem fatB_parse_parser_rule_1:CC.P.funcs[45]?=some Try.f45:=by kernel_rfl
theorem okB_parse_parser_rule_2:fnOKB CC Try.f47 (Try.f47.body.getD .skip)=true:=by kernel_rfl
theorem noB_parse_parser_rule_2:fnOK CC Try.f47 (Try.f47.body.getD .skip)=false:=by kernel_rfl
theorem fatB_parse_parser_rule_2:CC.P.funcs[47]?=some Try.f47:=by kernel_rfl
theorem BX_take {bx:List PBox} {id:Nat} {P:PBox} {ys:List PBox} (k:Nat):(BX bx id P ys).take (bx.length+k)=BX bx id P (ys.take k):=by
 unfold BX
 rw [List.take_append,List.take_of_length_le (by simp),List.length_set,Nat.add_sub_cancel_left]
theorem BX_drop {bx:List PBox} {id:Nat} {P:PBox} {ys:List PBox} (k:Nat):(BX bx id P ys).drop (bx.length+k)=ys.drop k:=by
 unfold BX
 rw [List.drop_append,List.drop_of_length_le (by simp),List.length_set,Nat.add_sub_cancel_left,List.nil_append]
theorem BX_cat {bx:List PBox} {id:Nat} {P:PBox} {ys zs:List PBox}:BX bx id P ys++zs=BX bx id P (ys++zs):=by
 unfold BX
 rw [List.append_assoc]
theorem cut_ret {co:FuncId->List PV->List PBox->Option (CR×List PBox)} {k:FuncId} {vs:List PV} {bx:List PBox} {id:Nat} {P P':PBox} {v:PV} (tys:Array TypeId) (a b:PBox) (zs:List PBox) (t x:Nat) (d:Option Tmp) (e:List PV) (ht:tys.toList.any (ptrT CC)=true) (hk:pureL vs=false) (hu:underL (bx.length+2) vs=true) (hc:clB bx) (hP:P.under bx.length=true) (hP':P'.under bx.length=true) (hab:([a,b].all fun y=>y.under (bx.length+2))=true) (hv:v.under (bx.length+2)=true) (h:co k vs (BX bx id P [a,b])=some (.ret v,BX bx id P' [a,b])) :
 callC CC co tys k vs d [(t,.box (bx.length+2) x)] ⟨e,BX bx id P (a :: b :: zs)⟩=some (.next ((St.mk e (BX bx id P' (a :: b :: zs))).put d v) (killT [(t,.box (bx.length+2) x)] d)):=by
 rw [callC_cut CC co tys k vs d _ _ (bx.length+2) ht rfl (by rw [hk];simp) hu (by rw [BX_take];have:=clB_BX (id:=id) (P:=P) (ys:=[a,b]) hc hP hab;unfold clB at this;rw [BX_len] at this;exact this),BX_take]
 rw [show (a :: b :: zs).take 2=[a,b] from rfl,h]
 rw [cutRes_ret v _ _ _ _ _ _ (by rw [BX_len] <;> rfl) hv (by have:=clB_BX (id:=id) (P:=P') (ys:=[a,b]) hc hP' hab;unfold clB at this;rw [BX_len] at this;exact this)]
 rw [BX_drop,BX_cat]
 rfl
theorem cut_pan {co:FuncId->List PV->List PBox->Option (CR×List PBox)} {k:FuncId} {vs:List PV} {bx:List PBox} {id:Nat} {P P':PBox} {v:PV} (tys:Array TypeId) (a b:PBox) (zs:List PBox) (t x:Nat) (d:Option Tmp) (e:List PV) (ht:tys.toList.any (ptrT CC)=true) (hk:pureL vs=false) (hu:underL (bx.length+2) vs=true) (hc:clB bx) (hP:P.under bx.length=true) (hP':P'.under bx.length=true) (hab:([a,b].all fun y=>y.under (bx.length+2))=true) (hv:v.under (bx.length+2)=true) (h:co k vs (BX bx id P [a,b])=some (.pan v,BX bx id P' [a,b])) :
 callC CC co tys k vs d [(t,.box (bx.length+2) x)] ⟨e,BX bx id P (a :: b :: zs)⟩=some (.pan v ⟨e,BX bx id P' (a :: b :: zs)⟩):=by
 rw [callC_cut CC co tys k vs d _ _ (bx.length+2) ht rfl (by rw [hk];simp) hu (by rw [BX_take];have:=clB_BX (id:=id) (P:=P) (ys:=[a,b]) hc hP hab;unfold clB at this;rw [BX_len] at this;exact this),BX_take]
 rw [show (a :: b :: zs).take 2=[a,b] from rfl,h]
 rw [cutRes_pan v _ _ _ _ _ _ (by rw [BX_len] <;> rfl) hv (by have:=clB_BX (id:=id) (P:=P') (ys:=[a,b]) hc hP' hab;unfold clB at this;rw [BX_len] at this;exact this)]
 rw [BX_drop,BX_cat]
 rfl
def lsV (t:TypeId):List PV->PV
 | []=>.nils
 | x :: r=>.osl t (x :: r)
noncomputable def IT:TypeInfo:=(Try.prog.info? 59).getD default
noncomputable def IS:TypeInfo:=(Try.prog.info? 41).getD default
theorem apT (bytes:Nat) (hb:IT.bytes=bytes) (st:St) (al:List (Nat×Loc)) (s x:Operand) (d:Option Tmp):appendOn CC st al s x 27 27 d=match appendAt CC st al 59 s,elemsOf (opd CC st.env x) with
 | some (l,xs),some ys=>appK bytes 10 59 st al l xs ys d
 | _,_=>none:=appendOn_eq (i:=IT) (by kernel_rfl) (by kernel_rfl) (by kernel_rfl) (z:=(IT.zero).getD default) (by kernel_rfl) (by kernel_rfl) (by rw [show IT.size=10 from by kernel_rfl];decide) hb (by kernel_rfl)
theorem apS (bytes:Nat) (hb:IS.bytes=bytes) (st:St) (al:List (Nat×Loc)) (s x:Operand) (d:Option Tmp):appendOn CC st al s x 35 35 d=match appendAt CC st al 41 s,elemsOf (opd CC st.env x) with
 | some (l,xs),some ys=>appK bytes 16 41 st al l xs ys d
 | _,_=>none:=appendOn_eq (i:=IS) (by kernel_rfl) (by kernel_rfl) (by kernel_rfl) (z:=(IS.zero).getD default) (by kernel_rfl) (by kernel_rfl) (by rw [show IS.size=16 from by kernel_rfl];decide) hb (by kernel_rfl)
theorem bytesT:IT.bytes=120:=by kernel_rfl
theorem bytesS:IS.bytes=200:=by kernel_rfl
def rcs (nm:List UInt8) (pr:Int) (on:PV) (dos:PV):Tr->List PV
 | .mk k n m s v q kids=>[.str nm,.int .i64 pr,on,.int .i64 k,.int .i64 n,.int .i64 m,.str s,.int .i64 v.1,.int .i64 v.2.1,.str v.2.2,.int .i64 q.1,.str q.2.1,.str q.2.2,.sl (trVs kids),dos]
theorem lsV_under (t:TypeId) (n:Nat):∀ l:List PV,underL n l=true->(lsV t l).under n=true
 | [],_=>by simp [lsV,PV.under]
 | x :: r,h=>by simp only [lsV,PV.under];exact h
theorem bsT (t:Tg):buildSliceP CC 27 1 [(0,tgV t)]=some (.osl 59 [tgV t]):=by kernel_rfl
theorem under_osl (n:Nat) (e:TypeId) (l:List PV):(PV.osl e l).under n=underL n l:=by simp [PV.under]
theorem bsS (s:Sp):buildSliceP CC 35 1 [(0,.agg (spC s))]=some (.osl 41 [.agg (spC s)]):=by
 obtain ⟨k,y,nm,⟨k2,n,m,s,v,q,kids⟩⟩:=s
 unfold spC exC trV
 kernel_rfl
theorem spC_under (n:Nat) (s:Sp):underL n (spC s)=true:=by unfold spC;simp [PV.under,underL,SX]
theorem spC_len (s:Sp):(spC s).length=16:=by unfold spC;simp [SX]
theorem pureL_app (l:List PV):∀ r:List PV,pureL (r++l)=(pureL r && pureL l)
 | []=>rfl
 | x :: r=>by rw [List.cons_append,pureL_cons,pureL_cons,pureL_app l r,Bool.and_assoc]
theorem spC_pure (s:Sp):pureL (spC s)=true:=by unfold spC;rw [pureL_app,exC_pure];rfl
theorem tgV_under (n:Nat) (t:Tg):(tgV t).under n=true:=by unfold tgV;simp [PV.under,underL]
theorem spV_under (n:Nat) (s:Sp):(spV s).under n=true:=by unfold spV;simp [PV.under,spC_under]
theorem map_under {α:Type} (f:α->PV) (hf:∀ n a,(f a).under n=true) (n:Nat):∀ l:List α,underL n (l.map f)=true
 | []=>by simp [underL]
 | x :: r=>by rw [List.map_cons,SU.2.2.1,hf,map_under f hf n r];rfl
theorem op_BXy {bx:List PBox} {id:Nat} {P P':PBox} {ys ys':List PBox} {f:FuncId} {args:List PV} {r:CR} (hp:pureL args=false) (hl:ys'.length=ys.length) (hc:clB bx) (hP:P'.under bx.length=true) (hy:(ys'.all fun y=>y.under (bx.length+ys'.length))=true) (hr:r.under (bx.length+ys.length)=true) (h:callL CC f args (BX bx id P ys)=some (r,BX bx id P' ys')):callOp CC (callL CC) f args (BX bx id P ys)=some (r,BX bx id P' ys'):=by
 unfold callOp
 rw [if_pos (by rw [hp];simp),h]
 simp only
 unfold truncB
 rw [BX_len]
 have ht:(BX bx id P' ys').take (bx.length+ys.length)=BX bx id P' ys':=by rw [<- hl,<- BX_len (id:=id) (P:=P') (ys:=ys')];exact List.take_of_length_le (Nat.le_refl _)
 rw [ht,hr]
 have:=clB_BX (id:=id) (P:=P') (ys:=ys') hc hP hy
 unfold clB at this
 rw [BX_len,hl] at this
 rw [this]
 rfl
theorem no_r1:drawOK CC (opsOf (fpart Try.f45 []))=false:=by kernel_rfl
theorem ord_r1:orders (opsOf (fpart Try.f45 []))=[[0,1,2,3,4,5,6,7],[0,2,1,3,4,5,6,7],[0,2,3,1,4,5,6,7],[0,2,3,4,1,5,6,7],[2,0,1,3,4,5,6,7],[2,0,3,1,4,5,6,7],[2,0,3,4,1,5,6,7],[2,3,0,1,4,5,6,7],[2,3,0,4,1,5,6,7],[2,3,4,0,1,5,6,7]]:=by kernel_rfl
theorem draw_r1_nil_ok {bx:List PBox} {id:Nat} {L:List Tk} {i o:Nat} {RL:PV} (hR:RL.pure=true) {j:Nat} (hid:id < bx.length) (hc:clB bx) (nm:List UInt8) (pr:Int) (dosV:PV) (hdu:∀ n,dosV.under n=true) (et:Tr) (t0:Tk) {J:List PBox} (hJ:∀ n,(J.all fun x=>x.under n)=true)  (a:Tg) (h:OKc 46 [] id L RL i o (tgV a) j o) :
 drawAll CC (callL CC) (opsOf (fpart Try.f45 [])) ⟨[.bp (bx.length+2) 0,.bp bx.length 0],BX bx id (PSR L i o RL) (.cells 63 [.bp id 0] :: .cells 66 [.int .i64 (t0.1:Int),.str t0.2.1,.int .i64 (t0.2.2:Int)] :: .cells 37 (rcs nm pr .nils dosV et) :: J)⟩=some (.normal,⟨(setT (setT (setT (setT (setT (setT (setT (setT [.bp (bx.length+2) 0,.bp bx.length 0] 2 (.bp (bx.length+2) 2)) 3 (.nils)) 4 (.bp id 0)) 5 (tgV a)) 6 (.osl 59 [tgV a])) 7 (.osl 59 [tgV a])) 8 (.bp (bx.length+2) 2)) 7 (.sl [tgV a])),BX bx id (PSR L j o RL) (.cells 63 [.bp id 0] :: .cells 66 [.int .i64 (t0.1:Int),.str t0.2.1,.int .i64 (t0.2.2:Int)] :: .cells 37 (rcs nm pr (.osl 59 [tgV a]) dosV et) :: J)⟩):=by
 have t1:=okc_use hid hc hR h
 have hd:∀ k,id < bx.length+k:=fun k=>by omega
 have hb:=apT _ bytesT
 obtain ⟨k,n,m,s,v,q,kids⟩:=et
 have hk:∀ n,underL n (trVs kids)=true:=fun z=>underL_of_pure z _ (trVs_pure kids)
 have htp:([63]:List TypeId).toArray.toList.any (ptrT CC)=true:=by kernel_rfl
 have hbs:=bsT a
 have hap:=fun st al l d=>appK_ok (bytes:=120) (size:=10) (e:=59) (st:=st) (al:=al) (l:=l) (d:=d) (xs:=[]) (ys:=[tgV a]) (by simp only [List.length_cons,List.length_nil];omega) (by decide) (by unfold tgV;rfl)
 refine drawAll_iff.2 ⟨by rw [ord_r1];simp,fun l hl=>?_⟩
 rw [ord_r1] at hl
 have pbp:pureL [PV.bp id 0]=false:=rfl
 unfold rcs PSR
 unfold tgV at *
 obtain ⟨dr,ev,eo,so,co,⟨hev,hco,heo,hdr⟩,R⟩:=RULESB CC
 rw [<- heo]
 rw [<- hco] at t1
 simp only [List.mem_cons,List.not_mem_nil,or_false] at hl
 rcases hl with rfl | rfl | rfl | rfl | rfl | rfl | rfl | rfl | rfl | rfl
 all_goals
  simp only [opsOf,fpart,part',Try.f45,Option.getD,pickOps,List.filterMap_cons,List.filterMap_nil,List.getElem?_toArray,List.getElem?_cons_succ,List.getElem?_cons_zero]
  simp only [S9,R,seval,PY,PZ,pbp,dynR,t1,hd,hb,hk,hdu,hJ,hbs,hap,SX,normP_normal,normP_pan,List.getD_cons_zero,List.getD_cons_succ,hid]
  try rw [setT_swap _ 6 2 _ _ (by decide)]
  try rw [setT_swap _ 5 2 _ _ (by decide)]
  try rw [setT_swap _ 4 2 _ _ (by decide)]
  try rw [setT_swap _ 6 3 _ _ (by decide)]
  try rw [setT_swap _ 5 3 _ _ (by decide)]
  try rw [setT_swap _ 4 3 _ _ (by decide)]
  try rfl
theorem draw_r1_nil_bad {bx:List PBox} {id:Nat} {L:List Tk} {i o:Nat} {RL:PV} (hR:RL.pure=true) {j:Nat} (hid:id < bx.length) (hc:clB bx) (nm:List UInt8) (pr:Int) (dosV:PV) (hdu:∀ n,dosV.under n=true) (et:Tr) (t0:Tk) {J:List PBox} (hJ:∀ n,(J.all fun x=>x.under n)=true)  {t:Nat} {c:Int} {i' o':Nat} (h:BADx 46 [] id L RL i o t c i' o') :
 drawAll CC (callL CC) (opsOf (fpart Try.f45 [])) ⟨[.bp (bx.length+2) 0,.bp bx.length 0],BX bx id (PSR L i o RL) (.cells 63 [.bp id 0] :: .cells 66 [.int .i64 (t0.1:Int),.str t0.2.1,.int .i64 (t0.2.2:Int)] :: .cells 37 (rcs nm pr .nils dosV et) :: J)⟩=some (.pan (fltV t c),⟨[],BX bx id (PSR L i' o' RL) (.cells 63 [.bp id 0] :: .cells 66 [.int .i64 (t0.1:Int),.str t0.2.1,.int .i64 (t0.2.2:Int)] :: .cells 37 (rcs nm pr .nils dosV et) :: J)⟩):=by
 have t1:=badx_use hid hc hR h
 have hd:∀ k,id < bx.length+k:=fun k=>by omega
 have hb:=apT _ bytesT
 obtain ⟨k,n,m,s,v,q,kids⟩:=et
 have hk:∀ n,underL n (trVs kids)=true:=fun z=>underL_of_pure z _ (trVs_pure kids)
 have htp:([63]:List TypeId).toArray.toList.any (ptrT CC)=true:=by kernel_rfl
 refine drawAll_iff.2 ⟨by rw [ord_r1];simp,fun l hl=>?_⟩
 rw [ord_r1] at hl
 have pbp:pureL [PV.bp id 0]=false:=rfl
 unfold rcs PSR
 skip
 obtain ⟨dr,ev,eo,so,co,⟨hev,hco,heo,hdr⟩,R⟩:=RULESB CC
 rw [<- heo]
 rw [<- hco] at t1
 simp only [List.mem_cons,List.not_mem_nil,or_false] at hl
 rcases hl with rfl | rfl | rfl | rfl | rfl | rfl | rfl | rfl | rfl | rfl
 all_goals
  simp only [opsOf,fpart,part',Try.f45,Option.getD,pickOps,List.filterMap_cons,List.filterMap_nil,List.getElem?_toArray,List.getElem?_cons_succ,List.getElem?_cons_zero]
  simp only [S9,R,seval,PY,PZ,pbp,dynR,t1,hd,hb,hk,hdu,hJ,SX,normP_normal,normP_pan,List.getD_cons_zero,List.getD_cons_succ,hid]
theorem draw_r1_cons_ok {bx:List PBox} {id:Nat} {L:List Tk} {i o:Nat} {RL:PV} (hR:RL.pure=true) {j:Nat} (hid:id < bx.length) (hc:clB bx) (nm:List UInt8) (pr:Int) (dosV:PV) (hdu:∀ n,dosV.under n=true) (et:Tr) (t0:Tk) {J:List PBox} (hJ:∀ n,(J.all fun x=>x.under n)=true) (x0:PV) (xs:List PV) (hx0:∀ n,x0.under n=true) (hxs:∀ n,underL n xs=true) (hx8:xs.length<=7) (a:Tg) (h:OKc 46 [] id L RL i o (tgV a) j o) :
 drawAll CC (callL CC) (opsOf (fpart Try.f45 [])) ⟨[.bp (bx.length+2) 0,.bp bx.length 0],BX bx id (PSR L i o RL) (.cells 63 [.bp id 0] :: .cells 66 [.int .i64 (t0.1:Int),.str t0.2.1,.int .i64 (t0.2.2:Int)] :: .cells 37 (rcs nm pr (.osl 59 (x0 :: xs)) dosV et) :: J)⟩=some (.normal,⟨(setT (setT (setT (setT (setT (setT (setT (setT [.bp (bx.length+2) 0,.bp bx.length 0] 2 (.bp (bx.length+2) 2)) 3 (.sl (x0 :: xs))) 4 (.bp id 0)) 5 (tgV a)) 6 (.osl 59 [tgV a])) 7 (.osl 59 (x0 :: (xs++[tgV a])))) 8 (.bp (bx.length+2) 2)) 7 (.sl (x0 :: (xs++[tgV a])))),BX bx id (PSR L j o RL) (.cells 63 [.bp id 0] :: .cells 66 [.int .i64 (t0.1:Int),.str t0.2.1,.int .i64 (t0.2.2:Int)] :: .cells 37 (rcs nm pr (.osl 59 (x0 :: (xs++[tgV a]))) dosV et) :: J)⟩):=by
 have t1:=okc_use hid hc hR h
 have hd:∀ k,id < bx.length+k:=fun k=>by omega
 have hb:=apT _ bytesT
 obtain ⟨k,n,m,s,v,q,kids⟩:=et
 have hk:∀ n,underL n (trVs kids)=true:=fun z=>underL_of_pure z _ (trVs_pure kids)
 have htp:([63]:List TypeId).toArray.toList.any (ptrT CC)=true:=by kernel_rfl
 have hbs:=bsT a
 have hap:=fun st al l d=>appK_ok (bytes:=120) (size:=10) (e:=59) (st:=st) (al:=al) (l:=l) (d:=d) (xs:=x0 :: xs) (ys:=[tgV a]) (by simp only [List.length_cons,List.length_nil];omega) (by decide) (by unfold tgV;rfl)
 have hcut:=fun co t1 e=>cut_ret (co:=co) (k:=46) (vs:=[.bp id 0]) (bx:=bx) (id:=id) (P:=PSR L i o RL) (P':=PSR L j o RL) (v:=tgV a) #[63] (.cells 63 [.bp id 0]) (.cells 66 [.int .i64 (t0.1:Int),.str t0.2.1,.int .i64 (t0.2.2:Int)]) (.cells 37 (rcs nm pr (.osl 59 (x0 :: xs)) dosV (.mk k n m s v q kids)) :: J) 3 2 (some 5) e htp rfl (by simp only [SU,SX,hd,decide_true]) hc (PSR_under L i o hR) (PSR_under L j o hR) (by simp only [SU,SX,hd,decide_true]) (tgV_under _ a) t1
 refine drawAll_iff.2 ⟨by rw [ord_r1];simp,fun l hl=>?_⟩
 rw [ord_r1] at hl
 have pbp:pureL [PV.bp id 0]=false:=rfl
 unfold rcs PSR at⊢hcut
 unfold tgV at *
 obtain ⟨dr,ev,eo,so,co,⟨hev,hco,heo,hdr⟩,R⟩:=RULESB CC
 rw [<- heo]
 rw [<- hco] at t1
 replace hcut:=fun e=>hcut co (t1 [.cells 63 [.bp id 0],.cells 66 [.int .i64 (t0.1:Int),.str t0.2.1,.int .i64 (t0.2.2:Int)]] (by simp only [SU,SX,hd,decide_true,List.length_cons,List.length_nil])) e
 simp only [List.mem_cons,List.not_mem_nil,or_false] at hl
 rcases hl with rfl | rfl | rfl | rfl | rfl | rfl | rfl | rfl | rfl | rfl
 all_goals
  simp only [opsOf,fpart,part',Try.f45,Option.getD,pickOps,List.filterMap_cons,List.filterMap_nil,List.getElem?_toArray,List.getElem?_cons_succ,List.getElem?_cons_zero]
  simp only [S9,R,seval,PY,PZ,pbp,dynR,t1,hd,hb,hk,hdu,hJ,hbs,hap,hx0,hxs,hcut,killT_box,under_osl,SX,normP_normal,normP_pan,List.getD_cons_zero,List.getD_cons_succ,hid]
  try rw [setT_swap _ 6 2 _ _ (by decide)]
  try rw [setT_swap _ 5 2 _ _ (by decide)]
  try rw [setT_swap _ 4 2 _ _ (by decide)]
  try rw [setT_swap _ 6 3 _ _ (by decide)]
  try rw [setT_swap _ 5 3 _ _ (by decide)]
  try rw [setT_swap _ 4 3 _ _ (by decide)]
  try rfl
theorem draw_r1_cons_bad {bx:List PBox} {id:Nat} {L:List Tk} {i o:Nat} {RL:PV} (hR:RL.pure=true) {j:Nat} (hid:id < bx.length) (hc:clB bx) (nm:List UInt8) (pr:Int) (dosV:PV) (hdu:∀ n,dosV.under n=true) (et:Tr) (t0:Tk) {J:List PBox} (hJ:∀ n,(J.all fun x=>x.under n)=true) (x0:PV) (xs:List PV) (hx0:∀ n,x0.under n=true) (hxs:∀ n,underL n xs=true) (hx8:xs.length<=7) {t:Nat} {c:Int} {i' o':Nat} (h:BADx 46 [] id L RL i o t c i' o') :
 drawAll CC (callL CC) (opsOf (fpart Try.f45 [])) ⟨[.bp (bx.length+2) 0,.bp bx.length 0],BX bx id (PSR L i o RL) (.cells 63 [.bp id 0] :: .cells 66 [.int .i64 (t0.1:Int),.str t0.2.1,.int .i64 (t0.2.2:Int)] :: .cells 37 (rcs nm pr (.osl 59 (x0 :: xs)) dosV et) :: J)⟩=some (.pan (fltV t c),⟨[],BX bx id (PSR L i' o' RL) (.cells 63 [.bp id 0] :: .cells 66 [.int .i64 (t0.1:Int),.str t0.2.1,.int .i64 (t0.2.2:Int)] :: .cells 37 (rcs nm pr (.osl 59 (x0 :: xs)) dosV et) :: J)⟩):=by
 have t1:=badx_use hid hc hR h
 have hd:∀ k,id < bx.length+k:=fun k=>by omega
 have hb:=apT _ bytesT
 obtain ⟨k,n,m,s,v,q,kids⟩:=et
 have hk:∀ n,underL n (trVs kids)=true:=fun z=>underL_of_pure z _ (trVs_pure kids)
 have htp:([63]:List TypeId).toArray.toList.any (ptrT CC)=true:=by kernel_rfl
 have hcut:=fun co t1 e=>cut_pan (co:=co) (k:=46) (vs:=[.bp id 0]) (bx:=bx) (id:=id) (P:=PSR L i o RL) (P':=PSR L i' o' RL) (v:=fltV t c) #[63] (.cells 63 [.bp id 0]) (.cells 66 [.int .i64 (t0.1:Int),.str t0.2.1,.int .i64 (t0.2.2:Int)]) (.cells 37 (rcs nm pr (.osl 59 (x0 :: xs)) dosV (.mk k n m s v q kids)) :: J) 3 2 (some 5) e htp rfl (by simp only [SU,SX,hd,decide_true]) hc (PSR_under L i o hR) (PSR_under L i' o' hR) (by simp only [SU,SX,hd,decide_true]) (fltV_under (bx.length+2) t c) t1
 refine drawAll_iff.2 ⟨by rw [ord_r1];simp,fun l hl=>?_⟩
 rw [ord_r1] at hl
 have pbp:pureL [PV.bp id 0]=false:=rfl
 unfold rcs PSR at⊢hcut
 skip
 obtain ⟨dr,ev,eo,so,co,⟨hev,hco,heo,hdr⟩,R⟩:=RULESB CC
 rw [<- heo]
 rw [<- hco] at t1
 replace hcut:=fun e=>hcut co (t1 [.cells 63 [.bp id 0],.cells 66 [.int .i64 (t0.1:Int),.str t0.2.1,.int .i64 (t0.2.2:Int)]] (by simp only [SU,SX,hd,decide_true,List.length_cons,List.length_nil])) e
 simp only [List.mem_cons,List.not_mem_nil,or_false] at hl
 rcases hl with rfl | rfl | rfl | rfl | rfl | rfl | rfl | rfl | rfl | rfl
 all_goals
  simp only [opsOf,fpart,part',Try.f45,Option.getD,pickOps,List.filterMap_cons,List.filterMap_nil,List.getElem?_toArray,List.getElem?_cons_succ,List.getElem?_cons_zero]
  simp only [S9,R,seval,PY,PZ,pbp,dynR,t1,hd,hb,hk,hdu,hJ,hx0,hxs,hcut,killT_box,under_osl,SX,normP_normal,normP_pan,List.getD_cons_zero,List.getD_cons_succ,hid]
theorem no_r2:drawOK CC (opsOf (fpart Try.f47 []))=false:=by kernel_rfl
theorem ord_r2:orders (opsOf (fpart Try.f47 []))=[[0,1,2,3,4,5,6,7],[0,2,1,3,4,5,6,7],[0,2,3,1,4,5,6,7],[0,2,3,4,1,5,6,7],[2,0,1,3,4,5,6,7],[2,0,3,1,4,5,6,7],[2,0,3,4,1,5,6,7],[2,3,0,1,4,5,6,7],[2,3,0,4,1,5,6,7],[2,3,4,0,1,5,6,7]]:=by kernel_rfl
theorem draw_r2_nil_ok {bx:List PBox} {id:Nat} {L:List Tk} {i o:Nat} {RL:PV} (hR:RL.pure=true) {j:Nat} (hid:id < bx.length) (hc:clB bx) (nm:List UInt8) (pr:Int) (onV:PV) (hdu:∀ n,onV.under n=true) (et:Tr) (t0:Tk) {J:List PBox} (hJ:∀ n,(J.all fun x=>x.under n)=true)  (a:Sp) (h:OKc 48 [] id L RL i o (spV a) j o) :
 drawAll CC (callL CC) (opsOf (fpart Try.f47 [])) ⟨[.bp (bx.length+2) 0,.bp bx.length 0],BX bx id (PSR L i o RL) (.cells 63 [.bp id 0] :: .cells 66 [.int .i64 (t0.1:Int),.str t0.2.1,.int .i64 (t0.2.2:Int)] :: .cells 37 (rcs nm pr onV .nils et) :: J)⟩=some (.normal,⟨(setT (setT (setT (setT (setT (setT (setT (setT [.bp (bx.length+2) 0,.bp bx.length 0] 2 (.bp (bx.length+2) 14)) 3 (.nils)) 4 (.bp id 0)) 5 (spV a)) 6 (.osl 41 [spV a])) 7 (.osl 41 [spV a])) 8 (.bp (bx.length+2) 14)) 7 (.sl [spV a])),BX bx id (PSR L j o RL) (.cells 63 [.bp id 0] :: .cells 66 [.int .i64 (t0.1:Int),.str t0.2.1,.int .i64 (t0.2.2:Int)] :: .cells 37 (rcs nm pr onV (.osl 41 [spV a]) et) :: J)⟩):=by
 have t1:=okc_use hid hc hR h
 have hd:∀ k,id < bx.length+k:=fun k=>by omega
 have hb:=apS _ bytesS
 obtain ⟨k,n,m,s,v,q,kids⟩:=et
 have hk:∀ n,underL n (trVs kids)=true:=fun z=>underL_of_pure z _ (trVs_pure kids)
 have htp:([63]:List TypeId).toArray.toList.any (ptrT CC)=true:=by kernel_rfl
 have hbs:=bsS a
 have hap:=fun st al l d=>appK_ok (bytes:=200) (size:=16) (e:=41) (st:=st) (al:=al) (l:=l) (d:=d) (xs:=[]) (ys:=[spV a]) (by simp only [List.length_cons,List.length_nil];omega) (by decide) (by unfold spV;simp [PV.cells,spC_len])
 refine drawAll_iff.2 ⟨by rw [ord_r2];simp,fun l hl=>?_⟩
 rw [ord_r2] at hl
 have pbp:pureL [PV.bp id 0]=false:=rfl
 unfold rcs PSR
 unfold spV at *
 obtain ⟨dr,ev,eo,so,co,⟨hev,hco,heo,hdr⟩,R⟩:=RULESB CC
 rw [<- heo]
 rw [<- hco] at t1
 simp only [List.mem_cons,List.not_mem_nil,or_false] at hl
 rcases hl with rfl | rfl | rfl | rfl | rfl | rfl | rfl | rfl | rfl | rfl
 all_goals
  simp only [opsOf,fpart,part',Try.f47,Option.getD,pickOps,List.filterMap_cons,List.filterMap_nil,List.getElem?_toArray,List.getElem?_cons_succ,List.getElem?_cons_zero]
  simp only [S9,R,seval,PY,PZ,pbp,dynR,t1,hd,hb,hk,hdu,hJ,hbs,hap,spC_under,spC_len,spC_pure,SX,normP_normal,normP_pan,List.getD_cons_zero,List.getD_cons_succ,hid]
  try rw [setT_swap _ 6 2 _ _ (by decide)]
  try rw [setT_swap _ 5 2 _ _ (by decide)]
  try rw [setT_swap _ 4 2 _ _ (by decide)]
  try rw [setT_swap _ 6 3 _ _ (by decide)]
  try rw [setT_swap _ 5 3 _ _ (by decide)]
  try rw [setT_swap _ 4 3 _ _ (by decide)]
  try rfl
theorem draw_r2_nil_bad {bx:List PBox} {id:Nat} {L:List Tk} {i o:Nat} {RL:PV} (hR:RL.pure=true) {j:Nat} (hid:id < bx.length) (hc:clB bx) (nm:List UInt8) (pr:Int) (onV:PV) (hdu:∀ n,onV.under n=true) (et:Tr) (t0:Tk) {J:List PBox} (hJ:∀ n,(J.all fun x=>x.under n)=true)  {t:Nat} {c:Int} {i' o':Nat} (h:BADx 48 [] id L RL i o t c i' o') :
 drawAll CC (callL CC) (opsOf (fpart Try.f47 [])) ⟨[.bp (bx.length+2) 0,.bp bx.length 0],BX bx id (PSR L i o RL) (.cells 63 [.bp id 0] :: .cells 66 [.int .i64 (t0.1:Int),.str t0.2.1,.int .i64 (t0.2.2:Int)] :: .cells 37 (rcs nm pr onV .nils et) :: J)⟩=some (.pan (fltV t c),⟨[],BX bx id (PSR L i' o' RL) (.cells 63 [.bp id 0] :: .cells 66 [.int .i64 (t0.1:Int),.str t0.2.1,.int .i64 (t0.2.2:Int)] :: .cells 37 (rcs nm pr onV .nils et) :: J)⟩):=by
 have t1:=badx_use hid hc hR h
 have hd:∀ k,id < bx.length+k:=fun k=>by omega
 have hb:=apS _ bytesS
 obtain ⟨k,n,m,s,v,q,kids⟩:=et
 have hk:∀ n,underL n (trVs kids)=true:=fun z=>underL_of_pure z _ (trVs_pure kids)
 have htp:([63]:List TypeId).toArray.toList.any (ptrT CC)=true:=by kernel_rfl
 refine drawAll_iff.2 ⟨by rw [ord_r2];simp,fun l hl=>?_⟩
 rw [ord_r2] at hl
 have pbp:pureL [PV.bp id 0]=false:=rfl
 unfold rcs PSR
 skip
 obtain ⟨dr,ev,eo,so,co,⟨hev,hco,heo,hdr⟩,R⟩:=RULESB CC
 rw [<- heo]
 rw [<- hco] at t1
 simp only [List.mem_cons,List.not_mem_nil,or_false] at hl
 rcases hl with rfl | rfl | rfl | rfl | rfl | rfl | rfl | rfl | rfl | rfl
 all_goals
  simp only [opsOf,fpart,part',Try.f47,Option.getD,pickOps,List.filterMap_cons,List.filterMap_nil,List.getElem?_toArray,List.getElem?_cons_succ,List.getElem?_cons_zero]
  simp only [S9,R,seval,PY,PZ,pbp,dynR,t1,hd,hb,hk,hdu,hJ,SX,normP_normal,normP_pan,List.getD_cons_zero,List.getD_cons_succ,hid]
theorem draw_r2_cons_ok {bx:List PBox} {id:Nat} {L:List Tk} {i o:Nat} {RL:PV} (hR:RL.pure=true) {j:Nat} (hid:id < bx.length) (hc:clB bx) (nm:List UInt8) (pr:Int) (onV:PV) (hdu:∀ n,onV.under n=true) (et:Tr) (t0:Tk) {J:List PBox} (hJ:∀ n,(J.all fun x=>x.under n)=true) (x0:PV) (xs:List PV) (hx0:∀ n,x0.under n=true) (hxs:∀ n,underL n xs=true) (hx8:xs.length<=7) (a:Sp) (h:OKc 48 [] id L RL i o (spV a) j o) :
 drawAll CC (callL CC) (opsOf (fpart Try.f47 [])) ⟨[.bp (bx.length+2) 0,.bp bx.length 0],BX bx id (PSR L i o RL) (.cells 63 [.bp id 0] :: .cells 66 [.int .i64 (t0.1:Int),.str t0.2.1,.int .i64 (t0.2.2:Int)] :: .cells 37 (rcs nm pr onV (.osl 41 (x0 :: xs)) et) :: J)⟩=some (.normal,⟨(setT (setT (setT (setT (setT (setT (setT (setT [.bp (bx.length+2) 0,.bp bx.length 0] 2 (.bp (bx.length+2) 14)) 3 (.sl (x0 :: xs))) 4 (.bp id 0)) 5 (spV a)) 6 (.osl 41 [spV a])) 7 (.osl 41 (x0 :: (xs++[spV a])))) 8 (.bp (bx.length+2) 14)) 7 (.sl (x0 :: (xs++[spV a])))),BX bx id (PSR L j o RL) (.cells 63 [.bp id 0] :: .cells 66 [.int .i64 (t0.1:Int),.str t0.2.1,.int .i64 (t0.2.2:Int)] :: .cells 37 (rcs nm pr onV (.osl 41 (x0 :: (xs++[spV a]))) et) :: J)⟩):=by
 have t1:=okc_use hid hc hR h
 have hd:∀ k,id < bx.length+k:=fun k=>by omega
 have hb:=apS _ bytesS
 obtain ⟨k,n,m,s,v,q,kids⟩:=et
 have hk:∀ n,underL n (trVs kids)=true:=fun z=>underL_of_pure z _ (trVs_pure kids)
 have htp:([63]:List TypeId).toArray.toList.any (ptrT CC)=true:=by kernel_rfl
 have hbs:=bsS a
 have hap:=fun st al l d=>appK_ok (bytes:=200) (size:=16) (e:=41) (st:=st) (al:=al) (l:=l) (d:=d) (xs:=x0 :: xs) (ys:=[spV a]) (by simp only [List.length_cons,List.length_nil];omega) (by decide) (by unfold spV;simp [PV.cells,spC_len])
 have hcut:=fun co t1 e=>cut_ret (co:=co) (k:=48) (vs:=[.bp id 0]) (bx:=bx) (id:=id) (P:=PSR L i o RL) (P':=PSR L j o RL) (v:=spV a) #[63] (.cells 63 [.bp id 0]) (.cells 66 [.int .i64 (t0.1:Int),.str t0.2.1,.int .i64 (t0.2.2:Int)]) (.cells 37 (rcs nm pr onV (.osl 41 (x0 :: xs)) (.mk k n m s v q kids)) :: J) 3 14 (some 5) e htp rfl (by simp only [SU,SX,hd,decide_true]) hc (PSR_under L i o hR) (PSR_under L j o hR) (by simp only [SU,SX,hd,decide_true]) (spV_under _ a) t1
 refine drawAll_iff.2 ⟨by rw [ord_r2];simp,fun l hl=>?_⟩
 rw [ord_r2] at hl
 have pbp:pureL [PV.bp id 0]=false:=rfl
 unfold rcs PSR at⊢hcut
 unfold spV at *
 obtain ⟨dr,ev,eo,so,co,⟨hev,hco,heo,hdr⟩,R⟩:=RULESB CC
 rw [<- heo]
 rw [<- hco] at t1
 replace hcut:=fun e=>hcut co (t1 [.cells 63 [.bp id 0],.cells 66 [.int .i64 (t0.1:Int),.str t0.2.1,.int .i64 (t0.2.2:Int)]] (by simp only [SU,SX,hd,decide_true,List.length_cons,List.length_nil])) e
 simp only [List.mem_cons,List.not_mem_nil,or_false] at hl
 rcases hl with rfl | rfl | rfl | rfl | rfl | rfl | rfl | rfl | rfl | rfl
 all_goals
  simp only [opsOf,fpart,part',Try.f47,Option.getD,pickOps,List.filterMap_cons,List.filterMap_nil,List.getElem?_toArray,List.getElem?_cons_succ,List.getElem?_cons_zero]
  simp only [S9,R,seval,PY,PZ,pbp,dynR,t1,hd,hb,hk,hdu,hJ,hbs,hap,spC_under,spC_len,spC_pure,hx0,hxs,hcut,killT_box,under_osl,SX,normP_normal,normP_pan,List.getD_cons_zero,List.getD_cons_succ,hid]
  try rw [setT_swap _ 6 2 _ _ (by decide)]
  try rw [setT_swap _ 5 2 _ _ (by decide)]
  try rw [setT_swap _ 4 2 _ _ (by decide)]
  try rw [setT_swap _ 6 3 _ _ (by decide)]
  try rw [setT_swap _ 5 3 _ _ (by decide)]
  try rw [setT_swap _ 4 3 _ _ (by decide)]
  try rfl
theorem draw_r2_cons_bad {bx:List PBox} {id:Nat} {L:List Tk} {i o:Nat} {RL:PV} (hR:RL.pure=true) {j:Nat} (hid:id < bx.length) (hc:clB bx) (nm:List UInt8) (pr:Int) (onV:PV) (hdu:∀ n,onV.under n=true) (et:Tr) (t0:Tk) {J:List PBox} (hJ:∀ n,(J.all fun x=>x.under n)=true) (x0:PV) (xs:List PV) (hx0:∀ n,x0.under n=true) (hxs:∀ n,underL n xs=true) (hx8:xs.length<=7) {t:Nat} {c:Int} {i' o':Nat} (h:BADx 48 [] id L RL i o t c i' o') :
 drawAll CC (callL CC) (opsOf (fpart Try.f47 [])) ⟨[.bp (bx.length+2) 0,.bp bx.length 0],BX bx id (PSR L i o RL) (.cells 63 [.bp id 0] :: .cells 66 [.int .i64 (t0.1:Int),.str t0.2.1,.int .i64 (t0.2.2:Int)] :: .cells 37 (rcs nm pr onV (.osl 41 (x0 :: xs)) et) :: J)⟩=some (.pan (fltV t c),⟨[],BX bx id (PSR L i' o' RL) (.cells 63 [.bp id 0] :: .cells 66 [.int .i64 (t0.1:Int),.str t0.2.1,.int .i64 (t0.2.2:Int)] :: .cells 37 (rcs nm pr onV (.osl 41 (x0 :: xs)) et) :: J)⟩):=by
 have t1:=badx_use hid hc hR h
 have hd:∀ k,id < bx.length+k:=fun k=>by omega
 have hb:=apS _ bytesS
 obtain ⟨k,n,m,s,v,q,kids⟩:=et
 have hk:∀ n,underL n (trVs kids)=true:=fun z=>underL_of_pure z _ (trVs_pure kids)
 have htp:([63]:List TypeId).toArray.toList.any (ptrT CC)=true:=by kernel_rfl
 have hcut:=fun co t1 e=>cut_pan (co:=co) (k:=48) (vs:=[.bp id 0]) (bx:=bx) (id:=id) (P:=PSR L i o RL) (P':=PSR L i' o' RL) (v:=fltV t c) #[63] (.cells 63 [.bp id 0]) (.cells 66 [.int .i64 (t0.1:Int),.str t0.2.1,.int .i64 (t0.2.2:Int)]) (.cells 37 (rcs nm pr onV (.osl 41 (x0 :: xs)) (.mk k n m s v q kids)) :: J) 3 14 (some 5) e htp rfl (by simp only [SU,SX,hd,decide_true]) hc (PSR_under L i o hR) (PSR_under L i' o' hR) (by simp only [SU,SX,hd,decide_true]) (fltV_under (bx.length+2) t c) t1
 refine drawAll_iff.2 ⟨by rw [ord_r2];simp,fun l hl=>?_⟩
 rw [ord_r2] at hl
 have pbp:pureL [PV.bp id 0]=false:=rfl
 unfold rcs PSR at⊢hcut
 skip
 obtain ⟨dr,ev,eo,so,co,⟨hev,hco,heo,hdr⟩,R⟩:=RULESB CC
 rw [<- heo]
 rw [<- hco] at t1
 replace hcut:=fun e=>hcut co (t1 [.cells 63 [.bp id 0],.cells 66 [.int .i64 (t0.1:Int),.str t0.2.1,.int .i64 (t0.2.2:Int)]] (by simp only [SU,SX,hd,decide_true,List.length_cons,List.length_nil])) e
 simp only [List.mem_cons,List.not_mem_nil,or_false] at hl
 rcases hl with rfl | rfl | rfl | rfl | rfl | rfl | rfl | rfl | rfl | rfl
 all_goals
  simp only [opsOf,fpart,part',Try.f47,Option.getD,pickOps,List.filterMap_cons,List.filterMap_nil,List.getElem?_toArray,List.getElem?_cons_succ,List.getElem?_cons_zero]
  simp only [S9,R,seval,PY,PZ,pbp,dynR,t1,hd,hb,hk,hdu,hJ,hx0,hxs,hcut,killT_box,under_osl,SX,normP_normal,normP_pan,List.getD_cons_zero,List.getD_cons_succ,hid]
end Go.HH
namespace Go.HH
open Go Go.Proofs
set_option maxRecDepth 100000
set_option maxHeartbeats 4000000
set_option linter.unusedSimpArgs false
set_option linter.unusedVariables false
theorem rcs_under (n:Nat) (nm:List UInt8) (pr:Int) (on dos:PV) (e:Tr) (h1:on.under n=true) (h2:dos.under n=true):underL n (rcs nm pr on dos e)=true:=by
 obtain ⟨k,x,m,s,v,q,kids⟩:=e
 unfold rcs
 have hk:underL n (trVs kids)=true:=underL_of_pure n _ (trVs_pure kids)
 simp only [SU,h1,h2,hk,Bool.and_self]
theorem op_r1_ok {bx:List PBox} {id:Nat} {L:List Tk} {i o:Nat} {RL:PV} (hR:RL.pure=true) (j:Nat) (hid:id < bx.length) (hc:clB bx) (nm:List UInt8) (pr:Int) (dosV:PV) (hdu:∀ n,dosV.under n=true) (et:Tr) (t0:Tk) {J:List PBox} (hJ:∀ n,(J.all fun x=>x.under n)=true) (l:List Tg) (hl:l.length<=7) (a:Tg) (h:OKc 46 [] id L RL i o (tgV a) j o) :
 callOp CC (callL CC) 45 [.bp (bx.length+2) 0,.bp bx.length 0] (BX bx id (PSR L i o RL) (.cells 63 [.bp id 0] :: .cells 66 [.int .i64 (t0.1:Int),.str t0.2.1,.int .i64 (t0.2.2:Int)] :: .cells 37 (rcs nm pr (lsV 59 (l.map tgV)) dosV et) :: J))=some (.ret (.tup []),BX bx id (PSR L j o RL) (.cells 63 [.bp id 0] :: .cells 66 [.int .i64 (t0.1:Int),.str t0.2.1,.int .i64 (t0.2.2:Int)] :: .cells 37 (rcs nm pr (lsV 59 ((l++[a]).map tgV)) dosV et) :: J)):=by
 have pbp:pureL [PV.bp id 0]=false:=rfl
 have hd:∀ k,id < bx.length+k:=fun k=>by omega
 refine op_BXy rfl rfl hc (PSR_under L _ _ hR) ?_ (by simp [CR.under,PV.under,underL]) ?_
 · have hru:∀ n,underL n (rcs nm pr (lsV 59 ((l++[a]).map tgV)) dosV et)=true:=fun n=>rcs_under n nm pr _ _ et (lsV_under _ _ _ (map_under tgV tgV_under _ _)) (hdu _)
   simp only [SU,SX,hd,hru,hJ,decide_true,List.length_cons,List.length_nil,Bool.and_self]
 cases l with
 | nil=>
  have hdw:=draw_r1_nil_ok (j:=j) hR hid hc nm pr dosV hdu et t0 hJ a h
  simp only [List.map_nil,List.map_cons,List.nil_append,lsV]
  skip
  rw [callL_enterB (fn:=Try.f45) (c:=Try.f45.body.getD .skip) rfl rfl fatB_parse_parser_rule_1 rfl noB_parse_parser_rule_1 okB_parse_parser_rule_1 (Nat.le_of_ble_eq_true rfl)]
  simp only [<- drawM_all no_r1] at hdw
  obtain ⟨dr,ev,eo,so,co,⟨hev,hco,heo,hdr⟩,R⟩:=RULESB CC
  rw [<- hev]
  rw [<- hdr] at hdw
  simp only [opsOf,fpart,part',Try.f45,Option.getD] at⊢hdw
  simp only [S9,R,seval,PY,PZ,pbp,dynR,hdw,SX,hid]
 | cons x r=>
  have hdw:=draw_r1_cons_ok (j:=j) hR hid hc nm pr dosV hdu et t0 hJ (tgV x) (r.map tgV) (fun n=>tgV_under n x) (fun n=>map_under tgV tgV_under n r) (by rw [List.length_map];simp only [List.length_cons] at hl;omega) a h
  simp only [List.map_cons,List.map_append,List.cons_append,List.map_nil,lsV]
  rw [callL_enterB (fn:=Try.f45) (c:=Try.f45.body.getD .skip) rfl rfl fatB_parse_parser_rule_1 rfl noB_parse_parser_rule_1 okB_parse_parser_rule_1 (Nat.le_of_ble_eq_true rfl)]
  simp only [<- drawM_all no_r1] at hdw
  obtain ⟨dr,ev,eo,so,co,⟨hev,hco,heo,hdr⟩,R⟩:=RULESB CC
  rw [<- hev]
  rw [<- hdr] at hdw
  simp only [opsOf,fpart,part',Try.f45,Option.getD] at⊢hdw
  simp only [S9,R,seval,PY,PZ,pbp,dynR,hdw,SX,hid]
theorem op_r1_bad {bx:List PBox} {id:Nat} {L:List Tk} {i o:Nat} {RL:PV} (hR:RL.pure=true) (j:Nat) (hid:id < bx.length) (hc:clB bx) (nm:List UInt8) (pr:Int) (dosV:PV) (hdu:∀ n,dosV.under n=true) (et:Tr) (t0:Tk) {J:List PBox} (hJ:∀ n,(J.all fun x=>x.under n)=true) (l:List Tg) (hl:l.length<=7) {t:Nat} {c:Int} {i' o':Nat} (h:BADx 46 [] id L RL i o t c i' o') :
 callOp CC (callL CC) 45 [.bp (bx.length+2) 0,.bp bx.length 0] (BX bx id (PSR L i o RL) (.cells 63 [.bp id 0] :: .cells 66 [.int .i64 (t0.1:Int),.str t0.2.1,.int .i64 (t0.2.2:Int)] :: .cells 37 (rcs nm pr (lsV 59 (l.map tgV)) dosV et) :: J))=some (.pan (fltV t c),BX bx id (PSR L i' o' RL) (.cells 63 [.bp id 0] :: .cells 66 [.int .i64 (t0.1:Int),.str t0.2.1,.int .i64 (t0.2.2:Int)] :: .cells 37 (rcs nm pr (lsV 59 (l.map tgV)) dosV et) :: J)):=by
 have pbp:pureL [PV.bp id 0]=false:=rfl
 have hd:∀ k,id < bx.length+k:=fun k=>by omega
 refine op_BXy rfl rfl hc (PSR_under L _ _ hR) ?_ (fltV_under _ _ _) ?_
 · have hru:∀ n,underL n (rcs nm pr (lsV 59 (l.map tgV)) dosV et)=true:=fun n=>rcs_under n nm pr _ _ et (lsV_under _ _ _ (map_under tgV tgV_under _ _)) (hdu _)
   simp only [SU,SX,hd,hru,hJ,decide_true,List.length_cons,List.length_nil,Bool.and_self]
 cases l with
 | nil=>
  have hdw:=draw_r1_nil_bad (j:=j) hR hid hc nm pr dosV hdu et t0 hJ  h
  simp only [List.map_nil,List.map_cons,List.nil_append,lsV]
  skip
  rw [callL_enterB (fn:=Try.f45) (c:=Try.f45.body.getD .skip) rfl rfl fatB_parse_parser_rule_1 rfl noB_parse_parser_rule_1 okB_parse_parser_rule_1 (Nat.le_of_ble_eq_true rfl)]
  simp only [<- drawM_all no_r1] at hdw
  obtain ⟨dr,ev,eo,so,co,⟨hev,hco,heo,hdr⟩,R⟩:=RULESB CC
  rw [<- hev]
  rw [<- hdr] at hdw
  simp only [opsOf,fpart,part',Try.f45,Option.getD] at⊢hdw
  simp only [S9,R,seval,PY,PZ,pbp,dynR,hdw,SX,hid]
 | cons x r=>
  have hdw:=draw_r1_cons_bad (j:=j) hR hid hc nm pr dosV hdu et t0 hJ (tgV x) (r.map tgV) (fun n=>tgV_under n x) (fun n=>map_under tgV tgV_under n r) (by rw [List.length_map];simp only [List.length_cons] at hl;omega)  h
  simp only [List.map_cons,List.map_append,List.cons_append,List.map_nil,lsV]
  rw [callL_enterB (fn:=Try.f45) (c:=Try.f45.body.getD .skip) rfl rfl fatB_parse_parser_rule_1 rfl noB_parse_parser_rule_1 okB_parse_parser_rule_1 (Nat.le_of_ble_eq_true rfl)]
  simp only [<- drawM_all no_r1] at hdw
  obtain ⟨dr,ev,eo,so,co,⟨hev,hco,heo,hdr⟩,R⟩:=RULESB CC
  rw [<- hev]
  rw [<- hdr] at hdw
  simp only [opsOf,fpart,part',Try.f45,Option.getD] at⊢hdw
  simp only [S9,R,seval,PY,PZ,pbp,dynR,hdw,SX,hid]
theorem op_r2_ok {bx:List PBox} {id:Nat} {L:List Tk} {i o:Nat} {RL:PV} (hR:RL.pure=true) (j:Nat) (hid:id < bx.length) (hc:clB bx) (nm:List UInt8) (pr:Int) (onV:PV) (hdu:∀ n,onV.under n=true) (et:Tr) (t0:Tk) {J:List PBox} (hJ:∀ n,(J.all fun x=>x.under n)=true) (l:List Sp) (hl:l.length<=7) (a:Sp) (h:OKc 48 [] id L RL i o (spV a) j o) :
 callOp CC (callL CC) 47 [.bp (bx.length+2) 0,.bp bx.length 0] (BX bx id (PSR L i o RL) (.cells 63 [.bp id 0] :: .cells 66 [.int .i64 (t0.1:Int),.str t0.2.1,.int .i64 (t0.2.2:Int)] :: .cells 37 (rcs nm pr onV (lsV 41 (l.map spV)) et) :: J))=some (.ret (.tup []),BX bx id (PSR L j o RL) (.cells 63 [.bp id 0] :: .cells 66 [.int .i64 (t0.1:Int),.str t0.2.1,.int .i64 (t0.2.2:Int)] :: .cells 37 (rcs nm pr onV (lsV 41 ((l++[a]).map spV)) et) :: J)):=by
 have pbp:pureL [PV.bp id 0]=false:=rfl
 have hd:∀ k,id < bx.length+k:=fun k=>by omega
 refine op_BXy rfl rfl hc (PSR_under L _ _ hR) ?_ (by simp [CR.under,PV.under,underL]) ?_
 · have hru:∀ n,underL n (rcs nm pr onV (lsV 41 ((l++[a]).map spV)) et)=true:=fun n=>rcs_under n nm pr _ _ et (hdu _) (lsV_under _ _ _ (map_under spV spV_under _ _))
   simp only [SU,SX,hd,hru,hJ,decide_true,List.length_cons,List.length_nil,Bool.and_self]
 cases l with
 | nil=>
  have hdw:=draw_r2_nil_ok (j:=j) hR hid hc nm pr onV hdu et t0 hJ a h
  simp only [List.map_nil,List.map_cons,List.nil_append,lsV]
  skip
  rw [callL_enterB (fn:=Try.f47) (c:=Try.f47.body.getD .skip) rfl rfl fatB_parse_parser_rule_2 rfl noB_parse_parser_rule_2 okB_parse_parser_rule_2 (Nat.le_of_ble_eq_true rfl)]
  simp only [<- drawM_all no_r2] at hdw
  obtain ⟨dr,ev,eo,so,co,⟨hev,hco,heo,hdr⟩,R⟩:=RULESB CC
  rw [<- hev]
  rw [<- hdr] at hdw
  simp only [opsOf,fpart,part',Try.f47,Option.getD] at⊢hdw
  simp only [S9,R,seval,PY,PZ,pbp,dynR,hdw,SX,hid]
  try rfl
 | cons x r=>
  have hdw:=draw_r2_cons_ok (j:=j) hR hid hc nm pr onV hdu et t0 hJ (spV x) (r.map spV) (fun n=>spV_under n x) (fun n=>map_under spV spV_under n r) (by rw [List.length_map];simp only [List.length_cons] at hl;omega) a h
  simp only [List.map_cons,List.map_append,List.cons_append,List.map_nil,lsV]
  rw [callL_enterB (fn:=Try.f47) (c:=Try.f47.body.getD .skip) rfl rfl fatB_parse_parser_rule_2 rfl noB_parse_parser_rule_2 okB_parse_parser_rule_2 (Nat.le_of_ble_eq_true rfl)]
  simp only [<- drawM_all no_r2] at hdw
  obtain ⟨dr,ev,eo,so,co,⟨hev,hco,heo,hdr⟩,R⟩:=RULESB CC
  rw [<- hev]
  rw [<- hdr] at hdw
  simp only [opsOf,fpart,part',Try.f47,Option.getD] at⊢hdw
  simp only [S9,R,seval,PY,PZ,pbp,dynR,hdw,SX,hid]
  try rfl
theorem op_r2_bad {bx:List PBox} {id:Nat} {L:List Tk} {i o:Nat} {RL:PV} (hR:RL.pure=true) (j:Nat) (hid:id < bx.length) (hc:clB bx) (nm:List UInt8) (pr:Int) (onV:PV) (hdu:∀ n,onV.under n=true) (et:Tr) (t0:Tk) {J:List PBox} (hJ:∀ n,(J.all fun x=>x.under n)=true) (l:List Sp) (hl:l.length<=7) {t:Nat} {c:Int} {i' o':Nat} (h:BADx 48 [] id L RL i o t c i' o') :
 callOp CC (callL CC) 47 [.bp (bx.length+2) 0,.bp bx.length 0] (BX bx id (PSR L i o RL) (.cells 63 [.bp id 0] :: .cells 66 [.int .i64 (t0.1:Int),.str t0.2.1,.int .i64 (t0.2.2:Int)] :: .cells 37 (rcs nm pr onV (lsV 41 (l.map spV)) et) :: J))=some (.pan (fltV t c),BX bx id (PSR L i' o' RL) (.cells 63 [.bp id 0] :: .cells 66 [.int .i64 (t0.1:Int),.str t0.2.1,.int .i64 (t0.2.2:Int)] :: .cells 37 (rcs nm pr onV (lsV 41 (l.map spV)) et) :: J)):=by
 have pbp:pureL [PV.bp id 0]=false:=rfl
 have hd:∀ k,id < bx.length+k:=fun k=>by omega
 refine op_BXy rfl rfl hc (PSR_under L _ _ hR) ?_ (fltV_under _ _ _) ?_
 · have hru:∀ n,underL n (rcs nm pr onV (lsV 41 (l.map spV)) et)=true:=fun n=>rcs_under n nm pr _ _ et (hdu _) (lsV_under _ _ _ (map_under spV spV_under _ _))
   simp only [SU,SX,hd,hru,hJ,decide_true,List.length_cons,List.length_nil,Bool.and_self]
 cases l with
 | nil=>
  have hdw:=draw_r2_nil_bad (j:=j) hR hid hc nm pr onV hdu et t0 hJ  h
  simp only [List.map_nil,List.map_cons,List.nil_append,lsV]
  skip
  rw [callL_enterB (fn:=Try.f47) (c:=Try.f47.body.getD .skip) rfl rfl fatB_parse_parser_rule_2 rfl noB_parse_parser_rule_2 okB_parse_parser_rule_2 (Nat.le_of_ble_eq_true rfl)]
  simp only [<- drawM_all no_r2] at hdw
  obtain ⟨dr,ev,eo,so,co,⟨hev,hco,heo,hdr⟩,R⟩:=RULESB CC
  rw [<- hev]
  rw [<- hdr] at hdw
  simp only [opsOf,fpart,part',Try.f47,Option.getD] at⊢hdw
  simp only [S9,R,seval,PY,PZ,pbp,dynR,hdw,SX,hid]
  try rfl
 | cons x r=>
  have hdw:=draw_r2_cons_bad (j:=j) hR hid hc nm pr onV hdu et t0 hJ (spV x) (r.map spV) (fun n=>spV_under n x) (fun n=>map_under spV spV_under n r) (by rw [List.length_map];simp only [List.length_cons] at hl;omega)  h
  simp only [List.map_cons,List.map_append,List.cons_append,List.map_nil,lsV]
  rw [callL_enterB (fn:=Try.f47) (c:=Try.f47.body.getD .skip) rfl rfl fatB_parse_parser_rule_2 rfl noB_parse_parser_rule_2 okB_parse_parser_rule_2 (Nat.le_of_ble_eq_true rfl)]
  simp only [<- drawM_all no_r2] at hdw
  obtain ⟨dr,ev,eo,so,co,⟨hev,hco,heo,hdr⟩,R⟩:=RULESB CC
  rw [<- hev]
  rw [<- hdr] at hdw
  simp only [opsOf,fpart,part',Try.f47,Option.getD] at⊢hdw
  simp only [S9,R,seval,PY,PZ,pbp,dynR,hdw,SX,hid]
  try rfl
end Go.HH
namespace Go.HH
open Go Go.Proofs
set_option maxRecDepth 100000
set_option maxHeartbeats 4000000
set_option linter.unusedSimpArgs false
set_option linter.unusedVariables false
theorem ok_parse_parser_several:fnOK CC Try.f44 (Try.f44.body.getD .skip)=true:=by kernel_rfl
theorem fat_parse_parser_several:CC.P.funcs[44]?=some Try.f44:=by kernel_rfl
def PARTc {α:Type} (F:FuncId) (part:Nat->PR α) (id:Nat) (L:List Tk) (RL:PV) (o:Nat) (t0:Tk) (J:List PBox) (RBX:List α->PBox):Prop:=∀ i,i < L.length->∀ acc:List α,acc.length<=7->match part i with
 | .ok a j=>∀ (bx:List PBox) (hid:id < bx.length) (hc:clB bx),callOp CC (callL CC) F [.bp (bx.length+2) 0,.bp bx.length 0] (BX bx id (PSR L i o RL) (.cells 63 [.bp id 0] :: .cells 66 [.int .i64 (t0.1:Int),.str t0.2.1,.int .i64 (t0.2.2:Int)] :: RBX acc :: J))=some (.ret (.tup []),(BX bx id (PSR L j o RL) (.cells 63 [.bp id 0] :: .cells 66 [.int .i64 (t0.1:Int),.str t0.2.1,.int .i64 (t0.2.2:Int)] :: RBX (acc++[a]) :: J)))
 | .bad t c=>∃ i' o',∀ (bx:List PBox) (hid:id < bx.length) (hc:clB bx),callOp CC (callL CC) F [.bp (bx.length+2) 0,.bp bx.length 0] (BX bx id (PSR L i o RL) (.cells 63 [.bp id 0] :: .cells 66 [.int .i64 (t0.1:Int),.str t0.2.1,.int .i64 (t0.2.2:Int)] :: RBX acc :: J))=some (.pan (fltV t c),(BX bx id (PSR L i' o' RL) (.cells 63 [.bp id 0] :: .cells 66 [.int .i64 (t0.1:Int),.str t0.2.1,.int .i64 (t0.2.2:Int)] :: RBX acc :: J)))
 | .out=>True
def SEVl {α:Type} (Lc:Code) (F:FuncId) (w:List UInt8) (id:Nat) (L:List Tk) (RL:PV) (o:Nat) (t0:Tk) (J:List PBox) (RBX:List α->PBox) (i:Nat) (acc:List α) (r:PR (List α)):Prop:=match r with
 | .ok l j=>∀ (bx:List PBox) (hid:id < bx.length) (hc:clB bx) (e:List PV),getT e 0=.bp id 0->getT e 1=.str w->getT e 2=.fn F [] [.bp (bx.length+2) 0,.bp bx.length 0]->getT e 6=.int .i64 (acc.length:Int)->∃ e',evL CC Lc ⟨e,(BX bx id (PSR L i o RL) (.cells 63 [.bp id 0] :: .cells 66 [.int .i64 (t0.1:Int),.str t0.2.1,.int .i64 (t0.2.2:Int)] :: RBX acc :: J))⟩=some (.exit 0,⟨e',(BX bx id (PSR L j o RL) (.cells 63 [.bp id 0] :: .cells 66 [.int .i64 (t0.1:Int),.str t0.2.1,.int .i64 (t0.2.2:Int)] :: RBX l :: J))⟩)
 | .bad t c=>∃ i' o',∀ (bx:List PBox) (hid:id < bx.length) (hc:clB bx) (e:List PV),getT e 0=.bp id 0->getT e 1=.str w->getT e 2=.fn F [] [.bp (bx.length+2) 0,.bp bx.length 0]->getT e 6=.int .i64 (acc.length:Int)->∃ e' acc',evL CC Lc ⟨e,(BX bx id (PSR L i o RL) (.cells 63 [.bp id 0] :: .cells 66 [.int .i64 (t0.1:Int),.str t0.2.1,.int .i64 (t0.2.2:Int)] :: RBX acc :: J))⟩=some (.pan (fltV t c),⟨e',(BX bx id (PSR L i' o' RL) (.cells 63 [.bp id 0] :: .cells 66 [.int .i64 (t0.1:Int),.str t0.2.1,.int .i64 (t0.2.2:Int)] :: RBX acc' :: J))⟩)
 | .out=>True
theorem sevl_out {α:Type} {Lc:Code} {F:FuncId} {w:List UInt8} {id:Nat} {L:List Tk} {RL:PV} {o:Nat} {t0:Tk} {J:List PBox} {RBX:List α->PBox} {i:Nat} {acc:List α}:SEVl Lc F w id L RL o t0 J RBX i acc .out:=trivial
theorem loop_several {α:Type} (Lc:Code) (hL:Lc=fpart Try.f44 [1,0]) {F:FuncId} {wd:List UInt8} {id:Nat} {L:List Tk} {RL:PV} {o:Nat} {t0:Tk} {J:List PBox} {RBX:List α->PBox} {part:Nat->PR α} (hR:RL.pure=true) (hT:TokOK L) (hJ:∀ n,(J.all fun x=>x.under n)=true) (hrb:∀ n acc,(RBX acc).under n=true) (hlt:∀ i a j,i < L.length->part i=.ok a j->j < L.length) (hp:PARTc F part id L RL o t0 J RBX):∀ (m i:Nat) (acc:List α),i < L.length->acc.length<=8->SEVl Lc F wd id L RL o t0 J RBX i acc (severalP L wd part m acc i):=by
 have pbp:pureL [PV.bp id 0]=false:=rfl
 intro m
 induction m with
 | zero=>intro i acc _ _;exact sevl_out
 | succ m ih=>
  intro i acc hi hl8
  rw [severalP]
  have hw:IntKind.wrap .i64 ((acc.length:Int)+1)=((acc.length+1:Nat):Int):=by rw [wrap_i64 ⟨by omega,by omega⟩];omega
  by_cases hz:acc.length=0
  · rw [if_pos (Or.inl hz),if_neg (by omega)]
    have h0:(((acc.length:Nat):Int) == 0)=true:=by rw [hz];rfl
    have h8:(((acc.length:Nat):Int) == 8)=false:=by rw [hz];rfl
    have h1:=ans_must (id:=id) (o:=o) (i:=i) hR hi hT 1 1 rfl wd
    cases r1:mustP L 1 wd i with
    | out=>exact sevl_out
    | bad t c=>
     rw [r1] at h1
     obtain ⟨i',o',h1⟩:=h1
     refine ⟨i',o',fun bx hid hc e g0 g1 g2 g6=>?_⟩
     have hd:∀ k,id < bx.length+k:=fun k=>by omega
     have pbp2:pureL [PV.bp (bx.length+2) 0,PV.bp bx.length 0]=false:=rfl
     have t1:=badx_use hid hc hR h1
     rw [evL_at (fpart Try.f44 [1,0,0]) hL]
     unfold PSR
     obtain ⟨ev,eo,so,co,⟨hev,hco⟩,R⟩:=RULES CC;rw [<- hev]
     rw [<- hco] at t1
     simp only [fpart,part',Try.f44,Option.getD]
     simp only [S9,R,seval,PY,PZ,pbp,dynR,g0,g1,g2,g6,hd,hrb,hJ,pbp2,h0,h8,t1,SX,hid]
     exact ⟨_,_,rfl⟩
    | ok u i1=>
     rw [r1] at h1
     dsimp only [bind_okk]
     have hi1:=(mustP_lt hT hi (by decide) r1).2
     have h2:=hp i1 hi1 acc (by omega)
     cases r2:part i1 with
     | out=>exact sevl_out
     | bad t c=>
      rw [r2] at h2
      obtain ⟨i',o',h2⟩:=h2
      refine ⟨i',o',fun bx hid hc e g0 g1 g2 g6=>?_⟩
      have hd:∀ k,id < bx.length+k:=fun k=>by omega
      have pbp2:pureL [PV.bp (bx.length+2) 0,PV.bp bx.length 0]=false:=rfl
      have t1:=okc_use hid hc hR h1
      have t2:=h2 bx hid hc
      unfold PSR at t2
      rw [evL_at (fpart Try.f44 [1,0,0]) hL]
      unfold PSR
      obtain ⟨ev,eo,so,co,⟨hev,hco⟩,R⟩:=RULES CC;rw [<- hev]
      rw [<- hco] at t1 t2
      simp only [fpart,part',Try.f44,Option.getD]
      simp only [S9,R,seval,PY,PZ,pbp,dynR,g0,g1,g2,g6,hd,hrb,hJ,pbp2,h0,h8,t1,t2,SX,hid]
      exact ⟨_,_,rfl⟩
     | ok a i2=>
      rw [r2] at h2
      dsimp only [bind_okk]
      have hi2:=hlt i1 a i2 hi1 r2
      have h3:=ans_must (id:=id) (o:=o) (i:=i2) hR hi2 hT 4 4 rfl [59]
      cases r3:mustP L 4 [59] i2 with
      | out=>exact sevl_out
      | bad t c=>
       rw [r3] at h3
       obtain ⟨i',o',h3⟩:=h3
       refine ⟨i',o',fun bx hid hc e g0 g1 g2 g6=>?_⟩
       have hd:∀ k,id < bx.length+k:=fun k=>by omega
       have pbp2:pureL [PV.bp (bx.length+2) 0,PV.bp bx.length 0]=false:=rfl
       have t1:=okc_use hid hc hR h1
       have t2:=h2 bx hid hc
       unfold PSR at t2
       have t3:=badx_use hid hc hR h3
       rw [evL_at (fpart Try.f44 [1,0,0]) hL]
       unfold PSR
       obtain ⟨ev,eo,so,co,⟨hev,hco⟩,R⟩:=RULES CC;rw [<- hev]
       rw [<- hco] at t1 t2 t3
       simp only [fpart,part',Try.f44,Option.getD]
       simp only [S9,R,seval,PY,PZ,pbp,dynR,g0,g1,g2,g6,hd,hrb,hJ,pbp2,h0,h8,t1,t2,t3,SX,hid]
       exact ⟨_,_,rfl⟩
      | ok u3 i3=>
       rw [r3] at h3
       dsimp only [bind_okk]
       have hi3:=(mustP_lt hT hi2 (by decide) r3).2
       have key:=ih i3 (acc++[a]) hi3 (by rw [List.length_append];simp only [List.length_cons,List.length_nil];omega)
       have hla:(acc++[a]).length=acc.length+1:=by simp
       cases r4:severalP L wd part m (acc++[a]) i3 with
       | out=>exact sevl_out
       | bad t c=>
        rw [r4] at key
        obtain ⟨i',o',key⟩:=key
        refine ⟨i',o',fun bx hid hc e g0 g1 g2 g6=>?_⟩
        have key:=key bx hid hc
        rw [hla] at key
        have hd:∀ k,id < bx.length+k:=fun k=>by omega
        have pbp2:pureL [PV.bp (bx.length+2) 0,PV.bp bx.length 0]=false:=rfl
        have t1:=okc_use hid hc hR h1
        have t2:=h2 bx hid hc
        unfold PSR at t2
        have t3:=okc_use hid hc hR h3
        rw [evL_at (fpart Try.f44 [1,0,0]) hL]
        unfold PSR at key ⊢
        obtain ⟨ev,eo,so,co,⟨hev,hco⟩,R⟩:=RULES CC;rw [<- hev]
        rw [<- hev] at key
        rw [<- hco] at t1 t2 t3
        simp only [fpart,part',Try.f44,Option.getD]
        simp only [S9,R,seval,PY,PZ,pbp,dynR,g0,g1,g2,g6,hd,hrb,hJ,pbp2,h0,h8,hw,t1,t2,t3,SX,hid]
        refine key _ ?_ ?_ ?_ ?_
        · simp only [S7,R,seval,g0]
        · simp only [S7,R,seval,g1]
        · simp only [S7,R,seval,g2]
        · simp only [S7,R,seval]
       | ok l j=>
        rw [r4] at key
        refine fun bx hid hc e g0 g1 g2 g6=>?_
        have key:=key bx hid hc
        rw [hla] at key
        have hd:∀ k,id < bx.length+k:=fun k=>by omega
        have pbp2:pureL [PV.bp (bx.length+2) 0,PV.bp bx.length 0]=false:=rfl
        have t1:=okc_use hid hc hR h1
        have t2:=h2 bx hid hc
        unfold PSR at t2
        have t3:=okc_use hid hc hR h3
        rw [evL_at (fpart Try.f44 [1,0,0]) hL]
        unfold PSR at key ⊢
        obtain ⟨ev,eo,so,co,⟨hev,hco⟩,R⟩:=RULES CC;rw [<- hev]
        rw [<- hev] at key
        rw [<- hco] at t1 t2 t3
        simp only [fpart,part',Try.f44,Option.getD]
        simp only [S9,R,seval,PY,PZ,pbp,dynR,g0,g1,g2,g6,hd,hrb,hJ,pbp2,h0,h8,hw,t1,t2,t3,SX,hid]
        refine key _ ?_ ?_ ?_ ?_
        · simp only [S7,R,seval,g0]
        · simp only [S7,R,seval,g1]
        · simp only [S7,R,seval,g2]
        · simp only [S7,R,seval]
  · have h0:(((acc.length:Nat):Int) == 0)=false:=beq_eq_false_iff_ne.2 (by omega)
    cases hk:isT L 1 wd i with
    | false=>
     rw [if_neg (by simp [hz])]
     refine fun bx hid hc e g0 g1 g2 g6=>?_
     have hd:∀ k,id < bx.length+k:=fun k=>by omega
     have pbp2:pureL [PV.bp (bx.length+2) 0,PV.bp bx.length 0]=false:=rfl
     have tis:=okc_use hid hc hR (okc_is (id:=id) (o:=o) hR hi 1 1 rfl wd)
     rw [hk] at tis
     rw [evL_at (fpart Try.f44 [1,0,0]) hL]
     unfold PSR
     obtain ⟨ev,eo,so,co,⟨hev,hco⟩,R⟩:=RULES CC;rw [<- hev]
     rw [<- hco] at tis
     simp only [fpart,part',Try.f44,Option.getD]
     simp only [S9,R,seval,PY,PZ,pbp,dynR,g0,g1,g2,g6,hd,hrb,hJ,pbp2,h0,tis,SX,hid]
     exact ⟨_,rfl⟩
    | true=>
     rw [if_pos (Or.inr rfl)]
     by_cases h8n:acc.length=8
     · rw [if_pos h8n]
       have h8:(((acc.length:Nat):Int) == 8)=true:=by rw [h8n];rfl
       refine ⟨i,o,fun bx hid hc e g0 g1 g2 g6=>?_⟩
       have hd:∀ k,id < bx.length+k:=fun k=>by omega
       have pbp2:pureL [PV.bp (bx.length+2) 0,PV.bp bx.length 0]=false:=rfl
       have tis:=okc_use hid hc hR (okc_is (id:=id) (o:=o) hR hi 1 1 rfl wd)
       rw [hk] at tis
       have t2:=okc_use hid hc hR (okc_token (id:=id) (o:=o) hR hi)
       have t3:=badx_use hid hc hR (badx_fail (id:=id) (i:=i) (o:=o) (L:=L) (RL:=RL) hR (tokAt L i).1 (tokAt L i).2.1 (tokAt L i).2.2 3)
       unfold atT
       rw [evL_at (fpart Try.f44 [1,0,0]) hL]
       unfold PSR
       obtain ⟨ev,eo,so,co,⟨hev,hco⟩,R⟩:=RULES CC;rw [<- hev]
       rw [<- hco] at tis t2 t3
       simp only [fpart,part',Try.f44,Option.getD]
       simp only [S9,R,seval,PY,PZ,pbp,dynR,g0,g1,g2,g6,hd,hrb,hJ,pbp2,h0,tis,h8,t2,t3,SX,hid]
       exact ⟨_,_,rfl⟩
     · rw [if_neg h8n]
       have h8:(((acc.length:Nat):Int) == 8)=false:=beq_eq_false_iff_ne.2 (by omega)
       have h1:=ans_must (id:=id) (o:=o) (i:=i) hR hi hT 1 1 rfl wd
       cases r1:mustP L 1 wd i with
       | out=>exact sevl_out
       | bad t c=>
        rw [r1] at h1
        obtain ⟨i',o',h1⟩:=h1
        refine ⟨i',o',fun bx hid hc e g0 g1 g2 g6=>?_⟩
        have hd:∀ k,id < bx.length+k:=fun k=>by omega
        have pbp2:pureL [PV.bp (bx.length+2) 0,PV.bp bx.length 0]=false:=rfl
        have tis:=okc_use hid hc hR (okc_is (id:=id) (o:=o) hR hi 1 1 rfl wd)
        rw [hk] at tis
        have t1:=badx_use hid hc hR h1
        rw [evL_at (fpart Try.f44 [1,0,0]) hL]
        unfold PSR
        obtain ⟨ev,eo,so,co,⟨hev,hco⟩,R⟩:=RULES CC;rw [<- hev]
        rw [<- hco] at tis t1
        simp only [fpart,part',Try.f44,Option.getD]
        simp only [S9,R,seval,PY,PZ,pbp,dynR,g0,g1,g2,g6,hd,hrb,hJ,pbp2,h0,tis,h8,t1,SX,hid]
        exact ⟨_,_,rfl⟩
       | ok u i1=>
        rw [r1] at h1
        dsimp only [bind_okk]
        have hi1:=(mustP_lt hT hi (by decide) r1).2
        have h2:=hp i1 hi1 acc (by omega)
        cases r2:part i1 with
        | out=>exact sevl_out
        | bad t c=>
         rw [r2] at h2
         obtain ⟨i',o',h2⟩:=h2
         refine ⟨i',o',fun bx hid hc e g0 g1 g2 g6=>?_⟩
         have hd:∀ k,id < bx.length+k:=fun k=>by omega
         have pbp2:pureL [PV.bp (bx.length+2) 0,PV.bp bx.length 0]=false:=rfl
         have tis:=okc_use hid hc hR (okc_is (id:=id) (o:=o) hR hi 1 1 rfl wd)
         rw [hk] at tis
         have t1:=okc_use hid hc hR h1
         have t2:=h2 bx hid hc
         unfold PSR at t2
         rw [evL_at (fpart Try.f44 [1,0,0]) hL]
         unfold PSR
         obtain ⟨ev,eo,so,co,⟨hev,hco⟩,R⟩:=RULES CC;rw [<- hev]
         rw [<- hco] at tis t1 t2
         simp only [fpart,part',Try.f44,Option.getD]
         simp only [S9,R,seval,PY,PZ,pbp,dynR,g0,g1,g2,g6,hd,hrb,hJ,pbp2,h0,tis,h8,t1,t2,SX,hid]
         exact ⟨_,_,rfl⟩
        | ok a i2=>
         rw [r2] at h2
         dsimp only [bind_okk]
         have hi2:=hlt i1 a i2 hi1 r2
         have h3:=ans_must (id:=id) (o:=o) (i:=i2) hR hi2 hT 4 4 rfl [59]
         cases r3:mustP L 4 [59] i2 with
         | out=>exact sevl_out
         | bad t c=>
          rw [r3] at h3
          obtain ⟨i',o',h3⟩:=h3
          refine ⟨i',o',fun bx hid hc e g0 g1 g2 g6=>?_⟩
          have hd:∀ k,id < bx.length+k:=fun k=>by omega
          have pbp2:pureL [PV.bp (bx.length+2) 0,PV.bp bx.length 0]=false:=rfl
          have tis:=okc_use hid hc hR (okc_is (id:=id) (o:=o) hR hi 1 1 rfl wd)
          rw [hk] at tis
          have t1:=okc_use hid hc hR h1
          have t2:=h2 bx hid hc
          unfold PSR at t2
          have t3:=badx_use hid hc hR h3
          rw [evL_at (fpart Try.f44 [1,0,0]) hL]
          unfold PSR
          obtain ⟨ev,eo,so,co,⟨hev,hco⟩,R⟩:=RULES CC;rw [<- hev]
          rw [<- hco] at tis t1 t2 t3
          simp only [fpart,part',Try.f44,Option.getD]
          simp only [S9,R,seval,PY,PZ,pbp,dynR,g0,g1,g2,g6,hd,hrb,hJ,pbp2,h0,tis,h8,t1,t2,t3,SX,hid]
          exact ⟨_,_,rfl⟩
         | ok u3 i3=>
          rw [r3] at h3
          dsimp only [bind_okk]
          have hi3:=(mustP_lt hT hi2 (by decide) r3).2
          have key:=ih i3 (acc++[a]) hi3 (by rw [List.length_append];simp only [List.length_cons,List.length_nil];omega)
          have hla:(acc++[a]).length=acc.length+1:=by simp
          cases r4:severalP L wd part m (acc++[a]) i3 with
          | out=>exact sevl_out
          | bad t c=>
           rw [r4] at key
           obtain ⟨i',o',key⟩:=key
           refine ⟨i',o',fun bx hid hc e g0 g1 g2 g6=>?_⟩
           have key:=key bx hid hc
           rw [hla] at key
           have hd:∀ k,id < bx.length+k:=fun k=>by omega
           have pbp2:pureL [PV.bp (bx.length+2) 0,PV.bp bx.length 0]=false:=rfl
           have tis:=okc_use hid hc hR (okc_is (id:=id) (o:=o) hR hi 1 1 rfl wd)
           rw [hk] at tis
           have t1:=okc_use hid hc hR h1
           have t2:=h2 bx hid hc
           unfold PSR at t2
           have t3:=okc_use hid hc hR h3
           rw [evL_at (fpart Try.f44 [1,0,0]) hL]
           unfold PSR at key ⊢
           obtain ⟨ev,eo,so,co,⟨hev,hco⟩,R⟩:=RULES CC;rw [<- hev]
           rw [<- hev] at key
           rw [<- hco] at tis t1 t2 t3
           simp only [fpart,part',Try.f44,Option.getD]
           simp only [S9,R,seval,PY,PZ,pbp,dynR,g0,g1,g2,g6,hd,hrb,hJ,pbp2,h0,tis,h8,hw,t1,t2,t3,SX,hid]
           refine key _ ?_ ?_ ?_ ?_
           · simp only [S7,R,seval,g0]
           · simp only [S7,R,seval,g1]
           · simp only [S7,R,seval,g2]
           · simp only [S7,R,seval]
          | ok l j=>
           rw [r4] at key
           refine fun bx hid hc e g0 g1 g2 g6=>?_
           have key:=key bx hid hc
           rw [hla] at key
           have hd:∀ k,id < bx.length+k:=fun k=>by omega
           have pbp2:pureL [PV.bp (bx.length+2) 0,PV.bp bx.length 0]=false:=rfl
           have tis:=okc_use hid hc hR (okc_is (id:=id) (o:=o) hR hi 1 1 rfl wd)
           rw [hk] at tis
           have t1:=okc_use hid hc hR h1
           have t2:=h2 bx hid hc
           unfold PSR at t2
           have t3:=okc_use hid hc hR h3
           rw [evL_at (fpart Try.f44 [1,0,0]) hL]
           unfold PSR at key ⊢
           obtain ⟨ev,eo,so,co,⟨hev,hco⟩,R⟩:=RULES CC;rw [<- hev]
           rw [<- hev] at key
           rw [<- hco] at tis t1 t2 t3
           simp only [fpart,part',Try.f44,Option.getD]
           simp only [S9,R,seval,PY,PZ,pbp,dynR,g0,g1,g2,g6,hd,hrb,hJ,pbp2,h0,tis,h8,hw,t1,t2,t3,SX,hid]
           refine key _ ?_ ?_ ?_ ?_
           · simp only [S7,R,seval,g0]
           · simp only [S7,R,seval,g1]
           · simp only [S7,R,seval,g2]
           · simp only [S7,R,seval]
end Go.HH
namespace Go.HH
open Go Go.Proofs
set_option maxRecDepth 100000
set_option maxHeartbeats 4000000
set_option linter.unusedSimpArgs false
set_option linter.unusedVariables false
def SEVc {α:Type} (F:FuncId) (w:List UInt8) (id:Nat) (L:List Tk) (RL:PV) (o:Nat) (t0:Tk) (J:List PBox) (RBX:List α->PBox) (i:Nat) (r:PR (List α)):Prop:=match r with
 | .ok l j=>∀ (bx:List PBox) (hid:id < bx.length) (hc:clB bx),callOp CC (callL CC) 44 [.bp id 0,.str w,.fn F [] [.bp (bx.length+2) 0,.bp bx.length 0]] (BX bx id (PSR L i o RL) (.cells 63 [.bp id 0] :: .cells 66 [.int .i64 (t0.1:Int),.str t0.2.1,.int .i64 (t0.2.2:Int)] :: RBX [] :: J))=some (.ret (.tup []),(BX bx id (PSR L j o RL) (.cells 63 [.bp id 0] :: .cells 66 [.int .i64 (t0.1:Int),.str t0.2.1,.int .i64 (t0.2.2:Int)] :: RBX l :: J)))
 | .bad t c=>∃ i' o',∀ (bx:List PBox) (hid:id < bx.length) (hc:clB bx),∃ acc',callOp CC (callL CC) 44 [.bp id 0,.str w,.fn F [] [.bp (bx.length+2) 0,.bp bx.length 0]] (BX bx id (PSR L i o RL) (.cells 63 [.bp id 0] :: .cells 66 [.int .i64 (t0.1:Int),.str t0.2.1,.int .i64 (t0.2.2:Int)] :: RBX [] :: J))=some (.pan (fltV t c),(BX bx id (PSR L i' o' RL) (.cells 63 [.bp id 0] :: .cells 66 [.int .i64 (t0.1:Int),.str t0.2.1,.int .i64 (t0.2.2:Int)] :: RBX acc' :: J)))
 | .out=>True
theorem sev_call {α:Type} {F:FuncId} {wd:List UInt8} {id:Nat} {L:List Tk} {RL:PV} {o:Nat} {t0:Tk} {J:List PBox} {RBX:List α->PBox} {part:Nat->PR α} (hR:RL.pure=true) (hT:TokOK L) (hJ:∀ n,(J.all fun x=>x.under n)=true) (hrb:∀ n acc,(RBX acc).under n=true) (hlt:∀ i a j,i < L.length->part i=.ok a j->j < L.length) (hp:PARTc F part id L RL o t0 J RBX) {i:Nat} (hi:i < L.length):SEVc F wd id L RL o t0 J RBX i (severalP L wd part 10 [] i):=by
 have hloop:=loop_several _ rfl (wd:=wd) hR hT hJ hrb hlt hp 10 i [] hi (by simp)
 have pbp:pureL [PV.bp id 0]=false:=rfl
 cases r:severalP L wd part 10 [] i with
 | out=>trivial
 | bad t c=>
  rw [r] at hloop
  obtain ⟨i',o',hloop⟩:=hloop
  refine ⟨i',o',fun bx hid hc=>?_⟩
  have hloop:=hloop bx hid hc
  have hd:∀ k,id < bx.length+k:=fun k=>by omega
  have hx:∃ acc', callL CC 44 [.bp id 0,.str wd,.fn F [] [.bp (bx.length+2) 0,.bp bx.length 0]] (BX bx id (PSR L i o RL) (.cells 63 [.bp id 0] :: .cells 66 [.int .i64 (t0.1:Int),.str t0.2.1,.int .i64 (t0.2.2:Int)] :: RBX [] :: J))=some (.pan (fltV t c),(BX bx id (PSR L i' o' RL) (.cells 63 [.bp id 0] :: .cells 66 [.int .i64 (t0.1:Int),.str t0.2.1,.int .i64 (t0.2.2:Int)] :: RBX acc' :: J))):=by
   rw [callL_enter (fn:=Try.f44) (c:=Try.f44.body.getD .skip) rfl rfl fat_parse_parser_several rfl ok_parse_parser_several (Nat.le_of_ble_eq_true rfl)]
   simp only [fpart,part',Try.f44,Option.getD] at hloop ⊢
   unfold PSR at hloop ⊢
   obtain ⟨ev,eo,so,co,⟨hev,hco⟩,R⟩:=RULES CC;rw [<- hev]
   rw [<- hev] at hloop
   simp only [S9,R,seval,PY,PZ,pbp,dynR,SX,hid]
   generalize hE:ev _ _=z
   have hP:∃ e' acc',z=some (.pan (fltV t c),⟨e',(BX bx id (PSR L i' o' RL) (.cells 63 [.bp id 0] :: .cells 66 [.int .i64 (t0.1:Int),.str t0.2.1,.int .i64 (t0.2.2:Int)] :: RBX acc' :: J))⟩):=by
    rw [<- hE]
    unfold PSR
    refine hloop _ ?_ ?_ ?_ ?_
    · simp only [S7,R,seval]
    · simp only [S7,R,seval]
    · simp only [S7,R,seval]
    · simp only [S7,R,seval] <;> rfl
   obtain ⟨e',acc',he⟩:=hP
   subst he
   clear hE hloop
   unfold PSR
   simp only [S9,R,seval,PY,PZ,pbp,dynR,SX,hid]
   exact ⟨_,rfl⟩
  obtain ⟨acc',hx⟩:=hx
  refine ⟨acc',?_⟩
  refine op_BXy (by simp [pureL,PV.pure]) rfl hc (PSR_under L _ _ hR) ?_ (fltV_under _ _ _) hx
  simp only [SU,SX,hd,hrb,hJ,decide_true,List.length_cons,List.length_nil,Bool.and_self]
 | ok l j=>
  rw [r] at hloop
  refine fun bx hid hc=>?_
  have hloop:=hloop bx hid hc
  have hd:∀ k,id < bx.length+k:=fun k=>by omega
  have hx:∃ u:Unit, callL CC 44 [.bp id 0,.str wd,.fn F [] [.bp (bx.length+2) 0,.bp bx.length 0]] (BX bx id (PSR L i o RL) (.cells 63 [.bp id 0] :: .cells 66 [.int .i64 (t0.1:Int),.str t0.2.1,.int .i64 (t0.2.2:Int)] :: RBX [] :: J))=some (.ret (.tup []),(BX bx id (PSR L j o RL) (.cells 63 [.bp id 0] :: .cells 66 [.int .i64 (t0.1:Int),.str t0.2.1,.int .i64 (t0.2.2:Int)] :: RBX l :: J))):=by
   rw [callL_enter (fn:=Try.f44) (c:=Try.f44.body.getD .skip) rfl rfl fat_parse_parser_several rfl ok_parse_parser_several (Nat.le_of_ble_eq_true rfl)]
   simp only [fpart,part',Try.f44,Option.getD] at hloop ⊢
   unfold PSR at hloop ⊢
   obtain ⟨ev,eo,so,co,⟨hev,hco⟩,R⟩:=RULES CC;rw [<- hev]
   rw [<- hev] at hloop
   simp only [S9,R,seval,PY,PZ,pbp,dynR,SX,hid]
   generalize hE:ev _ _=z
   have hP:∃ e' ,z=some (.exit 0,⟨e',(BX bx id (PSR L j o RL) (.cells 63 [.bp id 0] :: .cells 66 [.int .i64 (t0.1:Int),.str t0.2.1,.int .i64 (t0.2.2:Int)] :: RBX l :: J))⟩):=by
    rw [<- hE]
    unfold PSR
    refine hloop _ ?_ ?_ ?_ ?_
    · simp only [S7,R,seval]
    · simp only [S7,R,seval]
    · simp only [S7,R,seval]
    · simp only [S7,R,seval] <;> rfl
   obtain ⟨e',he⟩:=hP
   subst he
   clear hE hloop
   unfold PSR
   simp only [S9,R,seval,PY,PZ,pbp,dynR,SX,hid]
   exact ⟨(),trivial⟩
  obtain ⟨_,hx⟩:=hx
  skip
  refine op_BXy (by simp [pureL,PV.pure]) rfl hc (PSR_under L _ _ hR) ?_ (by simp [CR.under,PV.under,underL]) hx
  simp only [SU,SX,hd,hrb,hJ,decide_true,List.length_cons,List.length_nil,Bool.and_self]
end Go.HH
namespace Go.HH
open Go Go.Proofs
set_option maxRecDepth 100000
set_option maxHeartbeats 4000000
set_option linter.unusedSimpArgs false
set_option linter.unusedVariables false
theorem okB_parse_parser_rule:fnOKB CC Try.f26 (Try.f26.body.getD .skip)=true:=by kernel_rfl
theorem noB_parse_parser_rule:fnOK CC Try.f26 (Try.f26.body.getD .skip)=false:=by kernel_rfl
theorem fatB_parse_parser_rule:CC.P.funcs[26]?=some Try.f26:=by kernel_rfl
noncomputable def IR:TypeInfo:=(Try.prog.info? 37).getD default
theorem apR (bytes:Nat) (hb:IR.bytes=bytes) (st:St) (al:List (Nat×Loc)) (s x:Operand) (d:Option Tmp):appendOn CC st al s x 23 23 d=match appendAt CC st al 37 s,elemsOf (opd CC st.env x) with
 | some (l,xs),some ys=>appK bytes 15 37 st al l xs ys d
 | _,_=>none:=appendOn_eq (i:=IR) (by kernel_rfl) (by kernel_rfl) (by kernel_rfl) (z:=(IR.zero).getD default) (by kernel_rfl) (by kernel_rfl) (by rw [show IR.size=15 from by kernel_rfl];decide) hb (by kernel_rfl)
theorem bytesR:IR.bytes=208:=by kernel_rfl
theorem bsR (nm:List UInt8) (pr:Int) (xs ys:List PV) (e:Tr):buildSliceP CC 23 1 [(0,.agg (rcs nm pr (.sl xs) (.sl ys) e))]=some (.osl 37 [.agg (rcs nm pr (.sl xs) (.sl ys) e)]):=by
 obtain ⟨k,n,m,s,v,q,kids⟩:=e
 unfold rcs
 kernel_rfl
theorem no_ra:drawOK CC (opsOf (fpart Try.f26 [1,0,1,0]))=false:=by kernel_rfl
theorem ord_ra:orders (opsOf (fpart Try.f26 [1,0,1,0]))=[[0,1,2,3],[1,0,2,3],[1,2,0,3]]:=by kernel_rfl
theorem draw_ra {bx:List PBox} {id:Nat} {L:List Tk} {i o:Nat} {RL:PV} (hR:RL.pure=true) (hid:id < bx.length) (hc:clB bx) (hi:i < L.length) (e:List PV) (g1:getT e 1=.bp bx.length 0) :
 drawAll CC (callL CC) (opsOf (fpart Try.f26 [1,0,1,0])) ⟨e,BX bx id (PSR L i o RL) [.cells 63 [.bp id 0]]⟩=some (.pan (fltV (atT L i) 3),⟨[],BX bx id (PSR L i o RL) [.cells 63 [.bp id 0]]⟩):=by
 have t0:=okc_use hid hc hR (okc_token (id:=id) (o:=o) hR hi)
 have t1:=badx_use hid hc hR (badx_fail (id:=id) (i:=i) (o:=o) (L:=L) (RL:=RL) hR (tokAt L i).1 (tokAt L i).2.1 (tokAt L i).2.2 3)
 have hd:∀ k,id < bx.length+k:=fun k=>by omega
 have pbp:pureL [PV.bp id 0]=false:=rfl
 refine drawAll_iff.2 ⟨by rw [ord_ra];simp,fun l hl=>?_⟩
 rw [ord_ra] at hl
 unfold PSR atT
 obtain ⟨dr,ev,eo,so,co,⟨hev,hco,heo,hdr⟩,R⟩:=RULESB CC
 rw [<- heo]
 rw [<- hco] at t0 t1
 simp only [List.mem_cons,List.not_mem_nil,or_false] at hl
 rcases hl with rfl | rfl | rfl
 all_goals
  simp only [opsOf,fpart,part',Try.f26,Option.getD,pickOps,List.filterMap_cons,List.filterMap_nil,List.getElem?_toArray,List.getElem?_cons_succ,List.getElem?_cons_zero]
  simp only [S9,R,seval,PY,PZ,pbp,dynR,t0,t1,g1,hd,SX,normP_normal,normP_pan,hid]
theorem no_rb:drawOK CC (opsOf (fpart Try.f26 [1,1,1,1,1,1,1,1,1,1,1,1]))=false:=by kernel_rfl
theorem ord_rb:orders (opsOf (fpart Try.f26 [1,1,1,1,1,1,1,1,1,1,1,1]))=[[0,1,2,3,4,5,6,7,8,9,10],[0,1,2,3,5,4,6,7,8,9,10],[0,1,2,3,5,6,4,7,8,9,10],[0,1,2,5,3,4,6,7,8,9,10],[0,1,2,5,3,6,4,7,8,9,10],[0,1,2,5,6,3,4,7,8,9,10],[0,1,5,2,3,4,6,7,8,9,10],[0,1,5,2,3,6,4,7,8,9,10],[0,1,5,2,6,3,4,7,8,9,10],[0,1,5,6,2,3,4,7,8,9,10],[0,5,1,2,3,4,6,7,8,9,10],[0,5,1,2,3,6,4,7,8,9,10],[0,5,1,2,6,3,4,7,8,9,10],[0,5,1,6,2,3,4,7,8,9,10],[0,5,6,1,2,3,4,7,8,9,10],[1,0,2,3,4,5,6,7,8,9,10],[1,0,2,3,5,4,6,7,8,9,10],[1,0,2,3,5,6,4,7,8,9,10],[1,0,2,5,3,4,6,7,8,9,10],[1,0,2,5,3,6,4,7,8,9,10],[1,0,2,5,6,3,4,7,8,9,10],[1,0,5,2,3,4,6,7,8,9,10],[1,0,5,2,3,6,4,7,8,9,10],[1,0,5,2,6,3,4,7,8,9,10],[1,0,5,6,2,3,4,7,8,9,10],[1,2,0,3,4,5,6,7,8,9,10],[1,2,0,3,5,4,6,7,8,9,10],[1,2,0,3,5,6,4,7,8,9,10],[1,2,0,5,3,4,6,7,8,9,10],[1,2,0,5,3,6,4,7,8,9,10],[1,2,0,5,6,3,4,7,8,9,10],[1,2,3,0,4,5,6,7,8,9,10],[1,2,3,0,5,4,6,7,8,9,10],[1,2,3,0,5,6,4,7,8,9,10],[1,2,3,4,0,5,6,7,8,9,10],[1,2,3,4,5,0,6,7,8,9,10],[1,2,3,4,5,6,0,7,8,9,10],[1,2,3,4,5,6,7,0,8,9,10],[1,2,3,5,0,4,6,7,8,9,10],[1,2,3,5,0,6,4,7,8,9,10],[1,2,3,5,4,0,6,7,8,9,10],[1,2,3,5,4,6,0,7,8,9,10],[1,2,3,5,4,6,7,0,8,9,10],[1,2,3,5,6,0,4,7,8,9,10],[1,2,3,5,6,4,0,7,8,9,10],[1,2,3,5,6,4,7,0,8,9,10],[1,2,5,0,3,4,6,7,8,9,10],[1,2,5,0,3,6,4,7,8,9,10],[1,2,5,0,6,3,4,7,8,9,10],[1,2,5,3,0,4,6,7,8,9,10],[1,2,5,3,0,6,4,7,8,9,10],[1,2,5,3,4,0,6,7,8,9,10],[1,2,5,3,4,6,0,7,8,9,10],[1,2,5,3,4,6,7,0,8,9,10],[1,2,5,3,6,0,4,7,8,9,10],[1,2,5,3,6,4,0,7,8,9,10],[1,2,5,3,6,4,7,0,8,9,10],[1,2,5,6,0,3,4,7,8,9,10],[1,2,5,6,3,0,4,7,8,9,10],[1,2,5,6,3,4,0,7,8,9,10],[1,2,5,6,3,4,7,0,8,9,10],[1,5,0,2,3,4,6,7,8,9,10],[1,5,0,2,3,6,4,7,8,9,10],[1,5,0,2,6,3,4,7,8,9,10],[1,5,0,6,2,3,4,7,8,9,10],[1,5,2,0,3,4,6,7,8,9,10],[1,5,2,0,3,6,4,7,8,9,10],[1,5,2,0,6,3,4,7,8,9,10],[1,5,2,3,0,4,6,7,8,9,10],[1,5,2,3,0,6,4,7,8,9,10],[1,5,2,3,4,0,6,7,8,9,10],[1,5,2,3,4,6,0,7,8,9,10],[1,5,2,3,4,6,7,0,8,9,10],[1,5,2,3,6,0,4,7,8,9,10],[1,5,2,3,6,4,0,7,8,9,10],[1,5,2,3,6,4,7,0,8,9,10],[1,5,2,6,0,3,4,7,8,9,10],[1,5,2,6,3,0,4,7,8,9,10],[1,5,2,6,3,4,0,7,8,9,10],[1,5,2,6,3,4,7,0,8,9,10],[1,5,6,0,2,3,4,7,8,9,10],[1,5,6,2,0,3,4,7,8,9,10],[1,5,6,2,3,0,4,7,8,9,10],[1,5,6,2,3,4,0,7,8,9,10],[1,5,6,2,3,4,7,0,8,9,10],[5,0,1,2,3,4,6,7,8,9,10],[5,0,1,2,3,6,4,7,8,9,10],[5,0,1,2,6,3,4,7,8,9,10],[5,0,1,6,2,3,4,7,8,9,10],[5,0,6,1,2,3,4,7,8,9,10],[5,1,0,2,3,4,6,7,8,9,10],[5,1,0,2,3,6,4,7,8,9,10],[5,1,0,2,6,3,4,7,8,9,10],[5,1,0,6,2,3,4,7,8,9,10],[5,1,2,0,3,4,6,7,8,9,10],[5,1,2,0,3,6,4,7,8,9,10],[5,1,2,0,6,3,4,7,8,9,10],[5,1,2,3,0,4,6,7,8,9,10],[5,1,2,3,0,6,4,7,8,9,10],[5,1,2,3,4,0,6,7,8,9,10],[5,1,2,3,4,6,0,7,8,9,10],[5,1,2,3,4,6,7,0,8,9,10],[5,1,2,3,6,0,4,7,8,9,10],[5,1,2,3,6,4,0,7,8,9,10],[5,1,2,3,6,4,7,0,8,9,10],[5,1,2,6,0,3,4,7,8,9,10],[5,1,2,6,3,0,4,7,8,9,10],[5,1,2,6,3,4,0,7,8,9,10],[5,1,2,6,3,4,7,0,8,9,10],[5,1,6,0,2,3,4,7,8,9,10],[5,1,6,2,0,3,4,7,8,9,10],[5,1,6,2,3,0,4,7,8,9,10],[5,1,6,2,3,4,0,7,8,9,10],[5,1,6,2,3,4,7,0,8,9,10],[5,6,0,1,2,3,4,7,8,9,10],[5,6,1,0,2,3,4,7,8,9,10],[5,6,1,2,0,3,4,7,8,9,10],[5,6,1,2,3,0,4,7,8,9,10],[5,6,1,2,3,4,0,7,8,9,10],[5,6,1,2,3,4,7,0,8,9,10]]:=by kernel_rfl
theorem draw_rb_nil {bx:List PBox} {id:Nat} {L:List Tk} {i o:Nat} (hid:id < bx.length) (hc:clB bx) (nm:List UInt8) (pr:Int) (ons dss:List PV) (et:Tr) (t0:Tk) (J:List PBox)  (e:List PV) (g1:getT e 1=.bp bx.length 0) (g3:getT e 3=.bp (bx.length+2) 0) :
 drawAll CC (callL CC) (opsOf (fpart Try.f26 [1,1,1,1,1,1,1,1,1,1,1,1])) ⟨e,BX bx id (PSR L i o .nils) (.cells 63 [.bp id 0] :: .cells 66 [.int .i64 (t0.1:Int),.str t0.2.1,.int .i64 (t0.2.2:Int)] :: .cells 37 (rcs nm pr (.osl 59 ons) (.osl 41 dss) et) :: J)⟩=some (.normal,⟨(setT (setT (setT (setT (setT (setT (setT (setT (setT (setT (setT e 68 (.bp id 0)) 69 (.bp id 0)) 70 (.bp id 0)) 71 (.bp id 3)) 72 (.nils)) 73 (.agg (rcs nm pr (.sl ons) (.sl dss) et))) 74 (.osl 37 [.agg (rcs nm pr (.sl ons) (.sl dss) et)])) 75 ((.osl 37 [.agg (rcs nm pr (.sl ons) (.sl dss) et)]))) 76 (.bp id 0)) 77 (.bp id 3)) 75 (.sl [.agg (rcs nm pr (.sl ons) (.sl dss) et)])),BX bx id (PSR L i o (.osl 37 [.agg (rcs nm pr (.sl ons) (.sl dss) et)])) (.cells 63 [.bp id 0] :: .cells 66 [.int .i64 (t0.1:Int),.str t0.2.1,.int .i64 (t0.2.2:Int)] :: .cells 37 (rcs nm pr (.osl 59 ons) (.osl 41 dss) et) :: J)⟩):=by
 have hb:=apR _ bytesR
 have hbs:=bsR nm pr ons dss et
 have hap:=fun st al l d=>appK_ok (bytes:=208) (size:=15) (e:=37) (st:=st) (al:=al) (l:=l) (d:=d) (xs:=[]) (ys:=[.agg (rcs nm pr (.sl ons) (.sl dss) et)]) (by simp only [List.length_cons,List.length_nil];omega) (by decide) (by obtain ⟨k,n,m,s,v,q,kids⟩:=et;rfl)
 obtain ⟨k,n,m,s,v,q,kids⟩:=et
 have pbp:pureL [PV.bp id 0]=false:=rfl
 refine drawAll_iff.2 ⟨by rw [ord_rb];simp,fun l hl=>?_⟩
 rw [ord_rb] at hl
 unfold rcs PSR at *
 obtain ⟨dr,ev,eo,so,co,⟨hev,hco,heo,hdr⟩,R⟩:=RULESB CC
 rw [<- heo]
 simp only [List.mem_cons,List.not_mem_nil,or_false] at hl
 rcases hl with rfl | rfl | rfl | rfl | rfl | rfl | rfl | rfl | rfl | rfl | rfl | rfl | rfl | rfl | rfl | rfl | rfl | rfl | rfl | rfl | rfl | rfl | rfl | rfl | rfl | rfl | rfl | rfl | rfl | rfl | rfl | rfl | rfl | rfl | rfl | rfl | rfl | rfl | rfl | rfl | rfl | rfl | rfl | rfl | rfl | rfl | rfl | rfl | rfl | rfl | rfl | rfl | rfl | rfl | rfl | rfl | rfl | rfl | rfl | rfl | rfl | rfl | rfl | rfl | rfl | rfl | rfl | rfl | rfl | rfl | rfl | rfl | rfl | rfl | rfl | rfl | rfl | rfl | rfl | rfl | rfl | rfl | rfl | rfl | rfl | rfl | rfl | rfl | rfl | rfl | rfl | rfl | rfl | rfl | rfl | rfl | rfl | rfl | rfl | rfl | rfl | rfl | rfl | rfl | rfl | rfl | rfl | rfl | rfl | rfl | rfl | rfl | rfl | rfl | rfl | rfl | rfl | rfl | rfl | rfl
 all_goals
  simp only [opsOf,fpart,part',Try.f26,Option.getD,pickOps,List.filterMap_cons,List.filterMap_nil,List.getElem?_toArray,List.getElem?_cons_succ,List.getElem?_cons_zero]
  simp only [S9,R,seval,PY,PZ,pbp,dynR,hb,hbs,hap,g1,g3,killT_box,SX,normP_normal,normP_pan,List.getD_cons_zero,List.getD_cons_succ,hid]
  repeat first | rw [setT_swap _ 75 68 _ _ (by decide)] | rw [setT_swap _ 74 68 _ _ (by decide)] | rw [setT_swap _ 73 68 _ _ (by decide)] | rw [setT_swap _ 72 68 _ _ (by decide)] | rw [setT_swap _ 71 68 _ _ (by decide)] | rw [setT_swap _ 70 68 _ _ (by decide)] | rw [setT_swap _ 69 68 _ _ (by decide)] | rw [setT_swap _ 74 69 _ _ (by decide)] | rw [setT_swap _ 73 69 _ _ (by decide)] | rw [setT_swap _ 74 70 _ _ (by decide)] | rw [setT_swap _ 73 70 _ _ (by decide)] | rw [setT_swap _ 74 71 _ _ (by decide)] | rw [setT_swap _ 73 71 _ _ (by decide)] | rw [setT_swap _ 74 72 _ _ (by decide)] | rw [setT_swap _ 73 72 _ _ (by decide)]
  try rfl
theorem draw_rb_cons {bx:List PBox} {id:Nat} {L:List Tk} {i o:Nat} (hid:id < bx.length) (hc:clB bx) (nm:List UInt8) (pr:Int) (ons dss:List PV) (et:Tr) (t0:Tk) (J:List PBox) (x0:PV) (xs:List PV) (hx8:xs.length<=100) (e:List PV) (g1:getT e 1=.bp bx.length 0) (g3:getT e 3=.bp (bx.length+2) 0) :
 drawAll CC (callL CC) (opsOf (fpart Try.f26 [1,1,1,1,1,1,1,1,1,1,1,1])) ⟨e,BX bx id (PSR L i o (.osl 37 (x0 :: xs))) (.cells 63 [.bp id 0] :: .cells 66 [.int .i64 (t0.1:Int),.str t0.2.1,.int .i64 (t0.2.2:Int)] :: .cells 37 (rcs nm pr (.osl 59 ons) (.osl 41 dss) et) :: J)⟩=some (.normal,⟨(setT (setT (setT (setT (setT (setT (setT (setT (setT (setT (setT e 68 (.bp id 0)) 69 (.bp id 0)) 70 (.bp id 0)) 71 (.bp id 3)) 72 (.sl (x0 :: xs))) 73 (.agg (rcs nm pr (.sl ons) (.sl dss) et))) 74 (.osl 37 [.agg (rcs nm pr (.sl ons) (.sl dss) et)])) 75 ((.osl 37 (x0 :: (xs++[.agg (rcs nm pr (.sl ons) (.sl dss) et)]))))) 76 (.bp id 0)) 77 (.bp id 3)) 75 (.sl (x0 :: (xs++[.agg (rcs nm pr (.sl ons) (.sl dss) et)])))),BX bx id (PSR L i o (.osl 37 (x0 :: (xs++[.agg (rcs nm pr (.sl ons) (.sl dss) et)])))) (.cells 63 [.bp id 0] :: .cells 66 [.int .i64 (t0.1:Int),.str t0.2.1,.int .i64 (t0.2.2:Int)] :: .cells 37 (rcs nm pr (.osl 59 ons) (.osl 41 dss) et) :: J)⟩):=by
 have hb:=apR _ bytesR
 have hbs:=bsR nm pr ons dss et
 have hap:=fun st al l d=>appK_ok (bytes:=208) (size:=15) (e:=37) (st:=st) (al:=al) (l:=l) (d:=d) (xs:=x0 :: xs) (ys:=[.agg (rcs nm pr (.sl ons) (.sl dss) et)]) (by simp only [List.length_cons,List.length_nil];omega) (by decide) (by obtain ⟨k,n,m,s,v,q,kids⟩:=et;rfl)
 obtain ⟨k,n,m,s,v,q,kids⟩:=et
 have pbp:pureL [PV.bp id 0]=false:=rfl
 refine drawAll_iff.2 ⟨by rw [ord_rb];simp,fun l hl=>?_⟩
 rw [ord_rb] at hl
 unfold rcs PSR at *
 obtain ⟨dr,ev,eo,so,co,⟨hev,hco,heo,hdr⟩,R⟩:=RULESB CC
 rw [<- heo]
 simp only [List.mem_cons,List.not_mem_nil,or_false] at hl
 rcases hl with rfl | rfl | rfl | rfl | rfl | rfl | rfl | rfl | rfl | rfl | rfl | rfl | rfl | rfl | rfl | rfl | rfl | rfl | rfl | rfl | rfl | rfl | rfl | rfl | rfl | rfl | rfl | rfl | rfl | rfl | rfl | rfl | rfl | rfl | rfl | rfl | rfl | rfl | rfl | rfl | rfl | rfl | rfl | rfl | rfl | rfl | rfl | rfl | rfl | rfl | rfl | rfl | rfl | rfl | rfl | rfl | rfl | rfl | rfl | rfl | rfl | rfl | rfl | rfl | rfl | rfl | rfl | rfl | rfl | rfl | rfl | rfl | rfl | rfl | rfl | rfl | rfl | rfl | rfl | rfl | rfl | rfl | rfl | rfl | rfl | rfl | rfl | rfl | rfl | rfl | rfl | rfl | rfl | rfl | rfl | rfl | rfl | rfl | rfl | rfl | rfl | rfl | rfl | rfl | rfl | rfl | rfl | rfl | rfl | rfl | rfl | rfl | rfl | rfl | rfl | rfl | rfl | rfl | rfl | rfl
 all_goals
  simp only [opsOf,fpart,part',Try.f26,Option.getD,pickOps,List.filterMap_cons,List.filterMap_nil,List.getElem?_toArray,List.getElem?_cons_succ,List.getElem?_cons_zero]
  simp only [S9,R,seval,PY,PZ,pbp,dynR,hb,hbs,hap,g1,g3,killT_box,SX,normP_normal,normP_pan,List.getD_cons_zero,List.getD_cons_succ,hid]
  repeat first | rw [setT_swap _ 75 68 _ _ (by decide)] | rw [setT_swap _ 74 68 _ _ (by decide)] | rw [setT_swap _ 73 68 _ _ (by decide)] | rw [setT_swap _ 72 68 _ _ (by decide)] | rw [setT_swap _ 71 68 _ _ (by decide)] | rw [setT_swap _ 70 68 _ _ (by decide)] | rw [setT_swap _ 69 68 _ _ (by decide)] | rw [setT_swap _ 74 69 _ _ (by decide)] | rw [setT_swap _ 73 69 _ _ (by decide)] | rw [setT_swap _ 74 70 _ _ (by decide)] | rw [setT_swap _ 73 70 _ _ (by decide)] | rw [setT_swap _ 74 71 _ _ (by decide)] | rw [setT_swap _ 73 71 _ _ (by decide)] | rw [setT_swap _ 74 72 _ _ (by decide)] | rw [setT_swap _ 73 72 _ _ (by decide)]
  try rfl
end Go.HH
