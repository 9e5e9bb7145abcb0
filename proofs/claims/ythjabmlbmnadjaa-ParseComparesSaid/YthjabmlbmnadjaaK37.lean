/-
  What the law needs, packed: PN PO PQ.
-/
import Derived.Test.YthjabmlbmnadjaaK36
namespace Go.HH
open Go Go.Proofs
set_option maxRecDepth 100000
set_option maxHeartbeats 4000000
set_option linter.unusedSimpArgs false
set_option linter.unusedVariables false
theorem okB_parse_parser_sum:fnOKB CC Try.f84 (Try.f84.body.getD .skip)=true:=by kernel_rfl
theorem noB_parse_parser_sum:fnOK CC Try.f84 (Try.f84.body.getD .skip)=false:=by kernel_rfl
theorem fatB_parse_parser_sum:CC.P.funcs[84]?=some Try.f84:=by kernel_rfl
theorem loop_sum (Lc:Code) (hL:Lc=fpart Try.f84 [1,1,0]) {id:Nat} {L:List Tk} {o:Nat} {RL:PV} (hR:RL.pure=true) (hT:TokOK L) (ho:o<=100):∀ (m:Nat),(∀ k,k < m->CtrE 87 .prod id L RL k)->∀ (i:Nat) (a:Tr),i < L.length->match pz L m (.sumL a) o i with
 | .ok v j=>∀ (bx:List PBox) (hid:id < bx.length) (hc:clB bx) (e:List PV),getT e 0=.bp id 0->getT e 2=.bp bx.length 0->getT e 3=.bp (bx.length+1) 0->∃ e',evB CC Lc ⟨e,BX bx id (PSR L i o RL) [.cells 34 [.int .i64 0,.int .i64 0,.int .i64 0,.str [],.int .i64 0,.int .i64 0,.str [],.int .i64 0,.str [],.str [],.nils],.cells 34 (exC a)]⟩=some (.ret,⟨e',BX bx id (PSR L j o RL) [.cells 34 (exC v),.cells 34 (exC v)]⟩)∧getT e' 2=.bp bx.length 0
 | .bad t c=>∃ i' o',∀ (bx:List PBox) (hid:id < bx.length) (hc:clB bx) (e:List PV),getT e 0=.bp id 0->getT e 2=.bp bx.length 0->getT e 3=.bp (bx.length+1) 0->∃ e' ys',evB CC Lc ⟨e,BX bx id (PSR L i o RL) [.cells 34 [.int .i64 0,.int .i64 0,.int .i64 0,.str [],.int .i64 0,.int .i64 0,.str [],.int .i64 0,.str [],.str [],.nils],.cells 34 (exC a)]⟩=some (.pan (fltV t c),⟨e',BX bx id (PSR L i' o' RL) ys'⟩)
 | .out=>True:=by
 have pbp:pureL [PV.bp id 0]=false:=rfl
 intro m
 induction m with
 | zero=>intro _ i a hi;trivial
 | succ m ih=>
  intro hu i a hi
  rw [pz]
  cases hk:isT L 4 [43] i with
  | true=>
   simp only [if_true]
   have hi1:=isT_lt hT hi hk (by decide)
   have h1:=hu m (by omega) (i+1) o hi1 ho
   cases r1:pz L m .prod o (i+1) with
   | out=>trivial
   | bad t c=>
    rw [r1] at h1
    obtain ⟨i',o',h1⟩:=h1
    refine ⟨i',o',fun bx hid hc e g0 g2 g3=>?_⟩
    have t0:=okc_use hid hc hR (okc_op_t (id:=id) (o:=o) hR hi hT _ hk)
    have t1:=badx_use hid hc hR h1
    have hd:=fun e g0 g3=>draw_sumA_bad (L:=L) hR a hid hc e g0 g3 t1
    rw [evB_at (fpart Try.f84 [1,1,0,0]) hL]
    simp only [<- drawM_all no_sumA] at hd
    unfold PSR at⊢hd
    obtain ⟨dr,ev,eo,so,co,⟨hev,hco,heo,hdr⟩,R⟩:=RULESB CC
    rw [<- hev]
    rw [<- hco] at t0
    rw [<- hdr] at hd
    simp only [opsOf,fpart,part',Try.f84,Option.getD] at⊢hd
    simp only [S9,R,seval,PY,PZ,pbp,g0,g2,g3,t0,hd,SX,hid]
    exact ⟨_,_,rfl⟩
   | ok b i1=>
    rw [r1] at h1
    have hi2:=(pz_lt hT _ _ _ _ _ _ hi1 r1).2
    dsimp only [bind_okk]
    have key:=ih (fun k hk=>hu k (by omega)) i1 (nodT 11 [a,b]) hi2
    cases r2:pz L m (.sumL (nodT 11 [a,b])) o i1 with
    | out=>trivial
    | ok v j=>
     rw [r2] at key
     intro bx hid hc e g0 g2 g3
     have key:=key bx hid hc
     have t0:=okc_use hid hc hR (okc_op_t (id:=id) (o:=o) hR hi hT _ hk)
     have t1:=okc_use hid hc hR h1
     rw [trV_exC] at t1
     have hd:=fun e g0 g3=>draw_sumA_ok (L:=L) hR a b hid hc e g0 g3 t1
     rw [evB_at (fpart Try.f84 [1,1,0,0]) hL]
     simp only [<- drawM_all no_sumA] at hd
     unfold PSR at⊢hd key
     obtain ⟨dr,ev,eo,so,co,⟨hev,hco,heo,hdr⟩,R⟩:=RULESB CC
     rw [<- hev]
     rw [<- hev] at key
     rw [<- hco] at t0
     rw [<- hdr] at hd
     simp only [opsOf,fpart,part',Try.f84,Option.getD] at⊢hd key
     simp only [S9,R,seval,PY,PZ,pbp,g0,g2,g3,t0,hd,SX,hid]
     refine key _ ?_ ?_ ?_
     · simp only [S7,R,seval,g0]
     · simp only [S7,R,seval,g2]
     · simp only [S7,R,seval,g3]
    | bad t c=>
     rw [r2] at key
     obtain ⟨i',o',key⟩:=key
     refine ⟨i',o',fun bx hid hc e g0 g2 g3=>?_⟩
     have key:=key bx hid hc
     have t0:=okc_use hid hc hR (okc_op_t (id:=id) (o:=o) hR hi hT _ hk)
     have t1:=okc_use hid hc hR h1
     rw [trV_exC] at t1
     have hd:=fun e g0 g3=>draw_sumA_ok (L:=L) hR a b hid hc e g0 g3 t1
     rw [evB_at (fpart Try.f84 [1,1,0,0]) hL]
     simp only [<- drawM_all no_sumA] at hd
     unfold PSR at⊢hd key
     obtain ⟨dr,ev,eo,so,co,⟨hev,hco,heo,hdr⟩,R⟩:=RULESB CC
     rw [<- hev]
     rw [<- hev] at key
     rw [<- hco] at t0
     rw [<- hdr] at hd
     simp only [opsOf,fpart,part',Try.f84,Option.getD] at⊢hd key
     simp only [S9,R,seval,PY,PZ,pbp,g0,g2,g3,t0,hd,SX,hid]
     refine key _ ?_ ?_ ?_
     · simp only [S7,R,seval,g0]
     · simp only [S7,R,seval,g2]
     · simp only [S7,R,seval,g3]
  | false=>
   have hk0:=hk
   clear hk
   simp only [Bool.false_eq_true,if_false]
   cases hk:isT L 4 [45] i with
   | true=>
    simp only [if_true]
    have hi1:=isT_lt hT hi hk (by decide)
    have h1:=hu m (by omega) (i+1) o hi1 ho
    cases r1:pz L m .prod o (i+1) with
    | out=>trivial
    | bad t c=>
     rw [r1] at h1
     obtain ⟨i',o',h1⟩:=h1
     refine ⟨i',o',fun bx hid hc e g0 g2 g3=>?_⟩
     have t0:=okc_use hid hc hR (okc_op_f (id:=id) (o:=o) hR hi hT _ hk0)
     have t2:=okc_use hid hc hR (okc_op_t (id:=id) (o:=o) hR hi hT _ hk)
     have t1:=badx_use hid hc hR h1
     have hd:=fun e g0 g3=>draw_sumB_bad (L:=L) hR a hid hc e g0 g3 t1
     rw [evB_at (fpart Try.f84 [1,1,0,0]) hL]
     simp only [<- drawM_all no_sumB] at hd
     unfold PSR at⊢hd
     obtain ⟨dr,ev,eo,so,co,⟨hev,hco,heo,hdr⟩,R⟩:=RULESB CC
     rw [<- hev]
     rw [<- hco] at t0 t2
     rw [<- hdr] at hd
     simp only [opsOf,fpart,part',Try.f84,Option.getD] at⊢hd
     simp only [S9,R,seval,PY,PZ,pbp,g0,g2,g3,t0,t2,hd,SX,hid]
     exact ⟨_,_,rfl⟩
    | ok b i1=>
     rw [r1] at h1
     have hi2:=(pz_lt hT _ _ _ _ _ _ hi1 r1).2
     dsimp only [bind_okk]
     have key:=ih (fun k hk=>hu k (by omega)) i1 (nodT 12 [a,b]) hi2
     cases r2:pz L m (.sumL (nodT 12 [a,b])) o i1 with
     | out=>trivial
     | ok v j=>
      rw [r2] at key
      intro bx hid hc e g0 g2 g3
      have key:=key bx hid hc
      have t0:=okc_use hid hc hR (okc_op_f (id:=id) (o:=o) hR hi hT _ hk0)
      have t2:=okc_use hid hc hR (okc_op_t (id:=id) (o:=o) hR hi hT _ hk)
      have t1:=okc_use hid hc hR h1
      rw [trV_exC] at t1
      have hd:=fun e g0 g3=>draw_sumB_ok (L:=L) hR a b hid hc e g0 g3 t1
      rw [evB_at (fpart Try.f84 [1,1,0,0]) hL]
      simp only [<- drawM_all no_sumB] at hd
      unfold PSR at⊢hd key
      obtain ⟨dr,ev,eo,so,co,⟨hev,hco,heo,hdr⟩,R⟩:=RULESB CC
      rw [<- hev]
      rw [<- hev] at key
      rw [<- hco] at t0 t2
      rw [<- hdr] at hd
      simp only [opsOf,fpart,part',Try.f84,Option.getD] at⊢hd key
      simp only [S9,R,seval,PY,PZ,pbp,g0,g2,g3,t0,t2,hd,SX,hid]
      refine key _ ?_ ?_ ?_
      · simp only [S7,R,seval,g0]
      · simp only [S7,R,seval,g2]
      · simp only [S7,R,seval,g3]
     | bad t c=>
      rw [r2] at key
      obtain ⟨i',o',key⟩:=key
      refine ⟨i',o',fun bx hid hc e g0 g2 g3=>?_⟩
      have key:=key bx hid hc
      have t0:=okc_use hid hc hR (okc_op_f (id:=id) (o:=o) hR hi hT _ hk0)
      have t2:=okc_use hid hc hR (okc_op_t (id:=id) (o:=o) hR hi hT _ hk)
      have t1:=okc_use hid hc hR h1
      rw [trV_exC] at t1
      have hd:=fun e g0 g3=>draw_sumB_ok (L:=L) hR a b hid hc e g0 g3 t1
      rw [evB_at (fpart Try.f84 [1,1,0,0]) hL]
      simp only [<- drawM_all no_sumB] at hd
      unfold PSR at⊢hd key
      obtain ⟨dr,ev,eo,so,co,⟨hev,hco,heo,hdr⟩,R⟩:=RULESB CC
      rw [<- hev]
      rw [<- hev] at key
      rw [<- hco] at t0 t2
      rw [<- hdr] at hd
      simp only [opsOf,fpart,part',Try.f84,Option.getD] at⊢hd key
      simp only [S9,R,seval,PY,PZ,pbp,g0,g2,g3,t0,t2,hd,SX,hid]
      refine key _ ?_ ?_ ?_
      · simp only [S7,R,seval,g0]
      · simp only [S7,R,seval,g2]
      · simp only [S7,R,seval,g3]
   | false=>
    simp only [Bool.false_eq_true,if_false]
    intro bx hid hc e g0 g2 g3
    have t0:=okc_use hid hc hR (okc_op_f (id:=id) (o:=o) hR hi hT _ hk0)
    have t2:=okc_use hid hc hR (okc_op_f (id:=id) (o:=o) hR hi hT _ hk)
    rw [evB_at (fpart Try.f84 [1,1,0,0]) hL]
    unfold PSR at ⊢
    obtain ⟨dr,ev,eo,so,co,⟨hev,hco,heo,hdr⟩,R⟩:=RULESB CC
    rw [<- hev]
    rw [<- hco] at t0 t2
    simp only [opsOf,fpart,part',Try.f84,Option.getD] at ⊢
    simp only [S9,R,seval,PY,PZ,pbp,g0,g2,g3,t0,t2,SX,hid]
    exact ⟨_,rfl,by simp only [S7,R,seval,g2]⟩
theorem ctr_sum {id:Nat} {L:List Tk} {RL:PV} (hR:RL.pure=true) (hT:TokOK L) (n:Nat) (hu:∀ k,k<=n->CtrE 87 .prod id L RL k):CtrE 84 .sum id L RL (n+1):=by
 intro i o hi ho
 rw [pz]
 have h0:=hu n (Nat.le_refl _) i o hi ho
 cases r0:pz L n .prod o i with
 | out=>exact ans_out
 | bad t c=>
  rw [r0] at h0
  obtain ⟨i',o',h0⟩:=h0
  refine ans_bad ⟨i',o',badx_of hR fun bx hid hc=>?_⟩
  have pbp:pureL [PV.bp id 0]=false:=rfl
  have t0:=badx_use hid hc hR h0
  rw [callL_enterB (fn:=Try.f84) (c:=Try.f84.body.getD .skip) rfl rfl fatB_parse_parser_sum rfl noB_parse_parser_sum okB_parse_parser_sum (Nat.le_of_ble_eq_true rfl)]
  unfold PSR at ⊢
  obtain ⟨dr,ev,eo,so,co,⟨hev,hco,heo,hdr⟩,R⟩:=RULESB CC
  rw [<- hev]
  rw [<- hco] at t0
  simp only [opsOf,fpart,part',Try.f84,Option.getD] at ⊢
  simp only [S9,R,seval,PY,PZ,pbp,t0,SX,hid]
  exact ⟨_,rfl⟩
 | ok a i1=>
  rw [r0] at h0
  dsimp only [bind_okk]
  have hi1:=(pz_lt hT _ _ _ _ _ _ hi r0).2
  have hloop:=loop_sum _ rfl (id:=id) (RL:=RL) hR hT ho n (fun k hk=>hu k (by omega)) i1 a hi1
  cases r1:pz L n (.sumL a) o i1 with
  | out=>exact ans_out
  | ok v j=>
   rw [r1] at hloop
   refine ans_ok (okc_of hR (fun n=>by rw [trV_exC];simp only [SX,PV.under]) fun bx hid hc=>?_)
   have hloop:=hloop bx hid hc
   have pbp:pureL [PV.bp id 0]=false:=rfl
   have t0:=okc_use hid hc hR h0
   rw [trV_exC] at t0
   rw [callL_enterB (fn:=Try.f84) (c:=Try.f84.body.getD .skip) rfl rfl fatB_parse_parser_sum rfl noB_parse_parser_sum okB_parse_parser_sum (Nat.le_of_ble_eq_true rfl)]
   rw [trV_exC]
   unfold PSR at⊢hloop
   obtain ⟨dr,ev,eo,so,co,⟨hev,hco,heo,hdr⟩,R⟩:=RULESB CC
   rw [<- hev]
   rw [<- hev] at hloop
   rw [<- hco] at t0
   simp only [opsOf,fpart,part',Try.f84,Option.getD] at⊢hloop
   simp only [S9,R,seval,PY,PZ,pbp,t0,SX,hid]
   generalize hE:ev _ _=z
   have hP:∃ e',z=some (.ret,⟨e',BX bx id (.cells 70 [.sl (tkVs L),.int .i64 ((j:Nat):Int),.int .i64 ((o:Nat):Int),RL]) [.cells 34 (exC v),.cells 34 (exC v)]⟩)∧getT e' 2=.bp bx.length 0:=by
    rw [<- hE]
    refine hloop _ ?_ ?_ ?_
    · simp only [S7,R,seval]
    · simp only [S7,R,seval]
    · simp only [S7,R,seval]
   obtain ⟨e',he,g2⟩:=hP
   subst he
   clear hE hloop
   simp only [S9,R,seval,PY,PZ,pbp,SX,g2,hid]
   exact ⟨_,rfl⟩
  | bad t c=>
   rw [r1] at hloop
   obtain ⟨i',o',hloop⟩:=hloop
   refine ans_bad ⟨i',o',badx_of hR fun bx hid hc=>?_⟩
   have hloop:=hloop bx hid hc
   have pbp:pureL [PV.bp id 0]=false:=rfl
   have t0:=okc_use hid hc hR h0
   rw [trV_exC] at t0
   rw [callL_enterB (fn:=Try.f84) (c:=Try.f84.body.getD .skip) rfl rfl fatB_parse_parser_sum rfl noB_parse_parser_sum okB_parse_parser_sum (Nat.le_of_ble_eq_true rfl)]
   unfold PSR at⊢hloop
   obtain ⟨dr,ev,eo,so,co,⟨hev,hco,heo,hdr⟩,R⟩:=RULESB CC
   rw [<- hev]
   rw [<- hev] at hloop
   rw [<- hco] at t0
   simp only [opsOf,fpart,part',Try.f84,Option.getD] at⊢hloop
   simp only [S9,R,seval,PY,PZ,pbp,t0,SX,hid]
   generalize hE:ev _ _=z
   have hP:∃ e' ys',z=some (.pan (fltV t c),⟨e',BX bx id (.cells 70 [.sl (tkVs L),.int .i64 ((i':Nat):Int),.int .i64 ((o':Nat):Int),RL]) ys'⟩):=by
    rw [<- hE]
    refine hloop _ ?_ ?_ ?_
    · simp only [S7,R,seval]
    · simp only [S7,R,seval]
    · simp only [S7,R,seval]
   obtain ⟨e',ys',he⟩:=hP
   subst he
   clear hE hloop
   simp only [S9,R,seval,PY,PZ,pbp,SX,hid]
   exact ⟨_,rfl⟩
end Go.HH
namespace Go.HH
open Go Go.Proofs
set_option maxRecDepth 100000
set_option maxHeartbeats 4000000
set_option linter.unusedSimpArgs false
set_option linter.unusedVariables false
theorem okB_parse_parser_compare:fnOKB CC Try.f81 (Try.f81.body.getD .skip)=true:=by kernel_rfl
theorem noB_parse_parser_compare:fnOK CC Try.f81 (Try.f81.body.getD .skip)=false:=by kernel_rfl
theorem fatB_parse_parser_compare:CC.P.funcs[81]?=some Try.f81:=by kernel_rfl
theorem no_cmp0:drawOK CC (opsOf (fpart Try.f81 [1,1,0,0,1,0,0]))=false:=by kernel_rfl
theorem ord_cmp0:orders (opsOf (fpart Try.f81 [1,1,0,0,1,0,0]))=[[0,1,2,3,4,5],[1,0,2,3,4,5],[1,2,0,3,4,5]]:=by kernel_rfl
theorem draw_cmp0_ok {bx:List PBox} {id:Nat} {L:List Tk} {i o:Nat} {RL:PV} (hR:RL.pure=true) (a b:Tr) {j:Nat} (hid:id < bx.length) (hc:clB bx)  (e:List PV) (g0:getT e 0=.bp id 0) (g2:getT e 2=.bp bx.length 0) (g3:getT e 3=.bp (bx.length+1) 0) (t1:∀ ys:List PBox,(ys.all fun x=>x.under (bx.length+ys.length))=true->callOp CC (callL CC) 84 [.bp id 0] (BX bx id (.cells 70 [.sl (tkVs L),.int .i64 ((i:Nat):Int),.int .i64 ((o:Nat):Int),RL]) ys)=some (.ret (.agg (exC b)),BX bx id (.cells 70 [.sl (tkVs L),.int .i64 ((j:Nat):Int),.int .i64 ((o:Nat):Int),RL]) ys)) :
 drawAll CC (callL CC) (opsOf (fpart Try.f81 [1,1,0,0,1,0,0])) ⟨e,BX bx id (PSR L i o RL) [.cells 34 [.int .i64 0,.int .i64 0,.int .i64 0,.str [],.int .i64 0,.int .i64 0,.str [],.int .i64 0,.str [],.str [],.nils],.cells 34 (exC a)]⟩=some (.normal,⟨(setT (setT (setT (setT (setT e 9 (.agg (exC a))) 10 (.bp id 0)) 11 (.agg (exC b))) 12 (.osl 34 [.agg (exC a),.agg (exC b)])) 13 (.agg (exC (nodT 9 [a,b])))),BX bx id (PSR L j o RL) [.cells 34 (exC (nodT 9 [a,b])),.cells 34 (exC a)]⟩):=by
 have hb:=bsE2 a b
 have hn:=nod2 9 a b
 refine drawAll_iff.2 ⟨by rw [ord_cmp0];simp,fun l hl=>?_⟩
 rw [ord_cmp0] at hl
 have pbp:pureL [PV.bp id 0]=false:=rfl
 unfold PSR
 obtain ⟨dr,ev,eo,so,co,⟨hev,hco,heo,hdr⟩,R⟩:=RULESB CC
 rw [<- heo]
 rw [<- hco] at t1 hn
 simp only [List.mem_cons,List.not_mem_nil,or_false] at hl
 rcases hl with rfl | rfl | rfl
 all_goals
  simp only [opsOf,fpart,part',Try.f81,Option.getD,pickOps,List.filterMap_cons,List.filterMap_nil,List.getElem?_toArray,List.getElem?_cons_succ,List.getElem?_cons_zero]
  simp only [S9,R,seval,PY,PZ,pbp,g0,g2,g3,SX,normP_normal,normP_pan,t1,hb,hn,hid]
  try simp only [setT_srt,Nat.reduceLT]
theorem draw_cmp0_bad {bx:List PBox} {id:Nat} {L:List Tk} {i o:Nat} {RL:PV} (hR:RL.pure=true) (a:Tr) {t:Nat} {c:Int} {i' o':Nat} (hid:id < bx.length) (hc:clB bx)  (e:List PV) (g0:getT e 0=.bp id 0) (g2:getT e 2=.bp bx.length 0) (g3:getT e 3=.bp (bx.length+1) 0) (t1:∀ ys:List PBox,(ys.all fun x=>x.under (bx.length+ys.length))=true->callOp CC (callL CC) 84 [.bp id 0] (BX bx id (.cells 70 [.sl (tkVs L),.int .i64 ((i:Nat):Int),.int .i64 ((o:Nat):Int),RL]) ys)=some (.pan (fltV t c),BX bx id (.cells 70 [.sl (tkVs L),.int .i64 ((i':Nat):Int),.int .i64 ((o':Nat):Int),RL]) ys)) :
 drawAll CC (callL CC) (opsOf (fpart Try.f81 [1,1,0,0,1,0,0])) ⟨e,BX bx id (PSR L i o RL) [.cells 34 [.int .i64 0,.int .i64 0,.int .i64 0,.str [],.int .i64 0,.int .i64 0,.str [],.int .i64 0,.str [],.str [],.nils],.cells 34 (exC a)]⟩=some (.pan (fltV t c),⟨[],BX bx id (PSR L i' o' RL) [.cells 34 [.int .i64 0,.int .i64 0,.int .i64 0,.str [],.int .i64 0,.int .i64 0,.str [],.int .i64 0,.str [],.str [],.nils],.cells 34 (exC a)]⟩):=by
 refine drawAll_iff.2 ⟨by rw [ord_cmp0];simp,fun l hl=>?_⟩
 rw [ord_cmp0] at hl
 have pbp:pureL [PV.bp id 0]=false:=rfl
 unfold PSR
 obtain ⟨dr,ev,eo,so,co,⟨hev,hco,heo,hdr⟩,R⟩:=RULESB CC
 rw [<- heo]
 rw [<- hco] at t1
 simp only [List.mem_cons,List.not_mem_nil,or_false] at hl
 rcases hl with rfl | rfl | rfl
 all_goals
  simp only [opsOf,fpart,part',Try.f81,Option.getD,pickOps,List.filterMap_cons,List.filterMap_nil,List.getElem?_toArray,List.getElem?_cons_succ,List.getElem?_cons_zero]
  simp only [S9,R,seval,PY,PZ,pbp,g0,g2,g3,SX,normP_normal,normP_pan,t1,hid]
theorem no_cmp1:drawOK CC (opsOf (fpart Try.f81 [1,1,0,0,1,1,1,0,0]))=false:=by kernel_rfl
theorem ord_cmp1:orders (opsOf (fpart Try.f81 [1,1,0,0,1,1,1,0,0]))=[[0,1,2,3,4,5,6,7],[1,0,2,3,4,5,6,7],[1,2,0,3,4,5,6,7]]:=by kernel_rfl
theorem draw_cmp1_ok {bx:List PBox} {id:Nat} {L:List Tk} {i o:Nat} {RL:PV} (hR:RL.pure=true) (a b:Tr) {j:Nat} (hid:id < bx.length) (hc:clB bx)  (e:List PV) (g0:getT e 0=.bp id 0) (g2:getT e 2=.bp bx.length 0) (g3:getT e 3=.bp (bx.length+1) 0) (t1:∀ ys:List PBox,(ys.all fun x=>x.under (bx.length+ys.length))=true->callOp CC (callL CC) 84 [.bp id 0] (BX bx id (.cells 70 [.sl (tkVs L),.int .i64 ((i:Nat):Int),.int .i64 ((o:Nat):Int),RL]) ys)=some (.ret (.agg (exC b)),BX bx id (.cells 70 [.sl (tkVs L),.int .i64 ((j:Nat):Int),.int .i64 ((o:Nat):Int),RL]) ys)) :
 drawAll CC (callL CC) (opsOf (fpart Try.f81 [1,1,0,0,1,1,1,0,0])) ⟨e,BX bx id (PSR L i o RL) [.cells 34 [.int .i64 0,.int .i64 0,.int .i64 0,.str [],.int .i64 0,.int .i64 0,.str [],.int .i64 0,.str [],.str [],.nils],.cells 34 (exC a)]⟩=some (.normal,⟨(setT (setT (setT (setT (setT (setT (setT e 17 (.agg (exC a))) 18 (.bp id 0)) 19 (.agg (exC b))) 20 (.osl 34 [.agg (exC a),.agg (exC b)])) 21 (.agg (exC (nodT 9 [a,b])))) 22 (.osl 34 [.agg (exC (nodT 9 [a,b]))])) 23 (.agg (exC (nodT 6 [nodT 9 [a,b]])))),BX bx id (PSR L j o RL) [.cells 34 (exC (nodT 6 [nodT 9 [a,b]])),.cells 34 (exC a)]⟩):=by
 have hb:=bsE2 a b
 have hn:=nod2 9 a b
 have hb1:=bsE1 (nodT 9 [a,b])
 have hn1:=nod1 6 (nodT 9 [a,b])
 refine drawAll_iff.2 ⟨by rw [ord_cmp1];simp,fun l hl=>?_⟩
 rw [ord_cmp1] at hl
 have pbp:pureL [PV.bp id 0]=false:=rfl
 unfold PSR
 obtain ⟨dr,ev,eo,so,co,⟨hev,hco,heo,hdr⟩,R⟩:=RULESB CC
 rw [<- heo]
 rw [<- hco] at t1 hn hn1
 simp only [List.mem_cons,List.not_mem_nil,or_false] at hl
 rcases hl with rfl | rfl | rfl
 all_goals
  simp only [opsOf,fpart,part',Try.f81,Option.getD,pickOps,List.filterMap_cons,List.filterMap_nil,List.getElem?_toArray,List.getElem?_cons_succ,List.getElem?_cons_zero]
  simp only [S9,R,seval,PY,PZ,pbp,g0,g2,g3,SX,normP_normal,normP_pan,t1,hb,hn,hb1,hn1,hid]
  try simp only [setT_srt,Nat.reduceLT]
theorem draw_cmp1_bad {bx:List PBox} {id:Nat} {L:List Tk} {i o:Nat} {RL:PV} (hR:RL.pure=true) (a:Tr) {t:Nat} {c:Int} {i' o':Nat} (hid:id < bx.length) (hc:clB bx)  (e:List PV) (g0:getT e 0=.bp id 0) (g2:getT e 2=.bp bx.length 0) (g3:getT e 3=.bp (bx.length+1) 0) (t1:∀ ys:List PBox,(ys.all fun x=>x.under (bx.length+ys.length))=true->callOp CC (callL CC) 84 [.bp id 0] (BX bx id (.cells 70 [.sl (tkVs L),.int .i64 ((i:Nat):Int),.int .i64 ((o:Nat):Int),RL]) ys)=some (.pan (fltV t c),BX bx id (.cells 70 [.sl (tkVs L),.int .i64 ((i':Nat):Int),.int .i64 ((o':Nat):Int),RL]) ys)) :
 drawAll CC (callL CC) (opsOf (fpart Try.f81 [1,1,0,0,1,1,1,0,0])) ⟨e,BX bx id (PSR L i o RL) [.cells 34 [.int .i64 0,.int .i64 0,.int .i64 0,.str [],.int .i64 0,.int .i64 0,.str [],.int .i64 0,.str [],.str [],.nils],.cells 34 (exC a)]⟩=some (.pan (fltV t c),⟨[],BX bx id (PSR L i' o' RL) [.cells 34 [.int .i64 0,.int .i64 0,.int .i64 0,.str [],.int .i64 0,.int .i64 0,.str [],.int .i64 0,.str [],.str [],.nils],.cells 34 (exC a)]⟩):=by
 refine drawAll_iff.2 ⟨by rw [ord_cmp1];simp,fun l hl=>?_⟩
 rw [ord_cmp1] at hl
 have pbp:pureL [PV.bp id 0]=false:=rfl
 unfold PSR
 obtain ⟨dr,ev,eo,so,co,⟨hev,hco,heo,hdr⟩,R⟩:=RULESB CC
 rw [<- heo]
 rw [<- hco] at t1
 simp only [List.mem_cons,List.not_mem_nil,or_false] at hl
 rcases hl with rfl | rfl | rfl
 all_goals
  simp only [opsOf,fpart,part',Try.f81,Option.getD,pickOps,List.filterMap_cons,List.filterMap_nil,List.getElem?_toArray,List.getElem?_cons_succ,List.getElem?_cons_zero]
  simp only [S9,R,seval,PY,PZ,pbp,g0,g2,g3,SX,normP_normal,normP_pan,t1,hid]
theorem no_cmp2:drawOK CC (opsOf (fpart Try.f81 [1,1,0,0,1,1,1,1,1,0,0]))=false:=by kernel_rfl
theorem ord_cmp2:orders (opsOf (fpart Try.f81 [1,1,0,0,1,1,1,1,1,0,0]))=[[0,1,2,3,4,5],[1,0,2,3,4,5],[1,2,0,3,4,5]]:=by kernel_rfl
theorem draw_cmp2_ok {bx:List PBox} {id:Nat} {L:List Tk} {i o:Nat} {RL:PV} (hR:RL.pure=true) (a b:Tr) {j:Nat} (hid:id < bx.length) (hc:clB bx)  (e:List PV) (g0:getT e 0=.bp id 0) (g2:getT e 2=.bp bx.length 0) (g3:getT e 3=.bp (bx.length+1) 0) (t1:∀ ys:List PBox,(ys.all fun x=>x.under (bx.length+ys.length))=true->callOp CC (callL CC) 84 [.bp id 0] (BX bx id (.cells 70 [.sl (tkVs L),.int .i64 ((i:Nat):Int),.int .i64 ((o:Nat):Int),RL]) ys)=some (.ret (.agg (exC b)),BX bx id (.cells 70 [.sl (tkVs L),.int .i64 ((j:Nat):Int),.int .i64 ((o:Nat):Int),RL]) ys)) :
 drawAll CC (callL CC) (opsOf (fpart Try.f81 [1,1,0,0,1,1,1,1,1,0,0])) ⟨e,BX bx id (PSR L i o RL) [.cells 34 [.int .i64 0,.int .i64 0,.int .i64 0,.str [],.int .i64 0,.int .i64 0,.str [],.int .i64 0,.str [],.str [],.nils],.cells 34 (exC a)]⟩=some (.normal,⟨(setT (setT (setT (setT (setT e 27 (.agg (exC a))) 28 (.bp id 0)) 29 (.agg (exC b))) 30 (.osl 34 [.agg (exC a),.agg (exC b)])) 31 (.agg (exC (nodT 10 [a,b])))),BX bx id (PSR L j o RL) [.cells 34 (exC (nodT 10 [a,b])),.cells 34 (exC a)]⟩):=by
 have hb:=bsE2 a b
 have hn:=nod2 10 a b
 refine drawAll_iff.2 ⟨by rw [ord_cmp2];simp,fun l hl=>?_⟩
 rw [ord_cmp2] at hl
 have pbp:pureL [PV.bp id 0]=false:=rfl
 unfold PSR
 obtain ⟨dr,ev,eo,so,co,⟨hev,hco,heo,hdr⟩,R⟩:=RULESB CC
 rw [<- heo]
 rw [<- hco] at t1 hn
 simp only [List.mem_cons,List.not_mem_nil,or_false] at hl
 rcases hl with rfl | rfl | rfl
 all_goals
  simp only [opsOf,fpart,part',Try.f81,Option.getD,pickOps,List.filterMap_cons,List.filterMap_nil,List.getElem?_toArray,List.getElem?_cons_succ,List.getElem?_cons_zero]
  simp only [S9,R,seval,PY,PZ,pbp,g0,g2,g3,SX,normP_normal,normP_pan,t1,hb,hn,hid]
  try simp only [setT_srt,Nat.reduceLT]
theorem draw_cmp2_bad {bx:List PBox} {id:Nat} {L:List Tk} {i o:Nat} {RL:PV} (hR:RL.pure=true) (a:Tr) {t:Nat} {c:Int} {i' o':Nat} (hid:id < bx.length) (hc:clB bx)  (e:List PV) (g0:getT e 0=.bp id 0) (g2:getT e 2=.bp bx.length 0) (g3:getT e 3=.bp (bx.length+1) 0) (t1:∀ ys:List PBox,(ys.all fun x=>x.under (bx.length+ys.length))=true->callOp CC (callL CC) 84 [.bp id 0] (BX bx id (.cells 70 [.sl (tkVs L),.int .i64 ((i:Nat):Int),.int .i64 ((o:Nat):Int),RL]) ys)=some (.pan (fltV t c),BX bx id (.cells 70 [.sl (tkVs L),.int .i64 ((i':Nat):Int),.int .i64 ((o':Nat):Int),RL]) ys)) :
 drawAll CC (callL CC) (opsOf (fpart Try.f81 [1,1,0,0,1,1,1,1,1,0,0])) ⟨e,BX bx id (PSR L i o RL) [.cells 34 [.int .i64 0,.int .i64 0,.int .i64 0,.str [],.int .i64 0,.int .i64 0,.str [],.int .i64 0,.str [],.str [],.nils],.cells 34 (exC a)]⟩=some (.pan (fltV t c),⟨[],BX bx id (PSR L i' o' RL) [.cells 34 [.int .i64 0,.int .i64 0,.int .i64 0,.str [],.int .i64 0,.int .i64 0,.str [],.int .i64 0,.str [],.str [],.nils],.cells 34 (exC a)]⟩):=by
 refine drawAll_iff.2 ⟨by rw [ord_cmp2];simp,fun l hl=>?_⟩
 rw [ord_cmp2] at hl
 have pbp:pureL [PV.bp id 0]=false:=rfl
 unfold PSR
 obtain ⟨dr,ev,eo,so,co,⟨hev,hco,heo,hdr⟩,R⟩:=RULESB CC
 rw [<- heo]
 rw [<- hco] at t1
 simp only [List.mem_cons,List.not_mem_nil,or_false] at hl
 rcases hl with rfl | rfl | rfl
 all_goals
  simp only [opsOf,fpart,part',Try.f81,Option.getD,pickOps,List.filterMap_cons,List.filterMap_nil,List.getElem?_toArray,List.getElem?_cons_succ,List.getElem?_cons_zero]
  simp only [S9,R,seval,PY,PZ,pbp,g0,g2,g3,SX,normP_normal,normP_pan,t1,hid]
theorem no_cmp3:drawOK CC (opsOf (fpart Try.f81 [1,1,0,0,1,1,1,1,1,1,1,0,0]))=false:=by kernel_rfl
theorem ord_cmp3:orders (opsOf (fpart Try.f81 [1,1,0,0,1,1,1,1,1,1,1,0,0]))=[[0,1,2,3,4,5,6,7],[1,0,2,3,4,5,6,7],[1,2,0,3,4,5,6,7]]:=by kernel_rfl
theorem draw_cmp3_ok {bx:List PBox} {id:Nat} {L:List Tk} {i o:Nat} {RL:PV} (hR:RL.pure=true) (a b:Tr) {j:Nat} (hid:id < bx.length) (hc:clB bx)  (e:List PV) (g0:getT e 0=.bp id 0) (g2:getT e 2=.bp bx.length 0) (g3:getT e 3=.bp (bx.length+1) 0) (t1:∀ ys:List PBox,(ys.all fun x=>x.under (bx.length+ys.length))=true->callOp CC (callL CC) 84 [.bp id 0] (BX bx id (.cells 70 [.sl (tkVs L),.int .i64 ((i:Nat):Int),.int .i64 ((o:Nat):Int),RL]) ys)=some (.ret (.agg (exC b)),BX bx id (.cells 70 [.sl (tkVs L),.int .i64 ((j:Nat):Int),.int .i64 ((o:Nat):Int),RL]) ys)) :
 drawAll CC (callL CC) (opsOf (fpart Try.f81 [1,1,0,0,1,1,1,1,1,1,1,0,0])) ⟨e,BX bx id (PSR L i o RL) [.cells 34 [.int .i64 0,.int .i64 0,.int .i64 0,.str [],.int .i64 0,.int .i64 0,.str [],.int .i64 0,.str [],.str [],.nils],.cells 34 (exC a)]⟩=some (.normal,⟨(setT (setT (setT (setT (setT (setT (setT e 35 (.agg (exC a))) 36 (.bp id 0)) 37 (.agg (exC b))) 38 (.osl 34 [.agg (exC a),.agg (exC b)])) 39 (.agg (exC (nodT 10 [a,b])))) 40 (.osl 34 [.agg (exC (nodT 10 [a,b]))])) 41 (.agg (exC (nodT 6 [nodT 10 [a,b]])))),BX bx id (PSR L j o RL) [.cells 34 (exC (nodT 6 [nodT 10 [a,b]])),.cells 34 (exC a)]⟩):=by
 have hb:=bsE2 a b
 have hn:=nod2 10 a b
 have hb1:=bsE1 (nodT 10 [a,b])
 have hn1:=nod1 6 (nodT 10 [a,b])
 refine drawAll_iff.2 ⟨by rw [ord_cmp3];simp,fun l hl=>?_⟩
 rw [ord_cmp3] at hl
 have pbp:pureL [PV.bp id 0]=false:=rfl
 unfold PSR
 obtain ⟨dr,ev,eo,so,co,⟨hev,hco,heo,hdr⟩,R⟩:=RULESB CC
 rw [<- heo]
 rw [<- hco] at t1 hn hn1
 simp only [List.mem_cons,List.not_mem_nil,or_false] at hl
 rcases hl with rfl | rfl | rfl
 all_goals
  simp only [opsOf,fpart,part',Try.f81,Option.getD,pickOps,List.filterMap_cons,List.filterMap_nil,List.getElem?_toArray,List.getElem?_cons_succ,List.getElem?_cons_zero]
  simp only [S9,R,seval,PY,PZ,pbp,g0,g2,g3,SX,normP_normal,normP_pan,t1,hb,hn,hb1,hn1,hid]
  try simp only [setT_srt,Nat.reduceLT]
theorem draw_cmp3_bad {bx:List PBox} {id:Nat} {L:List Tk} {i o:Nat} {RL:PV} (hR:RL.pure=true) (a:Tr) {t:Nat} {c:Int} {i' o':Nat} (hid:id < bx.length) (hc:clB bx)  (e:List PV) (g0:getT e 0=.bp id 0) (g2:getT e 2=.bp bx.length 0) (g3:getT e 3=.bp (bx.length+1) 0) (t1:∀ ys:List PBox,(ys.all fun x=>x.under (bx.length+ys.length))=true->callOp CC (callL CC) 84 [.bp id 0] (BX bx id (.cells 70 [.sl (tkVs L),.int .i64 ((i:Nat):Int),.int .i64 ((o:Nat):Int),RL]) ys)=some (.pan (fltV t c),BX bx id (.cells 70 [.sl (tkVs L),.int .i64 ((i':Nat):Int),.int .i64 ((o':Nat):Int),RL]) ys)) :
 drawAll CC (callL CC) (opsOf (fpart Try.f81 [1,1,0,0,1,1,1,1,1,1,1,0,0])) ⟨e,BX bx id (PSR L i o RL) [.cells 34 [.int .i64 0,.int .i64 0,.int .i64 0,.str [],.int .i64 0,.int .i64 0,.str [],.int .i64 0,.str [],.str [],.nils],.cells 34 (exC a)]⟩=some (.pan (fltV t c),⟨[],BX bx id (PSR L i' o' RL) [.cells 34 [.int .i64 0,.int .i64 0,.int .i64 0,.str [],.int .i64 0,.int .i64 0,.str [],.int .i64 0,.str [],.str [],.nils],.cells 34 (exC a)]⟩):=by
 refine drawAll_iff.2 ⟨by rw [ord_cmp3];simp,fun l hl=>?_⟩
 rw [ord_cmp3] at hl
 have pbp:pureL [PV.bp id 0]=false:=rfl
 unfold PSR
 obtain ⟨dr,ev,eo,so,co,⟨hev,hco,heo,hdr⟩,R⟩:=RULESB CC
 rw [<- heo]
 rw [<- hco] at t1
 simp only [List.mem_cons,List.not_mem_nil,or_false] at hl
 rcases hl with rfl | rfl | rfl
 all_goals
  simp only [opsOf,fpart,part',Try.f81,Option.getD,pickOps,List.filterMap_cons,List.filterMap_nil,List.getElem?_toArray,List.getElem?_cons_succ,List.getElem?_cons_zero]
  simp only [S9,R,seval,PY,PZ,pbp,g0,g2,g3,SX,normP_normal,normP_pan,t1,hid]
theorem no_cmp4:drawOK CC (opsOf (fpart Try.f81 [1,1,0,0,1,1,1,1,1,1,1,1,1,0,0]))=false:=by kernel_rfl
theorem ord_cmp4:orders (opsOf (fpart Try.f81 [1,1,0,0,1,1,1,1,1,1,1,1,1,0,0]))=[[0,1,2,3,4,5],[0,2,1,3,4,5],[2,0,1,3,4,5]]:=by kernel_rfl
theorem draw_cmp4_ok {bx:List PBox} {id:Nat} {L:List Tk} {i o:Nat} {RL:PV} (hR:RL.pure=true) (a b:Tr) {j:Nat} (hid:id < bx.length) (hc:clB bx)  (e:List PV) (g0:getT e 0=.bp id 0) (g2:getT e 2=.bp bx.length 0) (g3:getT e 3=.bp (bx.length+1) 0) (t1:∀ ys:List PBox,(ys.all fun x=>x.under (bx.length+ys.length))=true->callOp CC (callL CC) 84 [.bp id 0] (BX bx id (.cells 70 [.sl (tkVs L),.int .i64 ((i:Nat):Int),.int .i64 ((o:Nat):Int),RL]) ys)=some (.ret (.agg (exC b)),BX bx id (.cells 70 [.sl (tkVs L),.int .i64 ((j:Nat):Int),.int .i64 ((o:Nat):Int),RL]) ys)) :
 drawAll CC (callL CC) (opsOf (fpart Try.f81 [1,1,0,0,1,1,1,1,1,1,1,1,1,0,0])) ⟨e,BX bx id (PSR L i o RL) [.cells 34 [.int .i64 0,.int .i64 0,.int .i64 0,.str [],.int .i64 0,.int .i64 0,.str [],.int .i64 0,.str [],.str [],.nils],.cells 34 (exC a)]⟩=some (.normal,⟨(setT (setT (setT (setT (setT e 45 (.bp id 0)) 46 (.agg (exC b))) 47 (.agg (exC a))) 48 (.osl 34 [.agg (exC b),.agg (exC a)])) 49 (.agg (exC (nodT 10 [b,a])))),BX bx id (PSR L j o RL) [.cells 34 (exC (nodT 10 [b,a])),.cells 34 (exC a)]⟩):=by
 have hb:=bsE2 b a
 have hn:=nod2 10 b a
 refine drawAll_iff.2 ⟨by rw [ord_cmp4];simp,fun l hl=>?_⟩
 rw [ord_cmp4] at hl
 have pbp:pureL [PV.bp id 0]=false:=rfl
 unfold PSR
 obtain ⟨dr,ev,eo,so,co,⟨hev,hco,heo,hdr⟩,R⟩:=RULESB CC
 rw [<- heo]
 rw [<- hco] at t1 hn
 simp only [List.mem_cons,List.not_mem_nil,or_false] at hl
 rcases hl with rfl | rfl | rfl
 all_goals
  simp only [opsOf,fpart,part',Try.f81,Option.getD,pickOps,List.filterMap_cons,List.filterMap_nil,List.getElem?_toArray,List.getElem?_cons_succ,List.getElem?_cons_zero]
  simp only [S9,R,seval,PY,PZ,pbp,g0,g2,g3,SX,normP_normal,normP_pan,t1,hb,hn,hid]
  try simp only [setT_srt,Nat.reduceLT]
  try rw [setT_swap _ 47 45 _ _ (by decide)]
  try rw [setT_swap _ 47 46 _ _ (by decide)]
theorem draw_cmp4_bad {bx:List PBox} {id:Nat} {L:List Tk} {i o:Nat} {RL:PV} (hR:RL.pure=true) (a:Tr) {t:Nat} {c:Int} {i' o':Nat} (hid:id < bx.length) (hc:clB bx)  (e:List PV) (g0:getT e 0=.bp id 0) (g2:getT e 2=.bp bx.length 0) (g3:getT e 3=.bp (bx.length+1) 0) (t1:∀ ys:List PBox,(ys.all fun x=>x.under (bx.length+ys.length))=true->callOp CC (callL CC) 84 [.bp id 0] (BX bx id (.cells 70 [.sl (tkVs L),.int .i64 ((i:Nat):Int),.int .i64 ((o:Nat):Int),RL]) ys)=some (.pan (fltV t c),BX bx id (.cells 70 [.sl (tkVs L),.int .i64 ((i':Nat):Int),.int .i64 ((o':Nat):Int),RL]) ys)) :
 drawAll CC (callL CC) (opsOf (fpart Try.f81 [1,1,0,0,1,1,1,1,1,1,1,1,1,0,0])) ⟨e,BX bx id (PSR L i o RL) [.cells 34 [.int .i64 0,.int .i64 0,.int .i64 0,.str [],.int .i64 0,.int .i64 0,.str [],.int .i64 0,.str [],.str [],.nils],.cells 34 (exC a)]⟩=some (.pan (fltV t c),⟨[],BX bx id (PSR L i' o' RL) [.cells 34 [.int .i64 0,.int .i64 0,.int .i64 0,.str [],.int .i64 0,.int .i64 0,.str [],.int .i64 0,.str [],.str [],.nils],.cells 34 (exC a)]⟩):=by
 refine drawAll_iff.2 ⟨by rw [ord_cmp4];simp,fun l hl=>?_⟩
 rw [ord_cmp4] at hl
 have pbp:pureL [PV.bp id 0]=false:=rfl
 unfold PSR
 obtain ⟨dr,ev,eo,so,co,⟨hev,hco,heo,hdr⟩,R⟩:=RULESB CC
 rw [<- heo]
 rw [<- hco] at t1
 simp only [List.mem_cons,List.not_mem_nil,or_false] at hl
 rcases hl with rfl | rfl | rfl
 all_goals
  simp only [opsOf,fpart,part',Try.f81,Option.getD,pickOps,List.filterMap_cons,List.filterMap_nil,List.getElem?_toArray,List.getElem?_cons_succ,List.getElem?_cons_zero]
  simp only [S9,R,seval,PY,PZ,pbp,g0,g2,g3,SX,normP_normal,normP_pan,t1,hid]
theorem no_cmp5:drawOK CC (opsOf (fpart Try.f81 [1,1,0,0,1,1,1,1,1,1,1,1,1,1,1,0,0]))=false:=by kernel_rfl
theorem ord_cmp5:orders (opsOf (fpart Try.f81 [1,1,0,0,1,1,1,1,1,1,1,1,1,1,1,0,0]))=[[0,1,2,3,4,5,6,7],[0,2,1,3,4,5,6,7],[2,0,1,3,4,5,6,7]]:=by kernel_rfl
theorem draw_cmp5_ok {bx:List PBox} {id:Nat} {L:List Tk} {i o:Nat} {RL:PV} (hR:RL.pure=true) (a b:Tr) {j:Nat} (hid:id < bx.length) (hc:clB bx)  (e:List PV) (g0:getT e 0=.bp id 0) (g2:getT e 2=.bp bx.length 0) (g3:getT e 3=.bp (bx.length+1) 0) (t1:∀ ys:List PBox,(ys.all fun x=>x.under (bx.length+ys.length))=true->callOp CC (callL CC) 84 [.bp id 0] (BX bx id (.cells 70 [.sl (tkVs L),.int .i64 ((i:Nat):Int),.int .i64 ((o:Nat):Int),RL]) ys)=some (.ret (.agg (exC b)),BX bx id (.cells 70 [.sl (tkVs L),.int .i64 ((j:Nat):Int),.int .i64 ((o:Nat):Int),RL]) ys)) :
 drawAll CC (callL CC) (opsOf (fpart Try.f81 [1,1,0,0,1,1,1,1,1,1,1,1,1,1,1,0,0])) ⟨e,BX bx id (PSR L i o RL) [.cells 34 [.int .i64 0,.int .i64 0,.int .i64 0,.str [],.int .i64 0,.int .i64 0,.str [],.int .i64 0,.str [],.str [],.nils],.cells 34 (exC a)]⟩=some (.normal,⟨(setT (setT (setT (setT (setT (setT (setT e 53 (.bp id 0)) 54 (.agg (exC b))) 55 (.agg (exC a))) 56 (.osl 34 [.agg (exC b),.agg (exC a)])) 57 (.agg (exC (nodT 10 [b,a])))) 58 (.osl 34 [.agg (exC (nodT 10 [b,a]))])) 59 (.agg (exC (nodT 6 [nodT 10 [b,a]])))),BX bx id (PSR L j o RL) [.cells 34 (exC (nodT 6 [nodT 10 [b,a]])),.cells 34 (exC a)]⟩):=by
 have hb:=bsE2 b a
 have hn:=nod2 10 b a
 have hb1:=bsE1 (nodT 10 [b,a])
 have hn1:=nod1 6 (nodT 10 [b,a])
 refine drawAll_iff.2 ⟨by rw [ord_cmp5];simp,fun l hl=>?_⟩
 rw [ord_cmp5] at hl
 have pbp:pureL [PV.bp id 0]=false:=rfl
 unfold PSR
 obtain ⟨dr,ev,eo,so,co,⟨hev,hco,heo,hdr⟩,R⟩:=RULESB CC
 rw [<- heo]
 rw [<- hco] at t1 hn hn1
 simp only [List.mem_cons,List.not_mem_nil,or_false] at hl
 rcases hl with rfl | rfl | rfl
 all_goals
  simp only [opsOf,fpart,part',Try.f81,Option.getD,pickOps,List.filterMap_cons,List.filterMap_nil,List.getElem?_toArray,List.getElem?_cons_succ,List.getElem?_cons_zero]
  simp only [S9,R,seval,PY,PZ,pbp,g0,g2,g3,SX,normP_normal,normP_pan,t1,hb,hn,hb1,hn1,hid]
  try simp only [setT_srt,Nat.reduceLT]
  try rw [setT_swap _ 55 53 _ _ (by decide)]
  try rw [setT_swap _ 55 54 _ _ (by decide)]
theorem draw_cmp5_bad {bx:List PBox} {id:Nat} {L:List Tk} {i o:Nat} {RL:PV} (hR:RL.pure=true) (a:Tr) {t:Nat} {c:Int} {i' o':Nat} (hid:id < bx.length) (hc:clB bx)  (e:List PV) (g0:getT e 0=.bp id 0) (g2:getT e 2=.bp bx.length 0) (g3:getT e 3=.bp (bx.length+1) 0) (t1:∀ ys:List PBox,(ys.all fun x=>x.under (bx.length+ys.length))=true->callOp CC (callL CC) 84 [.bp id 0] (BX bx id (.cells 70 [.sl (tkVs L),.int .i64 ((i:Nat):Int),.int .i64 ((o:Nat):Int),RL]) ys)=some (.pan (fltV t c),BX bx id (.cells 70 [.sl (tkVs L),.int .i64 ((i':Nat):Int),.int .i64 ((o':Nat):Int),RL]) ys)) :
 drawAll CC (callL CC) (opsOf (fpart Try.f81 [1,1,0,0,1,1,1,1,1,1,1,1,1,1,1,0,0])) ⟨e,BX bx id (PSR L i o RL) [.cells 34 [.int .i64 0,.int .i64 0,.int .i64 0,.str [],.int .i64 0,.int .i64 0,.str [],.int .i64 0,.str [],.str [],.nils],.cells 34 (exC a)]⟩=some (.pan (fltV t c),⟨[],BX bx id (PSR L i' o' RL) [.cells 34 [.int .i64 0,.int .i64 0,.int .i64 0,.str [],.int .i64 0,.int .i64 0,.str [],.int .i64 0,.str [],.str [],.nils],.cells 34 (exC a)]⟩):=by
 refine drawAll_iff.2 ⟨by rw [ord_cmp5];simp,fun l hl=>?_⟩
 rw [ord_cmp5] at hl
 have pbp:pureL [PV.bp id 0]=false:=rfl
 unfold PSR
 obtain ⟨dr,ev,eo,so,co,⟨hev,hco,heo,hdr⟩,R⟩:=RULESB CC
 rw [<- heo]
 rw [<- hco] at t1
 simp only [List.mem_cons,List.not_mem_nil,or_false] at hl
 rcases hl with rfl | rfl | rfl
 all_goals
  simp only [opsOf,fpart,part',Try.f81,Option.getD,pickOps,List.filterMap_cons,List.filterMap_nil,List.getElem?_toArray,List.getElem?_cons_succ,List.getElem?_cons_zero]
  simp only [S9,R,seval,PY,PZ,pbp,g0,g2,g3,SX,normP_normal,normP_pan,t1,hid]
theorem cmp_cases (L:List Tk) (i:Nat):(∃ k,pickW L 4 i cmpWs 0=some k∧k < 6∧isT L 4 (cmpWs.getD k []) i=true∧∀ k',k' < k->isT L 4 (cmpWs.getD k' []) i=false)∨(pickW L 4 i cmpWs 0=none∧∀ k',k' < 6->isT L 4 (cmpWs.getD k' []) i=false):=by
 have gen:∀ (l:List (List UInt8)) (n:Nat),(∃ k,pickW L 4 i l n=some (n+k)∧k < l.length∧isT L 4 (l.getD k []) i=true∧∀ k',k' < k->isT L 4 (l.getD k' []) i=false)∨(pickW L 4 i l n=none∧∀ k',k' < l.length->isT L 4 (l.getD k' []) i=false):=by
  intro l
  induction l with
  | nil=>intro n;exact .inr ⟨rfl,fun k' h=>by simp at h⟩
  | cons w r ih=>
   intro n
   unfold pickW
   cases hw:isT L 4 w i with
   | true=>exact .inl ⟨0,rfl,by simp,hw,fun k' h=>by omega⟩
   | false=>
    simp only [Bool.false_eq_true,if_false]
    rcases ih (n+1) with ⟨k,h1,h2,h3,h4⟩ | ⟨h1,h2⟩
    · refine .inl ⟨k+1,by rw [h1];congr 1;omega,by simp;omega,h3,fun k' hk'=>?_⟩
      cases k' with
      | zero=>exact hw
      | succ k'=>exact h4 k' (by omega)
    · refine .inr ⟨h1,fun k' hk'=>?_⟩
      cases k' with
      | zero=>exact hw
      | succ k'=>exact h2 k' (by simpa using hk')
 rcases gen cmpWs 0 with ⟨k,h1,h2,h3,h4⟩ | ⟨h1,h2⟩
 · exact .inl ⟨k,by rw [h1,Nat.zero_add],h2,h3,h4⟩
 · exact .inr ⟨h1,h2⟩
end Go.HH
namespace Go.HH
open Go Go.Proofs
set_option maxRecDepth 100000
set_option maxHeartbeats 4000000
set_option linter.unusedSimpArgs false
set_option linter.unusedVariables false
theorem ctr_cmp {id:Nat} {L:List Tk} {RL:PV} (hR:RL.pure=true) (hT:TokOK L) (n:Nat) (hu:CtrE 84 .sum id L RL n):CtrE 81 .cmp id L RL (n+1):=by
 intro i o hi ho
 rw [pz]
 have pbp:pureL [PV.bp id 0]=false:=rfl
 have h0:=hu i o hi ho
 cases r0:pz L n .sum o i with
 | out=>exact ans_out
 | bad t c=>
  rw [r0] at h0
  obtain ⟨i',o',h0⟩:=h0
  refine ans_bad ⟨i',o',badx_of hR fun bx hid hc=>?_⟩
  have t0:=badx_use hid hc hR h0
  rw [callL_enterB (fn:=Try.f81) (c:=Try.f81.body.getD .skip) rfl rfl fatB_parse_parser_compare rfl noB_parse_parser_compare okB_parse_parser_compare (Nat.le_of_ble_eq_true rfl)]
  unfold PSR at ⊢
  obtain ⟨dr,ev,eo,so,co,⟨hev,hco,heo,hdr⟩,R⟩:=RULESB CC
  rw [<- hev]
  rw [<- hco] at t0
  simp only [opsOf,fpart,part',Try.f81,Option.getD] at ⊢
  simp only [S9,R,seval,PY,PZ,pbp,t0,SX,hid]
  exact ⟨_,rfl⟩
 | ok a i1=>
  rw [r0] at h0
  dsimp only [bind_okk]
  have hi1:=(pz_lt hT _ _ _ _ _ _ hi r0).2
  rcases cmp_cases L i1 with ⟨k,hp,hk6,ht,hf⟩ | ⟨hp,hf⟩
  · rw [hp]
    dsimp only
    have hi2:=isT_lt hT hi1 ht (by decide)
    have h1:=hu (i1+1) o hi2 ho
    have hkk:k=0∨k=1∨k=2∨k=3∨k=4∨k=5:=by omega
    cases r1:pz L n .sum o (i1+1) with
    | out=>exact ans_out
    | bad t c=>
     rw [r1] at h1
     obtain ⟨i',o',h1⟩:=h1
     rcases hkk with rfl | rfl | rfl | rfl | rfl | rfl
     · refine ans_bad ⟨i',o',badx_of hR fun bx hid hc=>?_⟩
       have t0:=okc_use hid hc hR h0
       rw [trV_exC] at t0
       have t1:=badx_use hid hc hR h1
       have f0:isT L 4 [61,61] i1=true:=ht
       have q0:=okc_use hid hc hR (okc_op_t (id:=id) (o:=o) hR hi1 hT _ f0)
       have hd:=fun e g0 g2 g3=>draw_cmp0_bad (L:=L) hR a hid hc e g0 g2 g3 t1
       rw [callL_enterB (fn:=Try.f81) (c:=Try.f81.body.getD .skip) rfl rfl fatB_parse_parser_compare rfl noB_parse_parser_compare okB_parse_parser_compare (Nat.le_of_ble_eq_true rfl)]
       simp only [<- drawM_all no_cmp0] at hd
       unfold PSR at⊢hd
       obtain ⟨dr,ev,eo,so,co,⟨hev,hco,heo,hdr⟩,R⟩:=RULESB CC
       rw [<- hev]
       rw [<- hco] at t0 q0
       rw [<- hdr] at hd
       simp only [opsOf,fpart,part',Try.f81,Option.getD] at⊢hd
       simp only [S9,R,seval,PY,PZ,pbp,t0,q0,hd,SX,hid]
       exact ⟨_,rfl⟩
     · refine ans_bad ⟨i',o',badx_of hR fun bx hid hc=>?_⟩
       have t0:=okc_use hid hc hR h0
       rw [trV_exC] at t0
       have t1:=badx_use hid hc hR h1
       have f0:isT L 4 [61,61] i1=false:=hf 0 (by decide)
       have q0:=okc_use hid hc hR (okc_op_f (id:=id) (o:=o) hR hi1 hT _ f0)
       have f1:isT L 4 [33,61] i1=true:=ht
       have q1:=okc_use hid hc hR (okc_op_t (id:=id) (o:=o) hR hi1 hT _ f1)
       have hd:=fun e g0 g2 g3=>draw_cmp1_bad (L:=L) hR a hid hc e g0 g2 g3 t1
       rw [callL_enterB (fn:=Try.f81) (c:=Try.f81.body.getD .skip) rfl rfl fatB_parse_parser_compare rfl noB_parse_parser_compare okB_parse_parser_compare (Nat.le_of_ble_eq_true rfl)]
       simp only [<- drawM_all no_cmp1] at hd
       unfold PSR at⊢hd
       obtain ⟨dr,ev,eo,so,co,⟨hev,hco,heo,hdr⟩,R⟩:=RULESB CC
       rw [<- hev]
       rw [<- hco] at t0 q0 q1
       rw [<- hdr] at hd
       simp only [opsOf,fpart,part',Try.f81,Option.getD] at⊢hd
       simp only [S9,R,seval,PY,PZ,pbp,t0,q0,q1,hd,SX,hid]
       exact ⟨_,rfl⟩
     · refine ans_bad ⟨i',o',badx_of hR fun bx hid hc=>?_⟩
       have t0:=okc_use hid hc hR h0
       rw [trV_exC] at t0
       have t1:=badx_use hid hc hR h1
       have f0:isT L 4 [61,61] i1=false:=hf 0 (by decide)
       have q0:=okc_use hid hc hR (okc_op_f (id:=id) (o:=o) hR hi1 hT _ f0)
       have f1:isT L 4 [33,61] i1=false:=hf 1 (by decide)
       have q1:=okc_use hid hc hR (okc_op_f (id:=id) (o:=o) hR hi1 hT _ f1)
       have f2:isT L 4 [60] i1=true:=ht
       have q2:=okc_use hid hc hR (okc_op_t (id:=id) (o:=o) hR hi1 hT _ f2)
       have hd:=fun e g0 g2 g3=>draw_cmp2_bad (L:=L) hR a hid hc e g0 g2 g3 t1
       rw [callL_enterB (fn:=Try.f81) (c:=Try.f81.body.getD .skip) rfl rfl fatB_parse_parser_compare rfl noB_parse_parser_compare okB_parse_parser_compare (Nat.le_of_ble_eq_true rfl)]
       simp only [<- drawM_all no_cmp2] at hd
       unfold PSR at⊢hd
       obtain ⟨dr,ev,eo,so,co,⟨hev,hco,heo,hdr⟩,R⟩:=RULESB CC
       rw [<- hev]
       rw [<- hco] at t0 q0 q1 q2
       rw [<- hdr] at hd
       simp only [opsOf,fpart,part',Try.f81,Option.getD] at⊢hd
       simp only [S9,R,seval,PY,PZ,pbp,t0,q0,q1,q2,hd,SX,hid]
       exact ⟨_,rfl⟩
     · refine ans_bad ⟨i',o',badx_of hR fun bx hid hc=>?_⟩
       have t0:=okc_use hid hc hR h0
       rw [trV_exC] at t0
       have t1:=badx_use hid hc hR h1
       have f0:isT L 4 [61,61] i1=false:=hf 0 (by decide)
       have q0:=okc_use hid hc hR (okc_op_f (id:=id) (o:=o) hR hi1 hT _ f0)
       have f1:isT L 4 [33,61] i1=false:=hf 1 (by decide)
       have q1:=okc_use hid hc hR (okc_op_f (id:=id) (o:=o) hR hi1 hT _ f1)
       have f2:isT L 4 [60] i1=false:=hf 2 (by decide)
       have q2:=okc_use hid hc hR (okc_op_f (id:=id) (o:=o) hR hi1 hT _ f2)
       have f3:isT L 4 [62,61] i1=true:=ht
       have q3:=okc_use hid hc hR (okc_op_t (id:=id) (o:=o) hR hi1 hT _ f3)
       have hd:=fun e g0 g2 g3=>draw_cmp3_bad (L:=L) hR a hid hc e g0 g2 g3 t1
       rw [callL_enterB (fn:=Try.f81) (c:=Try.f81.body.getD .skip) rfl rfl fatB_parse_parser_compare rfl noB_parse_parser_compare okB_parse_parser_compare (Nat.le_of_ble_eq_true rfl)]
       simp only [<- drawM_all no_cmp3] at hd
       unfold PSR at⊢hd
       obtain ⟨dr,ev,eo,so,co,⟨hev,hco,heo,hdr⟩,R⟩:=RULESB CC
       rw [<- hev]
       rw [<- hco] at t0 q0 q1 q2 q3
       rw [<- hdr] at hd
       simp only [opsOf,fpart,part',Try.f81,Option.getD] at⊢hd
       simp only [S9,R,seval,PY,PZ,pbp,t0,q0,q1,q2,q3,hd,SX,hid]
       exact ⟨_,rfl⟩
     · refine ans_bad ⟨i',o',badx_of hR fun bx hid hc=>?_⟩
       have t0:=okc_use hid hc hR h0
       rw [trV_exC] at t0
       have t1:=badx_use hid hc hR h1
       have f0:isT L 4 [61,61] i1=false:=hf 0 (by decide)
       have q0:=okc_use hid hc hR (okc_op_f (id:=id) (o:=o) hR hi1 hT _ f0)
       have f1:isT L 4 [33,61] i1=false:=hf 1 (by decide)
       have q1:=okc_use hid hc hR (okc_op_f (id:=id) (o:=o) hR hi1 hT _ f1)
       have f2:isT L 4 [60] i1=false:=hf 2 (by decide)
       have q2:=okc_use hid hc hR (okc_op_f (id:=id) (o:=o) hR hi1 hT _ f2)
       have f3:isT L 4 [62,61] i1=false:=hf 3 (by decide)
       have q3:=okc_use hid hc hR (okc_op_f (id:=id) (o:=o) hR hi1 hT _ f3)
       have f4:isT L 4 [62] i1=true:=ht
       have q4:=okc_use hid hc hR (okc_op_t (id:=id) (o:=o) hR hi1 hT _ f4)
       have hd:=fun e g0 g2 g3=>draw_cmp4_bad (L:=L) hR a hid hc e g0 g2 g3 t1
       rw [callL_enterB (fn:=Try.f81) (c:=Try.f81.body.getD .skip) rfl rfl fatB_parse_parser_compare rfl noB_parse_parser_compare okB_parse_parser_compare (Nat.le_of_ble_eq_true rfl)]
       simp only [<- drawM_all no_cmp4] at hd
       unfold PSR at⊢hd
       obtain ⟨dr,ev,eo,so,co,⟨hev,hco,heo,hdr⟩,R⟩:=RULESB CC
       rw [<- hev]
       rw [<- hco] at t0 q0 q1 q2 q3 q4
       rw [<- hdr] at hd
       simp only [opsOf,fpart,part',Try.f81,Option.getD] at⊢hd
       simp only [S9,R,seval,PY,PZ,pbp,t0,q0,q1,q2,q3,q4,hd,SX,hid]
       exact ⟨_,rfl⟩
     · refine ans_bad ⟨i',o',badx_of hR fun bx hid hc=>?_⟩
       have t0:=okc_use hid hc hR h0
       rw [trV_exC] at t0
       have t1:=badx_use hid hc hR h1
       have f0:isT L 4 [61,61] i1=false:=hf 0 (by decide)
       have q0:=okc_use hid hc hR (okc_op_f (id:=id) (o:=o) hR hi1 hT _ f0)
       have f1:isT L 4 [33,61] i1=false:=hf 1 (by decide)
       have q1:=okc_use hid hc hR (okc_op_f (id:=id) (o:=o) hR hi1 hT _ f1)
       have f2:isT L 4 [60] i1=false:=hf 2 (by decide)
       have q2:=okc_use hid hc hR (okc_op_f (id:=id) (o:=o) hR hi1 hT _ f2)
       have f3:isT L 4 [62,61] i1=false:=hf 3 (by decide)
       have q3:=okc_use hid hc hR (okc_op_f (id:=id) (o:=o) hR hi1 hT _ f3)
       have f4:isT L 4 [62] i1=false:=hf 4 (by decide)
       have q4:=okc_use hid hc hR (okc_op_f (id:=id) (o:=o) hR hi1 hT _ f4)
       have f5:isT L 4 [60,61] i1=true:=ht
       have q5:=okc_use hid hc hR (okc_op_t (id:=id) (o:=o) hR hi1 hT _ f5)
       have hd:=fun e g0 g2 g3=>draw_cmp5_bad (L:=L) hR a hid hc e g0 g2 g3 t1
       rw [callL_enterB (fn:=Try.f81) (c:=Try.f81.body.getD .skip) rfl rfl fatB_parse_parser_compare rfl noB_parse_parser_compare okB_parse_parser_compare (Nat.le_of_ble_eq_true rfl)]
       simp only [<- drawM_all no_cmp5] at hd
       unfold PSR at⊢hd
       obtain ⟨dr,ev,eo,so,co,⟨hev,hco,heo,hdr⟩,R⟩:=RULESB CC
       rw [<- hev]
       rw [<- hco] at t0 q0 q1 q2 q3 q4 q5
       rw [<- hdr] at hd
       simp only [opsOf,fpart,part',Try.f81,Option.getD] at⊢hd
       simp only [S9,R,seval,PY,PZ,pbp,t0,q0,q1,q2,q3,q4,q5,hd,SX,hid]
       exact ⟨_,rfl⟩
    | ok b j=>
     rw [r1] at h1
     dsimp only [bind_okk]
     rcases hkk with rfl | rfl | rfl | rfl | rfl | rfl
     · refine ans_ok (okc_of hR (fun n=>by rw [trV_exC];simp only [SX,PV.under]) fun bx hid hc=>?_)
       have t0:=okc_use hid hc hR h0
       rw [trV_exC] at t0
       have t1:=okc_use hid hc hR h1
       rw [trV_exC] at t1 ⊢
       unfold cmpT
       have f0:isT L 4 [61,61] i1=true:=ht
       have q0:=okc_use hid hc hR (okc_op_t (id:=id) (o:=o) hR hi1 hT _ f0)
       have hd:=fun e g0 g2 g3=>draw_cmp0_ok (L:=L) hR a b hid hc e g0 g2 g3 t1
       rw [callL_enterB (fn:=Try.f81) (c:=Try.f81.body.getD .skip) rfl rfl fatB_parse_parser_compare rfl noB_parse_parser_compare okB_parse_parser_compare (Nat.le_of_ble_eq_true rfl)]
       simp only [<- drawM_all no_cmp0] at hd
       unfold PSR at⊢hd
       obtain ⟨dr,ev,eo,so,co,⟨hev,hco,heo,hdr⟩,R⟩:=RULESB CC
       rw [<- hev]
       rw [<- hco] at t0 q0
       rw [<- hdr] at hd
       simp only [opsOf,fpart,part',Try.f81,Option.getD] at⊢hd
       simp only [S9,R,seval,PY,PZ,pbp,t0,q0,hd,SX,hid]
       exact ⟨_,rfl⟩
     · refine ans_ok (okc_of hR (fun n=>by rw [trV_exC];simp only [SX,PV.under]) fun bx hid hc=>?_)
       have t0:=okc_use hid hc hR h0
       rw [trV_exC] at t0
       have t1:=okc_use hid hc hR h1
       rw [trV_exC] at t1 ⊢
       unfold cmpT
       have f0:isT L 4 [61,61] i1=false:=hf 0 (by decide)
       have q0:=okc_use hid hc hR (okc_op_f (id:=id) (o:=o) hR hi1 hT _ f0)
       have f1:isT L 4 [33,61] i1=true:=ht
       have q1:=okc_use hid hc hR (okc_op_t (id:=id) (o:=o) hR hi1 hT _ f1)
       have hd:=fun e g0 g2 g3=>draw_cmp1_ok (L:=L) hR a b hid hc e g0 g2 g3 t1
       rw [callL_enterB (fn:=Try.f81) (c:=Try.f81.body.getD .skip) rfl rfl fatB_parse_parser_compare rfl noB_parse_parser_compare okB_parse_parser_compare (Nat.le_of_ble_eq_true rfl)]
       simp only [<- drawM_all no_cmp1] at hd
       unfold PSR at⊢hd
       obtain ⟨dr,ev,eo,so,co,⟨hev,hco,heo,hdr⟩,R⟩:=RULESB CC
       rw [<- hev]
       rw [<- hco] at t0 q0 q1
       rw [<- hdr] at hd
       simp only [opsOf,fpart,part',Try.f81,Option.getD] at⊢hd
       simp only [S9,R,seval,PY,PZ,pbp,t0,q0,q1,hd,SX,hid]
       exact ⟨_,rfl⟩
     · refine ans_ok (okc_of hR (fun n=>by rw [trV_exC];simp only [SX,PV.under]) fun bx hid hc=>?_)
       have t0:=okc_use hid hc hR h0
       rw [trV_exC] at t0
       have t1:=okc_use hid hc hR h1
       rw [trV_exC] at t1 ⊢
       unfold cmpT
       have f0:isT L 4 [61,61] i1=false:=hf 0 (by decide)
       have q0:=okc_use hid hc hR (okc_op_f (id:=id) (o:=o) hR hi1 hT _ f0)
       have f1:isT L 4 [33,61] i1=false:=hf 1 (by decide)
       have q1:=okc_use hid hc hR (okc_op_f (id:=id) (o:=o) hR hi1 hT _ f1)
       have f2:isT L 4 [60] i1=true:=ht
       have q2:=okc_use hid hc hR (okc_op_t (id:=id) (o:=o) hR hi1 hT _ f2)
       have hd:=fun e g0 g2 g3=>draw_cmp2_ok (L:=L) hR a b hid hc e g0 g2 g3 t1
       rw [callL_enterB (fn:=Try.f81) (c:=Try.f81.body.getD .skip) rfl rfl fatB_parse_parser_compare rfl noB_parse_parser_compare okB_parse_parser_compare (Nat.le_of_ble_eq_true rfl)]
       simp only [<- drawM_all no_cmp2] at hd
       unfold PSR at⊢hd
       obtain ⟨dr,ev,eo,so,co,⟨hev,hco,heo,hdr⟩,R⟩:=RULESB CC
       rw [<- hev]
       rw [<- hco] at t0 q0 q1 q2
       rw [<- hdr] at hd
       simp only [opsOf,fpart,part',Try.f81,Option.getD] at⊢hd
       simp only [S9,R,seval,PY,PZ,pbp,t0,q0,q1,q2,hd,SX,hid]
       exact ⟨_,rfl⟩
     · refine ans_ok (okc_of hR (fun n=>by rw [trV_exC];simp only [SX,PV.under]) fun bx hid hc=>?_)
       have t0:=okc_use hid hc hR h0
       rw [trV_exC] at t0
       have t1:=okc_use hid hc hR h1
       rw [trV_exC] at t1 ⊢
       unfold cmpT
       have f0:isT L 4 [61,61] i1=false:=hf 0 (by decide)
       have q0:=okc_use hid hc hR (okc_op_f (id:=id) (o:=o) hR hi1 hT _ f0)
       have f1:isT L 4 [33,61] i1=false:=hf 1 (by decide)
       have q1:=okc_use hid hc hR (okc_op_f (id:=id) (o:=o) hR hi1 hT _ f1)
       have f2:isT L 4 [60] i1=false:=hf 2 (by decide)
       have q2:=okc_use hid hc hR (okc_op_f (id:=id) (o:=o) hR hi1 hT _ f2)
       have f3:isT L 4 [62,61] i1=true:=ht
       have q3:=okc_use hid hc hR (okc_op_t (id:=id) (o:=o) hR hi1 hT _ f3)
       have hd:=fun e g0 g2 g3=>draw_cmp3_ok (L:=L) hR a b hid hc e g0 g2 g3 t1
       rw [callL_enterB (fn:=Try.f81) (c:=Try.f81.body.getD .skip) rfl rfl fatB_parse_parser_compare rfl noB_parse_parser_compare okB_parse_parser_compare (Nat.le_of_ble_eq_true rfl)]
       simp only [<- drawM_all no_cmp3] at hd
       unfold PSR at⊢hd
       obtain ⟨dr,ev,eo,so,co,⟨hev,hco,heo,hdr⟩,R⟩:=RULESB CC
       rw [<- hev]
       rw [<- hco] at t0 q0 q1 q2 q3
       rw [<- hdr] at hd
       simp only [opsOf,fpart,part',Try.f81,Option.getD] at⊢hd
       simp only [S9,R,seval,PY,PZ,pbp,t0,q0,q1,q2,q3,hd,SX,hid]
       exact ⟨_,rfl⟩
     · refine ans_ok (okc_of hR (fun n=>by rw [trV_exC];simp only [SX,PV.under]) fun bx hid hc=>?_)
       have t0:=okc_use hid hc hR h0
       rw [trV_exC] at t0
       have t1:=okc_use hid hc hR h1
       rw [trV_exC] at t1 ⊢
       unfold cmpT
       have f0:isT L 4 [61,61] i1=false:=hf 0 (by decide)
       have q0:=okc_use hid hc hR (okc_op_f (id:=id) (o:=o) hR hi1 hT _ f0)
       have f1:isT L 4 [33,61] i1=false:=hf 1 (by decide)
       have q1:=okc_use hid hc hR (okc_op_f (id:=id) (o:=o) hR hi1 hT _ f1)
       have f2:isT L 4 [60] i1=false:=hf 2 (by decide)
       have q2:=okc_use hid hc hR (okc_op_f (id:=id) (o:=o) hR hi1 hT _ f2)
       have f3:isT L 4 [62,61] i1=false:=hf 3 (by decide)
       have q3:=okc_use hid hc hR (okc_op_f (id:=id) (o:=o) hR hi1 hT _ f3)
       have f4:isT L 4 [62] i1=true:=ht
       have q4:=okc_use hid hc hR (okc_op_t (id:=id) (o:=o) hR hi1 hT _ f4)
       have hd:=fun e g0 g2 g3=>draw_cmp4_ok (L:=L) hR a b hid hc e g0 g2 g3 t1
       rw [callL_enterB (fn:=Try.f81) (c:=Try.f81.body.getD .skip) rfl rfl fatB_parse_parser_compare rfl noB_parse_parser_compare okB_parse_parser_compare (Nat.le_of_ble_eq_true rfl)]
       simp only [<- drawM_all no_cmp4] at hd
       unfold PSR at⊢hd
       obtain ⟨dr,ev,eo,so,co,⟨hev,hco,heo,hdr⟩,R⟩:=RULESB CC
       rw [<- hev]
       rw [<- hco] at t0 q0 q1 q2 q3 q4
       rw [<- hdr] at hd
       simp only [opsOf,fpart,part',Try.f81,Option.getD] at⊢hd
       simp only [S9,R,seval,PY,PZ,pbp,t0,q0,q1,q2,q3,q4,hd,SX,hid]
       exact ⟨_,rfl⟩
     · refine ans_ok (okc_of hR (fun n=>by rw [trV_exC];simp only [SX,PV.under]) fun bx hid hc=>?_)
       have t0:=okc_use hid hc hR h0
       rw [trV_exC] at t0
       have t1:=okc_use hid hc hR h1
       rw [trV_exC] at t1 ⊢
       unfold cmpT
       have f0:isT L 4 [61,61] i1=false:=hf 0 (by decide)
       have q0:=okc_use hid hc hR (okc_op_f (id:=id) (o:=o) hR hi1 hT _ f0)
       have f1:isT L 4 [33,61] i1=false:=hf 1 (by decide)
       have q1:=okc_use hid hc hR (okc_op_f (id:=id) (o:=o) hR hi1 hT _ f1)
       have f2:isT L 4 [60] i1=false:=hf 2 (by decide)
       have q2:=okc_use hid hc hR (okc_op_f (id:=id) (o:=o) hR hi1 hT _ f2)
       have f3:isT L 4 [62,61] i1=false:=hf 3 (by decide)
       have q3:=okc_use hid hc hR (okc_op_f (id:=id) (o:=o) hR hi1 hT _ f3)
       have f4:isT L 4 [62] i1=false:=hf 4 (by decide)
       have q4:=okc_use hid hc hR (okc_op_f (id:=id) (o:=o) hR hi1 hT _ f4)
       have f5:isT L 4 [60,61] i1=true:=ht
       have q5:=okc_use hid hc hR (okc_op_t (id:=id) (o:=o) hR hi1 hT _ f5)
       have hd:=fun e g0 g2 g3=>draw_cmp5_ok (L:=L) hR a b hid hc e g0 g2 g3 t1
       rw [callL_enterB (fn:=Try.f81) (c:=Try.f81.body.getD .skip) rfl rfl fatB_parse_parser_compare rfl noB_parse_parser_compare okB_parse_parser_compare (Nat.le_of_ble_eq_true rfl)]
       simp only [<- drawM_all no_cmp5] at hd
       unfold PSR at⊢hd
       obtain ⟨dr,ev,eo,so,co,⟨hev,hco,heo,hdr⟩,R⟩:=RULESB CC
       rw [<- hev]
       rw [<- hco] at t0 q0 q1 q2 q3 q4 q5
       rw [<- hdr] at hd
       simp only [opsOf,fpart,part',Try.f81,Option.getD] at⊢hd
       simp only [S9,R,seval,PY,PZ,pbp,t0,q0,q1,q2,q3,q4,q5,hd,SX,hid]
       exact ⟨_,rfl⟩
  · rw [hp]
    refine ans_ok (okc_of hR (fun n=>by rw [trV_exC];simp only [SX,PV.under]) fun bx hid hc=>?_)
    have t0:=okc_use hid hc hR h0
    rw [trV_exC] at t0 ⊢
    have f0:isT L 4 [61,61] i1=false:=hf 0 (by decide)
    have q0:=okc_use hid hc hR (okc_op_f (id:=id) (o:=o) hR hi1 hT _ f0)
    have f1:isT L 4 [33,61] i1=false:=hf 1 (by decide)
    have q1:=okc_use hid hc hR (okc_op_f (id:=id) (o:=o) hR hi1 hT _ f1)
    have f2:isT L 4 [60] i1=false:=hf 2 (by decide)
    have q2:=okc_use hid hc hR (okc_op_f (id:=id) (o:=o) hR hi1 hT _ f2)
    have f3:isT L 4 [62,61] i1=false:=hf 3 (by decide)
    have q3:=okc_use hid hc hR (okc_op_f (id:=id) (o:=o) hR hi1 hT _ f3)
    have f4:isT L 4 [62] i1=false:=hf 4 (by decide)
    have q4:=okc_use hid hc hR (okc_op_f (id:=id) (o:=o) hR hi1 hT _ f4)
    have f5:isT L 4 [60,61] i1=false:=hf 5 (by decide)
    have q5:=okc_use hid hc hR (okc_op_f (id:=id) (o:=o) hR hi1 hT _ f5)
    rw [callL_enterB (fn:=Try.f81) (c:=Try.f81.body.getD .skip) rfl rfl fatB_parse_parser_compare rfl noB_parse_parser_compare okB_parse_parser_compare (Nat.le_of_ble_eq_true rfl)]
    unfold PSR at ⊢
    obtain ⟨dr,ev,eo,so,co,⟨hev,hco,heo,hdr⟩,R⟩:=RULESB CC
    rw [<- hev]
    rw [<- hco] at t0 q0 q1 q2 q3 q4 q5
    simp only [opsOf,fpart,part',Try.f81,Option.getD] at ⊢
    simp only [S9,R,seval,PY,PZ,pbp,t0,q0,q1,q2,q3,q4,q5,SX,hid]
    exact ⟨_,rfl⟩
end Go.HH
