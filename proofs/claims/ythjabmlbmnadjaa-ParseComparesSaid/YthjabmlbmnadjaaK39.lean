/-
  What the law needs, packed: PV PW RA RB.
-/
import Derived.Test.YthjabmlbmnadjaaK38
namespace Go.HH
open Go Go.Proofs
set_option maxRecDepth 100000
set_option maxHeartbeats 4000000
set_option linter.unusedSimpArgs false
set_option linter.unusedVariables false
theorem ctr_expr {id:Nat} {L:List Tk} {RL:PV} (hR:RL.pure=true) (hT:TokOK L) (n:Nat) (hx:CtrE 54 .expr id L RL n) (hn:∀ m,m < n->CtrE 67 .not id L RL m):CtrE 54 .expr id L RL (n+1):=by
 intro i o hi ho
 rw [pz]
 cases f0:isT L 1 [105,102] i with
 | false=>
  simp only [Bool.false_eq_true,if_false]
  obtain ⟨I1,O1,hcl⟩:=closure_call (id:=id) (RL:=RL) hR hT n hn
  have h1:=chc_all (id:=id) (RL:=RL) hR hT true n I1 O1 i o hi ho
  cases r1:pz L n (.chain true) o i with
  | out=>exact ans_out
  | bad t c=>
   rw [r1] at h1
   obtain ⟨i',o',h1⟩:=h1
   refine ans_bad ⟨i',o',badx_of hR fun bx hid hc=>?_⟩
   have hd:∀ k,id < bx.length+k:=fun k=>by omega
   have t0:=okc_use hid hc hR (okc_token (id:=id) (o:=o) hR hi)
   have q0:=okc_use hid hc hR (okc_word_f (id:=id) (o:=o) hR hi hT _ f0)
   have hbn:(BX bx id (PSR L i o RL) [.cells 63 [.bp id 0],.cells 34 [.int .i64 0,.int .i64 0,.int .i64 0,.str [],.int .i64 0,.int .i64 0,.str [],.int .i64 0,.str [],.str [],.nils],.cells 66 [.int .i64 ((tokAt L i).1:Int),.str (tokAt L i).2.1,.int .i64 ((tokAt L i).2.2:Int)]])[bx.length]?=some (.cells 63 [.bp id 0]):=by rw [BX_get0];rfl
   have hP1:hasP L i o RL id (BX bx id (PSR L i o RL) [.cells 63 [.bp id 0],.cells 34 [.int .i64 0,.int .i64 0,.int .i64 0,.str [],.int .i64 0,.int .i64 0,.str [],.int .i64 0,.str [],.str [],.nils],.cells 66 [.int .i64 ((tokAt L i).1:Int),.str (tokAt L i).2.1,.int .i64 ((tokAt L i).2.2:Int)]]):=hasP_BX (i0:=i) (o0:=o) hid hc hR (by simp only [SU,SX,List.length_cons,List.length_nil];simpa using (by omega:id < bx.length+3))
   have t1:=h1 66 [] [.bp bx.length 0] [.bp bx.length 0] rfl rfl _ (hcl _ bx.length hbn (by omega)) hP1
   rw [BX_set hid] at t1
   unfold kkC chW at t1
   simp only [if_true] at t1
   rw [callL_enter (fn:=Try.f54) (c:=Try.f54.body.getD .skip) rfl rfl fat_parse_parser_expr rfl ok_parse_parser_expr (Nat.le_of_ble_eq_true rfl)]
   have pbp:pureL [PV.bp id 0]=false:=rfl
   unfold PSR at *
   obtain ⟨ev,eo,so,co,⟨hev,hco⟩,R⟩:=RULES CC;rw [<- hev]
   rw [<- hco] at t0 q0 t1
   simp only [fpart,part',Try.f54,Option.getD]
   simp only [S9,R,seval,PY,PZ,pbp,dynR,t0,q0,t1,SX,hd,hid]
   exact ⟨_,rfl⟩
  | ok a j=>
   rw [r1] at h1
   refine ans_ok (okc_of hR (fun n=>by rw [trV_exC];simp only [SX,PV.under]) fun bx hid hc=>?_)
   have hd:∀ k,id < bx.length+k:=fun k=>by omega
   have t0:=okc_use hid hc hR (okc_token (id:=id) (o:=o) hR hi)
   have q0:=okc_use hid hc hR (okc_word_f (id:=id) (o:=o) hR hi hT _ f0)
   have hbn:(BX bx id (PSR L i o RL) [.cells 63 [.bp id 0],.cells 34 [.int .i64 0,.int .i64 0,.int .i64 0,.str [],.int .i64 0,.int .i64 0,.str [],.int .i64 0,.str [],.str [],.nils],.cells 66 [.int .i64 ((tokAt L i).1:Int),.str (tokAt L i).2.1,.int .i64 ((tokAt L i).2.2:Int)]])[bx.length]?=some (.cells 63 [.bp id 0]):=by rw [BX_get0];rfl
   have hP1:hasP L i o RL id (BX bx id (PSR L i o RL) [.cells 63 [.bp id 0],.cells 34 [.int .i64 0,.int .i64 0,.int .i64 0,.str [],.int .i64 0,.int .i64 0,.str [],.int .i64 0,.str [],.str [],.nils],.cells 66 [.int .i64 ((tokAt L i).1:Int),.str (tokAt L i).2.1,.int .i64 ((tokAt L i).2.2:Int)]]):=hasP_BX (i0:=i) (o0:=o) hid hc hR (by simp only [SU,SX,List.length_cons,List.length_nil];simpa using (by omega:id < bx.length+3))
   have t1:=h1 66 [] [.bp bx.length 0] [.bp bx.length 0] rfl rfl _ (hcl _ bx.length hbn (by omega)) hP1
   rw [BX_set hid] at t1
   rw [trV_exC] at t1 ⊢
   unfold kkC chW at t1
   simp only [if_true] at t1
   rw [callL_enter (fn:=Try.f54) (c:=Try.f54.body.getD .skip) rfl rfl fat_parse_parser_expr rfl ok_parse_parser_expr (Nat.le_of_ble_eq_true rfl)]
   have pbp:pureL [PV.bp id 0]=false:=rfl
   unfold PSR at *
   obtain ⟨ev,eo,so,co,⟨hev,hco⟩,R⟩:=RULES CC;rw [<- hev]
   rw [<- hco] at t0 q0 t1
   simp only [fpart,part',Try.f54,Option.getD]
   simp only [S9,R,seval,PY,PZ,pbp,dynR,t0,q0,t1,SX,hd,hid]
   exact ⟨_,rfl⟩
 | true=>
  simp only [if_true]
  have hi1:=isT_lt hT hi f0 (by decide)
  by_cases hlt:o < 100
  · rw [if_pos hlt]
    have hwo:IntKind.wrap .i64 (((o+1:Nat):Int) - 1)=((o:Nat):Int):=by rw [wrap_i64 ⟨by omega,by omega⟩];omega
    have h1:=hx (i+1) (o+1) hi1 (by omega)
    cases r1:pz L n .expr (o+1) (i+1) with
    | out=>exact ans_out
    | bad t e=>
     rw [r1] at h1
     obtain ⟨i',o',h1⟩:=h1
     refine ans_bad ⟨i',o',badx_of hR fun bx hid hc=>?_⟩
     have hd:∀ k,id < bx.length+k:=fun k=>by omega
     have t0:=okc_use hid hc hR (okc_token (id:=id) (o:=o) hR hi)
     have q0:=okc_use hid hc hR (okc_word_t (id:=id) (o:=o) hR hi hT _ f0)
     have te:=okc_use hid hc hR (okc_enter (id:=id) (L:=L) (i:=i+1) hR hlt (tokAt L i).1 (tokAt L i).2.1 (tokAt L i).2.2)
     have t1:=badx_use hid hc hR h1
     rw [callL_enter (fn:=Try.f54) (c:=Try.f54.body.getD .skip) rfl rfl fat_parse_parser_expr rfl ok_parse_parser_expr (Nat.le_of_ble_eq_true rfl)]
     have pbp:pureL [PV.bp id 0]=false:=rfl
     unfold PSR
     obtain ⟨ev,eo,so,co,⟨hev,hco⟩,R⟩:=RULES CC;rw [<- hev]
     rw [<- hco] at t0 q0 te t1
     simp only [fpart,part',Try.f54,Option.getD]
     simp only [S9,R,seval,PY,PZ,pbp,dynR,t0,q0,te,t1,SX,hd,hid]
     exact ⟨_,rfl⟩
    | ok a1 i1=>
     rw [r1] at h1
     dsimp only [bind_okk]
     have j1:=pz_lt hT _ _ _ _ _ _ hi1 r1
     have hi1:=j1.2
     have h2:=ans_must (id:=id) (o:=o+1) (i:=i1) hR hi1 hT 1 1 rfl [116,104,101,110]
     cases r2:mustP L 1 [116,104,101,110] i1 with
     | out=>exact ans_out
     | bad t e=>
      rw [r2] at h2
      obtain ⟨i',o',h2⟩:=h2
      refine ans_bad ⟨i',o',badx_of hR fun bx hid hc=>?_⟩
      have hd:∀ k,id < bx.length+k:=fun k=>by omega
      have t0:=okc_use hid hc hR (okc_token (id:=id) (o:=o) hR hi)
      have q0:=okc_use hid hc hR (okc_word_t (id:=id) (o:=o) hR hi hT _ f0)
      have te:=okc_use hid hc hR (okc_enter (id:=id) (L:=L) (i:=i+1) hR hlt (tokAt L i).1 (tokAt L i).2.1 (tokAt L i).2.2)
      have t1:=okc_use hid hc hR h1
      rw [trV_exC] at t1
      have t2:=badx_use hid hc hR h2
      rw [callL_enter (fn:=Try.f54) (c:=Try.f54.body.getD .skip) rfl rfl fat_parse_parser_expr rfl ok_parse_parser_expr (Nat.le_of_ble_eq_true rfl)]
      have pbp:pureL [PV.bp id 0]=false:=rfl
      unfold PSR
      obtain ⟨ev,eo,so,co,⟨hev,hco⟩,R⟩:=RULES CC;rw [<- hev]
      rw [<- hco] at t0 q0 te t1 t2
      simp only [fpart,part',Try.f54,Option.getD]
      simp only [S9,R,seval,PY,PZ,pbp,dynR,t0,q0,te,t1,t2,SX,hd,hid]
      exact ⟨_,rfl⟩
     | ok a2 i2=>
      rw [r2] at h2
      dsimp only [bind_okk]
      have j2:=mustP_lt hT hi1 (by decide) r2
      have hi2:=j2.2
      have h3:=hx i2 (o+1) hi2 (by omega)
      cases r3:pz L n .expr (o+1) i2 with
      | out=>exact ans_out
      | bad t e=>
       rw [r3] at h3
       obtain ⟨i',o',h3⟩:=h3
       refine ans_bad ⟨i',o',badx_of hR fun bx hid hc=>?_⟩
       have hd:∀ k,id < bx.length+k:=fun k=>by omega
       have t0:=okc_use hid hc hR (okc_token (id:=id) (o:=o) hR hi)
       have q0:=okc_use hid hc hR (okc_word_t (id:=id) (o:=o) hR hi hT _ f0)
       have te:=okc_use hid hc hR (okc_enter (id:=id) (L:=L) (i:=i+1) hR hlt (tokAt L i).1 (tokAt L i).2.1 (tokAt L i).2.2)
       have t1:=okc_use hid hc hR h1
       rw [trV_exC] at t1
       have t2:=okc_use hid hc hR h2
       have t3:=badx_use hid hc hR h3
       rw [callL_enter (fn:=Try.f54) (c:=Try.f54.body.getD .skip) rfl rfl fat_parse_parser_expr rfl ok_parse_parser_expr (Nat.le_of_ble_eq_true rfl)]
       have pbp:pureL [PV.bp id 0]=false:=rfl
       unfold PSR
       obtain ⟨ev,eo,so,co,⟨hev,hco⟩,R⟩:=RULES CC;rw [<- hev]
       rw [<- hco] at t0 q0 te t1 t2 t3
       simp only [fpart,part',Try.f54,Option.getD]
       simp only [S9,R,seval,PY,PZ,pbp,dynR,t0,q0,te,t1,t2,t3,SX,hd,hid]
       exact ⟨_,rfl⟩
      | ok a3 i3=>
       rw [r3] at h3
       dsimp only [bind_okk]
       have j3:=pz_lt hT _ _ _ _ _ _ hi2 r3
       have hi3:=j3.2
       have h4:=ans_must (id:=id) (o:=o+1) (i:=i3) hR hi3 hT 1 1 rfl [101,108,115,101]
       cases r4:mustP L 1 [101,108,115,101] i3 with
       | out=>exact ans_out
       | bad t e=>
        rw [r4] at h4
        obtain ⟨i',o',h4⟩:=h4
        refine ans_bad ⟨i',o',badx_of hR fun bx hid hc=>?_⟩
        have hd:∀ k,id < bx.length+k:=fun k=>by omega
        have t0:=okc_use hid hc hR (okc_token (id:=id) (o:=o) hR hi)
        have q0:=okc_use hid hc hR (okc_word_t (id:=id) (o:=o) hR hi hT _ f0)
        have te:=okc_use hid hc hR (okc_enter (id:=id) (L:=L) (i:=i+1) hR hlt (tokAt L i).1 (tokAt L i).2.1 (tokAt L i).2.2)
        have t1:=okc_use hid hc hR h1
        rw [trV_exC] at t1
        have t2:=okc_use hid hc hR h2
        have t3:=okc_use hid hc hR h3
        rw [trV_exC] at t3
        have t4:=badx_use hid hc hR h4
        rw [callL_enter (fn:=Try.f54) (c:=Try.f54.body.getD .skip) rfl rfl fat_parse_parser_expr rfl ok_parse_parser_expr (Nat.le_of_ble_eq_true rfl)]
        have pbp:pureL [PV.bp id 0]=false:=rfl
        unfold PSR
        obtain ⟨ev,eo,so,co,⟨hev,hco⟩,R⟩:=RULES CC;rw [<- hev]
        rw [<- hco] at t0 q0 te t1 t2 t3 t4
        simp only [fpart,part',Try.f54,Option.getD]
        simp only [S9,R,seval,PY,PZ,pbp,dynR,t0,q0,te,t1,t2,t3,t4,SX,hd,hid]
        exact ⟨_,rfl⟩
       | ok a4 i4=>
        rw [r4] at h4
        dsimp only [bind_okk]
        have j4:=mustP_lt hT hi3 (by decide) r4
        have hi4:=j4.2
        have h5:=hx i4 (o+1) hi4 (by omega)
        cases r5:pz L n .expr (o+1) i4 with
        | out=>exact ans_out
        | bad t e=>
         rw [r5] at h5
         obtain ⟨i',o',h5⟩:=h5
         refine ans_bad ⟨i',o',badx_of hR fun bx hid hc=>?_⟩
         have hd:∀ k,id < bx.length+k:=fun k=>by omega
         have t0:=okc_use hid hc hR (okc_token (id:=id) (o:=o) hR hi)
         have q0:=okc_use hid hc hR (okc_word_t (id:=id) (o:=o) hR hi hT _ f0)
         have te:=okc_use hid hc hR (okc_enter (id:=id) (L:=L) (i:=i+1) hR hlt (tokAt L i).1 (tokAt L i).2.1 (tokAt L i).2.2)
         have t1:=okc_use hid hc hR h1
         rw [trV_exC] at t1
         have t2:=okc_use hid hc hR h2
         have t3:=okc_use hid hc hR h3
         rw [trV_exC] at t3
         have t4:=okc_use hid hc hR h4
         have t5:=badx_use hid hc hR h5
         rw [callL_enter (fn:=Try.f54) (c:=Try.f54.body.getD .skip) rfl rfl fat_parse_parser_expr rfl ok_parse_parser_expr (Nat.le_of_ble_eq_true rfl)]
         have pbp:pureL [PV.bp id 0]=false:=rfl
         unfold PSR
         obtain ⟨ev,eo,so,co,⟨hev,hco⟩,R⟩:=RULES CC;rw [<- hev]
         rw [<- hco] at t0 q0 te t1 t2 t3 t4 t5
         simp only [fpart,part',Try.f54,Option.getD]
         simp only [S9,R,seval,PY,PZ,pbp,dynR,t0,q0,te,t1,t2,t3,t4,t5,SX,hd,hid]
         exact ⟨_,rfl⟩
        | ok a5 i5=>
         rw [r5] at h5
         dsimp only [bind_okk]
         have j5:=pz_lt hT _ _ _ _ _ _ hi4 r5
         have hi5:=j5.2
         have hb:=bsE3 a1 a3 a5
         have hn3:=nod3 14 a1 a3 a5
         refine ans_ok (okc_of hR (fun n=>by rw [trV_exC];simp only [SX,PV.under]) fun bx hid hc=>?_)
         have hd:∀ k,id < bx.length+k:=fun k=>by omega
         have t0:=okc_use hid hc hR (okc_token (id:=id) (o:=o) hR hi)
         have q0:=okc_use hid hc hR (okc_word_t (id:=id) (o:=o) hR hi hT _ f0)
         have te:=okc_use hid hc hR (okc_enter (id:=id) (L:=L) (i:=i+1) hR hlt (tokAt L i).1 (tokAt L i).2.1 (tokAt L i).2.2)
         have t1:=okc_use hid hc hR h1
         rw [trV_exC] at t1
         have t2:=okc_use hid hc hR h2
         have t3:=okc_use hid hc hR h3
         rw [trV_exC] at t3
         have t4:=okc_use hid hc hR h4
         have t5:=okc_use hid hc hR h5
         rw [trV_exC] at t5
         rw [trV_exC]
         rw [callL_enter (fn:=Try.f54) (c:=Try.f54.body.getD .skip) rfl rfl fat_parse_parser_expr rfl ok_parse_parser_expr (Nat.le_of_ble_eq_true rfl)]
         have pbp:pureL [PV.bp id 0]=false:=rfl
         unfold PSR
         obtain ⟨ev,eo,so,co,⟨hev,hco⟩,R⟩:=RULES CC;rw [<- hev]
         rw [<- hco] at t0 q0 te t1 t2 t3 t4 t5 hn3
         simp only [fpart,part',Try.f54,Option.getD]
         simp only [S9,R,seval,PY,PZ,pbp,dynR,t0,q0,te,t1,t2,t3,t4,t5,hb,hn3,hwo,SX,hd,hid]
         exact ⟨_,rfl⟩
  · rw [if_neg hlt]
    have ho2:o=100:=by omega
    refine ans_bad ⟨i+1,o+1,badx_of hR fun bx hid hc=>?_⟩
    have hd:∀ k,id < bx.length+k:=fun k=>by omega
    have t0:=okc_use hid hc hR (okc_token (id:=id) (o:=o) hR hi)
    have q0:=okc_use hid hc hR (okc_word_t (id:=id) (o:=o) hR hi hT _ f0)
    have te:=badx_use hid hc hR (badx_enter (id:=id) (L:=L) (i:=i+1) hR ho2 (tokAt L i).1 (tokAt L i).2.1 (tokAt L i).2.2)
    rw [callL_enter (fn:=Try.f54) (c:=Try.f54.body.getD .skip) rfl rfl fat_parse_parser_expr rfl ok_parse_parser_expr (Nat.le_of_ble_eq_true rfl)]
    have pbp:pureL [PV.bp id 0]=false:=rfl
    unfold PSR atT
    obtain ⟨ev,eo,so,co,⟨hev,hco⟩,R⟩:=RULES CC;rw [<- hev]
    rw [<- hco] at t0 q0 te
    simp only [fpart,part',Try.f54,Option.getD]
    simp only [S9,R,seval,PY,PZ,pbp,dynR,t0,q0,te,SX,hd,hid]
    exact ⟨_,rfl⟩
theorem ctr_all {id:Nat} {L:List Tk} {RL:PV} (hR:RL.pure=true) (hT:TokOK L):∀ n,CtrE 54 .expr id L RL n∧CtrE 67 .not id L RL n∧CtrE 81 .cmp id L RL n∧CtrE 84 .sum id L RL n∧CtrE 87 .prod id L RL n∧CtrE 92 .un id L RL n∧CtrE 96 .prim id L RL n:=by
 intro n
 induction n using Nat.strongRecOn with
 | _ n ih=>
  cases n with
  | zero=>exact ⟨fun _ _ _ _=>ans_out,fun _ _ _ _=>ans_out,fun _ _ _ _=>ans_out,fun _ _ _ _=>ans_out,fun _ _ _ _=>ans_out,fun _ _ _ _=>ans_out,fun _ _ _ _=>ans_out⟩
  | succ n=>
   obtain ⟨a1,a2,a3,a4,a5,a6,a7⟩:=ih n (by omega)
   exact ⟨ctr_expr hR hT n a1 (fun m hm=>(ih m (by omega)).2.1),ctr_not hR hT n a3 a2,ctr_cmp hR hT n a4,ctr_sum hR hT n (fun k hk=>(ih k (by omega)).2.2.2.2.1),ctr_prod hR hT n (fun k hk=>(ih k (by omega)).2.2.2.2.2.1),ctr_un hR hT n a7 a6,ctr_prim hR hT n a1⟩
end Go.HH
namespace Go.HH
open Go Go.Proofs
set_option maxRecDepth 100000
set_option maxHeartbeats 4000000
set_option linter.unusedSimpArgs false
set_option linter.unusedVariables false
theorem sh_nod {k:Int} {l:List Tr} (h:shTs l) (hl:l.length<=12):shT (nodT k l):=by
 unfold nodT shT zV zK
 exact ⟨⟨by simp,by simp,by simp,by simp,hl⟩,h⟩
theorem sh_lit (k n:Int):shT (litT k n):=by
 unfold litT shT zK shTs
 exact ⟨⟨by simp,by simp,by simp,by simp,by simp⟩,trivial⟩
theorem sh_n1 {k:Int} {a:Tr} (h:shT a):shT (nodT k [a]):=sh_nod (by unfold shTs shTs;exact ⟨h,trivial⟩) (by simp)
theorem sh_n2 {k:Int} {a b:Tr} (h:shT a) (h2:shT b):shT (nodT k [a,b]):=sh_nod (by unfold shTs shTs shTs;exact ⟨h,h2,trivial⟩) (by simp)
theorem sh_n3 {k:Int} {a b c:Tr} (h:shT a) (h2:shT b) (h3:shT c):shT (nodT k [a,b,c]):=sh_nod (by unfold shTs shTs shTs shTs;exact ⟨h,h2,h3,trivial⟩) (by simp)
theorem sh_app {l:List Tr} {a:Tr} (h:shTs l) (h2:shT a):shTs (l++[a]):=by
 induction l with
 | nil=>unfold shTs shTs;exact ⟨h2,trivial⟩
 | cons x r ih=>unfold shTs at h;show shTs (x :: (r++[a]));unfold shTs;exact ⟨h.1,ih h.2⟩
theorem valB_len {s:List UInt8} (h:valB s=true):s.length<=100:=by
 unfold valB at h
 simp only [Bool.and_eq_true,decide_eq_true_eq] at h
 omega
theorem nameP_val {L:List Tk} {i:Nat} {a:List UInt8} {j:Nat} (h:nameP L i=.ok a j):valB a=true:=by
 unfold nameP at h
 split at h
 · split at h
   · rename_i hv
     injection h with h _
     subst h
     exact hv
   · cases h
 · cases h
theorem sh_cmp (k:Nat) {a b:Tr} (h:shT a) (h2:shT b):shT (cmpT k a b):=by
 unfold cmpT
 split
 · exact sh_n2 h h2
 · exact sh_n1 (sh_n2 h h2)
 · exact sh_n2 h h2
 · exact sh_n1 (sh_n2 h h2)
 · exact sh_n2 h2 h
 · exact sh_n1 (sh_n2 h2 h)
theorem sh_ch (b:Bool) {l:List Tr} (h:shTs l) (hl:l.length<=12):shT (chT b l):=by
 unfold chT
 split
 · unfold shTs at h;exact h.1
 · exact sh_nod h hl
theorem sh_leaf {k n m:Int} {s:List UInt8} {v:Vl} {y:Ky} (h1:s.length<=100) (h2:v.2.2.length<=100) (h3:y.2.1.length<=100) (h4:y.2.2.length<=100):shT (.mk k n m s v y []):=by
 unfold shT shTs
 exact ⟨⟨h1,h2,h3,h4,by simp⟩,trivial⟩
theorem condP_sh {L:List Tk} {i:Nat} {a:Tr} {j:Nat} (h:condP L i=.ok a j):shT a:=by
 unfold condP at h
 split at h
 · injection h with h _;subst h;exact sh_lit _ _
 split at h
 · injection h with h _;subst h;exact sh_lit _ _
 split at h
 · obtain ⟨_,i1,r1,h⟩:=bind_ok h
   obtain ⟨_,i2,r2,h⟩:=bind_ok h
   injection h with h _
   subst h
   exact sh_leaf (valB_len (nameP_val r2)) (by simp [zV]) (by simp [zK]) (by simp [zK])
 split at h
 · obtain ⟨_,i1,r1,h⟩:=bind_ok h
   obtain ⟨_,i2,r2,h⟩:=bind_ok h
   obtain ⟨_,i3,r3,h⟩:=bind_ok h
   injection h with h _
   subst h
   exact sh_leaf (by simp) (by simp [zV]) (by simp [zK]) (by simp [zK])
 split at h
 · obtain ⟨_,i1,r1,h⟩:=bind_ok h
   injection h with h _
   subst h
   exact sh_leaf (by simp) (by simp [zV]) (by simp [zK]) (by simp [zK])
 split at h
 · split at h
   · injection h with h _;subst h;exact sh_leaf (by simp) (by simp [zV]) (by simp [zK]) (by simp [zK])
   · injection h with h _;subst h;exact sh_leaf (by simp) (by simp [zV]) (by simp [zK]) (by simp [zK])
 · cases h
theorem pathP_val {L:List Tk} {i:Nat} {a:Ky} {j:Nat} (h:pathP L i=.ok a j):valB a.2.1=true∧valB a.2.2=true:=by
 unfold pathP at h
 obtain ⟨_,i1,r1,h⟩:=bind_ok h
 obtain ⟨_,i2,r2,h⟩:=bind_ok h
 obtain ⟨_,i3,r3,h⟩:=bind_ok h
 obtain ⟨_,i4,r4,h⟩:=bind_ok h
 obtain ⟨_,i5,r5,h⟩:=bind_ok h
 injection h with h _
 subst h
 exact ⟨nameP_val r3,nameP_val r5⟩
def accOK:NT->Prop
 | .chainL _ acc=>shTs acc∧acc.length<=8
 | .sumL e=>shT e
 | .prodL e=>shT e
 | _=>True
theorem accOK_opd (b:Bool):accOK (opdNT b):=by cases b <;> trivial
theorem sh_pz {L:List Tk} (hT:TokOK L):∀ (n:Nat) (nt:NT) (o i:Nat) (a:Tr) (j:Nat),accOK nt->pz L n nt o i=.ok a j->shT a:=by
 intro n
 induction n with
 | zero=>intro nt o i a j hi h;cases h
 | succ n ih=>
  intro nt o i a j hi h
  cases nt with
  | expr=>
   rw [pz] at h
   split at h
   · split at h
     · obtain ⟨_,i1,r1,h⟩:=bind_ok h
       obtain ⟨_,i2,r2,h⟩:=bind_ok h
       obtain ⟨_,i3,r3,h⟩:=bind_ok h
       obtain ⟨_,i4,r4,h⟩:=bind_ok h
       obtain ⟨_,i5,r5,h⟩:=bind_ok h
       injection h with h _
       subst h
       exact sh_n3 (ih _ _ _ _ _ (by trivial) r1) (ih _ _ _ _ _ (by trivial) r3) (ih _ _ _ _ _ (by trivial) r5)
     · cases h
   · exact ih _ _ _ _ _ (by trivial) h
  | chain b=>
   rw [pz] at h
   obtain ⟨_,i1,r1,h⟩:=bind_ok h
   exact ih (.chainL b [_]) _ _ _ _ ⟨by unfold shTs shTs;exact ⟨ih _ _ _ _ _ (accOK_opd b) r1,trivial⟩,by simp⟩ h
  | chainL b acc=>
   rw [pz] at h
   split at h
   · split at h
     · cases h
     · rename_i h8
       obtain ⟨_,i1,r1,h⟩:=bind_ok h
       exact ih (.chainL b (acc++[_])) _ _ _ _ ⟨sh_app hi.1 (ih _ _ _ _ _ (accOK_opd b) r1),by have:=hi.2;rw [List.length_append];simp;omega⟩ h
   · injection h with h _
     subst h
     exact sh_ch b hi.1 (by have:=hi.2;omega)
  | not=>
   rw [pz] at h
   split at h
   · split at h
     · obtain ⟨_,i1,r1,h⟩:=bind_ok h
       injection h with h _
       subst h
       exact sh_n1 (ih _ _ _ _ _ (by trivial) r1)
     · cases h
   · exact ih _ _ _ _ _ (by trivial) h
  | cmp=>
   rw [pz] at h
   obtain ⟨_,i1,r1,h⟩:=bind_ok h
   split at h
   · obtain ⟨_,i2,r2,h⟩:=bind_ok h
     injection h with h _
     subst h
     exact sh_cmp _ (ih _ _ _ _ _ (by trivial) r1) (ih _ _ _ _ _ (by trivial) r2)
   · injection h with h _
     subst h
     exact ih _ _ _ _ _ (by trivial) r1
  | sum=>
   rw [pz] at h
   obtain ⟨_,i1,r1,h⟩:=bind_ok h
   exact ih (.sumL _) _ _ _ _ (show shT _ from ih _ _ _ _ _ (by trivial) r1) h
  | sumL e=>
   rw [pz] at h
   split at h
   · obtain ⟨_,i1,r1,h⟩:=bind_ok h
     exact ih (.sumL _) _ _ _ _ (show shT _ from sh_n2 hi (ih _ _ _ _ _ (by trivial) r1)) h
   · split at h
     · obtain ⟨_,i1,r1,h⟩:=bind_ok h
       exact ih (.sumL _) _ _ _ _ (show shT _ from sh_n2 hi (ih _ _ _ _ _ (by trivial) r1)) h
     · injection h with h _
       subst h
       exact hi
  | prod=>
   rw [pz] at h
   obtain ⟨_,i1,r1,h⟩:=bind_ok h
   exact ih (.prodL _) _ _ _ _ (show shT _ from ih _ _ _ _ _ (by trivial) r1) h
  | prodL e=>
   rw [pz] at h
   split at h
   · obtain ⟨_,i1,r1,h⟩:=bind_ok h
     exact ih (.prodL _) _ _ _ _ (show shT _ from sh_n2 hi (ih _ _ _ _ _ (by trivial) r1)) h
   · injection h with h _
     subst h
     exact hi
  | un=>
   rw [pz] at h
   split at h
   · split at h
     · injection h with h _;subst h;exact sh_lit _ _
     · split at h
       · obtain ⟨_,i1,r1,h⟩:=bind_ok h
         injection h with h _
         subst h
         exact sh_n2 (sh_lit _ _) (ih _ _ _ _ _ (by trivial) r1)
       · cases h
   · exact ih _ _ _ _ _ (by trivial) h
  | prim=>
   rw [pz] at h
   split at h
   · injection h with h _;subst h;exact sh_lit _ _
   split at h
   · obtain ⟨_,i1,r1,h⟩:=bind_ok h
     injection h with h _
     subst h
     have:=pathP_val r1
     exact sh_leaf (by simp) (by simp [zV]) (valB_len this.1) (valB_len this.2)
   split at h
   · rename_i hk
     injection h with h _
     subst h
     exact sh_leaf (by simp) (by have:=hT.str i hk;simp only;omega) (by simp [zK]) (by simp [zK])
   split at h
   · obtain ⟨_,i1,r1,h⟩:=bind_ok h
     injection h with h _
     subst h
     exact sh_lit _ _
   split at h
   · split at h
     · obtain ⟨_,i1,r1,h⟩:=bind_ok h
       obtain ⟨_,i2,r2,h⟩:=bind_ok h
       injection h with h _
       subst h
       exact ih _ _ _ _ _ (by trivial) r1
     · cases h
   · exact condP_sh h
theorem ok_parse_parser_whole:fnOK CC Try.f34 (Try.f34.body.getD .skip)=true:=by kernel_rfl
theorem fat_parse_parser_whole:CC.P.funcs[34]?=some Try.f34:=by kernel_rfl
theorem ans_whole {id:Nat} {L:List Tk} {RL:PV} (hR:RL.pure=true) (hT:TokOK L) {i:Nat} (hi:i < L.length) (n:Nat) (o:Nat) (ho:o=0):ANS 34 [] id L RL i o trV (wholeP L n i):=by
 have e:wholeP L n i=(pz L n .expr o i).bind fun e j=>if ckT e=0 then .ok e j else .bad (atT L i) (ckT e):=by subst ho;rfl
 rw [e]
 have h1:=(ctr_all (id:=id) (RL:=RL) hR hT n).1 i o hi (by omega)
 cases r1:pz L n .expr o i with
 | out=>exact ans_out
 | bad t e=>
  rw [r1] at h1
  obtain ⟨i',o',h1⟩:=h1
  refine ans_bad ⟨i',o',badx_of hR fun bx hid hc=>?_⟩
  have t0:=okc_use hid hc hR (okc_token (id:=id) (o:=o) hR hi)
  have t1:=badx_use hid hc hR h1
  rw [callL_enter (fn:=Try.f34) (c:=Try.f34.body.getD .skip) rfl rfl fat_parse_parser_whole rfl ok_parse_parser_whole (Nat.le_of_ble_eq_true rfl)]
  have pbp:pureL [PV.bp id 0]=false:=rfl
  unfold PSR
  obtain ⟨ev,eo,so,co,⟨hev,hco⟩,R⟩:=RULES CC;rw [<- hev]
  rw [<- hco] at t0 t1
  simp only [fpart,part',Try.f34,Option.getD]
  simp only [S9,R,seval,PY,PZ,pbp,dynR,t0,t1,SX,hid]
  exact ⟨_,rfl⟩
 | ok a j=>
  rw [r1] at h1
  dsimp only [bind_okk]
  have hck:=op_expr_Check a (sh_pz hT _ _ _ _ _ _ (by trivial) r1)
  rw [trV_exC] at hck
  by_cases hz:ckT a=0
  · rw [if_pos hz]
    rw [hz] at hck
    refine ans_ok (okc_of hR (fun n=>by rw [trV_exC];simp only [SX,PV.under]) fun bx hid hc=>?_)
    have t0:=okc_use hid hc hR (okc_token (id:=id) (o:=o) hR hi)
    have t1:=okc_use hid hc hR h1
    rw [trV_exC] at t1 ⊢
    rw [callL_enter (fn:=Try.f34) (c:=Try.f34.body.getD .skip) rfl rfl fat_parse_parser_whole rfl ok_parse_parser_whole (Nat.le_of_ble_eq_true rfl)]
    have pbp:pureL [PV.bp id 0]=false:=rfl
    unfold PSR
    obtain ⟨ev,eo,so,co,⟨hev,hco⟩,R⟩:=RULES CC;rw [<- hev]
    rw [<- hco] at t0 t1 hck
    simp only [fpart,part',Try.f34,Option.getD]
    simp only [S9,R,seval,PY,PZ,pbp,dynR,t0,t1,hck,SX,hid]
    exact ⟨_,rfl⟩
  · rw [if_neg hz]
    have hz':(ckT a != 0)=true:=by simp [bne_iff_ne,hz]
    have hj:=(pz_lt hT _ _ _ _ _ _ hi r1).2
    have hf:=badx_fail (id:=id) (i:=j) (o:=o) (L:=L) (RL:=RL) hR (tokAt L i).1 (tokAt L i).2.1 (tokAt L i).2.2 (ckT a)
    refine ans_bad ⟨j,o,badx_of hR fun bx hid hc=>?_⟩
    have t0:=okc_use hid hc hR (okc_token (id:=id) (o:=o) hR hi)
    have t1:=okc_use hid hc hR h1
    rw [trV_exC] at t1
    have t2:=badx_use hid hc hR hf
    rw [callL_enter (fn:=Try.f34) (c:=Try.f34.body.getD .skip) rfl rfl fat_parse_parser_whole rfl ok_parse_parser_whole (Nat.le_of_ble_eq_true rfl)]
    have pbp:pureL [PV.bp id 0]=false:=rfl
    unfold PSR atT
    obtain ⟨ev,eo,so,co,⟨hev,hco⟩,R⟩:=RULES CC;rw [<- hev]
    rw [<- hco] at t0 t1 hck t2
    simp only [fpart,part',Try.f34,Option.getD]
    simp only [S9,R,seval,PY,PZ,pbp,dynR,t0,t1,hck,hz',t2,SX,hid]
    exact ⟨_,rfl⟩
end Go.HH
namespace Go.HH
open Go Go.Proofs
set_option maxRecDepth 100000
set_option linter.unusedSimpArgs false
set_option linter.unusedVariables false
structure Tg where
 k:Int
 key:Ky
 ev:Ky
 nm:List UInt8
 n:Int
 m:Int
def tgV (t:Tg):PV:=.agg [.int .i64 t.k,.int .i64 t.key.1,.str t.key.2.1,.str t.key.2.2,.int .i64 t.ev.1,.str t.ev.2.1,.str t.ev.2.2,.str t.nm,.int .i64 t.n,.int .i64 t.m]
structure Sp where
 k:Int
 key:Ky
 nm:List UInt8
 ex:Tr
def spC (s:Sp):List PV:=[.int .i64 s.k,.int .i64 s.key.1,.str s.key.2.1,.str s.key.2.2,.str s.nm]++exC s.ex
def spV (s:Sp):PV:=.agg (spC s)
structure Rl where
 nm:List UInt8
 pr:Int
 on:List Tg
 ife:Tr
 dos:List Sp
def triggerP (L:List Tk) (i:Nat):PR Tg:=
 if isT L 1 [99,104,97,110,103,101] i then (pathP L (i+1)).bind fun k i=>.ok ⟨1,k,zK,[],0,0⟩ i else
 if isT L 1 [101,118,101,110,116] i then (pathP L (i+1)).bind fun k i=>.ok ⟨2,zK,k,[],0,0⟩ i else
 if isT L 1 [116,105,109,101] i then (clockP L (i+1)).bind fun n i=>if isT L 1 [100,97,121,115] i then (daysP L (i+1)).bind fun m i=>.ok ⟨3,zK,zK,[],n,m⟩ i else .ok ⟨3,zK,zK,[],n,127⟩ i else
 if isT L 1 [109,111,100,101] i then (if (tokAt L (i+1)).1=1 then (nameP L (i+1)).bind fun s i=>.ok ⟨4,zK,zK,s,0,0⟩ i else .ok ⟨4,zK,zK,[],0,0⟩ (i+1)) else
 if isT L 1 [115,116,97,114,116] i then .ok ⟨5,zK,zK,[],0,0⟩ (i+1) else
 (mustP L 1 [104,111,108,100] i).bind fun _ i=>(numP L 0 1099511627776 i).bind fun n i=>.ok ⟨6,zK,zK,[],n,0⟩ i
def stepP (L:List Tk) (n i:Nat):PR Sp:=
 if isT L 1 [115,101,116] i then (pathP L (i+1)).bind fun k i=>(mustP L 4 [61] i).bind fun _ i=>(wholeP L n i).bind fun e i=>.ok ⟨1,k,[],e⟩ i else
 if isT L 1 [99,97,108,108] i then (pathP L (i+1)).bind fun k i=>if isT L 4 [40] i then (wholeP L n (i+1)).bind fun e i=>(mustP L 4 [41] i).bind fun _ i=>.ok ⟨2,(k.1,k.2.1,[]),k.2.2,e⟩ i else .ok ⟨2,(k.1,k.2.1,[]),k.2.2,zT⟩ i else
 if isT L 1 [115,99,101,110,101] i then (nameP L (i+1)).bind fun s i=>.ok ⟨3,zK,s,zT⟩ i else
 if isT L 1 [109,111,100,101] i then (nameP L (i+1)).bind fun s i=>.ok ⟨4,zK,s,zT⟩ i else
 (mustP L 1 [110,111,116,105,102,121] i).bind fun _ i=>(oneP L 3 i).bind fun t i=>.ok ⟨5,zK,t.2.1,zT⟩ i
def severalP {α:Type} (L:List Tk) (w:List UInt8) (part:Nat->PR α):Nat->List α->Nat->PR (List α)
 | 0,_,_=>.out
 | n+1,acc,i=>if acc.length=0∨isT L 1 w i=true then (if acc.length=8 then .bad (atT L i) 3 else (mustP L 1 w i).bind fun _ i=>(part i).bind fun a i=>(mustP L 4 [59] i).bind fun _ i=>severalP L w part n (acc++[a]) i) else .ok acc i
def wT:Tr:=.mk 1 0 0 [] (1,1,[]) zK []
def ruleP (L:List Tk) (n:Nat) (rs:List Rl) (i:Nat):PR Rl:=
 if isT L 1 [114,117,108,101] i=true∧rs.length=40 then .bad (atT L i) 3 else
 (mustP L 1 [114,117,108,101] i).bind fun _ i0=>(nameP L i0).bind fun nm i=>
 if rs.any (fun r=>r.nm == nm) then .bad (atT L i0) 9 else
 (if isT L 1 [112,114,105,111,114,105,116,121] i then numP L 0 100 (i+1) else .ok 0 i).bind fun pr i=>(mustP L 4 [123] i).bind fun _ i=>
 (severalP L [111,110] (triggerP L) 10 [] i).bind fun on i=>
 (if isT L 1 [105,102] i then (wholeP L n (i+1)).bind fun e i=>(mustP L 4 [59] i).bind fun _ i=>.ok e i else .ok wT i).bind fun e i=>
 (severalP L [100,111] (stepP L n) 10 [] i).bind fun dos i=>(mustP L 4 [125] i).bind fun _ i=>.ok ⟨nm,pr,on,e,dos⟩ i
end Go.HH
namespace Go.HH
open Go Go.Proofs
set_option maxRecDepth 100000
set_option maxHeartbeats 4000000
set_option linter.unusedSimpArgs false
set_option linter.unusedVariables false
theorem ok_parse_parser_trigger:fnOK CC Try.f46 (Try.f46.body.getD .skip)=true:=by kernel_rfl
theorem fat_parse_parser_trigger:CC.P.funcs[46]?=some Try.f46:=by kernel_rfl
theorem ok_parse_parser_step:fnOK CC Try.f48 (Try.f48.body.getD .skip)=true:=by kernel_rfl
theorem fat_parse_parser_step:CC.P.funcs[48]?=some Try.f48:=by kernel_rfl
theorem bTg1 (d:Int) (a b:List UInt8):buildP CC 59 [(0,.int .i64 1),(1,.agg [.int .i64 d,.str a,.str b])]=some (.agg [.int .i64 1,.int .i64 d,.str a,.str b,.int .i64 0,.str [],.str [],.str [],.int .i64 0,.int .i64 0]):=by kernel_rfl
theorem bEv (d:Int) (a b:List UInt8):buildP CC 57 [(0,.int .i64 d),(1,.str a),(2,.str b)]=some (.agg [.int .i64 d,.str a,.str b]):=by kernel_rfl
theorem bTg2 (d:Int) (a b:List UInt8):buildP CC 59 [(0,.int .i64 2),(2,.agg [.int .i64 d,.str a,.str b])]=some (.agg [.int .i64 2,.int .i64 0,.str [],.str [],.int .i64 d,.str a,.str b,.str [],.int .i64 0,.int .i64 0]):=by kernel_rfl
theorem bTg3 (n:Int):buildP CC 59 [(0,.int .i64 3),(4,.int .i64 n),(5,.int .i64 127)]=some (.agg [.int .i64 3,.int .i64 0,.str [],.str [],.int .i64 0,.str [],.str [],.str [],.int .i64 n,.int .i64 127]):=by kernel_rfl
theorem bTg (k:Int):buildP CC 59 [(0,.int .i64 k)]=some (.agg [.int .i64 k,.int .i64 0,.str [],.str [],.int .i64 0,.str [],.str [],.str [],.int .i64 0,.int .i64 0]):=by kernel_rfl
theorem bTg4 (s:List UInt8):buildP CC 59 [(0,.int .i64 4),(3,.str s)]=some (.agg [.int .i64 4,.int .i64 0,.str [],.str [],.int .i64 0,.str [],.str [],.str s,.int .i64 0,.int .i64 0]):=by kernel_rfl
theorem bTg6 (n:Int):buildP CC 59 [(0,.int .i64 6),(4,.int .i64 n)]=some (.agg [.int .i64 6,.int .i64 0,.str [],.str [],.int .i64 0,.str [],.str [],.str [],.int .i64 n,.int .i64 0]):=by kernel_rfl
theorem bKy2 (d:Int) (a:List UInt8):buildP CC 31 [(0,.int .i64 d),(1,.str a)]=some (.agg [.int .i64 d,.str a,.str []]):=by kernel_rfl
theorem bSp1 (d:Int) (a b:List UInt8):buildP CC 41 [(0,.int .i64 1),(1,.agg [.int .i64 d,.str a,.str b])]=some (.agg [.int .i64 1,.int .i64 d,.str a,.str b,.str [],.int .i64 0,.int .i64 0,.int .i64 0,.str [],.int .i64 0,.int .i64 0,.str [],.int .i64 0,.str [],.str [],.nils]):=by kernel_rfl
theorem bSp2 (d:Int) (a b s:List UInt8):buildP CC 41 [(0,.int .i64 2),(1,.agg [.int .i64 d,.str a,.str b]),(2,.str s)]=some (.agg [.int .i64 2,.int .i64 d,.str a,.str b,.str s,.int .i64 0,.int .i64 0,.int .i64 0,.str [],.int .i64 0,.int .i64 0,.str [],.int .i64 0,.str [],.str [],.nils]):=by kernel_rfl
theorem bSp (k:Int) (s:List UInt8):buildP CC 41 [(0,.int .i64 k),(2,.str s)]=some (.agg [.int .i64 k,.int .i64 0,.str [],.str [],.str s,.int .i64 0,.int .i64 0,.int .i64 0,.str [],.int .i64 0,.int .i64 0,.str [],.int .i64 0,.str [],.str [],.nils]):=by kernel_rfl
theorem wholeP_lt {L:List Tk} (hT:TokOK L) {n i:Nat} {a:Tr} {j:Nat} (hi:i < L.length) (h:wholeP L n i=.ok a j):i<=j∧j < L.length:=by
 unfold wholeP at h
 obtain ⟨_,i1,r1,h⟩:=bind_ok h
 split at h
 · injection h with _ h
   subst h
   exact pz_lt hT _ _ _ _ _ _ hi r1
 · cases h
theorem exC_zT:exC zT=[.int .i64 0,.int .i64 0,.int .i64 0,.str [],.int .i64 0,.int .i64 0,.str [],.int .i64 0,.str [],.str [],.sl []]:=by unfold exC zT trV zV zK trVs;rfl
theorem ans_trigger {id:Nat} {L:List Tk} {i o:Nat} {RL:PV} (hR:RL.pure=true) (hi:i < L.length) (hT:TokOK L):ANS 46 [] id L RL i o tgV (triggerP L i):=by
 unfold triggerP
 cases f0:isT L 1 [99,104,97,110,103,101] i with
 | true=>
  simp only [if_true]
  have hi0:=isT_lt hT hi f0 (by decide)
  have h1:=ans_key (id:=id) (o:=o) (i:=(i+1)) hR hi0 hT
  cases r1:pathP L  (i+1) with
  | out=>exact ans_out
  | bad t e=>
   rw [r1] at h1
   obtain ⟨i',o',h1⟩:=h1
   refine ans_bad ⟨i',o',badx_of hR fun bx hid hc=>?_⟩
   have q0:=okc_use hid hc hR (okc_word_t (id:=id) (o:=o) hR hi hT _ f0)
   have t1:=badx_use hid hc hR h1
   rw [callL_enter (fn:=Try.f46) (c:=Try.f46.body.getD .skip) rfl rfl fat_parse_parser_trigger rfl ok_parse_parser_trigger (Nat.le_of_ble_eq_true rfl)]
   have pbp:pureL [PV.bp id 0]=false:=rfl
   unfold PSR
   obtain ⟨ev,eo,so,co,⟨hev,hco⟩,R⟩:=RULES CC;rw [<- hev]
   rw [<- hco] at q0 t1
   simp only [fpart,part',Try.f46,Option.getD]
   simp only [S9,R,seval,PY,PZ,pbp,dynR,q0,t1,SX,hid]
   exact ⟨_,rfl⟩
  | ok a1 i1=>
   rw [r1] at h1
   dsimp only [bind_okk]
   have j1:=pathP_lt hT hi0 r1
   have hj1:=j1.2.1
   refine ans_ok (okc_of hR (fun n=>by unfold tgV;simp only [SU]) fun bx hid hc=>?_)
   have q0:=okc_use hid hc hR (okc_word_t (id:=id) (o:=o) hR hi hT _ f0)
   have t1:=okc_use hid hc hR h1
   unfold kyP at t1
   unfold tgV
   try unfold zK
   try simp only [exC_zT]
   rw [callL_enter (fn:=Try.f46) (c:=Try.f46.body.getD .skip) rfl rfl fat_parse_parser_trigger rfl ok_parse_parser_trigger (Nat.le_of_ble_eq_true rfl)]
   have pbp:pureL [PV.bp id 0]=false:=rfl
   unfold PSR
   obtain ⟨ev,eo,so,co,⟨hev,hco⟩,R⟩:=RULES CC;rw [<- hev]
   rw [<- hco] at q0 t1
   simp only [fpart,part',Try.f46,Option.getD]
   simp only [S9,R,seval,PY,PZ,pbp,dynR,q0,t1,bTg1,SX,hid]
   exact ⟨_,rfl⟩
 | false=>
  simp only [Bool.false_eq_true,if_false]
  cases f1:isT L 1 [101,118,101,110,116] i with
  | true=>
   simp only [if_true]
   have hi1:=isT_lt hT hi f1 (by decide)
   have h1:=ans_path (id:=id) (o:=o) (i:=(i+1)) hR hi1 hT
   cases r1:pathP L  (i+1) with
   | out=>exact ans_out
   | bad t e=>
    rw [r1] at h1
    obtain ⟨i',o',h1⟩:=h1
    refine ans_bad ⟨i',o',badx_of hR fun bx hid hc=>?_⟩
    have q0:=okc_use hid hc hR (okc_word_f (id:=id) (o:=o) hR hi hT _ f0)
    have q1:=okc_use hid hc hR (okc_word_t (id:=id) (o:=o) hR hi hT _ f1)
    have t1:=badx_use hid hc hR h1
    rw [callL_enter (fn:=Try.f46) (c:=Try.f46.body.getD .skip) rfl rfl fat_parse_parser_trigger rfl ok_parse_parser_trigger (Nat.le_of_ble_eq_true rfl)]
    have pbp:pureL [PV.bp id 0]=false:=rfl
    unfold PSR
    obtain ⟨ev,eo,so,co,⟨hev,hco⟩,R⟩:=RULES CC;rw [<- hev]
    rw [<- hco] at q0 q1 t1
    simp only [fpart,part',Try.f46,Option.getD]
    simp only [S9,R,seval,PY,PZ,pbp,dynR,q0,q1,t1,SX,hid]
    exact ⟨_,rfl⟩
   | ok a1 i1=>
    rw [r1] at h1
    dsimp only [bind_okk]
    have j1:=pathP_lt hT hi1 r1
    have hj1:=j1.2.1
    refine ans_ok (okc_of hR (fun n=>by unfold tgV;simp only [SU]) fun bx hid hc=>?_)
    have q0:=okc_use hid hc hR (okc_word_f (id:=id) (o:=o) hR hi hT _ f0)
    have q1:=okc_use hid hc hR (okc_word_t (id:=id) (o:=o) hR hi hT _ f1)
    have t1:=okc_use hid hc hR h1
    unfold tgV
    try unfold zK
    try simp only [exC_zT]
    rw [callL_enter (fn:=Try.f46) (c:=Try.f46.body.getD .skip) rfl rfl fat_parse_parser_trigger rfl ok_parse_parser_trigger (Nat.le_of_ble_eq_true rfl)]
    have pbp:pureL [PV.bp id 0]=false:=rfl
    unfold PSR
    obtain ⟨ev,eo,so,co,⟨hev,hco⟩,R⟩:=RULES CC;rw [<- hev]
    rw [<- hco] at q0 q1 t1
    simp only [fpart,part',Try.f46,Option.getD]
    simp only [S9,R,seval,PY,PZ,pbp,dynR,q0,q1,t1,bTg2,bEv,SX,hid]
    exact ⟨_,rfl⟩
  | false=>
   simp only [Bool.false_eq_true,if_false]
   cases f2:isT L 1 [116,105,109,101] i with
   | true=>
    simp only [if_true]
    have hi2:=isT_lt hT hi f2 (by decide)
    have h1:=ans_clock (id:=id) (o:=o) (i:=(i+1)) hR hi2 hT
    cases r1:clockP L  (i+1) with
    | out=>exact ans_out
    | bad t e=>
     rw [r1] at h1
     obtain ⟨i',o',h1⟩:=h1
     refine ans_bad ⟨i',o',badx_of hR fun bx hid hc=>?_⟩
     have q0:=okc_use hid hc hR (okc_word_f (id:=id) (o:=o) hR hi hT _ f0)
     have q1:=okc_use hid hc hR (okc_word_f (id:=id) (o:=o) hR hi hT _ f1)
     have q2:=okc_use hid hc hR (okc_word_t (id:=id) (o:=o) hR hi hT _ f2)
     have t1:=badx_use hid hc hR h1
     rw [callL_enter (fn:=Try.f46) (c:=Try.f46.body.getD .skip) rfl rfl fat_parse_parser_trigger rfl ok_parse_parser_trigger (Nat.le_of_ble_eq_true rfl)]
     have pbp:pureL [PV.bp id 0]=false:=rfl
     unfold PSR
     obtain ⟨ev,eo,so,co,⟨hev,hco⟩,R⟩:=RULES CC;rw [<- hev]
     rw [<- hco] at q0 q1 q2 t1
     simp only [fpart,part',Try.f46,Option.getD]
     simp only [S9,R,seval,PY,PZ,pbp,dynR,q0,q1,q2,t1,SX,hid]
     exact ⟨_,rfl⟩
    | ok a1 i1=>
     rw [r1] at h1
     dsimp only [bind_okk]
     have j1:=clockP_lt hT hi2 r1
     have hj1:=j1.2.1
     cases f7:isT L 1 [100,97,121,115] i1 with
     | true=>
      simp only [if_true]
      have hi7:=isT_lt hT hj1 f7 (by decide)
      have h2:=ans_days (id:=id) (o:=o) (i:=(i1+1)) hR hi7 hT
      cases r2:daysP L  (i1+1) with
      | out=>exact ans_out
      | bad t e=>
       rw [r2] at h2
       obtain ⟨i',o',h2⟩:=h2
       refine ans_bad ⟨i',o',badx_of hR fun bx hid hc=>?_⟩
       have q0:=okc_use hid hc hR (okc_word_f (id:=id) (o:=o) hR hi hT _ f0)
       have q1:=okc_use hid hc hR (okc_word_f (id:=id) (o:=o) hR hi hT _ f1)
       have q2:=okc_use hid hc hR (okc_word_t (id:=id) (o:=o) hR hi hT _ f2)
       have t1:=okc_use hid hc hR h1
       have q7:=okc_use hid hc hR (okc_word_t (id:=id) (o:=o) hR hj1 hT _ f7)
       have t2:=badx_use hid hc hR h2
       rw [callL_enter (fn:=Try.f46) (c:=Try.f46.body.getD .skip) rfl rfl fat_parse_parser_trigger rfl ok_parse_parser_trigger (Nat.le_of_ble_eq_true rfl)]
       have pbp:pureL [PV.bp id 0]=false:=rfl
       unfold PSR
       obtain ⟨ev,eo,so,co,⟨hev,hco⟩,R⟩:=RULES CC;rw [<- hev]
       rw [<- hco] at q0 q1 q2 t1 q7 t2
       simp only [fpart,part',Try.f46,Option.getD]
       simp only [S9,R,seval,PY,PZ,pbp,dynR,q0,q1,q2,t1,q7,t2,bTg3,SX,hid]
       exact ⟨_,rfl⟩
      | ok a2 i2=>
       rw [r2] at h2
       dsimp only [bind_okk]
       have j2:=daysP_lt hT hi7 r2
       have hj2:=j2.2.1
       refine ans_ok (okc_of hR (fun n=>by unfold tgV;simp only [SU]) fun bx hid hc=>?_)
       have q0:=okc_use hid hc hR (okc_word_f (id:=id) (o:=o) hR hi hT _ f0)
       have q1:=okc_use hid hc hR (okc_word_f (id:=id) (o:=o) hR hi hT _ f1)
       have q2:=okc_use hid hc hR (okc_word_t (id:=id) (o:=o) hR hi hT _ f2)
       have t1:=okc_use hid hc hR h1
       have q7:=okc_use hid hc hR (okc_word_t (id:=id) (o:=o) hR hj1 hT _ f7)
       have t2:=okc_use hid hc hR h2
       unfold tgV
       try unfold zK
       try simp only [exC_zT]
       rw [callL_enter (fn:=Try.f46) (c:=Try.f46.body.getD .skip) rfl rfl fat_parse_parser_trigger rfl ok_parse_parser_trigger (Nat.le_of_ble_eq_true rfl)]
       have pbp:pureL [PV.bp id 0]=false:=rfl
       unfold PSR
       obtain ⟨ev,eo,so,co,⟨hev,hco⟩,R⟩:=RULES CC;rw [<- hev]
       rw [<- hco] at q0 q1 q2 t1 q7 t2
       simp only [fpart,part',Try.f46,Option.getD]
       simp only [S9,R,seval,PY,PZ,pbp,dynR,q0,q1,q2,t1,q7,t2,bTg3,SX,hid]
       exact ⟨_,rfl⟩
     | false=>
      simp only [Bool.false_eq_true,if_false]
      refine ans_ok (okc_of hR (fun n=>by unfold tgV;simp only [SU]) fun bx hid hc=>?_)
      have q0:=okc_use hid hc hR (okc_word_f (id:=id) (o:=o) hR hi hT _ f0)
      have q1:=okc_use hid hc hR (okc_word_f (id:=id) (o:=o) hR hi hT _ f1)
      have q2:=okc_use hid hc hR (okc_word_t (id:=id) (o:=o) hR hi hT _ f2)
      have t1:=okc_use hid hc hR h1
      have q7:=okc_use hid hc hR (okc_word_f (id:=id) (o:=o) hR hj1 hT _ f7)
      unfold tgV
      try unfold zK
      try simp only [exC_zT]
      rw [callL_enter (fn:=Try.f46) (c:=Try.f46.body.getD .skip) rfl rfl fat_parse_parser_trigger rfl ok_parse_parser_trigger (Nat.le_of_ble_eq_true rfl)]
      have pbp:pureL [PV.bp id 0]=false:=rfl
      unfold PSR
      obtain ⟨ev,eo,so,co,⟨hev,hco⟩,R⟩:=RULES CC;rw [<- hev]
      rw [<- hco] at q0 q1 q2 t1 q7
      simp only [fpart,part',Try.f46,Option.getD]
      simp only [S9,R,seval,PY,PZ,pbp,dynR,q0,q1,q2,t1,q7,bTg3,SX,hid]
      exact ⟨_,rfl⟩
   | false=>
    simp only [Bool.false_eq_true,if_false]
    cases f3:isT L 1 [109,111,100,101] i with
    | true=>
     simp only [if_true]
     have hi3:=isT_lt hT hi f3 (by decide)
     have k2:=natBne (tokAt L (i+1)).1 1
     by_cases hk:(tokAt L (i+1)).1=1
     · rw [if_pos hk]
       rw [beq_iff_eq.2 hk] at k2
       have k2:(((tokAt L (i+1)).1:Int) != 1)=false:=k2
       have h5:=ans_name (id:=id) (o:=o) (i:=(i+1)) hR hi3 hT
       cases r5:nameP L (i+1) with
       | out=>exact ans_out
       | bad t e=>
        rw [r5] at h5
        obtain ⟨i',o',h5⟩:=h5
        refine ans_bad ⟨i',o',badx_of hR fun bx hid hc=>?_⟩
        have q0:=okc_use hid hc hR (okc_word_f (id:=id) (o:=o) hR hi hT _ f0)
        have q1:=okc_use hid hc hR (okc_word_f (id:=id) (o:=o) hR hi hT _ f1)
        have q2:=okc_use hid hc hR (okc_word_f (id:=id) (o:=o) hR hi hT _ f2)
        have q3:=okc_use hid hc hR (okc_word_t (id:=id) (o:=o) hR hi hT _ f3)
        have tm:=okc_use hid hc hR (okc_token (id:=id) (o:=o) hR hi3)
        have t5:=badx_use hid hc hR h5
        rw [callL_enter (fn:=Try.f46) (c:=Try.f46.body.getD .skip) rfl rfl fat_parse_parser_trigger rfl ok_parse_parser_trigger (Nat.le_of_ble_eq_true rfl)]
        have pbp:pureL [PV.bp id 0]=false:=rfl
        unfold PSR
        obtain ⟨ev,eo,so,co,⟨hev,hco⟩,R⟩:=RULES CC;rw [<- hev]
        rw [<- hco] at q0 q1 q2 q3 tm t5
        simp only [fpart,part',Try.f46,Option.getD]
        simp only [S9,R,seval,PY,PZ,pbp,dynR,q0,q1,q2,q3,tm,t5,k2,SX,hid]
        exact ⟨_,rfl⟩
       | ok a5 i5=>
        rw [r5] at h5
        dsimp only [bind_okk]
        have j5:=nameP_lt hT hi3 r5
        have hj5:=j5.2
        refine ans_ok (okc_of hR (fun n=>by unfold tgV;simp only [SU]) fun bx hid hc=>?_)
        have q0:=okc_use hid hc hR (okc_word_f (id:=id) (o:=o) hR hi hT _ f0)
        have q1:=okc_use hid hc hR (okc_word_f (id:=id) (o:=o) hR hi hT _ f1)
        have q2:=okc_use hid hc hR (okc_word_f (id:=id) (o:=o) hR hi hT _ f2)
        have q3:=okc_use hid hc hR (okc_word_t (id:=id) (o:=o) hR hi hT _ f3)
        have tm:=okc_use hid hc hR (okc_token (id:=id) (o:=o) hR hi3)
        have t5:=okc_use hid hc hR h5
        unfold tgV
        try unfold zK
        try simp only [exC_zT]
        rw [callL_enter (fn:=Try.f46) (c:=Try.f46.body.getD .skip) rfl rfl fat_parse_parser_trigger rfl ok_parse_parser_trigger (Nat.le_of_ble_eq_true rfl)]
        have pbp:pureL [PV.bp id 0]=false:=rfl
        unfold PSR
        obtain ⟨ev,eo,so,co,⟨hev,hco⟩,R⟩:=RULES CC;rw [<- hev]
        rw [<- hco] at q0 q1 q2 q3 tm t5
        simp only [fpart,part',Try.f46,Option.getD]
        simp only [S9,R,seval,PY,PZ,pbp,dynR,q0,q1,q2,q3,tm,t5,k2,bTg4,SX,hid]
        exact ⟨_,rfl⟩
     · rw [if_neg hk]
       rw [beq_eq_false_iff_ne.2 hk] at k2
       have k2:(((tokAt L (i+1)).1:Int) != 1)=true:=k2
       refine ans_ok (okc_of hR (fun n=>by unfold tgV;simp only [SU]) fun bx hid hc=>?_)
       have q0:=okc_use hid hc hR (okc_word_f (id:=id) (o:=o) hR hi hT _ f0)
       have q1:=okc_use hid hc hR (okc_word_f (id:=id) (o:=o) hR hi hT _ f1)
       have q2:=okc_use hid hc hR (okc_word_f (id:=id) (o:=o) hR hi hT _ f2)
       have q3:=okc_use hid hc hR (okc_word_t (id:=id) (o:=o) hR hi hT _ f3)
       have tm:=okc_use hid hc hR (okc_token (id:=id) (o:=o) hR hi3)
       unfold tgV
       try unfold zK
       try simp only [exC_zT]
       rw [callL_enter (fn:=Try.f46) (c:=Try.f46.body.getD .skip) rfl rfl fat_parse_parser_trigger rfl ok_parse_parser_trigger (Nat.le_of_ble_eq_true rfl)]
       have pbp:pureL [PV.bp id 0]=false:=rfl
       unfold PSR
       obtain ⟨ev,eo,so,co,⟨hev,hco⟩,R⟩:=RULES CC;rw [<- hev]
       rw [<- hco] at q0 q1 q2 q3 tm
       simp only [fpart,part',Try.f46,Option.getD]
       simp only [S9,R,seval,PY,PZ,pbp,dynR,q0,q1,q2,q3,tm,k2,bTg,SX,hid]
       exact ⟨_,rfl⟩
    | false=>
     simp only [Bool.false_eq_true,if_false]
     cases f4:isT L 1 [115,116,97,114,116] i with
     | true=>
      simp only [if_true]
      have hi4:=isT_lt hT hi f4 (by decide)
      refine ans_ok (okc_of hR (fun n=>by unfold tgV;simp only [SU]) fun bx hid hc=>?_)
      have q0:=okc_use hid hc hR (okc_word_f (id:=id) (o:=o) hR hi hT _ f0)
      have q1:=okc_use hid hc hR (okc_word_f (id:=id) (o:=o) hR hi hT _ f1)
      have q2:=okc_use hid hc hR (okc_word_f (id:=id) (o:=o) hR hi hT _ f2)
      have q3:=okc_use hid hc hR (okc_word_f (id:=id) (o:=o) hR hi hT _ f3)
      have q4:=okc_use hid hc hR (okc_word_t (id:=id) (o:=o) hR hi hT _ f4)
      unfold tgV
      try unfold zK
      try simp only [exC_zT]
      rw [callL_enter (fn:=Try.f46) (c:=Try.f46.body.getD .skip) rfl rfl fat_parse_parser_trigger rfl ok_parse_parser_trigger (Nat.le_of_ble_eq_true rfl)]
      have pbp:pureL [PV.bp id 0]=false:=rfl
      unfold PSR
      obtain ⟨ev,eo,so,co,⟨hev,hco⟩,R⟩:=RULES CC;rw [<- hev]
      rw [<- hco] at q0 q1 q2 q3 q4
      simp only [fpart,part',Try.f46,Option.getD]
      simp only [S9,R,seval,PY,PZ,pbp,dynR,q0,q1,q2,q3,q4,bTg,SX,hid]
      exact ⟨_,rfl⟩
     | false=>
      simp only [Bool.false_eq_true,if_false]
      have h5:=ans_must (id:=id) (o:=o) (i:=i) hR hi hT 1 1 rfl [104,111,108,100]
      cases r5:mustP L 1 [104,111,108,100] i with
      | out=>exact ans_out
      | bad t e=>
       rw [r5] at h5
       obtain ⟨i',o',h5⟩:=h5
       refine ans_bad ⟨i',o',badx_of hR fun bx hid hc=>?_⟩
       have q0:=okc_use hid hc hR (okc_word_f (id:=id) (o:=o) hR hi hT _ f0)
       have q1:=okc_use hid hc hR (okc_word_f (id:=id) (o:=o) hR hi hT _ f1)
       have q2:=okc_use hid hc hR (okc_word_f (id:=id) (o:=o) hR hi hT _ f2)
       have q3:=okc_use hid hc hR (okc_word_f (id:=id) (o:=o) hR hi hT _ f3)
       have q4:=okc_use hid hc hR (okc_word_f (id:=id) (o:=o) hR hi hT _ f4)
       have t5:=badx_use hid hc hR h5
       rw [callL_enter (fn:=Try.f46) (c:=Try.f46.body.getD .skip) rfl rfl fat_parse_parser_trigger rfl ok_parse_parser_trigger (Nat.le_of_ble_eq_true rfl)]
       have pbp:pureL [PV.bp id 0]=false:=rfl
       unfold PSR
       obtain ⟨ev,eo,so,co,⟨hev,hco⟩,R⟩:=RULES CC;rw [<- hev]
       rw [<- hco] at q0 q1 q2 q3 q4 t5
       simp only [fpart,part',Try.f46,Option.getD]
       simp only [S9,R,seval,PY,PZ,pbp,dynR,q0,q1,q2,q3,q4,t5,SX,hid]
       exact ⟨_,rfl⟩
      | ok a5 i5=>
       rw [r5] at h5
       dsimp only [bind_okk]
       have j5:=mustP_lt hT hi (by decide) r5
       have hj5:=j5.2
       have h6:=ans_number (id:=id) (o:=o) (i:=i5) hR hj5 hT 0 1099511627776 0 1099511627776 rfl rfl
       cases r6:numP L 0 1099511627776 i5 with
       | out=>exact ans_out
       | bad t e=>
        rw [r6] at h6
        obtain ⟨i',o',h6⟩:=h6
        refine ans_bad ⟨i',o',badx_of hR fun bx hid hc=>?_⟩
        have q0:=okc_use hid hc hR (okc_word_f (id:=id) (o:=o) hR hi hT _ f0)
        have q1:=okc_use hid hc hR (okc_word_f (id:=id) (o:=o) hR hi hT _ f1)
        have q2:=okc_use hid hc hR (okc_word_f (id:=id) (o:=o) hR hi hT _ f2)
        have q3:=okc_use hid hc hR (okc_word_f (id:=id) (o:=o) hR hi hT _ f3)
        have q4:=okc_use hid hc hR (okc_word_f (id:=id) (o:=o) hR hi hT _ f4)
        have t5:=okc_use hid hc hR h5
        have t6:=badx_use hid hc hR h6
        rw [callL_enter (fn:=Try.f46) (c:=Try.f46.body.getD .skip) rfl rfl fat_parse_parser_trigger rfl ok_parse_parser_trigger (Nat.le_of_ble_eq_true rfl)]
        have pbp:pureL [PV.bp id 0]=false:=rfl
        unfold PSR
        obtain ⟨ev,eo,so,co,⟨hev,hco⟩,R⟩:=RULES CC;rw [<- hev]
        rw [<- hco] at q0 q1 q2 q3 q4 t5 t6
        simp only [fpart,part',Try.f46,Option.getD]
        simp only [S9,R,seval,PY,PZ,pbp,dynR,q0,q1,q2,q3,q4,t5,t6,SX,hid]
        exact ⟨_,rfl⟩
       | ok a6 i6=>
        rw [r6] at h6
        dsimp only [bind_okk]
        have j6:=numP_lt hT hj5 r6
        have hj6:=j6.2.1
        refine ans_ok (okc_of hR (fun n=>by unfold tgV;simp only [SU]) fun bx hid hc=>?_)
        have q0:=okc_use hid hc hR (okc_word_f (id:=id) (o:=o) hR hi hT _ f0)
        have q1:=okc_use hid hc hR (okc_word_f (id:=id) (o:=o) hR hi hT _ f1)
        have q2:=okc_use hid hc hR (okc_word_f (id:=id) (o:=o) hR hi hT _ f2)
        have q3:=okc_use hid hc hR (okc_word_f (id:=id) (o:=o) hR hi hT _ f3)
        have q4:=okc_use hid hc hR (okc_word_f (id:=id) (o:=o) hR hi hT _ f4)
        have t5:=okc_use hid hc hR h5
        have t6:=okc_use hid hc hR h6
        unfold tgV
        try unfold zK
        try simp only [exC_zT]
        rw [callL_enter (fn:=Try.f46) (c:=Try.f46.body.getD .skip) rfl rfl fat_parse_parser_trigger rfl ok_parse_parser_trigger (Nat.le_of_ble_eq_true rfl)]
        have pbp:pureL [PV.bp id 0]=false:=rfl
        unfold PSR
        obtain ⟨ev,eo,so,co,⟨hev,hco⟩,R⟩:=RULES CC;rw [<- hev]
        rw [<- hco] at q0 q1 q2 q3 q4 t5 t6
        simp only [fpart,part',Try.f46,Option.getD]
        simp only [S9,R,seval,PY,PZ,pbp,dynR,q0,q1,q2,q3,q4,t5,t6,bTg6,SX,hid]
        exact ⟨_,rfl⟩
theorem ans_step {id:Nat} {L:List Tk} {i o:Nat} {RL:PV} (hR:RL.pure=true) (hi:i < L.length) (hT:TokOK L) (n:Nat) (ho:o=0):ANS 48 [] id L RL i o spV (stepP L n i):=by
 unfold stepP
 cases f0:isT L 1 [115,101,116] i with
 | true=>
  simp only [if_true]
  have hi0:=isT_lt hT hi f0 (by decide)
  have h1:=ans_key (id:=id) (o:=o) (i:=(i+1)) hR hi0 hT
  cases r1:pathP L  (i+1) with
  | out=>exact ans_out
  | bad t e=>
   rw [r1] at h1
   obtain ⟨i',o',h1⟩:=h1
   refine ans_bad ⟨i',o',badx_of hR fun bx hid hc=>?_⟩
   have q0:=okc_use hid hc hR (okc_word_t (id:=id) (o:=o) hR hi hT _ f0)
   have t1:=badx_use hid hc hR h1
   rw [callL_enter (fn:=Try.f48) (c:=Try.f48.body.getD .skip) rfl rfl fat_parse_parser_step rfl ok_parse_parser_step (Nat.le_of_ble_eq_true rfl)]
   have pbp:pureL [PV.bp id 0]=false:=rfl
   unfold PSR
   obtain ⟨ev,eo,so,co,⟨hev,hco⟩,R⟩:=RULES CC;rw [<- hev]
   rw [<- hco] at q0 t1
   simp only [fpart,part',Try.f48,Option.getD]
   simp only [S9,R,seval,PY,PZ,pbp,dynR,q0,t1,bSp1,SX,hid]
   exact ⟨_,rfl⟩
  | ok a1 i1=>
   rw [r1] at h1
   dsimp only [bind_okk]
   have j1:=pathP_lt hT hi0 r1
   have hj1:=j1.2.1
   have h2:=ans_must (id:=id) (o:=o) (i:=i1) hR hj1 hT 4 4 rfl [61]
   cases r2:mustP L 4 [61] i1 with
   | out=>exact ans_out
   | bad t e=>
    rw [r2] at h2
    obtain ⟨i',o',h2⟩:=h2
    refine ans_bad ⟨i',o',badx_of hR fun bx hid hc=>?_⟩
    have q0:=okc_use hid hc hR (okc_word_t (id:=id) (o:=o) hR hi hT _ f0)
    have t1:=okc_use hid hc hR h1
    unfold kyP at t1
    have t2:=badx_use hid hc hR h2
    rw [callL_enter (fn:=Try.f48) (c:=Try.f48.body.getD .skip) rfl rfl fat_parse_parser_step rfl ok_parse_parser_step (Nat.le_of_ble_eq_true rfl)]
    have pbp:pureL [PV.bp id 0]=false:=rfl
    unfold PSR
    obtain ⟨ev,eo,so,co,⟨hev,hco⟩,R⟩:=RULES CC;rw [<- hev]
    rw [<- hco] at q0 t1 t2
    simp only [fpart,part',Try.f48,Option.getD]
    simp only [S9,R,seval,PY,PZ,pbp,dynR,q0,t1,t2,bSp1,SX,hid]
    exact ⟨_,rfl⟩
   | ok a2 i2=>
    rw [r2] at h2
    dsimp only [bind_okk]
    have j2:=mustP_lt hT hj1 (by decide) r2
    have hj2:=j2.2
    have h3:=ans_whole (id:=id) (i:=i2) hR hT hj2 n o ho
    cases r3:wholeP L n i2 with
    | out=>exact ans_out
    | bad t e=>
     rw [r3] at h3
     obtain ⟨i',o',h3⟩:=h3
     refine ans_bad ⟨i',o',badx_of hR fun bx hid hc=>?_⟩
     have q0:=okc_use hid hc hR (okc_word_t (id:=id) (o:=o) hR hi hT _ f0)
     have t1:=okc_use hid hc hR h1
     unfold kyP at t1
     have t2:=okc_use hid hc hR h2
     have t3:=badx_use hid hc hR h3
     rw [callL_enter (fn:=Try.f48) (c:=Try.f48.body.getD .skip) rfl rfl fat_parse_parser_step rfl ok_parse_parser_step (Nat.le_of_ble_eq_true rfl)]
     have pbp:pureL [PV.bp id 0]=false:=rfl
     unfold PSR
     obtain ⟨ev,eo,so,co,⟨hev,hco⟩,R⟩:=RULES CC;rw [<- hev]
     rw [<- hco] at q0 t1 t2 t3
     simp only [fpart,part',Try.f48,Option.getD]
     simp only [S9,R,seval,PY,PZ,pbp,dynR,q0,t1,t2,t3,bSp1,SX,hid]
     exact ⟨_,rfl⟩
    | ok a3 i3=>
     rw [r3] at h3
     dsimp only [bind_okk]
     have j3:=wholeP_lt hT hj2 r3
     have hj3:=j3.2
     refine ans_ok (okc_of hR (fun n=>by unfold spV spC;simp [PV.under,underL,SX]) fun bx hid hc=>?_)
     have q0:=okc_use hid hc hR (okc_word_t (id:=id) (o:=o) hR hi hT _ f0)
     have t1:=okc_use hid hc hR h1
     unfold kyP at t1
     have t2:=okc_use hid hc hR h2
     have t3:=okc_use hid hc hR h3
     rw [trV_exC] at t3
     unfold spV spC
     try unfold zK
     try simp only [exC_zT]
     rw [callL_enter (fn:=Try.f48) (c:=Try.f48.body.getD .skip) rfl rfl fat_parse_parser_step rfl ok_parse_parser_step (Nat.le_of_ble_eq_true rfl)]
     have pbp:pureL [PV.bp id 0]=false:=rfl
     unfold PSR
     obtain ⟨ev,eo,so,co,⟨hev,hco⟩,R⟩:=RULES CC;rw [<- hev]
     rw [<- hco] at q0 t1 t2 t3
     simp only [fpart,part',Try.f48,Option.getD]
     simp only [S9,R,seval,PY,PZ,pbp,dynR,q0,t1,t2,t3,bSp1,SX,hid]
     exact ⟨_,rfl⟩
 | false=>
  simp only [Bool.false_eq_true,if_false]
  cases f1:isT L 1 [99,97,108,108] i with
  | true=>
   simp only [if_true]
   have hi1:=isT_lt hT hi f1 (by decide)
   have h1:=ans_path (id:=id) (o:=o) (i:=(i+1)) hR hi1 hT
   cases r1:pathP L  (i+1) with
   | out=>exact ans_out
   | bad t e=>
    rw [r1] at h1
    obtain ⟨i',o',h1⟩:=h1
    refine ans_bad ⟨i',o',badx_of hR fun bx hid hc=>?_⟩
    have q0:=okc_use hid hc hR (okc_word_f (id:=id) (o:=o) hR hi hT _ f0)
    have q1:=okc_use hid hc hR (okc_word_t (id:=id) (o:=o) hR hi hT _ f1)
    have t1:=badx_use hid hc hR h1
    rw [callL_enter (fn:=Try.f48) (c:=Try.f48.body.getD .skip) rfl rfl fat_parse_parser_step rfl ok_parse_parser_step (Nat.le_of_ble_eq_true rfl)]
    have pbp:pureL [PV.bp id 0]=false:=rfl
    unfold PSR
    obtain ⟨ev,eo,so,co,⟨hev,hco⟩,R⟩:=RULES CC;rw [<- hev]
    rw [<- hco] at q0 q1 t1
    simp only [fpart,part',Try.f48,Option.getD]
    simp only [S9,R,seval,PY,PZ,pbp,dynR,q0,q1,t1,SX,hid]
    exact ⟨_,rfl⟩
   | ok a1 i1=>
    rw [r1] at h1
    dsimp only [bind_okk]
    have j1:=pathP_lt hT hi1 r1
    have hj1:=j1.2.1
    cases f7:isT L 4 [40] i1 with
    | true=>
     simp only [if_true]
     have hi7:=isT_lt hT hj1 f7 (by decide)
     have h2:=ans_whole (id:=id) (i:=(i1+1)) hR hT hi7 n o ho
     cases r2:wholeP L n (i1+1) with
     | out=>exact ans_out
     | bad t e=>
      rw [r2] at h2
      obtain ⟨i',o',h2⟩:=h2
      refine ans_bad ⟨i',o',badx_of hR fun bx hid hc=>?_⟩
      have q0:=okc_use hid hc hR (okc_word_f (id:=id) (o:=o) hR hi hT _ f0)
      have q1:=okc_use hid hc hR (okc_word_t (id:=id) (o:=o) hR hi hT _ f1)
      have t1:=okc_use hid hc hR h1
      have q7:=okc_use hid hc hR (okc_op_t (id:=id) (o:=o) hR hj1 hT _ f7)
      have t2:=badx_use hid hc hR h2
      rw [callL_enter (fn:=Try.f48) (c:=Try.f48.body.getD .skip) rfl rfl fat_parse_parser_step rfl ok_parse_parser_step (Nat.le_of_ble_eq_true rfl)]
      have pbp:pureL [PV.bp id 0]=false:=rfl
      unfold PSR
      obtain ⟨ev,eo,so,co,⟨hev,hco⟩,R⟩:=RULES CC;rw [<- hev]
      rw [<- hco] at q0 q1 t1 q7 t2
      simp only [fpart,part',Try.f48,Option.getD]
      simp only [S9,R,seval,PY,PZ,pbp,dynR,q0,q1,t1,q7,t2,bSp2,bKy2,SX,hid]
      exact ⟨_,rfl⟩
     | ok a2 i2=>
      rw [r2] at h2
      dsimp only [bind_okk]
      have j2:=wholeP_lt hT hi7 r2
      have hj2:=j2.2
      have h3:=ans_must (id:=id) (o:=o) (i:=i2) hR hj2 hT 4 4 rfl [41]
      cases r3:mustP L 4 [41] i2 with
      | out=>exact ans_out
      | bad t e=>
       rw [r3] at h3
       obtain ⟨i',o',h3⟩:=h3
       refine ans_bad ⟨i',o',badx_of hR fun bx hid hc=>?_⟩
       have q0:=okc_use hid hc hR (okc_word_f (id:=id) (o:=o) hR hi hT _ f0)
       have q1:=okc_use hid hc hR (okc_word_t (id:=id) (o:=o) hR hi hT _ f1)
       have t1:=okc_use hid hc hR h1
       have q7:=okc_use hid hc hR (okc_op_t (id:=id) (o:=o) hR hj1 hT _ f7)
       have t2:=okc_use hid hc hR h2
       rw [trV_exC] at t2
       have t3:=badx_use hid hc hR h3
       rw [callL_enter (fn:=Try.f48) (c:=Try.f48.body.getD .skip) rfl rfl fat_parse_parser_step rfl ok_parse_parser_step (Nat.le_of_ble_eq_true rfl)]
       have pbp:pureL [PV.bp id 0]=false:=rfl
       unfold PSR
       obtain ⟨ev,eo,so,co,⟨hev,hco⟩,R⟩:=RULES CC;rw [<- hev]
       rw [<- hco] at q0 q1 t1 q7 t2 t3
       simp only [fpart,part',Try.f48,Option.getD]
       simp only [S9,R,seval,PY,PZ,pbp,dynR,q0,q1,t1,q7,t2,t3,bSp2,bKy2,SX,hid]
       exact ⟨_,rfl⟩
      | ok a3 i3=>
       rw [r3] at h3
       dsimp only [bind_okk]
       have j3:=mustP_lt hT hj2 (by decide) r3
       have hj3:=j3.2
       refine ans_ok (okc_of hR (fun n=>by unfold spV spC;simp [PV.under,underL,SX]) fun bx hid hc=>?_)
       have q0:=okc_use hid hc hR (okc_word_f (id:=id) (o:=o) hR hi hT _ f0)
       have q1:=okc_use hid hc hR (okc_word_t (id:=id) (o:=o) hR hi hT _ f1)
       have t1:=okc_use hid hc hR h1
       have q7:=okc_use hid hc hR (okc_op_t (id:=id) (o:=o) hR hj1 hT _ f7)
       have t2:=okc_use hid hc hR h2
       rw [trV_exC] at t2
       have t3:=okc_use hid hc hR h3
       unfold spV spC
       try unfold zK
       try simp only [exC_zT]
       rw [callL_enter (fn:=Try.f48) (c:=Try.f48.body.getD .skip) rfl rfl fat_parse_parser_step rfl ok_parse_parser_step (Nat.le_of_ble_eq_true rfl)]
       have pbp:pureL [PV.bp id 0]=false:=rfl
       unfold PSR
       obtain ⟨ev,eo,so,co,⟨hev,hco⟩,R⟩:=RULES CC;rw [<- hev]
       rw [<- hco] at q0 q1 t1 q7 t2 t3
       simp only [fpart,part',Try.f48,Option.getD]
       simp only [S9,R,seval,PY,PZ,pbp,dynR,q0,q1,t1,q7,t2,t3,bSp2,bKy2,SX,hid]
       exact ⟨_,rfl⟩
    | false=>
     simp only [Bool.false_eq_true,if_false]
     refine ans_ok (okc_of hR (fun n=>by unfold spV spC;simp [PV.under,underL,SX]) fun bx hid hc=>?_)
     have q0:=okc_use hid hc hR (okc_word_f (id:=id) (o:=o) hR hi hT _ f0)
     have q1:=okc_use hid hc hR (okc_word_t (id:=id) (o:=o) hR hi hT _ f1)
     have t1:=okc_use hid hc hR h1
     have q7:=okc_use hid hc hR (okc_op_f (id:=id) (o:=o) hR hj1 hT _ f7)
     unfold spV spC
     try unfold zK
     try simp only [exC_zT]
     rw [callL_enter (fn:=Try.f48) (c:=Try.f48.body.getD .skip) rfl rfl fat_parse_parser_step rfl ok_parse_parser_step (Nat.le_of_ble_eq_true rfl)]
     have pbp:pureL [PV.bp id 0]=false:=rfl
     unfold PSR
     obtain ⟨ev,eo,so,co,⟨hev,hco⟩,R⟩:=RULES CC;rw [<- hev]
     rw [<- hco] at q0 q1 t1 q7
     simp only [fpart,part',Try.f48,Option.getD]
     simp only [S9,R,seval,PY,PZ,pbp,dynR,q0,q1,t1,q7,bSp2,bKy2,SX,hid]
     exact ⟨_,rfl⟩
  | false=>
   simp only [Bool.false_eq_true,if_false]
   cases f2:isT L 1 [115,99,101,110,101] i with
   | true=>
    simp only [if_true]
    have hi2:=isT_lt hT hi f2 (by decide)
    have h1:=ans_name (id:=id) (o:=o) (i:=(i+1)) hR hi2 hT
    cases r1:nameP L (i+1) with
    | out=>exact ans_out
    | bad t e=>
     rw [r1] at h1
     obtain ⟨i',o',h1⟩:=h1
     refine ans_bad ⟨i',o',badx_of hR fun bx hid hc=>?_⟩
     have q0:=okc_use hid hc hR (okc_word_f (id:=id) (o:=o) hR hi hT _ f0)
     have q1:=okc_use hid hc hR (okc_word_f (id:=id) (o:=o) hR hi hT _ f1)
     have q2:=okc_use hid hc hR (okc_word_t (id:=id) (o:=o) hR hi hT _ f2)
     have t1:=badx_use hid hc hR h1
     rw [callL_enter (fn:=Try.f48) (c:=Try.f48.body.getD .skip) rfl rfl fat_parse_parser_step rfl ok_parse_parser_step (Nat.le_of_ble_eq_true rfl)]
     have pbp:pureL [PV.bp id 0]=false:=rfl
     unfold PSR
     obtain ⟨ev,eo,so,co,⟨hev,hco⟩,R⟩:=RULES CC;rw [<- hev]
     rw [<- hco] at q0 q1 q2 t1
     simp only [fpart,part',Try.f48,Option.getD]
     simp only [S9,R,seval,PY,PZ,pbp,dynR,q0,q1,q2,t1,SX,hid]
     exact ⟨_,rfl⟩
    | ok a1 i1=>
     rw [r1] at h1
     dsimp only [bind_okk]
     have j1:=nameP_lt hT hi2 r1
     have hj1:=j1.2
     refine ans_ok (okc_of hR (fun n=>by unfold spV spC;simp [PV.under,underL,SX]) fun bx hid hc=>?_)
     have q0:=okc_use hid hc hR (okc_word_f (id:=id) (o:=o) hR hi hT _ f0)
     have q1:=okc_use hid hc hR (okc_word_f (id:=id) (o:=o) hR hi hT _ f1)
     have q2:=okc_use hid hc hR (okc_word_t (id:=id) (o:=o) hR hi hT _ f2)
     have t1:=okc_use hid hc hR h1
     unfold spV spC
     try unfold zK
     try simp only [exC_zT]
     rw [callL_enter (fn:=Try.f48) (c:=Try.f48.body.getD .skip) rfl rfl fat_parse_parser_step rfl ok_parse_parser_step (Nat.le_of_ble_eq_true rfl)]
     have pbp:pureL [PV.bp id 0]=false:=rfl
     unfold PSR
     obtain ⟨ev,eo,so,co,⟨hev,hco⟩,R⟩:=RULES CC;rw [<- hev]
     rw [<- hco] at q0 q1 q2 t1
     simp only [fpart,part',Try.f48,Option.getD]
     simp only [S9,R,seval,PY,PZ,pbp,dynR,q0,q1,q2,t1,bSp,SX,hid]
     exact ⟨_,rfl⟩
   | false=>
    simp only [Bool.false_eq_true,if_false]
    cases f3:isT L 1 [109,111,100,101] i with
    | true=>
     simp only [if_true]
     have hi3:=isT_lt hT hi f3 (by decide)
     have h1:=ans_name (id:=id) (o:=o) (i:=(i+1)) hR hi3 hT
     cases r1:nameP L (i+1) with
     | out=>exact ans_out
     | bad t e=>
      rw [r1] at h1
      obtain ⟨i',o',h1⟩:=h1
      refine ans_bad ⟨i',o',badx_of hR fun bx hid hc=>?_⟩
      have q0:=okc_use hid hc hR (okc_word_f (id:=id) (o:=o) hR hi hT _ f0)
      have q1:=okc_use hid hc hR (okc_word_f (id:=id) (o:=o) hR hi hT _ f1)
      have q2:=okc_use hid hc hR (okc_word_f (id:=id) (o:=o) hR hi hT _ f2)
      have q3:=okc_use hid hc hR (okc_word_t (id:=id) (o:=o) hR hi hT _ f3)
      have t1:=badx_use hid hc hR h1
      rw [callL_enter (fn:=Try.f48) (c:=Try.f48.body.getD .skip) rfl rfl fat_parse_parser_step rfl ok_parse_parser_step (Nat.le_of_ble_eq_true rfl)]
      have pbp:pureL [PV.bp id 0]=false:=rfl
      unfold PSR
      obtain ⟨ev,eo,so,co,⟨hev,hco⟩,R⟩:=RULES CC;rw [<- hev]
      rw [<- hco] at q0 q1 q2 q3 t1
      simp only [fpart,part',Try.f48,Option.getD]
      simp only [S9,R,seval,PY,PZ,pbp,dynR,q0,q1,q2,q3,t1,SX,hid]
      exact ⟨_,rfl⟩
     | ok a1 i1=>
      rw [r1] at h1
      dsimp only [bind_okk]
      have j1:=nameP_lt hT hi3 r1
      have hj1:=j1.2
      refine ans_ok (okc_of hR (fun n=>by unfold spV spC;simp [PV.under,underL,SX]) fun bx hid hc=>?_)
      have q0:=okc_use hid hc hR (okc_word_f (id:=id) (o:=o) hR hi hT _ f0)
      have q1:=okc_use hid hc hR (okc_word_f (id:=id) (o:=o) hR hi hT _ f1)
      have q2:=okc_use hid hc hR (okc_word_f (id:=id) (o:=o) hR hi hT _ f2)
      have q3:=okc_use hid hc hR (okc_word_t (id:=id) (o:=o) hR hi hT _ f3)
      have t1:=okc_use hid hc hR h1
      unfold spV spC
      try unfold zK
      try simp only [exC_zT]
      rw [callL_enter (fn:=Try.f48) (c:=Try.f48.body.getD .skip) rfl rfl fat_parse_parser_step rfl ok_parse_parser_step (Nat.le_of_ble_eq_true rfl)]
      have pbp:pureL [PV.bp id 0]=false:=rfl
      unfold PSR
      obtain ⟨ev,eo,so,co,⟨hev,hco⟩,R⟩:=RULES CC;rw [<- hev]
      rw [<- hco] at q0 q1 q2 q3 t1
      simp only [fpart,part',Try.f48,Option.getD]
      simp only [S9,R,seval,PY,PZ,pbp,dynR,q0,q1,q2,q3,t1,bSp,SX,hid]
      exact ⟨_,rfl⟩
    | false=>
     simp only [Bool.false_eq_true,if_false]
     have h5:=ans_must (id:=id) (o:=o) (i:=i) hR hi hT 1 1 rfl [110,111,116,105,102,121]
     cases r5:mustP L 1 [110,111,116,105,102,121] i with
     | out=>exact ans_out
     | bad t e=>
      rw [r5] at h5
      obtain ⟨i',o',h5⟩:=h5
      refine ans_bad ⟨i',o',badx_of hR fun bx hid hc=>?_⟩
      have q0:=okc_use hid hc hR (okc_word_f (id:=id) (o:=o) hR hi hT _ f0)
      have q1:=okc_use hid hc hR (okc_word_f (id:=id) (o:=o) hR hi hT _ f1)
      have q2:=okc_use hid hc hR (okc_word_f (id:=id) (o:=o) hR hi hT _ f2)
      have q3:=okc_use hid hc hR (okc_word_f (id:=id) (o:=o) hR hi hT _ f3)
      have t5:=badx_use hid hc hR h5
      rw [callL_enter (fn:=Try.f48) (c:=Try.f48.body.getD .skip) rfl rfl fat_parse_parser_step rfl ok_parse_parser_step (Nat.le_of_ble_eq_true rfl)]
      have pbp:pureL [PV.bp id 0]=false:=rfl
      unfold PSR
      obtain ⟨ev,eo,so,co,⟨hev,hco⟩,R⟩:=RULES CC;rw [<- hev]
      rw [<- hco] at q0 q1 q2 q3 t5
      simp only [fpart,part',Try.f48,Option.getD]
      simp only [S9,R,seval,PY,PZ,pbp,dynR,q0,q1,q2,q3,t5,SX,hid]
      exact ⟨_,rfl⟩
     | ok a5 i5=>
      rw [r5] at h5
      dsimp only [bind_okk]
      have j5:=mustP_lt hT hi (by decide) r5
      have hj5:=j5.2
      have h6:=ans_one (id:=id) (o:=o) (i:=i5) hR hj5 hT 3 3 rfl
      cases r6:oneP L 3 i5 with
      | out=>exact ans_out
      | bad t e=>
       rw [r6] at h6
       obtain ⟨i',o',h6⟩:=h6
       refine ans_bad ⟨i',o',badx_of hR fun bx hid hc=>?_⟩
       have q0:=okc_use hid hc hR (okc_word_f (id:=id) (o:=o) hR hi hT _ f0)
       have q1:=okc_use hid hc hR (okc_word_f (id:=id) (o:=o) hR hi hT _ f1)
       have q2:=okc_use hid hc hR (okc_word_f (id:=id) (o:=o) hR hi hT _ f2)
       have q3:=okc_use hid hc hR (okc_word_f (id:=id) (o:=o) hR hi hT _ f3)
       have t5:=okc_use hid hc hR h5
       have t6:=badx_use hid hc hR h6
       rw [callL_enter (fn:=Try.f48) (c:=Try.f48.body.getD .skip) rfl rfl fat_parse_parser_step rfl ok_parse_parser_step (Nat.le_of_ble_eq_true rfl)]
       have pbp:pureL [PV.bp id 0]=false:=rfl
       unfold PSR
       obtain ⟨ev,eo,so,co,⟨hev,hco⟩,R⟩:=RULES CC;rw [<- hev]
       rw [<- hco] at q0 q1 q2 q3 t5 t6
       simp only [fpart,part',Try.f48,Option.getD]
       simp only [S9,R,seval,PY,PZ,pbp,dynR,q0,q1,q2,q3,t5,t6,SX,hid]
       exact ⟨_,rfl⟩
      | ok a6 i6=>
       rw [r6] at h6
       dsimp only [bind_okk]
       have j6:=oneP_lt hT hj5 (by decide) r6
       have hj6:=j6.2
       refine ans_ok (okc_of hR (fun n=>by unfold spV spC;simp [PV.under,underL,SX]) fun bx hid hc=>?_)
       have q0:=okc_use hid hc hR (okc_word_f (id:=id) (o:=o) hR hi hT _ f0)
       have q1:=okc_use hid hc hR (okc_word_f (id:=id) (o:=o) hR hi hT _ f1)
       have q2:=okc_use hid hc hR (okc_word_f (id:=id) (o:=o) hR hi hT _ f2)
       have q3:=okc_use hid hc hR (okc_word_f (id:=id) (o:=o) hR hi hT _ f3)
       have t5:=okc_use hid hc hR h5
       have t6:=okc_use hid hc hR h6
       unfold tkV at t6
       unfold spV spC
       try unfold zK
       try simp only [exC_zT]
       rw [callL_enter (fn:=Try.f48) (c:=Try.f48.body.getD .skip) rfl rfl fat_parse_parser_step rfl ok_parse_parser_step (Nat.le_of_ble_eq_true rfl)]
       have pbp:pureL [PV.bp id 0]=false:=rfl
       unfold PSR
       obtain ⟨ev,eo,so,co,⟨hev,hco⟩,R⟩:=RULES CC;rw [<- hev]
       rw [<- hco] at q0 q1 q2 q3 t5 t6
       simp only [fpart,part',Try.f48,Option.getD]
       simp only [S9,R,seval,PY,PZ,pbp,dynR,q0,q1,q2,q3,t5,t6,bSp,SX,hid]
       exact ⟨_,rfl⟩
end Go.HH
