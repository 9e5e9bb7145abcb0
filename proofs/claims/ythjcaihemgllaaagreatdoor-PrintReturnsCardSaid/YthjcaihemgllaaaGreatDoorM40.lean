/-
  What the law needs, packed: PS PT PU PV PW.
-/
import Derived.Test.YthjcaihemgllaaaGreatDoorM39
namespace Go.HH
open Go Go.Proofs
set_option maxRecDepth 100000
set_option maxHeartbeats 4000000
set_option linter.unusedSimpArgs false
set_option linter.unusedVariables false
theorem ctr_prim {id:Nat} {L:List Tk} {RL:PV} (hR:RL.pure=true) (hT:TokOK L) (n:Nat) (hx:CtrE 99 .expr id L RL n):CtrE 187 .prim id L RL (n+1):=by
 intro i o hi ho
 rw [pz]
 have hw:IntKind.wrap .i64 ((i:Int)+1)=((i+1:Nat):Int):=by rw [wrap_i64 ⟨by omega,by have:=hT.len;omega⟩];omega
 have k2:=natBeq (tokAt L i).1 2
 have k3:=natBeq (tokAt L i).1 3
 cases hp:plainB L i with
 | true=>
  simp only [if_true]
  have hk:(tokAt L i).1=2:=by unfold plainB at hp;simp only [Bool.and_eq_true,beq_iff_eq] at hp;exact hp.1
  have ham:=op_parse_amount (tokAt L i) (hT.word i) (hT.num i hk).1 (hT.num i hk).2
  have hl:=litE 2 ((amtN (tokAt L i).2.1 0:Nat):Int)
  unfold tkV at ham
  refine ans_ok (okc_of hR (fun n=>by rw [trV_exC];simp only [SX,PV.under]) fun bx hid hc=>?_)
  have t0:=okc_use hid hc hR (okc_token (id:=id) (o:=o) hR hi)
  have tp:=okc_use hid hc hR (okc_plain (id:=id) (o:=o) hR hi hT)
  rw [hp] at tp
  rw [trV_exC]
  rw [callL_enter (fn:=Tryz.f187) (c:=Tryz.f187.body.getD .skip) rfl rfl fat_parse_parser_primary rfl ok_parse_parser_primary (Nat.le_of_ble_eq_true rfl)]
  have pbp:pureL [PV.bp id 0]=false:=rfl
  unfold PSR
  obtain ⟨ev,eo,so,co,⟨hev,hco⟩,R⟩:=RULES CC;rw [<- hev]
  rw [<- hco] at t0 tp ham hl
  simp only [fpart,part',Tryz.f187,Option.getD]
  simp only [S9,R,seval,PY,PZ,pbp,t0,tp,ham,hl,hw,SX,hid]
  exact ⟨_,rfl⟩
 | false=>
  simp only [Bool.false_eq_true,if_false]
  by_cases hk:(tokAt L i).1=2
  · rw [if_pos hk]
    rw [beq_iff_eq.2 hk] at k2
    have k2:(((tokAt L i).1:Int) == 2)=true:=k2
    have h1:=ans_key (id:=id) (o:=o) (i:=i) hR hi hT
    cases r1:pathP L i with
    | out=>exact ans_out
    | bad t e=>
     rw [r1] at h1
     obtain ⟨i',o',h1⟩:=h1
     refine ans_bad ⟨i',o',badx_of hR fun bx hid hc=>?_⟩
     have t0:=okc_use hid hc hR (okc_token (id:=id) (o:=o) hR hi)
     have tp:=okc_use hid hc hR (okc_plain (id:=id) (o:=o) hR hi hT)
     rw [hp] at tp
     have t1:=badx_use hid hc hR h1
     rw [callL_enter (fn:=Tryz.f187) (c:=Tryz.f187.body.getD .skip) rfl rfl fat_parse_parser_primary rfl ok_parse_parser_primary (Nat.le_of_ble_eq_true rfl)]
     have pbp:pureL [PV.bp id 0]=false:=rfl
     unfold PSR
     obtain ⟨ev,eo,so,co,⟨hev,hco⟩,R⟩:=RULES CC;rw [<- hev]
     rw [<- hco] at t0 tp t1
     simp only [fpart,part',Tryz.f187,Option.getD]
     simp only [S9,R,seval,PY,PZ,pbp,t0,tp,t1,k2,hid]
     exact ⟨_,rfl⟩
    | ok k j=>
     rw [r1] at h1
     dsimp only [bind_okk]
     refine ans_ok (okc_of hR (fun n=>by rw [trV_exC];simp only [SX,PV.under]) fun bx hid hc=>?_)
     have t0:=okc_use hid hc hR (okc_token (id:=id) (o:=o) hR hi)
     have tp:=okc_use hid hc hR (okc_plain (id:=id) (o:=o) hR hi hT)
     rw [hp] at tp
     have t1:=okc_use hid hc hR h1
     unfold kyP at t1
     rw [trV_lit]
     rw [callL_enter (fn:=Tryz.f187) (c:=Tryz.f187.body.getD .skip) rfl rfl fat_parse_parser_primary rfl ok_parse_parser_primary (Nat.le_of_ble_eq_true rfl)]
     have pbp:pureL [PV.bp id 0]=false:=rfl
     unfold PSR zV
     obtain ⟨ev,eo,so,co,⟨hev,hco⟩,R⟩:=RULES CC;rw [<- hev]
     rw [<- hco] at t0 tp t1
     simp only [fpart,part',Tryz.f187,Option.getD]
     simp only [S9,R,seval,PY,PZ,pbp,t0,tp,t1,k2,buildAttr,hid]
     exact ⟨_,rfl⟩
  · rw [if_neg hk]
    rw [beq_eq_false_iff_ne.2 hk] at k2
    have k2:(((tokAt L i).1:Int) == 2)=false:=k2
    by_cases hk3:(tokAt L i).1=3
    · rw [if_pos hk3]
      rw [beq_iff_eq.2 hk3] at k3
      have k3:(((tokAt L i).1:Int) == 3)=true:=k3
      refine ans_ok (okc_of hR (fun n=>by rw [trV_exC];simp only [SX,PV.under]) fun bx hid hc=>?_)
      have t0:=okc_use hid hc hR (okc_token (id:=id) (o:=o) hR hi)
      have tp:=okc_use hid hc hR (okc_plain (id:=id) (o:=o) hR hi hT)
      rw [hp] at tp
      rw [trV_lit]
      rw [callL_enter (fn:=Tryz.f187) (c:=Tryz.f187.body.getD .skip) rfl rfl fat_parse_parser_primary rfl ok_parse_parser_primary (Nat.le_of_ble_eq_true rfl)]
      have pbp:pureL [PV.bp id 0]=false:=rfl
      unfold PSR zK
      obtain ⟨ev,eo,so,co,⟨hev,hco⟩,R⟩:=RULES CC;rw [<- hev]
      rw [<- hco] at t0 tp
      simp only [fpart,part',Tryz.f187,Option.getD]
      simp only [S9,R,seval,PY,PZ,pbp,t0,tp,k2,k3,hw,buildVt,buildText,hid]
      exact ⟨_,rfl⟩
    · rw [if_neg hk3]
      rw [beq_eq_false_iff_ne.2 hk3] at k3
      have k3:(((tokAt L i).1:Int) == 3)=false:=k3
      cases f0:isT L 4 [35] i with
      | true=>
       simp only [if_true]
       have hi1:=isT_lt hT hi f0 (by decide)
       have h1:=ans_number (id:=id) (o:=o) (i:=i+1) hR hi1 hT 0 63 0 63 rfl rfl
       cases r1:numP L 0 63 (i+1) with
       | out=>exact ans_out
       | bad t e=>
        rw [r1] at h1
        obtain ⟨i',o',h1⟩:=h1
        refine ans_bad ⟨i',o',badx_of hR fun bx hid hc=>?_⟩
        have t0:=okc_use hid hc hR (okc_token (id:=id) (o:=o) hR hi)
        have tp:=okc_use hid hc hR (okc_plain (id:=id) (o:=o) hR hi hT)
        rw [hp] at tp
        have q0:=okc_use hid hc hR (okc_op_t (id:=id) (o:=o) hR hi hT _ f0)
        have t1:=badx_use hid hc hR h1
        rw [callL_enter (fn:=Tryz.f187) (c:=Tryz.f187.body.getD .skip) rfl rfl fat_parse_parser_primary rfl ok_parse_parser_primary (Nat.le_of_ble_eq_true rfl)]
        have pbp:pureL [PV.bp id 0]=false:=rfl
        unfold PSR
        obtain ⟨ev,eo,so,co,⟨hev,hco⟩,R⟩:=RULES CC;rw [<- hev]
        rw [<- hco] at t0 tp q0 t1
        simp only [fpart,part',Tryz.f187,Option.getD]
        simp only [S9,R,seval,PY,PZ,pbp,t0,tp,k2,k3,q0,t1,hid]
        exact ⟨_,rfl⟩
       | ok m j=>
        rw [r1] at h1
        dsimp only [bind_okk]
        have hl:=litE 3 (m:Int)
        refine ans_ok (okc_of hR (fun n=>by rw [trV_exC];simp only [SX,PV.under]) fun bx hid hc=>?_)
        have t0:=okc_use hid hc hR (okc_token (id:=id) (o:=o) hR hi)
        have tp:=okc_use hid hc hR (okc_plain (id:=id) (o:=o) hR hi hT)
        rw [hp] at tp
        have q0:=okc_use hid hc hR (okc_op_t (id:=id) (o:=o) hR hi hT _ f0)
        have t1:=okc_use hid hc hR h1
        rw [trV_exC]
        rw [callL_enter (fn:=Tryz.f187) (c:=Tryz.f187.body.getD .skip) rfl rfl fat_parse_parser_primary rfl ok_parse_parser_primary (Nat.le_of_ble_eq_true rfl)]
        have pbp:pureL [PV.bp id 0]=false:=rfl
        unfold PSR
        obtain ⟨ev,eo,so,co,⟨hev,hco⟩,R⟩:=RULES CC;rw [<- hev]
        rw [<- hco] at t0 tp q0 t1 hl
        simp only [fpart,part',Tryz.f187,Option.getD]
        simp only [S9,R,seval,PY,PZ,pbp,t0,tp,k2,k3,q0,t1,hl,SX,hid]
        exact ⟨_,rfl⟩
      | false=>
       simp only [Bool.false_eq_true,if_false]
       cases f1:isT L 4 [40] i with
       | true=>
        simp only [if_true]
        have hi1:=isT_lt hT hi f1 (by decide)
        by_cases hlt:o < 100
        · rw [if_pos hlt]
          have hwo:IntKind.wrap .i64 (((o+1:Nat):Int) - 1)=((o:Nat):Int):=by rw [wrap_i64 ⟨by omega,by omega⟩];omega
          have h1:=hx (i+1) (o+1) hi1 (by omega)
          cases r1:pz L n .expr (o+1) (i+1) with
          | out=>exact ans_out
          | bad t e=>
           rw [r1] at h1
           obtain ⟨i',o',h1⟩:=h1
           refine ans_bad ⟨i',o',badx_of hR fun bx hid hc=>?_⟩
           have t0:=okc_use hid hc hR (okc_token (id:=id) (o:=o) hR hi)
           have tp:=okc_use hid hc hR (okc_plain (id:=id) (o:=o) hR hi hT)
           rw [hp] at tp
           have q0:=okc_use hid hc hR (okc_op_f (id:=id) (o:=o) hR hi hT _ f0)
           have q1:=okc_use hid hc hR (okc_op_t (id:=id) (o:=o) hR hi hT _ f1)
           have te:=okc_use hid hc hR (okc_enter (id:=id) (L:=L) (i:=i+1) hR hlt (tokAt L i).1 (tokAt L i).2.1 (tokAt L i).2.2)
           have t1:=badx_use hid hc hR h1
           rw [callL_enter (fn:=Tryz.f187) (c:=Tryz.f187.body.getD .skip) rfl rfl fat_parse_parser_primary rfl ok_parse_parser_primary (Nat.le_of_ble_eq_true rfl)]
           have pbp:pureL [PV.bp id 0]=false:=rfl
           unfold PSR
           obtain ⟨ev,eo,so,co,⟨hev,hco⟩,R⟩:=RULES CC;rw [<- hev]
           rw [<- hco] at t0 tp q0 q1 te t1
           simp only [fpart,part',Tryz.f187,Option.getD]
           simp only [S9,R,seval,PY,PZ,pbp,t0,tp,k2,k3,q0,q1,te,t1,hid]
           exact ⟨_,rfl⟩
          | ok a j=>
           rw [r1] at h1
           dsimp only [bind_okk]
           have hj:=(pz_lt hT _ _ _ _ _ _ hi1 r1).2
           have h2:=ans_must (id:=id) (o:=o+1) (i:=j) hR hj hT 4 4 rfl [41]
           cases r2:mustP L 4 [41] j with
           | out=>exact ans_out
           | bad t e=>
            rw [r2] at h2
            obtain ⟨i',o',h2⟩:=h2
            refine ans_bad ⟨i',o',badx_of hR fun bx hid hc=>?_⟩
            have t0:=okc_use hid hc hR (okc_token (id:=id) (o:=o) hR hi)
            have tp:=okc_use hid hc hR (okc_plain (id:=id) (o:=o) hR hi hT)
            rw [hp] at tp
            have q0:=okc_use hid hc hR (okc_op_f (id:=id) (o:=o) hR hi hT _ f0)
            have q1:=okc_use hid hc hR (okc_op_t (id:=id) (o:=o) hR hi hT _ f1)
            have te:=okc_use hid hc hR (okc_enter (id:=id) (L:=L) (i:=i+1) hR hlt (tokAt L i).1 (tokAt L i).2.1 (tokAt L i).2.2)
            have t1:=okc_use hid hc hR h1
            rw [trV_exC] at t1
            have t2:=badx_use hid hc hR h2
            rw [callL_enter (fn:=Tryz.f187) (c:=Tryz.f187.body.getD .skip) rfl rfl fat_parse_parser_primary rfl ok_parse_parser_primary (Nat.le_of_ble_eq_true rfl)]
            have pbp:pureL [PV.bp id 0]=false:=rfl
            unfold PSR
            obtain ⟨ev,eo,so,co,⟨hev,hco⟩,R⟩:=RULES CC;rw [<- hev]
            rw [<- hco] at t0 tp q0 q1 te t1 t2
            simp only [fpart,part',Tryz.f187,Option.getD]
            simp only [S9,R,seval,PY,PZ,pbp,t0,tp,k2,k3,q0,q1,te,t1,t2,SX,hid]
            exact ⟨_,rfl⟩
           | ok u j2=>
            rw [r2] at h2
            dsimp only [bind_okk]
            refine ans_ok (okc_of hR (fun n=>by rw [trV_exC];simp only [SX,PV.under]) fun bx hid hc=>?_)
            have t0:=okc_use hid hc hR (okc_token (id:=id) (o:=o) hR hi)
            have tp:=okc_use hid hc hR (okc_plain (id:=id) (o:=o) hR hi hT)
            rw [hp] at tp
            have q0:=okc_use hid hc hR (okc_op_f (id:=id) (o:=o) hR hi hT _ f0)
            have q1:=okc_use hid hc hR (okc_op_t (id:=id) (o:=o) hR hi hT _ f1)
            have te:=okc_use hid hc hR (okc_enter (id:=id) (L:=L) (i:=i+1) hR hlt (tokAt L i).1 (tokAt L i).2.1 (tokAt L i).2.2)
            have t1:=okc_use hid hc hR h1
            rw [trV_exC] at t1
            have t2:=okc_use hid hc hR h2
            rw [trV_exC]
            rw [callL_enter (fn:=Tryz.f187) (c:=Tryz.f187.body.getD .skip) rfl rfl fat_parse_parser_primary rfl ok_parse_parser_primary (Nat.le_of_ble_eq_true rfl)]
            have pbp:pureL [PV.bp id 0]=false:=rfl
            unfold PSR
            obtain ⟨ev,eo,so,co,⟨hev,hco⟩,R⟩:=RULES CC;rw [<- hev]
            rw [<- hco] at t0 tp q0 q1 te t1 t2
            simp only [fpart,part',Tryz.f187,Option.getD]
            simp only [S9,R,seval,PY,PZ,pbp,t0,tp,k2,k3,q0,q1,te,t1,t2,hwo,SX,hid]
            exact ⟨_,rfl⟩
        · rw [if_neg hlt]
          have ho2:o=100:=by omega
          refine ans_bad ⟨i+1,o+1,badx_of hR fun bx hid hc=>?_⟩
          have t0:=okc_use hid hc hR (okc_token (id:=id) (o:=o) hR hi)
          have tp:=okc_use hid hc hR (okc_plain (id:=id) (o:=o) hR hi hT)
          rw [hp] at tp
          have q0:=okc_use hid hc hR (okc_op_f (id:=id) (o:=o) hR hi hT _ f0)
          have q1:=okc_use hid hc hR (okc_op_t (id:=id) (o:=o) hR hi hT _ f1)
          have te:=badx_use hid hc hR (badx_enter (id:=id) (L:=L) (i:=i+1) hR ho2 (tokAt L i).1 (tokAt L i).2.1 (tokAt L i).2.2)
          rw [callL_enter (fn:=Tryz.f187) (c:=Tryz.f187.body.getD .skip) rfl rfl fat_parse_parser_primary rfl ok_parse_parser_primary (Nat.le_of_ble_eq_true rfl)]
          have pbp:pureL [PV.bp id 0]=false:=rfl
          unfold PSR atT
          obtain ⟨ev,eo,so,co,⟨hev,hco⟩,R⟩:=RULES CC;rw [<- hev]
          rw [<- hco] at t0 tp q0 q1 te
          simp only [fpart,part',Tryz.f187,Option.getD]
          simp only [S9,R,seval,PY,PZ,pbp,t0,tp,k2,k3,q0,q1,te,hid]
          exact ⟨_,rfl⟩
       | false=>
        simp only [Bool.false_eq_true,if_false]
        have h1:=ans_cond (id:=id) (o:=o) (i:=i) hR hi hT
        cases r1:condP L i with
        | out=>exact ans_out
        | bad t e=>
         rw [r1] at h1
         obtain ⟨i',o',h1⟩:=h1
         refine ans_bad ⟨i',o',badx_of hR fun bx hid hc=>?_⟩
         have t0:=okc_use hid hc hR (okc_token (id:=id) (o:=o) hR hi)
         have tp:=okc_use hid hc hR (okc_plain (id:=id) (o:=o) hR hi hT)
         rw [hp] at tp
         have q0:=okc_use hid hc hR (okc_op_f (id:=id) (o:=o) hR hi hT _ f0)
         have q1:=okc_use hid hc hR (okc_op_f (id:=id) (o:=o) hR hi hT _ f1)
         have t1:=badx_use hid hc hR h1
         rw [callL_enter (fn:=Tryz.f187) (c:=Tryz.f187.body.getD .skip) rfl rfl fat_parse_parser_primary rfl ok_parse_parser_primary (Nat.le_of_ble_eq_true rfl)]
         have pbp:pureL [PV.bp id 0]=false:=rfl
         unfold PSR
         obtain ⟨ev,eo,so,co,⟨hev,hco⟩,R⟩:=RULES CC;rw [<- hev]
         rw [<- hco] at t0 tp q0 q1 t1
         simp only [fpart,part',Tryz.f187,Option.getD]
         simp only [S9,R,seval,PY,PZ,pbp,t0,tp,k2,k3,q0,q1,t1,hid]
         exact ⟨_,rfl⟩
        | ok a j=>
         rw [r1] at h1
         refine ans_ok (okc_of hR (fun n=>by rw [trV_exC];simp only [SX,PV.under]) fun bx hid hc=>?_)
         have t0:=okc_use hid hc hR (okc_token (id:=id) (o:=o) hR hi)
         have tp:=okc_use hid hc hR (okc_plain (id:=id) (o:=o) hR hi hT)
         rw [hp] at tp
         have q0:=okc_use hid hc hR (okc_op_f (id:=id) (o:=o) hR hi hT _ f0)
         have q1:=okc_use hid hc hR (okc_op_f (id:=id) (o:=o) hR hi hT _ f1)
         have t1:=okc_use hid hc hR h1
         rw [trV_exC] at t1
         rw [trV_exC]
         rw [callL_enter (fn:=Tryz.f187) (c:=Tryz.f187.body.getD .skip) rfl rfl fat_parse_parser_primary rfl ok_parse_parser_primary (Nat.le_of_ble_eq_true rfl)]
         have pbp:pureL [PV.bp id 0]=false:=rfl
         unfold PSR
         obtain ⟨ev,eo,so,co,⟨hev,hco⟩,R⟩:=RULES CC;rw [<- hev]
         rw [<- hco] at t0 tp q0 q1 t1
         simp only [fpart,part',Tryz.f187,Option.getD]
         simp only [S9,R,seval,PY,PZ,pbp,t0,tp,k2,k3,q0,q1,t1,SX,hid]
         exact ⟨_,rfl⟩
theorem ctr_un {id:Nat} {L:List Tk} {RL:PV} (hR:RL.pure=true) (hT:TokOK L) (n:Nat) (hp:CtrE 187 .prim id L RL n) (hx:CtrE 184 .un id L RL n):CtrE 184 .un id L RL (n+1):=by
 intro i o hi ho
 rw [pz]
 cases f0:isT L 4 [45] i with
 | false=>
  simp only [Bool.false_eq_true,if_false]
  have h1:=hp i o hi ho
  cases r1:pz L n .prim o i with
  | out=>exact ans_out
  | bad t e=>
   rw [r1] at h1
   obtain ⟨i',o',h1⟩:=h1
   refine ans_bad ⟨i',o',badx_of hR fun bx hid hc=>?_⟩
   have t0:=okc_use hid hc hR (okc_token (id:=id) (o:=o) hR hi)
   have q0:=okc_use hid hc hR (okc_op_f (id:=id) (o:=o) hR hi hT _ f0)
   have t1:=badx_use hid hc hR h1
   rw [callL_enter (fn:=Tryz.f184) (c:=Tryz.f184.body.getD .skip) rfl rfl fat_parse_parser_unary rfl ok_parse_parser_unary (Nat.le_of_ble_eq_true rfl)]
   have pbp:pureL [PV.bp id 0]=false:=rfl
   unfold PSR
   obtain ⟨ev,eo,so,co,⟨hev,hco⟩,R⟩:=RULES CC;rw [<- hev]
   rw [<- hco] at t0 q0 t1
   simp only [fpart,part',Tryz.f184,Option.getD]
   simp only [S9,R,seval,PY,PZ,pbp,t0,q0,t1,hid]
   exact ⟨_,rfl⟩
  | ok a j=>
   rw [r1] at h1
   refine ans_ok (okc_of hR (fun n=>by rw [trV_exC];simp only [SX,PV.under]) fun bx hid hc=>?_)
   have t0:=okc_use hid hc hR (okc_token (id:=id) (o:=o) hR hi)
   have q0:=okc_use hid hc hR (okc_op_f (id:=id) (o:=o) hR hi hT _ f0)
   have t1:=okc_use hid hc hR h1
   rw [trV_exC] at t1
   rw [trV_exC]
   rw [callL_enter (fn:=Tryz.f184) (c:=Tryz.f184.body.getD .skip) rfl rfl fat_parse_parser_unary rfl ok_parse_parser_unary (Nat.le_of_ble_eq_true rfl)]
   have pbp:pureL [PV.bp id 0]=false:=rfl
   unfold PSR
   obtain ⟨ev,eo,so,co,⟨hev,hco⟩,R⟩:=RULES CC;rw [<- hev]
   rw [<- hco] at t0 q0 t1
   simp only [fpart,part',Tryz.f184,Option.getD]
   simp only [S9,R,seval,PY,PZ,pbp,t0,q0,t1,SX,hid]
   exact ⟨_,rfl⟩
 | true=>
  simp only [if_true]
  have hi1:=isT_lt hT hi f0 (by decide)
  cases hq:plainB L (i+1) with
  | true=>
   simp only [if_true]
   have hk:(tokAt L (i+1)).1=2:=by unfold plainB at hq;simp only [Bool.and_eq_true,beq_iff_eq] at hq;exact hq.1
   have ham:=op_parse_amount (tokAt L (i+1)) (hT.word (i+1)) (hT.num (i+1) hk).1 (hT.num (i+1) hk).2
   have hbd:=(hT.num (i+1) hk).2
   have hl:=litE 2 (-((amtN (tokAt L (i+1)).2.1 0:Nat):Int))
   have hneg:IntKind.wrap .i64 (0 - ((amtN (tokAt L (i+1)).2.1 0:Nat):Int))=-((amtN (tokAt L (i+1)).2.1 0:Nat):Int):=by rw [wrap_i64 ⟨by omega,by omega⟩];omega
   have h1:=ans_one (id:=id) (o:=o) (i:=i+1) hR hi1 hT 2 2 rfl
   unfold oneP at h1
   rw [if_pos hk] at h1
   unfold tkV at ham
   refine ans_ok (okc_of hR (fun n=>by rw [trV_exC];simp only [SX,PV.under]) fun bx hid hc=>?_)
   have t0:=okc_use hid hc hR (okc_token (id:=id) (o:=o) hR hi)
   have q0:=okc_use hid hc hR (okc_op_t (id:=id) (o:=o) hR hi hT _ f0)
   have tp:=okc_use hid hc hR (okc_plain (id:=id) (i:=i+1) (o:=o) hR hi1 hT)
   rw [hq] at tp
   have t1:=okc_use hid hc hR h1
   rw [trV_exC]
   rw [callL_enter (fn:=Tryz.f184) (c:=Tryz.f184.body.getD .skip) rfl rfl fat_parse_parser_unary rfl ok_parse_parser_unary (Nat.le_of_ble_eq_true rfl)]
   have pbp:pureL [PV.bp id 0]=false:=rfl
   unfold PSR
   obtain ⟨ev,eo,so,co,⟨hev,hco⟩,R⟩:=RULES CC;rw [<- hev]
   rw [<- hco] at t0 q0 tp t1 ham hl
   simp only [fpart,part',Tryz.f184,Option.getD]
   simp only [S9,R,seval,PY,PZ,pbp,t0,q0,tp,t1,ham,hl,hneg,SX,hid]
   exact ⟨_,rfl⟩
  | false=>
   simp only [Bool.false_eq_true,if_false]
   by_cases hlt:o < 100
   · rw [if_pos hlt]
     have hwo:IntKind.wrap .i64 (((o+1:Nat):Int) - 1)=((o:Nat):Int):=by rw [wrap_i64 ⟨by omega,by omega⟩];omega
     have h1:=hx (i+1) (o+1) hi1 (by omega)
     cases r1:pz L n .un (o+1) (i+1) with
     | out=>exact ans_out
     | bad t e=>
      rw [r1] at h1
      obtain ⟨i',o',h1⟩:=h1
      refine ans_bad ⟨i',o',badx_of hR fun bx hid hc=>?_⟩
      have t0:=okc_use hid hc hR (okc_token (id:=id) (o:=o) hR hi)
      have q0:=okc_use hid hc hR (okc_op_t (id:=id) (o:=o) hR hi hT _ f0)
      have tp:=okc_use hid hc hR (okc_plain (id:=id) (i:=i+1) (o:=o) hR hi1 hT)
      rw [hq] at tp
      have te:=okc_use hid hc hR (okc_enter (id:=id) (L:=L) (i:=i+1) hR hlt (tokAt L i).1 (tokAt L i).2.1 (tokAt L i).2.2)
      have t1:=badx_use hid hc hR h1
      rw [callL_enter (fn:=Tryz.f184) (c:=Tryz.f184.body.getD .skip) rfl rfl fat_parse_parser_unary rfl ok_parse_parser_unary (Nat.le_of_ble_eq_true rfl)]
      have pbp:pureL [PV.bp id 0]=false:=rfl
      unfold PSR
      obtain ⟨ev,eo,so,co,⟨hev,hco⟩,R⟩:=RULES CC;rw [<- hev]
      rw [<- hco] at t0 q0 tp te t1
      simp only [fpart,part',Tryz.f184,Option.getD]
      simp only [S9,R,seval,PY,PZ,pbp,t0,q0,tp,te,t1,hid]
      exact ⟨_,rfl⟩
     | ok a j=>
      rw [r1] at h1
      dsimp only [bind_okk]
      have hl:=litE 2 0
      have hb:=bsE2 (litT 2 0) a
      have hn:=nod2 12 (litT 2 0) a
      refine ans_ok (okc_of hR (fun n=>by rw [trV_exC];simp only [SX,PV.under]) fun bx hid hc=>?_)
      have t0:=okc_use hid hc hR (okc_token (id:=id) (o:=o) hR hi)
      have q0:=okc_use hid hc hR (okc_op_t (id:=id) (o:=o) hR hi hT _ f0)
      have tp:=okc_use hid hc hR (okc_plain (id:=id) (i:=i+1) (o:=o) hR hi1 hT)
      rw [hq] at tp
      have te:=okc_use hid hc hR (okc_enter (id:=id) (L:=L) (i:=i+1) hR hlt (tokAt L i).1 (tokAt L i).2.1 (tokAt L i).2.2)
      have t1:=okc_use hid hc hR h1
      rw [trV_exC] at t1
      rw [trV_exC]
      rw [callL_enter (fn:=Tryz.f184) (c:=Tryz.f184.body.getD .skip) rfl rfl fat_parse_parser_unary rfl ok_parse_parser_unary (Nat.le_of_ble_eq_true rfl)]
      have pbp:pureL [PV.bp id 0]=false:=rfl
      unfold PSR
      obtain ⟨ev,eo,so,co,⟨hev,hco⟩,R⟩:=RULES CC;rw [<- hev]
      rw [<- hco] at t0 q0 tp te t1 hl hn
      simp only [fpart,part',Tryz.f184,Option.getD]
      simp only [S9,R,seval,PY,PZ,pbp,t0,q0,tp,te,t1,hl,hb,hn,hwo,SX,hid]
      exact ⟨_,rfl⟩
   · rw [if_neg hlt]
     have ho2:o=100:=by omega
     refine ans_bad ⟨i+1,o+1,badx_of hR fun bx hid hc=>?_⟩
     have t0:=okc_use hid hc hR (okc_token (id:=id) (o:=o) hR hi)
     have q0:=okc_use hid hc hR (okc_op_t (id:=id) (o:=o) hR hi hT _ f0)
     have tp:=okc_use hid hc hR (okc_plain (id:=id) (i:=i+1) (o:=o) hR hi1 hT)
     rw [hq] at tp
     have te:=badx_use hid hc hR (badx_enter (id:=id) (L:=L) (i:=i+1) hR ho2 (tokAt L i).1 (tokAt L i).2.1 (tokAt L i).2.2)
     rw [callL_enter (fn:=Tryz.f184) (c:=Tryz.f184.body.getD .skip) rfl rfl fat_parse_parser_unary rfl ok_parse_parser_unary (Nat.le_of_ble_eq_true rfl)]
     have pbp:pureL [PV.bp id 0]=false:=rfl
     unfold PSR atT
     obtain ⟨ev,eo,so,co,⟨hev,hco⟩,R⟩:=RULES CC;rw [<- hev]
     rw [<- hco] at t0 q0 tp te
     simp only [fpart,part',Tryz.f184,Option.getD]
     simp only [S9,R,seval,PY,PZ,pbp,t0,q0,tp,te,hid]
     exact ⟨_,rfl⟩
theorem ctr_not {id:Nat} {L:List Tk} {RL:PV} (hR:RL.pure=true) (hT:TokOK L) (n:Nat) (hp:CtrE 162 .cmp id L RL n) (hx:CtrE 139 .not id L RL n):CtrE 139 .not id L RL (n+1):=by
 intro i o hi ho
 rw [pz]
 cases f0:isT L 1 [110,111,116] i with
 | false=>
  simp only [Bool.false_eq_true,if_false]
  have h1:=hp i o hi ho
  cases r1:pz L n .cmp o i with
  | out=>exact ans_out
  | bad t e=>
   rw [r1] at h1
   obtain ⟨i',o',h1⟩:=h1
   refine ans_bad ⟨i',o',badx_of hR fun bx hid hc=>?_⟩
   have t0:=okc_use hid hc hR (okc_token (id:=id) (o:=o) hR hi)
   have q0:=okc_use hid hc hR (okc_word_f (id:=id) (o:=o) hR hi hT _ f0)
   have t1:=badx_use hid hc hR h1
   rw [callL_enter (fn:=Tryz.f139) (c:=Tryz.f139.body.getD .skip) rfl rfl fat_parse_parser_not rfl ok_parse_parser_not (Nat.le_of_ble_eq_true rfl)]
   have pbp:pureL [PV.bp id 0]=false:=rfl
   unfold PSR
   obtain ⟨ev,eo,so,co,⟨hev,hco⟩,R⟩:=RULES CC;rw [<- hev]
   rw [<- hco] at t0 q0 t1
   simp only [fpart,part',Tryz.f139,Option.getD]
   simp only [S9,R,seval,PY,PZ,pbp,t0,q0,t1,hid]
   exact ⟨_,rfl⟩
  | ok a j=>
   rw [r1] at h1
   refine ans_ok (okc_of hR (fun n=>by rw [trV_exC];simp only [SX,PV.under]) fun bx hid hc=>?_)
   have t0:=okc_use hid hc hR (okc_token (id:=id) (o:=o) hR hi)
   have q0:=okc_use hid hc hR (okc_word_f (id:=id) (o:=o) hR hi hT _ f0)
   have t1:=okc_use hid hc hR h1
   rw [trV_exC] at t1
   rw [trV_exC]
   rw [callL_enter (fn:=Tryz.f139) (c:=Tryz.f139.body.getD .skip) rfl rfl fat_parse_parser_not rfl ok_parse_parser_not (Nat.le_of_ble_eq_true rfl)]
   have pbp:pureL [PV.bp id 0]=false:=rfl
   unfold PSR
   obtain ⟨ev,eo,so,co,⟨hev,hco⟩,R⟩:=RULES CC;rw [<- hev]
   rw [<- hco] at t0 q0 t1
   simp only [fpart,part',Tryz.f139,Option.getD]
   simp only [S9,R,seval,PY,PZ,pbp,t0,q0,t1,SX,hid]
   exact ⟨_,rfl⟩
 | true=>
  simp only [if_true]
  have hi1:=isT_lt hT hi f0 (by decide)
  by_cases hlt:o < 100
  · rw [if_pos hlt]
    have hwo:IntKind.wrap .i64 (((o+1:Nat):Int) - 1)=((o:Nat):Int):=by rw [wrap_i64 ⟨by omega,by omega⟩];omega
    have h1:=hx (i+1) (o+1) hi1 (by omega)
    cases r1:pz L n .not (o+1) (i+1) with
    | out=>exact ans_out
    | bad t e=>
     rw [r1] at h1
     obtain ⟨i',o',h1⟩:=h1
     refine ans_bad ⟨i',o',badx_of hR fun bx hid hc=>?_⟩
     have t0:=okc_use hid hc hR (okc_token (id:=id) (o:=o) hR hi)
     have q0:=okc_use hid hc hR (okc_word_t (id:=id) (o:=o) hR hi hT _ f0)
     have te:=okc_use hid hc hR (okc_enter (id:=id) (L:=L) (i:=i+1) hR hlt (tokAt L i).1 (tokAt L i).2.1 (tokAt L i).2.2)
     have t1:=badx_use hid hc hR h1
     rw [callL_enter (fn:=Tryz.f139) (c:=Tryz.f139.body.getD .skip) rfl rfl fat_parse_parser_not rfl ok_parse_parser_not (Nat.le_of_ble_eq_true rfl)]
     have pbp:pureL [PV.bp id 0]=false:=rfl
     unfold PSR
     obtain ⟨ev,eo,so,co,⟨hev,hco⟩,R⟩:=RULES CC;rw [<- hev]
     rw [<- hco] at t0 q0 te t1
     simp only [fpart,part',Tryz.f139,Option.getD]
     simp only [S9,R,seval,PY,PZ,pbp,t0,q0,te,t1,hid]
     exact ⟨_,rfl⟩
    | ok a j=>
     rw [r1] at h1
     dsimp only [bind_okk]
     have hb:=bsE1 a
     have hn:=nod1 6 a
     refine ans_ok (okc_of hR (fun n=>by rw [trV_exC];simp only [SX,PV.under]) fun bx hid hc=>?_)
     have t0:=okc_use hid hc hR (okc_token (id:=id) (o:=o) hR hi)
     have q0:=okc_use hid hc hR (okc_word_t (id:=id) (o:=o) hR hi hT _ f0)
     have te:=okc_use hid hc hR (okc_enter (id:=id) (L:=L) (i:=i+1) hR hlt (tokAt L i).1 (tokAt L i).2.1 (tokAt L i).2.2)
     have t1:=okc_use hid hc hR h1
     rw [trV_exC] at t1
     rw [trV_exC]
     rw [callL_enter (fn:=Tryz.f139) (c:=Tryz.f139.body.getD .skip) rfl rfl fat_parse_parser_not rfl ok_parse_parser_not (Nat.le_of_ble_eq_true rfl)]
     have pbp:pureL [PV.bp id 0]=false:=rfl
     unfold PSR
     obtain ⟨ev,eo,so,co,⟨hev,hco⟩,R⟩:=RULES CC;rw [<- hev]
     rw [<- hco] at t0 q0 te t1 hn
     simp only [fpart,part',Tryz.f139,Option.getD]
     simp only [S9,R,seval,PY,PZ,pbp,t0,q0,te,t1,hb,hn,hwo,SX,hid]
     exact ⟨_,rfl⟩
  · rw [if_neg hlt]
    have ho2:o=100:=by omega
    refine ans_bad ⟨i+1,o+1,badx_of hR fun bx hid hc=>?_⟩
    have t0:=okc_use hid hc hR (okc_token (id:=id) (o:=o) hR hi)
    have q0:=okc_use hid hc hR (okc_word_t (id:=id) (o:=o) hR hi hT _ f0)
    have te:=badx_use hid hc hR (badx_enter (id:=id) (L:=L) (i:=i+1) hR ho2 (tokAt L i).1 (tokAt L i).2.1 (tokAt L i).2.2)
    rw [callL_enter (fn:=Tryz.f139) (c:=Tryz.f139.body.getD .skip) rfl rfl fat_parse_parser_not rfl ok_parse_parser_not (Nat.le_of_ble_eq_true rfl)]
    have pbp:pureL [PV.bp id 0]=false:=rfl
    unfold PSR atT
    obtain ⟨ev,eo,so,co,⟨hev,hco⟩,R⟩:=RULES CC;rw [<- hev]
    rw [<- hco] at t0 q0 te
    simp only [fpart,part',Tryz.f139,Option.getD]
    simp only [S9,R,seval,PY,PZ,pbp,t0,q0,te,hid]
    exact ⟨_,rfl⟩
end Go.HH
namespace Go.HH
open Go Go.Proofs
set_option maxRecDepth 100000
set_option maxHeartbeats 4000000
set_option linter.unusedSimpArgs false
set_option linter.unusedVariables false
theorem ok_parse_parser_chain:fnOK CC Tryz.f137 (Tryz.f137.body.getD .skip)=true:=by kernel_rfl
theorem fat_parse_parser_chain:CC.P.funcs[137]?=some Tryz.f137:=by kernel_rfl
theorem ok_parse_parser_expr_1:fnOK CC Tryz.f138 (Tryz.f138.body.getD .skip)=true:=by kernel_rfl
theorem fat_parse_parser_expr_1:CC.P.funcs[138]?=some Tryz.f138:=by kernel_rfl
theorem ok_parse_parser_expr:fnOK CC Tryz.f99 (Tryz.f99.body.getD .skip)=true:=by kernel_rfl
theorem fat_parse_parser_expr:CC.P.funcs[99]?=some Tryz.f99:=by kernel_rfl
def Ext (id:Nat) (B0 B:List PBox):Prop:=∀ k,k≠id->k < B0.length->B[k]?=B0[k]?
theorem Ext_BX {bx:List PBox} {id:Nat} {P:PBox} {ys:List PBox}:Ext id bx (BX bx id P ys):=by
 intro k hk hl
 unfold BX
 rw [List.getElem?_append_left (by simpa using hl),List.getElem?_set_ne (Ne.symm hk)]
def OPA (g:FuncId) (av:List PV) (nt:NT) (id:Nat) (L:List Tk) (RL:PV) (I O:Nat->Nat->Nat->Nat) (B0:List PBox) (n:Nat):Prop:=∀ m,m < n->∀ i o,i < L.length->o<=100->match pz L m nt o i with
 | .ok a j=>∀ B,Ext id B0 B->hasP L i o RL id B->callOp CC (callL CC) g av B=some (.ret (trV a),B.set id (PSR L j o RL))
 | .bad t c=>∀ B,Ext id B0 B->hasP L i o RL id B->callOp CC (callL CC) g av B=some (.pan (fltV t c),B.set id (PSR L (I m i o) (O m i o) RL))
 | .out=>True
theorem ctr_fun {f:FuncId} {nt:NT} {id:Nat} {L:List Tk} {RL:PV} {n:Nat} (h:∀ m,m < n->CtrE f nt id L RL m):∃ I O:Nat->Nat->Nat->Nat,∀ B0,OPA f [.bp id 0] nt id L RL I O B0 n:=by
 have hx:∀ x:Nat×Nat×Nat,∃ y:Nat×Nat,x.1 < n->x.2.1 < L.length->x.2.2<=100->match pz L x.1 nt x.2.2 x.2.1 with
  | .ok a j=>OKc f [] id L RL x.2.1 x.2.2 (trV a) j x.2.2
  | .bad t c=>BADx f [] id L RL x.2.1 x.2.2 t c y.1 y.2
  | .out=>True:=by
  intro ⟨m,i,o⟩
  by_cases hc:m < n∧i < L.length∧o<=100
  · have:=h m hc.1 i o hc.2.1 hc.2.2
    simp only
    cases hr:pz L m nt o i with
    | ok a j=>rw [hr] at this;exact ⟨(0,0),fun _ _ _=>this⟩
    | bad t c=>rw [hr] at this;obtain ⟨i',o',this⟩:=this;exact ⟨(i',o'),fun _ _ _=>this⟩
    | out=>exact ⟨(0,0),fun _ _ _=>trivial⟩
  · exact ⟨(0,0),fun a b c=>absurd ⟨a,b,c⟩ hc⟩
 obtain ⟨J,hJ⟩:=Classical.axiomOfChoice hx
 refine ⟨fun m i o=>(J (m,i,o)).1,fun m i o=>(J (m,i,o)).2,fun B0 m hm i o hi ho=>?_⟩
 have:=hJ (m,i,o) hm hi ho
 simp only at this
 cases hr:pz L m nt o i with
 | ok a j=>rw [hr] at this;exact fun B _ hB=>this B hB
 | bad t c=>rw [hr] at this;exact fun B _ hB=>this B hB
 | out=>trivial
def kkC (b:Bool):Int:=if b then 8 else 7
section
variable {bx:List PBox} {id:Nat} {L:List Tk} {i o:Nat} {RL:PV} (hid:id < bx.length) (hc:clB bx) (hR:RL.pure=true)
include hid hc hR
theorem opa_ok {g:FuncId} {av:List PV} {nt:NT} {I O:Nat->Nat->Nat->Nat} {n m:Nat} (h:OPA g av nt id L RL I O bx n) (hm:m < n) (hi:i < L.length) (ho:o<=100) {a:Tr} {j:Nat} (hr:pz L m nt o i=.ok a j) (ys:List PBox) (hy:(ys.all fun x=>x.under (bx.length+ys.length))=true) :
 callOp CC (callL CC) g av (BX bx id (.cells 92 [.sl (tkVs L),.int .i64 ((i:Nat):Int),.int .i64 ((o:Nat):Int),RL]) ys)=some (.ret (.agg (exC a)),BX bx id (.cells 92 [.sl (tkVs L),.int .i64 ((j:Nat):Int),.int .i64 ((o:Nat):Int),RL]) ys):=by
 have:=h m hm i o hi ho
 rw [hr] at this
 have:=this _ Ext_BX (hasP_BX (i0:=i) (o0:=o) hid hc hR hy)
 rw [BX_set hid,trV_exC] at this
 exact this
theorem opa_bad {g:FuncId} {av:List PV} {nt:NT} {I O:Nat->Nat->Nat->Nat} {n m:Nat} (h:OPA g av nt id L RL I O bx n) (hm:m < n) (hi:i < L.length) (ho:o<=100) {t:Nat} {c:Int} (hr:pz L m nt o i=.bad t c) (ys:List PBox) (hy:(ys.all fun x=>x.under (bx.length+ys.length))=true) :
 callOp CC (callL CC) g av (BX bx id (.cells 92 [.sl (tkVs L),.int .i64 ((i:Nat):Int),.int .i64 ((o:Nat):Int),RL]) ys)=some (.pan (fltV t c),BX bx id (.cells 92 [.sl (tkVs L),.int .i64 (((I m i o):Nat):Int),.int .i64 (((O m i o):Nat):Int),RL]) ys):=by
 have:=h m hm i o hi ho
 rw [hr] at this
 have:=this _ Ext_BX (hasP_BX (i0:=i) (o0:=o) hid hc hR hy)
 rw [BX_set hid] at this
 exact this
end
def exA (l:List Tr):List PV:=l.map fun t=>PV.agg (exC t)
theorem exA_len (l:List Tr):(exA l).length=l.length:=by unfold exA;simp
theorem exA_app (l:List Tr) (a:Tr):exA l++[PV.agg (exC a)]=exA (l++[a]):=by unfold exA;simp
theorem exA_ok (a:Tr):([PV.agg (exC a)].all fun y=>y.cells.length == 11)=true:=by simp [PV.cells,exC_len]
noncomputable def IExq:TypeInfo:=(Tryz.prog.info? 29).getD default
theorem apE (bytes:Nat) (hb:IExq.bytes=bytes) (st:St) (al:List (Nat×Loc)) (s x:Operand) (d:Option Tmp):appendOn CC st al s x 27 27 d=match appendAt CC st al 29 s,elemsOf (opd CC st.env x) with
 | some (l,xs),some ys=>appK bytes 11 29 st al l xs ys d
 | _,_=>none:=appendOn_eq (i:=IExq) (by kernel_rfl) (by kernel_rfl) (by kernel_rfl) (z:=(IExq.zero).getD default) (by kernel_rfl) (by kernel_rfl) (by rw [show IExq.size=11 from by kernel_rfl];decide) hb (by kernel_rfl)
theorem bytesE:IExq.bytes=136:=by kernel_rfl
theorem loop_chain (Lc:Code) (hL:Lc=fpart Tryz.f137 [1,1,0,0]) {id:Nat} {L:List Tk} {o:Nat} {RL:PV} (hR:RL.pure=true) (hT:TokOK L) (ho:o<=100) (b:Bool) (I O:Nat->Nat->Nat->Nat):∀ (m:Nat) (i:Nat) (acc:List Tr),i < L.length->acc≠[]->acc.length<=8->match pz L m (.chainL b acc) o i with
 | .ok v j=>∃ l:List Tr,v=chT b l∧l≠[]∧l.length<=8∧∀ (g:FuncId) (first cap av:List PV) (hav:first.map PV.shutV++cap.map PV.shutV=av) (hpa:pureL av=false) (n:Nat) (hmn:m<=n) (bx:List PBox) (hid:id < bx.length) (hc:clB bx) (hop:OPA g av (opdNT b) id L RL I O bx n) (e:List PV),getT e 0=.bp id 0->getT e 1=.str (chW b)->getT e 2=.int .i64 (kkC b)->getT e 3=.fn g first cap->getT e 8=.bp bx.length 0->getT e 9=.osl 29 (exA acc) ->
  ∃ e',evL CC Lc ⟨e,BX bx id (PSR L i o RL) [.cells 29 [.int .i64 0,.int .i64 0,.int .i64 0,.str [],.int .i64 0,.int .i64 0,.str [],.int .i64 0,.str [],.str [],.nils]]⟩=some (.exit 0,⟨e',BX bx id (PSR L j o RL) [.cells 29 [.int .i64 0,.int .i64 0,.int .i64 0,.str [],.int .i64 0,.int .i64 0,.str [],.int .i64 0,.str [],.str [],.nils]]⟩)∧getT e' 2=.int .i64 (kkC b)∧getT e' 8=.bp bx.length 0∧getT e' 9=.osl 29 (exA l)
 | .bad t c=>∃ i' o',∀ (g:FuncId) (first cap av:List PV) (hav:first.map PV.shutV++cap.map PV.shutV=av) (hpa:pureL av=false) (n:Nat) (hmn:m<=n) (bx:List PBox) (hid:id < bx.length) (hc:clB bx) (hop:OPA g av (opdNT b) id L RL I O bx n) (e:List PV),getT e 0=.bp id 0->getT e 1=.str (chW b)->getT e 2=.int .i64 (kkC b)->getT e 3=.fn g first cap->getT e 8=.bp bx.length 0->getT e 9=.osl 29 (exA acc) ->
  ∃ e' ys',evL CC Lc ⟨e,BX bx id (PSR L i o RL) [.cells 29 [.int .i64 0,.int .i64 0,.int .i64 0,.str [],.int .i64 0,.int .i64 0,.str [],.int .i64 0,.str [],.str [],.nils]]⟩=some (.pan (fltV t c),⟨e',BX bx id (PSR L i' o' RL) ys'⟩)
 | .out=>True:=by
 have pbp:pureL [PV.bp id 0]=false:=rfl
 have hby:=apE 136 bytesE
 intro m
 induction m with
 | zero=>intro i acc hi _ _;trivial
 | succ m ih=>
  intro i acc hi hne hl8
  rw [pz]
  have hlen:=exA_len acc
  have hw:IntKind.wrap .i64 ((i:Int)+1)=((i+1:Nat):Int):=by rw [wrap_i64 ⟨by omega,by have:=hT.len;omega⟩];omega
  cases hk:isT L 1 (chW b) i with
  | false=>
   simp only [Bool.false_eq_true,if_false]
   refine ⟨acc,rfl,hne,hl8,fun g first cap av hav hpa n hmn bx hid hc hop e g0 g1 g2 g3 g8 g9=>?_⟩
   have t0:=okc_use hid hc hR (okc_is (id:=id) (o:=o) hR hi 1 1 rfl (chW b))
   rw [hk] at t0
   rw [evL_at (fpart Tryz.f137 [1,1,0,0,0]) hL]
   unfold PSR
   obtain ⟨ev,eo,so,co,⟨hev,hco⟩,R⟩:=RULES CC;rw [<- hev]
   rw [<- hco] at t0
   simp only [fpart,part',Tryz.f137,Option.getD]
   simp only [S9,R,seval,PY,PZ,pbp,dynR,g0,g1,g2,g3,g8,g9,t0,hid]
   exact ⟨_,rfl,by simp only [S7,R,seval,g2],by simp only [S7,R,seval,g8],by simp only [S7,R,seval,g9]⟩
  | true=>
   simp only [if_true]
   have hi1:=isT_lt hT hi hk (by decide)
   by_cases h8:acc.length=8
   · rw [if_pos h8]
     refine ⟨i,o,fun g first cap av hav hpa n hmn bx hid hc hop e g0 g1 g2 g3 g8 g9=>?_⟩
     have t0:=okc_use hid hc hR (okc_is (id:=id) (o:=o) hR hi 1 1 rfl (chW b))
     rw [hk] at t0
     have t2:=okc_use hid hc hR (okc_token (id:=id) (o:=o) hR hi)
     have t3:=badx_use hid hc hR (badx_fail (id:=id) (i:=i) (o:=o) (L:=L) hR (tokAt L i).1 (tokAt L i).2.1 (tokAt L i).2.2 3)
     have h8':(((exA acc).length:Int) == 8)=true:=by rw [hlen,h8];rfl
     rw [evL_at (fpart Tryz.f137 [1,1,0,0,0]) hL]
     unfold PSR atT
     obtain ⟨ev,eo,so,co,⟨hev,hco⟩,R⟩:=RULES CC;rw [<- hev]
     rw [<- hco] at t0 t2 t3
     simp only [fpart,part',Tryz.f137,Option.getD]
     simp only [S9,R,seval,PY,PZ,pbp,dynR,g0,g1,g2,g3,g8,g9,t0,t2,t3,h8',hid]
     exact ⟨_,_,rfl⟩
   · rw [if_neg h8]
     have h8':(((exA acc).length:Int) == 8)=false:=by rw [hlen];have:¬ (acc.length:Int)=8:=(by omega);exact beq_eq_false_iff_ne.2 this
     cases r1:pz L m (opdNT b) o (i+1) with
     | out=>trivial
     | bad t c=>
      refine ⟨I m (i+1) o,O m (i+1) o,fun g first cap av hav hpa n hmn bx hid hc hop e g0 g1 g2 g3 g8 g9=>?_⟩
      have t0:=okc_use hid hc hR (okc_is (id:=id) (o:=o) hR hi 1 1 rfl (chW b))
      rw [hk] at t0
      have t1:=opa_bad hid hc hR hop (by omega) hi1 ho r1
      rw [evL_at (fpart Tryz.f137 [1,1,0,0,0]) hL]
      unfold PSR
      obtain ⟨ev,eo,so,co,⟨hev,hco⟩,R⟩:=RULES CC;rw [<- hev]
      rw [<- hco] at t0 t1
      simp only [fpart,part',Tryz.f137,Option.getD]
      simp only [S9,R,seval,PY,PZ,pbp,dynR,g0,g1,g2,g3,g8,g9,t0,t1,h8',hav,hw,hid]
      exact ⟨_,_,rfl⟩
     | ok a i1=>
      have hi2:=(pz_lt hT _ _ _ _ _ _ hi1 r1).2
      dsimp only [bind_okk]
      have key:=ih i1 (acc++[a]) hi2 (by simp) (by simp;omega)
      have hb:=bsE1 a
      have hok:=exA_ok a
      have hapk:(exA acc).length+[PV.agg (exC a)].length<=1000000:=by rw [hlen];simp;omega
      have happ:=exA_app acc a
      have hap0:=fun st al l d=>appK_ok (bytes:=136) (size:=11) (e:=29) (st:=st) (al:=al) (l:=l) (d:=d) hapk (by decide) hok
      cases r2:pz L m (.chainL b (acc++[a])) o i1 with
      | out=>trivial
      | ok v j=>
       rw [r2] at key
       obtain ⟨l,q1,q2,q3,key⟩:=key
       refine ⟨l,q1,q2,q3,fun g first cap av hav hpa n hmn bx hid hc hop e g0 g1 g2 g3 g8 g9=>?_⟩
       have key:=key g first cap av hav hpa n (by omega) bx hid hc hop
       have t0:=okc_use hid hc hR (okc_is (id:=id) (o:=o) hR hi 1 1 rfl (chW b))
       rw [hk] at t0
       have t1:=opa_ok hid hc hR hop (by omega) hi1 ho r1
       rw [evL_at (fpart Tryz.f137 [1,1,0,0,0]) hL]
       unfold PSR at key ⊢
       generalize exA acc=xa at *
       generalize exA (acc++[a])=xb at *
       obtain ⟨ev,eo,so,co,⟨hev,hco⟩,R⟩:=RULES CC;rw [<- hev]
       rw [<- hev] at key
       rw [<- hco] at t0 t1
       simp only [fpart,part',Tryz.f137,Option.getD]
       simp only [S9,R,seval,PY,PZ,pbp,dynR,g0,g1,g2,g3,g8,g9,t0,t1,h8',hav,hw,hb,hby,hok,hapk,happ,hap0,hpa,Bool.or_true,List.filter_cons,SX,hid]
       refine key _ ?_ ?_ ?_ ?_ ?_ ?_
       · simp only [S7,R,seval,g0]
       · simp only [S7,R,seval,g1]
       · simp only [S7,R,seval,g2]
       · simp only [S7,R,seval,g3]
       · simp only [S7,R,seval,g8]
       · simp only [S7,R,seval]
      | bad t c=>
       rw [r2] at key
       obtain ⟨i',o',key⟩:=key
       refine ⟨i',o',fun g first cap av hav hpa n hmn bx hid hc hop e g0 g1 g2 g3 g8 g9=>?_⟩
       have key:=key g first cap av hav hpa n (by omega) bx hid hc hop
       have t0:=okc_use hid hc hR (okc_is (id:=id) (o:=o) hR hi 1 1 rfl (chW b))
       rw [hk] at t0
       have t1:=opa_ok hid hc hR hop (by omega) hi1 ho r1
       rw [evL_at (fpart Tryz.f137 [1,1,0,0,0]) hL]
       unfold PSR at key ⊢
       generalize exA acc=xa at *
       generalize exA (acc++[a])=xb at *
       obtain ⟨ev,eo,so,co,⟨hev,hco⟩,R⟩:=RULES CC;rw [<- hev]
       rw [<- hev] at key
       rw [<- hco] at t0 t1
       simp only [fpart,part',Tryz.f137,Option.getD]
       simp only [S9,R,seval,PY,PZ,pbp,dynR,g0,g1,g2,g3,g8,g9,t0,t1,h8',hav,hw,hb,hby,hok,hapk,happ,hap0,hpa,Bool.or_true,List.filter_cons,SX,hid]
       refine key _ ?_ ?_ ?_ ?_ ?_ ?_
       · simp only [S7,R,seval,g0]
       · simp only [S7,R,seval,g1]
       · simp only [S7,R,seval,g2]
       · simp only [S7,R,seval,g3]
       · simp only [S7,R,seval,g8]
       · simp only [S7,R,seval]
end Go.HH
namespace Go.HH
open Go Go.Proofs
set_option maxRecDepth 100000
set_option maxHeartbeats 4000000
set_option linter.unusedSimpArgs false
set_option linter.unusedVariables false
def CHc (b:Bool) (n:Nat) (id:Nat) (L:List Tk) (RL:PV):Prop:=∀ I O:Nat->Nat->Nat->Nat,∀ i o,i < L.length->o<=100->match pz L n (.chain b) o i with
 | .ok a j=>∀ (g:FuncId) (first cap av:List PV) (hav:first.map PV.shutV++cap.map PV.shutV=av) (hpa:pureL av=false) (B:List PBox),OPA g av (opdNT b) id L RL I O B n->hasP L i o RL id B->callOp CC (callL CC) 137 [.bp id 0,.str (chW b),.int .i64 (kkC b),.fn g first cap] B=some (.ret (trV a),B.set id (PSR L j o RL))
 | .bad t c=>∃ i' o',∀ (g:FuncId) (first cap av:List PV) (hav:first.map PV.shutV++cap.map PV.shutV=av) (hpa:pureL av=false) (B:List PBox),OPA g av (opdNT b) id L RL I O B n->hasP L i o RL id B->callOp CC (callL CC) 137 [.bp id 0,.str (chW b),.int .i64 (kkC b),.fn g first cap] B=some (.pan (fltV t c),B.set id (PSR L i' o' RL))
 | .out=>True
theorem chT_one (b:Bool) (a:Tr):chT b [a]=a:=rfl
theorem chT_more (b:Bool) (l:List Tr) (h:2<=l.length):chT b l=nodT (kkC b) l:=by
 match l,h with
 | x :: y :: r,_=>rfl
theorem chc_all {id:Nat} {L:List Tk} {RL:PV} (hR:RL.pure=true) (hT:TokOK L) (b:Bool):∀ n,CHc b n id L RL:=by
 intro n
 cases n with
 | zero=>intro I O i o _ _;trivial
 | succ n=>
  intro I O i o hi ho
  rw [pz]
  have pbp:pureL [PV.bp id 0]=false:=rfl
  cases r1:pz L n (opdNT b) o i with
  | out=>trivial
  | bad t c=>
   refine ⟨I n i o,O n i o,fun g first cap av hav hpa B hop hB=>op_BX (P:=PSR L i o RL) (by simp [pureL,PV.pure]) hB.1 hB.2 (PSR_under L _ _ hR) (fltV_under _ _ _) ?_⟩
   have hid:=(List.getElem?_eq_some_iff.1 hB.2).1
   have hc:=hB.1
   have t1:=opa_bad hid hc hR hop (by omega) hi ho r1
   rw [callL_enter (fn:=Tryz.f137) (c:=Tryz.f137.body.getD .skip) rfl rfl fat_parse_parser_chain rfl ok_parse_parser_chain (Nat.le_of_ble_eq_true rfl)]
   have pbp:pureL [PV.bp id 0]=false:=rfl
   unfold PSR
   obtain ⟨ev,eo,so,co,⟨hev,hco⟩,R⟩:=RULES CC;rw [<- hev]
   rw [<- hco] at t1
   simp only [fpart,part',Tryz.f137,Option.getD]
   simp only [S9,R,seval,PY,PZ,pbp,dynR,t1,hav,hpa,Bool.or_true,hid]
   exact ⟨_,rfl⟩
  | ok a i1=>
   have hi1:=(pz_lt hT _ _ _ _ _ _ hi r1).2
   dsimp only [bind_okk]
   have hloop:=loop_chain _ rfl (id:=id) (RL:=RL) hR hT ho b I O n i1 [a] hi1 (by simp) (by simp)
   have hb:=bsE1 a
   cases r2:pz L n (.chainL b [a]) o i1 with
   | out=>trivial
   | bad t c=>
    rw [r2] at hloop
    obtain ⟨i',o',hloop⟩:=hloop
    refine ⟨i',o',fun g first cap av hav hpa B hop hB=>op_BX (P:=PSR L i o RL) (by simp [pureL,PV.pure]) hB.1 hB.2 (PSR_under L _ _ hR) (fltV_under _ _ _) ?_⟩
    have hid:=(List.getElem?_eq_some_iff.1 hB.2).1
    have hc:=hB.1
    have t1:=opa_ok hid hc hR hop (by omega) hi ho r1
    have hloop:=hloop g first cap av hav hpa (n+1) (by omega) B hid hc hop
    rw [callL_enter (fn:=Tryz.f137) (c:=Tryz.f137.body.getD .skip) rfl rfl fat_parse_parser_chain rfl ok_parse_parser_chain (Nat.le_of_ble_eq_true rfl)]
    skip
    simp only [fpart,part',Tryz.f137,Option.getD] at hloop ⊢
    unfold PSR at hloop ⊢
    skip
    skip
    obtain ⟨ev,eo,so,co,⟨hev,hco⟩,R⟩:=RULES CC;rw [<- hev]
    rw [<- hev] at hloop
    rw [<- hco] at t1
    simp only [S9,R,seval,PY,PZ,pbp,dynR,t1,hav,hpa,hb,SX,Bool.or_true,hid]
    generalize hE:ev _ _=z
    have hP:∃ e' ys',z=some (.pan (fltV t c),⟨e',BX B id (.cells 92 [.sl (tkVs L),.int .i64 ((i':Nat):Int),.int .i64 ((o':Nat):Int),RL]) ys'⟩):=by
     rw [<- hE]
     refine hloop _ ?_ ?_ ?_ ?_ ?_ ?_
     · simp only [S7,R,seval]
     · simp only [S7,R,seval]
     · simp only [S7,R,seval]
     · simp only [S7,R,seval]
     · simp only [S7,R,seval]
     · simp only [S7,R,seval] <;> rfl
    obtain ⟨e',ys',he⟩:=hP
    subst he
    clear hE hloop
    simp only [S9,R,seval,PY,PZ,pbp,dynR,SX,hid]
    exact ⟨_,rfl⟩
   | ok v j=>
    rw [r2] at hloop
    obtain ⟨l,rfl,hne,hl8,hloop⟩:=hloop
    refine fun g first cap av hav hpa B hop hB=>op_BX (P:=PSR L i o RL) (by simp [pureL,PV.pure]) hB.1 hB.2 (PSR_under L _ _ hR) (by rw [trV_exC];simp only [CR.under,SX,PV.under]) ?_
    have hid:=(List.getElem?_eq_some_iff.1 hB.2).1
    have hc:=hB.1
    have t1:=opa_ok hid hc hR hop (by omega) hi ho r1
    have hloop:=hloop g first cap av hav hpa (n+1) (by omega) B hid hc hop
    rw [callL_enter (fn:=Tryz.f137) (c:=Tryz.f137.body.getD .skip) rfl rfl fat_parse_parser_chain rfl ok_parse_parser_chain (Nat.le_of_ble_eq_true rfl)]
    rw [trV_exC]
    simp only [fpart,part',Tryz.f137,Option.getD] at hloop ⊢
    unfold PSR at hloop ⊢
    have hlA:=exA_len l
    have hnd:=nodE (kkC b) l
    obtain ⟨ev,eo,so,co,⟨hev,hco⟩,R⟩:=RULES CC;rw [<- hev]
    rw [<- hev] at hloop
    rw [<- hco] at t1 hnd
    simp only [S9,R,seval,PY,PZ,pbp,dynR,t1,hav,hpa,hb,SX,Bool.or_true,hid]
    generalize hE:ev _ _=z
    have hP:∃ e',z=some (.exit 0,⟨e',BX B id (.cells 92 [.sl (tkVs L),.int .i64 ((j:Nat):Int),.int .i64 ((o:Nat):Int),RL]) [.cells 29 [.int .i64 0,.int .i64 0,.int .i64 0,.str [],.int .i64 0,.int .i64 0,.str [],.int .i64 0,.str [],.str [],.nils]]⟩)∧getT e' 2=.int .i64 (kkC b)∧getT e' 8=.bp B.length 0∧getT e' 9=.osl 29 (exA l):=by
     rw [<- hE]
     refine hloop _ ?_ ?_ ?_ ?_ ?_ ?_
     · simp only [S7,R,seval]
     · simp only [S7,R,seval]
     · simp only [S7,R,seval]
     · simp only [S7,R,seval]
     · simp only [S7,R,seval]
     · simp only [S7,R,seval] <;> rfl
    obtain ⟨e',he,k2,k8,k9⟩:=hP
    subst he
    clear hE hloop
    by_cases h1:l.length=1
    · obtain ⟨a0,rfl⟩:∃ a0,l=[a0]:=by
       match l,h1 with
       | [a0],_=>exact ⟨a0,rfl⟩
      rw [chT_one]
      have hone:(([PV.agg (exC a0)].length:Int) == 1)=true:=rfl
      have hone':(((0+1:Nat):Int) == 1)=true:=rfl
      rw [show exA [a0]=[PV.agg (exC a0)] from rfl] at k9
      simp only [S9,R,seval,PY,PZ,pbp,dynR,k2,k8,k9,hone,hone',SX,hid]
      exact ⟨_,rfl⟩
    · have hl2:2<=l.length:=by
       have:l.length≠0:=fun h=>hne (List.eq_nil_of_length_eq_zero h)
       omega
      rw [chT_more b l hl2]
      have hone:(((exA l).length:Int) == 1)=false:=by rw [hlA];exact beq_eq_false_iff_ne.2 (by omega)
      have hnd':∀ bx,co 141 [.int .i64 (kkC b),.sl (exA l)] bx=some (.ret (.agg (exC (nodT (kkC b) l))),bx):=hnd
      simp only [S9,R,seval,PY,PZ,pbp,dynR,k2,k8,k9,hone,hnd',SX,hid]
      exact ⟨_,rfl⟩
theorem BX_getn {bx:List PBox} {id k:Nat} {P:PBox} {ys:List PBox} (hk:k≠id) (hl:k < bx.length):(BX bx id P ys)[k]?=bx[k]?:=Ext_BX k hk hl
theorem closure_call {id:Nat} {L:List Tk} {RL:PV} (hR:RL.pure=true) (hT:TokOK L) (n:Nat) (hn:∀ m,m < n->CtrE 139 .not id L RL m):∃ I O:Nat->Nat->Nat->Nat,∀ (B0:List PBox) (n0:Nat),B0[n0]?=some (.cells 86 [.bp id 0])->n0≠id->OPA 138 [.bp n0 0] (.chain false) id L RL I O B0 n:=by
 obtain ⟨I1,O1,hop⟩:=ctr_fun hn
 have hx:∀ x:Nat×Nat×Nat,∃ y:Nat×Nat,x.1 < n->x.2.1 < L.length->x.2.2<=100->∀ (t:Nat) (c:Int),pz L x.1 (.chain false) x.2.2 x.2.1=.bad t c->∀ (g:FuncId) (first cap av:List PV) (hav:first.map PV.shutV++cap.map PV.shutV=av) (hpa:pureL av=false) (B:List PBox),OPA g av (opdNT false) id L RL I1 O1 B x.1->hasP L x.2.1 x.2.2 RL id B->callOp CC (callL CC) 137 [.bp id 0,.str (chW false),.int .i64 (kkC false),.fn g first cap] B=some (.pan (fltV t c),B.set id (PSR L y.1 y.2 RL)):=by
  intro ⟨m,i,o⟩
  by_cases hc:i < L.length∧o<=100
  · have:=chc_all (id:=id) (RL:=RL) hR hT false m I1 O1 i o hc.1 hc.2
    cases hr:pz L m (.chain false) o i with
    | ok a j=>exact ⟨(0,0),fun _ _ _ t c h=>nomatch h⟩
    | out=>exact ⟨(0,0),fun _ _ _ t c h=>nomatch h⟩
    | bad t c=>
     rw [hr] at this
     obtain ⟨i',o',this⟩:=this
     refine ⟨(i',o'),fun _ _ _ t' c' h=>?_⟩
     injection h with e1 e2
     subst e1 e2
     exact this
  · exact ⟨(0,0),fun a b c=>absurd ⟨b,c⟩ hc⟩
 obtain ⟨J,hJ⟩:=Classical.axiomOfChoice hx
 refine ⟨fun m i o=>(J (m,i,o)).1,fun m i o=>(J (m,i,o)).2,fun B0 n0 hb0 hn0 m hm i o hi ho=>?_⟩
 have hbad:=hJ (m,i,o) hm hi ho
 have hok:=chc_all (id:=id) (RL:=RL) hR hT false m I1 O1 i o hi ho
 have hl0:n0 < B0.length:=(List.getElem?_eq_some_iff.1 hb0).1
 have pbp:pureL [PV.bp id 0]=false:=rfl
 have hpm:∀ B0,OPA 139 [.bp id 0] (opdNT false) id L RL I1 O1 B0 m:=fun B0 q hq=>hop B0 q (by omega)
 cases hr:pz L m (.chain false) o i with
 | out=>trivial
 | ok a j=>
  rw [hr] at hok
  intro B hext hB
  have hbn:B[n0]?=some (.cells 86 [.bp id 0]):=by rw [hext n0 hn0 hl0];exact hb0
  have hid:=(List.getElem?_eq_some_iff.1 hB.2).1
  have hnl:=(List.getElem?_eq_some_iff.1 hbn).1
  have hc:=hB.1
  refine op_BX (P:=PSR L i o RL) (by simp [pureL,PV.pure]) hB.1 hB.2 (PSR_under L _ _ hR) (by rw [trV_exC];simp only [CR.under,SX,PV.under]) ?_
  have hP1:hasP L i o RL id (BX B id (PSR L i o RL) [.cells 29 [.int .i64 0,.int .i64 0,.int .i64 0,.str [],.int .i64 0,.int .i64 0,.str [],.int .i64 0,.str [],.str [],.nils]]):=hasP_BX (i0:=i) (o0:=o) hid hc hR (by simp only [SU])
  have t1:=hok 139 [.bp id 0] [] [.bp id 0] rfl rfl _ (hpm _) hP1
  rw [BX_set hid,trV_exC] at t1
  have gn:=BX_getn (bx:=B) (P:=PSR L i o RL) (ys:=[.cells 29 [.int .i64 0,.int .i64 0,.int .i64 0,.str [],.int .i64 0,.int .i64 0,.str [],.int .i64 0,.str [],.str [],.nils]]) hn0 hnl
  rw [hbn] at gn
  unfold kkC chW at t1
  simp only [Bool.false_eq_true,if_false] at t1
  rw [trV_exC]
  rw [callL_enter (fn:=Tryz.f138) (c:=Tryz.f138.body.getD .skip) rfl rfl fat_parse_parser_expr_1 rfl ok_parse_parser_expr_1 (Nat.le_of_ble_eq_true rfl)]
  unfold PSR at *
  obtain ⟨ev,eo,so,co,⟨hev,hco⟩,R⟩:=RULES CC;rw [<- hev]
  rw [<- hco] at t1
  simp only [fpart,part',Tryz.f138,Option.getD]
  simp only [S9,R,seval,PY,PZ,pbp,dynR,t1,gn,SX,hid]
  exact ⟨_,rfl⟩
 | bad t c=>
  skip
  intro B hext hB
  have hbn:B[n0]?=some (.cells 86 [.bp id 0]):=by rw [hext n0 hn0 hl0];exact hb0
  have hid:=(List.getElem?_eq_some_iff.1 hB.2).1
  have hnl:=(List.getElem?_eq_some_iff.1 hbn).1
  have hc:=hB.1
  refine op_BX (P:=PSR L i o RL) (by simp [pureL,PV.pure]) hB.1 hB.2 (PSR_under L _ _ hR) (fltV_under _ _ _) ?_
  have hP1:hasP L i o RL id (BX B id (PSR L i o RL) [.cells 29 [.int .i64 0,.int .i64 0,.int .i64 0,.str [],.int .i64 0,.int .i64 0,.str [],.int .i64 0,.str [],.str [],.nils]]):=hasP_BX (i0:=i) (o0:=o) hid hc hR (by simp only [SU])
  have t1:=hbad t c hr 139 [.bp id 0] [] [.bp id 0] rfl rfl _ (hpm _) hP1
  rw [BX_set hid] at t1
  have gn:=BX_getn (bx:=B) (P:=PSR L i o RL) (ys:=[.cells 29 [.int .i64 0,.int .i64 0,.int .i64 0,.str [],.int .i64 0,.int .i64 0,.str [],.int .i64 0,.str [],.str [],.nils]]) hn0 hnl
  rw [hbn] at gn
  unfold kkC chW at t1
  simp only [Bool.false_eq_true,if_false] at t1
  rw [callL_enter (fn:=Tryz.f138) (c:=Tryz.f138.body.getD .skip) rfl rfl fat_parse_parser_expr_1 rfl ok_parse_parser_expr_1 (Nat.le_of_ble_eq_true rfl)]
  unfold PSR at *
  obtain ⟨ev,eo,so,co,⟨hev,hco⟩,R⟩:=RULES CC;rw [<- hev]
  rw [<- hco] at t1
  simp only [fpart,part',Tryz.f138,Option.getD]
  simp only [S9,R,seval,PY,PZ,pbp,dynR,t1,gn,SX,hid]
  exact ⟨_,rfl⟩
end Go.HH
namespace Go.HH
open Go Go.Proofs
set_option maxRecDepth 100000
set_option maxHeartbeats 4000000
set_option linter.unusedSimpArgs false
set_option linter.unusedVariables false
theorem ctr_expr {id:Nat} {L:List Tk} {RL:PV} (hR:RL.pure=true) (hT:TokOK L) (n:Nat) (hx:CtrE 99 .expr id L RL n) (hn:∀ m,m < n->CtrE 139 .not id L RL m):CtrE 99 .expr id L RL (n+1):=by
 intro i o hi ho
 rw [pz]
 cases f0:isT L 1 [105,102] i with
 | false=>
  simp only [Bool.false_eq_true,if_false]
  obtain ⟨I1,O1,hcl⟩:=closure_call (id:=id) (RL:=RL) hR hT n hn
  have h1:=chc_all (id:=id) (RL:=RL) hR hT true n I1 O1 i o hi ho
  cases r1:pz L n (.chain true) o i with
  | out=>exact ans_out
  | bad t c=>
   rw [r1] at h1
   obtain ⟨i',o',h1⟩:=h1
   refine ans_bad ⟨i',o',badx_of hR fun bx hid hc=>?_⟩
   have hd:∀ k,id < bx.length+k:=fun k=>by omega
   have t0:=okc_use hid hc hR (okc_token (id:=id) (o:=o) hR hi)
   have q0:=okc_use hid hc hR (okc_word_f (id:=id) (o:=o) hR hi hT _ f0)
   have hbn:(BX bx id (PSR L i o RL) [.cells 86 [.bp id 0],.cells 29 [.int .i64 0,.int .i64 0,.int .i64 0,.str [],.int .i64 0,.int .i64 0,.str [],.int .i64 0,.str [],.str [],.nils],.cells 80 [.int .i64 ((tokAt L i).1:Int),.str (tokAt L i).2.1,.int .i64 ((tokAt L i).2.2:Int)]])[bx.length]?=some (.cells 86 [.bp id 0]):=by rw [BX_get0];rfl
   have hP1:hasP L i o RL id (BX bx id (PSR L i o RL) [.cells 86 [.bp id 0],.cells 29 [.int .i64 0,.int .i64 0,.int .i64 0,.str [],.int .i64 0,.int .i64 0,.str [],.int .i64 0,.str [],.str [],.nils],.cells 80 [.int .i64 ((tokAt L i).1:Int),.str (tokAt L i).2.1,.int .i64 ((tokAt L i).2.2:Int)]]):=hasP_BX (i0:=i) (o0:=o) hid hc hR (by simp only [SU,SX,List.length_cons,List.length_nil];simpa using (by omega:id < bx.length+3))
   have t1:=h1 138 [] [.bp bx.length 0] [.bp bx.length 0] rfl rfl _ (hcl _ bx.length hbn (by omega)) hP1
   rw [BX_set hid] at t1
   unfold kkC chW at t1
   simp only [if_true] at t1
   rw [callL_enter (fn:=Tryz.f99) (c:=Tryz.f99.body.getD .skip) rfl rfl fat_parse_parser_expr rfl ok_parse_parser_expr (Nat.le_of_ble_eq_true rfl)]
   have pbp:pureL [PV.bp id 0]=false:=rfl
   unfold PSR at *
   obtain ⟨ev,eo,so,co,⟨hev,hco⟩,R⟩:=RULES CC;rw [<- hev]
   rw [<- hco] at t0 q0 t1
   simp only [fpart,part',Tryz.f99,Option.getD]
   simp only [S9,R,seval,PY,PZ,pbp,dynR,t0,q0,t1,SX,hd,hid]
   exact ⟨_,rfl⟩
  | ok a j=>
   rw [r1] at h1
   refine ans_ok (okc_of hR (fun n=>by rw [trV_exC];simp only [SX,PV.under]) fun bx hid hc=>?_)
   have hd:∀ k,id < bx.length+k:=fun k=>by omega
   have t0:=okc_use hid hc hR (okc_token (id:=id) (o:=o) hR hi)
   have q0:=okc_use hid hc hR (okc_word_f (id:=id) (o:=o) hR hi hT _ f0)
   have hbn:(BX bx id (PSR L i o RL) [.cells 86 [.bp id 0],.cells 29 [.int .i64 0,.int .i64 0,.int .i64 0,.str [],.int .i64 0,.int .i64 0,.str [],.int .i64 0,.str [],.str [],.nils],.cells 80 [.int .i64 ((tokAt L i).1:Int),.str (tokAt L i).2.1,.int .i64 ((tokAt L i).2.2:Int)]])[bx.length]?=some (.cells 86 [.bp id 0]):=by rw [BX_get0];rfl
   have hP1:hasP L i o RL id (BX bx id (PSR L i o RL) [.cells 86 [.bp id 0],.cells 29 [.int .i64 0,.int .i64 0,.int .i64 0,.str [],.int .i64 0,.int .i64 0,.str [],.int .i64 0,.str [],.str [],.nils],.cells 80 [.int .i64 ((tokAt L i).1:Int),.str (tokAt L i).2.1,.int .i64 ((tokAt L i).2.2:Int)]]):=hasP_BX (i0:=i) (o0:=o) hid hc hR (by simp only [SU,SX,List.length_cons,List.length_nil];simpa using (by omega:id < bx.length+3))
   have t1:=h1 138 [] [.bp bx.length 0] [.bp bx.length 0] rfl rfl _ (hcl _ bx.length hbn (by omega)) hP1
   rw [BX_set hid] at t1
   rw [trV_exC] at t1 ⊢
   unfold kkC chW at t1
   simp only [if_true] at t1
   rw [callL_enter (fn:=Tryz.f99) (c:=Tryz.f99.body.getD .skip) rfl rfl fat_parse_parser_expr rfl ok_parse_parser_expr (Nat.le_of_ble_eq_true rfl)]
   have pbp:pureL [PV.bp id 0]=false:=rfl
   unfold PSR at *
   obtain ⟨ev,eo,so,co,⟨hev,hco⟩,R⟩:=RULES CC;rw [<- hev]
   rw [<- hco] at t0 q0 t1
   simp only [fpart,part',Tryz.f99,Option.getD]
   simp only [S9,R,seval,PY,PZ,pbp,dynR,t0,q0,t1,SX,hd,hid]
   exact ⟨_,rfl⟩
 | true=>
  simp only [if_true]
  have hi1:=isT_lt hT hi f0 (by decide)
  by_cases hlt:o < 100
  · rw [if_pos hlt]
    have hwo:IntKind.wrap .i64 (((o+1:Nat):Int) - 1)=((o:Nat):Int):=by rw [wrap_i64 ⟨by omega,by omega⟩];omega
    have h1:=hx (i+1) (o+1) hi1 (by omega)
    cases r1:pz L n .expr (o+1) (i+1) with
    | out=>exact ans_out
    | bad t e=>
     rw [r1] at h1
     obtain ⟨i',o',h1⟩:=h1
     refine ans_bad ⟨i',o',badx_of hR fun bx hid hc=>?_⟩
     have hd:∀ k,id < bx.length+k:=fun k=>by omega
     have t0:=okc_use hid hc hR (okc_token (id:=id) (o:=o) hR hi)
     have q0:=okc_use hid hc hR (okc_word_t (id:=id) (o:=o) hR hi hT _ f0)
     have te:=okc_use hid hc hR (okc_enter (id:=id) (L:=L) (i:=i+1) hR hlt (tokAt L i).1 (tokAt L i).2.1 (tokAt L i).2.2)
     have t1:=badx_use hid hc hR h1
     rw [callL_enter (fn:=Tryz.f99) (c:=Tryz.f99.body.getD .skip) rfl rfl fat_parse_parser_expr rfl ok_parse_parser_expr (Nat.le_of_ble_eq_true rfl)]
     have pbp:pureL [PV.bp id 0]=false:=rfl
     unfold PSR
     obtain ⟨ev,eo,so,co,⟨hev,hco⟩,R⟩:=RULES CC;rw [<- hev]
     rw [<- hco] at t0 q0 te t1
     simp only [fpart,part',Tryz.f99,Option.getD]
     simp only [S9,R,seval,PY,PZ,pbp,dynR,t0,q0,te,t1,SX,hd,hid]
     exact ⟨_,rfl⟩
    | ok a1 i1=>
     rw [r1] at h1
     dsimp only [bind_okk]
     have j1:=pz_lt hT _ _ _ _ _ _ hi1 r1
     have hi1:=j1.2
     have h2:=ans_must (id:=id) (o:=o+1) (i:=i1) hR hi1 hT 1 1 rfl [116,104,101,110]
     cases r2:mustP L 1 [116,104,101,110] i1 with
     | out=>exact ans_out
     | bad t e=>
      rw [r2] at h2
      obtain ⟨i',o',h2⟩:=h2
      refine ans_bad ⟨i',o',badx_of hR fun bx hid hc=>?_⟩
      have hd:∀ k,id < bx.length+k:=fun k=>by omega
      have t0:=okc_use hid hc hR (okc_token (id:=id) (o:=o) hR hi)
      have q0:=okc_use hid hc hR (okc_word_t (id:=id) (o:=o) hR hi hT _ f0)
      have te:=okc_use hid hc hR (okc_enter (id:=id) (L:=L) (i:=i+1) hR hlt (tokAt L i).1 (tokAt L i).2.1 (tokAt L i).2.2)
      have t1:=okc_use hid hc hR h1
      rw [trV_exC] at t1
      have t2:=badx_use hid hc hR h2
      rw [callL_enter (fn:=Tryz.f99) (c:=Tryz.f99.body.getD .skip) rfl rfl fat_parse_parser_expr rfl ok_parse_parser_expr (Nat.le_of_ble_eq_true rfl)]
      have pbp:pureL [PV.bp id 0]=false:=rfl
      unfold PSR
      obtain ⟨ev,eo,so,co,⟨hev,hco⟩,R⟩:=RULES CC;rw [<- hev]
      rw [<- hco] at t0 q0 te t1 t2
      simp only [fpart,part',Tryz.f99,Option.getD]
      simp only [S9,R,seval,PY,PZ,pbp,dynR,t0,q0,te,t1,t2,SX,hd,hid]
      exact ⟨_,rfl⟩
     | ok a2 i2=>
      rw [r2] at h2
      dsimp only [bind_okk]
      have j2:=mustP_lt hT hi1 (by decide) r2
      have hi2:=j2.2
      have h3:=hx i2 (o+1) hi2 (by omega)
      cases r3:pz L n .expr (o+1) i2 with
      | out=>exact ans_out
      | bad t e=>
       rw [r3] at h3
       obtain ⟨i',o',h3⟩:=h3
       refine ans_bad ⟨i',o',badx_of hR fun bx hid hc=>?_⟩
       have hd:∀ k,id < bx.length+k:=fun k=>by omega
       have t0:=okc_use hid hc hR (okc_token (id:=id) (o:=o) hR hi)
       have q0:=okc_use hid hc hR (okc_word_t (id:=id) (o:=o) hR hi hT _ f0)
       have te:=okc_use hid hc hR (okc_enter (id:=id) (L:=L) (i:=i+1) hR hlt (tokAt L i).1 (tokAt L i).2.1 (tokAt L i).2.2)
       have t1:=okc_use hid hc hR h1
       rw [trV_exC] at t1
       have t2:=okc_use hid hc hR h2
       have t3:=badx_use hid hc hR h3
       rw [callL_enter (fn:=Tryz.f99) (c:=Tryz.f99.body.getD .skip) rfl rfl fat_parse_parser_expr rfl ok_parse_parser_expr (Nat.le_of_ble_eq_true rfl)]
       have pbp:pureL [PV.bp id 0]=false:=rfl
       unfold PSR
       obtain ⟨ev,eo,so,co,⟨hev,hco⟩,R⟩:=RULES CC;rw [<- hev]
       rw [<- hco] at t0 q0 te t1 t2 t3
       simp only [fpart,part',Tryz.f99,Option.getD]
       simp only [S9,R,seval,PY,PZ,pbp,dynR,t0,q0,te,t1,t2,t3,SX,hd,hid]
       exact ⟨_,rfl⟩
      | ok a3 i3=>
       rw [r3] at h3
       dsimp only [bind_okk]
       have j3:=pz_lt hT _ _ _ _ _ _ hi2 r3
       have hi3:=j3.2
       have h4:=ans_must (id:=id) (o:=o+1) (i:=i3) hR hi3 hT 1 1 rfl [101,108,115,101]
       cases r4:mustP L 1 [101,108,115,101] i3 with
       | out=>exact ans_out
       | bad t e=>
        rw [r4] at h4
        obtain ⟨i',o',h4⟩:=h4
        refine ans_bad ⟨i',o',badx_of hR fun bx hid hc=>?_⟩
        have hd:∀ k,id < bx.length+k:=fun k=>by omega
        have t0:=okc_use hid hc hR (okc_token (id:=id) (o:=o) hR hi)
        have q0:=okc_use hid hc hR (okc_word_t (id:=id) (o:=o) hR hi hT _ f0)
        have te:=okc_use hid hc hR (okc_enter (id:=id) (L:=L) (i:=i+1) hR hlt (tokAt L i).1 (tokAt L i).2.1 (tokAt L i).2.2)
        have t1:=okc_use hid hc hR h1
        rw [trV_exC] at t1
        have t2:=okc_use hid hc hR h2
        have t3:=okc_use hid hc hR h3
        rw [trV_exC] at t3
        have t4:=badx_use hid hc hR h4
        rw [callL_enter (fn:=Tryz.f99) (c:=Tryz.f99.body.getD .skip) rfl rfl fat_parse_parser_expr rfl ok_parse_parser_expr (Nat.le_of_ble_eq_true rfl)]
        have pbp:pureL [PV.bp id 0]=false:=rfl
        unfold PSR
        obtain ⟨ev,eo,so,co,⟨hev,hco⟩,R⟩:=RULES CC;rw [<- hev]
        rw [<- hco] at t0 q0 te t1 t2 t3 t4
        simp only [fpart,part',Tryz.f99,Option.getD]
        simp only [S9,R,seval,PY,PZ,pbp,dynR,t0,q0,te,t1,t2,t3,t4,SX,hd,hid]
        exact ⟨_,rfl⟩
       | ok a4 i4=>
        rw [r4] at h4
        dsimp only [bind_okk]
        have j4:=mustP_lt hT hi3 (by decide) r4
        have hi4:=j4.2
        have h5:=hx i4 (o+1) hi4 (by omega)
        cases r5:pz L n .expr (o+1) i4 with
        | out=>exact ans_out
        | bad t e=>
         rw [r5] at h5
         obtain ⟨i',o',h5⟩:=h5
         refine ans_bad ⟨i',o',badx_of hR fun bx hid hc=>?_⟩
         have hd:∀ k,id < bx.length+k:=fun k=>by omega
         have t0:=okc_use hid hc hR (okc_token (id:=id) (o:=o) hR hi)
         have q0:=okc_use hid hc hR (okc_word_t (id:=id) (o:=o) hR hi hT _ f0)
         have te:=okc_use hid hc hR (okc_enter (id:=id) (L:=L) (i:=i+1) hR hlt (tokAt L i).1 (tokAt L i).2.1 (tokAt L i).2.2)
         have t1:=okc_use hid hc hR h1
         rw [trV_exC] at t1
         have t2:=okc_use hid hc hR h2
         have t3:=okc_use hid hc hR h3
         rw [trV_exC] at t3
         have t4:=okc_use hid hc hR h4
         have t5:=badx_use hid hc hR h5
         rw [callL_enter (fn:=Tryz.f99) (c:=Tryz.f99.body.getD .skip) rfl rfl fat_parse_parser_expr rfl ok_parse_parser_expr (Nat.le_of_ble_eq_true rfl)]
         have pbp:pureL [PV.bp id 0]=false:=rfl
         unfold PSR
         obtain ⟨ev,eo,so,co,⟨hev,hco⟩,R⟩:=RULES CC;rw [<- hev]
         rw [<- hco] at t0 q0 te t1 t2 t3 t4 t5
         simp only [fpart,part',Tryz.f99,Option.getD]
         simp only [S9,R,seval,PY,PZ,pbp,dynR,t0,q0,te,t1,t2,t3,t4,t5,SX,hd,hid]
         exact ⟨_,rfl⟩
        | ok a5 i5=>
         rw [r5] at h5
         dsimp only [bind_okk]
         have j5:=pz_lt hT _ _ _ _ _ _ hi4 r5
         have hi5:=j5.2
         have hb:=bsE3 a1 a3 a5
         have hn3:=nod3 14 a1 a3 a5
         refine ans_ok (okc_of hR (fun n=>by rw [trV_exC];simp only [SX,PV.under]) fun bx hid hc=>?_)
         have hd:∀ k,id < bx.length+k:=fun k=>by omega
         have t0:=okc_use hid hc hR (okc_token (id:=id) (o:=o) hR hi)
         have q0:=okc_use hid hc hR (okc_word_t (id:=id) (o:=o) hR hi hT _ f0)
         have te:=okc_use hid hc hR (okc_enter (id:=id) (L:=L) (i:=i+1) hR hlt (tokAt L i).1 (tokAt L i).2.1 (tokAt L i).2.2)
         have t1:=okc_use hid hc hR h1
         rw [trV_exC] at t1
         have t2:=okc_use hid hc hR h2
         have t3:=okc_use hid hc hR h3
         rw [trV_exC] at t3
         have t4:=okc_use hid hc hR h4
         have t5:=okc_use hid hc hR h5
         rw [trV_exC] at t5
         rw [trV_exC]
         rw [callL_enter (fn:=Tryz.f99) (c:=Tryz.f99.body.getD .skip) rfl rfl fat_parse_parser_expr rfl ok_parse_parser_expr (Nat.le_of_ble_eq_true rfl)]
         have pbp:pureL [PV.bp id 0]=false:=rfl
         unfold PSR
         obtain ⟨ev,eo,so,co,⟨hev,hco⟩,R⟩:=RULES CC;rw [<- hev]
         rw [<- hco] at t0 q0 te t1 t2 t3 t4 t5 hn3
         simp only [fpart,part',Tryz.f99,Option.getD]
         simp only [S9,R,seval,PY,PZ,pbp,dynR,t0,q0,te,t1,t2,t3,t4,t5,hb,hn3,hwo,SX,hd,hid]
         exact ⟨_,rfl⟩
  · rw [if_neg hlt]
    have ho2:o=100:=by omega
    refine ans_bad ⟨i+1,o+1,badx_of hR fun bx hid hc=>?_⟩
    have hd:∀ k,id < bx.length+k:=fun k=>by omega
    have t0:=okc_use hid hc hR (okc_token (id:=id) (o:=o) hR hi)
    have q0:=okc_use hid hc hR (okc_word_t (id:=id) (o:=o) hR hi hT _ f0)
    have te:=badx_use hid hc hR (badx_enter (id:=id) (L:=L) (i:=i+1) hR ho2 (tokAt L i).1 (tokAt L i).2.1 (tokAt L i).2.2)
    rw [callL_enter (fn:=Tryz.f99) (c:=Tryz.f99.body.getD .skip) rfl rfl fat_parse_parser_expr rfl ok_parse_parser_expr (Nat.le_of_ble_eq_true rfl)]
    have pbp:pureL [PV.bp id 0]=false:=rfl
    unfold PSR atT
    obtain ⟨ev,eo,so,co,⟨hev,hco⟩,R⟩:=RULES CC;rw [<- hev]
    rw [<- hco] at t0 q0 te
    simp only [fpart,part',Tryz.f99,Option.getD]
    simp only [S9,R,seval,PY,PZ,pbp,dynR,t0,q0,te,SX,hd,hid]
    exact ⟨_,rfl⟩
theorem ctr_all {id:Nat} {L:List Tk} {RL:PV} (hR:RL.pure=true) (hT:TokOK L):∀ n,CtrE 99 .expr id L RL n∧CtrE 139 .not id L RL n∧CtrE 162 .cmp id L RL n∧CtrE 171 .sum id L RL n∧CtrE 178 .prod id L RL n∧CtrE 184 .un id L RL n∧CtrE 187 .prim id L RL n:=by
 intro n
 induction n using Nat.strongRecOn with
 | _ n ih=>
  cases n with
  | zero=>exact ⟨fun _ _ _ _=>ans_out,fun _ _ _ _=>ans_out,fun _ _ _ _=>ans_out,fun _ _ _ _=>ans_out,fun _ _ _ _=>ans_out,fun _ _ _ _=>ans_out,fun _ _ _ _=>ans_out⟩
  | succ n=>
   obtain ⟨a1,a2,a3,a4,a5,a6,a7⟩:=ih n (by omega)
   exact ⟨ctr_expr hR hT n a1 (fun m hm=>(ih m (by omega)).2.1),ctr_not hR hT n a3 a2,ctr_cmp hR hT n a4,ctr_sum hR hT n (fun k hk=>(ih k (by omega)).2.2.2.2.1),ctr_prod hR hT n (fun k hk=>(ih k (by omega)).2.2.2.2.2.1),ctr_un hR hT n a7 a6,ctr_prim hR hT n a1⟩
end Go.HH
namespace Go.HH
open Go Go.Proofs
set_option maxRecDepth 100000
set_option maxHeartbeats 4000000
set_option linter.unusedSimpArgs false
set_option linter.unusedVariables false
theorem sh_nod {k:Int} {l:List Tr} (h:shTs l) (hl:l.length<=12):shT (nodT k l):=by
 unfold nodT shT zV zK
 exact ⟨⟨by simp,by simp,by simp,by simp,hl⟩,h⟩
theorem sh_lit (k n:Int):shT (litT k n):=by
 unfold litT shT zK shTs
 exact ⟨⟨by simp,by simp,by simp,by simp,by simp⟩,trivial⟩
theorem sh_n1 {k:Int} {a:Tr} (h:shT a):shT (nodT k [a]):=sh_nod (by unfold shTs shTs;exact ⟨h,trivial⟩) (by simp)
theorem sh_n2 {k:Int} {a b:Tr} (h:shT a) (h2:shT b):shT (nodT k [a,b]):=sh_nod (by unfold shTs shTs shTs;exact ⟨h,h2,trivial⟩) (by simp)
theorem sh_n3 {k:Int} {a b c:Tr} (h:shT a) (h2:shT b) (h3:shT c):shT (nodT k [a,b,c]):=sh_nod (by unfold shTs shTs shTs shTs;exact ⟨h,h2,h3,trivial⟩) (by simp)
theorem sh_app {l:List Tr} {a:Tr} (h:shTs l) (h2:shT a):shTs (l++[a]):=by
 induction l with
 | nil=>unfold shTs shTs;exact ⟨h2,trivial⟩
 | cons x r ih=>unfold shTs at h;show shTs (x :: (r++[a]));unfold shTs;exact ⟨h.1,ih h.2⟩
theorem valB_len {s:List UInt8} (h:valB s=true):s.length<=100:=by
 unfold valB at h
 simp only [Bool.and_eq_true,decide_eq_true_eq] at h
 omega
theorem nameP_val {L:List Tk} {i:Nat} {a:List UInt8} {j:Nat} (h:nameP L i=.ok a j):valB a=true:=by
 unfold nameP at h
 split at h
 · split at h
   · rename_i hv
     injection h with h _
     subst h
     exact hv
   · cases h
 · cases h
theorem sh_cmp (k:Nat) {a b:Tr} (h:shT a) (h2:shT b):shT (cmpT k a b):=by
 unfold cmpT
 split
 · exact sh_n2 h h2
 · exact sh_n1 (sh_n2 h h2)
 · exact sh_n2 h h2
 · exact sh_n1 (sh_n2 h h2)
 · exact sh_n2 h2 h
 · exact sh_n1 (sh_n2 h2 h)
theorem sh_ch (b:Bool) {l:List Tr} (h:shTs l) (hl:l.length<=12):shT (chT b l):=by
 unfold chT
 split
 · unfold shTs at h;exact h.1
 · exact sh_nod h hl
theorem sh_leaf {k n m:Int} {s:List UInt8} {v:Vl} {y:Ky} (h1:s.length<=100) (h2:v.2.2.length<=100) (h3:y.2.1.length<=100) (h4:y.2.2.length<=100):shT (.mk k n m s v y []):=by
 unfold shT shTs
 exact ⟨⟨h1,h2,h3,h4,by simp⟩,trivial⟩
theorem condP_sh {L:List Tk} {i:Nat} {a:Tr} {j:Nat} (h:condP L i=.ok a j):shT a:=by
 unfold condP at h
 split at h
 · injection h with h _;subst h;exact sh_lit _ _
 split at h
 · injection h with h _;subst h;exact sh_lit _ _
 split at h
 · obtain ⟨_,i1,r1,h⟩:=bind_ok h
   obtain ⟨_,i2,r2,h⟩:=bind_ok h
   injection h with h _
   subst h
   exact sh_leaf (valB_len (nameP_val r2)) (by simp [zV]) (by simp [zK]) (by simp [zK])
 split at h
 · obtain ⟨_,i1,r1,h⟩:=bind_ok h
   obtain ⟨_,i2,r2,h⟩:=bind_ok h
   obtain ⟨_,i3,r3,h⟩:=bind_ok h
   injection h with h _
   subst h
   exact sh_leaf (by simp) (by simp [zV]) (by simp [zK]) (by simp [zK])
 split at h
 · obtain ⟨_,i1,r1,h⟩:=bind_ok h
   injection h with h _
   subst h
   exact sh_leaf (by simp) (by simp [zV]) (by simp [zK]) (by simp [zK])
 split at h
 · split at h
   · injection h with h _;subst h;exact sh_leaf (by simp) (by simp [zV]) (by simp [zK]) (by simp [zK])
   · injection h with h _;subst h;exact sh_leaf (by simp) (by simp [zV]) (by simp [zK]) (by simp [zK])
 · cases h
theorem pathP_val {L:List Tk} {i:Nat} {a:Ky} {j:Nat} (h:pathP L i=.ok a j):valB a.2.1=true∧valB a.2.2=true:=by
 unfold pathP at h
 obtain ⟨_,i1,r1,h⟩:=bind_ok h
 obtain ⟨_,i2,r2,h⟩:=bind_ok h
 obtain ⟨_,i3,r3,h⟩:=bind_ok h
 obtain ⟨_,i4,r4,h⟩:=bind_ok h
 obtain ⟨_,i5,r5,h⟩:=bind_ok h
 injection h with h _
 subst h
 exact ⟨nameP_val r3,nameP_val r5⟩
def accOK:NT->Prop
 | .chainL _ acc=>shTs acc∧acc.length<=8
 | .sumL e=>shT e
 | .prodL e=>shT e
 | _=>True
theorem accOK_opd (b:Bool):accOK (opdNT b):=by cases b <;> trivial
theorem sh_pz {L:List Tk} (hT:TokOK L):∀ (n:Nat) (nt:NT) (o i:Nat) (a:Tr) (j:Nat),accOK nt->pz L n nt o i=.ok a j->shT a:=by
 intro n
 induction n with
 | zero=>intro nt o i a j hi h;cases h
 | succ n ih=>
  intro nt o i a j hi h
  cases nt with
  | expr=>
   rw [pz] at h
   split at h
   · split at h
     · obtain ⟨_,i1,r1,h⟩:=bind_ok h
       obtain ⟨_,i2,r2,h⟩:=bind_ok h
       obtain ⟨_,i3,r3,h⟩:=bind_ok h
       obtain ⟨_,i4,r4,h⟩:=bind_ok h
       obtain ⟨_,i5,r5,h⟩:=bind_ok h
       injection h with h _
       subst h
       exact sh_n3 (ih _ _ _ _ _ (by trivial) r1) (ih _ _ _ _ _ (by trivial) r3) (ih _ _ _ _ _ (by trivial) r5)
     · cases h
   · exact ih _ _ _ _ _ (by trivial) h
  | chain b=>
   rw [pz] at h
   obtain ⟨_,i1,r1,h⟩:=bind_ok h
   exact ih (.chainL b [_]) _ _ _ _ ⟨by unfold shTs shTs;exact ⟨ih _ _ _ _ _ (accOK_opd b) r1,trivial⟩,by simp⟩ h
  | chainL b acc=>
   rw [pz] at h
   split at h
   · split at h
     · cases h
     · rename_i h8
       obtain ⟨_,i1,r1,h⟩:=bind_ok h
       exact ih (.chainL b (acc++[_])) _ _ _ _ ⟨sh_app hi.1 (ih _ _ _ _ _ (accOK_opd b) r1),by have:=hi.2;rw [List.length_append];simp;omega⟩ h
   · injection h with h _
     subst h
     exact sh_ch b hi.1 (by have:=hi.2;omega)
  | not=>
   rw [pz] at h
   split at h
   · split at h
     · obtain ⟨_,i1,r1,h⟩:=bind_ok h
       injection h with h _
       subst h
       exact sh_n1 (ih _ _ _ _ _ (by trivial) r1)
     · cases h
   · exact ih _ _ _ _ _ (by trivial) h
  | cmp=>
   rw [pz] at h
   obtain ⟨_,i1,r1,h⟩:=bind_ok h
   split at h
   · obtain ⟨_,i2,r2,h⟩:=bind_ok h
     injection h with h _
     subst h
     exact sh_cmp _ (ih _ _ _ _ _ (by trivial) r1) (ih _ _ _ _ _ (by trivial) r2)
   · injection h with h _
     subst h
     exact ih _ _ _ _ _ (by trivial) r1
  | sum=>
   rw [pz] at h
   obtain ⟨_,i1,r1,h⟩:=bind_ok h
   exact ih (.sumL _) _ _ _ _ (show shT _ from ih _ _ _ _ _ (by trivial) r1) h
  | sumL e=>
   rw [pz] at h
   split at h
   · obtain ⟨_,i1,r1,h⟩:=bind_ok h
     exact ih (.sumL _) _ _ _ _ (show shT _ from sh_n2 hi (ih _ _ _ _ _ (by trivial) r1)) h
   · split at h
     · obtain ⟨_,i1,r1,h⟩:=bind_ok h
       exact ih (.sumL _) _ _ _ _ (show shT _ from sh_n2 hi (ih _ _ _ _ _ (by trivial) r1)) h
     · injection h with h _
       subst h
       exact hi
  | prod=>
   rw [pz] at h
   obtain ⟨_,i1,r1,h⟩:=bind_ok h
   exact ih (.prodL _) _ _ _ _ (show shT _ from ih _ _ _ _ _ (by trivial) r1) h
  | prodL e=>
   rw [pz] at h
   split at h
   · obtain ⟨_,i1,r1,h⟩:=bind_ok h
     exact ih (.prodL _) _ _ _ _ (show shT _ from sh_n2 hi (ih _ _ _ _ _ (by trivial) r1)) h
   · injection h with h _
     subst h
     exact hi
  | un=>
   rw [pz] at h
   split at h
   · split at h
     · injection h with h _;subst h;exact sh_lit _ _
     · split at h
       · obtain ⟨_,i1,r1,h⟩:=bind_ok h
         injection h with h _
         subst h
         exact sh_n2 (sh_lit _ _) (ih _ _ _ _ _ (by trivial) r1)
       · cases h
   · exact ih _ _ _ _ _ (by trivial) h
  | prim=>
   rw [pz] at h
   split at h
   · injection h with h _;subst h;exact sh_lit _ _
   split at h
   · obtain ⟨_,i1,r1,h⟩:=bind_ok h
     injection h with h _
     subst h
     have:=pathP_val r1
     exact sh_leaf (by simp) (by simp [zV]) (valB_len this.1) (valB_len this.2)
   split at h
   · rename_i hk
     injection h with h _
     subst h
     exact sh_leaf (by simp) (by have:=hT.str i hk;simp only;omega) (by simp [zK]) (by simp [zK])
   split at h
   · obtain ⟨_,i1,r1,h⟩:=bind_ok h
     injection h with h _
     subst h
     exact sh_lit _ _
   split at h
   · split at h
     · obtain ⟨_,i1,r1,h⟩:=bind_ok h
       obtain ⟨_,i2,r2,h⟩:=bind_ok h
       injection h with h _
       subst h
       exact ih _ _ _ _ _ (by trivial) r1
     · cases h
   · exact condP_sh h
theorem ok_parse_parser_whole:fnOK CC Tryz.f49 (Tryz.f49.body.getD .skip)=true:=by kernel_rfl
theorem fat_parse_parser_whole:CC.P.funcs[49]?=some Tryz.f49:=by kernel_rfl
theorem ans_whole {id:Nat} {L:List Tk} {RL:PV} (hR:RL.pure=true) (hT:TokOK L) {i:Nat} (hi:i < L.length) (n:Nat) (o:Nat) (ho:o=0):ANS 49 [] id L RL i o trV (wholeP L n i):=by
 have e:wholeP L n i=(pz L n .expr o i).bind fun e j=>if ckT e=0 then .ok e j else .bad (atT L i) (ckT e):=by subst ho;rfl
 rw [e]
 have h1:=(ctr_all (id:=id) (RL:=RL) hR hT n).1 i o hi (by omega)
 cases r1:pz L n .expr o i with
 | out=>exact ans_out
 | bad t e=>
  rw [r1] at h1
  obtain ⟨i',o',h1⟩:=h1
  refine ans_bad ⟨i',o',badx_of hR fun bx hid hc=>?_⟩
  have t0:=okc_use hid hc hR (okc_token (id:=id) (o:=o) hR hi)
  have t1:=badx_use hid hc hR h1
  rw [callL_enter (fn:=Tryz.f49) (c:=Tryz.f49.body.getD .skip) rfl rfl fat_parse_parser_whole rfl ok_parse_parser_whole (Nat.le_of_ble_eq_true rfl)]
  have pbp:pureL [PV.bp id 0]=false:=rfl
  unfold PSR
  obtain ⟨ev,eo,so,co,⟨hev,hco⟩,R⟩:=RULES CC;rw [<- hev]
  rw [<- hco] at t0 t1
  simp only [fpart,part',Tryz.f49,Option.getD]
  simp only [S9,R,seval,PY,PZ,pbp,dynR,t0,t1,SX,hid]
  exact ⟨_,rfl⟩
 | ok a j=>
  rw [r1] at h1
  dsimp only [bind_okk]
  have hck:=op_expr_Check a (sh_pz hT _ _ _ _ _ _ (by trivial) r1)
  rw [trV_exC] at hck
  by_cases hz:ckT a=0
  · rw [if_pos hz]
    rw [hz] at hck
    refine ans_ok (okc_of hR (fun n=>by rw [trV_exC];simp only [SX,PV.under]) fun bx hid hc=>?_)
    have t0:=okc_use hid hc hR (okc_token (id:=id) (o:=o) hR hi)
    have t1:=okc_use hid hc hR h1
    rw [trV_exC] at t1 ⊢
    rw [callL_enter (fn:=Tryz.f49) (c:=Tryz.f49.body.getD .skip) rfl rfl fat_parse_parser_whole rfl ok_parse_parser_whole (Nat.le_of_ble_eq_true rfl)]
    have pbp:pureL [PV.bp id 0]=false:=rfl
    unfold PSR
    obtain ⟨ev,eo,so,co,⟨hev,hco⟩,R⟩:=RULES CC;rw [<- hev]
    rw [<- hco] at t0 t1 hck
    simp only [fpart,part',Tryz.f49,Option.getD]
    simp only [S9,R,seval,PY,PZ,pbp,dynR,t0,t1,hck,SX,hid]
    exact ⟨_,rfl⟩
  · rw [if_neg hz]
    have hz':(ckT a != 0)=true:=by simp [bne_iff_ne,hz]
    have hj:=(pz_lt hT _ _ _ _ _ _ hi r1).2
    have hf:=badx_fail (id:=id) (i:=j) (o:=o) (L:=L) (RL:=RL) hR (tokAt L i).1 (tokAt L i).2.1 (tokAt L i).2.2 (ckT a)
    refine ans_bad ⟨j,o,badx_of hR fun bx hid hc=>?_⟩
    have t0:=okc_use hid hc hR (okc_token (id:=id) (o:=o) hR hi)
    have t1:=okc_use hid hc hR h1
    rw [trV_exC] at t1
    have t2:=badx_use hid hc hR hf
    rw [callL_enter (fn:=Tryz.f49) (c:=Tryz.f49.body.getD .skip) rfl rfl fat_parse_parser_whole rfl ok_parse_parser_whole (Nat.le_of_ble_eq_true rfl)]
    have pbp:pureL [PV.bp id 0]=false:=rfl
    unfold PSR atT
    obtain ⟨ev,eo,so,co,⟨hev,hco⟩,R⟩:=RULES CC;rw [<- hev]
    rw [<- hco] at t0 t1 hck t2
    simp only [fpart,part',Tryz.f49,Option.getD]
    simp only [S9,R,seval,PY,PZ,pbp,dynR,t0,t1,hck,hz',t2,SX,hid]
    exact ⟨_,rfl⟩
end Go.HH
