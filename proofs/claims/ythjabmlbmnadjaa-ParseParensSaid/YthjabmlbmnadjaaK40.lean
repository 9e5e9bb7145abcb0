/-
  What the law needs, packed: RB RC.
-/
import Derived.Test.YthjabmlbmnadjaaK39
namespace Go.HH
open Go Go.Proofs
set_option maxRecDepth 100000
set_option maxHeartbeats 4000000
set_option linter.unusedSimpArgs false
set_option linter.unusedVariables false
theorem ok_parse_parser_trigger:fnOK CC Try.f46 (Try.f46.body.getD .skip)=true:=by kernel_rfl
theorem fat_parse_parser_trigger:CC.P.funcs[46]?=some Try.f46:=by kernel_rfl
theorem ok_parse_parser_step:fnOK CC Try.f48 (Try.f48.body.getD .skip)=true:=by kernel_rfl
theorem fat_parse_parser_step:CC.P.funcs[48]?=some Try.f48:=by kernel_rfl
theorem bTg1 (d:Int) (a b:List UInt8):buildP CC 59 [(0,.int .i64 1),(1,.agg [.int .i64 d,.str a,.str b])]=some (.agg [.int .i64 1,.int .i64 d,.str a,.str b,.int .i64 0,.str [],.str [],.str [],.int .i64 0,.int .i64 0]):=by kernel_rfl
theorem bEv (d:Int) (a b:List UInt8):buildP CC 57 [(0,.int .i64 d),(1,.str a),(2,.str b)]=some (.agg [.int .i64 d,.str a,.str b]):=by kernel_rfl
theorem bTg2 (d:Int) (a b:List UInt8):buildP CC 59 [(0,.int .i64 2),(2,.agg [.int .i64 d,.str a,.str b])]=some (.agg [.int .i64 2,.int .i64 0,.str [],.str [],.int .i64 d,.str a,.str b,.str [],.int .i64 0,.int .i64 0]):=by kernel_rfl
theorem bTg3 (n:Int):buildP CC 59 [(0,.int .i64 3),(4,.int .i64 n),(5,.int .i64 127)]=some (.agg [.int .i64 3,.int .i64 0,.str [],.str [],.int .i64 0,.str [],.str [],.str [],.int .i64 n,.int .i64 127]):=by kernel_rfl
theorem bTg (k:Int):buildP CC 59 [(0,.int .i64 k)]=some (.agg [.int .i64 k,.int .i64 0,.str [],.str [],.int .i64 0,.str [],.str [],.str [],.int .i64 0,.int .i64 0]):=by kernel_rfl
theorem bTg4 (s:List UInt8):buildP CC 59 [(0,.int .i64 4),(3,.str s)]=some (.agg [.int .i64 4,.int .i64 0,.str [],.str [],.int .i64 0,.str [],.str [],.str s,.int .i64 0,.int .i64 0]):=by kernel_rfl
theorem bTg6 (n:Int):buildP CC 59 [(0,.int .i64 6),(4,.int .i64 n)]=some (.agg [.int .i64 6,.int .i64 0,.str [],.str [],.int .i64 0,.str [],.str [],.str [],.int .i64 n,.int .i64 0]):=by kernel_rfl
theorem bKy2 (d:Int) (a:List UInt8):buildP CC 31 [(0,.int .i64 d),(1,.str a)]=some (.agg [.int .i64 d,.str a,.str []]):=by kernel_rfl
theorem bSp1 (d:Int) (a b:List UInt8):buildP CC 41 [(0,.int .i64 1),(1,.agg [.int .i64 d,.str a,.str b])]=some (.agg [.int .i64 1,.int .i64 d,.str a,.str b,.str [],.int .i64 0,.int .i64 0,.int .i64 0,.str [],.int .i64 0,.int .i64 0,.str [],.int .i64 0,.str [],.str [],.nils]):=by kernel_rfl
theorem bSp2 (d:Int) (a b s:List UInt8):buildP CC 41 [(0,.int .i64 2),(1,.agg [.int .i64 d,.str a,.str b]),(2,.str s)]=some (.agg [.int .i64 2,.int .i64 d,.str a,.str b,.str s,.int .i64 0,.int .i64 0,.int .i64 0,.str [],.int .i64 0,.int .i64 0,.str [],.int .i64 0,.str [],.str [],.nils]):=by kernel_rfl
theorem bSp (k:Int) (s:List UInt8):buildP CC 41 [(0,.int .i64 k),(2,.str s)]=some (.agg [.int .i64 k,.int .i64 0,.str [],.str [],.str s,.int .i64 0,.int .i64 0,.int .i64 0,.str [],.int .i64 0,.int .i64 0,.str [],.int .i64 0,.str [],.str [],.nils]):=by kernel_rfl
theorem wholeP_lt {L:List Tk} (hT:TokOK L) {n i:Nat} {a:Tr} {j:Nat} (hi:i < L.length) (h:wholeP L n i=.ok a j):i≤j∧j < L.length:=by
  unfold wholeP at h
  obtain ⟨_,i1,r1,h⟩:=bind_ok h
  split at h
  · injection h with _ h
    subst h
    exact pz_lt hT _ _ _ _ _ _ hi r1
  · cases h
theorem exC_zT:exC zT=[.int .i64 0,.int .i64 0,.int .i64 0,.str [],.int .i64 0,.int .i64 0,.str [],.int .i64 0,.str [],.str [],.sl []]:=by unfold exC zT trV zV zK trVs;rfl
theorem ans_trigger {id:Nat} {L:List Tk} {i o:Nat} {RL:PV} (hR:RL.pure=true) (hi:i < L.length) (hT:TokOK L):ANS 46 [] id L RL i o tgV (triggerP L i):=by
  unfold triggerP
  cases f0:isT L 1 [99,104,97,110,103,101] i with
  | true=>
    simp only [if_true]
    have hi0:=isT_lt hT hi f0 (by decide)
    have h1:=ans_key (id:=id) (o:=o) (i:=(i+1)) hR hi0 hT
    cases r1:pathP L  (i+1) with
    | out=>exact ans_out
    | bad t e=>
      rw [r1] at h1
      obtain ⟨i',o',h1⟩:=h1
      refine ans_bad ⟨i',o',badx_of hR fun bx hid hc=>?_⟩
      have q0:=okc_use hid hc hR (okc_word_t (id:=id) (o:=o) hR hi hT _ f0)
      have t1:=badx_use hid hc hR h1
      rw [callL_enter (fn:=Try.f46) (c:=Try.f46.body.getD .skip) rfl rfl fat_parse_parser_trigger rfl ok_parse_parser_trigger (Nat.le_of_ble_eq_true rfl)]
      have pbp:pureL [PV.bp id 0]=false:=rfl
      unfold PSR
      obtain ⟨ev,eo,so,co,⟨hev,hco⟩,R⟩:=RULES CC;rw [← hev]
      rw [← hco] at q0 t1
      simp only [fpart,part',Try.f46,Option.getD]
      simp only [S9,R,seval,PY,PZ,pbp,dynR,q0,t1,SX,hid]
      exact ⟨_,rfl⟩
    | ok a1 i1=>
      rw [r1] at h1
      dsimp only [bind_okk]
      have j1:=pathP_lt hT hi0 r1
      have hj1:=j1.2.1
      refine ans_ok (okc_of hR (fun n=>by unfold tgV;simp only [SU]) fun bx hid hc=>?_)
      have q0:=okc_use hid hc hR (okc_word_t (id:=id) (o:=o) hR hi hT _ f0)
      have t1:=okc_use hid hc hR h1
      unfold kyP at t1
      unfold tgV
      try unfold zK
      try simp only [exC_zT]
      rw [callL_enter (fn:=Try.f46) (c:=Try.f46.body.getD .skip) rfl rfl fat_parse_parser_trigger rfl ok_parse_parser_trigger (Nat.le_of_ble_eq_true rfl)]
      have pbp:pureL [PV.bp id 0]=false:=rfl
      unfold PSR
      obtain ⟨ev,eo,so,co,⟨hev,hco⟩,R⟩:=RULES CC;rw [← hev]
      rw [← hco] at q0 t1
      simp only [fpart,part',Try.f46,Option.getD]
      simp only [S9,R,seval,PY,PZ,pbp,dynR,q0,t1,bTg1,SX,hid]
      exact ⟨_,rfl⟩
  | false=>
    simp only [Bool.false_eq_true,if_false]
    cases f1:isT L 1 [101,118,101,110,116] i with
    | true=>
      simp only [if_true]
      have hi1:=isT_lt hT hi f1 (by decide)
      have h1:=ans_path (id:=id) (o:=o) (i:=(i+1)) hR hi1 hT
      cases r1:pathP L  (i+1) with
      | out=>exact ans_out
      | bad t e=>
        rw [r1] at h1
        obtain ⟨i',o',h1⟩:=h1
        refine ans_bad ⟨i',o',badx_of hR fun bx hid hc=>?_⟩
        have q0:=okc_use hid hc hR (okc_word_f (id:=id) (o:=o) hR hi hT _ f0)
        have q1:=okc_use hid hc hR (okc_word_t (id:=id) (o:=o) hR hi hT _ f1)
        have t1:=badx_use hid hc hR h1
        rw [callL_enter (fn:=Try.f46) (c:=Try.f46.body.getD .skip) rfl rfl fat_parse_parser_trigger rfl ok_parse_parser_trigger (Nat.le_of_ble_eq_true rfl)]
        have pbp:pureL [PV.bp id 0]=false:=rfl
        unfold PSR
        obtain ⟨ev,eo,so,co,⟨hev,hco⟩,R⟩:=RULES CC;rw [← hev]
        rw [← hco] at q0 q1 t1
        simp only [fpart,part',Try.f46,Option.getD]
        simp only [S9,R,seval,PY,PZ,pbp,dynR,q0,q1,t1,SX,hid]
        exact ⟨_,rfl⟩
      | ok a1 i1=>
        rw [r1] at h1
        dsimp only [bind_okk]
        have j1:=pathP_lt hT hi1 r1
        have hj1:=j1.2.1
        refine ans_ok (okc_of hR (fun n=>by unfold tgV;simp only [SU]) fun bx hid hc=>?_)
        have q0:=okc_use hid hc hR (okc_word_f (id:=id) (o:=o) hR hi hT _ f0)
        have q1:=okc_use hid hc hR (okc_word_t (id:=id) (o:=o) hR hi hT _ f1)
        have t1:=okc_use hid hc hR h1
        unfold tgV
        try unfold zK
        try simp only [exC_zT]
        rw [callL_enter (fn:=Try.f46) (c:=Try.f46.body.getD .skip) rfl rfl fat_parse_parser_trigger rfl ok_parse_parser_trigger (Nat.le_of_ble_eq_true rfl)]
        have pbp:pureL [PV.bp id 0]=false:=rfl
        unfold PSR
        obtain ⟨ev,eo,so,co,⟨hev,hco⟩,R⟩:=RULES CC;rw [← hev]
        rw [← hco] at q0 q1 t1
        simp only [fpart,part',Try.f46,Option.getD]
        simp only [S9,R,seval,PY,PZ,pbp,dynR,q0,q1,t1,bTg2,bEv,SX,hid]
        exact ⟨_,rfl⟩
    | false=>
      simp only [Bool.false_eq_true,if_false]
      cases f2:isT L 1 [116,105,109,101] i with
      | true=>
        simp only [if_true]
        have hi2:=isT_lt hT hi f2 (by decide)
        have h1:=ans_clock (id:=id) (o:=o) (i:=(i+1)) hR hi2 hT
        cases r1:clockP L  (i+1) with
        | out=>exact ans_out
        | bad t e=>
          rw [r1] at h1
          obtain ⟨i',o',h1⟩:=h1
          refine ans_bad ⟨i',o',badx_of hR fun bx hid hc=>?_⟩
          have q0:=okc_use hid hc hR (okc_word_f (id:=id) (o:=o) hR hi hT _ f0)
          have q1:=okc_use hid hc hR (okc_word_f (id:=id) (o:=o) hR hi hT _ f1)
          have q2:=okc_use hid hc hR (okc_word_t (id:=id) (o:=o) hR hi hT _ f2)
          have t1:=badx_use hid hc hR h1
          rw [callL_enter (fn:=Try.f46) (c:=Try.f46.body.getD .skip) rfl rfl fat_parse_parser_trigger rfl ok_parse_parser_trigger (Nat.le_of_ble_eq_true rfl)]
          have pbp:pureL [PV.bp id 0]=false:=rfl
          unfold PSR
          obtain ⟨ev,eo,so,co,⟨hev,hco⟩,R⟩:=RULES CC;rw [← hev]
          rw [← hco] at q0 q1 q2 t1
          simp only [fpart,part',Try.f46,Option.getD]
          simp only [S9,R,seval,PY,PZ,pbp,dynR,q0,q1,q2,t1,SX,hid]
          exact ⟨_,rfl⟩
        | ok a1 i1=>
          rw [r1] at h1
          dsimp only [bind_okk]
          have j1:=clockP_lt hT hi2 r1
          have hj1:=j1.2.1
          cases f7:isT L 1 [100,97,121,115] i1 with
          | true=>
            simp only [if_true]
            have hi7:=isT_lt hT hj1 f7 (by decide)
            have h2:=ans_days (id:=id) (o:=o) (i:=(i1+1)) hR hi7 hT
            cases r2:daysP L  (i1+1) with
            | out=>exact ans_out
            | bad t e=>
              rw [r2] at h2
              obtain ⟨i',o',h2⟩:=h2
              refine ans_bad ⟨i',o',badx_of hR fun bx hid hc=>?_⟩
              have q0:=okc_use hid hc hR (okc_word_f (id:=id) (o:=o) hR hi hT _ f0)
              have q1:=okc_use hid hc hR (okc_word_f (id:=id) (o:=o) hR hi hT _ f1)
              have q2:=okc_use hid hc hR (okc_word_t (id:=id) (o:=o) hR hi hT _ f2)
              have t1:=okc_use hid hc hR h1
              have q7:=okc_use hid hc hR (okc_word_t (id:=id) (o:=o) hR hj1 hT _ f7)
              have t2:=badx_use hid hc hR h2
              rw [callL_enter (fn:=Try.f46) (c:=Try.f46.body.getD .skip) rfl rfl fat_parse_parser_trigger rfl ok_parse_parser_trigger (Nat.le_of_ble_eq_true rfl)]
              have pbp:pureL [PV.bp id 0]=false:=rfl
              unfold PSR
              obtain ⟨ev,eo,so,co,⟨hev,hco⟩,R⟩:=RULES CC;rw [← hev]
              rw [← hco] at q0 q1 q2 t1 q7 t2
              simp only [fpart,part',Try.f46,Option.getD]
              simp only [S9,R,seval,PY,PZ,pbp,dynR,q0,q1,q2,t1,q7,t2,bTg3,SX,hid]
              exact ⟨_,rfl⟩
            | ok a2 i2=>
              rw [r2] at h2
              dsimp only [bind_okk]
              have j2:=daysP_lt hT hi7 r2
              have hj2:=j2.2.1
              refine ans_ok (okc_of hR (fun n=>by unfold tgV;simp only [SU]) fun bx hid hc=>?_)
              have q0:=okc_use hid hc hR (okc_word_f (id:=id) (o:=o) hR hi hT _ f0)
              have q1:=okc_use hid hc hR (okc_word_f (id:=id) (o:=o) hR hi hT _ f1)
              have q2:=okc_use hid hc hR (okc_word_t (id:=id) (o:=o) hR hi hT _ f2)
              have t1:=okc_use hid hc hR h1
              have q7:=okc_use hid hc hR (okc_word_t (id:=id) (o:=o) hR hj1 hT _ f7)
              have t2:=okc_use hid hc hR h2
              unfold tgV
              try unfold zK
              try simp only [exC_zT]
              rw [callL_enter (fn:=Try.f46) (c:=Try.f46.body.getD .skip) rfl rfl fat_parse_parser_trigger rfl ok_parse_parser_trigger (Nat.le_of_ble_eq_true rfl)]
              have pbp:pureL [PV.bp id 0]=false:=rfl
              unfold PSR
              obtain ⟨ev,eo,so,co,⟨hev,hco⟩,R⟩:=RULES CC;rw [← hev]
              rw [← hco] at q0 q1 q2 t1 q7 t2
              simp only [fpart,part',Try.f46,Option.getD]
              simp only [S9,R,seval,PY,PZ,pbp,dynR,q0,q1,q2,t1,q7,t2,bTg3,SX,hid]
              exact ⟨_,rfl⟩
          | false=>
            simp only [Bool.false_eq_true,if_false]
            refine ans_ok (okc_of hR (fun n=>by unfold tgV;simp only [SU]) fun bx hid hc=>?_)
            have q0:=okc_use hid hc hR (okc_word_f (id:=id) (o:=o) hR hi hT _ f0)
            have q1:=okc_use hid hc hR (okc_word_f (id:=id) (o:=o) hR hi hT _ f1)
            have q2:=okc_use hid hc hR (okc_word_t (id:=id) (o:=o) hR hi hT _ f2)
            have t1:=okc_use hid hc hR h1
            have q7:=okc_use hid hc hR (okc_word_f (id:=id) (o:=o) hR hj1 hT _ f7)
            unfold tgV
            try unfold zK
            try simp only [exC_zT]
            rw [callL_enter (fn:=Try.f46) (c:=Try.f46.body.getD .skip) rfl rfl fat_parse_parser_trigger rfl ok_parse_parser_trigger (Nat.le_of_ble_eq_true rfl)]
            have pbp:pureL [PV.bp id 0]=false:=rfl
            unfold PSR
            obtain ⟨ev,eo,so,co,⟨hev,hco⟩,R⟩:=RULES CC;rw [← hev]
            rw [← hco] at q0 q1 q2 t1 q7
            simp only [fpart,part',Try.f46,Option.getD]
            simp only [S9,R,seval,PY,PZ,pbp,dynR,q0,q1,q2,t1,q7,bTg3,SX,hid]
            exact ⟨_,rfl⟩
      | false=>
        simp only [Bool.false_eq_true,if_false]
        cases f3:isT L 1 [109,111,100,101] i with
        | true=>
          simp only [if_true]
          have hi3:=isT_lt hT hi f3 (by decide)
          have k2:=natBne (tokAt L (i+1)).1 1
          by_cases hk:(tokAt L (i+1)).1=1
          · rw [if_pos hk]
            rw [beq_iff_eq.2 hk] at k2
            have k2:(((tokAt L (i+1)).1:Int) != 1)=false:=k2
            have h5:=ans_name (id:=id) (o:=o) (i:=(i+1)) hR hi3 hT
            cases r5:nameP L (i+1) with
            | out=>exact ans_out
            | bad t e=>
              rw [r5] at h5
              obtain ⟨i',o',h5⟩:=h5
              refine ans_bad ⟨i',o',badx_of hR fun bx hid hc=>?_⟩
              have q0:=okc_use hid hc hR (okc_word_f (id:=id) (o:=o) hR hi hT _ f0)
              have q1:=okc_use hid hc hR (okc_word_f (id:=id) (o:=o) hR hi hT _ f1)
              have q2:=okc_use hid hc hR (okc_word_f (id:=id) (o:=o) hR hi hT _ f2)
              have q3:=okc_use hid hc hR (okc_word_t (id:=id) (o:=o) hR hi hT _ f3)
              have tm:=okc_use hid hc hR (okc_token (id:=id) (o:=o) hR hi3)
              have t5:=badx_use hid hc hR h5
              rw [callL_enter (fn:=Try.f46) (c:=Try.f46.body.getD .skip) rfl rfl fat_parse_parser_trigger rfl ok_parse_parser_trigger (Nat.le_of_ble_eq_true rfl)]
              have pbp:pureL [PV.bp id 0]=false:=rfl
              unfold PSR
              obtain ⟨ev,eo,so,co,⟨hev,hco⟩,R⟩:=RULES CC;rw [← hev]
              rw [← hco] at q0 q1 q2 q3 tm t5
              simp only [fpart,part',Try.f46,Option.getD]
              simp only [S9,R,seval,PY,PZ,pbp,dynR,q0,q1,q2,q3,tm,t5,k2,SX,hid]
              exact ⟨_,rfl⟩
            | ok a5 i5=>
              rw [r5] at h5
              dsimp only [bind_okk]
              have j5:=nameP_lt hT hi3 r5
              have hj5:=j5.2
              refine ans_ok (okc_of hR (fun n=>by unfold tgV;simp only [SU]) fun bx hid hc=>?_)
              have q0:=okc_use hid hc hR (okc_word_f (id:=id) (o:=o) hR hi hT _ f0)
              have q1:=okc_use hid hc hR (okc_word_f (id:=id) (o:=o) hR hi hT _ f1)
              have q2:=okc_use hid hc hR (okc_word_f (id:=id) (o:=o) hR hi hT _ f2)
              have q3:=okc_use hid hc hR (okc_word_t (id:=id) (o:=o) hR hi hT _ f3)
              have tm:=okc_use hid hc hR (okc_token (id:=id) (o:=o) hR hi3)
              have t5:=okc_use hid hc hR h5
              unfold tgV
              try unfold zK
              try simp only [exC_zT]
              rw [callL_enter (fn:=Try.f46) (c:=Try.f46.body.getD .skip) rfl rfl fat_parse_parser_trigger rfl ok_parse_parser_trigger (Nat.le_of_ble_eq_true rfl)]
              have pbp:pureL [PV.bp id 0]=false:=rfl
              unfold PSR
              obtain ⟨ev,eo,so,co,⟨hev,hco⟩,R⟩:=RULES CC;rw [← hev]
              rw [← hco] at q0 q1 q2 q3 tm t5
              simp only [fpart,part',Try.f46,Option.getD]
              simp only [S9,R,seval,PY,PZ,pbp,dynR,q0,q1,q2,q3,tm,t5,k2,bTg4,SX,hid]
              exact ⟨_,rfl⟩
          · rw [if_neg hk]
            rw [beq_eq_false_iff_ne.2 hk] at k2
            have k2:(((tokAt L (i+1)).1:Int) != 1)=true:=k2
            refine ans_ok (okc_of hR (fun n=>by unfold tgV;simp only [SU]) fun bx hid hc=>?_)
            have q0:=okc_use hid hc hR (okc_word_f (id:=id) (o:=o) hR hi hT _ f0)
            have q1:=okc_use hid hc hR (okc_word_f (id:=id) (o:=o) hR hi hT _ f1)
            have q2:=okc_use hid hc hR (okc_word_f (id:=id) (o:=o) hR hi hT _ f2)
            have q3:=okc_use hid hc hR (okc_word_t (id:=id) (o:=o) hR hi hT _ f3)
            have tm:=okc_use hid hc hR (okc_token (id:=id) (o:=o) hR hi3)
            unfold tgV
            try unfold zK
            try simp only [exC_zT]
            rw [callL_enter (fn:=Try.f46) (c:=Try.f46.body.getD .skip) rfl rfl fat_parse_parser_trigger rfl ok_parse_parser_trigger (Nat.le_of_ble_eq_true rfl)]
            have pbp:pureL [PV.bp id 0]=false:=rfl
            unfold PSR
            obtain ⟨ev,eo,so,co,⟨hev,hco⟩,R⟩:=RULES CC;rw [← hev]
            rw [← hco] at q0 q1 q2 q3 tm
            simp only [fpart,part',Try.f46,Option.getD]
            simp only [S9,R,seval,PY,PZ,pbp,dynR,q0,q1,q2,q3,tm,k2,bTg,SX,hid]
            exact ⟨_,rfl⟩
        | false=>
          simp only [Bool.false_eq_true,if_false]
          cases f4:isT L 1 [115,116,97,114,116] i with
          | true=>
            simp only [if_true]
            have hi4:=isT_lt hT hi f4 (by decide)
            refine ans_ok (okc_of hR (fun n=>by unfold tgV;simp only [SU]) fun bx hid hc=>?_)
            have q0:=okc_use hid hc hR (okc_word_f (id:=id) (o:=o) hR hi hT _ f0)
            have q1:=okc_use hid hc hR (okc_word_f (id:=id) (o:=o) hR hi hT _ f1)
            have q2:=okc_use hid hc hR (okc_word_f (id:=id) (o:=o) hR hi hT _ f2)
            have q3:=okc_use hid hc hR (okc_word_f (id:=id) (o:=o) hR hi hT _ f3)
            have q4:=okc_use hid hc hR (okc_word_t (id:=id) (o:=o) hR hi hT _ f4)
            unfold tgV
            try unfold zK
            try simp only [exC_zT]
            rw [callL_enter (fn:=Try.f46) (c:=Try.f46.body.getD .skip) rfl rfl fat_parse_parser_trigger rfl ok_parse_parser_trigger (Nat.le_of_ble_eq_true rfl)]
            have pbp:pureL [PV.bp id 0]=false:=rfl
            unfold PSR
            obtain ⟨ev,eo,so,co,⟨hev,hco⟩,R⟩:=RULES CC;rw [← hev]
            rw [← hco] at q0 q1 q2 q3 q4
            simp only [fpart,part',Try.f46,Option.getD]
            simp only [S9,R,seval,PY,PZ,pbp,dynR,q0,q1,q2,q3,q4,bTg,SX,hid]
            exact ⟨_,rfl⟩
          | false=>
            simp only [Bool.false_eq_true,if_false]
            have h5:=ans_must (id:=id) (o:=o) (i:=i) hR hi hT 1 1 rfl [104,111,108,100]
            cases r5:mustP L 1 [104,111,108,100] i with
            | out=>exact ans_out
            | bad t e=>
              rw [r5] at h5
              obtain ⟨i',o',h5⟩:=h5
              refine ans_bad ⟨i',o',badx_of hR fun bx hid hc=>?_⟩
              have q0:=okc_use hid hc hR (okc_word_f (id:=id) (o:=o) hR hi hT _ f0)
              have q1:=okc_use hid hc hR (okc_word_f (id:=id) (o:=o) hR hi hT _ f1)
              have q2:=okc_use hid hc hR (okc_word_f (id:=id) (o:=o) hR hi hT _ f2)
              have q3:=okc_use hid hc hR (okc_word_f (id:=id) (o:=o) hR hi hT _ f3)
              have q4:=okc_use hid hc hR (okc_word_f (id:=id) (o:=o) hR hi hT _ f4)
              have t5:=badx_use hid hc hR h5
              rw [callL_enter (fn:=Try.f46) (c:=Try.f46.body.getD .skip) rfl rfl fat_parse_parser_trigger rfl ok_parse_parser_trigger (Nat.le_of_ble_eq_true rfl)]
              have pbp:pureL [PV.bp id 0]=false:=rfl
              unfold PSR
              obtain ⟨ev,eo,so,co,⟨hev,hco⟩,R⟩:=RULES CC;rw [← hev]
              rw [← hco] at q0 q1 q2 q3 q4 t5
              simp only [fpart,part',Try.f46,Option.getD]
              simp only [S9,R,seval,PY,PZ,pbp,dynR,q0,q1,q2,q3,q4,t5,SX,hid]
              exact ⟨_,rfl⟩
            | ok a5 i5=>
              rw [r5] at h5
              dsimp only [bind_okk]
              have j5:=mustP_lt hT hi (by decide) r5
              have hj5:=j5.2
              have h6:=ans_number (id:=id) (o:=o) (i:=i5) hR hj5 hT 0 1099511627776 0 1099511627776 rfl rfl
              cases r6:numP L 0 1099511627776 i5 with
              | out=>exact ans_out
              | bad t e=>
                rw [r6] at h6
                obtain ⟨i',o',h6⟩:=h6
                refine ans_bad ⟨i',o',badx_of hR fun bx hid hc=>?_⟩
                have q0:=okc_use hid hc hR (okc_word_f (id:=id) (o:=o) hR hi hT _ f0)
                have q1:=okc_use hid hc hR (okc_word_f (id:=id) (o:=o) hR hi hT _ f1)
                have q2:=okc_use hid hc hR (okc_word_f (id:=id) (o:=o) hR hi hT _ f2)
                have q3:=okc_use hid hc hR (okc_word_f (id:=id) (o:=o) hR hi hT _ f3)
                have q4:=okc_use hid hc hR (okc_word_f (id:=id) (o:=o) hR hi hT _ f4)
                have t5:=okc_use hid hc hR h5
                have t6:=badx_use hid hc hR h6
                rw [callL_enter (fn:=Try.f46) (c:=Try.f46.body.getD .skip) rfl rfl fat_parse_parser_trigger rfl ok_parse_parser_trigger (Nat.le_of_ble_eq_true rfl)]
                have pbp:pureL [PV.bp id 0]=false:=rfl
                unfold PSR
                obtain ⟨ev,eo,so,co,⟨hev,hco⟩,R⟩:=RULES CC;rw [← hev]
                rw [← hco] at q0 q1 q2 q3 q4 t5 t6
                simp only [fpart,part',Try.f46,Option.getD]
                simp only [S9,R,seval,PY,PZ,pbp,dynR,q0,q1,q2,q3,q4,t5,t6,SX,hid]
                exact ⟨_,rfl⟩
              | ok a6 i6=>
                rw [r6] at h6
                dsimp only [bind_okk]
                have j6:=numP_lt hT hj5 r6
                have hj6:=j6.2.1
                refine ans_ok (okc_of hR (fun n=>by unfold tgV;simp only [SU]) fun bx hid hc=>?_)
                have q0:=okc_use hid hc hR (okc_word_f (id:=id) (o:=o) hR hi hT _ f0)
                have q1:=okc_use hid hc hR (okc_word_f (id:=id) (o:=o) hR hi hT _ f1)
                have q2:=okc_use hid hc hR (okc_word_f (id:=id) (o:=o) hR hi hT _ f2)
                have q3:=okc_use hid hc hR (okc_word_f (id:=id) (o:=o) hR hi hT _ f3)
                have q4:=okc_use hid hc hR (okc_word_f (id:=id) (o:=o) hR hi hT _ f4)
                have t5:=okc_use hid hc hR h5
                have t6:=okc_use hid hc hR h6
                unfold tgV
                try unfold zK
                try simp only [exC_zT]
                rw [callL_enter (fn:=Try.f46) (c:=Try.f46.body.getD .skip) rfl rfl fat_parse_parser_trigger rfl ok_parse_parser_trigger (Nat.le_of_ble_eq_true rfl)]
                have pbp:pureL [PV.bp id 0]=false:=rfl
                unfold PSR
                obtain ⟨ev,eo,so,co,⟨hev,hco⟩,R⟩:=RULES CC;rw [← hev]
                rw [← hco] at q0 q1 q2 q3 q4 t5 t6
                simp only [fpart,part',Try.f46,Option.getD]
                simp only [S9,R,seval,PY,PZ,pbp,dynR,q0,q1,q2,q3,q4,t5,t6,bTg6,SX,hid]
                exact ⟨_,rfl⟩
theorem ans_step {id:Nat} {L:List Tk} {i o:Nat} {RL:PV} (hR:RL.pure=true) (hi:i < L.length) (hT:TokOK L) (n:Nat) (ho:o=0):ANS 48 [] id L RL i o spV (stepP L n i):=by
  unfold stepP
  cases f0:isT L 1 [115,101,116] i with
  | true=>
    simp only [if_true]
    have hi0:=isT_lt hT hi f0 (by decide)
    have h1:=ans_key (id:=id) (o:=o) (i:=(i+1)) hR hi0 hT
    cases r1:pathP L  (i+1) with
    | out=>exact ans_out
    | bad t e=>
      rw [r1] at h1
      obtain ⟨i',o',h1⟩:=h1
      refine ans_bad ⟨i',o',badx_of hR fun bx hid hc=>?_⟩
      have q0:=okc_use hid hc hR (okc_word_t (id:=id) (o:=o) hR hi hT _ f0)
      have t1:=badx_use hid hc hR h1
      rw [callL_enter (fn:=Try.f48) (c:=Try.f48.body.getD .skip) rfl rfl fat_parse_parser_step rfl ok_parse_parser_step (Nat.le_of_ble_eq_true rfl)]
      have pbp:pureL [PV.bp id 0]=false:=rfl
      unfold PSR
      obtain ⟨ev,eo,so,co,⟨hev,hco⟩,R⟩:=RULES CC;rw [← hev]
      rw [← hco] at q0 t1
      simp only [fpart,part',Try.f48,Option.getD]
      simp only [S9,R,seval,PY,PZ,pbp,dynR,q0,t1,bSp1,SX,hid]
      exact ⟨_,rfl⟩
    | ok a1 i1=>
      rw [r1] at h1
      dsimp only [bind_okk]
      have j1:=pathP_lt hT hi0 r1
      have hj1:=j1.2.1
      have h2:=ans_must (id:=id) (o:=o) (i:=i1) hR hj1 hT 4 4 rfl [61]
      cases r2:mustP L 4 [61] i1 with
      | out=>exact ans_out
      | bad t e=>
        rw [r2] at h2
        obtain ⟨i',o',h2⟩:=h2
        refine ans_bad ⟨i',o',badx_of hR fun bx hid hc=>?_⟩
        have q0:=okc_use hid hc hR (okc_word_t (id:=id) (o:=o) hR hi hT _ f0)
        have t1:=okc_use hid hc hR h1
        unfold kyP at t1
        have t2:=badx_use hid hc hR h2
        rw [callL_enter (fn:=Try.f48) (c:=Try.f48.body.getD .skip) rfl rfl fat_parse_parser_step rfl ok_parse_parser_step (Nat.le_of_ble_eq_true rfl)]
        have pbp:pureL [PV.bp id 0]=false:=rfl
        unfold PSR
        obtain ⟨ev,eo,so,co,⟨hev,hco⟩,R⟩:=RULES CC;rw [← hev]
        rw [← hco] at q0 t1 t2
        simp only [fpart,part',Try.f48,Option.getD]
        simp only [S9,R,seval,PY,PZ,pbp,dynR,q0,t1,t2,bSp1,SX,hid]
        exact ⟨_,rfl⟩
      | ok a2 i2=>
        rw [r2] at h2
        dsimp only [bind_okk]
        have j2:=mustP_lt hT hj1 (by decide) r2
        have hj2:=j2.2
        have h3:=ans_whole (id:=id) (i:=i2) hR hT hj2 n o ho
        cases r3:wholeP L n i2 with
        | out=>exact ans_out
        | bad t e=>
          rw [r3] at h3
          obtain ⟨i',o',h3⟩:=h3
          refine ans_bad ⟨i',o',badx_of hR fun bx hid hc=>?_⟩
          have q0:=okc_use hid hc hR (okc_word_t (id:=id) (o:=o) hR hi hT _ f0)
          have t1:=okc_use hid hc hR h1
          unfold kyP at t1
          have t2:=okc_use hid hc hR h2
          have t3:=badx_use hid hc hR h3
          rw [callL_enter (fn:=Try.f48) (c:=Try.f48.body.getD .skip) rfl rfl fat_parse_parser_step rfl ok_parse_parser_step (Nat.le_of_ble_eq_true rfl)]
          have pbp:pureL [PV.bp id 0]=false:=rfl
          unfold PSR
          obtain ⟨ev,eo,so,co,⟨hev,hco⟩,R⟩:=RULES CC;rw [← hev]
          rw [← hco] at q0 t1 t2 t3
          simp only [fpart,part',Try.f48,Option.getD]
          simp only [S9,R,seval,PY,PZ,pbp,dynR,q0,t1,t2,t3,bSp1,SX,hid]
          exact ⟨_,rfl⟩
        | ok a3 i3=>
          rw [r3] at h3
          dsimp only [bind_okk]
          have j3:=wholeP_lt hT hj2 r3
          have hj3:=j3.2
          refine ans_ok (okc_of hR (fun n=>by unfold spV spC;simp [PV.under,underL,SX]) fun bx hid hc=>?_)
          have q0:=okc_use hid hc hR (okc_word_t (id:=id) (o:=o) hR hi hT _ f0)
          have t1:=okc_use hid hc hR h1
          unfold kyP at t1
          have t2:=okc_use hid hc hR h2
          have t3:=okc_use hid hc hR h3
          rw [trV_exC] at t3
          unfold spV spC
          try unfold zK
          try simp only [exC_zT]
          rw [callL_enter (fn:=Try.f48) (c:=Try.f48.body.getD .skip) rfl rfl fat_parse_parser_step rfl ok_parse_parser_step (Nat.le_of_ble_eq_true rfl)]
          have pbp:pureL [PV.bp id 0]=false:=rfl
          unfold PSR
          obtain ⟨ev,eo,so,co,⟨hev,hco⟩,R⟩:=RULES CC;rw [← hev]
          rw [← hco] at q0 t1 t2 t3
          simp only [fpart,part',Try.f48,Option.getD]
          simp only [S9,R,seval,PY,PZ,pbp,dynR,q0,t1,t2,t3,bSp1,SX,hid]
          exact ⟨_,rfl⟩
  | false=>
    simp only [Bool.false_eq_true,if_false]
    cases f1:isT L 1 [99,97,108,108] i with
    | true=>
      simp only [if_true]
      have hi1:=isT_lt hT hi f1 (by decide)
      have h1:=ans_path (id:=id) (o:=o) (i:=(i+1)) hR hi1 hT
      cases r1:pathP L  (i+1) with
      | out=>exact ans_out
      | bad t e=>
        rw [r1] at h1
        obtain ⟨i',o',h1⟩:=h1
        refine ans_bad ⟨i',o',badx_of hR fun bx hid hc=>?_⟩
        have q0:=okc_use hid hc hR (okc_word_f (id:=id) (o:=o) hR hi hT _ f0)
        have q1:=okc_use hid hc hR (okc_word_t (id:=id) (o:=o) hR hi hT _ f1)
        have t1:=badx_use hid hc hR h1
        rw [callL_enter (fn:=Try.f48) (c:=Try.f48.body.getD .skip) rfl rfl fat_parse_parser_step rfl ok_parse_parser_step (Nat.le_of_ble_eq_true rfl)]
        have pbp:pureL [PV.bp id 0]=false:=rfl
        unfold PSR
        obtain ⟨ev,eo,so,co,⟨hev,hco⟩,R⟩:=RULES CC;rw [← hev]
        rw [← hco] at q0 q1 t1
        simp only [fpart,part',Try.f48,Option.getD]
        simp only [S9,R,seval,PY,PZ,pbp,dynR,q0,q1,t1,SX,hid]
        exact ⟨_,rfl⟩
      | ok a1 i1=>
        rw [r1] at h1
        dsimp only [bind_okk]
        have j1:=pathP_lt hT hi1 r1
        have hj1:=j1.2.1
        cases f7:isT L 4 [40] i1 with
        | true=>
          simp only [if_true]
          have hi7:=isT_lt hT hj1 f7 (by decide)
          have h2:=ans_whole (id:=id) (i:=(i1+1)) hR hT hi7 n o ho
          cases r2:wholeP L n (i1+1) with
          | out=>exact ans_out
          | bad t e=>
            rw [r2] at h2
            obtain ⟨i',o',h2⟩:=h2
            refine ans_bad ⟨i',o',badx_of hR fun bx hid hc=>?_⟩
            have q0:=okc_use hid hc hR (okc_word_f (id:=id) (o:=o) hR hi hT _ f0)
            have q1:=okc_use hid hc hR (okc_word_t (id:=id) (o:=o) hR hi hT _ f1)
            have t1:=okc_use hid hc hR h1
            have q7:=okc_use hid hc hR (okc_op_t (id:=id) (o:=o) hR hj1 hT _ f7)
            have t2:=badx_use hid hc hR h2
            rw [callL_enter (fn:=Try.f48) (c:=Try.f48.body.getD .skip) rfl rfl fat_parse_parser_step rfl ok_parse_parser_step (Nat.le_of_ble_eq_true rfl)]
            have pbp:pureL [PV.bp id 0]=false:=rfl
            unfold PSR
            obtain ⟨ev,eo,so,co,⟨hev,hco⟩,R⟩:=RULES CC;rw [← hev]
            rw [← hco] at q0 q1 t1 q7 t2
            simp only [fpart,part',Try.f48,Option.getD]
            simp only [S9,R,seval,PY,PZ,pbp,dynR,q0,q1,t1,q7,t2,bSp2,bKy2,SX,hid]
            exact ⟨_,rfl⟩
          | ok a2 i2=>
            rw [r2] at h2
            dsimp only [bind_okk]
            have j2:=wholeP_lt hT hi7 r2
            have hj2:=j2.2
            have h3:=ans_must (id:=id) (o:=o) (i:=i2) hR hj2 hT 4 4 rfl [41]
            cases r3:mustP L 4 [41] i2 with
            | out=>exact ans_out
            | bad t e=>
              rw [r3] at h3
              obtain ⟨i',o',h3⟩:=h3
              refine ans_bad ⟨i',o',badx_of hR fun bx hid hc=>?_⟩
              have q0:=okc_use hid hc hR (okc_word_f (id:=id) (o:=o) hR hi hT _ f0)
              have q1:=okc_use hid hc hR (okc_word_t (id:=id) (o:=o) hR hi hT _ f1)
              have t1:=okc_use hid hc hR h1
              have q7:=okc_use hid hc hR (okc_op_t (id:=id) (o:=o) hR hj1 hT _ f7)
              have t2:=okc_use hid hc hR h2
              rw [trV_exC] at t2
              have t3:=badx_use hid hc hR h3
              rw [callL_enter (fn:=Try.f48) (c:=Try.f48.body.getD .skip) rfl rfl fat_parse_parser_step rfl ok_parse_parser_step (Nat.le_of_ble_eq_true rfl)]
              have pbp:pureL [PV.bp id 0]=false:=rfl
              unfold PSR
              obtain ⟨ev,eo,so,co,⟨hev,hco⟩,R⟩:=RULES CC;rw [← hev]
              rw [← hco] at q0 q1 t1 q7 t2 t3
              simp only [fpart,part',Try.f48,Option.getD]
              simp only [S9,R,seval,PY,PZ,pbp,dynR,q0,q1,t1,q7,t2,t3,bSp2,bKy2,SX,hid]
              exact ⟨_,rfl⟩
            | ok a3 i3=>
              rw [r3] at h3
              dsimp only [bind_okk]
              have j3:=mustP_lt hT hj2 (by decide) r3
              have hj3:=j3.2
              refine ans_ok (okc_of hR (fun n=>by unfold spV spC;simp [PV.under,underL,SX]) fun bx hid hc=>?_)
              have q0:=okc_use hid hc hR (okc_word_f (id:=id) (o:=o) hR hi hT _ f0)
              have q1:=okc_use hid hc hR (okc_word_t (id:=id) (o:=o) hR hi hT _ f1)
              have t1:=okc_use hid hc hR h1
              have q7:=okc_use hid hc hR (okc_op_t (id:=id) (o:=o) hR hj1 hT _ f7)
              have t2:=okc_use hid hc hR h2
              rw [trV_exC] at t2
              have t3:=okc_use hid hc hR h3
              unfold spV spC
              try unfold zK
              try simp only [exC_zT]
              rw [callL_enter (fn:=Try.f48) (c:=Try.f48.body.getD .skip) rfl rfl fat_parse_parser_step rfl ok_parse_parser_step (Nat.le_of_ble_eq_true rfl)]
              have pbp:pureL [PV.bp id 0]=false:=rfl
              unfold PSR
              obtain ⟨ev,eo,so,co,⟨hev,hco⟩,R⟩:=RULES CC;rw [← hev]
              rw [← hco] at q0 q1 t1 q7 t2 t3
              simp only [fpart,part',Try.f48,Option.getD]
              simp only [S9,R,seval,PY,PZ,pbp,dynR,q0,q1,t1,q7,t2,t3,bSp2,bKy2,SX,hid]
              exact ⟨_,rfl⟩
        | false=>
          simp only [Bool.false_eq_true,if_false]
          refine ans_ok (okc_of hR (fun n=>by unfold spV spC;simp [PV.under,underL,SX]) fun bx hid hc=>?_)
          have q0:=okc_use hid hc hR (okc_word_f (id:=id) (o:=o) hR hi hT _ f0)
          have q1:=okc_use hid hc hR (okc_word_t (id:=id) (o:=o) hR hi hT _ f1)
          have t1:=okc_use hid hc hR h1
          have q7:=okc_use hid hc hR (okc_op_f (id:=id) (o:=o) hR hj1 hT _ f7)
          unfold spV spC
          try unfold zK
          try simp only [exC_zT]
          rw [callL_enter (fn:=Try.f48) (c:=Try.f48.body.getD .skip) rfl rfl fat_parse_parser_step rfl ok_parse_parser_step (Nat.le_of_ble_eq_true rfl)]
          have pbp:pureL [PV.bp id 0]=false:=rfl
          unfold PSR
          obtain ⟨ev,eo,so,co,⟨hev,hco⟩,R⟩:=RULES CC;rw [← hev]
          rw [← hco] at q0 q1 t1 q7
          simp only [fpart,part',Try.f48,Option.getD]
          simp only [S9,R,seval,PY,PZ,pbp,dynR,q0,q1,t1,q7,bSp2,bKy2,SX,hid]
          exact ⟨_,rfl⟩
    | false=>
      simp only [Bool.false_eq_true,if_false]
      cases f2:isT L 1 [115,99,101,110,101] i with
      | true=>
        simp only [if_true]
        have hi2:=isT_lt hT hi f2 (by decide)
        have h1:=ans_name (id:=id) (o:=o) (i:=(i+1)) hR hi2 hT
        cases r1:nameP L (i+1) with
        | out=>exact ans_out
        | bad t e=>
          rw [r1] at h1
          obtain ⟨i',o',h1⟩:=h1
          refine ans_bad ⟨i',o',badx_of hR fun bx hid hc=>?_⟩
          have q0:=okc_use hid hc hR (okc_word_f (id:=id) (o:=o) hR hi hT _ f0)
          have q1:=okc_use hid hc hR (okc_word_f (id:=id) (o:=o) hR hi hT _ f1)
          have q2:=okc_use hid hc hR (okc_word_t (id:=id) (o:=o) hR hi hT _ f2)
          have t1:=badx_use hid hc hR h1
          rw [callL_enter (fn:=Try.f48) (c:=Try.f48.body.getD .skip) rfl rfl fat_parse_parser_step rfl ok_parse_parser_step (Nat.le_of_ble_eq_true rfl)]
          have pbp:pureL [PV.bp id 0]=false:=rfl
          unfold PSR
          obtain ⟨ev,eo,so,co,⟨hev,hco⟩,R⟩:=RULES CC;rw [← hev]
          rw [← hco] at q0 q1 q2 t1
          simp only [fpart,part',Try.f48,Option.getD]
          simp only [S9,R,seval,PY,PZ,pbp,dynR,q0,q1,q2,t1,SX,hid]
          exact ⟨_,rfl⟩
        | ok a1 i1=>
          rw [r1] at h1
          dsimp only [bind_okk]
          have j1:=nameP_lt hT hi2 r1
          have hj1:=j1.2
          refine ans_ok (okc_of hR (fun n=>by unfold spV spC;simp [PV.under,underL,SX]) fun bx hid hc=>?_)
          have q0:=okc_use hid hc hR (okc_word_f (id:=id) (o:=o) hR hi hT _ f0)
          have q1:=okc_use hid hc hR (okc_word_f (id:=id) (o:=o) hR hi hT _ f1)
          have q2:=okc_use hid hc hR (okc_word_t (id:=id) (o:=o) hR hi hT _ f2)
          have t1:=okc_use hid hc hR h1
          unfold spV spC
          try unfold zK
          try simp only [exC_zT]
          rw [callL_enter (fn:=Try.f48) (c:=Try.f48.body.getD .skip) rfl rfl fat_parse_parser_step rfl ok_parse_parser_step (Nat.le_of_ble_eq_true rfl)]
          have pbp:pureL [PV.bp id 0]=false:=rfl
          unfold PSR
          obtain ⟨ev,eo,so,co,⟨hev,hco⟩,R⟩:=RULES CC;rw [← hev]
          rw [← hco] at q0 q1 q2 t1
          simp only [fpart,part',Try.f48,Option.getD]
          simp only [S9,R,seval,PY,PZ,pbp,dynR,q0,q1,q2,t1,bSp,SX,hid]
          exact ⟨_,rfl⟩
      | false=>
        simp only [Bool.false_eq_true,if_false]
        cases f3:isT L 1 [109,111,100,101] i with
        | true=>
          simp only [if_true]
          have hi3:=isT_lt hT hi f3 (by decide)
          have h1:=ans_name (id:=id) (o:=o) (i:=(i+1)) hR hi3 hT
          cases r1:nameP L (i+1) with
          | out=>exact ans_out
          | bad t e=>
            rw [r1] at h1
            obtain ⟨i',o',h1⟩:=h1
            refine ans_bad ⟨i',o',badx_of hR fun bx hid hc=>?_⟩
            have q0:=okc_use hid hc hR (okc_word_f (id:=id) (o:=o) hR hi hT _ f0)
            have q1:=okc_use hid hc hR (okc_word_f (id:=id) (o:=o) hR hi hT _ f1)
            have q2:=okc_use hid hc hR (okc_word_f (id:=id) (o:=o) hR hi hT _ f2)
            have q3:=okc_use hid hc hR (okc_word_t (id:=id) (o:=o) hR hi hT _ f3)
            have t1:=badx_use hid hc hR h1
            rw [callL_enter (fn:=Try.f48) (c:=Try.f48.body.getD .skip) rfl rfl fat_parse_parser_step rfl ok_parse_parser_step (Nat.le_of_ble_eq_true rfl)]
            have pbp:pureL [PV.bp id 0]=false:=rfl
            unfold PSR
            obtain ⟨ev,eo,so,co,⟨hev,hco⟩,R⟩:=RULES CC;rw [← hev]
            rw [← hco] at q0 q1 q2 q3 t1
            simp only [fpart,part',Try.f48,Option.getD]
            simp only [S9,R,seval,PY,PZ,pbp,dynR,q0,q1,q2,q3,t1,SX,hid]
            exact ⟨_,rfl⟩
          | ok a1 i1=>
            rw [r1] at h1
            dsimp only [bind_okk]
            have j1:=nameP_lt hT hi3 r1
            have hj1:=j1.2
            refine ans_ok (okc_of hR (fun n=>by unfold spV spC;simp [PV.under,underL,SX]) fun bx hid hc=>?_)
            have q0:=okc_use hid hc hR (okc_word_f (id:=id) (o:=o) hR hi hT _ f0)
            have q1:=okc_use hid hc hR (okc_word_f (id:=id) (o:=o) hR hi hT _ f1)
            have q2:=okc_use hid hc hR (okc_word_f (id:=id) (o:=o) hR hi hT _ f2)
            have q3:=okc_use hid hc hR (okc_word_t (id:=id) (o:=o) hR hi hT _ f3)
            have t1:=okc_use hid hc hR h1
            unfold spV spC
            try unfold zK
            try simp only [exC_zT]
            rw [callL_enter (fn:=Try.f48) (c:=Try.f48.body.getD .skip) rfl rfl fat_parse_parser_step rfl ok_parse_parser_step (Nat.le_of_ble_eq_true rfl)]
            have pbp:pureL [PV.bp id 0]=false:=rfl
            unfold PSR
            obtain ⟨ev,eo,so,co,⟨hev,hco⟩,R⟩:=RULES CC;rw [← hev]
            rw [← hco] at q0 q1 q2 q3 t1
            simp only [fpart,part',Try.f48,Option.getD]
            simp only [S9,R,seval,PY,PZ,pbp,dynR,q0,q1,q2,q3,t1,bSp,SX,hid]
            exact ⟨_,rfl⟩
        | false=>
          simp only [Bool.false_eq_true,if_false]
          have h5:=ans_must (id:=id) (o:=o) (i:=i) hR hi hT 1 1 rfl [110,111,116,105,102,121]
          cases r5:mustP L 1 [110,111,116,105,102,121] i with
          | out=>exact ans_out
          | bad t e=>
            rw [r5] at h5
            obtain ⟨i',o',h5⟩:=h5
            refine ans_bad ⟨i',o',badx_of hR fun bx hid hc=>?_⟩
            have q0:=okc_use hid hc hR (okc_word_f (id:=id) (o:=o) hR hi hT _ f0)
            have q1:=okc_use hid hc hR (okc_word_f (id:=id) (o:=o) hR hi hT _ f1)
            have q2:=okc_use hid hc hR (okc_word_f (id:=id) (o:=o) hR hi hT _ f2)
            have q3:=okc_use hid hc hR (okc_word_f (id:=id) (o:=o) hR hi hT _ f3)
            have t5:=badx_use hid hc hR h5
            rw [callL_enter (fn:=Try.f48) (c:=Try.f48.body.getD .skip) rfl rfl fat_parse_parser_step rfl ok_parse_parser_step (Nat.le_of_ble_eq_true rfl)]
            have pbp:pureL [PV.bp id 0]=false:=rfl
            unfold PSR
            obtain ⟨ev,eo,so,co,⟨hev,hco⟩,R⟩:=RULES CC;rw [← hev]
            rw [← hco] at q0 q1 q2 q3 t5
            simp only [fpart,part',Try.f48,Option.getD]
            simp only [S9,R,seval,PY,PZ,pbp,dynR,q0,q1,q2,q3,t5,SX,hid]
            exact ⟨_,rfl⟩
          | ok a5 i5=>
            rw [r5] at h5
            dsimp only [bind_okk]
            have j5:=mustP_lt hT hi (by decide) r5
            have hj5:=j5.2
            have h6:=ans_one (id:=id) (o:=o) (i:=i5) hR hj5 hT 3 3 rfl
            cases r6:oneP L 3 i5 with
            | out=>exact ans_out
            | bad t e=>
              rw [r6] at h6
              obtain ⟨i',o',h6⟩:=h6
              refine ans_bad ⟨i',o',badx_of hR fun bx hid hc=>?_⟩
              have q0:=okc_use hid hc hR (okc_word_f (id:=id) (o:=o) hR hi hT _ f0)
              have q1:=okc_use hid hc hR (okc_word_f (id:=id) (o:=o) hR hi hT _ f1)
              have q2:=okc_use hid hc hR (okc_word_f (id:=id) (o:=o) hR hi hT _ f2)
              have q3:=okc_use hid hc hR (okc_word_f (id:=id) (o:=o) hR hi hT _ f3)
              have t5:=okc_use hid hc hR h5
              have t6:=badx_use hid hc hR h6
              rw [callL_enter (fn:=Try.f48) (c:=Try.f48.body.getD .skip) rfl rfl fat_parse_parser_step rfl ok_parse_parser_step (Nat.le_of_ble_eq_true rfl)]
              have pbp:pureL [PV.bp id 0]=false:=rfl
              unfold PSR
              obtain ⟨ev,eo,so,co,⟨hev,hco⟩,R⟩:=RULES CC;rw [← hev]
              rw [← hco] at q0 q1 q2 q3 t5 t6
              simp only [fpart,part',Try.f48,Option.getD]
              simp only [S9,R,seval,PY,PZ,pbp,dynR,q0,q1,q2,q3,t5,t6,SX,hid]
              exact ⟨_,rfl⟩
            | ok a6 i6=>
              rw [r6] at h6
              dsimp only [bind_okk]
              have j6:=oneP_lt hT hj5 (by decide) r6
              have hj6:=j6.2
              refine ans_ok (okc_of hR (fun n=>by unfold spV spC;simp [PV.under,underL,SX]) fun bx hid hc=>?_)
              have q0:=okc_use hid hc hR (okc_word_f (id:=id) (o:=o) hR hi hT _ f0)
              have q1:=okc_use hid hc hR (okc_word_f (id:=id) (o:=o) hR hi hT _ f1)
              have q2:=okc_use hid hc hR (okc_word_f (id:=id) (o:=o) hR hi hT _ f2)
              have q3:=okc_use hid hc hR (okc_word_f (id:=id) (o:=o) hR hi hT _ f3)
              have t5:=okc_use hid hc hR h5
              have t6:=okc_use hid hc hR h6
              unfold tkV at t6
              unfold spV spC
              try unfold zK
              try simp only [exC_zT]
              rw [callL_enter (fn:=Try.f48) (c:=Try.f48.body.getD .skip) rfl rfl fat_parse_parser_step rfl ok_parse_parser_step (Nat.le_of_ble_eq_true rfl)]
              have pbp:pureL [PV.bp id 0]=false:=rfl
              unfold PSR
              obtain ⟨ev,eo,so,co,⟨hev,hco⟩,R⟩:=RULES CC;rw [← hev]
              rw [← hco] at q0 q1 q2 q3 t5 t6
              simp only [fpart,part',Try.f48,Option.getD]
              simp only [S9,R,seval,PY,PZ,pbp,dynR,q0,q1,q2,q3,t5,t6,bSp,SX,hid]
              exact ⟨_,rfl⟩
end Go.HH
namespace Go.HH
open Go Go.Proofs
set_option maxRecDepth 100000
set_option maxHeartbeats 4000000
set_option linter.unusedSimpArgs false
set_option linter.unusedVariables false
theorem okB_parse_parser_rule_1:fnOKB CC Try.f45 (Try.f45.body.getD .skip)=true:=by kernel_rfl
theorem noB_parse_parser_rule_1:fnOK CC Try.f45 (Try.f45.body.getD .skip)=false:=by kernel_rfl
theorem fatB_parse_parser_rule_1:CC.P.funcs[45]?=some Try.f45:=by kernel_rfl
theorem okB_parse_parser_rule_2:fnOKB CC Try.f47 (Try.f47.body.getD .skip)=true:=by kernel_rfl
theorem noB_parse_parser_rule_2:fnOK CC Try.f47 (Try.f47.body.getD .skip)=false:=by kernel_rfl
theorem fatB_parse_parser_rule_2:CC.P.funcs[47]?=some Try.f47:=by kernel_rfl
theorem BX_take {bx:List PBox} {id:Nat} {P:PBox} {ys:List PBox} (k:Nat):(BX bx id P ys).take (bx.length+k)=BX bx id P (ys.take k):=by
  unfold BX
  rw [List.take_append,List.take_of_length_le (by simp),List.length_set,Nat.add_sub_cancel_left]
theorem BX_drop {bx:List PBox} {id:Nat} {P:PBox} {ys:List PBox} (k:Nat):(BX bx id P ys).drop (bx.length+k)=ys.drop k:=by
  unfold BX
  rw [List.drop_append,List.drop_of_length_le (by simp),List.length_set,Nat.add_sub_cancel_left,List.nil_append]
theorem BX_cat {bx:List PBox} {id:Nat} {P:PBox} {ys zs:List PBox}:BX bx id P ys++zs=BX bx id P (ys++zs):=by
  unfold BX
  rw [List.append_assoc]
theorem cut_ret {co:FuncId→List PV→List PBox→Option (CR×List PBox)} {k:FuncId} {vs:List PV} {bx:List PBox} {id:Nat} {P P':PBox} {v:PV} (tys:Array TypeId) (a b:PBox) (zs:List PBox) (t x:Nat) (d:Option Tmp) (e:List PV) (ht:tys.toList.any (ptrT CC)=true) (hk:pureL vs=false) (hu:underL (bx.length+2) vs=true) (hc:clB bx) (hP:P.under bx.length=true) (hP':P'.under bx.length=true) (hab:([a,b].all fun y=>y.under (bx.length+2))=true) (hv:v.under (bx.length+2)=true) (h:co k vs (BX bx id P [a,b])=some (.ret v,BX bx id P' [a,b])) :
    callC CC co tys k vs d [(t,.box (bx.length+2) x)] ⟨e,BX bx id P (a :: b :: zs)⟩=some (.next ((St.mk e (BX bx id P' (a :: b :: zs))).put d v) (killT [(t,.box (bx.length+2) x)] d)):=by
  rw [callC_cut CC co tys k vs d _ _ (bx.length+2) ht rfl (by rw [hk];simp) hu (by rw [BX_take];have:=clB_BX (id:=id) (P:=P) (ys:=[a,b]) hc hP hab;unfold clB at this;rw [BX_len] at this;exact this),BX_take]
  rw [show (a :: b :: zs).take 2=[a,b] from rfl,h]
  rw [cutRes_ret v _ _ _ _ _ _ (by rw [BX_len] <;> rfl) hv (by have:=clB_BX (id:=id) (P:=P') (ys:=[a,b]) hc hP' hab;unfold clB at this;rw [BX_len] at this;exact this)]
  rw [BX_drop,BX_cat]
  rfl
theorem cut_pan {co:FuncId→List PV→List PBox→Option (CR×List PBox)} {k:FuncId} {vs:List PV} {bx:List PBox} {id:Nat} {P P':PBox} {v:PV} (tys:Array TypeId) (a b:PBox) (zs:List PBox) (t x:Nat) (d:Option Tmp) (e:List PV) (ht:tys.toList.any (ptrT CC)=true) (hk:pureL vs=false) (hu:underL (bx.length+2) vs=true) (hc:clB bx) (hP:P.under bx.length=true) (hP':P'.under bx.length=true) (hab:([a,b].all fun y=>y.under (bx.length+2))=true) (hv:v.under (bx.length+2)=true) (h:co k vs (BX bx id P [a,b])=some (.pan v,BX bx id P' [a,b])) :
    callC CC co tys k vs d [(t,.box (bx.length+2) x)] ⟨e,BX bx id P (a :: b :: zs)⟩=some (.pan v ⟨e,BX bx id P' (a :: b :: zs)⟩):=by
  rw [callC_cut CC co tys k vs d _ _ (bx.length+2) ht rfl (by rw [hk];simp) hu (by rw [BX_take];have:=clB_BX (id:=id) (P:=P) (ys:=[a,b]) hc hP hab;unfold clB at this;rw [BX_len] at this;exact this),BX_take]
  rw [show (a :: b :: zs).take 2=[a,b] from rfl,h]
  rw [cutRes_pan v _ _ _ _ _ _ (by rw [BX_len] <;> rfl) hv (by have:=clB_BX (id:=id) (P:=P') (ys:=[a,b]) hc hP' hab;unfold clB at this;rw [BX_len] at this;exact this)]
  rw [BX_drop,BX_cat]
  rfl
def lsV (t:TypeId):List PV→PV
  | []=>.nils
  | x :: r=>.osl t (x :: r)
noncomputable def IT:TypeInfo:=(Try.prog.info? 59).getD default
noncomputable def IS:TypeInfo:=(Try.prog.info? 41).getD default
theorem apT (bytes:Nat) (hb:IT.bytes=bytes) (st:St) (al:List (Nat×Loc)) (s x:Operand) (d:Option Tmp):appendOn CC st al s x 27 27 d=match appendAt CC st al 59 s,elemsOf (opd CC st.env x) with
      | some (l,xs),some ys=>appK bytes 10 59 st al l xs ys d
      | _,_=>none:=appendOn_eq (i:=IT) (by kernel_rfl) (by kernel_rfl) (by kernel_rfl) (z:=(IT.zero).getD default) (by kernel_rfl) (by kernel_rfl) (by rw [show IT.size=10 from by kernel_rfl];decide) hb (by kernel_rfl)
theorem apS (bytes:Nat) (hb:IS.bytes=bytes) (st:St) (al:List (Nat×Loc)) (s x:Operand) (d:Option Tmp):appendOn CC st al s x 35 35 d=match appendAt CC st al 41 s,elemsOf (opd CC st.env x) with
      | some (l,xs),some ys=>appK bytes 16 41 st al l xs ys d
      | _,_=>none:=appendOn_eq (i:=IS) (by kernel_rfl) (by kernel_rfl) (by kernel_rfl) (z:=(IS.zero).getD default) (by kernel_rfl) (by kernel_rfl) (by rw [show IS.size=16 from by kernel_rfl];decide) hb (by kernel_rfl)
theorem bytesT:IT.bytes=120:=by kernel_rfl
theorem bytesS:IS.bytes=200:=by kernel_rfl
def rcs (nm:List UInt8) (pr:Int) (on:PV) (dos:PV):Tr→List PV
  | .mk k n m s v q kids=>[.str nm,.int .i64 pr,on,.int .i64 k,.int .i64 n,.int .i64 m,.str s,.int .i64 v.1,.int .i64 v.2.1,.str v.2.2,.int .i64 q.1,.str q.2.1,.str q.2.2,.sl (trVs kids),dos]
theorem lsV_under (t:TypeId) (n:Nat):∀ l:List PV,underL n l=true→(lsV t l).under n=true
  | [],_=>by simp [lsV,PV.under]
  | x :: r,h=>by simp only [lsV,PV.under];exact h
theorem bsT (t:Tg):buildSliceP CC 27 1 [(0,tgV t)]=some (.osl 59 [tgV t]):=by kernel_rfl
theorem under_osl (n:Nat) (e:TypeId) (l:List PV):(PV.osl e l).under n=underL n l:=by simp [PV.under]
theorem bsS (s:Sp):buildSliceP CC 35 1 [(0,.agg (spC s))]=some (.osl 41 [.agg (spC s)]):=by
  obtain ⟨k,y,nm,⟨k2,n,m,s,v,q,kids⟩⟩:=s
  unfold spC exC trV
  kernel_rfl
theorem spC_under (n:Nat) (s:Sp):underL n (spC s)=true:=by unfold spC;simp [PV.under,underL,SX]
theorem spC_len (s:Sp):(spC s).length=16:=by unfold spC;simp [SX]
theorem pureL_app (l:List PV):∀ r:List PV,pureL (r++l)=(pureL r && pureL l)
  | []=>rfl
  | x :: r=>by rw [List.cons_append,pureL_cons,pureL_cons,pureL_app l r,Bool.and_assoc]
theorem spC_pure (s:Sp):pureL (spC s)=true:=by unfold spC;rw [pureL_app,exC_pure];rfl
theorem tgV_under (n:Nat) (t:Tg):(tgV t).under n=true:=by unfold tgV;simp [PV.under,underL]
theorem spV_under (n:Nat) (s:Sp):(spV s).under n=true:=by unfold spV;simp [PV.under,spC_under]
theorem map_under {α:Type} (f:α→PV) (hf:∀ n a,(f a).under n=true) (n:Nat):∀ l:List α,underL n (l.map f)=true
  | []=>by simp [underL]
  | x :: r=>by rw [List.map_cons,SU.2.2.1,hf,map_under f hf n r];rfl
theorem op_BXy {bx:List PBox} {id:Nat} {P P':PBox} {ys ys':List PBox} {f:FuncId} {args:List PV} {r:CR} (hp:pureL args=false) (hl:ys'.length=ys.length) (hc:clB bx) (hP:P'.under bx.length=true) (hy:(ys'.all fun y=>y.under (bx.length+ys'.length))=true) (hr:r.under (bx.length+ys.length)=true) (h:callL CC f args (BX bx id P ys)=some (r,BX bx id P' ys')):callOp CC (callL CC) f args (BX bx id P ys)=some (r,BX bx id P' ys'):=by
  unfold callOp
  rw [if_pos (by rw [hp];simp),h]
  simp only
  unfold truncB
  rw [BX_len]
  have ht:(BX bx id P' ys').take (bx.length+ys.length)=BX bx id P' ys':=by rw [← hl,← BX_len (id:=id) (P:=P') (ys:=ys')];exact List.take_of_length_le (Nat.le_refl _)
  rw [ht,hr]
  have:=clB_BX (id:=id) (P:=P') (ys:=ys') hc hP hy
  unfold clB at this
  rw [BX_len,hl] at this
  rw [this]
  rfl
theorem no_r1:drawOK CC (opsOf (fpart Try.f45 []))=false:=by kernel_rfl
theorem ord_r1:orders (opsOf (fpart Try.f45 []))=[[0,1,2,3,4,5,6,7],[0,2,1,3,4,5,6,7],[0,2,3,1,4,5,6,7],[0,2,3,4,1,5,6,7],[2,0,1,3,4,5,6,7],[2,0,3,1,4,5,6,7],[2,0,3,4,1,5,6,7],[2,3,0,1,4,5,6,7],[2,3,0,4,1,5,6,7],[2,3,4,0,1,5,6,7]]:=by kernel_rfl
theorem draw_r1_nil_ok {bx:List PBox} {id:Nat} {L:List Tk} {i o:Nat} {RL:PV} (hR:RL.pure=true) {j:Nat} (hid:id < bx.length) (hc:clB bx) (nm:List UInt8) (pr:Int) (dosV:PV) (hdu:∀ n,dosV.under n=true) (et:Tr) (t0:Tk) {J:List PBox} (hJ:∀ n,(J.all fun x=>x.under n)=true)  (a:Tg) (h:OKc 46 [] id L RL i o (tgV a) j o) :
    drawAll CC (callL CC) (opsOf (fpart Try.f45 [])) ⟨[.bp (bx.length+2) 0,.bp bx.length 0],BX bx id (PSR L i o RL) (.cells 63 [.bp id 0] :: .cells 66 [.int .i64 (t0.1:Int),.str t0.2.1,.int .i64 (t0.2.2:Int)] :: .cells 37 (rcs nm pr .nils dosV et) :: J)⟩=some (.normal,⟨(setT (setT (setT (setT (setT (setT (setT (setT [.bp (bx.length+2) 0,.bp bx.length 0] 2 (.bp (bx.length+2) 2)) 3 (.nils)) 4 (.bp id 0)) 5 (tgV a)) 6 (.osl 59 [tgV a])) 7 (.osl 59 [tgV a])) 8 (.bp (bx.length+2) 2)) 7 (.sl [tgV a])),BX bx id (PSR L j o RL) (.cells 63 [.bp id 0] :: .cells 66 [.int .i64 (t0.1:Int),.str t0.2.1,.int .i64 (t0.2.2:Int)] :: .cells 37 (rcs nm pr (.osl 59 [tgV a]) dosV et) :: J)⟩):=by
  have t1:=okc_use hid hc hR h
  have hd:∀ k,id < bx.length+k:=fun k=>by omega
  have hb:=apT _ bytesT
  obtain ⟨k,n,m,s,v,q,kids⟩:=et
  have hk:∀ n,underL n (trVs kids)=true:=fun z=>underL_of_pure z _ (trVs_pure kids)
  have htp:([63]:List TypeId).toArray.toList.any (ptrT CC)=true:=by kernel_rfl
  have hbs:=bsT a
  have hap:=fun st al l d=>appK_ok (bytes:=120) (size:=10) (e:=59) (st:=st) (al:=al) (l:=l) (d:=d) (xs:=[]) (ys:=[tgV a]) (by simp only [List.length_cons,List.length_nil];omega) (by decide) (by unfold tgV;rfl)
  refine drawAll_iff.2 ⟨by rw [ord_r1];simp,fun l hl=>?_⟩
  rw [ord_r1] at hl
  have pbp:pureL [PV.bp id 0]=false:=rfl
  unfold rcs PSR
  unfold tgV at *
  obtain ⟨dr,ev,eo,so,co,⟨hev,hco,heo,hdr⟩,R⟩:=RULESB CC
  rw [← heo]
  rw [← hco] at t1
  simp only [List.mem_cons,List.not_mem_nil,or_false] at hl
  rcases hl with rfl | rfl | rfl | rfl | rfl | rfl | rfl | rfl | rfl | rfl
  all_goals
    simp only [opsOf,fpart,part',Try.f45,Option.getD,pickOps,List.filterMap_cons,List.filterMap_nil,List.getElem?_toArray,List.getElem?_cons_succ,List.getElem?_cons_zero]
    simp only [S9,R,seval,PY,PZ,pbp,dynR,t1,hd,hb,hk,hdu,hJ,hbs,hap,SX,normP_normal,normP_pan,List.getD_cons_zero,List.getD_cons_succ,hid]
    try rw [setT_swap _ 6 2 _ _ (by decide)]
    try rw [setT_swap _ 5 2 _ _ (by decide)]
    try rw [setT_swap _ 4 2 _ _ (by decide)]
    try rw [setT_swap _ 6 3 _ _ (by decide)]
    try rw [setT_swap _ 5 3 _ _ (by decide)]
    try rw [setT_swap _ 4 3 _ _ (by decide)]
    try rfl
theorem draw_r1_nil_bad {bx:List PBox} {id:Nat} {L:List Tk} {i o:Nat} {RL:PV} (hR:RL.pure=true) {j:Nat} (hid:id < bx.length) (hc:clB bx) (nm:List UInt8) (pr:Int) (dosV:PV) (hdu:∀ n,dosV.under n=true) (et:Tr) (t0:Tk) {J:List PBox} (hJ:∀ n,(J.all fun x=>x.under n)=true)  {t:Nat} {c:Int} {i' o':Nat} (h:BADx 46 [] id L RL i o t c i' o') :
    drawAll CC (callL CC) (opsOf (fpart Try.f45 [])) ⟨[.bp (bx.length+2) 0,.bp bx.length 0],BX bx id (PSR L i o RL) (.cells 63 [.bp id 0] :: .cells 66 [.int .i64 (t0.1:Int),.str t0.2.1,.int .i64 (t0.2.2:Int)] :: .cells 37 (rcs nm pr .nils dosV et) :: J)⟩=some (.pan (fltV t c),⟨[],BX bx id (PSR L i' o' RL) (.cells 63 [.bp id 0] :: .cells 66 [.int .i64 (t0.1:Int),.str t0.2.1,.int .i64 (t0.2.2:Int)] :: .cells 37 (rcs nm pr .nils dosV et) :: J)⟩):=by
  have t1:=badx_use hid hc hR h
  have hd:∀ k,id < bx.length+k:=fun k=>by omega
  have hb:=apT _ bytesT
  obtain ⟨k,n,m,s,v,q,kids⟩:=et
  have hk:∀ n,underL n (trVs kids)=true:=fun z=>underL_of_pure z _ (trVs_pure kids)
  have htp:([63]:List TypeId).toArray.toList.any (ptrT CC)=true:=by kernel_rfl
  refine drawAll_iff.2 ⟨by rw [ord_r1];simp,fun l hl=>?_⟩
  rw [ord_r1] at hl
  have pbp:pureL [PV.bp id 0]=false:=rfl
  unfold rcs PSR
  skip
  obtain ⟨dr,ev,eo,so,co,⟨hev,hco,heo,hdr⟩,R⟩:=RULESB CC
  rw [← heo]
  rw [← hco] at t1
  simp only [List.mem_cons,List.not_mem_nil,or_false] at hl
  rcases hl with rfl | rfl | rfl | rfl | rfl | rfl | rfl | rfl | rfl | rfl
  all_goals
    simp only [opsOf,fpart,part',Try.f45,Option.getD,pickOps,List.filterMap_cons,List.filterMap_nil,List.getElem?_toArray,List.getElem?_cons_succ,List.getElem?_cons_zero]
    simp only [S9,R,seval,PY,PZ,pbp,dynR,t1,hd,hb,hk,hdu,hJ,SX,normP_normal,normP_pan,List.getD_cons_zero,List.getD_cons_succ,hid]
theorem draw_r1_cons_ok {bx:List PBox} {id:Nat} {L:List Tk} {i o:Nat} {RL:PV} (hR:RL.pure=true) {j:Nat} (hid:id < bx.length) (hc:clB bx) (nm:List UInt8) (pr:Int) (dosV:PV) (hdu:∀ n,dosV.under n=true) (et:Tr) (t0:Tk) {J:List PBox} (hJ:∀ n,(J.all fun x=>x.under n)=true) (x0:PV) (xs:List PV) (hx0:∀ n,x0.under n=true) (hxs:∀ n,underL n xs=true) (hx8:xs.length≤7) (a:Tg) (h:OKc 46 [] id L RL i o (tgV a) j o) :
    drawAll CC (callL CC) (opsOf (fpart Try.f45 [])) ⟨[.bp (bx.length+2) 0,.bp bx.length 0],BX bx id (PSR L i o RL) (.cells 63 [.bp id 0] :: .cells 66 [.int .i64 (t0.1:Int),.str t0.2.1,.int .i64 (t0.2.2:Int)] :: .cells 37 (rcs nm pr (.osl 59 (x0 :: xs)) dosV et) :: J)⟩=some (.normal,⟨(setT (setT (setT (setT (setT (setT (setT (setT [.bp (bx.length+2) 0,.bp bx.length 0] 2 (.bp (bx.length+2) 2)) 3 (.sl (x0 :: xs))) 4 (.bp id 0)) 5 (tgV a)) 6 (.osl 59 [tgV a])) 7 (.osl 59 (x0 :: (xs++[tgV a])))) 8 (.bp (bx.length+2) 2)) 7 (.sl (x0 :: (xs++[tgV a])))),BX bx id (PSR L j o RL) (.cells 63 [.bp id 0] :: .cells 66 [.int .i64 (t0.1:Int),.str t0.2.1,.int .i64 (t0.2.2:Int)] :: .cells 37 (rcs nm pr (.osl 59 (x0 :: (xs++[tgV a]))) dosV et) :: J)⟩):=by
  have t1:=okc_use hid hc hR h
  have hd:∀ k,id < bx.length+k:=fun k=>by omega
  have hb:=apT _ bytesT
  obtain ⟨k,n,m,s,v,q,kids⟩:=et
  have hk:∀ n,underL n (trVs kids)=true:=fun z=>underL_of_pure z _ (trVs_pure kids)
  have htp:([63]:List TypeId).toArray.toList.any (ptrT CC)=true:=by kernel_rfl
  have hbs:=bsT a
  have hap:=fun st al l d=>appK_ok (bytes:=120) (size:=10) (e:=59) (st:=st) (al:=al) (l:=l) (d:=d) (xs:=x0 :: xs) (ys:=[tgV a]) (by simp only [List.length_cons,List.length_nil];omega) (by decide) (by unfold tgV;rfl)
  have hcut:=fun co t1 e=>cut_ret (co:=co) (k:=46) (vs:=[.bp id 0]) (bx:=bx) (id:=id) (P:=PSR L i o RL) (P':=PSR L j o RL) (v:=tgV a) #[63] (.cells 63 [.bp id 0]) (.cells 66 [.int .i64 (t0.1:Int),.str t0.2.1,.int .i64 (t0.2.2:Int)]) (.cells 37 (rcs nm pr (.osl 59 (x0 :: xs)) dosV (.mk k n m s v q kids)) :: J) 3 2 (some 5) e htp rfl (by simp only [SU,SX,hd,decide_true]) hc (PSR_under L i o hR) (PSR_under L j o hR) (by simp only [SU,SX,hd,decide_true]) (tgV_under _ a) t1
  refine drawAll_iff.2 ⟨by rw [ord_r1];simp,fun l hl=>?_⟩
  rw [ord_r1] at hl
  have pbp:pureL [PV.bp id 0]=false:=rfl
  unfold rcs PSR at⊢hcut
  unfold tgV at *
  obtain ⟨dr,ev,eo,so,co,⟨hev,hco,heo,hdr⟩,R⟩:=RULESB CC
  rw [← heo]
  rw [← hco] at t1
  replace hcut:=fun e=>hcut co (t1 [.cells 63 [.bp id 0],.cells 66 [.int .i64 (t0.1:Int),.str t0.2.1,.int .i64 (t0.2.2:Int)]] (by simp only [SU,SX,hd,decide_true,List.length_cons,List.length_nil])) e
  simp only [List.mem_cons,List.not_mem_nil,or_false] at hl
  rcases hl with rfl | rfl | rfl | rfl | rfl | rfl | rfl | rfl | rfl | rfl
  all_goals
    simp only [opsOf,fpart,part',Try.f45,Option.getD,pickOps,List.filterMap_cons,List.filterMap_nil,List.getElem?_toArray,List.getElem?_cons_succ,List.getElem?_cons_zero]
    simp only [S9,R,seval,PY,PZ,pbp,dynR,t1,hd,hb,hk,hdu,hJ,hbs,hap,hx0,hxs,hcut,killT_box,under_osl,SX,normP_normal,normP_pan,List.getD_cons_zero,List.getD_cons_succ,hid]
    try rw [setT_swap _ 6 2 _ _ (by decide)]
    try rw [setT_swap _ 5 2 _ _ (by decide)]
    try rw [setT_swap _ 4 2 _ _ (by decide)]
    try rw [setT_swap _ 6 3 _ _ (by decide)]
    try rw [setT_swap _ 5 3 _ _ (by decide)]
    try rw [setT_swap _ 4 3 _ _ (by decide)]
    try rfl
theorem draw_r1_cons_bad {bx:List PBox} {id:Nat} {L:List Tk} {i o:Nat} {RL:PV} (hR:RL.pure=true) {j:Nat} (hid:id < bx.length) (hc:clB bx) (nm:List UInt8) (pr:Int) (dosV:PV) (hdu:∀ n,dosV.under n=true) (et:Tr) (t0:Tk) {J:List PBox} (hJ:∀ n,(J.all fun x=>x.under n)=true) (x0:PV) (xs:List PV) (hx0:∀ n,x0.under n=true) (hxs:∀ n,underL n xs=true) (hx8:xs.length≤7) {t:Nat} {c:Int} {i' o':Nat} (h:BADx 46 [] id L RL i o t c i' o') :
    drawAll CC (callL CC) (opsOf (fpart Try.f45 [])) ⟨[.bp (bx.length+2) 0,.bp bx.length 0],BX bx id (PSR L i o RL) (.cells 63 [.bp id 0] :: .cells 66 [.int .i64 (t0.1:Int),.str t0.2.1,.int .i64 (t0.2.2:Int)] :: .cells 37 (rcs nm pr (.osl 59 (x0 :: xs)) dosV et) :: J)⟩=some (.pan (fltV t c),⟨[],BX bx id (PSR L i' o' RL) (.cells 63 [.bp id 0] :: .cells 66 [.int .i64 (t0.1:Int),.str t0.2.1,.int .i64 (t0.2.2:Int)] :: .cells 37 (rcs nm pr (.osl 59 (x0 :: xs)) dosV et) :: J)⟩):=by
  have t1:=badx_use hid hc hR h
  have hd:∀ k,id < bx.length+k:=fun k=>by omega
  have hb:=apT _ bytesT
  obtain ⟨k,n,m,s,v,q,kids⟩:=et
  have hk:∀ n,underL n (trVs kids)=true:=fun z=>underL_of_pure z _ (trVs_pure kids)
  have htp:([63]:List TypeId).toArray.toList.any (ptrT CC)=true:=by kernel_rfl
  have hcut:=fun co t1 e=>cut_pan (co:=co) (k:=46) (vs:=[.bp id 0]) (bx:=bx) (id:=id) (P:=PSR L i o RL) (P':=PSR L i' o' RL) (v:=fltV t c) #[63] (.cells 63 [.bp id 0]) (.cells 66 [.int .i64 (t0.1:Int),.str t0.2.1,.int .i64 (t0.2.2:Int)]) (.cells 37 (rcs nm pr (.osl 59 (x0 :: xs)) dosV (.mk k n m s v q kids)) :: J) 3 2 (some 5) e htp rfl (by simp only [SU,SX,hd,decide_true]) hc (PSR_under L i o hR) (PSR_under L i' o' hR) (by simp only [SU,SX,hd,decide_true]) (fltV_under (bx.length+2) t c) t1
  refine drawAll_iff.2 ⟨by rw [ord_r1];simp,fun l hl=>?_⟩
  rw [ord_r1] at hl
  have pbp:pureL [PV.bp id 0]=false:=rfl
  unfold rcs PSR at⊢hcut
  skip
  obtain ⟨dr,ev,eo,so,co,⟨hev,hco,heo,hdr⟩,R⟩:=RULESB CC
  rw [← heo]
  rw [← hco] at t1
  replace hcut:=fun e=>hcut co (t1 [.cells 63 [.bp id 0],.cells 66 [.int .i64 (t0.1:Int),.str t0.2.1,.int .i64 (t0.2.2:Int)]] (by simp only [SU,SX,hd,decide_true,List.length_cons,List.length_nil])) e
  simp only [List.mem_cons,List.not_mem_nil,or_false] at hl
  rcases hl with rfl | rfl | rfl | rfl | rfl | rfl | rfl | rfl | rfl | rfl
  all_goals
    simp only [opsOf,fpart,part',Try.f45,Option.getD,pickOps,List.filterMap_cons,List.filterMap_nil,List.getElem?_toArray,List.getElem?_cons_succ,List.getElem?_cons_zero]
    simp only [S9,R,seval,PY,PZ,pbp,dynR,t1,hd,hb,hk,hdu,hJ,hx0,hxs,hcut,killT_box,under_osl,SX,normP_normal,normP_pan,List.getD_cons_zero,List.getD_cons_succ,hid]
theorem no_r2:drawOK CC (opsOf (fpart Try.f47 []))=false:=by kernel_rfl
theorem ord_r2:orders (opsOf (fpart Try.f47 []))=[[0,1,2,3,4,5,6,7],[0,2,1,3,4,5,6,7],[0,2,3,1,4,5,6,7],[0,2,3,4,1,5,6,7],[2,0,1,3,4,5,6,7],[2,0,3,1,4,5,6,7],[2,0,3,4,1,5,6,7],[2,3,0,1,4,5,6,7],[2,3,0,4,1,5,6,7],[2,3,4,0,1,5,6,7]]:=by kernel_rfl
theorem draw_r2_nil_ok {bx:List PBox} {id:Nat} {L:List Tk} {i o:Nat} {RL:PV} (hR:RL.pure=true) {j:Nat} (hid:id < bx.length) (hc:clB bx) (nm:List UInt8) (pr:Int) (onV:PV) (hdu:∀ n,onV.under n=true) (et:Tr) (t0:Tk) {J:List PBox} (hJ:∀ n,(J.all fun x=>x.under n)=true)  (a:Sp) (h:OKc 48 [] id L RL i o (spV a) j o) :
    drawAll CC (callL CC) (opsOf (fpart Try.f47 [])) ⟨[.bp (bx.length+2) 0,.bp bx.length 0],BX bx id (PSR L i o RL) (.cells 63 [.bp id 0] :: .cells 66 [.int .i64 (t0.1:Int),.str t0.2.1,.int .i64 (t0.2.2:Int)] :: .cells 37 (rcs nm pr onV .nils et) :: J)⟩=some (.normal,⟨(setT (setT (setT (setT (setT (setT (setT (setT [.bp (bx.length+2) 0,.bp bx.length 0] 2 (.bp (bx.length+2) 14)) 3 (.nils)) 4 (.bp id 0)) 5 (spV a)) 6 (.osl 41 [spV a])) 7 (.osl 41 [spV a])) 8 (.bp (bx.length+2) 14)) 7 (.sl [spV a])),BX bx id (PSR L j o RL) (.cells 63 [.bp id 0] :: .cells 66 [.int .i64 (t0.1:Int),.str t0.2.1,.int .i64 (t0.2.2:Int)] :: .cells 37 (rcs nm pr onV (.osl 41 [spV a]) et) :: J)⟩):=by
  have t1:=okc_use hid hc hR h
  have hd:∀ k,id < bx.length+k:=fun k=>by omega
  have hb:=apS _ bytesS
  obtain ⟨k,n,m,s,v,q,kids⟩:=et
  have hk:∀ n,underL n (trVs kids)=true:=fun z=>underL_of_pure z _ (trVs_pure kids)
  have htp:([63]:List TypeId).toArray.toList.any (ptrT CC)=true:=by kernel_rfl
  have hbs:=bsS a
  have hap:=fun st al l d=>appK_ok (bytes:=200) (size:=16) (e:=41) (st:=st) (al:=al) (l:=l) (d:=d) (xs:=[]) (ys:=[spV a]) (by simp only [List.length_cons,List.length_nil];omega) (by decide) (by unfold spV;simp [PV.cells,spC_len])
  refine drawAll_iff.2 ⟨by rw [ord_r2];simp,fun l hl=>?_⟩
  rw [ord_r2] at hl
  have pbp:pureL [PV.bp id 0]=false:=rfl
  unfold rcs PSR
  unfold spV at *
  obtain ⟨dr,ev,eo,so,co,⟨hev,hco,heo,hdr⟩,R⟩:=RULESB CC
  rw [← heo]
  rw [← hco] at t1
  simp only [List.mem_cons,List.not_mem_nil,or_false] at hl
  rcases hl with rfl | rfl | rfl | rfl | rfl | rfl | rfl | rfl | rfl | rfl
  all_goals
    simp only [opsOf,fpart,part',Try.f47,Option.getD,pickOps,List.filterMap_cons,List.filterMap_nil,List.getElem?_toArray,List.getElem?_cons_succ,List.getElem?_cons_zero]
    simp only [S9,R,seval,PY,PZ,pbp,dynR,t1,hd,hb,hk,hdu,hJ,hbs,hap,spC_under,spC_len,spC_pure,SX,normP_normal,normP_pan,List.getD_cons_zero,List.getD_cons_succ,hid]
    try rw [setT_swap _ 6 2 _ _ (by decide)]
    try rw [setT_swap _ 5 2 _ _ (by decide)]
    try rw [setT_swap _ 4 2 _ _ (by decide)]
    try rw [setT_swap _ 6 3 _ _ (by decide)]
    try rw [setT_swap _ 5 3 _ _ (by decide)]
    try rw [setT_swap _ 4 3 _ _ (by decide)]
    try rfl
theorem draw_r2_nil_bad {bx:List PBox} {id:Nat} {L:List Tk} {i o:Nat} {RL:PV} (hR:RL.pure=true) {j:Nat} (hid:id < bx.length) (hc:clB bx) (nm:List UInt8) (pr:Int) (onV:PV) (hdu:∀ n,onV.under n=true) (et:Tr) (t0:Tk) {J:List PBox} (hJ:∀ n,(J.all fun x=>x.under n)=true)  {t:Nat} {c:Int} {i' o':Nat} (h:BADx 48 [] id L RL i o t c i' o') :
    drawAll CC (callL CC) (opsOf (fpart Try.f47 [])) ⟨[.bp (bx.length+2) 0,.bp bx.length 0],BX bx id (PSR L i o RL) (.cells 63 [.bp id 0] :: .cells 66 [.int .i64 (t0.1:Int),.str t0.2.1,.int .i64 (t0.2.2:Int)] :: .cells 37 (rcs nm pr onV .nils et) :: J)⟩=some (.pan (fltV t c),⟨[],BX bx id (PSR L i' o' RL) (.cells 63 [.bp id 0] :: .cells 66 [.int .i64 (t0.1:Int),.str t0.2.1,.int .i64 (t0.2.2:Int)] :: .cells 37 (rcs nm pr onV .nils et) :: J)⟩):=by
  have t1:=badx_use hid hc hR h
  have hd:∀ k,id < bx.length+k:=fun k=>by omega
  have hb:=apS _ bytesS
  obtain ⟨k,n,m,s,v,q,kids⟩:=et
  have hk:∀ n,underL n (trVs kids)=true:=fun z=>underL_of_pure z _ (trVs_pure kids)
  have htp:([63]:List TypeId).toArray.toList.any (ptrT CC)=true:=by kernel_rfl
  refine drawAll_iff.2 ⟨by rw [ord_r2];simp,fun l hl=>?_⟩
  rw [ord_r2] at hl
  have pbp:pureL [PV.bp id 0]=false:=rfl
  unfold rcs PSR
  skip
  obtain ⟨dr,ev,eo,so,co,⟨hev,hco,heo,hdr⟩,R⟩:=RULESB CC
  rw [← heo]
  rw [← hco] at t1
  simp only [List.mem_cons,List.not_mem_nil,or_false] at hl
  rcases hl with rfl | rfl | rfl | rfl | rfl | rfl | rfl | rfl | rfl | rfl
  all_goals
    simp only [opsOf,fpart,part',Try.f47,Option.getD,pickOps,List.filterMap_cons,List.filterMap_nil,List.getElem?_toArray,List.getElem?_cons_succ,List.getElem?_cons_zero]
    simp only [S9,R,seval,PY,PZ,pbp,dynR,t1,hd,hb,hk,hdu,hJ,SX,normP_normal,normP_pan,List.getD_cons_zero,List.getD_cons_succ,hid]
theorem draw_r2_cons_ok {bx:List PBox} {id:Nat} {L:List Tk} {i o:Nat} {RL:PV} (hR:RL.pure=true) {j:Nat} (hid:id < bx.length) (hc:clB bx) (nm:List UInt8) (pr:Int) (onV:PV) (hdu:∀ n,onV.under n=true) (et:Tr) (t0:Tk) {J:List PBox} (hJ:∀ n,(J.all fun x=>x.under n)=true) (x0:PV) (xs:List PV) (hx0:∀ n,x0.under n=true) (hxs:∀ n,underL n xs=true) (hx8:xs.length≤7) (a:Sp) (h:OKc 48 [] id L RL i o (spV a) j o) :
    drawAll CC (callL CC) (opsOf (fpart Try.f47 [])) ⟨[.bp (bx.length+2) 0,.bp bx.length 0],BX bx id (PSR L i o RL) (.cells 63 [.bp id 0] :: .cells 66 [.int .i64 (t0.1:Int),.str t0.2.1,.int .i64 (t0.2.2:Int)] :: .cells 37 (rcs nm pr onV (.osl 41 (x0 :: xs)) et) :: J)⟩=some (.normal,⟨(setT (setT (setT (setT (setT (setT (setT (setT [.bp (bx.length+2) 0,.bp bx.length 0] 2 (.bp (bx.length+2) 14)) 3 (.sl (x0 :: xs))) 4 (.bp id 0)) 5 (spV a)) 6 (.osl 41 [spV a])) 7 (.osl 41 (x0 :: (xs++[spV a])))) 8 (.bp (bx.length+2) 14)) 7 (.sl (x0 :: (xs++[spV a])))),BX bx id (PSR L j o RL) (.cells 63 [.bp id 0] :: .cells 66 [.int .i64 (t0.1:Int),.str t0.2.1,.int .i64 (t0.2.2:Int)] :: .cells 37 (rcs nm pr onV (.osl 41 (x0 :: (xs++[spV a]))) et) :: J)⟩):=by
  have t1:=okc_use hid hc hR h
  have hd:∀ k,id < bx.length+k:=fun k=>by omega
  have hb:=apS _ bytesS
  obtain ⟨k,n,m,s,v,q,kids⟩:=et
  have hk:∀ n,underL n (trVs kids)=true:=fun z=>underL_of_pure z _ (trVs_pure kids)
  have htp:([63]:List TypeId).toArray.toList.any (ptrT CC)=true:=by kernel_rfl
  have hbs:=bsS a
  have hap:=fun st al l d=>appK_ok (bytes:=200) (size:=16) (e:=41) (st:=st) (al:=al) (l:=l) (d:=d) (xs:=x0 :: xs) (ys:=[spV a]) (by simp only [List.length_cons,List.length_nil];omega) (by decide) (by unfold spV;simp [PV.cells,spC_len])
  have hcut:=fun co t1 e=>cut_ret (co:=co) (k:=48) (vs:=[.bp id 0]) (bx:=bx) (id:=id) (P:=PSR L i o RL) (P':=PSR L j o RL) (v:=spV a) #[63] (.cells 63 [.bp id 0]) (.cells 66 [.int .i64 (t0.1:Int),.str t0.2.1,.int .i64 (t0.2.2:Int)]) (.cells 37 (rcs nm pr onV (.osl 41 (x0 :: xs)) (.mk k n m s v q kids)) :: J) 3 14 (some 5) e htp rfl (by simp only [SU,SX,hd,decide_true]) hc (PSR_under L i o hR) (PSR_under L j o hR) (by simp only [SU,SX,hd,decide_true]) (spV_under _ a) t1
  refine drawAll_iff.2 ⟨by rw [ord_r2];simp,fun l hl=>?_⟩
  rw [ord_r2] at hl
  have pbp:pureL [PV.bp id 0]=false:=rfl
  unfold rcs PSR at⊢hcut
  unfold spV at *
  obtain ⟨dr,ev,eo,so,co,⟨hev,hco,heo,hdr⟩,R⟩:=RULESB CC
  rw [← heo]
  rw [← hco] at t1
  replace hcut:=fun e=>hcut co (t1 [.cells 63 [.bp id 0],.cells 66 [.int .i64 (t0.1:Int),.str t0.2.1,.int .i64 (t0.2.2:Int)]] (by simp only [SU,SX,hd,decide_true,List.length_cons,List.length_nil])) e
  simp only [List.mem_cons,List.not_mem_nil,or_false] at hl
  rcases hl with rfl | rfl | rfl | rfl | rfl | rfl | rfl | rfl | rfl | rfl
  all_goals
    simp only [opsOf,fpart,part',Try.f47,Option.getD,pickOps,List.filterMap_cons,List.filterMap_nil,List.getElem?_toArray,List.getElem?_cons_succ,List.getElem?_cons_zero]
    simp only [S9,R,seval,PY,PZ,pbp,dynR,t1,hd,hb,hk,hdu,hJ,hbs,hap,spC_under,spC_len,spC_pure,hx0,hxs,hcut,killT_box,under_osl,SX,normP_normal,normP_pan,List.getD_cons_zero,List.getD_cons_succ,hid]
    try rw [setT_swap _ 6 2 _ _ (by decide)]
    try rw [setT_swap _ 5 2 _ _ (by decide)]
    try rw [setT_swap _ 4 2 _ _ (by decide)]
    try rw [setT_swap _ 6 3 _ _ (by decide)]
    try rw [setT_swap _ 5 3 _ _ (by decide)]
    try rw [setT_swap _ 4 3 _ _ (by decide)]
    try rfl
theorem draw_r2_cons_bad {bx:List PBox} {id:Nat} {L:List Tk} {i o:Nat} {RL:PV} (hR:RL.pure=true) {j:Nat} (hid:id < bx.length) (hc:clB bx) (nm:List UInt8) (pr:Int) (onV:PV) (hdu:∀ n,onV.under n=true) (et:Tr) (t0:Tk) {J:List PBox} (hJ:∀ n,(J.all fun x=>x.under n)=true) (x0:PV) (xs:List PV) (hx0:∀ n,x0.under n=true) (hxs:∀ n,underL n xs=true) (hx8:xs.length≤7) {t:Nat} {c:Int} {i' o':Nat} (h:BADx 48 [] id L RL i o t c i' o') :
    drawAll CC (callL CC) (opsOf (fpart Try.f47 [])) ⟨[.bp (bx.length+2) 0,.bp bx.length 0],BX bx id (PSR L i o RL) (.cells 63 [.bp id 0] :: .cells 66 [.int .i64 (t0.1:Int),.str t0.2.1,.int .i64 (t0.2.2:Int)] :: .cells 37 (rcs nm pr onV (.osl 41 (x0 :: xs)) et) :: J)⟩=some (.pan (fltV t c),⟨[],BX bx id (PSR L i' o' RL) (.cells 63 [.bp id 0] :: .cells 66 [.int .i64 (t0.1:Int),.str t0.2.1,.int .i64 (t0.2.2:Int)] :: .cells 37 (rcs nm pr onV (.osl 41 (x0 :: xs)) et) :: J)⟩):=by
  have t1:=badx_use hid hc hR h
  have hd:∀ k,id < bx.length+k:=fun k=>by omega
  have hb:=apS _ bytesS
  obtain ⟨k,n,m,s,v,q,kids⟩:=et
  have hk:∀ n,underL n (trVs kids)=true:=fun z=>underL_of_pure z _ (trVs_pure kids)
  have htp:([63]:List TypeId).toArray.toList.any (ptrT CC)=true:=by kernel_rfl
  have hcut:=fun co t1 e=>cut_pan (co:=co) (k:=48) (vs:=[.bp id 0]) (bx:=bx) (id:=id) (P:=PSR L i o RL) (P':=PSR L i' o' RL) (v:=fltV t c) #[63] (.cells 63 [.bp id 0]) (.cells 66 [.int .i64 (t0.1:Int),.str t0.2.1,.int .i64 (t0.2.2:Int)]) (.cells 37 (rcs nm pr onV (.osl 41 (x0 :: xs)) (.mk k n m s v q kids)) :: J) 3 14 (some 5) e htp rfl (by simp only [SU,SX,hd,decide_true]) hc (PSR_under L i o hR) (PSR_under L i' o' hR) (by simp only [SU,SX,hd,decide_true]) (fltV_under (bx.length+2) t c) t1
  refine drawAll_iff.2 ⟨by rw [ord_r2];simp,fun l hl=>?_⟩
  rw [ord_r2] at hl
  have pbp:pureL [PV.bp id 0]=false:=rfl
  unfold rcs PSR at⊢hcut
  skip
  obtain ⟨dr,ev,eo,so,co,⟨hev,hco,heo,hdr⟩,R⟩:=RULESB CC
  rw [← heo]
  rw [← hco] at t1
  replace hcut:=fun e=>hcut co (t1 [.cells 63 [.bp id 0],.cells 66 [.int .i64 (t0.1:Int),.str t0.2.1,.int .i64 (t0.2.2:Int)]] (by simp only [SU,SX,hd,decide_true,List.length_cons,List.length_nil])) e
  simp only [List.mem_cons,List.not_mem_nil,or_false] at hl
  rcases hl with rfl | rfl | rfl | rfl | rfl | rfl | rfl | rfl | rfl | rfl
  all_goals
    simp only [opsOf,fpart,part',Try.f47,Option.getD,pickOps,List.filterMap_cons,List.filterMap_nil,List.getElem?_toArray,List.getElem?_cons_succ,List.getElem?_cons_zero]
    simp only [S9,R,seval,PY,PZ,pbp,dynR,t1,hd,hb,hk,hdu,hJ,hx0,hxs,hcut,killT_box,under_osl,SX,normP_normal,normP_pan,List.getD_cons_zero,List.getD_cons_succ,hid]
end Go.HH
