/-
  What the law needs, packed: PC PD PE PF PG.
-/
import Derived.Test.YthjcaihemgllaaaGreatDoorM36
namespace Go.HH
open Go Go.Proofs
set_option maxRecDepth 100000
set_option maxHeartbeats 4000000
set_option linter.unusedSimpArgs false
set_option linter.unusedVariables false
theorem ok_parse_parser_token:fnOK CC Tryz.f52 (Tryz.f52.body.getD .skip)=true:=by kernel_rfl
theorem fat_parse_parser_token:CC.P.funcs[52]?=some Tryz.f52:=by kernel_rfl
theorem ok_parse_parser_fail:fnOK CC Tryz.f100 (Tryz.f100.body.getD .skip)=true:=by kernel_rfl
theorem fat_parse_parser_fail:CC.P.funcs[100]?=some Tryz.f100:=by kernel_rfl
theorem ok_parse_parser_is:fnOK CC Tryz.f101 (Tryz.f101.body.getD .skip)=true:=by kernel_rfl
theorem fat_parse_parser_is:CC.P.funcs[101]?=some Tryz.f101:=by kernel_rfl
theorem ok_parse_parser_take:fnOK CC Tryz.f142 (Tryz.f142.body.getD .skip)=true:=by kernel_rfl
theorem fat_parse_parser_take:CC.P.funcs[142]?=some Tryz.f142:=by kernel_rfl
theorem ok_parse_parser_word:fnOK CC Tryz.f105 (Tryz.f105.body.getD .skip)=true:=by kernel_rfl
theorem fat_parse_parser_word:CC.P.funcs[105]?=some Tryz.f105:=by kernel_rfl
theorem ok_parse_parser_op:fnOK CC Tryz.f148 (Tryz.f148.body.getD .skip)=true:=by kernel_rfl
theorem fat_parse_parser_op:CC.P.funcs[148]?=some Tryz.f148:=by kernel_rfl
theorem ok_parse_parser_must:fnOK CC Tryz.f102 (Tryz.f102.body.getD .skip)=true:=by kernel_rfl
theorem fat_parse_parser_must:CC.P.funcs[102]?=some Tryz.f102:=by kernel_rfl
theorem ok_parse_parser_one:fnOK CC Tryz.f50 (Tryz.f50.body.getD .skip)=true:=by kernel_rfl
theorem fat_parse_parser_one:CC.P.funcs[50]?=some Tryz.f50:=by kernel_rfl
theorem ok_parse_parser_name:fnOK CC Tryz.f103 (Tryz.f103.body.getD .skip)=true:=by kernel_rfl
theorem fat_parse_parser_name:CC.P.funcs[103]?=some Tryz.f103:=by kernel_rfl
theorem okc_token {id:Nat} {L:List Tk} {i o:Nat} {RL:PV} (hR:RL.pure=true) (hi:i < L.length):OKc 52 [] id L RL i o (tkV (tokAt L i)) i o:=by
 refine okc_of hR (fun n=>tkV_under n _) fun bx hid hc=>?_
 rw [callL_enter (fn:=Tryz.f52) (c:=Tryz.f52.body.getD .skip) rfl rfl fat_parse_parser_token rfl ok_parse_parser_token (Nat.le_of_ble_eq_true rfl)]
 have pbp:pureL [PV.bp id 0]=false:=rfl
 unfold PSR
 have hg:=tok_get hi
 have hi0:¬ ((i:Int) < 0):=by omega
 generalize tokAt L i=t at *
 unfold tkV at *
 obtain ⟨ev,eo,so,co,⟨hev,hco⟩,R⟩:=RULES CC;rw [<- hev]
 simp only [fpart,part',Tryz.f52,Option.getD]
 simp only [S9,R,seval,PY,PZ,pbp,hg,hi0,hid]
 exact ⟨_,rfl⟩
theorem badx_fail {id:Nat} {L:List Tk} {i o:Nat} {RL:PV} (hR:RL.pure=true) (k:Nat) (tx:List UInt8) (a:Nat) (e:Int):BADx 100 [.agg [.int .i64 (k:Int),.str tx,.int .i64 (a:Int)],.int .i64 e] id L RL i o a e i o:=by
 refine badx_of hR fun bx hid hc=>?_
 rw [callL_enter (fn:=Tryz.f100) (c:=Tryz.f100.body.getD .skip) rfl rfl fat_parse_parser_fail rfl ok_parse_parser_fail (Nat.le_of_ble_eq_true rfl)]
 have pbp:pureL [PV.bp id 0]=false:=rfl
 unfold PSR fltV
 obtain ⟨ev,eo,so,co,⟨hev,hco⟩,R⟩:=RULES CC;rw [<- hev]
 simp only [fpart,part',Tryz.f100,Option.getD]
 simp only [S9,R,seval,PY,PZ,pbp,buildFlt,mkIf_s,hid]
 exact ⟨_,rfl⟩
theorem okc_is {id:Nat} {L:List Tk} {i o:Nat} {RL:PV} (hR:RL.pure=true) (hi:i < L.length) (k:Nat) (kk:Int) (hkk:kk=(k:Int)) (w:List UInt8):OKc 101 [.int .i64 kk,.str w] id L RL i o (.bool (isT L k w i)) i o:=by
 subst hkk
 refine okc_of hR (fun n=>by simp [PV.under]) fun bx hid hc=>?_
 have t1:=okc_use hid hc hR (okc_token (o:=o) hR hi)
 have hs:strP .eql (tokAt L i).2.1 w=some (.bool ((tokAt L i).2.1 == w)):=rfl
 unfold isT
 cases hk:(tokAt L i).1 == k with
 | false=>
  have hk':(((tokAt L i).1:Int) == (k:Int))=false:=by rw [natBeq];exact hk
  rw [callL_enter (fn:=Tryz.f101) (c:=Tryz.f101.body.getD .skip) rfl rfl fat_parse_parser_is rfl ok_parse_parser_is (Nat.le_of_ble_eq_true rfl)]
  have pbp:pureL [PV.bp id 0]=false:=rfl
  unfold PSR
  obtain ⟨ev,eo,so,co,⟨hev,hco⟩,R⟩:=RULES CC;rw [<- hev]
  rw [<- hco] at t1
  simp only [fpart,part',Tryz.f101,Option.getD]
  simp only [S9,R,seval,PY,PZ,pbp,t1,hk',hs,Bool.false_and,hid]
  exact ⟨_,rfl⟩
 | true=>
  have hk':(((tokAt L i).1:Int) == (k:Int))=true:=by rw [natBeq];exact hk
  rw [callL_enter (fn:=Tryz.f101) (c:=Tryz.f101.body.getD .skip) rfl rfl fat_parse_parser_is rfl ok_parse_parser_is (Nat.le_of_ble_eq_true rfl)]
  have pbp:pureL [PV.bp id 0]=false:=rfl
  unfold PSR
  obtain ⟨ev,eo,so,co,⟨hev,hco⟩,R⟩:=RULES CC;rw [<- hev]
  rw [<- hco] at t1
  simp only [fpart,part',Tryz.f101,Option.getD]
  simp only [S9,R,seval,PY,PZ,pbp,t1,hk',hs,Bool.true_and,hid]
  exact ⟨_,rfl⟩
theorem okc_take_t {id:Nat} {L:List Tk} {i o:Nat} {RL:PV} (hR:RL.pure=true) (hi:i < L.length) (hT:TokOK L) (k:Nat) (kk:Int) (hkk:kk=(k:Int)) (w:List UInt8) (hk:isT L k w i=true):OKc 142 [.int .i64 kk,.str w] id L RL i o (.bool true) (i+1) o:=by
 refine okc_of hR (fun n=>by simp [PV.under]) fun bx hid hc=>?_
 have t1:=okc_use hid hc hR (okc_is (o:=o) hR hi k kk hkk w)
 rw [hk] at t1
 have hw:IntKind.wrap .i64 ((i:Int)+1)=((i+1:Nat):Int):=by rw [wrap_i64 ⟨by omega,by have:=hT.len;omega⟩];omega
 rw [callL_enter (fn:=Tryz.f142) (c:=Tryz.f142.body.getD .skip) rfl rfl fat_parse_parser_take rfl ok_parse_parser_take (Nat.le_of_ble_eq_true rfl)]
 have pbp:pureL [PV.bp id 0]=false:=rfl
 unfold PSR
 obtain ⟨ev,eo,so,co,⟨hev,hco⟩,R⟩:=RULES CC;rw [<- hev]
 rw [<- hco] at t1
 simp only [fpart,part',Tryz.f142,Option.getD]
 simp only [S9,R,seval,PY,PZ,pbp,t1,hw,hid]
 exact ⟨_,rfl⟩
theorem okc_take_f {id:Nat} {L:List Tk} {i o:Nat} {RL:PV} (hR:RL.pure=true) (hi:i < L.length) (hT:TokOK L) (k:Nat) (kk:Int) (hkk:kk=(k:Int)) (w:List UInt8) (hk:isT L k w i=false):OKc 142 [.int .i64 kk,.str w] id L RL i o (.bool false) i o:=by
 refine okc_of hR (fun n=>by simp [PV.under]) fun bx hid hc=>?_
 have t1:=okc_use hid hc hR (okc_is (o:=o) hR hi k kk hkk w)
 rw [hk] at t1
 have hw:IntKind.wrap .i64 ((i:Int)+1)=((i+1:Nat):Int):=by rw [wrap_i64 ⟨by omega,by have:=hT.len;omega⟩];omega
 rw [callL_enter (fn:=Tryz.f142) (c:=Tryz.f142.body.getD .skip) rfl rfl fat_parse_parser_take rfl ok_parse_parser_take (Nat.le_of_ble_eq_true rfl)]
 have pbp:pureL [PV.bp id 0]=false:=rfl
 unfold PSR
 obtain ⟨ev,eo,so,co,⟨hev,hco⟩,R⟩:=RULES CC;rw [<- hev]
 rw [<- hco] at t1
 simp only [fpart,part',Tryz.f142,Option.getD]
 simp only [S9,R,seval,PY,PZ,pbp,t1,hw,hid]
 exact ⟨_,rfl⟩
theorem okc_word_t {id:Nat} {L:List Tk} {i o:Nat} {RL:PV} (hR:RL.pure=true) (hi:i < L.length) (hT:TokOK L) (w:List UInt8) (hk:isT L 1 w i=true):OKc 105 [.str w] id L RL i o (.bool true) (i+1) o:=by
 refine okc_of hR (fun n=>by simp [PV.under]) fun bx hid hc=>?_
 have t1:=okc_use hid hc hR (okc_take_t (o:=o) hR hi hT 1 1 rfl w hk)
 rw [callL_enter (fn:=Tryz.f105) (c:=Tryz.f105.body.getD .skip) rfl rfl fat_parse_parser_word rfl ok_parse_parser_word (Nat.le_of_ble_eq_true rfl)]
 have pbp:pureL [PV.bp id 0]=false:=rfl
 unfold PSR
 obtain ⟨ev,eo,so,co,⟨hev,hco⟩,R⟩:=RULES CC;rw [<- hev]
 rw [<- hco] at t1
 simp only [fpart,part',Tryz.f105,Option.getD]
 simp only [S9,R,seval,PY,PZ,pbp,t1,hid]
 exact ⟨_,rfl⟩
theorem okc_word_f {id:Nat} {L:List Tk} {i o:Nat} {RL:PV} (hR:RL.pure=true) (hi:i < L.length) (hT:TokOK L) (w:List UInt8) (hk:isT L 1 w i=false):OKc 105 [.str w] id L RL i o (.bool false) i o:=by
 refine okc_of hR (fun n=>by simp [PV.under]) fun bx hid hc=>?_
 have t1:=okc_use hid hc hR (okc_take_f (o:=o) hR hi hT 1 1 rfl w hk)
 rw [callL_enter (fn:=Tryz.f105) (c:=Tryz.f105.body.getD .skip) rfl rfl fat_parse_parser_word rfl ok_parse_parser_word (Nat.le_of_ble_eq_true rfl)]
 have pbp:pureL [PV.bp id 0]=false:=rfl
 unfold PSR
 obtain ⟨ev,eo,so,co,⟨hev,hco⟩,R⟩:=RULES CC;rw [<- hev]
 rw [<- hco] at t1
 simp only [fpart,part',Tryz.f105,Option.getD]
 simp only [S9,R,seval,PY,PZ,pbp,t1,hid]
 exact ⟨_,rfl⟩
theorem okc_op_t {id:Nat} {L:List Tk} {i o:Nat} {RL:PV} (hR:RL.pure=true) (hi:i < L.length) (hT:TokOK L) (w:List UInt8) (hk:isT L 4 w i=true):OKc 148 [.str w] id L RL i o (.bool true) (i+1) o:=by
 refine okc_of hR (fun n=>by simp [PV.under]) fun bx hid hc=>?_
 have t1:=okc_use hid hc hR (okc_take_t (o:=o) hR hi hT 4 4 rfl w hk)
 rw [callL_enter (fn:=Tryz.f148) (c:=Tryz.f148.body.getD .skip) rfl rfl fat_parse_parser_op rfl ok_parse_parser_op (Nat.le_of_ble_eq_true rfl)]
 have pbp:pureL [PV.bp id 0]=false:=rfl
 unfold PSR
 obtain ⟨ev,eo,so,co,⟨hev,hco⟩,R⟩:=RULES CC;rw [<- hev]
 rw [<- hco] at t1
 simp only [fpart,part',Tryz.f148,Option.getD]
 simp only [S9,R,seval,PY,PZ,pbp,t1,hid]
 exact ⟨_,rfl⟩
theorem okc_op_f {id:Nat} {L:List Tk} {i o:Nat} {RL:PV} (hR:RL.pure=true) (hi:i < L.length) (hT:TokOK L) (w:List UInt8) (hk:isT L 4 w i=false):OKc 148 [.str w] id L RL i o (.bool false) i o:=by
 refine okc_of hR (fun n=>by simp [PV.under]) fun bx hid hc=>?_
 have t1:=okc_use hid hc hR (okc_take_f (o:=o) hR hi hT 4 4 rfl w hk)
 rw [callL_enter (fn:=Tryz.f148) (c:=Tryz.f148.body.getD .skip) rfl rfl fat_parse_parser_op rfl ok_parse_parser_op (Nat.le_of_ble_eq_true rfl)]
 have pbp:pureL [PV.bp id 0]=false:=rfl
 unfold PSR
 obtain ⟨ev,eo,so,co,⟨hev,hco⟩,R⟩:=RULES CC;rw [<- hev]
 rw [<- hco] at t1
 simp only [fpart,part',Tryz.f148,Option.getD]
 simp only [S9,R,seval,PY,PZ,pbp,t1,hid]
 exact ⟨_,rfl⟩
theorem ans_must {id:Nat} {L:List Tk} {i o:Nat} {RL:PV} (hR:RL.pure=true) (hi:i < L.length) (hT:TokOK L) (k:Nat) (kk:Int) (hkk:kk=(k:Int)) (w:List UInt8):ANS 102 [.int .i64 kk,.str w] id L RL i o (fun _=>.tup []) (mustP L k w i):=by
 unfold mustP
 cases hk:isT L k w i with
 | true=>
  refine okc_of hR (fun n=>by simp [PV.under,underL]) fun bx hid hc=>?_
  have t1:=okc_use hid hc hR (okc_take_t (o:=o) hR hi hT k kk hkk w hk)
  rw [callL_enter (fn:=Tryz.f102) (c:=Tryz.f102.body.getD .skip) rfl rfl fat_parse_parser_must rfl ok_parse_parser_must (Nat.le_of_ble_eq_true rfl)]
  have pbp:pureL [PV.bp id 0]=false:=rfl
  unfold PSR
  obtain ⟨ev,eo,so,co,⟨hev,hco⟩,R⟩:=RULES CC;rw [<- hev]
  rw [<- hco] at t1
  simp only [fpart,part',Tryz.f102,Option.getD]
  simp only [S9,R,seval,PY,PZ,pbp,t1,hid]
  exact ⟨_,rfl⟩
 | false=>
  refine ⟨i,o,badx_of hR fun bx hid hc=>?_⟩
  have t1:=okc_use hid hc hR (okc_take_f (o:=o) hR hi hT k kk hkk w hk)
  have t2:=okc_use hid hc hR (okc_token (o:=o) hR hi)
  have t3:=badx_use hid hc hR (badx_fail (i:=i) (o:=o) (L:=L) hR (tokAt L i).1 (tokAt L i).2.1 (tokAt L i).2.2 12)
  rw [callL_enter (fn:=Tryz.f102) (c:=Tryz.f102.body.getD .skip) rfl rfl fat_parse_parser_must rfl ok_parse_parser_must (Nat.le_of_ble_eq_true rfl)]
  have pbp:pureL [PV.bp id 0]=false:=rfl
  unfold PSR atT
  obtain ⟨ev,eo,so,co,⟨hev,hco⟩,R⟩:=RULES CC;rw [<- hev]
  rw [<- hco] at t1 t2 t3
  simp only [fpart,part',Tryz.f102,Option.getD]
  simp only [S9,R,seval,PY,PZ,pbp,t1,t2,t3,hid]
  exact ⟨_,rfl⟩
theorem ans_one {id:Nat} {L:List Tk} {i o:Nat} {RL:PV} (hR:RL.pure=true) (hi:i < L.length) (hT:TokOK L) (k:Nat) (kk:Int) (hkk:kk=(k:Int)):ANS 50 [.int .i64 kk] id L RL i o tkV (oneP L k i):=by
 subst hkk
 unfold oneP
 have hq:=natBne (tokAt L i).1 k
 have hw:IntKind.wrap .i64 ((i:Int)+1)=((i+1:Nat):Int):=by rw [wrap_i64 ⟨by omega,by have:=hT.len;omega⟩];omega
 by_cases hk:(tokAt L i).1=k
 · rw [if_pos hk]
   refine okc_of hR (fun n=>tkV_under n _) fun bx hid hc=>?_
   have t2:=okc_use hid hc hR (okc_token (o:=o) hR hi)
   rw [beq_iff_eq.2 hk] at hq
   rw [callL_enter (fn:=Tryz.f50) (c:=Tryz.f50.body.getD .skip) rfl rfl fat_parse_parser_one rfl ok_parse_parser_one (Nat.le_of_ble_eq_true rfl)]
   have pbp:pureL [PV.bp id 0]=false:=rfl
   unfold PSR
   obtain ⟨ev,eo,so,co,⟨hev,hco⟩,R⟩:=RULES CC;rw [<- hev]
   rw [<- hco] at t2
   simp only [fpart,part',Tryz.f50,Option.getD]
   simp only [S9,R,seval,PY,PZ,pbp,t2,hq,hw,hid]
   exact ⟨_,rfl⟩
 · rw [if_neg hk]
   refine ⟨i,o,badx_of hR fun bx hid hc=>?_⟩
   have t2:=okc_use hid hc hR (okc_token (o:=o) hR hi)
   have t3:=badx_use hid hc hR (badx_fail (i:=i) (o:=o) (L:=L) hR (tokAt L i).1 (tokAt L i).2.1 (tokAt L i).2.2 12)
   rw [beq_eq_false_iff_ne.2 hk] at hq
   rw [callL_enter (fn:=Tryz.f50) (c:=Tryz.f50.body.getD .skip) rfl rfl fat_parse_parser_one rfl ok_parse_parser_one (Nat.le_of_ble_eq_true rfl)]
   have pbp:pureL [PV.bp id 0]=false:=rfl
   unfold PSR atT
   obtain ⟨ev,eo,so,co,⟨hev,hco⟩,R⟩:=RULES CC;rw [<- hev]
   rw [<- hco] at t2 t3
   simp only [fpart,part',Tryz.f50,Option.getD]
   simp only [S9,R,seval,PY,PZ,pbp,t2,t3,hq,hid]
   exact ⟨_,rfl⟩
theorem ans_name {id:Nat} {L:List Tk} {i o:Nat} {RL:PV} (hR:RL.pure=true) (hi:i < L.length) (hT:TokOK L):ANS 103 [] id L RL i o (fun s=>.str s) (nameP L i):=by
 have h1:=ans_one (o:=o) (i:=i) hR hi hT 1 1 rfl (id:=id)
 have hv:=op_names_Valid (tokAt L i).2.1 (by have:=hT.word i;omega)
 unfold nameP
 unfold oneP at h1
 by_cases hk:(tokAt L i).1=1
 · rw [if_pos hk] at h1 ⊢
   cases hb:valB (tokAt L i).2.1 with
   | true=>
    rw [hb] at hv
    refine okc_of hR (fun n=>by simp [PV.under]) fun bx hid hc=>?_
    have t1:=okc_use hid hc hR h1
    rw [callL_enter (fn:=Tryz.f103) (c:=Tryz.f103.body.getD .skip) rfl rfl fat_parse_parser_name rfl ok_parse_parser_name (Nat.le_of_ble_eq_true rfl)]
    have pbp:pureL [PV.bp id 0]=false:=rfl
    unfold PSR
    obtain ⟨ev,eo,so,co,⟨hev,hco⟩,R⟩:=RULES CC;rw [<- hev]
    rw [<- hco] at t1 hv
    simp only [fpart,part',Tryz.f103,Option.getD]
    simp only [S9,R,seval,PY,PZ,pbp,t1,hv,hid]
    exact ⟨_,rfl⟩
   | false=>
    rw [hb] at hv
    refine ⟨i+1,o,badx_of hR fun bx hid hc=>?_⟩
    have t1:=okc_use hid hc hR h1
    have t3:=badx_use hid hc hR (badx_fail (i:=i+1) (o:=o) (L:=L) hR (tokAt L i).1 (tokAt L i).2.1 (tokAt L i).2.2 10)
    rw [callL_enter (fn:=Tryz.f103) (c:=Tryz.f103.body.getD .skip) rfl rfl fat_parse_parser_name rfl ok_parse_parser_name (Nat.le_of_ble_eq_true rfl)]
    have pbp:pureL [PV.bp id 0]=false:=rfl
    unfold PSR atT
    obtain ⟨ev,eo,so,co,⟨hev,hco⟩,R⟩:=RULES CC;rw [<- hev]
    rw [<- hco] at t1 hv t3
    simp only [fpart,part',Tryz.f103,Option.getD]
    simp only [S9,R,seval,PY,PZ,pbp,t1,hv,t3,hid]
    exact ⟨_,rfl⟩
 · rw [if_neg hk] at h1 ⊢
   obtain ⟨i',o',h1⟩:=h1
   refine ⟨i',o',badx_of hR fun bx hid hc=>?_⟩
   have t1:=badx_use hid hc hR h1
   rw [callL_enter (fn:=Tryz.f103) (c:=Tryz.f103.body.getD .skip) rfl rfl fat_parse_parser_name rfl ok_parse_parser_name (Nat.le_of_ble_eq_true rfl)]
   have pbp:pureL [PV.bp id 0]=false:=rfl
   unfold PSR
   obtain ⟨ev,eo,so,co,⟨hev,hco⟩,R⟩:=RULES CC;rw [<- hev]
   rw [<- hco] at t1 hv
   simp only [fpart,part',Tryz.f103,Option.getD]
   simp only [S9,R,seval,PY,PZ,pbp,t1,hv,hid]
   exact ⟨_,rfl⟩
end Go.HH
namespace Go.HH
open Go Go.Proofs
set_option maxRecDepth 100000
set_option maxHeartbeats 4000000
set_option linter.unusedSimpArgs false
set_option linter.unusedVariables false
theorem ok_parse_amount:fnOK CC Tryz.f143 (Tryz.f143.body.getD .skip)=true:=by kernel_rfl
theorem fat_parse_amount:CC.P.funcs[143]?=some Tryz.f143:=by kernel_rfl
theorem ok_parse_parser_number:fnOK CC Tryz.f106 (Tryz.f106.body.getD .skip)=true:=by kernel_rfl
theorem fat_parse_parser_number:CC.P.funcs[106]?=some Tryz.f106:=by kernel_rfl
theorem ok_parse_parser_two:fnOK CC Tryz.f163 (Tryz.f163.body.getD .skip)=true:=by kernel_rfl
theorem fat_parse_parser_two:CC.P.funcs[163]?=some Tryz.f163:=by kernel_rfl
theorem ok_parse_parser_path:fnOK CC Tryz.f145 (Tryz.f145.body.getD .skip)=true:=by kernel_rfl
theorem fat_parse_parser_path:CC.P.funcs[145]?=some Tryz.f145:=by kernel_rfl
theorem ok_parse_parser_key:fnOK CC Tryz.f144 (Tryz.f144.body.getD .skip)=true:=by kernel_rfl
theorem fat_parse_parser_key:CC.P.funcs[144]?=some Tryz.f144:=by kernel_rfl
theorem ok_parse_parser_clock:fnOK CC Tryz.f146 (Tryz.f146.body.getD .skip)=true:=by kernel_rfl
theorem fat_parse_parser_clock:CC.P.funcs[146]?=some Tryz.f146:=by kernel_rfl
theorem ok_parse_parser_enter:fnOK CC Tryz.f140 (Tryz.f140.body.getD .skip)=true:=by kernel_rfl
theorem fat_parse_parser_enter:CC.P.funcs[140]?=some Tryz.f140:=by kernel_rfl
theorem ok_parse_literal:fnOK CC Tryz.f104 (Tryz.f104.body.getD .skip)=true:=by kernel_rfl
theorem fat_parse_literal:CC.P.funcs[104]?=some Tryz.f104:=by kernel_rfl
theorem ok_parse_node:fnOK CC Tryz.f141 (Tryz.f141.body.getD .skip)=true:=by kernel_rfl
theorem fat_parse_node:CC.P.funcs[141]?=some Tryz.f141:=by kernel_rfl
theorem next_lt {L:List Tk} {i:Nat} (hT:TokOK L) (hi:i < L.length) (h:(tokAt L i).1≠0):i+1 < L.length:=by
 rcases Nat.lt_or_ge (i+1) L.length with h1 | h1
 · exact h1
 · have:i=L.length - 1:=by omega
   rw [this] at h
   exact absurd hT.last h
theorem isT_lt {L:List Tk} {i k:Nat} {w:List UInt8} (hT:TokOK L) (hi:i < L.length) (h:isT L k w i=true) (hk:k≠0):i+1 < L.length:=by
 refine next_lt hT hi ?_
 unfold isT at h
 simp only [Bool.and_eq_true,beq_iff_eq] at h
 rw [h.1];exact hk
theorem bind_ok {α β:Type} {r:PR α} {f:α->Nat->PR β} {b:β} {j:Nat} (h:r.bind f=.ok b j):∃ a k,r=.ok a k∧f a k=.ok b j:=by
 cases r with
 | ok a k=>exact ⟨a,k,rfl,h⟩
 | bad t e=>cases h
 | out=>cases h
theorem mustP_lt {L:List Tk} {i k:Nat} {w:List UInt8} {a:Unit} {j:Nat} (hT:TokOK L) (hi:i < L.length) (hk:k≠0) (h:mustP L k w i=.ok a j):i < j∧j < L.length:=by
 unfold mustP at h
 split at h
 · rename_i hh
   injection h with _ h
   have:=isT_lt hT hi hh hk
   omega
 · cases h
theorem nameP_lt {L:List Tk} {i:Nat} {a:List UInt8} {j:Nat} (hT:TokOK L) (hi:i < L.length) (h:nameP L i=.ok a j):i < j∧j < L.length:=by
 unfold nameP at h
 split at h
 · rename_i hh
   split at h
   · injection h with _ h
     have:=next_lt hT hi (by rw [hh];decide)
     omega
   · cases h
 · cases h
theorem nameP_valid {L:List Tk} {i:Nat} {a:List UInt8} {j:Nat} (h:nameP L i=.ok a j):valB a=true:=by
 unfold nameP at h
 split at h
 · split at h
   · rename_i hv
     injection h with h _
     rw [<- h];exact hv
   · cases h
 · cases h
theorem numP_lt {L:List Tk} {lo hi' i:Nat} {a j:Nat} (hT:TokOK L) (hi:i < L.length) (h:numP L lo hi' i=.ok a j):i < j∧j < L.length∧lo<=a∧a<=hi':=by
 unfold numP at h
 split at h
 · rename_i hh
   split at h
   · cases h
   · injection h with h1 h
     have:=next_lt hT hi (by rw [hh];decide)
     omega
 · cases h
theorem twoP_lt {L:List Tk} {hi' i:Nat} {a j:Nat} (hT:TokOK L) (hi:i < L.length) (h:twoP L hi' i=.ok a j):i < j∧j < L.length∧a<=hi':=by
 unfold twoP at h
 split at h
 · cases h
 · have:=numP_lt hT hi h
   omega
theorem ans_ok {α:Type} {f:FuncId} {xs:List PV} {id:Nat} {L:List Tk} {RL:PV} {i o:Nat} {enc:α->PV} {a:α} {j:Nat} (h:OKc f xs id L RL i o (enc a) j o):ANS f xs id L RL i o enc (.ok a j):=h
theorem ans_bad {α:Type} {f:FuncId} {xs:List PV} {id:Nat} {L:List Tk} {RL:PV} {i o:Nat} {enc:α->PV} {t:Nat} {e:Int} (h:∃ i' o',BADx f xs id L RL i o t e i' o'):ANS (α:=α) f xs id L RL i o enc (.bad t e):=h
theorem ans_out {α:Type} {f:FuncId} {xs:List PV} {id:Nat} {L:List Tk} {RL:PV} {i o:Nat} {enc:α->PV}:ANS (α:=α) f xs id L RL i o enc .out:=trivial
theorem amtN_ge:∀ (w:List UInt8) (n:Nat),n<=amtN w n
 | [],n=>Nat.le_refl n
 | b :: r,n=>by
  have:=amtN_ge r (10 * n+(b.toNat - 48))
  show n<=amtN r (10 * n+(b.toNat - 48))
  omega
theorem loop_amount (Lc:Code) (hL:Lc=fpart Tryz.f143 [1,1,0,1,0]) (k a:Int) (tx:List UInt8) (hs:tx.length<=20000) (hd:∀ b ∈ tx,48<=b.toNat∧b.toNat<=57) (hn:amtN tx 0<=1099511627776):∀ (m i n:Nat) (e:List PV),i+m=tx.length->amtN (tx.drop i) n=amtN tx 0->getT e 1=.bp 0 0->getT e 3=.int .i64 n->getT e 4=.int .i64 i ->
 ∃ e',evL CC Lc ⟨e,[.cells 80 [.int .i64 k,.str tx,.int .i64 a]]⟩=some (.exit 0,⟨e',[.cells 80 [.int .i64 k,.str tx,.int .i64 a]]⟩)∧getT e' 3=.int .i64 (amtN tx 0:Nat):=by
 intro m
 induction m with
 | zero=>
  intro i n e hm ha h1 h3 h4
  rw [evL_at (fpart Tryz.f143 [1,1,0,1,0,0]) hL]
  have hi:¬ (i:Int) < (tx.length:Int):=by omega
  have hlen:=len_str tx
  have hz:amtN (tx.drop i) n=n:=by rw [List.drop_of_length_le (by omega)];rfl
  rw [hz] at ha
  obtain ⟨ev,eo,so,co,⟨hev,hco⟩,R⟩:=RULES CC;rw [<- hev]
  simp only [fpart,part',Tryz.f143,Option.getD]
  simp only [S9,R,seval,ZC,nchP,List.set_cons_zero,List.set_cons_succ,h1,h3,h4,hi,hlen]
  exact ⟨_,rfl,by simp only [S7,R,seval,h3,ha]⟩
 | succ m ih=>
  intro i n e hm ha h1 h3 h4
  rw [evL_at (fpart Tryz.f143 [1,1,0,1,0,0]) hL]
  have hi:(i:Int) < (tx.length:Int):=by omega
  have hlen:=len_str tx
  have hx:tx[i]?=some tx[i]:=by simp
  have hix:=ix_str tx i tx[i] hx
  have hdd:=hd tx[i] (List.getElem_mem _)
  have hdr:tx.drop i=tx[i] :: tx.drop (i+1):=List.drop_eq_getElem_cons (by omega)
  rw [hdr] at ha
  generalize tx[i]=c at *
  have ha':amtN (tx.drop (i+1)) (10 * n+(c.toNat - 48))=amtN tx 0:=ha
  have hge:=amtN_ge (tx.drop (i+1)) (10 * n+(c.toNat - 48))
  have w2:IntKind.wrap .u8 ((c.toNat:Int) - 48)=(c.toNat:Int) - 48:=by simp [IntKind.wrap,IntKind.bits,IntKind.signed];omega
  have w3:=conv_u8_i ((c.toNat:Int) - 48) ⟨by omega,by omega⟩
  have w1:=wrap_i64 (n:=10 * (n:Int)) ⟨by omega,by omega⟩
  have w4:=wrap_i64 (n:=10 * (n:Int)+((c.toNat:Int) - 48)) ⟨by omega,by omega⟩
  have hw:=wrap_i64 (n:=(i:Int)+1) ⟨by omega,by omega⟩
  have hcast:((10 * n+(c.toNat - 48):Nat):Int)=10 * (n:Int)+((c.toNat:Int) - 48):=by omega
  have cast1:((i+1:Nat):Int)=(i:Int)+1:=by omega
  have key:=fun e=>ih (i+1) (10 * n+(c.toNat - 48)) e (by omega) ha'
  rw [hcast,cast1] at key
  obtain ⟨ev,eo,so,co,⟨hev,hco⟩,R⟩:=RULES CC;rw [<- hev]
  rw [<- hev] at key
  simp only [fpart,part',Tryz.f143,Option.getD]
  simp only [S9,R,seval,ZC,nchP,List.set_cons_zero,List.set_cons_succ,h1,h3,h4,hi,hlen,hix,w1,w2,w3,w4,hw]
  refine key _ ?_ ?_ ?_
  · simp only [S7,R,seval,h1]
  · simp only [S7,R,seval]
  · simp only [S7,R,seval]
theorem op_parse_amount (t:Tk) (hs:t.2.1.length<=20000) (hd:∀ b ∈ t.2.1,48<=b.toNat∧b.toNat<=57) (hn:amtN t.2.1 0<=1099511627776) (bx):callOp CC (callL CC) 143 [tkV t] bx=some (.ret (.int .i64 (amtN t.2.1 0:Nat)),bx):=by
 suffices h:∃ b,callL CC 143 [tkV t] []=some (.ret (.int .i64 (amtN t.2.1 0:Nat)),b) by
  obtain ⟨b,h⟩:=h
  exact callOp_of rfl (by simp [pureL,PV.pure,tkV]) h rfl
 obtain ⟨k,tx,a⟩:=t
 simp only at hs hd hn
 unfold tkV
 simp only
 rw [callL_enter (fn:=Tryz.f143) (c:=Tryz.f143.body.getD .skip) rfl rfl fat_parse_amount rfl ok_parse_amount (Nat.le_of_ble_eq_true rfl)]
 have hloop:=fun e=>loop_amount _ rfl k a tx hs hd hn tx.length 0 0 e (by omega) rfl
 simp only [fpart,part',Tryz.f143,Option.getD] at hloop ⊢
 obtain ⟨ev,eo,so,co,⟨hev,hco⟩,R⟩:=RULES CC;rw [<- hev]
 rw [<- hev] at hloop
 simp only [S9,R,seval,ZC,nchP,List.set_cons_zero,List.set_cons_succ,hloop]
 generalize hE:ev _ _=z
 have hP:∃ e',z=some (.exit 0,⟨e',[.cells 80 [.int .i64 k,.str tx,.int .i64 a]]⟩)∧getT e' 3=.int .i64 (amtN tx 0:Nat):=by
  rw [<- hE]
  refine hloop _ ?_ ?_ ?_
  · simp only [S7,R,seval]
  · simp only [S7,R,seval] <;> rfl
  · simp only [S7,R,seval] <;> rfl
 obtain ⟨e',he,h3⟩:=hP
 subst he
 clear hE hloop
 simp only [S9,R,seval,ZC,nchP,List.set_cons_zero,List.set_cons_succ,h3]
 exact ⟨_,rfl⟩
theorem ans_number {id:Nat} {L:List Tk} {i o:Nat} {RL:PV} (hR:RL.pure=true) (hi:i < L.length) (hT:TokOK L) (lo hi':Nat) (klo khi:Int) (h1:klo=(lo:Int)) (h2:khi=(hi':Int)):ANS 106 [.int .i64 klo,.int .i64 khi] id L RL i o (fun n=>.int .i64 ((n:Nat):Int)) (numP L lo hi' i):=by
 have h3:=ans_one (o:=o) (i:=i) hR hi hT 2 2 rfl (id:=id)
 unfold numP
 unfold oneP at h3
 by_cases hk:(tokAt L i).1=2
 · rw [if_pos hk] at h3 ⊢
   have ham:=op_parse_amount (tokAt L i) (hT.word i) (hT.num i hk).1 (hT.num i hk).2
   generalize hA:amtN (tokAt L i).2.1 0=A at *
   by_cases c1:A < lo
   · rw [if_pos (.inl c1)]
     have c1':(A:Int) < klo:=by omega
     refine ⟨i+1,o,badx_of hR fun bx hid hc=>?_⟩
     have t1:=okc_use hid hc hR h3
     have t3:=badx_use hid hc hR (badx_fail (i:=i+1) (o:=o) (L:=L) hR (tokAt L i).1 (tokAt L i).2.1 (tokAt L i).2.2 2)
     rw [callL_enter (fn:=Tryz.f106) (c:=Tryz.f106.body.getD .skip) rfl rfl fat_parse_parser_number rfl ok_parse_parser_number (Nat.le_of_ble_eq_true rfl)]
     have pbp:pureL [PV.bp id 0]=false:=rfl
     unfold PSR atT tkV at *
     obtain ⟨ev,eo,so,co,⟨hev,hco⟩,R⟩:=RULES CC;rw [<- hev]
     rw [<- hco] at t1 ham t3
     simp only [fpart,part',Tryz.f106,Option.getD]
     simp only [S9,R,seval,PY,PZ,pbp,t1,ham,t3,c1',hid]
     exact ⟨_,rfl⟩
   · have c1':¬ (A:Int) < klo:=by omega
     by_cases c2:hi' < A
     · rw [if_pos (.inr c2)]
       have c2':(A:Int) > khi:=by omega
       refine ⟨i+1,o,badx_of hR fun bx hid hc=>?_⟩
       have t1:=okc_use hid hc hR h3
       have t3:=badx_use hid hc hR (badx_fail (i:=i+1) (o:=o) (L:=L) hR (tokAt L i).1 (tokAt L i).2.1 (tokAt L i).2.2 2)
       rw [callL_enter (fn:=Tryz.f106) (c:=Tryz.f106.body.getD .skip) rfl rfl fat_parse_parser_number rfl ok_parse_parser_number (Nat.le_of_ble_eq_true rfl)]
       have pbp:pureL [PV.bp id 0]=false:=rfl
       unfold PSR atT tkV at *
       obtain ⟨ev,eo,so,co,⟨hev,hco⟩,R⟩:=RULES CC;rw [<- hev]
       rw [<- hco] at t1 ham t3
       simp only [fpart,part',Tryz.f106,Option.getD]
       simp only [S9,R,seval,PY,PZ,pbp,t1,ham,t3,c1',c2',hid]
       exact ⟨_,rfl⟩
     · rw [if_neg (by omega)]
       have c2':¬ (A:Int) > khi:=by omega
       refine ans_ok (okc_of hR (fun n=>by simp [PV.under]) fun bx hid hc=>?_)
       have t1:=okc_use hid hc hR h3
       rw [callL_enter (fn:=Tryz.f106) (c:=Tryz.f106.body.getD .skip) rfl rfl fat_parse_parser_number rfl ok_parse_parser_number (Nat.le_of_ble_eq_true rfl)]
       have pbp:pureL [PV.bp id 0]=false:=rfl
       unfold PSR tkV at *
       obtain ⟨ev,eo,so,co,⟨hev,hco⟩,R⟩:=RULES CC;rw [<- hev]
       rw [<- hco] at t1 ham
       simp only [fpart,part',Tryz.f106,Option.getD]
       simp only [S9,R,seval,PY,PZ,pbp,t1,ham,c1',c2',hid]
       exact ⟨_,rfl⟩
 · rw [if_neg hk] at h3 ⊢
   obtain ⟨i',o',h3⟩:=h3
   refine ⟨i',o',badx_of hR fun bx hid hc=>?_⟩
   have t1:=badx_use hid hc hR h3
   rw [callL_enter (fn:=Tryz.f106) (c:=Tryz.f106.body.getD .skip) rfl rfl fat_parse_parser_number rfl ok_parse_parser_number (Nat.le_of_ble_eq_true rfl)]
   have pbp:pureL [PV.bp id 0]=false:=rfl
   unfold PSR
   obtain ⟨ev,eo,so,co,⟨hev,hco⟩,R⟩:=RULES CC;rw [<- hev]
   rw [<- hco] at t1
   simp only [fpart,part',Tryz.f106,Option.getD]
   simp only [S9,R,seval,PY,PZ,pbp,t1,hid]
   exact ⟨_,rfl⟩
end Go.HH
namespace Go.HH
open Go Go.Proofs
set_option maxRecDepth 100000
set_option maxHeartbeats 4000000
set_option linter.unusedSimpArgs false
set_option linter.unusedVariables false
def kyP (k:Ky):PV:=.agg [.int .i64 k.1,.str k.2.1,.str k.2.2]
theorem bind_okk {α β:Type} (a:α) (i:Nat) (f:α->Nat->PR β):(PR.ok a i).bind f=f a i:=rfl
theorem ans_two {id:Nat} {L:List Tk} {i o:Nat} {RL:PV} (hR:RL.pure=true) (hi:i < L.length) (hT:TokOK L) (hi':Nat) (khi:Int) (h2:khi=(hi':Int)):ANS 163 [.int .i64 khi] id L RL i o (fun n=>.int .i64 ((n:Nat):Int)) (twoP L hi' i):=by
 have h0:=okc_token (id:=id) (o:=o) hR hi
 have hq:=natBeq (tokAt L i).1 2
 have hlen:=len_str (tokAt L i).2.1
 have hl2:=natBne (tokAt L i).2.1.length 2
 have h1:=ans_number (id:=id) (o:=o) hR hi hT 0 hi' 0 khi rfl h2
 unfold twoP
 by_cases hk:(tokAt L i).1=2
 · rw [beq_iff_eq.2 hk] at hq
   have hq:(((tokAt L i).1:Int) == 2)=true:=hq
   by_cases hl:(tokAt L i).2.1.length=2
   · rw [if_neg (by omega)]
     rw [beq_iff_eq.2 hl] at hl2
     have hl2:(((tokAt L i).2.1.length:Int) != 2)=false:=hl2
     cases r1:numP L 0 hi' i with
     | out=>exact ans_out
     | bad t e=>
      rw [r1] at h1
      obtain ⟨i',o',h1⟩:=h1
      refine ans_bad ⟨i',o',badx_of hR fun bx hid hc=>?_⟩
      have t0:=okc_use hid hc hR h0
      have t1:=badx_use hid hc hR h1
      rw [callL_enter (fn:=Tryz.f163) (c:=Tryz.f163.body.getD .skip) rfl rfl fat_parse_parser_two rfl ok_parse_parser_two (Nat.le_of_ble_eq_true rfl)]
      have pbp:pureL [PV.bp id 0]=false:=rfl
      unfold PSR
      obtain ⟨ev,eo,so,co,⟨hev,hco⟩,R⟩:=RULES CC;rw [<- hev]
      rw [<- hco] at t0 t1
      simp only [fpart,part',Tryz.f163,Option.getD]
      simp only [S9,R,seval,PY,PZ,pbp,t0,t1,hq,hlen,hl2,Bool.true_and,hid]
      exact ⟨_,rfl⟩
     | ok a j=>
      rw [r1] at h1
      refine ans_ok (okc_of hR (fun n=>by simp [PV.under]) fun bx hid hc=>?_)
      have t0:=okc_use hid hc hR h0
      have t1:=okc_use hid hc hR h1
      rw [callL_enter (fn:=Tryz.f163) (c:=Tryz.f163.body.getD .skip) rfl rfl fat_parse_parser_two rfl ok_parse_parser_two (Nat.le_of_ble_eq_true rfl)]
      have pbp:pureL [PV.bp id 0]=false:=rfl
      unfold PSR
      obtain ⟨ev,eo,so,co,⟨hev,hco⟩,R⟩:=RULES CC;rw [<- hev]
      rw [<- hco] at t0 t1
      simp only [fpart,part',Tryz.f163,Option.getD]
      simp only [S9,R,seval,PY,PZ,pbp,t0,t1,hq,hlen,hl2,Bool.true_and,hid]
      exact ⟨_,rfl⟩
   · rw [if_pos ⟨hk,hl⟩]
     rw [beq_eq_false_iff_ne.2 hl] at hl2
     have hl2:(((tokAt L i).2.1.length:Int) != 2)=true:=hl2
     refine ans_bad ⟨i,o,badx_of hR fun bx hid hc=>?_⟩
     have t0:=okc_use hid hc hR h0
     have t3:=badx_use hid hc hR (badx_fail (i:=i) (o:=o) (L:=L) hR (tokAt L i).1 (tokAt L i).2.1 (tokAt L i).2.2 12)
     rw [callL_enter (fn:=Tryz.f163) (c:=Tryz.f163.body.getD .skip) rfl rfl fat_parse_parser_two rfl ok_parse_parser_two (Nat.le_of_ble_eq_true rfl)]
     have pbp:pureL [PV.bp id 0]=false:=rfl
     unfold PSR atT
     obtain ⟨ev,eo,so,co,⟨hev,hco⟩,R⟩:=RULES CC;rw [<- hev]
     rw [<- hco] at t0 t3
     simp only [fpart,part',Tryz.f163,Option.getD]
     simp only [S9,R,seval,PY,PZ,pbp,t0,t3,hq,hlen,hl2,Bool.true_and,hid]
     exact ⟨_,rfl⟩
 · rw [if_neg (fun h=>hk h.1)]
   rw [beq_eq_false_iff_ne.2 hk] at hq
   have hq:(((tokAt L i).1:Int) == 2)=false:=hq
   have r1:numP L 0 hi' i=.bad (atT L i) 12:=by unfold numP;rw [if_neg hk]
   rw [r1] at h1 ⊢
   obtain ⟨i',o',h1⟩:=h1
   refine ans_bad ⟨i',o',badx_of hR fun bx hid hc=>?_⟩
   have t0:=okc_use hid hc hR h0
   have t1:=badx_use hid hc hR h1
   rw [callL_enter (fn:=Tryz.f163) (c:=Tryz.f163.body.getD .skip) rfl rfl fat_parse_parser_two rfl ok_parse_parser_two (Nat.le_of_ble_eq_true rfl)]
   have pbp:pureL [PV.bp id 0]=false:=rfl
   unfold PSR
   obtain ⟨ev,eo,so,co,⟨hev,hco⟩,R⟩:=RULES CC;rw [<- hev]
   rw [<- hco] at t0 t1
   simp only [fpart,part',Tryz.f163,Option.getD]
   simp only [S9,R,seval,PY,PZ,pbp,t0,t1,hq,Bool.false_and,hid]
   exact ⟨_,rfl⟩
theorem ans_path {id:Nat} {L:List Tk} {i o:Nat} {RL:PV} (hR:RL.pure=true) (hi:i < L.length) (hT:TokOK L):ANS 145 [] id L RL i o (fun k=>.tup [.int .i64 k.1,.str k.2.1,.str k.2.2]) (pathP L i):=by
 unfold pathP
 have h0:=ans_number (id:=id) (o:=o) (i:=i) hR hi hT 1 250 1 250 rfl rfl
 cases r0:numP L 1 250 i with
 | out=>exact ans_out
 | bad t e=>
  rw [r0] at h0
  obtain ⟨i',o',h0⟩:=h0
  refine ans_bad ⟨i',o',badx_of hR fun bx hid hc=>?_⟩
  have t0:=badx_use hid hc hR h0
  rw [callL_enter (fn:=Tryz.f145) (c:=Tryz.f145.body.getD .skip) rfl rfl fat_parse_parser_path rfl ok_parse_parser_path (Nat.le_of_ble_eq_true rfl)]
  have pbp:pureL [PV.bp id 0]=false:=rfl
  unfold PSR
  obtain ⟨ev,eo,so,co,⟨hev,hco⟩,R⟩:=RULES CC;rw [<- hev]
  rw [<- hco] at t0
  simp only [fpart,part',Tryz.f145,Option.getD]
  simp only [S9,R,seval,PY,PZ,pbp,t0,hid]
  exact ⟨_,rfl⟩
 | ok a0 i0=>
  rw [r0] at h0
  dsimp only [bind_okk]
  have j0:=numP_lt hT hi r0
  have hi0:=j0.2.1
  have h1:=ans_must (id:=id) (o:=o) (i:=i0) hR hi0 hT 4 4 rfl [46]
  cases r1:mustP L 4 [46] i0 with
  | out=>exact ans_out
  | bad t e=>
   rw [r1] at h1
   obtain ⟨i',o',h1⟩:=h1
   refine ans_bad ⟨i',o',badx_of hR fun bx hid hc=>?_⟩
   have t0:=okc_use hid hc hR h0
   have t1:=badx_use hid hc hR h1
   rw [callL_enter (fn:=Tryz.f145) (c:=Tryz.f145.body.getD .skip) rfl rfl fat_parse_parser_path rfl ok_parse_parser_path (Nat.le_of_ble_eq_true rfl)]
   have pbp:pureL [PV.bp id 0]=false:=rfl
   unfold PSR
   obtain ⟨ev,eo,so,co,⟨hev,hco⟩,R⟩:=RULES CC;rw [<- hev]
   rw [<- hco] at t0 t1
   simp only [fpart,part',Tryz.f145,Option.getD]
   simp only [S9,R,seval,PY,PZ,pbp,t0,t1,hid]
   exact ⟨_,rfl⟩
  | ok a1 i1=>
   rw [r1] at h1
   dsimp only [bind_okk]
   have j1:=mustP_lt hT hi0 (by decide) r1
   have hi1:=j1.2
   have h2:=ans_name (id:=id) (o:=o) (i:=i1) hR hi1 hT
   cases r2:nameP L i1 with
   | out=>exact ans_out
   | bad t e=>
    rw [r2] at h2
    obtain ⟨i',o',h2⟩:=h2
    refine ans_bad ⟨i',o',badx_of hR fun bx hid hc=>?_⟩
    have t0:=okc_use hid hc hR h0
    have t1:=okc_use hid hc hR h1
    have t2:=badx_use hid hc hR h2
    rw [callL_enter (fn:=Tryz.f145) (c:=Tryz.f145.body.getD .skip) rfl rfl fat_parse_parser_path rfl ok_parse_parser_path (Nat.le_of_ble_eq_true rfl)]
    have pbp:pureL [PV.bp id 0]=false:=rfl
    unfold PSR
    obtain ⟨ev,eo,so,co,⟨hev,hco⟩,R⟩:=RULES CC;rw [<- hev]
    rw [<- hco] at t0 t1 t2
    simp only [fpart,part',Tryz.f145,Option.getD]
    simp only [S9,R,seval,PY,PZ,pbp,t0,t1,t2,hid]
    exact ⟨_,rfl⟩
   | ok a2 i2=>
    rw [r2] at h2
    dsimp only [bind_okk]
    have j2:=nameP_lt hT hi1 r2
    have hi2:=j2.2
    have h3:=ans_must (id:=id) (o:=o) (i:=i2) hR hi2 hT 4 4 rfl [46]
    cases r3:mustP L 4 [46] i2 with
    | out=>exact ans_out
    | bad t e=>
     rw [r3] at h3
     obtain ⟨i',o',h3⟩:=h3
     refine ans_bad ⟨i',o',badx_of hR fun bx hid hc=>?_⟩
     have t0:=okc_use hid hc hR h0
     have t1:=okc_use hid hc hR h1
     have t2:=okc_use hid hc hR h2
     have t3:=badx_use hid hc hR h3
     rw [callL_enter (fn:=Tryz.f145) (c:=Tryz.f145.body.getD .skip) rfl rfl fat_parse_parser_path rfl ok_parse_parser_path (Nat.le_of_ble_eq_true rfl)]
     have pbp:pureL [PV.bp id 0]=false:=rfl
     unfold PSR
     obtain ⟨ev,eo,so,co,⟨hev,hco⟩,R⟩:=RULES CC;rw [<- hev]
     rw [<- hco] at t0 t1 t2 t3
     simp only [fpart,part',Tryz.f145,Option.getD]
     simp only [S9,R,seval,PY,PZ,pbp,t0,t1,t2,t3,hid]
     exact ⟨_,rfl⟩
    | ok a3 i3=>
     rw [r3] at h3
     dsimp only [bind_okk]
     have j3:=mustP_lt hT hi2 (by decide) r3
     have hi3:=j3.2
     have h4:=ans_name (id:=id) (o:=o) (i:=i3) hR hi3 hT
     cases r4:nameP L i3 with
     | out=>exact ans_out
     | bad t e=>
      rw [r4] at h4
      obtain ⟨i',o',h4⟩:=h4
      refine ans_bad ⟨i',o',badx_of hR fun bx hid hc=>?_⟩
      have t0:=okc_use hid hc hR h0
      have t1:=okc_use hid hc hR h1
      have t2:=okc_use hid hc hR h2
      have t3:=okc_use hid hc hR h3
      have t4:=badx_use hid hc hR h4
      rw [callL_enter (fn:=Tryz.f145) (c:=Tryz.f145.body.getD .skip) rfl rfl fat_parse_parser_path rfl ok_parse_parser_path (Nat.le_of_ble_eq_true rfl)]
      have pbp:pureL [PV.bp id 0]=false:=rfl
      unfold PSR
      obtain ⟨ev,eo,so,co,⟨hev,hco⟩,R⟩:=RULES CC;rw [<- hev]
      rw [<- hco] at t0 t1 t2 t3 t4
      simp only [fpart,part',Tryz.f145,Option.getD]
      simp only [S9,R,seval,PY,PZ,pbp,t0,t1,t2,t3,t4,hid]
      exact ⟨_,rfl⟩
     | ok a4 i4=>
      rw [r4] at h4
      dsimp only [bind_okk]
      have j4:=nameP_lt hT hi3 r4
      have hi4:=j4.2
      refine ans_ok (okc_of hR (fun n=>by simp [PV.under,underL]) fun bx hid hc=>?_)
      have t0:=okc_use hid hc hR h0
      have t1:=okc_use hid hc hR h1
      have t2:=okc_use hid hc hR h2
      have t3:=okc_use hid hc hR h3
      have t4:=okc_use hid hc hR h4
      rw [callL_enter (fn:=Tryz.f145) (c:=Tryz.f145.body.getD .skip) rfl rfl fat_parse_parser_path rfl ok_parse_parser_path (Nat.le_of_ble_eq_true rfl)]
      have pbp:pureL [PV.bp id 0]=false:=rfl
      unfold PSR
      obtain ⟨ev,eo,so,co,⟨hev,hco⟩,R⟩:=RULES CC;rw [<- hev]
      rw [<- hco] at t0 t1 t2 t3 t4
      simp only [fpart,part',Tryz.f145,Option.getD]
      simp only [S9,R,seval,PY,PZ,pbp,t0,t1,t2,t3,t4,hid]
      exact ⟨_,rfl⟩
theorem pathP_lt {L:List Tk} {i:Nat} {a:Ky} {j:Nat} (hT:TokOK L) (hi:i < L.length) (h:pathP L i=.ok a j):i < j∧j < L.length∧valB a.2.1=true∧valB a.2.2=true∧1<=a.1∧a.1<=250:=by
 unfold pathP at h
 obtain ⟨d,i0,r0,h⟩:=bind_ok h
 obtain ⟨_,i1,r1,h⟩:=bind_ok h
 obtain ⟨s,i2,r2,h⟩:=bind_ok h
 obtain ⟨_,i3,r3,h⟩:=bind_ok h
 obtain ⟨u,i4,r4,h⟩:=bind_ok h
 injection h with h1 h2
 have j0:=numP_lt hT hi r0
 have j1:=mustP_lt hT j0.2.1 (by decide) r1
 have j2:=nameP_lt hT j1.2 r2
 have j3:=mustP_lt hT j2.2 (by decide) r3
 have j4:=nameP_lt hT j3.2 r4
 subst h1 h2
 exact ⟨by omega,by omega,nameP_valid r2,nameP_valid r4,by omega,by omega⟩
theorem buildKey (d:Int) (a b:List UInt8):buildP CC 26 [(0,.int .i64 d),(1,.str a),(2,.str b)]=some (.agg [.int .i64 d,.str a,.str b]):=by kernel_rfl
theorem ans_key {id:Nat} {L:List Tk} {i o:Nat} {RL:PV} (hR:RL.pure=true) (hi:i < L.length) (hT:TokOK L):ANS 144 [] id L RL i o kyP (pathP L i):=by
 have h0:=ans_path (id:=id) (o:=o) hR hi hT
 unfold kyP
 cases r0:pathP L i with
 | out=>exact ans_out
 | bad t e=>
  rw [r0] at h0
  obtain ⟨i',o',h0⟩:=h0
  refine ans_bad ⟨i',o',badx_of hR fun bx hid hc=>?_⟩
  have t0:=badx_use hid hc hR h0
  rw [callL_enter (fn:=Tryz.f144) (c:=Tryz.f144.body.getD .skip) rfl rfl fat_parse_parser_key rfl ok_parse_parser_key (Nat.le_of_ble_eq_true rfl)]
  have pbp:pureL [PV.bp id 0]=false:=rfl
  unfold PSR
  obtain ⟨ev,eo,so,co,⟨hev,hco⟩,R⟩:=RULES CC;rw [<- hev]
  rw [<- hco] at t0
  simp only [fpart,part',Tryz.f144,Option.getD]
  simp only [S9,R,seval,PY,PZ,pbp,t0,hid]
  exact ⟨_,rfl⟩
 | ok k j=>
  rw [r0] at h0
  refine ans_ok (okc_of hR (fun n=>by simp [PV.under,underL]) fun bx hid hc=>?_)
  have t0:=okc_use hid hc hR h0
  rw [callL_enter (fn:=Tryz.f144) (c:=Tryz.f144.body.getD .skip) rfl rfl fat_parse_parser_key rfl ok_parse_parser_key (Nat.le_of_ble_eq_true rfl)]
  have pbp:pureL [PV.bp id 0]=false:=rfl
  unfold PSR
  obtain ⟨ev,eo,so,co,⟨hev,hco⟩,R⟩:=RULES CC;rw [<- hev]
  rw [<- hco] at t0
  simp only [fpart,part',Tryz.f144,Option.getD]
  simp only [S9,R,seval,PY,PZ,pbp,t0,buildKey,hid]
  exact ⟨_,rfl⟩
theorem ans_clock {id:Nat} {L:List Tk} {i o:Nat} {RL:PV} (hR:RL.pure=true) (hi:i < L.length) (hT:TokOK L):ANS 146 [] id L RL i o (fun n=>.int .i64 ((n:Nat):Int)) (clockP L i):=by
 unfold clockP
 have h0:=ans_two (id:=id) (o:=o) (i:=i) hR hi hT 23 23 rfl
 cases r0:twoP L 23 i with
 | out=>exact ans_out
 | bad t e=>
  rw [r0] at h0
  obtain ⟨i',o',h0⟩:=h0
  refine ans_bad ⟨i',o',badx_of hR fun bx hid hc=>?_⟩
  have t0:=badx_use hid hc hR h0
  rw [callL_enter (fn:=Tryz.f146) (c:=Tryz.f146.body.getD .skip) rfl rfl fat_parse_parser_clock rfl ok_parse_parser_clock (Nat.le_of_ble_eq_true rfl)]
  have pbp:pureL [PV.bp id 0]=false:=rfl
  unfold PSR
  obtain ⟨ev,eo,so,co,⟨hev,hco⟩,R⟩:=RULES CC;rw [<- hev]
  rw [<- hco] at t0
  simp only [fpart,part',Tryz.f146,Option.getD]
  simp only [S9,R,seval,PY,PZ,pbp,t0,hid]
  exact ⟨_,rfl⟩
 | ok a0 i0=>
  rw [r0] at h0
  dsimp only [bind_okk]
  have j0:=twoP_lt hT hi r0
  have hi0:=j0.2.1
  have hw1:IntKind.wrap .i64 (60 * (a0:Int))=((60 * a0:Nat):Int):=by rw [wrap_i64 ⟨by omega,by omega⟩];omega
  have h1:=ans_must (id:=id) (o:=o) (i:=i0) hR hi0 hT 4 4 rfl [58]
  cases r1:mustP L 4 [58] i0 with
  | out=>exact ans_out
  | bad t e=>
   rw [r1] at h1
   obtain ⟨i',o',h1⟩:=h1
   refine ans_bad ⟨i',o',badx_of hR fun bx hid hc=>?_⟩
   have t0:=okc_use hid hc hR h0
   have t1:=badx_use hid hc hR h1
   rw [callL_enter (fn:=Tryz.f146) (c:=Tryz.f146.body.getD .skip) rfl rfl fat_parse_parser_clock rfl ok_parse_parser_clock (Nat.le_of_ble_eq_true rfl)]
   have pbp:pureL [PV.bp id 0]=false:=rfl
   unfold PSR
   obtain ⟨ev,eo,so,co,⟨hev,hco⟩,R⟩:=RULES CC;rw [<- hev]
   rw [<- hco] at t0 t1
   simp only [fpart,part',Tryz.f146,Option.getD]
   simp only [S9,R,seval,PY,PZ,pbp,t0,t1,hw1,hid]
   exact ⟨_,rfl⟩
  | ok a1 i1=>
   rw [r1] at h1
   dsimp only [bind_okk]
   have j1:=mustP_lt hT hi0 (by decide) r1
   have hi1:=j1.2
   have h2:=ans_two (id:=id) (o:=o) (i:=i1) hR hi1 hT 59 59 rfl
   cases r2:twoP L 59 i1 with
   | out=>exact ans_out
   | bad t e=>
    rw [r2] at h2
    obtain ⟨i',o',h2⟩:=h2
    refine ans_bad ⟨i',o',badx_of hR fun bx hid hc=>?_⟩
    have t0:=okc_use hid hc hR h0
    have t1:=okc_use hid hc hR h1
    have t2:=badx_use hid hc hR h2
    rw [callL_enter (fn:=Tryz.f146) (c:=Tryz.f146.body.getD .skip) rfl rfl fat_parse_parser_clock rfl ok_parse_parser_clock (Nat.le_of_ble_eq_true rfl)]
    have pbp:pureL [PV.bp id 0]=false:=rfl
    unfold PSR
    obtain ⟨ev,eo,so,co,⟨hev,hco⟩,R⟩:=RULES CC;rw [<- hev]
    rw [<- hco] at t0 t1 t2
    simp only [fpart,part',Tryz.f146,Option.getD]
    simp only [S9,R,seval,PY,PZ,pbp,t0,t1,t2,hw1,hid]
    exact ⟨_,rfl⟩
   | ok a2 i2=>
    rw [r2] at h2
    dsimp only [bind_okk]
    have j2:=twoP_lt hT hi1 r2
    have hi2:=j2.2.1
    have hw2:IntKind.wrap .i64 (((60 * a0:Nat):Int)+(a2:Int))=((60 * a0+a2:Nat):Int):=by rw [wrap_i64 ⟨by omega,by omega⟩];omega
    refine ans_ok (okc_of hR (fun n=>by simp [PV.under,underL]) fun bx hid hc=>?_)
    have t0:=okc_use hid hc hR h0
    have t1:=okc_use hid hc hR h1
    have t2:=okc_use hid hc hR h2
    rw [callL_enter (fn:=Tryz.f146) (c:=Tryz.f146.body.getD .skip) rfl rfl fat_parse_parser_clock rfl ok_parse_parser_clock (Nat.le_of_ble_eq_true rfl)]
    have pbp:pureL [PV.bp id 0]=false:=rfl
    unfold PSR
    obtain ⟨ev,eo,so,co,⟨hev,hco⟩,R⟩:=RULES CC;rw [<- hev]
    rw [<- hco] at t0 t1 t2
    simp only [fpart,part',Tryz.f146,Option.getD]
    simp only [S9,R,seval,PY,PZ,pbp,t0,t1,t2,hw1,hw2,hid]
    exact ⟨_,rfl⟩
theorem clockP_lt {L:List Tk} {i:Nat} {a j:Nat} (hT:TokOK L) (hi:i < L.length) (h:clockP L i=.ok a j):i < j∧j < L.length∧a < 1440:=by
 unfold clockP at h
 obtain ⟨x,i0,r0,h⟩:=bind_ok h
 obtain ⟨_,i1,r1,h⟩:=bind_ok h
 obtain ⟨y,i2,r2,h⟩:=bind_ok h
 injection h with h1 h2
 have j0:=twoP_lt hT hi r0
 have j1:=mustP_lt hT j0.2.1 (by decide) r1
 have j2:=twoP_lt hT j1.2 r2
 omega
end Go.HH
namespace Go.HH
open Go Go.Proofs
set_option maxRecDepth 100000
set_option maxHeartbeats 4000000
set_option linter.unusedSimpArgs false
set_option linter.unusedVariables false
theorem ok_parse_parser_day:fnOK CC Tryz.f164 (Tryz.f164.body.getD .skip)=true:=by kernel_rfl
theorem fat_parse_parser_day:CC.P.funcs[164]?=some Tryz.f164:=by kernel_rfl
theorem ok_parse_parser_days:fnOK CC Tryz.f147 (Tryz.f147.body.getD .skip)=true:=by kernel_rfl
theorem fat_parse_parser_days:CC.P.funcs[147]?=some Tryz.f147:=by kernel_rfl
theorem okc_enter {id:Nat} {L:List Tk} {i o:Nat} {RL:PV} (hR:RL.pure=true) (ho:o < 100) (k:Nat) (tx:List UInt8) (a:Nat):OKc 140 [.agg [.int .i64 (k:Int),.str tx,.int .i64 (a:Int)]] id L RL i o (.tup []) i (o+1):=by
 refine okc_of hR (fun n=>by simp [PV.under,underL]) fun bx hid hc=>?_
 have hw:IntKind.wrap .i64 ((o:Int)+1)=((o+1:Nat):Int):=by rw [wrap_i64 ⟨by omega,by omega⟩];omega
 have hg:¬ (((o+1:Nat):Int) > 100):=by omega
 rw [callL_enter (fn:=Tryz.f140) (c:=Tryz.f140.body.getD .skip) rfl rfl fat_parse_parser_enter rfl ok_parse_parser_enter (Nat.le_of_ble_eq_true rfl)]
 have pbp:pureL [PV.bp id 0]=false:=rfl
 unfold PSR
 obtain ⟨ev,eo,so,co,⟨hev,hco⟩,R⟩:=RULES CC;rw [<- hev]
 simp only [fpart,part',Tryz.f140,Option.getD]
 simp only [S9,R,seval,PY,PZ,pbp,hw,hg,hid]
 exact ⟨_,rfl⟩
theorem badx_enter {id:Nat} {L:List Tk} {i o:Nat} {RL:PV} (hR:RL.pure=true) (ho:o=100) (k:Nat) (tx:List UInt8) (a:Nat):BADx 140 [.agg [.int .i64 (k:Int),.str tx,.int .i64 (a:Int)]] id L RL i o a 22 i (o+1):=by
 refine badx_of hR fun bx hid hc=>?_
 have hw:IntKind.wrap .i64 ((o:Int)+1)=((o+1:Nat):Int):=by rw [wrap_i64 ⟨by omega,by omega⟩];omega
 have hg:(((o+1:Nat):Int) > 100):=by omega
 have t3:=badx_use hid hc hR (badx_fail (i:=i) (o:=o+1) (L:=L) hR k tx a 22)
 rw [callL_enter (fn:=Tryz.f140) (c:=Tryz.f140.body.getD .skip) rfl rfl fat_parse_parser_enter rfl ok_parse_parser_enter (Nat.le_of_ble_eq_true rfl)]
 have pbp:pureL [PV.bp id 0]=false:=rfl
 unfold PSR
 obtain ⟨ev,eo,so,co,⟨hev,hco⟩,R⟩:=RULES CC;rw [<- hev]
 rw [<- hco] at t3
 simp only [fpart,part',Tryz.f140,Option.getD]
 simp only [S9,R,seval,PY,PZ,pbp,hw,hg,t3,hid]
 exact ⟨_,rfl⟩
theorem buildVl2 (k n:Int):buildP CC 24 [(0,.int .i64 k),(1,.int .i64 n)]=some (.agg [.int .i64 k,.int .i64 n,.str []]):=by kernel_rfl
theorem buildLit (k n:Int):buildP CC 29 [(0,.int .i64 1),(4,.agg [.int .i64 k,.int .i64 n,.str []])]=some (.agg [.int .i64 1,.int .i64 0,.int .i64 0,.str [],.int .i64 k,.int .i64 n,.str [],.int .i64 0,.str [],.str [],.nils]):=by kernel_rfl
theorem buildNod (k:Int) (xs:List PV):buildP CC 29 [(0,.int .i64 k),(6,.sl xs)]=some (.agg [.int .i64 k,.int .i64 0,.int .i64 0,.str [],.int .i64 0,.int .i64 0,.str [],.int .i64 0,.str [],.str [],.sl xs]):=by kernel_rfl
theorem op_parse_literal (k n:Int) (bx):callOp CC (callL CC) 104 [.int .i64 k,.int .i64 n] bx=some (.ret (trV (litT k n)),bx):=by
 suffices h:∃ b,callL CC 104 [.int .i64 k,.int .i64 n] []=some (.ret (trV (litT k n)),b) by
  obtain ⟨b,h⟩:=h
  exact callOp_of rfl (by simp only [SA,Bool.and_true]) h (trV_pure _)
 rw [callL_enter (fn:=Tryz.f104) (c:=Tryz.f104.body.getD .skip) rfl rfl fat_parse_literal rfl ok_parse_literal (Nat.le_of_ble_eq_true rfl)]
 unfold litT trV trVs zK
 obtain ⟨ev,eo,so,co,⟨hev,hco⟩,R⟩:=RULES CC;rw [<- hev]
 simp only [fpart,part',Tryz.f104,Option.getD]
 simp only [S9,R,seval,ZC,nchP,List.set_cons_zero,List.set_cons_succ,buildVl2,buildLit]
 exact ⟨_,rfl⟩
theorem op_parse_node (k:Int) (kids:List Tr) (bx):callOp CC (callL CC) 141 [.int .i64 k,.sl (trVs kids)] bx=some (.ret (trV (nodT k kids)),bx):=by
 suffices h:∃ b,callL CC 141 [.int .i64 k,.sl (trVs kids)] []=some (.ret (trV (nodT k kids)),b) by
  obtain ⟨b,h⟩:=h
  exact callOp_of rfl (by simp only [SA,SE,trVs_pure,Bool.and_true]) h (trV_pure _)
 rw [callL_enter (fn:=Tryz.f141) (c:=Tryz.f141.body.getD .skip) rfl rfl fat_parse_node rfl ok_parse_node (Nat.le_of_ble_eq_true rfl)]
 unfold nodT trV zK zV
 generalize trVs kids=xs
 obtain ⟨ev,eo,so,co,⟨hev,hco⟩,R⟩:=RULES CC;rw [<- hev]
 simp only [fpart,part',Tryz.f141,Option.getD]
 simp only [S9,R,seval,ZC,nchP,List.set_cons_zero,List.set_cons_succ,buildNod]
 exact ⟨_,rfl⟩
theorem dayA:buildP CC 150 [(0,.str [109,111,110]),(1,.str [116,117,101]),(2,.str [119,101,100]),(3,.str [116,104,117]),(4,.str [102,114,105]),(5,.str [115,97,116]),(6,.str [115,117,110])]=some (.agg (dayWs.map .str)):=by kernel_rfl
theorem dayI:∀ k:Nat,k < 7->indexV CC 150 (.agg (dayWs.map .str)) (.int .i64 (k:Int))=some (.str (dayWs.getD k []))
 | 0,_=>by kernel_rfl
 | 1,_=>by kernel_rfl
 | 2,_=>by kernel_rfl
 | 3,_=>by kernel_rfl
 | 4,_=>by kernel_rfl
 | 5,_=>by kernel_rfl
 | 6,_=>by kernel_rfl
 | k+7,h=>by omega
theorem pickW_lt {L:List Tk} {k i:Nat}:∀ {l:List (List UInt8)} {n r:Nat},pickW L k i l n=some r->n<=r∧r < n+l.length∧isT L k (l.getD (r - n) []) i=true
 | [],n,r,h=>by cases h
 | w :: l,n,r,h=>by
  unfold pickW at h
  split at h
  · rename_i hw
    injection h with h
    subst h
    exact ⟨Nat.le_refl _,by simp,by rw [Nat.sub_self];exact hw⟩
  · obtain ⟨h1,h2,h3⟩:=pickW_lt h
    refine ⟨by omega,by simp only [List.length_cons];omega,?_⟩
    rw [show r - n=(r - (n+1))+1 from by omega]
    exact h3
def PDay (L:List Tk) (RL:PV) (bx:List PBox) (id i o:Nat) (r:Option Nat) (z:Option (Ex×St)):Prop:=match r with
 | some k=>∃ e',z=some (.ret,⟨e',BX bx id (PSR L (i+1) o RL) []⟩)∧getT e' 2=.int .i64 (k:Int)
 | none=>∃ e',z=some (.exit 0,⟨e',BX bx id (PSR L i o RL) []⟩)∧getT e' 0=.bp id 0
theorem loop_day (Lc:Code) (hL:Lc=fpart Tryz.f164 [1,0,1,0]) {id:Nat} {L:List Tk} {i o:Nat} {RL:PV} (hR:RL.pure=true) (hi:i < L.length) (hT:TokOK L) (bx:List PBox) (hid:id < bx.length) (hc:clB bx):∀ (m k:Nat) (e:List PV),k+m=7->getT e 0=.bp id 0->getT e 5=.agg (dayWs.map .str)->getT e 6=.int .i64 (k:Int) ->
 PDay L RL bx id i o (pickW L 1 i (dayWs.drop k) k) (evL CC Lc ⟨e,BX bx id (PSR L i o RL) []⟩):=by
 have pbp:pureL [PV.bp id 0]=false:=rfl
 intro m
 induction m with
 | zero=>
  intro k e hk h0 h5 h6
  rw [evL_at (fpart Tryz.f164 [1,0,1,0,0]) hL]
  have hi7:¬ ((k:Int) < 7):=by omega
  rw [show dayWs.drop k=[] from List.drop_of_length_le (by rw [show dayWs.length=7 from rfl];omega)]
  unfold PDay pickW PSR
  obtain ⟨ev,eo,so,co,⟨hev,hco⟩,R⟩:=RULES CC;rw [<- hev]
  simp only [fpart,part',Tryz.f164,Option.getD]
  simp only [S9,R,seval,PY,PZ,pbp,h0,h5,h6,hi7,hid]
  exact ⟨_,rfl,by simp only [S7,R,seval,h0]⟩
 | succ m ih=>
  intro k e hk h0 h5 h6
  rw [evL_at (fpart Tryz.f164 [1,0,1,0,0]) hL]
  have hi7:((k:Int) < 7):=by omega
  have hix:=dayI k (by omega)
  have hdr:dayWs.drop k=dayWs.getD k [] :: dayWs.drop (k+1):=by
   have hl:k < dayWs.length:=by rw [show dayWs.length=7 from rfl];omega
   rw [List.drop_eq_getElem_cons hl,List.getD_eq_getElem?_getD,List.getElem?_eq_getElem hl]
   rfl
  have key:=fun e=>ih (k+1) e (by omega)
  have hw:IntKind.wrap .i64 ((k:Int)+1)=((k+1:Nat):Int):=by rw [wrap_i64 ⟨by omega,by omega⟩];omega
  rw [hdr]
  generalize dayWs.getD k []=wd at *
  unfold pickW
  cases hk1:isT L 1 wd i with
  | true=>
   have t1:=okc_use hid hc hR (okc_word_t (id:=id) (o:=o) hR hi hT wd hk1)
   unfold PDay PSR
   simp only [if_true]
   obtain ⟨ev,eo,so,co,⟨hev,hco⟩,R⟩:=RULES CC;rw [<- hev]
   rw [<- hco] at t1
   simp only [fpart,part',Tryz.f164,Option.getD]
   simp only [S9,R,seval,PY,PZ,pbp,h0,h5,h6,hi7,hix,t1,hid]
   exact ⟨_,rfl,by simp only [S7,R,seval]⟩
  | false=>
   have t1:=okc_use hid hc hR (okc_word_f (id:=id) (o:=o) hR hi hT wd hk1)
   simp only [Bool.false_eq_true,if_false]
   generalize pickW L 1 i (dayWs.drop (k+1)) (k+1)=pw at *
   unfold PSR at key ⊢
   obtain ⟨ev,eo,so,co,⟨hev,hco⟩,R⟩:=RULES CC;rw [<- hev]
   rw [<- hco] at t1
   rw [<- hev] at key
   simp only [fpart,part',Tryz.f164,Option.getD]
   simp only [S9,R,seval,PY,PZ,pbp,h0,h5,h6,hi7,hix,t1,hw,hid]
   refine key _ ?_ ?_ ?_
   · simp only [S7,R,seval,h0]
   · simp only [S7,R,seval,h5]
   · simp only [S7,R,seval]
theorem ans_day {id:Nat} {L:List Tk} {i o:Nat} {RL:PV} (hR:RL.pure=true) (hi:i < L.length) (hT:TokOK L):ANS 164 [] id L RL i o (fun n=>.int .i64 ((n:Nat):Int)) (dayP L i):=by
 unfold dayP
 cases hp:pickW L 1 i dayWs 0 with
 | some k=>
  refine ans_ok (okc_of hR (fun n=>by simp [PV.under]) fun bx hid hc=>?_)
  have hloop:=fun e=>loop_day _ rfl (o:=o) hR hi hT bx hid hc 7 0 e rfl
  rw [show dayWs.drop 0=dayWs from rfl,hp] at hloop
  have pbp:pureL [PV.bp id 0]=false:=rfl
  rw [callL_enter (fn:=Tryz.f164) (c:=Tryz.f164.body.getD .skip) rfl rfl fat_parse_parser_day rfl ok_parse_parser_day (Nat.le_of_ble_eq_true rfl)]
  simp only [fpart,part',Tryz.f164,Option.getD] at hloop ⊢
  unfold PSR at hloop ⊢
  obtain ⟨ev,eo,so,co,⟨hev,hco⟩,R⟩:=RULES CC;rw [<- hev]
  rw [<- hev] at hloop
  simp only [S9,R,seval,PY,PZ,pbp,dayA,hid]
  generalize hE:ev _ _=z
  have hP:PDay L RL bx id i o (some k) z:=by
   rw [<- hE]
   refine hloop _ ?_ ?_ ?_
   · simp only [S7,R,seval]
   · simp only [S7,R,seval]
   · simp only [S7,R,seval] <;> rfl
  obtain ⟨e',he,h2⟩:=hP
  subst he
  clear hE hloop
  unfold PSR
  simp only [S9,R,seval,PY,PZ,pbp,h2,hid]
  exact ⟨_,rfl⟩
 | none=>
  refine ans_bad ⟨i,o,badx_of hR fun bx hid hc=>?_⟩
  have hloop:=fun e=>loop_day _ rfl (o:=o) hR hi hT bx hid hc 7 0 e rfl
  rw [show dayWs.drop 0=dayWs from rfl,hp] at hloop
  have t2:=okc_use hid hc hR (okc_token (id:=id) (o:=o) hR hi)
  have t3:=badx_use hid hc hR (badx_fail (id:=id) (i:=i) (o:=o) (L:=L) hR (tokAt L i).1 (tokAt L i).2.1 (tokAt L i).2.2 12)
  have pbp:pureL [PV.bp id 0]=false:=rfl
  rw [callL_enter (fn:=Tryz.f164) (c:=Tryz.f164.body.getD .skip) rfl rfl fat_parse_parser_day rfl ok_parse_parser_day (Nat.le_of_ble_eq_true rfl)]
  simp only [fpart,part',Tryz.f164,Option.getD] at hloop ⊢
  unfold PSR atT at *
  obtain ⟨ev,eo,so,co,⟨hev,hco⟩,R⟩:=RULES CC;rw [<- hev]
  rw [<- hev] at hloop
  rw [<- hco] at t2 t3
  simp only [S9,R,seval,PY,PZ,pbp,dayA,hid]
  generalize hE:ev _ _=z
  have hP:PDay L RL bx id i o none z:=by
   rw [<- hE]
   refine hloop _ ?_ ?_ ?_
   · simp only [S7,R,seval]
   · simp only [S7,R,seval]
   · simp only [S7,R,seval] <;> rfl
  obtain ⟨e',he,h0⟩:=hP
  subst he
  clear hE hloop
  unfold PSR
  simp only [S9,R,seval,PY,PZ,pbp,h0,t2,t3,hid]
  exact ⟨_,rfl⟩
theorem shl7:∀ k:Nat,k < 7->shiftP .shl .i64 1 (k:Int)=some (.int .i64 ((2 ^ k:Nat):Int))
 | 0,_=>by kernel_rfl
 | 1,_=>by kernel_rfl
 | 2,_=>by kernel_rfl
 | 3,_=>by kernel_rfl
 | 4,_=>by kernel_rfl
 | 5,_=>by kernel_rfl
 | 6,_=>by kernel_rfl
 | k+7,h=>by omega
theorem or7_any:((List.range 128).all fun m=>(List.range 7).all fun k=>decide (bitsP .or .i64 ((m:Nat):Int) ((2 ^ k:Nat):Int)=some ((m ||| 2 ^ k:Nat):Int)) && decide ((m ||| 2 ^ k) < 128))=true:=by decide +kernel
theorem or7 {m k:Nat} (hm:m < 128) (hk:k < 7):bitsP .or .i64 (m:Int) ((2 ^ k:Nat):Int)=some ((m ||| 2 ^ k:Nat):Int)∧(m ||| 2 ^ k) < 128:=by
 have h:=or7_any
 rw [List.all_eq_true] at h
 have h:=h m (List.mem_range.2 hm)
 rw [List.all_eq_true] at h
 have h:=h k (List.mem_range.2 hk)
 simpa using h
theorem dayP_lt {L:List Tk} {i:Nat} {a j:Nat} (hT:TokOK L) (hi:i < L.length) (h:dayP L i=.ok a j):i < j∧j < L.length∧a < 7:=by
 unfold dayP at h
 split at h
 · rename_i k hk
   injection h with h1 h2
   obtain ⟨_,h3,h4⟩:=pickW_lt hk
   have:=isT_lt hT hi h4 (by decide)
   have h5:dayWs.length=7:=rfl
   omega
 · cases h
end Go.HH
namespace Go.HH
open Go Go.Proofs
set_option maxRecDepth 100000
set_option maxHeartbeats 4000000
set_option linter.unusedSimpArgs false
set_option linter.unusedVariables false
theorem loop_days (Lc:Code) (hL:Lc=fpart Tryz.f147 [1,1,0]) {id:Nat} {L:List Tk} {o:Nat} {RL:PV} (hR:RL.pure=true) (hT:TokOK L):∀ (n m i:Nat),m < 128->i < L.length->match daysL L n m i with
 | .ok v j=>v < 128∧i < j∧j < L.length∧∀ (bx:List PBox) (hid:id < bx.length) (hc:clB bx) (e:List PV),getT e 0=.bp id 0->getT e 3=.int .i64 (m:Int)->∃ e',evL CC Lc ⟨e,BX bx id (PSR L i o RL) []⟩=some (.ret,⟨e',BX bx id (PSR L j o RL) []⟩)∧getT e' 2=.int .i64 (v:Int)
 | .bad t c=>∃ i' o',∀ (bx:List PBox) (hid:id < bx.length) (hc:clB bx) (e:List PV),getT e 0=.bp id 0->getT e 3=.int .i64 (m:Int)->∃ e' ys',evL CC Lc ⟨e,BX bx id (PSR L i o RL) []⟩=some (.pan (fltV t c),⟨e',BX bx id (PSR L i' o' RL) ys'⟩)
 | .out=>True:=by
 have pbp:pureL [PV.bp id 0]=false:=rfl
 intro n
 induction n with
 | zero=>intro m i hm hi;unfold daysL;trivial
 | succ n ih=>
  intro m i hm hi
  have h0:=ans_day (id:=id) (o:=o) hR hi hT
  unfold daysL
  cases r0:dayP L i with
  | out=>trivial
  | bad t c=>
   rw [r0] at h0
   obtain ⟨i',o',h0⟩:=h0
   refine ⟨i',o',fun bx hid hc e g0 g3=>?_⟩
   have t0:=badx_use hid hc hR h0
   rw [evL_at (fpart Tryz.f147 [1,1,0,0]) hL]
   unfold PSR
   obtain ⟨ev,eo,so,co,⟨hev,hco⟩,R⟩:=RULES CC;rw [<- hev]
   rw [<- hco] at t0
   simp only [fpart,part',Tryz.f147,Option.getD]
   simp only [S9,R,seval,PY,PZ,pbp,g0,g3,t0,hid]
   exact ⟨_,_,rfl⟩
  | ok k i1=>
   rw [r0] at h0
   have j0:=dayP_lt hT hi r0
   have hi1:=j0.2.1
   have hsh:=shl7 k j0.2.2
   obtain ⟨hor,hlt⟩:=or7 hm j0.2.2
   dsimp only [bind_okk]
   cases hk:isT L 4 [44] i1 with
   | false=>
    simp only [Bool.false_eq_true,if_false]
    refine ⟨hlt,j0.1,hi1,fun bx hid hc e g0 g3=>?_⟩
    have t0:=okc_use hid hc hR h0
    have t1:=okc_use hid hc hR (okc_op_f (id:=id) (o:=o) hR hi1 hT _ hk)
    rw [evL_at (fpart Tryz.f147 [1,1,0,0]) hL]
    unfold PSR
    obtain ⟨ev,eo,so,co,⟨hev,hco⟩,R⟩:=RULES CC;rw [<- hev]
    rw [<- hco] at t0 t1
    simp only [fpart,part',Tryz.f147,Option.getD]
    simp only [S9,R,seval,PY,PZ,pbp,g0,g3,t0,t1,hsh,hor,hid]
    exact ⟨_,rfl,by simp only [S7,R,seval]⟩
   | true=>
    simp only [if_true]
    have hi2:=isT_lt hT hi1 hk (by decide)
    have key:=ih (m ||| 2 ^ k) (i1+1) hlt hi2
    cases r2:daysL L n (m ||| 2 ^ k) (i1+1) with
    | out=>trivial
    | ok v j=>
     rw [r2] at key
     obtain ⟨q1,q2,q3,key⟩:=key
     refine ⟨q1,by omega,q3,fun bx hid hc e g0 g3=>?_⟩
     have key:=key bx hid hc
     have t0:=okc_use hid hc hR h0
     have t1:=okc_use hid hc hR (okc_op_t (id:=id) (o:=o) hR hi1 hT _ hk)
     rw [evL_at (fpart Tryz.f147 [1,1,0,0]) hL]
     unfold PSR at key ⊢
     obtain ⟨ev,eo,so,co,⟨hev,hco⟩,R⟩:=RULES CC;rw [<- hev]
     rw [<- hco] at t0 t1
     rw [<- hev] at key
     simp only [fpart,part',Tryz.f147,Option.getD]
     simp only [S9,R,seval,PY,PZ,pbp,g0,g3,t0,t1,hsh,hor,hid]
     refine key _ ?_ ?_
     · simp only [S7,R,seval,g0]
     · simp only [S7,R,seval]
    | bad t c=>
     rw [r2] at key
     obtain ⟨i',o',key⟩:=key
     refine ⟨i',o',fun bx hid hc e g0 g3=>?_⟩
     have key:=key bx hid hc
     have t0:=okc_use hid hc hR h0
     have t1:=okc_use hid hc hR (okc_op_t (id:=id) (o:=o) hR hi1 hT _ hk)
     rw [evL_at (fpart Tryz.f147 [1,1,0,0]) hL]
     unfold PSR at key ⊢
     obtain ⟨ev,eo,so,co,⟨hev,hco⟩,R⟩:=RULES CC;rw [<- hev]
     rw [<- hco] at t0 t1
     rw [<- hev] at key
     simp only [fpart,part',Tryz.f147,Option.getD]
     simp only [S9,R,seval,PY,PZ,pbp,g0,g3,t0,t1,hsh,hor,hid]
     refine key _ ?_ ?_
     · simp only [S7,R,seval,g0]
     · simp only [S7,R,seval]
theorem ans_days {id:Nat} {L:List Tk} {i o:Nat} {RL:PV} (hR:RL.pure=true) (hi:i < L.length) (hT:TokOK L):ANS 147 [] id L RL i o (fun n=>.int .i64 ((n:Nat):Int)) (daysP L i):=by
 have hloop:=loop_days _ rfl (id:=id) (o:=o) hR hT (L.length+1) 0 i (by decide) hi
 unfold daysP
 cases r0:daysL L (L.length+1) 0 i with
 | out=>exact ans_out
 | ok v j=>
  rw [r0] at hloop
  obtain ⟨_,_,_,hloop⟩:=hloop
  refine ans_ok (okc_of hR (fun n=>by simp [PV.under]) fun bx hid hc=>?_)
  have hloop:=hloop bx hid hc
  have pbp:pureL [PV.bp id 0]=false:=rfl
  rw [callL_enter (fn:=Tryz.f147) (c:=Tryz.f147.body.getD .skip) rfl rfl fat_parse_parser_days rfl ok_parse_parser_days (Nat.le_of_ble_eq_true rfl)]
  simp only [fpart,part',Tryz.f147,Option.getD] at hloop ⊢
  unfold PSR at hloop ⊢
  obtain ⟨ev,eo,so,co,⟨hev,hco⟩,R⟩:=RULES CC;rw [<- hev]
  rw [<- hev] at hloop
  simp only [S9,R,seval,PY,PZ,pbp,hid]
  generalize hE:ev _ _=z
  have hP:∃ e',z=some (.ret,⟨e',BX bx id (.cells 92 [.sl (tkVs L),.int .i64 ((j:Nat):Int),.int .i64 ((o:Nat):Int),RL]) []⟩)∧getT e' 2=.int .i64 (v:Int):=by
   rw [<- hE]
   refine hloop _ ?_ ?_
   · simp only [S7,R,seval]
   · simp only [S7,R,seval] <;> rfl
  obtain ⟨e',he,h2⟩:=hP
  subst he
  clear hE hloop
  simp only [S9,R,seval,PY,PZ,pbp,h2,hid]
  exact ⟨_,rfl⟩
 | bad t c=>
  rw [r0] at hloop
  obtain ⟨i',o',hloop⟩:=hloop
  refine ans_bad ⟨i',o',badx_of hR fun bx hid hc=>?_⟩
  have hloop:=hloop bx hid hc
  have pbp:pureL [PV.bp id 0]=false:=rfl
  rw [callL_enter (fn:=Tryz.f147) (c:=Tryz.f147.body.getD .skip) rfl rfl fat_parse_parser_days rfl ok_parse_parser_days (Nat.le_of_ble_eq_true rfl)]
  simp only [fpart,part',Tryz.f147,Option.getD] at hloop ⊢
  unfold PSR at hloop ⊢
  obtain ⟨ev,eo,so,co,⟨hev,hco⟩,R⟩:=RULES CC;rw [<- hev]
  rw [<- hev] at hloop
  simp only [S9,R,seval,PY,PZ,pbp,hid]
  generalize hE:ev _ _=z
  have hP:∃ e' ys',z=some (.pan (fltV t c),⟨e',BX bx id (.cells 92 [.sl (tkVs L),.int .i64 ((i':Nat):Int),.int .i64 ((o':Nat):Int),RL]) ys'⟩):=by
   rw [<- hE]
   refine hloop _ ?_ ?_
   · simp only [S7,R,seval]
   · simp only [S7,R,seval] <;> rfl
  obtain ⟨e',ys',he⟩:=hP
  subst he
  clear hE hloop
  simp only [S9,R,seval,PY,PZ,pbp,hid]
  exact ⟨_,rfl⟩
theorem daysP_lt {L:List Tk} {i:Nat} {a j:Nat} (hT:TokOK L) (hi:i < L.length) (h:daysP L i=.ok a j):i < j∧j < L.length∧a < 128:=by
 have hloop:=loop_days (RL:=.nils) _ rfl (id:=0) (o:=0) rfl hT (L.length+1) 0 i (by decide) hi
 unfold daysP at h
 rw [h] at hloop
 exact ⟨hloop.2.1,hloop.2.2.1,hloop.1⟩
end Go.HH
