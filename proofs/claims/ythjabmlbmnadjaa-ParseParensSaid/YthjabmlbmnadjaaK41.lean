/-
  What the law needs, packed: RD RE RF RG RH RI.
-/
import Derived.Test.YthjabmlbmnadjaaK40
namespace Go.HH
open Go Go.Proofs
set_option maxRecDepth 100000
set_option maxHeartbeats 4000000
set_option linter.unusedSimpArgs false
set_option linter.unusedVariables false
theorem rcs_under (n:Nat) (nm:List UInt8) (pr:Int) (on dos:PV) (e:Tr) (h1:on.under n=true) (h2:dos.under n=true):underL n (rcs nm pr on dos e)=true:=by
  obtain ⟨k,x,m,s,v,q,kids⟩:=e
  unfold rcs
  have hk:underL n (trVs kids)=true:=underL_of_pure n _ (trVs_pure kids)
  simp only [SU,h1,h2,hk,Bool.and_self]
theorem op_r1_ok {bx:List PBox} {id:Nat} {L:List Tk} {i o:Nat} {RL:PV} (hR:RL.pure=true) (j:Nat) (hid:id < bx.length) (hc:clB bx) (nm:List UInt8) (pr:Int) (dosV:PV) (hdu:∀ n,dosV.under n=true) (et:Tr) (t0:Tk) {J:List PBox} (hJ:∀ n,(J.all fun x=>x.under n)=true) (l:List Tg) (hl:l.length≤7) (a:Tg) (h:OKc 46 [] id L RL i o (tgV a) j o) :
    callOp CC (callL CC) 45 [.bp (bx.length+2) 0,.bp bx.length 0] (BX bx id (PSR L i o RL) (.cells 63 [.bp id 0] :: .cells 66 [.int .i64 (t0.1:Int),.str t0.2.1,.int .i64 (t0.2.2:Int)] :: .cells 37 (rcs nm pr (lsV 59 (l.map tgV)) dosV et) :: J))=some (.ret (.tup []),BX bx id (PSR L j o RL) (.cells 63 [.bp id 0] :: .cells 66 [.int .i64 (t0.1:Int),.str t0.2.1,.int .i64 (t0.2.2:Int)] :: .cells 37 (rcs nm pr (lsV 59 ((l++[a]).map tgV)) dosV et) :: J)):=by
  have pbp:pureL [PV.bp id 0]=false:=rfl
  have hd:∀ k,id < bx.length+k:=fun k=>by omega
  refine op_BXy rfl rfl hc (PSR_under L _ _ hR) ?_ (by simp [CR.under,PV.under,underL]) ?_
  · have hru:∀ n,underL n (rcs nm pr (lsV 59 ((l++[a]).map tgV)) dosV et)=true:=fun n=>rcs_under n nm pr _ _ et (lsV_under _ _ _ (map_under tgV tgV_under _ _)) (hdu _)
    simp only [SU,SX,hd,hru,hJ,decide_true,List.length_cons,List.length_nil,Bool.and_self]
  cases l with
  | nil=>
    have hdw:=draw_r1_nil_ok (j:=j) hR hid hc nm pr dosV hdu et t0 hJ a h
    simp only [List.map_nil,List.map_cons,List.nil_append,lsV]
    skip
    rw [callL_enterB (fn:=Try.f45) (c:=Try.f45.body.getD .skip) rfl rfl fatB_parse_parser_rule_1 rfl noB_parse_parser_rule_1 okB_parse_parser_rule_1 (Nat.le_of_ble_eq_true rfl)]
    simp only [← drawM_all no_r1] at hdw
    obtain ⟨dr,ev,eo,so,co,⟨hev,hco,heo,hdr⟩,R⟩:=RULESB CC
    rw [← hev]
    rw [← hdr] at hdw
    simp only [opsOf,fpart,part',Try.f45,Option.getD] at⊢hdw
    simp only [S9,R,seval,PY,PZ,pbp,dynR,hdw,SX,hid]
  | cons x r=>
    have hdw:=draw_r1_cons_ok (j:=j) hR hid hc nm pr dosV hdu et t0 hJ (tgV x) (r.map tgV) (fun n=>tgV_under n x) (fun n=>map_under tgV tgV_under n r) (by rw [List.length_map];simp only [List.length_cons] at hl;omega) a h
    simp only [List.map_cons,List.map_append,List.cons_append,List.map_nil,lsV]
    rw [callL_enterB (fn:=Try.f45) (c:=Try.f45.body.getD .skip) rfl rfl fatB_parse_parser_rule_1 rfl noB_parse_parser_rule_1 okB_parse_parser_rule_1 (Nat.le_of_ble_eq_true rfl)]
    simp only [← drawM_all no_r1] at hdw
    obtain ⟨dr,ev,eo,so,co,⟨hev,hco,heo,hdr⟩,R⟩:=RULESB CC
    rw [← hev]
    rw [← hdr] at hdw
    simp only [opsOf,fpart,part',Try.f45,Option.getD] at⊢hdw
    simp only [S9,R,seval,PY,PZ,pbp,dynR,hdw,SX,hid]
theorem op_r1_bad {bx:List PBox} {id:Nat} {L:List Tk} {i o:Nat} {RL:PV} (hR:RL.pure=true) (j:Nat) (hid:id < bx.length) (hc:clB bx) (nm:List UInt8) (pr:Int) (dosV:PV) (hdu:∀ n,dosV.under n=true) (et:Tr) (t0:Tk) {J:List PBox} (hJ:∀ n,(J.all fun x=>x.under n)=true) (l:List Tg) (hl:l.length≤7) {t:Nat} {c:Int} {i' o':Nat} (h:BADx 46 [] id L RL i o t c i' o') :
    callOp CC (callL CC) 45 [.bp (bx.length+2) 0,.bp bx.length 0] (BX bx id (PSR L i o RL) (.cells 63 [.bp id 0] :: .cells 66 [.int .i64 (t0.1:Int),.str t0.2.1,.int .i64 (t0.2.2:Int)] :: .cells 37 (rcs nm pr (lsV 59 (l.map tgV)) dosV et) :: J))=some (.pan (fltV t c),BX bx id (PSR L i' o' RL) (.cells 63 [.bp id 0] :: .cells 66 [.int .i64 (t0.1:Int),.str t0.2.1,.int .i64 (t0.2.2:Int)] :: .cells 37 (rcs nm pr (lsV 59 (l.map tgV)) dosV et) :: J)):=by
  have pbp:pureL [PV.bp id 0]=false:=rfl
  have hd:∀ k,id < bx.length+k:=fun k=>by omega
  refine op_BXy rfl rfl hc (PSR_under L _ _ hR) ?_ (fltV_under _ _ _) ?_
  · have hru:∀ n,underL n (rcs nm pr (lsV 59 (l.map tgV)) dosV et)=true:=fun n=>rcs_under n nm pr _ _ et (lsV_under _ _ _ (map_under tgV tgV_under _ _)) (hdu _)
    simp only [SU,SX,hd,hru,hJ,decide_true,List.length_cons,List.length_nil,Bool.and_self]
  cases l with
  | nil=>
    have hdw:=draw_r1_nil_bad (j:=j) hR hid hc nm pr dosV hdu et t0 hJ  h
    simp only [List.map_nil,List.map_cons,List.nil_append,lsV]
    skip
    rw [callL_enterB (fn:=Try.f45) (c:=Try.f45.body.getD .skip) rfl rfl fatB_parse_parser_rule_1 rfl noB_parse_parser_rule_1 okB_parse_parser_rule_1 (Nat.le_of_ble_eq_true rfl)]
    simp only [← drawM_all no_r1] at hdw
    obtain ⟨dr,ev,eo,so,co,⟨hev,hco,heo,hdr⟩,R⟩:=RULESB CC
    rw [← hev]
    rw [← hdr] at hdw
    simp only [opsOf,fpart,part',Try.f45,Option.getD] at⊢hdw
    simp only [S9,R,seval,PY,PZ,pbp,dynR,hdw,SX,hid]
  | cons x r=>
    have hdw:=draw_r1_cons_bad (j:=j) hR hid hc nm pr dosV hdu et t0 hJ (tgV x) (r.map tgV) (fun n=>tgV_under n x) (fun n=>map_under tgV tgV_under n r) (by rw [List.length_map];simp only [List.length_cons] at hl;omega)  h
    simp only [List.map_cons,List.map_append,List.cons_append,List.map_nil,lsV]
    rw [callL_enterB (fn:=Try.f45) (c:=Try.f45.body.getD .skip) rfl rfl fatB_parse_parser_rule_1 rfl noB_parse_parser_rule_1 okB_parse_parser_rule_1 (Nat.le_of_ble_eq_true rfl)]
    simp only [← drawM_all no_r1] at hdw
    obtain ⟨dr,ev,eo,so,co,⟨hev,hco,heo,hdr⟩,R⟩:=RULESB CC
    rw [← hev]
    rw [← hdr] at hdw
    simp only [opsOf,fpart,part',Try.f45,Option.getD] at⊢hdw
    simp only [S9,R,seval,PY,PZ,pbp,dynR,hdw,SX,hid]
theorem op_r2_ok {bx:List PBox} {id:Nat} {L:List Tk} {i o:Nat} {RL:PV} (hR:RL.pure=true) (j:Nat) (hid:id < bx.length) (hc:clB bx) (nm:List UInt8) (pr:Int) (onV:PV) (hdu:∀ n,onV.under n=true) (et:Tr) (t0:Tk) {J:List PBox} (hJ:∀ n,(J.all fun x=>x.under n)=true) (l:List Sp) (hl:l.length≤7) (a:Sp) (h:OKc 48 [] id L RL i o (spV a) j o) :
    callOp CC (callL CC) 47 [.bp (bx.length+2) 0,.bp bx.length 0] (BX bx id (PSR L i o RL) (.cells 63 [.bp id 0] :: .cells 66 [.int .i64 (t0.1:Int),.str t0.2.1,.int .i64 (t0.2.2:Int)] :: .cells 37 (rcs nm pr onV (lsV 41 (l.map spV)) et) :: J))=some (.ret (.tup []),BX bx id (PSR L j o RL) (.cells 63 [.bp id 0] :: .cells 66 [.int .i64 (t0.1:Int),.str t0.2.1,.int .i64 (t0.2.2:Int)] :: .cells 37 (rcs nm pr onV (lsV 41 ((l++[a]).map spV)) et) :: J)):=by
  have pbp:pureL [PV.bp id 0]=false:=rfl
  have hd:∀ k,id < bx.length+k:=fun k=>by omega
  refine op_BXy rfl rfl hc (PSR_under L _ _ hR) ?_ (by simp [CR.under,PV.under,underL]) ?_
  · have hru:∀ n,underL n (rcs nm pr onV (lsV 41 ((l++[a]).map spV)) et)=true:=fun n=>rcs_under n nm pr _ _ et (hdu _) (lsV_under _ _ _ (map_under spV spV_under _ _))
    simp only [SU,SX,hd,hru,hJ,decide_true,List.length_cons,List.length_nil,Bool.and_self]
  cases l with
  | nil=>
    have hdw:=draw_r2_nil_ok (j:=j) hR hid hc nm pr onV hdu et t0 hJ a h
    simp only [List.map_nil,List.map_cons,List.nil_append,lsV]
    skip
    rw [callL_enterB (fn:=Try.f47) (c:=Try.f47.body.getD .skip) rfl rfl fatB_parse_parser_rule_2 rfl noB_parse_parser_rule_2 okB_parse_parser_rule_2 (Nat.le_of_ble_eq_true rfl)]
    simp only [← drawM_all no_r2] at hdw
    obtain ⟨dr,ev,eo,so,co,⟨hev,hco,heo,hdr⟩,R⟩:=RULESB CC
    rw [← hev]
    rw [← hdr] at hdw
    simp only [opsOf,fpart,part',Try.f47,Option.getD] at⊢hdw
    simp only [S9,R,seval,PY,PZ,pbp,dynR,hdw,SX,hid]
    try rfl
  | cons x r=>
    have hdw:=draw_r2_cons_ok (j:=j) hR hid hc nm pr onV hdu et t0 hJ (spV x) (r.map spV) (fun n=>spV_under n x) (fun n=>map_under spV spV_under n r) (by rw [List.length_map];simp only [List.length_cons] at hl;omega) a h
    simp only [List.map_cons,List.map_append,List.cons_append,List.map_nil,lsV]
    rw [callL_enterB (fn:=Try.f47) (c:=Try.f47.body.getD .skip) rfl rfl fatB_parse_parser_rule_2 rfl noB_parse_parser_rule_2 okB_parse_parser_rule_2 (Nat.le_of_ble_eq_true rfl)]
    simp only [← drawM_all no_r2] at hdw
    obtain ⟨dr,ev,eo,so,co,⟨hev,hco,heo,hdr⟩,R⟩:=RULESB CC
    rw [← hev]
    rw [← hdr] at hdw
    simp only [opsOf,fpart,part',Try.f47,Option.getD] at⊢hdw
    simp only [S9,R,seval,PY,PZ,pbp,dynR,hdw,SX,hid]
    try rfl
theorem op_r2_bad {bx:List PBox} {id:Nat} {L:List Tk} {i o:Nat} {RL:PV} (hR:RL.pure=true) (j:Nat) (hid:id < bx.length) (hc:clB bx) (nm:List UInt8) (pr:Int) (onV:PV) (hdu:∀ n,onV.under n=true) (et:Tr) (t0:Tk) {J:List PBox} (hJ:∀ n,(J.all fun x=>x.under n)=true) (l:List Sp) (hl:l.length≤7) {t:Nat} {c:Int} {i' o':Nat} (h:BADx 48 [] id L RL i o t c i' o') :
    callOp CC (callL CC) 47 [.bp (bx.length+2) 0,.bp bx.length 0] (BX bx id (PSR L i o RL) (.cells 63 [.bp id 0] :: .cells 66 [.int .i64 (t0.1:Int),.str t0.2.1,.int .i64 (t0.2.2:Int)] :: .cells 37 (rcs nm pr onV (lsV 41 (l.map spV)) et) :: J))=some (.pan (fltV t c),BX bx id (PSR L i' o' RL) (.cells 63 [.bp id 0] :: .cells 66 [.int .i64 (t0.1:Int),.str t0.2.1,.int .i64 (t0.2.2:Int)] :: .cells 37 (rcs nm pr onV (lsV 41 (l.map spV)) et) :: J)):=by
  have pbp:pureL [PV.bp id 0]=false:=rfl
  have hd:∀ k,id < bx.length+k:=fun k=>by omega
  refine op_BXy rfl rfl hc (PSR_under L _ _ hR) ?_ (fltV_under _ _ _) ?_
  · have hru:∀ n,underL n (rcs nm pr onV (lsV 41 (l.map spV)) et)=true:=fun n=>rcs_under n nm pr _ _ et (hdu _) (lsV_under _ _ _ (map_under spV spV_under _ _))
    simp only [SU,SX,hd,hru,hJ,decide_true,List.length_cons,List.length_nil,Bool.and_self]
  cases l with
  | nil=>
    have hdw:=draw_r2_nil_bad (j:=j) hR hid hc nm pr onV hdu et t0 hJ  h
    simp only [List.map_nil,List.map_cons,List.nil_append,lsV]
    skip
    rw [callL_enterB (fn:=Try.f47) (c:=Try.f47.body.getD .skip) rfl rfl fatB_parse_parser_rule_2 rfl noB_parse_parser_rule_2 okB_parse_parser_rule_2 (Nat.le_of_ble_eq_true rfl)]
    simp only [← drawM_all no_r2] at hdw
    obtain ⟨dr,ev,eo,so,co,⟨hev,hco,heo,hdr⟩,R⟩:=RULESB CC
    rw [← hev]
    rw [← hdr] at hdw
    simp only [opsOf,fpart,part',Try.f47,Option.getD] at⊢hdw
    simp only [S9,R,seval,PY,PZ,pbp,dynR,hdw,SX,hid]
    try rfl
  | cons x r=>
    have hdw:=draw_r2_cons_bad (j:=j) hR hid hc nm pr onV hdu et t0 hJ (spV x) (r.map spV) (fun n=>spV_under n x) (fun n=>map_under spV spV_under n r) (by rw [List.length_map];simp only [List.length_cons] at hl;omega)  h
    simp only [List.map_cons,List.map_append,List.cons_append,List.map_nil,lsV]
    rw [callL_enterB (fn:=Try.f47) (c:=Try.f47.body.getD .skip) rfl rfl fatB_parse_parser_rule_2 rfl noB_parse_parser_rule_2 okB_parse_parser_rule_2 (Nat.le_of_ble_eq_true rfl)]
    simp only [← drawM_all no_r2] at hdw
    obtain ⟨dr,ev,eo,so,co,⟨hev,hco,heo,hdr⟩,R⟩:=RULESB CC
    rw [← hev]
    rw [← hdr] at hdw
    simp only [opsOf,fpart,part',Try.f47,Option.getD] at⊢hdw
    simp only [S9,R,seval,PY,PZ,pbp,dynR,hdw,SX,hid]
    try rfl
end Go.HH
namespace Go.HH
open Go Go.Proofs
set_option maxRecDepth 100000
set_option maxHeartbeats 4000000
set_option linter.unusedSimpArgs false
set_option linter.unusedVariables false
theorem ok_parse_parser_several:fnOK CC Try.f44 (Try.f44.body.getD .skip)=true:=by kernel_rfl
theorem fat_parse_parser_several:CC.P.funcs[44]?=some Try.f44:=by kernel_rfl
def PARTc {α:Type} (F:FuncId) (part:Nat→PR α) (id:Nat) (L:List Tk) (RL:PV) (o:Nat) (t0:Tk) (J:List PBox) (RBX:List α→PBox):Prop:=∀ i,i < L.length→∀ acc:List α,acc.length≤7→match part i with
  | .ok a j=>∀ (bx:List PBox) (hid:id < bx.length) (hc:clB bx),callOp CC (callL CC) F [.bp (bx.length+2) 0,.bp bx.length 0] (BX bx id (PSR L i o RL) (.cells 63 [.bp id 0] :: .cells 66 [.int .i64 (t0.1:Int),.str t0.2.1,.int .i64 (t0.2.2:Int)] :: RBX acc :: J))=some (.ret (.tup []),(BX bx id (PSR L j o RL) (.cells 63 [.bp id 0] :: .cells 66 [.int .i64 (t0.1:Int),.str t0.2.1,.int .i64 (t0.2.2:Int)] :: RBX (acc++[a]) :: J)))
  | .bad t c=>∃ i' o',∀ (bx:List PBox) (hid:id < bx.length) (hc:clB bx),callOp CC (callL CC) F [.bp (bx.length+2) 0,.bp bx.length 0] (BX bx id (PSR L i o RL) (.cells 63 [.bp id 0] :: .cells 66 [.int .i64 (t0.1:Int),.str t0.2.1,.int .i64 (t0.2.2:Int)] :: RBX acc :: J))=some (.pan (fltV t c),(BX bx id (PSR L i' o' RL) (.cells 63 [.bp id 0] :: .cells 66 [.int .i64 (t0.1:Int),.str t0.2.1,.int .i64 (t0.2.2:Int)] :: RBX acc :: J)))
  | .out=>True
def SEVl {α:Type} (Lc:Code) (F:FuncId) (w:List UInt8) (id:Nat) (L:List Tk) (RL:PV) (o:Nat) (t0:Tk) (J:List PBox) (RBX:List α→PBox) (i:Nat) (acc:List α) (r:PR (List α)):Prop:=match r with
  | .ok l j=>∀ (bx:List PBox) (hid:id < bx.length) (hc:clB bx) (e:List PV),getT e 0=.bp id 0→getT e 1=.str w→getT e 2=.fn F [] [.bp (bx.length+2) 0,.bp bx.length 0]→getT e 6=.int .i64 (acc.length:Int)→∃ e',evL CC Lc ⟨e,(BX bx id (PSR L i o RL) (.cells 63 [.bp id 0] :: .cells 66 [.int .i64 (t0.1:Int),.str t0.2.1,.int .i64 (t0.2.2:Int)] :: RBX acc :: J))⟩=some (.exit 0,⟨e',(BX bx id (PSR L j o RL) (.cells 63 [.bp id 0] :: .cells 66 [.int .i64 (t0.1:Int),.str t0.2.1,.int .i64 (t0.2.2:Int)] :: RBX l :: J))⟩)
  | .bad t c=>∃ i' o',∀ (bx:List PBox) (hid:id < bx.length) (hc:clB bx) (e:List PV),getT e 0=.bp id 0→getT e 1=.str w→getT e 2=.fn F [] [.bp (bx.length+2) 0,.bp bx.length 0]→getT e 6=.int .i64 (acc.length:Int)→∃ e' acc',evL CC Lc ⟨e,(BX bx id (PSR L i o RL) (.cells 63 [.bp id 0] :: .cells 66 [.int .i64 (t0.1:Int),.str t0.2.1,.int .i64 (t0.2.2:Int)] :: RBX acc :: J))⟩=some (.pan (fltV t c),⟨e',(BX bx id (PSR L i' o' RL) (.cells 63 [.bp id 0] :: .cells 66 [.int .i64 (t0.1:Int),.str t0.2.1,.int .i64 (t0.2.2:Int)] :: RBX acc' :: J))⟩)
  | .out=>True
theorem sevl_out {α:Type} {Lc:Code} {F:FuncId} {w:List UInt8} {id:Nat} {L:List Tk} {RL:PV} {o:Nat} {t0:Tk} {J:List PBox} {RBX:List α→PBox} {i:Nat} {acc:List α}:SEVl Lc F w id L RL o t0 J RBX i acc .out:=trivial
theorem loop_several {α:Type} (Lc:Code) (hL:Lc=fpart Try.f44 [1,0]) {F:FuncId} {wd:List UInt8} {id:Nat} {L:List Tk} {RL:PV} {o:Nat} {t0:Tk} {J:List PBox} {RBX:List α→PBox} {part:Nat→PR α} (hR:RL.pure=true) (hT:TokOK L) (hJ:∀ n,(J.all fun x=>x.under n)=true) (hrb:∀ n acc,(RBX acc).under n=true) (hlt:∀ i a j,i < L.length→part i=.ok a j→j < L.length) (hp:PARTc F part id L RL o t0 J RBX):∀ (m i:Nat) (acc:List α),i < L.length→acc.length≤8→SEVl Lc F wd id L RL o t0 J RBX i acc (severalP L wd part m acc i):=by
  have pbp:pureL [PV.bp id 0]=false:=rfl
  intro m
  induction m with
  | zero=>intro i acc _ _;exact sevl_out
  | succ m ih=>
    intro i acc hi hl8
    rw [severalP]
    have hw:IntKind.wrap .i64 ((acc.length:Int)+1)=((acc.length+1:Nat):Int):=by rw [wrap_i64 ⟨by omega,by omega⟩];omega
    by_cases hz:acc.length=0
    · rw [if_pos (Or.inl hz),if_neg (by omega)]
      have h0:(((acc.length:Nat):Int) == 0)=true:=by rw [hz];rfl
      have h8:(((acc.length:Nat):Int) == 8)=false:=by rw [hz];rfl
      have h1:=ans_must (id:=id) (o:=o) (i:=i) hR hi hT 1 1 rfl wd
      cases r1:mustP L 1 wd i with
      | out=>exact sevl_out
      | bad t c=>
        rw [r1] at h1
        obtain ⟨i',o',h1⟩:=h1
        refine ⟨i',o',fun bx hid hc e g0 g1 g2 g6=>?_⟩
        have hd:∀ k,id < bx.length+k:=fun k=>by omega
        have pbp2:pureL [PV.bp (bx.length+2) 0,PV.bp bx.length 0]=false:=rfl
        have t1:=badx_use hid hc hR h1
        rw [evL_at (fpart Try.f44 [1,0,0]) hL]
        unfold PSR
        obtain ⟨ev,eo,so,co,⟨hev,hco⟩,R⟩:=RULES CC;rw [← hev]
        rw [← hco] at t1
        simp only [fpart,part',Try.f44,Option.getD]
        simp only [S9,R,seval,PY,PZ,pbp,dynR,g0,g1,g2,g6,hd,hrb,hJ,pbp2,h0,h8,t1,SX,hid]
        exact ⟨_,_,rfl⟩
      | ok u i1=>
        rw [r1] at h1
        dsimp only [bind_okk]
        have hi1:=(mustP_lt hT hi (by decide) r1).2
        have h2:=hp i1 hi1 acc (by omega)
        cases r2:part i1 with
        | out=>exact sevl_out
        | bad t c=>
          rw [r2] at h2
          obtain ⟨i',o',h2⟩:=h2
          refine ⟨i',o',fun bx hid hc e g0 g1 g2 g6=>?_⟩
          have hd:∀ k,id < bx.length+k:=fun k=>by omega
          have pbp2:pureL [PV.bp (bx.length+2) 0,PV.bp bx.length 0]=false:=rfl
          have t1:=okc_use hid hc hR h1
          have t2:=h2 bx hid hc
          unfold PSR at t2
          rw [evL_at (fpart Try.f44 [1,0,0]) hL]
          unfold PSR
          obtain ⟨ev,eo,so,co,⟨hev,hco⟩,R⟩:=RULES CC;rw [← hev]
          rw [← hco] at t1 t2
          simp only [fpart,part',Try.f44,Option.getD]
          simp only [S9,R,seval,PY,PZ,pbp,dynR,g0,g1,g2,g6,hd,hrb,hJ,pbp2,h0,h8,t1,t2,SX,hid]
          exact ⟨_,_,rfl⟩
        | ok a i2=>
          rw [r2] at h2
          dsimp only [bind_okk]
          have hi2:=hlt i1 a i2 hi1 r2
          have h3:=ans_must (id:=id) (o:=o) (i:=i2) hR hi2 hT 4 4 rfl [59]
          cases r3:mustP L 4 [59] i2 with
          | out=>exact sevl_out
          | bad t c=>
            rw [r3] at h3
            obtain ⟨i',o',h3⟩:=h3
            refine ⟨i',o',fun bx hid hc e g0 g1 g2 g6=>?_⟩
            have hd:∀ k,id < bx.length+k:=fun k=>by omega
            have pbp2:pureL [PV.bp (bx.length+2) 0,PV.bp bx.length 0]=false:=rfl
            have t1:=okc_use hid hc hR h1
            have t2:=h2 bx hid hc
            unfold PSR at t2
            have t3:=badx_use hid hc hR h3
            rw [evL_at (fpart Try.f44 [1,0,0]) hL]
            unfold PSR
            obtain ⟨ev,eo,so,co,⟨hev,hco⟩,R⟩:=RULES CC;rw [← hev]
            rw [← hco] at t1 t2 t3
            simp only [fpart,part',Try.f44,Option.getD]
            simp only [S9,R,seval,PY,PZ,pbp,dynR,g0,g1,g2,g6,hd,hrb,hJ,pbp2,h0,h8,t1,t2,t3,SX,hid]
            exact ⟨_,_,rfl⟩
          | ok u3 i3=>
            rw [r3] at h3
            dsimp only [bind_okk]
            have hi3:=(mustP_lt hT hi2 (by decide) r3).2
            have key:=ih i3 (acc++[a]) hi3 (by rw [List.length_append];simp only [List.length_cons,List.length_nil];omega)
            have hla:(acc++[a]).length=acc.length+1:=by simp
            cases r4:severalP L wd part m (acc++[a]) i3 with
            | out=>exact sevl_out
            | bad t c=>
              rw [r4] at key
              obtain ⟨i',o',key⟩:=key
              refine ⟨i',o',fun bx hid hc e g0 g1 g2 g6=>?_⟩
              have key:=key bx hid hc
              rw [hla] at key
              have hd:∀ k,id < bx.length+k:=fun k=>by omega
              have pbp2:pureL [PV.bp (bx.length+2) 0,PV.bp bx.length 0]=false:=rfl
              have t1:=okc_use hid hc hR h1
              have t2:=h2 bx hid hc
              unfold PSR at t2
              have t3:=okc_use hid hc hR h3
              rw [evL_at (fpart Try.f44 [1,0,0]) hL]
              unfold PSR at key ⊢
              obtain ⟨ev,eo,so,co,⟨hev,hco⟩,R⟩:=RULES CC;rw [← hev]
              rw [← hev] at key
              rw [← hco] at t1 t2 t3
              simp only [fpart,part',Try.f44,Option.getD]
              simp only [S9,R,seval,PY,PZ,pbp,dynR,g0,g1,g2,g6,hd,hrb,hJ,pbp2,h0,h8,hw,t1,t2,t3,SX,hid]
              refine key _ ?_ ?_ ?_ ?_
              · simp only [S7,R,seval,g0]
              · simp only [S7,R,seval,g1]
              · simp only [S7,R,seval,g2]
              · simp only [S7,R,seval]
            | ok l j=>
              rw [r4] at key
              refine fun bx hid hc e g0 g1 g2 g6=>?_
              have key:=key bx hid hc
              rw [hla] at key
              have hd:∀ k,id < bx.length+k:=fun k=>by omega
              have pbp2:pureL [PV.bp (bx.length+2) 0,PV.bp bx.length 0]=false:=rfl
              have t1:=okc_use hid hc hR h1
              have t2:=h2 bx hid hc
              unfold PSR at t2
              have t3:=okc_use hid hc hR h3
              rw [evL_at (fpart Try.f44 [1,0,0]) hL]
              unfold PSR at key ⊢
              obtain ⟨ev,eo,so,co,⟨hev,hco⟩,R⟩:=RULES CC;rw [← hev]
              rw [← hev] at key
              rw [← hco] at t1 t2 t3
              simp only [fpart,part',Try.f44,Option.getD]
              simp only [S9,R,seval,PY,PZ,pbp,dynR,g0,g1,g2,g6,hd,hrb,hJ,pbp2,h0,h8,hw,t1,t2,t3,SX,hid]
              refine key _ ?_ ?_ ?_ ?_
              · simp only [S7,R,seval,g0]
              · simp only [S7,R,seval,g1]
              · simp only [S7,R,seval,g2]
              · simp only [S7,R,seval]
    · have h0:(((acc.length:Nat):Int) == 0)=false:=beq_eq_false_iff_ne.2 (by omega)
      cases hk:isT L 1 wd i with
      | false=>
        rw [if_neg (by simp [hz])]
        refine fun bx hid hc e g0 g1 g2 g6=>?_
        have hd:∀ k,id < bx.length+k:=fun k=>by omega
        have pbp2:pureL [PV.bp (bx.length+2) 0,PV.bp bx.length 0]=false:=rfl
        have tis:=okc_use hid hc hR (okc_is (id:=id) (o:=o) hR hi 1 1 rfl wd)
        rw [hk] at tis
        rw [evL_at (fpart Try.f44 [1,0,0]) hL]
        unfold PSR
        obtain ⟨ev,eo,so,co,⟨hev,hco⟩,R⟩:=RULES CC;rw [← hev]
        rw [← hco] at tis
        simp only [fpart,part',Try.f44,Option.getD]
        simp only [S9,R,seval,PY,PZ,pbp,dynR,g0,g1,g2,g6,hd,hrb,hJ,pbp2,h0,tis,SX,hid]
        exact ⟨_,rfl⟩
      | true=>
        rw [if_pos (Or.inr rfl)]
        by_cases h8n:acc.length=8
        · rw [if_pos h8n]
          have h8:(((acc.length:Nat):Int) == 8)=true:=by rw [h8n];rfl
          refine ⟨i,o,fun bx hid hc e g0 g1 g2 g6=>?_⟩
          have hd:∀ k,id < bx.length+k:=fun k=>by omega
          have pbp2:pureL [PV.bp (bx.length+2) 0,PV.bp bx.length 0]=false:=rfl
          have tis:=okc_use hid hc hR (okc_is (id:=id) (o:=o) hR hi 1 1 rfl wd)
          rw [hk] at tis
          have t2:=okc_use hid hc hR (okc_token (id:=id) (o:=o) hR hi)
          have t3:=badx_use hid hc hR (badx_fail (id:=id) (i:=i) (o:=o) (L:=L) (RL:=RL) hR (tokAt L i).1 (tokAt L i).2.1 (tokAt L i).2.2 3)
          unfold atT
          rw [evL_at (fpart Try.f44 [1,0,0]) hL]
          unfold PSR
          obtain ⟨ev,eo,so,co,⟨hev,hco⟩,R⟩:=RULES CC;rw [← hev]
          rw [← hco] at tis t2 t3
          simp only [fpart,part',Try.f44,Option.getD]
          simp only [S9,R,seval,PY,PZ,pbp,dynR,g0,g1,g2,g6,hd,hrb,hJ,pbp2,h0,tis,h8,t2,t3,SX,hid]
          exact ⟨_,_,rfl⟩
        · rw [if_neg h8n]
          have h8:(((acc.length:Nat):Int) == 8)=false:=beq_eq_false_iff_ne.2 (by omega)
          have h1:=ans_must (id:=id) (o:=o) (i:=i) hR hi hT 1 1 rfl wd
          cases r1:mustP L 1 wd i with
          | out=>exact sevl_out
          | bad t c=>
            rw [r1] at h1
            obtain ⟨i',o',h1⟩:=h1
            refine ⟨i',o',fun bx hid hc e g0 g1 g2 g6=>?_⟩
            have hd:∀ k,id < bx.length+k:=fun k=>by omega
            have pbp2:pureL [PV.bp (bx.length+2) 0,PV.bp bx.length 0]=false:=rfl
            have tis:=okc_use hid hc hR (okc_is (id:=id) (o:=o) hR hi 1 1 rfl wd)
            rw [hk] at tis
            have t1:=badx_use hid hc hR h1
            rw [evL_at (fpart Try.f44 [1,0,0]) hL]
            unfold PSR
            obtain ⟨ev,eo,so,co,⟨hev,hco⟩,R⟩:=RULES CC;rw [← hev]
            rw [← hco] at tis t1
            simp only [fpart,part',Try.f44,Option.getD]
            simp only [S9,R,seval,PY,PZ,pbp,dynR,g0,g1,g2,g6,hd,hrb,hJ,pbp2,h0,tis,h8,t1,SX,hid]
            exact ⟨_,_,rfl⟩
          | ok u i1=>
            rw [r1] at h1
            dsimp only [bind_okk]
            have hi1:=(mustP_lt hT hi (by decide) r1).2
            have h2:=hp i1 hi1 acc (by omega)
            cases r2:part i1 with
            | out=>exact sevl_out
            | bad t c=>
              rw [r2] at h2
              obtain ⟨i',o',h2⟩:=h2
              refine ⟨i',o',fun bx hid hc e g0 g1 g2 g6=>?_⟩
              have hd:∀ k,id < bx.length+k:=fun k=>by omega
              have pbp2:pureL [PV.bp (bx.length+2) 0,PV.bp bx.length 0]=false:=rfl
              have tis:=okc_use hid hc hR (okc_is (id:=id) (o:=o) hR hi 1 1 rfl wd)
              rw [hk] at tis
              have t1:=okc_use hid hc hR h1
              have t2:=h2 bx hid hc
              unfold PSR at t2
              rw [evL_at (fpart Try.f44 [1,0,0]) hL]
              unfold PSR
              obtain ⟨ev,eo,so,co,⟨hev,hco⟩,R⟩:=RULES CC;rw [← hev]
              rw [← hco] at tis t1 t2
              simp only [fpart,part',Try.f44,Option.getD]
              simp only [S9,R,seval,PY,PZ,pbp,dynR,g0,g1,g2,g6,hd,hrb,hJ,pbp2,h0,tis,h8,t1,t2,SX,hid]
              exact ⟨_,_,rfl⟩
            | ok a i2=>
              rw [r2] at h2
              dsimp only [bind_okk]
              have hi2:=hlt i1 a i2 hi1 r2
              have h3:=ans_must (id:=id) (o:=o) (i:=i2) hR hi2 hT 4 4 rfl [59]
              cases r3:mustP L 4 [59] i2 with
              | out=>exact sevl_out
              | bad t c=>
                rw [r3] at h3
                obtain ⟨i',o',h3⟩:=h3
                refine ⟨i',o',fun bx hid hc e g0 g1 g2 g6=>?_⟩
                have hd:∀ k,id < bx.length+k:=fun k=>by omega
                have pbp2:pureL [PV.bp (bx.length+2) 0,PV.bp bx.length 0]=false:=rfl
                have tis:=okc_use hid hc hR (okc_is (id:=id) (o:=o) hR hi 1 1 rfl wd)
                rw [hk] at tis
                have t1:=okc_use hid hc hR h1
                have t2:=h2 bx hid hc
                unfold PSR at t2
                have t3:=badx_use hid hc hR h3
                rw [evL_at (fpart Try.f44 [1,0,0]) hL]
                unfold PSR
                obtain ⟨ev,eo,so,co,⟨hev,hco⟩,R⟩:=RULES CC;rw [← hev]
                rw [← hco] at tis t1 t2 t3
                simp only [fpart,part',Try.f44,Option.getD]
                simp only [S9,R,seval,PY,PZ,pbp,dynR,g0,g1,g2,g6,hd,hrb,hJ,pbp2,h0,tis,h8,t1,t2,t3,SX,hid]
                exact ⟨_,_,rfl⟩
              | ok u3 i3=>
                rw [r3] at h3
                dsimp only [bind_okk]
                have hi3:=(mustP_lt hT hi2 (by decide) r3).2
                have key:=ih i3 (acc++[a]) hi3 (by rw [List.length_append];simp only [List.length_cons,List.length_nil];omega)
                have hla:(acc++[a]).length=acc.length+1:=by simp
                cases r4:severalP L wd part m (acc++[a]) i3 with
                | out=>exact sevl_out
                | bad t c=>
                  rw [r4] at key
                  obtain ⟨i',o',key⟩:=key
                  refine ⟨i',o',fun bx hid hc e g0 g1 g2 g6=>?_⟩
                  have key:=key bx hid hc
                  rw [hla] at key
                  have hd:∀ k,id < bx.length+k:=fun k=>by omega
                  have pbp2:pureL [PV.bp (bx.length+2) 0,PV.bp bx.length 0]=false:=rfl
                  have tis:=okc_use hid hc hR (okc_is (id:=id) (o:=o) hR hi 1 1 rfl wd)
                  rw [hk] at tis
                  have t1:=okc_use hid hc hR h1
                  have t2:=h2 bx hid hc
                  unfold PSR at t2
                  have t3:=okc_use hid hc hR h3
                  rw [evL_at (fpart Try.f44 [1,0,0]) hL]
                  unfold PSR at key ⊢
                  obtain ⟨ev,eo,so,co,⟨hev,hco⟩,R⟩:=RULES CC;rw [← hev]
                  rw [← hev] at key
                  rw [← hco] at tis t1 t2 t3
                  simp only [fpart,part',Try.f44,Option.getD]
                  simp only [S9,R,seval,PY,PZ,pbp,dynR,g0,g1,g2,g6,hd,hrb,hJ,pbp2,h0,tis,h8,hw,t1,t2,t3,SX,hid]
                  refine key _ ?_ ?_ ?_ ?_
                  · simp only [S7,R,seval,g0]
                  · simp only [S7,R,seval,g1]
                  · simp only [S7,R,seval,g2]
                  · simp only [S7,R,seval]
                | ok l j=>
                  rw [r4] at key
                  refine fun bx hid hc e g0 g1 g2 g6=>?_
                  have key:=key bx hid hc
                  rw [hla] at key
                  have hd:∀ k,id < bx.length+k:=fun k=>by omega
                  have pbp2:pureL [PV.bp (bx.length+2) 0,PV.bp bx.length 0]=false:=rfl
                  have tis:=okc_use hid hc hR (okc_is (id:=id) (o:=o) hR hi 1 1 rfl wd)
                  rw [hk] at tis
                  have t1:=okc_use hid hc hR h1
                  have t2:=h2 bx hid hc
                  unfold PSR at t2
                  have t3:=okc_use hid hc hR h3
                  rw [evL_at (fpart Try.f44 [1,0,0]) hL]
                  unfold PSR at key ⊢
                  obtain ⟨ev,eo,so,co,⟨hev,hco⟩,R⟩:=RULES CC;rw [← hev]
                  rw [← hev] at key
                  rw [← hco] at tis t1 t2 t3
                  simp only [fpart,part',Try.f44,Option.getD]
                  simp only [S9,R,seval,PY,PZ,pbp,dynR,g0,g1,g2,g6,hd,hrb,hJ,pbp2,h0,tis,h8,hw,t1,t2,t3,SX,hid]
                  refine key _ ?_ ?_ ?_ ?_
                  · simp only [S7,R,seval,g0]
                  · simp only [S7,R,seval,g1]
                  · simp only [S7,R,seval,g2]
                  · simp only [S7,R,seval]
end Go.HH
namespace Go.HH
open Go Go.Proofs
set_option maxRecDepth 100000
set_option maxHeartbeats 4000000
set_option linter.unusedSimpArgs false
set_option linter.unusedVariables false
def SEVc {α:Type} (F:FuncId) (w:List UInt8) (id:Nat) (L:List Tk) (RL:PV) (o:Nat) (t0:Tk) (J:List PBox) (RBX:List α→PBox) (i:Nat) (r:PR (List α)):Prop:=match r with
  | .ok l j=>∀ (bx:List PBox) (hid:id < bx.length) (hc:clB bx),callOp CC (callL CC) 44 [.bp id 0,.str w,.fn F [] [.bp (bx.length+2) 0,.bp bx.length 0]] (BX bx id (PSR L i o RL) (.cells 63 [.bp id 0] :: .cells 66 [.int .i64 (t0.1:Int),.str t0.2.1,.int .i64 (t0.2.2:Int)] :: RBX [] :: J))=some (.ret (.tup []),(BX bx id (PSR L j o RL) (.cells 63 [.bp id 0] :: .cells 66 [.int .i64 (t0.1:Int),.str t0.2.1,.int .i64 (t0.2.2:Int)] :: RBX l :: J)))
  | .bad t c=>∃ i' o',∀ (bx:List PBox) (hid:id < bx.length) (hc:clB bx),∃ acc',callOp CC (callL CC) 44 [.bp id 0,.str w,.fn F [] [.bp (bx.length+2) 0,.bp bx.length 0]] (BX bx id (PSR L i o RL) (.cells 63 [.bp id 0] :: .cells 66 [.int .i64 (t0.1:Int),.str t0.2.1,.int .i64 (t0.2.2:Int)] :: RBX [] :: J))=some (.pan (fltV t c),(BX bx id (PSR L i' o' RL) (.cells 63 [.bp id 0] :: .cells 66 [.int .i64 (t0.1:Int),.str t0.2.1,.int .i64 (t0.2.2:Int)] :: RBX acc' :: J)))
  | .out=>True
theorem sev_call {α:Type} {F:FuncId} {wd:List UInt8} {id:Nat} {L:List Tk} {RL:PV} {o:Nat} {t0:Tk} {J:List PBox} {RBX:List α→PBox} {part:Nat→PR α} (hR:RL.pure=true) (hT:TokOK L) (hJ:∀ n,(J.all fun x=>x.under n)=true) (hrb:∀ n acc,(RBX acc).under n=true) (hlt:∀ i a j,i < L.length→part i=.ok a j→j < L.length) (hp:PARTc F part id L RL o t0 J RBX) {i:Nat} (hi:i < L.length):SEVc F wd id L RL o t0 J RBX i (severalP L wd part 10 [] i):=by
  have hloop:=loop_several _ rfl (wd:=wd) hR hT hJ hrb hlt hp 10 i [] hi (by simp)
  have pbp:pureL [PV.bp id 0]=false:=rfl
  cases r:severalP L wd part 10 [] i with
  | out=>trivial
  | bad t c=>
    rw [r] at hloop
    obtain ⟨i',o',hloop⟩:=hloop
    refine ⟨i',o',fun bx hid hc=>?_⟩
    have hloop:=hloop bx hid hc
    have hd:∀ k,id < bx.length+k:=fun k=>by omega
    have hx:∃ acc', callL CC 44 [.bp id 0,.str wd,.fn F [] [.bp (bx.length+2) 0,.bp bx.length 0]] (BX bx id (PSR L i o RL) (.cells 63 [.bp id 0] :: .cells 66 [.int .i64 (t0.1:Int),.str t0.2.1,.int .i64 (t0.2.2:Int)] :: RBX [] :: J))=some (.pan (fltV t c),(BX bx id (PSR L i' o' RL) (.cells 63 [.bp id 0] :: .cells 66 [.int .i64 (t0.1:Int),.str t0.2.1,.int .i64 (t0.2.2:Int)] :: RBX acc' :: J))):=by
      rw [callL_enter (fn:=Try.f44) (c:=Try.f44.body.getD .skip) rfl rfl fat_parse_parser_several rfl ok_parse_parser_several (Nat.le_of_ble_eq_true rfl)]
      simp only [fpart,part',Try.f44,Option.getD] at hloop ⊢
      unfold PSR at hloop ⊢
      obtain ⟨ev,eo,so,co,⟨hev,hco⟩,R⟩:=RULES CC;rw [← hev]
      rw [← hev] at hloop
      simp only [S9,R,seval,PY,PZ,pbp,dynR,SX,hid]
      generalize hE:ev _ _=z
      have hP:∃ e' acc',z=some (.pan (fltV t c),⟨e',(BX bx id (PSR L i' o' RL) (.cells 63 [.bp id 0] :: .cells 66 [.int .i64 (t0.1:Int),.str t0.2.1,.int .i64 (t0.2.2:Int)] :: RBX acc' :: J))⟩):=by
        rw [← hE]
        unfold PSR
        refine hloop _ ?_ ?_ ?_ ?_
        · simp only [S7,R,seval]
        · simp only [S7,R,seval]
        · simp only [S7,R,seval]
        · simp only [S7,R,seval] <;> rfl
      obtain ⟨e',acc',he⟩:=hP
      subst he
      clear hE hloop
      unfold PSR
      simp only [S9,R,seval,PY,PZ,pbp,dynR,SX,hid]
      exact ⟨_,rfl⟩
    obtain ⟨acc',hx⟩:=hx
    refine ⟨acc',?_⟩
    refine op_BXy (by simp [pureL,PV.pure]) rfl hc (PSR_under L _ _ hR) ?_ (fltV_under _ _ _) hx
    simp only [SU,SX,hd,hrb,hJ,decide_true,List.length_cons,List.length_nil,Bool.and_self]
  | ok l j=>
    rw [r] at hloop
    refine fun bx hid hc=>?_
    have hloop:=hloop bx hid hc
    have hd:∀ k,id < bx.length+k:=fun k=>by omega
    have hx:∃ u:Unit, callL CC 44 [.bp id 0,.str wd,.fn F [] [.bp (bx.length+2) 0,.bp bx.length 0]] (BX bx id (PSR L i o RL) (.cells 63 [.bp id 0] :: .cells 66 [.int .i64 (t0.1:Int),.str t0.2.1,.int .i64 (t0.2.2:Int)] :: RBX [] :: J))=some (.ret (.tup []),(BX bx id (PSR L j o RL) (.cells 63 [.bp id 0] :: .cells 66 [.int .i64 (t0.1:Int),.str t0.2.1,.int .i64 (t0.2.2:Int)] :: RBX l :: J))):=by
      rw [callL_enter (fn:=Try.f44) (c:=Try.f44.body.getD .skip) rfl rfl fat_parse_parser_several rfl ok_parse_parser_several (Nat.le_of_ble_eq_true rfl)]
      simp only [fpart,part',Try.f44,Option.getD] at hloop ⊢
      unfold PSR at hloop ⊢
      obtain ⟨ev,eo,so,co,⟨hev,hco⟩,R⟩:=RULES CC;rw [← hev]
      rw [← hev] at hloop
      simp only [S9,R,seval,PY,PZ,pbp,dynR,SX,hid]
      generalize hE:ev _ _=z
      have hP:∃ e' ,z=some (.exit 0,⟨e',(BX bx id (PSR L j o RL) (.cells 63 [.bp id 0] :: .cells 66 [.int .i64 (t0.1:Int),.str t0.2.1,.int .i64 (t0.2.2:Int)] :: RBX l :: J))⟩):=by
        rw [← hE]
        unfold PSR
        refine hloop _ ?_ ?_ ?_ ?_
        · simp only [S7,R,seval]
        · simp only [S7,R,seval]
        · simp only [S7,R,seval]
        · simp only [S7,R,seval] <;> rfl
      obtain ⟨e',he⟩:=hP
      subst he
      clear hE hloop
      unfold PSR
      simp only [S9,R,seval,PY,PZ,pbp,dynR,SX,hid]
      exact ⟨(),trivial⟩
    obtain ⟨_,hx⟩:=hx
    skip
    refine op_BXy (by simp [pureL,PV.pure]) rfl hc (PSR_under L _ _ hR) ?_ (by simp [CR.under,PV.under,underL]) hx
    simp only [SU,SX,hd,hrb,hJ,decide_true,List.length_cons,List.length_nil,Bool.and_self]
end Go.HH
namespace Go.HH
open Go Go.Proofs
set_option maxRecDepth 100000
set_option maxHeartbeats 4000000
set_option linter.unusedSimpArgs false
set_option linter.unusedVariables false
theorem okB_parse_parser_rule:fnOKB CC Try.f26 (Try.f26.body.getD .skip)=true:=by kernel_rfl
theorem noB_parse_parser_rule:fnOK CC Try.f26 (Try.f26.body.getD .skip)=false:=by kernel_rfl
theorem fatB_parse_parser_rule:CC.P.funcs[26]?=some Try.f26:=by kernel_rfl
noncomputable def IR:TypeInfo:=(Try.prog.info? 37).getD default
theorem apR (bytes:Nat) (hb:IR.bytes=bytes) (st:St) (al:List (Nat×Loc)) (s x:Operand) (d:Option Tmp):appendOn CC st al s x 23 23 d=match appendAt CC st al 37 s,elemsOf (opd CC st.env x) with
      | some (l,xs),some ys=>appK bytes 15 37 st al l xs ys d
      | _,_=>none:=appendOn_eq (i:=IR) (by kernel_rfl) (by kernel_rfl) (by kernel_rfl) (z:=(IR.zero).getD default) (by kernel_rfl) (by kernel_rfl) (by rw [show IR.size=15 from by kernel_rfl];decide) hb (by kernel_rfl)
theorem bytesR:IR.bytes=208:=by kernel_rfl
theorem bsR (nm:List UInt8) (pr:Int) (xs ys:List PV) (e:Tr):buildSliceP CC 23 1 [(0,.agg (rcs nm pr (.sl xs) (.sl ys) e))]=some (.osl 37 [.agg (rcs nm pr (.sl xs) (.sl ys) e)]):=by
  obtain ⟨k,n,m,s,v,q,kids⟩:=e
  unfold rcs
  kernel_rfl
theorem no_ra:drawOK CC (opsOf (fpart Try.f26 [1,0,1,0]))=false:=by kernel_rfl
theorem ord_ra:orders (opsOf (fpart Try.f26 [1,0,1,0]))=[[0,1,2,3],[1,0,2,3],[1,2,0,3]]:=by kernel_rfl
theorem draw_ra {bx:List PBox} {id:Nat} {L:List Tk} {i o:Nat} {RL:PV} (hR:RL.pure=true) (hid:id < bx.length) (hc:clB bx) (hi:i < L.length) (e:List PV) (g1:getT e 1=.bp bx.length 0) :
    drawAll CC (callL CC) (opsOf (fpart Try.f26 [1,0,1,0])) ⟨e,BX bx id (PSR L i o RL) [.cells 63 [.bp id 0]]⟩=some (.pan (fltV (atT L i) 3),⟨[],BX bx id (PSR L i o RL) [.cells 63 [.bp id 0]]⟩):=by
  have t0:=okc_use hid hc hR (okc_token (id:=id) (o:=o) hR hi)
  have t1:=badx_use hid hc hR (badx_fail (id:=id) (i:=i) (o:=o) (L:=L) (RL:=RL) hR (tokAt L i).1 (tokAt L i).2.1 (tokAt L i).2.2 3)
  have hd:∀ k,id < bx.length+k:=fun k=>by omega
  have pbp:pureL [PV.bp id 0]=false:=rfl
  refine drawAll_iff.2 ⟨by rw [ord_ra];simp,fun l hl=>?_⟩
  rw [ord_ra] at hl
  unfold PSR atT
  obtain ⟨dr,ev,eo,so,co,⟨hev,hco,heo,hdr⟩,R⟩:=RULESB CC
  rw [← heo]
  rw [← hco] at t0 t1
  simp only [List.mem_cons,List.not_mem_nil,or_false] at hl
  rcases hl with rfl | rfl | rfl
  all_goals
    simp only [opsOf,fpart,part',Try.f26,Option.getD,pickOps,List.filterMap_cons,List.filterMap_nil,List.getElem?_toArray,List.getElem?_cons_succ,List.getElem?_cons_zero]
    simp only [S9,R,seval,PY,PZ,pbp,dynR,t0,t1,g1,hd,SX,normP_normal,normP_pan,hid]
theorem no_rb:drawOK CC (opsOf (fpart Try.f26 [1,1,1,1,1,1,1,1,1,1,1,1]))=false:=by kernel_rfl
theorem ord_rb:orders (opsOf (fpart Try.f26 [1,1,1,1,1,1,1,1,1,1,1,1]))=[[0,1,2,3,4,5,6,7,8,9,10],[0,1,2,3,5,4,6,7,8,9,10],[0,1,2,3,5,6,4,7,8,9,10],[0,1,2,5,3,4,6,7,8,9,10],[0,1,2,5,3,6,4,7,8,9,10],[0,1,2,5,6,3,4,7,8,9,10],[0,1,5,2,3,4,6,7,8,9,10],[0,1,5,2,3,6,4,7,8,9,10],[0,1,5,2,6,3,4,7,8,9,10],[0,1,5,6,2,3,4,7,8,9,10],[0,5,1,2,3,4,6,7,8,9,10],[0,5,1,2,3,6,4,7,8,9,10],[0,5,1,2,6,3,4,7,8,9,10],[0,5,1,6,2,3,4,7,8,9,10],[0,5,6,1,2,3,4,7,8,9,10],[1,0,2,3,4,5,6,7,8,9,10],[1,0,2,3,5,4,6,7,8,9,10],[1,0,2,3,5,6,4,7,8,9,10],[1,0,2,5,3,4,6,7,8,9,10],[1,0,2,5,3,6,4,7,8,9,10],[1,0,2,5,6,3,4,7,8,9,10],[1,0,5,2,3,4,6,7,8,9,10],[1,0,5,2,3,6,4,7,8,9,10],[1,0,5,2,6,3,4,7,8,9,10],[1,0,5,6,2,3,4,7,8,9,10],[1,2,0,3,4,5,6,7,8,9,10],[1,2,0,3,5,4,6,7,8,9,10],[1,2,0,3,5,6,4,7,8,9,10],[1,2,0,5,3,4,6,7,8,9,10],[1,2,0,5,3,6,4,7,8,9,10],[1,2,0,5,6,3,4,7,8,9,10],[1,2,3,0,4,5,6,7,8,9,10],[1,2,3,0,5,4,6,7,8,9,10],[1,2,3,0,5,6,4,7,8,9,10],[1,2,3,4,0,5,6,7,8,9,10],[1,2,3,4,5,0,6,7,8,9,10],[1,2,3,4,5,6,0,7,8,9,10],[1,2,3,4,5,6,7,0,8,9,10],[1,2,3,5,0,4,6,7,8,9,10],[1,2,3,5,0,6,4,7,8,9,10],[1,2,3,5,4,0,6,7,8,9,10],[1,2,3,5,4,6,0,7,8,9,10],[1,2,3,5,4,6,7,0,8,9,10],[1,2,3,5,6,0,4,7,8,9,10],[1,2,3,5,6,4,0,7,8,9,10],[1,2,3,5,6,4,7,0,8,9,10],[1,2,5,0,3,4,6,7,8,9,10],[1,2,5,0,3,6,4,7,8,9,10],[1,2,5,0,6,3,4,7,8,9,10],[1,2,5,3,0,4,6,7,8,9,10],[1,2,5,3,0,6,4,7,8,9,10],[1,2,5,3,4,0,6,7,8,9,10],[1,2,5,3,4,6,0,7,8,9,10],[1,2,5,3,4,6,7,0,8,9,10],[1,2,5,3,6,0,4,7,8,9,10],[1,2,5,3,6,4,0,7,8,9,10],[1,2,5,3,6,4,7,0,8,9,10],[1,2,5,6,0,3,4,7,8,9,10],[1,2,5,6,3,0,4,7,8,9,10],[1,2,5,6,3,4,0,7,8,9,10],[1,2,5,6,3,4,7,0,8,9,10],[1,5,0,2,3,4,6,7,8,9,10],[1,5,0,2,3,6,4,7,8,9,10],[1,5,0,2,6,3,4,7,8,9,10],[1,5,0,6,2,3,4,7,8,9,10],[1,5,2,0,3,4,6,7,8,9,10],[1,5,2,0,3,6,4,7,8,9,10],[1,5,2,0,6,3,4,7,8,9,10],[1,5,2,3,0,4,6,7,8,9,10],[1,5,2,3,0,6,4,7,8,9,10],[1,5,2,3,4,0,6,7,8,9,10],[1,5,2,3,4,6,0,7,8,9,10],[1,5,2,3,4,6,7,0,8,9,10],[1,5,2,3,6,0,4,7,8,9,10],[1,5,2,3,6,4,0,7,8,9,10],[1,5,2,3,6,4,7,0,8,9,10],[1,5,2,6,0,3,4,7,8,9,10],[1,5,2,6,3,0,4,7,8,9,10],[1,5,2,6,3,4,0,7,8,9,10],[1,5,2,6,3,4,7,0,8,9,10],[1,5,6,0,2,3,4,7,8,9,10],[1,5,6,2,0,3,4,7,8,9,10],[1,5,6,2,3,0,4,7,8,9,10],[1,5,6,2,3,4,0,7,8,9,10],[1,5,6,2,3,4,7,0,8,9,10],[5,0,1,2,3,4,6,7,8,9,10],[5,0,1,2,3,6,4,7,8,9,10],[5,0,1,2,6,3,4,7,8,9,10],[5,0,1,6,2,3,4,7,8,9,10],[5,0,6,1,2,3,4,7,8,9,10],[5,1,0,2,3,4,6,7,8,9,10],[5,1,0,2,3,6,4,7,8,9,10],[5,1,0,2,6,3,4,7,8,9,10],[5,1,0,6,2,3,4,7,8,9,10],[5,1,2,0,3,4,6,7,8,9,10],[5,1,2,0,3,6,4,7,8,9,10],[5,1,2,0,6,3,4,7,8,9,10],[5,1,2,3,0,4,6,7,8,9,10],[5,1,2,3,0,6,4,7,8,9,10],[5,1,2,3,4,0,6,7,8,9,10],[5,1,2,3,4,6,0,7,8,9,10],[5,1,2,3,4,6,7,0,8,9,10],[5,1,2,3,6,0,4,7,8,9,10],[5,1,2,3,6,4,0,7,8,9,10],[5,1,2,3,6,4,7,0,8,9,10],[5,1,2,6,0,3,4,7,8,9,10],[5,1,2,6,3,0,4,7,8,9,10],[5,1,2,6,3,4,0,7,8,9,10],[5,1,2,6,3,4,7,0,8,9,10],[5,1,6,0,2,3,4,7,8,9,10],[5,1,6,2,0,3,4,7,8,9,10],[5,1,6,2,3,0,4,7,8,9,10],[5,1,6,2,3,4,0,7,8,9,10],[5,1,6,2,3,4,7,0,8,9,10],[5,6,0,1,2,3,4,7,8,9,10],[5,6,1,0,2,3,4,7,8,9,10],[5,6,1,2,0,3,4,7,8,9,10],[5,6,1,2,3,0,4,7,8,9,10],[5,6,1,2,3,4,0,7,8,9,10],[5,6,1,2,3,4,7,0,8,9,10]]:=by kernel_rfl
theorem draw_rb_nil {bx:List PBox} {id:Nat} {L:List Tk} {i o:Nat} (hid:id < bx.length) (hc:clB bx) (nm:List UInt8) (pr:Int) (ons dss:List PV) (et:Tr) (t0:Tk) (J:List PBox)  (e:List PV) (g1:getT e 1=.bp bx.length 0) (g3:getT e 3=.bp (bx.length+2) 0) :
    drawAll CC (callL CC) (opsOf (fpart Try.f26 [1,1,1,1,1,1,1,1,1,1,1,1])) ⟨e,BX bx id (PSR L i o .nils) (.cells 63 [.bp id 0] :: .cells 66 [.int .i64 (t0.1:Int),.str t0.2.1,.int .i64 (t0.2.2:Int)] :: .cells 37 (rcs nm pr (.osl 59 ons) (.osl 41 dss) et) :: J)⟩=some (.normal,⟨(setT (setT (setT (setT (setT (setT (setT (setT (setT (setT (setT e 68 (.bp id 0)) 69 (.bp id 0)) 70 (.bp id 0)) 71 (.bp id 3)) 72 (.nils)) 73 (.agg (rcs nm pr (.sl ons) (.sl dss) et))) 74 (.osl 37 [.agg (rcs nm pr (.sl ons) (.sl dss) et)])) 75 ((.osl 37 [.agg (rcs nm pr (.sl ons) (.sl dss) et)]))) 76 (.bp id 0)) 77 (.bp id 3)) 75 (.sl [.agg (rcs nm pr (.sl ons) (.sl dss) et)])),BX bx id (PSR L i o (.osl 37 [.agg (rcs nm pr (.sl ons) (.sl dss) et)])) (.cells 63 [.bp id 0] :: .cells 66 [.int .i64 (t0.1:Int),.str t0.2.1,.int .i64 (t0.2.2:Int)] :: .cells 37 (rcs nm pr (.osl 59 ons) (.osl 41 dss) et) :: J)⟩):=by
  have hb:=apR _ bytesR
  have hbs:=bsR nm pr ons dss et
  have hap:=fun st al l d=>appK_ok (bytes:=208) (size:=15) (e:=37) (st:=st) (al:=al) (l:=l) (d:=d) (xs:=[]) (ys:=[.agg (rcs nm pr (.sl ons) (.sl dss) et)]) (by simp only [List.length_cons,List.length_nil];omega) (by decide) (by obtain ⟨k,n,m,s,v,q,kids⟩:=et;rfl)
  obtain ⟨k,n,m,s,v,q,kids⟩:=et
  have pbp:pureL [PV.bp id 0]=false:=rfl
  refine drawAll_iff.2 ⟨by rw [ord_rb];simp,fun l hl=>?_⟩
  rw [ord_rb] at hl
  unfold rcs PSR at *
  obtain ⟨dr,ev,eo,so,co,⟨hev,hco,heo,hdr⟩,R⟩:=RULESB CC
  rw [← heo]
  simp only [List.mem_cons,List.not_mem_nil,or_false] at hl
  rcases hl with rfl | rfl | rfl | rfl | rfl | rfl | rfl | rfl | rfl | rfl | rfl | rfl | rfl | rfl | rfl | rfl | rfl | rfl | rfl | rfl | rfl | rfl | rfl | rfl | rfl | rfl | rfl | rfl | rfl | rfl | rfl | rfl | rfl | rfl | rfl | rfl | rfl | rfl | rfl | rfl | rfl | rfl | rfl | rfl | rfl | rfl | rfl | rfl | rfl | rfl | rfl | rfl | rfl | rfl | rfl | rfl | rfl | rfl | rfl | rfl | rfl | rfl | rfl | rfl | rfl | rfl | rfl | rfl | rfl | rfl | rfl | rfl | rfl | rfl | rfl | rfl | rfl | rfl | rfl | rfl | rfl | rfl | rfl | rfl | rfl | rfl | rfl | rfl | rfl | rfl | rfl | rfl | rfl | rfl | rfl | rfl | rfl | rfl | rfl | rfl | rfl | rfl | rfl | rfl | rfl | rfl | rfl | rfl | rfl | rfl | rfl | rfl | rfl | rfl | rfl | rfl | rfl | rfl | rfl | rfl
  all_goals
    simp only [opsOf,fpart,part',Try.f26,Option.getD,pickOps,List.filterMap_cons,List.filterMap_nil,List.getElem?_toArray,List.getElem?_cons_succ,List.getElem?_cons_zero]
    simp only [S9,R,seval,PY,PZ,pbp,dynR,hb,hbs,hap,g1,g3,killT_box,SX,normP_normal,normP_pan,List.getD_cons_zero,List.getD_cons_succ,hid]
    repeat first | rw [setT_swap _ 75 68 _ _ (by decide)] | rw [setT_swap _ 74 68 _ _ (by decide)] | rw [setT_swap _ 73 68 _ _ (by decide)] | rw [setT_swap _ 72 68 _ _ (by decide)] | rw [setT_swap _ 71 68 _ _ (by decide)] | rw [setT_swap _ 70 68 _ _ (by decide)] | rw [setT_swap _ 69 68 _ _ (by decide)] | rw [setT_swap _ 74 69 _ _ (by decide)] | rw [setT_swap _ 73 69 _ _ (by decide)] | rw [setT_swap _ 74 70 _ _ (by decide)] | rw [setT_swap _ 73 70 _ _ (by decide)] | rw [setT_swap _ 74 71 _ _ (by decide)] | rw [setT_swap _ 73 71 _ _ (by decide)] | rw [setT_swap _ 74 72 _ _ (by decide)] | rw [setT_swap _ 73 72 _ _ (by decide)]
    try rfl
theorem draw_rb_cons {bx:List PBox} {id:Nat} {L:List Tk} {i o:Nat} (hid:id < bx.length) (hc:clB bx) (nm:List UInt8) (pr:Int) (ons dss:List PV) (et:Tr) (t0:Tk) (J:List PBox) (x0:PV) (xs:List PV) (hx8:xs.length≤100) (e:List PV) (g1:getT e 1=.bp bx.length 0) (g3:getT e 3=.bp (bx.length+2) 0) :
    drawAll CC (callL CC) (opsOf (fpart Try.f26 [1,1,1,1,1,1,1,1,1,1,1,1])) ⟨e,BX bx id (PSR L i o (.osl 37 (x0 :: xs))) (.cells 63 [.bp id 0] :: .cells 66 [.int .i64 (t0.1:Int),.str t0.2.1,.int .i64 (t0.2.2:Int)] :: .cells 37 (rcs nm pr (.osl 59 ons) (.osl 41 dss) et) :: J)⟩=some (.normal,⟨(setT (setT (setT (setT (setT (setT (setT (setT (setT (setT (setT e 68 (.bp id 0)) 69 (.bp id 0)) 70 (.bp id 0)) 71 (.bp id 3)) 72 (.sl (x0 :: xs))) 73 (.agg (rcs nm pr (.sl ons) (.sl dss) et))) 74 (.osl 37 [.agg (rcs nm pr (.sl ons) (.sl dss) et)])) 75 ((.osl 37 (x0 :: (xs++[.agg (rcs nm pr (.sl ons) (.sl dss) et)]))))) 76 (.bp id 0)) 77 (.bp id 3)) 75 (.sl (x0 :: (xs++[.agg (rcs nm pr (.sl ons) (.sl dss) et)])))),BX bx id (PSR L i o (.osl 37 (x0 :: (xs++[.agg (rcs nm pr (.sl ons) (.sl dss) et)])))) (.cells 63 [.bp id 0] :: .cells 66 [.int .i64 (t0.1:Int),.str t0.2.1,.int .i64 (t0.2.2:Int)] :: .cells 37 (rcs nm pr (.osl 59 ons) (.osl 41 dss) et) :: J)⟩):=by
  have hb:=apR _ bytesR
  have hbs:=bsR nm pr ons dss et
  have hap:=fun st al l d=>appK_ok (bytes:=208) (size:=15) (e:=37) (st:=st) (al:=al) (l:=l) (d:=d) (xs:=x0 :: xs) (ys:=[.agg (rcs nm pr (.sl ons) (.sl dss) et)]) (by simp only [List.length_cons,List.length_nil];omega) (by decide) (by obtain ⟨k,n,m,s,v,q,kids⟩:=et;rfl)
  obtain ⟨k,n,m,s,v,q,kids⟩:=et
  have pbp:pureL [PV.bp id 0]=false:=rfl
  refine drawAll_iff.2 ⟨by rw [ord_rb];simp,fun l hl=>?_⟩
  rw [ord_rb] at hl
  unfold rcs PSR at *
  obtain ⟨dr,ev,eo,so,co,⟨hev,hco,heo,hdr⟩,R⟩:=RULESB CC
  rw [← heo]
  simp only [List.mem_cons,List.not_mem_nil,or_false] at hl
  rcases hl with rfl | rfl | rfl | rfl | rfl | rfl | rfl | rfl | rfl | rfl | rfl | rfl | rfl | rfl | rfl | rfl | rfl | rfl | rfl | rfl | rfl | rfl | rfl | rfl | rfl | rfl | rfl | rfl | rfl | rfl | rfl | rfl | rfl | rfl | rfl | rfl | rfl | rfl | rfl | rfl | rfl | rfl | rfl | rfl | rfl | rfl | rfl | rfl | rfl | rfl | rfl | rfl | rfl | rfl | rfl | rfl | rfl | rfl | rfl | rfl | rfl | rfl | rfl | rfl | rfl | rfl | rfl | rfl | rfl | rfl | rfl | rfl | rfl | rfl | rfl | rfl | rfl | rfl | rfl | rfl | rfl | rfl | rfl | rfl | rfl | rfl | rfl | rfl | rfl | rfl | rfl | rfl | rfl | rfl | rfl | rfl | rfl | rfl | rfl | rfl | rfl | rfl | rfl | rfl | rfl | rfl | rfl | rfl | rfl | rfl | rfl | rfl | rfl | rfl | rfl | rfl | rfl | rfl | rfl | rfl
  all_goals
    simp only [opsOf,fpart,part',Try.f26,Option.getD,pickOps,List.filterMap_cons,List.filterMap_nil,List.getElem?_toArray,List.getElem?_cons_succ,List.getElem?_cons_zero]
    simp only [S9,R,seval,PY,PZ,pbp,dynR,hb,hbs,hap,g1,g3,killT_box,SX,normP_normal,normP_pan,List.getD_cons_zero,List.getD_cons_succ,hid]
    repeat first | rw [setT_swap _ 75 68 _ _ (by decide)] | rw [setT_swap _ 74 68 _ _ (by decide)] | rw [setT_swap _ 73 68 _ _ (by decide)] | rw [setT_swap _ 72 68 _ _ (by decide)] | rw [setT_swap _ 71 68 _ _ (by decide)] | rw [setT_swap _ 70 68 _ _ (by decide)] | rw [setT_swap _ 69 68 _ _ (by decide)] | rw [setT_swap _ 74 69 _ _ (by decide)] | rw [setT_swap _ 73 69 _ _ (by decide)] | rw [setT_swap _ 74 70 _ _ (by decide)] | rw [setT_swap _ 73 70 _ _ (by decide)] | rw [setT_swap _ 74 71 _ _ (by decide)] | rw [setT_swap _ 73 71 _ _ (by decide)] | rw [setT_swap _ 74 72 _ _ (by decide)] | rw [setT_swap _ 73 72 _ _ (by decide)]
    try rfl
end Go.HH
namespace Go.HH
open Go Go.Proofs
set_option maxRecDepth 100000
set_option maxHeartbeats 4000000
set_option linter.unusedSimpArgs false
set_option linter.unusedVariables false
theorem triggerP_lt {L:List Tk} (hT:TokOK L) {i:Nat} {a:Tg} {j:Nat} (hi:i < L.length) (h:triggerP L i=.ok a j):j < L.length:=by
  unfold triggerP at h
  split at h
  · rename_i hk
    have hi1:=isT_lt hT hi hk (by decide)
    obtain ⟨_,_,r0,h⟩:=bind_ok h
    have h0:=pathP_lt hT hi1 r0
    injection h with _ h
    exact h ▸ h0.2.1
  split at h
  · rename_i hk
    have hi1:=isT_lt hT hi hk (by decide)
    obtain ⟨_,_,r0,h⟩:=bind_ok h
    have h0:=pathP_lt hT hi1 r0
    injection h with _ h
    exact h ▸ h0.2.1
  split at h
  · rename_i hk
    have hi1:=isT_lt hT hi hk (by decide)
    obtain ⟨_,_,r0,h⟩:=bind_ok h
    have h0:=clockP_lt hT hi1 r0
    split at h
    · rename_i hk2
      have hi2:=isT_lt hT h0.2.1 hk2 (by decide)
      obtain ⟨_,_,r0,h⟩:=bind_ok h
      have h0:=daysP_lt hT hi2 r0
      injection h with _ h
      exact h ▸ h0.2.1
    · injection h with _ h
      exact h ▸ h0.2.1
  split at h
  · rename_i hk
    have hi1:=isT_lt hT hi hk (by decide)
    split at h
    · skip
      obtain ⟨_,_,r0,h⟩:=bind_ok h
      have h0:=nameP_lt hT hi1 r0
      injection h with _ h
      exact h ▸ h0.2
    · rename_i h0 hne
      injection h with _ h
      exact h ▸ hi1
  split at h
  · rename_i hk
    have hi1:=isT_lt hT hi hk (by decide)
    injection h with _ h
    exact h ▸ hi1
  obtain ⟨_,_,r0,h⟩:=bind_ok h
  obtain ⟨_,_,r1,h⟩:=bind_ok h
  have h0:=mustP_lt hT hi (by decide) r0
  have h1:=numP_lt hT h0.2 r1
  injection h with _ h
  exact h ▸ h1.2.1
theorem stepP_lt {L:List Tk} (hT:TokOK L) {n i:Nat} {a:Sp} {j:Nat} (hi:i < L.length) (h:stepP L n i=.ok a j):j < L.length:=by
  unfold stepP at h
  split at h
  · rename_i hk
    have hi1:=isT_lt hT hi hk (by decide)
    obtain ⟨_,_,r0,h⟩:=bind_ok h
    obtain ⟨_,_,r1,h⟩:=bind_ok h
    obtain ⟨_,_,r2,h⟩:=bind_ok h
    have h0:=pathP_lt hT hi1 r0
    have h1:=mustP_lt hT h0.2.1 (by decide) r1
    have h2:=wholeP_lt hT h1.2 r2
    injection h with _ h
    exact h ▸ h2.2
  split at h
  · rename_i hk
    have hi1:=isT_lt hT hi hk (by decide)
    obtain ⟨_,_,r0,h⟩:=bind_ok h
    have h0:=pathP_lt hT hi1 r0
    split at h
    · rename_i hk2
      have hi2:=isT_lt hT h0.2.1 hk2 (by decide)
      obtain ⟨_,_,r0,h⟩:=bind_ok h
      obtain ⟨_,_,r1,h⟩:=bind_ok h
      have h0:=wholeP_lt hT hi2 r0
      have h1:=mustP_lt hT h0.2 (by decide) r1
      injection h with _ h
      exact h ▸ h1.2
    · injection h with _ h
      exact h ▸ h0.2.1
  split at h
  · rename_i hk
    have hi1:=isT_lt hT hi hk (by decide)
    obtain ⟨_,_,r0,h⟩:=bind_ok h
    have h0:=nameP_lt hT hi1 r0
    injection h with _ h
    exact h ▸ h0.2
  split at h
  · rename_i hk
    have hi1:=isT_lt hT hi hk (by decide)
    obtain ⟨_,_,r0,h⟩:=bind_ok h
    have h0:=nameP_lt hT hi1 r0
    injection h with _ h
    exact h ▸ h0.2
  obtain ⟨_,_,r0,h⟩:=bind_ok h
  obtain ⟨_,_,r1,h⟩:=bind_ok h
  have h0:=mustP_lt hT hi (by decide) r0
  have h1:=oneP_lt hT h0.2 (by decide) r1
  injection h with _ h
  exact h ▸ h1.2
theorem severalP_lt {α:Type} {L:List Tk} (hT:TokOK L) {wd:List UInt8} {part:Nat→PR α} (hlt:∀ i a j,i < L.length→part i=.ok a j→j < L.length):∀ (m:Nat) (acc:List α) (i:Nat) (l:List α) (j:Nat),i < L.length→acc.length≤8→severalP L wd part m acc i=.ok l j→j < L.length∧l≠[]∧l.length≤8:=by
  intro m
  induction m with
  | zero=>intro acc i l j _ _ h;cases h
  | succ m ih=>
    intro acc i l j hi h8 h
    rw [severalP] at h
    split at h
    · split at h
      · cases h
      · obtain ⟨_,_,r0,h⟩:=bind_ok h
        obtain ⟨_,_,r1,h⟩:=bind_ok h
        obtain ⟨_,_,r2,h⟩:=bind_ok h
        have h0:=(mustP_lt hT hi (by decide) r0).2
        have h1:=hlt _ _ _ h0 r1
        have h2:=(mustP_lt hT h1 (by decide) r2).2
        exact ih _ _ _ _ h2 (by rw [List.length_append];simp only [List.length_cons,List.length_nil];omega) h
    · rename_i hn
      injection h with e1 e2
      subst e1 e2
      exact ⟨hi,fun e=>hn (Or.inl (by rw [e] <;> rfl)),h8⟩
theorem part_r1 {id:Nat} {L:List Tk} {o:Nat} {RL:PV} (hR:RL.pure=true) (hT:TokOK L) (nm:List UInt8) (pr:Int) (xV:PV) (hdu:∀ n,xV.under n=true) (et:Tr) (t0:Tk) {J:List PBox} (hJ:∀ n,(J.all fun x=>x.under n)=true) :
    PARTc 45 (triggerP L) id L RL o t0 J (fun acc:List Tg=>.cells 37 (rcs nm pr (lsV 59 (acc.map tgV)) xV et)):=by
  intro i hi acc h7
  have h:=ans_trigger (id:=id) (o:=o) hR hi hT
  cases r:triggerP L i with
  | out=>trivial
  | ok a j=>
    rw [r] at h
    exact fun bx hid hc=>op_r1_ok hR j hid hc nm pr xV hdu et t0 hJ acc h7 a h
  | bad t c=>
    rw [r] at h
    obtain ⟨i',o',h⟩:=h
    exact ⟨i',o',fun bx hid hc=>op_r1_bad hR 0 hid hc nm pr xV hdu et t0 hJ acc h7 h⟩
theorem sev_r1 {id:Nat} {L:List Tk} {o:Nat} {RL:PV} (hR:RL.pure=true) (hT:TokOK L) (nm:List UInt8) (pr:Int) (xV:PV) (hdu:∀ n,xV.under n=true) (et:Tr) (t0:Tk) {J:List PBox} (hJ:∀ n,(J.all fun x=>x.under n)=true) (wd:List UInt8) {i:Nat} (hi:i < L.length) :
    SEVc 45 wd id L RL o t0 J (fun acc:List Tg=>.cells 37 (rcs nm pr (lsV 59 (acc.map tgV)) xV et)) i (severalP L wd (triggerP L) 10 [] i):=
  sev_call hR hT hJ (fun z acc=>by show underL z (rcs nm pr (lsV 59 (acc.map tgV)) xV et)=true;exact rcs_under z nm pr _ _ et (lsV_under _ _ _ (map_under tgV tgV_under _ _)) (hdu _)) (fun i a j hi h=>triggerP_lt hT hi h) (part_r1 hR hT nm pr xV hdu et t0 hJ) hi
theorem part_r2 {id:Nat} {L:List Tk} {o:Nat} {RL:PV} (hR:RL.pure=true) (hT:TokOK L) (n:Nat) (ho:o=0) (nm:List UInt8) (pr:Int) (xV:PV) (hdu:∀ n,xV.under n=true) (et:Tr) (t0:Tk) {J:List PBox} (hJ:∀ n,(J.all fun x=>x.under n)=true) :
    PARTc 47 (stepP L n) id L RL o t0 J (fun acc:List Sp=>.cells 37 (rcs nm pr xV (lsV 41 (acc.map spV)) et)):=by
  intro i hi acc h7
  have h:=ans_step (id:=id) (o:=o) hR hi hT n ho
  cases r:stepP L n i with
  | out=>trivial
  | ok a j=>
    rw [r] at h
    exact fun bx hid hc=>op_r2_ok hR j hid hc nm pr xV hdu et t0 hJ acc h7 a h
  | bad t c=>
    rw [r] at h
    obtain ⟨i',o',h⟩:=h
    exact ⟨i',o',fun bx hid hc=>op_r2_bad hR 0 hid hc nm pr xV hdu et t0 hJ acc h7 h⟩
theorem sev_r2 {id:Nat} {L:List Tk} {o:Nat} {RL:PV} (hR:RL.pure=true) (hT:TokOK L) (n:Nat) (ho:o=0) (nm:List UInt8) (pr:Int) (xV:PV) (hdu:∀ n,xV.under n=true) (et:Tr) (t0:Tk) {J:List PBox} (hJ:∀ n,(J.all fun x=>x.under n)=true) (wd:List UInt8) {i:Nat} (hi:i < L.length) :
    SEVc 47 wd id L RL o t0 J (fun acc:List Sp=>.cells 37 (rcs nm pr xV (lsV 41 (acc.map spV)) et)) i (severalP L wd (stepP L n) 10 [] i):=
  sev_call hR hT hJ (fun z acc=>by show underL z (rcs nm pr xV (lsV 41 (acc.map spV)) et)=true;exact rcs_under z nm pr _ _ et (hdu _) (lsV_under _ _ _ (map_under spV spV_under _ _))) (fun i a j hi h=>stepP_lt hT hi h) (part_r2 hR hT n ho nm pr xV hdu et t0 hJ) hi
end Go.HH
namespace Go.HH
open Go Go.Proofs
set_option maxRecDepth 100000
set_option maxHeartbeats 4000000
set_option linter.unusedSimpArgs false
set_option linter.unusedVariables false
def TLr {β:Type} (T:Code) (id:Nat) (L:List Tk) (RL:PV) (o:Nat) (t0:Tk) (J:List PBox) (i:Nat) (R0:PBox) (RLn:β→PV) (r:PR β):Prop:=match r with
  | .ok b j=>∀ (bx:List PBox) (hid:id < bx.length) (hc:clB bx) (e:List PV),getT e 1=.bp bx.length 0→getT e 2=.bp (bx.length+1) 0→getT e 3=.bp (bx.length+2) 0→∃ e' ys',evB CC T ⟨e,(BX bx id (PSR L i o RL) (.cells 63 [.bp id 0] :: .cells 66 [.int .i64 (t0.1:Int),.str t0.2.1,.int .i64 (t0.2.2:Int)] :: R0 :: J))⟩=some (.normal,⟨e',BX bx id (PSR L j o (RLn b)) ys'⟩)
  | .bad t c=>∃ i' o',∀ (bx:List PBox) (hid:id < bx.length) (hc:clB bx) (e:List PV),getT e 1=.bp bx.length 0→getT e 2=.bp (bx.length+1) 0→getT e 3=.bp (bx.length+2) 0→∃ e' ys',evB CC T ⟨e,(BX bx id (PSR L i o RL) (.cells 63 [.bp id 0] :: .cells 66 [.int .i64 (t0.1:Int),.str t0.2.1,.int .i64 (t0.2.2:Int)] :: R0 :: J))⟩=some (.pan (fltV t c),⟨e',BX bx id (PSR L i' o' RL) ys'⟩)
  | .out=>True
theorem tl_out {β:Type} {T:Code} {id:Nat} {L:List Tk} {RL:PV} {o:Nat} {t0:Tk} {J:List PBox} {i:Nat} {R0:PBox} {RLn:β→PV}:TLr T id L RL o t0 J i R0 RLn .out:=trivial
theorem lsV_nil (t:TypeId):lsV t []=.nils:=rfl
theorem lsV_cons (t:TypeId) (x:PV) (r:List PV):lsV t (x :: r)=.osl t (x :: r):=rfl
theorem lsV_pure (t:TypeId):∀ l:List PV,pureL l=true→(lsV t l).pure=true
  | [],_=>rfl
  | x :: r,h=>h
theorem tgV_pure (t:Tg):(tgV t).pure=true:=rfl
theorem spV_pure (s:Sp):(spV s).pure=true:=spC_pure s
theorem map_pure {α:Type} (f:α→PV) (hf:∀ a,(f a).pure=true):∀ l:List α,pureL (l.map f)=true
  | []=>rfl
  | x :: r=>by rw [List.map_cons,pureL_cons,hf,map_pure f hf r];rfl
theorem tail3 (T:Code) (hL:T=fpart Try.f26 [1,1,1,1,1,1,1,1,1,1]) {id:Nat} {L:List Tk} {o:Nat} (hT:TokOK L) (RS:List PV) (hRS:pureL RS=true) (hR8:RS.length≤100) (n:Nat) (ho:o=0) (nm:List UInt8) (pr:Int) (ons:List Tg) (hon:ons≠[]) (et:Tr) (t0:Tk) {J:List PBox} (hJ:∀ n,(J.all fun x=>x.under n)=true) {i:Nat} (hi:i < L.length) :
    TLr T id L (lsV 37 RS) o t0 J i (.cells 37 (rcs nm pr (lsV 59 (ons.map tgV)) (.nils) et)) (fun dos=>lsV 37 (RS++[.agg (rcs nm pr (.sl (ons.map tgV)) (.sl (dos.map spV)) et)])) ((severalP L [100,111] (stepP L n) 10 [] i).bind fun dos i=>(mustP L 4 [125] i).bind fun _ i=>.ok dos i):=by
  have hR:=lsV_pure 37 RS hRS
  have hou:∀ n,(lsV 59 (ons.map tgV)).under n=true:=fun n=>lsV_under _ _ _ (map_under tgV tgV_under n ons)
  have hrcu:∀ (n:Nat) (l:List Sp),underL n (rcs nm pr (lsV 59 (ons.map tgV)) (lsV 41 (l.map spV)) et)=true:=fun n l=>rcs_under n nm pr _ _ et (hou n) (lsV_under _ _ _ (map_under spV spV_under n l))
  have hsev:=sev_r2 (id:=id) (o:=o) (RL:=lsV 37 RS) hR hT n ho nm pr (lsV 59 (ons.map tgV)) hou et t0 hJ [100,111] hi
  have hpre:fpart Try.f26 [1,1,1,1,1,1,1,1,1,1]=.seq (fpart Try.f26 [1,1,1,1,1,1,1,1,1,1,0]) (.seq (fpart Try.f26 [1,1,1,1,1,1,1,1,1,1,1,0]) (fpart Try.f26 [1,1,1,1,1,1,1,1,1,1,1,1])):=rfl
  rw [hpre] at hL
  cases r1:severalP L [100,111] (stepP L n) 10 [] i with
  | out=>exact tl_out
  | bad t c=>
    rw [r1] at hsev
    obtain ⟨i',o',hsev⟩:=hsev
    refine ⟨i',o',fun bx hid hc e g1 g2 g3=>?_⟩
    obtain ⟨acc',t1⟩:=hsev bx hid hc
    unfold PSR at t1
    simp only [List.map_nil,lsV_nil] at t1
    have hd:∀ k,id < bx.length+k:=fun k=>by omega
    have pbp:pureL [PV.bp id 0]=false:=rfl
    have pbp3:pureL [PV.bp (bx.length+2) 0,PV.bp bx.length 0]=false:=rfl
    rw [hL]
    unfold PSR
    obtain ⟨dr,ev,eo,so,co,⟨hev,hco,heo,hdr⟩,R⟩:=RULESB CC
    rw [← hev]
    rw [← hco] at t1
    simp only [opsOf,fpart,part',Try.f26,Option.getD] at ⊢
    simp only [S9,R,seval,PY,PZ,pbp,dynR,g1,g2,g3,hd,hJ,hrcu,pbp3,t1,SX,hid]
    exact ⟨_,_,rfl⟩
  | ok dos i1=>
    rw [r1] at hsev
    have hlt:=severalP_lt hT (fun i a j hi h=>stepP_lt hT hi h) 10 [] i dos i1 hi (by simp) r1
    have hi1:=hlt.1
    have hm:=ans_must (id:=id) (o:=o) (i:=i1) hR hi1 hT 4 4 rfl [125]
    dsimp only [bind_okk]
    cases r2:mustP L 4 [125] i1 with
    | out=>exact tl_out
    | bad t c=>
      rw [r2] at hm
      obtain ⟨i',o',hm⟩:=hm
      refine ⟨i',o',fun bx hid hc e g1 g2 g3=>?_⟩
      have t1:=hsev bx hid hc
      unfold PSR at t1
      simp only [List.map_nil,lsV_nil] at t1
      have t2:=badx_use hid hc hR hm
      have hd:∀ k,id < bx.length+k:=fun k=>by omega
      have pbp:pureL [PV.bp id 0]=false:=rfl
      have pbp3:pureL [PV.bp (bx.length+2) 0,PV.bp bx.length 0]=false:=rfl
      rw [hL]
      unfold PSR
      obtain ⟨dr,ev,eo,so,co,⟨hev,hco,heo,hdr⟩,R⟩:=RULESB CC
      rw [← hev]
      rw [← hco] at t1 t2
      simp only [opsOf,fpart,part',Try.f26,Option.getD] at ⊢
      simp only [S9,R,seval,PY,PZ,pbp,dynR,g1,g2,g3,hd,hJ,hrcu,pbp3,t1,t2,SX,hid]
      exact ⟨_,_,rfl⟩
    | ok u i2=>
      rw [r2] at hm
      dsimp only [bind_okk]
      refine fun bx hid hc e g1 g2 g3=>?_
      have t1:=hsev bx hid hc
      unfold PSR at t1
      have t2:=okc_use hid hc hR hm
      obtain ⟨x,ons,rfl⟩:=List.exists_cons_of_ne_nil hon
      obtain ⟨y,dss,rfl⟩:=List.exists_cons_of_ne_nil hlt.2.1
      cases RS with
      | nil=>
        simp only [List.map_nil,List.map_cons,List.nil_append,List.cons_append,lsV_nil,lsV_cons] at t1 t2 hrcu hou ⊢
        have hd:∀ k,id < bx.length+k:=fun k=>by omega
        have pbp:pureL [PV.bp id 0]=false:=rfl
        have pbp3:pureL [PV.bp (bx.length+2) 0,PV.bp bx.length 0]=false:=rfl
        have hdw:=fun e g1 g3=>draw_rb_nil (id:=id) (L:=L) (i:=i2) (o:=o) hid hc nm pr (tgV x :: ons.map tgV) (spV y :: dss.map spV) et t0 J e g1 g3
        have hru:∀ n,underL n (rcs nm pr (.osl 59 (tgV x :: ons.map tgV)) (.osl 41 (spV y :: dss.map spV)) et)=true:=fun n=>hrcu n (y :: dss)
        unfold PSR at hdw
        simp only [← drawM_all no_rb] at hdw
        rw [hL]
        unfold PSR
        obtain ⟨dr,ev,eo,so,co,⟨hev,hco,heo,hdr⟩,R⟩:=RULESB CC
        rw [← hev]
        rw [← hco] at t1 t2
        rw [← hdr] at hdw
        simp only [opsOf,fpart,part',Try.f26,Option.getD] at⊢hdw
        simp only [S9,R,seval,PY,PZ,pbp,dynR,g1,g2,g3,hd,hJ,hrcu,pbp3,t1,t2,hru,hdw,SX,hid]
        exact ⟨_,_,rfl⟩
      | cons a RS=>
        simp only [List.map_nil,List.map_cons,List.nil_append,List.cons_append,lsV_nil,lsV_cons] at t1 t2 hrcu hou ⊢
        have hd:∀ k,id < bx.length+k:=fun k=>by omega
        have pbp:pureL [PV.bp id 0]=false:=rfl
        have pbp3:pureL [PV.bp (bx.length+2) 0,PV.bp bx.length 0]=false:=rfl
        have hdw:=fun e g1 g3=>draw_rb_cons (id:=id) (L:=L) (i:=i2) (o:=o) hid hc nm pr (tgV x :: ons.map tgV) (spV y :: dss.map spV) et t0 J a RS (by simp only [List.length_cons] at hR8;omega) e g1 g3
        have hru:∀ n,underL n (rcs nm pr (.osl 59 (tgV x :: ons.map tgV)) (.osl 41 (spV y :: dss.map spV)) et)=true:=fun n=>hrcu n (y :: dss)
        unfold PSR at hdw
        simp only [← drawM_all no_rb] at hdw
        rw [hL]
        unfold PSR
        obtain ⟨dr,ev,eo,so,co,⟨hev,hco,heo,hdr⟩,R⟩:=RULESB CC
        rw [← hev]
        rw [← hco] at t1 t2
        rw [← hdr] at hdw
        simp only [opsOf,fpart,part',Try.f26,Option.getD] at⊢hdw
        simp only [S9,R,seval,PY,PZ,pbp,dynR,g1,g2,g3,hd,hJ,hrcu,pbp3,t1,t2,hru,hdw,SX,hid]
        exact ⟨_,_,rfl⟩
end Go.HH
