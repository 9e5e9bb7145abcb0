/-
  What the law needs, packed: PO PQ PR.
-/
import Derived.Test.YthjcaihemgllaaaGreatDoorM38
namespace Go.HH
open Go Go.Proofs
set_option maxRecDepth 100000
set_option maxHeartbeats 4000000
set_option linter.unusedSimpArgs false
set_option linter.unusedVariables false
theorem okB_parse_parser_compare:fnOKB CC Tryz.f162 (Tryz.f162.body.getD .skip)=true:=by kernel_rfl
theorem noB_parse_parser_compare:fnOK CC Tryz.f162 (Tryz.f162.body.getD .skip)=false:=by kernel_rfl
theorem fatB_parse_parser_compare:CC.P.funcs[162]?=some Tryz.f162:=by kernel_rfl
theorem no_cmp0:drawOK CC (opsOf (fpart Tryz.f162 [1,1,0,0,1,0,0]))=false:=by kernel_rfl
theorem ord_cmp0:orders (opsOf (fpart Tryz.f162 [1,1,0,0,1,0,0]))=[[0,1,2,3,4,5],[1,0,2,3,4,5],[1,2,0,3,4,5]]:=by kernel_rfl
theorem draw_cmp0_ok {bx:List PBox} {id:Nat} {L:List Tk} {i o:Nat} {RL:PV} (hR:RL.pure=true) (a b:Tr) {j:Nat} (hid:id < bx.length) (hc:clB bx)  (e:List PV) (g0:getT e 0=.bp id 0) (g2:getT e 2=.bp bx.length 0) (g3:getT e 3=.bp (bx.length+1) 0) (t1:∀ ys:List PBox,(ys.all fun x=>x.under (bx.length+ys.length))=true->callOp CC (callL CC) 171 [.bp id 0] (BX bx id (.cells 92 [.sl (tkVs L),.int .i64 ((i:Nat):Int),.int .i64 ((o:Nat):Int),RL]) ys)=some (.ret (.agg (exC b)),BX bx id (.cells 92 [.sl (tkVs L),.int .i64 ((j:Nat):Int),.int .i64 ((o:Nat):Int),RL]) ys)) :
 drawAll CC (callL CC) (opsOf (fpart Tryz.f162 [1,1,0,0,1,0,0])) ⟨e,BX bx id (PSR L i o RL) [.cells 29 [.int .i64 0,.int .i64 0,.int .i64 0,.str [],.int .i64 0,.int .i64 0,.str [],.int .i64 0,.str [],.str [],.nils],.cells 29 (exC a)]⟩=some (.normal,⟨(setT (setT (setT (setT (setT e 9 (.agg (exC a))) 10 (.bp id 0)) 11 (.agg (exC b))) 12 (.osl 29 [.agg (exC a),.agg (exC b)])) 13 (.agg (exC (nodT 9 [a,b])))),BX bx id (PSR L j o RL) [.cells 29 (exC (nodT 9 [a,b])),.cells 29 (exC a)]⟩):=by
 have hb:=bsE2 a b
 have hn:=nod2 9 a b
 refine drawAll_iff.2 ⟨by rw [ord_cmp0];simp,fun l hl=>?_⟩
 rw [ord_cmp0] at hl
 have pbp:pureL [PV.bp id 0]=false:=rfl
 unfold PSR
 obtain ⟨dr,ev,eo,so,co,⟨hev,hco,heo,hdr⟩,R⟩:=RULESB CC
 rw [<- heo]
 rw [<- hco] at t1 hn
 simp only [List.mem_cons,List.not_mem_nil,or_false] at hl
 rcases hl with rfl | rfl | rfl
 all_goals
  simp only [opsOf,fpart,part',Tryz.f162,Option.getD,pickOps,List.filterMap_cons,List.filterMap_nil,List.getElem?_toArray,List.getElem?_cons_succ,List.getElem?_cons_zero]
  simp only [S9,R,seval,PY,PZ,pbp,g0,g2,g3,SX,normP_normal,normP_pan,t1,hb,hn,hid]
  try simp only [setT_srt,Nat.reduceLT]
theorem draw_cmp0_bad {bx:List PBox} {id:Nat} {L:List Tk} {i o:Nat} {RL:PV} (hR:RL.pure=true) (a:Tr) {t:Nat} {c:Int} {i' o':Nat} (hid:id < bx.length) (hc:clB bx)  (e:List PV) (g0:getT e 0=.bp id 0) (g2:getT e 2=.bp bx.length 0) (g3:getT e 3=.bp (bx.length+1) 0) (t1:∀ ys:List PBox,(ys.all fun x=>x.under (bx.length+ys.length))=true->callOp CC (callL CC) 171 [.bp id 0] (BX bx id (.cells 92 [.sl (tkVs L),.int .i64 ((i:Nat):Int),.int .i64 ((o:Nat):Int),RL]) ys)=some (.pan (fltV t c),BX bx id (.cells 92 [.sl (tkVs L),.int .i64 ((i':Nat):Int),.int .i64 ((o':Nat):Int),RL]) ys)) :
 drawAll CC (callL CC) (opsOf (fpart Tryz.f162 [1,1,0,0,1,0,0])) ⟨e,BX bx id (PSR L i o RL) [.cells 29 [.int .i64 0,.int .i64 0,.int .i64 0,.str [],.int .i64 0,.int .i64 0,.str [],.int .i64 0,.str [],.str [],.nils],.cells 29 (exC a)]⟩=some (.pan (fltV t c),⟨[],BX bx id (PSR L i' o' RL) [.cells 29 [.int .i64 0,.int .i64 0,.int .i64 0,.str [],.int .i64 0,.int .i64 0,.str [],.int .i64 0,.str [],.str [],.nils],.cells 29 (exC a)]⟩):=by
 refine drawAll_iff.2 ⟨by rw [ord_cmp0];simp,fun l hl=>?_⟩
 rw [ord_cmp0] at hl
 have pbp:pureL [PV.bp id 0]=false:=rfl
 unfold PSR
 obtain ⟨dr,ev,eo,so,co,⟨hev,hco,heo,hdr⟩,R⟩:=RULESB CC
 rw [<- heo]
 rw [<- hco] at t1
 simp only [List.mem_cons,List.not_mem_nil,or_false] at hl
 rcases hl with rfl | rfl | rfl
 all_goals
  simp only [opsOf,fpart,part',Tryz.f162,Option.getD,pickOps,List.filterMap_cons,List.filterMap_nil,List.getElem?_toArray,List.getElem?_cons_succ,List.getElem?_cons_zero]
  simp only [S9,R,seval,PY,PZ,pbp,g0,g2,g3,SX,normP_normal,normP_pan,t1,hid]
theorem no_cmp1:drawOK CC (opsOf (fpart Tryz.f162 [1,1,0,0,1,1,1,0,0]))=false:=by kernel_rfl
theorem ord_cmp1:orders (opsOf (fpart Tryz.f162 [1,1,0,0,1,1,1,0,0]))=[[0,1,2,3,4,5,6,7],[1,0,2,3,4,5,6,7],[1,2,0,3,4,5,6,7]]:=by kernel_rfl
theorem draw_cmp1_ok {bx:List PBox} {id:Nat} {L:List Tk} {i o:Nat} {RL:PV} (hR:RL.pure=true) (a b:Tr) {j:Nat} (hid:id < bx.length) (hc:clB bx)  (e:List PV) (g0:getT e 0=.bp id 0) (g2:getT e 2=.bp bx.length 0) (g3:getT e 3=.bp (bx.length+1) 0) (t1:∀ ys:List PBox,(ys.all fun x=>x.under (bx.length+ys.length))=true->callOp CC (callL CC) 171 [.bp id 0] (BX bx id (.cells 92 [.sl (tkVs L),.int .i64 ((i:Nat):Int),.int .i64 ((o:Nat):Int),RL]) ys)=some (.ret (.agg (exC b)),BX bx id (.cells 92 [.sl (tkVs L),.int .i64 ((j:Nat):Int),.int .i64 ((o:Nat):Int),RL]) ys)) :
 drawAll CC (callL CC) (opsOf (fpart Tryz.f162 [1,1,0,0,1,1,1,0,0])) ⟨e,BX bx id (PSR L i o RL) [.cells 29 [.int .i64 0,.int .i64 0,.int .i64 0,.str [],.int .i64 0,.int .i64 0,.str [],.int .i64 0,.str [],.str [],.nils],.cells 29 (exC a)]⟩=some (.normal,⟨(setT (setT (setT (setT (setT (setT (setT e 17 (.agg (exC a))) 18 (.bp id 0)) 19 (.agg (exC b))) 20 (.osl 29 [.agg (exC a),.agg (exC b)])) 21 (.agg (exC (nodT 9 [a,b])))) 22 (.osl 29 [.agg (exC (nodT 9 [a,b]))])) 23 (.agg (exC (nodT 6 [nodT 9 [a,b]])))),BX bx id (PSR L j o RL) [.cells 29 (exC (nodT 6 [nodT 9 [a,b]])),.cells 29 (exC a)]⟩):=by
 have hb:=bsE2 a b
 have hn:=nod2 9 a b
 have hb1:=bsE1 (nodT 9 [a,b])
 have hn1:=nod1 6 (nodT 9 [a,b])
 refine drawAll_iff.2 ⟨by rw [ord_cmp1];simp,fun l hl=>?_⟩
 rw [ord_cmp1] at hl
 have pbp:pureL [PV.bp id 0]=false:=rfl
 unfold PSR
 obtain ⟨dr,ev,eo,so,co,⟨hev,hco,heo,hdr⟩,R⟩:=RULESB CC
 rw [<- heo]
 rw [<- hco] at t1 hn hn1
 simp only [List.mem_cons,List.not_mem_nil,or_false] at hl
 rcases hl with rfl | rfl | rfl
 all_goals
  simp only [opsOf,fpart,part',Tryz.f162,Option.getD,pickOps,List.filterMap_cons,List.filterMap_nil,List.getElem?_toArray,List.getElem?_cons_succ,List.getElem?_cons_zero]
  simp only [S9,R,seval,PY,PZ,pbp,g0,g2,g3,SX,normP_normal,normP_pan,t1,hb,hn,hb1,hn1,hid]
  try simp only [setT_srt,Nat.reduceLT]
theorem draw_cmp1_bad {bx:List PBox} {id:Nat} {L:List Tk} {i o:Nat} {RL:PV} (hR:RL.pure=true) (a:Tr) {t:Nat} {c:Int} {i' o':Nat} (hid:id < bx.length) (hc:clB bx)  (e:List PV) (g0:getT e 0=.bp id 0) (g2:getT e 2=.bp bx.length 0) (g3:getT e 3=.bp (bx.length+1) 0) (t1:∀ ys:List PBox,(ys.all fun x=>x.under (bx.length+ys.length))=true->callOp CC (callL CC) 171 [.bp id 0] (BX bx id (.cells 92 [.sl (tkVs L),.int .i64 ((i:Nat):Int),.int .i64 ((o:Nat):Int),RL]) ys)=some (.pan (fltV t c),BX bx id (.cells 92 [.sl (tkVs L),.int .i64 ((i':Nat):Int),.int .i64 ((o':Nat):Int),RL]) ys)) :
 drawAll CC (callL CC) (opsOf (fpart Tryz.f162 [1,1,0,0,1,1,1,0,0])) ⟨e,BX bx id (PSR L i o RL) [.cells 29 [.int .i64 0,.int .i64 0,.int .i64 0,.str [],.int .i64 0,.int .i64 0,.str [],.int .i64 0,.str [],.str [],.nils],.cells 29 (exC a)]⟩=some (.pan (fltV t c),⟨[],BX bx id (PSR L i' o' RL) [.cells 29 [.int .i64 0,.int .i64 0,.int .i64 0,.str [],.int .i64 0,.int .i64 0,.str [],.int .i64 0,.str [],.str [],.nils],.cells 29 (exC a)]⟩):=by
 refine drawAll_iff.2 ⟨by rw [ord_cmp1];simp,fun l hl=>?_⟩
 rw [ord_cmp1] at hl
 have pbp:pureL [PV.bp id 0]=false:=rfl
 unfold PSR
 obtain ⟨dr,ev,eo,so,co,⟨hev,hco,heo,hdr⟩,R⟩:=RULESB CC
 rw [<- heo]
 rw [<- hco] at t1
 simp only [List.mem_cons,List.not_mem_nil,or_false] at hl
 rcases hl with rfl | rfl | rfl
 all_goals
  simp only [opsOf,fpart,part',Tryz.f162,Option.getD,pickOps,List.filterMap_cons,List.filterMap_nil,List.getElem?_toArray,List.getElem?_cons_succ,List.getElem?_cons_zero]
  simp only [S9,R,seval,PY,PZ,pbp,g0,g2,g3,SX,normP_normal,normP_pan,t1,hid]
theorem no_cmp2:drawOK CC (opsOf (fpart Tryz.f162 [1,1,0,0,1,1,1,1,1,0,0]))=false:=by kernel_rfl
theorem ord_cmp2:orders (opsOf (fpart Tryz.f162 [1,1,0,0,1,1,1,1,1,0,0]))=[[0,1,2,3,4,5],[1,0,2,3,4,5],[1,2,0,3,4,5]]:=by kernel_rfl
theorem draw_cmp2_ok {bx:List PBox} {id:Nat} {L:List Tk} {i o:Nat} {RL:PV} (hR:RL.pure=true) (a b:Tr) {j:Nat} (hid:id < bx.length) (hc:clB bx)  (e:List PV) (g0:getT e 0=.bp id 0) (g2:getT e 2=.bp bx.length 0) (g3:getT e 3=.bp (bx.length+1) 0) (t1:∀ ys:List PBox,(ys.all fun x=>x.under (bx.length+ys.length))=true->callOp CC (callL CC) 171 [.bp id 0] (BX bx id (.cells 92 [.sl (tkVs L),.int .i64 ((i:Nat):Int),.int .i64 ((o:Nat):Int),RL]) ys)=some (.ret (.agg (exC b)),BX bx id (.cells 92 [.sl (tkVs L),.int .i64 ((j:Nat):Int),.int .i64 ((o:Nat):Int),RL]) ys)) :
 drawAll CC (callL CC) (opsOf (fpart Tryz.f162 [1,1,0,0,1,1,1,1,1,0,0])) ⟨e,BX bx id (PSR L i o RL) [.cells 29 [.int .i64 0,.int .i64 0,.int .i64 0,.str [],.int .i64 0,.int .i64 0,.str [],.int .i64 0,.str [],.str [],.nils],.cells 29 (exC a)]⟩=some (.normal,⟨(setT (setT (setT (setT (setT e 27 (.agg (exC a))) 28 (.bp id 0)) 29 (.agg (exC b))) 30 (.osl 29 [.agg (exC a),.agg (exC b)])) 31 (.agg (exC (nodT 10 [a,b])))),BX bx id (PSR L j o RL) [.cells 29 (exC (nodT 10 [a,b])),.cells 29 (exC a)]⟩):=by
 have hb:=bsE2 a b
 have hn:=nod2 10 a b
 refine drawAll_iff.2 ⟨by rw [ord_cmp2];simp,fun l hl=>?_⟩
 rw [ord_cmp2] at hl
 have pbp:pureL [PV.bp id 0]=false:=rfl
 unfold PSR
 obtain ⟨dr,ev,eo,so,co,⟨hev,hco,heo,hdr⟩,R⟩:=RULESB CC
 rw [<- heo]
 rw [<- hco] at t1 hn
 simp only [List.mem_cons,List.not_mem_nil,or_false] at hl
 rcases hl with rfl | rfl | rfl
 all_goals
  simp only [opsOf,fpart,part',Tryz.f162,Option.getD,pickOps,List.filterMap_cons,List.filterMap_nil,List.getElem?_toArray,List.getElem?_cons_succ,List.getElem?_cons_zero]
  simp only [S9,R,seval,PY,PZ,pbp,g0,g2,g3,SX,normP_normal,normP_pan,t1,hb,hn,hid]
  try simp only [setT_srt,Nat.reduceLT]
theorem draw_cmp2_bad {bx:List PBox} {id:Nat} {L:List Tk} {i o:Nat} {RL:PV} (hR:RL.pure=true) (a:Tr) {t:Nat} {c:Int} {i' o':Nat} (hid:id < bx.length) (hc:clB bx)  (e:List PV) (g0:getT e 0=.bp id 0) (g2:getT e 2=.bp bx.length 0) (g3:getT e 3=.bp (bx.length+1) 0) (t1:∀ ys:List PBox,(ys.all fun x=>x.under (bx.length+ys.length))=true->callOp CC (callL CC) 171 [.bp id 0] (BX bx id (.cells 92 [.sl (tkVs L),.int .i64 ((i:Nat):Int),.int .i64 ((o:Nat):Int),RL]) ys)=some (.pan (fltV t c),BX bx id (.cells 92 [.sl (tkVs L),.int .i64 ((i':Nat):Int),.int .i64 ((o':Nat):Int),RL]) ys)) :
 drawAll CC (callL CC) (opsOf (fpart Tryz.f162 [1,1,0,0,1,1,1,1,1,0,0])) ⟨e,BX bx id (PSR L i o RL) [.cells 29 [.int .i64 0,.int .i64 0,.int .i64 0,.str [],.int .i64 0,.int .i64 0,.str [],.int .i64 0,.str [],.str [],.nils],.cells 29 (exC a)]⟩=some (.pan (fltV t c),⟨[],BX bx id (PSR L i' o' RL) [.cells 29 [.int .i64 0,.int .i64 0,.int .i64 0,.str [],.int .i64 0,.int .i64 0,.str [],.int .i64 0,.str [],.str [],.nils],.cells 29 (exC a)]⟩):=by
 refine drawAll_iff.2 ⟨by rw [ord_cmp2];simp,fun l hl=>?_⟩
 rw [ord_cmp2] at hl
 have pbp:pureL [PV.bp id 0]=false:=rfl
 unfold PSR
 obtain ⟨dr,ev,eo,so,co,⟨hev,hco,heo,hdr⟩,R⟩:=RULESB CC
 rw [<- heo]
 rw [<- hco] at t1
 simp only [List.mem_cons,List.not_mem_nil,or_false] at hl
 rcases hl with rfl | rfl | rfl
 all_goals
  simp only [opsOf,fpart,part',Tryz.f162,Option.getD,pickOps,List.filterMap_cons,List.filterMap_nil,List.getElem?_toArray,List.getElem?_cons_succ,List.getElem?_cons_zero]
  simp only [S9,R,seval,PY,PZ,pbp,g0,g2,g3,SX,normP_normal,normP_pan,t1,hid]
theorem no_cmp3:drawOK CC (opsOf (fpart Tryz.f162 [1,1,0,0,1,1,1,1,1,1,1,0,0]))=false:=by kernel_rfl
theorem ord_cmp3:orders (opsOf (fpart Tryz.f162 [1,1,0,0,1,1,1,1,1,1,1,0,0]))=[[0,1,2,3,4,5,6,7],[1,0,2,3,4,5,6,7],[1,2,0,3,4,5,6,7]]:=by kernel_rfl
theorem draw_cmp3_ok {bx:List PBox} {id:Nat} {L:List Tk} {i o:Nat} {RL:PV} (hR:RL.pure=true) (a b:Tr) {j:Nat} (hid:id < bx.length) (hc:clB bx)  (e:List PV) (g0:getT e 0=.bp id 0) (g2:getT e 2=.bp bx.length 0) (g3:getT e 3=.bp (bx.length+1) 0) (t1:∀ ys:List PBox,(ys.all fun x=>x.under (bx.length+ys.length))=true->callOp CC (callL CC) 171 [.bp id 0] (BX bx id (.cells 92 [.sl (tkVs L),.int .i64 ((i:Nat):Int),.int .i64 ((o:Nat):Int),RL]) ys)=some (.ret (.agg (exC b)),BX bx id (.cells 92 [.sl (tkVs L),.int .i64 ((j:Nat):Int),.int .i64 ((o:Nat):Int),RL]) ys)) :
 drawAll CC (callL CC) (opsOf (fpart Tryz.f162 [1,1,0,0,1,1,1,1,1,1,1,0,0])) ⟨e,BX bx id (PSR L i o RL) [.cells 29 [.int .i64 0,.int .i64 0,.int .i64 0,.str [],.int .i64 0,.int .i64 0,.str [],.int .i64 0,.str [],.str [],.nils],.cells 29 (exC a)]⟩=some (.normal,⟨(setT (setT (setT (setT (setT (setT (setT e 35 (.agg (exC a))) 36 (.bp id 0)) 37 (.agg (exC b))) 38 (.osl 29 [.agg (exC a),.agg (exC b)])) 39 (.agg (exC (nodT 10 [a,b])))) 40 (.osl 29 [.agg (exC (nodT 10 [a,b]))])) 41 (.agg (exC (nodT 6 [nodT 10 [a,b]])))),BX bx id (PSR L j o RL) [.cells 29 (exC (nodT 6 [nodT 10 [a,b]])),.cells 29 (exC a)]⟩):=by
 have hb:=bsE2 a b
 have hn:=nod2 10 a b
 have hb1:=bsE1 (nodT 10 [a,b])
 have hn1:=nod1 6 (nodT 10 [a,b])
 refine drawAll_iff.2 ⟨by rw [ord_cmp3];simp,fun l hl=>?_⟩
 rw [ord_cmp3] at hl
 have pbp:pureL [PV.bp id 0]=false:=rfl
 unfold PSR
 obtain ⟨dr,ev,eo,so,co,⟨hev,hco,heo,hdr⟩,R⟩:=RULESB CC
 rw [<- heo]
 rw [<- hco] at t1 hn hn1
 simp only [List.mem_cons,List.not_mem_nil,or_false] at hl
 rcases hl with rfl | rfl | rfl
 all_goals
  simp only [opsOf,fpart,part',Tryz.f162,Option.getD,pickOps,List.filterMap_cons,List.filterMap_nil,List.getElem?_toArray,List.getElem?_cons_succ,List.getElem?_cons_zero]
  simp only [S9,R,seval,PY,PZ,pbp,g0,g2,g3,SX,normP_normal,normP_pan,t1,hb,hn,hb1,hn1,hid]
  try simp only [setT_srt,Nat.reduceLT]
theorem draw_cmp3_bad {bx:List PBox} {id:Nat} {L:List Tk} {i o:Nat} {RL:PV} (hR:RL.pure=true) (a:Tr) {t:Nat} {c:Int} {i' o':Nat} (hid:id < bx.length) (hc:clB bx)  (e:List PV) (g0:getT e 0=.bp id 0) (g2:getT e 2=.bp bx.length 0) (g3:getT e 3=.bp (bx.length+1) 0) (t1:∀ ys:List PBox,(ys.all fun x=>x.under (bx.length+ys.length))=true->callOp CC (callL CC) 171 [.bp id 0] (BX bx id (.cells 92 [.sl (tkVs L),.int .i64 ((i:Nat):Int),.int .i64 ((o:Nat):Int),RL]) ys)=some (.pan (fltV t c),BX bx id (.cells 92 [.sl (tkVs L),.int .i64 ((i':Nat):Int),.int .i64 ((o':Nat):Int),RL]) ys)) :
 drawAll CC (callL CC) (opsOf (fpart Tryz.f162 [1,1,0,0,1,1,1,1,1,1,1,0,0])) ⟨e,BX bx id (PSR L i o RL) [.cells 29 [.int .i64 0,.int .i64 0,.int .i64 0,.str [],.int .i64 0,.int .i64 0,.str [],.int .i64 0,.str [],.str [],.nils],.cells 29 (exC a)]⟩=some (.pan (fltV t c),⟨[],BX bx id (PSR L i' o' RL) [.cells 29 [.int .i64 0,.int .i64 0,.int .i64 0,.str [],.int .i64 0,.int .i64 0,.str [],.int .i64 0,.str [],.str [],.nils],.cells 29 (exC a)]⟩):=by
 refine drawAll_iff.2 ⟨by rw [ord_cmp3];simp,fun l hl=>?_⟩
 rw [ord_cmp3] at hl
 have pbp:pureL [PV.bp id 0]=false:=rfl
 unfold PSR
 obtain ⟨dr,ev,eo,so,co,⟨hev,hco,heo,hdr⟩,R⟩:=RULESB CC
 rw [<- heo]
 rw [<- hco] at t1
 simp only [List.mem_cons,List.not_mem_nil,or_false] at hl
 rcases hl with rfl | rfl | rfl
 all_goals
  simp only [opsOf,fpart,part',Tryz.f162,Option.getD,pickOps,List.filterMap_cons,List.filterMap_nil,List.getElem?_toArray,List.getElem?_cons_succ,List.getElem?_cons_zero]
  simp only [S9,R,seval,PY,PZ,pbp,g0,g2,g3,SX,normP_normal,normP_pan,t1,hid]
theorem no_cmp4:drawOK CC (opsOf (fpart Tryz.f162 [1,1,0,0,1,1,1,1,1,1,1,1,1,0,0]))=false:=by kernel_rfl
theorem ord_cmp4:orders (opsOf (fpart Tryz.f162 [1,1,0,0,1,1,1,1,1,1,1,1,1,0,0]))=[[0,1,2,3,4,5],[0,2,1,3,4,5],[2,0,1,3,4,5]]:=by kernel_rfl
theorem draw_cmp4_ok {bx:List PBox} {id:Nat} {L:List Tk} {i o:Nat} {RL:PV} (hR:RL.pure=true) (a b:Tr) {j:Nat} (hid:id < bx.length) (hc:clB bx)  (e:List PV) (g0:getT e 0=.bp id 0) (g2:getT e 2=.bp bx.length 0) (g3:getT e 3=.bp (bx.length+1) 0) (t1:∀ ys:List PBox,(ys.all fun x=>x.under (bx.length+ys.length))=true->callOp CC (callL CC) 171 [.bp id 0] (BX bx id (.cells 92 [.sl (tkVs L),.int .i64 ((i:Nat):Int),.int .i64 ((o:Nat):Int),RL]) ys)=some (.ret (.agg (exC b)),BX bx id (.cells 92 [.sl (tkVs L),.int .i64 ((j:Nat):Int),.int .i64 ((o:Nat):Int),RL]) ys)) :
 drawAll CC (callL CC) (opsOf (fpart Tryz.f162 [1,1,0,0,1,1,1,1,1,1,1,1,1,0,0])) ⟨e,BX bx id (PSR L i o RL) [.cells 29 [.int .i64 0,.int .i64 0,.int .i64 0,.str [],.int .i64 0,.int .i64 0,.str [],.int .i64 0,.str [],.str [],.nils],.cells 29 (exC a)]⟩=some (.normal,⟨(setT (setT (setT (setT (setT e 45 (.bp id 0)) 46 (.agg (exC b))) 47 (.agg (exC a))) 48 (.osl 29 [.agg (exC b),.agg (exC a)])) 49 (.agg (exC (nodT 10 [b,a])))),BX bx id (PSR L j o RL) [.cells 29 (exC (nodT 10 [b,a])),.cells 29 (exC a)]⟩):=by
 have hb:=bsE2 b a
 have hn:=nod2 10 b a
 refine drawAll_iff.2 ⟨by rw [ord_cmp4];simp,fun l hl=>?_⟩
 rw [ord_cmp4] at hl
 have pbp:pureL [PV.bp id 0]=false:=rfl
 unfold PSR
 obtain ⟨dr,ev,eo,so,co,⟨hev,hco,heo,hdr⟩,R⟩:=RULESB CC
 rw [<- heo]
 rw [<- hco] at t1 hn
 simp only [List.mem_cons,List.not_mem_nil,or_false] at hl
 rcases hl with rfl | rfl | rfl
 all_goals
  simp only [opsOf,fpart,part',Tryz.f162,Option.getD,pickOps,List.filterMap_cons,List.filterMap_nil,List.getElem?_toArray,List.getElem?_cons_succ,List.getElem?_cons_zero]
  simp only [S9,R,seval,PY,PZ,pbp,g0,g2,g3,SX,normP_normal,normP_pan,t1,hb,hn,hid]
  try simp only [setT_srt,Nat.reduceLT]
  try rw [setT_swap _ 47 45 _ _ (by decide)]
  try rw [setT_swap _ 47 46 _ _ (by decide)]
theorem draw_cmp4_bad {bx:List PBox} {id:Nat} {L:List Tk} {i o:Nat} {RL:PV} (hR:RL.pure=true) (a:Tr) {t:Nat} {c:Int} {i' o':Nat} (hid:id < bx.length) (hc:clB bx)  (e:List PV) (g0:getT e 0=.bp id 0) (g2:getT e 2=.bp bx.length 0) (g3:getT e 3=.bp (bx.length+1) 0) (t1:∀ ys:List PBox,(ys.all fun x=>x.under (bx.length+ys.length))=true->callOp CC (callL CC) 171 [.bp id 0] (BX bx id (.cells 92 [.sl (tkVs L),.int .i64 ((i:Nat):Int),.int .i64 ((o:Nat):Int),RL]) ys)=some (.pan (fltV t c),BX bx id (.cells 92 [.sl (tkVs L),.int .i64 ((i':Nat):Int),.int .i64 ((o':Nat):Int),RL]) ys)) :
 drawAll CC (callL CC) (opsOf (fpart Tryz.f162 [1,1,0,0,1,1,1,1,1,1,1,1,1,0,0])) ⟨e,BX bx id (PSR L i o RL) [.cells 29 [.int .i64 0,.int .i64 0,.int .i64 0,.str [],.int .i64 0,.int .i64 0,.str [],.int .i64 0,.str [],.str [],.nils],.cells 29 (exC a)]⟩=some (.pan (fltV t c),⟨[],BX bx id (PSR L i' o' RL) [.cells 29 [.int .i64 0,.int .i64 0,.int .i64 0,.str [],.int .i64 0,.int .i64 0,.str [],.int .i64 0,.str [],.str [],.nils],.cells 29 (exC a)]⟩):=by
 refine drawAll_iff.2 ⟨by rw [ord_cmp4];simp,fun l hl=>?_⟩
 rw [ord_cmp4] at hl
 have pbp:pureL [PV.bp id 0]=false:=rfl
 unfold PSR
 obtain ⟨dr,ev,eo,so,co,⟨hev,hco,heo,hdr⟩,R⟩:=RULESB CC
 rw [<- heo]
 rw [<- hco] at t1
 simp only [List.mem_cons,List.not_mem_nil,or_false] at hl
 rcases hl with rfl | rfl | rfl
 all_goals
  simp only [opsOf,fpart,part',Tryz.f162,Option.getD,pickOps,List.filterMap_cons,List.filterMap_nil,List.getElem?_toArray,List.getElem?_cons_succ,List.getElem?_cons_zero]
  simp only [S9,R,seval,PY,PZ,pbp,g0,g2,g3,SX,normP_normal,normP_pan,t1,hid]
theorem no_cmp5:drawOK CC (opsOf (fpart Tryz.f162 [1,1,0,0,1,1,1,1,1,1,1,1,1,1,1,0,0]))=false:=by kernel_rfl
theorem ord_cmp5:orders (opsOf (fpart Tryz.f162 [1,1,0,0,1,1,1,1,1,1,1,1,1,1,1,0,0]))=[[0,1,2,3,4,5,6,7],[0,2,1,3,4,5,6,7],[2,0,1,3,4,5,6,7]]:=by kernel_rfl
theorem draw_cmp5_ok {bx:List PBox} {id:Nat} {L:List Tk} {i o:Nat} {RL:PV} (hR:RL.pure=true) (a b:Tr) {j:Nat} (hid:id < bx.length) (hc:clB bx)  (e:List PV) (g0:getT e 0=.bp id 0) (g2:getT e 2=.bp bx.length 0) (g3:getT e 3=.bp (bx.length+1) 0) (t1:∀ ys:List PBox,(ys.all fun x=>x.under (bx.length+ys.length))=true->callOp CC (callL CC) 171 [.bp id 0] (BX bx id (.cells 92 [.sl (tkVs L),.int .i64 ((i:Nat):Int),.int .i64 ((o:Nat):Int),RL]) ys)=some (.ret (.agg (exC b)),BX bx id (.cells 92 [.sl (tkVs L),.int .i64 ((j:Nat):Int),.int .i64 ((o:Nat):Int),RL]) ys)) :
 drawAll CC (callL CC) (opsOf (fpart Tryz.f162 [1,1,0,0,1,1,1,1,1,1,1,1,1,1,1,0,0])) ⟨e,BX bx id (PSR L i o RL) [.cells 29 [.int .i64 0,.int .i64 0,.int .i64 0,.str [],.int .i64 0,.int .i64 0,.str [],.int .i64 0,.str [],.str [],.nils],.cells 29 (exC a)]⟩=some (.normal,⟨(setT (setT (setT (setT (setT (setT (setT e 53 (.bp id 0)) 54 (.agg (exC b))) 55 (.agg (exC a))) 56 (.osl 29 [.agg (exC b),.agg (exC a)])) 57 (.agg (exC (nodT 10 [b,a])))) 58 (.osl 29 [.agg (exC (nodT 10 [b,a]))])) 59 (.agg (exC (nodT 6 [nodT 10 [b,a]])))),BX bx id (PSR L j o RL) [.cells 29 (exC (nodT 6 [nodT 10 [b,a]])),.cells 29 (exC a)]⟩):=by
 have hb:=bsE2 b a
 have hn:=nod2 10 b a
 have hb1:=bsE1 (nodT 10 [b,a])
 have hn1:=nod1 6 (nodT 10 [b,a])
 refine drawAll_iff.2 ⟨by rw [ord_cmp5];simp,fun l hl=>?_⟩
 rw [ord_cmp5] at hl
 have pbp:pureL [PV.bp id 0]=false:=rfl
 unfold PSR
 obtain ⟨dr,ev,eo,so,co,⟨hev,hco,heo,hdr⟩,R⟩:=RULESB CC
 rw [<- heo]
 rw [<- hco] at t1 hn hn1
 simp only [List.mem_cons,List.not_mem_nil,or_false] at hl
 rcases hl with rfl | rfl | rfl
 all_goals
  simp only [opsOf,fpart,part',Tryz.f162,Option.getD,pickOps,List.filterMap_cons,List.filterMap_nil,List.getElem?_toArray,List.getElem?_cons_succ,List.getElem?_cons_zero]
  simp only [S9,R,seval,PY,PZ,pbp,g0,g2,g3,SX,normP_normal,normP_pan,t1,hb,hn,hb1,hn1,hid]
  try simp only [setT_srt,Nat.reduceLT]
  try rw [setT_swap _ 55 53 _ _ (by decide)]
  try rw [setT_swap _ 55 54 _ _ (by decide)]
theorem draw_cmp5_bad {bx:List PBox} {id:Nat} {L:List Tk} {i o:Nat} {RL:PV} (hR:RL.pure=true) (a:Tr) {t:Nat} {c:Int} {i' o':Nat} (hid:id < bx.length) (hc:clB bx)  (e:List PV) (g0:getT e 0=.bp id 0) (g2:getT e 2=.bp bx.length 0) (g3:getT e 3=.bp (bx.length+1) 0) (t1:∀ ys:List PBox,(ys.all fun x=>x.under (bx.length+ys.length))=true->callOp CC (callL CC) 171 [.bp id 0] (BX bx id (.cells 92 [.sl (tkVs L),.int .i64 ((i:Nat):Int),.int .i64 ((o:Nat):Int),RL]) ys)=some (.pan (fltV t c),BX bx id (.cells 92 [.sl (tkVs L),.int .i64 ((i':Nat):Int),.int .i64 ((o':Nat):Int),RL]) ys)) :
 drawAll CC (callL CC) (opsOf (fpart Tryz.f162 [1,1,0,0,1,1,1,1,1,1,1,1,1,1,1,0,0])) ⟨e,BX bx id (PSR L i o RL) [.cells 29 [.int .i64 0,.int .i64 0,.int .i64 0,.str [],.int .i64 0,.int .i64 0,.str [],.int .i64 0,.str [],.str [],.nils],.cells 29 (exC a)]⟩=some (.pan (fltV t c),⟨[],BX bx id (PSR L i' o' RL) [.cells 29 [.int .i64 0,.int .i64 0,.int .i64 0,.str [],.int .i64 0,.int .i64 0,.str [],.int .i64 0,.str [],.str [],.nils],.cells 29 (exC a)]⟩):=by
 refine drawAll_iff.2 ⟨by rw [ord_cmp5];simp,fun l hl=>?_⟩
 rw [ord_cmp5] at hl
 have pbp:pureL [PV.bp id 0]=false:=rfl
 unfold PSR
 obtain ⟨dr,ev,eo,so,co,⟨hev,hco,heo,hdr⟩,R⟩:=RULESB CC
 rw [<- heo]
 rw [<- hco] at t1
 simp only [List.mem_cons,List.not_mem_nil,or_false] at hl
 rcases hl with rfl | rfl | rfl
 all_goals
  simp only [opsOf,fpart,part',Tryz.f162,Option.getD,pickOps,List.filterMap_cons,List.filterMap_nil,List.getElem?_toArray,List.getElem?_cons_succ,List.getElem?_cons_zero]
  simp only [S9,R,seval,PY,PZ,pbp,g0,g2,g3,SX,normP_normal,normP_pan,t1,hid]
theorem cmp_cases (L:List Tk) (i:Nat):(∃ k,pickW L 4 i cmpWs 0=some k∧k < 6∧isT L 4 (cmpWs.getD k []) i=true∧∀ k',k' < k->isT L 4 (cmpWs.getD k' []) i=false)∨(pickW L 4 i cmpWs 0=none∧∀ k',k' < 6->isT L 4 (cmpWs.getD k' []) i=false):=by
 have gen:∀ (l:List (List UInt8)) (n:Nat),(∃ k,pickW L 4 i l n=some (n+k)∧k < l.length∧isT L 4 (l.getD k []) i=true∧∀ k',k' < k->isT L 4 (l.getD k' []) i=false)∨(pickW L 4 i l n=none∧∀ k',k' < l.length->isT L 4 (l.getD k' []) i=false):=by
  intro l
  induction l with
  | nil=>intro n;exact .inr ⟨rfl,fun k' h=>by simp at h⟩
  | cons w r ih=>
   intro n
   unfold pickW
   cases hw:isT L 4 w i with
   | true=>exact .inl ⟨0,rfl,by simp,hw,fun k' h=>by omega⟩
   | false=>
    simp only [Bool.false_eq_true,if_false]
    rcases ih (n+1) with ⟨k,h1,h2,h3,h4⟩ | ⟨h1,h2⟩
    · refine .inl ⟨k+1,by rw [h1];congr 1;omega,by simp;omega,h3,fun k' hk'=>?_⟩
      cases k' with
      | zero=>exact hw
      | succ k'=>exact h4 k' (by omega)
    · refine .inr ⟨h1,fun k' hk'=>?_⟩
      cases k' with
      | zero=>exact hw
      | succ k'=>exact h2 k' (by simpa using hk')
 rcases gen cmpWs 0 with ⟨k,h1,h2,h3,h4⟩ | ⟨h1,h2⟩
 · exact .inl ⟨k,by rw [h1,Nat.zero_add],h2,h3,h4⟩
 · exact .inr ⟨h1,h2⟩
end Go.HH
namespace Go.HH
open Go Go.Proofs
set_option maxRecDepth 100000
set_option maxHeartbeats 4000000
set_option linter.unusedSimpArgs false
set_option linter.unusedVariables false
theorem ctr_cmp {id:Nat} {L:List Tk} {RL:PV} (hR:RL.pure=true) (hT:TokOK L) (n:Nat) (hu:CtrE 171 .sum id L RL n):CtrE 162 .cmp id L RL (n+1):=by
 intro i o hi ho
 rw [pz]
 have pbp:pureL [PV.bp id 0]=false:=rfl
 have h0:=hu i o hi ho
 cases r0:pz L n .sum o i with
 | out=>exact ans_out
 | bad t c=>
  rw [r0] at h0
  obtain ⟨i',o',h0⟩:=h0
  refine ans_bad ⟨i',o',badx_of hR fun bx hid hc=>?_⟩
  have t0:=badx_use hid hc hR h0
  rw [callL_enterB (fn:=Tryz.f162) (c:=Tryz.f162.body.getD .skip) rfl rfl fatB_parse_parser_compare rfl noB_parse_parser_compare okB_parse_parser_compare (Nat.le_of_ble_eq_true rfl)]
  unfold PSR at ⊢
  obtain ⟨dr,ev,eo,so,co,⟨hev,hco,heo,hdr⟩,R⟩:=RULESB CC
  rw [<- hev]
  rw [<- hco] at t0
  simp only [opsOf,fpart,part',Tryz.f162,Option.getD] at ⊢
  simp only [S9,R,seval,PY,PZ,pbp,t0,SX,hid]
  exact ⟨_,rfl⟩
 | ok a i1=>
  rw [r0] at h0
  dsimp only [bind_okk]
  have hi1:=(pz_lt hT _ _ _ _ _ _ hi r0).2
  rcases cmp_cases L i1 with ⟨k,hp,hk6,ht,hf⟩ | ⟨hp,hf⟩
  · rw [hp]
    dsimp only
    have hi2:=isT_lt hT hi1 ht (by decide)
    have h1:=hu (i1+1) o hi2 ho
    have hkk:k=0∨k=1∨k=2∨k=3∨k=4∨k=5:=by omega
    cases r1:pz L n .sum o (i1+1) with
    | out=>exact ans_out
    | bad t c=>
     rw [r1] at h1
     obtain ⟨i',o',h1⟩:=h1
     rcases hkk with rfl | rfl | rfl | rfl | rfl | rfl
     · refine ans_bad ⟨i',o',badx_of hR fun bx hid hc=>?_⟩
       have t0:=okc_use hid hc hR h0
       rw [trV_exC] at t0
       have t1:=badx_use hid hc hR h1
       have f0:isT L 4 [61,61] i1=true:=ht
       have q0:=okc_use hid hc hR (okc_op_t (id:=id) (o:=o) hR hi1 hT _ f0)
       have hd:=fun e g0 g2 g3=>draw_cmp0_bad (L:=L) hR a hid hc e g0 g2 g3 t1
       rw [callL_enterB (fn:=Tryz.f162) (c:=Tryz.f162.body.getD .skip) rfl rfl fatB_parse_parser_compare rfl noB_parse_parser_compare okB_parse_parser_compare (Nat.le_of_ble_eq_true rfl)]
       simp only [<- drawM_all no_cmp0] at hd
       unfold PSR at⊢hd
       obtain ⟨dr,ev,eo,so,co,⟨hev,hco,heo,hdr⟩,R⟩:=RULESB CC
       rw [<- hev]
       rw [<- hco] at t0 q0
       rw [<- hdr] at hd
       simp only [opsOf,fpart,part',Tryz.f162,Option.getD] at⊢hd
       simp only [S9,R,seval,PY,PZ,pbp,t0,q0,hd,SX,hid]
       exact ⟨_,rfl⟩
     · refine ans_bad ⟨i',o',badx_of hR fun bx hid hc=>?_⟩
       have t0:=okc_use hid hc hR h0
       rw [trV_exC] at t0
       have t1:=badx_use hid hc hR h1
       have f0:isT L 4 [61,61] i1=false:=hf 0 (by decide)
       have q0:=okc_use hid hc hR (okc_op_f (id:=id) (o:=o) hR hi1 hT _ f0)
       have f1:isT L 4 [33,61] i1=true:=ht
       have q1:=okc_use hid hc hR (okc_op_t (id:=id) (o:=o) hR hi1 hT _ f1)
       have hd:=fun e g0 g2 g3=>draw_cmp1_bad (L:=L) hR a hid hc e g0 g2 g3 t1
       rw [callL_enterB (fn:=Tryz.f162) (c:=Tryz.f162.body.getD .skip) rfl rfl fatB_parse_parser_compare rfl noB_parse_parser_compare okB_parse_parser_compare (Nat.le_of_ble_eq_true rfl)]
       simp only [<- drawM_all no_cmp1] at hd
       unfold PSR at⊢hd
       obtain ⟨dr,ev,eo,so,co,⟨hev,hco,heo,hdr⟩,R⟩:=RULESB CC
       rw [<- hev]
       rw [<- hco] at t0 q0 q1
       rw [<- hdr] at hd
       simp only [opsOf,fpart,part',Tryz.f162,Option.getD] at⊢hd
       simp only [S9,R,seval,PY,PZ,pbp,t0,q0,q1,hd,SX,hid]
       exact ⟨_,rfl⟩
     · refine ans_bad ⟨i',o',badx_of hR fun bx hid hc=>?_⟩
       have t0:=okc_use hid hc hR h0
       rw [trV_exC] at t0
       have t1:=badx_use hid hc hR h1
       have f0:isT L 4 [61,61] i1=false:=hf 0 (by decide)
       have q0:=okc_use hid hc hR (okc_op_f (id:=id) (o:=o) hR hi1 hT _ f0)
       have f1:isT L 4 [33,61] i1=false:=hf 1 (by decide)
       have q1:=okc_use hid hc hR (okc_op_f (id:=id) (o:=o) hR hi1 hT _ f1)
       have f2:isT L 4 [60] i1=true:=ht
       have q2:=okc_use hid hc hR (okc_op_t (id:=id) (o:=o) hR hi1 hT _ f2)
       have hd:=fun e g0 g2 g3=>draw_cmp2_bad (L:=L) hR a hid hc e g0 g2 g3 t1
       rw [callL_enterB (fn:=Tryz.f162) (c:=Tryz.f162.body.getD .skip) rfl rfl fatB_parse_parser_compare rfl noB_parse_parser_compare okB_parse_parser_compare (Nat.le_of_ble_eq_true rfl)]
       simp only [<- drawM_all no_cmp2] at hd
       unfold PSR at⊢hd
       obtain ⟨dr,ev,eo,so,co,⟨hev,hco,heo,hdr⟩,R⟩:=RULESB CC
       rw [<- hev]
       rw [<- hco] at t0 q0 q1 q2
       rw [<- hdr] at hd
       simp only [opsOf,fpart,part',Tryz.f162,Option.getD] at⊢hd
       simp only [S9,R,seval,PY,PZ,pbp,t0,q0,q1,q2,hd,SX,hid]
       exact ⟨_,rfl⟩
     · refine ans_bad ⟨i',o',badx_of hR fun bx hid hc=>?_⟩
       have t0:=okc_use hid hc hR h0
       rw [trV_exC] at t0
       have t1:=badx_use hid hc hR h1
       have f0:isT L 4 [61,61] i1=false:=hf 0 (by decide)
       have q0:=okc_use hid hc hR (okc_op_f (id:=id) (o:=o) hR hi1 hT _ f0)
       have f1:isT L 4 [33,61] i1=false:=hf 1 (by decide)
       have q1:=okc_use hid hc hR (okc_op_f (id:=id) (o:=o) hR hi1 hT _ f1)
       have f2:isT L 4 [60] i1=false:=hf 2 (by decide)
       have q2:=okc_use hid hc hR (okc_op_f (id:=id) (o:=o) hR hi1 hT _ f2)
       have f3:isT L 4 [62,61] i1=true:=ht
       have q3:=okc_use hid hc hR (okc_op_t (id:=id) (o:=o) hR hi1 hT _ f3)
       have hd:=fun e g0 g2 g3=>draw_cmp3_bad (L:=L) hR a hid hc e g0 g2 g3 t1
       rw [callL_enterB (fn:=Tryz.f162) (c:=Tryz.f162.body.getD .skip) rfl rfl fatB_parse_parser_compare rfl noB_parse_parser_compare okB_parse_parser_compare (Nat.le_of_ble_eq_true rfl)]
       simp only [<- drawM_all no_cmp3] at hd
       unfold PSR at⊢hd
       obtain ⟨dr,ev,eo,so,co,⟨hev,hco,heo,hdr⟩,R⟩:=RULESB CC
       rw [<- hev]
       rw [<- hco] at t0 q0 q1 q2 q3
       rw [<- hdr] at hd
       simp only [opsOf,fpart,part',Tryz.f162,Option.getD] at⊢hd
       simp only [S9,R,seval,PY,PZ,pbp,t0,q0,q1,q2,q3,hd,SX,hid]
       exact ⟨_,rfl⟩
     · refine ans_bad ⟨i',o',badx_of hR fun bx hid hc=>?_⟩
       have t0:=okc_use hid hc hR h0
       rw [trV_exC] at t0
       have t1:=badx_use hid hc hR h1
       have f0:isT L 4 [61,61] i1=false:=hf 0 (by decide)
       have q0:=okc_use hid hc hR (okc_op_f (id:=id) (o:=o) hR hi1 hT _ f0)
       have f1:isT L 4 [33,61] i1=false:=hf 1 (by decide)
       have q1:=okc_use hid hc hR (okc_op_f (id:=id) (o:=o) hR hi1 hT _ f1)
       have f2:isT L 4 [60] i1=false:=hf 2 (by decide)
       have q2:=okc_use hid hc hR (okc_op_f (id:=id) (o:=o) hR hi1 hT _ f2)
       have f3:isT L 4 [62,61] i1=false:=hf 3 (by decide)
       have q3:=okc_use hid hc hR (okc_op_f (id:=id) (o:=o) hR hi1 hT _ f3)
       have f4:isT L 4 [62] i1=true:=ht
       have q4:=okc_use hid hc hR (okc_op_t (id:=id) (o:=o) hR hi1 hT _ f4)
       have hd:=fun e g0 g2 g3=>draw_cmp4_bad (L:=L) hR a hid hc e g0 g2 g3 t1
       rw [callL_enterB (fn:=Tryz.f162) (c:=Tryz.f162.body.getD .skip) rfl rfl fatB_parse_parser_compare rfl noB_parse_parser_compare okB_parse_parser_compare (Nat.le_of_ble_eq_true rfl)]
       simp only [<- drawM_all no_cmp4] at hd
       unfold PSR at⊢hd
       obtain ⟨dr,ev,eo,so,co,⟨hev,hco,heo,hdr⟩,R⟩:=RULESB CC
       rw [<- hev]
       rw [<- hco] at t0 q0 q1 q2 q3 q4
       rw [<- hdr] at hd
       simp only [opsOf,fpart,part',Tryz.f162,Option.getD] at⊢hd
       simp only [S9,R,seval,PY,PZ,pbp,t0,q0,q1,q2,q3,q4,hd,SX,hid]
       exact ⟨_,rfl⟩
     · refine ans_bad ⟨i',o',badx_of hR fun bx hid hc=>?_⟩
       have t0:=okc_use hid hc hR h0
       rw [trV_exC] at t0
       have t1:=badx_use hid hc hR h1
       have f0:isT L 4 [61,61] i1=false:=hf 0 (by decide)
       have q0:=okc_use hid hc hR (okc_op_f (id:=id) (o:=o) hR hi1 hT _ f0)
       have f1:isT L 4 [33,61] i1=false:=hf 1 (by decide)
       have q1:=okc_use hid hc hR (okc_op_f (id:=id) (o:=o) hR hi1 hT _ f1)
       have f2:isT L 4 [60] i1=false:=hf 2 (by decide)
       have q2:=okc_use hid hc hR (okc_op_f (id:=id) (o:=o) hR hi1 hT _ f2)
       have f3:isT L 4 [62,61] i1=false:=hf 3 (by decide)
       have q3:=okc_use hid hc hR (okc_op_f (id:=id) (o:=o) hR hi1 hT _ f3)
       have f4:isT L 4 [62] i1=false:=hf 4 (by decide)
       have q4:=okc_use hid hc hR (okc_op_f (id:=id) (o:=o) hR hi1 hT _ f4)
       have f5:isT L 4 [60,61] i1=true:=ht
       have q5:=okc_use hid hc hR (okc_op_t (id:=id) (o:=o) hR hi1 hT _ f5)
       have hd:=fun e g0 g2 g3=>draw_cmp5_bad (L:=L) hR a hid hc e g0 g2 g3 t1
       rw [callL_enterB (fn:=Tryz.f162) (c:=Tryz.f162.body.getD .skip) rfl rfl fatB_parse_parser_compare rfl noB_parse_parser_compare okB_parse_parser_compare (Nat.le_of_ble_eq_true rfl)]
       simp only [<- drawM_all no_cmp5] at hd
       unfold PSR at⊢hd
       obtain ⟨dr,ev,eo,so,co,⟨hev,hco,heo,hdr⟩,R⟩:=RULESB CC
       rw [<- hev]
       rw [<- hco] at t0 q0 q1 q2 q3 q4 q5
       rw [<- hdr] at hd
       simp only [opsOf,fpart,part',Tryz.f162,Option.getD] at⊢hd
       simp only [S9,R,seval,PY,PZ,pbp,t0,q0,q1,q2,q3,q4,q5,hd,SX,hid]
       exact ⟨_,rfl⟩
    | ok b j=>
     rw [r1] at h1
     dsimp only [bind_okk]
     rcases hkk with rfl | rfl | rfl | rfl | rfl | rfl
     · refine ans_ok (okc_of hR (fun n=>by rw [trV_exC];simp only [SX,PV.under]) fun bx hid hc=>?_)
       have t0:=okc_use hid hc hR h0
       rw [trV_exC] at t0
       have t1:=okc_use hid hc hR h1
       rw [trV_exC] at t1 ⊢
       unfold cmpT
       have f0:isT L 4 [61,61] i1=true:=ht
       have q0:=okc_use hid hc hR (okc_op_t (id:=id) (o:=o) hR hi1 hT _ f0)
       have hd:=fun e g0 g2 g3=>draw_cmp0_ok (L:=L) hR a b hid hc e g0 g2 g3 t1
       rw [callL_enterB (fn:=Tryz.f162) (c:=Tryz.f162.body.getD .skip) rfl rfl fatB_parse_parser_compare rfl noB_parse_parser_compare okB_parse_parser_compare (Nat.le_of_ble_eq_true rfl)]
       simp only [<- drawM_all no_cmp0] at hd
       unfold PSR at⊢hd
       obtain ⟨dr,ev,eo,so,co,⟨hev,hco,heo,hdr⟩,R⟩:=RULESB CC
       rw [<- hev]
       rw [<- hco] at t0 q0
       rw [<- hdr] at hd
       simp only [opsOf,fpart,part',Tryz.f162,Option.getD] at⊢hd
       simp only [S9,R,seval,PY,PZ,pbp,t0,q0,hd,SX,hid]
       exact ⟨_,rfl⟩
     · refine ans_ok (okc_of hR (fun n=>by rw [trV_exC];simp only [SX,PV.under]) fun bx hid hc=>?_)
       have t0:=okc_use hid hc hR h0
       rw [trV_exC] at t0
       have t1:=okc_use hid hc hR h1
       rw [trV_exC] at t1 ⊢
       unfold cmpT
       have f0:isT L 4 [61,61] i1=false:=hf 0 (by decide)
       have q0:=okc_use hid hc hR (okc_op_f (id:=id) (o:=o) hR hi1 hT _ f0)
       have f1:isT L 4 [33,61] i1=true:=ht
       have q1:=okc_use hid hc hR (okc_op_t (id:=id) (o:=o) hR hi1 hT _ f1)
       have hd:=fun e g0 g2 g3=>draw_cmp1_ok (L:=L) hR a b hid hc e g0 g2 g3 t1
       rw [callL_enterB (fn:=Tryz.f162) (c:=Tryz.f162.body.getD .skip) rfl rfl fatB_parse_parser_compare rfl noB_parse_parser_compare okB_parse_parser_compare (Nat.le_of_ble_eq_true rfl)]
       simp only [<- drawM_all no_cmp1] at hd
       unfold PSR at⊢hd
       obtain ⟨dr,ev,eo,so,co,⟨hev,hco,heo,hdr⟩,R⟩:=RULESB CC
       rw [<- hev]
       rw [<- hco] at t0 q0 q1
       rw [<- hdr] at hd
       simp only [opsOf,fpart,part',Tryz.f162,Option.getD] at⊢hd
       simp only [S9,R,seval,PY,PZ,pbp,t0,q0,q1,hd,SX,hid]
       exact ⟨_,rfl⟩
     · refine ans_ok (okc_of hR (fun n=>by rw [trV_exC];simp only [SX,PV.under]) fun bx hid hc=>?_)
       have t0:=okc_use hid hc hR h0
       rw [trV_exC] at t0
       have t1:=okc_use hid hc hR h1
       rw [trV_exC] at t1 ⊢
       unfold cmpT
       have f0:isT L 4 [61,61] i1=false:=hf 0 (by decide)
       have q0:=okc_use hid hc hR (okc_op_f (id:=id) (o:=o) hR hi1 hT _ f0)
       have f1:isT L 4 [33,61] i1=false:=hf 1 (by decide)
       have q1:=okc_use hid hc hR (okc_op_f (id:=id) (o:=o) hR hi1 hT _ f1)
       have f2:isT L 4 [60] i1=true:=ht
       have q2:=okc_use hid hc hR (okc_op_t (id:=id) (o:=o) hR hi1 hT _ f2)
       have hd:=fun e g0 g2 g3=>draw_cmp2_ok (L:=L) hR a b hid hc e g0 g2 g3 t1
       rw [callL_enterB (fn:=Tryz.f162) (c:=Tryz.f162.body.getD .skip) rfl rfl fatB_parse_parser_compare rfl noB_parse_parser_compare okB_parse_parser_compare (Nat.le_of_ble_eq_true rfl)]
       simp only [<- drawM_all no_cmp2] at hd
       unfold PSR at⊢hd
       obtain ⟨dr,ev,eo,so,co,⟨hev,hco,heo,hdr⟩,R⟩:=RULESB CC
       rw [<- hev]
       rw [<- hco] at t0 q0 q1 q2
       rw [<- hdr] at hd
       simp only [opsOf,fpart,part',Tryz.f162,Option.getD] at⊢hd
       simp only [S9,R,seval,PY,PZ,pbp,t0,q0,q1,q2,hd,SX,hid]
       exact ⟨_,rfl⟩
     · refine ans_ok (okc_of hR (fun n=>by rw [trV_exC];simp only [SX,PV.under]) fun bx hid hc=>?_)
       have t0:=okc_use hid hc hR h0
       rw [trV_exC] at t0
       have t1:=okc_use hid hc hR h1
       rw [trV_exC] at t1 ⊢
       unfold cmpT
       have f0:isT L 4 [61,61] i1=false:=hf 0 (by decide)
       have q0:=okc_use hid hc hR (okc_op_f (id:=id) (o:=o) hR hi1 hT _ f0)
       have f1:isT L 4 [33,61] i1=false:=hf 1 (by decide)
       have q1:=okc_use hid hc hR (okc_op_f (id:=id) (o:=o) hR hi1 hT _ f1)
       have f2:isT L 4 [60] i1=false:=hf 2 (by decide)
       have q2:=okc_use hid hc hR (okc_op_f (id:=id) (o:=o) hR hi1 hT _ f2)
       have f3:isT L 4 [62,61] i1=true:=ht
       have q3:=okc_use hid hc hR (okc_op_t (id:=id) (o:=o) hR hi1 hT _ f3)
       have hd:=fun e g0 g2 g3=>draw_cmp3_ok (L:=L) hR a b hid hc e g0 g2 g3 t1
       rw [callL_enterB (fn:=Tryz.f162) (c:=Tryz.f162.body.getD .skip) rfl rfl fatB_parse_parser_compare rfl noB_parse_parser_compare okB_parse_parser_compare (Nat.le_of_ble_eq_true rfl)]
       simp only [<- drawM_all no_cmp3] at hd
       unfold PSR at⊢hd
       obtain ⟨dr,ev,eo,so,co,⟨hev,hco,heo,hdr⟩,R⟩:=RULESB CC
       rw [<- hev]
       rw [<- hco] at t0 q0 q1 q2 q3
       rw [<- hdr] at hd
       simp only [opsOf,fpart,part',Tryz.f162,Option.getD] at⊢hd
       simp only [S9,R,seval,PY,PZ,pbp,t0,q0,q1,q2,q3,hd,SX,hid]
       exact ⟨_,rfl⟩
     · refine ans_ok (okc_of hR (fun n=>by rw [trV_exC];simp only [SX,PV.under]) fun bx hid hc=>?_)
       have t0:=okc_use hid hc hR h0
       rw [trV_exC] at t0
       have t1:=okc_use hid hc hR h1
       rw [trV_exC] at t1 ⊢
       unfold cmpT
       have f0:isT L 4 [61,61] i1=false:=hf 0 (by decide)
       have q0:=okc_use hid hc hR (okc_op_f (id:=id) (o:=o) hR hi1 hT _ f0)
       have f1:isT L 4 [33,61] i1=false:=hf 1 (by decide)
       have q1:=okc_use hid hc hR (okc_op_f (id:=id) (o:=o) hR hi1 hT _ f1)
       have f2:isT L 4 [60] i1=false:=hf 2 (by decide)
       have q2:=okc_use hid hc hR (okc_op_f (id:=id) (o:=o) hR hi1 hT _ f2)
       have f3:isT L 4 [62,61] i1=false:=hf 3 (by decide)
       have q3:=okc_use hid hc hR (okc_op_f (id:=id) (o:=o) hR hi1 hT _ f3)
       have f4:isT L 4 [62] i1=true:=ht
       have q4:=okc_use hid hc hR (okc_op_t (id:=id) (o:=o) hR hi1 hT _ f4)
       have hd:=fun e g0 g2 g3=>draw_cmp4_ok (L:=L) hR a b hid hc e g0 g2 g3 t1
       rw [callL_enterB (fn:=Tryz.f162) (c:=Tryz.f162.body.getD .skip) rfl rfl fatB_parse_parser_compare rfl noB_parse_parser_compare okB_parse_parser_compare (Nat.le_of_ble_eq_true rfl)]
       simp only [<- drawM_all no_cmp4] at hd
       unfold PSR at⊢hd
       obtain ⟨dr,ev,eo,so,co,⟨hev,hco,heo,hdr⟩,R⟩:=RULESB CC
       rw [<- hev]
       rw [<- hco] at t0 q0 q1 q2 q3 q4
       rw [<- hdr] at hd
       simp only [opsOf,fpart,part',Tryz.f162,Option.getD] at⊢hd
       simp only [S9,R,seval,PY,PZ,pbp,t0,q0,q1,q2,q3,q4,hd,SX,hid]
       exact ⟨_,rfl⟩
     · refine ans_ok (okc_of hR (fun n=>by rw [trV_exC];simp only [SX,PV.under]) fun bx hid hc=>?_)
       have t0:=okc_use hid hc hR h0
       rw [trV_exC] at t0
       have t1:=okc_use hid hc hR h1
       rw [trV_exC] at t1 ⊢
       unfold cmpT
       have f0:isT L 4 [61,61] i1=false:=hf 0 (by decide)
       have q0:=okc_use hid hc hR (okc_op_f (id:=id) (o:=o) hR hi1 hT _ f0)
       have f1:isT L 4 [33,61] i1=false:=hf 1 (by decide)
       have q1:=okc_use hid hc hR (okc_op_f (id:=id) (o:=o) hR hi1 hT _ f1)
       have f2:isT L 4 [60] i1=false:=hf 2 (by decide)
       have q2:=okc_use hid hc hR (okc_op_f (id:=id) (o:=o) hR hi1 hT _ f2)
       have f3:isT L 4 [62,61] i1=false:=hf 3 (by decide)
       have q3:=okc_use hid hc hR (okc_op_f (id:=id) (o:=o) hR hi1 hT _ f3)
       have f4:isT L 4 [62] i1=false:=hf 4 (by decide)
       have q4:=okc_use hid hc hR (okc_op_f (id:=id) (o:=o) hR hi1 hT _ f4)
       have f5:isT L 4 [60,61] i1=true:=ht
       have q5:=okc_use hid hc hR (okc_op_t (id:=id) (o:=o) hR hi1 hT _ f5)
       have hd:=fun e g0 g2 g3=>draw_cmp5_ok (L:=L) hR a b hid hc e g0 g2 g3 t1
       rw [callL_enterB (fn:=Tryz.f162) (c:=Tryz.f162.body.getD .skip) rfl rfl fatB_parse_parser_compare rfl noB_parse_parser_compare okB_parse_parser_compare (Nat.le_of_ble_eq_true rfl)]
       simp only [<- drawM_all no_cmp5] at hd
       unfold PSR at⊢hd
       obtain ⟨dr,ev,eo,so,co,⟨hev,hco,heo,hdr⟩,R⟩:=RULESB CC
       rw [<- hev]
       rw [<- hco] at t0 q0 q1 q2 q3 q4 q5
       rw [<- hdr] at hd
       simp only [opsOf,fpart,part',Tryz.f162,Option.getD] at⊢hd
       simp only [S9,R,seval,PY,PZ,pbp,t0,q0,q1,q2,q3,q4,q5,hd,SX,hid]
       exact ⟨_,rfl⟩
  · rw [hp]
    refine ans_ok (okc_of hR (fun n=>by rw [trV_exC];simp only [SX,PV.under]) fun bx hid hc=>?_)
    have t0:=okc_use hid hc hR h0
    rw [trV_exC] at t0 ⊢
    have f0:isT L 4 [61,61] i1=false:=hf 0 (by decide)
    have q0:=okc_use hid hc hR (okc_op_f (id:=id) (o:=o) hR hi1 hT _ f0)
    have f1:isT L 4 [33,61] i1=false:=hf 1 (by decide)
    have q1:=okc_use hid hc hR (okc_op_f (id:=id) (o:=o) hR hi1 hT _ f1)
    have f2:isT L 4 [60] i1=false:=hf 2 (by decide)
    have q2:=okc_use hid hc hR (okc_op_f (id:=id) (o:=o) hR hi1 hT _ f2)
    have f3:isT L 4 [62,61] i1=false:=hf 3 (by decide)
    have q3:=okc_use hid hc hR (okc_op_f (id:=id) (o:=o) hR hi1 hT _ f3)
    have f4:isT L 4 [62] i1=false:=hf 4 (by decide)
    have q4:=okc_use hid hc hR (okc_op_f (id:=id) (o:=o) hR hi1 hT _ f4)
    have f5:isT L 4 [60,61] i1=false:=hf 5 (by decide)
    have q5:=okc_use hid hc hR (okc_op_f (id:=id) (o:=o) hR hi1 hT _ f5)
    rw [callL_enterB (fn:=Tryz.f162) (c:=Tryz.f162.body.getD .skip) rfl rfl fatB_parse_parser_compare rfl noB_parse_parser_compare okB_parse_parser_compare (Nat.le_of_ble_eq_true rfl)]
    unfold PSR at ⊢
    obtain ⟨dr,ev,eo,so,co,⟨hev,hco,heo,hdr⟩,R⟩:=RULESB CC
    rw [<- hev]
    rw [<- hco] at t0 q0 q1 q2 q3 q4 q5
    simp only [opsOf,fpart,part',Tryz.f162,Option.getD] at ⊢
    simp only [S9,R,seval,PY,PZ,pbp,t0,q0,q1,q2,q3,q4,q5,SX,hid]
    exact ⟨_,rfl⟩
end Go.HH
namespace Go.HH
open Go Go.Proofs
set_option maxRecDepth 100000
set_option maxHeartbeats 4000000
set_option linter.unusedSimpArgs false
set_option linter.unusedVariables false
theorem ok_parse_parser_condition:fnOK CC Tryz.f189 (Tryz.f189.body.getD .skip)=true:=by kernel_rfl
theorem fat_parse_parser_condition:CC.P.funcs[189]?=some Tryz.f189:=by kernel_rfl
theorem ok_parse_parser_primary:fnOK CC Tryz.f187 (Tryz.f187.body.getD .skip)=true:=by kernel_rfl
theorem fat_parse_parser_primary:CC.P.funcs[187]?=some Tryz.f187:=by kernel_rfl
theorem ok_parse_parser_unary:fnOK CC Tryz.f184 (Tryz.f184.body.getD .skip)=true:=by kernel_rfl
theorem fat_parse_parser_unary:CC.P.funcs[184]?=some Tryz.f184:=by kernel_rfl
theorem ok_parse_parser_not:fnOK CC Tryz.f139 (Tryz.f139.body.getD .skip)=true:=by kernel_rfl
theorem fat_parse_parser_not:CC.P.funcs[139]?=some Tryz.f139:=by kernel_rfl
theorem buildMode (s:List UInt8):buildP CC 29 [(0,.int .i64 3),(3,.str s)]=some (.agg [.int .i64 3,.int .i64 0,.int .i64 0,.str s,.int .i64 0,.int .i64 0,.str [],.int .i64 0,.str [],.str [],.nils]):=by kernel_rfl
theorem buildKN (k n:Int):buildP CC 29 [(0,.int .i64 k),(1,.int .i64 n)]=some (.agg [.int .i64 k,.int .i64 n,.int .i64 0,.str [],.int .i64 0,.int .i64 0,.str [],.int .i64 0,.str [],.str [],.nils]):=by kernel_rfl
theorem buildK1 (k:Int):buildP CC 29 [(0,.int .i64 k)]=some (.agg [.int .i64 k,.int .i64 0,.int .i64 0,.str [],.int .i64 0,.int .i64 0,.str [],.int .i64 0,.str [],.str [],.nils]):=by kernel_rfl
theorem buildAttr (d:Int) (a b:List UInt8):buildP CC 29 [(0,.int .i64 2),(5,.agg [.int .i64 d,.str a,.str b])]=some (.agg [.int .i64 2,.int .i64 0,.int .i64 0,.str [],.int .i64 0,.int .i64 0,.str [],.int .i64 d,.str a,.str b,.nils]):=by kernel_rfl
theorem buildVt (s:List UInt8):buildP CC 24 [(0,.int .i64 4),(2,.str s)]=some (.agg [.int .i64 4,.int .i64 0,.str s]):=by kernel_rfl
theorem buildText (s:List UInt8):buildP CC 29 [(0,.int .i64 1),(4,.agg [.int .i64 4,.int .i64 0,.str s])]=some (.agg [.int .i64 1,.int .i64 0,.int .i64 0,.str [],.int .i64 4,.int .i64 0,.str s,.int .i64 0,.str [],.str [],.nils]):=by kernel_rfl
theorem trV_lit (k n m:Int) (nm:List UInt8) (v:Vl) (q:Ky):trV (.mk k n m nm v q [])=.agg [.int .i64 k,.int .i64 n,.int .i64 m,.str nm,.int .i64 v.1,.int .i64 v.2.1,.str v.2.2,.int .i64 q.1,.str q.2.1,.str q.2.2,.sl []]:=by unfold trV trVs;rfl
theorem roleA:buildP CC 185 [(0,.str [103,117,101,115,116]),(1,.str [99,104,105,108,100]),(2,.str [97,100,117,108,116]),(3,.str [111,119,110,101,114])]=some (.agg (roleWs.map .str)):=by kernel_rfl
theorem roleI:∀ k:Nat,k < 4->indexV CC 185 (.agg (roleWs.map .str)) (.int .i64 (k:Int))=some (.str (roleWs.getD k []))
 | 0,_=>by kernel_rfl
 | 1,_=>by kernel_rfl
 | 2,_=>by kernel_rfl
 | 3,_=>by kernel_rfl
 | k+4,h=>by omega
def PRole (L:List Tk) (RL:PV) (bx:List PBox) (id i o:Nat) (r:Option Nat) (z:Option (Ex×St)):Prop:=match r with
 | some k=>∃ e',z=some (.ret,⟨e',BX bx id (PSR L (i+1) o RL) [.cells 29 [.int .i64 15,.int .i64 ((k+1:Nat):Int),.int .i64 0,.str [],.int .i64 0,.int .i64 0,.str [],.int .i64 0,.str [],.str [],.nils]]⟩)∧getT e' 2=.bp bx.length 0
 | none=>∃ e',z=some (.exit 1,⟨e',BX bx id (PSR L i o RL) [.cells 29 [.int .i64 0,.int .i64 0,.int .i64 0,.str [],.int .i64 0,.int .i64 0,.str [],.int .i64 0,.str [],.str [],.nils]]⟩)∧getT e' 0=.bp id 0∧getT e' 2=.bp bx.length 0
theorem loop_role (Lc:Code) (hL:Lc=fpart Tryz.f189 [1,0,0,1,1,1,1,1,1,1,1,1,1,1,0,0,1,0]) {id:Nat} {L:List Tk} {i o:Nat} {RL:PV} (hR:RL.pure=true) (hi:i < L.length) (hT:TokOK L) (bx:List PBox) (hid:id < bx.length) (hc:clB bx):∀ (m k:Nat) (e:List PV),k+m=4->getT e 0=.bp id 0->getT e 2=.bp bx.length 0->getT e 43=.agg (roleWs.map .str)->getT e 44=.int .i64 (k:Int) ->
 PRole L RL bx id i o (pickW L 1 i (roleWs.drop k) k) (evL CC Lc ⟨e,BX bx id (PSR L i o RL) [.cells 29 [.int .i64 0,.int .i64 0,.int .i64 0,.str [],.int .i64 0,.int .i64 0,.str [],.int .i64 0,.str [],.str [],.nils]]⟩):=by
 have pbp:pureL [PV.bp id 0]=false:=rfl
 intro m
 induction m with
 | zero=>
  intro k e hk h0 h2 h43 h44
  rw [evL_at (fpart Tryz.f189 [1,0,0,1,1,1,1,1,1,1,1,1,1,1,0,0,1,0,0]) hL]
  have hi4:¬ ((k:Int) < 4):=by omega
  rw [show roleWs.drop k=[] from List.drop_of_length_le (by rw [show roleWs.length=4 from rfl];omega)]
  unfold PRole pickW PSR
  obtain ⟨ev,eo,so,co,⟨hev,hco⟩,R⟩:=RULES CC;rw [<- hev]
  simp only [fpart,part',Tryz.f189,Option.getD]
  simp only [S9,R,seval,PY,PZ,pbp,h0,h2,h43,h44,hi4,hid]
  exact ⟨_,rfl,by simp only [S7,R,seval,h0],by simp only [S7,R,seval,h2]⟩
 | succ m ih=>
  intro k e hk h0 h2 h43 h44
  rw [evL_at (fpart Tryz.f189 [1,0,0,1,1,1,1,1,1,1,1,1,1,1,0,0,1,0,0]) hL]
  have hi4:((k:Int) < 4):=by omega
  have hix:=roleI k (by omega)
  have hdr:roleWs.drop k=roleWs.getD k [] :: roleWs.drop (k+1):=by
   have hl:k < roleWs.length:=by rw [show roleWs.length=4 from rfl];omega
   rw [List.drop_eq_getElem_cons hl,List.getD_eq_getElem?_getD,List.getElem?_eq_getElem hl]
   rfl
  have key:=fun e=>ih (k+1) e (by omega)
  have hw:IntKind.wrap .i64 ((k:Int)+1)=((k+1:Nat):Int):=by rw [wrap_i64 ⟨by omega,by omega⟩];omega
  have hb:=buildKN 15 ((k+1:Nat):Int)
  rw [hdr]
  generalize roleWs.getD k []=wd at *
  unfold pickW
  cases hk1:isT L 1 wd i with
  | true=>
   have t1:=okc_use hid hc hR (okc_word_t (id:=id) (o:=o) hR hi hT wd hk1)
   unfold PRole PSR
   simp only [if_true]
   obtain ⟨ev,eo,so,co,⟨hev,hco⟩,R⟩:=RULES CC;rw [<- hev]
   rw [<- hco] at t1
   simp only [fpart,part',Tryz.f189,Option.getD]
   simp only [S9,R,seval,PY,PZ,pbp,h0,h2,h43,h44,hi4,hix,t1,hw,hb,hid]
   exact ⟨_,rfl,by simp only [S7,R,seval,h2]⟩
  | false=>
   have t1:=okc_use hid hc hR (okc_word_f (id:=id) (o:=o) hR hi hT wd hk1)
   simp only [Bool.false_eq_true,if_false]
   generalize pickW L 1 i (roleWs.drop (k+1)) (k+1)=pw at *
   unfold PSR at key ⊢
   obtain ⟨ev,eo,so,co,⟨hev,hco⟩,R⟩:=RULES CC;rw [<- hev]
   rw [<- hco] at t1
   rw [<- hev] at key
   simp only [fpart,part',Tryz.f189,Option.getD]
   simp only [S9,R,seval,PY,PZ,pbp,h0,h2,h43,h44,hi4,hix,t1,hw,hid]
   refine key _ ?_ ?_ ?_ ?_
   · simp only [S7,R,seval,h0]
   · simp only [S7,R,seval,h2]
   · simp only [S7,R,seval,h43]
   · simp only [S7,R,seval]
theorem ans_cond {id:Nat} {L:List Tk} {i o:Nat} {RL:PV} (hR:RL.pure=true) (hi:i < L.length) (hT:TokOK L):ANS 189 [] id L RL i o trV (condP L i):=by
 unfold condP
 cases f0:isT L 1 [116,114,117,101] i with
 | true=>
  simp only [if_true]
  have hi1:=isT_lt hT hi f0 (by decide)
  have hl:=litE 1 1
  refine ans_ok (okc_of hR (fun n=>by rw [trV_exC];simp only [SX,PV.under]) fun bx hid hc=>?_)
  have q0:=okc_use hid hc hR (okc_word_t (id:=id) (o:=o) hR hi hT _ f0)
  rw [trV_exC]
  rw [callL_enter (fn:=Tryz.f189) (c:=Tryz.f189.body.getD .skip) rfl rfl fat_parse_parser_condition rfl ok_parse_parser_condition (Nat.le_of_ble_eq_true rfl)]
  have pbp:pureL [PV.bp id 0]=false:=rfl
  unfold PSR
  obtain ⟨ev,eo,so,co,⟨hev,hco⟩,R⟩:=RULES CC;rw [<- hev]
  rw [<- hco] at q0 hl
  simp only [fpart,part',Tryz.f189,Option.getD]
  simp only [S9,R,seval,PY,PZ,pbp,q0,hl,SX,hid]
  exact ⟨_,rfl⟩
 | false=>
  simp only [Bool.false_eq_true,if_false]
  cases f1:isT L 1 [102,97,108,115,101] i with
  | true=>
   simp only [if_true]
   have hi1:=isT_lt hT hi f1 (by decide)
   have hl:=litE 1 0
   refine ans_ok (okc_of hR (fun n=>by rw [trV_exC];simp only [SX,PV.under]) fun bx hid hc=>?_)
   have q0:=okc_use hid hc hR (okc_word_f (id:=id) (o:=o) hR hi hT _ f0)
   have q1:=okc_use hid hc hR (okc_word_t (id:=id) (o:=o) hR hi hT _ f1)
   rw [trV_exC]
   rw [callL_enter (fn:=Tryz.f189) (c:=Tryz.f189.body.getD .skip) rfl rfl fat_parse_parser_condition rfl ok_parse_parser_condition (Nat.le_of_ble_eq_true rfl)]
   have pbp:pureL [PV.bp id 0]=false:=rfl
   unfold PSR
   obtain ⟨ev,eo,so,co,⟨hev,hco⟩,R⟩:=RULES CC;rw [<- hev]
   rw [<- hco] at q0 q1 hl
   simp only [fpart,part',Tryz.f189,Option.getD]
   simp only [S9,R,seval,PY,PZ,pbp,q0,q1,hl,SX,hid]
   exact ⟨_,rfl⟩
  | false=>
   simp only [Bool.false_eq_true,if_false]
   cases f2:isT L 1 [109,111,100,101] i with
   | true=>
    simp only [if_true]
    have hi1:=isT_lt hT hi f2 (by decide)
    have h0:=ans_must (id:=id) (o:=o) (i:=(i+1)) hR hi1 hT 1 1 rfl [105,115]
    cases r0:mustP L 1 [105,115] (i+1) with
    | out=>exact ans_out
    | bad t e=>
     rw [r0] at h0
     obtain ⟨i',o',h0⟩:=h0
     refine ans_bad ⟨i',o',badx_of hR fun bx hid hc=>?_⟩
     have q0:=okc_use hid hc hR (okc_word_f (id:=id) (o:=o) hR hi hT _ f0)
     have q1:=okc_use hid hc hR (okc_word_f (id:=id) (o:=o) hR hi hT _ f1)
     have q2:=okc_use hid hc hR (okc_word_t (id:=id) (o:=o) hR hi hT _ f2)
     have t0:=badx_use hid hc hR h0
     rw [callL_enter (fn:=Tryz.f189) (c:=Tryz.f189.body.getD .skip) rfl rfl fat_parse_parser_condition rfl ok_parse_parser_condition (Nat.le_of_ble_eq_true rfl)]
     have pbp:pureL [PV.bp id 0]=false:=rfl
     unfold PSR
     obtain ⟨ev,eo,so,co,⟨hev,hco⟩,R⟩:=RULES CC;rw [<- hev]
     rw [<- hco] at q0 q1 q2 t0
     simp only [fpart,part',Tryz.f189,Option.getD]
     simp only [S9,R,seval,PY,PZ,pbp,q0,q1,q2,t0,hid]
     exact ⟨_,rfl⟩
    | ok a0 i0=>
     rw [r0] at h0
     dsimp only [bind_okk]
     have j0:=mustP_lt hT hi1 (by decide) r0
     have hj0:=j0.2
     have h1:=ans_name (id:=id) (o:=o) (i:=i0) hR hj0 hT
     cases r1:nameP L i0 with
     | out=>exact ans_out
     | bad t e=>
      rw [r1] at h1
      obtain ⟨i',o',h1⟩:=h1
      refine ans_bad ⟨i',o',badx_of hR fun bx hid hc=>?_⟩
      have q0:=okc_use hid hc hR (okc_word_f (id:=id) (o:=o) hR hi hT _ f0)
      have q1:=okc_use hid hc hR (okc_word_f (id:=id) (o:=o) hR hi hT _ f1)
      have q2:=okc_use hid hc hR (okc_word_t (id:=id) (o:=o) hR hi hT _ f2)
      have t0:=okc_use hid hc hR h0
      have t1:=badx_use hid hc hR h1
      rw [callL_enter (fn:=Tryz.f189) (c:=Tryz.f189.body.getD .skip) rfl rfl fat_parse_parser_condition rfl ok_parse_parser_condition (Nat.le_of_ble_eq_true rfl)]
      have pbp:pureL [PV.bp id 0]=false:=rfl
      unfold PSR
      obtain ⟨ev,eo,so,co,⟨hev,hco⟩,R⟩:=RULES CC;rw [<- hev]
      rw [<- hco] at q0 q1 q2 t0 t1
      simp only [fpart,part',Tryz.f189,Option.getD]
      simp only [S9,R,seval,PY,PZ,pbp,q0,q1,q2,t0,t1,hid]
      exact ⟨_,rfl⟩
     | ok a1 i1=>
      rw [r1] at h1
      dsimp only [bind_okk]
      have j1:=nameP_lt hT hj0 r1
      have hj1:=j1.2
      refine ans_ok (okc_of hR (fun n=>by rw [trV_exC];simp only [SX,PV.under]) fun bx hid hc=>?_)
      have q0:=okc_use hid hc hR (okc_word_f (id:=id) (o:=o) hR hi hT _ f0)
      have q1:=okc_use hid hc hR (okc_word_f (id:=id) (o:=o) hR hi hT _ f1)
      have q2:=okc_use hid hc hR (okc_word_t (id:=id) (o:=o) hR hi hT _ f2)
      have t0:=okc_use hid hc hR h0
      have t1:=okc_use hid hc hR h1
      rw [trV_lit]
      rw [callL_enter (fn:=Tryz.f189) (c:=Tryz.f189.body.getD .skip) rfl rfl fat_parse_parser_condition rfl ok_parse_parser_condition (Nat.le_of_ble_eq_true rfl)]
      have pbp:pureL [PV.bp id 0]=false:=rfl
      unfold PSR zK zV
      obtain ⟨ev,eo,so,co,⟨hev,hco⟩,R⟩:=RULES CC;rw [<- hev]
      rw [<- hco] at q0 q1 q2 t0 t1
      simp only [fpart,part',Tryz.f189,Option.getD]
      simp only [S9,R,seval,PY,PZ,pbp,q0,q1,q2,t0,t1,buildMode,hid]
      exact ⟨_,rfl⟩
   | false=>
    simp only [Bool.false_eq_true,if_false]
    cases f3:isT L 1 [116,105,109,101] i with
    | true=>
     simp only [if_true]
     have hi1:=isT_lt hT hi f3 (by decide)
     have h0:=ans_clock (id:=id) (o:=o) (i:=(i+1)) hR hi1 hT
     cases r0:clockP L (i+1) with
     | out=>exact ans_out
     | bad t e=>
      rw [r0] at h0
      obtain ⟨i',o',h0⟩:=h0
      refine ans_bad ⟨i',o',badx_of hR fun bx hid hc=>?_⟩
      have q0:=okc_use hid hc hR (okc_word_f (id:=id) (o:=o) hR hi hT _ f0)
      have q1:=okc_use hid hc hR (okc_word_f (id:=id) (o:=o) hR hi hT _ f1)
      have q2:=okc_use hid hc hR (okc_word_f (id:=id) (o:=o) hR hi hT _ f2)
      have q3:=okc_use hid hc hR (okc_word_t (id:=id) (o:=o) hR hi hT _ f3)
      have t0:=badx_use hid hc hR h0
      rw [callL_enter (fn:=Tryz.f189) (c:=Tryz.f189.body.getD .skip) rfl rfl fat_parse_parser_condition rfl ok_parse_parser_condition (Nat.le_of_ble_eq_true rfl)]
      have pbp:pureL [PV.bp id 0]=false:=rfl
      unfold PSR
      obtain ⟨ev,eo,so,co,⟨hev,hco⟩,R⟩:=RULES CC;rw [<- hev]
      rw [<- hco] at q0 q1 q2 q3 t0
      simp only [fpart,part',Tryz.f189,Option.getD]
      simp only [S9,R,seval,PY,PZ,pbp,q0,q1,q2,q3,t0,buildKN,hid]
      exact ⟨_,rfl⟩
     | ok a0 i0=>
      rw [r0] at h0
      dsimp only [bind_okk]
      have j0:=clockP_lt hT hi1 r0
      have hj0:=j0.2.1
      have h1:=ans_must (id:=id) (o:=o) (i:=i0) hR hj0 hT 1 1 rfl [116,111]
      cases r1:mustP L 1 [116,111] i0 with
      | out=>exact ans_out
      | bad t e=>
       rw [r1] at h1
       obtain ⟨i',o',h1⟩:=h1
       refine ans_bad ⟨i',o',badx_of hR fun bx hid hc=>?_⟩
       have q0:=okc_use hid hc hR (okc_word_f (id:=id) (o:=o) hR hi hT _ f0)
       have q1:=okc_use hid hc hR (okc_word_f (id:=id) (o:=o) hR hi hT _ f1)
       have q2:=okc_use hid hc hR (okc_word_f (id:=id) (o:=o) hR hi hT _ f2)
       have q3:=okc_use hid hc hR (okc_word_t (id:=id) (o:=o) hR hi hT _ f3)
       have t0:=okc_use hid hc hR h0
       have t1:=badx_use hid hc hR h1
       rw [callL_enter (fn:=Tryz.f189) (c:=Tryz.f189.body.getD .skip) rfl rfl fat_parse_parser_condition rfl ok_parse_parser_condition (Nat.le_of_ble_eq_true rfl)]
       have pbp:pureL [PV.bp id 0]=false:=rfl
       unfold PSR
       obtain ⟨ev,eo,so,co,⟨hev,hco⟩,R⟩:=RULES CC;rw [<- hev]
       rw [<- hco] at q0 q1 q2 q3 t0 t1
       simp only [fpart,part',Tryz.f189,Option.getD]
       simp only [S9,R,seval,PY,PZ,pbp,q0,q1,q2,q3,t0,t1,buildKN,hid]
       exact ⟨_,rfl⟩
      | ok a1 i1=>
       rw [r1] at h1
       dsimp only [bind_okk]
       have j1:=mustP_lt hT hj0 (by decide) r1
       have hj1:=j1.2
       have h2:=ans_clock (id:=id) (o:=o) (i:=i1) hR hj1 hT
       cases r2:clockP L i1 with
       | out=>exact ans_out
       | bad t e=>
        rw [r2] at h2
        obtain ⟨i',o',h2⟩:=h2
        refine ans_bad ⟨i',o',badx_of hR fun bx hid hc=>?_⟩
        have q0:=okc_use hid hc hR (okc_word_f (id:=id) (o:=o) hR hi hT _ f0)
        have q1:=okc_use hid hc hR (okc_word_f (id:=id) (o:=o) hR hi hT _ f1)
        have q2:=okc_use hid hc hR (okc_word_f (id:=id) (o:=o) hR hi hT _ f2)
        have q3:=okc_use hid hc hR (okc_word_t (id:=id) (o:=o) hR hi hT _ f3)
        have t0:=okc_use hid hc hR h0
        have t1:=okc_use hid hc hR h1
        have t2:=badx_use hid hc hR h2
        rw [callL_enter (fn:=Tryz.f189) (c:=Tryz.f189.body.getD .skip) rfl rfl fat_parse_parser_condition rfl ok_parse_parser_condition (Nat.le_of_ble_eq_true rfl)]
        have pbp:pureL [PV.bp id 0]=false:=rfl
        unfold PSR
        obtain ⟨ev,eo,so,co,⟨hev,hco⟩,R⟩:=RULES CC;rw [<- hev]
        rw [<- hco] at q0 q1 q2 q3 t0 t1 t2
        simp only [fpart,part',Tryz.f189,Option.getD]
        simp only [S9,R,seval,PY,PZ,pbp,q0,q1,q2,q3,t0,t1,t2,buildKN,hid]
        exact ⟨_,rfl⟩
       | ok a2 i2=>
        rw [r2] at h2
        dsimp only [bind_okk]
        have j2:=clockP_lt hT hj1 r2
        have hj2:=j2.2.1
        refine ans_ok (okc_of hR (fun n=>by rw [trV_exC];simp only [SX,PV.under]) fun bx hid hc=>?_)
        have q0:=okc_use hid hc hR (okc_word_f (id:=id) (o:=o) hR hi hT _ f0)
        have q1:=okc_use hid hc hR (okc_word_f (id:=id) (o:=o) hR hi hT _ f1)
        have q2:=okc_use hid hc hR (okc_word_f (id:=id) (o:=o) hR hi hT _ f2)
        have q3:=okc_use hid hc hR (okc_word_t (id:=id) (o:=o) hR hi hT _ f3)
        have t0:=okc_use hid hc hR h0
        have t1:=okc_use hid hc hR h1
        have t2:=okc_use hid hc hR h2
        rw [trV_lit]
        rw [callL_enter (fn:=Tryz.f189) (c:=Tryz.f189.body.getD .skip) rfl rfl fat_parse_parser_condition rfl ok_parse_parser_condition (Nat.le_of_ble_eq_true rfl)]
        have pbp:pureL [PV.bp id 0]=false:=rfl
        unfold PSR zK zV
        obtain ⟨ev,eo,so,co,⟨hev,hco⟩,R⟩:=RULES CC;rw [<- hev]
        rw [<- hco] at q0 q1 q2 q3 t0 t1 t2
        simp only [fpart,part',Tryz.f189,Option.getD]
        simp only [S9,R,seval,PY,PZ,pbp,q0,q1,q2,q3,t0,t1,t2,buildKN,hid]
        exact ⟨_,rfl⟩
    | false=>
     simp only [Bool.false_eq_true,if_false]
     cases f4:isT L 1 [100,97,121,115] i with
     | true=>
      simp only [if_true]
      have hi1:=isT_lt hT hi f4 (by decide)
      have h0:=ans_days (id:=id) (o:=o) (i:=(i+1)) hR hi1 hT
      cases r0:daysP L (i+1) with
      | out=>exact ans_out
      | bad t e=>
       rw [r0] at h0
       obtain ⟨i',o',h0⟩:=h0
       refine ans_bad ⟨i',o',badx_of hR fun bx hid hc=>?_⟩
       have q0:=okc_use hid hc hR (okc_word_f (id:=id) (o:=o) hR hi hT _ f0)
       have q1:=okc_use hid hc hR (okc_word_f (id:=id) (o:=o) hR hi hT _ f1)
       have q2:=okc_use hid hc hR (okc_word_f (id:=id) (o:=o) hR hi hT _ f2)
       have q3:=okc_use hid hc hR (okc_word_f (id:=id) (o:=o) hR hi hT _ f3)
       have q4:=okc_use hid hc hR (okc_word_t (id:=id) (o:=o) hR hi hT _ f4)
       have t0:=badx_use hid hc hR h0
       rw [callL_enter (fn:=Tryz.f189) (c:=Tryz.f189.body.getD .skip) rfl rfl fat_parse_parser_condition rfl ok_parse_parser_condition (Nat.le_of_ble_eq_true rfl)]
       have pbp:pureL [PV.bp id 0]=false:=rfl
       unfold PSR
       obtain ⟨ev,eo,so,co,⟨hev,hco⟩,R⟩:=RULES CC;rw [<- hev]
       rw [<- hco] at q0 q1 q2 q3 q4 t0
       simp only [fpart,part',Tryz.f189,Option.getD]
       simp only [S9,R,seval,PY,PZ,pbp,q0,q1,q2,q3,q4,t0,buildKN,hid]
       exact ⟨_,rfl⟩
      | ok a0 i0=>
       rw [r0] at h0
       dsimp only [bind_okk]
       have j0:=daysP_lt hT hi1 r0
       have hj0:=j0.2.1
       refine ans_ok (okc_of hR (fun n=>by rw [trV_exC];simp only [SX,PV.under]) fun bx hid hc=>?_)
       have q0:=okc_use hid hc hR (okc_word_f (id:=id) (o:=o) hR hi hT _ f0)
       have q1:=okc_use hid hc hR (okc_word_f (id:=id) (o:=o) hR hi hT _ f1)
       have q2:=okc_use hid hc hR (okc_word_f (id:=id) (o:=o) hR hi hT _ f2)
       have q3:=okc_use hid hc hR (okc_word_f (id:=id) (o:=o) hR hi hT _ f3)
       have q4:=okc_use hid hc hR (okc_word_t (id:=id) (o:=o) hR hi hT _ f4)
       have t0:=okc_use hid hc hR h0
       rw [trV_lit]
       rw [callL_enter (fn:=Tryz.f189) (c:=Tryz.f189.body.getD .skip) rfl rfl fat_parse_parser_condition rfl ok_parse_parser_condition (Nat.le_of_ble_eq_true rfl)]
       have pbp:pureL [PV.bp id 0]=false:=rfl
       unfold PSR zK zV
       obtain ⟨ev,eo,so,co,⟨hev,hco⟩,R⟩:=RULES CC;rw [<- hev]
       rw [<- hco] at q0 q1 q2 q3 q4 t0
       simp only [fpart,part',Tryz.f189,Option.getD]
       simp only [S9,R,seval,PY,PZ,pbp,q0,q1,q2,q3,q4,t0,buildKN,hid]
       exact ⟨_,rfl⟩
     | false=>
      simp only [Bool.false_eq_true,if_false]
      cases f5:isT L 1 [104,111,109,101] i with
      | true=>
       simp only [if_true]
       have hi1:=isT_lt hT hi f5 (by decide)
       have hloop:=fun bx hid hc e=>loop_role _ rfl (id:=id) (i:=i+1) (o:=o) (RL:=RL) hR hi1 hT bx hid hc 4 0 e rfl
       rw [show roleWs.drop 0=roleWs from rfl] at hloop
       cases hp:pickW L 1 (i+1) roleWs 0 with
       | some k=>
        rw [hp] at hloop
        refine ans_ok (okc_of hR (fun n=>by rw [trV_exC];simp only [SX,PV.under]) fun bx hid hc=>?_)
        have hloop:=hloop bx hid hc
        have q0:=okc_use hid hc hR (okc_word_f (id:=id) (o:=o) hR hi hT _ f0)
        have q1:=okc_use hid hc hR (okc_word_f (id:=id) (o:=o) hR hi hT _ f1)
        have q2:=okc_use hid hc hR (okc_word_f (id:=id) (o:=o) hR hi hT _ f2)
        have q3:=okc_use hid hc hR (okc_word_f (id:=id) (o:=o) hR hi hT _ f3)
        have q4:=okc_use hid hc hR (okc_word_f (id:=id) (o:=o) hR hi hT _ f4)
        have q5:=okc_use hid hc hR (okc_word_t (id:=id) (o:=o) hR hi hT _ f5)
        rw [trV_lit]
        have pbp:pureL [PV.bp id 0]=false:=rfl
        rw [callL_enter (fn:=Tryz.f189) (c:=Tryz.f189.body.getD .skip) rfl rfl fat_parse_parser_condition rfl ok_parse_parser_condition (Nat.le_of_ble_eq_true rfl)]
        simp only [fpart,part',Tryz.f189,Option.getD] at hloop ⊢
        unfold PSR zK zV at *
        obtain ⟨ev,eo,so,co,⟨hev,hco⟩,R⟩:=RULES CC;rw [<- hev]
        rw [<- hev] at hloop
        rw [<- hco] at q0 q1 q2 q3 q4 q5
        simp only [S9,R,seval,PY,PZ,pbp,q0,q1,q2,q3,q4,q5,roleA,hid]
        generalize hE:ev _ _=z
        have hP:PRole L RL bx id (i+1) o (some k) z:=by
         rw [<- hE]
         refine hloop _ ?_ ?_ ?_ ?_
         · simp only [S7,R,seval]
         · simp only [S7,R,seval]
         · simp only [S7,R,seval]
         · simp only [S7,R,seval] <;> rfl
        obtain ⟨e',he,h2⟩:=hP
        subst he
        clear hE hloop
        unfold PSR
        simp only [S9,R,seval,PY,PZ,pbp,h2,hid]
        exact ⟨_,rfl⟩
       | none=>
        rw [hp] at hloop
        refine ans_ok (okc_of hR (fun n=>by rw [trV_exC];simp only [SX,PV.under]) fun bx hid hc=>?_)
        have hloop:=hloop bx hid hc
        have q0:=okc_use hid hc hR (okc_word_f (id:=id) (o:=o) hR hi hT _ f0)
        have q1:=okc_use hid hc hR (okc_word_f (id:=id) (o:=o) hR hi hT _ f1)
        have q2:=okc_use hid hc hR (okc_word_f (id:=id) (o:=o) hR hi hT _ f2)
        have q3:=okc_use hid hc hR (okc_word_f (id:=id) (o:=o) hR hi hT _ f3)
        have q4:=okc_use hid hc hR (okc_word_f (id:=id) (o:=o) hR hi hT _ f4)
        have q5:=okc_use hid hc hR (okc_word_t (id:=id) (o:=o) hR hi hT _ f5)
        rw [trV_lit]
        have pbp:pureL [PV.bp id 0]=false:=rfl
        rw [callL_enter (fn:=Tryz.f189) (c:=Tryz.f189.body.getD .skip) rfl rfl fat_parse_parser_condition rfl ok_parse_parser_condition (Nat.le_of_ble_eq_true rfl)]
        simp only [fpart,part',Tryz.f189,Option.getD] at hloop ⊢
        unfold PSR zK zV at *
        obtain ⟨ev,eo,so,co,⟨hev,hco⟩,R⟩:=RULES CC;rw [<- hev]
        rw [<- hev] at hloop
        rw [<- hco] at q0 q1 q2 q3 q4 q5
        simp only [S9,R,seval,PY,PZ,pbp,q0,q1,q2,q3,q4,q5,roleA,hid]
        generalize hE:ev _ _=z
        have hP:PRole L RL bx id (i+1) o (none) z:=by
         rw [<- hE]
         refine hloop _ ?_ ?_ ?_ ?_
         · simp only [S7,R,seval]
         · simp only [S7,R,seval]
         · simp only [S7,R,seval]
         · simp only [S7,R,seval] <;> rfl
        obtain ⟨e',he,h0,h2⟩:=hP
        subst he
        clear hE hloop
        unfold PSR
        have hb:=buildK1 15
        simp only [S9,R,seval,PY,PZ,pbp,h0,h2,hb,hid]
        exact ⟨_,rfl⟩
      | false=>
       simp only [Bool.false_eq_true,if_false]
       refine ans_bad ⟨i,o,badx_of hR fun bx hid hc=>?_⟩
       have q0:=okc_use hid hc hR (okc_word_f (id:=id) (o:=o) hR hi hT _ f0)
       have q1:=okc_use hid hc hR (okc_word_f (id:=id) (o:=o) hR hi hT _ f1)
       have q2:=okc_use hid hc hR (okc_word_f (id:=id) (o:=o) hR hi hT _ f2)
       have q3:=okc_use hid hc hR (okc_word_f (id:=id) (o:=o) hR hi hT _ f3)
       have q4:=okc_use hid hc hR (okc_word_f (id:=id) (o:=o) hR hi hT _ f4)
       have q5:=okc_use hid hc hR (okc_word_f (id:=id) (o:=o) hR hi hT _ f5)
       have t2:=okc_use hid hc hR (okc_token (id:=id) (o:=o) hR hi)
       have t3:=badx_use hid hc hR (badx_fail (id:=id) (i:=i) (o:=o) (L:=L) hR (tokAt L i).1 (tokAt L i).2.1 (tokAt L i).2.2 12)
       rw [callL_enter (fn:=Tryz.f189) (c:=Tryz.f189.body.getD .skip) rfl rfl fat_parse_parser_condition rfl ok_parse_parser_condition (Nat.le_of_ble_eq_true rfl)]
       have pbp:pureL [PV.bp id 0]=false:=rfl
       unfold PSR atT
       obtain ⟨ev,eo,so,co,⟨hev,hco⟩,R⟩:=RULES CC;rw [<- hev]
       rw [<- hco] at q0 q1 q2 q3 q4 q5 t2 t3
       simp only [fpart,part',Tryz.f189,Option.getD]
       simp only [S9,R,seval,PY,PZ,pbp,q0,q1,q2,q3,q4,q5,t2,t3,hid]
       exact ⟨_,rfl⟩
end Go.HH
