/-
  What the law needs, packed: E10 RA RB RC RD RE RF RG RH RI RJ RK RM RN RO RP RQ RR RS RU RV RW RX RY UA UB UC UD SG UE T4 T5.
-/
import Derived.Test.YthjcaihemgllaaaGreatDoorM40
namespace Go.HH
open Go Go.Proofs
set_option maxRecDepth 100000
set_option linter.unusedSimpArgs false
set_option linter.unusedVariables false
structure Tg where
 k:Int
 key:Ky
 ev:Ky
 nm:List UInt8
 n:Int
 m:Int
def tgV (t:Tg):PV:=.agg [.int .i64 t.k,.int .i64 t.key.1,.str t.key.2.1,.str t.key.2.2,.int .i64 t.ev.1,.str t.ev.2.1,.str t.ev.2.2,.str t.nm,.int .i64 t.n,.int .i64 t.m]
def trC (t:Tr):List PV:=(trV t).cells
theorem trV_agg (t:Tr):trV t=.agg (trC t):=by
 obtain ⟨k,n,m,nm,v,key,kids⟩:=t
 unfold trC trV
 rfl
structure Sp where
 k:Int
 key:Ky
 nm:List UInt8
 ex:Tr
def spV (s:Sp):PV:=.agg ([.int .i64 s.k,.int .i64 s.key.1,.str s.key.2.1,.str s.key.2.2,.str s.nm]++trC s.ex)
structure Rl where
 nm:List UInt8
 pr:Int
 on:List Tg
 ife:Tr
 dos:List Sp
def rlV (r:Rl):PV:=.agg ([.str r.nm,.int .i64 r.pr,.sl (r.on.map tgV)]++(trC r.ife++[.sl (r.dos.map spV)]))
end Go.HH
namespace Go.HH
open Go Go.Proofs
set_option maxRecDepth 100000
set_option linter.unusedSimpArgs false
set_option linter.unusedVariables false
end Go.HH
namespace Go.HH
open Go Go.Proofs
set_option maxRecDepth 100000
set_option maxHeartbeats 4000000
set_option linter.unusedSimpArgs false
set_option linter.unusedVariables false
theorem wholeP_lt {L:List Tk} (hT:TokOK L) {n i:Nat} {a:Tr} {j:Nat} (hi:i < L.length) (h:wholeP L n i=.ok a j):i<=j∧j < L.length:=by
 unfold wholeP at h
 obtain ⟨_,i1,r1,h⟩:=bind_ok h
 split at h
 · injection h with _ h
   subst h
   exact pz_lt hT _ _ _ _ _ _ hi r1
 · cases h
theorem exC_zT:exC zT=[.int .i64 0,.int .i64 0,.int .i64 0,.str [],.int .i64 0,.int .i64 0,.str [],.int .i64 0,.str [],.str [],.sl []]:=by unfold exC zT trV zV zK trVs;rfl
end Go.HH
namespace Go.HH
open Go Go.Proofs
set_option maxRecDepth 100000
set_option maxHeartbeats 4000000
set_option linter.unusedSimpArgs false
set_option linter.unusedVariables false
end Go.HH
namespace Go.HH
open Go Go.Proofs
set_option maxRecDepth 100000
set_option maxHeartbeats 4000000
set_option linter.unusedSimpArgs false
set_option linter.unusedVariables false
end Go.HH
namespace Go.HH
open Go Go.Proofs
set_option maxRecDepth 100000
set_option maxHeartbeats 4000000
set_option linter.unusedSimpArgs false
set_option linter.unusedVariables false
end Go.HH
namespace Go.HH
open Go Go.Proofs
set_option maxRecDepth 100000
set_option maxHeartbeats 4000000
set_option linter.unusedSimpArgs false
set_option linter.unusedVariables false
end Go.HH
namespace Go.HH
open Go Go.Proofs
set_option maxRecDepth 100000
set_option maxHeartbeats 4000000
set_option linter.unusedSimpArgs false
set_option linter.unusedVariables false
end Go.HH
namespace Go.HH
open Go Go.Proofs
set_option maxRecDepth 100000
set_option maxHeartbeats 4000000
set_option linter.unusedSimpArgs false
set_option linter.unusedVariables false
end Go.HH
namespace Go.HH
open Go Go.Proofs
set_option maxRecDepth 100000
set_option maxHeartbeats 4000000
set_option linter.unusedSimpArgs false
set_option linter.unusedVariables false
end Go.HH
namespace Go.HH
open Go Go.Proofs
set_option maxRecDepth 100000
set_option maxHeartbeats 4000000
set_option linter.unusedSimpArgs false
set_option linter.unusedVariables false
theorem exC_mk (k n m:Int) (s:List UInt8) (v:Vl) (q:Ky) (kids:List Tr):exC (.mk k n m s v q kids)=[.int .i64 k,.int .i64 n,.int .i64 m,.str s,.int .i64 v.1,.int .i64 v.2.1,.str v.2.2,.int .i64 q.1,.str q.2.1,.str q.2.2,.sl (trVs kids)]:=by unfold exC trV;rfl
end Go.HH
namespace Go.HH
open Go Go.Proofs
set_option maxRecDepth 100000
set_option maxHeartbeats 4000000
set_option linter.unusedSimpArgs false
set_option linter.unusedVariables false
end Go.HH
namespace Go.HH
open Go Go.Proofs
set_option maxRecDepth 100000
set_option maxHeartbeats 4000000
set_option linter.unusedSimpArgs false
set_option linter.unusedVariables false
end Go.HH
namespace Go.HH
open Go Go.Proofs
set_option maxRecDepth 100000
set_option maxHeartbeats 4000000
set_option linter.unusedSimpArgs false
set_option linter.unusedVariables false
end Go.HH
namespace Go.HH
open Go Go.Proofs
set_option maxRecDepth 100000
set_option maxHeartbeats 4000000
set_option linter.unusedSimpArgs false
set_option linter.unusedVariables false
end Go.HH
namespace Go.HH
open Go Go.Proofs
set_option maxRecDepth 100000
set_option maxHeartbeats 4000000
set_option linter.unusedSimpArgs false
set_option linter.unusedVariables false
theorem ok_parse_start:fnOK CC Tryz.f48 (Tryz.f48.body.getD .skip)=true:=by kernel_rfl
theorem fat_parse_start:CC.P.funcs[48]?=some Tryz.f48:=by kernel_rfl
theorem bFlt (t e:Int):buildP CC 84 [(0,.int .i64 t),(1,.int .i64 e)]=some (.agg [.int .i64 t,.int .i64 e]):=by kernel_rfl
theorem bPsr (xs:List PV):buildP CC 92 [(0,.sl xs)]=some (.agg [.sl xs,.int .i64 0,.int .i64 0,.nils]):=by kernel_rfl
theorem call_start_ok (s:List UInt8) (hs:s.length<=40000) (h0:(toks s).2.2=0) (bx:List PBox):callL CC 48 [.str s] bx=some (.ret (.bp bx.length 0),bx++[PSR (toks s).1 0 0 .nils]):=by
 have ht:=op_lex_Tokens s (by omega) bx
 rw [h0] at ht
 rw [callL_enter (fn:=Tryz.f48) (c:=Tryz.f48.body.getD .skip) rfl rfl fat_parse_start rfl ok_parse_start (Nat.le_of_ble_eq_true rfl)]
 unfold PSR
 generalize tkVs (toks s).1=xs at *
 obtain ⟨ev,eo,so,co,⟨hev,hco⟩,R⟩:=RULES CC;rw [<- hev]
 rw [<- hco] at ht
 simp only [fpart,part',Tryz.f48,Option.getD]
 simp only [S9,R,seval,PPU,ht,bPsr,nchP,dynR]
 try rfl
theorem call_start_bad (s:List UInt8) (hs:s.length<=40000) (h0:(toks s).2.2≠0) (bx:List PBox):callL CC 48 [.str s] bx=some (.pan (fltV (toks s).2.1 (toks s).2.2),bx):=by
 have ht:=op_lex_Tokens s (by omega) bx
 have hz:((toks s).2.2 != 0)=true:=by simp [bne_iff_ne,h0]
 rw [callL_enter (fn:=Tryz.f48) (c:=Tryz.f48.body.getD .skip) rfl rfl fat_parse_start rfl ok_parse_start (Nat.le_of_ble_eq_true rfl)]
 unfold fltV
 generalize tkVs (toks s).1=xs at *
 generalize (toks s).2.2=er at *
 generalize (toks s).2.1=ta at *
 obtain ⟨ev,eo,so,co,⟨hev,hco⟩,R⟩:=RULES CC;rw [<- hev]
 rw [<- hco] at ht
 simp only [fpart,part',Tryz.f48,Option.getD]
 simp only [S9,R,seval,PPU,ht,hz,bFlt,mkIf_s,nchP,dynR]
 try rfl
end Go.HH
namespace Go.HH
open Go Go.Proofs
set_option maxRecDepth 100000
set_option maxHeartbeats 4000000
set_option linter.unusedSimpArgs false
set_option linter.unusedVariables false
end Go.HH
namespace Go.HH
open Go Go.Proofs
set_option maxRecDepth 100000
set_option maxHeartbeats 4000000
set_option linter.unusedSimpArgs false
set_option linter.unusedVariables false
theorem op_start_ok (s:List UInt8) (hs:s.length<=40000) (h0:(toks s).2.2=0) (bx:List PBox):callOp CC (callL CC) 48 [.str s] bx=some (.ret (.bp bx.length 0),bx++[PSR (toks s).1 0 0 .nils]):=by
 unfold callOp
 rw [if_pos (show (CC.heap 48 || !pureL [PV.str s])=true from rfl),call_start_ok s hs h0 bx]
 simp only
 unfold truncB
 rw [if_neg (by simp [CR.under,PV.under])]
end Go.HH
namespace Go.HH
open Go Go.Proofs
set_option maxRecDepth 100000
set_option maxHeartbeats 4000000
set_option linter.unusedSimpArgs false
set_option linter.unusedVariables false
end Go.HH
namespace Go.HH
open Go Go.Proofs
set_option maxRecDepth 100000
set_option maxHeartbeats 4000000
set_option linter.unusedSimpArgs false
set_option linter.unusedVariables false
theorem postE_pan (x y:Int) (e:List PV) (c0:List PV) (hl:c0.length=11) (hp:pureL c0=true) (r:List PBox) (k2:getT e 2=.bp 0 0) (k3:getT e 3=.bp 1 0) (k4:getT e 4=.bp 2 0):catE.post (.pan (.iface 84 (.agg [.int .i64 x,.int .i64 y])),⟨e,.cells 29 c0 :: .cells 3 [.int .i64 0] :: .cells 35 [.int .i64 0] :: r⟩)=some (.ret (.tup [.agg (exC zT),.int .i64 x,.int .i64 y]),[]):=by
 have h:okE 11 ⟨e,.cells 29 c0 :: .cells 3 [.int .i64 0] :: .cells 35 [.int .i64 0] :: r⟩=true:=by unfold okE;simp only [k2,k3,k4,hl,hp];rfl
 show (if (decide (84=84) && okE 11 ⟨e,.cells 29 c0 :: .cells 3 [.int .i64 0] :: .cells 35 [.int .i64 0] :: r⟩)=true then some (CR.ret (.tup [finE zeroE,.int .i64 x,.int .i64 y]),([]:List PBox)) else none)=_
 rw [h,exC_zT]
 rfl
theorem hasP3e (L:List Tk) (i:Nat) (c0:List PV) (hc:∀ n,underL n c0=true):hasP L i 0 .nils 3 [.cells 29 c0,.cells 3 [.int .i64 0],.cells 35 [.int .i64 0],PSR L i 0 .nils]:=by
 refine ⟨?_,rfl⟩
 have:=PSR_under (n:=4) L i 0 (RL:=.nils) rfl
 unfold clB
 simp only [SU,List.length_cons,List.length_nil,this,hc,Bool.and_self]
theorem call_Expr_bad (s:List UInt8) (hs:s.length<=40000) (h0:(toks s).2.2=0) (hT:TokOK (toks s).1) (n:Nat) {t:Nat} {c:Int} (h:wholeP (toks s).1 n 0=.bad t c):callL CC 22 [.str s] []=some (.ret (.tup [.agg (exC zT),.int .i64 (t:Int),.int .i64 c]),[]):=by
 rw [callL_cat (k:=catE) rfl rfl]
 have pbp:pureL [PV.bp 3 0]=false:=rfl
 have hcode:catE.code=fpart Tryz.f22 [1,1]:=rfl
 have hcp:catE.pre [.str s] []=some ⟨setT (envR s) 6 (.fn 47 [] [.bp 0 0,.bp 1 0,.bp 2 0]),[.cells 29 [.int .i64 0,.int .i64 0,.int .i64 0,.str [],.int .i64 0,.int .i64 0,.str [],.int .i64 0,.str [],.str [],.nils],.cells 3 [.int .i64 0],.cells 35 [.int .i64 0]]⟩:=rfl
 unfold runCat
 rw [hcp,hcode]
 have ht:=op_start_ok s hs h0 [.cells 29 [.int .i64 0,.int .i64 0,.int .i64 0,.str [],.int .i64 0,.int .i64 0,.str [],.int .i64 0,.str [],.str [],.nils],.cells 3 [.int .i64 0],.cells 35 [.int .i64 0]]
 have h1:=ans_whole (id:=3) (RL:=.nils) rfl hT hT.pos n 0 rfl
 rw [h] at h1
 obtain ⟨i',o',h1⟩:=h1
 have t1:=h1 _ (hasP3e _ 0 [.int .i64 0,.int .i64 0,.int .i64 0,.str [],.int .i64 0,.int .i64 0,.str [],.int .i64 0,.str [],.str [],.nils] (fun n=>by simp only [SU,Bool.and_self]))
 simp only [List.set_cons_succ,List.set_cons_zero] at t1
 have hz0:((0:Nat):Int)=0:=rfl
 have hev2:∃ (e':List PV),evL CC (fpart Tryz.f22 [1,1]) ⟨setT (envR s) 6 (.fn 47 [] [.bp 0 0,.bp 1 0,.bp 2 0]),[.cells 29 [.int .i64 0,.int .i64 0,.int .i64 0,.str [],.int .i64 0,.int .i64 0,.str [],.int .i64 0,.str [],.str [],.nils],.cells 3 [.int .i64 0],.cells 35 [.int .i64 0]]⟩=some (.pan (fltV t c),⟨e',[.cells 29 [.int .i64 0,.int .i64 0,.int .i64 0,.str [],.int .i64 0,.int .i64 0,.str [],.int .i64 0,.str [],.str [],.nils],.cells 3 [.int .i64 0],.cells 35 [.int .i64 0],PSR (toks s).1 i' o' .nils]⟩)∧getT e' 2=.bp 0 0∧getT e' 3=.bp 1 0∧getT e' 4=.bp 2 0:=by
  simp only [fpart,part',Tryz.f22,Option.getD]
  unfold PSR at t1 ht ⊢
  simp only [hz0] at t1 ht
  unfold envR
  obtain ⟨ev,eo,so,co,⟨hev,hco⟩,R⟩:=RULES CC;rw [<- hev]
  rw [<- hco] at ht t1
  simp only [S9,R,seval,PY,pbp,dynR,ht,t1]
  exact ⟨_,rfl,by simp only [S7,R,seval];try rfl,by simp only [S7,R,seval];try rfl,by simp only [S7,R,seval];try rfl⟩
 obtain ⟨e',he,k2,k3,k4⟩:=hev2
 simp only
 rw [he]
 exact postE_pan _ _ e' _ rfl rfl _ k2 k3 k4
theorem call_Expr_bad2 (s:List UInt8) (hs:s.length<=40000) (h0:(toks s).2.2=0) (hT:TokOK (toks s).1) (n:Nat) {a:Tr} {i:Nat} (h:wholeP (toks s).1 n 0=.ok a i) {t:Nat} {c:Int} (h2:oneP (toks s).1 0 i=.bad t c):callL CC 22 [.str s] []=some (.ret (.tup [.agg (exC zT),.int .i64 (t:Int),.int .i64 c]),[]):=by
 rw [callL_cat (k:=catE) rfl rfl]
 have pbp:pureL [PV.bp 3 0]=false:=rfl
 have hcode:catE.code=fpart Tryz.f22 [1,1]:=rfl
 have hcp:catE.pre [.str s] []=some ⟨setT (envR s) 6 (.fn 47 [] [.bp 0 0,.bp 1 0,.bp 2 0]),[.cells 29 [.int .i64 0,.int .i64 0,.int .i64 0,.str [],.int .i64 0,.int .i64 0,.str [],.int .i64 0,.str [],.str [],.nils],.cells 3 [.int .i64 0],.cells 35 [.int .i64 0]]⟩:=rfl
 unfold runCat
 rw [hcp,hcode]
 have ht:=op_start_ok s hs h0 [.cells 29 [.int .i64 0,.int .i64 0,.int .i64 0,.str [],.int .i64 0,.int .i64 0,.str [],.int .i64 0,.str [],.str [],.nils],.cells 3 [.int .i64 0],.cells 35 [.int .i64 0]]
 have h1:=ans_whole (id:=3) (RL:=.nils) rfl hT hT.pos n 0 rfl
 rw [h] at h1
 have hi:=(wholeP_lt hT hT.pos h).2
 have t1:=h1 _ (hasP3e _ 0 [.int .i64 0,.int .i64 0,.int .i64 0,.str [],.int .i64 0,.int .i64 0,.str [],.int .i64 0,.str [],.str [],.nils] (fun n=>by simp only [SU,Bool.and_self]))
 have h3:=ans_one (id:=3) (RL:=.nils) (o:=0) (i:=i) rfl hi hT 0 0 rfl
 rw [h2] at h3
 obtain ⟨i',o',h3⟩:=h3
 have t2:=h3 _ (hasP3e _ i (exC a) (fun n=>exC_under n a))
 simp only [List.set_cons_succ,List.set_cons_zero] at t1 t2
 rw [trV_exC] at t1
 have hz0:((0:Nat):Int)=0:=rfl
 have hev2:∃ (e':List PV) (r:List PBox),evL CC (fpart Tryz.f22 [1,1]) ⟨setT (envR s) 6 (.fn 47 [] [.bp 0 0,.bp 1 0,.bp 2 0]),[.cells 29 [.int .i64 0,.int .i64 0,.int .i64 0,.str [],.int .i64 0,.int .i64 0,.str [],.int .i64 0,.str [],.str [],.nils],.cells 3 [.int .i64 0],.cells 35 [.int .i64 0]]⟩=some (.pan (fltV t c),⟨e',.cells 29 (exC a) :: .cells 3 [.int .i64 0] :: .cells 35 [.int .i64 0] :: r⟩)∧getT e' 2=.bp 0 0∧getT e' 3=.bp 1 0∧getT e' 4=.bp 2 0:=by
  simp only [fpart,part',Tryz.f22,Option.getD]
  unfold PSR at t1 t2 ht
  simp only [hz0] at t1 t2 ht
  unfold envR
  obtain ⟨ev,eo,so,co,⟨hev,hco⟩,R⟩:=RULES CC;rw [<- hev]
  rw [<- hco] at ht t1 t2
  simp only [S9,R,seval,PY,pbp,dynR,ht,t1,t2,SX]
  exact ⟨_,_,rfl,by simp only [S7,R,seval];try rfl,by simp only [S7,R,seval];try rfl,by simp only [S7,R,seval];try rfl⟩
 obtain ⟨e',r,he,k2,k3,k4⟩:=hev2
 simp only
 rw [he]
 exact postE_pan _ _ e' _ (exC_len a) (exC_pure a) _ k2 k3 k4
theorem postE_ret (a:Tr) (e:List PV) (r:List PBox) (k2:getT e 2=.bp 0 0) (k3:getT e 3=.bp 1 0) (k4:getT e 4=.bp 2 0):catE.post (.ret,⟨e,.cells 29 (exC a) :: .cells 3 [.int .i64 0] :: .cells 35 [.int .i64 0] :: r⟩)=some (.ret (.tup [.agg (exC a),.int .i64 0,.int .i64 0]),[]):=by
 have h:okE 11 ⟨e,.cells 29 (exC a) :: .cells 3 [.int .i64 0] :: .cells 35 [.int .i64 0] :: r⟩=true:=by unfold okE;simp only [k2,k3,k4,exC_len,exC_pure];rfl
 show (if okE 11 ⟨e,.cells 29 (exC a) :: .cells 3 [.int .i64 0] :: .cells 35 [.int .i64 0] :: r⟩=true then some (CR.ret (.tup [finE (exC a),.int .i64 0,.int .i64 0]),([]:List PBox)) else none)=_
 rw [h]
 unfold finE
 rw [exC_ro]
 show some (CR.ret (.tup [.agg ((exC a).map PV.seal1),_,_]),([]:List PBox))=_
 rw [exC_seal]
theorem call_Expr_ok2 (s:List UInt8) (hs:s.length<=40000) (h0:(toks s).2.2=0) (hT:TokOK (toks s).1) (n:Nat) {a:Tr} {i:Nat} (h:wholeP (toks s).1 n 0=.ok a i) {tk:Tk} {j:Nat} (h2:oneP (toks s).1 0 i=.ok tk j):callL CC 22 [.str s] []=some (.ret (.tup [.agg (exC a),.int .i64 0,.int .i64 0]),[]):=by
 rw [callL_cat (k:=catE) rfl rfl]
 have pbp:pureL [PV.bp 3 0]=false:=rfl
 have hcode:catE.code=fpart Tryz.f22 [1,1]:=rfl
 have hcp:catE.pre [.str s] []=some ⟨setT (envR s) 6 (.fn 47 [] [.bp 0 0,.bp 1 0,.bp 2 0]),[.cells 29 [.int .i64 0,.int .i64 0,.int .i64 0,.str [],.int .i64 0,.int .i64 0,.str [],.int .i64 0,.str [],.str [],.nils],.cells 3 [.int .i64 0],.cells 35 [.int .i64 0]]⟩:=rfl
 unfold runCat
 rw [hcp,hcode]
 have ht:=op_start_ok s hs h0 [.cells 29 [.int .i64 0,.int .i64 0,.int .i64 0,.str [],.int .i64 0,.int .i64 0,.str [],.int .i64 0,.str [],.str [],.nils],.cells 3 [.int .i64 0],.cells 35 [.int .i64 0]]
 have h1:=ans_whole (id:=3) (RL:=.nils) rfl hT hT.pos n 0 rfl
 rw [h] at h1
 have hi:=(wholeP_lt hT hT.pos h).2
 have t1:=h1 _ (hasP3e _ 0 [.int .i64 0,.int .i64 0,.int .i64 0,.str [],.int .i64 0,.int .i64 0,.str [],.int .i64 0,.str [],.str [],.nils] (fun n=>by simp only [SU,Bool.and_self]))
 have h3:=ans_one (id:=3) (RL:=.nils) (o:=0) (i:=i) rfl hi hT 0 0 rfl
 rw [h2] at h3
 skip
 have t2:=h3 _ (hasP3e _ i (exC a) (fun n=>exC_under n a))
 simp only [List.set_cons_succ,List.set_cons_zero] at t1 t2
 rw [trV_exC] at t1
 have hz0:((0:Nat):Int)=0:=rfl
 have hev2:∃ (e':List PV) (r:List PBox),evL CC (fpart Tryz.f22 [1,1]) ⟨setT (envR s) 6 (.fn 47 [] [.bp 0 0,.bp 1 0,.bp 2 0]),[.cells 29 [.int .i64 0,.int .i64 0,.int .i64 0,.str [],.int .i64 0,.int .i64 0,.str [],.int .i64 0,.str [],.str [],.nils],.cells 3 [.int .i64 0],.cells 35 [.int .i64 0]]⟩=some (.ret,⟨e',.cells 29 (exC a) :: .cells 3 [.int .i64 0] :: .cells 35 [.int .i64 0] :: r⟩)∧getT e' 2=.bp 0 0∧getT e' 3=.bp 1 0∧getT e' 4=.bp 2 0:=by
  simp only [fpart,part',Tryz.f22,Option.getD]
  unfold PSR at t1 t2 ht
  simp only [hz0] at t1 t2 ht
  unfold envR
  obtain ⟨ev,eo,so,co,⟨hev,hco⟩,R⟩:=RULES CC;rw [<- hev]
  rw [<- hco] at ht t1 t2
  simp only [S9,R,seval,PY,pbp,dynR,ht,t1,t2,SX]
  exact ⟨_,_,rfl,by simp only [S7,R,seval];try rfl,by simp only [S7,R,seval];try rfl,by simp only [S7,R,seval];try rfl⟩
 obtain ⟨e',r,he,k2,k3,k4⟩:=hev2
 simp only
 rw [he]
 exact postE_ret a e' r k2 k3 k4
theorem op_start_badE (s:List UInt8) (hs:s.length<=40000) (h0:(toks s).2.2≠0):callOp CC (callL CC) 48 [.str s] [.cells 29 [.int .i64 0,.int .i64 0,.int .i64 0,.str [],.int .i64 0,.int .i64 0,.str [],.int .i64 0,.str [],.str [],.nils],.cells 3 [.int .i64 0],.cells 35 [.int .i64 0]]=some (.pan (fltV (toks s).2.1 (toks s).2.2),[.cells 29 [.int .i64 0,.int .i64 0,.int .i64 0,.str [],.int .i64 0,.int .i64 0,.str [],.int .i64 0,.str [],.str [],.nils],.cells 3 [.int .i64 0],.cells 35 [.int .i64 0]]):=by
 unfold callOp
 rw [if_pos (show (CC.heap 48 || !pureL [PV.str s])=true from rfl),call_start_bad s hs h0 _]
 simp only
 unfold truncB
 split <;> rfl
theorem call_Expr_lex (s:List UInt8) (hs:s.length<=40000) (h0:(toks s).2.2≠0):callL CC 22 [.str s] []=some (.ret (.tup [.agg (exC zT),.int .i64 ((toks s).2.1:Int),.int .i64 (toks s).2.2]),[]):=by
 rw [callL_cat (k:=catE) rfl rfl]
 have pbp:pureL [PV.bp 3 0]=false:=rfl
 have hcode:catE.code=fpart Tryz.f22 [1,1]:=rfl
 have hcp:catE.pre [.str s] []=some ⟨setT (envR s) 6 (.fn 47 [] [.bp 0 0,.bp 1 0,.bp 2 0]),[.cells 29 [.int .i64 0,.int .i64 0,.int .i64 0,.str [],.int .i64 0,.int .i64 0,.str [],.int .i64 0,.str [],.str [],.nils],.cells 3 [.int .i64 0],.cells 35 [.int .i64 0]]⟩:=rfl
 unfold runCat
 rw [hcp,hcode]
 have ht:=op_start_badE s hs h0
 have hev2:∃ (e':List PV),evL CC (fpart Tryz.f22 [1,1]) ⟨setT (envR s) 6 (.fn 47 [] [.bp 0 0,.bp 1 0,.bp 2 0]),[.cells 29 [.int .i64 0,.int .i64 0,.int .i64 0,.str [],.int .i64 0,.int .i64 0,.str [],.int .i64 0,.str [],.str [],.nils],.cells 3 [.int .i64 0],.cells 35 [.int .i64 0]]⟩=some (.pan (fltV (toks s).2.1 (toks s).2.2),⟨e',[.cells 29 [.int .i64 0,.int .i64 0,.int .i64 0,.str [],.int .i64 0,.int .i64 0,.str [],.int .i64 0,.str [],.str [],.nils],.cells 3 [.int .i64 0],.cells 35 [.int .i64 0]]⟩)∧getT e' 2=.bp 0 0∧getT e' 3=.bp 1 0∧getT e' 4=.bp 2 0:=by
  simp only [fpart,part',Tryz.f22,Option.getD]
  unfold envR
  obtain ⟨ev,eo,so,co,⟨hev,hco⟩,R⟩:=RULES CC;rw [<- hev]
  rw [<- hco] at ht
  simp only [S9,R,seval,PY,pbp,dynR,ht]
  exact ⟨_,rfl,by simp only [S7,R,seval];try rfl,by simp only [S7,R,seval];try rfl,by simp only [S7,R,seval];try rfl⟩
 obtain ⟨e',he,k2,k3,k4⟩:=hev2
 simp only
 rw [he]
 exact postE_pan _ _ e' _ rfl rfl _ k2 k3 k4
end Go.HH
namespace Go.HH
open Go Go.Proofs
set_option maxRecDepth 100000
set_option linter.unusedVariables false
def rkN:NT->Nat
 | .expr=>10 | .chain true=>9 | .chain false=>8 | .chainL _ _=>1 | .not=>7 | .cmp=>6 | .sum=>5 | .sumL _=>1 | .prod=>4 | .prodL _=>1 | .un=>3 | .prim=>2
theorem bind_out {α β:Type} {r:PR α} {f:α->Nat->PR β} (h:r≠.out) (h2:∀ a i,r=.ok a i->f a i≠.out):r.bind f≠.out:=by
 cases r with
 | ok a i=>exact h2 a i rfl
 | bad t e=>intro e;cases e
 | out=>exact absurd rfl h
theorem mustP_out {L:List Tk} {k:Nat} {w:List UInt8} {i:Nat}:mustP L k w i≠.out:=by unfold mustP;split <;> (intro e;cases e)
theorem rk_opd (b:Bool):rkN (opdNT b)+1<=rkN (.chain b):=by cases b <;> decide
theorem rk_le (nt:NT):rkN nt<=10∧1<=rkN nt:=by
 cases nt with
 | chain b=>cases b <;> simp [rkN]
 | _=>simp [rkN]
theorem numP_out {L:List Tk} {lo hi i:Nat}:numP L lo hi i≠.out:=by
 unfold numP
 split
 · split <;> (intro e;cases e)
 · intro e;cases e
theorem nameP_out {L:List Tk} {i:Nat}:nameP L i≠.out:=by
 unfold nameP
 split
 · split <;> (intro e;cases e)
 · intro e;cases e
theorem oneP_out {L:List Tk} {k i:Nat}:oneP L k i≠.out:=by unfold oneP;split <;> (intro e;cases e)
theorem twoP_out {L:List Tk} {hi i:Nat}:twoP L hi i≠.out:=by
 unfold twoP
 split
 · intro e;cases e
 · exact numP_out
theorem pok_out {α:Type} {a:α} {i:Nat}:PR.ok a i≠.out:=fun e=>nomatch e
theorem pathP_out {L:List Tk} {i:Nat}:pathP L i≠.out:=bind_out numP_out fun _ _ _=>bind_out mustP_out fun _ _ _=>bind_out nameP_out fun _ _ _=>bind_out mustP_out fun _ _ _=>bind_out nameP_out fun _ _ _=>pok_out
theorem clockP_out {L:List Tk} {i:Nat}:clockP L i≠.out:=bind_out twoP_out fun _ _ _=>bind_out mustP_out fun _ _ _=>bind_out twoP_out fun _ _ _=>pok_out
theorem dayP_out {L:List Tk} {i:Nat}:dayP L i≠.out:=by unfold dayP;split <;> (intro e;cases e)
end Go.HH
namespace Go.HH
open Go Go.Proofs
set_option maxRecDepth 100000
set_option linter.unusedVariables false
theorem dayP_lt' {L:List Tk} (hT:TokOK L) {i a j:Nat} (hi:i < L.length) (h:dayP L i=.ok a j):i < j∧j < L.length:=by
 unfold dayP at h
 split at h
 · rename_i k hp
   obtain ⟨_,_,h4⟩:=pickW_lt hp
   have:=isT_lt hT hi h4 (by decide)
   injection h with _ h
   omega
 · cases h
theorem daysL_out {L:List Tk} (hT:TokOK L):∀ (n m i:Nat),i < L.length->L.length - i<=n->daysL L n m i≠.out:=by
 intro n
 induction n with
 | zero=>intro m i hi h;omega
 | succ n ih=>
  intro m i hi h
  rw [daysL]
  refine bind_out dayP_out fun k j hj=>?_
  have h1:=dayP_lt' hT hi hj
  split
  · rename_i hk
    have h2:=isT_lt hT h1.2 hk (by decide)
    exact ih _ _ h2 (by omega)
  · exact pok_out
theorem daysP_out {L:List Tk} (hT:TokOK L) {i:Nat} (hi:i < L.length):daysP L i≠.out:=daysL_out hT _ _ _ hi (by omega)
theorem condP_out {L:List Tk} (hT:TokOK L) {i:Nat} (hi:i < L.length):condP L i≠.out:=by
 unfold condP
 split
 · exact pok_out
 split
 · exact pok_out
 split
 · exact bind_out mustP_out fun _ _ _=>bind_out nameP_out fun _ _ _=>pok_out
 split
 · exact bind_out clockP_out fun _ _ _=>bind_out mustP_out fun _ _ _=>bind_out clockP_out fun _ _ _=>pok_out
 split
 · rename_i hk
   exact bind_out (daysP_out hT (isT_lt hT hi hk (by decide))) fun _ _ _=>pok_out
 split
 · split <;> exact pok_out
 · intro e;cases e
end Go.HH
namespace Go.HH
open Go Go.Proofs
set_option maxRecDepth 100000
set_option linter.unusedVariables false
theorem pz_out {L:List Tk} (hT:TokOK L):∀ (n:Nat) (nt:NT) (o i:Nat),i < L.length->12 * (L.length - i)+rkN nt<=n->pz L n nt o i≠.out:=by
 intro n
 induction n with
 | zero=>intro nt o i hi h;have:=rk_le nt;omega
 | succ n ih=>
  intro nt o i hi h
  have lt:=fun (nt:NT) (o i:Nat) (a:Tr) (j:Nat) hi (r:pz L n nt o i=.ok a j)=>pz_lt hT n nt o i a j hi r
  cases nt with
  | expr=>
   have hr:rkN .expr=10:=rfl
   have hr2:rkN (.chain true)=9:=rfl
   rw [pz]
   split
   · rename_i hk
     have h0:=isT_lt hT hi hk (by decide)
     split
     · refine bind_out (ih _ _ _ h0 (by omega)) fun _ i1 r1=>bind_out mustP_out fun _ i2 r2=>?_
       have h1:=lt _ _ _ _ _ h0 r1
       have h2:=mustP_lt hT h1.2 (by decide) r2
       refine bind_out (ih _ _ _ h2.2 (by omega)) fun _ i3 r3=>bind_out mustP_out fun _ i4 r4=>?_
       have h3:=lt _ _ _ _ _ h2.2 r3
       have h4:=mustP_lt hT h3.2 (by decide) r4
       exact bind_out (ih _ _ _ h4.2 (by omega)) fun _ _ _=>pok_out
     · intro e;cases e
   · exact ih _ _ _ hi (by omega)
  | chain b=>
   have hr:=rk_opd b
   have hr2:rkN (.chainL b [])=1:=rfl
   rw [pz]
   refine bind_out (ih _ _ _ hi (by omega)) fun a i1 r1=>?_
   have h1:=lt _ _ _ _ _ hi r1
   have hr3:rkN (.chainL b [a])=1:=rfl
   have hr4:=(rk_le (opdNT b)).2
   exact ih _ _ _ h1.2 (by omega)
  | chainL b acc=>
   have hr:rkN (.chainL b acc)=1:=rfl
   rw [pz]
   split
   · rename_i hk
     have h0:=isT_lt hT hi hk (by decide)
     split
     · intro e;cases e
     · have hr4:=(rk_le (opdNT b)).1
       refine bind_out (ih _ _ _ h0 (by omega)) fun a i1 r1=>?_
       have h1:=lt _ _ _ _ _ h0 r1
       have hr3:rkN (.chainL b (acc++[a]))=1:=rfl
       exact ih _ _ _ h1.2 (by omega)
   · exact pok_out
  | not=>
   have hr:rkN .not=7:=rfl
   have hr2:rkN .cmp=6:=rfl
   rw [pz]
   split
   · rename_i hk
     have h0:=isT_lt hT hi hk (by decide)
     split
     · exact bind_out (ih _ _ _ h0 (by omega)) fun _ _ _=>pok_out
     · intro e;cases e
   · exact ih _ _ _ hi (by omega)
  | cmp=>
   have hr:rkN .cmp=6:=rfl
   have hr2:rkN .sum=5:=rfl
   rw [pz]
   refine bind_out (ih _ _ _ hi (by omega)) fun a i1 r1=>?_
   have h1:=lt _ _ _ _ _ hi r1
   split
   · rename_i k hp
     obtain ⟨_,_,h4⟩:=pickW_lt hp
     have h0:=isT_lt hT h1.2 h4 (by decide)
     exact bind_out (ih _ _ _ h0 (by omega)) fun _ _ _=>pok_out
   · exact pok_out
  | sum=>
   have hr:rkN .sum=5:=rfl
   have hr2:rkN .prod=4:=rfl
   rw [pz]
   refine bind_out (ih _ _ _ hi (by omega)) fun a i1 r1=>?_
   have h1:=lt _ _ _ _ _ hi r1
   have hr3:rkN (.sumL a)=1:=rfl
   exact ih _ _ _ h1.2 (by omega)
  | sumL e=>
   have hr:rkN (.sumL e)=1:=rfl
   have hr2:rkN .prod=4:=rfl
   rw [pz]
   split
   · rename_i hk
     have h0:=isT_lt hT hi hk (by decide)
     refine bind_out (ih _ _ _ h0 (by omega)) fun a i1 r1=>?_
     have h1:=lt _ _ _ _ _ h0 r1
     have hr3:rkN (.sumL (nodT 11 [e,a]))=1:=rfl
     exact ih _ _ _ h1.2 (by omega)
   split
   · rename_i hk
     have h0:=isT_lt hT hi hk (by decide)
     refine bind_out (ih _ _ _ h0 (by omega)) fun a i1 r1=>?_
     have h1:=lt _ _ _ _ _ h0 r1
     have hr3:rkN (.sumL (nodT 12 [e,a]))=1:=rfl
     exact ih _ _ _ h1.2 (by omega)
   · exact pok_out
  | prod=>
   have hr:rkN .prod=4:=rfl
   have hr2:rkN .un=3:=rfl
   rw [pz]
   refine bind_out (ih _ _ _ hi (by omega)) fun a i1 r1=>?_
   have h1:=lt _ _ _ _ _ hi r1
   have hr3:rkN (.prodL a)=1:=rfl
   exact ih _ _ _ h1.2 (by omega)
  | prodL e=>
   have hr:rkN (.prodL e)=1:=rfl
   have hr2:rkN .un=3:=rfl
   rw [pz]
   split
   · rename_i hk
     have h0:=isT_lt hT hi hk (by decide)
     refine bind_out (ih _ _ _ h0 (by omega)) fun a i1 r1=>?_
     have h1:=lt _ _ _ _ _ h0 r1
     have hr3:rkN (.prodL (nodT 13 [e,a]))=1:=rfl
     exact ih _ _ _ h1.2 (by omega)
   · exact pok_out
  | un=>
   have hr:rkN .un=3:=rfl
   have hr2:rkN .prim=2:=rfl
   rw [pz]
   split
   · rename_i hk
     have h0:=isT_lt hT hi hk (by decide)
     split
     · exact pok_out
     split
     · exact bind_out (ih _ _ _ h0 (by omega)) fun _ _ _=>pok_out
     · intro e;cases e
   · exact ih _ _ _ hi (by omega)
  | prim=>
   have hr:rkN .prim=2:=rfl
   have hr2:rkN .expr=10:=rfl
   rw [pz]
   split
   · exact pok_out
   split
   · exact bind_out pathP_out fun _ _ _=>pok_out
   split
   · exact pok_out
   split
   · exact bind_out numP_out fun _ _ _=>pok_out
   split
   · rename_i hk
     have h0:=isT_lt hT hi hk (by decide)
     split
     · exact bind_out (ih _ _ _ h0 (by omega)) fun _ _ _=>bind_out mustP_out fun _ _ _=>pok_out
     · intro e;cases e
   · exact condP_out hT hi
end Go.HH
namespace Go.HH
open Go Go.Proofs
set_option maxRecDepth 100000
set_option linter.unusedVariables false
theorem bad_out {α:Type} {t:Nat} {e:Int}:(PR.bad t e:PR α)≠.out:=fun e=>nomatch e
def fuN (L:List Tk):Nat:=12 * L.length+10
theorem wholeP_out {L:List Tk} (hT:TokOK L) {i:Nat} (hi:i < L.length):wholeP L (fuN L) i≠.out:=by
 unfold wholeP
 refine bind_out (pz_out hT _ _ _ _ hi (by unfold fuN;have:rkN .expr=10:=rfl;omega)) fun a j _=>?_
 split
 · exact pok_out
 · exact bad_out
def exprA (s:List UInt8):Tr×Nat×Int:=if (toks s).2.2=0 then (match (wholeP (toks s).1 (fuN (toks s).1) 0).bind fun a i=>(oneP (toks s).1 0 i).bind fun _ j=>.ok a j with
 | .ok a _=>(a,0,0)
 | .bad t c=>(zT,t,c)
 | .out=>(zT,0,0)) else (zT,(toks s).2.1,(toks s).2.2)
end Go.HH
namespace Go.HH
open Go Go.Proofs
set_option maxRecDepth 100000
set_option linter.unusedVariables false
section
variable {f:Nat->Nat} {L:List Tk}
end
end Go.HH
namespace Go.HH
open Go Go.Proofs
set_option maxRecDepth 100000
set_option linter.unusedVariables false
def edgeT (x y:Tk):Prop:=(x.1=y.1∧x.2.1=y.2.1)∨(x.1=0∧y.1=4∧y.2.1=[41])
def edgeL (L M:List Tk) (s j:Nat):Prop:=∀ k,k<=j->edgeT (tokAt L k) (tokAt M (k+s))
theorem edgeL.mono {L M:List Tk} {s j j':Nat} (h:edgeL L M s j) (hj:j'<=j):edgeL L M s j':=fun k hk=>h k (Nat.le_trans hk hj)
section
variable {L M:List Tk} {s:Nat}
end
end Go.HH
namespace Go.HH
open Go Go.Proofs
set_option maxRecDepth 100000
set_option linter.unusedSimpArgs false
set_option linter.unusedVariables false
section
variable (p t:List UInt8)
end
section
variable (s t:List UInt8)
theorem toks_eq {s:List UInt8} (h:s.length<=20000):toks s=tk s (sk s 0) []:=by unfold toks;rw [if_neg (by omega)];rfl
end
end Go.HH
namespace Go.HH
open Go Go.Proofs
set_option maxRecDepth 100000
set_option linter.unusedSimpArgs false
set_option linter.unusedVariables false
theorem cutlen (s:List UInt8) (i k:Nat):((s.take k).drop i).length<=s.length:=by
 rw [List.length_drop,List.length_take];omega
theorem oneL_at {s:List UInt8} {i:Nat} {t:Tk} {k:Nat} (ho:oneL s i=.inl (t,k)):t.2.2=i∧(t.1=3∨t.2.1.length<=s.length):=by
 unfold oneL at ho
 simp only at ho
 split at ho
 · injection ho with ho
   injection ho with h1 h2
   subst h1
   exact ⟨rfl,.inr (cutlen s _ _)⟩
 · split at ho
   · split at ho
     · injection ho with ho
       injection ho with h1 h2
       subst h1
       exact ⟨rfl,.inr (cutlen s _ _)⟩
     · cases ho
   · split at ho
     · split at ho
       · injection ho with ho
         injection ho with h1 h2
         subst h1
         exact ⟨rfl,.inl rfl⟩
       · cases ho
     · split at ho
       · cases ho
       · injection ho with ho
         injection ho with h1 h2
         subst h1
         exact ⟨rfl,.inr (cutlen s _ _)⟩
theorem tk_at (s:List UInt8):∀ (d i:Nat) (acc:List Tk),s.length - i<=d->i<=s.length->(tk s i acc).2.1<=s.length∧∀ x ∈ (tk s i acc).1,x ∈ acc∨(x.2.2<=s.length∧(x.1=3∨x.2.1.length<=s.length)):=by
 have hend:∀ i acc,i<=s.length->¬ i < s.length->(tk s i acc).2.1<=s.length∧∀ x ∈ (tk s i acc).1,x ∈ acc∨(x.2.2<=s.length∧(x.1=3∨x.2.1.length<=s.length)):=fun i acc h hc=>by
  rw [tk_eq _ h,if_neg hc]
  refine ⟨Nat.zero_le _,fun x hx=>?_⟩
  rcases List.mem_append.1 hx with hx | hx
  · exact .inl hx
  · rw [List.mem_singleton] at hx
    subst hx
    exact .inr ⟨Nat.le_refl _,.inr (Nat.zero_le _)⟩
 intro d
 induction d with
 | zero=>intro i acc h hl;exact hend i acc hl (by omega)
 | succ d ih=>
  intro i acc h hl
  by_cases c:i < s.length
  · rw [tk_eq _ hl,if_pos c]
    split
    · exact ⟨hl,fun x hx=>by cases hx⟩
    · cases ho:oneL s i with
      | inr e=>exact ⟨hl,fun x hx=>by cases hx⟩
      | inl y=>
       obtain ⟨x,k⟩:=y
       have hbd:=oneL_bd c ho
       have hle:=sk_le hbd.2
       obtain ⟨g1,g2⟩:=oneL_at ho
       obtain ⟨f1,f2⟩:=ih (sk s k) (acc++[x]) (by omega) hle.2
       refine ⟨f1,fun z hz=>?_⟩
       rcases f2 z hz with hz | hz
       · rcases List.mem_append.1 hz with hz | hz
         · exact .inl hz
         · rw [List.mem_singleton] at hz
           subst hz
           exact .inr ⟨by omega,g2⟩
       · exact .inr hz
  · exact hend i acc hl c
theorem toks_at (s:List UInt8) (hs:s.length<=20000):(toks s).2.1<=s.length∧∀ x ∈ (toks s).1,x.2.2<=s.length∧(x.1=3∨x.2.1.length<=s.length):=by
 rw [toks_eq hs]
 have hle:=sk_le (s:=s) (i:=0) (by omega)
 obtain ⟨h1,h2⟩:=tk_at s s.length (sk s 0) [] (by omega) hle.2
 exact ⟨h1,fun x hx=>(h2 x hx).resolve_left (fun h=>by cases h)⟩
theorem chain_good:∀ {r:List Tk},chainT r->∀ x ∈ r,goodT x
 | [],_,_,h=>by cases h
 | y :: r,hc,x,h=>by
  rcases List.mem_cons.1 h with rfl | h
  · exact hc.1
  · exact chain_good hc.2.2 x h
theorem numR_amt:∀ (w:List UInt8) (n:Nat),n<=1099511627776->(numR w n).isSome=true->amtN w n<=1099511627776
 | [],n,h,_=>h
 | c :: r,n,h,hs=>by
  unfold numR at hs
  split at hs
  · cases hs
  · rename_i h1
    exact numR_amt r (10 * n+(c.toNat - 48)) (by omega) hs
theorem tokAt_mem {L:List Tk} (i:Nat):tokAt L i ∈ L∨tokAt L i=(0,[],0):=by
 unfold tokAt
 rw [List.getD_eq_getElem?_getD]
 cases h:L[i]? with
 | none=>exact .inr rfl
 | some x=>exact .inl (List.mem_of_getElem? h)
theorem toks_shape (s:List UInt8) (hs:s.length<=20000) (h0:(toks s).2.2=0):∃ r,toks s=(r++[(0,[],s.length)],0,0)∧chainT r∧r.length<=s.length:=by
 have hle:=sk_le (s:=s) (i:=0) (by omega)
 rw [toks_eq (by omega)] at h0 ⊢
 obtain ⟨r,g1,g2,g3,g4,_⟩:=toks_good s s.length (sk s 0) [] (by omega) hle.2 (sk_idem s _ 0 (Nat.le_refl _) (by omega)) h0
 rw [List.nil_append] at g1
 exact ⟨r,g1,g2,by omega⟩
theorem TokOK_of {s:List UInt8} (hs:s.length<=20000) {r:List Tk} (h:toks s=(r++[(0,[],s.length)],0,0)) (hc:chainT r) (hr:r.length<=s.length):TokOK (r++[(0,[],s.length)]):=by
 have hat:=(toks_at s (by omega)).2
 rw [h] at hat
 have hlen:(r++[(0,[],s.length)]).length=r.length+1:=by rw [List.length_append];rfl
 have hg:=chain_good hc
 have hgood:∀ x ∈ r++[(0,[],s.length)],x.1=0∧x.2.1=[]∨goodT x:=fun x hx=>by
  rcases List.mem_append.1 hx with hx | hx
  · exact .inr (hg x hx)
  · rw [List.mem_singleton] at hx
    subst hx
    exact .inl ⟨rfl,rfl⟩
 have hall:∀ i,tokAt (r++[(0,[],s.length)]) i=(0,[],0)∨(tokAt (r++[(0,[],s.length)]) i ∈ r++[(0,[],s.length)]):=fun i=>(tokAt_mem i).symm
 have hl:(r++[((0,[],s.length):Tk)]).length<=4001:=by have:=toks_len s;rw [h] at this;exact this
 refine ⟨hl,by omega,?_,fun i hi=>?_,fun i=>?_,fun i=>?_,fun i h3=>?_,fun i h2=>?_⟩
 · rw [hlen]
   unfold tokAt
   rw [List.getD_eq_getElem?_getD,List.getElem?_append_right (by omega),show r.length+1 - 1 - r.length=0 from by omega]
   rfl
 · have hi2:i < r.length:=by omega
   have:tokAt (r++[(0,[],s.length)]) i ∈ r:=by
    unfold tokAt
    rw [List.getD_eq_getElem?_getD,List.getElem?_append_left hi2,List.getElem?_eq_getElem hi2]
    exact List.getElem_mem hi2
   rcases hg _ this with h | h | h | h <;> (rw [h.1];decide)
 · unfold atT
   rcases hall i with h | h
   · rw [h];exact Nat.zero_le _
   · have:=(hat _ h).1;omega
 · rcases hall i with h | h
   · rw [h];exact Nat.zero_le _
   · rcases (hat _ h).2 with h3 | h3
     · rcases hgood _ h with h4 | h4 | h4 | h4 | h4
       · rw [h4.2];exact Nat.zero_le _
       · rw [h4.1] at h3;cases h3
       · rw [h4.1] at h3;cases h3
       · omega
       · rw [h4.1] at h3;cases h3
     · omega
 · rcases hall i with h | h
   · rw [h] at h3;cases h3
   · rcases hgood _ h with h4 | h4 | h4 | h4 | h4
     · rw [h4.1] at h3;cases h3
     · rw [h4.1] at h3;cases h3
     · rw [h4.1] at h3;cases h3
     · exact h4.2
     · rw [h4.1] at h3;cases h3
 · rcases hall i with h | h
   · rw [h] at h2;cases h2
   · rcases hgood _ h with h4 | h4 | h4 | h4 | h4
     · rw [h4.1] at h2;cases h2
     · rw [h4.1] at h2;cases h2
     · refine ⟨fun b hb=>?_,numR_amt _ 0 (by omega) h4.2.2.2⟩
       have:=h4.2.2.1 b hb
       unfold dg at this
       simpa using this
     · rw [h4.1] at h2;cases h2
     · rw [h4.1] at h2;cases h2
theorem toks_TokOK (s:List UInt8) (hs:s.length<=20000) (h0:(toks s).2.2=0):TokOK (toks s).1:=by
 obtain ⟨r,h1,h2,h3⟩:=toks_shape s hs h0
 have:=TokOK_of hs h1 h2 h3
 rw [h1]
 exact this
theorem exC_agg (t:Tr):PV.agg (exC t)=trV t:=by
 cases t with
 | mk k n m s v q kids=>rw [exC_mk];unfold trV;rfl
theorem op_parse_Expr (s:List UInt8) (hs:s.length<=20000) (bx:List PBox):callOp CC (callL CC) 22 [.str s] bx=some (.ret (.tup [trV (exprA s).1,.int .i64 ((exprA s).2.1:Int),.int .i64 (exprA s).2.2]),bx):=by
 have h:callL CC 22 [.str s] []=some (.ret (.tup [trV (exprA s).1,.int .i64 ((exprA s).2.1:Int),.int .i64 (exprA s).2.2]),[]):=by
  unfold exprA
  by_cases h0:(toks s).2.2=0
  · rw [if_pos h0]
    have hT:=toks_TokOK s hs h0
    have hw:=wholeP_out hT hT.pos
    cases hr:wholeP (toks s).1 (fuN (toks s).1) 0 with
    | out=>exact absurd hr hw
    | bad t c=>
     rw [call_Expr_bad s (by omega) h0 hT _ hr,exC_agg]
     rfl
    | ok a i=>
     simp only [PR.bind]
     cases h2:oneP (toks s).1 0 i with
     | out=>exact absurd h2 oneP_out
     | bad t c=>
      rw [call_Expr_bad2 s (by omega) h0 hT _ hr h2,exC_agg]
     | ok tk j=>
      rw [call_Expr_ok2 s (by omega) h0 hT _ hr h2,exC_agg]
      rfl
  · rw [if_neg h0,call_Expr_lex s (by omega) h0,exC_agg]
 refine callOp_of rfl (by simp only [SA,Bool.and_true]) h ?_
 simp only [PV.pure,pureL,trV_pure,Bool.and_true]
end Go.HH
namespace Go.HH
open Go Go.Proofs
set_option maxRecDepth 100000
set_option linter.unusedSimpArgs false
set_option linter.unusedVariables false
def pzF (L:List Tk) (P:NT->Nat->Nat->PR Tr):NT->Nat->Nat->PR Tr
 | .expr,o,i=>if isT L 1 [105,102] i then
  (if o < 100 then (P .expr (o+1) (i+1)).bind fun c i=>(mustP L 1 [116,104,101,110] i).bind fun _ i=>(P .expr (o+1) i).bind fun a i=>(mustP L 1 [101,108,115,101] i).bind fun _ i=>(P .expr (o+1) i).bind fun b i=>.ok (nodT 14 [c,a,b]) i
  else .bad (atT L i) 22) else P (.chain true) o i
 | .chain b,o,i=>(P (opdNT b) o i).bind fun a i=>P (.chainL b [a]) o i
 | .chainL b acc,o,i=>if isT L 1 (chW b) i then (if acc.length=8 then .bad (atT L i) 3 else (P (opdNT b) o (i+1)).bind fun a i=>P (.chainL b (acc++[a])) o i) else .ok (chT b acc) i
 | .not,o,i=>if isT L 1 [110,111,116] i then (if o < 100 then (P .not (o+1) (i+1)).bind fun e i=>.ok (nodT 6 [e]) i else .bad (atT L i) 22) else P .cmp o i
 | .cmp,o,i=>(P .sum o i).bind fun a i=>match pickW L 4 i cmpWs 0 with
  | some k=>(P .sum o (i+1)).bind fun b i=>.ok (cmpT k a b) i
  | none=>.ok a i
 | .sum,o,i=>(P .prod o i).bind fun e i=>P (.sumL e) o i
 | .sumL e,o,i=>if isT L 4 [43] i then (P .prod o (i+1)).bind fun f i=>P (.sumL (nodT 11 [e,f])) o i else
  if isT L 4 [45] i then (P .prod o (i+1)).bind fun f i=>P (.sumL (nodT 12 [e,f])) o i else .ok e i
 | .prod,o,i=>(P .un o i).bind fun e i=>P (.prodL e) o i
 | .prodL e,o,i=>if isT L 4 [42] i then (P .un o (i+1)).bind fun f i=>P (.prodL (nodT 13 [e,f])) o i else .ok e i
 | .un,o,i=>if isT L 4 [45] i then
  (if plainB L (i+1) then .ok (litT 2 (-(amtN (tokAt L (i+1)).2.1 0:Int))) (i+2) else
  if o < 100 then (P .un (o+1) (i+1)).bind fun e i=>.ok (nodT 12 [litT 2 0,e]) i else .bad (atT L i) 22) else P .prim o i
 | .prim,o,i=>if plainB L i then .ok (litT 2 (amtN (tokAt L i).2.1 0:Int)) (i+1) else
  if (tokAt L i).1=2 then (pathP L i).bind fun k i=>.ok (.mk 2 0 0 [] zV k []) i else
  if (tokAt L i).1=3 then .ok (.mk 1 0 0 [] (4,0,(tokAt L i).2.1) zK []) (i+1) else
  if isT L 4 [35] i then (numP L 0 63 (i+1)).bind fun n i=>.ok (litT 3 n) i else
  if isT L 4 [40] i then (if o < 100 then (P .expr (o+1) (i+1)).bind fun e i=>(mustP L 4 [41] i).bind fun _ i=>.ok e i else .bad (atT L i) 22) else condP L i
theorem pz_F (L:List Tk) (n:Nat):∀ (nt:NT) (o i:Nat),pz L (n+1) nt o i=pzF L (pz L n) nt o i:=fun nt o i=>by cases nt <;> rfl
theorem bind_up {α β:Type} {x x':PR α} {f f':α->Nat->PR β} (h:x.bind f≠.out) (hx:x≠.out->x'=x) (hf:∀ a i,f a i≠.out->f' a i=f a i):x'.bind f'=x.bind f:=by
 cases x with
 | ok a i=>rw [hx (fun e=>nomatch e)];exact hf a i h
 | bad t e=>rw [hx (fun e=>nomatch e)];rfl
 | out=>exact absurd rfl h
theorem pzF_up {L:List Tk} {P Q:NT->Nat->Nat->PR Tr} (U:∀ nt o i,P nt o i≠.out->Q nt o i=P nt o i):∀ (nt:NT) (o i:Nat),pzF L P nt o i≠.out->pzF L Q nt o i=pzF L P nt o i:=fun nt o i h=>by
 have K:∀ {α:Type} {x:PR α},x≠.out->x=x:=fun _=>rfl
 have R:∀ {α β:Type} (f:α->Nat->PR β) (a:α) (i:Nat),f a i≠.out->f a i=f a i:=fun _ _ _ _=>rfl
 cases nt with
 | expr=>
  dsimp only [pzF] at h ⊢
  by_cases c:isT L 1 [105,102] i=true
  · rw [if_pos c] at h ⊢
    rw [if_pos c]
    by_cases d:o < 100
    · rw [if_pos d] at h ⊢
      rw [if_pos d]
      exact bind_up h (U _ _ _) fun a i h=>bind_up h (fun _=>rfl) fun _ i h=>bind_up h (U _ _ _) fun b i h=>bind_up h (fun _=>rfl) fun _ i h=>bind_up h (U _ _ _) (R _)
    · rw [if_neg d,if_neg d]
  · rw [if_neg c] at h ⊢
    rw [if_neg c]
    exact U _ _ _ h
 | chain b=>exact bind_up h (U _ _ _) fun a i h=>U _ _ _ h
 | chainL b acc=>
  dsimp only [pzF] at h ⊢
  by_cases c:isT L 1 (chW b) i=true
  · rw [if_pos c] at h ⊢
    rw [if_pos c]
    by_cases d:acc.length=8
    · rw [if_pos d,if_pos d]
    · rw [if_neg d] at h ⊢
      rw [if_neg d]
      exact bind_up h (U _ _ _) fun a i h=>U _ _ _ h
  · rw [if_neg c,if_neg c]
 | not=>
  dsimp only [pzF] at h ⊢
  by_cases c:isT L 1 [110,111,116] i=true
  · rw [if_pos c] at h ⊢
    rw [if_pos c]
    by_cases d:o < 100
    · rw [if_pos d] at h ⊢
      rw [if_pos d]
      exact bind_up h (U _ _ _) (R _)
    · rw [if_neg d,if_neg d]
  · rw [if_neg c] at h ⊢
    rw [if_neg c]
    exact U _ _ _ h
 | cmp=>
  refine bind_up h (U _ _ _) fun a i h=>?_
  cases c:pickW L 4 i cmpWs 0 with
  | none=>rfl
  | some k=>
   rw [c] at h
   exact bind_up h (U _ _ _) (R _)
 | sum=>exact bind_up h (U _ _ _) fun a i h=>U _ _ _ h
 | sumL e=>
  dsimp only [pzF] at h ⊢
  by_cases c:isT L 4 [43] i=true
  · rw [if_pos c] at h ⊢
    rw [if_pos c]
    exact bind_up h (U _ _ _) fun a i h=>U _ _ _ h
  · rw [if_neg c] at h ⊢
    rw [if_neg c]
    by_cases d:isT L 4 [45] i=true
    · rw [if_pos d] at h ⊢
      rw [if_pos d]
      exact bind_up h (U _ _ _) fun a i h=>U _ _ _ h
    · rw [if_neg d,if_neg d]
 | prod=>exact bind_up h (U _ _ _) fun a i h=>U _ _ _ h
 | prodL e=>
  dsimp only [pzF] at h ⊢
  by_cases c:isT L 4 [42] i=true
  · rw [if_pos c] at h ⊢
    rw [if_pos c]
    exact bind_up h (U _ _ _) fun a i h=>U _ _ _ h
  · rw [if_neg c,if_neg c]
 | un=>
  dsimp only [pzF] at h ⊢
  by_cases c:isT L 4 [45] i=true
  · rw [if_pos c] at h ⊢
    rw [if_pos c]
    by_cases d:plainB L (i+1)=true
    · rw [if_pos d,if_pos d]
    · rw [if_neg d] at h ⊢
      rw [if_neg d]
      by_cases d:o < 100
      · rw [if_pos d] at h ⊢
        rw [if_pos d]
        exact bind_up h (U _ _ _) (R _)
      · rw [if_neg d,if_neg d]
  · rw [if_neg c] at h ⊢
    rw [if_neg c]
    exact U _ _ _ h
 | prim=>
  dsimp only [pzF] at h ⊢
  by_cases c1:plainB L i=true
  · rw [if_pos c1,if_pos c1]
  rw [if_neg c1] at h ⊢
  rw [if_neg c1]
  by_cases c2:(tokAt L i).1=2
  · rw [if_pos c2,if_pos c2]
  rw [if_neg c2] at h ⊢
  rw [if_neg c2]
  by_cases c3:(tokAt L i).1=3
  · rw [if_pos c3,if_pos c3]
  rw [if_neg c3] at h ⊢
  rw [if_neg c3]
  by_cases c4:isT L 4 [35] i=true
  · rw [if_pos c4,if_pos c4]
  rw [if_neg c4] at h ⊢
  rw [if_neg c4]
  by_cases c5:isT L 4 [40] i=true
  · rw [if_pos c5] at h ⊢
    rw [if_pos c5]
    by_cases d:o < 100
    · rw [if_pos d] at h ⊢
      rw [if_pos d]
      exact bind_up h (U _ _ _) (R _)
    · rw [if_neg d,if_neg d]
  · rw [if_neg c5,if_neg c5]
theorem pz_up {L:List Tk}:∀ (n:Nat) (nt:NT) (o i:Nat),pz L n nt o i≠.out->pz L (n+1) nt o i=pz L n nt o i
 | 0,_,_,_,h=>absurd rfl h
 | n+1,nt,o,i,h=>by
  rw [pz_F L n] at h
  rw [pz_F L (n+1),pz_F L n]
  exact pzF_up (fun nt o i h=>pz_up n nt o i h) nt o i h
theorem pz_le {L:List Tk} {n:Nat} {nt:NT} {o i:Nat} (h:pz L n nt o i≠.out):∀ k,pz L (n+k) nt o i=pz L n nt o i
 | 0=>rfl
 | k+1=>by
  have ih:=pz_le h k
  rw [<- Nat.add_assoc,pz_up (n+k) nt o i (by rw [ih];exact h),ih]
theorem rd_fu {L:List Tk} (hT:TokOK L) {i j:Nat} {e:Tr} (hi:i < L.length) (h:Rd L .expr 0 i e j):pz L (fuN L) .expr 0 i=.ok e j:=by
 obtain ⟨m,h⟩:=h
 have ho:=pz_out hT (fuN L) .expr 0 i hi (by show 12 * (L.length - i)+10<=12 * L.length+10;omega)
 have h1:=pz_le ho m
 rw [<- h1]
 exact h _ (by omega)
theorem exprA_TX {e:Tr} (hc:ckT e=0) (h0:(toks (TX e)).2.2=0):exprA (TX e)=(e,0,0)∧(TX e).length<=20000:=by
 obtain ⟨ts,x1,x2,_,_⟩:=(rb_ck hc).1.le (Nat.zero_le _) (Nat.le_refl _)
 obtain ⟨us,e1,e2,hl⟩:=toks_lx x1 h0
 have hT:=toks_TokOK (TX e) hl h0
 refine ⟨?_,hl⟩
 have hon:onT (toks (TX e)).1 0 (ts++[(0,[])]):=by
  rw [e2]
  unfold onT
  rw [List.drop_zero,List.map_append,e1]
  rfl
 have hr:=x2 _ 0 0 _ hon (by decide) (by decide)
 have hp:=rd_fu hT hT.pos hr
 rw [Nat.zero_add] at hp
 have hk:(tokAt (toks (TX e)).1 ts.length).1=0:=by
  have:=onT_app hon
  rw [Nat.zero_add] at this
  exact knd_on this
 unfold exprA
 rw [if_pos h0]
 have hw:wholeP (toks (TX e)).1 (fuN (toks (TX e)).1) 0=.ok e ts.length:=by
  unfold wholeP
  rw [hp,bnd_ok,if_pos hc]
 rw [hw,bnd_ok]
 unfold oneP
 rw [if_pos hk,bnd_ok]
end Go.HH
namespace Go.HH
open Go Go.Proofs
set_option maxRecDepth 100000
set_option maxHeartbeats 4000000
set_option linter.unusedSimpArgs false
set_option linter.unusedVariables false
def RSm (t:Tr):Prop:=∃ bx,callL CC 23 [trV t,trV t] []=some (.ret (.bool true),bx)
theorem op_Sm {t:Tr} (h:RSm t) (bx):callOp CC (callL CC) 23 [trV t,trV t] bx=some (.ret (.bool true),bx):=by
 obtain ⟨q,hq⟩:=h
 exact callOp_of rfl (by simp only [pureL_cons,trV_pure,pureL_nil,Bool.and_self]) hq rfl
theorem loop_Sm (L:Code) (hL:L=fpart Tryz.f23 [1,1,0,1,0]) (a0 a1 a2 a3 a4 a5 a6 a7 a8 a9:PV) (l:List Tr) (hl:l.length<=12) (hk:∀ t ∈ l,RSm t):∀ (k i:Nat) (e:List PV),i+k=l.length->getT e 2=.bp 0 0->getT e 3=.bp 1 0->getT e 5=.int .i64 i->∃ e' bx',evL CC L ⟨e,[.cells 29 [a0,a1,a2,a3,a4,a5,a6,a7,a8,a9,.sl (trVs l)],.cells 29 [a0,a1,a2,a3,a4,a5,a6,a7,a8,a9,.sl (trVs l)]]⟩=some (.exit 0,⟨e',bx'⟩):=by
 intro k
 induction k with
 | zero=>
  intro i e hi0 e2 e3 e5
  rw [evL_at (fpart Tryz.f23 [1,1,0,1,0,0]) hL]
  have hi:¬ ((i:Int) < (l.length:Int)):=by omega
  have hln:=trVs_length l
  generalize trVs l=xs at *
  obtain ⟨ev,eo,so,co,⟨hev,hco⟩,R⟩:=RULES CC;rw [<- hev]
  simp only [fpart,part',Tryz.f23,Option.getD]
  simp only [S9,R,seval,nchP,dynR,eqgV,eqgK,Bool.not_not,e2,e3,e5,hln,hi]
  exact ⟨_,_,rfl⟩
 | succ k ih=>
  intro i e hi0 e2 e3 e5
  rw [evL_at (fpart Tryz.f23 [1,1,0,1,0,0]) hL]
  have hi:((i:Int) < (l.length:Int)):=by omega
  have hi0':¬ ((i:Int) < 0):=by omega
  have hx:l[i]?=some (l[i]'(by omega)):=by simp
  have hst:RSm (l[i]'(by omega)):=hk _ (List.getElem_mem _)
  generalize l[i]'(by omega)=x at *
  have hx':=trVs_get hx
  have hln:=trVs_length l
  have hw1:=wrap_i64 (n:=(i:Int)+1) ⟨by omega,by omega⟩
  have key:=fun e=>ih (i+1) e (by omega)
  have cast1:((i+1:Nat):Int)=(i:Int)+1:=by omega
  rw [cast1] at key
  have hop:=op_Sm hst
  obtain ⟨xk,xn,xm,xnm,xv,xkey,xkids⟩:=x
  unfold trV at hx' hop
  have hpy:=trVs_pure xkids
  generalize trVs xkids=ys at *
  generalize trVs l=xs at *
  obtain ⟨ev,eo,so,co,⟨hev,hco⟩,R⟩:=RULES CC;rw [<- hev]
  rw [<- hev] at key
  rw [<- hco] at hop
  simp only [fpart,part',Tryz.f23,Option.getD]
  simp only [S9,R,seval,nchP,dynR,eqgV,eqgK,Bool.not_not,e2,e3,e5,hln,hi,hi0',hx',hw1,hop,hpy,PV.pure,pureL]
  refine key _ ?_ ?_ ?_
  all_goals simp only [S7,R,seval,e2,e3,e5]
theorem node_Sm (k n m:Int) (nm:List UInt8) (v:Vl) (key:Ky) (kids:List Tr) (hl12:kids.length<=12) (hk:∀ t ∈ kids,RSm t):RSm (.mk k n m nm v key kids):=by
 obtain ⟨vk,vn,vs⟩:=v
 obtain ⟨dv,cl,at_⟩:=key
 have h1:∀ z:Int,(z != z)=false:=fun z=>by simp
 have h4:strP .neq nm nm=some (.bool false):=by rw [strP_neq];simp
 have h5:eqP CC 100 24 (.agg [.int .i64 vk,.int .i64 vn,.str vs]) (.agg [.int .i64 vk,.int .i64 vn,.str vs])=some true:=by rw [eqVP];simp
 have h6:eqP CC 100 26 (.agg [.int .i64 dv,.str cl,.str at_]) (.agg [.int .i64 dv,.str cl,.str at_])=some true:=by rw [eqKP];simp
 have hln:=trVs_length kids
 have hloop:=fun L hL a0 a1 a2 a3 a4 a5 a6 a7 a8 a9 e=>loop_Sm L hL a0 a1 a2 a3 a4 a5 a6 a7 a8 a9 kids hl12 hk kids.length 0 e (by omega)
 unfold RSm trV
 generalize trVs kids=xs at *
 rw [callL_enter (fn:=Tryz.f23) (c:=Tryz.f23.body.getD .skip) rfl rfl fat_R28_Same rfl ok_R28_Same (Nat.le_of_ble_eq_true rfl)]
 obtain ⟨ev,eo,so,co,⟨hev,hco⟩,R⟩:=RULES CC;rw [<- hev]
 rw [<- hev] at hloop
 simp only [fpart,part',Tryz.f23,Option.getD]
 simp only [S9,R,seval,nchP,dynR,eqgV,eqgK,Bool.not_not,h1,h4,h5,h6]
 generalize hE:ev (Code.loop _) _=z
 have hP:∃ e' bx',z=some (.exit 0,⟨e',bx'⟩):=by
  rw [<- hE]
  refine hloop _ rfl _ _ _ _ _ _ _ _ _ _ _ ?_ ?_ ?_
  all_goals first | (simp only [S7,R,seval];done) | (simp only [S7,R,seval] <;> rfl)
 obtain ⟨e',bx',he⟩:=hP
 subst he
 simp only [S8,R,seval]
 exact ⟨_,rfl⟩
mutual
theorem call_Sm (t:Tr) (hs:shT t):RSm t:=by
 match t,hs with
 | .mk k n m nm v key kids,hs=>
  have h2:shTs kids:=by unfold shT at hs;exact hs.2
  exact node_Sm k n m nm v key kids (by unfold shT at hs;exact hs.1.2.2.2.2) (calls_Sm kids h2)
theorem calls_Sm (l:List Tr) (hs:shTs l):∀ t ∈ l,RSm t:=by
 match l,hs with
 | [],_=>intro t ht;simp at ht
 | x :: r,hs=>
  intro t ht
  unfold shTs at hs
  rcases List.mem_cons.1 ht with h | h
  · rw [h];exact call_Sm x hs.1
  · exact calls_Sm r hs.2 t h
end
theorem op_Same_refl (t:Tr) (hs:shT t) (bx):callOp CC (callL CC) 23 [trV t,trV t] bx=some (.ret (.bool true),bx):=op_Sm (call_Sm t hs) bx
end Go.HH
namespace Go.HH
open Go Go.Proofs
set_option maxRecDepth 100000
set_option maxHeartbeats 4000000
set_option linter.unusedSimpArgs false
set_option linter.unusedVariables false
theorem ok_print_kid:fnOK CC Tryz.f69 (Tryz.f69.body.getD .skip)=true:=by kernel_rfl
theorem fat_print_kid:CC.P.funcs[69]?=some Tryz.f69:=by kernel_rfl
theorem ok_print_pair:fnOK CC Tryz.f72 (Tryz.f72.body.getD .skip)=true:=by kernel_rfl
theorem fat_print_pair:CC.P.funcs[72]?=some Tryz.f72:=by kernel_rfl
theorem ok_print_row:fnOK CC Tryz.f70 (Tryz.f70.body.getD .skip)=true:=by kernel_rfl
theorem fat_print_row:CC.P.funcs[70]?=some Tryz.f70:=by kernel_rfl
theorem ok_print_minus:fnOK CC Tryz.f73 (Tryz.f73.body.getD .skip)=true:=by kernel_rfl
theorem fat_print_minus:CC.P.funcs[73]?=some Tryz.f73:=by kernel_rfl
theorem ok_print_negated:fnOK CC Tryz.f71 (Tryz.f71.body.getD .skip)=true:=by kernel_rfl
theorem fat_print_negated:CC.P.funcs[71]?=some Tryz.f71:=by kernel_rfl
theorem ok_print_text:fnOK CC Tryz.f37 (Tryz.f37.body.getD .skip)=true:=by kernel_rfl
theorem fat_print_text:CC.P.funcs[37]?=some Tryz.f37:=by kernel_rfl
def TXc (t:Tr):Prop:=∀ bx,callOp CC (callL CC) 37 [trV t] bx=some (.ret (.tup [.str (TX t),.int .i64 (LV t)]),bx)
theorem kdS_len (a:At) (least:Int):(kdS a least).length<=a.s.length+2:=by
 unfold kdS
 split <;> (try simp only [cat_len,List.length_singleton]) <;> omega
theorem call_kid (t:Tr) (h:TXc t) (hl:(TX t).length<=200000) (least:Int):∃ bx,callL CC 69 [trV t,.int .i64 least] []=some (.ret (.str (kdS (an t) least)),bx):=by
 unfold TXc at h
 have e1:TX t=(an t).s:=rfl
 have e2:LV t=(an t).lv:=rfl
 rw [e1] at hl
 rw [e1,e2] at h
 unfold kdS
 generalize (an t).s=s at *
 generalize (an t).lv=lv at *
 have c1:=catA (a:=[40]) (b:=s) (by simp only [List.length_singleton];omega)
 have c2:=catA (a:=cat [40] s) (b:=[41]) (by simp only [cat_len,List.length_singleton];omega)
 obtain ⟨k,n,m,nm,v,key,kids⟩:=t
 unfold trV at h ⊢
 generalize trVs kids=xs at *
 rw [callL_enter (fn:=Tryz.f69) (c:=Tryz.f69.body.getD .skip) rfl rfl fat_print_kid rfl ok_print_kid (Nat.le_of_ble_eq_true rfl)]
 by_cases c:lv < least
 · rw [if_pos c]
   obtain ⟨ev,eo,so,co,⟨hev,hco⟩,R⟩:=RULES CC;rw [<- hev]
   rw [<- hco] at h
   simp only [fpart,part',Tryz.f69,Option.getD]
   simp only [S8,R,SG,seval,UT,SC,h,c1,c2,c]
   exact ⟨_,rfl⟩
 · rw [if_neg c]
   obtain ⟨ev,eo,so,co,⟨hev,hco⟩,R⟩:=RULES CC;rw [<- hev]
   rw [<- hco] at h
   simp only [fpart,part',Tryz.f69,Option.getD]
   simp only [S8,R,SG,seval,UT,SC,h,c1,c2,c]
   exact ⟨_,rfl⟩
theorem op_kid (t:Tr) (h:TXc t) (hl:(TX t).length<=200000) (least:Int) (bx):callOp CC (callL CC) 69 [trV t,.int .i64 least] bx=some (.ret (.str (kdS (an t) least)),bx):=by
 obtain ⟨c,hc⟩:=call_kid t h hl least
 exact callOp_of rfl (by simp only [pureL_cons,trV_pure,pureL_nil,pure_int,Bool.and_self]) hc rfl
theorem call_pair (t u:Tr) (h:TXc t) (h':TXc u) (hl:(TX t).length<=200000) (hl':(TX u).length<=200000) (l1 l2:Int) (op:List UInt8) (ho:op.length<=10) :
 ∃ bx,callL CC 72 [trV t,.int .i64 l1,.str op,trV u,.int .i64 l2] []=some (.ret (.str (prS (an t) l1 op (an u) l2)),bx):=by
 have o1:=op_kid t h hl l1
 have o2:=op_kid u h' hl' l2
 have k1:=kdS_len (an t) l1
 have k2:=kdS_len (an u) l2
 have e1:TX t=(an t).s:=rfl
 have e2:TX u=(an u).s:=rfl
 rw [e1] at hl
 rw [e2] at hl'
 unfold prS
 generalize kdS (an t) l1=s1 at *
 generalize kdS (an u) l2=s2 at *
 have c1:=catA (a:=s1) (b:=[32]) (by simp only [List.length_singleton];omega)
 have c2:=catA (a:=cat s1 [32]) (b:=op) (by simp only [cat_len,List.length_singleton];omega)
 have c3:=catA (a:=cat (cat s1 [32]) op) (b:=[32]) (by simp only [cat_len,List.length_singleton];omega)
 have c4:=catA (a:=cat (cat (cat s1 [32]) op) [32]) (b:=s2) (by simp only [cat_len,List.length_singleton];omega)
 have q1:=trVs_pure (kidsOf t)
 have q2:=trVs_pure (kidsOf u)
 clear e1 e2 h h' hl hl' k1 k2
 obtain ⟨k,n,m,nm,v,key,kids⟩:=t
 obtain ⟨k',n',m',nm',v',key',kids'⟩:=u
 unfold trV at o1 o2 ⊢
 unfold kidsOf at q1 q2
 simp only at q1 q2
 generalize trVs kids=xs at *
 generalize trVs kids'=ys at *
 rw [callL_enter (fn:=Tryz.f72) (c:=Tryz.f72.body.getD .skip) rfl rfl fat_print_pair rfl ok_print_pair (Nat.le_of_ble_eq_true rfl)]
 obtain ⟨ev,eo,so,co,⟨hev,hco⟩,R⟩:=RULES CC;rw [<- hev]
 rw [<- hco] at o1 o2
 simp only [fpart,part',Tryz.f72,Option.getD]
 simp only [S8,R,SG,seval,UT,SC,o1,o2,c1,c2,c3,c4,q1,q2]
 exact ⟨_,rfl⟩
theorem op_pair (t u:Tr) (h:TXc t) (h':TXc u) (hl:(TX t).length<=200000) (hl':(TX u).length<=200000) (l1 l2:Int) (op:List UInt8) (ho:op.length<=10) (bx) :
 callOp CC (callL CC) 72 [trV t,.int .i64 l1,.str op,trV u,.int .i64 l2] bx=some (.ret (.str (prS (an t) l1 op (an u) l2)),bx):=by
 obtain ⟨c,hc⟩:=call_pair t u h h' hl hl' l1 l2 op ho
 exact callOp_of rfl (by simp only [pureL_cons,trV_pure,pureL_nil,pure_int,pure_str,Bool.and_self]) hc rfl
end Go.HH
namespace Go.HH
open Go Go.Proofs
set_option maxRecDepth 100000
set_option maxHeartbeats 4000000
set_option linter.unusedSimpArgs false
set_option linter.unusedVariables false
theorem ss1 {α:Type} (a:List α) (x y:α):(a++[x]).set a.length y=a++[y]:=by simp
def PRo (bx:List PBox) (v:List UInt8) (res:Option (Ex×St)):Prop:=∃ e' ex,res=some (.exit 0,⟨e',bx++ex⟩)∧getT e' 7=.str v
theorem PRo.app {bx:List PBox} {x:PBox} {v:List UInt8} {res:Option (Ex×St)} (h:PRo (bx++[x]) v res):PRo bx v res:=by
 obtain ⟨e',ex,h⟩:=h
 refine ⟨e',[x]++ex,?_⟩
 rw [<- List.append_assoc]
 exact h
theorem loop_row (L:Code) (hL:L=fpart Tryz.f70 [1,1,0,1,0]) (l:List Tr) (hl:l.length<=1000) (op:List UInt8) (ho:op.length<=10) (least:Int) (hk:∀ t ∈ l,TXc t∧(TX t).length<=200000):∀ (k i:Nat) (acc:List UInt8) (e:List PV) (bx:List PBox),i+k=l.length->acc.length<=i * 200100 ->
 getT e 10=.sl (trVs l)->getT e 11=.int .i64 l.length->getT e 12=.int .i64 i->getT e 7=.str acc->getT e 1=.str op->getT e 2=.int .i64 least->PRo bx (rowS op least (ans (l.drop i)) i acc) (evL CC L ⟨e,bx⟩):=by
 intro k
 induction k with
 | zero=>
  intro i acc e bx hi0 hac e10 e11 e12 e7 e1 e2
  rw [evL_at (fpart Tryz.f70 [1,1,0,1,0,0]) hL]
  have hi:¬ ((i:Int) < (l.length:Int)):=by omega
  rw [List.drop_eq_nil_of_le (by omega)]
  unfold ans rowS
  generalize trVs l=xs at *
  obtain ⟨ev,eo,so,co,⟨hev,hco⟩,R⟩:=RULES CC;rw [<- hev]
  simp only [fpart,part',Tryz.f70,Option.getD]
  simp only [S9,R,seval,TRf,ss1,List.getElem?_concat_length,e10,e11,e12,e7,hi]
  exact ⟨_,[],by rw [List.append_nil],by simp only [S7,R,seval,e7]⟩
 | succ k ih=>
  intro i acc e bx hi0 hac e10 e11 e12 e7 e1 e2
  rw [evL_at (fpart Tryz.f70 [1,1,0,1,0,0]) hL]
  have hi:((i:Int) < (l.length:Int)):=by omega
  have hi0':¬ ((i:Int) < 0):=by omega
  have hdr:l.drop i=(l[i]'(by omega)) :: l.drop (i+1):=List.drop_eq_getElem_cons (by omega)
  have hx:=trVs_get (l:=l) (i:=i) (t:=l[i]'(by omega)) (List.getElem?_eq_getElem (by omega))
  have hlen:=trVs_length l
  have hw1:=wrap_i64 (n:=(i:Int)+1) ⟨by omega,by omega⟩
  obtain ⟨hc,hcl⟩:=hk (l[i]'(by omega)) (List.getElem_mem _)
  have key:=fun acc e bx h=>ih (i+1) acc e bx (by omega) h
  have cast1:((i+1:Nat):Int)=(i:Int)+1:=by omega
  rw [cast1] at key
  rw [hdr]
  unfold ans rowS
  generalize l[i]'(by omega)=x at *
  have o1:=op_kid x hc hcl least
  have kl:=kdS_len (an x) least
  have e0:TX x=(an x).s:=rfl
  rw [e0] at hcl
  clear hc e0
  generalize kdS (an x) least=ks at *
  have c1:=catA (a:=[32]) (b:=op) (by simp only [List.length_singleton];omega)
  have c2:=catA (a:=cat [32] op) (b:=[32]) (by simp only [cat_len,List.length_singleton];omega)
  have c3:=catA (a:=acc) (b:=cat (cat [32] op) [32]) (by simp only [cat_len,List.length_singleton];omega)
  generalize ans (l.drop (i+1))=rest at *
  obtain ⟨xk,xn,xm,xnm,xv,xkey,xkids⟩:=x
  unfold trV at hx o1
  generalize trVs l=xs at *
  generalize trVs xkids=ys at *
  clear hk ih hdr
  by_cases z:0 < i
  · have z1:((i:Int) > 0):=by omega
    rw [if_pos z]
    have c4:=catA (a:=cat acc (cat (cat [32] op) [32])) (b:=ks) (by simp only [cat_len,List.length_singleton];omega)
    have key:=fun e bx=>key (cat (cat acc (cat (cat [32] op) [32])) ks) e bx (by simp only [cat_len,List.length_singleton];omega)
    generalize rowS op least rest (i+1) (cat (cat acc (cat (cat [32] op) [32])) ks)=res at *
    apply PRo.app
    obtain ⟨ev,eo,so,co,⟨hev,hco⟩,R⟩:=RULES CC;rw [<- hev]
    rw [<- hev] at key
    rw [<- hco] at o1
    simp only [fpart,part',Tryz.f70,Option.getD]
    simp only [S9,R,seval,TRf,ss1,List.getElem?_concat_length,e10,e11,e12,e7,e1,e2,hi,hi0',hx,hlen,hw1,o1,c1,c2,c3,c4,z1]
    refine key _ _ ?_ ?_ ?_ ?_ ?_ ?_
    all_goals simp only [S7,R,seval,e10,e11,e12,e7,e1,e2]
  · have z1:¬ ((i:Int) > 0):=by omega
    rw [if_neg z]
    have c4:=catA (a:=acc) (b:=ks) (by omega)
    have key:=fun e bx=>key (cat acc ks) e bx (by simp only [cat_len];omega)
    generalize rowS op least rest (i+1) (cat acc ks)=res at *
    apply PRo.app
    obtain ⟨ev,eo,so,co,⟨hev,hco⟩,R⟩:=RULES CC;rw [<- hev]
    rw [<- hev] at key
    rw [<- hco] at o1
    simp only [fpart,part',Tryz.f70,Option.getD]
    simp only [S9,R,seval,TRf,ss1,List.getElem?_concat_length,e10,e11,e12,e7,e1,e2,hi,hi0',hx,hlen,hw1,o1,c4,z1]
    refine key _ _ ?_ ?_ ?_ ?_ ?_ ?_
    all_goals simp only [S7,R,seval,e10,e11,e12,e7,e1,e2]
theorem call_row (l:List Tr) (hl:l.length<=1000) (op:List UInt8) (ho:op.length<=10) (least:Int) (hk:∀ t ∈ l,TXc t∧(TX t).length<=200000):∃ bx,callL CC 70 [.sl (trVs l),.str op,.int .i64 least] []=some (.ret (.str (rowS op least (ans l) 0 [])),bx):=by
 have hloop:=fun e bx=>loop_row _ rfl l hl op ho least hk l.length 0 [] e bx (by omega) (by simp)
 have hlen:=trVs_length l
 rw [List.drop_zero] at hloop
 generalize rowS op least (ans l) 0 []=v at *
 clear hk
 rw [callL_enter (fn:=Tryz.f70) (c:=Tryz.f70.body.getD .skip) rfl rfl fat_print_row rfl ok_print_row (Nat.le_of_ble_eq_true rfl)]
 generalize trVs l=xs at *
 obtain ⟨ev,eo,so,co,⟨hev,hco⟩,R⟩:=RULES CC;rw [<- hev]
 rw [<- hev] at hloop
 simp only [fpart,part',Tryz.f70,Option.getD] at hloop ⊢
 simp only [S9,R,seval,TRf,ss1,List.getElem?_concat_length,hlen]
 generalize hE:ev (Code.loop _) _=z
 have hP:PRo [] v z:=by
  rw [<- hE]
  refine hloop _ _ ?_ ?_ ?_ ?_ ?_ ?_
  all_goals first | (simp only [S7,R,seval];done) | (simp only [S7,R,seval] <;> rfl)
 obtain ⟨e',ex,he,q⟩:=hP
 subst he
 simp only [S9,R,seval,TRf,ss1,List.getElem?_concat_length,hlen,q]
 exact ⟨_,rfl⟩
theorem op_row (l:List Tr) (hl:l.length<=1000) (op:List UInt8) (ho:op.length<=10) (least:Int) (hk:∀ t ∈ l,TXc t∧(TX t).length<=200000) (bx):callOp CC (callL CC) 70 [.sl (trVs l),.str op,.int .i64 least] bx=some (.ret (.str (rowS op least (ans l) 0 [])),bx):=by
 obtain ⟨c,hc⟩:=call_row l hl op ho least hk
 exact callOp_of rfl (by simp only [pureL_cons,PV.pure,trVs_pure,pureL_nil,Bool.and_self]) hc rfl
theorem bldV2:buildP CC 24 [(0,.int .i64 2)]=some (.agg [.int .i64 2,.int .i64 0,.str []]):=by kernel_rfl
theorem bldE1:buildP CC 29 [(0,.int .i64 1),(4,.agg [.int .i64 2,.int .i64 0,.str []])]=some (.agg [.int .i64 1,.int .i64 0,.int .i64 0,.str [],.int .i64 2,.int .i64 0,.str [],.int .i64 0,.str [],.str [],.nils]):=by kernel_rfl
theorem call_minus (k n m:Int) (nm:List UInt8) (v:Vl) (key:Ky) (a c:Tr):∃ bx,callL CC 73 [trV (.mk k n m nm v key [a,c])] []=some (.ret (.bool (mnB [a,c])),bx):=by
 have o1:=op_expr_Same a 1 0 0 [] (2,0,[]) (0,[],[])
 have hm:mnB [a,c]=(smB a 1 0 0 [] (2,0,[]) (0,[],[]) && (kdOf c != 1)):=rfl
 rw [hm]
 clear hm
 generalize smB a 1 0 0 [] (2,0,[]) (0,[],[])=q at *
 unfold leafV at o1
 obtain ⟨ak,an',am,anm,av,akey,akids⟩:=a
 obtain ⟨ck,cn,cm,cnm,cv,ckey,ckids⟩:=c
 simp only [kdOf,trV,trVs] at o1 ⊢
 generalize trVs akids=xs at *
 generalize trVs ckids=ys at *
 have hnb:∀ b:Bool,(true && b)=b:=fun b=>rfl
 rw [callL_enter (fn:=Tryz.f73) (c:=Tryz.f73.body.getD .skip) rfl rfl fat_print_minus rfl ok_print_minus (Nat.le_of_ble_eq_true rfl)]
 cases q with
 | true=>
  rw [Bool.true_and]
  obtain ⟨ev,eo,so,co,⟨hev,hco⟩,R⟩:=RULES CC;rw [<- hev]
  rw [<- hco] at o1
  simp only [fpart,part',Tryz.f73,Option.getD]
  simp only [S9,R,seval,TRf,ss1,List.getElem?_concat_length,o1,bldV2,bldE1]
  exact ⟨_,rfl⟩
 | false=>
  rw [Bool.false_and]
  obtain ⟨ev,eo,so,co,⟨hev,hco⟩,R⟩:=RULES CC;rw [<- hev]
  rw [<- hco] at o1
  simp only [fpart,part',Tryz.f73,Option.getD]
  simp only [S9,R,seval,TRf,ss1,List.getElem?_concat_length,o1,bldV2,bldE1]
  exact ⟨_,rfl⟩
theorem op_minus (k n m:Int) (nm:List UInt8) (v:Vl) (key:Ky) (a c:Tr) (bx):callOp CC (callL CC) 73 [trV (.mk k n m nm v key [a,c])] bx=some (.ret (.bool (mnB [a,c])),bx):=by
 obtain ⟨b,hc⟩:=call_minus k n m nm v key a c
 exact callOp_of rfl (by simp only [pureL_cons,trV_pure,pureL_nil,Bool.and_self]) hc rfl
end Go.HH
