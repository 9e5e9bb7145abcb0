/-
  What the law needs, packed: RQ RR RS RU RV RW RX RY UA.
-/
import Derived.Test.YthjabmlbmnadjaaK41
namespace Go.HH
open Go Go.Proofs
set_option maxRecDepth 100000
set_option maxHeartbeats 4000000
set_option linter.unusedSimpArgs false
set_option linter.unusedVariables false
def rulesP (L:List Tk) (n:Nat):Nat->List Rl->Nat->PR (List Rl)
 | 0,_,_=>.out
 | m+1,rs,i=>if (tokAt L i).1=0 then .ok rs i else (ruleP L n rs i).bind fun r i=>rulesP L n m (rs++[r]) i
theorem tail1_lt {L:List Tk} (hT:TokOK L) {n:Nat} {nm:List UInt8} {i:Nat} {a:Rl} {j:Nat} (hi:i < L.length) (h:tail1P L n nm i=.ok a j):j < L.length:=by
 unfold tail1P tail2P at h
 obtain ⟨pr,i1,r1,h⟩:=bind_ok h
 have h1:i1 < L.length:=by
  split at r1
  · rename_i hk
    have:=isT_lt hT hi hk (by decide)
    exact (numP_lt hT this r1).2.1
  · injection r1 with _ r1
    exact r1 ▸ hi
 obtain ⟨x,i9,r2,h⟩:=bind_ok h
 injection h with _ h
 subst h
 obtain ⟨_,i2,r3,r2⟩:=bind_ok r2
 have h2:=(mustP_lt hT h1 (by decide) r3).2
 obtain ⟨on,i3,r4,r2⟩:=bind_ok r2
 have h3:=(severalP_lt hT (fun i a j hi h=>triggerP_lt hT hi h) 10 [] i2 on i3 h2 (by simp) r4).1
 obtain ⟨e,i4,r5,r2⟩:=bind_ok r2
 have h4:i4 < L.length:=by
  split at r5
  · rename_i hk
    have hk1:=isT_lt hT h3 hk (by decide)
    obtain ⟨_,i5,r6,r5⟩:=bind_ok r5
    have h5:=(wholeP_lt hT hk1 r6).2
    obtain ⟨_,i6,r7,r5⟩:=bind_ok r5
    injection r5 with _ r5
    exact r5 ▸ (mustP_lt hT h5 (by decide) r7).2
  · injection r5 with _ r5
    exact r5 ▸ h3
 obtain ⟨dos,i5,r6,r2⟩:=bind_ok r2
 have h5:=(severalP_lt hT (fun i a j hi h=>stepP_lt hT hi h) 10 [] i4 dos i5 h4 (by simp) r6).1
 obtain ⟨_,i6,r7,r2⟩:=bind_ok r2
 injection r2 with _ r2
 exact r2 ▸ (mustP_lt hT h5 (by decide) r7).2
theorem ruleP_lt {L:List Tk} (hT:TokOK L) {n:Nat} {rs:List Rl} {i:Nat} {a:Rl} {j:Nat} (hi:i < L.length) (h:ruleP L n rs i=.ok a j):j < L.length∧rs.length≠40:=by
 rw [ruleP_eq] at h
 split at h
 · cases h
 · rename_i hn
   unfold headP at h
   obtain ⟨_,i0,r0,h⟩:=bind_ok h
   have hk:isT L 1 [114,117,108,101] i=true:=by
    unfold mustP at r0
    split at r0
    · assumption
    · cases r0
   have h0:=(mustP_lt hT hi (by decide) r0).2
   obtain ⟨nm,i1,r1,h⟩:=bind_ok h
   have h1:=(nameP_lt hT h0 r1).2
   split at h
   · cases h
   · exact ⟨tail1_lt hT h1 h,fun e=>hn ⟨hk,e⟩⟩
def RULl (Lc:Code) (L:List Tk) (rs:List Rl) (i:Nat) (r:PR (List Rl)):Prop:=match r with
 | .ok l j=>∀ e:List PV,getT e 2=.bp 0 0->getT e 3=.bp 1 0->getT e 4=.bp 2 0->getT e 5=.bp 3 0->∃ e',evL CC Lc ⟨e,[.cells 23 [.nils],.cells 3 [.int .i64 0],.cells 24 [.int .i64 0],PSR L i 0 (lsV 37 (rs.map rlP))]⟩=some (.exit 0,⟨e',[.cells 23 [.nils],.cells 3 [.int .i64 0],.cells 24 [.int .i64 0],PSR L j 0 (lsV 37 (l.map rlP))]⟩)∧getT e' 2=.bp 0 0∧getT e' 3=.bp 1 0∧getT e' 4=.bp 2 0∧getT e' 5=.bp 3 0
 | .bad t c=>∀ e:List PV,getT e 2=.bp 0 0->getT e 3=.bp 1 0->getT e 4=.bp 2 0->getT e 5=.bp 3 0->∃ (e':List PV) (i' o':Nat) (rs':List Rl),evL CC Lc ⟨e,[.cells 23 [.nils],.cells 3 [.int .i64 0],.cells 24 [.int .i64 0],PSR L i 0 (lsV 37 (rs.map rlP))]⟩=some (.pan (fltV t c),⟨e',[.cells 23 [.nils],.cells 3 [.int .i64 0],.cells 24 [.int .i64 0],PSR L i' o' (lsV 37 (rs'.map rlP))]⟩)∧getT e' 2=.bp 0 0∧getT e' 3=.bp 1 0∧getT e' 4=.bp 2 0
 | .out=>True
theorem hasP3 (L:List Tk) (i o:Nat) (rs:List Rl):hasP L i o (lsV 37 (rs.map rlP)) 3 [.cells 23 [.nils],.cells 3 [.int .i64 0],.cells 24 [.int .i64 0],PSR L i o (lsV 37 (rs.map rlP))]:=by
 refine ⟨?_,rfl⟩
 have:=PSR_under (n:=4) L i o (lsV_pure 37 _ (map_pure rlP rlP_pure rs))
 unfold clB
 simp only [SU,List.length_cons,List.length_nil,this,Bool.and_self]
theorem loop_rules (Lc:Code) (hL:Lc=fpart Try.f9 [1,1,1,0,0]) {L:List Tk} (hT:TokOK L) (n:Nat):∀ (m:Nat) (rs:List Rl) (i:Nat),rs.length<=40->i < L.length->RULl Lc L rs i (rulesP L n m rs i):=by
 intro m
 induction m with
 | zero=>intro rs i _ _;trivial
 | succ m ih=>
  intro rs i h40 hi
  have hR:=lsV_pure 37 _ (map_pure rlP rlP_pure rs)
  have pbp:pureL [PV.bp 3 0]=false:=rfl
  have t0:=okc_token (id:=3) (o:=0) hR hi _ (hasP3 L i 0 rs)
  simp only [List.set_cons_succ,List.set_cons_zero] at t0
  have hz:=natBne (tokAt L i).1 0
  have hz0:((0:Nat):Int)=0:=rfl
  rw [rulesP]
  by_cases hk:(tokAt L i).1=0
  · rw [if_pos hk]
    have hz:((((tokAt L i).1:Nat):Int) != 0)=false:=by rw [hk];rfl
    refine fun e g2 g3 g4 g5=>?_
    rw [evL_at (fpart Try.f9 [1,1,1,0,0,0]) hL]
    generalize lsV 37 (rs.map rlP)=RV at *
    unfold PSR at t0 ⊢
    try simp only [hz0] at t0
    obtain ⟨ev,eo,so,co,⟨hev,hco⟩,R⟩:=RULES CC;rw [<- hev]
    rw [<- hco] at t0
    simp only [fpart,part',Try.f9,Option.getD]
    simp only [S9,R,seval,PY,pbp,dynR,g5,t0,hz]
    exact ⟨_,rfl,by simp only [S7,R,seval,g2],by simp only [S7,R,seval,g3],by simp only [S7,R,seval,g4],by simp only [S7,R,seval,g5]⟩
  · rw [if_neg hk]
    have hz:((((tokAt L i).1:Nat):Int) != 0)=true:=by simp [hk]
    have h1:=ans_rule (id:=3) (o:=0) hT rs h40 n rfl hi
    cases r1:ruleP L n rs i with
    | out=>trivial
    | bad t c=>
     rw [r1] at h1
     obtain ⟨i',o',h1⟩:=h1
     refine fun e g2 g3 g4 g5=>?_
     have t1:=h1 _ (hasP3 L i 0 rs)
     simp only [List.set_cons_succ,List.set_cons_zero] at t1
     refine Exists.elim (?_:∃ e',evL CC Lc ⟨e,[.cells 23 [.nils],.cells 3 [.int .i64 0],.cells 24 [.int .i64 0],PSR L i 0 (lsV 37 (rs.map rlP))]⟩=some (.pan (fltV t c),⟨e',[.cells 23 [.nils],.cells 3 [.int .i64 0],.cells 24 [.int .i64 0],PSR L i' o' (lsV 37 (rs.map rlP))]⟩)∧getT e' 2=.bp 0 0∧getT e' 3=.bp 1 0∧getT e' 4=.bp 2 0) (fun e' h=>⟨e',i',o',rs,h⟩)
     rw [evL_at (fpart Try.f9 [1,1,1,0,0,0]) hL]
     generalize lsV 37 (rs.map rlP)=RV at *
     unfold PSR at t0 t1 ⊢
     try simp only [hz0] at t0
     try simp only [hz0] at t1
     obtain ⟨ev,eo,so,co,⟨hev,hco⟩,R⟩:=RULES CC;rw [<- hev]
     rw [<- hco] at t0 t1
     simp only [fpart,part',Try.f9,Option.getD]
     simp only [S9,R,seval,PY,pbp,dynR,g5,t0,t1,hz]
     exact ⟨_,rfl,by simp only [S7,R,seval,g2],by simp only [S7,R,seval,g3],by simp only [S7,R,seval,g4]⟩
    | ok r i1=>
     rw [r1] at h1
     dsimp only [bind_okk]
     have hlt:=ruleP_lt hT hi r1
     have key:=ih (rs++[r]) i1 (by rw [List.length_append];simp only [List.length_cons,List.length_nil];omega) hlt.1
     have t1:=h1 _ (hasP3 L i 0 rs)
     simp only [List.set_cons_succ,List.set_cons_zero] at t1
     cases r2:rulesP L n m (rs++[r]) i1 with
     | out=>trivial
     | bad t c=>
      rw [r2] at key
      refine fun e g2 g3 g4 g5=>?_
      unfold RULl at key
      dsimp only at key
      rw [evL_at (fpart Try.f9 [1,1,1,0,0,0]) hL]
      generalize lsV 37 (rs.map rlP)=RV at *
      generalize lsV 37 ((rs++[r]).map rlP)=RW at *
      unfold PSR at t0 t1 key ⊢
      try simp only [hz0] at t0
      try simp only [hz0] at t1
      try simp only [hz0] at key
      obtain ⟨ev,eo,so,co,⟨hev,hco⟩,R⟩:=RULES CC;rw [<- hev]
      rw [<- hev] at key
      rw [<- hco] at t0 t1
      simp only [fpart,part',Try.f9,Option.getD]
      simp only [S9,R,seval,PY,pbp,dynR,g5,t0,t1,hz]
      refine key _ ?_ ?_ ?_ ?_
      · simp only [S7,R,seval,g2]
      · simp only [S7,R,seval,g3]
      · simp only [S7,R,seval,g4]
      · simp only [S7,R,seval,g5]
     | ok l j=>
      rw [r2] at key
      refine fun e g2 g3 g4 g5=>?_
      unfold RULl at key
      dsimp only at key
      rw [evL_at (fpart Try.f9 [1,1,1,0,0,0]) hL]
      generalize lsV 37 (rs.map rlP)=RV at *
      generalize lsV 37 ((rs++[r]).map rlP)=RW at *
      unfold PSR at t0 t1 key ⊢
      try simp only [hz0] at t0
      try simp only [hz0] at t1
      try simp only [hz0] at key
      obtain ⟨ev,eo,so,co,⟨hev,hco⟩,R⟩:=RULES CC;rw [<- hev]
      rw [<- hev] at key
      rw [<- hco] at t0 t1
      simp only [fpart,part',Try.f9,Option.getD]
      simp only [S9,R,seval,PY,pbp,dynR,g5,t0,t1,hz]
      refine key _ ?_ ?_ ?_ ?_
      · simp only [S7,R,seval,g2]
      · simp only [S7,R,seval,g3]
      · simp only [S7,R,seval,g4]
      · simp only [S7,R,seval,g5]
end Go.HH
namespace Go.HH
open Go Go.Proofs
set_option maxRecDepth 100000
set_option maxHeartbeats 4000000
set_option linter.unusedSimpArgs false
set_option linter.unusedVariables false
theorem op_start_ok (s:List UInt8) (hs:s.length<=40000) (h0:(toks s).2.2=0) (bx:List PBox):callOp CC (callL CC) 24 [.str s] bx=some (.ret (.bp bx.length 0),bx++[PSR (toks s).1 0 0 .nils]):=by
 unfold callOp
 rw [if_pos (show (CC.heap 24 || !pureL [PV.str s])=true from rfl),call_start_ok s hs h0 bx]
 simp only
 unfold truncB
 rw [if_neg (by simp [CR.under,PV.under])]
theorem op_start_bad (s:List UInt8) (hs:s.length<=40000) (h0:(toks s).2.2≠0):callOp CC (callL CC) 24 [.str s] [.cells 23 [.nils],.cells 3 [.int .i64 0],.cells 24 [.int .i64 0]]=some (.pan (fltV (toks s).2.1 (toks s).2.2),[.cells 23 [.nils],.cells 3 [.int .i64 0],.cells 24 [.int .i64 0]]):=by
 unfold callOp
 rw [if_pos (show (CC.heap 24 || !pureL [PV.str s])=true from rfl),call_start_bad s hs h0 _]
 simp only
 unfold truncB
 split <;> rfl
theorem post_pan (x y:Int) (e:List PV) (r:List PBox) (k2:getT e 2=.bp 0 0) (k3:getT e 3=.bp 1 0) (k4:getT e 4=.bp 2 0):catR.post (.pan (.iface 61 (.agg [.int .i64 x,.int .i64 y])),⟨e,.cells 23 [.nils] :: .cells 3 [.int .i64 0] :: .cells 24 [.int .i64 0] :: r⟩)=some (.ret (.tup [.sl [],.int .i64 x,.int .i64 y]),[]):=by
 have h:okE 1 ⟨e,.cells 23 [.nils] :: .cells 3 [.int .i64 0] :: .cells 24 [.int .i64 0] :: r⟩=true:=by unfold okE;simp only [k2,k3,k4];rfl
 show (if (decide (61=61) && okE 1 ⟨e,.cells 23 [.nils] :: .cells 3 [.int .i64 0] :: .cells 24 [.int .i64 0] :: r⟩)=true then some (CR.ret (.tup [finR [.osl 37 []],.int .i64 x,.int .i64 y]),([]:List PBox)) else none)=_
 rw [h]
 rfl
theorem call_Rules_lex (s:List UInt8) (hs:s.length<=40000) (h0:(toks s).2.2≠0):callL CC 9 [.str s] []=some (.ret (.tup [.sl [],.int .i64 ((toks s).2.1:Int),.int .i64 (toks s).2.2]),[]):=by
 rw [callL_cat (k:=catR) rfl rfl]
 have pbp:pureL [PV.bp 3 0]=false:=rfl
 have ht:=op_start_bad s hs h0
 unfold fltV at ht
 generalize (toks s).2.2=er at *
 generalize (toks s).2.1=ta at *
 have hcode:catR.code=fpart Try.f9 [1,1]:=rfl
 have hcp:catR.pre [.str s] []=some ⟨setT (envR s) 6 (.fn 23 [] [.bp 0 0,.bp 1 0,.bp 2 0]),[.cells 23 [.nils],.cells 3 [.int .i64 0],.cells 24 [.int .i64 0]]⟩:=rfl
 unfold runCat
 rw [hcp,hcode]
 have hev2:∃ e',evL CC (fpart Try.f9 [1,1]) ⟨setT (envR s) 6 (.fn 23 [] [.bp 0 0,.bp 1 0,.bp 2 0]),[.cells 23 [.nils],.cells 3 [.int .i64 0],.cells 24 [.int .i64 0]]⟩=some (.pan (.iface 61 (.agg [.int .i64 (ta:Int),.int .i64 er])),⟨e',[.cells 23 [.nils],.cells 3 [.int .i64 0],.cells 24 [.int .i64 0]]⟩)∧getT e' 2=.bp 0 0∧getT e' 3=.bp 1 0∧getT e' 4=.bp 2 0:=by
  unfold envR
  obtain ⟨ev,eo,so,co,⟨hev,hco⟩,R⟩:=RULES CC;rw [<- hev]
  rw [<- hco] at ht
  simp only [fpart,part',Try.f9,Option.getD]
  simp only [S9,R,seval,PY,pbp,dynR,ht]
  exact ⟨_,rfl,by simp only [S7,R,seval];try rfl,by simp only [S7,R,seval];try rfl,by simp only [S7,R,seval];try rfl⟩
 obtain ⟨e',he,k2,k3,k4⟩:=hev2
 simp only
 rw [he]
 exact post_pan _ _ e' [] k2 k3 k4
end Go.HH
namespace Go.HH
open Go Go.Proofs
set_option maxRecDepth 100000
set_option maxHeartbeats 4000000
set_option linter.unusedSimpArgs false
set_option linter.unusedVariables false
theorem call_Rules_bad (s:List UInt8) (hs:s.length<=40000) (h0:(toks s).2.2=0) (hT:TokOK (toks s).1) (n m:Nat) {t:Nat} {c:Int} (h:rulesP (toks s).1 n m [] 0=.bad t c):callL CC 9 [.str s] []=some (.ret (.tup [.sl [],.int .i64 (t:Int),.int .i64 c]),[]):=by
 rw [callL_cat (k:=catR) rfl rfl]
 have pbp:pureL [PV.bp 3 0]=false:=rfl
 have ht:=op_start_ok s hs h0 [.cells 23 [.nils],.cells 3 [.int .i64 0],.cells 24 [.int .i64 0]]
 have hloop:=loop_rules _ rfl hT n m [] 0 (by simp) hT.pos
 rw [h] at hloop
 unfold RULl at hloop
 simp only [List.map_nil,lsV_nil] at hloop
 have hcode:catR.code=fpart Try.f9 [1,1]:=rfl
 have hcp:catR.pre [.str s] []=some ⟨setT (envR s) 6 (.fn 23 [] [.bp 0 0,.bp 1 0,.bp 2 0]),[.cells 23 [.nils],.cells 3 [.int .i64 0],.cells 24 [.int .i64 0]]⟩:=rfl
 unfold runCat
 rw [hcp,hcode]
 have hev2:∃ (e':List PV) (i' o':Nat) (rs':List Rl),evL CC (fpart Try.f9 [1,1]) ⟨setT (envR s) 6 (.fn 23 [] [.bp 0 0,.bp 1 0,.bp 2 0]),[.cells 23 [.nils],.cells 3 [.int .i64 0],.cells 24 [.int .i64 0]]⟩=some (.pan (fltV t c),⟨e',[.cells 23 [.nils],.cells 3 [.int .i64 0],.cells 24 [.int .i64 0],PSR (toks s).1 i' o' (lsV 37 (rs'.map rlP))]⟩)∧getT e' 2=.bp 0 0∧getT e' 3=.bp 1 0∧getT e' 4=.bp 2 0:=by
  simp only [fpart,part',Try.f9,Option.getD] at hloop ⊢
  unfold PSR at hloop ht ⊢
  unfold envR
  obtain ⟨ev,eo,so,co,⟨hev,hco⟩,R⟩:=RULES CC;rw [<- hev]
  rw [<- hev] at hloop
  rw [<- hco] at ht
  simp only [S9,R,seval,PY,pbp,dynR,ht]
  generalize hE:ev _ _=z
  have hP:∃ (e':List PV) (i' o':Nat) (rs':List Rl),z=some (.pan (fltV t c),⟨e',[.cells 23 [.nils],.cells 3 [.int .i64 0],.cells 24 [.int .i64 0],PSR (toks s).1 i' o' (lsV 37 (rs'.map rlP))]⟩)∧getT e' 2=.bp 0 0∧getT e' 3=.bp 1 0∧getT e' 4=.bp 2 0:=by
   rw [<- hE]
   unfold PSR
   refine hloop _ ?_ ?_ ?_ ?_
   · simp only [S7,R,seval];try rfl
   · simp only [S7,R,seval];try rfl
   · simp only [S7,R,seval];try rfl
   · simp only [S7,R,seval];try rfl
  obtain ⟨e',i',o',rs',he,k⟩:=hP
  refine ⟨e',i',o',rs',?_,k⟩
  subst he
  unfold PSR
  simp only [S9,R,seval,PY,pbp,dynR]
 obtain ⟨e',i',o',rs',he,k2,k3,k4⟩:=hev2
 simp only
 rw [he]
 exact post_pan _ _ e' _ k2 k3 k4
theorem post_ret (v:PV) (hv:v.pure=true) (e:List PV) (r:List PBox) (k2:getT e 2=.bp 0 0) (k3:getT e 3=.bp 1 0) (k4:getT e 4=.bp 2 0):catR.post (.ret,⟨e,.cells 23 [v] :: .cells 3 [.int .i64 0] :: .cells 24 [.int .i64 0] :: r⟩)=some (.ret (.tup [v.ro.shutV,.int .i64 0,.int .i64 0]),[]):=by
 have h:okE 1 ⟨e,.cells 23 [v] :: .cells 3 [.int .i64 0] :: .cells 24 [.int .i64 0] :: r⟩=true:=by unfold okE;simp only [k2,k3,k4,pureL_cons,pureL_nil,hv];rfl
 show (if okE 1 ⟨e,.cells 23 [v] :: .cells 3 [.int .i64 0] :: .cells 24 [.int .i64 0] :: r⟩=true then some (CR.ret (.tup [finR [v],.int .i64 0,.int .i64 0]),([]:List PBox)) else none)=_
 rw [h]
 rfl
theorem call_Rules_nil (s:List UInt8) (hs:s.length<=40000) (h0:(toks s).2.2=0) (hT:TokOK (toks s).1) (n m:Nat) {j:Nat} (h:rulesP (toks s).1 n m [] 0=.ok [] j):callL CC 9 [.str s] []=some (.ret (.tup [.sl [],.int .i64 0,.int .i64 0]),[]):=by
 rw [callL_cat (k:=catR) rfl rfl]
 have pbp:pureL [PV.bp 3 0]=false:=rfl
 have ht:=op_start_ok s hs h0 [.cells 23 [.nils],.cells 3 [.int .i64 0],.cells 24 [.int .i64 0]]
 have hloop:=loop_rules _ rfl hT n m [] 0 (by simp) hT.pos
 rw [h] at hloop
 unfold RULl at hloop
 simp only [List.map_nil,List.map_cons,lsV_nil,lsV_cons] at hloop
 skip
 skip
 have hcode:catR.code=fpart Try.f9 [1,1]:=rfl
 have hcp:catR.pre [.str s] []=some ⟨setT (envR s) 6 (.fn 23 [] [.bp 0 0,.bp 1 0,.bp 2 0]),[.cells 23 [.nils],.cells 3 [.int .i64 0],.cells 24 [.int .i64 0]]⟩:=rfl
 unfold runCat
 rw [hcp,hcode]
 have hev2:∃ (e':List PV) (r:List PBox),evL CC (fpart Try.f9 [1,1]) ⟨setT (envR s) 6 (.fn 23 [] [.bp 0 0,.bp 1 0,.bp 2 0]),[.cells 23 [.nils],.cells 3 [.int .i64 0],.cells 24 [.int .i64 0]]⟩=some (.ret,⟨e',.cells 23 [.nils] :: .cells 3 [.int .i64 0] :: .cells 24 [.int .i64 0] :: r⟩)∧getT e' 2=.bp 0 0∧getT e' 3=.bp 1 0∧getT e' 4=.bp 2 0:=by
  simp only [fpart,part',Try.f9,Option.getD] at hloop ⊢
  unfold PSR at hloop ht
  unfold envR
  obtain ⟨ev,eo,so,co,⟨hev,hco⟩,R⟩:=RULES CC;rw [<- hev]
  rw [<- hev] at hloop
  rw [<- hco] at ht
  simp only [S9,R,seval,PY,pbp,dynR,ht]
  generalize hE:ev _ _=z
  have hP:∃ (e':List PV),z=some (.exit 0,⟨e',[.cells 23 [.nils],.cells 3 [.int .i64 0],.cells 24 [.int .i64 0],PSR (toks s).1 j 0 (.nils)]⟩)∧getT e' 2=.bp 0 0∧getT e' 3=.bp 1 0∧getT e' 4=.bp 2 0∧getT e' 5=.bp 3 0:=by
   rw [<- hE]
   unfold PSR
   refine hloop _ ?_ ?_ ?_ ?_
   · simp only [S7,R,seval];try rfl
   · simp only [S7,R,seval];try rfl
   · simp only [S7,R,seval];try rfl
   · simp only [S7,R,seval];try rfl
  obtain ⟨e',he,k2,k3,k4,k5⟩:=hP
  subst he
  unfold PSR
  simp only [S9,R,seval,PY,pbp,dynR,k2,k3,k4,k5]
  first | exact ⟨_,_,rfl,by simp only [S7,R,seval,k2],by simp only [S7,R,seval,k3],by simp only [S7,R,seval,k4]⟩
 obtain ⟨e',r,he,k2,k3,k4⟩:=hev2
 simp only
 rw [he]
 exact post_ret _ rfl e' r k2 k3 k4
theorem call_Rules_cons (s:List UInt8) (hs:s.length<=40000) (h0:(toks s).2.2=0) (hT:TokOK (toks s).1) (n m:Nat) {x:Rl} {rs:List Rl} {j:Nat} (h:rulesP (toks s).1 n m [] 0=.ok (x :: rs) j):callL CC 9 [.str s] []=some (.ret (.tup [.sl (rlP x :: rs.map rlP),.int .i64 0,.int .i64 0]),[]):=by
 rw [callL_cat (k:=catR) rfl rfl]
 have pbp:pureL [PV.bp 3 0]=false:=rfl
 have ht:=op_start_ok s hs h0 [.cells 23 [.nils],.cells 3 [.int .i64 0],.cells 24 [.int .i64 0]]
 have hloop:=loop_rules _ rfl hT n m [] 0 (by simp) hT.pos
 rw [h] at hloop
 unfold RULl at hloop
 simp only [List.map_nil,List.map_cons,lsV_nil,lsV_cons] at hloop
 have hpu:(PV.sl (rlP x :: rs.map rlP)).pure=true:=map_pure rlP rlP_pure (x :: rs)
 generalize rlP x :: rs.map rlP=xs at *
 have hcode:catR.code=fpart Try.f9 [1,1]:=rfl
 have hcp:catR.pre [.str s] []=some ⟨setT (envR s) 6 (.fn 23 [] [.bp 0 0,.bp 1 0,.bp 2 0]),[.cells 23 [.nils],.cells 3 [.int .i64 0],.cells 24 [.int .i64 0]]⟩:=rfl
 unfold runCat
 rw [hcp,hcode]
 have hev2:∃ (e':List PV) (r:List PBox),evL CC (fpart Try.f9 [1,1]) ⟨setT (envR s) 6 (.fn 23 [] [.bp 0 0,.bp 1 0,.bp 2 0]),[.cells 23 [.nils],.cells 3 [.int .i64 0],.cells 24 [.int .i64 0]]⟩=some (.ret,⟨e',.cells 23 [.sl xs] :: .cells 3 [.int .i64 0] :: .cells 24 [.int .i64 0] :: r⟩)∧getT e' 2=.bp 0 0∧getT e' 3=.bp 1 0∧getT e' 4=.bp 2 0:=by
  simp only [fpart,part',Try.f9,Option.getD] at hloop ⊢
  unfold PSR at hloop ht
  unfold envR
  obtain ⟨ev,eo,so,co,⟨hev,hco⟩,R⟩:=RULES CC;rw [<- hev]
  rw [<- hev] at hloop
  rw [<- hco] at ht
  simp only [S9,R,seval,PY,pbp,dynR,ht]
  generalize hE:ev _ _=z
  have hP:∃ (e':List PV),z=some (.exit 0,⟨e',[.cells 23 [.nils],.cells 3 [.int .i64 0],.cells 24 [.int .i64 0],PSR (toks s).1 j 0 (.osl 37 xs)]⟩)∧getT e' 2=.bp 0 0∧getT e' 3=.bp 1 0∧getT e' 4=.bp 2 0∧getT e' 5=.bp 3 0:=by
   rw [<- hE]
   unfold PSR
   refine hloop _ ?_ ?_ ?_ ?_
   · simp only [S7,R,seval];try rfl
   · simp only [S7,R,seval];try rfl
   · simp only [S7,R,seval];try rfl
   · simp only [S7,R,seval];try rfl
  obtain ⟨e',he,k2,k3,k4,k5⟩:=hP
  subst he
  unfold PSR
  simp only [S9,R,seval,PY,pbp,dynR,k2,k3,k4,k5]
  first | exact ⟨_,_,rfl,by simp only [S7,R,seval,k2],by simp only [S7,R,seval,k3],by simp only [S7,R,seval,k4]⟩
 obtain ⟨e',r,he,k2,k3,k4⟩:=hev2
 simp only
 rw [he]
 exact post_ret _ hpu e' r k2 k3 k4
end Go.HH
namespace Go.HH
open Go Go.Proofs
set_option maxRecDepth 100000
set_option maxHeartbeats 4000000
set_option linter.unusedSimpArgs false
set_option linter.unusedVariables false
theorem postE_pan (x y:Int) (e:List PV) (c0:List PV) (hl:c0.length=11) (hp:pureL c0=true) (r:List PBox) (k2:getT e 2=.bp 0 0) (k3:getT e 3=.bp 1 0) (k4:getT e 4=.bp 2 0):catE.post (.pan (.iface 61 (.agg [.int .i64 x,.int .i64 y])),⟨e,.cells 34 c0 :: .cells 3 [.int .i64 0] :: .cells 24 [.int .i64 0] :: r⟩)=some (.ret (.tup [.agg (exC zT),.int .i64 x,.int .i64 y]),[]):=by
 have h:okE 11 ⟨e,.cells 34 c0 :: .cells 3 [.int .i64 0] :: .cells 24 [.int .i64 0] :: r⟩=true:=by unfold okE;simp only [k2,k3,k4,hl,hp];rfl
 show (if (decide (61=61) && okE 11 ⟨e,.cells 34 c0 :: .cells 3 [.int .i64 0] :: .cells 24 [.int .i64 0] :: r⟩)=true then some (CR.ret (.tup [finE zeroE,.int .i64 x,.int .i64 y]),([]:List PBox)) else none)=_
 rw [h,exC_zT]
 rfl
theorem hasP3e (L:List Tk) (i:Nat) (c0:List PV) (hc:∀ n,underL n c0=true):hasP L i 0 .nils 3 [.cells 34 c0,.cells 3 [.int .i64 0],.cells 24 [.int .i64 0],PSR L i 0 .nils]:=by
 refine ⟨?_,rfl⟩
 have:=PSR_under (n:=4) L i 0 (RL:=.nils) rfl
 unfold clB
 simp only [SU,List.length_cons,List.length_nil,this,hc,Bool.and_self]
theorem call_Expr_bad (s:List UInt8) (hs:s.length<=40000) (h0:(toks s).2.2=0) (hT:TokOK (toks s).1) (n:Nat) {t:Nat} {c:Int} (h:wholeP (toks s).1 n 0=.bad t c):callL CC 14 [.str s] []=some (.ret (.tup [.agg (exC zT),.int .i64 (t:Int),.int .i64 c]),[]):=by
 rw [callL_cat (k:=catE) rfl rfl]
 have pbp:pureL [PV.bp 3 0]=false:=rfl
 have hcode:catE.code=fpart Try.f14 [1,1]:=rfl
 have hcp:catE.pre [.str s] []=some ⟨setT (envR s) 6 (.fn 33 [] [.bp 0 0,.bp 1 0,.bp 2 0]),[.cells 34 [.int .i64 0,.int .i64 0,.int .i64 0,.str [],.int .i64 0,.int .i64 0,.str [],.int .i64 0,.str [],.str [],.nils],.cells 3 [.int .i64 0],.cells 24 [.int .i64 0]]⟩:=rfl
 unfold runCat
 rw [hcp,hcode]
 have ht:=op_start_ok s hs h0 [.cells 34 [.int .i64 0,.int .i64 0,.int .i64 0,.str [],.int .i64 0,.int .i64 0,.str [],.int .i64 0,.str [],.str [],.nils],.cells 3 [.int .i64 0],.cells 24 [.int .i64 0]]
 have h1:=ans_whole (id:=3) (RL:=.nils) rfl hT hT.pos n 0 rfl
 rw [h] at h1
 obtain ⟨i',o',h1⟩:=h1
 have t1:=h1 _ (hasP3e _ 0 [.int .i64 0,.int .i64 0,.int .i64 0,.str [],.int .i64 0,.int .i64 0,.str [],.int .i64 0,.str [],.str [],.nils] (fun n=>by simp only [SU,Bool.and_self]))
 simp only [List.set_cons_succ,List.set_cons_zero] at t1
 have hz0:((0:Nat):Int)=0:=rfl
 have hev2:∃ (e':List PV),evL CC (fpart Try.f14 [1,1]) ⟨setT (envR s) 6 (.fn 33 [] [.bp 0 0,.bp 1 0,.bp 2 0]),[.cells 34 [.int .i64 0,.int .i64 0,.int .i64 0,.str [],.int .i64 0,.int .i64 0,.str [],.int .i64 0,.str [],.str [],.nils],.cells 3 [.int .i64 0],.cells 24 [.int .i64 0]]⟩=some (.pan (fltV t c),⟨e',[.cells 34 [.int .i64 0,.int .i64 0,.int .i64 0,.str [],.int .i64 0,.int .i64 0,.str [],.int .i64 0,.str [],.str [],.nils],.cells 3 [.int .i64 0],.cells 24 [.int .i64 0],PSR (toks s).1 i' o' .nils]⟩)∧getT e' 2=.bp 0 0∧getT e' 3=.bp 1 0∧getT e' 4=.bp 2 0:=by
  simp only [fpart,part',Try.f14,Option.getD]
  unfold PSR at t1 ht ⊢
  simp only [hz0] at t1 ht
  unfold envR
  obtain ⟨ev,eo,so,co,⟨hev,hco⟩,R⟩:=RULES CC;rw [<- hev]
  rw [<- hco] at ht t1
  simp only [S9,R,seval,PY,pbp,dynR,ht,t1]
  exact ⟨_,rfl,by simp only [S7,R,seval];try rfl,by simp only [S7,R,seval];try rfl,by simp only [S7,R,seval];try rfl⟩
 obtain ⟨e',he,k2,k3,k4⟩:=hev2
 simp only
 rw [he]
 exact postE_pan _ _ e' _ rfl rfl _ k2 k3 k4
theorem call_Expr_bad2 (s:List UInt8) (hs:s.length<=40000) (h0:(toks s).2.2=0) (hT:TokOK (toks s).1) (n:Nat) {a:Tr} {i:Nat} (h:wholeP (toks s).1 n 0=.ok a i) {t:Nat} {c:Int} (h2:oneP (toks s).1 0 i=.bad t c):callL CC 14 [.str s] []=some (.ret (.tup [.agg (exC zT),.int .i64 (t:Int),.int .i64 c]),[]):=by
 rw [callL_cat (k:=catE) rfl rfl]
 have pbp:pureL [PV.bp 3 0]=false:=rfl
 have hcode:catE.code=fpart Try.f14 [1,1]:=rfl
 have hcp:catE.pre [.str s] []=some ⟨setT (envR s) 6 (.fn 33 [] [.bp 0 0,.bp 1 0,.bp 2 0]),[.cells 34 [.int .i64 0,.int .i64 0,.int .i64 0,.str [],.int .i64 0,.int .i64 0,.str [],.int .i64 0,.str [],.str [],.nils],.cells 3 [.int .i64 0],.cells 24 [.int .i64 0]]⟩:=rfl
 unfold runCat
 rw [hcp,hcode]
 have ht:=op_start_ok s hs h0 [.cells 34 [.int .i64 0,.int .i64 0,.int .i64 0,.str [],.int .i64 0,.int .i64 0,.str [],.int .i64 0,.str [],.str [],.nils],.cells 3 [.int .i64 0],.cells 24 [.int .i64 0]]
 have h1:=ans_whole (id:=3) (RL:=.nils) rfl hT hT.pos n 0 rfl
 rw [h] at h1
 have hi:=(wholeP_lt hT hT.pos h).2
 have t1:=h1 _ (hasP3e _ 0 [.int .i64 0,.int .i64 0,.int .i64 0,.str [],.int .i64 0,.int .i64 0,.str [],.int .i64 0,.str [],.str [],.nils] (fun n=>by simp only [SU,Bool.and_self]))
 have h3:=ans_one (id:=3) (RL:=.nils) (o:=0) (i:=i) rfl hi hT 0 0 rfl
 rw [h2] at h3
 obtain ⟨i',o',h3⟩:=h3
 have t2:=h3 _ (hasP3e _ i (exC a) (fun n=>exC_under n a))
 simp only [List.set_cons_succ,List.set_cons_zero] at t1 t2
 rw [trV_exC] at t1
 have hz0:((0:Nat):Int)=0:=rfl
 have hev2:∃ (e':List PV) (r:List PBox),evL CC (fpart Try.f14 [1,1]) ⟨setT (envR s) 6 (.fn 33 [] [.bp 0 0,.bp 1 0,.bp 2 0]),[.cells 34 [.int .i64 0,.int .i64 0,.int .i64 0,.str [],.int .i64 0,.int .i64 0,.str [],.int .i64 0,.str [],.str [],.nils],.cells 3 [.int .i64 0],.cells 24 [.int .i64 0]]⟩=some (.pan (fltV t c),⟨e',.cells 34 (exC a) :: .cells 3 [.int .i64 0] :: .cells 24 [.int .i64 0] :: r⟩)∧getT e' 2=.bp 0 0∧getT e' 3=.bp 1 0∧getT e' 4=.bp 2 0:=by
  simp only [fpart,part',Try.f14,Option.getD]
  unfold PSR at t1 t2 ht
  simp only [hz0] at t1 t2 ht
  unfold envR
  obtain ⟨ev,eo,so,co,⟨hev,hco⟩,R⟩:=RULES CC;rw [<- hev]
  rw [<- hco] at ht t1 t2
  simp only [S9,R,seval,PY,pbp,dynR,ht,t1,t2,SX]
  exact ⟨_,_,rfl,by simp only [S7,R,seval];try rfl,by simp only [S7,R,seval];try rfl,by simp only [S7,R,seval];try rfl⟩
 obtain ⟨e',r,he,k2,k3,k4⟩:=hev2
 simp only
 rw [he]
 exact postE_pan _ _ e' _ (exC_len a) (exC_pure a) _ k2 k3 k4
theorem postE_ret (a:Tr) (e:List PV) (r:List PBox) (k2:getT e 2=.bp 0 0) (k3:getT e 3=.bp 1 0) (k4:getT e 4=.bp 2 0):catE.post (.ret,⟨e,.cells 34 (exC a) :: .cells 3 [.int .i64 0] :: .cells 24 [.int .i64 0] :: r⟩)=some (.ret (.tup [.agg (exC a),.int .i64 0,.int .i64 0]),[]):=by
 have h:okE 11 ⟨e,.cells 34 (exC a) :: .cells 3 [.int .i64 0] :: .cells 24 [.int .i64 0] :: r⟩=true:=by unfold okE;simp only [k2,k3,k4,exC_len,exC_pure];rfl
 show (if okE 11 ⟨e,.cells 34 (exC a) :: .cells 3 [.int .i64 0] :: .cells 24 [.int .i64 0] :: r⟩=true then some (CR.ret (.tup [finE (exC a),.int .i64 0,.int .i64 0]),([]:List PBox)) else none)=_
 rw [h]
 unfold finE
 rw [exC_ro]
 show some (CR.ret (.tup [.agg ((exC a).map PV.seal1),_,_]),([]:List PBox))=_
 rw [exC_seal]
theorem call_Expr_ok2 (s:List UInt8) (hs:s.length<=40000) (h0:(toks s).2.2=0) (hT:TokOK (toks s).1) (n:Nat) {a:Tr} {i:Nat} (h:wholeP (toks s).1 n 0=.ok a i) {tk:Tk} {j:Nat} (h2:oneP (toks s).1 0 i=.ok tk j):callL CC 14 [.str s] []=some (.ret (.tup [.agg (exC a),.int .i64 0,.int .i64 0]),[]):=by
 rw [callL_cat (k:=catE) rfl rfl]
 have pbp:pureL [PV.bp 3 0]=false:=rfl
 have hcode:catE.code=fpart Try.f14 [1,1]:=rfl
 have hcp:catE.pre [.str s] []=some ⟨setT (envR s) 6 (.fn 33 [] [.bp 0 0,.bp 1 0,.bp 2 0]),[.cells 34 [.int .i64 0,.int .i64 0,.int .i64 0,.str [],.int .i64 0,.int .i64 0,.str [],.int .i64 0,.str [],.str [],.nils],.cells 3 [.int .i64 0],.cells 24 [.int .i64 0]]⟩:=rfl
 unfold runCat
 rw [hcp,hcode]
 have ht:=op_start_ok s hs h0 [.cells 34 [.int .i64 0,.int .i64 0,.int .i64 0,.str [],.int .i64 0,.int .i64 0,.str [],.int .i64 0,.str [],.str [],.nils],.cells 3 [.int .i64 0],.cells 24 [.int .i64 0]]
 have h1:=ans_whole (id:=3) (RL:=.nils) rfl hT hT.pos n 0 rfl
 rw [h] at h1
 have hi:=(wholeP_lt hT hT.pos h).2
 have t1:=h1 _ (hasP3e _ 0 [.int .i64 0,.int .i64 0,.int .i64 0,.str [],.int .i64 0,.int .i64 0,.str [],.int .i64 0,.str [],.str [],.nils] (fun n=>by simp only [SU,Bool.and_self]))
 have h3:=ans_one (id:=3) (RL:=.nils) (o:=0) (i:=i) rfl hi hT 0 0 rfl
 rw [h2] at h3
 skip
 have t2:=h3 _ (hasP3e _ i (exC a) (fun n=>exC_under n a))
 simp only [List.set_cons_succ,List.set_cons_zero] at t1 t2
 rw [trV_exC] at t1
 have hz0:((0:Nat):Int)=0:=rfl
 have hev2:∃ (e':List PV) (r:List PBox),evL CC (fpart Try.f14 [1,1]) ⟨setT (envR s) 6 (.fn 33 [] [.bp 0 0,.bp 1 0,.bp 2 0]),[.cells 34 [.int .i64 0,.int .i64 0,.int .i64 0,.str [],.int .i64 0,.int .i64 0,.str [],.int .i64 0,.str [],.str [],.nils],.cells 3 [.int .i64 0],.cells 24 [.int .i64 0]]⟩=some (.ret,⟨e',.cells 34 (exC a) :: .cells 3 [.int .i64 0] :: .cells 24 [.int .i64 0] :: r⟩)∧getT e' 2=.bp 0 0∧getT e' 3=.bp 1 0∧getT e' 4=.bp 2 0:=by
  simp only [fpart,part',Try.f14,Option.getD]
  unfold PSR at t1 t2 ht
  simp only [hz0] at t1 t2 ht
  unfold envR
  obtain ⟨ev,eo,so,co,⟨hev,hco⟩,R⟩:=RULES CC;rw [<- hev]
  rw [<- hco] at ht t1 t2
  simp only [S9,R,seval,PY,pbp,dynR,ht,t1,t2,SX]
  exact ⟨_,_,rfl,by simp only [S7,R,seval];try rfl,by simp only [S7,R,seval];try rfl,by simp only [S7,R,seval];try rfl⟩
 obtain ⟨e',r,he,k2,k3,k4⟩:=hev2
 simp only
 rw [he]
 exact postE_ret a e' r k2 k3 k4
theorem op_start_badE (s:List UInt8) (hs:s.length<=40000) (h0:(toks s).2.2≠0):callOp CC (callL CC) 24 [.str s] [.cells 34 [.int .i64 0,.int .i64 0,.int .i64 0,.str [],.int .i64 0,.int .i64 0,.str [],.int .i64 0,.str [],.str [],.nils],.cells 3 [.int .i64 0],.cells 24 [.int .i64 0]]=some (.pan (fltV (toks s).2.1 (toks s).2.2),[.cells 34 [.int .i64 0,.int .i64 0,.int .i64 0,.str [],.int .i64 0,.int .i64 0,.str [],.int .i64 0,.str [],.str [],.nils],.cells 3 [.int .i64 0],.cells 24 [.int .i64 0]]):=by
 unfold callOp
 rw [if_pos (show (CC.heap 24 || !pureL [PV.str s])=true from rfl),call_start_bad s hs h0 _]
 simp only
 unfold truncB
 split <;> rfl
theorem call_Expr_lex (s:List UInt8) (hs:s.length<=40000) (h0:(toks s).2.2≠0):callL CC 14 [.str s] []=some (.ret (.tup [.agg (exC zT),.int .i64 ((toks s).2.1:Int),.int .i64 (toks s).2.2]),[]):=by
 rw [callL_cat (k:=catE) rfl rfl]
 have pbp:pureL [PV.bp 3 0]=false:=rfl
 have hcode:catE.code=fpart Try.f14 [1,1]:=rfl
 have hcp:catE.pre [.str s] []=some ⟨setT (envR s) 6 (.fn 33 [] [.bp 0 0,.bp 1 0,.bp 2 0]),[.cells 34 [.int .i64 0,.int .i64 0,.int .i64 0,.str [],.int .i64 0,.int .i64 0,.str [],.int .i64 0,.str [],.str [],.nils],.cells 3 [.int .i64 0],.cells 24 [.int .i64 0]]⟩:=rfl
 unfold runCat
 rw [hcp,hcode]
 have ht:=op_start_badE s hs h0
 have hev2:∃ (e':List PV),evL CC (fpart Try.f14 [1,1]) ⟨setT (envR s) 6 (.fn 33 [] [.bp 0 0,.bp 1 0,.bp 2 0]),[.cells 34 [.int .i64 0,.int .i64 0,.int .i64 0,.str [],.int .i64 0,.int .i64 0,.str [],.int .i64 0,.str [],.str [],.nils],.cells 3 [.int .i64 0],.cells 24 [.int .i64 0]]⟩=some (.pan (fltV (toks s).2.1 (toks s).2.2),⟨e',[.cells 34 [.int .i64 0,.int .i64 0,.int .i64 0,.str [],.int .i64 0,.int .i64 0,.str [],.int .i64 0,.str [],.str [],.nils],.cells 3 [.int .i64 0],.cells 24 [.int .i64 0]]⟩)∧getT e' 2=.bp 0 0∧getT e' 3=.bp 1 0∧getT e' 4=.bp 2 0:=by
  simp only [fpart,part',Try.f14,Option.getD]
  unfold envR
  obtain ⟨ev,eo,so,co,⟨hev,hco⟩,R⟩:=RULES CC;rw [<- hev]
  rw [<- hco] at ht
  simp only [S9,R,seval,PY,pbp,dynR,ht]
  exact ⟨_,rfl,by simp only [S7,R,seval];try rfl,by simp only [S7,R,seval];try rfl,by simp only [S7,R,seval];try rfl⟩
 obtain ⟨e',he,k2,k3,k4⟩:=hev2
 simp only
 rw [he]
 exact postE_pan _ _ e' _ rfl rfl _ k2 k3 k4
end Go.HH
namespace Go.HH
open Go Go.Proofs
set_option maxRecDepth 100000
set_option linter.unusedVariables false
def rkN:NT->Nat
 | .expr=>10 | .chain true=>9 | .chain false=>8 | .chainL _ _=>1 | .not=>7 | .cmp=>6 | .sum=>5 | .sumL _=>1 | .prod=>4 | .prodL _=>1 | .un=>3 | .prim=>2
theorem bind_out {α β:Type} {r:PR α} {f:α->Nat->PR β} (h:r≠.out) (h2:∀ a i,r=.ok a i->f a i≠.out):r.bind f≠.out:=by
 cases r with
 | ok a i=>exact h2 a i rfl
 | bad t e=>intro e;cases e
 | out=>exact absurd rfl h
theorem mustP_out {L:List Tk} {k:Nat} {w:List UInt8} {i:Nat}:mustP L k w i≠.out:=by unfold mustP;split <;> (intro e;cases e)
theorem rk_opd (b:Bool):rkN (opdNT b)+1<=rkN (.chain b):=by cases b <;> decide
theorem rk_le (nt:NT):rkN nt<=10∧1<=rkN nt:=by
 cases nt with
 | chain b=>cases b <;> simp [rkN]
 | _=>simp [rkN]
theorem numP_out {L:List Tk} {lo hi i:Nat}:numP L lo hi i≠.out:=by
 unfold numP
 split
 · split <;> (intro e;cases e)
 · intro e;cases e
theorem nameP_out {L:List Tk} {i:Nat}:nameP L i≠.out:=by
 unfold nameP
 split
 · split <;> (intro e;cases e)
 · intro e;cases e
theorem oneP_out {L:List Tk} {k i:Nat}:oneP L k i≠.out:=by unfold oneP;split <;> (intro e;cases e)
theorem twoP_out {L:List Tk} {hi i:Nat}:twoP L hi i≠.out:=by
 unfold twoP
 split
 · intro e;cases e
 · exact numP_out
theorem pok_out {α:Type} {a:α} {i:Nat}:PR.ok a i≠.out:=fun e=>nomatch e
theorem pathP_out {L:List Tk} {i:Nat}:pathP L i≠.out:=bind_out numP_out fun _ _ _=>bind_out mustP_out fun _ _ _=>bind_out nameP_out fun _ _ _=>bind_out mustP_out fun _ _ _=>bind_out nameP_out fun _ _ _=>pok_out
theorem clockP_out {L:List Tk} {i:Nat}:clockP L i≠.out:=bind_out twoP_out fun _ _ _=>bind_out mustP_out fun _ _ _=>bind_out twoP_out fun _ _ _=>pok_out
theorem dayP_out {L:List Tk} {i:Nat}:dayP L i≠.out:=by unfold dayP;split <;> (intro e;cases e)
end Go.HH
namespace Go.HH
open Go Go.Proofs
set_option maxRecDepth 100000
set_option linter.unusedVariables false
theorem dayP_lt' {L:List Tk} (hT:TokOK L) {i a j:Nat} (hi:i < L.length) (h:dayP L i=.ok a j):i < j∧j < L.length:=by
 unfold dayP at h
 split at h
 · rename_i k hp
   obtain ⟨_,_,h4⟩:=pickW_lt hp
   have:=isT_lt hT hi h4 (by decide)
   injection h with _ h
   omega
 · cases h
theorem daysL_out {L:List Tk} (hT:TokOK L):∀ (n m i:Nat),i < L.length->L.length - i<=n->daysL L n m i≠.out:=by
 intro n
 induction n with
 | zero=>intro m i hi h;omega
 | succ n ih=>
  intro m i hi h
  rw [daysL]
  refine bind_out dayP_out fun k j hj=>?_
  have h1:=dayP_lt' hT hi hj
  split
  · rename_i hk
    have h2:=isT_lt hT h1.2 hk (by decide)
    exact ih _ _ h2 (by omega)
  · exact pok_out
theorem daysP_out {L:List Tk} (hT:TokOK L) {i:Nat} (hi:i < L.length):daysP L i≠.out:=daysL_out hT _ _ _ hi (by omega)
theorem condP_out {L:List Tk} (hT:TokOK L) {i:Nat} (hi:i < L.length):condP L i≠.out:=by
 unfold condP
 split
 · exact pok_out
 split
 · exact pok_out
 split
 · exact bind_out mustP_out fun _ _ _=>bind_out nameP_out fun _ _ _=>pok_out
 split
 · exact bind_out clockP_out fun _ _ _=>bind_out mustP_out fun _ _ _=>bind_out clockP_out fun _ _ _=>pok_out
 split
 · rename_i hk
   exact bind_out (daysP_out hT (isT_lt hT hi hk (by decide))) fun _ _ _=>pok_out
 split
 · split <;> exact pok_out
 · intro e;cases e
end Go.HH
namespace Go.HH
open Go Go.Proofs
set_option maxRecDepth 100000
set_option linter.unusedVariables false
theorem pz_out {L:List Tk} (hT:TokOK L):∀ (n:Nat) (nt:NT) (o i:Nat),i < L.length->12 * (L.length - i)+rkN nt<=n->pz L n nt o i≠.out:=by
 intro n
 induction n with
 | zero=>intro nt o i hi h;have:=rk_le nt;omega
 | succ n ih=>
  intro nt o i hi h
  have lt:=fun (nt:NT) (o i:Nat) (a:Tr) (j:Nat) hi (r:pz L n nt o i=.ok a j)=>pz_lt hT n nt o i a j hi r
  cases nt with
  | expr=>
   have hr:rkN .expr=10:=rfl
   have hr2:rkN (.chain true)=9:=rfl
   rw [pz]
   split
   · rename_i hk
     have h0:=isT_lt hT hi hk (by decide)
     split
     · refine bind_out (ih _ _ _ h0 (by omega)) fun _ i1 r1=>bind_out mustP_out fun _ i2 r2=>?_
       have h1:=lt _ _ _ _ _ h0 r1
       have h2:=mustP_lt hT h1.2 (by decide) r2
       refine bind_out (ih _ _ _ h2.2 (by omega)) fun _ i3 r3=>bind_out mustP_out fun _ i4 r4=>?_
       have h3:=lt _ _ _ _ _ h2.2 r3
       have h4:=mustP_lt hT h3.2 (by decide) r4
       exact bind_out (ih _ _ _ h4.2 (by omega)) fun _ _ _=>pok_out
     · intro e;cases e
   · exact ih _ _ _ hi (by omega)
  | chain b=>
   have hr:=rk_opd b
   have hr2:rkN (.chainL b [])=1:=rfl
   rw [pz]
   refine bind_out (ih _ _ _ hi (by omega)) fun a i1 r1=>?_
   have h1:=lt _ _ _ _ _ hi r1
   have hr3:rkN (.chainL b [a])=1:=rfl
   have hr4:=(rk_le (opdNT b)).2
   exact ih _ _ _ h1.2 (by omega)
  | chainL b acc=>
   have hr:rkN (.chainL b acc)=1:=rfl
   rw [pz]
   split
   · rename_i hk
     have h0:=isT_lt hT hi hk (by decide)
     split
     · intro e;cases e
     · have hr4:=(rk_le (opdNT b)).1
       refine bind_out (ih _ _ _ h0 (by omega)) fun a i1 r1=>?_
       have h1:=lt _ _ _ _ _ h0 r1
       have hr3:rkN (.chainL b (acc++[a]))=1:=rfl
       exact ih _ _ _ h1.2 (by omega)
   · exact pok_out
  | not=>
   have hr:rkN .not=7:=rfl
   have hr2:rkN .cmp=6:=rfl
   rw [pz]
   split
   · rename_i hk
     have h0:=isT_lt hT hi hk (by decide)
     split
     · exact bind_out (ih _ _ _ h0 (by omega)) fun _ _ _=>pok_out
     · intro e;cases e
   · exact ih _ _ _ hi (by omega)
  | cmp=>
   have hr:rkN .cmp=6:=rfl
   have hr2:rkN .sum=5:=rfl
   rw [pz]
   refine bind_out (ih _ _ _ hi (by omega)) fun a i1 r1=>?_
   have h1:=lt _ _ _ _ _ hi r1
   split
   · rename_i k hp
     obtain ⟨_,_,h4⟩:=pickW_lt hp
     have h0:=isT_lt hT h1.2 h4 (by decide)
     exact bind_out (ih _ _ _ h0 (by omega)) fun _ _ _=>pok_out
   · exact pok_out
  | sum=>
   have hr:rkN .sum=5:=rfl
   have hr2:rkN .prod=4:=rfl
   rw [pz]
   refine bind_out (ih _ _ _ hi (by omega)) fun a i1 r1=>?_
   have h1:=lt _ _ _ _ _ hi r1
   have hr3:rkN (.sumL a)=1:=rfl
   exact ih _ _ _ h1.2 (by omega)
  | sumL e=>
   have hr:rkN (.sumL e)=1:=rfl
   have hr2:rkN .prod=4:=rfl
   rw [pz]
   split
   · rename_i hk
     have h0:=isT_lt hT hi hk (by decide)
     refine bind_out (ih _ _ _ h0 (by omega)) fun a i1 r1=>?_
     have h1:=lt _ _ _ _ _ h0 r1
     have hr3:rkN (.sumL (nodT 11 [e,a]))=1:=rfl
     exact ih _ _ _ h1.2 (by omega)
   split
   · rename_i hk
     have h0:=isT_lt hT hi hk (by decide)
     refine bind_out (ih _ _ _ h0 (by omega)) fun a i1 r1=>?_
     have h1:=lt _ _ _ _ _ h0 r1
     have hr3:rkN (.sumL (nodT 12 [e,a]))=1:=rfl
     exact ih _ _ _ h1.2 (by omega)
   · exact pok_out
  | prod=>
   have hr:rkN .prod=4:=rfl
   have hr2:rkN .un=3:=rfl
   rw [pz]
   refine bind_out (ih _ _ _ hi (by omega)) fun a i1 r1=>?_
   have h1:=lt _ _ _ _ _ hi r1
   have hr3:rkN (.prodL a)=1:=rfl
   exact ih _ _ _ h1.2 (by omega)
  | prodL e=>
   have hr:rkN (.prodL e)=1:=rfl
   have hr2:rkN .un=3:=rfl
   rw [pz]
   split
   · rename_i hk
     have h0:=isT_lt hT hi hk (by decide)
     refine bind_out (ih _ _ _ h0 (by omega)) fun a i1 r1=>?_
     have h1:=lt _ _ _ _ _ h0 r1
     have hr3:rkN (.prodL (nodT 13 [e,a]))=1:=rfl
     exact ih _ _ _ h1.2 (by omega)
   · exact pok_out
  | un=>
   have hr:rkN .un=3:=rfl
   have hr2:rkN .prim=2:=rfl
   rw [pz]
   split
   · rename_i hk
     have h0:=isT_lt hT hi hk (by decide)
     split
     · exact pok_out
     split
     · exact bind_out (ih _ _ _ h0 (by omega)) fun _ _ _=>pok_out
     · intro e;cases e
   · exact ih _ _ _ hi (by omega)
  | prim=>
   have hr:rkN .prim=2:=rfl
   have hr2:rkN .expr=10:=rfl
   rw [pz]
   split
   · exact pok_out
   split
   · exact bind_out pathP_out fun _ _ _=>pok_out
   split
   · exact pok_out
   split
   · exact bind_out numP_out fun _ _ _=>pok_out
   split
   · rename_i hk
     have h0:=isT_lt hT hi hk (by decide)
     split
     · exact bind_out (ih _ _ _ h0 (by omega)) fun _ _ _=>bind_out mustP_out fun _ _ _=>pok_out
     · intro e;cases e
   · exact condP_out hT hi
end Go.HH
namespace Go.HH
open Go Go.Proofs
set_option maxRecDepth 100000
set_option linter.unusedVariables false
theorem bad_out {α:Type} {t:Nat} {e:Int}:(PR.bad t e:PR α)≠.out:=fun e=>nomatch e
def fuN (L:List Tk):Nat:=12 * L.length+10
theorem wholeP_out {L:List Tk} (hT:TokOK L) {i:Nat} (hi:i < L.length):wholeP L (fuN L) i≠.out:=by
 unfold wholeP
 refine bind_out (pz_out hT _ _ _ _ hi (by unfold fuN;have:rkN .expr=10:=rfl;omega)) fun a j _=>?_
 split
 · exact pok_out
 · exact bad_out
theorem triggerP_out {L:List Tk} (hT:TokOK L) {i:Nat} (hi:i < L.length):triggerP L i≠.out:=by
 unfold triggerP
 split
 · exact bind_out pathP_out fun _ _ _=>pok_out
 split
 · exact bind_out pathP_out fun _ _ _=>pok_out
 split
 · rename_i hk
   refine bind_out clockP_out fun _ j r=>?_
   split
   · rename_i hk2
     exact bind_out (daysP_out hT (isT_lt hT (clockP_lt hT (isT_lt hT hi hk (by decide)) r).2.1 hk2 (by decide))) fun _ _ _=>pok_out
   · exact pok_out
 split
 · split
   · exact bind_out nameP_out fun _ _ _=>pok_out
   · exact pok_out
 split
 · exact pok_out
 · exact bind_out mustP_out fun _ _ _=>bind_out numP_out fun _ _ _=>pok_out
theorem stepP_out {L:List Tk} (hT:TokOK L) {i:Nat} (hi:i < L.length):stepP L (fuN L) i≠.out:=by
 unfold stepP
 split
 · rename_i hk
   have h0:=isT_lt hT hi hk (by decide)
   refine bind_out pathP_out fun _ j r=>bind_out mustP_out fun _ j2 r2=>?_
   have h1:=(pathP_lt hT h0 r).2.1
   exact bind_out (wholeP_out hT (mustP_lt hT h1 (by decide) r2).2) fun _ _ _=>pok_out
 split
 · rename_i hk
   have h0:=isT_lt hT hi hk (by decide)
   refine bind_out pathP_out fun _ j r=>?_
   have h1:=(pathP_lt hT h0 r).2.1
   split
   · rename_i hk2
     exact bind_out (wholeP_out hT (isT_lt hT h1 hk2 (by decide))) fun _ _ _=>bind_out mustP_out fun _ _ _=>pok_out
   · exact pok_out
 split
 · exact bind_out nameP_out fun _ _ _=>pok_out
 split
 · exact bind_out nameP_out fun _ _ _=>pok_out
 · exact bind_out mustP_out fun _ _ _=>bind_out oneP_out fun _ _ _=>pok_out
theorem severalP_out {α:Type} {L:List Tk} (hT:TokOK L) {w:List UInt8} {part:Nat->PR α} (hp:∀ i,i < L.length->part i≠.out) (hlt:∀ i a j,i < L.length->part i=.ok a j->j < L.length):∀ (m:Nat) (acc:List α) (i:Nat),i < L.length->acc.length<=8->9<=acc.length+m->severalP L w part m acc i≠.out:=by
 intro m
 induction m with
 | zero=>intro acc i hi h1 h2;omega
 | succ m ih=>
  intro acc i hi h1 h2
  rw [severalP]
  split
  · split
    · exact bad_out
    · refine bind_out mustP_out fun _ j r=>?_
      have h3:=(mustP_lt hT hi (by decide) r).2
      refine bind_out (hp _ h3) fun a j2 r2=>bind_out mustP_out fun _ j3 r3=>?_
      have h4:=hlt _ _ _ h3 r2
      exact ih _ _ (mustP_lt hT h4 (by decide) r3).2 (by rw [List.length_append,List.length_singleton];omega) (by rw [List.length_append,List.length_singleton];omega)
  · exact pok_out
theorem ruleP_out {L:List Tk} (hT:TokOK L) (rs:List Rl) {i:Nat} (hi:i < L.length):ruleP L (fuN L) rs i≠.out:=by
 unfold ruleP
 split
 · exact bad_out
 refine bind_out mustP_out fun _ i0 r0=>bind_out nameP_out fun nm i1 r1=>?_
 have h0:=(mustP_lt hT hi (by decide) r0).2
 have h1:=(nameP_lt hT h0 r1).2
 split
 · exact bad_out
 refine bind_out ?_ fun pr i2 r2=>bind_out mustP_out fun _ i3 r3=>?_
 · split
   · exact numP_out
   · exact pok_out
 have h2:i2 < L.length:=by
  split at r2
  · rename_i hk
    exact (numP_lt hT (isT_lt hT h1 hk (by decide)) r2).2.1
  · injection r2 with _ r2
    exact r2 ▸ h1
 have h3:=(mustP_lt hT h2 (by decide) r3).2
 refine bind_out (severalP_out hT (fun i hi=>triggerP_out hT hi) (fun i a j hi h=>triggerP_lt hT hi h) _ _ _ h3 (by simp) (by simp)) fun on i4 r4=>?_
 have h4:=severalP_lt hT (fun i a j hi h=>triggerP_lt hT hi h) _ _ _ _ _ h3 (by simp) r4
 refine bind_out ?_ fun e i5 r5=>?_
 · split
   · rename_i hk
     exact bind_out (wholeP_out hT (isT_lt hT h4.1 hk (by decide))) fun _ _ _=>bind_out mustP_out fun _ _ _=>pok_out
   · exact pok_out
 have h5:i5 < L.length:=by
  split at r5
  · rename_i hk
    obtain ⟨_,i6,r6,r7⟩:=bind_ok r5
    obtain ⟨_,i8,r8,r9⟩:=bind_ok r7
    have h6:=wholeP_lt hT (isT_lt hT h4.1 hk (by decide)) r6
    have h8:=(mustP_lt hT h6.2 (by decide) r8).2
    injection r9 with _ r9
    exact r9 ▸ h8
  · injection r5 with _ r5
    exact r5 ▸ h4.1
 exact bind_out (severalP_out hT (fun i hi=>stepP_out hT hi) (fun i a j hi h=>stepP_lt hT hi h) _ _ _ h5 (by simp) (by simp)) fun _ _ _=>bind_out mustP_out fun _ _ _=>pok_out
theorem rulesP_out {L:List Tk} (hT:TokOK L):∀ (m:Nat) (rs:List Rl) (i:Nat),i < L.length->rs.length<=40->42<=rs.length+m->rulesP L (fuN L) m rs i≠.out:=by
 intro m
 induction m with
 | zero=>intro rs i hi h1 h2;omega
 | succ m ih=>
  intro rs i hi h1 h2
  rw [rulesP]
  split
  · exact pok_out
  · refine bind_out (ruleP_out hT rs hi) fun r j hr=>?_
    have h3:=ruleP_lt hT hi hr
    exact ih _ _ h3.1 (by rw [List.length_append,List.length_singleton];omega) (by rw [List.length_append,List.length_singleton];omega)
def rulesA (s:List UInt8):List Rl×Nat×Int:=if (toks s).2.2=0 then (match rulesP (toks s).1 (fuN (toks s).1) 42 [] 0 with
 | .ok l _=>(l,0,0)
 | .bad t c=>([],t,c)
 | .out=>([],0,0)) else ([],(toks s).2.1,(toks s).2.2)
def exprA (s:List UInt8):Tr×Nat×Int:=if (toks s).2.2=0 then (match (wholeP (toks s).1 (fuN (toks s).1) 0).bind fun a i=>(oneP (toks s).1 0 i).bind fun _ j=>.ok a j with
 | .ok a _=>(a,0,0)
 | .bad t c=>(zT,t,c)
 | .out=>(zT,0,0)) else (zT,(toks s).2.1,(toks s).2.2)
end Go.HH
namespace Go.HH
open Go Go.Proofs
set_option maxRecDepth 100000
set_option linter.unusedVariables false
def PR.mapB {α:Type} (f:Nat->Nat) (r:PR α):PR α:=match r with
 | .ok a i=>.ok a i
 | .bad t e=>.bad (f t) e
 | .out=>.out
def mvT (f:Nat->Nat) (L:List Tk):List Tk:=L.map fun t=>(t.1,t.2.1,f t.2.2)
theorem bind_mb {α β:Type} {f:Nat->Nat} {r' r:PR α} {k' k:α->Nat->PR β} (h:r'=r.mapB f) (h2:∀ a i,r=.ok a i->k' a i=(k a i).mapB f):r'.bind k'=(r.bind k).mapB f:=by
 subst h
 cases r with
 | ok a i=>exact h2 a i rfl
 | bad t e=>rfl
 | out=>rfl
section
variable {f:Nat->Nat} {L:List Tk}
theorem mv_len:(mvT f L).length=L.length:=by unfold mvT;rw [List.length_map]
theorem mv_kind (i:Nat):(tokAt (mvT f L) i).1=(tokAt L i).1:=by
 unfold tokAt mvT
 rw [List.getD_eq_getElem?_getD,List.getD_eq_getElem?_getD,List.getElem?_map]
 cases L[i]? <;> rfl
theorem mv_text (i:Nat):(tokAt (mvT f L) i).2.1=(tokAt L i).2.1:=by
 unfold tokAt mvT
 rw [List.getD_eq_getElem?_getD,List.getD_eq_getElem?_getD,List.getElem?_map]
 cases L[i]? <;> rfl
theorem mv_at {i:Nat} (hi:i < L.length):atT (mvT f L) i=f (atT L i):=by
 unfold atT tokAt mvT
 rw [List.getD_eq_getElem?_getD,List.getD_eq_getElem?_getD,List.getElem?_map,List.getElem?_eq_getElem hi]
 rfl
theorem mv_isT (k:Nat) (w:List UInt8) (i:Nat):isT (mvT f L) k w i=isT L k w i:=by unfold isT;rw [mv_kind,mv_text]
theorem mv_plain (i:Nat):plainB (mvT f L) i=plainB L i:=by unfold plainB;rw [mv_kind,mv_isT]
theorem mv_pick (k i:Nat):∀ (l:List (List UInt8)) (n:Nat),pickW (mvT f L) k i l n=pickW L k i l n
 | [],_=>rfl
 | w :: l,n=>by unfold pickW;rw [mv_isT,mv_pick k i l]
theorem mustP_mb {k:Nat} {w:List UInt8} {i:Nat} (hi:i < L.length):mustP (mvT f L) k w i=(mustP L k w i).mapB f:=by
 unfold mustP
 rw [mv_isT,mv_at hi]
 split <;> rfl
theorem nameP_mb {i:Nat} (hi:i < L.length):nameP (mvT f L) i=(nameP L i).mapB f:=by
 unfold nameP
 rw [mv_kind,mv_text,mv_at hi]
 split
 · split <;> rfl
 · rfl
theorem numP_mb {lo hi' i:Nat} (hi:i < L.length):numP (mvT f L) lo hi' i=(numP L lo hi' i).mapB f:=by
 unfold numP
 rw [mv_kind,mv_text,mv_at hi]
 split
 · split <;> rfl
 · rfl
theorem twoP_mb {hi' i:Nat} (hi:i < L.length):twoP (mvT f L) hi' i=(twoP L hi' i).mapB f:=by
 unfold twoP
 rw [mv_kind,mv_text,mv_at hi,numP_mb hi]
 split <;> rfl
theorem pathP_mb (hT:TokOK L) {i:Nat} (hi:i < L.length):pathP (mvT f L) i=(pathP L i).mapB f:=
 bind_mb (numP_mb hi) fun _ _ r1=>have h1:=(numP_lt hT hi r1).2.1
 bind_mb (mustP_mb h1) fun _ _ r2=>have h2:=(mustP_lt hT h1 (by decide) r2).2
 bind_mb (nameP_mb h2) fun _ _ r3=>have h3:=(nameP_lt hT h2 r3).2
 bind_mb (mustP_mb h3) fun _ _ r4=>have h4:=(mustP_lt hT h3 (by decide) r4).2
 bind_mb (nameP_mb h4) fun _ _ r5=>rfl
theorem clockP_mb (hT:TokOK L) {i:Nat} (hi:i < L.length):clockP (mvT f L) i=(clockP L i).mapB f:=
 bind_mb (twoP_mb hi) fun _ _ r1=>have h1:=(twoP_lt hT hi r1).2.1
 bind_mb (mustP_mb h1) fun _ _ r2=>have h2:=(mustP_lt hT h1 (by decide) r2).2
 bind_mb (twoP_mb h2) fun _ _ r3=>rfl
theorem dayP_mb {i:Nat} (hi:i < L.length):dayP (mvT f L) i=(dayP L i).mapB f:=by
 unfold dayP
 rw [mv_pick,mv_at hi]
 cases pickW L 1 i dayWs 0 <;> rfl
theorem daysL_mb (hT:TokOK L):∀ (n m i:Nat),i < L.length->daysL (mvT f L) n m i=(daysL L n m i).mapB f
 | 0,_,_,_=>rfl
 | n+1,m,i,hi=>by
  rw [daysL,daysL]
  refine bind_mb (dayP_mb hi) fun k j hj=>?_
  have h1:=dayP_lt' hT hi hj
  rw [mv_isT]
  split
  · rename_i hk
    exact daysL_mb hT n _ _ (isT_lt hT h1.2 hk (by decide))
  · rfl
theorem daysP_mb (hT:TokOK L) {i:Nat} (hi:i < L.length):daysP (mvT f L) i=(daysP L i).mapB f:=by
 unfold daysP
 rw [mv_len]
 exact daysL_mb hT _ _ _ hi
theorem condP_mb (hT:TokOK L) {i:Nat} (hi:i < L.length):condP (mvT f L) i=(condP L i).mapB f:=by
 unfold condP
 simp only [mv_isT,mv_pick]
 split
 · rfl
 split
 · rfl
 split
 · rename_i hk
   have h0:=isT_lt hT hi hk (by decide)
   exact bind_mb (mustP_mb h0) fun _ _ r1=>have h1:=(mustP_lt hT h0 (by decide) r1).2
    bind_mb (nameP_mb h1) fun _ _ r2=>rfl
 split
 · rename_i hk
   have h0:=isT_lt hT hi hk (by decide)
   exact bind_mb (clockP_mb hT h0) fun _ _ r1=>have h1:=(clockP_lt hT h0 r1).2.1
    bind_mb (mustP_mb h1) fun _ _ r2=>have h2:=(mustP_lt hT h1 (by decide) r2).2
    bind_mb (clockP_mb hT h2) fun _ _ _=>rfl
 split
 · rename_i hk
   exact bind_mb (daysP_mb hT (isT_lt hT hi hk (by decide))) fun _ _ _=>rfl
 split
 · cases pickW L 1 (i+1) roleWs 0 <;> rfl
 · rw [mv_at hi];rfl
theorem pz_mb (hT:TokOK L):∀ (n:Nat) (nt:NT) (o i:Nat),i < L.length->pz (mvT f L) n nt o i=(pz L n nt o i).mapB f:=by
 intro n
 induction n with
 | zero=>intro nt o i hi;rfl
 | succ n ih=>
  intro nt o i hi
  have lt:=fun (nt:NT) (o i:Nat) (a:Tr) (j:Nat) hi (r:pz L n nt o i=.ok a j)=>pz_lt hT n nt o i a j hi r
  cases nt with
  | expr=>
   rw [pz,pz,mv_isT]
   split
   · rename_i hk
     have h0:=isT_lt hT hi hk (by decide)
     split
     · refine bind_mb (ih _ _ _ h0) fun _ i1 r1=>?_
       have h1:=lt _ _ _ _ _ h0 r1
       refine bind_mb (mustP_mb h1.2) fun _ i2 r2=>?_
       have h2:=mustP_lt hT h1.2 (by decide) r2
       refine bind_mb (ih _ _ _ h2.2) fun _ i3 r3=>?_
       have h3:=lt _ _ _ _ _ h2.2 r3
       refine bind_mb (mustP_mb h3.2) fun _ i4 r4=>?_
       have h4:=mustP_lt hT h3.2 (by decide) r4
       exact bind_mb (ih _ _ _ h4.2) fun _ _ _=>rfl
     · rw [mv_at hi];rfl
   · exact ih _ _ _ hi
  | chain b=>
   rw [pz,pz]
   refine bind_mb (ih _ _ _ hi) fun a i1 r1=>?_
   exact ih _ _ _ (lt _ _ _ _ _ hi r1).2
  | chainL b acc=>
   rw [pz,pz,mv_isT]
   split
   · rename_i hk
     have h0:=isT_lt hT hi hk (by decide)
     split
     · rw [mv_at hi];rfl
     · refine bind_mb (ih _ _ _ h0) fun a i1 r1=>?_
       exact ih _ _ _ (lt _ _ _ _ _ h0 r1).2
   · rfl
  | not=>
   rw [pz,pz,mv_isT]
   split
   · rename_i hk
     have h0:=isT_lt hT hi hk (by decide)
     split
     · exact bind_mb (ih _ _ _ h0) fun _ _ _=>rfl
     · rw [mv_at hi];rfl
   · exact ih _ _ _ hi
  | cmp=>
   rw [pz,pz]
   refine bind_mb (ih _ _ _ hi) fun a i1 r1=>?_
   have h1:=lt _ _ _ _ _ hi r1
   rw [mv_pick]
   cases hp:pickW L 4 i1 cmpWs 0 with
   | some k=>
    obtain ⟨_,_,h4⟩:=pickW_lt hp
    have h0:=isT_lt hT h1.2 h4 (by decide)
    exact bind_mb (ih _ _ _ h0) fun _ _ _=>rfl
   | none=>rfl
  | sum=>
   rw [pz,pz]
   refine bind_mb (ih _ _ _ hi) fun a i1 r1=>?_
   exact ih _ _ _ (lt _ _ _ _ _ hi r1).2
  | sumL e=>
   rw [pz,pz,mv_isT,mv_isT]
   split
   · rename_i hk
     have h0:=isT_lt hT hi hk (by decide)
     refine bind_mb (ih _ _ _ h0) fun a i1 r1=>?_
     exact ih _ _ _ (lt _ _ _ _ _ h0 r1).2
   split
   · rename_i hk
     have h0:=isT_lt hT hi hk (by decide)
     refine bind_mb (ih _ _ _ h0) fun a i1 r1=>?_
     exact ih _ _ _ (lt _ _ _ _ _ h0 r1).2
   · rfl
  | prod=>
   rw [pz,pz]
   refine bind_mb (ih _ _ _ hi) fun a i1 r1=>?_
   exact ih _ _ _ (lt _ _ _ _ _ hi r1).2
  | prodL e=>
   rw [pz,pz,mv_isT]
   split
   · rename_i hk
     have h0:=isT_lt hT hi hk (by decide)
     refine bind_mb (ih _ _ _ h0) fun a i1 r1=>?_
     exact ih _ _ _ (lt _ _ _ _ _ h0 r1).2
   · rfl
  | un=>
   rw [pz,pz,mv_isT,mv_plain,mv_text]
   split
   · rename_i hk
     have h0:=isT_lt hT hi hk (by decide)
     split
     · rfl
     split
     · exact bind_mb (ih _ _ _ h0) fun _ _ _=>rfl
     · rw [mv_at hi];rfl
   · exact ih _ _ _ hi
  | prim=>
   rw [pz,pz,mv_isT,mv_isT,mv_plain,mv_text,mv_kind]
   split
   · rfl
   split
   · exact bind_mb (pathP_mb hT hi) fun _ _ _=>rfl
   split
   · rfl
   split
   · rename_i hk
     exact bind_mb (numP_mb (isT_lt hT hi hk (by decide))) fun _ _ _=>rfl
   split
   · rename_i hk
     have h0:=isT_lt hT hi hk (by decide)
     split
     · refine bind_mb (ih _ _ _ h0) fun _ _ r1=>?_
       exact bind_mb (mustP_mb (lt _ _ _ _ _ h0 r1).2) fun _ _ _=>rfl
     · rw [mv_at hi];rfl
   · exact condP_mb hT hi
theorem wholeP_mb (hT:TokOK L) {n i:Nat} (hi:i < L.length):wholeP (mvT f L) n i=(wholeP L n i).mapB f:=by
 unfold wholeP
 refine bind_mb (pz_mb hT _ _ _ _ hi) fun a j _=>?_
 rw [mv_at hi]
 split <;> rfl
theorem triggerP_mb (hT:TokOK L) {i:Nat} (hi:i < L.length):triggerP (mvT f L) i=(triggerP L i).mapB f:=by
 unfold triggerP
 simp only [mv_isT,mv_kind]
 split
 · rename_i hk
   exact bind_mb (pathP_mb hT (isT_lt hT hi hk (by decide))) fun _ _ _=>rfl
 split
 · rename_i hk
   exact bind_mb (pathP_mb hT (isT_lt hT hi hk (by decide))) fun _ _ _=>rfl
 split
 · rename_i hk
   have h0:=isT_lt hT hi hk (by decide)
   refine bind_mb (clockP_mb hT h0) fun _ j r=>?_
   have h1:=(clockP_lt hT h0 r).2.1
   split
   · rename_i hk2
     exact bind_mb (daysP_mb hT (isT_lt hT h1 hk2 (by decide))) fun _ _ _=>rfl
   · rfl
 split
 · rename_i hk
   split
   · exact bind_mb (nameP_mb (isT_lt hT hi hk (by decide))) fun _ _ _=>rfl
   · rfl
 split
 · rfl
 · exact bind_mb (mustP_mb hi) fun _ _ r=>bind_mb (numP_mb (mustP_lt hT hi (by decide) r).2) fun _ _ _=>rfl
theorem stepP_mb (hT:TokOK L) {n i:Nat} (hi:i < L.length):stepP (mvT f L) n i=(stepP L n i).mapB f:=by
 unfold stepP
 simp only [mv_isT]
 split
 · rename_i hk
   have h0:=isT_lt hT hi hk (by decide)
   refine bind_mb (pathP_mb hT h0) fun _ j r=>?_
   have h1:=(pathP_lt hT h0 r).2.1
   refine bind_mb (mustP_mb h1) fun _ j2 r2=>?_
   exact bind_mb (wholeP_mb hT (mustP_lt hT h1 (by decide) r2).2) fun _ _ _=>rfl
 split
 · rename_i hk
   have h0:=isT_lt hT hi hk (by decide)
   refine bind_mb (pathP_mb hT h0) fun _ j r=>?_
   have h1:=(pathP_lt hT h0 r).2.1
   split
   · rename_i hk2
     have h2:=isT_lt hT h1 hk2 (by decide)
     refine bind_mb (wholeP_mb hT h2) fun _ _ r2=>?_
     exact bind_mb (mustP_mb (wholeP_lt hT h2 r2).2) fun _ _ _=>rfl
   · rfl
 split
 · rename_i hk
   exact bind_mb (nameP_mb (isT_lt hT hi hk (by decide))) fun _ _ _=>rfl
 split
 · rename_i hk
   exact bind_mb (nameP_mb (isT_lt hT hi hk (by decide))) fun _ _ _=>rfl
 · refine bind_mb (mustP_mb hi) fun _ j r=>?_
   have h1:=(mustP_lt hT hi (by decide) r).2
   unfold oneP
   rw [mv_kind,mv_at h1]
   split
   · show PR.ok _ _=PR.ok _ _
     rw [mv_text]
   · rfl
theorem severalP_mb {α:Type} (hT:TokOK L) {w:List UInt8} {part' part:Nat->PR α} (hp:∀ i,i < L.length->part' i=(part i).mapB f) (hlt:∀ i a j,i < L.length->part i=.ok a j->j < L.length):∀ (m:Nat) (acc:List α) (i:Nat),i < L.length->severalP (mvT f L) w part' m acc i=(severalP L w part m acc i).mapB f:=by
 intro m
 induction m with
 | zero=>intro acc i hi;rfl
 | succ m ih=>
  intro acc i hi
  rw [severalP,severalP,mv_isT]
  split
  · split
    · rw [mv_at hi];rfl
    · refine bind_mb (mustP_mb hi) fun _ j r=>?_
      have h3:=(mustP_lt hT hi (by decide) r).2
      refine bind_mb (hp _ h3) fun a j2 r2=>?_
      have h4:=hlt _ _ _ h3 r2
      refine bind_mb (mustP_mb h4) fun _ j3 r3=>?_
      exact ih _ _ (mustP_lt hT h4 (by decide) r3).2
  · rfl
theorem ruleP_mb (hT:TokOK L) {n:Nat} (rs:List Rl) {i:Nat} (hi:i < L.length):ruleP (mvT f L) n rs i=(ruleP L n rs i).mapB f:=by
 unfold ruleP
 simp only [mv_isT]
 split
 · rw [mv_at hi];rfl
 refine bind_mb (mustP_mb hi) fun _ i0 r0=>?_
 have h0:=(mustP_lt hT hi (by decide) r0).2
 refine bind_mb (nameP_mb h0) fun nm i1 r1=>?_
 have h1:=(nameP_lt hT h0 r1).2
 split
 · rw [mv_at h0];rfl
 refine bind_mb ?_ fun pr i2 r2=>?_
 · split
   · rename_i hk
     exact numP_mb (isT_lt hT h1 hk (by decide))
   · rfl
 have h2:i2 < L.length:=by
  split at r2
  · rename_i hk
    exact (numP_lt hT (isT_lt hT h1 hk (by decide)) r2).2.1
  · injection r2 with _ r2
    exact r2 ▸ h1
 refine bind_mb (mustP_mb h2) fun _ i3 r3=>?_
 have h3:=(mustP_lt hT h2 (by decide) r3).2
 refine bind_mb (severalP_mb hT (fun i hi=>triggerP_mb hT hi) (fun i a j hi h=>triggerP_lt hT hi h) _ _ _ h3) fun on i4 r4=>?_
 have h4:=severalP_lt hT (fun i a j hi h=>triggerP_lt hT hi h) _ _ _ _ _ h3 (by simp) r4
 refine bind_mb ?_ fun e i5 r5=>?_
 · split
   · rename_i hk
     have h6:=isT_lt hT h4.1 hk (by decide)
     exact bind_mb (wholeP_mb hT h6) fun _ _ r6=>bind_mb (mustP_mb (wholeP_lt hT h6 r6).2) fun _ _ _=>rfl
   · rfl
 have h5:i5 < L.length:=by
  split at r5
  · rename_i hk
    obtain ⟨_,i6,r6,r7⟩:=bind_ok r5
    obtain ⟨_,i8,r8,r9⟩:=bind_ok r7
    have h6:=wholeP_lt hT (isT_lt hT h4.1 hk (by decide)) r6
    have h8:=(mustP_lt hT h6.2 (by decide) r8).2
    injection r9 with _ r9
    exact r9 ▸ h8
  · injection r5 with _ r5
    exact r5 ▸ h4.1
 refine bind_mb (severalP_mb hT (fun i hi=>stepP_mb hT hi) (fun i a j hi h=>stepP_lt hT hi h) _ _ _ h5) fun dos i9 r9=>?_
 have h9:=severalP_lt hT (fun i a j hi h=>stepP_lt hT hi h) _ _ _ _ _ h5 (by simp) r9
 exact bind_mb (mustP_mb h9.1) fun _ _ _=>rfl
theorem rulesP_mb (hT:TokOK L) {n:Nat}:∀ (m:Nat) (rs:List Rl) (i:Nat),i < L.length->rulesP (mvT f L) n m rs i=(rulesP L n m rs i).mapB f:=by
 intro m
 induction m with
 | zero=>intro rs i hi;rfl
 | succ m ih=>
  intro rs i hi
  rw [rulesP,rulesP,mv_kind]
  split
  · rfl
  · refine bind_mb (ruleP_mb hT rs hi) fun r j hr=>?_
    exact ih _ _ (ruleP_lt hT hi hr).1
end
end Go.HH
