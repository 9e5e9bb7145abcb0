/-
  What the law needs, packed: E13 E14 E15 E16 E17 E18.
-/
import Derived.Test.YthjcaihemgllaaaGreatDoorK37
namespace Go.HH
open Go Go.Proofs
set_option maxRecDepth 100000
set_option maxHeartbeats 4000000
set_option linter.unusedSimpArgs false
set_option linter.unusedVariables false
theorem ok_R30_Trigger:fnOK CC Tryz.f34 (Tryz.f34.body.getD .skip)=true:=by kernel_rfl
theorem fat_R30_Trigger:CC.P.funcs[34]?=some Tryz.f34:=by kernel_rfl
def tgE (t:Tg):Int:=if t.k < 1∨6 < t.k then 7 else if tsT t=true then 1 else if t.k=1 then nmE t.key.1 t.key.2.1 t.key.2.2 else if t.k=2 then nmE t.ev.1 t.ev.2.1 t.ev.2.2 else
 if t.k=3 then (if 0<=t.n∧t.n < 1440∧1<=t.m∧t.m<=127 then 0 else 2) else if t.k=4 then (if t.nm=[]∨valB t.nm=true then 0 else 10) else if t.k=6 then (if 0<=t.n∧t.n<=1099511627776 then 0 else 2) else 0
theorem plTg_len {t:Tg} (h:plTg t=true):t.nm.length<=100∧t.key.2.1.length<=100∧t.key.2.2.length<=100∧t.ev.2.1.length<=100∧t.ev.2.2.length<=100:=of_decide_eq_true h
theorem call_R30_Trigger (t:Tg) (hp:plTg t=true):∃ bx,callL CC 34 [tgV t] []=some (.ret (.int .i64 (tgE t)),bx):=by
 have hl:=plTg_len hp
 have osp:=op_R30_TriggerSpare t
 unfold tgE
 obtain ⟨k,key,ev,nm,n,m⟩:=t
 obtain ⟨d,c,a⟩:=key
 obtain ⟨d',c',a'⟩:=ev
 obtain ⟨l1,l2,l3,l4,l5⟩:=hl
 simp only at l1 l2 l3 l4 l5
 have v1:=op_R04_Valid c (by omega)
 have v2:=op_R04_Valid a (by omega)
 have v3:=op_R04_Valid c' (by omega)
 have v4:=op_R04_Valid a' (by omega)
 have v5:=op_R04_Valid nm (by omega)
 have a1:=op_R30_Address d
 have a2:=op_R30_Address d'
 have hn:strP .neq nm []=some (.bool (!(nm == []))):=rfl
 obtain ⟨ne,hne⟩:∃ b,b=(nm == []):=⟨_,rfl⟩
 have hne':nm=[]↔ne=true:=by rw [hne];simp
 rw [<- hne] at hn
 unfold tgV at osp ⊢
 simp only at osp ⊢
 generalize tsT ⟨k,(d,c,a),(d',c',a'),nm,n,m⟩=ts at *
 unfold nmE
 rw [callL_enter (fn:=Tryz.f34) (c:=Tryz.f34.body.getD .skip) rfl rfl fat_R30_Trigger rfl ok_R30_Trigger (Nat.le_of_ble_eq_true rfl)]
 generalize valB c=p1 at *
 generalize valB a=p2 at *
 generalize valB c'=p3 at *
 generalize valB a'=p4 at *
 generalize valB nm=p5 at *
 generalize dvB d=q1 at *
 generalize dvB d'=q2 at *
 by_cases c1:k < 1
 · rw [if_pos (by omega)]
   obtain ⟨ev,eo,so,co,⟨hev,hco⟩,R⟩:=RULES CC;rw [<- hev]
   rw [<- hco] at osp v1 v2 v3 v4 v5 a1 a2
   simp only [fpart,part',Tryz.f34,Option.getD]
   simp only [S8,R,SG,seval,UT,SC,osp,v1,v2,v3,v4,v5,a1,a2,hn,c1]
   exact ⟨_,rfl⟩
 by_cases c2:k > 6
 · rw [if_pos (by omega)]
   obtain ⟨ev,eo,so,co,⟨hev,hco⟩,R⟩:=RULES CC;rw [<- hev]
   rw [<- hco] at osp v1 v2 v3 v4 v5 a1 a2
   simp only [fpart,part',Tryz.f34,Option.getD]
   simp only [S8,R,SG,seval,UT,SC,osp,v1,v2,v3,v4,v5,a1,a2,hn,c1,c2]
   exact ⟨_,rfl⟩
 cases ts with
 | true=>
  rw [if_neg (by omega),if_pos rfl]
  obtain ⟨ev,eo,so,co,⟨hev,hco⟩,R⟩:=RULES CC;rw [<- hev]
  rw [<- hco] at osp v1 v2 v3 v4 v5 a1 a2
  simp only [fpart,part',Tryz.f34,Option.getD]
  simp only [S8,R,SG,seval,UT,SC,osp,v1,v2,v3,v4,v5,a1,a2,hn,c1,c2]
  exact ⟨_,rfl⟩
 | false=>
  by_cases k1:k=1
  · subst k1
    cases q1 with
    | false=>
     rw [if_neg (by omega),if_neg (by simp),if_pos rfl,if_pos rfl]
     obtain ⟨ev,eo,so,co,⟨hev,hco⟩,R⟩:=RULES CC;rw [<- hev]
     rw [<- hco] at osp v1 v2 v3 v4 v5 a1 a2
     simp only [fpart,part',Tryz.f34,Option.getD]
     simp only [S8,R,SG,seval,UT,SC,osp,v1,v2,v3,v4,v5,a1,a2,hn,c1,c2]
     exact ⟨_,rfl⟩
    | true=>
     cases p1 with
     | false=>
      rw [if_neg (by omega),if_neg (by simp),if_pos rfl,if_neg (by simp),if_neg (by simp)]
      obtain ⟨ev,eo,so,co,⟨hev,hco⟩,R⟩:=RULES CC;rw [<- hev]
      rw [<- hco] at osp v1 v2 v3 v4 v5 a1 a2
      simp only [fpart,part',Tryz.f34,Option.getD]
      simp only [S8,R,SG,seval,UT,SC,osp,v1,v2,v3,v4,v5,a1,a2,hn,c1,c2]
      exact ⟨_,rfl⟩
     | true=>
      cases p2 with
      | false=>
       rw [if_neg (by omega),if_neg (by simp),if_pos rfl,if_neg (by simp),if_neg (by simp)]
       obtain ⟨ev,eo,so,co,⟨hev,hco⟩,R⟩:=RULES CC;rw [<- hev]
       rw [<- hco] at osp v1 v2 v3 v4 v5 a1 a2
       simp only [fpart,part',Tryz.f34,Option.getD]
       simp only [S8,R,SG,seval,UT,SC,osp,v1,v2,v3,v4,v5,a1,a2,hn,c1,c2]
       exact ⟨_,rfl⟩
      | true=>
       rw [if_neg (by omega),if_neg (by simp),if_pos rfl,if_neg (by simp),if_pos (by simp)]
       obtain ⟨ev,eo,so,co,⟨hev,hco⟩,R⟩:=RULES CC;rw [<- hev]
       rw [<- hco] at osp v1 v2 v3 v4 v5 a1 a2
       simp only [fpart,part',Tryz.f34,Option.getD]
       simp only [S8,R,SG,seval,UT,SC,osp,v1,v2,v3,v4,v5,a1,a2,hn,c1,c2]
       exact ⟨_,rfl⟩
  by_cases k2:k=2
  · subst k2
    cases q2 with
    | false=>
     rw [if_neg (by omega),if_neg (by simp),if_neg (by omega),if_pos rfl,if_pos rfl]
     obtain ⟨ev,eo,so,co,⟨hev,hco⟩,R⟩:=RULES CC;rw [<- hev]
     rw [<- hco] at osp v1 v2 v3 v4 v5 a1 a2
     simp only [fpart,part',Tryz.f34,Option.getD]
     simp only [S8,R,SG,seval,UT,SC,osp,v1,v2,v3,v4,v5,a1,a2,hn,c1,c2]
     exact ⟨_,rfl⟩
    | true=>
     cases p3 with
     | false=>
      rw [if_neg (by omega),if_neg (by simp),if_neg (by omega),if_pos rfl,if_neg (by simp),if_neg (by simp)]
      obtain ⟨ev,eo,so,co,⟨hev,hco⟩,R⟩:=RULES CC;rw [<- hev]
      rw [<- hco] at osp v1 v2 v3 v4 v5 a1 a2
      simp only [fpart,part',Tryz.f34,Option.getD]
      simp only [S8,R,SG,seval,UT,SC,osp,v1,v2,v3,v4,v5,a1,a2,hn,c1,c2]
      exact ⟨_,rfl⟩
     | true=>
      cases p4 with
      | false=>
       rw [if_neg (by omega),if_neg (by simp),if_neg (by omega),if_pos rfl,if_neg (by simp),if_neg (by simp)]
       obtain ⟨ev,eo,so,co,⟨hev,hco⟩,R⟩:=RULES CC;rw [<- hev]
       rw [<- hco] at osp v1 v2 v3 v4 v5 a1 a2
       simp only [fpart,part',Tryz.f34,Option.getD]
       simp only [S8,R,SG,seval,UT,SC,osp,v1,v2,v3,v4,v5,a1,a2,hn,c1,c2]
       exact ⟨_,rfl⟩
      | true=>
       rw [if_neg (by omega),if_neg (by simp),if_neg (by omega),if_pos rfl,if_neg (by simp),if_pos (by simp)]
       obtain ⟨ev,eo,so,co,⟨hev,hco⟩,R⟩:=RULES CC;rw [<- hev]
       rw [<- hco] at osp v1 v2 v3 v4 v5 a1 a2
       simp only [fpart,part',Tryz.f34,Option.getD]
       simp only [S8,R,SG,seval,UT,SC,osp,v1,v2,v3,v4,v5,a1,a2,hn,c1,c2]
       exact ⟨_,rfl⟩
  by_cases k3:k=3
  · subst k3
    by_cases e0:n < 0
    · rw [if_neg (by omega),if_neg (by simp),if_neg (by omega),if_neg (by omega),if_pos rfl,if_neg (by omega)]
      obtain ⟨ev,eo,so,co,⟨hev,hco⟩,R⟩:=RULES CC;rw [<- hev]
      rw [<- hco] at osp v1 v2 v3 v4 v5 a1 a2
      simp only [fpart,part',Tryz.f34,Option.getD]
      simp only [S8,R,SG,seval,UT,SC,osp,v1,v2,v3,v4,v5,a1,a2,hn,c1,c2,e0]
      exact ⟨_,rfl⟩
    by_cases e1:n ≥ 1440
    · rw [if_neg (by omega),if_neg (by simp),if_neg (by omega),if_neg (by omega),if_pos rfl,if_neg (by omega)]
      obtain ⟨ev,eo,so,co,⟨hev,hco⟩,R⟩:=RULES CC;rw [<- hev]
      rw [<- hco] at osp v1 v2 v3 v4 v5 a1 a2
      simp only [fpart,part',Tryz.f34,Option.getD]
      simp only [S8,R,SG,seval,UT,SC,osp,v1,v2,v3,v4,v5,a1,a2,hn,c1,c2,e0,e1]
      exact ⟨_,rfl⟩
    by_cases e2:m < 1
    · rw [if_neg (by omega),if_neg (by simp),if_neg (by omega),if_neg (by omega),if_pos rfl,if_neg (by omega)]
      obtain ⟨ev,eo,so,co,⟨hev,hco⟩,R⟩:=RULES CC;rw [<- hev]
      rw [<- hco] at osp v1 v2 v3 v4 v5 a1 a2
      simp only [fpart,part',Tryz.f34,Option.getD]
      simp only [S8,R,SG,seval,UT,SC,osp,v1,v2,v3,v4,v5,a1,a2,hn,c1,c2,e0,e1,e2]
      exact ⟨_,rfl⟩
    by_cases e3:m > 127
    · rw [if_neg (by omega),if_neg (by simp),if_neg (by omega),if_neg (by omega),if_pos rfl,if_neg (by omega)]
      obtain ⟨ev,eo,so,co,⟨hev,hco⟩,R⟩:=RULES CC;rw [<- hev]
      rw [<- hco] at osp v1 v2 v3 v4 v5 a1 a2
      simp only [fpart,part',Tryz.f34,Option.getD]
      simp only [S8,R,SG,seval,UT,SC,osp,v1,v2,v3,v4,v5,a1,a2,hn,c1,c2,e0,e1,e2,e3]
      exact ⟨_,rfl⟩
    rw [if_neg (by omega),if_neg (by simp),if_neg (by omega),if_neg (by omega),if_pos rfl,if_pos (by omega)]
    obtain ⟨ev,eo,so,co,⟨hev,hco⟩,R⟩:=RULES CC;rw [<- hev]
    rw [<- hco] at osp v1 v2 v3 v4 v5 a1 a2
    simp only [fpart,part',Tryz.f34,Option.getD]
    simp only [S8,R,SG,seval,UT,SC,osp,v1,v2,v3,v4,v5,a1,a2,hn,c1,c2,e0,e1,e2,e3]
    exact ⟨_,rfl⟩
  by_cases k4:k=4
  · subst k4
    cases ne with
    | true=>
     rw [if_neg (by omega),if_neg (by simp),if_neg (by omega),if_neg (by omega),if_neg (by omega),if_pos rfl,if_pos (.inl (hne'.2 rfl))]
     obtain ⟨ev,eo,so,co,⟨hev,hco⟩,R⟩:=RULES CC;rw [<- hev]
     rw [<- hco] at osp v1 v2 v3 v4 v5 a1 a2
     simp only [fpart,part',Tryz.f34,Option.getD]
     simp only [S8,R,SG,seval,UT,SC,osp,v1,v2,v3,v4,v5,a1,a2,hn,c1,c2]
     exact ⟨_,rfl⟩
    | false=>
     cases p5 with
     | true=>
      rw [if_neg (by omega),if_neg (by simp),if_neg (by omega),if_neg (by omega),if_neg (by omega),if_pos rfl,if_pos (.inr rfl)]
      obtain ⟨ev,eo,so,co,⟨hev,hco⟩,R⟩:=RULES CC;rw [<- hev]
      rw [<- hco] at osp v1 v2 v3 v4 v5 a1 a2
      simp only [fpart,part',Tryz.f34,Option.getD]
      simp only [S8,R,SG,seval,UT,SC,osp,v1,v2,v3,v4,v5,a1,a2,hn,c1,c2]
      exact ⟨_,rfl⟩
     | false=>
      rw [if_neg (by omega),if_neg (by simp),if_neg (by omega),if_neg (by omega),if_neg (by omega),if_pos rfl,if_neg (by rw [hne'];simp)]
      obtain ⟨ev,eo,so,co,⟨hev,hco⟩,R⟩:=RULES CC;rw [<- hev]
      rw [<- hco] at osp v1 v2 v3 v4 v5 a1 a2
      simp only [fpart,part',Tryz.f34,Option.getD]
      simp only [S8,R,SG,seval,UT,SC,osp,v1,v2,v3,v4,v5,a1,a2,hn,c1,c2]
      exact ⟨_,rfl⟩
  by_cases k6:k=6
  · subst k6
    by_cases e0:n < 0
    · rw [if_neg (by omega),if_neg (by simp),if_neg (by omega),if_neg (by omega),if_neg (by omega),if_neg (by omega),if_pos rfl,if_neg (by omega)]
      obtain ⟨ev,eo,so,co,⟨hev,hco⟩,R⟩:=RULES CC;rw [<- hev]
      rw [<- hco] at osp v1 v2 v3 v4 v5 a1 a2
      simp only [fpart,part',Tryz.f34,Option.getD]
      simp only [S8,R,SG,seval,UT,SC,osp,v1,v2,v3,v4,v5,a1,a2,hn,c1,c2,e0]
      exact ⟨_,rfl⟩
    by_cases e1:n > 1099511627776
    · rw [if_neg (by omega),if_neg (by simp),if_neg (by omega),if_neg (by omega),if_neg (by omega),if_neg (by omega),if_pos rfl,if_neg (by omega)]
      obtain ⟨ev,eo,so,co,⟨hev,hco⟩,R⟩:=RULES CC;rw [<- hev]
      rw [<- hco] at osp v1 v2 v3 v4 v5 a1 a2
      simp only [fpart,part',Tryz.f34,Option.getD]
      simp only [S8,R,SG,seval,UT,SC,osp,v1,v2,v3,v4,v5,a1,a2,hn,c1,c2,e0,e1]
      exact ⟨_,rfl⟩
    rw [if_neg (by omega),if_neg (by simp),if_neg (by omega),if_neg (by omega),if_neg (by omega),if_neg (by omega),if_pos rfl,if_pos (by omega)]
    obtain ⟨ev,eo,so,co,⟨hev,hco⟩,R⟩:=RULES CC;rw [<- hev]
    rw [<- hco] at osp v1 v2 v3 v4 v5 a1 a2
    simp only [fpart,part',Tryz.f34,Option.getD]
    simp only [S8,R,SG,seval,UT,SC,osp,v1,v2,v3,v4,v5,a1,a2,hn,c1,c2,e0,e1]
    exact ⟨_,rfl⟩
  have k5:k=5:=by omega
  subst k5
  rw [if_neg (by omega),if_neg (by simp),if_neg (by omega),if_neg (by omega),if_neg (by omega),if_neg (by omega),if_neg (by omega)]
  obtain ⟨ev,eo,so,co,⟨hev,hco⟩,R⟩:=RULES CC;rw [<- hev]
  rw [<- hco] at osp v1 v2 v3 v4 v5 a1 a2
  simp only [fpart,part',Tryz.f34,Option.getD]
  simp only [S8,R,SG,seval,UT,SC,osp,v1,v2,v3,v4,v5,a1,a2,hn,c1,c2]
  exact ⟨_,rfl⟩
theorem op_R30_Trigger (t:Tg) (hp:plTg t=true) (bx):callOp CC (callL CC) 34 [tgV t] bx=some (.ret (.int .i64 (tgE t)),bx):=by
 obtain ⟨b,h⟩:=call_R30_Trigger t hp
 exact callOp_of rfl (by simp only [pureL_cons,tgV_pure,pureL_nil,Bool.and_self]) h rfl
end Go.HH
namespace Go.HH
open Go Go.Proofs
set_option maxRecDepth 100000
set_option maxHeartbeats 4000000
set_option linter.unusedSimpArgs false
set_option linter.unusedVariables false
theorem ok_print_step:fnOK CC Tryz.f32 (Tryz.f32.body.getD .skip)=true:=by kernel_rfl
theorem fat_print_step:CC.P.funcs[32]?=some Tryz.f32:=by kernel_rfl
def spE (s:Sp):Int:=
 if s.k=1 then (if s.nm≠[] then 1 else if nmE s.key.1 s.key.2.1 s.key.2.2≠0 then nmE s.key.1 s.key.2.1 s.key.2.2 else ckT s.ex)
 else if s.k=2 then (if s.key.2.2≠[] then 1 else if nmE s.key.1 s.key.2.1 s.nm≠0 then nmE s.key.1 s.key.2.1 s.nm else if nnB s.ex=true then 0 else ckT s.ex)
 else if s.k=3∨s.k=4∨s.k=5 then (if eqKy s.key (0,[],[])=false∨nnB s.ex=false then 1 else if s.k=5 then (if 60 < s.nm.length then 3 else 0) else if valB s.nm=true then 0 else 10)
 else 7
theorem plSp_len {s:Sp} (h:plSp s=true):s.nm.length<=100∧s.key.2.1.length<=100∧s.key.2.2.length<=100∧0<=mdT s.ex 220 30:=of_decide_eq_true h
theorem call_print_step (s:Sp) (hp:plSp s=true):∃ bx,callL CC 32 [spV s] []=some (.ret (.int .i64 (spE s)),bx):=by
 have hl:=plSp_len hp
 unfold spE
 obtain ⟨k,key,nm,ex⟩:=s
 obtain ⟨d,c,a⟩:=key
 obtain ⟨l1,l2,l3,l4⟩:=hl
 simp only at l1 l2 l3 l4 ⊢
 have onn:=op_print_none ex
 have ock:=op_expr_Check ex (sh_md ex 220 30 l4)
 have on1:=op_print_named d c a (by omega) (by omega)
 have on2:=op_print_named d c nm (by omega) (by omega)
 have ova:=op_names_Valid nm (by omega)
 have hlen:=len_str nm
 have hsn:strP .neq nm []=some (.bool (!(nm == []))):=rfl
 have hsa:strP .neq a []=some (.bool (!(a == []))):=rfl
 have heq:eqP CC 100 26 (.agg [.int .i64 d,.str c,.str a]) (.agg [.int .i64 0,.str [],.str []])=some (eqKy (d,c,a) (0,[],[])):=by rw [eqKP];rfl
 generalize eqKy (d,c,a) (0,[],[])=kz at *
 generalize nnB ex=nn at *
 generalize ckT ex=ck at *
 generalize nmE d c a=e1 at *
 generalize nmE d c nm=e2 at *
 generalize valB nm=va at *
 unfold spV trC
 obtain ⟨zk,zn,zm,znm,zv,zkey,zkids⟩:=ex
 unfold trV at onn ock ⊢
 generalize trVs zkids=zs at *
 simp only [SA,List.cons_append,List.nil_append] at onn ock ⊢
 rw [callL_enter (fn:=Tryz.f32) (c:=Tryz.f32.body.getD .skip) rfl rfl fat_print_step rfl ok_print_step (Nat.le_of_ble_eq_true rfl)]
 by_cases k1:k=1
 · subst k1
   rw [if_pos rfl]
   by_cases z1:nm=[]
   · have hb:(nm == [])=true:=by rw [z1];rfl
     rw [hb] at hsn
     rw [if_neg (fun h=>h z1)]
     by_cases z2:e1=0
     · subst z2
       rw [if_neg (fun h=>h rfl)]
       obtain ⟨ev,eo,so,co,⟨hev,hco⟩,R⟩:=RULES CC;rw [<- hev]
       rw [<- hco] at onn ock on1 on2 ova
       simp only [fpart,part',Tryz.f32,Option.getD]
       simp only [S8,R,SG,seval,UT,SC,eqgK,buildKy0,onn,ock,on1,on2,ova,hlen,heq,hsn]
       exact ⟨_,rfl⟩
     · have z2p:(e1 != 0)=true:=by simpa using z2
       rw [if_pos z2]
       obtain ⟨ev,eo,so,co,⟨hev,hco⟩,R⟩:=RULES CC;rw [<- hev]
       rw [<- hco] at onn ock on1 on2 ova
       simp only [fpart,part',Tryz.f32,Option.getD]
       simp only [S8,R,SG,seval,UT,SC,eqgK,buildKy0,onn,ock,on1,on2,ova,hlen,heq,hsn,z2p]
       exact ⟨_,rfl⟩
   · have hb:(nm == [])=false:=by simpa using z1
     rw [hb] at hsn
     rw [if_pos z1]
     obtain ⟨ev,eo,so,co,⟨hev,hco⟩,R⟩:=RULES CC;rw [<- hev]
     rw [<- hco] at onn ock on1 on2 ova
     simp only [fpart,part',Tryz.f32,Option.getD]
     simp only [S8,R,SG,seval,UT,SC,eqgK,buildKy0,onn,ock,on1,on2,ova,hlen,heq,hsn]
     exact ⟨_,rfl⟩
 rw [if_neg k1]
 have k1p:(k == 1)=false:=by simpa using k1
 by_cases k2:k=2
 · subst k2
   rw [if_pos rfl]
   by_cases z1:a=[]
   · have hb:(a == [])=true:=by rw [z1];rfl
     rw [hb] at hsa
     rw [if_neg (fun h=>h z1)]
     by_cases z2:e2=0
     · subst z2
       rw [if_neg (fun h=>h rfl)]
       cases nn with
       | true=>
        rw [if_pos rfl]
        obtain ⟨ev,eo,so,co,⟨hev,hco⟩,R⟩:=RULES CC;rw [<- hev]
        rw [<- hco] at onn ock on1 on2 ova
        simp only [fpart,part',Tryz.f32,Option.getD]
        simp only [S8,R,SG,seval,UT,SC,eqgK,buildKy0,onn,ock,on1,on2,ova,hlen,heq,hsa]
        exact ⟨_,rfl⟩
       | false=>
        rw [if_neg (by simp)]
        obtain ⟨ev,eo,so,co,⟨hev,hco⟩,R⟩:=RULES CC;rw [<- hev]
        rw [<- hco] at onn ock on1 on2 ova
        simp only [fpart,part',Tryz.f32,Option.getD]
        simp only [S8,R,SG,seval,UT,SC,eqgK,buildKy0,onn,ock,on1,on2,ova,hlen,heq,hsa]
        exact ⟨_,rfl⟩
     · have z2p:(e2 != 0)=true:=by simpa using z2
       rw [if_pos z2]
       obtain ⟨ev,eo,so,co,⟨hev,hco⟩,R⟩:=RULES CC;rw [<- hev]
       rw [<- hco] at onn ock on1 on2 ova
       simp only [fpart,part',Tryz.f32,Option.getD]
       simp only [S8,R,SG,seval,UT,SC,eqgK,buildKy0,onn,ock,on1,on2,ova,hlen,heq,hsa,z2p]
       exact ⟨_,rfl⟩
   · have hb:(a == [])=false:=by simpa using z1
     rw [hb] at hsa
     rw [if_pos z1]
     obtain ⟨ev,eo,so,co,⟨hev,hco⟩,R⟩:=RULES CC;rw [<- hev]
     rw [<- hco] at onn ock on1 on2 ova
     simp only [fpart,part',Tryz.f32,Option.getD]
     simp only [S8,R,SG,seval,UT,SC,eqgK,buildKy0,onn,ock,on1,on2,ova,hlen,heq,hsa]
     exact ⟨_,rfl⟩
 rw [if_neg k2]
 have k2p:(k == 2)=false:=by simpa using k2
 by_cases k3:k=3
 · subst k3
   rw [if_pos (by omega)]
   cases kz with
   | false=>
    rw [if_pos (.inl rfl)]
    obtain ⟨ev,eo,so,co,⟨hev,hco⟩,R⟩:=RULES CC;rw [<- hev]
    rw [<- hco] at onn ock on1 on2 ova
    simp only [fpart,part',Tryz.f32,Option.getD]
    simp only [S8,R,SG,seval,UT,SC,eqgK,buildKy0,onn,ock,on1,on2,ova,hlen,heq]
    exact ⟨_,rfl⟩
   | true=>
    cases nn with
    | false=>
     rw [if_pos (.inr rfl)]
     obtain ⟨ev,eo,so,co,⟨hev,hco⟩,R⟩:=RULES CC;rw [<- hev]
     rw [<- hco] at onn ock on1 on2 ova
     simp only [fpart,part',Tryz.f32,Option.getD]
     simp only [S8,R,SG,seval,UT,SC,eqgK,buildKy0,onn,ock,on1,on2,ova,hlen,heq]
     exact ⟨_,rfl⟩
    | true=>
     rw [if_neg (by simp)]
     rw [if_neg (by omega)]
     cases va with
     | false=>
      rw [if_neg (by simp)]
      obtain ⟨ev,eo,so,co,⟨hev,hco⟩,R⟩:=RULES CC;rw [<- hev]
      rw [<- hco] at onn ock on1 on2 ova
      simp only [fpart,part',Tryz.f32,Option.getD]
      simp only [S8,R,SG,seval,UT,SC,eqgK,buildKy0,onn,ock,on1,on2,ova,hlen,heq]
      exact ⟨_,rfl⟩
     | true=>
      rw [if_pos rfl]
      obtain ⟨ev,eo,so,co,⟨hev,hco⟩,R⟩:=RULES CC;rw [<- hev]
      rw [<- hco] at onn ock on1 on2 ova
      simp only [fpart,part',Tryz.f32,Option.getD]
      simp only [S8,R,SG,seval,UT,SC,eqgK,buildKy0,onn,ock,on1,on2,ova,hlen,heq]
      exact ⟨_,rfl⟩
 have k3p:(k == 3)=false:=by simpa using k3
 by_cases k4:k=4
 · subst k4
   rw [if_pos (by omega)]
   cases kz with
   | false=>
    rw [if_pos (.inl rfl)]
    obtain ⟨ev,eo,so,co,⟨hev,hco⟩,R⟩:=RULES CC;rw [<- hev]
    rw [<- hco] at onn ock on1 on2 ova
    simp only [fpart,part',Tryz.f32,Option.getD]
    simp only [S8,R,SG,seval,UT,SC,eqgK,buildKy0,onn,ock,on1,on2,ova,hlen,heq]
    exact ⟨_,rfl⟩
   | true=>
    cases nn with
    | false=>
     rw [if_pos (.inr rfl)]
     obtain ⟨ev,eo,so,co,⟨hev,hco⟩,R⟩:=RULES CC;rw [<- hev]
     rw [<- hco] at onn ock on1 on2 ova
     simp only [fpart,part',Tryz.f32,Option.getD]
     simp only [S8,R,SG,seval,UT,SC,eqgK,buildKy0,onn,ock,on1,on2,ova,hlen,heq]
     exact ⟨_,rfl⟩
    | true=>
     rw [if_neg (by simp)]
     rw [if_neg (by omega)]
     cases va with
     | false=>
      rw [if_neg (by simp)]
      obtain ⟨ev,eo,so,co,⟨hev,hco⟩,R⟩:=RULES CC;rw [<- hev]
      rw [<- hco] at onn ock on1 on2 ova
      simp only [fpart,part',Tryz.f32,Option.getD]
      simp only [S8,R,SG,seval,UT,SC,eqgK,buildKy0,onn,ock,on1,on2,ova,hlen,heq]
      exact ⟨_,rfl⟩
     | true=>
      rw [if_pos rfl]
      obtain ⟨ev,eo,so,co,⟨hev,hco⟩,R⟩:=RULES CC;rw [<- hev]
      rw [<- hco] at onn ock on1 on2 ova
      simp only [fpart,part',Tryz.f32,Option.getD]
      simp only [S8,R,SG,seval,UT,SC,eqgK,buildKy0,onn,ock,on1,on2,ova,hlen,heq]
      exact ⟨_,rfl⟩
 have k4p:(k == 4)=false:=by simpa using k4
 by_cases k5:k=5
 · subst k5
   rw [if_pos (by omega)]
   cases kz with
   | false=>
    rw [if_pos (.inl rfl)]
    obtain ⟨ev,eo,so,co,⟨hev,hco⟩,R⟩:=RULES CC;rw [<- hev]
    rw [<- hco] at onn ock on1 on2 ova
    simp only [fpart,part',Tryz.f32,Option.getD]
    simp only [S8,R,SG,seval,UT,SC,eqgK,buildKy0,onn,ock,on1,on2,ova,hlen,heq]
    exact ⟨_,rfl⟩
   | true=>
    cases nn with
    | false=>
     rw [if_pos (.inr rfl)]
     obtain ⟨ev,eo,so,co,⟨hev,hco⟩,R⟩:=RULES CC;rw [<- hev]
     rw [<- hco] at onn ock on1 on2 ova
     simp only [fpart,part',Tryz.f32,Option.getD]
     simp only [S8,R,SG,seval,UT,SC,eqgK,buildKy0,onn,ock,on1,on2,ova,hlen,heq]
     exact ⟨_,rfl⟩
    | true=>
     rw [if_neg (by simp)]
     rw [if_pos rfl]
     by_cases z1:(nm.length:Int) > 60
     · rw [if_pos (by omega)]
       obtain ⟨ev,eo,so,co,⟨hev,hco⟩,R⟩:=RULES CC;rw [<- hev]
       rw [<- hco] at onn ock on1 on2 ova
       simp only [fpart,part',Tryz.f32,Option.getD]
       simp only [S8,R,SG,seval,UT,SC,eqgK,buildKy0,onn,ock,on1,on2,ova,hlen,heq,z1]
       exact ⟨_,rfl⟩
     · rw [if_neg (by omega)]
       obtain ⟨ev,eo,so,co,⟨hev,hco⟩,R⟩:=RULES CC;rw [<- hev]
       rw [<- hco] at onn ock on1 on2 ova
       simp only [fpart,part',Tryz.f32,Option.getD]
       simp only [S8,R,SG,seval,UT,SC,eqgK,buildKy0,onn,ock,on1,on2,ova,hlen,heq,z1]
       exact ⟨_,rfl⟩
 have k5p:(k == 5)=false:=by simpa using k5
 rw [if_neg (by omega)]
 obtain ⟨ev,eo,so,co,⟨hev,hco⟩,R⟩:=RULES CC;rw [<- hev]
 rw [<- hco] at onn ock on1 on2 ova
 simp only [fpart,part',Tryz.f32,Option.getD]
 simp only [S8,R,SG,seval,UT,SC,eqgK,buildKy0,onn,ock,on1,on2,ova,hlen,heq,k1p,k2p,k3p,k4p,k5p]
 exact ⟨_,rfl⟩
theorem op_print_step (s:Sp) (hp:plSp s=true) (bx):callOp CC (callL CC) 32 [spV s] bx=some (.ret (.int .i64 (spE s)),bx):=by
 obtain ⟨b,h⟩:=call_print_step s hp
 exact callOp_of rfl (by simp only [pureL_cons,spV_pure,pureL_nil,Bool.and_self]) h rfl
end Go.HH
namespace Go.HH
open Go Go.Proofs
set_option maxRecDepth 100000
set_option maxHeartbeats 4000000
set_option linter.unusedSimpArgs false
set_option linter.unusedVariables false
theorem ok_R30_StepSpare:fnOK CC Tryz.f66 (Tryz.f66.body.getD .skip)=true:=by kernel_rfl
theorem fat_R30_StepSpare:CC.P.funcs[66]?=some Tryz.f66:=by kernel_rfl
theorem ok_R30_Step:fnOK CC Tryz.f36 (Tryz.f36.body.getD .skip)=true:=by kernel_rfl
theorem fat_R30_Step:CC.P.funcs[36]?=some Tryz.f36:=by kernel_rfl
def ssB (s:Sp):Bool:=if s.k=1 then s.nm == [] else if s.k=2 then s.key.2.2 == [] else eqKy s.key (0,[],[]) && nnB s.ex
theorem call_R30_StepSpare (s:Sp):∃ bx,callL CC 66 [spV s] []=some (.ret (.bool (ssB s)),bx):=by
 unfold ssB
 obtain ⟨k,key,nm,ex⟩:=s
 obtain ⟨d,c,a⟩:=key
 have onn:=op_R30_None ex
 simp only
 have hsn:strP .eql nm []=some (.bool (nm == [])):=rfl
 have hsa:strP .eql a []=some (.bool (a == [])):=rfl
 have heq:eqP CC 100 26 (.agg [.int .i64 d,.str c,.str a]) (.agg [.int .i64 0,.str [],.str []])=some (eqKy (d,c,a) (0,[],[])):=by rw [eqKP];rfl
 generalize eqKy (d,c,a) (0,[],[])=kz at *
 generalize nnB ex=nn at *
 generalize (nm == [])=n1 at *
 generalize (a == [])=a1 at *
 unfold spV trC
 obtain ⟨zk,zn,zm,znm,zv,zkey,zkids⟩:=ex
 unfold trV at onn ⊢
 generalize trVs zkids=zs at *
 simp only [SA,List.cons_append,List.nil_append] at onn ⊢
 rw [callL_enter (fn:=Tryz.f66) (c:=Tryz.f66.body.getD .skip) rfl rfl fat_R30_StepSpare rfl ok_R30_StepSpare (Nat.le_of_ble_eq_true rfl)]
 by_cases k1:k=1
 · subst k1
   rw [if_pos rfl]
   obtain ⟨ev,eo,so,co,⟨hev,hco⟩,R⟩:=RULES CC;rw [<- hev]
   rw [<- hco] at onn
   simp only [fpart,part',Tryz.f66,Option.getD]
   simp only [S8,R,SG,seval,UT,SC,eqgK,buildKy0,onn,hsn]
   exact ⟨_,rfl⟩
 rw [if_neg k1]
 have k1p:(k == 1)=false:=by simpa using k1
 by_cases k2:k=2
 · subst k2
   rw [if_pos rfl]
   obtain ⟨ev,eo,so,co,⟨hev,hco⟩,R⟩:=RULES CC;rw [<- hev]
   rw [<- hco] at onn
   simp only [fpart,part',Tryz.f66,Option.getD]
   simp only [S8,R,SG,seval,UT,SC,eqgK,buildKy0,onn,hsa]
   exact ⟨_,rfl⟩
 rw [if_neg k2]
 have k2p:(k == 2)=false:=by simpa using k2
 cases kz with
 | false=>
  rw [Bool.false_and]
  obtain ⟨ev,eo,so,co,⟨hev,hco⟩,R⟩:=RULES CC;rw [<- hev]
  rw [<- hco] at onn
  simp only [fpart,part',Tryz.f66,Option.getD]
  simp only [S8,R,SG,seval,UT,SC,eqgK,buildKy0,onn,heq,k1p,k2p]
  exact ⟨_,rfl⟩
 | true=>
  rw [Bool.true_and]
  obtain ⟨ev,eo,so,co,⟨hev,hco⟩,R⟩:=RULES CC;rw [<- hev]
  rw [<- hco] at onn
  simp only [fpart,part',Tryz.f66,Option.getD]
  simp only [S8,R,SG,seval,UT,SC,eqgK,buildKy0,onn,heq,k1p,k2p]
  exact ⟨_,rfl⟩
theorem op_R30_StepSpare (s:Sp) (bx):callOp CC (callL CC) 66 [spV s] bx=some (.ret (.bool (ssB s)),bx):=by
 obtain ⟨b,h⟩:=call_R30_StepSpare s
 exact callOp_of rfl (by simp only [pureL_cons,spV_pure,pureL_nil,Bool.and_self]) h rfl
theorem call_R30_Step (s:Sp) (hp:plSp s=true):∃ bx,callL CC 36 [spV s] []=some (.ret (.int .i64 (spE s)),bx):=by
 have hl:=plSp_len hp
 have oss:=op_R30_StepSpare s
 unfold ssB at oss
 unfold spE
 obtain ⟨k,key,nm,ex⟩:=s
 obtain ⟨d,c,a⟩:=key
 obtain ⟨l1,l2,l3,l4⟩:=hl
 simp only at l1 l2 l3 l4 oss ⊢
 have onn:=op_R30_None ex
 have ock:=op_R28_Check ex (sh_md ex 220 30 l4)
 have oad:=op_R30_Address d
 have ovc:=op_R04_Valid c (by omega)
 have ova:=op_R04_Valid a (by omega)
 have ovn:=op_R04_Valid nm (by omega)
 have hlen:=len_str nm
 unfold nmE
 have hn1:nm≠[]↔(nm == [])=false:=by simp
 have ha1:a≠[]↔(a == [])=false:=by simp
 simp only [hn1,ha1]
 generalize eqKy (d,c,a) (0,[],[])=kz at *
 generalize nnB ex=nn at *
 generalize ckT ex=ck at *
 generalize dvB d=q at *
 generalize valB c=vc at *
 generalize valB a=va at *
 generalize valB nm=vn at *
 generalize (nm == [])=n1 at *
 generalize (a == [])=a1 at *
 clear hn1 ha1
 unfold spV trC at oss ⊢
 obtain ⟨zk,zn,zm,znm,zv,zkey,zkids⟩:=ex
 unfold trV at onn ock oss ⊢
 generalize trVs zkids=zs at *
 simp only [SA,List.cons_append,List.nil_append] at onn ock oss ⊢
 rw [callL_enter (fn:=Tryz.f36) (c:=Tryz.f36.body.getD .skip) rfl rfl fat_R30_Step rfl ok_R30_Step (Nat.le_of_ble_eq_true rfl)]
 by_cases c1:k < 1
 · rw [if_neg (by omega),if_neg (by omega),if_neg (by omega)]
   obtain ⟨ev,eo,so,co,⟨hev,hco⟩,R⟩:=RULES CC;rw [<- hev]
   rw [<- hco] at oss onn ock oad ovc ova ovn
   simp only [fpart,part',Tryz.f36,Option.getD]
   simp only [S8,R,SG,seval,UT,SC,eqgK,buildKy0,oss,onn,ock,oad,ovc,ova,ovn,hlen,c1]
   exact ⟨_,rfl⟩
 by_cases c2:k > 5
 · rw [if_neg (by omega),if_neg (by omega),if_neg (by omega)]
   obtain ⟨ev,eo,so,co,⟨hev,hco⟩,R⟩:=RULES CC;rw [<- hev]
   rw [<- hco] at oss onn ock oad ovc ova ovn
   simp only [fpart,part',Tryz.f36,Option.getD]
   simp only [S8,R,SG,seval,UT,SC,eqgK,buildKy0,oss,onn,ock,oad,ovc,ova,ovn,hlen,c1,c2]
   exact ⟨_,rfl⟩
 by_cases k1:k=1
 · subst k1
   rw [if_pos rfl] at oss ⊢
   cases n1 with
   | false=>
    rw [if_pos rfl]
    obtain ⟨ev,eo,so,co,⟨hev,hco⟩,R⟩:=RULES CC;rw [<- hev]
    rw [<- hco] at oss onn ock oad ovc ova ovn
    simp only [fpart,part',Tryz.f36,Option.getD]
    simp only [S8,R,SG,seval,UT,SC,eqgK,buildKy0,oss,onn,ock,oad,ovc,ova,ovn,hlen,c1,c2]
    exact ⟨_,rfl⟩
   | true=>
    rw [if_neg (by simp)]
    cases q with
    | false=>
     simp only [if_true,ne_eq,if_false,reduceCtorEq,Int.reduceEq,not_false_eq_true,not_true_eq_false,Bool.false_eq_true]
     obtain ⟨ev,eo,so,co,⟨hev,hco⟩,R⟩:=RULES CC;rw [<- hev]
     rw [<- hco] at oss onn ock oad ovc ova ovn
     simp only [fpart,part',Tryz.f36,Option.getD]
     simp only [S8,R,SG,seval,UT,SC,eqgK,buildKy0,oss,onn,ock,oad,ovc,ova,ovn,hlen,c1,c2]
     exact ⟨_,rfl⟩
    | true=>
     cases vc with
     | false=>
      simp only [if_true,ne_eq,if_false,reduceCtorEq,Int.reduceEq,not_false_eq_true,not_true_eq_false,Bool.false_eq_true,Bool.false_and,Bool.true_eq_false]
      obtain ⟨ev,eo,so,co,⟨hev,hco⟩,R⟩:=RULES CC;rw [<- hev]
      rw [<- hco] at oss onn ock oad ovc ova ovn
      simp only [fpart,part',Tryz.f36,Option.getD]
      simp only [S8,R,SG,seval,UT,SC,eqgK,buildKy0,oss,onn,ock,oad,ovc,ova,ovn,hlen,c1,c2]
      exact ⟨_,rfl⟩
     | true=>
      cases va with
      | false=>
       simp only [if_true,ne_eq,if_false,reduceCtorEq,Int.reduceEq,not_false_eq_true,not_true_eq_false,Bool.false_eq_true,Bool.and_false,Bool.true_eq_false]
       obtain ⟨ev,eo,so,co,⟨hev,hco⟩,R⟩:=RULES CC;rw [<- hev]
       rw [<- hco] at oss onn ock oad ovc ova ovn
       simp only [fpart,part',Tryz.f36,Option.getD]
       simp only [S8,R,SG,seval,UT,SC,eqgK,buildKy0,oss,onn,ock,oad,ovc,ova,ovn,hlen,c1,c2]
       exact ⟨_,rfl⟩
      | true=>
       simp only [if_true,ne_eq,if_false,reduceCtorEq,Int.reduceEq,not_false_eq_true,not_true_eq_false,Bool.false_eq_true,Bool.and_self,Bool.true_eq_false]
       obtain ⟨ev,eo,so,co,⟨hev,hco⟩,R⟩:=RULES CC;rw [<- hev]
       rw [<- hco] at oss onn ock oad ovc ova ovn
       simp only [fpart,part',Tryz.f36,Option.getD]
       simp only [S8,R,SG,seval,UT,SC,eqgK,buildKy0,oss,onn,ock,oad,ovc,ova,ovn,hlen,c1,c2]
       exact ⟨_,rfl⟩
 rw [if_neg k1] at oss ⊢
 by_cases k2:k=2
 · subst k2
   rw [if_pos rfl] at oss ⊢
   cases a1 with
   | false=>
    rw [if_pos rfl]
    obtain ⟨ev,eo,so,co,⟨hev,hco⟩,R⟩:=RULES CC;rw [<- hev]
    rw [<- hco] at oss onn ock oad ovc ova ovn
    simp only [fpart,part',Tryz.f36,Option.getD]
    simp only [S8,R,SG,seval,UT,SC,eqgK,buildKy0,oss,onn,ock,oad,ovc,ova,ovn,hlen,c1,c2]
    exact ⟨_,rfl⟩
   | true=>
    rw [if_neg (by simp)]
    cases q with
    | false=>
     simp only [if_true,ne_eq,if_false,reduceCtorEq,Int.reduceEq,not_false_eq_true,not_true_eq_false,Bool.false_eq_true]
     obtain ⟨ev,eo,so,co,⟨hev,hco⟩,R⟩:=RULES CC;rw [<- hev]
     rw [<- hco] at oss onn ock oad ovc ova ovn
     simp only [fpart,part',Tryz.f36,Option.getD]
     simp only [S8,R,SG,seval,UT,SC,eqgK,buildKy0,oss,onn,ock,oad,ovc,ova,ovn,hlen,c1,c2]
     exact ⟨_,rfl⟩
    | true=>
     cases vc with
     | false=>
      simp only [if_true,ne_eq,if_false,reduceCtorEq,Int.reduceEq,not_false_eq_true,not_true_eq_false,Bool.false_eq_true,Bool.false_and,Bool.true_eq_false]
      obtain ⟨ev,eo,so,co,⟨hev,hco⟩,R⟩:=RULES CC;rw [<- hev]
      rw [<- hco] at oss onn ock oad ovc ova ovn
      simp only [fpart,part',Tryz.f36,Option.getD]
      simp only [S8,R,SG,seval,UT,SC,eqgK,buildKy0,oss,onn,ock,oad,ovc,ova,ovn,hlen,c1,c2]
      exact ⟨_,rfl⟩
     | true=>
      cases vn with
      | false=>
       simp only [if_true,ne_eq,if_false,reduceCtorEq,Int.reduceEq,not_false_eq_true,not_true_eq_false,Bool.false_eq_true,Bool.and_false,Bool.true_eq_false]
       obtain ⟨ev,eo,so,co,⟨hev,hco⟩,R⟩:=RULES CC;rw [<- hev]
       rw [<- hco] at oss onn ock oad ovc ova ovn
       simp only [fpart,part',Tryz.f36,Option.getD]
       simp only [S8,R,SG,seval,UT,SC,eqgK,buildKy0,oss,onn,ock,oad,ovc,ova,ovn,hlen,c1,c2]
       exact ⟨_,rfl⟩
      | true=>
       cases nn with
       | false=>
        simp only [if_true,ne_eq,if_false,reduceCtorEq,Int.reduceEq,not_false_eq_true,not_true_eq_false,Bool.false_eq_true,Bool.and_self,Bool.true_eq_false]
        obtain ⟨ev,eo,so,co,⟨hev,hco⟩,R⟩:=RULES CC;rw [<- hev]
        rw [<- hco] at oss onn ock oad ovc ova ovn
        simp only [fpart,part',Tryz.f36,Option.getD]
        simp only [S8,R,SG,seval,UT,SC,eqgK,buildKy0,oss,onn,ock,oad,ovc,ova,ovn,hlen,c1,c2]
        exact ⟨_,rfl⟩
       | true=>
        simp only [if_true,ne_eq,if_false,reduceCtorEq,Int.reduceEq,not_false_eq_true,not_true_eq_false,Bool.false_eq_true,Bool.and_self,Bool.true_eq_false]
        obtain ⟨ev,eo,so,co,⟨hev,hco⟩,R⟩:=RULES CC;rw [<- hev]
        rw [<- hco] at oss onn ock oad ovc ova ovn
        simp only [fpart,part',Tryz.f36,Option.getD]
        simp only [S8,R,SG,seval,UT,SC,eqgK,buildKy0,oss,onn,ock,oad,ovc,ova,ovn,hlen,c1,c2]
        exact ⟨_,rfl⟩
 rw [if_neg k2] at oss ⊢
 by_cases k3:k=3
 · subst k3
   rw [if_pos (by omega)]
   cases kz with
   | false=>
    rw [Bool.false_and] at oss
    rw [if_pos (.inl rfl)]
    obtain ⟨ev,eo,so,co,⟨hev,hco⟩,R⟩:=RULES CC;rw [<- hev]
    rw [<- hco] at oss onn ock oad ovc ova ovn
    simp only [fpart,part',Tryz.f36,Option.getD]
    simp only [S8,R,SG,seval,UT,SC,eqgK,buildKy0,oss,onn,ock,oad,ovc,ova,ovn,hlen,c1,c2]
    exact ⟨_,rfl⟩
   | true=>
    rw [Bool.true_and] at oss
    cases nn with
    | false=>
     rw [if_pos (.inr rfl)]
     obtain ⟨ev,eo,so,co,⟨hev,hco⟩,R⟩:=RULES CC;rw [<- hev]
     rw [<- hco] at oss onn ock oad ovc ova ovn
     simp only [fpart,part',Tryz.f36,Option.getD]
     simp only [S8,R,SG,seval,UT,SC,eqgK,buildKy0,oss,onn,ock,oad,ovc,ova,ovn,hlen,c1,c2]
     exact ⟨_,rfl⟩
    | true=>
     rw [if_neg (by simp)]
     rw [if_neg (by omega)]
     cases vn with
     | false=>
      rw [if_neg (by simp)]
      obtain ⟨ev,eo,so,co,⟨hev,hco⟩,R⟩:=RULES CC;rw [<- hev]
      rw [<- hco] at oss onn ock oad ovc ova ovn
      simp only [fpart,part',Tryz.f36,Option.getD]
      simp only [S8,R,SG,seval,UT,SC,eqgK,buildKy0,oss,onn,ock,oad,ovc,ova,ovn,hlen,c1,c2]
      exact ⟨_,rfl⟩
     | true=>
      rw [if_pos rfl]
      obtain ⟨ev,eo,so,co,⟨hev,hco⟩,R⟩:=RULES CC;rw [<- hev]
      rw [<- hco] at oss onn ock oad ovc ova ovn
      simp only [fpart,part',Tryz.f36,Option.getD]
      simp only [S8,R,SG,seval,UT,SC,eqgK,buildKy0,oss,onn,ock,oad,ovc,ova,ovn,hlen,c1,c2]
      exact ⟨_,rfl⟩
 by_cases k4:k=4
 · subst k4
   rw [if_pos (by omega)]
   cases kz with
   | false=>
    rw [Bool.false_and] at oss
    rw [if_pos (.inl rfl)]
    obtain ⟨ev,eo,so,co,⟨hev,hco⟩,R⟩:=RULES CC;rw [<- hev]
    rw [<- hco] at oss onn ock oad ovc ova ovn
    simp only [fpart,part',Tryz.f36,Option.getD]
    simp only [S8,R,SG,seval,UT,SC,eqgK,buildKy0,oss,onn,ock,oad,ovc,ova,ovn,hlen,c1,c2]
    exact ⟨_,rfl⟩
   | true=>
    rw [Bool.true_and] at oss
    cases nn with
    | false=>
     rw [if_pos (.inr rfl)]
     obtain ⟨ev,eo,so,co,⟨hev,hco⟩,R⟩:=RULES CC;rw [<- hev]
     rw [<- hco] at oss onn ock oad ovc ova ovn
     simp only [fpart,part',Tryz.f36,Option.getD]
     simp only [S8,R,SG,seval,UT,SC,eqgK,buildKy0,oss,onn,ock,oad,ovc,ova,ovn,hlen,c1,c2]
     exact ⟨_,rfl⟩
    | true=>
     rw [if_neg (by simp)]
     rw [if_neg (by omega)]
     cases vn with
     | false=>
      rw [if_neg (by simp)]
      obtain ⟨ev,eo,so,co,⟨hev,hco⟩,R⟩:=RULES CC;rw [<- hev]
      rw [<- hco] at oss onn ock oad ovc ova ovn
      simp only [fpart,part',Tryz.f36,Option.getD]
      simp only [S8,R,SG,seval,UT,SC,eqgK,buildKy0,oss,onn,ock,oad,ovc,ova,ovn,hlen,c1,c2]
      exact ⟨_,rfl⟩
     | true=>
      rw [if_pos rfl]
      obtain ⟨ev,eo,so,co,⟨hev,hco⟩,R⟩:=RULES CC;rw [<- hev]
      rw [<- hco] at oss onn ock oad ovc ova ovn
      simp only [fpart,part',Tryz.f36,Option.getD]
      simp only [S8,R,SG,seval,UT,SC,eqgK,buildKy0,oss,onn,ock,oad,ovc,ova,ovn,hlen,c1,c2]
      exact ⟨_,rfl⟩
 have k5:k=5:=by omega
 subst k5
 rw [if_pos (by omega)]
 cases kz with
 | false=>
  rw [Bool.false_and] at oss
  rw [if_pos (.inl rfl)]
  obtain ⟨ev,eo,so,co,⟨hev,hco⟩,R⟩:=RULES CC;rw [<- hev]
  rw [<- hco] at oss onn ock oad ovc ova ovn
  simp only [fpart,part',Tryz.f36,Option.getD]
  simp only [S8,R,SG,seval,UT,SC,eqgK,buildKy0,oss,onn,ock,oad,ovc,ova,ovn,hlen,c1,c2]
  exact ⟨_,rfl⟩
 | true=>
  rw [Bool.true_and] at oss
  cases nn with
  | false=>
   rw [if_pos (.inr rfl)]
   obtain ⟨ev,eo,so,co,⟨hev,hco⟩,R⟩:=RULES CC;rw [<- hev]
   rw [<- hco] at oss onn ock oad ovc ova ovn
   simp only [fpart,part',Tryz.f36,Option.getD]
   simp only [S8,R,SG,seval,UT,SC,eqgK,buildKy0,oss,onn,ock,oad,ovc,ova,ovn,hlen,c1,c2]
   exact ⟨_,rfl⟩
  | true=>
   rw [if_neg (by simp)]
   rw [if_pos rfl]
   by_cases z1:(nm.length:Int) > 60
   · rw [if_pos (by omega)]
     obtain ⟨ev,eo,so,co,⟨hev,hco⟩,R⟩:=RULES CC;rw [<- hev]
     rw [<- hco] at oss onn ock oad ovc ova ovn
     simp only [fpart,part',Tryz.f36,Option.getD]
     simp only [S8,R,SG,seval,UT,SC,eqgK,buildKy0,oss,onn,ock,oad,ovc,ova,ovn,hlen,c1,c2,z1]
     exact ⟨_,rfl⟩
   · rw [if_neg (by omega)]
     obtain ⟨ev,eo,so,co,⟨hev,hco⟩,R⟩:=RULES CC;rw [<- hev]
     rw [<- hco] at oss onn ock oad ovc ova ovn
     simp only [fpart,part',Tryz.f36,Option.getD]
     simp only [S8,R,SG,seval,UT,SC,eqgK,buildKy0,oss,onn,ock,oad,ovc,ova,ovn,hlen,c1,c2,z1]
     exact ⟨_,rfl⟩
theorem op_R30_Step (s:Sp) (hp:plSp s=true) (bx):callOp CC (callL CC) 36 [spV s] bx=some (.ret (.int .i64 (spE s)),bx):=by
 obtain ⟨b,h⟩:=call_R30_Step s hp
 exact callOp_of rfl (by simp only [pureL_cons,spV_pure,pureL_nil,Bool.and_self]) h rfl
end Go.HH
namespace Go.HH
open Go Go.Proofs
set_option maxRecDepth 100000
set_option maxHeartbeats 4000000
set_option linter.unusedSimpArgs false
set_option linter.unusedVariables false
theorem ok_print_Check:fnOK CC Tryz.f11 (Tryz.f11.body.getD .skip)=true:=by kernel_rfl
theorem fat_print_Check:CC.P.funcs[11]?=some Tryz.f11:=by kernel_rfl
theorem ok_R30_Check:fnOK CC Tryz.f12 (Tryz.f12.body.getD .skip)=true:=by kernel_rfl
theorem fat_R30_Check:CC.P.funcs[12]?=some Tryz.f12:=by kernel_rfl
def fsE {α:Type} (f:α->Int):List α->Int
 | []=>0
 | x :: r=>if f x≠0 then f x else fsE f r
def PFe (j:Nat) (bx:List PBox) (v:Int) (res:Option (Ex×St)):Prop:=∃ e' ex,(v=0∧res=some (.exit j,⟨e',bx++ex⟩)∧getT e' 1=.bp 0 0)∨(v≠0∧res=some (.ret,⟨e',bx++ex⟩)∧getT e' 2=.int .i64 v)
def PFc (j:Nat) (bx:List PBox) (v:Int) (res:Option (Ex×St)):Prop:=∃ e',(v=0∧res=some (.exit j,⟨e',bx⟩)∧getT e' 1=.bp 0 0)∨(v≠0∧res=some (.ret,⟨e',bx⟩)∧getT e' 2=.int .i64 v)
theorem PFe.app {j:Nat} {bx:List PBox} {x:PBox} {v:Int} {res:Option (Ex×St)} (h:PFe j (bx++[x]) v res):PFe j bx v res:=by
 obtain ⟨e',ex,h⟩:=h
 refine ⟨e',[x]++ex,?_⟩
 rw [<- List.append_assoc]
 exact h
theorem loop_pon (L:Code) (hL:L=fpart Tryz.f11 [1,1,1,1,0,1,0]) (l:List Tg) (hl:l.length<=12) (hc:∀ t ∈ l,∀ bx,callOp CC (callL CC) 30 [tgV t] bx=some (.ret (.int .i64 (tgE t)),bx)):∀ (k i:Nat) (e:List PV) (bx:List PBox) ,i+k=l.length ->
 getT e 1=.bp 0 0->getT e 45=.sl (l.map tgV)->getT e 46=.int .i64 l.length->getT e 47=.int .i64 i->PFe 0 bx (fsE tgE (l.drop i)) (evL CC L ⟨e,bx⟩):=by
 intro k
 induction k with
 | zero=>
  intro i e bx hi0 e1 es el ei
  rw [evL_at (fpart Tryz.f11 [1,1,1,1,0,1,0,0]) hL]
  have hi:¬ ((i:Int) < (l.length:Int)):=by omega
  rw [List.drop_eq_nil_of_le (by omega)]
  unfold fsE
  generalize l.map tgV=xs at *
  obtain ⟨ev,eo,so,co,⟨hev,hco⟩,R⟩:=RULES CC;rw [<- hev]
  simp only [fpart,part',Tryz.f11,Option.getD]
  simp only [S8,R,SG,seval,UT,SC,TGf,SPf,List.getElem?_concat_length,e1,es,el,ei,hi]
  exact ⟨_,[],.inl ⟨rfl,by rw [List.append_nil],by simp only [S7,R,seval,e1]⟩⟩
 | succ k ih=>
  intro i e bx hi0 e1 es el ei
  rw [evL_at (fpart Tryz.f11 [1,1,1,1,0,1,0,0]) hL]
  have hi:((i:Int) < (l.length:Int)):=by omega
  have hi0':¬ ((i:Int) < 0):=by omega
  have hdr:l.drop i=(l[i]'(by omega)) :: l.drop (i+1):=List.drop_eq_getElem_cons (by omega)
  have hx:(l.map tgV)[i]?=some (tgV (l[i]'(by omega))):=by rw [List.getElem?_map,List.getElem?_eq_getElem (by omega)];rfl
  have hw1:=wrap_i64 (n:=(i:Int)+1) ⟨by omega,by omega⟩
  have hop:=hc (l[i]'(by omega)) (List.getElem_mem _)
  have key:=fun e bx=>ih (i+1) e bx (by omega)
  have cast1:((i+1:Nat):Int)=(i:Int)+1:=by omega
  rw [cast1] at key
  rw [hdr]
  unfold fsE
  generalize l[i]'(by omega)=x at *
  generalize fsE tgE (l.drop (i+1))=v at *
  generalize tgE x=er at *
  generalize l.map tgV=xs at *
  obtain ⟨xk,xkey,xev,xnm,xn,xm⟩:=x
  obtain ⟨xd,xcl,xat⟩:=xkey
  obtain ⟨yd,yc,yn⟩:=xev
  unfold tgV at hx hop
  simp only at hx hop
  by_cases c1:er=0
  · subst c1
    rw [if_neg (by simp)]
    apply PFe.app
    obtain ⟨ev,eo,so,co,⟨hev,hco⟩,R⟩:=RULES CC;rw [<- hev]
    rw [<- hev] at key
    rw [<- hco] at hop
    simp only [fpart,part',Tryz.f11,Option.getD]
    simp only [S8,R,SG,seval,UT,SC,TGf,SPf,List.getElem?_concat_length,e1,es,el,ei,hi,hi0',hx,hw1,hop]
    refine key _ _ ?_ ?_ ?_ ?_
    all_goals simp only [S7,R,seval,e1,es,el,ei]
  · have c1p:(er != 0)=true:=by simpa using c1
    rw [if_pos c1]
    obtain ⟨ev,eo,so,co,⟨hev,hco⟩,R⟩:=RULES CC;rw [<- hev]
    rw [<- hco] at hop
    simp only [fpart,part',Tryz.f11,Option.getD]
    simp only [S8,R,SG,seval,UT,SC,TGf,SPf,List.getElem?_concat_length,e1,es,el,ei,hi,hi0',hx,hop,c1p]
    exact ⟨_,_,.inr ⟨c1,rfl,by simp only [S7,R,seval]⟩⟩
theorem loop_pdo (L:Code) (hL:L=fpart Tryz.f11 [1,1,1,1,1,1,0,1,0]) (l:List Sp) (hl:l.length<=12) (hc:∀ t ∈ l,∀ bx,callOp CC (callL CC) 32 [spV t] bx=some (.ret (.int .i64 (spE t)),bx)):∀ (k i:Nat) (e:List PV) (bx:List PBox) ,i+k=l.length ->
 getT e 1=.bp 0 0->getT e 64=.sl (l.map spV)->getT e 65=.int .i64 l.length->getT e 66=.int .i64 i->PFe 2 bx (fsE spE (l.drop i)) (evL CC L ⟨e,bx⟩):=by
 intro k
 induction k with
 | zero=>
  intro i e bx hi0 e1 es el ei
  rw [evL_at (fpart Tryz.f11 [1,1,1,1,1,1,0,1,0,0]) hL]
  have hi:¬ ((i:Int) < (l.length:Int)):=by omega
  rw [List.drop_eq_nil_of_le (by omega)]
  unfold fsE
  generalize l.map spV=xs at *
  obtain ⟨ev,eo,so,co,⟨hev,hco⟩,R⟩:=RULES CC;rw [<- hev]
  simp only [fpart,part',Tryz.f11,Option.getD]
  simp only [S8,R,SG,seval,UT,SC,TGf,SPf,List.getElem?_concat_length,e1,es,el,ei,hi]
  exact ⟨_,[],.inl ⟨rfl,by rw [List.append_nil],by simp only [S7,R,seval,e1]⟩⟩
 | succ k ih=>
  intro i e bx hi0 e1 es el ei
  rw [evL_at (fpart Tryz.f11 [1,1,1,1,1,1,0,1,0,0]) hL]
  have hi:((i:Int) < (l.length:Int)):=by omega
  have hi0':¬ ((i:Int) < 0):=by omega
  have hdr:l.drop i=(l[i]'(by omega)) :: l.drop (i+1):=List.drop_eq_getElem_cons (by omega)
  have hx:(l.map spV)[i]?=some (spV (l[i]'(by omega))):=by rw [List.getElem?_map,List.getElem?_eq_getElem (by omega)];rfl
  have hw1:=wrap_i64 (n:=(i:Int)+1) ⟨by omega,by omega⟩
  have hop:=hc (l[i]'(by omega)) (List.getElem_mem _)
  have key:=fun e bx=>ih (i+1) e bx (by omega)
  have cast1:((i+1:Nat):Int)=(i:Int)+1:=by omega
  rw [cast1] at key
  rw [hdr]
  unfold fsE
  generalize l[i]'(by omega)=x at *
  generalize fsE spE (l.drop (i+1))=v at *
  generalize spE x=er at *
  generalize l.map spV=xs at *
  obtain ⟨xk,xkey,xnm,xt⟩:=x
  obtain ⟨xd,xcl,xat⟩:=xkey
  unfold spV trC at hx hop
  obtain ⟨zk,zn,zm,znm,zv,zkey,zkids⟩:=xt
  unfold trV at hx hop
  simp only [SA,List.cons_append,List.nil_append] at hx hop
  generalize trVs zkids=zs at *
  by_cases c1:er=0
  · subst c1
    rw [if_neg (by simp)]
    apply PFe.app
    obtain ⟨ev,eo,so,co,⟨hev,hco⟩,R⟩:=RULES CC;rw [<- hev]
    rw [<- hev] at key
    rw [<- hco] at hop
    simp only [fpart,part',Tryz.f11,Option.getD]
    simp only [S8,R,SG,seval,UT,SC,TGf,SPf,List.getElem?_concat_length,e1,es,el,ei,hi,hi0',hx,hw1,hop]
    refine key _ _ ?_ ?_ ?_ ?_
    all_goals simp only [S7,R,seval,e1,es,el,ei]
  · have c1p:(er != 0)=true:=by simpa using c1
    rw [if_pos c1]
    obtain ⟨ev,eo,so,co,⟨hev,hco⟩,R⟩:=RULES CC;rw [<- hev]
    rw [<- hco] at hop
    simp only [fpart,part',Tryz.f11,Option.getD]
    simp only [S8,R,SG,seval,UT,SC,TGf,SPf,List.getElem?_concat_length,e1,es,el,ei,hi,hi0',hx,hop,c1p]
    exact ⟨_,_,.inr ⟨c1,rfl,by simp only [S7,R,seval]⟩⟩
theorem loop_ron (L:Code) (hL:L=fpart Tryz.f12 [1,1,1,1,0,1,0]) (b0 b1 b3 b4 b5 b6 b7 b8 b9 b10 b11 b12 b13 b14:PV) (l:List Tg) (hl:l.length<=12) (hc:∀ t ∈ l,∀ bx,callOp CC (callL CC) 34 [tgV t] bx=some (.ret (.int .i64 (tgE t)),bx)):∀ (k i:Nat) (e:List PV) ,i+k=l.length ->
 getT e 1=.bp 0 0->getT e 43=.int .i64 l.length->getT e 44=.int .i64 i->PFc 0 [.cells 32 [b0,b1,.sl (l.map tgV),b3,b4,b5,b6,b7,b8,b9,b10,b11,b12,b13,b14]] (fsE tgE (l.drop i)) (evL CC L ⟨e,[.cells 32 [b0,b1,.sl (l.map tgV),b3,b4,b5,b6,b7,b8,b9,b10,b11,b12,b13,b14]]⟩):=by
 intro k
 induction k with
 | zero=>
  intro i e hi0 e1 el ei
  rw [evL_at (fpart Tryz.f12 [1,1,1,1,0,1,0,0]) hL]
  have hi:¬ ((i:Int) < (l.length:Int)):=by omega
  rw [List.drop_eq_nil_of_le (by omega)]
  unfold fsE
  generalize l.map tgV=xs at *
  obtain ⟨ev,eo,so,co,⟨hev,hco⟩,R⟩:=RULES CC;rw [<- hev]
  simp only [fpart,part',Tryz.f12,Option.getD]
  simp only [S8,R,SG,seval,UT,SC,TGf,SPf,List.getElem?_concat_length,e1,el,ei,hi]
  exact ⟨_,.inl ⟨rfl,rfl,by simp only [S7,R,seval,e1]⟩⟩
 | succ k ih=>
  intro i e hi0 e1 el ei
  rw [evL_at (fpart Tryz.f12 [1,1,1,1,0,1,0,0]) hL]
  have hi:((i:Int) < (l.length:Int)):=by omega
  have hi0':¬ ((i:Int) < 0):=by omega
  have hdr:l.drop i=(l[i]'(by omega)) :: l.drop (i+1):=List.drop_eq_getElem_cons (by omega)
  have hx:(l.map tgV)[i]?=some (tgV (l[i]'(by omega))):=by rw [List.getElem?_map,List.getElem?_eq_getElem (by omega)];rfl
  have hw1:=wrap_i64 (n:=(i:Int)+1) ⟨by omega,by omega⟩
  have hop:=hc (l[i]'(by omega)) (List.getElem_mem _)
  have key:=fun e=>ih (i+1) e (by omega)
  have cast1:((i+1:Nat):Int)=(i:Int)+1:=by omega
  rw [cast1] at key
  rw [hdr]
  unfold fsE
  generalize l[i]'(by omega)=x at *
  generalize fsE tgE (l.drop (i+1))=v at *
  generalize tgE x=er at *
  generalize l.map tgV=xs at *
  obtain ⟨xk,xkey,xev,xnm,xn,xm⟩:=x
  obtain ⟨xd,xcl,xat⟩:=xkey
  obtain ⟨yd,yc,yn⟩:=xev
  unfold tgV at hx hop
  simp only at hx hop
  by_cases c1:er=0
  · subst c1
    rw [if_neg (by simp)]
    skip
    obtain ⟨ev,eo,so,co,⟨hev,hco⟩,R⟩:=RULES CC;rw [<- hev]
    rw [<- hev] at key
    rw [<- hco] at hop
    simp only [fpart,part',Tryz.f12,Option.getD]
    simp only [S8,R,SG,seval,UT,SC,TGf,SPf,List.getElem?_concat_length,e1,el,ei,hi,hi0',hx,hw1,hop]
    refine key _ ?_ ?_ ?_
    all_goals simp only [S7,R,seval,e1,el,ei]
  · have c1p:(er != 0)=true:=by simpa using c1
    rw [if_pos c1]
    obtain ⟨ev,eo,so,co,⟨hev,hco⟩,R⟩:=RULES CC;rw [<- hev]
    rw [<- hco] at hop
    simp only [fpart,part',Tryz.f12,Option.getD]
    simp only [S8,R,SG,seval,UT,SC,TGf,SPf,List.getElem?_concat_length,e1,el,ei,hi,hi0',hx,hop,c1p]
    exact ⟨_,.inr ⟨c1,rfl,by simp only [S7,R,seval]⟩⟩
theorem loop_rdo (L:Code) (hL:L=fpart Tryz.f12 [1,1,1,1,1,1,1,0,1,0]) (b0 b1 b2 b3 b4 b5 b6 b7 b8 b9 b10 b11 b12 b13:PV) (l:List Sp) (hl:l.length<=12) (hc:∀ t ∈ l,∀ bx,callOp CC (callL CC) 36 [spV t] bx=some (.ret (.int .i64 (spE t)),bx)):∀ (k i:Nat) (e:List PV) ,i+k=l.length ->
 getT e 1=.bp 0 0->getT e 65=.int .i64 l.length->getT e 66=.int .i64 i->PFc 2 [.cells 32 [b0,b1,b2,b3,b4,b5,b6,b7,b8,b9,b10,b11,b12,b13,.sl (l.map spV)]] (fsE spE (l.drop i)) (evL CC L ⟨e,[.cells 32 [b0,b1,b2,b3,b4,b5,b6,b7,b8,b9,b10,b11,b12,b13,.sl (l.map spV)]]⟩):=by
 intro k
 induction k with
 | zero=>
  intro i e hi0 e1 el ei
  rw [evL_at (fpart Tryz.f12 [1,1,1,1,1,1,1,0,1,0,0]) hL]
  have hi:¬ ((i:Int) < (l.length:Int)):=by omega
  rw [List.drop_eq_nil_of_le (by omega)]
  unfold fsE
  generalize l.map spV=xs at *
  obtain ⟨ev,eo,so,co,⟨hev,hco⟩,R⟩:=RULES CC;rw [<- hev]
  simp only [fpart,part',Tryz.f12,Option.getD]
  simp only [S8,R,SG,seval,UT,SC,TGf,SPf,List.getElem?_concat_length,e1,el,ei,hi]
  exact ⟨_,.inl ⟨rfl,rfl,by simp only [S7,R,seval,e1]⟩⟩
 | succ k ih=>
  intro i e hi0 e1 el ei
  rw [evL_at (fpart Tryz.f12 [1,1,1,1,1,1,1,0,1,0,0]) hL]
  have hi:((i:Int) < (l.length:Int)):=by omega
  have hi0':¬ ((i:Int) < 0):=by omega
  have hdr:l.drop i=(l[i]'(by omega)) :: l.drop (i+1):=List.drop_eq_getElem_cons (by omega)
  have hx:(l.map spV)[i]?=some (spV (l[i]'(by omega))):=by rw [List.getElem?_map,List.getElem?_eq_getElem (by omega)];rfl
  have hw1:=wrap_i64 (n:=(i:Int)+1) ⟨by omega,by omega⟩
  have hop:=hc (l[i]'(by omega)) (List.getElem_mem _)
  have key:=fun e=>ih (i+1) e (by omega)
  have cast1:((i+1:Nat):Int)=(i:Int)+1:=by omega
  rw [cast1] at key
  rw [hdr]
  unfold fsE
  generalize l[i]'(by omega)=x at *
  generalize fsE spE (l.drop (i+1))=v at *
  generalize spE x=er at *
  generalize l.map spV=xs at *
  obtain ⟨xk,xkey,xnm,xt⟩:=x
  obtain ⟨xd,xcl,xat⟩:=xkey
  unfold spV trC at hx hop
  obtain ⟨zk,zn,zm,znm,zv,zkey,zkids⟩:=xt
  unfold trV at hx hop
  simp only [SA,List.cons_append,List.nil_append] at hx hop
  generalize trVs zkids=zs at *
  by_cases c1:er=0
  · subst c1
    rw [if_neg (by simp)]
    skip
    obtain ⟨ev,eo,so,co,⟨hev,hco⟩,R⟩:=RULES CC;rw [<- hev]
    rw [<- hev] at key
    rw [<- hco] at hop
    simp only [fpart,part',Tryz.f12,Option.getD]
    simp only [S8,R,SG,seval,UT,SC,TGf,SPf,List.getElem?_concat_length,e1,el,ei,hi,hi0',hx,hw1,hop]
    refine key _ ?_ ?_ ?_
    all_goals simp only [S7,R,seval,e1,el,ei]
  · have c1p:(er != 0)=true:=by simpa using c1
    rw [if_pos c1]
    obtain ⟨ev,eo,so,co,⟨hev,hco⟩,R⟩:=RULES CC;rw [<- hev]
    rw [<- hco] at hop
    simp only [fpart,part',Tryz.f12,Option.getD]
    simp only [S8,R,SG,seval,UT,SC,TGf,SPf,List.getElem?_concat_length,e1,el,ei,hi,hi0',hx,hop,c1p]
    exact ⟨_,.inr ⟨c1,rfl,by simp only [S7,R,seval]⟩⟩
end Go.HH
namespace Go.HH
open Go Go.Proofs
set_option maxRecDepth 100000
set_option maxHeartbeats 4000000
set_option linter.unusedSimpArgs false
set_option linter.unusedVariables false
def rlE (r:Rl):Int:=if valB r.nm=false then 10 else if r.pr < 0∨100 < r.pr then 2 else if r.on.length < 1∨8 < r.on.length∨r.dos.length < 1∨8 < r.dos.length then 3 else
 if fsE tgE r.on≠0 then fsE tgE r.on else if ckT r.ife≠0 then ckT r.ife else fsE spE r.dos
theorem plRl_len {r:Rl} (h:plRl r=true):r.nm.length<=100∧r.on.length<=12∧r.dos.length<=12∧0<=mdT r.ife 220 30∧(∀ t ∈ r.on,plTg t=true)∧∀ s ∈ r.dos,plSp s=true:=by
 unfold plRl at h
 rw [Bool.and_eq_true,Bool.and_eq_true,List.all_eq_true,List.all_eq_true] at h
 obtain ⟨⟨h1,h2⟩,h3⟩:=h
 have h1:=of_decide_eq_true h1
 exact ⟨h1.1,h1.2.1,h1.2.2.1,h1.2.2.2,h2,h3⟩
theorem call_print_Check (hT:∀ t,plTg t=true->∀ bx,callOp CC (callL CC) 30 [tgV t] bx=some (.ret (.int .i64 (tgE t)),bx)) (r:Rl) (hp:plRl r=true):∃ bx,callL CC 11 [rlV r] []=some (.ret (.int .i64 (rlE r)),bx):=by
 obtain ⟨g1,g2,g3,g4,g5,g6⟩:=plRl_len hp
 unfold rlE
 obtain ⟨nm,pr,on,ife,dos⟩:=r
 simp only at g1 g2 g3 g4 g5 g6 ⊢
 have ova:=op_names_Valid nm (by omega)
 have ock:=op_expr_Check ife (sh_md ife 220 30 g4)
 have lon:(on.map tgV).length=on.length:=List.length_map _
 have ldo:(dos.map spV).length=dos.length:=List.length_map _
 have hon:=fun e bx=>loop_pon _ rfl on (by omega) (fun t ht=>hT t (g5 t ht)) on.length 0 e bx (by omega)
 have hdo:=fun e bx=>loop_pdo _ rfl dos (by omega) (fun s hs=>op_print_step s (g6 s hs)) dos.length 0 e bx (by omega)
 rw [List.drop_zero] at hon hdo
 generalize valB nm=va at *
 generalize ckT ife=ck at *
 generalize fsE tgE on=f1 at *
 generalize fsE spE dos=f2 at *
 unfold rlV trC
 obtain ⟨zk,zn,zm,znm,zv,zkey,zkids⟩:=ife
 unfold trV at ock ⊢
 simp only [SA,List.cons_append,List.nil_append] at ock ⊢
 generalize trVs zkids=zs at *
 generalize on.map tgV=xs at *
 generalize dos.map spV=ys at *
 rw [callL_enter (fn:=Tryz.f11) (c:=Tryz.f11.body.getD .skip) rfl rfl fat_print_Check rfl ok_print_Check (Nat.le_of_ble_eq_true rfl)]
 cases va with
 | false=>
  rw [if_pos rfl]
  obtain ⟨ev,eo,so,co,⟨hev,hco⟩,R⟩:=RULES CC;rw [<- hev]
  rw [<- hco] at ova ock
  simp only [fpart,part',Tryz.f11,Option.getD]
  simp only [S8,R,SG,seval,UT,SC,ova,ock,lon,ldo]
  exact ⟨_,rfl⟩
 | true=>
  by_cases c0:pr < 0
  · rw [if_neg (by simp),if_pos (by omega)]
    obtain ⟨ev,eo,so,co,⟨hev,hco⟩,R⟩:=RULES CC;rw [<- hev]
    rw [<- hco] at ova ock
    simp only [fpart,part',Tryz.f11,Option.getD]
    simp only [S8,R,SG,seval,UT,SC,ova,ock,lon,ldo,c0]
    exact ⟨_,rfl⟩
  by_cases c1:pr > 100
  · rw [if_neg (by simp),if_pos (by omega)]
    obtain ⟨ev,eo,so,co,⟨hev,hco⟩,R⟩:=RULES CC;rw [<- hev]
    rw [<- hco] at ova ock
    simp only [fpart,part',Tryz.f11,Option.getD]
    simp only [S8,R,SG,seval,UT,SC,ova,ock,lon,ldo,c0,c1]
    exact ⟨_,rfl⟩
  by_cases d0:(on.length:Int) < 1
  · rw [if_neg (by simp),if_neg (by omega),if_pos (by omega)]
    obtain ⟨ev,eo,so,co,⟨hev,hco⟩,R⟩:=RULES CC;rw [<- hev]
    rw [<- hco] at ova ock
    simp only [fpart,part',Tryz.f11,Option.getD]
    simp only [S8,R,SG,seval,UT,SC,ova,ock,lon,ldo,c0,c1,d0]
    exact ⟨_,rfl⟩
  by_cases d1:(on.length:Int) > 8
  · rw [if_neg (by simp),if_neg (by omega),if_pos (by omega)]
    obtain ⟨ev,eo,so,co,⟨hev,hco⟩,R⟩:=RULES CC;rw [<- hev]
    rw [<- hco] at ova ock
    simp only [fpart,part',Tryz.f11,Option.getD]
    simp only [S8,R,SG,seval,UT,SC,ova,ock,lon,ldo,c0,c1,d0,d1]
    exact ⟨_,rfl⟩
  by_cases d2:(dos.length:Int) < 1
  · rw [if_neg (by simp),if_neg (by omega),if_pos (by omega)]
    obtain ⟨ev,eo,so,co,⟨hev,hco⟩,R⟩:=RULES CC;rw [<- hev]
    rw [<- hco] at ova ock
    simp only [fpart,part',Tryz.f11,Option.getD]
    simp only [S8,R,SG,seval,UT,SC,ova,ock,lon,ldo,c0,c1,d0,d1,d2]
    exact ⟨_,rfl⟩
  by_cases d3:(dos.length:Int) > 8
  · rw [if_neg (by simp),if_neg (by omega),if_pos (by omega)]
    obtain ⟨ev,eo,so,co,⟨hev,hco⟩,R⟩:=RULES CC;rw [<- hev]
    rw [<- hco] at ova ock
    simp only [fpart,part',Tryz.f11,Option.getD]
    simp only [S8,R,SG,seval,UT,SC,ova,ock,lon,ldo,c0,c1,d0,d1,d2,d3]
    exact ⟨_,rfl⟩
  rw [if_neg (by simp),if_neg (by omega),if_neg (by omega)]
  obtain ⟨ev,eo,so,co,⟨hev,hco⟩,R⟩:=RULES CC;rw [<- hev]
  rw [<- hco] at ova ock
  rw [<- hev] at hon hdo
  simp only [fpart,part',Tryz.f11,Option.getD] at hon hdo ⊢
  simp only [S8,R,SG,seval,UT,SC,ova,ock,lon,ldo,c0,c1,d0,d1,d2,d3]
  generalize hE:ev (Code.loop _) _=z
  have hP:PFe 0 [.cells 32 [.str nm,.int .i64 pr,.sl xs,.int .i64 zk,.int .i64 zn,.int .i64 zm,.str znm,.int .i64 zv.1,.int .i64 zv.2.1,.str zv.2.2,.int .i64 zkey.1,.str zkey.2.1,.str zkey.2.2,.sl zs,.sl ys]] f1 z:=by
   rw [<- hE]
   refine hon _ _ ?_ ?_ ?_ ?_
   all_goals first | (simp only [S7,R,seval];done) | (simp only [S7,R,seval] <;> rfl)
  obtain ⟨e',ex,⟨hv,he,q1⟩ | ⟨hv,he,q2⟩⟩:=hP
  · subst he
    subst hv
    rw [if_neg (by simp)]
    by_cases k1:ck=0
    · subst k1
      rw [if_neg (by simp)]
      simp only [S8,R,SG,seval,UT,SC,q1,ldo,ock]
      generalize hE2:ev (Code.loop _) _=z2
      have hP2:PFe 2 (.cells 32 [.str nm,.int .i64 pr,.sl xs,.int .i64 zk,.int .i64 zn,.int .i64 zm,.str znm,.int .i64 zv.1,.int .i64 zv.2.1,.str zv.2.2,.int .i64 zkey.1,.str zkey.2.1,.str zkey.2.2,.sl zs,.sl ys] :: ex) f2 z2:=by
       rw [<- hE2]
       refine hdo _ _ ?_ ?_ ?_ ?_
       all_goals first | (simp only [S7,R,seval,q1];done) | (simp only [S7,R,seval,q1] <;> rfl)
      obtain ⟨e2,ex2,⟨hv2,he2,q3⟩ | ⟨hv2,he2,q4⟩⟩:=hP2
      · subst he2
        subst hv2
        simp only [S8,R,seval]
        exact ⟨_,rfl⟩
      · subst he2
        simp only [S8,R,seval,q4]
        exact ⟨_,rfl⟩
    · have k1p:(ck != 0)=true:=by simpa using k1
      rw [if_pos k1]
      simp only [S8,R,SG,seval,UT,SC,q1,ldo,ock,k1p]
      exact ⟨_,rfl⟩
  · subst he
    rw [if_pos hv]
    simp only [S8,R,seval,q2]
    exact ⟨_,rfl⟩
theorem call_R30_Check (r:Rl) (hp:plRl r=true):∃ bx,callL CC 12 [rlV r] []=some (.ret (.int .i64 (rlE r)),bx):=by
 obtain ⟨g1,g2,g3,g4,g5,g6⟩:=plRl_len hp
 unfold rlE
 obtain ⟨nm,pr,on,ife,dos⟩:=r
 simp only at g1 g2 g3 g4 g5 g6 ⊢
 have ova:=op_R04_Valid nm (by omega)
 have ock:=op_R28_Check ife (sh_md ife 220 30 g4)
 have lon:(on.map tgV).length=on.length:=List.length_map _
 have ldo:(dos.map spV).length=dos.length:=List.length_map _
 have hon:=fun b0 b1 b3 b4 b5 b6 b7 b8 b9 b10 b11 b12 b13 b14 e=>loop_ron _ rfl b0 b1 b3 b4 b5 b6 b7 b8 b9 b10 b11 b12 b13 b14 on (by omega) (fun t ht=>op_R30_Trigger t (g5 t ht)) on.length 0 e (by omega)
 have hdo:=fun b0 b1 b2 b3 b4 b5 b6 b7 b8 b9 b10 b11 b12 b13 e=>loop_rdo _ rfl b0 b1 b2 b3 b4 b5 b6 b7 b8 b9 b10 b11 b12 b13 dos (by omega) (fun s hs=>op_R30_Step s (g6 s hs)) dos.length 0 e (by omega)
 rw [List.drop_zero] at hon hdo
 generalize valB nm=va at *
 generalize ckT ife=ck at *
 generalize fsE tgE on=f1 at *
 generalize fsE spE dos=f2 at *
 unfold rlV trC
 obtain ⟨zk,zn,zm,znm,zv,zkey,zkids⟩:=ife
 unfold trV at ock ⊢
 simp only [SA,List.cons_append,List.nil_append] at ock ⊢
 generalize trVs zkids=zs at *
 generalize on.map tgV=xs at *
 generalize dos.map spV=ys at *
 rw [callL_enter (fn:=Tryz.f12) (c:=Tryz.f12.body.getD .skip) rfl rfl fat_R30_Check rfl ok_R30_Check (Nat.le_of_ble_eq_true rfl)]
 cases va with
 | false=>
  rw [if_pos rfl]
  obtain ⟨ev,eo,so,co,⟨hev,hco⟩,R⟩:=RULES CC;rw [<- hev]
  rw [<- hco] at ova ock
  simp only [fpart,part',Tryz.f12,Option.getD]
  simp only [S8,R,SG,seval,UT,SC,ova,ock,lon,ldo]
  exact ⟨_,rfl⟩
 | true=>
  by_cases c0:pr < 0
  · rw [if_neg (by simp),if_pos (by omega)]
    obtain ⟨ev,eo,so,co,⟨hev,hco⟩,R⟩:=RULES CC;rw [<- hev]
    rw [<- hco] at ova ock
    simp only [fpart,part',Tryz.f12,Option.getD]
    simp only [S8,R,SG,seval,UT,SC,ova,ock,lon,ldo,c0]
    exact ⟨_,rfl⟩
  by_cases c1:pr > 100
  · rw [if_neg (by simp),if_pos (by omega)]
    obtain ⟨ev,eo,so,co,⟨hev,hco⟩,R⟩:=RULES CC;rw [<- hev]
    rw [<- hco] at ova ock
    simp only [fpart,part',Tryz.f12,Option.getD]
    simp only [S8,R,SG,seval,UT,SC,ova,ock,lon,ldo,c0,c1]
    exact ⟨_,rfl⟩
  by_cases d0:(on.length:Int) < 1
  · rw [if_neg (by simp),if_neg (by omega),if_pos (by omega)]
    obtain ⟨ev,eo,so,co,⟨hev,hco⟩,R⟩:=RULES CC;rw [<- hev]
    rw [<- hco] at ova ock
    simp only [fpart,part',Tryz.f12,Option.getD]
    simp only [S8,R,SG,seval,UT,SC,ova,ock,lon,ldo,c0,c1,d0]
    exact ⟨_,rfl⟩
  by_cases d1:(on.length:Int) > 8
  · rw [if_neg (by simp),if_neg (by omega),if_pos (by omega)]
    obtain ⟨ev,eo,so,co,⟨hev,hco⟩,R⟩:=RULES CC;rw [<- hev]
    rw [<- hco] at ova ock
    simp only [fpart,part',Tryz.f12,Option.getD]
    simp only [S8,R,SG,seval,UT,SC,ova,ock,lon,ldo,c0,c1,d0,d1]
    exact ⟨_,rfl⟩
  by_cases d2:(dos.length:Int) < 1
  · rw [if_neg (by simp),if_neg (by omega),if_pos (by omega)]
    obtain ⟨ev,eo,so,co,⟨hev,hco⟩,R⟩:=RULES CC;rw [<- hev]
    rw [<- hco] at ova ock
    simp only [fpart,part',Tryz.f12,Option.getD]
    simp only [S8,R,SG,seval,UT,SC,ova,ock,lon,ldo,c0,c1,d0,d1,d2]
    exact ⟨_,rfl⟩
  by_cases d3:(dos.length:Int) > 8
  · rw [if_neg (by simp),if_neg (by omega),if_pos (by omega)]
    obtain ⟨ev,eo,so,co,⟨hev,hco⟩,R⟩:=RULES CC;rw [<- hev]
    rw [<- hco] at ova ock
    simp only [fpart,part',Tryz.f12,Option.getD]
    simp only [S8,R,SG,seval,UT,SC,ova,ock,lon,ldo,c0,c1,d0,d1,d2,d3]
    exact ⟨_,rfl⟩
  rw [if_neg (by simp),if_neg (by omega),if_neg (by omega)]
  obtain ⟨ev,eo,so,co,⟨hev,hco⟩,R⟩:=RULES CC;rw [<- hev]
  rw [<- hco] at ova ock
  rw [<- hev] at hon hdo
  simp only [fpart,part',Tryz.f12,Option.getD] at hon hdo ⊢
  simp only [S8,R,SG,seval,UT,SC,ova,ock,lon,ldo,c0,c1,d0,d1,d2,d3]
  generalize hE:ev (Code.loop _) _=z
  have hP:PFc 0 [.cells 32 [.str nm,.int .i64 pr,.sl xs,.int .i64 zk,.int .i64 zn,.int .i64 zm,.str znm,.int .i64 zv.1,.int .i64 zv.2.1,.str zv.2.2,.int .i64 zkey.1,.str zkey.2.1,.str zkey.2.2,.sl zs,.sl ys]] f1 z:=by
   rw [<- hE]
   refine hon _ _ _ _ _ _ _ _ _ _ _ _ _ _ _ ?_ ?_ ?_
   all_goals first | (simp only [S7,R,seval];done) | (simp only [S7,R,seval] <;> rfl)
  obtain ⟨e',⟨hv,he,q1⟩ | ⟨hv,he,q2⟩⟩:=hP
  · subst he
    subst hv
    rw [if_neg (by simp)]
    by_cases k1:ck=0
    · subst k1
      rw [if_neg (by simp)]
      simp only [S8,R,SG,seval,UT,SC,q1,ldo,ock]
      generalize hE2:ev (Code.loop _) _=z2
      have hP2:PFc 2 (.cells 32 [.str nm,.int .i64 pr,.sl xs,.int .i64 zk,.int .i64 zn,.int .i64 zm,.str znm,.int .i64 zv.1,.int .i64 zv.2.1,.str zv.2.2,.int .i64 zkey.1,.str zkey.2.1,.str zkey.2.2,.sl zs,.sl ys] :: []) f2 z2:=by
       rw [<- hE2]
       refine hdo _ _ _ _ _ _ _ _ _ _ _ _ _ _ _ ?_ ?_ ?_
       all_goals first | (simp only [S7,R,seval,q1];done) | (simp only [S7,R,seval,q1] <;> rfl)
      obtain ⟨e2,⟨hv2,he2,q3⟩ | ⟨hv2,he2,q4⟩⟩:=hP2
      · subst he2
        subst hv2
        simp only [S8,R,seval]
        exact ⟨_,rfl⟩
      · subst he2
        simp only [S8,R,seval,q4]
        exact ⟨_,rfl⟩
    · have k1p:(ck != 0)=true:=by simpa using k1
      rw [if_pos k1]
      simp only [S8,R,SG,seval,UT,SC,q1,ldo,ock,k1p]
      exact ⟨_,rfl⟩
  · subst he
    rw [if_pos hv]
    simp only [S8,R,seval,q2]
    exact ⟨_,rfl⟩
theorem op_R30_CheckRl (r:Rl) (hp:plRl r=true) (bx):callOp CC (callL CC) 12 [rlV r] bx=some (.ret (.int .i64 (rlE r)),bx):=by
 obtain ⟨b,h⟩:=call_R30_Check r hp
 exact callOp_of rfl (by simp only [pureL_cons,rlV_pure,pureL_nil,Bool.and_self]) h rfl
end Go.HH
namespace Go.HH
open Go Go.Proofs
set_option maxRecDepth 100000
set_option maxHeartbeats 4000000
set_option linter.unusedSimpArgs false
set_option linter.unusedVariables false
theorem ok_print_trigger:fnOK CC Tryz.f30 (Tryz.f30.body.getD .skip)=true:=by kernel_rfl
theorem fat_print_trigger:CC.P.funcs[30]?=some Tryz.f30:=by kernel_rfl
theorem call_print_trigger (hS:∀ t:Tg,∀ bx,callOp CC (callL CC) 57 [tgV t] bx=some (.ret (.bool (!(tsT t))),bx)) (t:Tg) (hp:plTg t=true):∃ bx,callL CC 30 [tgV t] []=some (.ret (.int .i64 (tgE t)),bx):=by
 have hl:=plTg_len hp
 have osp:=hS t
 clear hS
 unfold tgE
 obtain ⟨k,key,ev,nm,n,m⟩:=t
 obtain ⟨d,c,a⟩:=key
 obtain ⟨d',c',a'⟩:=ev
 obtain ⟨l1,l2,l3,l4,l5⟩:=hl
 simp only at l1 l2 l3 l4 l5
 have on1:=op_print_named d c a (by omega) (by omega)
 have on2:=op_print_named d' c' a' (by omega) (by omega)
 have v5:=op_names_Valid nm (by omega)
 have hn:strP .neq nm []=some (.bool (!(nm == []))):=rfl
 obtain ⟨ne,hne⟩:∃ b,b=(nm == []):=⟨_,rfl⟩
 have hne':nm=[]↔ne=true:=by rw [hne];simp
 rw [<- hne] at hn
 unfold tgV at osp ⊢
 simp only at osp ⊢
 generalize tsT ⟨k,(d,c,a),(d',c',a'),nm,n,m⟩=ts at *
 rw [callL_enter (fn:=Tryz.f30) (c:=Tryz.f30.body.getD .skip) rfl rfl fat_print_trigger rfl ok_print_trigger (Nat.le_of_ble_eq_true rfl)]
 generalize nmE d c a=q1 at *
 generalize nmE d' c' a'=q2 at *
 generalize valB nm=p5 at *
 by_cases c1:k < 1
 · rw [if_pos (by omega)]
   obtain ⟨ev,eo,so,co,⟨hev,hco⟩,R⟩:=RULES CC;rw [<- hev]
   rw [<- hco] at osp on1 on2 v5
   simp only [fpart,part',Tryz.f30,Option.getD]
   simp only [S8,R,SG,seval,UT,SC,osp,on1,on2,v5,hn,c1]
   exact ⟨_,rfl⟩
 by_cases c2:k > 6
 · rw [if_pos (by omega)]
   obtain ⟨ev,eo,so,co,⟨hev,hco⟩,R⟩:=RULES CC;rw [<- hev]
   rw [<- hco] at osp on1 on2 v5
   simp only [fpart,part',Tryz.f30,Option.getD]
   simp only [S8,R,SG,seval,UT,SC,osp,on1,on2,v5,hn,c1,c2]
   exact ⟨_,rfl⟩
 cases ts with
 | true=>
  rw [if_neg (by omega),if_pos rfl]
  obtain ⟨ev,eo,so,co,⟨hev,hco⟩,R⟩:=RULES CC;rw [<- hev]
  rw [<- hco] at osp on1 on2 v5
  simp only [fpart,part',Tryz.f30,Option.getD]
  simp only [S8,R,SG,seval,UT,SC,osp,on1,on2,v5,hn,c1,c2]
  exact ⟨_,rfl⟩
 | false=>
  by_cases k1:k=1
  · subst k1
    rw [if_neg (by omega),if_neg (by simp),if_pos rfl]
    obtain ⟨ev,eo,so,co,⟨hev,hco⟩,R⟩:=RULES CC;rw [<- hev]
    rw [<- hco] at osp on1 on2 v5
    simp only [fpart,part',Tryz.f30,Option.getD]
    simp only [S8,R,SG,seval,UT,SC,osp,on1,on2,v5,hn,c1,c2]
    exact ⟨_,rfl⟩
  by_cases k2:k=2
  · subst k2
    rw [if_neg (by omega),if_neg (by simp),if_neg (by omega),if_pos rfl]
    obtain ⟨ev,eo,so,co,⟨hev,hco⟩,R⟩:=RULES CC;rw [<- hev]
    rw [<- hco] at osp on1 on2 v5
    simp only [fpart,part',Tryz.f30,Option.getD]
    simp only [S8,R,SG,seval,UT,SC,osp,on1,on2,v5,hn,c1,c2]
    exact ⟨_,rfl⟩
  by_cases k3:k=3
  · subst k3
    by_cases e0:n < 0
    · rw [if_neg (by omega),if_neg (by simp),if_neg (by omega),if_neg (by omega),if_pos rfl,if_neg (by omega)]
      obtain ⟨ev,eo,so,co,⟨hev,hco⟩,R⟩:=RULES CC;rw [<- hev]
      rw [<- hco] at osp on1 on2 v5
      simp only [fpart,part',Tryz.f30,Option.getD]
      simp only [S8,R,SG,seval,UT,SC,osp,on1,on2,v5,hn,c1,c2,e0]
      exact ⟨_,rfl⟩
    by_cases e1:n ≥ 1440
    · rw [if_neg (by omega),if_neg (by simp),if_neg (by omega),if_neg (by omega),if_pos rfl,if_neg (by omega)]
      obtain ⟨ev,eo,so,co,⟨hev,hco⟩,R⟩:=RULES CC;rw [<- hev]
      rw [<- hco] at osp on1 on2 v5
      simp only [fpart,part',Tryz.f30,Option.getD]
      simp only [S8,R,SG,seval,UT,SC,osp,on1,on2,v5,hn,c1,c2,e0,e1]
      exact ⟨_,rfl⟩
    by_cases e2:m < 1
    · rw [if_neg (by omega),if_neg (by simp),if_neg (by omega),if_neg (by omega),if_pos rfl,if_neg (by omega)]
      obtain ⟨ev,eo,so,co,⟨hev,hco⟩,R⟩:=RULES CC;rw [<- hev]
      rw [<- hco] at osp on1 on2 v5
      simp only [fpart,part',Tryz.f30,Option.getD]
      simp only [S8,R,SG,seval,UT,SC,osp,on1,on2,v5,hn,c1,c2,e0,e1,e2]
      exact ⟨_,rfl⟩
    by_cases e3:m > 127
    · rw [if_neg (by omega),if_neg (by simp),if_neg (by omega),if_neg (by omega),if_pos rfl,if_neg (by omega)]
      obtain ⟨ev,eo,so,co,⟨hev,hco⟩,R⟩:=RULES CC;rw [<- hev]
      rw [<- hco] at osp on1 on2 v5
      simp only [fpart,part',Tryz.f30,Option.getD]
      simp only [S8,R,SG,seval,UT,SC,osp,on1,on2,v5,hn,c1,c2,e0,e1,e2,e3]
      exact ⟨_,rfl⟩
    rw [if_neg (by omega),if_neg (by simp),if_neg (by omega),if_neg (by omega),if_pos rfl,if_pos (by omega)]
    obtain ⟨ev,eo,so,co,⟨hev,hco⟩,R⟩:=RULES CC;rw [<- hev]
    rw [<- hco] at osp on1 on2 v5
    simp only [fpart,part',Tryz.f30,Option.getD]
    simp only [S8,R,SG,seval,UT,SC,osp,on1,on2,v5,hn,c1,c2,e0,e1,e2,e3]
    exact ⟨_,rfl⟩
  by_cases k4:k=4
  · subst k4
    cases ne with
    | true=>
     rw [if_neg (by omega),if_neg (by simp),if_neg (by omega),if_neg (by omega),if_neg (by omega),if_pos rfl,if_pos (.inl (hne'.2 rfl))]
     obtain ⟨ev,eo,so,co,⟨hev,hco⟩,R⟩:=RULES CC;rw [<- hev]
     rw [<- hco] at osp on1 on2 v5
     simp only [fpart,part',Tryz.f30,Option.getD]
     simp only [S8,R,SG,seval,UT,SC,osp,on1,on2,v5,hn,c1,c2]
     exact ⟨_,rfl⟩
    | false=>
     cases p5 with
     | true=>
      rw [if_neg (by omega),if_neg (by simp),if_neg (by omega),if_neg (by omega),if_neg (by omega),if_pos rfl,if_pos (.inr rfl)]
      obtain ⟨ev,eo,so,co,⟨hev,hco⟩,R⟩:=RULES CC;rw [<- hev]
      rw [<- hco] at osp on1 on2 v5
      simp only [fpart,part',Tryz.f30,Option.getD]
      simp only [S8,R,SG,seval,UT,SC,osp,on1,on2,v5,hn,c1,c2]
      exact ⟨_,rfl⟩
     | false=>
      rw [if_neg (by omega),if_neg (by simp),if_neg (by omega),if_neg (by omega),if_neg (by omega),if_pos rfl,if_neg (by rw [hne'];simp)]
      obtain ⟨ev,eo,so,co,⟨hev,hco⟩,R⟩:=RULES CC;rw [<- hev]
      rw [<- hco] at osp on1 on2 v5
      simp only [fpart,part',Tryz.f30,Option.getD]
      simp only [S8,R,SG,seval,UT,SC,osp,on1,on2,v5,hn,c1,c2]
      exact ⟨_,rfl⟩
  by_cases k6:k=6
  · subst k6
    by_cases e0:n < 0
    · rw [if_neg (by omega),if_neg (by simp),if_neg (by omega),if_neg (by omega),if_neg (by omega),if_neg (by omega),if_pos rfl,if_neg (by omega)]
      obtain ⟨ev,eo,so,co,⟨hev,hco⟩,R⟩:=RULES CC;rw [<- hev]
      rw [<- hco] at osp on1 on2 v5
      simp only [fpart,part',Tryz.f30,Option.getD]
      simp only [S8,R,SG,seval,UT,SC,osp,on1,on2,v5,hn,c1,c2,e0]
      exact ⟨_,rfl⟩
    by_cases e1:n > 1099511627776
    · rw [if_neg (by omega),if_neg (by simp),if_neg (by omega),if_neg (by omega),if_neg (by omega),if_neg (by omega),if_pos rfl,if_neg (by omega)]
      obtain ⟨ev,eo,so,co,⟨hev,hco⟩,R⟩:=RULES CC;rw [<- hev]
      rw [<- hco] at osp on1 on2 v5
      simp only [fpart,part',Tryz.f30,Option.getD]
      simp only [S8,R,SG,seval,UT,SC,osp,on1,on2,v5,hn,c1,c2,e0,e1]
      exact ⟨_,rfl⟩
    rw [if_neg (by omega),if_neg (by simp),if_neg (by omega),if_neg (by omega),if_neg (by omega),if_neg (by omega),if_pos rfl,if_pos (by omega)]
    obtain ⟨ev,eo,so,co,⟨hev,hco⟩,R⟩:=RULES CC;rw [<- hev]
    rw [<- hco] at osp on1 on2 v5
    simp only [fpart,part',Tryz.f30,Option.getD]
    simp only [S8,R,SG,seval,UT,SC,osp,on1,on2,v5,hn,c1,c2,e0,e1]
    exact ⟨_,rfl⟩
  have k5:k=5:=by omega
  subst k5
  rw [if_neg (by omega),if_neg (by simp),if_neg (by omega),if_neg (by omega),if_neg (by omega),if_neg (by omega),if_neg (by omega)]
  obtain ⟨ev,eo,so,co,⟨hev,hco⟩,R⟩:=RULES CC;rw [<- hev]
  rw [<- hco] at osp on1 on2 v5
  simp only [fpart,part',Tryz.f30,Option.getD]
  simp only [S8,R,SG,seval,UT,SC,osp,on1,on2,v5,hn,c1,c2]
  exact ⟨_,rfl⟩
end Go.HH
