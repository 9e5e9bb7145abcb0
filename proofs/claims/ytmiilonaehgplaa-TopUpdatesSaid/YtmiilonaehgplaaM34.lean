/-
  What the law needs, packed: WA WB WC WD.
-/
import Derived.Test.YtmiilonaehgplaaM33
namespace Go.HH
open Go Go.Proofs
set_option maxRecDepth 100000
set_option maxHeartbeats 4000000
set_option linter.unusedSimpArgs false
set_option linter.unusedVariables false
theorem ok_rollout_limit:fnOK CC Try.f28 (Try.f28.body.getD .skip)=true:=by kernel_rfl
theorem fat_rollout_limit:CC.P.funcs[28]?=some Try.f28:=by kernel_rfl
theorem ok_rollout_wave:fnOK CC Try.f26 (Try.f26.body.getD .skip)=true:=by kernel_rfl
theorem fat_rollout_wave:CC.P.funcs[26]?=some Try.f26:=by kernel_rfl
theorem ok_firmware_named:fnOK CC Try.f36 (Try.f36.body.getD .skip)=true:=by kernel_rfl
theorem fat_firmware_named:CC.P.funcs[36]?=some Try.f36:=by kernel_rfl
theorem ok_firmware_Check:fnOK CC Try.f16 (Try.f16.body.getD .skip)=true:=by kernel_rfl
theorem fat_firmware_Check:CC.P.funcs[16]?=some Try.f16:=by kernel_rfl
theorem ok_rollout_complete:fnOK CC Try.f27 (Try.f27.body.getD .skip)=true:=by kernel_rfl
theorem fat_rollout_complete:CC.P.funcs[27]?=some Try.f27:=by kernel_rfl
theorem ok_rollout_Stopped:fnOK CC Try.f6 (Try.f6.body.getD .skip)=true:=by kernel_rfl
theorem fat_rollout_Stopped:CC.P.funcs[6]?=some Try.f6:=by kernel_rfl
theorem ok_rollout_Stopped_1:fnOK CC Try.f19 (Try.f19.body.getD .skip)=true:=by kernel_rfl
theorem fat_rollout_Stopped_1:CC.P.funcs[19]?=some Try.f19:=by kernel_rfl
theorem ok_slices_IndexFunc_api_Update_api_Update:fnOK CC Try.f37 (Try.f37.body.getD .skip)=true:=by kernel_rfl
theorem fat_slices_IndexFunc_api_Update_api_Update:CC.P.funcs[37]?=some Try.f37:=by kernel_rfl
theorem ok_slices_ContainsFunc_api_Update_api_Update:fnOK CC Try.f18 (Try.f18.body.getD .skip)=true:=by kernel_rfl
theorem fat_slices_ContainsFunc_api_Update_api_Update:CC.P.funcs[18]?=some Try.f18:=by kernel_rfl
theorem ok_slices_Index_bool_bool:fnOK CC Try.f41 (Try.f41.body.getD .skip)=true:=by kernel_rfl
theorem fat_slices_Index_bool_bool:CC.P.funcs[41]?=some Try.f41:=by kernel_rfl
theorem ok_slices_Contains_bool_bool:fnOK CC Try.f30 (Try.f30.body.getD .skip)=true:=by kernel_rfl
theorem fat_slices_Contains_bool_bool:CC.P.funcs[30]?=some Try.f30:=by kernel_rfl
structure Up where
 dv:Int
 st:Int
 vr:Int
 pv:Int
 sn:Int
 hv:List Bool
def bos (l:List Bool):List PV:=l.map PV.bool
def upC (u:Up):List PV:=[.int .i64 u.dv,.int .i64 u.st,.int .i64 u.vr,.int .i64 u.pv,.int .i64 u.sn,.sl (bos u.hv)]
def upV (u:Up):PV:=.agg (upC u)
def ups (l:List Up):List PV:=l.map upV
structure Fw where
 vn:Int
 vr:Int
 sums:List Int
def fwV (f:Fw):PV:=.agg [.int .i64 f.vn,.int .i64 f.vr,.sl (ints f.sums)]
theorem bos_length (l:List Bool):(bos l).length=l.length:=List.length_map _
theorem ups_length (l:List Up):(ups l).length=l.length:=List.length_map _
theorem bos_pure:∀ l:List Bool,pureL (bos l)=true
 | []=>rfl
 | b :: r=>by show ((PV.bool b).pure && pureL (bos r))=true;rw [bos_pure r];rfl
theorem upV_pure (u:Up):(upV u).pure=true:=by
 unfold upV upC
 simp only [PV.pure,pureL,bos_pure,Bool.and_self]
theorem ups_pure:∀ l:List Up,pureL (ups l)=true
 | []=>rfl
 | b :: r=>by show ((upV b).pure && pureL (ups r))=true;rw [ups_pure r,upV_pure];rfl
theorem fwV_pure (f:Fw):(fwV f).pure=true:=by
 unfold fwV
 simp only [PV.pure,pureL,pureL_ints,Bool.and_self]
theorem ups_get {l:List Up} {i:Nat} {u:Up} (h:l[i]?=some u):(ups l)[i]?=some (upV u):=map_get h
def lim (t:Int):Int:=min (max t 0) 1099511627776
theorem call_limit (t:Int):callL CC 28 [.int .i64 t] []=some (.ret (.int .i64 (lim t)),[]):=by
 rw [callL_enter (fn:=Try.f28) (c:=Try.f28.body.getD .skip) rfl rfl fat_rollout_limit rfl ok_rollout_limit (Nat.le_of_ble_eq_true rfl)]
 unfold lim
 obtain ⟨ev,eo,so,co,⟨hev,hco⟩,R⟩:=RULES CC;rw [<- hev]
 simp only [fpart,part',Try.f28,Option.getD]
 simp (maxSteps:=5000000) only [SA,SB,SD,R,SF,SG,SH,seval,TG,SE,SC,UTT,ZCT,RV,List.getElem?_concat_length,ss1,List.set_cons_zero,List.set_cons_succ,Bool.not_not,strP_eql,strP_neq,maxP2,minP2]
theorem op_limit (t:Int) (bx):callOp CC (callL CC) 28 [.int .i64 t] bx=some (.ret (.int .i64 (lim t)),bx):=callOp_of rfl (by simp only [SA,Bool.and_true]) (call_limit t) rfl
def wvF:Nat->Nat->Nat->Nat->Nat
 | 0,n,_,_=>n
 | k+1,n,w,i=>if 2 * w+1<=i then wvF k (n+1) (2 * w+1) i else n
def wv (i:Nat):Nat:=wvF 80 0 0 i
theorem wvF_mono:∀ (k n w i j:Nat),i<=j->wvF k n w i<=wvF k n w j∧n<=wvF k n w j
 | 0,n,w,i,j,_=>⟨Nat.le_refl _,Nat.le_refl _⟩
 | k+1,n,w,i,j,h=>by
  unfold wvF
  by_cases c:2 * w+1<=i
  · rw [if_pos c,if_pos (by omega)]
    have:=wvF_mono k (n+1) (2 * w+1) i j h
    omega
  · rw [if_neg c]
    by_cases d:2 * w+1<=j
    · rw [if_pos d]
      have:=(wvF_mono k (n+1) (2 * w+1) j j (Nat.le_refl _)).2
      omega
    · rw [if_neg d]
      exact ⟨Nat.le_refl _,Nat.le_refl _⟩
theorem wv_mono {i j:Nat} (h:i<=j):wv i<=wv j:=(wvF_mono 80 0 0 i j h).1
def PWv (m:Nat) (bx:List PBox) (res:Option (Ex×St)):Prop:=∃ e',res=some (.exit 0,⟨e',bx⟩)∧getT e' 3=.int .i64 m
theorem PWv.of {ev:Code->St->Option (Ex×St)} {L:Code} {e:List PV} {m:Nat} {bx:List PBox} {z:Option (Ex×St)} (hE:ev L ⟨e,bx⟩=z) (h:PWv m bx (ev L ⟨e,bx⟩)):PWv m bx z:=hE ▸ h
theorem loop_wave (L:Code) (hL:L=fpart Try.f26 [1,1,0,1,0]) (i:Nat) (hi:i<=1000000):∀ (k n w:Nat) (e:List PV) (bx:List PBox),i < 2 ^ k * (w+1)->n+k=80->w<=i->getT e 0=.int .i64 i->getT e 3=.int .i64 n->getT e 4=.int .i64 w ->
 PWv (wvF k n w i) bx (evL CC L ⟨e,bx⟩):=by
 intro k
 induction k with
 | zero=>
  intro n w e bx hk hn hw h0 h3 h4
  rw [evL_at (fpart Try.f26 [1,1,0,1,0,0]) hL]
  have hw1:=wrap_i64 (n:=2 * (w:Int)) ⟨by omega,by omega⟩
  have hw2:=wrap_i64 (n:=2 * (w:Int)+1) ⟨by omega,by omega⟩
  have hc:¬ ((i:Int) ≥ 2 * (w:Int)+1):=by omega
  unfold wvF
  obtain ⟨ev,eo,so,co,⟨hev,hco⟩,R⟩:=RULES CC;rw [<- hev]
  simp only [fpart,part',Try.f26,Option.getD]
  simp (maxSteps:=5000000) only [SA,SB,SD,R,SF,SG,SH,seval,TG,SE,SC,UTT,ZCT,RV,List.getElem?_concat_length,ss1,List.set_cons_zero,List.set_cons_succ,Bool.not_not,strP_eql,strP_neq,h0,h3,h4,hw1,hw2,hc]
  exact ⟨_,rfl,by simp (maxSteps:=5000000) only [SA,SB,SD,R,SF,seval,h3]⟩
 | succ k ih=>
  intro n w e bx hk hn hw h0 h3 h4
  rw [evL_at (fpart Try.f26 [1,1,0,1,0,0]) hL]
  have hw1:=wrap_i64 (n:=2 * (w:Int)) ⟨by omega,by omega⟩
  have hw2:=wrap_i64 (n:=2 * (w:Int)+1) ⟨by omega,by omega⟩
  have hw3:=wrap_i64 (n:=(n:Int)+1) ⟨by omega,by omega⟩
  have hpw:2 ^ (k+1) * (w+1)=2 ^ k * (2 * w+1+1):=by rw [Nat.pow_succ,Nat.mul_assoc];congr 1 <;> omega
  rw [hpw] at hk
  unfold wvF
  by_cases c:2 * w+1<=i
  · rw [if_pos c]
    have key:=fun e bx=>ih (n+1) (2 * w+1) e bx hk (by omega) c
    have cast1:((n+1:Nat):Int)=(n:Int)+1:=by omega
    have cast2:((2 * w+1:Nat):Int)=2 * (w:Int)+1:=by omega
    rw [cast1,cast2] at key
    have hc:((i:Int) ≥ 2 * (w:Int)+1):=by omega
    clear ih
    obtain ⟨ev,eo,so,co,⟨hev,hco⟩,R⟩:=RULES CC;rw [<- hev]
    rw [<- hev] at key
    simp only [fpart,part',Try.f26,Option.getD]
    simp (maxSteps:=5000000) only [SA,SB,SD,R,SF,SG,SH,seval,TG,SE,SC,UTT,ZCT,RV,List.getElem?_concat_length,ss1,List.set_cons_zero,List.set_cons_succ,Bool.not_not,strP_eql,strP_neq,h0,h3,h4,hw1,hw2,hw3,hc]
    refine key _ _ ?_ ?_ ?_
    · simp (maxSteps:=5000000) only [SA,SB,SD,R,SF,seval,h0]
    · simp (maxSteps:=5000000) only [SA,SB,SD,R,SF,seval]
    · simp (maxSteps:=5000000) only [SA,SB,SD,R,SF,seval]
  · rw [if_neg c]
    have hc:¬ ((i:Int) ≥ 2 * (w:Int)+1):=by omega
    obtain ⟨ev,eo,so,co,⟨hev,hco⟩,R⟩:=RULES CC;rw [<- hev]
    simp only [fpart,part',Try.f26,Option.getD]
    simp (maxSteps:=5000000) only [SA,SB,SD,R,SF,SG,SH,seval,TG,SE,SC,UTT,ZCT,RV,List.getElem?_concat_length,ss1,List.set_cons_zero,List.set_cons_succ,Bool.not_not,strP_eql,strP_neq,h0,h3,h4,hw1,hw2,hc]
    exact ⟨_,rfl,by simp (maxSteps:=5000000) only [SA,SB,SD,R,SF,seval,h3]⟩
theorem call_wave (i:Nat) (hi:i<=1000000):callL CC 26 [.int .i64 i] []=some (.ret (.int .i64 (wv i:Nat)),[]):=by
 rw [callL_enter (fn:=Try.f26) (c:=Try.f26.body.getD .skip) rfl rfl fat_rollout_wave rfl ok_rollout_wave (Nat.le_of_ble_eq_true rfl)]
 have h80:i < 2 ^ 80 * (0+1):=by
  have:(1000001:Nat)<=2 ^ 80:=by decide
  omega
 have hloop:=fun e bx=>loop_wave _ rfl i hi 80 0 0 e bx h80 rfl (Nat.zero_le _)
 unfold wv
 obtain ⟨ev,eo,so,co,⟨hev,hco⟩,R⟩:=RULES CC;rw [<- hev]
 rw [<- hev] at hloop
 simp only [fpart,part',Try.f26,Option.getD] at hloop ⊢
 simp (maxSteps:=5000000) only [SA,SB,SD,R,SF,SG,SH,seval,TG,SE,SC,UTT,ZCT,RV,List.getElem?_concat_length,ss1,List.set_cons_zero,List.set_cons_succ,Bool.not_not,strP_eql,strP_neq,hi]
 generalize hE:ev _ _=z
 obtain ⟨e',he,g3⟩:=PWv.of hE (hloop _ _ (by simp (maxSteps:=5000000) only [SA,SB,SD,R,SF,seval] <;> rfl) (by simp (maxSteps:=5000000) only [SA,SB,SD,R,SF,seval] <;> rfl) (by simp (maxSteps:=5000000) only [SA,SB,SD,R,SF,seval] <;> rfl))
 subst he
 simp (maxSteps:=5000000) only [SA,SB,SD,R,SF,SG,SH,seval,TG,SE,SC,UTT,ZCT,RV,List.getElem?_concat_length,ss1,List.set_cons_zero,List.set_cons_succ,Bool.not_not,strP_eql,strP_neq,g3]
theorem op_wave (i:Nat) (hi:i<=1000000) (bx):callOp CC (callL CC) 26 [.int .i64 i] bx=some (.ret (.int .i64 (wv i:Nat)),bx):=callOp_of rfl (by simp only [SA,Bool.and_true]) (call_wave i hi) rfl
theorem call_named (a b:Int):∃ r,(r=true->1<=b)∧callL CC 36 [.int .i64 a,.int .i64 b] []=some (.ret (.bool r),[]):=by
 rw [callL_enter (fn:=Try.f36) (c:=Try.f36.body.getD .skip) rfl rfl fat_firmware_named rfl ok_firmware_named (Nat.le_of_ble_eq_true rfl)]
 by_cases c1:a ≥ 0
 · skip
   by_cases c2:a<=255
   · skip
     by_cases c3:b ≥ 1
     · skip
       refine ⟨decide (b<=65535),fun _=>c3,?_⟩
       obtain ⟨ev,eo,so,co,⟨hev,hco⟩,R⟩:=RULES CC;rw [<- hev]
       simp only [fpart,part',Try.f36,Option.getD]
       simp (maxSteps:=5000000) only [SA,SB,SD,R,SF,SG,SH,seval,TG,SE,SC,UTT,ZCT,RV,List.getElem?_concat_length,ss1,List.set_cons_zero,List.set_cons_succ,Bool.not_not,strP_eql,strP_neq,c1,c2,c3]
       all_goals rfl
     · skip
       refine ⟨false,fun h=>(by cases h),?_⟩
       obtain ⟨ev,eo,so,co,⟨hev,hco⟩,R⟩:=RULES CC;rw [<- hev]
       simp only [fpart,part',Try.f36,Option.getD]
       simp (maxSteps:=5000000) only [SA,SB,SD,R,SF,SG,SH,seval,TG,SE,SC,UTT,ZCT,RV,List.getElem?_concat_length,ss1,List.set_cons_zero,List.set_cons_succ,Bool.not_not,strP_eql,strP_neq,c1,c2,c3]
       all_goals rfl
   · skip
     refine ⟨false,fun h=>(by cases h),?_⟩
     obtain ⟨ev,eo,so,co,⟨hev,hco⟩,R⟩:=RULES CC;rw [<- hev]
     simp only [fpart,part',Try.f36,Option.getD]
     simp (maxSteps:=5000000) only [SA,SB,SD,R,SF,SG,SH,seval,TG,SE,SC,UTT,ZCT,RV,List.getElem?_concat_length,ss1,List.set_cons_zero,List.set_cons_succ,Bool.not_not,strP_eql,strP_neq,c1,c2]
     all_goals rfl
 · skip
   refine ⟨false,fun h=>(by cases h),?_⟩
   obtain ⟨ev,eo,so,co,⟨hev,hco⟩,R⟩:=RULES CC;rw [<- hev]
   simp only [fpart,part',Try.f36,Option.getD]
   simp (maxSteps:=5000000) only [SA,SB,SD,R,SF,SG,SH,seval,TG,SE,SC,UTT,ZCT,RV,List.getElem?_concat_length,ss1,List.set_cons_zero,List.set_cons_succ,Bool.not_not,strP_eql,strP_neq,c1]
   all_goals rfl
theorem op_named (a b:Int):∃ r,(r=true->1<=b)∧∀ bx,callOp CC (callL CC) 36 [.int .i64 a,.int .i64 b] bx=some (.ret (.bool r),bx):=by
 obtain ⟨r,h1,h2⟩:=call_named a b
 exact ⟨r,h1,fun bx=>callOp_of rfl (by simp only [SA,Bool.and_true]) h2 rfl⟩
theorem loop_fck (L:Code) (hL:L=fpart Try.f16 [1,1,1,0,1,0]) (l:List Int) (hl:l.length<=9223372036854775807):∀ (k i:Nat) (e:List PV) (bx:List PBox),i+k=l.length ->
 getT e 22=.sl (ints l)->getT e 23=.int .i64 l.length->getT e 24=.int .i64 i->PL 0 [] e bx 2 isI True (evL CC L ⟨e,bx⟩):=by
 intro k
 induction k with
 | zero=>
  intro i e bx hk h22 h23 h24
  rw [evL_at (fpart Try.f16 [1,1,1,0,1,0,0]) hL]
  have hi:¬ ((i:Int) < (l.length:Int)):=by omega
  obtain ⟨ev,eo,so,co,⟨hev,hco⟩,R⟩:=RULES CC;rw [<- hev]
  simp only [fpart,part',Try.f16,Option.getD]
  simp (maxSteps:=5000000) only [SA,SB,SD,R,SF,SG,SH,seval,TG,SE,SC,UTT,ZCT,RV,List.getElem?_concat_length,ss1,List.set_cons_zero,List.set_cons_succ,Bool.not_not,strP_eql,strP_neq,h22,h23,h24,hi]
  exact PL.exit (by simp) trivial
 | succ k ih=>
  intro i e bx hk h22 h23 h24
  rw [evL_at (fpart Try.f16 [1,1,1,0,1,0,0]) hL]
  have hi:((i:Int) < (l.length:Int)):=by omega
  have hi0:¬ ((i:Int) < 0):=by omega
  have hw:=wrap_i64 (n:=(i:Int)+1) ⟨by omega,by omega⟩
  have key:=fun e bx=>ih (i+1) e bx (by omega)
  have cast1:((i+1:Nat):Int)=(i:Int)+1:=by omega
  rw [cast1] at key
  have hx:(ints l)[i]?=some (.int .i64 (l[i]'(by omega))):=map_get (f:=PV.int .i64) (List.getElem?_eq_getElem (by omega))
  have hln:(ints l).length=l.length:=List.length_map _
  generalize l[i]'(by omega)=x at *
  generalize ints l=xs at *
  by_cases c1:x < 0
  · skip
    obtain ⟨ev,eo,so,co,⟨hev,hco⟩,R⟩:=RULES CC;rw [<- hev]
    simp only [fpart,part',Try.f16,Option.getD]
    simp (maxSteps:=5000000) only [SA,SB,SD,R,SF,SG,SH,seval,TG,SE,SC,UTT,ZCT,RV,List.getElem?_concat_length,ss1,List.set_cons_zero,List.set_cons_succ,Bool.not_not,strP_eql,strP_neq,c1,h22,h23,h24,hi,hi0,hx]
    refine PL.ret ?_
    exact ⟨_,by simp (maxSteps:=5000000) only [SA,SB,SD,R,SF,seval];rfl⟩
  · skip
    by_cases c2:x > 4294967295
    · skip
      obtain ⟨ev,eo,so,co,⟨hev,hco⟩,R⟩:=RULES CC;rw [<- hev]
      simp only [fpart,part',Try.f16,Option.getD]
      simp (maxSteps:=5000000) only [SA,SB,SD,R,SF,SG,SH,seval,TG,SE,SC,UTT,ZCT,RV,List.getElem?_concat_length,ss1,List.set_cons_zero,List.set_cons_succ,Bool.not_not,strP_eql,strP_neq,c1,c2,h22,h23,h24,hi,hi0,hx]
      refine PL.ret ?_
      exact ⟨_,by simp (maxSteps:=5000000) only [SA,SB,SD,R,SF,seval];rfl⟩
    · skip
      obtain ⟨ev,eo,so,co,⟨hev,hco⟩,R⟩:=RULES CC;rw [<- hev]
      rw [<- hev] at key
      simp only [fpart,part',Try.f16,Option.getD]
      simp (maxSteps:=5000000) only [SA,SB,SD,R,SF,SG,SH,seval,TG,SE,SC,UTT,ZCT,RV,List.getElem?_concat_length,ss1,List.set_cons_zero,List.set_cons_succ,Bool.not_not,strP_eql,strP_neq,c1,c2,h22,h23,h24,hi,hi0,hx,hw]
      refine PL.env (by simp) (fun h=>h) (key _ _ ?_ ?_ ?_)
      · simp (maxSteps:=5000000) only [SA,SB,SD,R,SF,seval,h22]
      · simp (maxSteps:=5000000) only [SA,SB,SD,R,SF,seval,h23]
      · simp (maxSteps:=5000000) only [SA,SB,SD,R,SF,seval]
theorem call_fwCheck (f:Fw):∃ n,(n=0->1<=f.vr∧1<=f.sums.length∧f.sums.length<=64)∧∃ bx,callL CC 16 [fwV f] []=some (.ret (.int .i64 n),bx):=by
 rw [callL_enter (fn:=Try.f16) (c:=Try.f16.body.getD .skip) rfl rfl fat_firmware_Check rfl ok_firmware_Check (Nat.le_of_ble_eq_true rfl)]
 obtain ⟨vn,vr,l⟩:=f
 obtain ⟨r,hr,hnm⟩:=op_named vn vr
 unfold fwV
 simp only
 have hln:(ints l).length=l.length:=List.length_map _
 have hloop:=fun h e bx=>loop_fck _ rfl l h l.length 0 e bx (by omega)
 generalize ints l=xs at *
 cases r with
 | false=>
  refine ⟨2,fun h=>absurd h (by decide),?_⟩
  obtain ⟨ev,eo,so,co,⟨hev,hco⟩,R⟩:=RULES CC;rw [<- hev]
  rw [<- hco] at hnm
  simp only [fpart,part',Try.f16,Option.getD]
  simp (maxSteps:=5000000) only [SA,SB,SD,R,SF,SG,SH,seval,TG,SE,SC,UTT,ZCT,RV,List.getElem?_concat_length,ss1,List.set_cons_zero,List.set_cons_succ,Bool.not_not,strP_eql,strP_neq,hnm]
  exact ⟨_,rfl⟩
 | true=>
  by_cases c1:(l.length:Int) < 1
  · refine ⟨3,fun h=>absurd h (by decide),?_⟩
    obtain ⟨ev,eo,so,co,⟨hev,hco⟩,R⟩:=RULES CC;rw [<- hev]
    rw [<- hco] at hnm
    simp only [fpart,part',Try.f16,Option.getD]
    simp (maxSteps:=5000000) only [SA,SB,SD,R,SF,SG,SH,seval,TG,SE,SC,UTT,ZCT,RV,List.getElem?_concat_length,ss1,List.set_cons_zero,List.set_cons_succ,Bool.not_not,strP_eql,strP_neq,hnm,hln,c1]
    exact ⟨_,rfl⟩
  by_cases c2:(l.length:Int) > 64
  · refine ⟨3,fun h=>absurd h (by decide),?_⟩
    obtain ⟨ev,eo,so,co,⟨hev,hco⟩,R⟩:=RULES CC;rw [<- hev]
    rw [<- hco] at hnm
    simp only [fpart,part',Try.f16,Option.getD]
    simp (maxSteps:=5000000) only [SA,SB,SD,R,SF,SG,SH,seval,TG,SE,SC,UTT,ZCT,RV,List.getElem?_concat_length,ss1,List.set_cons_zero,List.set_cons_succ,Bool.not_not,strP_eql,strP_neq,hnm,hln,c1,c2]
    exact ⟨_,rfl⟩
  have hloop:=hloop (by omega)
  have hfact:1<=vr∧1<=l.length∧l.length<=64:=⟨hr rfl,by omega,by omega⟩
  obtain ⟨ev,eo,so,co,⟨hev,hco⟩,R⟩:=RULES CC;rw [<- hev]
  rw [<- hco] at hnm
  rw [<- hev] at hloop
  simp only [fpart,part',Try.f16,Option.getD] at hloop ⊢
  simp (maxSteps:=5000000) only [SA,SB,SD,R,SF,SG,SH,seval,TG,SE,SC,UTT,ZCT,RV,List.getElem?_concat_length,ss1,List.set_cons_zero,List.set_cons_succ,Bool.not_not,strP_eql,strP_neq,hnm,hln,c1,c2]
  generalize hE:ev _ _=z
  have hP:=PL.of hE (hloop _ _ (by simp (maxSteps:=5000000) only [SA,SB,SD,R,SF,seval] <;> rfl) (by simp (maxSteps:=5000000) only [SA,SB,SD,R,SF,seval] <;> rfl) (by simp (maxSteps:=5000000) only [SA,SB,SD,R,SF,seval] <;> rfl))
  obtain ⟨e',ex,⟨he,hk,_⟩ | ⟨he,n,g2⟩⟩:=hP
  · subst he
    refine ⟨0,fun _=>hfact,?_⟩
    simp (maxSteps:=5000000) only [SA,SB,SD,R,SF,SG,SH,seval,TG,SE,SC,UTT,ZCT,RV,List.getElem?_concat_length,ss1,List.set_cons_zero,List.set_cons_succ,Bool.not_not,strP_eql,strP_neq,hln]
    exact ⟨_,rfl⟩
  · subst he
    refine ⟨n,fun _=>hfact,?_⟩
    simp (maxSteps:=5000000) only [SA,SB,SD,R,SF,SG,SH,seval,TG,SE,SC,UTT,ZCT,RV,List.getElem?_concat_length,ss1,List.set_cons_zero,List.set_cons_succ,Bool.not_not,strP_eql,strP_neq,g2]
    exact ⟨_,rfl⟩
theorem ex_fwCheck (f:Fw):∃ n,(n=0->1<=f.vr∧1<=f.sums.length∧f.sums.length<=64)∧∀ bx,callOp CC (callL CC) 16 [fwV f] bx=some (.ret (.int .i64 n),bx):=by
 obtain ⟨n,h1,bx',h2⟩:=call_fwCheck f
 exact ⟨n,h1,fun bx=>callOp_of rfl (by simp only [SA,fwV_pure,Bool.and_true]) h2 rfl⟩
noncomputable def ckF (f:Fw):Int:=(ex_fwCheck f).choose
theorem ckF_ok {f:Fw} (h:ckF f=0):1<=f.vr∧1<=f.sums.length∧f.sums.length<=64:=(ex_fwCheck f).choose_spec.1 h
theorem op_fwCheck (f:Fw) (bx):callOp CC (callL CC) 16 [fwV f] bx=some (.ret (.int .i64 (ckF f)),bx):=(ex_fwCheck f).choose_spec.2 bx
def cpB (u:Up) (f:Fw):Bool:=(u.st == 4) || ((u.st == 0) && (u.vr == f.vr))
theorem call_complete (u:Up) (f:Fw):∃ bx,callL CC 27 [upV u,fwV f] []=some (.ret (.bool (cpB u f)),bx):=by
 rw [callL_enter (fn:=Try.f27) (c:=Try.f27.body.getD .skip) rfl rfl fat_rollout_complete rfl ok_rollout_complete (Nat.le_of_ble_eq_true rfl)]
 obtain ⟨dv,st,vr,pv,sn,hv⟩:=u
 obtain ⟨vn,fvr,l⟩:=f
 unfold upV upC fwV cpB
 simp only
 generalize ints l=xs at *
 generalize bos hv=ys at *
 generalize h1:(st == 4)=b1 at *
 generalize h2:(st == 0)=b2 at *
 generalize h3:(vr == fvr)=b3 at *
 cases b1 with
 | true=>
  obtain ⟨ev,eo,so,co,⟨hev,hco⟩,R⟩:=RULES CC;rw [<- hev]
  simp only [fpart,part',Try.f27,Option.getD]
  simp (maxSteps:=5000000) only [SA,SB,SD,R,SF,SG,SH,seval,TG,SE,SC,UTT,ZCT,RV,List.getElem?_concat_length,ss1,List.set_cons_zero,List.set_cons_succ,Bool.not_not,strP_eql,strP_neq,h1,h2,h3]
  exact ⟨_,rfl⟩
 | false=>
  cases b2 with
  | true=>
   obtain ⟨ev,eo,so,co,⟨hev,hco⟩,R⟩:=RULES CC;rw [<- hev]
   simp only [fpart,part',Try.f27,Option.getD]
   simp (maxSteps:=5000000) only [SA,SB,SD,R,SF,SG,SH,seval,TG,SE,SC,UTT,ZCT,RV,List.getElem?_concat_length,ss1,List.set_cons_zero,List.set_cons_succ,Bool.not_not,strP_eql,strP_neq,h1,h2,h3]
   exact ⟨_,rfl⟩
  | false=>
   obtain ⟨ev,eo,so,co,⟨hev,hco⟩,R⟩:=RULES CC;rw [<- hev]
   simp only [fpart,part',Try.f27,Option.getD]
   simp (maxSteps:=5000000) only [SA,SB,SD,R,SF,SG,SH,seval,TG,SE,SC,UTT,ZCT,RV,List.getElem?_concat_length,ss1,List.set_cons_zero,List.set_cons_succ,Bool.not_not,strP_eql,strP_neq,h1,h2,h3]
   exact ⟨_,rfl⟩
theorem op_complete (u:Up) (f:Fw) (bx):callOp CC (callL CC) 27 [upV u,fwV f] bx=some (.ret (.bool (cpB u f)),bx):=by
 obtain ⟨b,h⟩:=call_complete u f
 exact callOp_of rfl (by simp only [SA,upV_pure,fwV_pure,Bool.and_true]) h rfl
end Go.HH
namespace Go.HH
open Go Go.Proofs
set_option maxRecDepth 100000
set_option maxHeartbeats 4000000
set_option linter.unusedSimpArgs false
set_option linter.unusedVariables false
theorem ok_rollout_Wave:fnOK CC Try.f14 (Try.f14.body.getD .skip)=true:=by kernel_rfl
theorem fat_rollout_Wave:CC.P.funcs[14]?=some Try.f14:=by kernel_rfl
theorem ok_rollout_find:fnOK CC Try.f29 (Try.f29.body.getD .skip)=true:=by kernel_rfl
theorem fat_rollout_find:CC.P.funcs[29]?=some Try.f29:=by kernel_rfl
theorem ok_rollout_find_1:fnOK CC Try.f40 (Try.f40.body.getD .skip)=true:=by kernel_rfl
theorem fat_rollout_find_1:CC.P.funcs[40]?=some Try.f40:=by kernel_rfl
theorem FNs:∃ a b v,CC.P.underlying 59=some (.func a b v):=by
 have h:(match Try.prog.underlying 59 with | some (.func _ _ _)=>true | _=>false)=true:=by kernel_rfl
 split at h
 · rename_i a b v e;exact ⟨a,b,v,e⟩
 · cases h
def ixB (p:Up->Bool):List Up->Nat->Int
 | [],_=>-1
 | u :: r,i=>if p u=true then i else ixB p r (i+1)
theorem ixB_any (p:Up->Bool):∀ (l:List Up) (i:Nat),decide (ixB p l i ≥ 0)=l.any p
 | [],_=>rfl
 | u :: r,i=>by
  unfold ixB
  cases h:p u with
  | true=>rw [if_pos rfl,List.any_cons,h];simp
  | false=>rw [if_neg (by simp),ixB_any p r (i+1),List.any_cons,h];rfl
theorem call_f19 (u:Up):∃ bx,callL CC 19 [upV u] []=some (.ret (.bool (u.st == 5)),bx):=by
 rw [callL_enter (fn:=Try.f19) (c:=Try.f19.body.getD .skip) rfl rfl fat_rollout_Stopped_1 rfl ok_rollout_Stopped_1 (Nat.le_of_ble_eq_true rfl)]
 obtain ⟨fa,fb,fv,hfn⟩:=FNs
 obtain ⟨dv,st,vr,pv,sn,hv⟩:=u
 unfold upV upC
 simp only
 generalize bos hv=ys at *
 obtain ⟨ev,eo,so,co,⟨hev,hco⟩,R⟩:=RULES CC;rw [<- hev]
 simp only [fpart,part',Try.f19,Option.getD]
 simp (maxSteps:=5000000) only [SA,SB,SD,R,SF,SG,SH,seval,TG,SE,SC,UTT,ZCT,RV,dynR,hfn,List.getElem?_concat_length,ss1,List.set_cons_zero,List.set_cons_succ,Bool.not_not,strP_eql,strP_neq]
 exact ⟨_,rfl⟩
theorem op_f19 (u:Up) (bx):callOp CC (callL CC) 19 [upV u] bx=some (.ret (.bool (u.st == 5)),bx):=by
 obtain ⟨b,h⟩:=call_f19 u
 exact callOp_of rfl (by simp only [SA,upV_pure,Bool.and_true]) h rfl
def PIu (v:Int) (bx:List PBox) (res:Option (Ex×St)):Prop:=∃ e',(v=-1∧res=some (.exit 0,⟨e',bx⟩))∨(res=some (.ret,⟨e',bx⟩)∧getT e' 4=.int .i64 v)
theorem PIu.of {ev:Code->St->Option (Ex×St)} {L:Code} {e:List PV} {m:Int} {bx bx1:List PBox} {z:Option (Ex×St)} (hE:ev L ⟨e,bx1⟩=z) (h:PIu m bx (ev L ⟨e,bx1⟩)):PIu m bx z:=hE ▸ h
theorem loop_ixS (L:Code) (hL:L=fpart Try.f37 [1,0,1,0]) (l:List Up) (hl:l.length<=9223372036854775807) (bx:List PBox):∀ (k i:Nat) (e:List PV),i+k=l.length ->
 getT e 0=.sl (ups l)->getT e 1=.fn 19 [] []->getT e 7=.int .i64 l.length->getT e 8=.int .i64 i->PIu (ixB (fun u=>u.st == 5) (l.drop i) i) bx (evL CC L ⟨e,bx⟩):=by
 intro k
 induction k with
 | zero=>
  intro i e hk h0 h1 h7 h8
  rw [evL_at (fpart Try.f37 [1,0,1,0,0]) hL]
  have hi:¬ ((i:Int) < (l.length:Int)):=by omega
  obtain ⟨fa,fb,fv,hfn⟩:=FNs
  rw [List.drop_eq_nil_of_le (by omega)]
  unfold ixB
  obtain ⟨ev,eo,so,co,⟨hev,hco⟩,R⟩:=RULES CC;rw [<- hev]
  simp only [fpart,part',Try.f37,Option.getD]
  simp (maxSteps:=5000000) only [SA,SB,SD,R,SF,SG,SH,seval,TG,SE,SC,UTT,ZCT,RV,dynR,hfn,List.getElem?_concat_length,ss1,List.set_cons_zero,List.set_cons_succ,Bool.not_not,strP_eql,strP_neq,h0,h1,h7,h8,hi]
  exact ⟨_,.inl ⟨rfl,rfl⟩⟩
 | succ k ih=>
  intro i e hk h0 h1 h7 h8
  rw [evL_at (fpart Try.f37 [1,0,1,0,0]) hL]
  have hi:((i:Int) < (l.length:Int)):=by omega
  have hi0:¬ ((i:Int) < 0):=by omega
  have hw:=wrap_i64 (n:=(i:Int)+1) ⟨by omega,by omega⟩
  have key:=fun e=>ih (i+1) e (by omega)
  have cast1:((i+1:Nat):Int)=(i:Int)+1:=by omega
  rw [cast1] at key
  have hdr:l.drop i=(l[i]'(by omega)) :: l.drop (i+1):=List.drop_eq_getElem_cons (by omega)
  have hx:=ups_get (l:=l) (i:=i) (u:=l[i]'(by omega)) (List.getElem?_eq_getElem (by omega))
  have hop:=op_f19 (l[i]'(by omega))
  rw [hdr]
  generalize l[i]'(by omega)=x at *
  unfold ixB
  generalize ixB (fun u=>u.st == 5) (l.drop (i+1)) (i+1)=v at *
  generalize ups l=xs at *
  obtain ⟨fa,fb,fv,hfn⟩:=FNs
  obtain ⟨dv,st,vr,pv,sn,hv⟩:=x
  unfold upV upC at hx hop
  simp only at hx hop ⊢
  have hsp:=bos_pure hv
  generalize bos hv=ys at *
  generalize (st == 5)=b at *
  cases b with
  | true=>
   rw [if_pos rfl]
   obtain ⟨ev,eo,so,co,⟨hev,hco⟩,R⟩:=RULES CC;rw [<- hev]
   rw [<- hco] at hop
   simp only [fpart,part',Try.f37,Option.getD]
   simp (maxSteps:=5000000) only [SA,SB,SD,R,SF,SG,SH,seval,TG,SE,SC,UTT,ZCT,RV,dynR,hfn,List.getElem?_concat_length,ss1,List.set_cons_zero,List.set_cons_succ,Bool.not_not,strP_eql,strP_neq,h0,h1,h7,h8,hi,hi0,hx,hop,hsp]
   exact ⟨_,.inr ⟨rfl,by simp (maxSteps:=5000000) only [SA,SB,SD,R,SF,seval,h8]⟩⟩
  | false=>
   rw [if_neg (by simp)]
   obtain ⟨ev,eo,so,co,⟨hev,hco⟩,R⟩:=RULES CC;rw [<- hev]
   rw [<- hco] at hop
   rw [<- hev] at key
   simp only [fpart,part',Try.f37,Option.getD]
   simp (maxSteps:=5000000) only [SA,SB,SD,R,SF,SG,SH,seval,TG,SE,SC,UTT,ZCT,RV,dynR,hfn,List.getElem?_concat_length,ss1,List.set_cons_zero,List.set_cons_succ,Bool.not_not,strP_eql,strP_neq,h0,h1,h7,h8,hi,hi0,hx,hop,hsp,hw]
   refine key _ ?_ ?_ ?_ ?_
   all_goals simp (maxSteps:=5000000) only [SA,SB,SD,R,SF,seval,h0,h1,h7,h8]
theorem call_ixS (l:List Up) (hl:l.length<=9223372036854775807):callL CC 37 [.sl (ups l),.fn 19 [] []] []=some (.ret (.int .i64 (ixB (fun u=>u.st == 5) l 0)),[]):=by
 rw [callL_enter (fn:=Try.f37) (c:=Try.f37.body.getD .skip) rfl rfl fat_slices_IndexFunc_api_Update_api_Update rfl ok_slices_IndexFunc_api_Update_api_Update (Nat.le_of_ble_eq_true rfl)]
 have hloop:=fun e=>loop_ixS _ rfl l hl [] l.length 0 e (by omega)
 rw [List.drop_zero] at hloop
 have hln:=ups_length l
 generalize ixB (fun u=>u.st == 5) l 0=v at *
 generalize ups l=xs at *
 obtain ⟨fa,fb,fv,hfn⟩:=FNs
 obtain ⟨ev,eo,so,co,⟨hev,hco⟩,R⟩:=RULES CC;rw [<- hev]
 rw [<- hev] at hloop
 simp only [fpart,part',Try.f37,Option.getD] at hloop ⊢
 simp (maxSteps:=5000000) only [SA,SB,SD,R,SF,SG,SH,seval,TG,SE,SC,UTT,ZCT,RV,dynR,hfn,List.getElem?_concat_length,ss1,List.set_cons_zero,List.set_cons_succ,Bool.not_not,strP_eql,strP_neq,hln]
 generalize hE:ev _ _=z
 obtain ⟨e',⟨hv,he⟩ | ⟨he,g4⟩⟩:=PIu.of hE (hloop _ (by simp (maxSteps:=5000000) only [SA,SB,SD,R,SF,seval] <;> rfl) (by simp (maxSteps:=5000000) only [SA,SB,SD,R,SF,seval] <;> rfl) (by simp (maxSteps:=5000000) only [SA,SB,SD,R,SF,seval] <;> rfl) (by simp (maxSteps:=5000000) only [SA,SB,SD,R,SF,seval] <;> rfl))
 · subst he hv
   simp (maxSteps:=5000000) only [SA,SB,SD,R,SF,SG,SH,seval,TG,SE,SC,UTT,ZCT,RV,dynR,hfn,List.getElem?_concat_length,ss1,List.set_cons_zero,List.set_cons_succ,Bool.not_not,strP_eql,strP_neq,hln]
 · subst he
   simp (maxSteps:=5000000) only [SA,SB,SD,R,SF,SG,SH,seval,TG,SE,SC,UTT,ZCT,RV,dynR,hfn,List.getElem?_concat_length,ss1,List.set_cons_zero,List.set_cons_succ,Bool.not_not,strP_eql,strP_neq,g4]
theorem op_ixS (l:List Up) (hl:l.length<=9223372036854775807) (bx):callOp CC (callL CC) 37 [.sl (ups l),.fn 19 [] []] bx=some (.ret (.int .i64 (ixB (fun u=>u.st == 5) l 0)),bx):=
 callOp_of rfl (by simp only [pureL,PV.pure,ups_pure,Bool.and_self]) (call_ixS l hl) rfl
def stopB (l:List Up):Bool:=l.any (fun u=>u.st == 5)
theorem call_CF (l:List Up) (hl:l.length<=9223372036854775807):callL CC 18 [.sl (ups l),.fn 19 [] []] []=some (.ret (.bool (stopB l)),[]):=by
 have hix:=op_ixS l hl
 unfold stopB
 rw [<- ixB_any _ l 0]
 rw [callL_enter (fn:=Try.f18) (c:=Try.f18.body.getD .skip) rfl rfl fat_slices_ContainsFunc_api_Update_api_Update rfl ok_slices_ContainsFunc_api_Update_api_Update (Nat.le_of_ble_eq_true rfl)]
 obtain ⟨fa,fb,fv,hfn⟩:=FNs
 have hsp:=ups_pure l
 generalize ups l=xs at *
 generalize ixB _ l 0=j at *
 obtain ⟨ev,eo,so,co,⟨hev,hco⟩,R⟩:=RULES CC;rw [<- hev]
 rw [<- hco] at hix
 simp only [fpart,part',Try.f18,Option.getD]
 simp (maxSteps:=5000000) only [SA,SB,SD,R,SF,SG,SH,seval,TG,SE,SC,UTT,ZCT,RV,dynR,hfn,List.getElem?_concat_length,ss1,List.set_cons_zero,List.set_cons_succ,Bool.not_not,strP_eql,strP_neq,hix,hsp]
theorem op_CF (l:List Up) (hl:l.length<=9223372036854775807) (bx):callOp CC (callL CC) 18 [.sl (ups l),.fn 19 [] []] bx=some (.ret (.bool (stopB l)),bx):=
 callOp_of rfl (by simp only [pureL,PV.pure,ups_pure,Bool.and_self]) (call_CF l hl) rfl
theorem call_Stopped (l:List Up) (hl:l.length<=9223372036854775807):callL CC 6 [.sl (ups l)] []=some (.ret (.bool (stopB l)),[]):=by
 have hix:=op_CF l hl
 rw [callL_enter (fn:=Try.f6) (c:=Try.f6.body.getD .skip) rfl rfl fat_rollout_Stopped rfl ok_rollout_Stopped (Nat.le_of_ble_eq_true rfl)]
 obtain ⟨fa,fb,fv,hfn⟩:=FNs
 have hsp:=ups_pure l
 generalize ups l=xs at *
 generalize stopB l=j at *
 obtain ⟨ev,eo,so,co,⟨hev,hco⟩,R⟩:=RULES CC;rw [<- hev]
 rw [<- hco] at hix
 simp only [fpart,part',Try.f6,Option.getD]
 simp (maxSteps:=5000000) only [SA,SB,SD,R,SF,SG,SH,seval,TG,SE,SC,UTT,ZCT,RV,dynR,hfn,List.getElem?_concat_length,ss1,List.set_cons_zero,List.set_cons_succ,Bool.not_not,strP_eql,strP_neq,hix,hsp]
theorem op_Stopped (l:List Up) (hl:l.length<=9223372036854775807) (bx):callOp CC (callL CC) 6 [.sl (ups l)] bx=some (.ret (.bool (stopB l)),bx):=
 callOp_of rfl (by simp only [pureL,PV.pure,ups_pure,Bool.and_self]) (call_Stopped l hl) rfl
def PWa (l:List Up) (f:Fw) (i:Nat) (bx:List PBox) (res:Option (Ex×St)):Prop:=
 ∃ e' ex,res=some (.exit 0,⟨e',bx++ex⟩)∨(res=some (.ret,⟨e',bx++ex⟩)∧∃ j,j < l.length∧(∀ m (h:m < l.length),i<=m->m < j->cpB l[m] f=true)∧getT e' 4=.int .i64 (wv j:Nat))
theorem PWa.of {ev:Code->St->Option (Ex×St)} {L:Code} {e:List PV} {l:List Up} {f:Fw} {i:Nat} {bx bx1:List PBox} {z:Option (Ex×St)} (hE:ev L ⟨e,bx1⟩=z) (h:PWa l f i bx (ev L ⟨e,bx1⟩)):PWa l f i bx z:=hE ▸ h
theorem PWa.step {l:List Up} {f:Fw} {i:Nat} {bx:List PBox} {x:PBox} {res:Option (Ex×St)} (hc:∀ h:i < l.length,cpB l[i] f=true) (h:PWa l f (i+1) (bx++[x]) res):PWa l f i bx res:=by
 obtain ⟨e',ex,h⟩:=h
 refine ⟨e',[x]++ex,?_⟩
 rw [<- List.append_assoc]
 rcases h with h | ⟨h,j,h1,h2,h3⟩
 · exact .inl h
 · refine .inr ⟨h,j,h1,fun m hm hi hj=>?_,h3⟩
   by_cases e:m=i
   · subst e;exact hc hm
   · exact h2 m hm (by omega) hj
theorem loop_Wave (L:Code) (hL:L=fpart Try.f14 [1,1,0,1,0]) (l:List Up) (hl:l.length<=1000000) (f:Fw):∀ (k i:Nat) (e:List PV) (bx:List PBox),i+k=l.length ->
 getT e 3=.bp 0 0->getT e 10=.sl (ups l)->getT e 11=.int .i64 l.length->getT e 12=.int .i64 i->bx[0]?=some (.cells 28 [.int .i64 f.vn,.int .i64 f.vr,.sl (ints f.sums)])->PWa l f i bx (evL CC L ⟨e,bx⟩):=by
 intro k
 induction k with
 | zero=>
  intro i e bx hk h3 h10 h11 h12 hb
  rw [evL_at (fpart Try.f14 [1,1,0,1,0,0]) hL]
  have hi:¬ ((i:Int) < (l.length:Int)):=by omega
  obtain ⟨fa,fb,fv,hfn⟩:=FNs
  obtain ⟨ev,eo,so,co,⟨hev,hco⟩,R⟩:=RULES CC;rw [<- hev]
  simp only [fpart,part',Try.f14,Option.getD]
  simp (maxSteps:=5000000) only [SA,SB,SD,R,SF,SG,SH,seval,TG,SE,SC,UTT,ZCT,RV,dynR,hfn,List.getElem?_concat_length,ss1,List.set_cons_zero,List.set_cons_succ,Bool.not_not,strP_eql,strP_neq,h3,h10,h11,h12,hi]
  exact ⟨_,[],.inl (by rw [List.append_nil])⟩
 | succ k ih=>
  intro i e bx hk h3 h10 h11 h12 hb
  rw [evL_at (fpart Try.f14 [1,1,0,1,0,0]) hL]
  have hi:((i:Int) < (l.length:Int)):=by omega
  have hil:i < l.length:=by omega
  have hi0:¬ ((i:Int) < 0):=by omega
  have hw:=wrap_i64 (n:=(i:Int)+1) ⟨by omega,by omega⟩
  have key:=fun e bx=>ih (i+1) e bx (by omega)
  have cast1:((i+1:Nat):Int)=(i:Int)+1:=by omega
  rw [cast1] at key
  have hx:=ups_get (l:=l) (i:=i) (u:=l[i]'(by omega)) (List.getElem?_eq_getElem (by omega))
  have hcm:=op_complete (l[i]'(by omega)) f
  have hwv:=op_wave i (by omega)
  have hnil:∀ m (h:m < l.length),i<=m->m < i->cpB l[m] f=true:=fun m h h1 h2=>absurd h1 (by omega)
  have hcp:∀ (_:cpB (l[i]'(by omega)) f=true) (h:i < l.length),cpB l[i] f=true:=fun h _=>h
  have hb':=get_app hb
  generalize cpB (l[i]'(by omega)) f=cb at *
  generalize l[i]'(by omega)=x at *
  generalize ups l=xs at *
  obtain ⟨fa,fb,fv,hfn⟩:=FNs
  obtain ⟨dv,st,vr,pv,sn,hv⟩:=x
  obtain ⟨vn,fvr,fs⟩:=f
  unfold upV upC at hx hcm
  unfold fwV at hcm
  simp only at hb hb' hcm key
  have hsp:=bos_pure hv
  have hsi:pureL (ints fs)=true:=pureL_ints fs
  generalize bos hv=ys at *
  generalize ints fs=zs at *
  cases cb with
  | false=>
   obtain ⟨ev,eo,so,co,⟨hev,hco⟩,R⟩:=RULES CC;rw [<- hev]
   rw [<- hco] at hcm hwv
   simp only [fpart,part',Try.f14,Option.getD]
   simp (maxSteps:=5000000) only [SA,SB,SD,R,SF,SG,SH,seval,TG,SE,SC,UTT,ZCT,RV,dynR,hfn,List.getElem?_concat_length,ss1,List.set_cons_zero,List.set_cons_succ,Bool.not_not,strP_eql,strP_neq,h3,h10,h11,h12,hi,hi0,hx,hb',hcm,hwv,hsp,hsi]
   exact ⟨_,[_],.inr ⟨rfl,i,hil,hnil,by simp (maxSteps:=5000000) only [SA,SB,SD,R,SF,seval]⟩⟩
  | true=>
   obtain ⟨ev,eo,so,co,⟨hev,hco⟩,R⟩:=RULES CC;rw [<- hev]
   rw [<- hco] at hcm hwv
   rw [<- hev] at key
   simp only [fpart,part',Try.f14,Option.getD]
   simp (maxSteps:=5000000) only [SA,SB,SD,R,SF,SG,SH,seval,TG,SE,SC,UTT,ZCT,RV,dynR,hfn,List.getElem?_concat_length,ss1,List.set_cons_zero,List.set_cons_succ,Bool.not_not,strP_eql,strP_neq,h3,h10,h11,h12,hi,hi0,hx,hb',hcm,hwv,hsp,hsi,hw]
   refine PWa.step (hcp rfl) (key _ _ ?_ ?_ ?_ ?_ (hb' _))
   · simp (maxSteps:=5000000) only [SA,SB,SD,R,SF,seval,h3]
   · simp (maxSteps:=5000000) only [SA,SB,SD,R,SF,seval,h10]
   · simp (maxSteps:=5000000) only [SA,SB,SD,R,SF,seval,h11]
   · simp (maxSteps:=5000000) only [SA,SB,SD,R,SF,seval]
def wvR (l:List Up) (f:Fw) (w:Int):Prop:=w=-1∨∃ j:Nat,j < l.length∧w=(wv j:Nat)∧∀ m (h:m < l.length),m < j->cpB l[m] f=true
theorem call_Wave (l:List Up) (hl:l.length<=1000000) (f:Fw):∃ w,wvR l f w∧∃ bx,callL CC 14 [.sl (ups l),fwV f] []=some (.ret (.int .i64 w),bx):=by
 rw [callL_enter (fn:=Try.f14) (c:=Try.f14.body.getD .skip) rfl rfl fat_rollout_Wave rfl ok_rollout_Wave (Nat.le_of_ble_eq_true rfl)]
 have hck:=op_fwCheck f
 have hloop:=fun e bx=>loop_Wave _ rfl l hl f l.length 0 e bx (by omega)
 have hln:=ups_length l
 generalize ups l=xs at *
 generalize ckF f=c at *
 obtain ⟨fa,fb,fv,hfn⟩:=FNs
 obtain ⟨vn,fvr,fs⟩:=f
 unfold fwV at *
 simp only at hloop
 have hsi:pureL (ints fs)=true:=pureL_ints fs
 generalize ints fs=zs at *
 by_cases c0:c=0
 · have c1:(c != 0)=false:=by simp [c0]
   obtain ⟨ev,eo,so,co,⟨hev,hco⟩,R⟩:=RULES CC;rw [<- hev]
   rw [<- hco] at hck
   rw [<- hev] at hloop
   simp only [fpart,part',Try.f14,Option.getD] at hloop ⊢
   simp (maxSteps:=5000000) only [SA,SB,SD,R,SF,SG,SH,seval,TG,SE,SC,UTT,ZCT,RV,dynR,hfn,List.getElem?_concat_length,ss1,List.set_cons_zero,List.set_cons_succ,Bool.not_not,strP_eql,strP_neq,hln,hck,hsi,c1]
   generalize hE:ev _ _=z
   obtain ⟨e',ex,he | ⟨he,j,h1,h2,h3⟩⟩:=PWa.of hE (hloop _ _ (by simp (maxSteps:=5000000) only [SA,SB,SD,R,SF,seval] <;> rfl) (by simp (maxSteps:=5000000) only [SA,SB,SD,R,SF,seval] <;> rfl) (by simp (maxSteps:=5000000) only [SA,SB,SD,R,SF,seval] <;> rfl) (by simp (maxSteps:=5000000) only [SA,SB,SD,R,SF,seval] <;> rfl) rfl)
   · subst he
     refine ⟨-1,.inl rfl,?_⟩
     simp (maxSteps:=5000000) only [SA,SB,SD,R,SF,SG,SH,seval,TG,SE,SC,UTT,ZCT,RV,dynR,hfn,List.getElem?_concat_length,ss1,List.set_cons_zero,List.set_cons_succ,Bool.not_not,strP_eql,strP_neq,hln]
     exact ⟨_,rfl⟩
   · subst he
     refine ⟨(wv j:Nat),.inr ⟨j,h1,rfl,fun m h hm=>h2 m h (Nat.zero_le _) hm⟩,?_⟩
     simp (maxSteps:=5000000) only [SA,SB,SD,R,SF,SG,SH,seval,TG,SE,SC,UTT,ZCT,RV,dynR,hfn,List.getElem?_concat_length,ss1,List.set_cons_zero,List.set_cons_succ,Bool.not_not,strP_eql,strP_neq,h3]
     exact ⟨_,rfl⟩
 · have c1:(c != 0)=true:=by simpa using c0
   refine ⟨-1,.inl rfl,?_⟩
   obtain ⟨ev,eo,so,co,⟨hev,hco⟩,R⟩:=RULES CC;rw [<- hev]
   rw [<- hco] at hck
   simp only [fpart,part',Try.f14,Option.getD]
   simp (maxSteps:=5000000) only [SA,SB,SD,R,SF,SG,SH,seval,TG,SE,SC,UTT,ZCT,RV,dynR,hfn,List.getElem?_concat_length,ss1,List.set_cons_zero,List.set_cons_succ,Bool.not_not,strP_eql,strP_neq,hln,hck,hsi,c1]
   exact ⟨_,rfl⟩
theorem op_Wave (l:List Up) (hl:l.length<=1000000) (f:Fw):∃ w,wvR l f w∧∀ bx,callOp CC (callL CC) 14 [.sl (ups l),fwV f] bx=some (.ret (.int .i64 w),bx):=by
 obtain ⟨w,h1,bx',h2⟩:=call_Wave l hl f
 exact ⟨w,h1,fun bx=>callOp_of rfl (by simp only [SA,ups_pure,fwV_pure,Bool.and_true]) h2 rfl⟩
end Go.HH
namespace Go.HH
open Go Go.Proofs
set_option maxRecDepth 100000
set_option maxHeartbeats 4000000
set_option linter.unusedSimpArgs false
set_option linter.unusedVariables false
theorem ok_rollout_own:fnOK CC Try.f25 (Try.f25.body.getD .skip)=true:=by kernel_rfl
theorem fat_rollout_own:CC.P.funcs[25]?=some Try.f25:=by kernel_rfl
def ucells (l:List Up):List PV:=l.flatMap upC
theorem upC_len (u:Up):(upC u).length=6:=rfl
theorem uc_len:∀ l:List Up,(ucells l).length=l.length * 6
 | []=>rfl
 | u :: r=>by
  show (upC u++ucells r).length=_
  rw [List.length_append,uc_len r,upC_len,List.length_cons]
  omega
theorem uc_flat (l:List Up):(flat (ups l)).map PV.ro=ucells l:=by
 unfold flat ups ucells
 rw [List.flatMap_map,List.map_flatMap]
 rfl
theorem uc_all (l:List Up):((ups l).all fun x=>x.cells.length == 6)=true:=by
 unfold ups
 rw [List.all_map]
 exact List.all_eq_true.2 fun _ _=>rfl
theorem uc_drop:∀ (l:List Up) (i:Nat) (u:Up),l[i]?=some u->(ucells l).drop (i * 6)=upC u++ucells (l.drop (i+1))
 | [],i,u,h=>by simp at h
 | a :: r,0,u,h=>by
  obtain rfl:a=u:=by simpa using h
  rfl
 | a :: r,i+1,u,h=>by
  have ih:=uc_drop r i u (by simpa using h)
  show (upC a++ucells r).drop ((i+1) * 6)=_
  rw [List.drop_append,List.drop_eq_nil_of_le (by rw [upC_len];omega),List.nil_append,upC_len,show (i+1) * 6 - 6=i * 6 by omega,ih]
  rfl
theorem uc_take:∀ (l:List Up) (i:Nat) (u:Up),l[i]?=some u->(ucells l).take (i * 6)=ucells (l.take i)
 | [],i,u,h=>by simp at h
 | a :: r,0,u,h=>by simp [ucells]
 | a :: r,i+1,u,h=>by
  have ih:=uc_take r i u (by simpa using h)
  show (upC a++ucells r).take ((i+1) * 6)=_
  rw [List.take_append,upC_len,List.take_of_length_le (by rw [upC_len];omega),show (i+1) * 6 - 6=i * 6 by omega,ih]
  rfl
theorem uc_set (l:List Up) (i:Nat) (u u':Up) (h:l[i]?=some u):ucells (l.set i u')=ucells (l.take i)++upC u'++ucells (l.drop (i+1)):=by
 have hlt:=(List.getElem?_eq_some_iff.1 h).1
 rw [List.set_eq_take_append_cons_drop,if_pos hlt]
 unfold ucells
 rw [List.flatMap_append,List.flatMap_cons,List.append_assoc]
theorem uc_lay (l:List Up) (i k:Nat) (u u':Up) (v:PV) (h:l[i]?=some u) (hk:k < 6) (hu:upC u'=(upC u).set k v):lay (ucells l) (i * 6+k) [v]=ucells (l.set i u'):=by
 have hd:=uc_drop l i u h
 have ht:=uc_take l i u h
 have hlt:=(List.getElem?_eq_some_iff.1 h).1
 have hlen:=uc_len l
 rw [uc_set l i u u' h,hu]
 unfold lay
 have e1:(ucells l).take (i * 6+k)=ucells (l.take i)++(upC u).take k:=by
  rw [List.take_add,ht,hd,List.take_append_of_le_length (by rw [upC_len];omega)]
 have e2:(ucells l).drop (i * 6+k+[v].length)=(upC u).drop (k+1)++ucells (l.drop (i+1)):=by
  rw [show i * 6+k+[v].length=i * 6+(k+1) by simp [Nat.add_assoc],<- List.drop_drop,hd,List.drop_append_of_le_length (by rw [upC_len];omega)]
 rw [e1,e2,List.set_eq_take_append_cons_drop,if_pos (by rw [upC_len];exact hk)]
 simp only [List.append_assoc,List.cons_append,List.nil_append,List.singleton_append]
theorem uc_store {bx:List PBox} {id:Nat} {l:List Up} (hb:bx[id]?=some (.cells 41 (ucells l))) (i k:Nat) (u u':Up) (v:PV) (h:l[i]?=some u) (hk:k < 6) (hv:v.one=true) (hu:upC u'=(upC u).set k v) :
 storeCellsP bx id (i * 6+k) [v]=some (bx.set id (.cells 41 (ucells (l.set i u')))):=by
 unfold storeCellsP
 rw [hb]
 simp only
 have hlt:=(List.getElem?_eq_some_iff.1 h).1
 have hlen:=uc_len l
 have hle:i * 6+k+[v].length<=(ucells l).length:=by rw [hlen,List.length_singleton];omega
 rw [if_pos ⟨hle,by simp [hv]⟩,uc_lay l i k u u' v h hk hu]
theorem uc_rd {l:List Up} {i:Nat} {u:Up} (h:l[i]?=some u):∃ rest,(ucells l).drop (i * 6)=[.int .i64 u.dv,.int .i64 u.st,.int .i64 u.vr,.int .i64 u.pv,.int .i64 u.sn,.sl (bos u.hv)]++rest ∧
 (ucells l).drop (i * 6+0)=[.int .i64 u.dv,.int .i64 u.st,.int .i64 u.vr,.int .i64 u.pv,.int .i64 u.sn,.sl (bos u.hv)]++rest ∧
 (ucells l).drop (i * 6+1)=[.int .i64 u.st,.int .i64 u.vr,.int .i64 u.pv,.int .i64 u.sn,.sl (bos u.hv)]++rest ∧
 (ucells l).drop (i * 6+2)=[.int .i64 u.vr,.int .i64 u.pv,.int .i64 u.sn,.sl (bos u.hv)]++rest ∧
 (ucells l).drop (i * 6+3)=[.int .i64 u.pv,.int .i64 u.sn,.sl (bos u.hv)]++rest ∧
 (ucells l).drop (i * 6+4)=[.int .i64 u.sn,.sl (bos u.hv)]++rest ∧
 (ucells l).drop (i * 6+5)=[.sl (bos u.hv)]++rest:=by
 have hd:=uc_drop l i u h
 have hk:∀ k,k<=6->(ucells l).drop (i * 6+k)=(upC u).drop k++ucells (l.drop (i+1)):=fun k hk=>by
  rw [<- List.drop_drop,hd,List.drop_append_of_le_length (by rw [upC_len];exact hk)]
 exact ⟨ucells (l.drop (i+1)),hd,hk 0 (by decide),hk 1 (by decide),hk 2 (by decide),hk 3 (by decide),hk 4 (by decide),hk 5 (by decide)⟩
theorem len6 (r:List PV):(6<=r.length+1+1+1+1+1+1)=True:=by simp
theorem callOp_pre {f:FuncId} {args:List PV} {bx ex:List PBox} {v:PV} (hh:(CC.heap f || !(pureL args))=true) (h:callL CC f args bx=some (.ret v,bx++ex)) :
 ∃ ex',callOp CC (callL CC) f args bx=some (.ret v,bx++ex'):=by
 unfold callOp
 rw [if_pos hh,h]
 simp only [truncB]
 split
 · exact ⟨[],by rw [List.take_left,List.append_nil]⟩
 · exact ⟨ex,rfl⟩
theorem call_f40 (u:Up) (q:Nat) (dev:Int) (bx:List PBox) (hq:bx[q]?=some (.cells 3 [.int .i64 dev])):callL CC 40 [upV u,.bp q 0] bx=some (.ret (.bool (u.dv == dev)),bx++[.cells 41 (upC u)]):=by
 rw [callL_enter (fn:=Try.f40) (c:=Try.f40.body.getD .skip) rfl rfl fat_rollout_find_1 rfl ok_rollout_find_1 (Nat.le_of_ble_eq_true rfl)]
 obtain ⟨fa,fb,fv,hfn⟩:=FNs
 obtain ⟨dv,st,vr,pv,sn,hv⟩:=u
 have hq':=get_app hq
 unfold upV upC
 simp only
 generalize bos hv=ys at *
 obtain ⟨ev,eo,so,co,⟨hev,hco⟩,R⟩:=RULES CC;rw [<- hev]
 simp only [fpart,part',Try.f40,Option.getD]
 simp (maxSteps:=5000000) only [SA,SB,SD,R,SF,SG,SH,seval,TG,SE,SC,UTT,ZCT,RV,dynR,hfn,List.getElem?_concat_length,ss1,List.set_cons_zero,List.set_cons_succ,Bool.not_not,strP_eql,strP_neq,hq']
theorem op_f40 (u:Up) (q:Nat) (dev:Int) (bx:List PBox) (hq:bx[q]?=some (.cells 3 [.int .i64 dev])):∃ ex,callOp CC (callL CC) 40 [upV u,.bp q 0] bx=some (.ret (.bool (u.dv == dev)),bx++ex):=
 callOp_pre (by simp [pureL,PV.pure]) (call_f40 u q dev bx hq)
def PIf (v:Int) (bx:List PBox) (res:Option (Ex×St)):Prop:=∃ e' ex,(v=-1∧res=some (.exit 0,⟨e',bx++ex⟩))∨(res=some (.ret,⟨e',bx++ex⟩)∧getT e' 4=.int .i64 v)
theorem PIf.of {ev:Code->St->Option (Ex×St)} {L:Code} {e:List PV} {v:Int} {bx bx1:List PBox} {z:Option (Ex×St)} (hE:ev L ⟨e,bx1⟩=z) (h:PIf v bx (ev L ⟨e,bx1⟩)):PIf v bx z:=hE ▸ h
theorem PIf.app {v:Int} {bx ex:List PBox} {res:Option (Ex×St)} (h:PIf v (bx++ex) res):PIf v bx res:=by
 obtain ⟨e',ex',h⟩:=h
 refine ⟨e',ex++ex',?_⟩
 rw [<- List.append_assoc]
 exact h
theorem ixB_or (p:Up->Bool):∀ (l:List Up) (i:Nat),ixB p l i=-1∨∃ j:Nat,j < l.length∧ixB p l i=((i+j:Nat):Int)
 | [],_=>.inl rfl
 | u :: r,i=>by
  unfold ixB
  split
  · exact .inr ⟨0,by simp,by simp⟩
  · rcases ixB_or p r (i+1) with h | ⟨j,h1,h2⟩
    · exact .inl h
    · exact .inr ⟨j+1,by simpa using h1,by rw [h2];congr 1;omega⟩
def fdI (l:List Up) (dev st:Int):Int:=
 if ixB (fun u=>u.dv == dev) l 0 ≥ 0 then match l[(ixB (fun u=>u.dv == dev) l 0).toNat]? with
  | some u=>if u.st=st then ixB (fun u=>u.dv == dev) l 0 else -1
  | none=>-1
 else -1
theorem fdI_or (l:List Up) (dev st:Int):fdI l dev st=-1∨∃ (j:Nat) (u:Up),l[j]?=some u∧u.st=st∧fdI l dev st=j:=by
 unfold fdI
 rcases ixB_or (fun u=>u.dv == dev) l 0 with h | ⟨j,h1,h2⟩
 · rw [h];exact .inl rfl
 · rw [h2,Nat.zero_add,if_pos (by omega),Int.toNat_natCast,List.getElem?_eq_getElem h1]
   simp only
   split
   · rename_i h3
     exact .inr ⟨j,l[j],List.getElem?_eq_getElem h1,h3,rfl⟩
   · exact .inl rfl
theorem loop_ixF (L:Code) (hL:L=fpart Try.f37 [1,0,1,0]) (l:List Up) (hl:l.length<=1000000) (id q:Nat) (dev:Int):∀ (k i:Nat) (e:List PV) (bx:List PBox),i+k=l.length ->
 getT e 0=.rs id l.length->getT e 1=.fn 40 [] [.bp q 0]->getT e 7=.int .i64 l.length->getT e 8=.int .i64 i->bx[id]?=some (.cells 41 (ucells l))->bx[q]?=some (.cells 3 [.int .i64 dev])->PIf (ixB (fun u=>u.dv == dev) (l.drop i) i) bx (evL CC L ⟨e,bx⟩):=by
 intro k
 induction k with
 | zero=>
  intro i e bx hk h0 h1 h7 h8 hb hq
  rw [evL_at (fpart Try.f37 [1,0,1,0,0]) hL]
  have hi:¬ ((i:Int) < (l.length:Int)):=by omega
  rw [List.drop_eq_nil_of_le (by omega)]
  unfold ixB
  obtain ⟨fa,fb,fv,hfn⟩:=FNs
  obtain ⟨ev,eo,so,co,⟨hev,hco⟩,R⟩:=RULES CC;rw [<- hev]
  simp only [fpart,part',Try.f37,Option.getD]
  simp (maxSteps:=5000000) only [SA,SB,SD,R,SF,SG,SH,seval,TG,SE,SC,UTT,ZCT,RV,dynR,hfn,List.getElem?_concat_length,ss1,List.set_cons_zero,List.set_cons_succ,Bool.not_not,strP_eql,strP_neq,h0,h1,h7,h8,hi]
  exact ⟨_,[],.inl ⟨rfl,by rw [List.append_nil]⟩⟩
 | succ k ih=>
  intro i e bx hk h0 h1 h7 h8 hb hq
  rw [evL_at (fpart Try.f37 [1,0,1,0,0]) hL]
  have hi:((i:Int) < (l.length:Int)):=by omega
  have hil:i < l.length:=by omega
  have hi0:¬ ((i:Int) < 0):=by omega
  have hw:=wrap_i64 (n:=(i:Int)+1) ⟨by omega,by omega⟩
  have key:=fun e bx=>ih (i+1) e bx (by omega)
  have cast1:((i+1:Nat):Int)=(i:Int)+1:=by omega
  rw [cast1] at key
  have hdr:l.drop i=(l[i]'(by omega)) :: l.drop (i+1):=List.drop_eq_getElem_cons (by omega)
  obtain ⟨rest,d0,_⟩:=uc_rd (l:=l) (i:=i) (u:=l[i]'(by omega)) (List.getElem?_eq_getElem (by omega))
  obtain ⟨ex,hop⟩:=op_f40 (l[i]'(by omega)) q dev bx hq
  have hb1:=get_apps hb ex
  have hq1:=get_apps hq ex
  rw [hdr]
  generalize l[i]'(by omega)=x at *
  unfold ixB
  generalize ixB (fun u=>u.dv == dev) (l.drop (i+1)) (i+1)=v at *
  have h6:=len6 rest
  obtain ⟨fa,fb,fv,hfn⟩:=FNs
  obtain ⟨dv,st,vr,pv,sn,hv⟩:=x
  unfold upV upC at hop
  simp only at hop d0 ⊢
  have hsp:=bos_pure hv
  generalize bos hv=ys at *
  generalize ucells l=cs at *
  generalize (dv == dev)=b at *
  cases b with
  | true=>
   rw [if_pos rfl]
   obtain ⟨ev,eo,so,co,⟨hev,hco⟩,R⟩:=RULES CC;rw [<- hev]
   rw [<- hco] at hop
   simp only [fpart,part',Try.f37,Option.getD]
   simp (maxSteps:=5000000) only [SA,SB,SD,R,SF,SG,SH,seval,TG,SE,SC,UTT,ZCT,RV,dynR,hfn,List.getElem?_concat_length,ss1,List.set_cons_zero,List.set_cons_succ,Bool.not_not,strP_eql,strP_neq,h0,h1,h7,h8,hi,hi0,hb,d0,h6,hop,hsp]
   exact ⟨_,ex,.inr ⟨rfl,by simp (maxSteps:=5000000) only [SA,SB,SD,R,SF,seval,h8]⟩⟩
  | false=>
   rw [if_neg (by simp)]
   obtain ⟨ev,eo,so,co,⟨hev,hco⟩,R⟩:=RULES CC;rw [<- hev]
   rw [<- hco] at hop
   rw [<- hev] at key
   simp only [fpart,part',Try.f37,Option.getD]
   simp (maxSteps:=5000000) only [SA,SB,SD,R,SF,SG,SH,seval,TG,SE,SC,UTT,ZCT,RV,dynR,hfn,List.getElem?_concat_length,ss1,List.set_cons_zero,List.set_cons_succ,Bool.not_not,strP_eql,strP_neq,h0,h1,h7,h8,hi,hi0,hb,d0,h6,hop,hsp,hw]
   refine PIf.app (key _ _ ?_ ?_ ?_ ?_ hb1 hq1)
   all_goals simp (maxSteps:=5000000) only [SA,SB,SD,R,SF,seval,h0,h1,h7,h8]
theorem call_ixF (l:List Up) (hl:l.length<=1000000) (id q:Nat) (dev:Int) (bx:List PBox) (hb:bx[id]?=some (.cells 41 (ucells l))) (hq:bx[q]?=some (.cells 3 [.int .i64 dev])) :
 ∃ (ex:List PBox),callL CC 37 [.rs id l.length,.fn 40 [] [.bp q 0]] bx=some (.ret (.int .i64 (ixB (fun u=>u.dv == dev) l 0)),bx++ex):=by
 rw [callL_enter (fn:=Try.f37) (c:=Try.f37.body.getD .skip) rfl rfl fat_slices_IndexFunc_api_Update_api_Update rfl ok_slices_IndexFunc_api_Update_api_Update (Nat.le_of_ble_eq_true rfl)]
 have hloop:=fun e=>loop_ixF _ rfl l hl id q dev l.length 0 e bx (by omega)
 rw [List.drop_zero] at hloop
 generalize ixB (fun u=>u.dv == dev) l 0=v at *
 obtain ⟨fa,fb,fv,hfn⟩:=FNs
 obtain ⟨ev,eo,so,co,⟨hev,hco⟩,R⟩:=RULES CC;rw [<- hev]
 rw [<- hev] at hloop
 simp only [fpart,part',Try.f37,Option.getD] at hloop ⊢
 simp (maxSteps:=5000000) only [SA,SB,SD,R,SF,SG,SH,seval,TG,SE,SC,UTT,ZCT,RV,dynR,hfn,List.getElem?_concat_length,ss1,List.set_cons_zero,List.set_cons_succ,Bool.not_not,strP_eql,strP_neq,hl]
 generalize hE:ev _ _=z
 obtain ⟨e',ex,⟨hv,he⟩ | ⟨he,g4⟩⟩:=PIf.of hE (hloop _ (by simp (maxSteps:=5000000) only [SA,SB,SD,R,SF,seval] <;> rfl) (by simp (maxSteps:=5000000) only [SA,SB,SD,R,SF,seval] <;> rfl) (by simp (maxSteps:=5000000) only [SA,SB,SD,R,SF,seval] <;> rfl) (by simp (maxSteps:=5000000) only [SA,SB,SD,R,SF,seval] <;> rfl) hb hq)
 · subst he hv
   refine ⟨ex,?_⟩
   simp (maxSteps:=5000000) only [SA,SB,SD,R,SF,SG,SH,seval,TG,SE,SC,UTT,ZCT,RV,dynR,hfn,List.getElem?_concat_length,ss1,List.set_cons_zero,List.set_cons_succ,Bool.not_not,strP_eql,strP_neq,hl]
 · subst he
   refine ⟨ex,?_⟩
   simp (maxSteps:=5000000) only [SA,SB,SD,R,SF,SG,SH,seval,TG,SE,SC,UTT,ZCT,RV,dynR,hfn,List.getElem?_concat_length,ss1,List.set_cons_zero,List.set_cons_succ,Bool.not_not,strP_eql,strP_neq,g4]
theorem op_ixF (l:List Up) (hl:l.length<=1000000) (id q:Nat) (dev:Int) (bx:List PBox) (hb:bx[id]?=some (.cells 41 (ucells l))) (hq:bx[q]?=some (.cells 3 [.int .i64 dev])) :
 ∃ (ex:List PBox),callOp CC (callL CC) 37 [.rs id l.length,.fn 40 [] [.bp q 0]] bx=some (.ret (.int .i64 (ixB (fun u=>u.dv == dev) l 0)),bx++ex):=by
 obtain ⟨ex,h2⟩:=call_ixF l hl id q dev bx hb hq
 exact callOp_pre (by simp [pureL,PV.pure]) h2
theorem call_find (l:List Up) (hl:l.length<=1000000) (id:Nat) (dev st:Int) (bx:List PBox) (hb:bx[id]?=some (.cells 41 (ucells l))) :
 ∃ (ex:List PBox),callL CC 29 [.rs id l.length,.int .i64 dev,.int .i64 st] bx=some (.ret (.int .i64 (fdI l dev st)),bx++ex):=by
 rw [callL_enter (fn:=Try.f29) (c:=Try.f29.body.getD .skip) rfl rfl fat_rollout_find rfl ok_rollout_find (Nat.le_of_ble_eq_true rfl)]
 obtain ⟨ex,hix⟩:=op_ixF l hl id bx.length dev (bx++[.cells 3 [.int .i64 dev]]) (get_app hb _) List.getElem?_concat_length
 have hb1:=get_apps (get_app hb (.cells 3 [.int .i64 dev])) ex
 refine ⟨[.cells 3 [.int .i64 dev]]++ex,?_⟩
 rw [<- List.append_assoc]
 obtain ⟨fa,fb,fv,hfn⟩:=FNs
 unfold fdI
 rcases ixB_or (fun u=>u.dv == dev) l 0 with hr | ⟨j,hj,hr⟩
 · rw [hr] at hix ⊢
   rw [if_neg (by decide)]
   have hm:¬ ((-1:Int) ≥ 0):=by decide
   generalize ucells l=cs at *
   obtain ⟨ev,eo,so,co,⟨hev,hco⟩,R⟩:=RULES CC;rw [<- hev]
   rw [<- hco] at hix
   simp only [fpart,part',Try.f29,Option.getD]
   simp (maxSteps:=5000000) only [SA,SB,SD,R,SF,SG,SH,seval,TG,SE,SC,UTT,ZCT,RV,dynR,hfn,List.getElem?_concat_length,ss1,List.set_cons_zero,List.set_cons_succ,Bool.not_not,strP_eql,strP_neq,hix,hm]
 · rw [Nat.zero_add] at hr
   rw [hr] at hix ⊢
   rw [if_pos (by omega),Int.toNat_natCast,List.getElem?_eq_getElem hj]
   simp only
   obtain ⟨rest,d0,_,d1,_⟩:=uc_rd (l:=l) (i:=j) (u:=l[j]'(by omega)) (List.getElem?_eq_getElem (by omega))
   generalize l[j]'(by omega)=x at *
   have hm:((j:Int) ≥ 0):=by omega
   have hi0:¬ ((j:Int) < 0):=by omega
   have hil:(j:Int) < (l.length:Int):=by omega
   generalize ucells l=cs at *
   by_cases c0:x.st=st
   · rw [if_pos c0]
     have c1:(x.st != st)=false:=by simp [c0]
     obtain ⟨ev,eo,so,co,⟨hev,hco⟩,R⟩:=RULES CC;rw [<- hev]
     rw [<- hco] at hix
     simp only [fpart,part',Try.f29,Option.getD]
     simp (maxSteps:=5000000) only [SA,SB,SD,R,SF,SG,SH,seval,TG,SE,SC,UTT,ZCT,RV,dynR,hfn,List.getElem?_concat_length,ss1,List.set_cons_zero,List.set_cons_succ,Bool.not_not,strP_eql,strP_neq,hix,hm,hi0,hil,hj,hb1,d1,c1]
   · rw [if_neg c0]
     have c1:(x.st != st)=true:=by simpa using c0
     obtain ⟨ev,eo,so,co,⟨hev,hco⟩,R⟩:=RULES CC;rw [<- hev]
     rw [<- hco] at hix
     simp only [fpart,part',Try.f29,Option.getD]
     simp (maxSteps:=5000000) only [SA,SB,SD,R,SF,SG,SH,seval,TG,SE,SC,UTT,ZCT,RV,dynR,hfn,List.getElem?_concat_length,ss1,List.set_cons_zero,List.set_cons_succ,Bool.not_not,strP_eql,strP_neq,hix,hm,hi0,hil,hj,hb1,d1,c1]
theorem op_find (l:List Up) (hl:l.length<=1000000) (id:Nat) (dev st:Int) (bx:List PBox) (hb:bx[id]?=some (.cells 41 (ucells l))) :
 ∃ (ex:List PBox),callOp CC (callL CC) 29 [.rs id l.length,.int .i64 dev,.int .i64 st] bx=some (.ret (.int .i64 (fdI l dev st)),bx++ex):=by
 obtain ⟨ex,h2⟩:=call_find l hl id dev st bx hb
 exact callOp_pre (by simp [pureL,PV.pure]) h2
end Go.HH
namespace Go.HH
open Go Go.Proofs
set_option maxRecDepth 100000
set_option maxHeartbeats 4000000
set_option linter.unusedSimpArgs false
set_option linter.unusedVariables false
theorem ok_rollout_Start:fnOK CC Try.f10 (Try.f10.body.getD .skip)=true:=by kernel_rfl
theorem fat_rollout_Start:CC.P.funcs[10]?=some Try.f10:=by kernel_rfl
theorem set_same {bx:List PBox} {id:Nat} {v:PBox} (h:bx[id]?=some v):bx.set id v=bx:=by
 obtain ⟨h1,h2⟩:=List.getElem?_eq_some_iff.1 h
 rw [<- h2]
 exact List.set_getElem_self h1
theorem lset_same {l:List Up} {i:Nat} {u:Up} (h:l[i]?=some u):l.set i u=l:=by
 obtain ⟨h1,h2⟩:=List.getElem?_eq_some_iff.1 h
 rw [<- h2]
 exact List.set_getElem_self h1
def POw (n id:Nat) (bx:List PBox) (res:Option (Ex×St)):Prop:=∃ e',res=some (.exit 0,⟨e',bx⟩)∧getT e' 3=.rs id n
theorem POw.of {ev:Code->St->Option (Ex×St)} {L:Code} {e:List PV} {n id:Nat} {bx bx1:List PBox} {z:Option (Ex×St)} (hE:ev L ⟨e,bx1⟩=z) (h:POw n id bx (ev L ⟨e,bx1⟩)):POw n id bx z:=hE ▸ h
theorem bos_bo (l:List Bool):(bos l).all isBo=true:=by
 unfold bos;rw [List.all_map];exact List.all_eq_true.2 fun _ _=>rfl
theorem loop_own (L:Code) (hL:L=fpart Try.f25 [1,1,0,1,0]) (l:List Up) (hl:l.length<=1000000) (hh:∀ u ∈ l,u.hv.length<=1000000) (id:Nat) (bx:List PBox) (hb:bx[id]?=some (.cells 41 (ucells l))):∀ (k i:Nat) (e:List PV),i+k=l.length ->
 getT e 3=.rs id l.length->getT e 8=.int .i64 l.length->getT e 9=.int .i64 i->POw l.length id bx (evL CC L ⟨e,bx⟩):=by
 intro k
 induction k with
 | zero=>
  intro i e hk h3 h8 h9
  rw [evL_at (fpart Try.f25 [1,1,0,1,0,0]) hL]
  have hi:¬ ((i:Int) < (l.length:Int)):=by omega
  obtain ⟨fa,fb,fv,hfn⟩:=FNs
  obtain ⟨ev,eo,so,co,⟨hev,hco⟩,R⟩:=RULES CC;rw [<- hev]
  simp only [fpart,part',Try.f25,Option.getD]
  simp (maxSteps:=5000000) only [SA,SB,SD,R,SF,SG,SH,seval,TG,SE,SC,UTT,ZCT,RV,dynR,hfn,List.getElem?_concat_length,ss1,List.set_cons_zero,List.set_cons_succ,Bool.not_not,strP_eql,strP_neq,h3,h8,h9,hi]
  exact ⟨_,rfl,by simp (maxSteps:=5000000) only [SA,SB,SD,R,SF,seval,h3]⟩
 | succ k ih=>
  intro i e hk h3 h8 h9
  rw [evL_at (fpart Try.f25 [1,1,0,1,0,0]) hL]
  have hi:((i:Int) < (l.length:Int)):=by omega
  have hil:i < l.length:=by omega
  have hi0:¬ ((i:Int) < 0):=by omega
  have hw:=wrap_i64 (n:=(i:Int)+1) ⟨by omega,by omega⟩
  have key:=fun e=>ih (i+1) e (by omega)
  have cast1:((i+1:Nat):Int)=(i:Int)+1:=by omega
  rw [cast1] at key
  have hx:l[i]?=some (l[i]'(by omega)):=List.getElem?_eq_getElem (by omega)
  have hxh:=hh (l[i]'(by omega)) (List.getElem_mem _)
  generalize l[i]'(by omega)=x at *
  obtain ⟨rest,d0,d00,d1,d2,d3,d4,d5⟩:=uc_rd hx
  have hst:=uc_store hb i 5 x x (.sl (bos x.hv)) hx (by decide) rfl rfl
  rw [lset_same hx,set_same hb] at hst
  have hcl:=op_CloneB (bos x.hv) ⟨bos_bo _,by rw [bos_length];omega⟩
  have hsp:=bos_pure x.hv
  obtain ⟨fa,fb,fv,hfn⟩:=FNs
  generalize bos x.hv=ys at *
  generalize ucells l=cs at *
  obtain ⟨ev,eo,so,co,⟨hev,hco⟩,R⟩:=RULES CC;rw [<- hev]
  rw [<- hco] at hcl
  rw [<- hev] at key
  simp only [fpart,part',Try.f25,Option.getD]
  simp (maxSteps:=5000000) only [SA,SB,SD,R,SF,SG,seval,TG,SE,SC,UTT,ZCT,RV,dynR,hfn,List.getElem?_concat_length,storeR,storeK,laid,ss1,List.set_cons_zero,List.set_cons_succ,Bool.not_not,strP_eql,strP_neq,h3,h8,h9,hi,hi0,hil,hb,d5,hst,hcl,hsp,hw]
  refine key _ ?_ ?_ ?_
  all_goals simp (maxSteps:=5000000) only [SA,SB,SD,R,SF,seval,h3,h8,h9]
theorem call_own (l:List Up) (hne:l≠[]) (hl:l.length<=1000000) (hh:∀ u ∈ l,u.hv.length<=1000000) (bx:List PBox):callL CC 25 [.sl (ups l)] bx=some (.ret (.rs bx.length l.length),bx++[.cells 41 (ucells l)]):=by
 rw [callL_enter (fn:=Try.f25) (c:=Try.f25.body.getD .skip) rfl rfl fat_rollout_own rfl ok_rollout_own (Nat.le_of_ble_eq_true rfl)]
 have hcl:=CloneU_ne (ups l) (by unfold ups;simpa using hne) (uc_all l) (by rw [ups_length];omega) bx
 rw [uc_flat,ups_length] at hcl
 have hloop:=fun e=>loop_own _ rfl l hl hh bx.length (bx++[.cells 41 (ucells l)]) List.getElem?_concat_length l.length 0 e (by omega)
 have hsp:=ups_pure l
 obtain ⟨fa,fb,fv,hfn⟩:=FNs
 generalize ups l=xs at *
 generalize ucells l=cs at *
 obtain ⟨ev,eo,so,co,⟨hev,hco⟩,R⟩:=RULES CC;rw [<- hev]
 rw [<- hco] at hcl
 rw [<- hev] at hloop
 simp only [fpart,part',Try.f25,Option.getD] at hloop ⊢
 simp (maxSteps:=5000000) only [SA,SB,SD,R,SF,SG,SH,seval,TG,SE,SC,UTT,ZCT,RV,dynR,hfn,List.getElem?_concat_length,ss1,List.set_cons_zero,List.set_cons_succ,Bool.not_not,strP_eql,strP_neq,hcl,hsp]
 generalize hE:ev _ _=z
 obtain ⟨e',he,g3⟩:=POw.of hE (hloop _ (by simp (maxSteps:=5000000) only [SA,SB,SD,R,SF,seval] <;> rfl) (by simp (maxSteps:=5000000) only [SA,SB,SD,R,SF,seval] <;> rfl) (by simp (maxSteps:=5000000) only [SA,SB,SD,R,SF,seval] <;> rfl))
 subst he
 simp (maxSteps:=5000000) only [SA,SB,SD,R,SF,SG,SH,seval,TG,SE,SC,UTT,ZCT,RV,dynR,hfn,List.getElem?_concat_length,ss1,List.set_cons_zero,List.set_cons_succ,Bool.not_not,strP_eql,strP_neq,g3]
theorem op_own (l:List Up) (hne:l≠[]) (hl:l.length<=1000000) (hh:∀ u ∈ l,u.hv.length<=1000000) (bx:List PBox):callOp CC (callL CC) 25 [.sl (ups l)] bx=some (.ret (.rs bx.length l.length),bx++[.cells 41 (ucells l)]):=by
 unfold callOp
 simp only [show CC.heap 25=true from rfl,Bool.true_or,if_true,call_own l hne hl hh bx]
 unfold truncB
 rw [if_neg]
 simp [CR.under,PV.under]
theorem thaw_pure (bx:List PBox) (n:Nat):∀ (k:Nat) (p:PV),p.pure=true->thawP CC bx n k p=p
 | 0,_,_=>rfl
 | k+1,p,h=>by
  have hl:∀ cs:List PV,pureL cs=true->cs.map (thawP CC bx n k)=cs:=by
   intro cs hc
   induction cs with
   | nil=>rfl
   | cons a r ih=>
    simp only [pureL,Bool.and_eq_true] at hc
    rw [List.map_cons,thaw_pure bx n k a hc.1,ih hc.2]
  cases p with
  | agg cs=>show PV.agg (cs.map (thawP CC bx n k))=_;rw [hl cs h]
  | tup cs=>show PV.tup (cs.map (thawP CC bx n k))=_;rw [hl cs h]
  | sl cs=>show PV.sl (cs.map (thawP CC bx n k))=_;rw [hl cs h]
  | rs i l=>cases h
  | _=>rfl
mutual
theorem under_pure:∀ (n:Nat) (p:PV),p.pure=true->p.under n=true
 | _,.top,h=>by cases h
 | _,.bool _,_=>rfl
 | _,.int _ _,_=>rfl
 | _,.str _,_=>rfl
 | _,.nils,_=>rfl
 | n,.sl xs,h=>by show underL n xs=true;exact underL_pure n xs h
 | n,.osl _ xs,h=>by show underL n xs=true;exact underL_pure n xs h
 | n,.ip xs,h=>by show underL n xs=true;exact underL_pure n xs h
 | _,.bp _ _,h=>by cases h
 | _,.rs _ _,h=>by cases h
 | _,.mv _,h=>by cases h
 | _,.nilp,_=>rfl
 | n,.fn _ a b,h=>by
  have h':(pureL a && pureL b)=true:=h
  simp only [Bool.and_eq_true] at h'
  show (underL n a && underL n b)=true
  rw [underL_pure n a h'.1,underL_pure n b h'.2];rfl
 | _,.nilf,_=>rfl
 | n,.iface _ v,h=>by show v.under n=true;exact under_pure n v h
 | _,.nili,_=>rfl
 | n,.agg xs,h=>by show underL n xs=true;exact underL_pure n xs h
 | n,.tup xs,h=>by show underL n xs=true;exact underL_pure n xs h
theorem underL_pure:∀ (n:Nat) (l:List PV),pureL l=true->underL n l=true
 | _,[],_=>rfl
 | n,a :: r,h=>by
  have h':(a.pure && pureL r)=true:=h
  simp only [Bool.and_eq_true] at h'
  show (a.under n && underL n r)=true
  rw [under_pure n a h'.1,underL_pure n r h'.2];rfl
end
theorem upC_pure (u:Up):pureL (upC u)=true:=upV_pure u
theorem ucells_pure:∀ l:List Up,pureL (ucells l)=true
 | []=>rfl
 | u :: r=>by
  show pureL (upC u++ucells r)=true
  rw [pureL_append,upC_pure,ucells_pure r];rfl
theorem rows_uc (l:List Up):rowsOf true 6 l.length (ucells l)=ups l:=by
 unfold rowsOf
 apply List.ext_getElem
 · simp [ups_length]
 · intro i h1 h2
   have hil:i < l.length:=by simpa using h1
   rw [List.getElem_map,List.getElem_range,if_pos rfl,uc_drop l i _ (List.getElem?_eq_getElem hil),List.take_append_of_le_length (by rw [upC_len];omega),List.take_of_length_le (by rw [upC_len];omega)]
   have e:(ups l)[i]'h2=upV (l[i]'hil):=List.getElem_map _
   rw [e]
   rfl
theorem tsU:tSize CC 41=some 6:=by kernel_rfl
theorem taU:tAgg CC 41=true:=by kernel_rfl
theorem thaw_ups {bx:List PBox} {n id:Nat} {l:List Up} (hn:n<=id) (hb:bx[id]?=some (.cells 41 (ucells l))):thawP CC bx n 4 (.rs id l.length)=.sl (ups l):=by
 show (if id < n then _ else _)=_
 rw [if_neg (by omega),hb]
 have hm:(ucells l).map (thawP CC bx n 3)=ucells l:=by
  have:=thaw_pure bx n 4 (.sl (ucells l)) (ucells_pure l)
  simpa [thawP] using this
 simp only [tsU,taU,hm]
 rw [if_pos ⟨by rw [uc_len];omega,by decide,.inl (by first | trivial | rfl)⟩,rows_uc]
theorem endQ_ups {bx:List PBox} {id:Nat} {l:List Up} (hb:bx[id]?=some (.cells 41 (ucells l))):endQ CC 0 (some (.ret (.rs id l.length),bx))=some (.ret (.sl (ups l)),[]):=by
 unfold endQ
 simp only [thaw_ups (Nat.zero_le _) hb]
 rw [if_pos (by rw [under_pure _ _ (show (PV.sl (ups l)).pure=true from ups_pure l)];simp)]
 simp
def StR (l:List Up) (w:Int) (cur:List Up):Prop:=cur.length=l.length∧∀ (j:Nat) (u:Up),l[j]?=some u->∃ u',cur[j]?=some u'∧(u'=u∨(u.st=0∧(wv j:Int)=w∧u'.st=1∧u'.vr=u.vr∧u'.hv=u.hv))
theorem StR.refl (l:List Up) (w:Int):StR l w l:=⟨rfl,fun j u h=>⟨u,h,.inl rfl⟩⟩
theorem StR.set {l:List Up} {w:Int} {cur:List Up} (h:StR l w cur) {i:Nat} {u u2:Up} (hu:cur[i]?=some u) (h0:u.st=0) (hw:(wv i:Int)=w) (h1:u2.st=1) (hv:u2.vr=u.vr) (hh:u2.hv=u.hv):StR l w (cur.set i u2):=by
 refine ⟨by rw [List.length_set];exact h.1,fun j x hx=>?_⟩
 obtain ⟨x',hx',hr⟩:=h.2 j x hx
 by_cases e:i=j
 · subst e
   rw [hu] at hx'
   injection hx' with hx'
   subst hx'
   refine ⟨u2,List.getElem?_set_self (List.getElem?_eq_some_iff.1 hu).1,.inr ?_⟩
   rcases hr with rfl | ⟨_,_,h2,_⟩
   · exact ⟨h0,hw,h1,hv,hh⟩
   · rw [h0] at h2;cases h2
 · exact ⟨x',by rw [List.getElem?_set_ne e];exact hx',hr⟩
def PSt (l:List Up) (w:Int) (res:Option (Ex×St)):Prop:=∃ e' bx' cur,res=some (.exit 0,⟨e',bx'⟩)∧getT e' 7=.rs 1 cur.length∧bx'[1]?=some (.cells 41 (ucells cur))∧StR l w cur
theorem PSt.of {ev:Code->St->Option (Ex×St)} {L:Code} {e:List PV} {l:List Up} {w:Int} {bx1:List PBox} {z:Option (Ex×St)} (hE:ev L ⟨e,bx1⟩=z) (h:PSt l w (ev L ⟨e,bx1⟩)):PSt l w z:=hE ▸ h
theorem loop_Start (L:Code) (hL:L=fpart Try.f10 [1,1,1,1,0,1,0]) (l:List Up) (hl:l.length<=1000000) (f:Fw) (w t:Int):∀ (k i:Nat) (cur:List Up) (e:List PV) (bx:List PBox),i+k=l.length->StR l w cur ->
 getT e 2=.int .i64 t->getT e 4=.bp 0 0->getT e 7=.rs 1 cur.length->getT e 8=.int .i64 w->getT e 23=.rs 1 cur.length->getT e 24=.int .i64 cur.length->getT e 25=.int .i64 i ->
 bx[0]?=some (.cells 28 [.int .i64 f.vn,.int .i64 f.vr,.sl (ints f.sums)])->bx[1]?=some (.cells 41 (ucells cur))->PSt l w (evL CC L ⟨e,bx⟩):=by
 intro k
 induction k with
 | zero=>
  intro i cur e bx hk hs h2 h4 h7 h8 h23 h24 h25 hb0 hb1
  rw [evL_at (fpart Try.f10 [1,1,1,1,0,1,0,0]) hL]
  have hi:¬ ((i:Int) < (cur.length:Int)):=by have:=hs.1;omega
  obtain ⟨fa,fb,fv,hfn⟩:=FNs
  obtain ⟨ev,eo,so,co,⟨hev,hco⟩,R⟩:=RULES CC;rw [<- hev]
  simp only [fpart,part',Try.f10,Option.getD]
  simp (maxSteps:=5000000) only [SA,SB,SD,R,SF,SG,SH,seval,TG,SE,SC,UTT,ZCT,RV,dynR,hfn,List.getElem?_concat_length,ss1,List.set_cons_zero,List.set_cons_succ,Bool.not_not,strP_eql,strP_neq,h2,h4,h7,h8,h23,h24,h25,hi]
  exact ⟨_,_,cur,rfl,by simp (maxSteps:=5000000) only [SA,SB,SD,R,SF,seval,h7],hb1,hs⟩
 | succ k ih=>
  intro i cur e bx hk hs h2 h4 h7 h8 h23 h24 h25 hb0 hb1
  rw [evL_at (fpart Try.f10 [1,1,1,1,0,1,0,0]) hL]
  have hcl:=hs.1
  have hi:((i:Int) < (cur.length:Int)):=by omega
  have hil:i < cur.length:=by omega
  have hi0:¬ ((i:Int) < 0):=by omega
  have hw:=wrap_i64 (n:=(i:Int)+1) ⟨by omega,by omega⟩
  have key:=fun cur e bx=>ih (i+1) cur e bx (by omega)
  have cast1:((i+1:Nat):Int)=(i:Int)+1:=by omega
  rw [cast1] at key
  have hx:cur[i]?=some (cur[i]'(by omega)):=List.getElem?_eq_getElem (by omega)
  have hcm:=op_complete (cur[i]'(by omega)) f
  generalize cur[i]'(by omega)=x at *
  obtain ⟨rest,d0,d00,d1,d2,d3,d4,d5⟩:=uc_rd hx
  have h6:=len6 rest
  have hwv:=op_wave i (by omega)
  have hlm:=op_limit t
  have hba:=get_app hb1 (.cells 41 (upC x))
  have hs1:=uc_store hba i 1 x { x with st:=1 } (.int .i64 1) hx (by decide) rfl rfl
  have hbb:((bx++[PBox.cells 41 (upC x)]).set 1 (PBox.cells 41 (ucells (cur.set i { x with st:=1 }))))[1]?=some (.cells 41 (ucells (cur.set i { x with st:=1 }))):=List.getElem?_set_self (List.getElem?_eq_some_iff.1 hba).1
  have hx2:(cur.set i { x with st:=1 })[i]?=some { x with st:=1 }:=List.getElem?_set_self (by omega)
  have hs2:=uc_store hbb i 4 { x with st:=1 } { x with st:=1,sn:=lim t } (.int .i64 (lim t)) hx2 (by decide) rfl rfl
  rw [List.set_set,List.set_set] at hs2
  have hf0:((bx++[PBox.cells 41 (upC x)]).set 1 (PBox.cells 41 (ucells (cur.set i { x with st:=1,sn:=lim t }))))[0]?=some (.cells 28 [.int .i64 f.vn,.int .i64 f.vr,.sl (ints f.sums)]):=by rw [List.getElem?_set_ne (by decide)];exact get_app hb0 _
  have hf1:((bx++[PBox.cells 41 (upC x)]).set 1 (PBox.cells 41 (ucells (cur.set i { x with st:=1,sn:=lim t }))))[1]?=some (.cells 41 (ucells (cur.set i { x with st:=1,sn:=lim t }))):=List.getElem?_set_self (List.getElem?_eq_some_iff.1 hba).1
  have hsr:x.st=0->(wv i:Int)=w->StR l w (cur.set i { x with st:=1,sn:=lim t }):=fun q1 q2=>hs.set hx q1 q2 rfl rfl rfl
  have hlen2:(cur.set i { x with st:=1,sn:=lim t }).length=cur.length:=List.length_set
  have key1:=key cur
  have key2:=key (cur.set i { x with st:=1,sn:=lim t })
  have hb0':=get_app hb0
  have hb1':=get_app hb1
  rw [hlen2] at key2
  clear ih key hbb hx2
  generalize cur.set i { x with st:=1,sn:=lim t }=cur2 at *
  generalize cur.set i { x with st:=1 }=cur1 at *
  generalize cpB x f=cb at *
  obtain ⟨fa,fb,fv,hfn⟩:=FNs
  obtain ⟨dv,st,vr,pv,sn,hv⟩:=x
  obtain ⟨vn,fvr,fs⟩:=f
  unfold upV at hcm
  unfold fwV at hcm
  unfold upC at *
  simp only at *
  have hsp:=bos_pure hv
  have hsi:pureL (ints fs)=true:=pureL_ints fs
  generalize bos hv=ys at *
  generalize ints fs=zs at *
  generalize ucells cur=cs at *
  generalize ucells cur2=cs2 at *
  generalize ucells cur1=cs1 at *
  generalize lim t=lt at *
  by_cases c10:(wv i:Int)=w
  · have c1:((wv i:Int) == w)=true:=by simp [c10]
    by_cases c20:st=0
    · have c2:(st == 0)=true:=by simp [c20]
      cases cb with
      | true=>
       obtain ⟨ev,eo,so,co,⟨hev,hco⟩,R⟩:=RULES CC;rw [<- hev]
       rw [<- hco] at hwv hcm
       rw [<- hev] at key1
       simp only [fpart,part',Try.f10,Option.getD]
       simp (maxSteps:=5000000) only [SA,SB,SD,R,SF,SG,seval,TG,SE,SC,UTT,ZCT,RV,dynR,hfn,List.getElem?_concat_length,storeR,storeK,laid,ss1,List.set_cons_zero,List.set_cons_succ,Bool.not_not,strP_eql,strP_neq,c1,c2,h2,h4,h7,h8,h23,h24,h25,hi,hi0,hil,hb1,hb0',hb1',d0,h6,hwv,hsp,hsi,hw,hcm]
       refine key1 _ _ hs ?_ ?_ ?_ ?_ ?_ ?_ ?_ (hb0' _) (hb1' _)
       all_goals simp (maxSteps:=5000000) only [SA,SB,SD,R,SF,seval,h2,h4,h7,h8,h23,h24,h25]
      | false=>
       obtain ⟨ev,eo,so,co,⟨hev,hco⟩,R⟩:=RULES CC;rw [<- hev]
       rw [<- hco] at hwv hcm hlm
       rw [<- hev] at key2
       simp only [fpart,part',Try.f10,Option.getD]
       simp (maxSteps:=5000000) only [SA,SB,SD,R,SF,SG,seval,TG,SE,SC,UTT,ZCT,RV,dynR,hfn,List.getElem?_concat_length,storeR,storeK,laid,ss1,List.set_cons_zero,List.set_cons_succ,Bool.not_not,strP_eql,strP_neq,c1,c2,h2,h4,h7,h8,h23,h24,h25,hi,hi0,hil,hb1,hb0',hb1',d0,h6,hwv,hsp,hsi,hw,hcm,hlm,hs1,hs2]
       refine key2 _ _ (hsr c20 c10) ?_ ?_ ?_ ?_ ?_ ?_ ?_ hf0 hf1
       all_goals simp (maxSteps:=5000000) only [SA,SB,SD,R,SF,seval,h2,h4,h7,h8,h23,h24,h25]
    · have c2:(st == 0)=false:=by simpa using c20
      obtain ⟨ev,eo,so,co,⟨hev,hco⟩,R⟩:=RULES CC;rw [<- hev]
      rw [<- hco] at hwv
      rw [<- hev] at key1
      simp only [fpart,part',Try.f10,Option.getD]
      simp (maxSteps:=5000000) only [SA,SB,SD,R,SF,SG,seval,TG,SE,SC,UTT,ZCT,RV,dynR,hfn,List.getElem?_concat_length,storeR,storeK,laid,ss1,List.set_cons_zero,List.set_cons_succ,Bool.not_not,strP_eql,strP_neq,c1,c2,h2,h4,h7,h8,h23,h24,h25,hi,hi0,hil,hb1,hb0',hb1',d0,h6,hwv,hsp,hsi,hw]
      refine key1 _ _ hs ?_ ?_ ?_ ?_ ?_ ?_ ?_ (hb0' _) (hb1' _)
      all_goals simp (maxSteps:=5000000) only [SA,SB,SD,R,SF,seval,h2,h4,h7,h8,h23,h24,h25]
  · have c1:((wv i:Int) == w)=false:=by simpa using c10
    obtain ⟨ev,eo,so,co,⟨hev,hco⟩,R⟩:=RULES CC;rw [<- hev]
    rw [<- hco] at hwv
    rw [<- hev] at key1
    simp only [fpart,part',Try.f10,Option.getD]
    simp (maxSteps:=5000000) only [SA,SB,SD,R,SF,SG,seval,TG,SE,SC,UTT,ZCT,RV,dynR,hfn,List.getElem?_concat_length,storeR,storeK,laid,ss1,List.set_cons_zero,List.set_cons_succ,Bool.not_not,strP_eql,strP_neq,c1,h2,h4,h7,h8,h23,h24,h25,hi,hi0,hil,hb1,hb0',hb1',d0,h6,hwv,hsp,hsi,hw]
    refine key1 _ _ hs ?_ ?_ ?_ ?_ ?_ ?_ ?_ (hb0' _) (hb1' _)
    all_goals simp (maxSteps:=5000000) only [SA,SB,SD,R,SF,seval,h2,h4,h7,h8,h23,h24,h25]
end Go.HH
