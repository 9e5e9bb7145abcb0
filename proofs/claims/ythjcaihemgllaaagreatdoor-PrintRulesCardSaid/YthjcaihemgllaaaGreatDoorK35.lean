/-
  What the law needs, packed: E0 VB VQP VDP V11Q T1 E3 T2 E8 E9 T3 T4 T5.
-/
import Derived.Test.YthjcaihemgllaaaGreatDoorK34



namespace Go.HH
open Go Go.Proofs
set_option maxRecDepth 100000
set_option linter.unusedSimpArgs false
set_option linter.unusedVariables false
theorem ok_num_Digits:fnOK CC Tryz.f83 (Tryz.f83.body.getD .skip)=true:=by kernel_rfl
theorem fat_num_Digits:CC.P.funcs[83]?=some Tryz.f83:=by kernel_rfl
theorem ok_R01_Digits:fnOK CC Tryz.f41 (Tryz.f41.body.getD .skip)=true:=by kernel_rfl
theorem fat_R01_Digits:CC.P.funcs[41]?=some Tryz.f41:=by kernel_rfl
theorem itoa_length {n:Int} (h:inI n):(Lib.itoa n).length<=21:=by
 have key:∀ u:Nat,u<=9223372036854775808->(Lib.decDigits u).length<=20:=by
  intro u hu
  rw [Lib.decDigits_length]
  rcases Nat.lt_or_ge 20 (Lib.nDigits u) with h | h
  · exfalso
    have hp:10 ^ 20<=10 ^ (Lib.nDigits u - 1):=Nat.pow_le_pow_right (by omega) (by omega)
    have:10 ^ (Lib.nDigits u - 1)<=u:=by
     have gen:∀ v:Nat,1<=v->10 ^ (Lib.nDigits v - 1)<=v:=by
      intro v
      induction v using Nat.strongRecOn with
      | _ v ih=>
       intro hv
       by_cases hs:v < 10
       · rw [Lib.nDigits_small hs];simpa using hv
       · rw [Lib.nDigits_big hs,Nat.add_sub_cancel]
         have h1:=ih (v / 10) (by omega) (by omega)
         have h2:Lib.nDigits (v / 10)=Lib.nDigits (v / 10) - 1+1:=by have:=Lib.nDigits_pos (v / 10);omega
         rw [h2,Nat.pow_succ]
         omega
     apply gen
     rcases Nat.eq_zero_or_pos u with hz | hz
     · subst hz;rw [Lib.nDigits_small (by omega)] at h;omega
     · exact hz
    omega
  · exact h
 unfold Lib.itoa
 split
 · have:=key n.natAbs (by omega)
   simp only [List.length_cons]
   omega
 · have:=key n.toNat (by omega)
   omega
theorem call_num_Digits (n:Int) (h:inI n):callL CC 83 [.int .i64 n] []=some (.ret (.str (Lib.itoa n)),[]):=by
 rw [callL_enter (fn:=Tryz.f83) (c:=Tryz.f83.body.getD .skip) rfl rfl fat_num_Digits rfl ok_num_Digits (Nat.le_of_ble_eq_true rfl)]
 obtain ⟨ev,eo,so,co,⟨hev,hco⟩,R⟩:=RULES CC;rw [<- hev];have o_strconv_Itoa:=@op_strconv_Itoa;rw [<- hco] at o_strconv_Itoa
 have h1:=o_strconv_Itoa n h
 simp only [fpart,part',Tryz.f83,Option.getD]
 simp only [S7,R,seval,TG,h1]
theorem op_num_Digits (n:Int) (h:inI n) (bx):callOp CC (callL CC) 83 [.int .i64 n] bx=some (.ret (.str (Lib.itoa n)),bx):=callOp_of rfl (by simp only [SA,Bool.and_true]) (call_num_Digits n h) rfl
theorem itoa_nonneg {n:Int} (h:¬ n < 0):Lib.itoa n=Lib.decDigits n.toNat:=by unfold Lib.itoa;rw [if_neg h]
theorem itoa_neg {n:Int} (h:n < 0):Lib.itoa n=45 :: Lib.decDigits n.natAbs:=by unfold Lib.itoa;rw [if_pos h]
theorem itoa_digit {n:Int} (h0:0<=n) (h:n<=9):Lib.itoa n=[UInt8.ofNat (48+n.toNat)]:=by rw [itoa_nonneg (by omega),Lib.decDigits_one (by omega)]
theorem itoa_big {n:Int} (h:n > 9):Lib.itoa n=Lib.itoa (n.tdiv 10)++Lib.itoa (n.tmod 10):=by
 have h1:n.tdiv 10=((n.toNat / 10:Nat):Int):=by rw [Int.tdiv_eq_ediv_of_nonneg (by omega)];omega
 have h2:n.tmod 10=((n.toNat % 10:Nat):Int):=by rw [Int.tmod_eq_emod_of_nonneg (by omega)];omega
 rw [h1,h2,itoa_nonneg (by omega),itoa_nonneg (by omega),itoa_digit (by omega) (by omega),Int.toNat_natCast,Int.toNat_natCast,Lib.decDigits,dif_neg (by omega)]
theorem itoa_small_neg {n:Int} (h:n < 0) (h2:n > -10):Lib.itoa n=[45]++Lib.itoa (0 - n):=by
 rw [itoa_neg h,itoa_nonneg (by omega),show n.natAbs=(0 - n).toNat from by omega]
 rfl
theorem itoa_big_neg {n:Int} (h2:¬ n > -10):Lib.itoa n=Lib.itoa (n.tdiv 10)++Lib.itoa (0 - n.tmod 10):=by
 have h1:n.tdiv 10=-((n.natAbs / 10:Nat):Int):=by
  have:n=-((n.natAbs:Nat):Int):=by omega
  rw [this,Int.neg_tdiv,Int.natAbs_neg,Int.natAbs_natCast]
  congr 1
 have h3:n.tmod 10=-((n.natAbs % 10:Nat):Int):=by
  have:n=-((n.natAbs:Nat):Int):=by omega
  rw [this,Int.neg_tmod,Int.natAbs_neg,Int.natAbs_natCast]
  congr 1
 have hb:¬ n.natAbs < 10:=by omega
 rw [h1,h3,itoa_neg (by omega),itoa_neg (by omega),itoa_digit (by omega) (by omega),Lib.decDigits,dif_neg hb]
 rw [show (-((n.natAbs / 10:Nat):Int)).natAbs=n.natAbs / 10 from by omega,show (0 - -((n.natAbs % 10:Nat):Int)).toNat=n.natAbs % 10 from by omega]
 rfl
theorem str_add {a b:List UInt8} (h:a.length+b.length<=1000000):strP .add a b=some (.str (a++b)):=by
 unfold strP maxStr
 simp only
 rw [if_pos (by omega)]
theorem conv_bys (l:List UInt8):convP CC 70 9 (.sl (bys l))=some (.str l):=by
 unfold convP
 simp only [TG,elemsOf,bytesOf_bys,Option.map_some]
theorem bys_one {n:Int} (h:0<=n∧n < 256):[PV.int .u8 n]=bys [UInt8.ofNat n.toNat]:=by
 unfold bys
 simp only [List.map_cons,List.map_nil]
 congr 2
 have:n.toNat < 256:=by omega
 simp [UInt8.toNat_ofNat']
 omega
theorem call_R01_Digits (m:Nat):∀ n:Int,inI n->n.natAbs+(if n < 0 then 1 else 0)<=m->callL CC 41 [.int .i64 n] []=some (.ret (.str (Lib.itoa n)),[]):=by
 induction m with
 | zero=>
  intro n hn hm
  have:n=0:=by split at hm <;> omega
  subst this
  rw [callL_enter (fn:=Tryz.f41) (c:=Tryz.f41.body.getD .skip) rfl rfl fat_R01_Digits rfl ok_R01_Digits (Nat.le_of_ble_eq_true rfl)]
  obtain ⟨ev,eo,so,co,⟨hev,hco⟩,R⟩:=RULES CC;rw [<- hev]
  have e:=itoa_digit (n:=0) (by omega) (by omega)
  have hc:=conv_i_u8 48 ⟨by omega,by omega⟩
  have hb:=conv_bys [48]
  have hw:=wrap_i64 (n:=48) ⟨by omega,by omega⟩
  have h1:[PV.int .u8 48]=bys [48]:=rfl
  rw [e]
  simp only [fpart,part',Tryz.f41,Option.getD]
  simp only [S7,R,seval,TG,Int.reduceAdd,hc,hw,bs_u8,h1,hb]
  try rfl
 | succ m ih=>
  intro n hn hm
  have op:=fun (k:Int) (h:inI k) (hk:k.natAbs+(if k < 0 then 1 else 0)<=m) (bx)=>callOp_of (C:=CC) (f:=41) (bx:=bx) rfl (by simp only [SA,Bool.and_true]) (ih k h hk) rfl
  rw [callL_enter (fn:=Tryz.f41) (c:=Tryz.f41.body.getD .skip) rfl rfl fat_R01_Digits rfl ok_R01_Digits (Nat.le_of_ble_eq_true rfl)]
  by_cases c1:n < 0
  · rw [if_pos c1] at hm
    by_cases c2:n > -10
    · have o1:=op (-n) ⟨by omega,by omega⟩ (by rw [if_neg (by omega)];omega)
      obtain ⟨ev,eo,so,co,⟨hev,hco⟩,R⟩:=RULES CC;rw [<- hev]
      rw [<- hco] at o1
      have w:=wrap_i64 (n:=-n) ⟨by omega,by omega⟩
      have hl:=itoa_length (n:=-n) ⟨by omega,by omega⟩
      have e:=itoa_small_neg c1 c2
      rw [Int.zero_sub] at e
      have sa:=str_add (a:=[45]) (b:=Lib.itoa (-n)) (by simp;omega)
      rw [e]
      simp only [fpart,part',Tryz.f41,Option.getD]
      simp only [S7,R,seval,TG,unP,c1,c2,w,o1,sa,Int.zero_sub]
    · have ha:(n.tdiv 10).natAbs=n.natAbs / 10:=by rw [Int.natAbs_tdiv];rfl
      have hb:n.tmod 10=-((n.natAbs % 10:Nat):Int):=by
       have:n=-((n.natAbs:Nat):Int):=by omega
       rw [this,Int.neg_tmod,Int.natAbs_neg,Int.natAbs_natCast]
       congr 1
      have hd:n.tdiv 10<=0:=by
       have h:=Int.tdiv_nonneg (a:=-n) (b:=10) (by omega) (by omega)
       rw [Int.neg_tdiv] at h
       omega
      have o1:=op (n.tdiv 10) ⟨by omega,by omega⟩ (by split <;> omega)
      have o2:=op (0 - n.tmod 10) ⟨by omega,by omega⟩ (by rw [if_neg (by omega)];omega)
      obtain ⟨ev,eo,so,co,⟨hev,hco⟩,R⟩:=RULES CC;rw [<- hev]
      rw [<- hco] at o1 o2
      have w:=wrap_i64 (n:=n.tdiv 10) ⟨by omega,by omega⟩
      have w2:=wrap_i64 (n:=0 - n.tmod 10) ⟨by omega,by omega⟩
      have hl1:=itoa_length (n:=n.tdiv 10) ⟨by omega,by omega⟩
      have hl2:=itoa_length (n:=0 - n.tmod 10) ⟨by omega,by omega⟩
      have e:=itoa_big_neg c2
      have sa:=str_add (a:=Lib.itoa (n.tdiv 10)) (b:=Lib.itoa (0 - n.tmod 10)) (by omega)
      rw [e]
      simp only [fpart,part',Tryz.f41,Option.getD]
      simp only [S7,R,seval,TG,unP,c1,c2,w,w2,o1,o2,sa]
  · rw [if_neg c1] at hm
    by_cases c2:n > 9
    · have h1:n.tdiv 10=n / 10:=Int.tdiv_eq_ediv_of_nonneg (by omega)
      have h2:n.tmod 10=n % 10:=Int.tmod_eq_emod_of_nonneg (by omega)
      have o1:=op (n.tdiv 10) ⟨by omega,by omega⟩ (by rw [if_neg (by omega)];omega)
      have o2:=op (n.tmod 10) ⟨by omega,by omega⟩ (by rw [if_neg (by omega)];omega)
      obtain ⟨ev,eo,so,co,⟨hev,hco⟩,R⟩:=RULES CC;rw [<- hev]
      rw [<- hco] at o1 o2
      have w:=wrap_i64 (n:=n.tdiv 10) ⟨by omega,by omega⟩
      have w2:=wrap_i64 (n:=n.tmod 10) ⟨by omega,by omega⟩
      have hl1:=itoa_length (n:=n.tdiv 10) ⟨by omega,by omega⟩
      have hl2:=itoa_length (n:=n.tmod 10) ⟨by omega,by omega⟩
      have e:=itoa_big c2
      have sa:=str_add (a:=Lib.itoa (n.tdiv 10)) (b:=Lib.itoa (n.tmod 10)) (by omega)
      rw [e]
      simp only [fpart,part',Tryz.f41,Option.getD]
      simp only [S7,R,seval,TG,unP,c1,c2,w,w2,o1,o2,sa]
    · obtain ⟨ev,eo,so,co,⟨hev,hco⟩,R⟩:=RULES CC;rw [<- hev]
      have e:=itoa_digit (n:=n) (by omega) (by omega)
      have hw:=wrap_i64 (n:=48+n) ⟨by omega,by omega⟩
      have hc:=conv_i_u8 (48+n) ⟨by omega,by omega⟩
      have h1:=bys_one (n:=48+n) ⟨by omega,by omega⟩
      have hb:=conv_bys [UInt8.ofNat (48+n).toNat]
      have h48:(48+n).toNat=48+n.toNat:=by omega
      rw [h48] at h1 hb
      rw [e]
      simp only [fpart,part',Tryz.f41,Option.getD]
      simp only [S7,R,seval,TG,c1,c2,hw,hc,bs_u8,h1,hb,h48]
theorem op_R01_Digits (n:Int) (h:inI n) (bx):callOp CC (callL CC) 41 [.int .i64 n] bx=some (.ret (.str (Lib.itoa n)),bx):=callOp_of rfl (by simp only [SA,Bool.and_true]) (call_R01_Digits _ n h (Nat.le_refl _)) rfl
def isD (c:UInt8):Bool:=decide (48<=c.toNat) && decide (c.toNat<=57)
def pr:List UInt8->Int->Option Int
 | [],n=>some n
 | c :: r,n=>if isD c then pr r (10 * n+((c.toNat:Int) - 48)) else none
end Go.HH
namespace Go.HH
open Go Go.Proofs
set_option maxRecDepth 100000
set_option linter.unusedSimpArgs false
set_option linter.unusedVariables false
theorem ok_value_Print:fnOK CC Tryz.f120 (Tryz.f120.body.getD .skip)=true:=by kernel_rfl
theorem fat_value_Print:CC.P.funcs[120]?=some Tryz.f120:=by kernel_rfl
def sN:List UInt8:=[110,111,110,101]
def sT:List UInt8:=[116,114,117,101]
def sF:List UInt8:=[102,97,108,115,101]
def prV (v:Vl):List UInt8:=if ckV v≠0 then [] else if v.1=0 then sN else if v.1=1 then (if v.2.1=1 then sT else sF) else if v.1=2 then Lib.itoa v.2.1 else if v.1=3 then 35 :: Lib.itoa v.2.1 else quoteL v.2.2
theorem ck_len {v:Vl} (h:ckV v=0):v.2.2.length<=60∧(v.1=0∨v.1=1∨v.1=2∨v.1=3∨v.1=4)∧(v.1≠4->v.2.2=[]):=by
 obtain ⟨k,n,s⟩:=v
 unfold ckV at h
 simp only at h ⊢
 cases ho:okN k n with
 | none=>rw [ho] at h;cases h
 | some b=>
  rw [ho] at h
  cases b with
  | false=>cases h
  | true=>
   simp only at h
   by_cases hl:60 < s.length
   · rw [if_pos hl] at h;cases h
   · rw [if_neg hl] at h
     refine ⟨by omega,?_,fun k4=>?_⟩
     · unfold okN at ho
       by_cases e0:k=0∨k=4
       · omega
       · rw [if_neg e0] at ho
         by_cases e1:k=1
         · omega
         · rw [if_neg e1] at ho
           by_cases e2:k=2
           · omega
           · rw [if_neg e2] at ho
             by_cases e3:k=3
             · omega
             · rw [if_neg e3] at ho;cases ho
     · by_cases hs:s=[]
       · exact hs
       · rw [if_pos ⟨hs,k4⟩] at h;cases h
theorem call_value_Print (v:Vl) (hn:inI v.2.1):∃ bx,callL CC 120 [vlV v] []=some (.ret (.str (prV v)),bx):=by
 rw [callL_enter (fn:=Tryz.f120) (c:=Tryz.f120.body.getD .skip) rfl rfl fat_value_Print rfl ok_value_Print (Nat.le_of_ble_eq_true rfl)]
 have hc:=op_value_Check v
 have hcl:=ck_len (v:=v)
 have hd:=op_num_Digits v.2.1 hn
 have hil:=itoa_length hn
 have hadd:=str_add (a:=[35]) (b:=Lib.itoa v.2.1) (by simp only [List.length_singleton];omega)
 have hq:=fun h=>op_names_Quote v.2.2 h
 unfold prV
 by_cases c0:ckV v=0
 · rw [if_neg (fun h=>h c0)]
   rw [c0] at hc
   obtain ⟨l1,l2,_⟩:=hcl c0
   have hq:=hq (by omega)
   clear hcl
   obtain ⟨k,n,s⟩:=v
   unfold vlV at *
   simp only at *
   generalize Lib.itoa n=d at *
   generalize quoteL s=q at *
   rcases l2 with rfl | rfl | rfl | rfl | rfl
   · rw [if_pos rfl]
     have hN:sN=[110,111,110,101]:=rfl
     rw [hN]
     obtain ⟨ev,eo,so,co,⟨hev,hco⟩,R⟩:=RULES CC;rw [<- hev]
     rw [<- hco] at hc hd hq
     simp only [fpart,part',Tryz.f120,Option.getD]
     simp only [S8,R,SG,seval,UT,SC,hc]
     exact ⟨_,rfl⟩
   · rw [if_neg (by decide),if_pos rfl]
     by_cases n1:n=1
     · have n1p:(n == 1)=true:=by simp [n1]
       rw [if_pos n1]
       have hN:sT=[116,114,117,101]:=rfl
       rw [hN]
       obtain ⟨ev,eo,so,co,⟨hev,hco⟩,R⟩:=RULES CC;rw [<- hev]
       rw [<- hco] at hc hd hq
       simp only [fpart,part',Tryz.f120,Option.getD]
       simp only [S8,R,SG,seval,UT,SC,hc,n1p]
       exact ⟨_,rfl⟩
     · have n1p:(n == 1)=false:=by simpa using n1
       rw [if_neg n1]
       have hN:sF=[102,97,108,115,101]:=rfl
       rw [hN]
       obtain ⟨ev,eo,so,co,⟨hev,hco⟩,R⟩:=RULES CC;rw [<- hev]
       rw [<- hco] at hc hd hq
       simp only [fpart,part',Tryz.f120,Option.getD]
       simp only [S8,R,SG,seval,UT,SC,hc,n1p]
       exact ⟨_,rfl⟩
   · rw [if_neg (by decide),if_neg (by decide),if_pos rfl]
     obtain ⟨ev,eo,so,co,⟨hev,hco⟩,R⟩:=RULES CC;rw [<- hev]
     rw [<- hco] at hc hd hq
     simp only [fpart,part',Tryz.f120,Option.getD]
     simp only [S8,R,SG,seval,UT,SC,hc,hd]
     exact ⟨_,rfl⟩
   · rw [if_neg (by decide),if_neg (by decide),if_neg (by decide),if_pos rfl]
     rw [show (35 :: d:List UInt8)=[35]++d from rfl]
     generalize [35]++d=d2 at *
     obtain ⟨ev,eo,so,co,⟨hev,hco⟩,R⟩:=RULES CC;rw [<- hev]
     rw [<- hco] at hc hd hq
     simp only [fpart,part',Tryz.f120,Option.getD]
     simp only [S8,R,SG,seval,UT,SC,hc,hd,hadd]
     exact ⟨_,rfl⟩
   · rw [if_neg (by decide),if_neg (by decide),if_neg (by decide),if_neg (by decide)]
     obtain ⟨ev,eo,so,co,⟨hev,hco⟩,R⟩:=RULES CC;rw [<- hev]
     rw [<- hco] at hc hd hq
     simp only [fpart,part',Tryz.f120,Option.getD]
     simp only [S8,R,SG,seval,UT,SC,hc,hq]
     exact ⟨_,rfl⟩
 · rw [if_pos c0]
   have c0p:(ckV v != 0)=true:=by simpa using c0
   generalize ckV v=c at *
   unfold vlV at *
   obtain ⟨ev,eo,so,co,⟨hev,hco⟩,R⟩:=RULES CC;rw [<- hev]
   rw [<- hco] at hc
   simp only [fpart,part',Tryz.f120,Option.getD]
   simp only [S8,R,SG,seval,UT,SC,hc,c0p]
   exact ⟨_,rfl⟩
theorem op_value_Print (v:Vl) (hn:inI v.2.1) (bx):callOp CC (callL CC) 120 [vlV v] bx=some (.ret (.str (prV v)),bx):=by
 obtain ⟨b,h⟩:=call_value_Print v hn
 exact callOp_of rfl rfl h rfl
end Go.HH
namespace Go.HH
open Go Go.Proofs
set_option maxRecDepth 100000
set_option maxHeartbeats 4000000
set_option linter.unusedSimpArgs false
set_option linter.unusedVariables false
def cat (a b:List UInt8):List UInt8:=a++b
theorem cat_len (a b:List UInt8):(cat a b).length=a.length+b.length:=List.length_append
theorem catA {a b:List UInt8} (h:a.length+b.length<=2 ^ 60):strP .add a b=some (.str (cat a b)):=if_pos h
def dig (n:Nat):UInt8:=UInt8.ofNat (48+n)
def dayW:List (List UInt8):=[[109,111,110],[116,117,101],[119,101,100],[116,104,117],[102,114,105],[115,97,116],[115,117,110]]
def dayL:Nat->List (List UInt8)->List UInt8
 | _,[]=>[]
 | m,w :: r=>if m % 2=1 then (if m / 2=0 then w else w++44 :: dayL (m / 2) r) else dayL (m / 2) r
def dayN (m:Nat):List UInt8:=[100,97,121,115,32]++dayL m dayW
noncomputable def chkW (f:FuncId) (g:Nat->List UInt8) (n:Nat):Bool:=match callF CC 80 f [.int .i64 (n:Int)] [] with
 | some (.ret (.str s),_)=>s == g n
 | _=>false
theorem of_chkW {f:FuncId} {g:Nat->List UInt8} {l:List Nat} (h:l.all (chkW f g)=true) (n:Nat) (hn:n ∈ l):∃ bx,callL CC f [.int .i64 (n:Int)] []=some (.ret (.str (g n)),bx):=by
 have:=List.all_eq_true.1 h n hn
 unfold chkW at this
 split at this
 · rename_i s bx hs
   have e:s=g n:=by simpa using this
   subst e
   exact ⟨_,callL_iff.2 ⟨80,hs⟩⟩
 · cases this
theorem all_days:((List.range 127).map (·+1)).all (chkW 123 dayN)=true:=by kernel_rfl
theorem all_Days:((List.range 127).map (·+1)).all (chkW 82 dayN)=true:=by kernel_rfl
theorem op_days (n:Int) (h:1<=n∧n<=127) (bx):callOp CC (callL CC) 123 [.int .i64 n] bx=some (.ret (.str (dayN n.toNat)),bx):=by
 obtain ⟨b,hc⟩:=of_chkW all_days n.toNat (List.mem_map.2 ⟨n.toNat - 1,List.mem_range.2 (by omega),by omega⟩)
 rw [show ((n.toNat:Nat):Int)=n by omega] at hc
 exact callOp_of rfl rfl hc rfl
theorem op_Days (n:Int) (h:1<=n∧n<=127) (bx):callOp CC (callL CC) 82 [.int .i64 n] bx=some (.ret (.str (dayN n.toNat)),bx):=by
 obtain ⟨b,hc⟩:=of_chkW all_Days n.toNat (List.mem_map.2 ⟨n.toNat - 1,List.mem_range.2 (by omega),by omega⟩)
 rw [show ((n.toNat:Nat):Int)=n by omega] at hc
 exact callOp_of rfl rfl hc rfl
def twoN (n:Nat):List UInt8:=[dig (n / 10),dig (n % 10)]
theorem all_two:(List.range 60).all (chkW 153 twoN)=true:=by kernel_rfl
theorem op_two (n:Nat) (h:n < 60) (bx):callOp CC (callL CC) 153 [.int .i64 (n:Int)] bx=some (.ret (.str (twoN n)),bx):=by
 obtain ⟨b,hc⟩:=of_chkW all_two n (List.mem_range.2 h)
 exact callOp_of rfl rfl hc rfl
def oneN (n:Nat):List UInt8:=[dig n]
theorem all_one:(List.range 10).all (chkW 41 oneN)=true:=by kernel_rfl
theorem op_one (n:Nat) (h:n < 10) (bx):callOp CC (callL CC) 41 [.int .i64 (n:Int)] bx=some (.ret (.str (oneN n)),bx):=by
 obtain ⟨b,hc⟩:=of_chkW all_one n (List.mem_range.2 h)
 exact callOp_of rfl rfl hc rfl
def clkT (n:Nat):List UInt8:=[dig (n / 60 / 10),dig (n / 60 % 10),58,dig (n % 60 / 10),dig (n % 60 % 10)]
theorem quo_nat (n k:Nat):((n:Int).tdiv (k:Int))=((n / k:Nat):Int):=by rw [Int.tdiv_eq_ediv_of_nonneg (by omega)];rfl
theorem rem_nat (n k:Nat):((n:Int).tmod (k:Int))=((n % k:Nat):Int):=by rw [Int.tmod_eq_emod_of_nonneg (by omega)];rfl
theorem ok_print_clock:fnOK CC Tryz.f122 (Tryz.f122.body.getD .skip)=true:=by kernel_rfl
theorem fat_print_clock:CC.P.funcs[122]?=some Tryz.f122:=by kernel_rfl
theorem ok_R30_Clock:fnOK CC Tryz.f81 (Tryz.f81.body.getD .skip)=true:=by kernel_rfl
theorem fat_R30_Clock:CC.P.funcs[81]?=some Tryz.f81:=by kernel_rfl
theorem ok_print_dotted:fnOK CC Tryz.f121 (Tryz.f121.body.getD .skip)=true:=by kernel_rfl
theorem fat_print_dotted:CC.P.funcs[121]?=some Tryz.f121:=by kernel_rfl
theorem ok_R30_Path:fnOK CC Tryz.f80 (Tryz.f80.body.getD .skip)=true:=by kernel_rfl
theorem fat_R30_Path:CC.P.funcs[80]?=some Tryz.f80:=by kernel_rfl
theorem FNi:∃ a b v,CC.P.underlying 75=some (.func a b v):=by
 have h:(match Tryz.prog.underlying 75 with | some (.func _ _ _)=>true | _=>false)=true:=by kernel_rfl
 split at h
 · rename_i a b v e;exact ⟨a,b,v,e⟩
 · cases h
theorem call_clock (n:Nat) (h:n < 1440):∃ bx,callL CC 122 [.int .i64 (n:Int)] []=some (.ret (.str (clkT n)),bx):=by
 have o1:=op_two (n / 60) (by omega)
 have o2:=op_two (n % 60) (by omega)
 have q1:=quo_nat n 60
 have q2:=rem_nat n 60
 have w1:=wrap_i64 (n:=((n / 60:Nat):Int)) ⟨by omega,by omega⟩
 have w2:=wrap_i64 (n:=((n % 60:Nat):Int)) ⟨by omega,by omega⟩
 have c1:=catA (a:=twoN (n / 60)) (b:=[58]) (by simp [twoN])
 have c2:=catA (a:=cat (twoN (n / 60)) [58]) (b:=twoN (n % 60)) (by simp [twoN,cat])
 have e:clkT n=cat (cat (twoN (n / 60)) [58]) (twoN (n % 60)):=rfl
 have k60:((60:Nat):Int)=60:=rfl
 rw [k60] at q1 q2
 rw [e]
 obtain ⟨fa,fb,fv,hfn⟩:=FNi
 generalize twoN (n / 60)=s1 at *
 generalize twoN (n % 60)=s2 at *
 generalize ((n / 60:Nat):Int)=x1 at *
 generalize ((n % 60:Nat):Int)=x2 at *
 rw [callL_enter (fn:=Tryz.f122) (c:=Tryz.f122.body.getD .skip) rfl rfl fat_print_clock rfl ok_print_clock (Nat.le_of_ble_eq_true rfl)]
 obtain ⟨ev,eo,so,co,⟨hev,hco⟩,R⟩:=RULES CC;rw [<- hev]
 rw [<- hco] at o1 o2
 simp only [fpart,part',Tryz.f122,Option.getD]
 simp only [S8,R,SG,seval,UT,SC,dynR,callAl,hfn,o1,o2,q1,q2,w1,w2,c1,c2]
 exact ⟨_,rfl⟩
theorem op_clock (n:Int) (h:0<=n∧n < 1440) (bx):callOp CC (callL CC) 122 [.int .i64 n] bx=some (.ret (.str (clkT n.toNat)),bx):=by
 obtain ⟨b,hc⟩:=call_clock n.toNat (by omega)
 rw [show ((n.toNat:Nat):Int)=n by omega] at hc
 exact callOp_of rfl rfl hc rfl
theorem call_Clock (n:Nat) (h:n < 1440):∃ bx,callL CC 81 [.int .i64 (n:Int)] []=some (.ret (.str (clkT n)),bx):=by
 have o1:=op_one (n / 60 / 10) (by omega)
 have o2:=op_one (n / 60 % 10) (by omega)
 have o3:=op_one (n % 60 / 10) (by omega)
 have o4:=op_one (n % 60 % 10) (by omega)
 have q1:=quo_nat n 60
 have q2:=rem_nat n 60
 have q3:=quo_nat (n / 60) 10
 have q4:=rem_nat (n / 60) 10
 have q5:=quo_nat (n % 60) 10
 have q6:=rem_nat (n % 60) 10
 have w1:=wrap_i64 (n:=((n / 60:Nat):Int)) ⟨by omega,by omega⟩
 have w2:=wrap_i64 (n:=((n % 60:Nat):Int)) ⟨by omega,by omega⟩
 have w3:=wrap_i64 (n:=((n / 60 / 10:Nat):Int)) ⟨by omega,by omega⟩
 have w4:=wrap_i64 (n:=((n / 60 % 10:Nat):Int)) ⟨by omega,by omega⟩
 have w5:=wrap_i64 (n:=((n % 60 / 10:Nat):Int)) ⟨by omega,by omega⟩
 have w6:=wrap_i64 (n:=((n % 60 % 10:Nat):Int)) ⟨by omega,by omega⟩
 have c1:=catA (a:=oneN (n / 60 / 10)) (b:=oneN (n / 60 % 10)) (by simp [oneN])
 have c2:=catA (a:=cat (oneN (n / 60 / 10)) (oneN (n / 60 % 10))) (b:=[58]) (by simp [oneN,cat])
 have c3:=catA (a:=cat (cat (oneN (n / 60 / 10)) (oneN (n / 60 % 10))) [58]) (b:=oneN (n % 60 / 10)) (by simp [oneN,cat])
 have c4:=catA (a:=cat (cat (cat (oneN (n / 60 / 10)) (oneN (n / 60 % 10))) [58]) (oneN (n % 60 / 10))) (b:=oneN (n % 60 % 10)) (by simp [oneN,cat])
 have e:clkT n=cat (cat (cat (cat (oneN (n / 60 / 10)) (oneN (n / 60 % 10))) [58]) (oneN (n % 60 / 10))) (oneN (n % 60 % 10)):=rfl
 have k60:((60:Nat):Int)=60:=rfl
 have k10:((10:Nat):Int)=10:=rfl
 rw [k60] at q1 q2
 rw [k10] at q3 q4 q5 q6
 rw [e]
 obtain ⟨fa,fb,fv,hfn⟩:=FNi
 generalize oneN (n / 60 / 10)=s1 at *
 generalize oneN (n / 60 % 10)=s2 at *
 generalize oneN (n % 60 / 10)=s3 at *
 generalize oneN (n % 60 % 10)=s4 at *
 generalize ((n / 60 / 10:Nat):Int)=y1 at *
 generalize ((n / 60 % 10:Nat):Int)=y2 at *
 generalize ((n % 60 / 10:Nat):Int)=y3 at *
 generalize ((n % 60 % 10:Nat):Int)=y4 at *
 generalize ((n / 60:Nat):Int)=x1 at *
 generalize ((n % 60:Nat):Int)=x2 at *
 rw [callL_enter (fn:=Tryz.f81) (c:=Tryz.f81.body.getD .skip) rfl rfl fat_R30_Clock rfl ok_R30_Clock (Nat.le_of_ble_eq_true rfl)]
 obtain ⟨ev,eo,so,co,⟨hev,hco⟩,R⟩:=RULES CC;rw [<- hev]
 rw [<- hco] at o1 o2 o3 o4
 simp only [fpart,part',Tryz.f81,Option.getD]
 simp only [S8,R,SG,seval,UT,SC,dynR,callAl,hfn,o1,o2,o3,o4,q1,q2,q3,q4,q5,q6,w1,w2,w3,w4,w5,w6,c1,c2,c3,c4]
 exact ⟨_,rfl⟩
theorem op_Clock (n:Int) (h:0<=n∧n < 1440) (bx):callOp CC (callL CC) 81 [.int .i64 n] bx=some (.ret (.str (clkT n.toNat)),bx):=by
 obtain ⟨b,hc⟩:=call_Clock n.toNat (by omega)
 rw [show ((n.toNat:Nat):Int)=n by omega] at hc
 exact callOp_of rfl rfl hc rfl
def dotT (d:Int) (a b:List UInt8):List UInt8:=cat (cat (cat (cat (Lib.itoa d) [46]) a) [46]) b
theorem call_dotted (d:Int) (a b:List UInt8) (h:inI d) (ha:a.length<=1000) (hb:b.length<=1000):∃ bx,callL CC 121 [.int .i64 d,.str a,.str b] []=some (.ret (.str (dotT d a b)),bx):=by
 have o1:=op_num_Digits d h
 have hl:=itoa_length h
 unfold dotT
 generalize Lib.itoa d=s at *
 have c1:=catA (a:=s) (b:=[46]) (by simp only [List.length_singleton];omega)
 have c2:=catA (a:=cat s [46]) (b:=a) (by simp only [cat_len,List.length_singleton];omega)
 have c3:=catA (a:=cat (cat s [46]) a) (b:=[46]) (by simp only [cat_len,List.length_singleton];omega)
 have c4:=catA (a:=cat (cat (cat s [46]) a) [46]) (b:=b) (by simp only [cat_len,List.length_singleton];omega)
 obtain ⟨fa,fb,fv,hfn⟩:=FNi
 rw [callL_enter (fn:=Tryz.f121) (c:=Tryz.f121.body.getD .skip) rfl rfl fat_print_dotted rfl ok_print_dotted (Nat.le_of_ble_eq_true rfl)]
 obtain ⟨ev,eo,so,co,⟨hev,hco⟩,R⟩:=RULES CC;rw [<- hev]
 rw [<- hco] at o1
 simp only [fpart,part',Tryz.f121,Option.getD]
 simp only [S8,R,SG,seval,UT,SC,dynR,callAl,hfn,o1,c1,c2,c3,c4]
 exact ⟨_,rfl⟩
theorem op_dotted (d:Int) (a b:List UInt8) (h:inI d) (ha:a.length<=1000) (hb:b.length<=1000) (bx):callOp CC (callL CC) 121 [.int .i64 d,.str a,.str b] bx=some (.ret (.str (dotT d a b)),bx):=by
 obtain ⟨c,hc⟩:=call_dotted d a b h ha hb
 exact callOp_of rfl rfl hc rfl
theorem call_Path (d:Int) (a b:List UInt8) (h:inI d) (ha:a.length<=1000) (hb:b.length<=1000):∃ bx,callL CC 80 [.int .i64 d,.str a,.str b] []=some (.ret (.str (dotT d a b)),bx):=by
 have o1:=op_R01_Digits d h
 have hl:=itoa_length h
 unfold dotT
 generalize Lib.itoa d=s at *
 have c1:=catA (a:=s) (b:=[46]) (by simp only [List.length_singleton];omega)
 have c2:=catA (a:=cat s [46]) (b:=a) (by simp only [cat_len,List.length_singleton];omega)
 have c3:=catA (a:=cat (cat s [46]) a) (b:=[46]) (by simp only [cat_len,List.length_singleton];omega)
 have c4:=catA (a:=cat (cat (cat s [46]) a) [46]) (b:=b) (by simp only [cat_len,List.length_singleton];omega)
 obtain ⟨fa,fb,fv,hfn⟩:=FNi
 rw [callL_enter (fn:=Tryz.f80) (c:=Tryz.f80.body.getD .skip) rfl rfl fat_R30_Path rfl ok_R30_Path (Nat.le_of_ble_eq_true rfl)]
 obtain ⟨ev,eo,so,co,⟨hev,hco⟩,R⟩:=RULES CC;rw [<- hev]
 rw [<- hco] at o1
 simp only [fpart,part',Tryz.f80,Option.getD]
 simp only [S8,R,SG,seval,UT,SC,dynR,callAl,hfn,o1,c1,c2,c3,c4]
 exact ⟨_,rfl⟩
theorem op_Path (d:Int) (a b:List UInt8) (h:inI d) (ha:a.length<=1000) (hb:b.length<=1000) (bx):callOp CC (callL CC) 80 [.int .i64 d,.str a,.str b] bx=some (.ret (.str (dotT d a b)),bx):=by
 obtain ⟨c,hc⟩:=call_Path d a b h ha hb
 exact callOp_of rfl rfl hc rfl
end Go.HH

namespace Go.HH
open Go Go.Proofs
set_option maxRecDepth 100000
set_option maxHeartbeats 4000000
set_option linter.unusedSimpArgs false
set_option linter.unusedVariables false
theorem ok_print_literal:fnOK CC Tryz.f68 (Tryz.f68.body.getD .skip)=true:=by kernel_rfl
theorem fat_print_literal:CC.P.funcs[68]?=some Tryz.f68:=by kernel_rfl
theorem ok_R30_Literal:fnOK CC Tryz.f79 (Tryz.f79.body.getD .skip)=true:=by kernel_rfl
theorem fat_R30_Literal:CC.P.funcs[79]?=some Tryz.f79:=by kernel_rfl
theorem ok_print_primary:fnOK CC Tryz.f74 (Tryz.f74.body.getD .skip)=true:=by kernel_rfl
theorem fat_print_primary:CC.P.funcs[74]?=some Tryz.f74:=by kernel_rfl
def lvV (v:Vl):Int:=if v.1=2∧v.2.1 < 0 then 7 else 8
theorem call_literal (v:Vl) (hn:inI v.2.1) (hc:ckV v=0) (h0:v.1≠0):∃ bx,callL CC 68 [vlV v] []=some (.ret (.tup [.str (prV v),.int .i64 (lvV v)]),bx):=by
 have o1:=op_value_Print v hn
 have o2:=op_num_Digits v.2.1 hn
 have e2:v.1=2->prV v=Lib.itoa v.2.1:=fun h=>by
  unfold prV
  rw [if_neg (by omega),if_neg (by omega),if_neg (by omega),if_pos h]
 unfold lvV
 obtain ⟨k,n,s⟩:=v
 unfold vlV at o1 ⊢
 simp only at o1 o2 e2 ⊢
 generalize prV (k,n,s)=pv at *
 generalize Lib.itoa n=d at *
 clear hc h0
 rw [callL_enter (fn:=Tryz.f68) (c:=Tryz.f68.body.getD .skip) rfl rfl fat_print_literal rfl ok_print_literal (Nat.le_of_ble_eq_true rfl)]
 by_cases k2:k=2
 · have e:=e2 k2
   subst k2
   by_cases hneg:n < 0
   · rw [if_pos ⟨rfl,hneg⟩,e]
     obtain ⟨ev,eo,so,co,⟨hev,hco⟩,R⟩:=RULES CC;rw [<- hev]
     rw [<- hco] at o1 o2
     simp only [fpart,part',Tryz.f68,Option.getD]
     simp only [S8,R,SG,seval,UT,SC,o1,o2,hneg]
     exact ⟨_,rfl⟩
   · rw [if_neg (by omega)]
     obtain ⟨ev,eo,so,co,⟨hev,hco⟩,R⟩:=RULES CC;rw [<- hev]
     rw [<- hco] at o1 o2
     simp only [fpart,part',Tryz.f68,Option.getD]
     simp only [S8,R,SG,seval,UT,SC,o1,o2,hneg]
     exact ⟨_,rfl⟩
 · have p2:(k == 2)=false:=by simpa using k2
   rw [if_neg (by omega)]
   obtain ⟨ev,eo,so,co,⟨hev,hco⟩,R⟩:=RULES CC;rw [<- hev]
   rw [<- hco] at o1 o2
   simp only [fpart,part',Tryz.f68,Option.getD]
   simp only [S8,R,SG,seval,UT,SC,o1,o2,p2]
   exact ⟨_,rfl⟩
theorem op_literal (v:Vl) (hn:inI v.2.1) (hc:ckV v=0) (h0:v.1≠0) (bx):callOp CC (callL CC) 68 [vlV v] bx=some (.ret (.tup [.str (prV v),.int .i64 (lvV v)]),bx):=by
 obtain ⟨c,h⟩:=call_literal v hn hc h0
 exact callOp_of rfl rfl h rfl
theorem call_Literal (v:Vl) (hn:inI v.2.1) (hc:ckV v=0) (h0:v.1≠0):∃ bx,callL CC 79 [vlV v] []=some (.ret (.str (prV v)),bx):=by
 have hk:=ck_len hc
 have o2:=op_R01_Digits v.2.1 hn
 have o4:=op_R04_Quote v.2.2 (by omega)
 have hl:=itoa_length hn
 unfold prV
 rw [if_neg (by omega),if_neg (by omega)]
 obtain ⟨k,n,s⟩:=v
 unfold vlV
 simp only at o2 o4 hk h0 hl ⊢
 obtain ⟨_,hk,_⟩:=hk
 generalize quoteL s=qs at *
 clear hc
 rw [callL_enter (fn:=Tryz.f79) (c:=Tryz.f79.body.getD .skip) rfl rfl fat_R30_Literal rfl ok_R30_Literal (Nat.le_of_ble_eq_true rfl)]
 by_cases k1:k=1
 · subst k1
   rw [if_pos rfl]
   by_cases n1:n=1
   · have q1:(n == 1)=true:=by simpa using n1
     rw [if_pos n1]
     unfold sT
     obtain ⟨ev,eo,so,co,⟨hev,hco⟩,R⟩:=RULES CC;rw [<- hev]
     rw [<- hco] at o2 o4
     simp only [fpart,part',Tryz.f79,Option.getD]
     simp only [S8,R,SG,seval,UT,SC,o2,o4,q1]
     exact ⟨_,rfl⟩
   · have q1:(n == 1)=false:=by simpa using n1
     rw [if_neg n1]
     unfold sF
     obtain ⟨ev,eo,so,co,⟨hev,hco⟩,R⟩:=RULES CC;rw [<- hev]
     rw [<- hco] at o2 o4
     simp only [fpart,part',Tryz.f79,Option.getD]
     simp only [S8,R,SG,seval,UT,SC,o2,o4,q1]
     exact ⟨_,rfl⟩
 by_cases k2:k=2
 · subst k2
   rw [if_neg (by omega),if_pos rfl]
   obtain ⟨ev,eo,so,co,⟨hev,hco⟩,R⟩:=RULES CC;rw [<- hev]
   rw [<- hco] at o2 o4
   simp only [fpart,part',Tryz.f79,Option.getD]
   simp only [S8,R,SG,seval,UT,SC,o2,o4]
   exact ⟨_,rfl⟩
 by_cases k3:k=3
 · subst k3
   rw [if_neg (by omega),if_neg (by omega),if_pos rfl]
   have c1:=catA (a:=[35]) (b:=Lib.itoa n) (by simp only [List.length_singleton];omega)
   have e1:cat [35] (Lib.itoa n)=35 :: Lib.itoa n:=rfl
   rw [e1] at c1
   obtain ⟨ev,eo,so,co,⟨hev,hco⟩,R⟩:=RULES CC;rw [<- hev]
   rw [<- hco] at o2 o4
   simp only [fpart,part',Tryz.f79,Option.getD]
   simp only [S8,R,SG,seval,UT,SC,o2,o4,c1]
   exact ⟨_,rfl⟩
 have k4:k=4:=by omega
 subst k4
 rw [if_neg (by omega),if_neg (by omega),if_neg (by omega)]
 obtain ⟨ev,eo,so,co,⟨hev,hco⟩,R⟩:=RULES CC;rw [<- hev]
 rw [<- hco] at o2 o4
 simp only [fpart,part',Tryz.f79,Option.getD]
 simp only [S8,R,SG,seval,UT,SC,o2,o4]
 exact ⟨_,rfl⟩
theorem op_Literal (v:Vl) (hn:inI v.2.1) (hc:ckV v=0) (h0:v.1≠0) (bx):callOp CC (callL CC) 79 [vlV v] bx=some (.ret (.str (prV v)),bx):=by
 obtain ⟨c,h⟩:=call_Literal v hn hc h0
 exact callOp_of rfl rfl h rfl
def homeN:Nat->List UInt8
 | 0=>[104,111,109,101]
 | 1=>[104,111,109,101,32,103,117,101,115,116]
 | 2=>[104,111,109,101,32,99,104,105,108,100]
 | 3=>[104,111,109,101,32,97,100,117,108,116]
 | 4=>[104,111,109,101,32,111,119,110,101,114]
 | _=>[]
def prmT (k n m:Int) (nm:List UInt8) (key:Ky):List UInt8:=if k=2 then dotT key.1 key.2.1 key.2.2 else if k=3 then cat [109,111,100,101,32,105,115,32] nm else
 if k=4 then cat (cat (cat [116,105,109,101,32] (clkT n.toNat)) [32,116,111,32]) (clkT m.toNat) else if k=5 then dayN n.toNat else homeN n.toNat
theorem bldH:buildP CC 131 [(0,.str [104,111,109,101]),(1,.str [104,111,109,101,32,103,117,101,115,116]),(2,.str [104,111,109,101,32,99,104,105,108,100]),(3,.str [104,111,109,101,32,97,100,117,108,116]),(4,.str [104,111,109,101,32,111,119,110,101,114])]=some (.agg [.str [104,111,109,101],.str [104,111,109,101,32,103,117,101,115,116],.str [104,111,109,101,32,99,104,105,108,100],.str [104,111,109,101,32,97,100,117,108,116],.str [104,111,109,101,32,111,119,110,101,114]]) :=by kernel_rfl
theorem ixH0:indexV CC 131 (.agg [.str [104,111,109,101],.str [104,111,109,101,32,103,117,101,115,116],.str [104,111,109,101,32,99,104,105,108,100],.str [104,111,109,101,32,97,100,117,108,116],.str [104,111,109,101,32,111,119,110,101,114]]) (.int .i64 0)=some (.str [104,111,109,101]):=by kernel_rfl
theorem ixH1:indexV CC 131 (.agg [.str [104,111,109,101],.str [104,111,109,101,32,103,117,101,115,116],.str [104,111,109,101,32,99,104,105,108,100],.str [104,111,109,101,32,97,100,117,108,116],.str [104,111,109,101,32,111,119,110,101,114]]) (.int .i64 1)=some (.str [104,111,109,101,32,103,117,101,115,116]):=by kernel_rfl
theorem ixH2:indexV CC 131 (.agg [.str [104,111,109,101],.str [104,111,109,101,32,103,117,101,115,116],.str [104,111,109,101,32,99,104,105,108,100],.str [104,111,109,101,32,97,100,117,108,116],.str [104,111,109,101,32,111,119,110,101,114]]) (.int .i64 2)=some (.str [104,111,109,101,32,99,104,105,108,100]):=by kernel_rfl
theorem ixH3:indexV CC 131 (.agg [.str [104,111,109,101],.str [104,111,109,101,32,103,117,101,115,116],.str [104,111,109,101,32,99,104,105,108,100],.str [104,111,109,101,32,97,100,117,108,116],.str [104,111,109,101,32,111,119,110,101,114]]) (.int .i64 3)=some (.str [104,111,109,101,32,97,100,117,108,116]):=by kernel_rfl
theorem ixH4:indexV CC 131 (.agg [.str [104,111,109,101],.str [104,111,109,101,32,103,117,101,115,116],.str [104,111,109,101,32,99,104,105,108,100],.str [104,111,109,101,32,97,100,117,108,116],.str [104,111,109,101,32,111,119,110,101,114]]) (.int .i64 4)=some (.str [104,111,109,101,32,111,119,110,101,114]):=by kernel_rfl
theorem call_primary (k n m:Int) (nm:List UInt8) (v:Vl) (key:Ky) (kids:List Tr) (hk:k=2∨k=3∨k=4∨k=5∨k=15) (hr:rgB k n m key.1=true) (hd:inI key.1) (l1:nm.length<=100) (l2:key.2.1.length<=100) (l3:key.2.2.length<=100) :
 ∃ bx,callL CC 74 [trV (.mk k n m nm v key kids)] []=some (.ret (.str (prmT k n m nm key)),bx):=by
 unfold prmT
 unfold trV
 unfold rgB at hr
 generalize trVs kids=xs
 obtain ⟨d,c,a⟩:=key
 simp only at hr hd l2 l3 ⊢
 rw [callL_enter (fn:=Tryz.f74) (c:=Tryz.f74.body.getD .skip) rfl rfl fat_print_primary rfl ok_print_primary (Nat.le_of_ble_eq_true rfl)]
 rcases hk with rfl | rfl | rfl | rfl | rfl
 · rw [if_pos rfl]
   have o1:=op_dotted d c a hd (by omega) (by omega)
   obtain ⟨ev,eo,so,co,⟨hev,hco⟩,R⟩:=RULES CC;rw [<- hev]
   rw [<- hco] at o1
   simp only [fpart,part',Tryz.f74,Option.getD]
   simp only [S8,R,SG,seval,UT,SC,o1]
   exact ⟨_,rfl⟩
 · rw [if_neg (by omega),if_pos rfl]
   have c1:=catA (a:=[109,111,100,101,32,105,115,32]) (b:=nm) (by simp only [List.length_cons,List.length_nil];omega)
   obtain ⟨ev,eo,so,co,⟨hev,hco⟩,R⟩:=RULES CC;rw [<- hev]
   skip
   simp only [fpart,part',Tryz.f74,Option.getD]
   simp only [S8,R,SG,seval,UT,SC,c1]
   exact ⟨_,rfl⟩
 · rw [if_pos rfl] at hr
   have hr:=of_decide_eq_true hr
   rw [if_neg (by omega),if_neg (by omega),if_pos rfl]
   have o1:=op_clock n (by omega)
   have o2:=op_clock m (by omega)
   have e1:(clkT n.toNat).length=5:=rfl
   have e2:(clkT m.toNat).length=5:=rfl
   generalize clkT n.toNat=s1 at *
   generalize clkT m.toNat=s2 at *
   have c1:=catA (a:=[116,105,109,101,32]) (b:=s1) (by simp only [List.length_cons,List.length_nil];omega)
   have c2:=catA (a:=cat [116,105,109,101,32] s1) (b:=[32,116,111,32]) (by simp only [cat_len,List.length_cons,List.length_nil];omega)
   have c3:=catA (a:=cat (cat [116,105,109,101,32] s1) [32,116,111,32]) (b:=s2) (by simp only [cat_len,List.length_cons,List.length_nil];omega)
   obtain ⟨ev,eo,so,co,⟨hev,hco⟩,R⟩:=RULES CC;rw [<- hev]
   rw [<- hco] at o1 o2
   simp only [fpart,part',Tryz.f74,Option.getD]
   simp only [S8,R,SG,seval,UT,SC,o1,o2,c1,c2,c3]
   exact ⟨_,rfl⟩
 · rw [if_neg (by omega),if_pos rfl] at hr
   have hr:=of_decide_eq_true hr
   rw [if_neg (by omega),if_neg (by omega),if_neg (by omega),if_pos rfl]
   have o1:=op_days n (by omega)
   obtain ⟨ev,eo,so,co,⟨hev,hco⟩,R⟩:=RULES CC;rw [<- hev]
   rw [<- hco] at o1
   simp only [fpart,part',Tryz.f74,Option.getD]
   simp only [S8,R,SG,seval,UT,SC,o1]
   exact ⟨_,rfl⟩
 · rw [if_neg (by omega),if_neg (by omega),if_pos rfl] at hr
   have hr:=of_decide_eq_true hr
   rw [if_neg (by omega),if_neg (by omega),if_neg (by omega),if_neg (by omega)]
   have:n=0∨n=1∨n=2∨n=3∨n=4:=by omega
   rcases this with rfl | rfl | rfl | rfl | rfl
   all_goals
    obtain ⟨ev,eo,so,co,⟨hev,hco⟩,R⟩:=RULES CC;rw [<- hev]
    skip
    simp only [fpart,part',Tryz.f74,Option.getD]
    simp only [S8,R,SG,seval,UT,SC,bldH,ixH0,ixH1,ixH2,ixH3,ixH4]
    exact ⟨_,rfl⟩
theorem op_primary (k n m:Int) (nm:List UInt8) (v:Vl) (key:Ky) (kids:List Tr) (hk:k=2∨k=3∨k=4∨k=5∨k=15) (hr:rgB k n m key.1=true) (hd:inI key.1) (l1:nm.length<=100) (l2:key.2.1.length<=100) (l3:key.2.2.length<=100) (bx) :
 callOp CC (callL CC) 74 [trV (.mk k n m nm v key kids)] bx=some (.ret (.str (prmT k n m nm key)),bx):=by
 obtain ⟨c,h⟩:=call_primary k n m nm v key kids hk hr hd l1 l2 l3
 exact callOp_of rfl (by simp only [pureL_cons,trV_pure,pureL_nil,Bool.and_self]) h rfl
end Go.HH

namespace Go.HH
open Go Go.Proofs
set_option maxRecDepth 100000
set_option maxHeartbeats 4000000
set_option linter.unusedSimpArgs false
set_option linter.unusedVariables false
theorem ok_expr_Same:fnOK CC Tryz.f85 (Tryz.f85.body.getD .skip)=true:=by kernel_rfl
theorem fat_expr_Same:CC.P.funcs[85]?=some Tryz.f85:=by kernel_rfl
theorem ok_R28_Same:fnOK CC Tryz.f23 (Tryz.f23.body.getD .skip)=true:=by kernel_rfl
theorem fat_R28_Same:CC.P.funcs[23]?=some Tryz.f23:=by kernel_rfl
theorem ok_print_none:fnOK CC Tryz.f62 (Tryz.f62.body.getD .skip)=true:=by kernel_rfl
theorem fat_print_none:CC.P.funcs[62]?=some Tryz.f62:=by kernel_rfl
theorem ok_R30_None:fnOK CC Tryz.f67 (Tryz.f67.body.getD .skip)=true:=by kernel_rfl
theorem fat_R30_None:CC.P.funcs[67]?=some Tryz.f67:=by kernel_rfl
def leafV (k n m:Int) (nm:List UInt8) (v:Vl) (key:Ky):PV:=.agg [.int .i64 k,.int .i64 n,.int .i64 m,.str nm,.int .i64 v.1,.int .i64 v.2.1,.str v.2.2,.int .i64 key.1,.str key.2.1,.str key.2.2,.sl []]
def smB (t:Tr) (k n m:Int) (nm:List UInt8) (v:Vl) (key:Ky):Bool:=match t with
 | .mk k' n' m' nm' v' key' kids=>(k' == k) && (n' == n) && (m' == m) && (nm' == nm) && eqVl v' v && eqKy key' key && (kids.length == 0)
theorem loop0_expr_Same (L:Code) (hL:L=fpart Tryz.f85 [1,1,0,1,0]) (e:List PV) (bx:List PBox) (h1:getT e 58=.int .i64 0) (h2:getT e 59=.int .i64 0):∃ e' bx',evL CC L ⟨e,bx⟩=some (.exit 0,⟨e',bx'⟩):=by
 rw [evL_at (fpart Tryz.f85 [1,1,0,1,0,0]) hL]
 have hlen:True:=trivial
 have hi:¬ ((0:Int) < 0):=by decide
 obtain ⟨ev,eo,so,co,⟨hev,hco⟩,R⟩:=RULES CC;rw [<- hev]
 simp only [fpart,part',Tryz.f85,Option.getD]
 simp only [S8,R,SG,seval,UT,SC,hlen,eqgV,eqgK,Bool.not_not,h1,h2,hi]
 exact ⟨_,_,rfl⟩
theorem same_expr_Same (k n m:Int) (nm:List UInt8) (vk vn:Int) (vs:List UInt8) (dv:Int) (cl at_:List UInt8) (xs:List PV) (k' n' m':Int) (nm':List UInt8) (vk' vn':Int) (vs':List UInt8) (dv':Int) (cl' at':List UInt8) (b1 b2 b3 b4 b5 b6 b7:Bool)
 (h1:(k != k')=b1) (h2:(n != n')=b2) (h3:(m != m')=b3) (h4:strP .neq nm nm'=some (.bool b4)) (h5:eqP CC 100 24 (.agg [.int .i64 vk,.int .i64 vn,.str vs]) (.agg [.int .i64 vk',.int .i64 vn',.str vs'])=some (!b5)) (h6:eqP CC 100 26 (.agg [.int .i64 dv,.str cl,.str at_]) (.agg [.int .i64 dv',.str cl',.str at'])=some (!b6)) (h7:((xs.length:Int) != ((0:Nat):Int))=b7) :
 ∃ bx,callL CC 85 [.agg [.int .i64 k,.int .i64 n,.int .i64 m,.str nm,.int .i64 vk,.int .i64 vn,.str vs,.int .i64 dv,.str cl,.str at_,.sl xs],.agg [.int .i64 k',.int .i64 n',.int .i64 m',.str nm',.int .i64 vk',.int .i64 vn',.str vs',.int .i64 dv',.str cl',.str at',.sl []]] []=some (.ret (.bool (!(b1 || b2 || b3 || b4 || b5 || b6 || b7))),bx):=by
 have hlen:True:=trivial
 have hloop:=loop0_expr_Same _ rfl
 rw [callL_enter (fn:=Tryz.f85) (c:=Tryz.f85.body.getD .skip) rfl rfl fat_expr_Same rfl ok_expr_Same (Nat.le_of_ble_eq_true rfl)]
 cases b1 with
 | true=>
  obtain ⟨ev,eo,so,co,⟨hev,hco⟩,R⟩:=RULES CC;rw [<- hev]
  simp only [fpart,part',Tryz.f85,Option.getD]
  simp only [S8,R,SG,seval,UT,SC,hlen,eqgV,eqgK,Bool.not_not,h1]
  exact ⟨_,rfl⟩
 | false=>
  cases b2 with
  | true=>
   obtain ⟨ev,eo,so,co,⟨hev,hco⟩,R⟩:=RULES CC;rw [<- hev]
   simp only [fpart,part',Tryz.f85,Option.getD]
   simp only [S8,R,SG,seval,UT,SC,hlen,eqgV,eqgK,Bool.not_not,h1,h2]
   exact ⟨_,rfl⟩
  | false=>
   cases b3 with
   | true=>
    obtain ⟨ev,eo,so,co,⟨hev,hco⟩,R⟩:=RULES CC;rw [<- hev]
    simp only [fpart,part',Tryz.f85,Option.getD]
    simp only [S8,R,SG,seval,UT,SC,hlen,eqgV,eqgK,Bool.not_not,h1,h2,h3]
    exact ⟨_,rfl⟩
   | false=>
    cases b4 with
    | true=>
     obtain ⟨ev,eo,so,co,⟨hev,hco⟩,R⟩:=RULES CC;rw [<- hev]
     simp only [fpart,part',Tryz.f85,Option.getD]
     simp only [S8,R,SG,seval,UT,SC,hlen,eqgV,eqgK,Bool.not_not,h1,h2,h3,h4]
     exact ⟨_,rfl⟩
    | false=>
     cases b5 with
     | true=>
      obtain ⟨ev,eo,so,co,⟨hev,hco⟩,R⟩:=RULES CC;rw [<- hev]
      simp only [fpart,part',Tryz.f85,Option.getD]
      simp only [S8,R,SG,seval,UT,SC,hlen,eqgV,eqgK,Bool.not_not,h1,h2,h3,h4,h5]
      exact ⟨_,rfl⟩
     | false=>
      cases b6 with
      | true=>
       obtain ⟨ev,eo,so,co,⟨hev,hco⟩,R⟩:=RULES CC;rw [<- hev]
       simp only [fpart,part',Tryz.f85,Option.getD]
       simp only [S8,R,SG,seval,UT,SC,hlen,eqgV,eqgK,Bool.not_not,h1,h2,h3,h4,h5,h6]
       exact ⟨_,rfl⟩
      | false=>
       have h7':((xs.length:Int) != 0)=b7:=h7
       cases b7 with
       | true=>
        obtain ⟨ev,eo,so,co,⟨hev,hco⟩,R⟩:=RULES CC;rw [<- hev]
        simp only [fpart,part',Tryz.f85,Option.getD]
        simp only [S8,R,SG,seval,UT,SC,hlen,eqgV,eqgK,Bool.not_not,h1,h2,h3,h4,h5,h6,h7,h7']
        exact ⟨_,rfl⟩
       | false=>
        have hx0:(xs.length:Int)=0:=by simpa using h7
        obtain ⟨ev,eo,so,co,⟨hev,hco⟩,R⟩:=RULES CC;rw [<- hev]
        rw [<- hev] at hloop
        simp only [fpart,part',Tryz.f85,Option.getD] at hloop ⊢
        simp only [S8,R,SG,seval,UT,SC,hlen,eqgV,eqgK,Bool.not_not,h1,h2,h3,h4,h5,h6,h7,h7']
        generalize hE:ev (Code.loop _) _=z
        have hz:∃ e' bx',z=some (.exit 0,⟨e',bx'⟩):=by
         rw [<- hE]
         refine hloop _ _ ?_ ?_
         · simp only [S7,R,seval,hx0]
         · simp only [S7,R,seval]
        obtain ⟨e',bx',he⟩:=hz
        subst he
        simp only [S8,R,seval]
        exact ⟨_,rfl⟩
theorem loop0_R28_Same (L:Code) (hL:L=fpart Tryz.f23 [1,1,0,1,0]) (c0 c1 c2 c3 c4 c5 c6 c7 c8 c9:PV) (xs:List PV) (b1:PBox) (hx:(xs.length:Int)=0) (e:List PV) (h1:getT e 2=.bp 0 0) (h2:getT e 5=.int .i64 0):∃ e' bx',evL CC L ⟨e,[.cells 29 [c0,c1,c2,c3,c4,c5,c6,c7,c8,c9,.sl xs],b1]⟩=some (.exit 0,⟨e',bx'⟩):=by
 rw [evL_at (fpart Tryz.f23 [1,1,0,1,0,0]) hL]
 have hlen:True:=trivial
 have hi:¬ ((0:Int) < 0):=by decide
 obtain ⟨ev,eo,so,co,⟨hev,hco⟩,R⟩:=RULES CC;rw [<- hev]
 simp only [fpart,part',Tryz.f23,Option.getD]
 simp only [S8,R,SG,seval,UT,SC,hlen,eqgV,eqgK,Bool.not_not,h1,h2,hx,hi]
 exact ⟨_,_,rfl⟩
theorem same_R28_Same (k n m:Int) (nm:List UInt8) (vk vn:Int) (vs:List UInt8) (dv:Int) (cl at_:List UInt8) (xs:List PV) (k' n' m':Int) (nm':List UInt8) (vk' vn':Int) (vs':List UInt8) (dv':Int) (cl' at':List UInt8) (b1 b2 b3 b4 b5 b6 b7:Bool)
 (h1:(k != k')=b1) (h2:(n != n')=b2) (h3:(m != m')=b3) (h4:strP .neq nm nm'=some (.bool b4)) (h5:eqP CC 100 24 (.agg [.int .i64 vk,.int .i64 vn,.str vs]) (.agg [.int .i64 vk',.int .i64 vn',.str vs'])=some (!b5)) (h6:eqP CC 100 26 (.agg [.int .i64 dv,.str cl,.str at_]) (.agg [.int .i64 dv',.str cl',.str at'])=some (!b6)) (h7:((xs.length:Int) != ((0:Nat):Int))=b7) :
 ∃ bx,callL CC 23 [.agg [.int .i64 k,.int .i64 n,.int .i64 m,.str nm,.int .i64 vk,.int .i64 vn,.str vs,.int .i64 dv,.str cl,.str at_,.sl xs],.agg [.int .i64 k',.int .i64 n',.int .i64 m',.str nm',.int .i64 vk',.int .i64 vn',.str vs',.int .i64 dv',.str cl',.str at',.sl []]] []=some (.ret (.bool (!(b1 || b2 || b3 || b4 || b5 || b6 || b7))),bx):=by
 have hlen:True:=trivial
 have hloop:=fun c0 c1 c2 c3 c4 c5 c6 c7 c8 c9 xs b1=>loop0_R28_Same _ rfl c0 c1 c2 c3 c4 c5 c6 c7 c8 c9 xs b1
 rw [callL_enter (fn:=Tryz.f23) (c:=Tryz.f23.body.getD .skip) rfl rfl fat_R28_Same rfl ok_R28_Same (Nat.le_of_ble_eq_true rfl)]
 cases b1 with
 | true=>
  obtain ⟨ev,eo,so,co,⟨hev,hco⟩,R⟩:=RULES CC;rw [<- hev]
  simp only [fpart,part',Tryz.f23,Option.getD]
  simp only [S8,R,SG,seval,UT,SC,hlen,eqgV,eqgK,Bool.not_not,h1]
  exact ⟨_,rfl⟩
 | false=>
  cases b2 with
  | true=>
   obtain ⟨ev,eo,so,co,⟨hev,hco⟩,R⟩:=RULES CC;rw [<- hev]
   simp only [fpart,part',Tryz.f23,Option.getD]
   simp only [S8,R,SG,seval,UT,SC,hlen,eqgV,eqgK,Bool.not_not,h1,h2]
   exact ⟨_,rfl⟩
  | false=>
   cases b3 with
   | true=>
    obtain ⟨ev,eo,so,co,⟨hev,hco⟩,R⟩:=RULES CC;rw [<- hev]
    simp only [fpart,part',Tryz.f23,Option.getD]
    simp only [S8,R,SG,seval,UT,SC,hlen,eqgV,eqgK,Bool.not_not,h1,h2,h3]
    exact ⟨_,rfl⟩
   | false=>
    cases b4 with
    | true=>
     obtain ⟨ev,eo,so,co,⟨hev,hco⟩,R⟩:=RULES CC;rw [<- hev]
     simp only [fpart,part',Tryz.f23,Option.getD]
     simp only [S8,R,SG,seval,UT,SC,hlen,eqgV,eqgK,Bool.not_not,h1,h2,h3,h4]
     exact ⟨_,rfl⟩
    | false=>
     cases b5 with
     | true=>
      obtain ⟨ev,eo,so,co,⟨hev,hco⟩,R⟩:=RULES CC;rw [<- hev]
      simp only [fpart,part',Tryz.f23,Option.getD]
      simp only [S8,R,SG,seval,UT,SC,hlen,eqgV,eqgK,Bool.not_not,h1,h2,h3,h4,h5]
      exact ⟨_,rfl⟩
     | false=>
      cases b6 with
      | true=>
       obtain ⟨ev,eo,so,co,⟨hev,hco⟩,R⟩:=RULES CC;rw [<- hev]
       simp only [fpart,part',Tryz.f23,Option.getD]
       simp only [S8,R,SG,seval,UT,SC,hlen,eqgV,eqgK,Bool.not_not,h1,h2,h3,h4,h5,h6]
       exact ⟨_,rfl⟩
      | false=>
       have h7':((xs.length:Int) != 0)=b7:=h7
       cases b7 with
       | true=>
        obtain ⟨ev,eo,so,co,⟨hev,hco⟩,R⟩:=RULES CC;rw [<- hev]
        simp only [fpart,part',Tryz.f23,Option.getD]
        simp only [S8,R,SG,seval,UT,SC,hlen,eqgV,eqgK,Bool.not_not,h1,h2,h3,h4,h5,h6,h7,h7']
        exact ⟨_,rfl⟩
       | false=>
        have hx0:(xs.length:Int)=0:=by simpa using h7
        obtain ⟨ev,eo,so,co,⟨hev,hco⟩,R⟩:=RULES CC;rw [<- hev]
        rw [<- hev] at hloop
        simp only [fpart,part',Tryz.f23,Option.getD] at hloop ⊢
        simp only [S8,R,SG,seval,UT,SC,hlen,eqgV,eqgK,Bool.not_not,h1,h2,h3,h4,h5,h6,h7,h7']
        generalize hE:ev (Code.loop _) _=z
        have hz:∃ e' bx',z=some (.exit 0,⟨e',bx'⟩):=by
         rw [<- hE]
         refine hloop _ _ _ _ _ _ _ _ _ _ _ _ hx0 _ ?_ ?_
         · simp only [S7,R,seval]
         · simp only [S7,R,seval]
        obtain ⟨e',bx',he⟩:=hz
        subst he
        simp only [S8,R,seval]
        exact ⟨_,rfl⟩
def nnB (t:Tr):Bool:=smB t 0 0 0 [] (0,0,[]) (0,[],[])
theorem buildTr0:buildP CC 29 []=some (.agg [.int .i64 0,.int .i64 0,.int .i64 0,.str [],.int .i64 0,.int .i64 0,.str [],.int .i64 0,.str [],.str [],.nils]):=by kernel_rfl
theorem op_expr_Same (t:Tr) (k n m:Int) (nm:List UInt8) (v:Vl) (key:Ky) (bx):callOp CC (callL CC) 85 [trV t,leafV k n m nm v key] bx=some (.ret (.bool (smB t k n m nm v key)),bx):=by
 obtain ⟨k',n',m',nm',v',key',kids⟩:=t
 obtain ⟨vk,vn,vs⟩:=v
 obtain ⟨dv,cl,at_⟩:=key
 obtain ⟨vk',vn',vs'⟩:=v'
 obtain ⟨dv',cl',at'⟩:=key'
 have h4:strP .neq nm' nm=some (.bool (!(nm' == nm))):=rfl
 have h5:eqP CC 100 24 (.agg [.int .i64 vk',.int .i64 vn',.str vs']) (.agg [.int .i64 vk,.int .i64 vn,.str vs])=some (!(!(eqVl (vk',vn',vs') (vk,vn,vs)))):=by rw [eqVP,Bool.not_not];rfl
 have h6:eqP CC 100 26 (.agg [.int .i64 dv',.str cl',.str at']) (.agg [.int .i64 dv,.str cl,.str at_])=some (!(!(eqKy (dv',cl',at') (dv,cl,at_)))):=by rw [eqKP,Bool.not_not];rfl
 have hs:=same_expr_Same k' n' m' nm' vk' vn' vs' dv' cl' at' (trVs kids) k n m nm vk vn vs dv cl at_ _ _ _ _ _ _ _ rfl rfl rfl h4 h5 h6 rfl
 obtain ⟨b,hs⟩:=hs
 have he:smB (.mk k' n' m' nm' (vk',vn',vs') (dv',cl',at') kids) k n m nm (vk,vn,vs) (dv,cl,at_)=!((k' != k) || (n' != n) || (m' != m) || (!(nm' == nm)) || (!(eqVl (vk',vn',vs') (vk,vn,vs))) || (!(eqKy (dv',cl',at') (dv,cl,at_))) || (((trVs kids).length:Int) != ((0:Nat):Int))):=by
  unfold smB
  simp only
  have hl:(kids.length == 0)=(((trVs kids).length:Int) == ((0:Nat):Int)):=by
   rw [trVs_length,Bool.eq_iff_iff]
   simp only [beq_iff_eq]
   omega
  rw [hl]
  simp only [bne,Bool.not_or,Bool.not_not]
 rw [he]
 have hp:=trVs_pure kids
 refine callOp_of rfl ?_ (by unfold trV leafV;exact hs) rfl
 rw [pureL_cons,trV_pure]
 rfl
theorem op_print_none (t:Tr) (bx):callOp CC (callL CC) 62 [trV t] bx=some (.ret (.bool (nnB t)),bx):=by
 have hsm:=op_expr_Same t 0 0 0 [] (0,0,[]) (0,[],[])
 unfold nnB
 generalize smB t 0 0 0 [] (0,0,[]) (0,[],[])=b at *
 have hc:∃ q,callL CC 62 [trV t] []=some (.ret (.bool b),q):=by
  rw [callL_enter (fn:=Tryz.f62) (c:=Tryz.f62.body.getD .skip) rfl rfl fat_print_none rfl ok_print_none (Nat.le_of_ble_eq_true rfl)]
  obtain ⟨xk,xn,xm,xnm,xv,xkey,xkids⟩:=t
  unfold trV leafV at hsm
  unfold trV
  simp only at hsm
  generalize trVs xkids=xs at *
  have hlen:True:=trivial
  obtain ⟨ev,eo,so,co,⟨hev,hco⟩,R⟩:=RULES CC;rw [<- hev]
  rw [<- hco] at hsm
  simp only [fpart,part',Tryz.f62,Option.getD]
  simp only [S8,R,SG,seval,UT,SC,hlen,eqgV,eqgK,Bool.not_not,hsm,buildTr0]
  exact ⟨_,rfl⟩
 obtain ⟨q,hq⟩:=hc
 exact callOp_of rfl (by simp only [pureL_cons,trV_pure,pureL_nil,Bool.and_self]) hq rfl
theorem op_R28_Same (t:Tr) (k n m:Int) (nm:List UInt8) (v:Vl) (key:Ky) (bx):callOp CC (callL CC) 23 [trV t,leafV k n m nm v key] bx=some (.ret (.bool (smB t k n m nm v key)),bx):=by
 obtain ⟨k',n',m',nm',v',key',kids⟩:=t
 obtain ⟨vk,vn,vs⟩:=v
 obtain ⟨dv,cl,at_⟩:=key
 obtain ⟨vk',vn',vs'⟩:=v'
 obtain ⟨dv',cl',at'⟩:=key'
 have h4:strP .neq nm' nm=some (.bool (!(nm' == nm))):=rfl
 have h5:eqP CC 100 24 (.agg [.int .i64 vk',.int .i64 vn',.str vs']) (.agg [.int .i64 vk,.int .i64 vn,.str vs])=some (!(!(eqVl (vk',vn',vs') (vk,vn,vs)))):=by rw [eqVP,Bool.not_not];rfl
 have h6:eqP CC 100 26 (.agg [.int .i64 dv',.str cl',.str at']) (.agg [.int .i64 dv,.str cl,.str at_])=some (!(!(eqKy (dv',cl',at') (dv,cl,at_)))):=by rw [eqKP,Bool.not_not];rfl
 have hs:=same_R28_Same k' n' m' nm' vk' vn' vs' dv' cl' at' (trVs kids) k n m nm vk vn vs dv cl at_ _ _ _ _ _ _ _ rfl rfl rfl h4 h5 h6 rfl
 obtain ⟨b,hs⟩:=hs
 have he:smB (.mk k' n' m' nm' (vk',vn',vs') (dv',cl',at') kids) k n m nm (vk,vn,vs) (dv,cl,at_)=!((k' != k) || (n' != n) || (m' != m) || (!(nm' == nm)) || (!(eqVl (vk',vn',vs') (vk,vn,vs))) || (!(eqKy (dv',cl',at') (dv,cl,at_))) || (((trVs kids).length:Int) != ((0:Nat):Int))):=by
  unfold smB
  simp only
  have hl:(kids.length == 0)=(((trVs kids).length:Int) == ((0:Nat):Int)):=by
   rw [trVs_length,Bool.eq_iff_iff]
   simp only [beq_iff_eq]
   omega
  rw [hl]
  simp only [bne,Bool.not_or,Bool.not_not]
 rw [he]
 have hp:=trVs_pure kids
 refine callOp_of rfl ?_ (by unfold trV leafV;exact hs) rfl
 rw [pureL_cons,trV_pure]
 rfl
theorem op_R30_None (t:Tr) (bx):callOp CC (callL CC) 67 [trV t] bx=some (.ret (.bool (nnB t)),bx):=by
 have hsm:=op_R28_Same t 0 0 0 [] (0,0,[]) (0,[],[])
 unfold nnB
 generalize smB t 0 0 0 [] (0,0,[]) (0,[],[])=b at *
 have hc:∃ q,callL CC 67 [trV t] []=some (.ret (.bool b),q):=by
  rw [callL_enter (fn:=Tryz.f67) (c:=Tryz.f67.body.getD .skip) rfl rfl fat_R30_None rfl ok_R30_None (Nat.le_of_ble_eq_true rfl)]
  obtain ⟨xk,xn,xm,xnm,xv,xkey,xkids⟩:=t
  unfold trV leafV at hsm
  unfold trV
  simp only at hsm
  generalize trVs xkids=xs at *
  have hlen:True:=trivial
  obtain ⟨ev,eo,so,co,⟨hev,hco⟩,R⟩:=RULES CC;rw [<- hev]
  rw [<- hco] at hsm
  simp only [fpart,part',Tryz.f67,Option.getD]
  simp only [S8,R,SG,seval,UT,SC,hlen,eqgV,eqgK,Bool.not_not,hsm,buildTr0]
  exact ⟨_,rfl⟩
 obtain ⟨q,hq⟩:=hc
 exact callOp_of rfl (by simp only [pureL_cons,trV_pure,pureL_nil,Bool.and_self]) hq rfl
end Go.HH
namespace Go.HH
open Go Go.Proofs
set_option maxRecDepth 100000
set_option linter.unusedSimpArgs false
set_option linter.unusedVariables false
inductive At where
 | mk (s:List UInt8) (lv:Int) (kids:List At)
def At.s:At->List UInt8
 | .mk s _ _=>s
def At.lv:At->Int
 | .mk _ l _=>l
def At.ks:At->List At
 | .mk _ _ k=>k
def dAt:At:=.mk [] 8 []
def atG (l:List At) (i:Nat):At:=l[i]?.getD dAt
def kdS (a:At) (least:Int):List UInt8:=if a.lv < least then cat (cat [40] a.s) [41] else a.s
def prS (a:At) (l1:Int) (op:List UInt8) (c:At) (l2:Int):List UInt8:=cat (cat (cat (cat (kdS a l1) [32]) op) [32]) (kdS c l2)
def rowS (op:List UInt8) (least:Int):List At->Nat->List UInt8->List UInt8
 | [],_,acc=>acc
 | a :: r,i,acc=>rowS op least r (i+1) (cat (if 0 < i then cat acc (cat (cat [32] op) [32]) else acc) (kdS a least))
def kdOf:Tr->Int
 | .mk k _ _ _ _ _ _=>k
def kidsOf:Tr->List Tr
 | .mk _ _ _ _ _ _ kids=>kids
def ngS (k:Int) (a:At):List UInt8:=if k=9 then prS (atG a.ks 0) 5 [33,61] (atG a.ks 1) 5 else if k=10 then prS (atG a.ks 1) 5 [60,61] (atG a.ks 0) 5 else cat [110,111,116,32] (kdS a 3)
def ngL (k:Int):Int:=if k=9 then 4 else if k=10 then 4 else 3
def mnB:List Tr->Bool
 | a :: c :: _=>smB a 1 0 0 [] (2,0,[]) (0,[],[]) && (kdOf c != 1)
 | _=>false
def kd0:List Tr->Int
 | a :: _=>kdOf a
 | _=>0
def bdT (k n m:Int) (nm:List UInt8) (v:Vl) (key:Ky) (kids:List Tr) (l:List At):List UInt8:=
 if k=1 then prV v else if k=14 then cat (cat (cat (cat (cat [105,102,32] (kdS (atG l 0) 0)) [32,116,104,101,110,32]) (kdS (atG l 1) 0)) [32,101,108,115,101,32]) (kdS (atG l 2) 0) else
 if k=8 then rowS [111,114] 2 l 0 [] else if k=7 then rowS [97,110,100] 3 l 0 [] else if k=6 then ngS (kd0 kids) (atG l 0) else
 if k=9 then prS (atG l 0) 5 [61,61] (atG l 1) 5 else if k=10 then prS (atG l 0) 5 [60] (atG l 1) 5 else if k=11 then prS (atG l 0) 5 [43] (atG l 1) 6 else
 if k=12 then (if mnB kids then cat [45] (kdS (atG l 1) 7) else prS (atG l 0) 5 [45] (atG l 1) 6) else if k=13 then prS (atG l 0) 6 [42] (atG l 1) 7 else prmT k n m nm key
def blT (k:Int) (v:Vl) (kids:List Tr):Int:=
 if k=1 then lvV v else if k=14 then 0 else if k=8 then 1 else if k=7 then 2 else if k=6 then ngL (kd0 kids) else if k=9 then 4 else if k=10 then 4 else if k=11 then 5 else
 if k=12 then (if mnB kids then 7 else 5) else if k=13 then 6 else 8
mutual
def an:Tr->At
 | .mk k n m nm v key kids=>.mk (bdT k n m nm v key kids (ans kids)) (blT k v kids) (ans kids)
def ans:List Tr->List At
 | []=>[]
 | t :: r=>an t :: ans r
end
def TX (t:Tr):List UInt8:=(an t).s
def LV (t:Tr):Int:=(an t).lv
theorem an_eq (k n m:Int) (nm:List UInt8) (v:Vl) (key:Ky) (kids:List Tr):an (.mk k n m nm v key kids)=.mk (bdT k n m nm v key kids (ans kids)) (blT k v kids) (ans kids):=by
 conv=>lhs;unfold an
theorem an_ks (t:Tr):(an t).ks=ans (kidsOf t):=by
 obtain ⟨k,n,m,nm,v,key,kids⟩:=t
 rw [an_eq];rfl
mutual
def vT:Tr->Prop
 | .mk k n m nm v key kids=>ndT (.mk k n m nm v key kids)=0∧vTs kids
def vTs:List Tr->Prop
 | []=>True
 | t :: r=>vT t∧vTs r
end
theorem vTs_iff:∀ l:List Tr,vTs l↔∀ t ∈ l,vT t
 | []=>by unfold vTs;simp
 | t :: r=>by unfold vTs;rw [vTs_iff r];simp
mutual
theorem wk_v (t:Tr) (lv c:Int) (h:(wkT t lv c).2=0):vT t:=by
 match t with
 | .mk k n m nm v key kids=>
  unfold wkT at h
  unfold vT
  split at h
  · simp at h
  · split at h
    · simp at h
    · split at h
      · rename_i hn;exact absurd h hn
      · rename_i hn
        exact ⟨by omega,wks_v kids _ _ h⟩
theorem wks_v (l:List Tr) (lv c:Int) (h:(wkTs l lv c).2=0):vTs l:=by
 match l with
 | []=>unfold vTs;trivial
 | t :: r=>
  unfold wkTs at h
  unfold vTs
  split at h
  · rename_i hn;exact absurd h hn
  · rename_i hn
    exact ⟨wk_v t lv c (by omega),wks_v r _ _ h⟩
end
theorem ck_v {t:Tr} (h:ckT t=0):vT t:=wk_v t 1 0 h
mutual
def ndC:Tr->Nat
 | .mk _ _ _ _ _ _ kids=>1+ndCs kids
def ndCs:List Tr->Nat
 | []=>0
 | t :: r=>ndC t+ndCs r
end
mutual
theorem nd_md (t:Tr) (left levels:Int) (h:0<=mdT t left levels):(ndC t:Int)+mdT t left levels<=left:=by
 match t with
 | .mk k n m nm v key kids=>
  unfold mdT at h ⊢
  unfold ndC
  split at h
  · omega
  · rename_i hc
    rw [if_neg hc]
    have:=nds_md kids (left - 1) _ h
    omega
theorem nds_md (l:List Tr) (left levels:Int) (h:0<=mdTs l left levels):(ndCs l:Int)+mdTs l left levels<=left:=by
 match l with
 | []=>unfold mdTs ndCs;omega
 | t :: r=>
  unfold mdTs at h ⊢
  unfold ndCs
  split at h
  · omega
  · rename_i hc
    rw [if_neg hc]
    have h1:=nd_md t left levels (by omega)
    have h2:=nds_md r _ levels h
    omega
end
theorem nd_220 {t:Tr} (h:0<=mdT t 220 30):ndC t<=220:=by have:=nd_md t 220 30 h;omega
end Go.HH
namespace Go.HH
open Go Go.Proofs
set_option maxRecDepth 100000
set_option maxHeartbeats 4000000
set_option linter.unusedSimpArgs false
set_option linter.unusedVariables false
theorem ok_print_kid:fnOK CC Tryz.f69 (Tryz.f69.body.getD .skip)=true:=by kernel_rfl
theorem fat_print_kid:CC.P.funcs[69]?=some Tryz.f69:=by kernel_rfl
theorem ok_print_pair:fnOK CC Tryz.f72 (Tryz.f72.body.getD .skip)=true:=by kernel_rfl
theorem fat_print_pair:CC.P.funcs[72]?=some Tryz.f72:=by kernel_rfl
theorem ok_print_row:fnOK CC Tryz.f70 (Tryz.f70.body.getD .skip)=true:=by kernel_rfl
theorem fat_print_row:CC.P.funcs[70]?=some Tryz.f70:=by kernel_rfl
theorem ok_print_minus:fnOK CC Tryz.f73 (Tryz.f73.body.getD .skip)=true:=by kernel_rfl
theorem fat_print_minus:CC.P.funcs[73]?=some Tryz.f73:=by kernel_rfl
theorem ok_print_negated:fnOK CC Tryz.f71 (Tryz.f71.body.getD .skip)=true:=by kernel_rfl
theorem fat_print_negated:CC.P.funcs[71]?=some Tryz.f71:=by kernel_rfl
theorem ok_print_text:fnOK CC Tryz.f37 (Tryz.f37.body.getD .skip)=true:=by kernel_rfl
theorem fat_print_text:CC.P.funcs[37]?=some Tryz.f37:=by kernel_rfl
def TXc (t:Tr):Prop:=∀ bx,callOp CC (callL CC) 37 [trV t] bx=some (.ret (.tup [.str (TX t),.int .i64 (LV t)]),bx)
theorem kdS_len (a:At) (least:Int):(kdS a least).length<=a.s.length+2:=by
 unfold kdS
 split <;> (try simp only [cat_len,List.length_singleton]) <;> omega
theorem call_kid (t:Tr) (h:TXc t) (hl:(TX t).length<=200000) (least:Int):∃ bx,callL CC 69 [trV t,.int .i64 least] []=some (.ret (.str (kdS (an t) least)),bx):=by
 unfold TXc at h
 have e1:TX t=(an t).s:=rfl
 have e2:LV t=(an t).lv:=rfl
 rw [e1] at hl
 rw [e1,e2] at h
 unfold kdS
 generalize (an t).s=s at *
 generalize (an t).lv=lv at *
 have c1:=catA (a:=[40]) (b:=s) (by simp only [List.length_singleton];omega)
 have c2:=catA (a:=cat [40] s) (b:=[41]) (by simp only [cat_len,List.length_singleton];omega)
 obtain ⟨k,n,m,nm,v,key,kids⟩:=t
 unfold trV at h ⊢
 generalize trVs kids=xs at *
 rw [callL_enter (fn:=Tryz.f69) (c:=Tryz.f69.body.getD .skip) rfl rfl fat_print_kid rfl ok_print_kid (Nat.le_of_ble_eq_true rfl)]
 by_cases c:lv < least
 · rw [if_pos c]
   obtain ⟨ev,eo,so,co,⟨hev,hco⟩,R⟩:=RULES CC;rw [<- hev]
   rw [<- hco] at h
   simp only [fpart,part',Tryz.f69,Option.getD]
   simp only [S8,R,SG,seval,UT,SC,h,c1,c2,c]
   exact ⟨_,rfl⟩
 · rw [if_neg c]
   obtain ⟨ev,eo,so,co,⟨hev,hco⟩,R⟩:=RULES CC;rw [<- hev]
   rw [<- hco] at h
   simp only [fpart,part',Tryz.f69,Option.getD]
   simp only [S8,R,SG,seval,UT,SC,h,c1,c2,c]
   exact ⟨_,rfl⟩
theorem op_kid (t:Tr) (h:TXc t) (hl:(TX t).length<=200000) (least:Int) (bx):callOp CC (callL CC) 69 [trV t,.int .i64 least] bx=some (.ret (.str (kdS (an t) least)),bx):=by
 obtain ⟨c,hc⟩:=call_kid t h hl least
 exact callOp_of rfl (by simp only [pureL_cons,trV_pure,pureL_nil,pure_int,Bool.and_self]) hc rfl
theorem call_pair (t u:Tr) (h:TXc t) (h':TXc u) (hl:(TX t).length<=200000) (hl':(TX u).length<=200000) (l1 l2:Int) (op:List UInt8) (ho:op.length<=10) :
 ∃ bx,callL CC 72 [trV t,.int .i64 l1,.str op,trV u,.int .i64 l2] []=some (.ret (.str (prS (an t) l1 op (an u) l2)),bx):=by
 have o1:=op_kid t h hl l1
 have o2:=op_kid u h' hl' l2
 have k1:=kdS_len (an t) l1
 have k2:=kdS_len (an u) l2
 have e1:TX t=(an t).s:=rfl
 have e2:TX u=(an u).s:=rfl
 rw [e1] at hl
 rw [e2] at hl'
 unfold prS
 generalize kdS (an t) l1=s1 at *
 generalize kdS (an u) l2=s2 at *
 have c1:=catA (a:=s1) (b:=[32]) (by simp only [List.length_singleton];omega)
 have c2:=catA (a:=cat s1 [32]) (b:=op) (by simp only [cat_len,List.length_singleton];omega)
 have c3:=catA (a:=cat (cat s1 [32]) op) (b:=[32]) (by simp only [cat_len,List.length_singleton];omega)
 have c4:=catA (a:=cat (cat (cat s1 [32]) op) [32]) (b:=s2) (by simp only [cat_len,List.length_singleton];omega)
 have q1:=trVs_pure (kidsOf t)
 have q2:=trVs_pure (kidsOf u)
 clear e1 e2 h h' hl hl' k1 k2
 obtain ⟨k,n,m,nm,v,key,kids⟩:=t
 obtain ⟨k',n',m',nm',v',key',kids'⟩:=u
 unfold trV at o1 o2 ⊢
 unfold kidsOf at q1 q2
 simp only at q1 q2
 generalize trVs kids=xs at *
 generalize trVs kids'=ys at *
 rw [callL_enter (fn:=Tryz.f72) (c:=Tryz.f72.body.getD .skip) rfl rfl fat_print_pair rfl ok_print_pair (Nat.le_of_ble_eq_true rfl)]
 obtain ⟨ev,eo,so,co,⟨hev,hco⟩,R⟩:=RULES CC;rw [<- hev]
 rw [<- hco] at o1 o2
 simp only [fpart,part',Tryz.f72,Option.getD]
 simp only [S8,R,SG,seval,UT,SC,o1,o2,c1,c2,c3,c4,q1,q2]
 exact ⟨_,rfl⟩
theorem op_pair (t u:Tr) (h:TXc t) (h':TXc u) (hl:(TX t).length<=200000) (hl':(TX u).length<=200000) (l1 l2:Int) (op:List UInt8) (ho:op.length<=10) (bx) :
 callOp CC (callL CC) 72 [trV t,.int .i64 l1,.str op,trV u,.int .i64 l2] bx=some (.ret (.str (prS (an t) l1 op (an u) l2)),bx):=by
 obtain ⟨c,hc⟩:=call_pair t u h h' hl hl' l1 l2 op ho
 exact callOp_of rfl (by simp only [pureL_cons,trV_pure,pureL_nil,pure_int,pure_str,Bool.and_self]) hc rfl
end Go.HH
namespace Go.HH
open Go Go.Proofs
set_option maxRecDepth 100000
set_option maxHeartbeats 4000000
set_option linter.unusedSimpArgs false
set_option linter.unusedVariables false
theorem ss1 {α:Type} (a:List α) (x y:α):(a++[x]).set a.length y=a++[y]:=by simp
def PRo (bx:List PBox) (v:List UInt8) (res:Option (Ex×St)):Prop:=∃ e' ex,res=some (.exit 0,⟨e',bx++ex⟩)∧getT e' 7=.str v
theorem PRo.app {bx:List PBox} {x:PBox} {v:List UInt8} {res:Option (Ex×St)} (h:PRo (bx++[x]) v res):PRo bx v res:=by
 obtain ⟨e',ex,h⟩:=h
 refine ⟨e',[x]++ex,?_⟩
 rw [<- List.append_assoc]
 exact h
theorem loop_row (L:Code) (hL:L=fpart Tryz.f70 [1,1,0,1,0]) (l:List Tr) (hl:l.length<=1000) (op:List UInt8) (ho:op.length<=10) (least:Int) (hk:∀ t ∈ l,TXc t∧(TX t).length<=200000):∀ (k i:Nat) (acc:List UInt8) (e:List PV) (bx:List PBox),i+k=l.length->acc.length<=i * 200100 ->
 getT e 10=.sl (trVs l)->getT e 11=.int .i64 l.length->getT e 12=.int .i64 i->getT e 7=.str acc->getT e 1=.str op->getT e 2=.int .i64 least->PRo bx (rowS op least (ans (l.drop i)) i acc) (evL CC L ⟨e,bx⟩):=by
 intro k
 induction k with
 | zero=>
  intro i acc e bx hi0 hac e10 e11 e12 e7 e1 e2
  rw [evL_at (fpart Tryz.f70 [1,1,0,1,0,0]) hL]
  have hi:¬ ((i:Int) < (l.length:Int)):=by omega
  rw [List.drop_eq_nil_of_le (by omega)]
  unfold ans rowS
  generalize trVs l=xs at *
  obtain ⟨ev,eo,so,co,⟨hev,hco⟩,R⟩:=RULES CC;rw [<- hev]
  simp only [fpart,part',Tryz.f70,Option.getD]
  simp only [S9,R,seval,TRf,ss1,List.getElem?_concat_length,e10,e11,e12,e7,hi]
  exact ⟨_,[],by rw [List.append_nil],by simp only [S7,R,seval,e7]⟩
 | succ k ih=>
  intro i acc e bx hi0 hac e10 e11 e12 e7 e1 e2
  rw [evL_at (fpart Tryz.f70 [1,1,0,1,0,0]) hL]
  have hi:((i:Int) < (l.length:Int)):=by omega
  have hi0':¬ ((i:Int) < 0):=by omega
  have hdr:l.drop i=(l[i]'(by omega)) :: l.drop (i+1):=List.drop_eq_getElem_cons (by omega)
  have hx:=trVs_get (l:=l) (i:=i) (t:=l[i]'(by omega)) (List.getElem?_eq_getElem (by omega))
  have hlen:=trVs_length l
  have hw1:=wrap_i64 (n:=(i:Int)+1) ⟨by omega,by omega⟩
  obtain ⟨hc,hcl⟩:=hk (l[i]'(by omega)) (List.getElem_mem _)
  have key:=fun acc e bx h=>ih (i+1) acc e bx (by omega) h
  have cast1:((i+1:Nat):Int)=(i:Int)+1:=by omega
  rw [cast1] at key
  rw [hdr]
  unfold ans rowS
  generalize l[i]'(by omega)=x at *
  have o1:=op_kid x hc hcl least
  have kl:=kdS_len (an x) least
  have e0:TX x=(an x).s:=rfl
  rw [e0] at hcl
  clear hc e0
  generalize kdS (an x) least=ks at *
  have c1:=catA (a:=[32]) (b:=op) (by simp only [List.length_singleton];omega)
  have c2:=catA (a:=cat [32] op) (b:=[32]) (by simp only [cat_len,List.length_singleton];omega)
  have c3:=catA (a:=acc) (b:=cat (cat [32] op) [32]) (by simp only [cat_len,List.length_singleton];omega)
  generalize ans (l.drop (i+1))=rest at *
  obtain ⟨xk,xn,xm,xnm,xv,xkey,xkids⟩:=x
  unfold trV at hx o1
  generalize trVs l=xs at *
  generalize trVs xkids=ys at *
  clear hk ih hdr
  by_cases z:0 < i
  · have z1:((i:Int) > 0):=by omega
    rw [if_pos z]
    have c4:=catA (a:=cat acc (cat (cat [32] op) [32])) (b:=ks) (by simp only [cat_len,List.length_singleton];omega)
    have key:=fun e bx=>key (cat (cat acc (cat (cat [32] op) [32])) ks) e bx (by simp only [cat_len,List.length_singleton];omega)
    generalize rowS op least rest (i+1) (cat (cat acc (cat (cat [32] op) [32])) ks)=res at *
    apply PRo.app
    obtain ⟨ev,eo,so,co,⟨hev,hco⟩,R⟩:=RULES CC;rw [<- hev]
    rw [<- hev] at key
    rw [<- hco] at o1
    simp only [fpart,part',Tryz.f70,Option.getD]
    simp only [S9,R,seval,TRf,ss1,List.getElem?_concat_length,e10,e11,e12,e7,e1,e2,hi,hi0',hx,hlen,hw1,o1,c1,c2,c3,c4,z1]
    refine key _ _ ?_ ?_ ?_ ?_ ?_ ?_
    all_goals simp only [S7,R,seval,e10,e11,e12,e7,e1,e2]
  · have z1:¬ ((i:Int) > 0):=by omega
    rw [if_neg z]
    have c4:=catA (a:=acc) (b:=ks) (by omega)
    have key:=fun e bx=>key (cat acc ks) e bx (by simp only [cat_len];omega)
    generalize rowS op least rest (i+1) (cat acc ks)=res at *
    apply PRo.app
    obtain ⟨ev,eo,so,co,⟨hev,hco⟩,R⟩:=RULES CC;rw [<- hev]
    rw [<- hev] at key
    rw [<- hco] at o1
    simp only [fpart,part',Tryz.f70,Option.getD]
    simp only [S9,R,seval,TRf,ss1,List.getElem?_concat_length,e10,e11,e12,e7,e1,e2,hi,hi0',hx,hlen,hw1,o1,c4,z1]
    refine key _ _ ?_ ?_ ?_ ?_ ?_ ?_
    all_goals simp only [S7,R,seval,e10,e11,e12,e7,e1,e2]
theorem call_row (l:List Tr) (hl:l.length<=1000) (op:List UInt8) (ho:op.length<=10) (least:Int) (hk:∀ t ∈ l,TXc t∧(TX t).length<=200000):∃ bx,callL CC 70 [.sl (trVs l),.str op,.int .i64 least] []=some (.ret (.str (rowS op least (ans l) 0 [])),bx):=by
 have hloop:=fun e bx=>loop_row _ rfl l hl op ho least hk l.length 0 [] e bx (by omega) (by simp)
 have hlen:=trVs_length l
 rw [List.drop_zero] at hloop
 generalize rowS op least (ans l) 0 []=v at *
 clear hk
 rw [callL_enter (fn:=Tryz.f70) (c:=Tryz.f70.body.getD .skip) rfl rfl fat_print_row rfl ok_print_row (Nat.le_of_ble_eq_true rfl)]
 generalize trVs l=xs at *
 obtain ⟨ev,eo,so,co,⟨hev,hco⟩,R⟩:=RULES CC;rw [<- hev]
 rw [<- hev] at hloop
 simp only [fpart,part',Tryz.f70,Option.getD] at hloop ⊢
 simp only [S9,R,seval,TRf,ss1,List.getElem?_concat_length,hlen]
 generalize hE:ev (Code.loop _) _=z
 have hP:PRo [] v z:=by
  rw [<- hE]
  refine hloop _ _ ?_ ?_ ?_ ?_ ?_ ?_
  all_goals first | (simp only [S7,R,seval];done) | (simp only [S7,R,seval] <;> rfl)
 obtain ⟨e',ex,he,q⟩:=hP
 subst he
 simp only [S9,R,seval,TRf,ss1,List.getElem?_concat_length,hlen,q]
 exact ⟨_,rfl⟩
theorem op_row (l:List Tr) (hl:l.length<=1000) (op:List UInt8) (ho:op.length<=10) (least:Int) (hk:∀ t ∈ l,TXc t∧(TX t).length<=200000) (bx):callOp CC (callL CC) 70 [.sl (trVs l),.str op,.int .i64 least] bx=some (.ret (.str (rowS op least (ans l) 0 [])),bx):=by
 obtain ⟨c,hc⟩:=call_row l hl op ho least hk
 exact callOp_of rfl (by simp only [pureL_cons,PV.pure,trVs_pure,pureL_nil,Bool.and_self]) hc rfl
theorem bldV2:buildP CC 24 [(0,.int .i64 2)]=some (.agg [.int .i64 2,.int .i64 0,.str []]):=by kernel_rfl
theorem bldE1:buildP CC 29 [(0,.int .i64 1),(4,.agg [.int .i64 2,.int .i64 0,.str []])]=some (.agg [.int .i64 1,.int .i64 0,.int .i64 0,.str [],.int .i64 2,.int .i64 0,.str [],.int .i64 0,.str [],.str [],.nils]):=by kernel_rfl
theorem call_minus (k n m:Int) (nm:List UInt8) (v:Vl) (key:Ky) (a c:Tr):∃ bx,callL CC 73 [trV (.mk k n m nm v key [a,c])] []=some (.ret (.bool (mnB [a,c])),bx):=by
 have o1:=op_expr_Same a 1 0 0 [] (2,0,[]) (0,[],[])
 have hm:mnB [a,c]=(smB a 1 0 0 [] (2,0,[]) (0,[],[]) && (kdOf c != 1)):=rfl
 rw [hm]
 clear hm
 generalize smB a 1 0 0 [] (2,0,[]) (0,[],[])=q at *
 unfold leafV at o1
 obtain ⟨ak,an',am,anm,av,akey,akids⟩:=a
 obtain ⟨ck,cn,cm,cnm,cv,ckey,ckids⟩:=c
 simp only [kdOf,trV,trVs] at o1 ⊢
 generalize trVs akids=xs at *
 generalize trVs ckids=ys at *
 have hnb:∀ b:Bool,(true && b)=b:=fun b=>rfl
 rw [callL_enter (fn:=Tryz.f73) (c:=Tryz.f73.body.getD .skip) rfl rfl fat_print_minus rfl ok_print_minus (Nat.le_of_ble_eq_true rfl)]
 cases q with
 | true=>
  rw [Bool.true_and]
  obtain ⟨ev,eo,so,co,⟨hev,hco⟩,R⟩:=RULES CC;rw [<- hev]
  rw [<- hco] at o1
  simp only [fpart,part',Tryz.f73,Option.getD]
  simp only [S9,R,seval,TRf,ss1,List.getElem?_concat_length,o1,bldV2,bldE1]
  exact ⟨_,rfl⟩
 | false=>
  rw [Bool.false_and]
  obtain ⟨ev,eo,so,co,⟨hev,hco⟩,R⟩:=RULES CC;rw [<- hev]
  rw [<- hco] at o1
  simp only [fpart,part',Tryz.f73,Option.getD]
  simp only [S9,R,seval,TRf,ss1,List.getElem?_concat_length,o1,bldV2,bldE1]
  exact ⟨_,rfl⟩
theorem op_minus (k n m:Int) (nm:List UInt8) (v:Vl) (key:Ky) (a c:Tr) (bx):callOp CC (callL CC) 73 [trV (.mk k n m nm v key [a,c])] bx=some (.ret (.bool (mnB [a,c])),bx):=by
 obtain ⟨b,hc⟩:=call_minus k n m nm v key a c
 exact callOp_of rfl (by simp only [pureL_cons,trV_pure,pureL_nil,Bool.and_self]) hc rfl
end Go.HH
