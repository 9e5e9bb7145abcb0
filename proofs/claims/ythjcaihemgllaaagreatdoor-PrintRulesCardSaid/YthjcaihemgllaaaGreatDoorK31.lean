/-
  What the law needs, packed: Q1.
-/
import Derived.Test.YthjcaihemgllaaaGreatDoorK30
namespace Go.HH
open Go Go.Proofs
set_option maxRecDepth 100000
set_option linter.unusedSimpArgs false
set_option linter.unusedVariables false
theorem ix_str (s:List UInt8) (i:Nat) (b:UInt8) (h:s[i]?=some b):indexV CC 9 (.str s) (.int .i64 (i:Int))=some (.int .u8 (b.toNat:Int)):=by
 unfold indexV
 simp only [TG,Int.toNat_natCast,h]
 rw [if_neg (by omega)]
theorem len_str (s:List UInt8):lenP CC 9 (.str s)=some (.int .i64 s.length):=by
 unfold lenP
 simp only [TG]
theorem sl_str (s:List UInt8) (a b:Int) (h0:0<=a) (h1:a<=b) (h2:b<=s.length):sliceP CC 9 (.str s) (some (.int .i64 a)) (some (.int .i64 b))=some (.str ((s.take b.toNat).drop a.toNat)):=by
 unfold sliceP
 simp only [TG,boundO,boundP]
 rw [if_pos ⟨by omega,h2⟩]
 simp only
 rw [if_pos ⟨h0,by omega⟩]
theorem sl_str_hi (s:List UInt8) (b:Int) (h0:0<=b) (h2:b<=s.length):sliceP CC 9 (.str s) none (some (.int .i64 b))=some (.str (s.take b.toNat)):=by
 unfold sliceP
 simp only [TG,boundO,boundP]
 rw [if_pos ⟨h0,h2⟩]
 simp only [List.drop_zero]
theorem sl_str_lo (s:List UInt8) (a:Int) (h0:0<=a) (h2:a<=s.length):sliceP CC 9 (.str s) (some (.int .i64 a)) none=some (.str (s.drop a.toNat)):=by
 unfold sliceP
 simp only [TG,boundO,boundP]
 rw [if_pos ⟨h0,h2⟩]
 simp only [List.take_length]
theorem strP_neq (a b:List UInt8):strP .neq a b=some (.bool (!(a == b))):=rfl
theorem strP_eql (a b:List UInt8):strP .eql a b=some (.bool (a == b)):=rfl
abbrev Vl:=Int×Int×List UInt8
def vlV (v:Vl):PV:=.agg [.int .i64 v.1,.int .i64 v.2.1,.str v.2.2]
def okVl (v:Vl):Prop:=inI v.1∧inI v.2.1∧v.2.2.length<=maxLen
theorem hasV_val {p:PV} (h:HasV Tryz.prog 24 p):∃ v:Vl,p=vlV v∧okVl v:=by
 have ht:Tryz.prog.underlying 24=some (.struct ((match Tryz.prog.underlying 24 with | some (.struct f)=>f | _=>#[]))):=by kernel_rfl
 have hl:((match Tryz.prog.underlying 24 with | some (.struct f)=>f | _=>#[]):Array Field).toList.map (fun f=>(f.type,f.offset))=[(3,0),(3,1),(9,2)]:=by kernel_rfl
 have c0:Tryz.prog.cellsOf 24=3:=by kernel_rfl
 have c1:Tryz.prog.cellsOf 3=1:=by kernel_rfl
 have c2:Tryz.prog.cellsOf 9=1:=by kernel_rfl
 obtain ⟨n,cs,rfl,hlen,hf⟩:=hasV_struct ht hl h
 rw [c0] at hlen
 match cs,hlen with
 | [a,b,c],_=>
  have f0:=hf (3,0) (by simp)
  have f1:=hf (3,1) (by simp)
  have f2:=hf (9,2) (by simp)
  simp only [c1,c2] at f0 f1 f2
  obtain ⟨k,e0,h0⟩:=hasT_i64 (P:=Tryz.prog) Tryz.underlying3 f0
  obtain ⟨m,e1,h1⟩:=hasT_i64 (P:=Tryz.prog) Tryz.underlying3 f1
  obtain ⟨s,e2,h2⟩:=hasT_str (P:=Tryz.prog) Tryz.underlying9 f2
  injection e0 with e0
  injection e1 with e1
  injection e2 with e2
  subst e0 e1 e2
  exact ⟨(k,m,s),rfl,h0,h1,h2⟩
theorem VLs:∃ f,CC.P.underlying 24=some (.struct f):=⟨(match Tryz.prog.underlying 24 with | some (.struct f)=>f | _=>#[]),by kernel_rfl⟩
def and2 (x:Bool) (y:Option Bool):Option Bool:=match some x with
 | some true=>y
 | o=>o
def eqVl (v w:Vl):Bool:=(v.1 == w.1) && (v.2.1 == w.2.1) && (v.2.2 == w.2.2)
theorem eqVP (a a' b b':Int) (c c':List UInt8):eqP CC 100 24 (.agg [.int .i64 a,.int .i64 b,.str c]) (.agg [.int .i64 a',.int .i64 b',.str c'])=some ((a == a') && (b == b') && (c == c')):=by
 have h:eqP CC 100 24 (.agg [.int .i64 a,.int .i64 b,.str c]) (.agg [.int .i64 a',.int .i64 b',.str c'])=and2 (a == a') (and2 (b == b') (and2 (c == c') (some true))):=by kernel_rfl
 rw [h]
 cases a == a' <;> cases b == b' <;> cases c == c' <;> rfl
theorem eqgV:CC.P.eqGuardType CC.P.depth 24=false:=by kernel_rfl
theorem ok_value_inRange:fnOK CC Tryz.f149 (Tryz.f149.body.getD .skip)=true:=by kernel_rfl
theorem fat_value_inRange:CC.P.funcs[149]?=some Tryz.f149:=by kernel_rfl
theorem ok_value_Check:fnOK CC Tryz.f118 (Tryz.f118.body.getD .skip)=true:=by kernel_rfl
theorem fat_value_Check:CC.P.funcs[118]?=some Tryz.f118:=by kernel_rfl
theorem ok_R20_Check:fnOK CC Tryz.f152 (Tryz.f152.body.getD .skip)=true:=by kernel_rfl
theorem fat_R20_Check:CC.P.funcs[152]?=some Tryz.f152:=by kernel_rfl
def inR (n:Int):Bool:=decide (-1099511627776<=n∧n<=1099511627776)
theorem call_value_inRange (n:Int):callL CC 149 [.int .i64 n] []=some (.ret (.bool (inR n)),[]):=by
 rw [callL_enter (fn:=Tryz.f149) (c:=Tryz.f149.body.getD .skip) rfl rfl fat_value_inRange rfl ok_value_inRange (Nat.le_of_ble_eq_true rfl)]
 unfold inR
 by_cases c1:n ≥ -1099511627776
 · by_cases c2:n<=1099511627776
   · rw [decide_eq_true (show -1099511627776<=n∧n<=1099511627776 from ⟨c1,c2⟩)]
     obtain ⟨ev,eo,so,co,⟨hev,hco⟩,R⟩:=RULES CC;rw [<- hev]
     simp only [fpart,part',Tryz.f149,Option.getD]
     simp only [S8,R,seval,c1,c2]
   · rw [decide_eq_false (show ¬ (-1099511627776<=n∧n<=1099511627776) from fun h=>c2 h.2)]
     obtain ⟨ev,eo,so,co,⟨hev,hco⟩,R⟩:=RULES CC;rw [<- hev]
     simp only [fpart,part',Tryz.f149,Option.getD]
     simp only [S8,R,seval,c1,c2]
 · rw [decide_eq_false (show ¬ (-1099511627776<=n∧n<=1099511627776) from fun h=>c1 h.1)]
   obtain ⟨ev,eo,so,co,⟨hev,hco⟩,R⟩:=RULES CC;rw [<- hev]
   simp only [fpart,part',Tryz.f149,Option.getD]
   simp only [S8,R,seval,c1]
theorem op_value_inRange (n:Int) (bx):callOp CC (callL CC) 149 [.int .i64 n] bx=some (.ret (.bool (inR n)),bx):=callOp_of rfl (by simp only [SA,Bool.and_true]) (call_value_inRange n) rfl
def okN (k n:Int):Option Bool:=if k=0∨k=4 then some (n == 0) else if k=1 then some (n == 0 || n == 1) else if k=2 then some (inR n) else if k=3 then some (decide (0<=n) && decide (n<=63)) else none
def ckV (v:Vl):Int:=match okN v.1 v.2.1 with
 | none=>7
 | some false=>2
 | some true=>if 60 < v.2.2.length then 3 else if v.2.2≠[]∧v.1≠4 then 4 else 0
theorem ck_v_0 (n:Int) (s:List UInt8):∃ bx,callL CC 118 [vlV (0,n,s)] []=some (.ret (.int .i64 (ckV (0,n,s))),bx):=by
 rw [callL_enter (fn:=Tryz.f118) (c:=Tryz.f118.body.getD .skip) rfl rfl fat_value_Check rfl ok_value_Check (Nat.le_of_ble_eq_true rfl)]
 have hlen:=len_str s
 unfold ckV vlV
 simp only
 by_cases c1:n=0
 · subst c1
   have ok:okN 0 0=some true:=rfl
   rw [ok]
   by_cases d1:60 < s.length
   · have d1p:(s.length:Int) > 60:=by omega
     simp only [if_pos d1]
     obtain ⟨ev,eo,so,co,⟨hev,hco⟩,R⟩:=RULES CC;rw [<- hev]
     skip
     simp only [fpart,part',Tryz.f118,Option.getD]
     simp only [S8,R,SG,seval,UT,SC,hlen,d1p]
     exact ⟨_,rfl⟩
   · have d1p:¬ (s.length:Int) > 60:=by omega
     simp only [if_neg d1]
     have hsq:=strP_neq s []
     by_cases d2:s=[]
     · rw [if_neg (fun h=>h.1 d2)]
       rw [show (!(s == []))=false by rw [d2];rfl] at hsq
       obtain ⟨ev,eo,so,co,⟨hev,hco⟩,R⟩:=RULES CC;rw [<- hev]
       skip
       simp only [fpart,part',Tryz.f118,Option.getD]
       simp only [S8,R,SG,seval,UT,SC,hlen,d1p,hsq]
       exact ⟨_,rfl⟩
     · rw [if_pos ⟨d2,by omega⟩]
       rw [show (!(s == []))=true by simpa using d2] at hsq
       obtain ⟨ev,eo,so,co,⟨hev,hco⟩,R⟩:=RULES CC;rw [<- hev]
       skip
       simp only [fpart,part',Tryz.f118,Option.getD]
       simp only [S8,R,SG,seval,UT,SC,hlen,d1p,hsq]
       exact ⟨_,rfl⟩
 · have c1p:(n == 0)=false:=by simpa using c1
   have ok:okN 0 n=some false:=by unfold okN;simpa using c1
   rw [ok]
   dsimp only
   obtain ⟨ev,eo,so,co,⟨hev,hco⟩,R⟩:=RULES CC;rw [<- hev]
   skip
   simp only [fpart,part',Tryz.f118,Option.getD]
   simp only [S8,R,SG,seval,UT,SC,hlen,c1p]
   exact ⟨_,rfl⟩
theorem ck_v_4 (n:Int) (s:List UInt8):∃ bx,callL CC 118 [vlV (4,n,s)] []=some (.ret (.int .i64 (ckV (4,n,s))),bx):=by
 rw [callL_enter (fn:=Tryz.f118) (c:=Tryz.f118.body.getD .skip) rfl rfl fat_value_Check rfl ok_value_Check (Nat.le_of_ble_eq_true rfl)]
 have hlen:=len_str s
 unfold ckV vlV
 simp only
 by_cases c1:n=0
 · subst c1
   have ok:okN 4 0=some true:=rfl
   rw [ok]
   by_cases d1:60 < s.length
   · have d1p:(s.length:Int) > 60:=by omega
     simp only [if_pos d1]
     obtain ⟨ev,eo,so,co,⟨hev,hco⟩,R⟩:=RULES CC;rw [<- hev]
     skip
     simp only [fpart,part',Tryz.f118,Option.getD]
     simp only [S8,R,SG,seval,UT,SC,hlen,d1p]
     exact ⟨_,rfl⟩
   · have d1p:¬ (s.length:Int) > 60:=by omega
     simp only [if_neg d1]
     simp only [ne_eq,not_true_eq_false,and_false,if_false]
     have hsq:=strP_neq s []
     generalize (!(s == []))=sb at *
     cases sb
     · skip
       obtain ⟨ev,eo,so,co,⟨hev,hco⟩,R⟩:=RULES CC;rw [<- hev]
       skip
       simp only [fpart,part',Tryz.f118,Option.getD]
       simp only [S8,R,SG,seval,UT,SC,hlen,d1p,hsq]
       exact ⟨_,rfl⟩
     · skip
       obtain ⟨ev,eo,so,co,⟨hev,hco⟩,R⟩:=RULES CC;rw [<- hev]
       skip
       simp only [fpart,part',Tryz.f118,Option.getD]
       simp only [S8,R,SG,seval,UT,SC,hlen,d1p,hsq]
       exact ⟨_,rfl⟩
 · have c1p:(n == 0)=false:=by simpa using c1
   have ok:okN 4 n=some false:=by unfold okN;simpa using c1
   rw [ok]
   dsimp only
   obtain ⟨ev,eo,so,co,⟨hev,hco⟩,R⟩:=RULES CC;rw [<- hev]
   skip
   simp only [fpart,part',Tryz.f118,Option.getD]
   simp only [S8,R,SG,seval,UT,SC,hlen,c1p]
   exact ⟨_,rfl⟩
theorem ck_v_1 (n:Int) (s:List UInt8):∃ bx,callL CC 118 [vlV (1,n,s)] []=some (.ret (.int .i64 (ckV (1,n,s))),bx):=by
 rw [callL_enter (fn:=Tryz.f118) (c:=Tryz.f118.body.getD .skip) rfl rfl fat_value_Check rfl ok_value_Check (Nat.le_of_ble_eq_true rfl)]
 have hlen:=len_str s
 unfold ckV vlV
 simp only
 by_cases c1:n=0
 · subst c1
   have ok:okN 1 0=some true:=rfl
   rw [ok]
   by_cases d1:60 < s.length
   · have d1p:(s.length:Int) > 60:=by omega
     simp only [if_pos d1]
     obtain ⟨ev,eo,so,co,⟨hev,hco⟩,R⟩:=RULES CC;rw [<- hev]
     skip
     simp only [fpart,part',Tryz.f118,Option.getD]
     simp only [S8,R,SG,seval,UT,SC,hlen,d1p]
     exact ⟨_,rfl⟩
   · have d1p:¬ (s.length:Int) > 60:=by omega
     simp only [if_neg d1]
     have hsq:=strP_neq s []
     by_cases d2:s=[]
     · rw [if_neg (fun h=>h.1 d2)]
       rw [show (!(s == []))=false by rw [d2];rfl] at hsq
       obtain ⟨ev,eo,so,co,⟨hev,hco⟩,R⟩:=RULES CC;rw [<- hev]
       skip
       simp only [fpart,part',Tryz.f118,Option.getD]
       simp only [S8,R,SG,seval,UT,SC,hlen,d1p,hsq]
       exact ⟨_,rfl⟩
     · rw [if_pos ⟨d2,by omega⟩]
       rw [show (!(s == []))=true by simpa using d2] at hsq
       obtain ⟨ev,eo,so,co,⟨hev,hco⟩,R⟩:=RULES CC;rw [<- hev]
       skip
       simp only [fpart,part',Tryz.f118,Option.getD]
       simp only [S8,R,SG,seval,UT,SC,hlen,d1p,hsq]
       exact ⟨_,rfl⟩
 · have c1p:(n == 0)=false:=by simpa using c1
   by_cases c2:n=1
   · subst c2
     have ok:okN 1 1=some true:=rfl
     rw [ok]
     by_cases d1:60 < s.length
     · have d1p:(s.length:Int) > 60:=by omega
       simp only [if_pos d1]
       obtain ⟨ev,eo,so,co,⟨hev,hco⟩,R⟩:=RULES CC;rw [<- hev]
       skip
       simp only [fpart,part',Tryz.f118,Option.getD]
       simp only [S8,R,SG,seval,UT,SC,hlen,d1p]
       exact ⟨_,rfl⟩
     · have d1p:¬ (s.length:Int) > 60:=by omega
       simp only [if_neg d1]
       have hsq:=strP_neq s []
       by_cases d2:s=[]
       · rw [if_neg (fun h=>h.1 d2)]
         rw [show (!(s == []))=false by rw [d2];rfl] at hsq
         obtain ⟨ev,eo,so,co,⟨hev,hco⟩,R⟩:=RULES CC;rw [<- hev]
         skip
         simp only [fpart,part',Tryz.f118,Option.getD]
         simp only [S8,R,SG,seval,UT,SC,hlen,d1p,hsq]
         exact ⟨_,rfl⟩
       · rw [if_pos ⟨d2,by omega⟩]
         rw [show (!(s == []))=true by simpa using d2] at hsq
         obtain ⟨ev,eo,so,co,⟨hev,hco⟩,R⟩:=RULES CC;rw [<- hev]
         skip
         simp only [fpart,part',Tryz.f118,Option.getD]
         simp only [S8,R,SG,seval,UT,SC,hlen,d1p,hsq]
         exact ⟨_,rfl⟩
   · have c2p:(n == 1)=false:=by simpa using c2
     have ok:okN 1 n=some false:=by unfold okN;simp [c1,c2]
     rw [ok]
     dsimp only
     obtain ⟨ev,eo,so,co,⟨hev,hco⟩,R⟩:=RULES CC;rw [<- hev]
     skip
     simp only [fpart,part',Tryz.f118,Option.getD]
     simp only [S8,R,SG,seval,UT,SC,hlen,c1p,c2p]
     exact ⟨_,rfl⟩
theorem ck_v_2 (n:Int) (s:List UInt8):∃ bx,callL CC 118 [vlV (2,n,s)] []=some (.ret (.int .i64 (ckV (2,n,s))),bx):=by
 rw [callL_enter (fn:=Tryz.f118) (c:=Tryz.f118.body.getD .skip) rfl rfl fat_value_Check rfl ok_value_Check (Nat.le_of_ble_eq_true rfl)]
 have hlen:=len_str s
 unfold ckV vlV
 simp only
 have hin:=op_value_inRange n
 have ok:okN 2 n=some (inR n):=rfl
 generalize inR n=b at *
 cases b
 · skip
   rw [ok]
   dsimp only
   obtain ⟨ev,eo,so,co,⟨hev,hco⟩,R⟩:=RULES CC;rw [<- hev]
   rw [<- hco] at hin
   simp only [fpart,part',Tryz.f118,Option.getD]
   simp only [S8,R,SG,seval,UT,SC,hlen,hin]
   exact ⟨_,rfl⟩
 · skip
   rw [ok]
   by_cases d1:60 < s.length
   · have d1p:(s.length:Int) > 60:=by omega
     simp only [if_pos d1]
     obtain ⟨ev,eo,so,co,⟨hev,hco⟩,R⟩:=RULES CC;rw [<- hev]
     rw [<- hco] at hin
     simp only [fpart,part',Tryz.f118,Option.getD]
     simp only [S8,R,SG,seval,UT,SC,hlen,hin,d1p]
     exact ⟨_,rfl⟩
   · have d1p:¬ (s.length:Int) > 60:=by omega
     simp only [if_neg d1]
     have hsq:=strP_neq s []
     by_cases d2:s=[]
     · rw [if_neg (fun h=>h.1 d2)]
       rw [show (!(s == []))=false by rw [d2];rfl] at hsq
       obtain ⟨ev,eo,so,co,⟨hev,hco⟩,R⟩:=RULES CC;rw [<- hev]
       rw [<- hco] at hin
       simp only [fpart,part',Tryz.f118,Option.getD]
       simp only [S8,R,SG,seval,UT,SC,hlen,hin,d1p,hsq]
       exact ⟨_,rfl⟩
     · rw [if_pos ⟨d2,by omega⟩]
       rw [show (!(s == []))=true by simpa using d2] at hsq
       obtain ⟨ev,eo,so,co,⟨hev,hco⟩,R⟩:=RULES CC;rw [<- hev]
       rw [<- hco] at hin
       simp only [fpart,part',Tryz.f118,Option.getD]
       simp only [S8,R,SG,seval,UT,SC,hlen,hin,d1p,hsq]
       exact ⟨_,rfl⟩
theorem ck_v_3 (n:Int) (s:List UInt8):∃ bx,callL CC 118 [vlV (3,n,s)] []=some (.ret (.int .i64 (ckV (3,n,s))),bx):=by
 rw [callL_enter (fn:=Tryz.f118) (c:=Tryz.f118.body.getD .skip) rfl rfl fat_value_Check rfl ok_value_Check (Nat.le_of_ble_eq_true rfl)]
 have hlen:=len_str s
 unfold ckV vlV
 simp only
 by_cases c1:n ≥ 0
 · by_cases c2:n<=63
   · have ok:okN 3 n=some true:=by unfold okN;simp;omega
     rw [ok]
     by_cases d1:60 < s.length
     · have d1p:(s.length:Int) > 60:=by omega
       simp only [if_pos d1]
       obtain ⟨ev,eo,so,co,⟨hev,hco⟩,R⟩:=RULES CC;rw [<- hev]
       skip
       simp only [fpart,part',Tryz.f118,Option.getD]
       simp only [S8,R,SG,seval,UT,SC,hlen,c1,c2,d1p]
       exact ⟨_,rfl⟩
     · have d1p:¬ (s.length:Int) > 60:=by omega
       simp only [if_neg d1]
       have hsq:=strP_neq s []
       by_cases d2:s=[]
       · rw [if_neg (fun h=>h.1 d2)]
         rw [show (!(s == []))=false by rw [d2];rfl] at hsq
         obtain ⟨ev,eo,so,co,⟨hev,hco⟩,R⟩:=RULES CC;rw [<- hev]
         skip
         simp only [fpart,part',Tryz.f118,Option.getD]
         simp only [S8,R,SG,seval,UT,SC,hlen,c1,c2,d1p,hsq]
         exact ⟨_,rfl⟩
       · rw [if_pos ⟨d2,by omega⟩]
         rw [show (!(s == []))=true by simpa using d2] at hsq
         obtain ⟨ev,eo,so,co,⟨hev,hco⟩,R⟩:=RULES CC;rw [<- hev]
         skip
         simp only [fpart,part',Tryz.f118,Option.getD]
         simp only [S8,R,SG,seval,UT,SC,hlen,c1,c2,d1p,hsq]
         exact ⟨_,rfl⟩
   · have ok:okN 3 n=some false:=by unfold okN;simp;omega
     rw [ok]
     dsimp only
     obtain ⟨ev,eo,so,co,⟨hev,hco⟩,R⟩:=RULES CC;rw [<- hev]
     skip
     simp only [fpart,part',Tryz.f118,Option.getD]
     simp only [S8,R,SG,seval,UT,SC,hlen,c1,c2]
     exact ⟨_,rfl⟩
 · have ok:okN 3 n=some false:=by unfold okN;simp;omega
   rw [ok]
   dsimp only
   obtain ⟨ev,eo,so,co,⟨hev,hco⟩,R⟩:=RULES CC;rw [<- hev]
   skip
   simp only [fpart,part',Tryz.f118,Option.getD]
   simp only [S8,R,SG,seval,UT,SC,hlen,c1]
   exact ⟨_,rfl⟩
theorem ck_v_o (k n:Int) (s:List UInt8) (h:k≠0∧k≠4∧k≠1∧k≠2∧k≠3):∃ bx,callL CC 118 [vlV (k,n,s)] []=some (.ret (.int .i64 (ckV (k,n,s))),bx):=by
 rw [callL_enter (fn:=Tryz.f118) (c:=Tryz.f118.body.getD .skip) rfl rfl fat_value_Check rfl ok_value_Check (Nat.le_of_ble_eq_true rfl)]
 obtain ⟨k0,k4,k1,k2,k3⟩:=h
 have ok:okN k n=none:=by unfold okN;rw [if_neg (by omega),if_neg k1,if_neg k2,if_neg k3]
 have e0:(k == 0)=false:=by simpa using k0
 have e4:(k == 4)=false:=by simpa using k4
 have e1:(k == 1)=false:=by simpa using k1
 have e2:(k == 2)=false:=by simpa using k2
 have e3:(k == 3)=false:=by simpa using k3
 have hlen:=len_str s
 unfold ckV vlV
 simp only
 rw [ok]
 dsimp only
 obtain ⟨ev,eo,so,co,⟨hev,hco⟩,R⟩:=RULES CC;rw [<- hev]
 skip
 simp only [fpart,part',Tryz.f118,Option.getD]
 simp only [S8,R,SG,seval,UT,SC,hlen,e0,e4,e1,e2,e3]
 exact ⟨_,rfl⟩
theorem ck_r_0 (n:Int) (s:List UInt8):∃ bx,callL CC 152 [vlV (0,n,s)] []=some (.ret (.int .i64 (ckV (0,n,s))),bx):=by
 rw [callL_enter (fn:=Tryz.f152) (c:=Tryz.f152.body.getD .skip) rfl rfl fat_R20_Check rfl ok_R20_Check (Nat.le_of_ble_eq_true rfl)]
 have hlen:=len_str s
 unfold ckV vlV
 simp only
 by_cases c1:n < 0
 · have ok:okN 0 n=some false:=by unfold okN;simp [inR];omega
   rw [ok]
   dsimp only
   obtain ⟨ev,eo,so,co,⟨hev,hco⟩,R⟩:=RULES CC;rw [<- hev]
   skip
   simp only [fpart,part',Tryz.f152,Option.getD]
   simp only [S8,R,SG,seval,UT,SC,hlen,c1]
   exact ⟨_,rfl⟩
 · by_cases c2:n > 0
   · have ok:okN 0 n=some false:=by unfold okN;simp [inR];omega
     rw [ok]
     dsimp only
     obtain ⟨ev,eo,so,co,⟨hev,hco⟩,R⟩:=RULES CC;rw [<- hev]
     skip
     simp only [fpart,part',Tryz.f152,Option.getD]
     simp only [S8,R,SG,seval,UT,SC,hlen,c1,c2]
     exact ⟨_,rfl⟩
   · have ok:okN 0 n=some true:=by unfold okN;simp [inR];omega
     rw [ok]
     by_cases d1:60 < s.length
     · have d1p:(s.length:Int) > 60:=by omega
       simp only [if_pos d1]
       obtain ⟨ev,eo,so,co,⟨hev,hco⟩,R⟩:=RULES CC;rw [<- hev]
       skip
       simp only [fpart,part',Tryz.f152,Option.getD]
       simp only [S8,R,SG,seval,UT,SC,hlen,c1,c2,d1p]
       exact ⟨_,rfl⟩
     · have d1p:¬ (s.length:Int) > 60:=by omega
       simp only [if_neg d1]
       have hsq:=strP_neq s []
       by_cases d2:s=[]
       · rw [if_neg (fun h=>h.1 d2)]
         rw [show (!(s == []))=false by rw [d2];rfl] at hsq
         obtain ⟨ev,eo,so,co,⟨hev,hco⟩,R⟩:=RULES CC;rw [<- hev]
         skip
         simp only [fpart,part',Tryz.f152,Option.getD]
         simp only [S8,R,SG,seval,UT,SC,hlen,c1,c2,d1p,hsq]
         exact ⟨_,rfl⟩
       · rw [if_pos ⟨d2,by omega⟩]
         rw [show (!(s == []))=true by simpa using d2] at hsq
         obtain ⟨ev,eo,so,co,⟨hev,hco⟩,R⟩:=RULES CC;rw [<- hev]
         skip
         simp only [fpart,part',Tryz.f152,Option.getD]
         simp only [S8,R,SG,seval,UT,SC,hlen,c1,c2,d1p,hsq]
         exact ⟨_,rfl⟩
theorem ck_r_4 (n:Int) (s:List UInt8):∃ bx,callL CC 152 [vlV (4,n,s)] []=some (.ret (.int .i64 (ckV (4,n,s))),bx):=by
 rw [callL_enter (fn:=Tryz.f152) (c:=Tryz.f152.body.getD .skip) rfl rfl fat_R20_Check rfl ok_R20_Check (Nat.le_of_ble_eq_true rfl)]
 have hlen:=len_str s
 unfold ckV vlV
 simp only
 by_cases c1:n < 0
 · have ok:okN 4 n=some false:=by unfold okN;simp [inR];omega
   rw [ok]
   dsimp only
   obtain ⟨ev,eo,so,co,⟨hev,hco⟩,R⟩:=RULES CC;rw [<- hev]
   skip
   simp only [fpart,part',Tryz.f152,Option.getD]
   simp only [S8,R,SG,seval,UT,SC,hlen,c1]
   exact ⟨_,rfl⟩
 · by_cases c2:n > 0
   · have ok:okN 4 n=some false:=by unfold okN;simp [inR];omega
     rw [ok]
     dsimp only
     obtain ⟨ev,eo,so,co,⟨hev,hco⟩,R⟩:=RULES CC;rw [<- hev]
     skip
     simp only [fpart,part',Tryz.f152,Option.getD]
     simp only [S8,R,SG,seval,UT,SC,hlen,c1,c2]
     exact ⟨_,rfl⟩
   · have ok:okN 4 n=some true:=by unfold okN;simp [inR];omega
     rw [ok]
     by_cases d1:60 < s.length
     · have d1p:(s.length:Int) > 60:=by omega
       simp only [if_pos d1]
       obtain ⟨ev,eo,so,co,⟨hev,hco⟩,R⟩:=RULES CC;rw [<- hev]
       skip
       simp only [fpart,part',Tryz.f152,Option.getD]
       simp only [S8,R,SG,seval,UT,SC,hlen,c1,c2,d1p]
       exact ⟨_,rfl⟩
     · have d1p:¬ (s.length:Int) > 60:=by omega
       simp only [if_neg d1]
       simp only [ne_eq,not_true_eq_false,and_false,if_false]
       have hsq:=strP_neq s []
       generalize (!(s == []))=sb at *
       cases sb
       · skip
         obtain ⟨ev,eo,so,co,⟨hev,hco⟩,R⟩:=RULES CC;rw [<- hev]
         skip
         simp only [fpart,part',Tryz.f152,Option.getD]
         simp only [S8,R,SG,seval,UT,SC,hlen,c1,c2,d1p,hsq]
         exact ⟨_,rfl⟩
       · skip
         obtain ⟨ev,eo,so,co,⟨hev,hco⟩,R⟩:=RULES CC;rw [<- hev]
         skip
         simp only [fpart,part',Tryz.f152,Option.getD]
         simp only [S8,R,SG,seval,UT,SC,hlen,c1,c2,d1p,hsq]
         exact ⟨_,rfl⟩
theorem ck_r_1 (n:Int) (s:List UInt8):∃ bx,callL CC 152 [vlV (1,n,s)] []=some (.ret (.int .i64 (ckV (1,n,s))),bx):=by
 rw [callL_enter (fn:=Tryz.f152) (c:=Tryz.f152.body.getD .skip) rfl rfl fat_R20_Check rfl ok_R20_Check (Nat.le_of_ble_eq_true rfl)]
 have hlen:=len_str s
 unfold ckV vlV
 simp only
 by_cases c1:n < 0
 · have ok:okN 1 n=some false:=by unfold okN;simp;omega
   rw [ok]
   dsimp only
   obtain ⟨ev,eo,so,co,⟨hev,hco⟩,R⟩:=RULES CC;rw [<- hev]
   skip
   simp only [fpart,part',Tryz.f152,Option.getD]
   simp only [S8,R,SG,seval,UT,SC,hlen,c1]
   exact ⟨_,rfl⟩
 · by_cases c2:n > 1
   · have ok:okN 1 n=some false:=by unfold okN;simp;omega
     rw [ok]
     dsimp only
     obtain ⟨ev,eo,so,co,⟨hev,hco⟩,R⟩:=RULES CC;rw [<- hev]
     skip
     simp only [fpart,part',Tryz.f152,Option.getD]
     simp only [S8,R,SG,seval,UT,SC,hlen,c1,c2]
     exact ⟨_,rfl⟩
   · have ok:okN 1 n=some true:=by unfold okN;simp;omega
     rw [ok]
     by_cases d1:60 < s.length
     · have d1p:(s.length:Int) > 60:=by omega
       simp only [if_pos d1]
       obtain ⟨ev,eo,so,co,⟨hev,hco⟩,R⟩:=RULES CC;rw [<- hev]
       skip
       simp only [fpart,part',Tryz.f152,Option.getD]
       simp only [S8,R,SG,seval,UT,SC,hlen,c1,c2,d1p]
       exact ⟨_,rfl⟩
     · have d1p:¬ (s.length:Int) > 60:=by omega
       simp only [if_neg d1]
       have hsq:=strP_neq s []
       by_cases d2:s=[]
       · rw [if_neg (fun h=>h.1 d2)]
         rw [show (!(s == []))=false by rw [d2];rfl] at hsq
         obtain ⟨ev,eo,so,co,⟨hev,hco⟩,R⟩:=RULES CC;rw [<- hev]
         skip
         simp only [fpart,part',Tryz.f152,Option.getD]
         simp only [S8,R,SG,seval,UT,SC,hlen,c1,c2,d1p,hsq]
         exact ⟨_,rfl⟩
       · rw [if_pos ⟨d2,by omega⟩]
         rw [show (!(s == []))=true by simpa using d2] at hsq
         obtain ⟨ev,eo,so,co,⟨hev,hco⟩,R⟩:=RULES CC;rw [<- hev]
         skip
         simp only [fpart,part',Tryz.f152,Option.getD]
         simp only [S8,R,SG,seval,UT,SC,hlen,c1,c2,d1p,hsq]
         exact ⟨_,rfl⟩
theorem ck_r_2 (n:Int) (s:List UInt8):∃ bx,callL CC 152 [vlV (2,n,s)] []=some (.ret (.int .i64 (ckV (2,n,s))),bx):=by
 rw [callL_enter (fn:=Tryz.f152) (c:=Tryz.f152.body.getD .skip) rfl rfl fat_R20_Check rfl ok_R20_Check (Nat.le_of_ble_eq_true rfl)]
 have hlen:=len_str s
 unfold ckV vlV
 simp only
 by_cases c1:n < -1099511627776
 · have ok:okN 2 n=some false:=by unfold okN;simp [inR];omega
   rw [ok]
   dsimp only
   obtain ⟨ev,eo,so,co,⟨hev,hco⟩,R⟩:=RULES CC;rw [<- hev]
   skip
   simp only [fpart,part',Tryz.f152,Option.getD]
   simp only [S8,R,SG,seval,UT,SC,hlen,c1]
   exact ⟨_,rfl⟩
 · by_cases c2:n > 1099511627776
   · have ok:okN 2 n=some false:=by unfold okN;simp [inR];omega
     rw [ok]
     dsimp only
     obtain ⟨ev,eo,so,co,⟨hev,hco⟩,R⟩:=RULES CC;rw [<- hev]
     skip
     simp only [fpart,part',Tryz.f152,Option.getD]
     simp only [S8,R,SG,seval,UT,SC,hlen,c1,c2]
     exact ⟨_,rfl⟩
   · have ok:okN 2 n=some true:=by unfold okN;simp [inR];omega
     rw [ok]
     by_cases d1:60 < s.length
     · have d1p:(s.length:Int) > 60:=by omega
       simp only [if_pos d1]
       obtain ⟨ev,eo,so,co,⟨hev,hco⟩,R⟩:=RULES CC;rw [<- hev]
       skip
       simp only [fpart,part',Tryz.f152,Option.getD]
       simp only [S8,R,SG,seval,UT,SC,hlen,c1,c2,d1p]
       exact ⟨_,rfl⟩
     · have d1p:¬ (s.length:Int) > 60:=by omega
       simp only [if_neg d1]
       have hsq:=strP_neq s []
       by_cases d2:s=[]
       · rw [if_neg (fun h=>h.1 d2)]
         rw [show (!(s == []))=false by rw [d2];rfl] at hsq
         obtain ⟨ev,eo,so,co,⟨hev,hco⟩,R⟩:=RULES CC;rw [<- hev]
         skip
         simp only [fpart,part',Tryz.f152,Option.getD]
         simp only [S8,R,SG,seval,UT,SC,hlen,c1,c2,d1p,hsq]
         exact ⟨_,rfl⟩
       · rw [if_pos ⟨d2,by omega⟩]
         rw [show (!(s == []))=true by simpa using d2] at hsq
         obtain ⟨ev,eo,so,co,⟨hev,hco⟩,R⟩:=RULES CC;rw [<- hev]
         skip
         simp only [fpart,part',Tryz.f152,Option.getD]
         simp only [S8,R,SG,seval,UT,SC,hlen,c1,c2,d1p,hsq]
         exact ⟨_,rfl⟩
theorem ck_r_3 (n:Int) (s:List UInt8):∃ bx,callL CC 152 [vlV (3,n,s)] []=some (.ret (.int .i64 (ckV (3,n,s))),bx):=by
 rw [callL_enter (fn:=Tryz.f152) (c:=Tryz.f152.body.getD .skip) rfl rfl fat_R20_Check rfl ok_R20_Check (Nat.le_of_ble_eq_true rfl)]
 have hlen:=len_str s
 unfold ckV vlV
 simp only
 by_cases c1:n < 0
 · have ok:okN 3 n=some false:=by unfold okN;simp [inR];omega
   rw [ok]
   dsimp only
   obtain ⟨ev,eo,so,co,⟨hev,hco⟩,R⟩:=RULES CC;rw [<- hev]
   skip
   simp only [fpart,part',Tryz.f152,Option.getD]
   simp only [S8,R,SG,seval,UT,SC,hlen,c1]
   exact ⟨_,rfl⟩
 · by_cases c2:n > 63
   · have ok:okN 3 n=some false:=by unfold okN;simp [inR];omega
     rw [ok]
     dsimp only
     obtain ⟨ev,eo,so,co,⟨hev,hco⟩,R⟩:=RULES CC;rw [<- hev]
     skip
     simp only [fpart,part',Tryz.f152,Option.getD]
     simp only [S8,R,SG,seval,UT,SC,hlen,c1,c2]
     exact ⟨_,rfl⟩
   · have ok:okN 3 n=some true:=by unfold okN;simp [inR];omega
     rw [ok]
     by_cases d1:60 < s.length
     · have d1p:(s.length:Int) > 60:=by omega
       simp only [if_pos d1]
       obtain ⟨ev,eo,so,co,⟨hev,hco⟩,R⟩:=RULES CC;rw [<- hev]
       skip
       simp only [fpart,part',Tryz.f152,Option.getD]
       simp only [S8,R,SG,seval,UT,SC,hlen,c1,c2,d1p]
       exact ⟨_,rfl⟩
     · have d1p:¬ (s.length:Int) > 60:=by omega
       simp only [if_neg d1]
       have hsq:=strP_neq s []
       by_cases d2:s=[]
       · rw [if_neg (fun h=>h.1 d2)]
         rw [show (!(s == []))=false by rw [d2];rfl] at hsq
         obtain ⟨ev,eo,so,co,⟨hev,hco⟩,R⟩:=RULES CC;rw [<- hev]
         skip
         simp only [fpart,part',Tryz.f152,Option.getD]
         simp only [S8,R,SG,seval,UT,SC,hlen,c1,c2,d1p,hsq]
         exact ⟨_,rfl⟩
       · rw [if_pos ⟨d2,by omega⟩]
         rw [show (!(s == []))=true by simpa using d2] at hsq
         obtain ⟨ev,eo,so,co,⟨hev,hco⟩,R⟩:=RULES CC;rw [<- hev]
         skip
         simp only [fpart,part',Tryz.f152,Option.getD]
         simp only [S8,R,SG,seval,UT,SC,hlen,c1,c2,d1p,hsq]
         exact ⟨_,rfl⟩
theorem ck_r_o (k n:Int) (s:List UInt8) (h:k≠0∧k≠4∧k≠1∧k≠2∧k≠3):∃ bx,callL CC 152 [vlV (k,n,s)] []=some (.ret (.int .i64 (ckV (k,n,s))),bx):=by
 rw [callL_enter (fn:=Tryz.f152) (c:=Tryz.f152.body.getD .skip) rfl rfl fat_R20_Check rfl ok_R20_Check (Nat.le_of_ble_eq_true rfl)]
 obtain ⟨k0,k4,k1,k2,k3⟩:=h
 have ok:okN k n=none:=by unfold okN;rw [if_neg (by omega),if_neg k1,if_neg k2,if_neg k3]
 have e0:(k == 0)=false:=by simpa using k0
 have e4:(k == 4)=false:=by simpa using k4
 have e1:(k == 1)=false:=by simpa using k1
 have e2:(k == 2)=false:=by simpa using k2
 have e3:(k == 3)=false:=by simpa using k3
 have hlen:=len_str s
 unfold ckV vlV
 simp only
 rw [ok]
 dsimp only
 obtain ⟨ev,eo,so,co,⟨hev,hco⟩,R⟩:=RULES CC;rw [<- hev]
 skip
 simp only [fpart,part',Tryz.f152,Option.getD]
 simp only [S8,R,SG,seval,UT,SC,hlen,e0,e4,e1,e2,e3]
 exact ⟨_,rfl⟩
theorem call_value_Check (v:Vl):∃ bx,callL CC 118 [vlV v] []=some (.ret (.int .i64 (ckV v)),bx):=by
 obtain ⟨k,n,s⟩:=v
 by_cases k0:k=0
 · subst k0;exact ck_v_0 n s
 by_cases k4:k=4
 · subst k4;exact ck_v_4 n s
 by_cases k1:k=1
 · subst k1;exact ck_v_1 n s
 by_cases k2:k=2
 · subst k2;exact ck_v_2 n s
 by_cases k3:k=3
 · subst k3;exact ck_v_3 n s
 exact ck_v_o k n s ⟨k0,k4,k1,k2,k3⟩
theorem op_value_Check (v:Vl) (bx):callOp CC (callL CC) 118 [vlV v] bx=some (.ret (.int .i64 (ckV v)),bx):=by
 obtain ⟨b,h⟩:=call_value_Check v
 exact callOp_of rfl rfl h rfl
theorem call_R20_Check (v:Vl):∃ bx,callL CC 152 [vlV v] []=some (.ret (.int .i64 (ckV v)),bx):=by
 obtain ⟨k,n,s⟩:=v
 by_cases k0:k=0
 · subst k0;exact ck_r_0 n s
 by_cases k4:k=4
 · subst k4;exact ck_r_4 n s
 by_cases k1:k=1
 · subst k1;exact ck_r_1 n s
 by_cases k2:k=2
 · subst k2;exact ck_r_2 n s
 by_cases k3:k=3
 · subst k3;exact ck_r_3 n s
 exact ck_r_o k n s ⟨k0,k4,k1,k2,k3⟩
theorem op_R20_Check (v:Vl) (bx):callOp CC (callL CC) 152 [vlV v] bx=some (.ret (.int .i64 (ckV v)),bx):=by
 obtain ⟨b,h⟩:=call_R20_Check v
 exact callOp_of rfl rfl h rfl
theorem ok_names_letter:fnOK CC Tryz.f56 (Tryz.f56.body.getD .skip)=true:=by kernel_rfl
theorem fat_names_letter:CC.P.funcs[56]?=some Tryz.f56:=by kernel_rfl
theorem ok_names_Valid:fnOK CC Tryz.f29 (Tryz.f29.body.getD .skip)=true:=by kernel_rfl
theorem fat_names_Valid:CC.P.funcs[29]?=some Tryz.f29:=by kernel_rfl
theorem ok_R04_Valid:fnOK CC Tryz.f33 (Tryz.f33.body.getD .skip)=true:=by kernel_rfl
theorem fat_R04_Valid:CC.P.funcs[33]?=some Tryz.f33:=by kernel_rfl
theorem get_at (s:List UInt8) (i:Nat) (c:UInt8) (h:s[i]?=some c):(ByteArray.mk s.toArray).get! i=c:=by
 show s.toArray[i]! = c
 rw [getElem!_def,List.getElem?_toArray,h]
theorem dec_lo (s:List UInt8) (i:Nat) (c:UInt8) (h:s[i]?=some c) (hc:c.toNat < 128):Utf8.decode ⟨s.toArray⟩ i=(c.toNat,1):=by
 unfold Utf8.decode
 simp only [Nat.add_zero,get_at s i c h]
 rw [if_pos hc]
theorem dec_hi (s:List UInt8) (i:Nat) (c:UInt8) (h:s[i]?=some c) (hc:¬ c.toNat < 128):128<=(Utf8.decode ⟨s.toArray⟩ i).1:=by
 unfold Utf8.decode
 simp only [Nat.add_zero,get_at s i c h]
 rw [if_neg hc]
 unfold Utf8.runeError
 repeat' split
 all_goals first | (simp only;omega) | (rename_i hh;simp at hh;simp only;omega) | decide
def okC (i n:Nat):Bool:=decide ((97<=n∧n<=122)∨(i≠0∧(n=95∨n=45∨(48<=n∧n<=57))))
def vAll:Nat->List UInt8->Bool
 | _,[]=>true
 | i,c :: r=>okC i c.toNat && vAll (i+1) r
def valB (s:List UInt8):Bool:=decide (1<=s.length∧s.length<=24) && vAll 0 s
def PVd (v:Bool) (r:Option (Ex×St)):Prop:=∃ e' bx',(v=true∧r=some (.exit 0,⟨e',bx'⟩))∨(v=false∧r=some (.ret,⟨e',bx'⟩)∧getT e' 2=.bool false)
theorem call_names_letter (r:Int):callL CC 56 [.int .i32 r] []=some (.ret (.bool (decide (97<=r∧r<=122))),[]):=by
 rw [callL_enter (fn:=Tryz.f56) (c:=Tryz.f56.body.getD .skip) rfl rfl fat_names_letter rfl ok_names_letter (Nat.le_of_ble_eq_true rfl)]
 by_cases c1:r ≥ 97
 · by_cases c2:r<=122
   · rw [decide_eq_true (show 97<=r∧r<=122 from ⟨c1,c2⟩)]
     obtain ⟨ev,eo,so,co,⟨hev,hco⟩,R⟩:=RULES CC;rw [<- hev]
     simp only [fpart,part',Tryz.f56,Option.getD]
     simp only [S8,R,seval,c1,c2]
   · rw [decide_eq_false (show ¬ (97<=r∧r<=122) from fun h=>c2 h.2)]
     obtain ⟨ev,eo,so,co,⟨hev,hco⟩,R⟩:=RULES CC;rw [<- hev]
     simp only [fpart,part',Tryz.f56,Option.getD]
     simp only [S8,R,seval,c1,c2]
 · rw [decide_eq_false (show ¬ (97<=r∧r<=122) from fun h=>c1 h.1)]
   obtain ⟨ev,eo,so,co,⟨hev,hco⟩,R⟩:=RULES CC;rw [<- hev]
   simp only [fpart,part',Tryz.f56,Option.getD]
   simp only [S8,R,seval,c1]
theorem op_names_letter (r:Int) (bx):callOp CC (callL CC) 56 [.int .i32 r] bx=some (.ret (.bool (decide (97<=r∧r<=122))),bx):=callOp_of rfl (by simp only [SA,Bool.and_true]) (call_names_letter r) rfl
theorem loop_R04_Valid (L:Code) (hL:L=fpart Tryz.f33 [1,1,0,1,0]) (s:List UInt8) (hs:s.length<=30000):∀ (k i:Nat) (e:List PV) (bx:List PBox),i+k=s.length->getT e 0=.str s->getT e 3=.int .i64 i ->
 PVd (vAll i (s.drop i)) (evL CC L ⟨e,bx⟩):=by
 intro k
 induction k with
 | zero=>
  intro i e bx hk h0 h3
  rw [evL_at (fpart Tryz.f33 [1,1,0,1,0,0]) hL]
  have hlen:=len_str s
  have hil:¬ ((i:Int) < (s.length:Int)):=by omega
  rw [List.drop_eq_nil_of_le (by omega)]
  unfold vAll
  obtain ⟨ev,eo,so,co,⟨hev,hco⟩,R⟩:=RULES CC;rw [<- hev]
  simp only [fpart,part',Tryz.f33,Option.getD]
  simp only [S8,R,seval,h0,h3,hlen,hil]
  exact ⟨_,_,.inl ⟨rfl,rfl⟩⟩
 | succ k ih=>
  intro i e bx hk h0 h3
  rw [evL_at (fpart Tryz.f33 [1,1,0,1,0,0]) hL]
  have hlen:=len_str s
  have hil:((i:Int) < (s.length:Int)):=by omega
  have hx:s[i]?=some (s[i]'(by omega)):=by simp
  have hdr:s.drop i=(s[i]'(by omega)) :: s.drop (i+1):=List.drop_eq_getElem_cons (by omega)
  generalize s[i]'(by omega)=c at *
  have hix:=ix_str s i c hx
  have w1:=wrap_i64 (n:=(i:Int)+1) ⟨by omega,by omega⟩
  have cast1:((i+1:Nat):Int)=(i:Int)+1:=by omega
  have key:=fun e bx=>ih (i+1) e bx (by omega)
  rw [cast1] at key
  rw [hdr]
  unfold vAll
  generalize vAll (i+1) (s.drop (i+1))=v at *
  generalize c.toNat=n at *
  clear hx hdr
  by_cases a1:(n:Int) ≥ 97
  · by_cases a2:(n:Int)<=122
    · skip
      rw [show okC i n=true from decide_eq_true (by omega),Bool.true_and]
      obtain ⟨ev,eo,so,co,⟨hev,hco⟩,R⟩:=RULES CC;rw [<- hev]
      rw [<- hev] at key
      simp only [fpart,part',Tryz.f33,Option.getD]
      simp only [S8,R,seval,unP,h0,h3,hlen,hil,hix,w1,Bool.not_true,Bool.not_false,a1,a2]
      exact key _ _ (by simp only [S7,R,seval,h0]) (by simp only [S7,R,seval])
    · skip
      by_cases i0:i=0
      · have z:((i:Int) == 0)=true:=by rw [i0];rfl
        rw [show okC i n=false from decide_eq_false (by omega),Bool.false_and]
        obtain ⟨ev,eo,so,co,⟨hev,hco⟩,R⟩:=RULES CC;rw [<- hev]
        simp only [fpart,part',Tryz.f33,Option.getD]
        simp only [S8,R,seval,unP,h0,h3,hlen,hil,hix,w1,Bool.not_true,Bool.not_false,a1,a2,z]
        exact ⟨_,_,.inr ⟨rfl,rfl,by simp only [S7,R,seval]⟩⟩
      · have z:((i:Int) == 0)=false:=by rw [beq_eq_false_iff_ne];omega
        by_cases e1:n=95
        · have e1p:((n:Int) != 95)=false:=by rw [e1];rfl
          rw [show okC i n=true from decide_eq_true (by omega),Bool.true_and]
          obtain ⟨ev,eo,so,co,⟨hev,hco⟩,R⟩:=RULES CC;rw [<- hev]
          rw [<- hev] at key
          simp only [fpart,part',Tryz.f33,Option.getD]
          simp only [S8,R,seval,unP,h0,h3,hlen,hil,hix,w1,Bool.not_true,Bool.not_false,a1,a2,z,e1p]
          exact key _ _ (by simp only [S7,R,seval,h0]) (by simp only [S7,R,seval])
        · have e1p:((n:Int) != 95)=true:=by rw [bne_iff_ne];omega
          by_cases e2:n=45
          · have e2p:((n:Int) != 45)=false:=by rw [e2];rfl
            rw [show okC i n=true from decide_eq_true (by omega),Bool.true_and]
            obtain ⟨ev,eo,so,co,⟨hev,hco⟩,R⟩:=RULES CC;rw [<- hev]
            rw [<- hev] at key
            simp only [fpart,part',Tryz.f33,Option.getD]
            simp only [S8,R,seval,unP,h0,h3,hlen,hil,hix,w1,Bool.not_true,Bool.not_false,a1,a2,z,e1p,e2p]
            exact key _ _ (by simp only [S7,R,seval,h0]) (by simp only [S7,R,seval])
          · have e2p:((n:Int) != 45)=true:=by rw [bne_iff_ne];omega
            by_cases e3:(n:Int) < 48
            · skip
              rw [show okC i n=false from decide_eq_false (by omega),Bool.false_and]
              obtain ⟨ev,eo,so,co,⟨hev,hco⟩,R⟩:=RULES CC;rw [<- hev]
              simp only [fpart,part',Tryz.f33,Option.getD]
              simp only [S8,R,seval,unP,h0,h3,hlen,hil,hix,w1,Bool.not_true,Bool.not_false,a1,a2,z,e1p,e2p,e3]
              exact ⟨_,_,.inr ⟨rfl,rfl,by simp only [S7,R,seval]⟩⟩
            · by_cases e4:(n:Int) > 57
              · skip
                rw [show okC i n=false from decide_eq_false (by omega),Bool.false_and]
                obtain ⟨ev,eo,so,co,⟨hev,hco⟩,R⟩:=RULES CC;rw [<- hev]
                simp only [fpart,part',Tryz.f33,Option.getD]
                simp only [S8,R,seval,unP,h0,h3,hlen,hil,hix,w1,Bool.not_true,Bool.not_false,a1,a2,z,e1p,e2p,e3,e4]
                exact ⟨_,_,.inr ⟨rfl,rfl,by simp only [S7,R,seval]⟩⟩
              · skip
                rw [show okC i n=true from decide_eq_true (by omega),Bool.true_and]
                obtain ⟨ev,eo,so,co,⟨hev,hco⟩,R⟩:=RULES CC;rw [<- hev]
                rw [<- hev] at key
                simp only [fpart,part',Tryz.f33,Option.getD]
                simp only [S8,R,seval,unP,h0,h3,hlen,hil,hix,w1,Bool.not_true,Bool.not_false,a1,a2,z,e1p,e2p,e3,e4]
                exact key _ _ (by simp only [S7,R,seval,h0]) (by simp only [S7,R,seval])
  · skip
    by_cases i0:i=0
    · have z:((i:Int) == 0)=true:=by rw [i0];rfl
      rw [show okC i n=false from decide_eq_false (by omega),Bool.false_and]
      obtain ⟨ev,eo,so,co,⟨hev,hco⟩,R⟩:=RULES CC;rw [<- hev]
      simp only [fpart,part',Tryz.f33,Option.getD]
      simp only [S8,R,seval,unP,h0,h3,hlen,hil,hix,w1,Bool.not_true,Bool.not_false,a1,z]
      exact ⟨_,_,.inr ⟨rfl,rfl,by simp only [S7,R,seval]⟩⟩
    · have z:((i:Int) == 0)=false:=by rw [beq_eq_false_iff_ne];omega
      by_cases e1:n=95
      · have e1p:((n:Int) != 95)=false:=by rw [e1];rfl
        rw [show okC i n=true from decide_eq_true (by omega),Bool.true_and]
        obtain ⟨ev,eo,so,co,⟨hev,hco⟩,R⟩:=RULES CC;rw [<- hev]
        rw [<- hev] at key
        simp only [fpart,part',Tryz.f33,Option.getD]
        simp only [S8,R,seval,unP,h0,h3,hlen,hil,hix,w1,Bool.not_true,Bool.not_false,a1,z,e1p]
        exact key _ _ (by simp only [S7,R,seval,h0]) (by simp only [S7,R,seval])
      · have e1p:((n:Int) != 95)=true:=by rw [bne_iff_ne];omega
        by_cases e2:n=45
        · have e2p:((n:Int) != 45)=false:=by rw [e2];rfl
          rw [show okC i n=true from decide_eq_true (by omega),Bool.true_and]
          obtain ⟨ev,eo,so,co,⟨hev,hco⟩,R⟩:=RULES CC;rw [<- hev]
          rw [<- hev] at key
          simp only [fpart,part',Tryz.f33,Option.getD]
          simp only [S8,R,seval,unP,h0,h3,hlen,hil,hix,w1,Bool.not_true,Bool.not_false,a1,z,e1p,e2p]
          exact key _ _ (by simp only [S7,R,seval,h0]) (by simp only [S7,R,seval])
        · have e2p:((n:Int) != 45)=true:=by rw [bne_iff_ne];omega
          by_cases e3:(n:Int) < 48
          · skip
            rw [show okC i n=false from decide_eq_false (by omega),Bool.false_and]
            obtain ⟨ev,eo,so,co,⟨hev,hco⟩,R⟩:=RULES CC;rw [<- hev]
            simp only [fpart,part',Tryz.f33,Option.getD]
            simp only [S8,R,seval,unP,h0,h3,hlen,hil,hix,w1,Bool.not_true,Bool.not_false,a1,z,e1p,e2p,e3]
            exact ⟨_,_,.inr ⟨rfl,rfl,by simp only [S7,R,seval]⟩⟩
          · by_cases e4:(n:Int) > 57
            · skip
              rw [show okC i n=false from decide_eq_false (by omega),Bool.false_and]
              obtain ⟨ev,eo,so,co,⟨hev,hco⟩,R⟩:=RULES CC;rw [<- hev]
              simp only [fpart,part',Tryz.f33,Option.getD]
              simp only [S8,R,seval,unP,h0,h3,hlen,hil,hix,w1,Bool.not_true,Bool.not_false,a1,z,e1p,e2p,e3,e4]
              exact ⟨_,_,.inr ⟨rfl,rfl,by simp only [S7,R,seval]⟩⟩
            · skip
              rw [show okC i n=true from decide_eq_true (by omega),Bool.true_and]
              obtain ⟨ev,eo,so,co,⟨hev,hco⟩,R⟩:=RULES CC;rw [<- hev]
              rw [<- hev] at key
              simp only [fpart,part',Tryz.f33,Option.getD]
              simp only [S8,R,seval,unP,h0,h3,hlen,hil,hix,w1,Bool.not_true,Bool.not_false,a1,z,e1p,e2p,e3,e4]
              exact key _ _ (by simp only [S7,R,seval,h0]) (by simp only [S7,R,seval])
theorem call_R04_Valid (s:List UInt8) (hs:s.length<=30000):∃ bx,callL CC 33 [.str s] []=some (.ret (.bool (valB s)),bx):=by
 rw [callL_enter (fn:=Tryz.f33) (c:=Tryz.f33.body.getD .skip) rfl rfl fat_R04_Valid rfl ok_R04_Valid (Nat.le_of_ble_eq_true rfl)]
 have hlen:=len_str s
 unfold valB
 by_cases c1:(s.length:Int) < 1
 · rw [decide_eq_false (show ¬ (1<=s.length∧s.length<=24) by omega),Bool.false_and]
   obtain ⟨ev,eo,so,co,⟨hev,hco⟩,R⟩:=RULES CC;rw [<- hev]
   simp only [fpart,part',Tryz.f33,Option.getD]
   simp only [S8,R,seval,hlen,c1]
   exact ⟨_,rfl⟩
 · by_cases c2:(s.length:Int) > 24
   · rw [decide_eq_false (show ¬ (1<=s.length∧s.length<=24) by omega),Bool.false_and]
     obtain ⟨ev,eo,so,co,⟨hev,hco⟩,R⟩:=RULES CC;rw [<- hev]
     simp only [fpart,part',Tryz.f33,Option.getD]
     simp only [S8,R,seval,hlen,c1,c2]
     exact ⟨_,rfl⟩
   · rw [decide_eq_true (show 1<=s.length∧s.length<=24 by omega),Bool.true_and]
     have hloop:=fun e bx=>loop_R04_Valid _ rfl s hs s.length 0 e bx (by omega)
     rw [List.drop_zero] at hloop
     generalize vAll 0 s=v at *
     obtain ⟨ev,eo,so,co,⟨hev,hco⟩,R⟩:=RULES CC;rw [<- hev]
     rw [<- hev] at hloop
     simp only [fpart,part',Tryz.f33,Option.getD] at hloop ⊢
     simp only [S8,R,seval,hlen,c1,c2]
     generalize hE:ev _ _=r
     have hP:PVd v r:=by
      rw [<- hE]
      exact hloop _ _ (by simp only [S7,R,seval]) (by simp only [S7,R,seval] <;> rfl)
     obtain ⟨e',bx',⟨hv,he⟩ | ⟨hv,he,g2⟩⟩:=hP
     · subst he
       subst hv
       simp only [S8,R,seval]
       exact ⟨_,rfl⟩
     · subst he
       subst hv
       simp only [S8,R,seval,g2]
       exact ⟨_,rfl⟩
theorem op_R04_Valid (s:List UInt8) (hs:s.length<=30000) (bx):callOp CC (callL CC) 33 [.str s] bx=some (.ret (.bool (valB s)),bx):=by
 obtain ⟨b,h⟩:=call_R04_Valid s hs
 exact callOp_of rfl (by simp only [SA,Bool.and_true]) h rfl
theorem loop_names_Valid (L:Code) (hL:L=fpart Tryz.f29 [1,1,0,1,0]) (s:List UInt8) (hs:s.length<=30000):∀ (k i:Nat) (e:List PV),i+k=s.length->getT e 0=.str s->getT e 14=.bp 0 0 ->
 PVd (vAll i (s.drop i)) (evL CC L ⟨e,[.iter s i]⟩):=by
 intro k
 induction k with
 | zero=>
  intro i e hk h0 h14
  rw [evL_at (fpart Tryz.f29 [1,1,0,1,0,0]) hL]
  have hlt:¬ (i < s.length):=by omega
  rw [List.drop_eq_nil_of_le (by omega)]
  unfold vAll
  obtain ⟨ev,eo,so,co,⟨hev,hco⟩,R⟩:=RULES CC;rw [<- hev]
  simp only [fpart,part',Tryz.f29,Option.getD]
  simp only [S8,R,seval,nextR,extP,List.getElem?_cons_zero,List.getElem?_cons_succ,h0,h14,hlt]
  exact ⟨_,_,.inl ⟨rfl,rfl⟩⟩
 | succ k ih=>
  intro i e hk h0 h14
  rw [evL_at (fpart Tryz.f29 [1,1,0,1,0,0]) hL]
  have hlen:=len_str s
  have hlt:i < s.length:=by omega
  have hx:s[i]?=some (s[i]'(by omega)):=by simp
  have hdr:s.drop i=(s[i]'(by omega)) :: s.drop (i+1):=List.drop_eq_getElem_cons (by omega)
  generalize s[i]'(by omega)=c at *
  have hlo:=dec_lo s i c hx
  have hhi:=dec_hi s i c hx
  have key:=fun e=>ih (i+1) e (by omega)
  rw [hdr]
  unfold vAll
  generalize vAll (i+1) (s.drop (i+1))=v at *
  generalize c.toNat=n at *
  clear hx hdr
  by_cases h128:n < 128
  · have hdec:=hlo h128
    have hlet:=op_names_letter (n:Int)
    by_cases a1:97<=(n:Int)∧(n:Int)<=122
    · rw [decide_eq_true a1] at hlet
      rw [show okC i n=true from decide_eq_true (by omega),Bool.true_and]
      obtain ⟨ev,eo,so,co,⟨hev,hco⟩,R⟩:=RULES CC;rw [<- hev]
      rw [<- hco] at hlet
      rw [<- hev] at key
      simp only [fpart,part',Tryz.f29,Option.getD]
      simp only [S8,R,SG,seval,nextR,List.set_cons_zero,h0,h14,hlen,hlt,hlet,hdec]
      exact key _ (by simp only [S7,R,seval,h0]) (by simp only [S7,R,seval,h14])
    · rw [decide_eq_false a1] at hlet
      by_cases i0:i=0
      · have z:((i:Int) == 0)=true:=by rw [i0];rfl
        rw [show okC i n=false from decide_eq_false (by omega),Bool.false_and]
        obtain ⟨ev,eo,so,co,⟨hev,hco⟩,R⟩:=RULES CC;rw [<- hev]
        rw [<- hco] at hlet
        simp only [fpart,part',Tryz.f29,Option.getD]
        simp only [S8,R,SG,seval,nextR,List.set_cons_zero,h0,h14,hlen,hlt,hlet,hdec,z]
        exact ⟨_,_,.inr ⟨rfl,rfl,by simp only [S7,R,seval]⟩⟩
      · have z:((i:Int) == 0)=false:=by rw [beq_eq_false_iff_ne];omega
        by_cases e1:n=95
        · have e1p:((n:Int) != 95)=false:=by rw [e1];rfl
          rw [show okC i n=true from decide_eq_true (by omega),Bool.true_and]
          obtain ⟨ev,eo,so,co,⟨hev,hco⟩,R⟩:=RULES CC;rw [<- hev]
          rw [<- hco] at hlet
          rw [<- hev] at key
          simp only [fpart,part',Tryz.f29,Option.getD]
          simp only [S8,R,SG,seval,nextR,List.set_cons_zero,h0,h14,hlen,hlt,hlet,hdec,z,e1p]
          exact key _ (by simp only [S7,R,seval,h0]) (by simp only [S7,R,seval,h14])
        · have e1p:((n:Int) != 95)=true:=by rw [bne_iff_ne];omega
          by_cases e2:n=45
          · have e2p:((n:Int) != 45)=false:=by rw [e2];rfl
            rw [show okC i n=true from decide_eq_true (by omega),Bool.true_and]
            obtain ⟨ev,eo,so,co,⟨hev,hco⟩,R⟩:=RULES CC;rw [<- hev]
            rw [<- hco] at hlet
            rw [<- hev] at key
            simp only [fpart,part',Tryz.f29,Option.getD]
            simp only [S8,R,SG,seval,nextR,List.set_cons_zero,h0,h14,hlen,hlt,hlet,hdec,z,e1p,e2p]
            exact key _ (by simp only [S7,R,seval,h0]) (by simp only [S7,R,seval,h14])
          · have e2p:((n:Int) != 45)=true:=by rw [bne_iff_ne];omega
            by_cases e3:(n:Int) < 48
            · skip
              rw [show okC i n=false from decide_eq_false (by omega),Bool.false_and]
              obtain ⟨ev,eo,so,co,⟨hev,hco⟩,R⟩:=RULES CC;rw [<- hev]
              rw [<- hco] at hlet
              simp only [fpart,part',Tryz.f29,Option.getD]
              simp only [S8,R,SG,seval,nextR,List.set_cons_zero,h0,h14,hlen,hlt,hlet,hdec,z,e1p,e2p,e3]
              exact ⟨_,_,.inr ⟨rfl,rfl,by simp only [S7,R,seval]⟩⟩
            · by_cases e4:(n:Int) > 57
              · skip
                rw [show okC i n=false from decide_eq_false (by omega),Bool.false_and]
                obtain ⟨ev,eo,so,co,⟨hev,hco⟩,R⟩:=RULES CC;rw [<- hev]
                rw [<- hco] at hlet
                simp only [fpart,part',Tryz.f29,Option.getD]
                simp only [S8,R,SG,seval,nextR,List.set_cons_zero,h0,h14,hlen,hlt,hlet,hdec,z,e1p,e2p,e3,e4]
                exact ⟨_,_,.inr ⟨rfl,rfl,by simp only [S7,R,seval]⟩⟩
              · skip
                rw [show okC i n=true from decide_eq_true (by omega),Bool.true_and]
                obtain ⟨ev,eo,so,co,⟨hev,hco⟩,R⟩:=RULES CC;rw [<- hev]
                rw [<- hco] at hlet
                rw [<- hev] at key
                simp only [fpart,part',Tryz.f29,Option.getD]
                simp only [S8,R,SG,seval,nextR,List.set_cons_zero,h0,h14,hlen,hlt,hlet,hdec,z,e1p,e2p,e3,e4]
                exact key _ (by simp only [S7,R,seval,h0]) (by simp only [S7,R,seval,h14])
  · have hge:=hhi h128
    rw [show okC i n=false from decide_eq_false (by omega),Bool.false_and]
    generalize hdec:Utf8.decode ⟨s.toArray⟩ i=d at *
    obtain ⟨m,k2⟩:=d
    simp only at hge
    have hlet:=op_names_letter (m:Int)
    rw [decide_eq_false (by omega)] at hlet
    by_cases i0:i=0
    · have z:((i:Int) == 0)=true:=by rw [i0];rfl
      obtain ⟨ev,eo,so,co,⟨hev,hco⟩,R⟩:=RULES CC;rw [<- hev]
      rw [<- hco] at hlet
      simp only [fpart,part',Tryz.f29,Option.getD]
      simp only [S8,R,SG,seval,nextR,List.set_cons_zero,h0,h14,hlen,hlt,hlet,hdec,z]
      exact ⟨_,_,.inr ⟨rfl,rfl,by simp only [S7,R,seval]⟩⟩
    · have z:((i:Int) == 0)=false:=by rw [beq_eq_false_iff_ne];omega
      have e1p:((m:Int) != 95)=true:=by rw [bne_iff_ne];omega
      have e2p:((m:Int) != 45)=true:=by rw [bne_iff_ne];omega
      have e3:¬ ((m:Int) < 48):=by omega
      have e4:((m:Int) > 57):=by omega
      obtain ⟨ev,eo,so,co,⟨hev,hco⟩,R⟩:=RULES CC;rw [<- hev]
      rw [<- hco] at hlet
      simp only [fpart,part',Tryz.f29,Option.getD]
      simp only [S8,R,SG,seval,nextR,List.set_cons_zero,h0,h14,hlen,hlt,hlet,hdec,z,e1p,e2p,e3,e4]
      exact ⟨_,_,.inr ⟨rfl,rfl,by simp only [S7,R,seval]⟩⟩
theorem call_names_Valid (s:List UInt8) (hs:s.length<=30000):∃ bx,callL CC 29 [.str s] []=some (.ret (.bool (valB s)),bx):=by
 rw [callL_enter (fn:=Tryz.f29) (c:=Tryz.f29.body.getD .skip) rfl rfl fat_names_Valid rfl ok_names_Valid (Nat.le_of_ble_eq_true rfl)]
 have hlen:=len_str s
 unfold valB
 by_cases c1:(s.length:Int) < 1
 · rw [decide_eq_false (show ¬ (1<=s.length∧s.length<=24) by omega),Bool.false_and]
   obtain ⟨ev,eo,so,co,⟨hev,hco⟩,R⟩:=RULES CC;rw [<- hev]
   simp only [fpart,part',Tryz.f29,Option.getD]
   simp only [S8,R,seval,hlen,c1]
   exact ⟨_,rfl⟩
 · by_cases c2:(s.length:Int) > 24
   · rw [decide_eq_false (show ¬ (1<=s.length∧s.length<=24) by omega),Bool.false_and]
     obtain ⟨ev,eo,so,co,⟨hev,hco⟩,R⟩:=RULES CC;rw [<- hev]
     simp only [fpart,part',Tryz.f29,Option.getD]
     simp only [S8,R,seval,hlen,c1,c2]
     exact ⟨_,rfl⟩
   · rw [decide_eq_true (show 1<=s.length∧s.length<=24 by omega),Bool.true_and]
     have hloop:=fun e=>loop_names_Valid _ rfl s hs s.length 0 e (by omega)
     rw [List.drop_zero] at hloop
     have hus:CC.P.underlying 9=some .string:=by kernel_rfl
     generalize vAll 0 s=v at *
     obtain ⟨ev,eo,so,co,⟨hev,hco⟩,R⟩:=RULES CC;rw [<- hev]
     rw [<- hev] at hloop
     simp only [fpart,part',Tryz.f29,Option.getD] at hloop ⊢
     simp only [S8,R,seval,hlen,c1,c2,rangeR,hus,List.nil_append]
     generalize hE:ev _ _=r
     have hP:PVd v r:=by
      rw [<- hE]
      exact hloop _ (by simp only [S7,R,seval]) (by simp only [S7,R,seval])
     obtain ⟨e',bx',⟨hv,he⟩ | ⟨hv,he,g2⟩⟩:=hP
     · subst he
       subst hv
       simp only [S8,R,seval]
       exact ⟨_,rfl⟩
     · subst he
       subst hv
       simp only [S8,R,seval,g2]
       exact ⟨_,rfl⟩
theorem op_names_Valid (s:List UInt8) (hs:s.length<=30000) (bx):callOp CC (callL CC) 29 [.str s] bx=some (.ret (.bool (valB s)),bx):=by
 obtain ⟨b,h⟩:=call_names_Valid s hs
 exact callOp_of rfl (by simp only [SA,Bool.and_true]) h rfl
abbrev Ky:=Int×List UInt8×List UInt8
def kyV (k:Ky):PV:=.agg [.int .i64 k.1,.str k.2.1,.str k.2.2]
def okKy (k:Ky):Prop:=inI k.1∧k.2.1.length<=maxLen∧k.2.2.length<=maxLen
inductive Tr where
 | mk (k n m:Int) (nm:List UInt8) (v:Vl) (key:Ky) (kids:List Tr)
mutual
def trV:Tr->PV
 | .mk k n m nm v key kids=>.agg [.int .i64 k,.int .i64 n,.int .i64 m,.str nm,.int .i64 v.1,.int .i64 v.2.1,.str v.2.2,.int .i64 key.1,.str key.2.1,.str key.2.2,.sl (trVs kids)]
def trVs:List Tr->List PV
 | []=>[]
 | t :: r=>trV t :: trVs r
end
mutual
def okTr:Tr->Prop
 | .mk k n m nm v key kids=>inI k∧inI n∧inI m∧nm.length<=maxLen∧okVl v∧okKy key∧kids.length<=maxLen∧okTrs kids
def okTrs:List Tr->Prop
 | []=>True
 | t :: r=>okTr t∧okTrs r
end
theorem trVs_map:∀ l:List Tr,trVs l=l.map trV
 | []=>by unfold trVs;rfl
 | t :: r=>by unfold trVs;rw [trVs_map r];rfl
theorem okTrs_iff:∀ l:List Tr,okTrs l↔∀ t ∈ l,okTr t
 | []=>by unfold okTrs;simp
 | t :: r=>by unfold okTrs;rw [okTrs_iff r];simp
theorem trVs_length (l:List Tr):(trVs l).length=l.length:=by rw [trVs_map,List.length_map]
theorem trVs_get {l:List Tr} {i:Nat} {t:Tr} (h:l[i]?=some t):(trVs l)[i]?=some (trV t):=by rw [trVs_map,List.getElem?_map,h];rfl
theorem hasT_struct1 {P:Program} {t:TypeId} {n:Nat} {cs:List PV} {fs:Array Field} {l:List (TypeId×Nat)} (ht:P.underlying t=some (.struct fs)) (hl:fs.toList.map (fun f=>(f.type,f.offset))=l) (h:HasT P (n+1) t cs):∀ x ∈ l,HasT P n x.1 ((cs.drop x.2).take (P.cellsOf x.1)):=by
 unfold HasT at h
 rw [ht] at h
 intro x hx
 rw [<- hl] at hx
 obtain ⟨f,hf,rfl⟩:=List.mem_map.1 hx
 exact h f hf
theorem hasT_slice1 {P:Program} {t e:TypeId} {n:Nat} {cs:List PV} (ht:P.underlying t=some (.slice e)) (h:HasT P (n+1) t cs):∃ xs,cs=[.sl xs]∧xs.length<=maxLen∧∀ x ∈ xs,∃ cs,x=mkV P e cs∧cs.length=P.cellsOf e∧HasT P n e cs:=by
 unfold HasT at h
 rw [ht] at h
 exact h
theorem uTr:Tryz.prog.underlying 29=some (.struct ((match Tryz.prog.underlying 29 with | some (.struct f)=>f | _=>#[]))):=by kernel_rfl
theorem fTr:((match Tryz.prog.underlying 29 with | some (.struct f)=>f | _=>#[]):Array Field).toList.map (fun f=>(f.type,f.offset))=[(3,0),(3,1),(3,2),(9,3),(24,4),(26,7),(27,10)]:=by kernel_rfl
theorem uKy:Tryz.prog.underlying 26=some (.struct ((match Tryz.prog.underlying 26 with | some (.struct f)=>f | _=>#[]))):=by kernel_rfl
theorem fKy:((match Tryz.prog.underlying 26 with | some (.struct f)=>f | _=>#[]):Array Field).toList.map (fun f=>(f.type,f.offset))=[(3,0),(9,1),(9,2)]:=by kernel_rfl
theorem uTrs:Tryz.prog.underlying 27=some (.slice 29):=by kernel_rfl
theorem cTr:Tryz.prog.cellsOf 29=11:=by kernel_rfl
theorem cVl:Tryz.prog.cellsOf 24=3:=by kernel_rfl
theorem cKy:Tryz.prog.cellsOf 26=3:=by kernel_rfl
theorem cTrs:Tryz.prog.cellsOf 27=1:=by kernel_rfl
theorem cInt:Tryz.prog.cellsOf 3=1:=by kernel_rfl
theorem cStr:Tryz.prog.cellsOf 9=1:=by kernel_rfl
theorem hasV_key {p:PV} (h:HasV Tryz.prog 26 p):∃ k:Ky,p=kyV k∧okKy k:=by
 obtain ⟨n,cs,rfl,hlen,hf⟩:=hasV_struct uKy fKy h
 rw [cKy] at hlen
 match cs,hlen with
 | [a,b,c],_=>
  have f0:=hf (3,0) (by simp)
  have f1:=hf (9,1) (by simp)
  have f2:=hf (9,2) (by simp)
  simp only [cInt,cStr] at f0 f1 f2
  obtain ⟨k,e0,h0⟩:=hasT_i64 (P:=Tryz.prog) Tryz.underlying3 f0
  obtain ⟨m,e1,h1⟩:=hasT_str (P:=Tryz.prog) Tryz.underlying9 f1
  obtain ⟨s,e2,h2⟩:=hasT_str (P:=Tryz.prog) Tryz.underlying9 f2
  injection e0 with e0
  injection e1 with e1
  injection e2 with e2
  subst e0 e1 e2
  exact ⟨(k,m,s),rfl,h0,h1,h2⟩
theorem aggTr:aggT Tryz.prog 29=true:=by unfold aggT;rw [uTr]
theorem aggVl:aggT Tryz.prog 24=true:=by obtain ⟨f,h⟩:=VLs;unfold aggT;rw [show Tryz.prog.underlying 24=_ from h]
theorem aggKy:aggT Tryz.prog 26=true:=by unfold aggT;rw [uKy]
theorem hasT_tr:∀ (N n:Nat),n < N->∀ cs:List PV,cs.length=11->HasT Tryz.prog n 29 cs->∃ t:Tr,PV.agg cs=trV t∧okTr t:=by
 intro N
 induction N with
 | zero=>intro n h;omega
 | succ N ih=>
  intro n hn cs hlen h
  cases n with
  | zero=>exact h.elim
  | succ n=>
   have hf:=hasT_struct1 uTr fTr h
   match cs,hlen with
   | [a0,a1,a2,a3,a4,a5,a6,a7,a8,a9,b0],_=>
    have f0:=hf (3,0) (by simp)
    have f1:=hf (3,1) (by simp)
    have f2:=hf (3,2) (by simp)
    have f3:=hf (9,3) (by simp)
    have f4:=hf (24,4) (by simp)
    have f5:=hf (26,7) (by simp)
    have f6:=hf (27,10) (by simp)
    simp only [cInt,cStr,cVl,cKy,cTrs] at f0 f1 f2 f3 f4 f5 f6
    obtain ⟨k,e0,h0⟩:=hasT_i64 (P:=Tryz.prog) Tryz.underlying3 f0
    obtain ⟨x,e1,h1⟩:=hasT_i64 (P:=Tryz.prog) Tryz.underlying3 f1
    obtain ⟨y,e2,h2⟩:=hasT_i64 (P:=Tryz.prog) Tryz.underlying3 f2
    obtain ⟨s,e3,h3⟩:=hasT_str (P:=Tryz.prog) Tryz.underlying9 f3
    have f4':HasV Tryz.prog 24 (.agg [a4,a5,a6]):=⟨n,[a4,a5,a6],by unfold mkV;rw [if_pos aggVl],fun _=>by rw [cVl];rfl,f4⟩
    have f5':HasV Tryz.prog 26 (.agg [a7,a8,a9]):=⟨n,[a7,a8,a9],by unfold mkV;rw [if_pos aggKy],fun _=>by rw [cKy];rfl,f5⟩
    obtain ⟨v,e4,h4⟩:=hasV_val f4'
    obtain ⟨ky,e5,h5⟩:=hasV_key f5'
    cases n with
    | zero=>exact f6.elim
    | succ n=>
     obtain ⟨xs,e6,h6,h7⟩:=hasT_slice1 uTrs f6
     obtain ⟨l,rfl,h8⟩:=list_of (f:=trV) (Q:=okTr) xs (fun x hx=>by
      obtain ⟨cs,rfl,hc,hT⟩:=h7 x hx
      rw [cTr] at hc
      have:=ih n (by omega) cs hc hT
      unfold mkV
      rw [if_pos aggTr]
      exact this)
     unfold vlV at e4
     unfold kyV at e5
     simp only [List.drop_succ_cons,List.drop_zero,List.take_succ_cons,List.take_zero,List.cons.injEq,and_true,PV.agg.injEq] at e0 e1 e2 e3 e4 e5 e6
     obtain ⟨e41,e42,e43⟩:=e4
     obtain ⟨e51,e52,e53⟩:=e5
     subst e0 e1 e2 e3 e41 e42 e43 e51 e52 e53 e6
     refine ⟨.mk k x y s v ky l,?_,?_⟩
     · unfold trV
       rw [trVs_map]
     · unfold okTr
       exact ⟨h0,h1,h2,h3,h4,h5,by simpa using h6,(okTrs_iff l).2 h8⟩
theorem TRf:zeroCells CC 29=some [.int .i64 0,.int .i64 0,.int .i64 0,.str [],.int .i64 0,.int .i64 0,.str [],.int .i64 0,.str [],.str [],.nils]:=by kernel_rfl
end Go.HH
