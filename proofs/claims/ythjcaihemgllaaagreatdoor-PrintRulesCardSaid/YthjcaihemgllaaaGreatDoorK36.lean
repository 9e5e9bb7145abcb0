/-
  What the law needs, packed: T6 T7 T8 T9.
-/
import Derived.Test.YthjcaihemgllaaaGreatDoorK35
namespace Go.HH
open Go Go.Proofs
set_option maxRecDepth 100000
set_option maxHeartbeats 4000000
set_option linter.unusedSimpArgs false
set_option linter.unusedVariables false
def NGc (t:Tr):Prop:=∀ bx,callOp CC (callL CC) 71 [trV t] bx=some (.ret (.tup [.str (ngS (kdOf t) (an t)),.int .i64 (ngL (kdOf t))]),bx)
theorem ls_two {l:List Tr} (h:l.length=2):∃ a c,l=[a,c]:=by
 match l,h with
 | [a,c],_=>exact ⟨a,c,rfl⟩
theorem ls_one {l:List Tr} (h:l.length=1):∃ a,l=[a]:=by
 match l,h with
 | [a],_=>exact ⟨a,rfl⟩
theorem ls_three {l:List Tr} (h:l.length=3):∃ a c d,l=[a,c,d]:=by
 match l,h with
 | [a,c,d],_=>exact ⟨a,c,d,rfl⟩
theorem kd_two {k:Int} {l:List Tr} (hk:9<=k∧k<=13) (h:kdB k l.length=true):∃ a c,l=[a,c]:=by
 unfold kdB at h
 rw [if_neg (by omega),if_neg (by omega),if_pos hk] at h
 exact ls_two (by have:=eq_of_beq h;omega)
theorem kd_one {l:List Tr} (h:kdB 6 l.length=true):∃ a,l=[a]:=by
 unfold kdB at h
 rw [if_pos rfl] at h
 exact ls_one (by have:=eq_of_beq h;omega)
theorem kd_three {l:List Tr} (h:kdB 14 l.length=true):∃ a c d,l=[a,c,d]:=by
 unfold kdB at h
 rw [if_neg (by omega),if_neg (by omega),if_neg (by omega),if_pos rfl] at h
 exact ls_three (by have:=eq_of_beq h;omega)
theorem call_negated (k n m:Int) (nm:List UInt8) (v:Vl) (key:Ky) (kids:List Tr) (hv:kdB k kids.length=true) (ht:TXc (.mk k n m nm v key kids)) (htl:(TX (.mk k n m nm v key kids)).length<=200000) (hk:∀ t ∈ kids,TXc t∧(TX t).length<=200000) :
 ∃ bx,callL CC 71 [trV (.mk k n m nm v key kids)] []=some (.ret (.tup [.str (ngS k (an (.mk k n m nm v key kids))),.int .i64 (ngL k)]),bx):=by
 by_cases k9:k=9
 · subst k9
   obtain ⟨a,c,rfl⟩:=kd_two (k:=9) (by omega) hv
   have o1:=op_pair a c (hk a (by simp)).1 (hk c (by simp)).1 (hk a (by simp)).2 (hk c (by simp)).2 5 5 [33,61] (by decide)
   have e1:ngS 9 (an (.mk 9 n m nm v key [a,c]))=prS (an a) 5 [33,61] (an c) 5:=by
    unfold ngS
    rw [if_pos rfl,an_ks]
    rfl
   have e2:ngL 9=4:=rfl
   rw [e1,e2]
   clear e1 e2 hk ht htl
   generalize prS (an a) 5 [33,61] (an c) 5=s at *
   obtain ⟨ak,an',am,anm,av,akey,akids⟩:=a
   obtain ⟨ck,cn,cm,cnm,cv,ckey,ckids⟩:=c
   simp only [trV,trVs] at o1 ⊢
   have q1:=trVs_pure akids
   have q2:=trVs_pure ckids
   generalize trVs akids=xs at *
   generalize trVs ckids=ys at *
   rw [callL_enter (fn:=Tryz.f71) (c:=Tryz.f71.body.getD .skip) rfl rfl fat_print_negated rfl ok_print_negated (Nat.le_of_ble_eq_true rfl)]
   obtain ⟨ev,eo,so,co,⟨hev,hco⟩,R⟩:=RULES CC;rw [<- hev]
   rw [<- hco] at o1
   simp only [fpart,part',Tryz.f71,Option.getD]
   simp only [S9,R,seval,TRf,ss1,List.getElem?_concat_length,o1,q1,q2]
   exact ⟨_,rfl⟩
 by_cases k10:k=10
 · subst k10
   obtain ⟨a,c,rfl⟩:=kd_two (k:=10) (by omega) hv
   have o1:=op_pair c a (hk c (by simp)).1 (hk a (by simp)).1 (hk c (by simp)).2 (hk a (by simp)).2 5 5 [60,61] (by decide)
   have e1:ngS 10 (an (.mk 10 n m nm v key [a,c]))=prS (an c) 5 [60,61] (an a) 5:=by
    unfold ngS
    rw [if_neg (by omega),if_pos rfl,an_ks]
    rfl
   have e2:ngL 10=4:=rfl
   rw [e1,e2]
   clear e1 e2 hk ht htl
   generalize prS (an c) 5 [60,61] (an a) 5=s at *
   obtain ⟨ak,an',am,anm,av,akey,akids⟩:=a
   obtain ⟨ck,cn,cm,cnm,cv,ckey,ckids⟩:=c
   simp only [trV,trVs] at o1 ⊢
   have q1:=trVs_pure akids
   have q2:=trVs_pure ckids
   generalize trVs akids=xs at *
   generalize trVs ckids=ys at *
   rw [callL_enter (fn:=Tryz.f71) (c:=Tryz.f71.body.getD .skip) rfl rfl fat_print_negated rfl ok_print_negated (Nat.le_of_ble_eq_true rfl)]
   obtain ⟨ev,eo,so,co,⟨hev,hco⟩,R⟩:=RULES CC;rw [<- hev]
   rw [<- hco] at o1
   simp only [fpart,part',Tryz.f71,Option.getD]
   simp only [S9,R,seval,TRf,ss1,List.getElem?_concat_length,o1,q1,q2]
   exact ⟨_,rfl⟩
 have p9:(k == 9)=false:=by simpa using k9
 have p10:(k == 10)=false:=by simpa using k10
 have o1:=op_kid _ ht htl 3
 have kl:=kdS_len (an (.mk k n m nm v key kids)) 3
 have e0:TX (.mk k n m nm v key kids)=(an (.mk k n m nm v key kids)).s:=rfl
 rw [e0] at htl
 have e1:ngS k (an (.mk k n m nm v key kids))=cat [110,111,116,32] (kdS (an (.mk k n m nm v key kids)) 3):=by unfold ngS;rw [if_neg k9,if_neg k10]
 have e2:ngL k=3:=by unfold ngL;rw [if_neg k9,if_neg k10]
 rw [e1,e2]
 clear e0 e1 e2 ht hk
 generalize kdS (an (.mk k n m nm v key kids)) 3=s at *
 have c1:=catA (a:=[110,111,116,32]) (b:=s) (by simp only [List.length_cons,List.length_nil];omega)
 simp only [trV] at o1 ⊢
 generalize trVs kids=xs at *
 rw [callL_enter (fn:=Tryz.f71) (c:=Tryz.f71.body.getD .skip) rfl rfl fat_print_negated rfl ok_print_negated (Nat.le_of_ble_eq_true rfl)]
 obtain ⟨ev,eo,so,co,⟨hev,hco⟩,R⟩:=RULES CC;rw [<- hev]
 rw [<- hco] at o1
 simp only [fpart,part',Tryz.f71,Option.getD]
 simp only [S9,R,seval,TRf,ss1,List.getElem?_concat_length,o1,c1,p9,p10]
 exact ⟨_,rfl⟩
theorem op_negated (k n m:Int) (nm:List UInt8) (v:Vl) (key:Ky) (kids:List Tr) (hv:kdB k kids.length=true) (ht:TXc (.mk k n m nm v key kids)) (htl:(TX (.mk k n m nm v key kids)).length<=200000) (hk:∀ t ∈ kids,TXc t∧(TX t).length<=200000):NGc (.mk k n m nm v key kids):=fun bx=>by
 obtain ⟨c,hc⟩:=call_negated k n m nm v key kids hv ht htl hk
 exact callOp_of rfl (by simp only [pureL_cons,trV_pure,pureL_nil,Bool.and_self]) hc rfl
theorem TX_eq (k n m:Int) (nm:List UInt8) (v:Vl) (key:Ky) (kids:List Tr):TX (.mk k n m nm v key kids)=bdT k n m nm v key kids (ans kids):=by unfold TX;rw [an_eq];rfl
theorem LV_eq (k n m:Int) (nm:List UInt8) (v:Vl) (key:Ky) (kids:List Tr):LV (.mk k n m nm v key kids)=blT k v kids:=by unfold LV;rw [an_eq];rfl
theorem call_text_1 (n m:Int) (nm:List UInt8) (v:Vl) (key:Ky) (kids:List Tr) (hn:inI v.2.1) (hc:ckV v=0) (h0:v.1≠0):∃ bx,callL CC 37 [trV (.mk 1 n m nm v key kids)] []=some (.ret (.tup [.str (TX (.mk 1 n m nm v key kids)),.int .i64 (LV (.mk 1 n m nm v key kids))]),bx):=by
 have e1:TX (.mk 1 n m nm v key kids)=prV v:=by rw [TX_eq];unfold bdT;simp only [Int.reduceEq,if_true,if_false]
 have e2:LV (.mk 1 n m nm v key kids)=lvV v:=by rw [LV_eq];unfold blT;simp only [Int.reduceEq,if_true,if_false]
 rw [e1,e2]
 have o1:=op_literal v hn hc h0
 generalize prV v=s at *
 generalize lvV v=lv at *
 unfold vlV at o1
 simp only [trV]
 generalize trVs kids=xs at *
 clear e1 e2 hc h0
 rw [callL_enter (fn:=Tryz.f37) (c:=Tryz.f37.body.getD .skip) rfl rfl fat_print_text rfl ok_print_text (Nat.le_of_ble_eq_true rfl)]
 obtain ⟨ev,eo,so,co,⟨hev,hco⟩,R⟩:=RULES CC;rw [<- hev]
 rw [<- hco] at o1
 simp only [fpart,part',Tryz.f37,Option.getD]
 simp only [S9,R,seval,TRf,ss1,List.getElem?_concat_length,o1]
 exact ⟨_,rfl⟩
theorem call_text_8 (n m:Int) (nm:List UInt8) (v:Vl) (key:Ky) (kids:List Tr) (hl:kids.length<=1000) (hk:∀ t ∈ kids,TXc t∧(TX t).length<=200000):∃ bx,callL CC 37 [trV (.mk 8 n m nm v key kids)] []=some (.ret (.tup [.str (TX (.mk 8 n m nm v key kids)),.int .i64 (LV (.mk 8 n m nm v key kids))]),bx):=by
 have e1:TX (.mk 8 n m nm v key kids)=rowS [111,114] 2 (ans kids) 0 []:=by rw [TX_eq];unfold bdT;simp only [Int.reduceEq,if_true,if_false]
 have e2:LV (.mk 8 n m nm v key kids)=1:=by rw [LV_eq];unfold blT;simp only [Int.reduceEq,if_true,if_false]
 rw [e1,e2]
 have o1:=op_row kids hl [111,114] (by decide) 2 hk
 generalize rowS [111,114] 2 (ans kids) 0 []=s at *
 simp only [trV]
 generalize trVs kids=xs at *
 clear e1 e2 hk
 rw [callL_enter (fn:=Tryz.f37) (c:=Tryz.f37.body.getD .skip) rfl rfl fat_print_text rfl ok_print_text (Nat.le_of_ble_eq_true rfl)]
 obtain ⟨ev,eo,so,co,⟨hev,hco⟩,R⟩:=RULES CC;rw [<- hev]
 rw [<- hco] at o1
 simp only [fpart,part',Tryz.f37,Option.getD]
 simp only [S9,R,seval,TRf,ss1,List.getElem?_concat_length,o1]
 exact ⟨_,rfl⟩
theorem call_text_7 (n m:Int) (nm:List UInt8) (v:Vl) (key:Ky) (kids:List Tr) (hl:kids.length<=1000) (hk:∀ t ∈ kids,TXc t∧(TX t).length<=200000):∃ bx,callL CC 37 [trV (.mk 7 n m nm v key kids)] []=some (.ret (.tup [.str (TX (.mk 7 n m nm v key kids)),.int .i64 (LV (.mk 7 n m nm v key kids))]),bx):=by
 have e1:TX (.mk 7 n m nm v key kids)=rowS [97,110,100] 3 (ans kids) 0 []:=by rw [TX_eq];unfold bdT;simp only [Int.reduceEq,if_true,if_false]
 have e2:LV (.mk 7 n m nm v key kids)=2:=by rw [LV_eq];unfold blT;simp only [Int.reduceEq,if_true,if_false]
 rw [e1,e2]
 have o1:=op_row kids hl [97,110,100] (by decide) 3 hk
 generalize rowS [97,110,100] 3 (ans kids) 0 []=s at *
 simp only [trV]
 generalize trVs kids=xs at *
 clear e1 e2 hk
 rw [callL_enter (fn:=Tryz.f37) (c:=Tryz.f37.body.getD .skip) rfl rfl fat_print_text rfl ok_print_text (Nat.le_of_ble_eq_true rfl)]
 obtain ⟨ev,eo,so,co,⟨hev,hco⟩,R⟩:=RULES CC;rw [<- hev]
 rw [<- hco] at o1
 simp only [fpart,part',Tryz.f37,Option.getD]
 simp only [S9,R,seval,TRf,ss1,List.getElem?_concat_length,o1]
 exact ⟨_,rfl⟩
theorem call_text_9 (n m:Int) (nm:List UInt8) (v:Vl) (key:Ky) (kids:List Tr) (hv:kdB 9 kids.length=true) (hk:∀ t ∈ kids,TXc t∧(TX t).length<=200000):∃ bx,callL CC 37 [trV (.mk 9 n m nm v key kids)] []=some (.ret (.tup [.str (TX (.mk 9 n m nm v key kids)),.int .i64 (LV (.mk 9 n m nm v key kids))]),bx):=by
 obtain ⟨a,c,rfl⟩:=kd_two (k:=9) (by omega) hv
 have e1:TX (.mk 9 n m nm v key [a,c])=prS (an a) 5 [61,61] (an c) 5:=by rw [TX_eq];unfold bdT;simp only [Int.reduceEq,if_true,if_false];try rfl
 have e2:LV (.mk 9 n m nm v key [a,c])=4:=by rw [LV_eq];unfold blT;simp only [Int.reduceEq,if_true,if_false];try rfl
 rw [e1,e2]
 have o1:=op_pair a c (hk a (by simp)).1 (hk c (by simp)).1 (hk a (by simp)).2 (hk c (by simp)).2 5 5 [61,61] (by decide)
 clear e1 e2 hk
 generalize prS (an a) 5 [61,61] (an c) 5=s at *
 obtain ⟨ak,an',am,anm,av,akey,akids⟩:=a
 obtain ⟨ck,cn,cm,cnm,cv,ckey,ckids⟩:=c
 simp only [trV,trVs] at o1 ⊢
 have q1:=trVs_pure akids
 have q2:=trVs_pure ckids
 generalize trVs akids=xs at *
 generalize trVs ckids=ys at *
 rw [callL_enter (fn:=Tryz.f37) (c:=Tryz.f37.body.getD .skip) rfl rfl fat_print_text rfl ok_print_text (Nat.le_of_ble_eq_true rfl)]
 obtain ⟨ev,eo,so,co,⟨hev,hco⟩,R⟩:=RULES CC;rw [<- hev]
 rw [<- hco] at o1
 simp only [fpart,part',Tryz.f37,Option.getD]
 simp only [S9,R,seval,TRf,ss1,List.getElem?_concat_length,o1,q1,q2]
 exact ⟨_,rfl⟩
theorem call_text_10 (n m:Int) (nm:List UInt8) (v:Vl) (key:Ky) (kids:List Tr) (hv:kdB 10 kids.length=true) (hk:∀ t ∈ kids,TXc t∧(TX t).length<=200000):∃ bx,callL CC 37 [trV (.mk 10 n m nm v key kids)] []=some (.ret (.tup [.str (TX (.mk 10 n m nm v key kids)),.int .i64 (LV (.mk 10 n m nm v key kids))]),bx):=by
 obtain ⟨a,c,rfl⟩:=kd_two (k:=10) (by omega) hv
 have e1:TX (.mk 10 n m nm v key [a,c])=prS (an a) 5 [60] (an c) 5:=by rw [TX_eq];unfold bdT;simp only [Int.reduceEq,if_true,if_false];try rfl
 have e2:LV (.mk 10 n m nm v key [a,c])=4:=by rw [LV_eq];unfold blT;simp only [Int.reduceEq,if_true,if_false];try rfl
 rw [e1,e2]
 have o1:=op_pair a c (hk a (by simp)).1 (hk c (by simp)).1 (hk a (by simp)).2 (hk c (by simp)).2 5 5 [60] (by decide)
 clear e1 e2 hk
 generalize prS (an a) 5 [60] (an c) 5=s at *
 obtain ⟨ak,an',am,anm,av,akey,akids⟩:=a
 obtain ⟨ck,cn,cm,cnm,cv,ckey,ckids⟩:=c
 simp only [trV,trVs] at o1 ⊢
 have q1:=trVs_pure akids
 have q2:=trVs_pure ckids
 generalize trVs akids=xs at *
 generalize trVs ckids=ys at *
 rw [callL_enter (fn:=Tryz.f37) (c:=Tryz.f37.body.getD .skip) rfl rfl fat_print_text rfl ok_print_text (Nat.le_of_ble_eq_true rfl)]
 obtain ⟨ev,eo,so,co,⟨hev,hco⟩,R⟩:=RULES CC;rw [<- hev]
 rw [<- hco] at o1
 simp only [fpart,part',Tryz.f37,Option.getD]
 simp only [S9,R,seval,TRf,ss1,List.getElem?_concat_length,o1,q1,q2]
 exact ⟨_,rfl⟩
theorem call_text_11 (n m:Int) (nm:List UInt8) (v:Vl) (key:Ky) (kids:List Tr) (hv:kdB 11 kids.length=true) (hk:∀ t ∈ kids,TXc t∧(TX t).length<=200000):∃ bx,callL CC 37 [trV (.mk 11 n m nm v key kids)] []=some (.ret (.tup [.str (TX (.mk 11 n m nm v key kids)),.int .i64 (LV (.mk 11 n m nm v key kids))]),bx):=by
 obtain ⟨a,c,rfl⟩:=kd_two (k:=11) (by omega) hv
 have e1:TX (.mk 11 n m nm v key [a,c])=prS (an a) 5 [43] (an c) 6:=by rw [TX_eq];unfold bdT;simp only [Int.reduceEq,if_true,if_false];try rfl
 have e2:LV (.mk 11 n m nm v key [a,c])=5:=by rw [LV_eq];unfold blT;simp only [Int.reduceEq,if_true,if_false];try rfl
 rw [e1,e2]
 have o1:=op_pair a c (hk a (by simp)).1 (hk c (by simp)).1 (hk a (by simp)).2 (hk c (by simp)).2 5 6 [43] (by decide)
 clear e1 e2 hk
 generalize prS (an a) 5 [43] (an c) 6=s at *
 obtain ⟨ak,an',am,anm,av,akey,akids⟩:=a
 obtain ⟨ck,cn,cm,cnm,cv,ckey,ckids⟩:=c
 simp only [trV,trVs] at o1 ⊢
 have q1:=trVs_pure akids
 have q2:=trVs_pure ckids
 generalize trVs akids=xs at *
 generalize trVs ckids=ys at *
 rw [callL_enter (fn:=Tryz.f37) (c:=Tryz.f37.body.getD .skip) rfl rfl fat_print_text rfl ok_print_text (Nat.le_of_ble_eq_true rfl)]
 obtain ⟨ev,eo,so,co,⟨hev,hco⟩,R⟩:=RULES CC;rw [<- hev]
 rw [<- hco] at o1
 simp only [fpart,part',Tryz.f37,Option.getD]
 simp only [S9,R,seval,TRf,ss1,List.getElem?_concat_length,o1,q1,q2]
 exact ⟨_,rfl⟩
theorem call_text_13 (n m:Int) (nm:List UInt8) (v:Vl) (key:Ky) (kids:List Tr) (hv:kdB 13 kids.length=true) (hk:∀ t ∈ kids,TXc t∧(TX t).length<=200000):∃ bx,callL CC 37 [trV (.mk 13 n m nm v key kids)] []=some (.ret (.tup [.str (TX (.mk 13 n m nm v key kids)),.int .i64 (LV (.mk 13 n m nm v key kids))]),bx):=by
 obtain ⟨a,c,rfl⟩:=kd_two (k:=13) (by omega) hv
 have e1:TX (.mk 13 n m nm v key [a,c])=prS (an a) 6 [42] (an c) 7:=by rw [TX_eq];unfold bdT;simp only [Int.reduceEq,if_true,if_false];try rfl
 have e2:LV (.mk 13 n m nm v key [a,c])=6:=by rw [LV_eq];unfold blT;simp only [Int.reduceEq,if_true,if_false];try rfl
 rw [e1,e2]
 have o1:=op_pair a c (hk a (by simp)).1 (hk c (by simp)).1 (hk a (by simp)).2 (hk c (by simp)).2 6 7 [42] (by decide)
 clear e1 e2 hk
 generalize prS (an a) 6 [42] (an c) 7=s at *
 obtain ⟨ak,an',am,anm,av,akey,akids⟩:=a
 obtain ⟨ck,cn,cm,cnm,cv,ckey,ckids⟩:=c
 simp only [trV,trVs] at o1 ⊢
 have q1:=trVs_pure akids
 have q2:=trVs_pure ckids
 generalize trVs akids=xs at *
 generalize trVs ckids=ys at *
 rw [callL_enter (fn:=Tryz.f37) (c:=Tryz.f37.body.getD .skip) rfl rfl fat_print_text rfl ok_print_text (Nat.le_of_ble_eq_true rfl)]
 obtain ⟨ev,eo,so,co,⟨hev,hco⟩,R⟩:=RULES CC;rw [<- hev]
 rw [<- hco] at o1
 simp only [fpart,part',Tryz.f37,Option.getD]
 simp only [S9,R,seval,TRf,ss1,List.getElem?_concat_length,o1,q1,q2]
 exact ⟨_,rfl⟩
end Go.HH
namespace Go.HH
open Go Go.Proofs
set_option maxRecDepth 100000
set_option maxHeartbeats 4000000
set_option linter.unusedSimpArgs false
set_option linter.unusedVariables false
theorem call_text_14 (n m:Int) (nm:List UInt8) (v:Vl) (key:Ky) (kids:List Tr) (hv:kdB 14 kids.length=true) (hk:∀ t ∈ kids,TXc t∧(TX t).length<=200000):∃ bx,callL CC 37 [trV (.mk 14 n m nm v key kids)] []=some (.ret (.tup [.str (TX (.mk 14 n m nm v key kids)),.int .i64 (LV (.mk 14 n m nm v key kids))]),bx):=by
 obtain ⟨a,c,d,rfl⟩:=kd_three hv
 have e1:TX (.mk 14 n m nm v key [a,c,d])=cat (cat (cat (cat (cat [105,102,32] (kdS (an a) 0)) [32,116,104,101,110,32]) (kdS (an c) 0)) [32,101,108,115,101,32]) (kdS (an d) 0):=by rw [TX_eq];unfold bdT;simp only [Int.reduceEq,if_true,if_false];try rfl
 have e2:LV (.mk 14 n m nm v key [a,c,d])=0:=by rw [LV_eq];unfold blT;simp only [Int.reduceEq,if_true,if_false];try rfl
 rw [e1,e2]
 have o1:=op_kid a (hk a (by simp)).1 (hk a (by simp)).2 0
 have o2:=op_kid c (hk c (by simp)).1 (hk c (by simp)).2 0
 have o3:=op_kid d (hk d (by simp)).1 (hk d (by simp)).2 0
 have l1:=kdS_len (an a) 0
 have l2:=kdS_len (an c) 0
 have l3:=kdS_len (an d) 0
 have m1:(an a).s.length<=200000:=(hk a (by simp)).2
 have m2:(an c).s.length<=200000:=(hk c (by simp)).2
 have m3:(an d).s.length<=200000:=(hk d (by simp)).2
 clear e1 e2 hk
 generalize kdS (an a) 0=s1 at *
 generalize kdS (an c) 0=s2 at *
 generalize kdS (an d) 0=s3 at *
 have c1:=catA (a:=[105,102,32]) (b:=s1) (by simp only [List.length_cons,List.length_nil];omega)
 have c2:=catA (a:=cat [105,102,32] s1) (b:=[32,116,104,101,110,32]) (by simp only [cat_len,List.length_cons,List.length_nil];omega)
 have c3:=catA (a:=cat (cat [105,102,32] s1) [32,116,104,101,110,32]) (b:=s2) (by simp only [cat_len,List.length_cons,List.length_nil];omega)
 have c4:=catA (a:=cat (cat (cat [105,102,32] s1) [32,116,104,101,110,32]) s2) (b:=[32,101,108,115,101,32]) (by simp only [cat_len,List.length_cons,List.length_nil];omega)
 have c5:=catA (a:=cat (cat (cat (cat [105,102,32] s1) [32,116,104,101,110,32]) s2) [32,101,108,115,101,32]) (b:=s3) (by simp only [cat_len,List.length_cons,List.length_nil];omega)
 clear l1 l2 l3 m1 m2 m3
 obtain ⟨ak,an,am,anm,av,akey,akids⟩:=a
 obtain ⟨ck,cn,cm,cnm,cv,ckey,ckids⟩:=c
 obtain ⟨dk,dn,dm,dnm,dv,dkey,dkids⟩:=d
 simp only [trV,trVs] at o1 o2 o3 ⊢
 have q1:=trVs_pure akids
 have q2:=trVs_pure ckids
 have q3:=trVs_pure dkids
 generalize trVs akids=xs at *
 generalize trVs ckids=ys at *
 generalize trVs dkids=zs at *
 rw [callL_enter (fn:=Tryz.f37) (c:=Tryz.f37.body.getD .skip) rfl rfl fat_print_text rfl ok_print_text (Nat.le_of_ble_eq_true rfl)]
 obtain ⟨ev,eo,so,co,⟨hev,hco⟩,R⟩:=RULES CC;rw [<- hev]
 rw [<- hco] at o1 o2 o3
 simp only [fpart,part',Tryz.f37,Option.getD]
 simp only [S9,R,seval,TRf,ss1,List.getElem?_concat_length,o1,o2,o3,c1,c2,c3,c4,c5,q1,q2,q3]
 exact ⟨_,rfl⟩
theorem call_text_6 (n m:Int) (nm:List UInt8) (v:Vl) (key:Ky) (kids:List Tr) (a:Tr) (hkd:kids=[a]) (hng:NGc a):∃ bx,callL CC 37 [trV (.mk 6 n m nm v key kids)] []=some (.ret (.tup [.str (TX (.mk 6 n m nm v key kids)),.int .i64 (LV (.mk 6 n m nm v key kids))]),bx):=by
 subst hkd
 have e1:TX (.mk 6 n m nm v key [a])=ngS (kdOf a) (an a):=by rw [TX_eq];unfold bdT;simp only [Int.reduceEq,if_true,if_false];try rfl
 have e2:LV (.mk 6 n m nm v key [a])=ngL (kdOf a):=by rw [LV_eq];unfold blT;simp only [Int.reduceEq,if_true,if_false];try rfl
 rw [e1,e2]
 have o1:=hng
 unfold NGc at o1
 clear e1 e2 hng
 generalize ngS (kdOf a) (an a)=s at *
 generalize ngL (kdOf a)=lv at *
 obtain ⟨ak,an,am,anm,av,akey,akids⟩:=a
 simp only [trV,trVs] at o1 ⊢
 have q1:=trVs_pure akids
 generalize trVs akids=xs at *
 rw [callL_enter (fn:=Tryz.f37) (c:=Tryz.f37.body.getD .skip) rfl rfl fat_print_text rfl ok_print_text (Nat.le_of_ble_eq_true rfl)]
 obtain ⟨ev,eo,so,co,⟨hev,hco⟩,R⟩:=RULES CC;rw [<- hev]
 rw [<- hco] at o1
 simp only [fpart,part',Tryz.f37,Option.getD]
 simp only [S9,R,seval,TRf,ss1,List.getElem?_concat_length,o1,q1]
 exact ⟨_,rfl⟩
theorem call_text_12 (n m:Int) (nm:List UInt8) (v:Vl) (key:Ky) (kids:List Tr) (hv:kdB 12 kids.length=true) (hk:∀ t ∈ kids,TXc t∧(TX t).length<=200000):∃ bx,callL CC 37 [trV (.mk 12 n m nm v key kids)] []=some (.ret (.tup [.str (TX (.mk 12 n m nm v key kids)),.int .i64 (LV (.mk 12 n m nm v key kids))]),bx):=by
 obtain ⟨a,c,rfl⟩:=kd_two (k:=12) (by omega) hv
 have e1:TX (.mk 12 n m nm v key [a,c])=(if mnB [a,c] then cat [45] (kdS (an c) 7) else prS (an a) 5 [45] (an c) 6):=by rw [TX_eq];unfold bdT;simp only [Int.reduceEq,if_true,if_false];try rfl
 have e2:LV (.mk 12 n m nm v key [a,c])=(if mnB [a,c] then 7 else 5):=by rw [LV_eq];unfold blT;simp only [Int.reduceEq,if_true,if_false];try rfl
 rw [e1,e2]
 have o1:=op_pair a c (hk a (by simp)).1 (hk c (by simp)).1 (hk a (by simp)).2 (hk c (by simp)).2 5 6 [45] (by decide)
 have o2:=op_kid c (hk c (by simp)).1 (hk c (by simp)).2 7
 have o3:=op_minus 12 n m nm v key a c
 have l2:=kdS_len (an c) 7
 have m2:(an c).s.length<=200000:=(hk c (by simp)).2
 clear e1 e2 hk
 generalize prS (an a) 5 [45] (an c) 6=s at *
 generalize kdS (an c) 7=s2 at *
 have c1:=catA (a:=[45]) (b:=s2) (by simp only [List.length_cons,List.length_nil];omega)
 clear l2 m2
 generalize mnB [a,c]=q at *
 obtain ⟨ak,an',am,anm,av,akey,akids⟩:=a
 obtain ⟨ck,cn,cm,cnm,cv,ckey,ckids⟩:=c
 simp only [trV,trVs] at o1 o2 o3 ⊢
 have q1:=trVs_pure akids
 have q2:=trVs_pure ckids
 generalize trVs akids=xs at *
 generalize trVs ckids=ys at *
 rw [callL_enter (fn:=Tryz.f37) (c:=Tryz.f37.body.getD .skip) rfl rfl fat_print_text rfl ok_print_text (Nat.le_of_ble_eq_true rfl)]
 cases q with
 | true=>
  rw [if_pos rfl,if_pos rfl]
  obtain ⟨ev,eo,so,co,⟨hev,hco⟩,R⟩:=RULES CC;rw [<- hev]
  rw [<- hco] at o1 o2 o3
  simp only [fpart,part',Tryz.f37,Option.getD]
  simp only [S9,R,seval,TRf,ss1,List.getElem?_concat_length,o1,o2,o3,c1,q1,q2]
  exact ⟨_,rfl⟩
 | false=>
  rw [if_neg (by simp),if_neg (by simp)]
  obtain ⟨ev,eo,so,co,⟨hev,hco⟩,R⟩:=RULES CC;rw [<- hev]
  rw [<- hco] at o1 o2 o3
  simp only [fpart,part',Tryz.f37,Option.getD]
  simp only [S9,R,seval,TRf,ss1,List.getElem?_concat_length,o1,o2,o3,c1,q1,q2]
  exact ⟨_,rfl⟩
theorem call_text_2 (n m:Int) (nm:List UInt8) (v:Vl) (key:Ky) (kids:List Tr) (hr:rgB 2 n m key.1=true) (hd:inI key.1) (l1:nm.length<=100) (l2:key.2.1.length<=100) (l3:key.2.2.length<=100):∃ bx,callL CC 37 [trV (.mk 2 n m nm v key kids)] []=some (.ret (.tup [.str (TX (.mk 2 n m nm v key kids)),.int .i64 (LV (.mk 2 n m nm v key kids))]),bx):=by
 have e1:TX (.mk 2 n m nm v key kids)=prmT 2 n m nm key:=by rw [TX_eq];unfold bdT;simp only [Int.reduceEq,if_true,if_false]
 have e2:LV (.mk 2 n m nm v key kids)=8:=by rw [LV_eq];unfold blT;simp only [Int.reduceEq,if_true,if_false]
 rw [e1,e2]
 have o1:=op_primary 2 n m nm v key kids (by omega) hr hd l1 l2 l3
 clear e1 e2 hr hd l1 l2 l3
 generalize prmT 2 n m nm key=s at *
 simp only [trV] at o1 ⊢
 generalize trVs kids=xs at *
 rw [callL_enter (fn:=Tryz.f37) (c:=Tryz.f37.body.getD .skip) rfl rfl fat_print_text rfl ok_print_text (Nat.le_of_ble_eq_true rfl)]
 obtain ⟨ev,eo,so,co,⟨hev,hco⟩,R⟩:=RULES CC;rw [<- hev]
 rw [<- hco] at o1
 simp only [fpart,part',Tryz.f37,Option.getD]
 simp only [S9,R,seval,TRf,ss1,List.getElem?_concat_length,o1]
 exact ⟨_,rfl⟩
theorem call_text_3 (n m:Int) (nm:List UInt8) (v:Vl) (key:Ky) (kids:List Tr) (hr:rgB 3 n m key.1=true) (hd:inI key.1) (l1:nm.length<=100) (l2:key.2.1.length<=100) (l3:key.2.2.length<=100):∃ bx,callL CC 37 [trV (.mk 3 n m nm v key kids)] []=some (.ret (.tup [.str (TX (.mk 3 n m nm v key kids)),.int .i64 (LV (.mk 3 n m nm v key kids))]),bx):=by
 have e1:TX (.mk 3 n m nm v key kids)=prmT 3 n m nm key:=by rw [TX_eq];unfold bdT;simp only [Int.reduceEq,if_true,if_false]
 have e2:LV (.mk 3 n m nm v key kids)=8:=by rw [LV_eq];unfold blT;simp only [Int.reduceEq,if_true,if_false]
 rw [e1,e2]
 have o1:=op_primary 3 n m nm v key kids (by omega) hr hd l1 l2 l3
 clear e1 e2 hr hd l1 l2 l3
 generalize prmT 3 n m nm key=s at *
 simp only [trV] at o1 ⊢
 generalize trVs kids=xs at *
 rw [callL_enter (fn:=Tryz.f37) (c:=Tryz.f37.body.getD .skip) rfl rfl fat_print_text rfl ok_print_text (Nat.le_of_ble_eq_true rfl)]
 obtain ⟨ev,eo,so,co,⟨hev,hco⟩,R⟩:=RULES CC;rw [<- hev]
 rw [<- hco] at o1
 simp only [fpart,part',Tryz.f37,Option.getD]
 simp only [S9,R,seval,TRf,ss1,List.getElem?_concat_length,o1]
 exact ⟨_,rfl⟩
theorem call_text_4 (n m:Int) (nm:List UInt8) (v:Vl) (key:Ky) (kids:List Tr) (hr:rgB 4 n m key.1=true) (hd:inI key.1) (l1:nm.length<=100) (l2:key.2.1.length<=100) (l3:key.2.2.length<=100):∃ bx,callL CC 37 [trV (.mk 4 n m nm v key kids)] []=some (.ret (.tup [.str (TX (.mk 4 n m nm v key kids)),.int .i64 (LV (.mk 4 n m nm v key kids))]),bx):=by
 have e1:TX (.mk 4 n m nm v key kids)=prmT 4 n m nm key:=by rw [TX_eq];unfold bdT;simp only [Int.reduceEq,if_true,if_false]
 have e2:LV (.mk 4 n m nm v key kids)=8:=by rw [LV_eq];unfold blT;simp only [Int.reduceEq,if_true,if_false]
 rw [e1,e2]
 have o1:=op_primary 4 n m nm v key kids (by omega) hr hd l1 l2 l3
 clear e1 e2 hr hd l1 l2 l3
 generalize prmT 4 n m nm key=s at *
 simp only [trV] at o1 ⊢
 generalize trVs kids=xs at *
 rw [callL_enter (fn:=Tryz.f37) (c:=Tryz.f37.body.getD .skip) rfl rfl fat_print_text rfl ok_print_text (Nat.le_of_ble_eq_true rfl)]
 obtain ⟨ev,eo,so,co,⟨hev,hco⟩,R⟩:=RULES CC;rw [<- hev]
 rw [<- hco] at o1
 simp only [fpart,part',Tryz.f37,Option.getD]
 simp only [S9,R,seval,TRf,ss1,List.getElem?_concat_length,o1]
 exact ⟨_,rfl⟩
theorem call_text_5 (n m:Int) (nm:List UInt8) (v:Vl) (key:Ky) (kids:List Tr) (hr:rgB 5 n m key.1=true) (hd:inI key.1) (l1:nm.length<=100) (l2:key.2.1.length<=100) (l3:key.2.2.length<=100):∃ bx,callL CC 37 [trV (.mk 5 n m nm v key kids)] []=some (.ret (.tup [.str (TX (.mk 5 n m nm v key kids)),.int .i64 (LV (.mk 5 n m nm v key kids))]),bx):=by
 have e1:TX (.mk 5 n m nm v key kids)=prmT 5 n m nm key:=by rw [TX_eq];unfold bdT;simp only [Int.reduceEq,if_true,if_false]
 have e2:LV (.mk 5 n m nm v key kids)=8:=by rw [LV_eq];unfold blT;simp only [Int.reduceEq,if_true,if_false]
 rw [e1,e2]
 have o1:=op_primary 5 n m nm v key kids (by omega) hr hd l1 l2 l3
 clear e1 e2 hr hd l1 l2 l3
 generalize prmT 5 n m nm key=s at *
 simp only [trV] at o1 ⊢
 generalize trVs kids=xs at *
 rw [callL_enter (fn:=Tryz.f37) (c:=Tryz.f37.body.getD .skip) rfl rfl fat_print_text rfl ok_print_text (Nat.le_of_ble_eq_true rfl)]
 obtain ⟨ev,eo,so,co,⟨hev,hco⟩,R⟩:=RULES CC;rw [<- hev]
 rw [<- hco] at o1
 simp only [fpart,part',Tryz.f37,Option.getD]
 simp only [S9,R,seval,TRf,ss1,List.getElem?_concat_length,o1]
 exact ⟨_,rfl⟩
theorem call_text_15 (n m:Int) (nm:List UInt8) (v:Vl) (key:Ky) (kids:List Tr) (hr:rgB 15 n m key.1=true) (hd:inI key.1) (l1:nm.length<=100) (l2:key.2.1.length<=100) (l3:key.2.2.length<=100):∃ bx,callL CC 37 [trV (.mk 15 n m nm v key kids)] []=some (.ret (.tup [.str (TX (.mk 15 n m nm v key kids)),.int .i64 (LV (.mk 15 n m nm v key kids))]),bx):=by
 have e1:TX (.mk 15 n m nm v key kids)=prmT 15 n m nm key:=by rw [TX_eq];unfold bdT;simp only [Int.reduceEq,if_true,if_false]
 have e2:LV (.mk 15 n m nm v key kids)=8:=by rw [LV_eq];unfold blT;simp only [Int.reduceEq,if_true,if_false]
 rw [e1,e2]
 have o1:=op_primary 15 n m nm v key kids (by omega) hr hd l1 l2 l3
 clear e1 e2 hr hd l1 l2 l3
 generalize prmT 15 n m nm key=s at *
 simp only [trV] at o1 ⊢
 generalize trVs kids=xs at *
 rw [callL_enter (fn:=Tryz.f37) (c:=Tryz.f37.body.getD .skip) rfl rfl fat_print_text rfl ok_print_text (Nat.le_of_ble_eq_true rfl)]
 obtain ⟨ev,eo,so,co,⟨hev,hco⟩,R⟩:=RULES CC;rw [<- hev]
 rw [<- hco] at o1
 simp only [fpart,part',Tryz.f37,Option.getD]
 simp only [S9,R,seval,TRf,ss1,List.getElem?_concat_length,o1]
 exact ⟨_,rfl⟩
theorem prm_len (k n m:Int) (nm:List UInt8) (key:Ky) (hk:k=2∨k=3∨k=4∨k=5∨k=15) (hr:rgB k n m key.1=true) (hd:inI key.1) (l1:nm.length<=100) (l2:key.2.1.length<=100) (l3:key.2.2.length<=100):(prmT k n m nm key).length<=300:=by
 have hi:=itoa_length hd
 have hdl:∀ w ∈ dayW,w.length=3:=by decide
 have hdy:∀ (l:List (List UInt8)) (q:Nat),(∀ w ∈ l,w.length=3)->(dayL q l).length<=4 * l.length:=by
  intro l
  induction l with
  | nil=>intro q _;simp [dayL]
  | cons w r ih=>
   intro q hw
   have h3:=hw w List.mem_cons_self
   have hr:=ih (q / 2) (fun x hx=>hw x (List.mem_cons_of_mem _ hx))
   unfold dayL
   split
   · split
     · simp only [List.length_cons];omega
     · simp only [List.length_append,List.length_cons];omega
   · simp only [List.length_cons];omega
 have hd2:=hdy dayW n.toNat hdl
 have h7:dayW.length=7:=rfl
 unfold prmT
 split
 · unfold dotT
   simp only [cat_len,List.length_singleton]
   omega
 split
 · simp only [cat_len,List.length_cons,List.length_nil]
   omega
 split
 · have e1:(clkT n.toNat).length=5:=rfl
   have e2:(clkT m.toNat).length=5:=rfl
   simp only [cat_len,List.length_cons,List.length_nil,e1,e2]
   omega
 split
 · unfold dayN
   simp only [List.length_append,List.length_cons,List.length_nil]
   omega
 · unfold homeN
   split <;> decide
theorem pr_len (v:Vl) (h:inI v.2.1):(prV v).length<=300:=by
 unfold prV
 have hi:=itoa_length h
 split
 · simp
 · rename_i hc
   have hk:=ck_len (v:=v) (by omega)
   split
   · decide
   · split
     · split <;> decide
     · split
       · omega
       · split
         · simp only [List.length_cons];omega
         · have:=flat_le v.2.2
           have:=quoteL_length v.2.2
           omega
end Go.HH
namespace Go.HH
open Go Go.Proofs
set_option maxRecDepth 100000
set_option maxHeartbeats 4000000
set_option linter.unusedSimpArgs false
set_option linter.unusedVariables false
theorem nd_ok {k n m:Int} {nm:List UInt8} {v:Vl} {key:Ky} {kids:List Tr} (h:ndT (.mk k n m nm v key kids)=0):1<=k∧k<=15∧kdB k kids.length=true∧rgB k n m key.1=true∧(k=1->ckV v=0∧v.1≠0):=by
 unfold ndT at h
 dsimp only at h
 by_cases h1:k < 1∨15 < k
 · rw [if_pos h1] at h;simp at h
 rw [if_neg h1] at h
 by_cases h2:kdB k kids.length=false∨spT (.mk k n m nm v key kids)=true
 · rw [if_pos h2] at h;simp at h
 rw [if_neg h2] at h
 by_cases h3:rgB k n m key.1=false
 · rw [if_pos h3] at h;simp at h
 rw [if_neg h3] at h
 have b2:kdB k kids.length=true:=by
  cases hb:kdB k kids.length with
  | true=>rfl
  | false=>exact absurd (.inl hb) h2
 have b3:rgB k n m key.1=true:=by
  cases hb:rgB k n m key.1 with
  | true=>rfl
  | false=>exact absurd hb h3
 refine ⟨by omega,by omega,b2,b3,fun hk=>?_⟩
 rw [if_neg (by omega),if_neg (by omega),if_pos hk] at h
 by_cases hc:ckV v≠0
 · rw [if_pos hc] at h;exact absurd h hc
 rw [if_neg hc] at h
 by_cases h0:v.1=0
 · rw [if_pos h0] at h;simp at h
 exact ⟨by omega,h0⟩
theorem kd_le {k:Int} {l:List Tr} (hk:1<=k∧k<=15) (h:kdB k l.length=true):l.length<=8:=by
 unfold kdB at h
 split at h
 · have:=eq_of_beq h;omega
 split at h
 · rw [Bool.and_eq_true] at h
   have:=of_decide_eq_true h.2
   omega
 split at h
 · have:=eq_of_beq h;omega
 split at h
 · have:=eq_of_beq h;omega
 · have:=eq_of_beq h;omega
def smS:List Tr->Nat
 | []=>0
 | t :: r=>(TX t).length+20+smS r
theorem row_len (op:List UInt8) (ho:op.length<=10) (least:Int):∀ (l:List Tr) (i:Nat) (acc:List UInt8),(rowS op least (ans l) i acc).length<=acc.length+smS l
 | [],i,acc=>by unfold ans rowS smS;omega
 | t :: r,i,acc=>by
  unfold ans rowS smS
  have h:=row_len op ho least r (i+1) (cat (if 0 < i then cat acc (cat (cat [32] op) [32]) else acc) (kdS (an t) least))
  have k:=kdS_len (an t) least
  have e:TX t=(an t).s:=rfl
  rw [e]
  have h2:(if 0 < i then cat acc (cat (cat [32] op) [32]) else acc).length<=acc.length+12:=by
   split <;> (try simp only [cat_len,List.length_singleton]) <;> omega
  rw [cat_len] at h
  omega
theorem ng_len {k n m:Int} {nm:List UInt8} {v:Vl} {key:Ky} {kids:List Tr} (hv:kdB k kids.length=true):(ngS k (an (.mk k n m nm v key kids))).length<=(TX (.mk k n m nm v key kids)).length+7:=by
 unfold ngS
 by_cases k9:k=9
 · subst k9
   obtain ⟨a,c,rfl⟩:=kd_two (k:=9) (by omega) hv
   rw [if_pos rfl,an_ks,TX_eq]
   unfold bdT
   simp only [Int.reduceEq,if_true,if_false]
   simp only [prS,kidsOf,cat_len,List.length_cons,List.length_nil]
   omega
 by_cases k10:k=10
 · subst k10
   obtain ⟨a,c,rfl⟩:=kd_two (k:=10) (by omega) hv
   rw [if_neg (by omega),if_pos rfl,an_ks,TX_eq]
   unfold bdT
   simp only [Int.reduceEq,if_true,if_false]
   simp only [prS,kidsOf,cat_len,List.length_cons,List.length_nil]
   omega
 rw [if_neg k9,if_neg k10,cat_len]
 have:=kdS_len (an (.mk k n m nm v key kids)) 3
 have e:TX (.mk k n m nm v key kids)=(an (.mk k n m nm v key kids)).s:=rfl
 rw [e]
 simp only [List.length_cons,List.length_nil]
 omega
theorem node_len {k n m:Int} {nm:List UInt8} {v:Vl} {key:Ky} {kids:List Tr} (h:ndT (.mk k n m nm v key kids)=0) (hnd:∀ t ∈ kids,∃ k n m nm v key l,t=.mk k n m nm v key l∧ndT t=0) (l1:nm.length<=100) (l2:key.2.1.length<=100) (l3:key.2.2.length<=100) (hi:inI v.2.1) (hd:inI key.1) :
 (TX (.mk k n m nm v key kids)).length<=400+smS kids:=by
 obtain ⟨g1,g2,g3,g4,g5⟩:=nd_ok h
 rw [TX_eq]
 have hk2:∀ (l1:Int) (op:List UInt8) (l2:Int) (a c:Tr),(prS (an a) l1 op (an c) l2).length<=(TX a).length+(TX c).length+6+op.length:=fun l1 op l2 a c=>by
  have:=kdS_len (an a) l1
  have:=kdS_len (an c) l2
  have e1:TX a=(an a).s:=rfl
  have e2:TX c=(an c).s:=rfl
  rw [e1,e2]
  unfold prS
  simp only [cat_len,List.length_singleton]
  omega
 have hcase:k=1∨k=14∨k=8∨k=7∨k=6∨k=9∨k=10∨k=11∨k=12∨k=13∨(k=2∨k=3∨k=4∨k=5∨k=15):=by omega
 rcases hcase with rfl | rfl | rfl | rfl | rfl | rfl | rfl | rfl | rfl | rfl | hp
 · unfold bdT
   simp only [Int.reduceEq,if_true,if_false]
   have:=pr_len v hi
   omega
 · obtain ⟨a,c,d,rfl⟩:=kd_three g3
   unfold bdT
   simp only [Int.reduceEq,if_true,if_false]
   have f1:=kdS_len (an a) 0
   have f2:=kdS_len (an c) 0
   have f3:=kdS_len (an d) 0
   have e1:TX a=(an a).s:=rfl
   have e2:TX c=(an c).s:=rfl
   have e3:TX d=(an d).s:=rfl
   have a0:atG (ans [a,c,d]) 0=an a:=rfl
   have a1:atG (ans [a,c,d]) 1=an c:=rfl
   have a2:atG (ans [a,c,d]) 2=an d:=rfl
   rw [a0,a1,a2]
   simp only [smS,cat_len,List.length_cons,List.length_nil,e1,e2,e3]
   omega
 · unfold bdT
   simp only [Int.reduceEq,if_true,if_false]
   have:=row_len [111,114] (by decide) 2 kids 0 []
   simp only [List.length_nil] at this
   omega
 · unfold bdT
   simp only [Int.reduceEq,if_true,if_false]
   have:=row_len [97,110,100] (by decide) 3 kids 0 []
   simp only [List.length_nil] at this
   omega
 · obtain ⟨a,rfl⟩:=kd_one g3
   obtain ⟨k',n',m',nm',v',key',l',rfl,hnn⟩:=hnd a (by simp)
   obtain ⟨_,_,q3,_,_⟩:=nd_ok hnn
   have:=ng_len (n:=n') (m:=m') (nm:=nm') (v:=v') (key:=key') q3
   have e:bdT 6 n m nm v key [.mk k' n' m' nm' v' key' l'] (ans [.mk k' n' m' nm' v' key' l'])=ngS k' (an (.mk k' n' m' nm' v' key' l')):=by
    unfold bdT
    simp only [Int.reduceEq,if_true,if_false]
    rfl
   rw [e]
   simp only [smS]
   omega
 · obtain ⟨a,c,rfl⟩:=kd_two (k:=9) (by omega) g3
   unfold bdT
   simp only [Int.reduceEq,if_true,if_false]
   have a0:atG (ans [a,c]) 0=an a:=rfl
   have a1:atG (ans [a,c]) 1=an c:=rfl
   rw [a0,a1]
   have:=hk2 5 [61,61] 5 a c
   simp only [List.length_cons,List.length_nil] at this
   simp only [smS]
   omega
 · obtain ⟨a,c,rfl⟩:=kd_two (k:=10) (by omega) g3
   unfold bdT
   simp only [Int.reduceEq,if_true,if_false]
   have a0:atG (ans [a,c]) 0=an a:=rfl
   have a1:atG (ans [a,c]) 1=an c:=rfl
   rw [a0,a1]
   have:=hk2 5 [60] 5 a c
   simp only [List.length_cons,List.length_nil] at this
   simp only [smS]
   omega
 · obtain ⟨a,c,rfl⟩:=kd_two (k:=11) (by omega) g3
   unfold bdT
   simp only [Int.reduceEq,if_true,if_false]
   have a0:atG (ans [a,c]) 0=an a:=rfl
   have a1:atG (ans [a,c]) 1=an c:=rfl
   rw [a0,a1]
   have:=hk2 5 [43] 6 a c
   simp only [List.length_cons,List.length_nil] at this
   simp only [smS]
   omega
 · obtain ⟨a,c,rfl⟩:=kd_two (k:=12) (by omega) g3
   unfold bdT
   simp only [Int.reduceEq,if_true,if_false]
   have a0:atG (ans [a,c]) 0=an a:=rfl
   have a1:atG (ans [a,c]) 1=an c:=rfl
   rw [a0,a1]
   have:=hk2 5 [45] 6 a c
   have f:=kdS_len (an c) 7
   have e:TX c=(an c).s:=rfl
   simp only [List.length_cons,List.length_nil] at this
   simp only [smS]
   split
   · simp only [cat_len,List.length_cons,List.length_nil,e]
     omega
   · omega
 · obtain ⟨a,c,rfl⟩:=kd_two (k:=13) (by omega) g3
   unfold bdT
   simp only [Int.reduceEq,if_true,if_false]
   have a0:atG (ans [a,c]) 0=an a:=rfl
   have a1:atG (ans [a,c]) 1=an c:=rfl
   rw [a0,a1]
   have:=hk2 6 [42] 7 a c
   simp only [List.length_cons,List.length_nil] at this
   simp only [smS]
   omega
 · have:=prm_len k n m nm key hp g4 hd l1 l2 l3
   have e:bdT k n m nm v key kids (ans kids)=prmT k n m nm key:=by
    unfold bdT
    rw [if_neg (by omega),if_neg (by omega),if_neg (by omega),if_neg (by omega),if_neg (by omega),if_neg (by omega),if_neg (by omega),if_neg (by omega),if_neg (by omega),if_neg (by omega)]
   rw [e]
   omega
theorem v_nd:∀ l:List Tr,vTs l->∀ t ∈ l,∃ k n m nm v key l',t=.mk k n m nm v key l'∧ndT t=0:=fun l h t ht=>by
 have hv:=(vTs_iff l).1 h t ht
 obtain ⟨k,n,m,nm,v,key,l'⟩:=t
 unfold vT at hv
 exact ⟨k,n,m,nm,v,key,l',rfl,hv.1⟩
mutual
theorem an_len (t:Tr) (hv:vT t) (hs:shT t) (ho:okTr t):(TX t).length<=600 * ndC t:=by
 match t with
 | .mk k n m nm v key kids=>
  unfold vT at hv
  unfold shT at hs
  unfold okTr at ho
  unfold ndC
  obtain ⟨o1,o2,o3,o4,o5,o6,o7,o8⟩:=ho
  have h1:=node_len hv.1 (v_nd kids hv.2) hs.1.1 hs.1.2.2.1 hs.1.2.2.2.1 o5.2.1 o6.1
  have h2:=ans_len kids hv.2 hs.2 o8
  obtain ⟨g1,g2,g3,_,_⟩:=nd_ok hv.1
  have h3:=kd_le ⟨g1,g2⟩ g3
  omega
theorem ans_len (l:List Tr) (hv:vTs l) (hs:shTs l) (ho:okTrs l):smS l<=600 * ndCs l+20 * l.length:=by
 match l with
 | []=>unfold smS ndCs;omega
 | t :: r=>
  unfold vTs at hv
  unfold shTs at hs
  unfold okTrs at ho
  unfold smS ndCs
  have h1:=an_len t hv.1 hs.1 ho.1
  have h2:=ans_len r hv.2 hs.2 ho.2
  rw [List.length_cons]
  omega
end
theorem TXc_of {t:Tr} (h:∃ bx,callL CC 37 [trV t] []=some (.ret (.tup [.str (TX t),.int .i64 (LV t)]),bx)):TXc t:=fun bx=>by
 obtain ⟨c,hc⟩:=h
 exact callOp_of rfl (by simp only [pureL_cons,trV_pure,pureL_nil,Bool.and_self]) hc rfl
theorem len_all {l:List Tr} (hv:vTs l) (hs:shTs l) (ho:okTrs l) (hn:ndCs l<=300):∀ t ∈ l,(TX t).length<=200000:=by
 induction l with
 | nil=>intro t ht;cases ht
 | cons a r ih=>
  unfold vTs at hv
  unfold shTs at hs
  unfold okTrs at ho
  unfold ndCs at hn
  intro t ht
  rcases List.mem_cons.1 ht with rfl | ht
  · have:=an_len t hv.1 hs.1 ho.1;omega
  · exact ih hv.2 hs.2 ho.2 (by omega) t ht
mutual
theorem tx_ok (t:Tr) (hv:vT t) (hs:shT t) (ho:okTr t) (hn:ndC t<=300):TXc t∧∀ y ∈ kidsOf t,TXc y:=by
 match t with
 | .mk k n m nm v key kids=>
  unfold vT at hv
  unfold shT at hs
  unfold okTr at ho
  unfold ndC at hn
  obtain ⟨o1,o2,o3,o4,o5,o6,o7,o8⟩:=ho
  have hk:=txs_ok kids hv.2 hs.2 o8 (by omega)
  have hl:=len_all hv.2 hs.2 o8 (by omega)
  have hkk:∀ t ∈ kids,TXc t∧(TX t).length<=200000:=fun t ht=>⟨(hk t ht).1,hl t ht⟩
  obtain ⟨g1,g2,g3,g4,g5⟩:=nd_ok hv.1
  have h8:=kd_le ⟨g1,g2⟩ g3
  refine ⟨TXc_of ?_,fun y hy=>(hk y hy).1⟩
  have hcase:k=1∨k=14∨k=8∨k=7∨k=6∨k=9∨k=10∨k=11∨k=12∨k=13∨k=2∨k=3∨k=4∨k=5∨k=15:=by omega
  rcases hcase with rfl | rfl | rfl | rfl | rfl | rfl | rfl | rfl | rfl | rfl | rfl | rfl | rfl | rfl | rfl
  · exact call_text_1 n m nm v key kids o5.2.1 (g5 rfl).1 (g5 rfl).2
  · exact call_text_14 n m nm v key kids g3 hkk
  · exact call_text_8 n m nm v key kids (by omega) hkk
  · exact call_text_7 n m nm v key kids (by omega) hkk
  · obtain ⟨a,rfl⟩:=kd_one g3
    refine call_text_6 n m nm v key _ a rfl ?_
    have ha:=hk a (by simp)
    have hla:=hl a (by simp)
    obtain ⟨hva,_⟩:=hv.2
    obtain ⟨hsa,_⟩:=hs.2
    unfold okTrs at o8
    have hoa:=o8.1
    unfold ndCs at hn
    obtain ⟨k',n',m',nm',v',key',kids'⟩:=a
    unfold vT at hva
    unfold shT at hsa
    unfold okTr at hoa
    unfold ndC at hn
    have hl':=len_all hva.2 hsa.2 hoa.2.2.2.2.2.2.2 (by omega)
    obtain ⟨_,_,q3,_,_⟩:=nd_ok hva.1
    exact op_negated k' n' m' nm' v' key' kids' q3 ha.1 hla (fun t ht=>⟨ha.2 t ht,hl' t ht⟩)
  · exact call_text_9 n m nm v key kids g3 hkk
  · exact call_text_10 n m nm v key kids g3 hkk
  · exact call_text_11 n m nm v key kids g3 hkk
  · exact call_text_12 n m nm v key kids g3 hkk
  · exact call_text_13 n m nm v key kids g3 hkk
  · exact call_text_2 n m nm v key kids g4 o6.1 hs.1.1 hs.1.2.2.1 hs.1.2.2.2.1
  · exact call_text_3 n m nm v key kids g4 o6.1 hs.1.1 hs.1.2.2.1 hs.1.2.2.2.1
  · exact call_text_4 n m nm v key kids g4 o6.1 hs.1.1 hs.1.2.2.1 hs.1.2.2.2.1
  · exact call_text_5 n m nm v key kids g4 o6.1 hs.1.1 hs.1.2.2.1 hs.1.2.2.2.1
  · exact call_text_15 n m nm v key kids g4 o6.1 hs.1.1 hs.1.2.2.1 hs.1.2.2.2.1
theorem txs_ok (l:List Tr) (hv:vTs l) (hs:shTs l) (ho:okTrs l) (hn:ndCs l<=300):∀ t ∈ l,TXc t∧∀ y ∈ kidsOf t,TXc y:=by
 match l with
 | []=>intro t ht;cases ht
 | a :: r=>
  unfold vTs at hv
  unfold shTs at hs
  unfold okTrs at ho
  unfold ndCs at hn
  have h1:=tx_ok a hv.1 hs.1 ho.1 (by omega)
  have h2:=txs_ok r hv.2 hs.2 ho.2 (by omega)
  intro t ht
  rcases List.mem_cons.1 ht with rfl | ht
  · exact h1
  · exact h2 t ht
end
end Go.HH
namespace Go.HH
open Go Go.Proofs
set_option maxRecDepth 100000
set_option maxHeartbeats 4000000
set_option linter.unusedSimpArgs false
set_option linter.unusedVariables false
theorem ok_R30_Negation:fnOK CC Tryz.f78 (Tryz.f78.body.getD .skip)=true:=by kernel_rfl
theorem fat_R30_Negation:CC.P.funcs[78]?=some Tryz.f78:=by kernel_rfl
theorem ok_R30_Level:fnOK CC Tryz.f124 (Tryz.f124.body.getD .skip)=true:=by kernel_rfl
theorem fat_R30_Level:CC.P.funcs[124]?=some Tryz.f124:=by kernel_rfl
theorem ok_R30_Part:fnOK CC Tryz.f75 (Tryz.f75.body.getD .skip)=true:=by kernel_rfl
theorem fat_R30_Part:CC.P.funcs[75]?=some Tryz.f75:=by kernel_rfl
theorem ok_R30_Chain:fnOK CC Tryz.f76 (Tryz.f76.body.getD .skip)=true:=by kernel_rfl
theorem fat_R30_Chain:CC.P.funcs[76]?=some Tryz.f76:=by kernel_rfl
theorem ok_R30_Not:fnOK CC Tryz.f77 (Tryz.f77.body.getD .skip)=true:=by kernel_rfl
theorem fat_R30_Not:CC.P.funcs[77]?=some Tryz.f77:=by kernel_rfl
theorem ok_R30_Text:fnOK CC Tryz.f38 (Tryz.f38.body.getD .skip)=true:=by kernel_rfl
theorem fat_R30_Text:CC.P.funcs[38]?=some Tryz.f38:=by kernel_rfl
theorem call_Neg12 (n m:Int) (nm:List UInt8) (v:Vl) (key:Ky) (a c:Tr):∃ bx,callL CC 78 [trV (.mk 12 n m nm v key [a,c])] []=some (.ret (.bool (mnB [a,c])),bx):=by
 have o1:=op_R28_Same a 1 0 0 [] (2,0,[]) (0,[],[])
 have hm:mnB [a,c]=(smB a 1 0 0 [] (2,0,[]) (0,[],[]) && (kdOf c != 1)):=rfl
 rw [hm]
 clear hm
 generalize smB a 1 0 0 [] (2,0,[]) (0,[],[])=q at *
 unfold leafV at o1
 obtain ⟨ak,an',am,anm,av,akey,akids⟩:=a
 obtain ⟨ck,cn,cm,cnm,cv,ckey,ckids⟩:=c
 simp only [kdOf,trV,trVs] at o1 ⊢
 generalize trVs akids=xs at *
 generalize trVs ckids=ys at *
 have hnb:∀ b:Bool,(true && b)=b:=fun b=>rfl
 rw [callL_enter (fn:=Tryz.f78) (c:=Tryz.f78.body.getD .skip) rfl rfl fat_R30_Negation rfl ok_R30_Negation (Nat.le_of_ble_eq_true rfl)]
 cases q with
 | true=>
  rw [Bool.true_and]
  obtain ⟨ev,eo,so,co,⟨hev,hco⟩,R⟩:=RULES CC;rw [<- hev]
  rw [<- hco] at o1
  simp only [fpart,part',Tryz.f78,Option.getD]
  simp only [S9,R,seval,TRf,ss1,List.getElem?_concat_length,o1,bldV2,bldE1]
  exact ⟨_,rfl⟩
 | false=>
  rw [Bool.false_and]
  obtain ⟨ev,eo,so,co,⟨hev,hco⟩,R⟩:=RULES CC;rw [<- hev]
  rw [<- hco] at o1
  simp only [fpart,part',Tryz.f78,Option.getD]
  simp only [S9,R,seval,TRf,ss1,List.getElem?_concat_length,o1,bldV2,bldE1]
  exact ⟨_,rfl⟩
theorem op_Neg12 (n m:Int) (nm:List UInt8) (v:Vl) (key:Ky) (a c:Tr) (bx):callOp CC (callL CC) 78 [trV (.mk 12 n m nm v key [a,c])] bx=some (.ret (.bool (mnB [a,c])),bx):=by
 obtain ⟨b,hc⟩:=call_Neg12 n m nm v key a c
 exact callOp_of rfl (by simp only [pureL_cons,trV_pure,pureL_nil,Bool.and_self]) hc rfl
theorem call_Neg11 (n m:Int) (nm:List UInt8) (v:Vl) (key:Ky) (kids:List Tr):∃ bx,callL CC 78 [trV (.mk 11 n m nm v key kids)] []=some (.ret (.bool false),bx):=by
 simp only [trV]
 generalize trVs kids=xs at *
 rw [callL_enter (fn:=Tryz.f78) (c:=Tryz.f78.body.getD .skip) rfl rfl fat_R30_Negation rfl ok_R30_Negation (Nat.le_of_ble_eq_true rfl)]
 obtain ⟨ev,eo,so,co,⟨hev,hco⟩,R⟩:=RULES CC;rw [<- hev]
 skip
 simp only [fpart,part',Tryz.f78,Option.getD]
 simp only [S9,R,seval,TRf,ss1,List.getElem?_concat_length,Bool.and_self]
 exact ⟨_,rfl⟩
theorem op_Neg11 (n m:Int) (nm:List UInt8) (v:Vl) (key:Ky) (kids:List Tr) (bx):callOp CC (callL CC) 78 [trV (.mk 11 n m nm v key kids)] bx=some (.ret (.bool false),bx):=by
 obtain ⟨c,hc⟩:=call_Neg11 n m nm v key kids
 exact callOp_of rfl (by simp only [pureL_cons,trV_pure,pureL_nil,Bool.and_self]) hc rfl
theorem call_Level_14 (n m:Int) (nm:List UInt8) (v:Vl) (key:Ky) (kids:List Tr) :∃ bx,callL CC 124 [trV (.mk 14 n m nm v key kids)] []=some (.ret (.int .i64 (LV (.mk 14 n m nm v key kids))),bx):=by
 have e2:LV (.mk 14 n m nm v key kids)=0:=by rw [LV_eq];unfold blT;simp only [Int.reduceEq,if_true,if_false]
 rw [e2]
 simp only [trV]
 generalize trVs kids=xs at *
 rw [callL_enter (fn:=Tryz.f124) (c:=Tryz.f124.body.getD .skip) rfl rfl fat_R30_Level rfl ok_R30_Level (Nat.le_of_ble_eq_true rfl)]
 obtain ⟨ev,eo,so,co,⟨hev,hco⟩,R⟩:=RULES CC;rw [<- hev]
 skip
 simp only [fpart,part',Tryz.f124,Option.getD]
 simp only [S9,R,seval,TRf,ss1,List.getElem?_concat_length,Bool.and_self]
 exact ⟨_,rfl⟩
theorem call_Level_8 (n m:Int) (nm:List UInt8) (v:Vl) (key:Ky) (kids:List Tr) :∃ bx,callL CC 124 [trV (.mk 8 n m nm v key kids)] []=some (.ret (.int .i64 (LV (.mk 8 n m nm v key kids))),bx):=by
 have e2:LV (.mk 8 n m nm v key kids)=1:=by rw [LV_eq];unfold blT;simp only [Int.reduceEq,if_true,if_false]
 rw [e2]
 simp only [trV]
 generalize trVs kids=xs at *
 rw [callL_enter (fn:=Tryz.f124) (c:=Tryz.f124.body.getD .skip) rfl rfl fat_R30_Level rfl ok_R30_Level (Nat.le_of_ble_eq_true rfl)]
 obtain ⟨ev,eo,so,co,⟨hev,hco⟩,R⟩:=RULES CC;rw [<- hev]
 skip
 simp only [fpart,part',Tryz.f124,Option.getD]
 simp only [S9,R,seval,TRf,ss1,List.getElem?_concat_length,Bool.and_self]
 exact ⟨_,rfl⟩
theorem call_Level_7 (n m:Int) (nm:List UInt8) (v:Vl) (key:Ky) (kids:List Tr) :∃ bx,callL CC 124 [trV (.mk 7 n m nm v key kids)] []=some (.ret (.int .i64 (LV (.mk 7 n m nm v key kids))),bx):=by
 have e2:LV (.mk 7 n m nm v key kids)=2:=by rw [LV_eq];unfold blT;simp only [Int.reduceEq,if_true,if_false]
 rw [e2]
 simp only [trV]
 generalize trVs kids=xs at *
 rw [callL_enter (fn:=Tryz.f124) (c:=Tryz.f124.body.getD .skip) rfl rfl fat_R30_Level rfl ok_R30_Level (Nat.le_of_ble_eq_true rfl)]
 obtain ⟨ev,eo,so,co,⟨hev,hco⟩,R⟩:=RULES CC;rw [<- hev]
 skip
 simp only [fpart,part',Tryz.f124,Option.getD]
 simp only [S9,R,seval,TRf,ss1,List.getElem?_concat_length,Bool.and_self]
 exact ⟨_,rfl⟩
theorem call_Level_9 (n m:Int) (nm:List UInt8) (v:Vl) (key:Ky) (kids:List Tr) :∃ bx,callL CC 124 [trV (.mk 9 n m nm v key kids)] []=some (.ret (.int .i64 (LV (.mk 9 n m nm v key kids))),bx):=by
 have e2:LV (.mk 9 n m nm v key kids)=4:=by rw [LV_eq];unfold blT;simp only [Int.reduceEq,if_true,if_false]
 rw [e2]
 simp only [trV]
 generalize trVs kids=xs at *
 rw [callL_enter (fn:=Tryz.f124) (c:=Tryz.f124.body.getD .skip) rfl rfl fat_R30_Level rfl ok_R30_Level (Nat.le_of_ble_eq_true rfl)]
 obtain ⟨ev,eo,so,co,⟨hev,hco⟩,R⟩:=RULES CC;rw [<- hev]
 skip
 simp only [fpart,part',Tryz.f124,Option.getD]
 simp only [S9,R,seval,TRf,ss1,List.getElem?_concat_length,Bool.and_self]
 exact ⟨_,rfl⟩
theorem call_Level_10 (n m:Int) (nm:List UInt8) (v:Vl) (key:Ky) (kids:List Tr) :∃ bx,callL CC 124 [trV (.mk 10 n m nm v key kids)] []=some (.ret (.int .i64 (LV (.mk 10 n m nm v key kids))),bx):=by
 have e2:LV (.mk 10 n m nm v key kids)=4:=by rw [LV_eq];unfold blT;simp only [Int.reduceEq,if_true,if_false]
 rw [e2]
 simp only [trV]
 generalize trVs kids=xs at *
 rw [callL_enter (fn:=Tryz.f124) (c:=Tryz.f124.body.getD .skip) rfl rfl fat_R30_Level rfl ok_R30_Level (Nat.le_of_ble_eq_true rfl)]
 obtain ⟨ev,eo,so,co,⟨hev,hco⟩,R⟩:=RULES CC;rw [<- hev]
 skip
 simp only [fpart,part',Tryz.f124,Option.getD]
 simp only [S9,R,seval,TRf,ss1,List.getElem?_concat_length,Bool.and_self]
 exact ⟨_,rfl⟩
theorem call_Level_13 (n m:Int) (nm:List UInt8) (v:Vl) (key:Ky) (kids:List Tr) :∃ bx,callL CC 124 [trV (.mk 13 n m nm v key kids)] []=some (.ret (.int .i64 (LV (.mk 13 n m nm v key kids))),bx):=by
 have e2:LV (.mk 13 n m nm v key kids)=6:=by rw [LV_eq];unfold blT;simp only [Int.reduceEq,if_true,if_false]
 rw [e2]
 simp only [trV]
 generalize trVs kids=xs at *
 rw [callL_enter (fn:=Tryz.f124) (c:=Tryz.f124.body.getD .skip) rfl rfl fat_R30_Level rfl ok_R30_Level (Nat.le_of_ble_eq_true rfl)]
 obtain ⟨ev,eo,so,co,⟨hev,hco⟩,R⟩:=RULES CC;rw [<- hev]
 skip
 simp only [fpart,part',Tryz.f124,Option.getD]
 simp only [S9,R,seval,TRf,ss1,List.getElem?_concat_length,Bool.and_self]
 exact ⟨_,rfl⟩
theorem call_Level_2 (n m:Int) (nm:List UInt8) (v:Vl) (key:Ky) (kids:List Tr) :∃ bx,callL CC 124 [trV (.mk 2 n m nm v key kids)] []=some (.ret (.int .i64 (LV (.mk 2 n m nm v key kids))),bx):=by
 have e2:LV (.mk 2 n m nm v key kids)=8:=by rw [LV_eq];unfold blT;simp only [Int.reduceEq,if_true,if_false]
 rw [e2]
 simp only [trV]
 generalize trVs kids=xs at *
 rw [callL_enter (fn:=Tryz.f124) (c:=Tryz.f124.body.getD .skip) rfl rfl fat_R30_Level rfl ok_R30_Level (Nat.le_of_ble_eq_true rfl)]
 obtain ⟨ev,eo,so,co,⟨hev,hco⟩,R⟩:=RULES CC;rw [<- hev]
 skip
 simp only [fpart,part',Tryz.f124,Option.getD]
 simp only [S9,R,seval,TRf,ss1,List.getElem?_concat_length,Bool.and_self]
 exact ⟨_,rfl⟩
theorem call_Level_3 (n m:Int) (nm:List UInt8) (v:Vl) (key:Ky) (kids:List Tr) :∃ bx,callL CC 124 [trV (.mk 3 n m nm v key kids)] []=some (.ret (.int .i64 (LV (.mk 3 n m nm v key kids))),bx):=by
 have e2:LV (.mk 3 n m nm v key kids)=8:=by rw [LV_eq];unfold blT;simp only [Int.reduceEq,if_true,if_false]
 rw [e2]
 simp only [trV]
 generalize trVs kids=xs at *
 rw [callL_enter (fn:=Tryz.f124) (c:=Tryz.f124.body.getD .skip) rfl rfl fat_R30_Level rfl ok_R30_Level (Nat.le_of_ble_eq_true rfl)]
 obtain ⟨ev,eo,so,co,⟨hev,hco⟩,R⟩:=RULES CC;rw [<- hev]
 skip
 simp only [fpart,part',Tryz.f124,Option.getD]
 simp only [S9,R,seval,TRf,ss1,List.getElem?_concat_length,Bool.and_self]
 exact ⟨_,rfl⟩
theorem call_Level_4 (n m:Int) (nm:List UInt8) (v:Vl) (key:Ky) (kids:List Tr) :∃ bx,callL CC 124 [trV (.mk 4 n m nm v key kids)] []=some (.ret (.int .i64 (LV (.mk 4 n m nm v key kids))),bx):=by
 have e2:LV (.mk 4 n m nm v key kids)=8:=by rw [LV_eq];unfold blT;simp only [Int.reduceEq,if_true,if_false]
 rw [e2]
 simp only [trV]
 generalize trVs kids=xs at *
 rw [callL_enter (fn:=Tryz.f124) (c:=Tryz.f124.body.getD .skip) rfl rfl fat_R30_Level rfl ok_R30_Level (Nat.le_of_ble_eq_true rfl)]
 obtain ⟨ev,eo,so,co,⟨hev,hco⟩,R⟩:=RULES CC;rw [<- hev]
 skip
 simp only [fpart,part',Tryz.f124,Option.getD]
 simp only [S9,R,seval,TRf,ss1,List.getElem?_concat_length,Bool.and_self]
 exact ⟨_,rfl⟩
theorem call_Level_5 (n m:Int) (nm:List UInt8) (v:Vl) (key:Ky) (kids:List Tr) :∃ bx,callL CC 124 [trV (.mk 5 n m nm v key kids)] []=some (.ret (.int .i64 (LV (.mk 5 n m nm v key kids))),bx):=by
 have e2:LV (.mk 5 n m nm v key kids)=8:=by rw [LV_eq];unfold blT;simp only [Int.reduceEq,if_true,if_false]
 rw [e2]
 simp only [trV]
 generalize trVs kids=xs at *
 rw [callL_enter (fn:=Tryz.f124) (c:=Tryz.f124.body.getD .skip) rfl rfl fat_R30_Level rfl ok_R30_Level (Nat.le_of_ble_eq_true rfl)]
 obtain ⟨ev,eo,so,co,⟨hev,hco⟩,R⟩:=RULES CC;rw [<- hev]
 skip
 simp only [fpart,part',Tryz.f124,Option.getD]
 simp only [S9,R,seval,TRf,ss1,List.getElem?_concat_length,Bool.and_self]
 exact ⟨_,rfl⟩
theorem call_Level_15 (n m:Int) (nm:List UInt8) (v:Vl) (key:Ky) (kids:List Tr) :∃ bx,callL CC 124 [trV (.mk 15 n m nm v key kids)] []=some (.ret (.int .i64 (LV (.mk 15 n m nm v key kids))),bx):=by
 have e2:LV (.mk 15 n m nm v key kids)=8:=by rw [LV_eq];unfold blT;simp only [Int.reduceEq,if_true,if_false]
 rw [e2]
 simp only [trV]
 generalize trVs kids=xs at *
 rw [callL_enter (fn:=Tryz.f124) (c:=Tryz.f124.body.getD .skip) rfl rfl fat_R30_Level rfl ok_R30_Level (Nat.le_of_ble_eq_true rfl)]
 obtain ⟨ev,eo,so,co,⟨hev,hco⟩,R⟩:=RULES CC;rw [<- hev]
 skip
 simp only [fpart,part',Tryz.f124,Option.getD]
 simp only [S9,R,seval,TRf,ss1,List.getElem?_concat_length,Bool.and_self]
 exact ⟨_,rfl⟩
theorem call_Level_11 (n m:Int) (nm:List UInt8) (v:Vl) (key:Ky) (kids:List Tr) :∃ bx,callL CC 124 [trV (.mk 11 n m nm v key kids)] []=some (.ret (.int .i64 (LV (.mk 11 n m nm v key kids))),bx):=by
 have e2:LV (.mk 11 n m nm v key kids)=5:=by rw [LV_eq];unfold blT;simp only [Int.reduceEq,if_true,if_false]
 rw [e2]
 have o1:=op_Neg11 n m nm v key kids
 simp only [trV] at o1 ⊢
 generalize trVs kids=xs at *
 rw [callL_enter (fn:=Tryz.f124) (c:=Tryz.f124.body.getD .skip) rfl rfl fat_R30_Level rfl ok_R30_Level (Nat.le_of_ble_eq_true rfl)]
 obtain ⟨ev,eo,so,co,⟨hev,hco⟩,R⟩:=RULES CC;rw [<- hev]
 rw [<- hco] at o1
 simp only [fpart,part',Tryz.f124,Option.getD]
 simp only [S9,R,seval,TRf,ss1,List.getElem?_concat_length,o1]
 exact ⟨_,rfl⟩
theorem call_Level_12 (n m:Int) (nm:List UInt8) (v:Vl) (key:Ky) (kids:List Tr) (hv:kdB 12 kids.length=true):∃ bx,callL CC 124 [trV (.mk 12 n m nm v key kids)] []=some (.ret (.int .i64 (LV (.mk 12 n m nm v key kids))),bx):=by
 obtain ⟨a,c,rfl⟩:=kd_two (k:=12) (by omega) hv
 have e2:LV (.mk 12 n m nm v key [a,c])=(if mnB [a,c] then 7 else 5):=by rw [LV_eq];unfold blT;simp only [Int.reduceEq,if_true,if_false]
 rw [e2]
 have o1:=op_Neg12 n m nm v key a c
 generalize mnB [a,c]=q at *
 simp only [trV] at o1 ⊢
 generalize trVs [a,c]=xs at *
 clear e2
 rw [callL_enter (fn:=Tryz.f124) (c:=Tryz.f124.body.getD .skip) rfl rfl fat_R30_Level rfl ok_R30_Level (Nat.le_of_ble_eq_true rfl)]
 cases q with
 | true=>
  rw [if_pos rfl]
  obtain ⟨ev,eo,so,co,⟨hev,hco⟩,R⟩:=RULES CC;rw [<- hev]
  rw [<- hco] at o1
  simp only [fpart,part',Tryz.f124,Option.getD]
  simp only [S9,R,seval,TRf,ss1,List.getElem?_concat_length,o1]
  exact ⟨_,rfl⟩
 | false=>
  rw [if_neg (by simp)]
  obtain ⟨ev,eo,so,co,⟨hev,hco⟩,R⟩:=RULES CC;rw [<- hev]
  rw [<- hco] at o1
  simp only [fpart,part',Tryz.f124,Option.getD]
  simp only [S9,R,seval,TRf,ss1,List.getElem?_concat_length,o1]
  exact ⟨_,rfl⟩
theorem call_Level_6 (n m:Int) (nm:List UInt8) (v:Vl) (key:Ky) (kids:List Tr) (hv:kdB 6 kids.length=true):∃ bx,callL CC 124 [trV (.mk 6 n m nm v key kids)] []=some (.ret (.int .i64 (LV (.mk 6 n m nm v key kids))),bx):=by
 obtain ⟨a,rfl⟩:=kd_one hv
 have e2:LV (.mk 6 n m nm v key [a])=ngL (kdOf a):=by rw [LV_eq];unfold blT;simp only [Int.reduceEq,if_true,if_false];rfl
 rw [e2]
 clear e2
 obtain ⟨ak,an',am,anm,av,akey,akids⟩:=a
 simp only [trV,trVs,kdOf]
 have q1:=trVs_pure akids
 generalize trVs akids=xs at *
 rw [callL_enter (fn:=Tryz.f124) (c:=Tryz.f124.body.getD .skip) rfl rfl fat_R30_Level rfl ok_R30_Level (Nat.le_of_ble_eq_true rfl)]
 unfold ngL
 by_cases k9:ak=9
 · subst k9
   rw [if_pos rfl]
   obtain ⟨ev,eo,so,co,⟨hev,hco⟩,R⟩:=RULES CC;rw [<- hev]
   skip
   simp only [fpart,part',Tryz.f124,Option.getD]
   simp only [S9,R,seval,TRf,ss1,List.getElem?_concat_length,q1]
   exact ⟨_,rfl⟩
 by_cases k10:ak=10
 · subst k10
   rw [if_neg (by omega),if_pos rfl]
   obtain ⟨ev,eo,so,co,⟨hev,hco⟩,R⟩:=RULES CC;rw [<- hev]
   skip
   simp only [fpart,part',Tryz.f124,Option.getD]
   simp only [S9,R,seval,TRf,ss1,List.getElem?_concat_length,q1]
   exact ⟨_,rfl⟩
 have p9:(ak == 9)=false:=by simpa using k9
 have p10:(ak == 10)=false:=by simpa using k10
 rw [if_neg k9,if_neg k10]
 obtain ⟨ev,eo,so,co,⟨hev,hco⟩,R⟩:=RULES CC;rw [<- hev]
 skip
 simp only [fpart,part',Tryz.f124,Option.getD]
 simp only [S9,R,seval,TRf,ss1,List.getElem?_concat_length,q1,p9,p10]
 exact ⟨_,rfl⟩
theorem call_Level_1 (n m:Int) (nm:List UInt8) (v:Vl) (key:Ky) (kids:List Tr) :∃ bx,callL CC 124 [trV (.mk 1 n m nm v key kids)] []=some (.ret (.int .i64 (LV (.mk 1 n m nm v key kids))),bx):=by
 have e2:LV (.mk 1 n m nm v key kids)=lvV v:=by rw [LV_eq];unfold blT;simp only [Int.reduceEq,if_true,if_false]
 rw [e2]
 clear e2
 obtain ⟨vk,vn,vs⟩:=v
 simp only [trV]
 generalize trVs kids=xs at *
 unfold lvV
 simp only
 rw [callL_enter (fn:=Tryz.f124) (c:=Tryz.f124.body.getD .skip) rfl rfl fat_R30_Level rfl ok_R30_Level (Nat.le_of_ble_eq_true rfl)]
 by_cases p:vk=2
 · subst p
   by_cases q:vn < 0
   · rw [if_pos ⟨rfl,q⟩]
     obtain ⟨ev,eo,so,co,⟨hev,hco⟩,R⟩:=RULES CC;rw [<- hev]
     skip
     simp only [fpart,part',Tryz.f124,Option.getD]
     simp only [S9,R,seval,TRf,ss1,List.getElem?_concat_length,q]
     exact ⟨_,rfl⟩
   · rw [if_neg (fun h=>q h.2)]
     obtain ⟨ev,eo,so,co,⟨hev,hco⟩,R⟩:=RULES CC;rw [<- hev]
     skip
     simp only [fpart,part',Tryz.f124,Option.getD]
     simp only [S9,R,seval,TRf,ss1,List.getElem?_concat_length,q]
     exact ⟨_,rfl⟩
 · rw [if_neg (fun h=>p h.1)]
   have p2:(vk == 2)=false:=by simpa using p
   obtain ⟨ev,eo,so,co,⟨hev,hco⟩,R⟩:=RULES CC;rw [<- hev]
   skip
   simp only [fpart,part',Tryz.f124,Option.getD]
   simp only [S9,R,seval,TRf,ss1,List.getElem?_concat_length,p2]
   exact ⟨_,rfl⟩
theorem op_Level (t:Tr) (h:ndT t=0) (bx):callOp CC (callL CC) 124 [trV t] bx=some (.ret (.int .i64 (LV t)),bx):=by
 have hc:∃ bx,callL CC 124 [trV t] []=some (.ret (.int .i64 (LV t)),bx):=by
  obtain ⟨k,n,m,nm,v,key,kids⟩:=t
  obtain ⟨g1,g2,g3,g4,g5⟩:=nd_ok h
  have hcase:k=1∨k=14∨k=8∨k=7∨k=6∨k=9∨k=10∨k=11∨k=12∨k=13∨k=2∨k=3∨k=4∨k=5∨k=15:=by omega
  rcases hcase with rfl | rfl | rfl | rfl | rfl | rfl | rfl | rfl | rfl | rfl | rfl | rfl | rfl | rfl | rfl
  · exact call_Level_1 n m nm v key kids
  · exact call_Level_14 n m nm v key kids
  · exact call_Level_8 n m nm v key kids
  · exact call_Level_7 n m nm v key kids
  · exact call_Level_6 n m nm v key kids g3
  · exact call_Level_9 n m nm v key kids
  · exact call_Level_10 n m nm v key kids
  · exact call_Level_11 n m nm v key kids
  · exact call_Level_12 n m nm v key kids g3
  · exact call_Level_13 n m nm v key kids
  · exact call_Level_2 n m nm v key kids
  · exact call_Level_3 n m nm v key kids
  · exact call_Level_4 n m nm v key kids
  · exact call_Level_5 n m nm v key kids
  · exact call_Level_15 n m nm v key kids
 obtain ⟨c,hc⟩:=hc
 exact callOp_of rfl (by simp only [pureL_cons,trV_pure,pureL_nil,Bool.and_self]) hc rfl
def TRc (t:Tr):Prop:=∀ bx,callOp CC (callL CC) 38 [trV t] bx=some (.ret (.str (TX t)),bx)
theorem call_Part (t:Tr) (hn:ndT t=0) (h:TRc t) (hl:(TX t).length<=200000) (least:Int):∃ bx,callL CC 75 [trV t,.int .i64 least] []=some (.ret (.str (kdS (an t) least)),bx):=by
 have o1:=op_Level t hn
 unfold TRc at h
 have e1:TX t=(an t).s:=rfl
 have e2:LV t=(an t).lv:=rfl
 rw [e1] at hl h
 rw [e2] at o1
 unfold kdS
 generalize (an t).s=s at *
 generalize (an t).lv=lv at *
 have c1:=catA (a:=[40]) (b:=s) (by simp only [List.length_singleton];omega)
 have c2:=catA (a:=cat [40] s) (b:=[41]) (by simp only [cat_len,List.length_singleton];omega)
 clear hn
 obtain ⟨k,n,m,nm,v,key,kids⟩:=t
 unfold trV at h o1 ⊢
 generalize trVs kids=xs at *
 rw [callL_enter (fn:=Tryz.f75) (c:=Tryz.f75.body.getD .skip) rfl rfl fat_R30_Part rfl ok_R30_Part (Nat.le_of_ble_eq_true rfl)]
 by_cases c:lv < least
 · rw [if_pos c]
   obtain ⟨ev,eo,so,co,⟨hev,hco⟩,R⟩:=RULES CC;rw [<- hev]
   rw [<- hco] at h o1
   simp only [fpart,part',Tryz.f75,Option.getD]
   simp only [S9,R,seval,TRf,ss1,List.getElem?_concat_length,h,o1,c1,c2,c]
   exact ⟨_,rfl⟩
 · rw [if_neg c]
   obtain ⟨ev,eo,so,co,⟨hev,hco⟩,R⟩:=RULES CC;rw [<- hev]
   rw [<- hco] at h o1
   simp only [fpart,part',Tryz.f75,Option.getD]
   simp only [S9,R,seval,TRf,ss1,List.getElem?_concat_length,h,o1,c1,c2,c]
   exact ⟨_,rfl⟩
theorem op_Part (t:Tr) (hn:ndT t=0) (h:TRc t) (hl:(TX t).length<=200000) (least:Int) (bx):callOp CC (callL CC) 75 [trV t,.int .i64 least] bx=some (.ret (.str (kdS (an t) least)),bx):=by
 obtain ⟨c,hc⟩:=call_Part t hn h hl least
 exact callOp_of rfl (by simp only [pureL_cons,trV_pure,pureL_nil,pure_int,Bool.and_self]) hc rfl
def chS (op:List UInt8) (least:Int):List At->Nat->List UInt8->List UInt8
 | [],_,acc=>acc
 | a :: r,i,acc=>chS op least r (i+1) (cat (if 0 < i then cat acc op else acc) (kdS a least))
theorem rowS_ch (op:List UInt8) (least:Int):∀ (l:List At) (i:Nat) (acc:List UInt8),rowS op least l i acc=chS (cat (cat [32] op) [32]) least l i acc
 | [],i,acc=>rfl
 | a :: r,i,acc=>by unfold rowS chS;exact rowS_ch op least r _ _
theorem prS_eq (a:At) (l1:Int) (op:List UInt8) (c:At) (l2:Int):prS a l1 op c l2=cat (cat (kdS a l1) (cat (cat [32] op) [32])) (kdS c l2):=by
 unfold prS cat
 simp only [List.append_assoc]
theorem prS_ch (a c:At) (op:List UInt8) (l:Int):prS a l op c l=chS (cat (cat [32] op) [32]) l [a,c] 0 []:=by
 rw [prS_eq]
 unfold chS chS chS
 rfl
theorem loop_Chain (L:Code) (hL:L=fpart Tryz.f76 [1,1,0,1,0]) (l:List Tr) (hl:l.length<=1000) (op:List UInt8) (ho:op.length<=10) (least:Int) (hk:∀ t ∈ l,ndT t=0∧TRc t∧(TX t).length<=200000):∀ (k i:Nat) (acc:List UInt8) (e:List PV) (bx:List PBox),i+k=l.length->acc.length<=i * 200100 ->
 getT e 0=.sl (trVs l)->getT e 10=.int .i64 l.length->getT e 11=.int .i64 i->getT e 7=.str acc->getT e 2=.str op->getT e 1=.int .i64 least->PRo bx (chS op least (ans (l.drop i)) i acc) (evL CC L ⟨e,bx⟩):=by
 intro k
 induction k with
 | zero=>
  intro i acc e bx hi0 hac e0 e10 e11 e7 e2 e1
  rw [evL_at (fpart Tryz.f76 [1,1,0,1,0,0]) hL]
  have hi:¬ ((i:Int) < (l.length:Int)):=by omega
  rw [List.drop_eq_nil_of_le (by omega)]
  unfold ans chS
  generalize trVs l=xs at *
  obtain ⟨ev,eo,so,co,⟨hev,hco⟩,R⟩:=RULES CC;rw [<- hev]
  simp only [fpart,part',Tryz.f76,Option.getD]
  simp only [S9,R,seval,TRf,ss1,List.getElem?_concat_length,e0,e10,e11,e7,hi]
  exact ⟨_,[],by rw [List.append_nil],by simp only [S7,R,seval,e7]⟩
 | succ k ih=>
  intro i acc e bx hi0 hac e0 e10 e11 e7 e2 e1
  rw [evL_at (fpart Tryz.f76 [1,1,0,1,0,0]) hL]
  have hi:((i:Int) < (l.length:Int)):=by omega
  have hi0':¬ ((i:Int) < 0):=by omega
  have hdr:l.drop i=(l[i]'(by omega)) :: l.drop (i+1):=List.drop_eq_getElem_cons (by omega)
  have hx:=trVs_get (l:=l) (i:=i) (t:=l[i]'(by omega)) (List.getElem?_eq_getElem (by omega))
  have hlen:=trVs_length l
  have hw1:=wrap_i64 (n:=(i:Int)+1) ⟨by omega,by omega⟩
  obtain ⟨hcn,hc,hcl⟩:=hk (l[i]'(by omega)) (List.getElem_mem _)
  have key:=fun acc e bx h=>ih (i+1) acc e bx (by omega) h
  have cast1:((i+1:Nat):Int)=(i:Int)+1:=by omega
  rw [cast1] at key
  rw [hdr]
  unfold ans chS
  generalize l[i]'(by omega)=x at *
  have o1:=op_Part x hcn hc hcl least
  have kl:=kdS_len (an x) least
  have ee:TX x=(an x).s:=rfl
  rw [ee] at hcl
  clear hc ee hcn
  generalize kdS (an x) least=ks at *
  have c3:=catA (a:=acc) (b:=op) (by omega)
  generalize ans (l.drop (i+1))=rest at *
  obtain ⟨xk,xn,xm,xnm,xv,xkey,xkids⟩:=x
  unfold trV at hx o1
  generalize trVs l=xs at *
  generalize trVs xkids=ys at *
  clear hk ih hdr
  by_cases z:0 < i
  · have z1:((i:Int) > 0):=by omega
    rw [if_pos z]
    have c4:=catA (a:=cat acc op) (b:=ks) (by simp only [cat_len];omega)
    have key:=fun e bx=>key (cat (cat acc op) ks) e bx (by simp only [cat_len];omega)
    generalize chS op least rest (i+1) (cat (cat acc op) ks)=res at *
    obtain ⟨ev,eo,so,co,⟨hev,hco⟩,R⟩:=RULES CC;rw [<- hev]
    rw [<- hev] at key
    rw [<- hco] at o1
    simp only [fpart,part',Tryz.f76,Option.getD]
    simp only [S9,R,seval,TRf,ss1,List.getElem?_concat_length,e0,e10,e11,e7,e2,e1,hi,hi0',hx,hlen,hw1,o1,c3,c4,z1]
    refine key _ _ ?_ ?_ ?_ ?_ ?_ ?_
    all_goals simp only [S7,R,seval,e0,e10,e11,e7,e2,e1]
  · have z1:¬ ((i:Int) > 0):=by omega
    rw [if_neg z]
    have c4:=catA (a:=acc) (b:=ks) (by omega)
    have key:=fun e bx=>key (cat acc ks) e bx (by simp only [cat_len];omega)
    generalize chS op least rest (i+1) (cat acc ks)=res at *
    obtain ⟨ev,eo,so,co,⟨hev,hco⟩,R⟩:=RULES CC;rw [<- hev]
    rw [<- hev] at key
    rw [<- hco] at o1
    simp only [fpart,part',Tryz.f76,Option.getD]
    simp only [S9,R,seval,TRf,ss1,List.getElem?_concat_length,e0,e10,e11,e7,e2,e1,hi,hi0',hx,hlen,hw1,o1,c4,z1]
    refine key _ _ ?_ ?_ ?_ ?_ ?_ ?_
    all_goals simp only [S7,R,seval,e0,e10,e11,e7,e2,e1]
theorem call_Chain (l:List Tr) (hl:l.length<=1000) (op:List UInt8) (ho:op.length<=10) (least:Int) (hk:∀ t ∈ l,ndT t=0∧TRc t∧(TX t).length<=200000):∃ bx,callL CC 76 [.sl (trVs l),.int .i64 least,.str op] []=some (.ret (.str (chS op least (ans l) 0 [])),bx):=by
 have hloop:=fun e bx=>loop_Chain _ rfl l hl op ho least hk l.length 0 [] e bx (by omega) (by simp)
 have hlen:=trVs_length l
 rw [List.drop_zero] at hloop
 generalize chS op least (ans l) 0 []=v at *
 clear hk
 rw [callL_enter (fn:=Tryz.f76) (c:=Tryz.f76.body.getD .skip) rfl rfl fat_R30_Chain rfl ok_R30_Chain (Nat.le_of_ble_eq_true rfl)]
 generalize trVs l=xs at *
 obtain ⟨ev,eo,so,co,⟨hev,hco⟩,R⟩:=RULES CC;rw [<- hev]
 rw [<- hev] at hloop
 simp only [fpart,part',Tryz.f76,Option.getD] at hloop ⊢
 simp only [S9,R,seval,TRf,ss1,List.getElem?_concat_length,hlen]
 generalize hE:ev (Code.loop _) _=z
 have hP:PRo [] v z:=by
  rw [<- hE]
  refine hloop _ _ ?_ ?_ ?_ ?_ ?_ ?_
  all_goals first | (simp only [S7,R,seval];done) | (simp only [S7,R,seval] <;> rfl)
 obtain ⟨e',ex,he,q⟩:=hP
 subst he
 simp only [S9,R,seval,TRf,ss1,List.getElem?_concat_length,hlen,q]
 exact ⟨_,rfl⟩
theorem op_Chain (l:List Tr) (hl:l.length<=1000) (op:List UInt8) (ho:op.length<=10) (least:Int) (hk:∀ t ∈ l,ndT t=0∧TRc t∧(TX t).length<=200000) (bx):callOp CC (callL CC) 76 [.sl (trVs l),.int .i64 least,.str op] bx=some (.ret (.str (chS op least (ans l) 0 [])),bx):=by
 obtain ⟨c,hc⟩:=call_Chain l hl op ho least hk
 exact callOp_of rfl (by simp only [pureL_cons,PV.pure,trVs_pure,pureL_nil,Bool.and_self]) hc rfl
def NRc (t:Tr):Prop:=∀ bx,callOp CC (callL CC) 77 [trV t] bx=some (.ret (.str (ngS (kdOf t) (an t))),bx)
theorem call_Not (k n m:Int) (nm:List UInt8) (v:Vl) (key:Ky) (kids:List Tr) (hnd:ndT (.mk k n m nm v key kids)=0) (ht:TRc (.mk k n m nm v key kids)) (htl:(TX (.mk k n m nm v key kids)).length<=200000) (hk:∀ t ∈ kids,ndT t=0∧TRc t∧(TX t).length<=200000) :
 ∃ bx,callL CC 77 [trV (.mk k n m nm v key kids)] []=some (.ret (.str (ngS k (an (.mk k n m nm v key kids)))),bx):=by
 obtain ⟨g1,g2,g3,g4,g5⟩:=nd_ok hnd
 by_cases k9:k=9
 · subst k9
   have e1:ngS 9 (an (.mk 9 n m nm v key kids))=chS [32,33,61,32] 5 (ans kids) 0 []:=by
    obtain ⟨a,c,rfl⟩:=kd_two (k:=9) (by omega) g3
    have p:=prS_ch (an a) (an c) [33,61] 5
    unfold ngS
    rw [if_pos rfl,an_ks]
    exact p
   rw [e1]
   have o1:=op_Chain kids (by have:=kd_le ⟨g1,g2⟩ g3;omega) [32,33,61,32] (by decide) 5 hk
   clear e1 hk ht htl hnd g3 g4 g5
   generalize chS [32,33,61,32] 5 (ans kids) 0 []=s at *
   simp only [trV]
   generalize trVs kids=xs at *
   rw [callL_enter (fn:=Tryz.f77) (c:=Tryz.f77.body.getD .skip) rfl rfl fat_R30_Not rfl ok_R30_Not (Nat.le_of_ble_eq_true rfl)]
   obtain ⟨ev,eo,so,co,⟨hev,hco⟩,R⟩:=RULES CC;rw [<- hev]
   rw [<- hco] at o1
   simp only [fpart,part',Tryz.f77,Option.getD]
   simp only [S9,R,seval,TRf,ss1,List.getElem?_concat_length,o1]
   exact ⟨_,rfl⟩
 by_cases k10:k=10
 · subst k10
   obtain ⟨a,c,rfl⟩:=kd_two (k:=10) (by omega) g3
   have e1:ngS 10 (an (.mk 10 n m nm v key [a,c]))=cat (cat (kdS (an c) 5) [32,60,61,32]) (kdS (an a) 5):=by
    have p:=prS_eq (an c) 5 [60,61] (an a) 5
    unfold ngS
    rw [if_neg (by omega),if_pos rfl,an_ks]
    exact p
   rw [e1]
   have o1:=op_Part c (hk c (by simp)).1 (hk c (by simp)).2.1 (hk c (by simp)).2.2 5
   have l1:=kdS_len (an c) 5
   have m1:(an c).s.length<=200000:=(hk c (by simp)).2.2
   have o2:=op_Part a (hk a (by simp)).1 (hk a (by simp)).2.1 (hk a (by simp)).2.2 5
   have l2:=kdS_len (an a) 5
   have m2:(an a).s.length<=200000:=(hk a (by simp)).2.2
   clear e1 hk ht htl hnd g3 g4 g5
   generalize kdS (an c) 5=s1 at *
   generalize kdS (an a) 5=s2 at *
   have c1:=catA (a:=s1) (b:=[32,60,61,32]) (by simp only [List.length_cons,List.length_nil];omega)
   have c2:=catA (a:=cat s1 [32,60,61,32]) (b:=s2) (by simp only [cat_len,List.length_cons,List.length_nil];omega)
   clear l1 l2 m1 m2
   obtain ⟨ak,an',am,anm,av,akey,akids⟩:=a
   obtain ⟨ck,cn,cm,cnm,cv,ckey,ckids⟩:=c
   simp only [trV,trVs] at o1 o2 ⊢
   have q1:=trVs_pure akids
   have q2:=trVs_pure ckids
   generalize trVs akids=xs at *
   generalize trVs ckids=ys at *
   rw [callL_enter (fn:=Tryz.f77) (c:=Tryz.f77.body.getD .skip) rfl rfl fat_R30_Not rfl ok_R30_Not (Nat.le_of_ble_eq_true rfl)]
   obtain ⟨ev,eo,so,co,⟨hev,hco⟩,R⟩:=RULES CC;rw [<- hev]
   rw [<- hco] at o1 o2
   simp only [fpart,part',Tryz.f77,Option.getD]
   simp only [S9,R,seval,TRf,ss1,List.getElem?_concat_length,o1,o2,c1,c2,q1,q2]
   exact ⟨_,rfl⟩
 have p9:(k == 9)=false:=by simpa using k9
 have p10:(k == 10)=false:=by simpa using k10
 have o1:=op_Part _ hnd ht htl 3
 have kl:=kdS_len (an (.mk k n m nm v key kids)) 3
 have e0:TX (.mk k n m nm v key kids)=(an (.mk k n m nm v key kids)).s:=rfl
 rw [e0] at htl
 have e1:ngS k (an (.mk k n m nm v key kids))=cat [110,111,116,32] (kdS (an (.mk k n m nm v key kids)) 3):=by unfold ngS;rw [if_neg k9,if_neg k10]
 rw [e1]
 clear e0 e1 ht hk hnd g3 g4 g5
 generalize kdS (an (.mk k n m nm v key kids)) 3=s at *
 have c1:=catA (a:=[110,111,116,32]) (b:=s) (by simp only [List.length_cons,List.length_nil];omega)
 simp only [trV] at o1 ⊢
 generalize trVs kids=xs at *
 rw [callL_enter (fn:=Tryz.f77) (c:=Tryz.f77.body.getD .skip) rfl rfl fat_R30_Not rfl ok_R30_Not (Nat.le_of_ble_eq_true rfl)]
 obtain ⟨ev,eo,so,co,⟨hev,hco⟩,R⟩:=RULES CC;rw [<- hev]
 rw [<- hco] at o1
 simp only [fpart,part',Tryz.f77,Option.getD]
 simp only [S9,R,seval,TRf,ss1,List.getElem?_concat_length,o1,c1,p9,p10]
 exact ⟨_,rfl⟩
theorem op_Not (k n m:Int) (nm:List UInt8) (v:Vl) (key:Ky) (kids:List Tr) (hnd:ndT (.mk k n m nm v key kids)=0) (ht:TRc (.mk k n m nm v key kids)) (htl:(TX (.mk k n m nm v key kids)).length<=200000) (hk:∀ t ∈ kids,ndT t=0∧TRc t∧(TX t).length<=200000):NRc (.mk k n m nm v key kids):=fun bx=>by
 obtain ⟨c,hc⟩:=call_Not k n m nm v key kids hnd ht htl hk
 exact callOp_of rfl (by simp only [pureL_cons,trV_pure,pureL_nil,Bool.and_self]) hc rfl
end Go.HH
