/-
  What the law needs, packed: T6 T7 T8 P1 E11 E12 P2 SH Shelf.
-/
import Derived.Shelf.Strings.Builder1
import Derived.Shelf.Small.Strs
import Derived.Shelf.Strconv.Itoa0
import Derived.Shelf.Strconv.Itoa1
import Derived.Shelf.LaysM
import Derived.Shelf.Strconv.Itoa2
import Derived.Shelf.Strconv.Itoa3
import Derived.Shelf.Strings.Search1
import Derived.Test.YthjcaihemgllaaaGreatDoorProg
import Derived.Test.YthjcaihemgllaaaGreatDoorM41
namespace Go.HH
open Go Go.Proofs
set_option maxRecDepth 100000
set_option maxHeartbeats 4000000
set_option linter.unusedSimpArgs false
set_option linter.unusedVariables false
def NGc (t:Tr):Prop:=∀ bx,callOp CC (callL CC) 71 [trV t] bx=some (.ret (.tup [.str (ngS (kdOf t) (an t)),.int .i64 (ngL (kdOf t))]),bx)
theorem ls_two {l:List Tr} (h:l.length=2):∃ a c,l=[a,c]:=by
 match l,h with
 | [a,c],_=>exact ⟨a,c,rfl⟩
theorem ls_one {l:List Tr} (h:l.length=1):∃ a,l=[a]:=by
 match l,h with
 | [a],_=>exact ⟨a,rfl⟩
theorem ls_three {l:List Tr} (h:l.length=3):∃ a c d,l=[a,c,d]:=by
 match l,h with
 | [a,c,d],_=>exact ⟨a,c,d,rfl⟩
theorem kd_two {k:Int} {l:List Tr} (hk:9<=k∧k<=13) (h:kdB k l.length=true):∃ a c,l=[a,c]:=by
 unfold kdB at h
 rw [if_neg (by omega),if_neg (by omega),if_pos hk] at h
 exact ls_two (by have:=eq_of_beq h;omega)
theorem kd_one {l:List Tr} (h:kdB 6 l.length=true):∃ a,l=[a]:=by
 unfold kdB at h
 rw [if_pos rfl] at h
 exact ls_one (by have:=eq_of_beq h;omega)
theorem kd_three {l:List Tr} (h:kdB 14 l.length=true):∃ a c d,l=[a,c,d]:=by
 unfold kdB at h
 rw [if_neg (by omega),if_neg (by omega),if_neg (by omega),if_pos rfl] at h
 exact ls_three (by have:=eq_of_beq h;omega)
theorem call_negated (k n m:Int) (nm:List UInt8) (v:Vl) (key:Ky) (kids:List Tr) (hv:kdB k kids.length=true) (ht:TXc (.mk k n m nm v key kids)) (htl:(TX (.mk k n m nm v key kids)).length<=200000) (hk:∀ t ∈ kids,TXc t∧(TX t).length<=200000) :
 ∃ bx,callL CC 71 [trV (.mk k n m nm v key kids)] []=some (.ret (.tup [.str (ngS k (an (.mk k n m nm v key kids))),.int .i64 (ngL k)]),bx):=by
 by_cases k9:k=9
 · subst k9
   obtain ⟨a,c,rfl⟩:=kd_two (k:=9) (by omega) hv
   have o1:=op_pair a c (hk a (by simp)).1 (hk c (by simp)).1 (hk a (by simp)).2 (hk c (by simp)).2 5 5 [33,61] (by decide)
   have e1:ngS 9 (an (.mk 9 n m nm v key [a,c]))=prS (an a) 5 [33,61] (an c) 5:=by
    unfold ngS
    rw [if_pos rfl,an_ks]
    rfl
   have e2:ngL 9=4:=rfl
   rw [e1,e2]
   clear e1 e2 hk ht htl
   generalize prS (an a) 5 [33,61] (an c) 5=s at *
   obtain ⟨ak,an',am,anm,av,akey,akids⟩:=a
   obtain ⟨ck,cn,cm,cnm,cv,ckey,ckids⟩:=c
   simp only [trV,trVs] at o1 ⊢
   have q1:=trVs_pure akids
   have q2:=trVs_pure ckids
   generalize trVs akids=xs at *
   generalize trVs ckids=ys at *
   rw [callL_enter (fn:=Tryz.f71) (c:=Tryz.f71.body.getD .skip) rfl rfl fat_print_negated rfl ok_print_negated (Nat.le_of_ble_eq_true rfl)]
   obtain ⟨ev,eo,so,co,⟨hev,hco⟩,R⟩:=RULES CC;rw [<- hev]
   rw [<- hco] at o1
   simp only [fpart,part',Tryz.f71,Option.getD]
   simp only [S9,R,seval,TRf,ss1,List.getElem?_concat_length,o1,q1,q2]
   exact ⟨_,rfl⟩
 by_cases k10:k=10
 · subst k10
   obtain ⟨a,c,rfl⟩:=kd_two (k:=10) (by omega) hv
   have o1:=op_pair c a (hk c (by simp)).1 (hk a (by simp)).1 (hk c (by simp)).2 (hk a (by simp)).2 5 5 [60,61] (by decide)
   have e1:ngS 10 (an (.mk 10 n m nm v key [a,c]))=prS (an c) 5 [60,61] (an a) 5:=by
    unfold ngS
    rw [if_neg (by omega),if_pos rfl,an_ks]
    rfl
   have e2:ngL 10=4:=rfl
   rw [e1,e2]
   clear e1 e2 hk ht htl
   generalize prS (an c) 5 [60,61] (an a) 5=s at *
   obtain ⟨ak,an',am,anm,av,akey,akids⟩:=a
   obtain ⟨ck,cn,cm,cnm,cv,ckey,ckids⟩:=c
   simp only [trV,trVs] at o1 ⊢
   have q1:=trVs_pure akids
   have q2:=trVs_pure ckids
   generalize trVs akids=xs at *
   generalize trVs ckids=ys at *
   rw [callL_enter (fn:=Tryz.f71) (c:=Tryz.f71.body.getD .skip) rfl rfl fat_print_negated rfl ok_print_negated (Nat.le_of_ble_eq_true rfl)]
   obtain ⟨ev,eo,so,co,⟨hev,hco⟩,R⟩:=RULES CC;rw [<- hev]
   rw [<- hco] at o1
   simp only [fpart,part',Tryz.f71,Option.getD]
   simp only [S9,R,seval,TRf,ss1,List.getElem?_concat_length,o1,q1,q2]
   exact ⟨_,rfl⟩
 have p9:(k == 9)=false:=by simpa using k9
 have p10:(k == 10)=false:=by simpa using k10
 have o1:=op_kid _ ht htl 3
 have kl:=kdS_len (an (.mk k n m nm v key kids)) 3
 have e0:TX (.mk k n m nm v key kids)=(an (.mk k n m nm v key kids)).s:=rfl
 rw [e0] at htl
 have e1:ngS k (an (.mk k n m nm v key kids))=cat [110,111,116,32] (kdS (an (.mk k n m nm v key kids)) 3):=by unfold ngS;rw [if_neg k9,if_neg k10]
 have e2:ngL k=3:=by unfold ngL;rw [if_neg k9,if_neg k10]
 rw [e1,e2]
 clear e0 e1 e2 ht hk
 generalize kdS (an (.mk k n m nm v key kids)) 3=s at *
 have c1:=catA (a:=[110,111,116,32]) (b:=s) (by simp only [List.length_cons,List.length_nil];omega)
 simp only [trV] at o1 ⊢
 generalize trVs kids=xs at *
 rw [callL_enter (fn:=Tryz.f71) (c:=Tryz.f71.body.getD .skip) rfl rfl fat_print_negated rfl ok_print_negated (Nat.le_of_ble_eq_true rfl)]
 obtain ⟨ev,eo,so,co,⟨hev,hco⟩,R⟩:=RULES CC;rw [<- hev]
 rw [<- hco] at o1
 simp only [fpart,part',Tryz.f71,Option.getD]
 simp only [S9,R,seval,TRf,ss1,List.getElem?_concat_length,o1,c1,p9,p10]
 exact ⟨_,rfl⟩
theorem op_negated (k n m:Int) (nm:List UInt8) (v:Vl) (key:Ky) (kids:List Tr) (hv:kdB k kids.length=true) (ht:TXc (.mk k n m nm v key kids)) (htl:(TX (.mk k n m nm v key kids)).length<=200000) (hk:∀ t ∈ kids,TXc t∧(TX t).length<=200000):NGc (.mk k n m nm v key kids):=fun bx=>by
 obtain ⟨c,hc⟩:=call_negated k n m nm v key kids hv ht htl hk
 exact callOp_of rfl (by simp only [pureL_cons,trV_pure,pureL_nil,Bool.and_self]) hc rfl
theorem TX_eq (k n m:Int) (nm:List UInt8) (v:Vl) (key:Ky) (kids:List Tr):TX (.mk k n m nm v key kids)=bdT k n m nm v key kids (ans kids):=by unfold TX;rw [an_eq];rfl
theorem LV_eq (k n m:Int) (nm:List UInt8) (v:Vl) (key:Ky) (kids:List Tr):LV (.mk k n m nm v key kids)=blT k v kids:=by unfold LV;rw [an_eq];rfl
theorem call_text_1 (n m:Int) (nm:List UInt8) (v:Vl) (key:Ky) (kids:List Tr) (hn:inI v.2.1) (hc:ckV v=0) (h0:v.1≠0):∃ bx,callL CC 37 [trV (.mk 1 n m nm v key kids)] []=some (.ret (.tup [.str (TX (.mk 1 n m nm v key kids)),.int .i64 (LV (.mk 1 n m nm v key kids))]),bx):=by
 have e1:TX (.mk 1 n m nm v key kids)=prV v:=by rw [TX_eq];unfold bdT;simp only [Int.reduceEq,if_true,if_false]
 have e2:LV (.mk 1 n m nm v key kids)=lvV v:=by rw [LV_eq];unfold blT;simp only [Int.reduceEq,if_true,if_false]
 rw [e1,e2]
 have o1:=op_literal v hn hc h0
 generalize prV v=s at *
 generalize lvV v=lv at *
 unfold vlV at o1
 simp only [trV]
 generalize trVs kids=xs at *
 clear e1 e2 hc h0
 rw [callL_enter (fn:=Tryz.f37) (c:=Tryz.f37.body.getD .skip) rfl rfl fat_print_text rfl ok_print_text (Nat.le_of_ble_eq_true rfl)]
 obtain ⟨ev,eo,so,co,⟨hev,hco⟩,R⟩:=RULES CC;rw [<- hev]
 rw [<- hco] at o1
 simp only [fpart,part',Tryz.f37,Option.getD]
 simp only [S9,R,seval,TRf,ss1,List.getElem?_concat_length,o1]
 exact ⟨_,rfl⟩
theorem call_text_8 (n m:Int) (nm:List UInt8) (v:Vl) (key:Ky) (kids:List Tr) (hl:kids.length<=1000) (hk:∀ t ∈ kids,TXc t∧(TX t).length<=200000):∃ bx,callL CC 37 [trV (.mk 8 n m nm v key kids)] []=some (.ret (.tup [.str (TX (.mk 8 n m nm v key kids)),.int .i64 (LV (.mk 8 n m nm v key kids))]),bx):=by
 have e1:TX (.mk 8 n m nm v key kids)=rowS [111,114] 2 (ans kids) 0 []:=by rw [TX_eq];unfold bdT;simp only [Int.reduceEq,if_true,if_false]
 have e2:LV (.mk 8 n m nm v key kids)=1:=by rw [LV_eq];unfold blT;simp only [Int.reduceEq,if_true,if_false]
 rw [e1,e2]
 have o1:=op_row kids hl [111,114] (by decide) 2 hk
 generalize rowS [111,114] 2 (ans kids) 0 []=s at *
 simp only [trV]
 generalize trVs kids=xs at *
 clear e1 e2 hk
 rw [callL_enter (fn:=Tryz.f37) (c:=Tryz.f37.body.getD .skip) rfl rfl fat_print_text rfl ok_print_text (Nat.le_of_ble_eq_true rfl)]
 obtain ⟨ev,eo,so,co,⟨hev,hco⟩,R⟩:=RULES CC;rw [<- hev]
 rw [<- hco] at o1
 simp only [fpart,part',Tryz.f37,Option.getD]
 simp only [S9,R,seval,TRf,ss1,List.getElem?_concat_length,o1]
 exact ⟨_,rfl⟩
theorem call_text_7 (n m:Int) (nm:List UInt8) (v:Vl) (key:Ky) (kids:List Tr) (hl:kids.length<=1000) (hk:∀ t ∈ kids,TXc t∧(TX t).length<=200000):∃ bx,callL CC 37 [trV (.mk 7 n m nm v key kids)] []=some (.ret (.tup [.str (TX (.mk 7 n m nm v key kids)),.int .i64 (LV (.mk 7 n m nm v key kids))]),bx):=by
 have e1:TX (.mk 7 n m nm v key kids)=rowS [97,110,100] 3 (ans kids) 0 []:=by rw [TX_eq];unfold bdT;simp only [Int.reduceEq,if_true,if_false]
 have e2:LV (.mk 7 n m nm v key kids)=2:=by rw [LV_eq];unfold blT;simp only [Int.reduceEq,if_true,if_false]
 rw [e1,e2]
 have o1:=op_row kids hl [97,110,100] (by decide) 3 hk
 generalize rowS [97,110,100] 3 (ans kids) 0 []=s at *
 simp only [trV]
 generalize trVs kids=xs at *
 clear e1 e2 hk
 rw [callL_enter (fn:=Tryz.f37) (c:=Tryz.f37.body.getD .skip) rfl rfl fat_print_text rfl ok_print_text (Nat.le_of_ble_eq_true rfl)]
 obtain ⟨ev,eo,so,co,⟨hev,hco⟩,R⟩:=RULES CC;rw [<- hev]
 rw [<- hco] at o1
 simp only [fpart,part',Tryz.f37,Option.getD]
 simp only [S9,R,seval,TRf,ss1,List.getElem?_concat_length,o1]
 exact ⟨_,rfl⟩
theorem call_text_9 (n m:Int) (nm:List UInt8) (v:Vl) (key:Ky) (kids:List Tr) (hv:kdB 9 kids.length=true) (hk:∀ t ∈ kids,TXc t∧(TX t).length<=200000):∃ bx,callL CC 37 [trV (.mk 9 n m nm v key kids)] []=some (.ret (.tup [.str (TX (.mk 9 n m nm v key kids)),.int .i64 (LV (.mk 9 n m nm v key kids))]),bx):=by
 obtain ⟨a,c,rfl⟩:=kd_two (k:=9) (by omega) hv
 have e1:TX (.mk 9 n m nm v key [a,c])=prS (an a) 5 [61,61] (an c) 5:=by rw [TX_eq];unfold bdT;simp only [Int.reduceEq,if_true,if_false];try rfl
 have e2:LV (.mk 9 n m nm v key [a,c])=4:=by rw [LV_eq];unfold blT;simp only [Int.reduceEq,if_true,if_false];try rfl
 rw [e1,e2]
 have o1:=op_pair a c (hk a (by simp)).1 (hk c (by simp)).1 (hk a (by simp)).2 (hk c (by simp)).2 5 5 [61,61] (by decide)
 clear e1 e2 hk
 generalize prS (an a) 5 [61,61] (an c) 5=s at *
 obtain ⟨ak,an',am,anm,av,akey,akids⟩:=a
 obtain ⟨ck,cn,cm,cnm,cv,ckey,ckids⟩:=c
 simp only [trV,trVs] at o1 ⊢
 have q1:=trVs_pure akids
 have q2:=trVs_pure ckids
 generalize trVs akids=xs at *
 generalize trVs ckids=ys at *
 rw [callL_enter (fn:=Tryz.f37) (c:=Tryz.f37.body.getD .skip) rfl rfl fat_print_text rfl ok_print_text (Nat.le_of_ble_eq_true rfl)]
 obtain ⟨ev,eo,so,co,⟨hev,hco⟩,R⟩:=RULES CC;rw [<- hev]
 rw [<- hco] at o1
 simp only [fpart,part',Tryz.f37,Option.getD]
 simp only [S9,R,seval,TRf,ss1,List.getElem?_concat_length,o1,q1,q2]
 exact ⟨_,rfl⟩
theorem call_text_10 (n m:Int) (nm:List UInt8) (v:Vl) (key:Ky) (kids:List Tr) (hv:kdB 10 kids.length=true) (hk:∀ t ∈ kids,TXc t∧(TX t).length<=200000):∃ bx,callL CC 37 [trV (.mk 10 n m nm v key kids)] []=some (.ret (.tup [.str (TX (.mk 10 n m nm v key kids)),.int .i64 (LV (.mk 10 n m nm v key kids))]),bx):=by
 obtain ⟨a,c,rfl⟩:=kd_two (k:=10) (by omega) hv
 have e1:TX (.mk 10 n m nm v key [a,c])=prS (an a) 5 [60] (an c) 5:=by rw [TX_eq];unfold bdT;simp only [Int.reduceEq,if_true,if_false];try rfl
 have e2:LV (.mk 10 n m nm v key [a,c])=4:=by rw [LV_eq];unfold blT;simp only [Int.reduceEq,if_true,if_false];try rfl
 rw [e1,e2]
 have o1:=op_pair a c (hk a (by simp)).1 (hk c (by simp)).1 (hk a (by simp)).2 (hk c (by simp)).2 5 5 [60] (by decide)
 clear e1 e2 hk
 generalize prS (an a) 5 [60] (an c) 5=s at *
 obtain ⟨ak,an',am,anm,av,akey,akids⟩:=a
 obtain ⟨ck,cn,cm,cnm,cv,ckey,ckids⟩:=c
 simp only [trV,trVs] at o1 ⊢
 have q1:=trVs_pure akids
 have q2:=trVs_pure ckids
 generalize trVs akids=xs at *
 generalize trVs ckids=ys at *
 rw [callL_enter (fn:=Tryz.f37) (c:=Tryz.f37.body.getD .skip) rfl rfl fat_print_text rfl ok_print_text (Nat.le_of_ble_eq_true rfl)]
 obtain ⟨ev,eo,so,co,⟨hev,hco⟩,R⟩:=RULES CC;rw [<- hev]
 rw [<- hco] at o1
 simp only [fpart,part',Tryz.f37,Option.getD]
 simp only [S9,R,seval,TRf,ss1,List.getElem?_concat_length,o1,q1,q2]
 exact ⟨_,rfl⟩
theorem call_text_11 (n m:Int) (nm:List UInt8) (v:Vl) (key:Ky) (kids:List Tr) (hv:kdB 11 kids.length=true) (hk:∀ t ∈ kids,TXc t∧(TX t).length<=200000):∃ bx,callL CC 37 [trV (.mk 11 n m nm v key kids)] []=some (.ret (.tup [.str (TX (.mk 11 n m nm v key kids)),.int .i64 (LV (.mk 11 n m nm v key kids))]),bx):=by
 obtain ⟨a,c,rfl⟩:=kd_two (k:=11) (by omega) hv
 have e1:TX (.mk 11 n m nm v key [a,c])=prS (an a) 5 [43] (an c) 6:=by rw [TX_eq];unfold bdT;simp only [Int.reduceEq,if_true,if_false];try rfl
 have e2:LV (.mk 11 n m nm v key [a,c])=5:=by rw [LV_eq];unfold blT;simp only [Int.reduceEq,if_true,if_false];try rfl
 rw [e1,e2]
 have o1:=op_pair a c (hk a (by simp)).1 (hk c (by simp)).1 (hk a (by simp)).2 (hk c (by simp)).2 5 6 [43] (by decide)
 clear e1 e2 hk
 generalize prS (an a) 5 [43] (an c) 6=s at *
 obtain ⟨ak,an',am,anm,av,akey,akids⟩:=a
 obtain ⟨ck,cn,cm,cnm,cv,ckey,ckids⟩:=c
 simp only [trV,trVs] at o1 ⊢
 have q1:=trVs_pure akids
 have q2:=trVs_pure ckids
 generalize trVs akids=xs at *
 generalize trVs ckids=ys at *
 rw [callL_enter (fn:=Tryz.f37) (c:=Tryz.f37.body.getD .skip) rfl rfl fat_print_text rfl ok_print_text (Nat.le_of_ble_eq_true rfl)]
 obtain ⟨ev,eo,so,co,⟨hev,hco⟩,R⟩:=RULES CC;rw [<- hev]
 rw [<- hco] at o1
 simp only [fpart,part',Tryz.f37,Option.getD]
 simp only [S9,R,seval,TRf,ss1,List.getElem?_concat_length,o1,q1,q2]
 exact ⟨_,rfl⟩
theorem call_text_13 (n m:Int) (nm:List UInt8) (v:Vl) (key:Ky) (kids:List Tr) (hv:kdB 13 kids.length=true) (hk:∀ t ∈ kids,TXc t∧(TX t).length<=200000):∃ bx,callL CC 37 [trV (.mk 13 n m nm v key kids)] []=some (.ret (.tup [.str (TX (.mk 13 n m nm v key kids)),.int .i64 (LV (.mk 13 n m nm v key kids))]),bx):=by
 obtain ⟨a,c,rfl⟩:=kd_two (k:=13) (by omega) hv
 have e1:TX (.mk 13 n m nm v key [a,c])=prS (an a) 6 [42] (an c) 7:=by rw [TX_eq];unfold bdT;simp only [Int.reduceEq,if_true,if_false];try rfl
 have e2:LV (.mk 13 n m nm v key [a,c])=6:=by rw [LV_eq];unfold blT;simp only [Int.reduceEq,if_true,if_false];try rfl
 rw [e1,e2]
 have o1:=op_pair a c (hk a (by simp)).1 (hk c (by simp)).1 (hk a (by simp)).2 (hk c (by simp)).2 6 7 [42] (by decide)
 clear e1 e2 hk
 generalize prS (an a) 6 [42] (an c) 7=s at *
 obtain ⟨ak,an',am,anm,av,akey,akids⟩:=a
 obtain ⟨ck,cn,cm,cnm,cv,ckey,ckids⟩:=c
 simp only [trV,trVs] at o1 ⊢
 have q1:=trVs_pure akids
 have q2:=trVs_pure ckids
 generalize trVs akids=xs at *
 generalize trVs ckids=ys at *
 rw [callL_enter (fn:=Tryz.f37) (c:=Tryz.f37.body.getD .skip) rfl rfl fat_print_text rfl ok_print_text (Nat.le_of_ble_eq_true rfl)]
 obtain ⟨ev,eo,so,co,⟨hev,hco⟩,R⟩:=RULES CC;rw [<- hev]
 rw [<- hco] at o1
 simp only [fpart,part',Tryz.f37,Option.getD]
 simp only [S9,R,seval,TRf,ss1,List.getElem?_concat_length,o1,q1,q2]
 exact ⟨_,rfl⟩
end Go.HH
namespace Go.HH
open Go Go.Proofs
set_option maxRecDepth 100000
set_option maxHeartbeats 4000000
set_option linter.unusedSimpArgs false
set_option linter.unusedVariables false
theorem call_text_14 (n m:Int) (nm:List UInt8) (v:Vl) (key:Ky) (kids:List Tr) (hv:kdB 14 kids.length=true) (hk:∀ t ∈ kids,TXc t∧(TX t).length<=200000):∃ bx,callL CC 37 [trV (.mk 14 n m nm v key kids)] []=some (.ret (.tup [.str (TX (.mk 14 n m nm v key kids)),.int .i64 (LV (.mk 14 n m nm v key kids))]),bx):=by
 obtain ⟨a,c,d,rfl⟩:=kd_three hv
 have e1:TX (.mk 14 n m nm v key [a,c,d])=cat (cat (cat (cat (cat [105,102,32] (kdS (an a) 0)) [32,116,104,101,110,32]) (kdS (an c) 0)) [32,101,108,115,101,32]) (kdS (an d) 0):=by rw [TX_eq];unfold bdT;simp only [Int.reduceEq,if_true,if_false];try rfl
 have e2:LV (.mk 14 n m nm v key [a,c,d])=0:=by rw [LV_eq];unfold blT;simp only [Int.reduceEq,if_true,if_false];try rfl
 rw [e1,e2]
 have o1:=op_kid a (hk a (by simp)).1 (hk a (by simp)).2 0
 have o2:=op_kid c (hk c (by simp)).1 (hk c (by simp)).2 0
 have o3:=op_kid d (hk d (by simp)).1 (hk d (by simp)).2 0
 have l1:=kdS_len (an a) 0
 have l2:=kdS_len (an c) 0
 have l3:=kdS_len (an d) 0
 have m1:(an a).s.length<=200000:=(hk a (by simp)).2
 have m2:(an c).s.length<=200000:=(hk c (by simp)).2
 have m3:(an d).s.length<=200000:=(hk d (by simp)).2
 clear e1 e2 hk
 generalize kdS (an a) 0=s1 at *
 generalize kdS (an c) 0=s2 at *
 generalize kdS (an d) 0=s3 at *
 have c1:=catA (a:=[105,102,32]) (b:=s1) (by simp only [List.length_cons,List.length_nil];omega)
 have c2:=catA (a:=cat [105,102,32] s1) (b:=[32,116,104,101,110,32]) (by simp only [cat_len,List.length_cons,List.length_nil];omega)
 have c3:=catA (a:=cat (cat [105,102,32] s1) [32,116,104,101,110,32]) (b:=s2) (by simp only [cat_len,List.length_cons,List.length_nil];omega)
 have c4:=catA (a:=cat (cat (cat [105,102,32] s1) [32,116,104,101,110,32]) s2) (b:=[32,101,108,115,101,32]) (by simp only [cat_len,List.length_cons,List.length_nil];omega)
 have c5:=catA (a:=cat (cat (cat (cat [105,102,32] s1) [32,116,104,101,110,32]) s2) [32,101,108,115,101,32]) (b:=s3) (by simp only [cat_len,List.length_cons,List.length_nil];omega)
 clear l1 l2 l3 m1 m2 m3
 obtain ⟨ak,an,am,anm,av,akey,akids⟩:=a
 obtain ⟨ck,cn,cm,cnm,cv,ckey,ckids⟩:=c
 obtain ⟨dk,dn,dm,dnm,dv,dkey,dkids⟩:=d
 simp only [trV,trVs] at o1 o2 o3 ⊢
 have q1:=trVs_pure akids
 have q2:=trVs_pure ckids
 have q3:=trVs_pure dkids
 generalize trVs akids=xs at *
 generalize trVs ckids=ys at *
 generalize trVs dkids=zs at *
 rw [callL_enter (fn:=Tryz.f37) (c:=Tryz.f37.body.getD .skip) rfl rfl fat_print_text rfl ok_print_text (Nat.le_of_ble_eq_true rfl)]
 obtain ⟨ev,eo,so,co,⟨hev,hco⟩,R⟩:=RULES CC;rw [<- hev]
 rw [<- hco] at o1 o2 o3
 simp only [fpart,part',Tryz.f37,Option.getD]
 simp only [S9,R,seval,TRf,ss1,List.getElem?_concat_length,o1,o2,o3,c1,c2,c3,c4,c5,q1,q2,q3]
 exact ⟨_,rfl⟩
theorem call_text_6 (n m:Int) (nm:List UInt8) (v:Vl) (key:Ky) (kids:List Tr) (a:Tr) (hkd:kids=[a]) (hng:NGc a):∃ bx,callL CC 37 [trV (.mk 6 n m nm v key kids)] []=some (.ret (.tup [.str (TX (.mk 6 n m nm v key kids)),.int .i64 (LV (.mk 6 n m nm v key kids))]),bx):=by
 subst hkd
 have e1:TX (.mk 6 n m nm v key [a])=ngS (kdOf a) (an a):=by rw [TX_eq];unfold bdT;simp only [Int.reduceEq,if_true,if_false];try rfl
 have e2:LV (.mk 6 n m nm v key [a])=ngL (kdOf a):=by rw [LV_eq];unfold blT;simp only [Int.reduceEq,if_true,if_false];try rfl
 rw [e1,e2]
 have o1:=hng
 unfold NGc at o1
 clear e1 e2 hng
 generalize ngS (kdOf a) (an a)=s at *
 generalize ngL (kdOf a)=lv at *
 obtain ⟨ak,an,am,anm,av,akey,akids⟩:=a
 simp only [trV,trVs] at o1 ⊢
 have q1:=trVs_pure akids
 generalize trVs akids=xs at *
 rw [callL_enter (fn:=Tryz.f37) (c:=Tryz.f37.body.getD .skip) rfl rfl fat_print_text rfl ok_print_text (Nat.le_of_ble_eq_true rfl)]
 obtain ⟨ev,eo,so,co,⟨hev,hco⟩,R⟩:=RULES CC;rw [<- hev]
 rw [<- hco] at o1
 simp only [fpart,part',Tryz.f37,Option.getD]
 simp only [S9,R,seval,TRf,ss1,List.getElem?_concat_length,o1,q1]
 exact ⟨_,rfl⟩
theorem call_text_12 (n m:Int) (nm:List UInt8) (v:Vl) (key:Ky) (kids:List Tr) (hv:kdB 12 kids.length=true) (hk:∀ t ∈ kids,TXc t∧(TX t).length<=200000):∃ bx,callL CC 37 [trV (.mk 12 n m nm v key kids)] []=some (.ret (.tup [.str (TX (.mk 12 n m nm v key kids)),.int .i64 (LV (.mk 12 n m nm v key kids))]),bx):=by
 obtain ⟨a,c,rfl⟩:=kd_two (k:=12) (by omega) hv
 have e1:TX (.mk 12 n m nm v key [a,c])=(if mnB [a,c] then cat [45] (kdS (an c) 7) else prS (an a) 5 [45] (an c) 6):=by rw [TX_eq];unfold bdT;simp only [Int.reduceEq,if_true,if_false];try rfl
 have e2:LV (.mk 12 n m nm v key [a,c])=(if mnB [a,c] then 7 else 5):=by rw [LV_eq];unfold blT;simp only [Int.reduceEq,if_true,if_false];try rfl
 rw [e1,e2]
 have o1:=op_pair a c (hk a (by simp)).1 (hk c (by simp)).1 (hk a (by simp)).2 (hk c (by simp)).2 5 6 [45] (by decide)
 have o2:=op_kid c (hk c (by simp)).1 (hk c (by simp)).2 7
 have o3:=op_minus 12 n m nm v key a c
 have l2:=kdS_len (an c) 7
 have m2:(an c).s.length<=200000:=(hk c (by simp)).2
 clear e1 e2 hk
 generalize prS (an a) 5 [45] (an c) 6=s at *
 generalize kdS (an c) 7=s2 at *
 have c1:=catA (a:=[45]) (b:=s2) (by simp only [List.length_cons,List.length_nil];omega)
 clear l2 m2
 generalize mnB [a,c]=q at *
 obtain ⟨ak,an',am,anm,av,akey,akids⟩:=a
 obtain ⟨ck,cn,cm,cnm,cv,ckey,ckids⟩:=c
 simp only [trV,trVs] at o1 o2 o3 ⊢
 have q1:=trVs_pure akids
 have q2:=trVs_pure ckids
 generalize trVs akids=xs at *
 generalize trVs ckids=ys at *
 rw [callL_enter (fn:=Tryz.f37) (c:=Tryz.f37.body.getD .skip) rfl rfl fat_print_text rfl ok_print_text (Nat.le_of_ble_eq_true rfl)]
 cases q with
 | true=>
  rw [if_pos rfl,if_pos rfl]
  obtain ⟨ev,eo,so,co,⟨hev,hco⟩,R⟩:=RULES CC;rw [<- hev]
  rw [<- hco] at o1 o2 o3
  simp only [fpart,part',Tryz.f37,Option.getD]
  simp only [S9,R,seval,TRf,ss1,List.getElem?_concat_length,o1,o2,o3,c1,q1,q2]
  exact ⟨_,rfl⟩
 | false=>
  rw [if_neg (by simp),if_neg (by simp)]
  obtain ⟨ev,eo,so,co,⟨hev,hco⟩,R⟩:=RULES CC;rw [<- hev]
  rw [<- hco] at o1 o2 o3
  simp only [fpart,part',Tryz.f37,Option.getD]
  simp only [S9,R,seval,TRf,ss1,List.getElem?_concat_length,o1,o2,o3,c1,q1,q2]
  exact ⟨_,rfl⟩
theorem call_text_2 (n m:Int) (nm:List UInt8) (v:Vl) (key:Ky) (kids:List Tr) (hr:rgB 2 n m key.1=true) (hd:inI key.1) (l1:nm.length<=100) (l2:key.2.1.length<=100) (l3:key.2.2.length<=100):∃ bx,callL CC 37 [trV (.mk 2 n m nm v key kids)] []=some (.ret (.tup [.str (TX (.mk 2 n m nm v key kids)),.int .i64 (LV (.mk 2 n m nm v key kids))]),bx):=by
 have e1:TX (.mk 2 n m nm v key kids)=prmT 2 n m nm key:=by rw [TX_eq];unfold bdT;simp only [Int.reduceEq,if_true,if_false]
 have e2:LV (.mk 2 n m nm v key kids)=8:=by rw [LV_eq];unfold blT;simp only [Int.reduceEq,if_true,if_false]
 rw [e1,e2]
 have o1:=op_primary 2 n m nm v key kids (by omega) hr hd l1 l2 l3
 clear e1 e2 hr hd l1 l2 l3
 generalize prmT 2 n m nm key=s at *
 simp only [trV] at o1 ⊢
 generalize trVs kids=xs at *
 rw [callL_enter (fn:=Tryz.f37) (c:=Tryz.f37.body.getD .skip) rfl rfl fat_print_text rfl ok_print_text (Nat.le_of_ble_eq_true rfl)]
 obtain ⟨ev,eo,so,co,⟨hev,hco⟩,R⟩:=RULES CC;rw [<- hev]
 rw [<- hco] at o1
 simp only [fpart,part',Tryz.f37,Option.getD]
 simp only [S9,R,seval,TRf,ss1,List.getElem?_concat_length,o1]
 exact ⟨_,rfl⟩
theorem call_text_3 (n m:Int) (nm:List UInt8) (v:Vl) (key:Ky) (kids:List Tr) (hr:rgB 3 n m key.1=true) (hd:inI key.1) (l1:nm.length<=100) (l2:key.2.1.length<=100) (l3:key.2.2.length<=100):∃ bx,callL CC 37 [trV (.mk 3 n m nm v key kids)] []=some (.ret (.tup [.str (TX (.mk 3 n m nm v key kids)),.int .i64 (LV (.mk 3 n m nm v key kids))]),bx):=by
 have e1:TX (.mk 3 n m nm v key kids)=prmT 3 n m nm key:=by rw [TX_eq];unfold bdT;simp only [Int.reduceEq,if_true,if_false]
 have e2:LV (.mk 3 n m nm v key kids)=8:=by rw [LV_eq];unfold blT;simp only [Int.reduceEq,if_true,if_false]
 rw [e1,e2]
 have o1:=op_primary 3 n m nm v key kids (by omega) hr hd l1 l2 l3
 clear e1 e2 hr hd l1 l2 l3
 generalize prmT 3 n m nm key=s at *
 simp only [trV] at o1 ⊢
 generalize trVs kids=xs at *
 rw [callL_enter (fn:=Tryz.f37) (c:=Tryz.f37.body.getD .skip) rfl rfl fat_print_text rfl ok_print_text (Nat.le_of_ble_eq_true rfl)]
 obtain ⟨ev,eo,so,co,⟨hev,hco⟩,R⟩:=RULES CC;rw [<- hev]
 rw [<- hco] at o1
 simp only [fpart,part',Tryz.f37,Option.getD]
 simp only [S9,R,seval,TRf,ss1,List.getElem?_concat_length,o1]
 exact ⟨_,rfl⟩
theorem call_text_4 (n m:Int) (nm:List UInt8) (v:Vl) (key:Ky) (kids:List Tr) (hr:rgB 4 n m key.1=true) (hd:inI key.1) (l1:nm.length<=100) (l2:key.2.1.length<=100) (l3:key.2.2.length<=100):∃ bx,callL CC 37 [trV (.mk 4 n m nm v key kids)] []=some (.ret (.tup [.str (TX (.mk 4 n m nm v key kids)),.int .i64 (LV (.mk 4 n m nm v key kids))]),bx):=by
 have e1:TX (.mk 4 n m nm v key kids)=prmT 4 n m nm key:=by rw [TX_eq];unfold bdT;simp only [Int.reduceEq,if_true,if_false]
 have e2:LV (.mk 4 n m nm v key kids)=8:=by rw [LV_eq];unfold blT;simp only [Int.reduceEq,if_true,if_false]
 rw [e1,e2]
 have o1:=op_primary 4 n m nm v key kids (by omega) hr hd l1 l2 l3
 clear e1 e2 hr hd l1 l2 l3
 generalize prmT 4 n m nm key=s at *
 simp only [trV] at o1 ⊢
 generalize trVs kids=xs at *
 rw [callL_enter (fn:=Tryz.f37) (c:=Tryz.f37.body.getD .skip) rfl rfl fat_print_text rfl ok_print_text (Nat.le_of_ble_eq_true rfl)]
 obtain ⟨ev,eo,so,co,⟨hev,hco⟩,R⟩:=RULES CC;rw [<- hev]
 rw [<- hco] at o1
 simp only [fpart,part',Tryz.f37,Option.getD]
 simp only [S9,R,seval,TRf,ss1,List.getElem?_concat_length,o1]
 exact ⟨_,rfl⟩
theorem call_text_5 (n m:Int) (nm:List UInt8) (v:Vl) (key:Ky) (kids:List Tr) (hr:rgB 5 n m key.1=true) (hd:inI key.1) (l1:nm.length<=100) (l2:key.2.1.length<=100) (l3:key.2.2.length<=100):∃ bx,callL CC 37 [trV (.mk 5 n m nm v key kids)] []=some (.ret (.tup [.str (TX (.mk 5 n m nm v key kids)),.int .i64 (LV (.mk 5 n m nm v key kids))]),bx):=by
 have e1:TX (.mk 5 n m nm v key kids)=prmT 5 n m nm key:=by rw [TX_eq];unfold bdT;simp only [Int.reduceEq,if_true,if_false]
 have e2:LV (.mk 5 n m nm v key kids)=8:=by rw [LV_eq];unfold blT;simp only [Int.reduceEq,if_true,if_false]
 rw [e1,e2]
 have o1:=op_primary 5 n m nm v key kids (by omega) hr hd l1 l2 l3
 clear e1 e2 hr hd l1 l2 l3
 generalize prmT 5 n m nm key=s at *
 simp only [trV] at o1 ⊢
 generalize trVs kids=xs at *
 rw [callL_enter (fn:=Tryz.f37) (c:=Tryz.f37.body.getD .skip) rfl rfl fat_print_text rfl ok_print_text (Nat.le_of_ble_eq_true rfl)]
 obtain ⟨ev,eo,so,co,⟨hev,hco⟩,R⟩:=RULES CC;rw [<- hev]
 rw [<- hco] at o1
 simp only [fpart,part',Tryz.f37,Option.getD]
 simp only [S9,R,seval,TRf,ss1,List.getElem?_concat_length,o1]
 exact ⟨_,rfl⟩
theorem call_text_15 (n m:Int) (nm:List UInt8) (v:Vl) (key:Ky) (kids:List Tr) (hr:rgB 15 n m key.1=true) (hd:inI key.1) (l1:nm.length<=100) (l2:key.2.1.length<=100) (l3:key.2.2.length<=100):∃ bx,callL CC 37 [trV (.mk 15 n m nm v key kids)] []=some (.ret (.tup [.str (TX (.mk 15 n m nm v key kids)),.int .i64 (LV (.mk 15 n m nm v key kids))]),bx):=by
 have e1:TX (.mk 15 n m nm v key kids)=prmT 15 n m nm key:=by rw [TX_eq];unfold bdT;simp only [Int.reduceEq,if_true,if_false]
 have e2:LV (.mk 15 n m nm v key kids)=8:=by rw [LV_eq];unfold blT;simp only [Int.reduceEq,if_true,if_false]
 rw [e1,e2]
 have o1:=op_primary 15 n m nm v key kids (by omega) hr hd l1 l2 l3
 clear e1 e2 hr hd l1 l2 l3
 generalize prmT 15 n m nm key=s at *
 simp only [trV] at o1 ⊢
 generalize trVs kids=xs at *
 rw [callL_enter (fn:=Tryz.f37) (c:=Tryz.f37.body.getD .skip) rfl rfl fat_print_text rfl ok_print_text (Nat.le_of_ble_eq_true rfl)]
 obtain ⟨ev,eo,so,co,⟨hev,hco⟩,R⟩:=RULES CC;rw [<- hev]
 rw [<- hco] at o1
 simp only [fpart,part',Tryz.f37,Option.getD]
 simp only [S9,R,seval,TRf,ss1,List.getElem?_concat_length,o1]
 exact ⟨_,rfl⟩
theorem prm_len (k n m:Int) (nm:List UInt8) (key:Ky) (hk:k=2∨k=3∨k=4∨k=5∨k=15) (hr:rgB k n m key.1=true) (hd:inI key.1) (l1:nm.length<=100) (l2:key.2.1.length<=100) (l3:key.2.2.length<=100):(prmT k n m nm key).length<=300:=by
 have hi:=itoa_length hd
 have hdl:∀ w ∈ dayW,w.length=3:=by decide
 have hdy:∀ (l:List (List UInt8)) (q:Nat),(∀ w ∈ l,w.length=3)->(dayL q l).length<=4 * l.length:=by
  intro l
  induction l with
  | nil=>intro q _;simp [dayL]
  | cons w r ih=>
   intro q hw
   have h3:=hw w List.mem_cons_self
   have hr:=ih (q / 2) (fun x hx=>hw x (List.mem_cons_of_mem _ hx))
   unfold dayL
   split
   · split
     · simp only [List.length_cons];omega
     · simp only [List.length_append,List.length_cons];omega
   · simp only [List.length_cons];omega
 have hd2:=hdy dayW n.toNat hdl
 have h7:dayW.length=7:=rfl
 unfold prmT
 split
 · unfold dotT
   simp only [cat_len,List.length_singleton]
   omega
 split
 · simp only [cat_len,List.length_cons,List.length_nil]
   omega
 split
 · have e1:(clkT n.toNat).length=5:=rfl
   have e2:(clkT m.toNat).length=5:=rfl
   simp only [cat_len,List.length_cons,List.length_nil,e1,e2]
   omega
 split
 · unfold dayN
   simp only [List.length_append,List.length_cons,List.length_nil]
   omega
 · unfold homeN
   split <;> decide
theorem pr_len (v:Vl) (h:inI v.2.1):(prV v).length<=300:=by
 unfold prV
 have hi:=itoa_length h
 split
 · simp
 · rename_i hc
   have hk:=ck_len (v:=v) (by omega)
   split
   · decide
   · split
     · split <;> decide
     · split
       · omega
       · split
         · simp only [List.length_cons];omega
         · have:=flat_le v.2.2
           have:=quoteL_length v.2.2
           omega
end Go.HH
namespace Go.HH
open Go Go.Proofs
set_option maxRecDepth 100000
set_option maxHeartbeats 4000000
set_option linter.unusedSimpArgs false
set_option linter.unusedVariables false
theorem nd_ok {k n m:Int} {nm:List UInt8} {v:Vl} {key:Ky} {kids:List Tr} (h:ndT (.mk k n m nm v key kids)=0):1<=k∧k<=15∧kdB k kids.length=true∧rgB k n m key.1=true∧(k=1->ckV v=0∧v.1≠0):=by
 unfold ndT at h
 dsimp only at h
 by_cases h1:k < 1∨15 < k
 · rw [if_pos h1] at h;simp at h
 rw [if_neg h1] at h
 by_cases h2:kdB k kids.length=false∨spT (.mk k n m nm v key kids)=true
 · rw [if_pos h2] at h;simp at h
 rw [if_neg h2] at h
 by_cases h3:rgB k n m key.1=false
 · rw [if_pos h3] at h;simp at h
 rw [if_neg h3] at h
 have b2:kdB k kids.length=true:=by
  cases hb:kdB k kids.length with
  | true=>rfl
  | false=>exact absurd (.inl hb) h2
 have b3:rgB k n m key.1=true:=by
  cases hb:rgB k n m key.1 with
  | true=>rfl
  | false=>exact absurd hb h3
 refine ⟨by omega,by omega,b2,b3,fun hk=>?_⟩
 rw [if_neg (by omega),if_neg (by omega),if_pos hk] at h
 by_cases hc:ckV v≠0
 · rw [if_pos hc] at h;exact absurd h hc
 rw [if_neg hc] at h
 by_cases h0:v.1=0
 · rw [if_pos h0] at h;simp at h
 exact ⟨by omega,h0⟩
theorem kd_le {k:Int} {l:List Tr} (hk:1<=k∧k<=15) (h:kdB k l.length=true):l.length<=8:=by
 unfold kdB at h
 split at h
 · have:=eq_of_beq h;omega
 split at h
 · rw [Bool.and_eq_true] at h
   have:=of_decide_eq_true h.2
   omega
 split at h
 · have:=eq_of_beq h;omega
 split at h
 · have:=eq_of_beq h;omega
 · have:=eq_of_beq h;omega
def smS:List Tr->Nat
 | []=>0
 | t :: r=>(TX t).length+20+smS r
theorem row_len (op:List UInt8) (ho:op.length<=10) (least:Int):∀ (l:List Tr) (i:Nat) (acc:List UInt8),(rowS op least (ans l) i acc).length<=acc.length+smS l
 | [],i,acc=>by unfold ans rowS smS;omega
 | t :: r,i,acc=>by
  unfold ans rowS smS
  have h:=row_len op ho least r (i+1) (cat (if 0 < i then cat acc (cat (cat [32] op) [32]) else acc) (kdS (an t) least))
  have k:=kdS_len (an t) least
  have e:TX t=(an t).s:=rfl
  rw [e]
  have h2:(if 0 < i then cat acc (cat (cat [32] op) [32]) else acc).length<=acc.length+12:=by
   split <;> (try simp only [cat_len,List.length_singleton]) <;> omega
  rw [cat_len] at h
  omega
theorem ng_len {k n m:Int} {nm:List UInt8} {v:Vl} {key:Ky} {kids:List Tr} (hv:kdB k kids.length=true):(ngS k (an (.mk k n m nm v key kids))).length<=(TX (.mk k n m nm v key kids)).length+7:=by
 unfold ngS
 by_cases k9:k=9
 · subst k9
   obtain ⟨a,c,rfl⟩:=kd_two (k:=9) (by omega) hv
   rw [if_pos rfl,an_ks,TX_eq]
   unfold bdT
   simp only [Int.reduceEq,if_true,if_false]
   simp only [prS,kidsOf,cat_len,List.length_cons,List.length_nil]
   omega
 by_cases k10:k=10
 · subst k10
   obtain ⟨a,c,rfl⟩:=kd_two (k:=10) (by omega) hv
   rw [if_neg (by omega),if_pos rfl,an_ks,TX_eq]
   unfold bdT
   simp only [Int.reduceEq,if_true,if_false]
   simp only [prS,kidsOf,cat_len,List.length_cons,List.length_nil]
   omega
 rw [if_neg k9,if_neg k10,cat_len]
 have:=kdS_len (an (.mk k n m nm v key kids)) 3
 have e:TX (.mk k n m nm v key kids)=(an (.mk k n m nm v key kids)).s:=rfl
 rw [e]
 simp only [List.length_cons,List.length_nil]
 omega
theorem node_len {k n m:Int} {nm:List UInt8} {v:Vl} {key:Ky} {kids:List Tr} (h:ndT (.mk k n m nm v key kids)=0) (hnd:∀ t ∈ kids,∃ k n m nm v key l,t=.mk k n m nm v key l∧ndT t=0) (l1:nm.length<=100) (l2:key.2.1.length<=100) (l3:key.2.2.length<=100) (hi:inI v.2.1) (hd:inI key.1) :
 (TX (.mk k n m nm v key kids)).length<=400+smS kids:=by
 obtain ⟨g1,g2,g3,g4,g5⟩:=nd_ok h
 rw [TX_eq]
 have hk2:∀ (l1:Int) (op:List UInt8) (l2:Int) (a c:Tr),(prS (an a) l1 op (an c) l2).length<=(TX a).length+(TX c).length+6+op.length:=fun l1 op l2 a c=>by
  have:=kdS_len (an a) l1
  have:=kdS_len (an c) l2
  have e1:TX a=(an a).s:=rfl
  have e2:TX c=(an c).s:=rfl
  rw [e1,e2]
  unfold prS
  simp only [cat_len,List.length_singleton]
  omega
 have hcase:k=1∨k=14∨k=8∨k=7∨k=6∨k=9∨k=10∨k=11∨k=12∨k=13∨(k=2∨k=3∨k=4∨k=5∨k=15):=by omega
 rcases hcase with rfl | rfl | rfl | rfl | rfl | rfl | rfl | rfl | rfl | rfl | hp
 · unfold bdT
   simp only [Int.reduceEq,if_true,if_false]
   have:=pr_len v hi
   omega
 · obtain ⟨a,c,d,rfl⟩:=kd_three g3
   unfold bdT
   simp only [Int.reduceEq,if_true,if_false]
   have f1:=kdS_len (an a) 0
   have f2:=kdS_len (an c) 0
   have f3:=kdS_len (an d) 0
   have e1:TX a=(an a).s:=rfl
   have e2:TX c=(an c).s:=rfl
   have e3:TX d=(an d).s:=rfl
   have a0:atG (ans [a,c,d]) 0=an a:=rfl
   have a1:atG (ans [a,c,d]) 1=an c:=rfl
   have a2:atG (ans [a,c,d]) 2=an d:=rfl
   rw [a0,a1,a2]
   simp only [smS,cat_len,List.length_cons,List.length_nil,e1,e2,e3]
   omega
 · unfold bdT
   simp only [Int.reduceEq,if_true,if_false]
   have:=row_len [111,114] (by decide) 2 kids 0 []
   simp only [List.length_nil] at this
   omega
 · unfold bdT
   simp only [Int.reduceEq,if_true,if_false]
   have:=row_len [97,110,100] (by decide) 3 kids 0 []
   simp only [List.length_nil] at this
   omega
 · obtain ⟨a,rfl⟩:=kd_one g3
   obtain ⟨k',n',m',nm',v',key',l',rfl,hnn⟩:=hnd a (by simp)
   obtain ⟨_,_,q3,_,_⟩:=nd_ok hnn
   have:=ng_len (n:=n') (m:=m') (nm:=nm') (v:=v') (key:=key') q3
   have e:bdT 6 n m nm v key [.mk k' n' m' nm' v' key' l'] (ans [.mk k' n' m' nm' v' key' l'])=ngS k' (an (.mk k' n' m' nm' v' key' l')):=by
    unfold bdT
    simp only [Int.reduceEq,if_true,if_false]
    rfl
   rw [e]
   simp only [smS]
   omega
 · obtain ⟨a,c,rfl⟩:=kd_two (k:=9) (by omega) g3
   unfold bdT
   simp only [Int.reduceEq,if_true,if_false]
   have a0:atG (ans [a,c]) 0=an a:=rfl
   have a1:atG (ans [a,c]) 1=an c:=rfl
   rw [a0,a1]
   have:=hk2 5 [61,61] 5 a c
   simp only [List.length_cons,List.length_nil] at this
   simp only [smS]
   omega
 · obtain ⟨a,c,rfl⟩:=kd_two (k:=10) (by omega) g3
   unfold bdT
   simp only [Int.reduceEq,if_true,if_false]
   have a0:atG (ans [a,c]) 0=an a:=rfl
   have a1:atG (ans [a,c]) 1=an c:=rfl
   rw [a0,a1]
   have:=hk2 5 [60] 5 a c
   simp only [List.length_cons,List.length_nil] at this
   simp only [smS]
   omega
 · obtain ⟨a,c,rfl⟩:=kd_two (k:=11) (by omega) g3
   unfold bdT
   simp only [Int.reduceEq,if_true,if_false]
   have a0:atG (ans [a,c]) 0=an a:=rfl
   have a1:atG (ans [a,c]) 1=an c:=rfl
   rw [a0,a1]
   have:=hk2 5 [43] 6 a c
   simp only [List.length_cons,List.length_nil] at this
   simp only [smS]
   omega
 · obtain ⟨a,c,rfl⟩:=kd_two (k:=12) (by omega) g3
   unfold bdT
   simp only [Int.reduceEq,if_true,if_false]
   have a0:atG (ans [a,c]) 0=an a:=rfl
   have a1:atG (ans [a,c]) 1=an c:=rfl
   rw [a0,a1]
   have:=hk2 5 [45] 6 a c
   have f:=kdS_len (an c) 7
   have e:TX c=(an c).s:=rfl
   simp only [List.length_cons,List.length_nil] at this
   simp only [smS]
   split
   · simp only [cat_len,List.length_cons,List.length_nil,e]
     omega
   · omega
 · obtain ⟨a,c,rfl⟩:=kd_two (k:=13) (by omega) g3
   unfold bdT
   simp only [Int.reduceEq,if_true,if_false]
   have a0:atG (ans [a,c]) 0=an a:=rfl
   have a1:atG (ans [a,c]) 1=an c:=rfl
   rw [a0,a1]
   have:=hk2 6 [42] 7 a c
   simp only [List.length_cons,List.length_nil] at this
   simp only [smS]
   omega
 · have:=prm_len k n m nm key hp g4 hd l1 l2 l3
   have e:bdT k n m nm v key kids (ans kids)=prmT k n m nm key:=by
    unfold bdT
    rw [if_neg (by omega),if_neg (by omega),if_neg (by omega),if_neg (by omega),if_neg (by omega),if_neg (by omega),if_neg (by omega),if_neg (by omega),if_neg (by omega),if_neg (by omega)]
   rw [e]
   omega
theorem v_nd:∀ l:List Tr,vTs l->∀ t ∈ l,∃ k n m nm v key l',t=.mk k n m nm v key l'∧ndT t=0:=fun l h t ht=>by
 have hv:=(vTs_iff l).1 h t ht
 obtain ⟨k,n,m,nm,v,key,l'⟩:=t
 unfold vT at hv
 exact ⟨k,n,m,nm,v,key,l',rfl,hv.1⟩
mutual
theorem an_len (t:Tr) (hv:vT t) (hs:shT t) (ho:okTr t):(TX t).length<=600 * ndC t:=by
 match t with
 | .mk k n m nm v key kids=>
  unfold vT at hv
  unfold shT at hs
  unfold okTr at ho
  unfold ndC
  obtain ⟨o1,o2,o3,o4,o5,o6,o7,o8⟩:=ho
  have h1:=node_len hv.1 (v_nd kids hv.2) hs.1.1 hs.1.2.2.1 hs.1.2.2.2.1 o5.2.1 o6.1
  have h2:=ans_len kids hv.2 hs.2 o8
  obtain ⟨g1,g2,g3,_,_⟩:=nd_ok hv.1
  have h3:=kd_le ⟨g1,g2⟩ g3
  omega
theorem ans_len (l:List Tr) (hv:vTs l) (hs:shTs l) (ho:okTrs l):smS l<=600 * ndCs l+20 * l.length:=by
 match l with
 | []=>unfold smS ndCs;omega
 | t :: r=>
  unfold vTs at hv
  unfold shTs at hs
  unfold okTrs at ho
  unfold smS ndCs
  have h1:=an_len t hv.1 hs.1 ho.1
  have h2:=ans_len r hv.2 hs.2 ho.2
  rw [List.length_cons]
  omega
end
theorem TXc_of {t:Tr} (h:∃ bx,callL CC 37 [trV t] []=some (.ret (.tup [.str (TX t),.int .i64 (LV t)]),bx)):TXc t:=fun bx=>by
 obtain ⟨c,hc⟩:=h
 exact callOp_of rfl (by simp only [pureL_cons,trV_pure,pureL_nil,Bool.and_self]) hc rfl
theorem len_all {l:List Tr} (hv:vTs l) (hs:shTs l) (ho:okTrs l) (hn:ndCs l<=300):∀ t ∈ l,(TX t).length<=200000:=by
 induction l with
 | nil=>intro t ht;cases ht
 | cons a r ih=>
  unfold vTs at hv
  unfold shTs at hs
  unfold okTrs at ho
  unfold ndCs at hn
  intro t ht
  rcases List.mem_cons.1 ht with rfl | ht
  · have:=an_len t hv.1 hs.1 ho.1;omega
  · exact ih hv.2 hs.2 ho.2 (by omega) t ht
mutual
theorem tx_ok (t:Tr) (hv:vT t) (hs:shT t) (ho:okTr t) (hn:ndC t<=300):TXc t∧∀ y ∈ kidsOf t,TXc y:=by
 match t with
 | .mk k n m nm v key kids=>
  unfold vT at hv
  unfold shT at hs
  unfold okTr at ho
  unfold ndC at hn
  obtain ⟨o1,o2,o3,o4,o5,o6,o7,o8⟩:=ho
  have hk:=txs_ok kids hv.2 hs.2 o8 (by omega)
  have hl:=len_all hv.2 hs.2 o8 (by omega)
  have hkk:∀ t ∈ kids,TXc t∧(TX t).length<=200000:=fun t ht=>⟨(hk t ht).1,hl t ht⟩
  obtain ⟨g1,g2,g3,g4,g5⟩:=nd_ok hv.1
  have h8:=kd_le ⟨g1,g2⟩ g3
  refine ⟨TXc_of ?_,fun y hy=>(hk y hy).1⟩
  have hcase:k=1∨k=14∨k=8∨k=7∨k=6∨k=9∨k=10∨k=11∨k=12∨k=13∨k=2∨k=3∨k=4∨k=5∨k=15:=by omega
  rcases hcase with rfl | rfl | rfl | rfl | rfl | rfl | rfl | rfl | rfl | rfl | rfl | rfl | rfl | rfl | rfl
  · exact call_text_1 n m nm v key kids o5.2.1 (g5 rfl).1 (g5 rfl).2
  · exact call_text_14 n m nm v key kids g3 hkk
  · exact call_text_8 n m nm v key kids (by omega) hkk
  · exact call_text_7 n m nm v key kids (by omega) hkk
  · obtain ⟨a,rfl⟩:=kd_one g3
    refine call_text_6 n m nm v key _ a rfl ?_
    have ha:=hk a (by simp)
    have hla:=hl a (by simp)
    obtain ⟨hva,_⟩:=hv.2
    obtain ⟨hsa,_⟩:=hs.2
    unfold okTrs at o8
    have hoa:=o8.1
    unfold ndCs at hn
    obtain ⟨k',n',m',nm',v',key',kids'⟩:=a
    unfold vT at hva
    unfold shT at hsa
    unfold okTr at hoa
    unfold ndC at hn
    have hl':=len_all hva.2 hsa.2 hoa.2.2.2.2.2.2.2 (by omega)
    obtain ⟨_,_,q3,_,_⟩:=nd_ok hva.1
    exact op_negated k' n' m' nm' v' key' kids' q3 ha.1 hla (fun t ht=>⟨ha.2 t ht,hl' t ht⟩)
  · exact call_text_9 n m nm v key kids g3 hkk
  · exact call_text_10 n m nm v key kids g3 hkk
  · exact call_text_11 n m nm v key kids g3 hkk
  · exact call_text_12 n m nm v key kids g3 hkk
  · exact call_text_13 n m nm v key kids g3 hkk
  · exact call_text_2 n m nm v key kids g4 o6.1 hs.1.1 hs.1.2.2.1 hs.1.2.2.2.1
  · exact call_text_3 n m nm v key kids g4 o6.1 hs.1.1 hs.1.2.2.1 hs.1.2.2.2.1
  · exact call_text_4 n m nm v key kids g4 o6.1 hs.1.1 hs.1.2.2.1 hs.1.2.2.2.1
  · exact call_text_5 n m nm v key kids g4 o6.1 hs.1.1 hs.1.2.2.1 hs.1.2.2.2.1
  · exact call_text_15 n m nm v key kids g4 o6.1 hs.1.1 hs.1.2.2.1 hs.1.2.2.2.1
theorem txs_ok (l:List Tr) (hv:vTs l) (hs:shTs l) (ho:okTrs l) (hn:ndCs l<=300):∀ t ∈ l,TXc t∧∀ y ∈ kidsOf t,TXc y:=by
 match l with
 | []=>intro t ht;cases ht
 | a :: r=>
  unfold vTs at hv
  unfold shTs at hs
  unfold okTrs at ho
  unfold ndCs at hn
  have h1:=tx_ok a hv.1 hs.1 ho.1 (by omega)
  have h2:=txs_ok r hv.2 hs.2 ho.2 (by omega)
  intro t ht
  rcases List.mem_cons.1 ht with rfl | ht
  · exact h1
  · exact h2 t ht
end
end Go.HH
namespace Go.HH
open Go Go.Proofs
set_option maxRecDepth 100000
set_option linter.unusedSimpArgs false
set_option linter.unusedVariables false
def ltT (n:Int):Tr:=.mk 1 0 0 [] (2,n,[]) (0,[],[]) []
def flT (n:Int):Tr:=.mk 1 0 0 [] (1,n,[]) (0,[],[]) []
def atTr:Tr:=.mk 2 0 0 [] (0,0,[]) (3,[108,101,118,101,108],[108,101,118,101,108]) []
def opT (k:Int) (kids:List Tr):Tr:=.mk k 0 0 [] (0,0,[]) (0,[],[]) kids
def exR:Rl:=⟨[97],0,[⟨5,(0,[],[]),(0,[],[]),[],0,0⟩],flT 1,[⟨4,(0,[],[]),[97,119,97,121],.mk 0 0 0 [] (0,0,[]) (0,[],[]) []⟩]⟩
noncomputable def chkTE (f:FuncId) (a:PV) (s:List UInt8) (e:Int):Bool:=match callF CC 130 f [a] [] with
 | some (.ret (.tup [.str t,.int .i64 x]),_)=>t == s && x == e
 | _=>false
theorem of_chkTE {f:FuncId} {a:PV} {s:List UInt8} {e:Int} (hp:a.pure=true) (h:chkTE f a s e=true) (bx) (hh:CC.heap f=false:=by rfl):callOp CC (callL CC) f [a] bx=some (.ret (.tup [.str s,.int .i64 e]),bx):=by
 unfold chkTE at h
 split at h
 · rename_i t x b hs
   rw [Bool.and_eq_true] at h
   have e1:t=s:=by simpa using h.1
   have e2:x=e:=by simpa using h.2
   subst e1 e2
   exact callOp_of hh (by simp only [pureL,hp,Bool.and_true]) (callL_iff.2 ⟨130,hs⟩) rfl
 · cases h
def exS1:List UInt8:=[53,32,60,61,32,51,46,108,101,118,101,108,46,108,101,118,101,108]
theorem ex1:chkTE 14 (trV (opT 6 [opT 10 [atTr,ltT 5]])) exS1 0=true:=by kernel_rfl
def exS2:List UInt8:=[40,49,32,43,32,50,41,32,42,32,45,51,46,108,101,118,101,108,46,108,101,118,101,108]
theorem ex2:chkTE 14 (trV (opT 13 [opT 11 [ltT 1,ltT 2],opT 12 [ltT 0,atTr]])) exS2 0=true:=by kernel_rfl
def exS3:List UInt8:=[40,116,114,117,101,32,111,114,32,102,97,108,115,101,41,32,97,110,100,32,116,114,117,101]
theorem ex3:chkTE 14 (trV (opT 7 [opT 8 [flT 1,flT 0],flT 1])) exS3 0=true:=by kernel_rfl
def exS4:List UInt8:=[48,32,45,32,45,53]
theorem ex4:chkTE 14 (trV (opT 12 [ltT 0,ltT (-5)])) exS4 0=true:=by kernel_rfl
def exS5:List UInt8:=[114,117,108,101,32,97,32,112,114,105,111,114,105,116,121,32,48,32,123,10,32,32,111,110,32,115,116,97,114,116,59,10,32,32,100,111,32,109,111,100,101,32,97,119,97,121,59,10,125,10]
theorem ex5:chkTE 19 (.sl [rlV exR]) exS5 0=true:=by kernel_rfl
theorem ex6:chkTE 19 (.sl [rlV exR,rlV exR]) [] 9=true:=by kernel_rfl
theorem op_ex1 (bx):callOp CC (callL CC) 14 [trV (opT 6 [opT 10 [atTr,ltT 5]])] bx=some (.ret (.tup [.str exS1,.int .i64 0]),bx):=of_chkTE rfl ex1 bx
theorem op_ex2 (bx):callOp CC (callL CC) 14 [trV (opT 13 [opT 11 [ltT 1,ltT 2],opT 12 [ltT 0,atTr]])] bx=some (.ret (.tup [.str exS2,.int .i64 0]),bx):=of_chkTE rfl ex2 bx
theorem op_ex3 (bx):callOp CC (callL CC) 14 [trV (opT 7 [opT 8 [flT 1,flT 0],flT 1])] bx=some (.ret (.tup [.str exS3,.int .i64 0]),bx):=of_chkTE rfl ex3 bx
theorem op_ex4 (bx):callOp CC (callL CC) 14 [trV (opT 12 [ltT 0,ltT (-5)])] bx=some (.ret (.tup [.str exS4,.int .i64 0]),bx):=of_chkTE rfl ex4 bx
theorem op_ex5 (bx):callOp CC (callL CC) 19 [.sl [rlV exR]] bx=some (.ret (.tup [.str exS5,.int .i64 0]),bx):=of_chkTE rfl ex5 bx
theorem op_ex6 (bx):callOp CC (callL CC) 19 [.sl [rlV exR,rlV exR]] bx=some (.ret (.tup [.str [],.int .i64 9]),bx):=of_chkTE rfl ex6 bx
end Go.HH
namespace Go.HH
open Go Go.Proofs
set_option maxRecDepth 100000
set_option maxHeartbeats 4000000
set_option linter.unusedSimpArgs false
set_option linter.unusedVariables false
def PPl (j:Nat) (bx:List PBox) (v:Bool) (res:Option (Ex×St)):Prop:=∃ e' ex,(v=true∧res=some (.exit j,⟨e',bx++ex⟩)∧getT e' 1=.bp 0 0)∨(v=false∧res=some (.ret,⟨e',bx++ex⟩)∧getT e' 2=.bool false)
theorem PPl.app {j:Nat} {bx:List PBox} {x:PBox} {v:Bool} {res:Option (Ex×St)} (h:PPl j (bx++[x]) v res):PPl j bx v res:=by
 obtain ⟨e',ex,h⟩:=h
 refine ⟨e',[x]++ex,?_⟩
 rw [<- List.append_assoc]
 exact h
end Go.HH
namespace Go.HH
open Go Go.Proofs
set_option maxRecDepth 100000
set_option maxHeartbeats 4000000
set_option linter.unusedSimpArgs false
set_option linter.unusedVariables false
end Go.HH
namespace Go.HH
open Go Go.Proofs
set_option maxRecDepth 100000
set_option maxHeartbeats 4000000
set_option linter.unusedSimpArgs false
set_option linter.unusedVariables false
theorem ok_L30_awake:fnOK CC Tryz.f10 (Tryz.f10.body.getD .skip)=true:=by kernel_rfl
theorem fat_L30_awake:CC.P.funcs[10]?=some Tryz.f10:=by kernel_rfl
theorem ok_L30_lit:fnOK CC Tryz.f28 (Tryz.f28.body.getD .skip)=true:=by kernel_rfl
theorem fat_L30_lit:CC.P.funcs[28]?=some Tryz.f28:=by kernel_rfl
theorem ok_L30_op:fnOK CC Tryz.f27 (Tryz.f27.body.getD .skip)=true:=by kernel_rfl
theorem fat_L30_op:CC.P.funcs[27]?=some Tryz.f27:=by kernel_rfl
theorem ok_R28_Flag:fnOK CC Tryz.f26 (Tryz.f26.body.getD .skip)=true:=by kernel_rfl
theorem fat_R28_Flag:CC.P.funcs[26]?=some Tryz.f26:=by kernel_rfl
theorem ok_R28_Lit:fnOK CC Tryz.f55 (Tryz.f55.body.getD .skip)=true:=by kernel_rfl
theorem fat_R28_Lit:CC.P.funcs[55]?=some Tryz.f55:=by kernel_rfl
def lfP (k:Int) (v:Vl) (key:Ky):PV:=.agg [.int .i64 k,.int .i64 0,.int .i64 0,.str [],.int .i64 v.1,.int .i64 v.2.1,.str v.2.2,.int .i64 key.1,.str key.2.1,.str key.2.2,.nils]
theorem buildLf (n:Int):buildP CC 24 [(0,.int .i64 2),(1,.int .i64 n)]=some (.agg [.int .i64 2,.int .i64 n,.str []]):=by kernel_rfl
theorem buildFl1:buildP CC 24 [(0,.int .i64 1),(1,.int .i64 1)]=some (.agg [.int .i64 1,.int .i64 1,.str []]):=by kernel_rfl
theorem buildFl0:buildP CC 24 [(0,.int .i64 1)]=some (.agg [.int .i64 1,.int .i64 0,.str []]):=by kernel_rfl
theorem buildEx (a n:Int) (s:List UInt8):buildP CC 29 [(0,.int .i64 1),(4,.agg [.int .i64 a,.int .i64 n,.str s])]=some (lfP 1 (a,n,s) (0,[],[])):=by kernel_rfl
theorem EXf:zeroCells CC 29=some [.int .i64 0,.int .i64 0,.int .i64 0,.str [],.int .i64 0,.int .i64 0,.str [],.int .i64 0,.str [],.str [],.nils]:=by kernel_rfl
def lsP (k:Int) (v:Vl) (key:Ky):PV:=.agg [.int .i64 k,.int .i64 0,.int .i64 0,.str [],.int .i64 v.1,.int .i64 v.2.1,.str v.2.2,.int .i64 key.1,.str key.2.1,.str key.2.2,.sl []]
theorem lsP_lt (n:Int):lsP 1 (2,n,[]) (0,[],[])=trV (ltT n):=by unfold ltT trV trVs;rfl
theorem lsP_fl (n:Int):lsP 1 (1,n,[]) (0,[],[])=trV (flT n):=by unfold flT trV trVs;rfl
theorem call_lit (n:Int):∃ bx,callL CC 28 [.int .i64 n] []=some (.ret (lsP 1 (2,n,[]) (0,[],[])),bx):=by
 rw [callL_enter (fn:=Tryz.f28) (c:=Tryz.f28.body.getD .skip) rfl rfl fat_L30_lit rfl ok_L30_lit (Nat.le_of_ble_eq_true rfl)]
 obtain ⟨ev,eo,so,co,⟨hev,hco⟩,R⟩:=RULES CC;rw [<- hev]
 simp only [fpart,part',Tryz.f28,Option.getD]
 simp only [S9,R,seval,EXf,buildLf,buildFl1,buildFl0,buildEx,List.set_cons_zero,List.set_cons_succ]
 unfold lfP lsP
 simp only [S9,R,seval,EXf,buildLf,buildFl1,buildFl0,buildEx,List.set_cons_zero,List.set_cons_succ]
 exact ⟨_,rfl⟩
theorem op_lit (n:Int) (bx):callOp CC (callL CC) 28 [.int .i64 n] bx=some (.ret (trV (ltT n)),bx):=by
 obtain ⟨b,h⟩:=call_lit n
 rw [<- lsP_lt]
 exact callOp_of rfl rfl h rfl
theorem call_Lit (a n:Int) (s:List UInt8):∃ bx,callL CC 55 [.agg [.int .i64 a,.int .i64 n,.str s]] []=some (.ret (lsP 1 (a,n,s) (0,[],[])),bx):=by
 rw [callL_enter (fn:=Tryz.f55) (c:=Tryz.f55.body.getD .skip) rfl rfl fat_R28_Lit rfl ok_R28_Lit (Nat.le_of_ble_eq_true rfl)]
 obtain ⟨ev,eo,so,co,⟨hev,hco⟩,R⟩:=RULES CC;rw [<- hev]
 simp only [fpart,part',Tryz.f55,Option.getD]
 simp only [S9,R,seval,EXf,buildLf,buildFl1,buildFl0,buildEx,List.set_cons_zero,List.set_cons_succ]
 unfold lfP lsP
 simp only [S9,R,seval,EXf,buildLf,buildFl1,buildFl0,buildEx,List.set_cons_zero,List.set_cons_succ]
 exact ⟨_,rfl⟩
theorem op_Lit (a n:Int) (s:List UInt8) (bx):callOp CC (callL CC) 55 [.agg [.int .i64 a,.int .i64 n,.str s]] bx=some (.ret (lsP 1 (a,n,s) (0,[],[])),bx):=by
 obtain ⟨b,h⟩:=call_Lit a n s
 exact callOp_of rfl rfl h rfl
theorem call_Flag (b:Bool):∃ bx,callL CC 26 [.bool b] []=some (.ret (lsP 1 (1,if b then 1 else 0,[]) (0,[],[])),bx):=by
 have o1:=op_Lit 1 1 []
 have o0:=op_Lit 1 0 []
 rw [callL_enter (fn:=Tryz.f26) (c:=Tryz.f26.body.getD .skip) rfl rfl fat_R28_Flag rfl ok_R28_Flag (Nat.le_of_ble_eq_true rfl)]
 cases b with
 | true=>
  obtain ⟨ev,eo,so,co,⟨hev,hco⟩,R⟩:=RULES CC;rw [<- hev]
  rw [<- hco] at o1 o0
  simp only [fpart,part',Tryz.f26,Option.getD]
  unfold lsP at o1 o0 ⊢
  simp only [S9,R,seval,EXf,buildLf,buildFl1,buildFl0,buildEx,List.set_cons_zero,List.set_cons_succ,o1,o0]
  exact ⟨_,rfl⟩
 | false=>
  obtain ⟨ev,eo,so,co,⟨hev,hco⟩,R⟩:=RULES CC;rw [<- hev]
  rw [<- hco] at o1 o0
  simp only [fpart,part',Tryz.f26,Option.getD]
  unfold lsP at o1 o0 ⊢
  simp only [S9,R,seval,EXf,buildLf,buildFl1,buildFl0,buildEx,List.set_cons_zero,List.set_cons_succ,o1,o0]
  exact ⟨_,rfl⟩
theorem op_Flag (c:Bool) (bx):callOp CC (callL CC) 26 [.bool c] bx=some (.ret (trV (flT (if c then 1 else 0))),bx):=by
 obtain ⟨b,h⟩:=call_Flag c
 rw [<- lsP_fl]
 exact callOp_of rfl rfl h rfl
noncomputable def IEx:TypeInfo:=(Tryz.prog.info? 29).getD default
theorem bsEx1 (pk pn pm pa pb pd:Int) (ps pt pu pv:List UInt8) (px:List PV):buildSliceP CC 27 1 [(0,.agg [.int .i64 pk,.int .i64 pn,.int .i64 pm,.str ps,.int .i64 pa,.int .i64 pb,.str pt,.int .i64 pd,.str pu,.str pv,.sl px])]=some (.osl 29 [.agg [.int .i64 pk,.int .i64 pn,.int .i64 pm,.str ps,.int .i64 pa,.int .i64 pb,.str pt,.int .i64 pd,.str pu,.str pv,.sl px]]):=by
 have hz:tZero CC 29=some (.agg [.int .i64 0,.int .i64 0,.int .i64 0,.str [],.int .i64 0,.int .i64 0,.str [],.int .i64 0,.str [],.str [],.nils]):=by kernel_rfl
 have hi:CC.P.info? 29=some IEx:=by kernel_rfl
 have hs:IEx.size=11:=by kernel_rfl
 have hu:CC.P.underlying 27=some (.slice 29):=by kernel_rfl
 have ht:tAgg CC 29=true:=by kernel_rfl
 have hp:sealNew true 11 (.agg [.int .i64 pk,.int .i64 pn,.int .i64 pm,.str ps,.int .i64 pa,.int .i64 pb,.str pt,.int .i64 pd,.str pu,.str pv,.sl px])=some (.agg [.int .i64 pk,.int .i64 pn,.int .i64 pm,.str ps,.int .i64 pa,.int .i64 pb,.str pt,.int .i64 pd,.str pu,.str pv,.sl px]):=rfl
 unfold buildSliceP
 simp only [hu,hz,hi,hs,ht,List.foldlM_cons,List.foldlM_nil,hp]
 rfl
theorem bsEx2 (pk pn pm pa pb pd qk qn qm qa qb qd:Int) (ps pt pu pv qs qt qu qv:List UInt8) (px qx:List PV):buildSliceP CC 27 2 [(0,.agg [.int .i64 pk,.int .i64 pn,.int .i64 pm,.str ps,.int .i64 pa,.int .i64 pb,.str pt,.int .i64 pd,.str pu,.str pv,.sl px]),(1,.agg [.int .i64 qk,.int .i64 qn,.int .i64 qm,.str qs,.int .i64 qa,.int .i64 qb,.str qt,.int .i64 qd,.str qu,.str qv,.sl qx])]=some (.osl 29 [.agg [.int .i64 pk,.int .i64 pn,.int .i64 pm,.str ps,.int .i64 pa,.int .i64 pb,.str pt,.int .i64 pd,.str pu,.str pv,.sl px],.agg [.int .i64 qk,.int .i64 qn,.int .i64 qm,.str qs,.int .i64 qa,.int .i64 qb,.str qt,.int .i64 qd,.str qu,.str qv,.sl qx]]):=by
 have hz:tZero CC 29=some (.agg [.int .i64 0,.int .i64 0,.int .i64 0,.str [],.int .i64 0,.int .i64 0,.str [],.int .i64 0,.str [],.str [],.nils]):=by kernel_rfl
 have hi:CC.P.info? 29=some IEx:=by kernel_rfl
 have hs:IEx.size=11:=by kernel_rfl
 have hu:CC.P.underlying 27=some (.slice 29):=by kernel_rfl
 have ht:tAgg CC 29=true:=by kernel_rfl
 have hp:sealNew true 11 (.agg [.int .i64 pk,.int .i64 pn,.int .i64 pm,.str ps,.int .i64 pa,.int .i64 pb,.str pt,.int .i64 pd,.str pu,.str pv,.sl px])=some (.agg [.int .i64 pk,.int .i64 pn,.int .i64 pm,.str ps,.int .i64 pa,.int .i64 pb,.str pt,.int .i64 pd,.str pu,.str pv,.sl px]):=rfl
 have hq:sealNew true 11 (.agg [.int .i64 qk,.int .i64 qn,.int .i64 qm,.str qs,.int .i64 qa,.int .i64 qb,.str qt,.int .i64 qd,.str qu,.str qv,.sl qx])=some (.agg [.int .i64 qk,.int .i64 qn,.int .i64 qm,.str qs,.int .i64 qa,.int .i64 qb,.str qt,.int .i64 qd,.str qu,.str qv,.sl qx]):=rfl
 unfold buildSliceP
 simp only [hu,hz,hi,hs,ht,List.foldlM_cons,List.foldlM_nil,hp,hq]
 rfl
theorem buildKids (k:Int) (xs:List PV):buildP CC 29 [(0,.int .i64 k),(6,.sl xs)]=some (.agg [.int .i64 k,.int .i64 0,.int .i64 0,.str [],.int .i64 0,.int .i64 0,.str [],.int .i64 0,.str [],.str [],.sl xs]):=by kernel_rfl
theorem op_opL (k pk pn pm pa pb pd qk qn qm qa qb qd:Int) (ps pt pu pv qs qt qu qv:List UInt8) (px qx:List PV) (hp:pureL px=true) (hq:pureL qx=true) (bx):callOp CC (callL CC) 27 [.int .i64 k,.agg [.int .i64 pk,.int .i64 pn,.int .i64 pm,.str ps,.int .i64 pa,.int .i64 pb,.str pt,.int .i64 pd,.str pu,.str pv,.sl px],.agg [.int .i64 qk,.int .i64 qn,.int .i64 qm,.str qs,.int .i64 qa,.int .i64 qb,.str qt,.int .i64 qd,.str qu,.str qv,.sl qx]] bx=some (.ret (.agg [.int .i64 k,.int .i64 0,.int .i64 0,.str [],.int .i64 0,.int .i64 0,.str [],.int .i64 0,.str [],.str [],.sl [.agg [.int .i64 pk,.int .i64 pn,.int .i64 pm,.str ps,.int .i64 pa,.int .i64 pb,.str pt,.int .i64 pd,.str pu,.str pv,.sl px],.agg [.int .i64 qk,.int .i64 qn,.int .i64 qm,.str qs,.int .i64 qa,.int .i64 qb,.str qt,.int .i64 qd,.str qu,.str qv,.sl qx]]]),bx):=by
 have h:∃ b,callL CC 27 [.int .i64 k,.agg [.int .i64 pk,.int .i64 pn,.int .i64 pm,.str ps,.int .i64 pa,.int .i64 pb,.str pt,.int .i64 pd,.str pu,.str pv,.sl px],.agg [.int .i64 qk,.int .i64 qn,.int .i64 qm,.str qs,.int .i64 qa,.int .i64 qb,.str qt,.int .i64 qd,.str qu,.str qv,.sl qx]] []=some (.ret (.agg [.int .i64 k,.int .i64 0,.int .i64 0,.str [],.int .i64 0,.int .i64 0,.str [],.int .i64 0,.str [],.str [],.sl [.agg [.int .i64 pk,.int .i64 pn,.int .i64 pm,.str ps,.int .i64 pa,.int .i64 pb,.str pt,.int .i64 pd,.str pu,.str pv,.sl px],.agg [.int .i64 qk,.int .i64 qn,.int .i64 qm,.str qs,.int .i64 qa,.int .i64 qb,.str qt,.int .i64 qd,.str qu,.str qv,.sl qx]]]),b):=by
  rw [callL_enter (fn:=Tryz.f27) (c:=Tryz.f27.body.getD .skip) rfl rfl fat_L30_op rfl ok_L30_op (Nat.le_of_ble_eq_true rfl)]
  obtain ⟨ev,eo,so,co,⟨hev,hco⟩,R⟩:=RULES CC;rw [<- hev]
  simp only [fpart,part',Tryz.f27,Option.getD]
  simp only [S9,R,seval,EXf,buildLf,buildFl1,buildFl0,buildEx,List.set_cons_zero,List.set_cons_succ,bsEx2,buildKids]
  exact ⟨_,rfl⟩
 obtain ⟨b,h⟩:=h
 exact callOp_of rfl (by simp only [pureL,PV.pure,hp,hq,Bool.and_self]) h (by simp only [pureL,PV.pure,hp,hq,Bool.and_self])
theorem buildKy3:buildP CC 26 [(0,.int .i64 3),(1,.str [108,101,118,101,108]),(2,.str [108,101,118,101,108])]=some (.agg [.int .i64 3,.str [108,101,118,101,108],.str [108,101,118,101,108]]):=by kernel_rfl
theorem buildAt:buildP CC 29 [(0,.int .i64 2),(5,.agg [.int .i64 3,.str [108,101,118,101,108],.str [108,101,118,101,108]])]=some (.agg [.int .i64 2,.int .i64 0,.int .i64 0,.str [],.int .i64 0,.int .i64 0,.str [],.int .i64 3,.str [108,101,118,101,108],.str [108,101,118,101,108],.nils]):=by kernel_rfl
theorem bldT:buildP CC 58 [(0,.int .i64 5)]=some (.agg [.int .i64 5,.int .i64 0,.str [],.str [],.int .i64 0,.str [],.str [],.str [],.int .i64 0,.int .i64 0]):=by kernel_rfl
theorem bldTs:buildSliceP CC 22 1 [(0,.agg [.int .i64 5,.int .i64 0,.str [],.str [],.int .i64 0,.str [],.str [],.str [],.int .i64 0,.int .i64 0])]=some (.osl 58 [.agg [.int .i64 5,.int .i64 0,.str [],.str [],.int .i64 0,.str [],.str [],.str [],.int .i64 0,.int .i64 0]]):=by kernel_rfl
theorem bldS:buildP CC 60 [(0,.int .i64 4),(2,.str [97,119,97,121])]=some (.agg [.int .i64 4,.int .i64 0,.str [],.str [],.str [97,119,97,121],.int .i64 0,.int .i64 0,.int .i64 0,.str [],.int .i64 0,.int .i64 0,.str [],.int .i64 0,.str [],.str [],.nils]):=by kernel_rfl
theorem bldSs:buildSliceP CC 30 1 [(0,.agg [.int .i64 4,.int .i64 0,.str [],.str [],.str [97,119,97,121],.int .i64 0,.int .i64 0,.int .i64 0,.str [],.int .i64 0,.int .i64 0,.str [],.int .i64 0,.str [],.str [],.nils])]=some (.osl 60 [.agg [.int .i64 4,.int .i64 0,.str [],.str [],.str [97,119,97,121],.int .i64 0,.int .i64 0,.int .i64 0,.str [],.int .i64 0,.int .i64 0,.str [],.int .i64 0,.str [],.str [],.sl []]]):=by kernel_rfl
theorem bldR:buildP CC 32 [(0,.str [97]),(2,.sl [.agg [.int .i64 5,.int .i64 0,.str [],.str [],.int .i64 0,.str [],.str [],.str [],.int .i64 0,.int .i64 0]]),(3,.agg [.int .i64 1,.int .i64 0,.int .i64 0,.str [],.int .i64 1,.int .i64 1,.str [],.int .i64 0,.str [],.str [],.sl []]),(4,.sl [.agg [.int .i64 4,.int .i64 0,.str [],.str [],.str [97,119,97,121],.int .i64 0,.int .i64 0,.int .i64 0,.str [],.int .i64 0,.int .i64 0,.str [],.int .i64 0,.str [],.str [],.sl []]])]=some (.agg [.str [97],.int .i64 0,.sl [.agg [.int .i64 5,.int .i64 0,.str [],.str [],.int .i64 0,.str [],.str [],.str [],.int .i64 0,.int .i64 0]],.int .i64 1,.int .i64 0,.int .i64 0,.str [],.int .i64 1,.int .i64 1,.str [],.int .i64 0,.str [],.str [],.sl [],.sl [.agg [.int .i64 4,.int .i64 0,.str [],.str [],.str [97,119,97,121],.int .i64 0,.int .i64 0,.int .i64 0,.str [],.int .i64 0,.int .i64 0,.str [],.int .i64 0,.str [],.str [],.sl []]]]):=by kernel_rfl
theorem bldRs1:buildSliceP CC 41 1 [(0,.agg [.str [97],.int .i64 0,.sl [.agg [.int .i64 5,.int .i64 0,.str [],.str [],.int .i64 0,.str [],.str [],.str [],.int .i64 0,.int .i64 0]],.int .i64 1,.int .i64 0,.int .i64 0,.str [],.int .i64 1,.int .i64 1,.str [],.int .i64 0,.str [],.str [],.sl [],.sl [.agg [.int .i64 4,.int .i64 0,.str [],.str [],.str [97,119,97,121],.int .i64 0,.int .i64 0,.int .i64 0,.str [],.int .i64 0,.int .i64 0,.str [],.int .i64 0,.str [],.str [],.sl []]]])]=some (.osl 32 [.agg [.str [97],.int .i64 0,.sl [.agg [.int .i64 5,.int .i64 0,.str [],.str [],.int .i64 0,.str [],.str [],.str [],.int .i64 0,.int .i64 0]],.int .i64 1,.int .i64 0,.int .i64 0,.str [],.int .i64 1,.int .i64 1,.str [],.int .i64 0,.str [],.str [],.sl [],.sl [.agg [.int .i64 4,.int .i64 0,.str [],.str [],.str [97,119,97,121],.int .i64 0,.int .i64 0,.int .i64 0,.str [],.int .i64 0,.int .i64 0,.str [],.int .i64 0,.str [],.str [],.sl []]]]]):=by kernel_rfl
theorem bldRs2:buildSliceP CC 41 2 [(0,.agg [.str [97],.int .i64 0,.sl [.agg [.int .i64 5,.int .i64 0,.str [],.str [],.int .i64 0,.str [],.str [],.str [],.int .i64 0,.int .i64 0]],.int .i64 1,.int .i64 0,.int .i64 0,.str [],.int .i64 1,.int .i64 1,.str [],.int .i64 0,.str [],.str [],.sl [],.sl [.agg [.int .i64 4,.int .i64 0,.str [],.str [],.str [97,119,97,121],.int .i64 0,.int .i64 0,.int .i64 0,.str [],.int .i64 0,.int .i64 0,.str [],.int .i64 0,.str [],.str [],.sl []]]]),(1,.agg [.str [97],.int .i64 0,.sl [.agg [.int .i64 5,.int .i64 0,.str [],.str [],.int .i64 0,.str [],.str [],.str [],.int .i64 0,.int .i64 0]],.int .i64 1,.int .i64 0,.int .i64 0,.str [],.int .i64 1,.int .i64 1,.str [],.int .i64 0,.str [],.str [],.sl [],.sl [.agg [.int .i64 4,.int .i64 0,.str [],.str [],.str [97,119,97,121],.int .i64 0,.int .i64 0,.int .i64 0,.str [],.int .i64 0,.int .i64 0,.str [],.int .i64 0,.str [],.str [],.sl []]]])]=some (.osl 32 [.agg [.str [97],.int .i64 0,.sl [.agg [.int .i64 5,.int .i64 0,.str [],.str [],.int .i64 0,.str [],.str [],.str [],.int .i64 0,.int .i64 0]],.int .i64 1,.int .i64 0,.int .i64 0,.str [],.int .i64 1,.int .i64 1,.str [],.int .i64 0,.str [],.str [],.sl [],.sl [.agg [.int .i64 4,.int .i64 0,.str [],.str [],.str [97,119,97,121],.int .i64 0,.int .i64 0,.int .i64 0,.str [],.int .i64 0,.int .i64 0,.str [],.int .i64 0,.str [],.str [],.sl []]]],.agg [.str [97],.int .i64 0,.sl [.agg [.int .i64 5,.int .i64 0,.str [],.str [],.int .i64 0,.str [],.str [],.str [],.int .i64 0,.int .i64 0]],.int .i64 1,.int .i64 0,.int .i64 0,.str [],.int .i64 1,.int .i64 1,.str [],.int .i64 0,.str [],.str [],.sl [],.sl [.agg [.int .i64 4,.int .i64 0,.str [],.str [],.str [97,119,97,121],.int .i64 0,.int .i64 0,.int .i64 0,.str [],.int .i64 0,.int .i64 0,.str [],.int .i64 0,.str [],.str [],.sl []]]]]):=by kernel_rfl
theorem exR_eq:rlV exR=.agg [.str [97],.int .i64 0,.sl [.agg [.int .i64 5,.int .i64 0,.str [],.str [],.int .i64 0,.str [],.str [],.str [],.int .i64 0,.int .i64 0]],.int .i64 1,.int .i64 0,.int .i64 0,.str [],.int .i64 1,.int .i64 1,.str [],.int .i64 0,.str [],.str [],.sl [],.sl [.agg [.int .i64 4,.int .i64 0,.str [],.str [],.str [97,119,97,121],.int .i64 0,.int .i64 0,.int .i64 0,.str [],.int .i64 0,.int .i64 0,.str [],.int .i64 0,.str [],.str [],.sl []]]]:=rfl
theorem RLz:zeroCells CC 32=some [.str [],.int .i64 0,.nils,.int .i64 0,.int .i64 0,.int .i64 0,.str [],.int .i64 0,.int .i64 0,.str [],.int .i64 0,.str [],.str [],.nils,.nils]:=by kernel_rfl
theorem strP_ne (s:List UInt8):strP .neq s s=some (.bool false):=by simp [strP]
theorem strP_eq (s:List UInt8):strP .eql s s=some (.bool true):=by simp [strP]
theorem call_awake:∃ bx,callL CC 10 [] []=some (.ret (.bool true),bx):=by
 have f1:=op_Flag true
 have f0:=op_Flag false
 have l0:=op_lit 0
 have l1:=op_lit 1
 have l2:=op_lit 2
 have l5:=op_lit 5
 have lm:=op_lit (-5)
 have x1:=op_ex1
 have x2:=op_ex2
 have x3:=op_ex3
 have x4:=op_ex4
 have x5:=op_ex5
 have x6:=op_ex6
 have op:=op_opL
 simp only [if_true,Bool.false_eq_true,if_false] at f1 f0
 simp only [trV,trVs,opT,ltT,atTr,flT] at f1 f0 l0 l1 l2 l5 lm x1 x2 x3 x4
 unfold exS1 at x1
 unfold exS2 at x2
 unfold exS3 at x3
 unfold exS4 at x4
 unfold exS5 at x5
 rw [exR_eq] at x5 x6
 rw [callL_enter (fn:=Tryz.f10) (c:=Tryz.f10.body.getD .skip) rfl rfl fat_L30_awake rfl ok_L30_awake (Nat.le_of_ble_eq_true rfl)]
 obtain ⟨ev,eo,so,co,⟨hev,hco⟩,R⟩:=RULES CC;rw [<- hev]
 rw [<- hco] at f1 f0 l0 l1 l2 l5 lm x1 x2 x3 x4 x5 x6 op
 simp only [fpart,part',Tryz.f10,Option.getD]
 have t1:=op 10 2 0 0 0 0 3 1 0 0 2 5 0 [] [] [108,101,118,101,108] [108,101,118,101,108] [] [] [] [] [] [] rfl rfl
 have t2:=op 11 1 0 0 2 1 0 1 0 0 2 2 0 [] [] [] [] [] [] [] [] [] [] rfl rfl
 have t3:=op 12 1 0 0 2 0 0 2 0 0 0 0 3 [] [] [] [] [] [] [108,101,118,101,108] [108,101,118,101,108] [] [] rfl rfl
 have t4:=op 13 11 0 0 0 0 0 12 0 0 0 0 0 [] [] [] [] [] [] [] [] [.agg [.int .i64 1,.int .i64 0,.int .i64 0,.str [],.int .i64 2,.int .i64 1,.str [],.int .i64 0,.str [],.str [],.sl []],.agg [.int .i64 1,.int .i64 0,.int .i64 0,.str [],.int .i64 2,.int .i64 2,.str [],.int .i64 0,.str [],.str [],.sl []]] [.agg [.int .i64 1,.int .i64 0,.int .i64 0,.str [],.int .i64 2,.int .i64 0,.str [],.int .i64 0,.str [],.str [],.sl []],.agg [.int .i64 2,.int .i64 0,.int .i64 0,.str [],.int .i64 0,.int .i64 0,.str [],.int .i64 3,.str [108,101,118,101,108],.str [108,101,118,101,108],.sl []]] rfl rfl
 have t5:=op 8 1 0 0 1 1 0 1 0 0 1 0 0 [] [] [] [] [] [] [] [] [] [] rfl rfl
 have t6:=op 7 8 0 0 0 0 0 1 0 0 1 1 0 [] [] [] [] [] [] [] [] [.agg [.int .i64 1,.int .i64 0,.int .i64 0,.str [],.int .i64 1,.int .i64 1,.str [],.int .i64 0,.str [],.str [],.sl []],.agg [.int .i64 1,.int .i64 0,.int .i64 0,.str [],.int .i64 1,.int .i64 0,.str [],.int .i64 0,.str [],.str [],.sl []]] [] rfl rfl
 have t7:=op 12 1 0 0 2 0 0 1 0 0 2 (-5) 0 [] [] [] [] [] [] [] [] [] [] rfl rfl
 simp only [S9,R,seval,EXf,buildLf,buildFl1,buildFl0,buildEx,List.set_cons_zero,List.set_cons_succ,t1,t2,t3,t4,t5,t6,t7,bsEx1,buildKids,buildKy3,buildAt,f1,f0,l0,l1,l2,l5,lm,x1,x2,x3,x4,x5,x6,strP_ne,strP_eq,bldT,bldTs,bldS,bldSs,bldR,bldRs1,bldRs2,RLz]
 exact ⟨_,rfl⟩
theorem op_awake (bx):callOp CC (callL CC) 10 [] bx=some (.ret (.bool true),bx):=by
 obtain ⟨b,h⟩:=call_awake
 exact callOp_of rfl rfl h rfl
end Go.HH
namespace Go.HH
open Go Go.Proofs
set_option maxRecDepth 100000
set_option maxHeartbeats 4000000
set_option linter.unusedSimpArgs false
set_option linter.unusedVariables false
theorem ok_print_Expr:fnOK CC Tryz.f14 (Tryz.f14.body.getD .skip)=true:=by kernel_rfl
theorem fat_print_Expr:CC.P.funcs[14]?=some Tryz.f14:=by kernel_rfl
theorem ok_L30_PrintReturns:fnOK CC Tryz.f6 (Tryz.f6.body.getD .skip)=true:=by kernel_rfl
theorem fat_L30_PrintReturns:CC.P.funcs[6]?=some Tryz.f6:=by kernel_rfl
def exT (t:Tr):List UInt8:=if ckT t=0 then TX t else []
theorem call_print_Expr (t:Tr) (hs:shT t) (htx:ckT t=0->TXc t):∃ bx,callL CC 14 [trV t] []=some (.ret (.tup [.str (exT t),.int .i64 (ckT t)]),bx):=by
 have o1:=op_expr_Check t hs
 unfold exT
 unfold TXc at htx
 generalize ckT t=c at *
 generalize TX t=s at *
 generalize LV t=lv at *
 clear hs
 obtain ⟨k,n,m,nm,v,key,kids⟩:=t
 simp only [trV] at o1 htx ⊢
 generalize trVs kids=xs at *
 rw [callL_enter (fn:=Tryz.f14) (c:=Tryz.f14.body.getD .skip) rfl rfl fat_print_Expr rfl ok_print_Expr (Nat.le_of_ble_eq_true rfl)]
 by_cases h:c=0
 · subst h
   rw [if_pos rfl]
   have o2:=htx rfl
   clear htx
   obtain ⟨ev,eo,so,co,⟨hev,hco⟩,R⟩:=RULES CC;rw [<- hev]
   rw [<- hco] at o1 o2
   simp only [fpart,part',Tryz.f14,Option.getD]
   simp only [S9,R,seval,TRf,ss1,List.getElem?_concat_length,o1,o2]
   exact ⟨_,rfl⟩
 · rw [if_neg h]
   clear htx
   have p:(c != 0)=true:=by simpa using h
   obtain ⟨ev,eo,so,co,⟨hev,hco⟩,R⟩:=RULES CC;rw [<- hev]
   rw [<- hco] at o1
   simp only [fpart,part',Tryz.f14,Option.getD]
   simp only [S9,R,seval,TRf,ss1,List.getElem?_concat_length,o1,p]
   exact ⟨_,rfl⟩
theorem op_print_Expr (t:Tr) (hs:shT t) (htx:ckT t=0->TXc t) (bx):callOp CC (callL CC) 14 [trV t] bx=some (.ret (.tup [.str (exT t),.int .i64 (ckT t)]),bx):=by
 obtain ⟨b,hc⟩:=call_print_Expr t hs htx
 exact callOp_of rfl (by simp only [pureL_cons,trV_pure,pureL_nil,Bool.and_self]) hc rfl
theorem law_PrintReturns (t:Tr) (ht:okTr t):∃ bx,callL CC 6 [trV t] []=some (.ret (.bool true),bx):=by
 have omd:=op_modest t 220 30 (by omega) (by omega)
 have oaw:=op_awake
 by_cases h:mdT t 220 30 < 0
 · clear ht
   generalize mdT t 220 30=md at *
   obtain ⟨k,n,m,nm,v,key,kids⟩:=t
   simp only [trV] at omd ⊢
   generalize trVs kids=xs at *
   rw [callL_enter (fn:=Tryz.f6) (c:=Tryz.f6.body.getD .skip) rfl rfl fat_L30_PrintReturns rfl ok_L30_PrintReturns (Nat.le_of_ble_eq_true rfl)]
   obtain ⟨ev,eo,so,co,⟨hev,hco⟩,R⟩:=RULES CC;rw [<- hev]
   rw [<- hco] at omd oaw
   simp only [fpart,part',Tryz.f6,Option.getD]
   simp only [S9,R,seval,TRf,ss1,List.getElem?_concat_length,omd,oaw,h]
   exact ⟨_,rfl⟩
 have hs:=sh_md t 220 30 (by omega)
 have hn:=nd_220 (t:=t) (by omega)
 have ope:=op_print_Expr t hs (fun h=>(tx_ok t (ck_v h) hs ht (by omega)).1)
 have hsm:=op_Same_refl t hs
 generalize mdT t 220 30=md at *
 by_cases hc:ckT t=0
 · have hlen:(TX t).length<=300000:=by
    have:=an_len t (ck_v hc) hs ht
    omega
   have e1:exT t=TX t:=if_pos hc
   rw [e1,hc] at ope
   have olx:=op_lex_Tokens (TX t) (by omega)
   have opx:(toks (TX t)).2.2=0->∀ bx,callOp CC (callL CC) 22 [.str (TX t)] bx=some (.ret (.tup [trV t,.int .i64 ((0:Nat):Int),.int .i64 0]),bx):=fun h0 bx=>by
    obtain ⟨g1,g2⟩:=exprA_TX hc h0
    have:=op_parse_Expr (TX t) g2 bx
    rw [g1] at this
    exact this
   clear ht hs hn e1 hc hlen
   generalize hE:(toks (TX t)).2.2=er at *
   generalize (toks (TX t)).2.1=ea at *
   generalize tkVs (toks (TX t)).1=et at *
   clear hE
   generalize TX t=s at *
   obtain ⟨k,n,m,nm,v,key,kids⟩:=t
   simp only [trV] at omd ope opx hsm ⊢
   generalize trVs kids=xs at *
   by_cases c:er=0
   · have opx:=opx c
     subst c
     rw [callL_enter (fn:=Tryz.f6) (c:=Tryz.f6.body.getD .skip) rfl rfl fat_L30_PrintReturns rfl ok_L30_PrintReturns (Nat.le_of_ble_eq_true rfl)]
     obtain ⟨ev,eo,so,co,⟨hev,hco⟩,R⟩:=RULES CC;rw [<- hev]
     rw [<- hco] at omd oaw ope olx opx hsm
     simp only [fpart,part',Tryz.f6,Option.getD]
     simp only [S9,R,seval,TRf,ss1,List.getElem?_concat_length,omd,oaw,h,ope,olx,opx,hsm,List.set_cons_zero,List.set_cons_succ]
     exact ⟨_,rfl⟩
   · clear opx
     have p:(er != 0)=true:=by simpa using c
     rw [callL_enter (fn:=Tryz.f6) (c:=Tryz.f6.body.getD .skip) rfl rfl fat_L30_PrintReturns rfl ok_L30_PrintReturns (Nat.le_of_ble_eq_true rfl)]
     obtain ⟨ev,eo,so,co,⟨hev,hco⟩,R⟩:=RULES CC;rw [<- hev]
     rw [<- hco] at omd oaw ope olx
     simp only [fpart,part',Tryz.f6,Option.getD]
     simp only [S9,R,seval,TRf,ss1,List.getElem?_concat_length,omd,oaw,h,ope,olx,p]
     exact ⟨_,rfl⟩
 · have e1:exT t=[]:=if_neg hc
   rw [e1] at ope
   clear ht hs hn e1 hsm
   generalize ckT t=c at *
   have p:(c != 0)=true:=by simpa using hc
   obtain ⟨k,n,m,nm,v,key,kids⟩:=t
   simp only [trV] at omd ope ⊢
   generalize trVs kids=xs at *
   have sq:strP .eql [] []=some (.bool true):=rfl
   rw [callL_enter (fn:=Tryz.f6) (c:=Tryz.f6.body.getD .skip) rfl rfl fat_L30_PrintReturns rfl ok_L30_PrintReturns (Nat.le_of_ble_eq_true rfl)]
   obtain ⟨ev,eo,so,co,⟨hev,hco⟩,R⟩:=RULES CC;rw [<- hev]
   rw [<- hco] at omd oaw ope
   simp only [fpart,part',Tryz.f6,Option.getD]
   simp only [S9,R,seval,TRf,ss1,List.getElem?_concat_length,omd,oaw,h,ope,p,sq]
   exact ⟨_,rfl⟩
end Go.HH
namespace Go.Proofs
open Go.Shelf
def Tryz.lays169_ren:Go.Shelf.Ren:=⟨fun | 169=>157 | n=>n,fun | 70=>151 | 9=>9 | 0=>0 | 72=>153 | 37=>70 | 127=>164 | 3=>3 | 5=>5 | n=>n,fun | n=>n⟩
theorem Tryz.lays169:Go.Proofs.Lays.n169 Tryz.prog Tryz.lays169_ren:={
 mixed:=by kernel_rfl
 f169:=Tryz.func157.trans (congrArg some (by kernel_rfl))
 t0:=Tryz.underlying0
 a0:=Tryz.isAgg0
 z0:=Tryz.sizeOf0
 v0:=Tryz.zeroValue0
 t3:=Tryz.underlying3
 a3:=Tryz.isAgg3
 z3:=Tryz.sizeOf3
 v3:=Tryz.zeroValue3
 t9:=Tryz.underlying9
 a9:=Tryz.isAgg9
 z9:=Tryz.sizeOf9
 v9:=Tryz.zeroValue9
 t37:=Tryz.underlying70
 a37:=Tryz.isAgg70
 z37:=Tryz.sizeOf70
 v37:=Tryz.zeroValue70
 t70:=Tryz.underlying151
 a70:=Tryz.isAgg151
 z70:=Tryz.sizeOf151
 v70:=Tryz.zeroValue151
 t72:=Tryz.underlying153
 a72:=Tryz.isAgg153
 z72:=Tryz.sizeOf153
 v72:=Tryz.zeroValue153
 t127:=Tryz.underlying164
 a127:=Tryz.isAgg164
 z127:=Tryz.sizeOf164
 v127:=Tryz.zeroValue164 }
theorem Tryz.Builder_Extra_169:Builder.Extra Tryz.prog Tryz.lays169_ren:={
 sizeBuilder:=by kernel_rfl
 liesBuilder:=by kernel_rfl
 t5:=Tryz.underlying5
 a5:=Tryz.isAgg5
 z5:=Tryz.sizeOf5
 v5:=Tryz.zeroValue5
 infoByte:=by kernel_rfl
 cellsByte:=by kernel_rfl
 sizeByte:=by kernel_rfl
 neB5:=by decide }
def Tryz.lays137_ren:Go.Shelf.Ren:=⟨fun | 137=>136 | 217=>161 | 266=>170 | n=>n,fun | 9=>9 | 5=>5 | 3=>3 | n=>n,fun | n=>n⟩
theorem Tryz.lays137:Go.Proofs.Lays.n137 Tryz.prog Tryz.lays137_ren:={
 mixed:=by kernel_rfl
 f137:=Tryz.func136.trans (congrArg some (by kernel_rfl))
 f217:=Tryz.func161.trans (congrArg some (by kernel_rfl))
 f266:=Tryz.func170.trans (congrArg some (by kernel_rfl))
 t3:=Tryz.underlying3
 a3:=Tryz.isAgg3
 z3:=Tryz.sizeOf3
 v3:=Tryz.zeroValue3
 t5:=Tryz.underlying5
 a5:=Tryz.isAgg5
 z5:=Tryz.sizeOf5
 v5:=Tryz.zeroValue5
 t9:=Tryz.underlying9
 a9:=Tryz.isAgg9
 z9:=Tryz.sizeOf9
 v9:=Tryz.zeroValue9 }
open Go.RowKit in
theorem Tryz.strings_IndexByte (s:ByteArray) (c:Int) (w:World) :
 Calls Tryz.prog 136 #[.string s,.int .u8 c] w fun e w'=>e=.returned (.int .i64 (Lib.indexByte s.data.toList c.toNat.toUInt8))∧w'=w:=Any.strings_IndexByte Tryz.lays137 s c w
def Tryz.laysM171_ren:Go.Shelf.Ren:=⟨fun | 171=>125 | 243=>154 | 246=>165 | 283=>172 | 284=>173 | 285=>174 | 286=>175 | 129=>180 | 317=>179 | 318=>181 | 319=>182 | 320=>183 | 337=>185 | 338=>186 | n=>n,fun | 3=>3 | 9=>9 | 2=>2 | 4=>4 | 171=>169 | 0=>0 | 53=>170 | 37=>70 | 5=>5 | 173=>173 | 212=>178 | 51=>179 | 20=>20 | 213=>180 | 46=>133 | 232=>183 | 233=>184 | n=>n,fun | 17=>1 | 18=>2 | 19=>3 | n=>n⟩
theorem Tryz.laysM171:Go.Proofs.LaysM.n171 Tryz.prog Tryz.laysM171_ren:={
 mixed:=by kernel_rfl
 f129:=Tryz.func180.trans (congrArg some (by kernel_rfl))
 f171:=Tryz.func125.trans (congrArg some (by kernel_rfl))
 f243:=Tryz.func154.trans (congrArg some (by kernel_rfl))
 f246:=Tryz.func165.trans (congrArg some (by kernel_rfl))
 f283:=Tryz.func172.trans (congrArg some (by kernel_rfl))
 f284:=Tryz.func173.trans (congrArg some (by kernel_rfl))
 f285:=Tryz.func174.trans (congrArg some (by kernel_rfl))
 f286:=Tryz.func175.trans (congrArg some (by kernel_rfl))
 f317:=Tryz.func179.trans (congrArg some (by kernel_rfl))
 f318:=Tryz.func181.trans (congrArg some (by kernel_rfl))
 f319:=Tryz.func182.trans (congrArg some (by kernel_rfl))
 f320:=Tryz.func183.trans (congrArg some (by kernel_rfl))
 f337:=Tryz.func185.trans (congrArg some (by kernel_rfl))
 f338:=Tryz.func186.trans (congrArg some (by kernel_rfl))
 t0:=Tryz.underlying0
 a0:=Tryz.isAgg0
 z0:=Tryz.sizeOf0
 v0:=Tryz.zeroValue0
 t2:=Tryz.underlying2
 a2:=Tryz.isAgg2
 z2:=Tryz.sizeOf2
 v2:=Tryz.zeroValue2
 t3:=Tryz.underlying3
 a3:=Tryz.isAgg3
 z3:=Tryz.sizeOf3
 v3:=Tryz.zeroValue3
 t4:=Tryz.underlying4
 a4:=Tryz.isAgg4
 z4:=Tryz.sizeOf4
 v4:=Tryz.zeroValue4
 t5:=Tryz.underlying5
 a5:=Tryz.isAgg5
 z5:=Tryz.sizeOf5
 v5:=Tryz.zeroValue5
 t9:=Tryz.underlying9
 a9:=Tryz.isAgg9
 z9:=Tryz.sizeOf9
 v9:=Tryz.zeroValue9
 t20:=Tryz.underlying20
 a20:=Tryz.isAgg20
 z20:=Tryz.sizeOf20
 v20:=Tryz.zeroValue20
 t37:=Tryz.underlying70
 a37:=Tryz.isAgg70
 z37:=Tryz.sizeOf70
 v37:=Tryz.zeroValue70
 t46:=Tryz.underlying133
 a46:=Tryz.isAgg133
 z46:=Tryz.sizeOf133
 v46:=Tryz.zeroValue133
 t51:=Tryz.underlying179
 a51:=Tryz.isAgg179
 z51:=Tryz.sizeOf179
 v51:=Tryz.zeroValue179
 t53:=Tryz.underlying170
 a53:=Tryz.isAgg170
 z53:=Tryz.sizeOf170
 v53:=Tryz.zeroValue170
 t171:=Tryz.underlying169
 a171:=Tryz.isAgg169
 z171:=Tryz.sizeOf169
 v171:=Tryz.zeroValue169
 t173:=Tryz.underlying173
 a173:=Tryz.isAgg173
 z173:=Tryz.sizeOf173
 v173:=Tryz.zeroValue173
 t212:=Tryz.underlying178
 a212:=Tryz.isAgg178
 z212:=Tryz.sizeOf178
 v212:=Tryz.zeroValue178
 t213:=Tryz.underlying180
 a213:=Tryz.isAgg180
 z213:=Tryz.sizeOf180
 t232:=Tryz.underlying183
 a232:=Tryz.isAgg183
 z232:=Tryz.sizeOf183
 v232:=Tryz.zeroValue183
 t233:=Tryz.underlying184
 a233:=Tryz.isAgg184
 z233:=Tryz.sizeOf184
 v233:=Tryz.zeroValue184
 g17:=by kernel_rfl
 g18:=by kernel_rfl
 g19:=by kernel_rfl
 i0:=by kernel_rfl
 i2:=by kernel_rfl
 i3:=by kernel_rfl
 i4:=by kernel_rfl
 i5:=by kernel_rfl
 i9:=by kernel_rfl
 i20:=by kernel_rfl
 i37:=by kernel_rfl
 i46:=by kernel_rfl
 i51:=by kernel_rfl
 i53:=by kernel_rfl
 i171:=by kernel_rfl
 i173:=by kernel_rfl
 i212:=by kernel_rfl
 i232:=by kernel_rfl
 i233:=by kernel_rfl
 m17:=by kernel_rfl
 m18:=by kernel_rfl
 m19:=by kernel_rfl }
open Go.RowKit Go.Sort Go.Lib in
theorem Tryz.strconv_Itoa (n:Int) (h0:-9223372036854775808<=n) (h1:n<=9223372036854775807) (w:World) (htab:Lib.TabIs Tryz.prog w "internal/strconv.uint64pow10" .u64 Lib.pow10Tab) :
 Calls Tryz.prog 125 #[.int .i64 n] w fun e w'=>e=.returned (.string ⟨(Lib.itoa n).toArray⟩)∧∃ k os,w'=grow (w.drewN k) os:=Any.strconv_Itoa Tryz.laysM171 n h0 h1 w htab
end Go.Proofs
