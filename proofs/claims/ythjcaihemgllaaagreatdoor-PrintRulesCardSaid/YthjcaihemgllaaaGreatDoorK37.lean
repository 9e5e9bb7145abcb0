/-
  What the law needs, packed: T10 E10 E11 E12.
-/
import Derived.Test.YthjcaihemgllaaaGreatDoorK36
namespace Go.HH
open Go Go.Proofs
set_option maxRecDepth 100000
set_option maxHeartbeats 4000000
set_option linter.unusedSimpArgs false
set_option linter.unusedVariables false
theorem call_RText_1 (n m:Int) (nm:List UInt8) (v:Vl) (key:Ky) (kids:List Tr) (hn:inI v.2.1) (hc:ckV v=0) (h0:v.1≠0):∃ bx,callL CC 38 [trV (.mk 1 n m nm v key kids)] []=some (.ret (.str (TX (.mk 1 n m nm v key kids))),bx):=by
 have e1:TX (.mk 1 n m nm v key kids)=prV v:=by rw [TX_eq];unfold bdT;simp only [Int.reduceEq,if_true,if_false];try rfl
 rw [e1]
 have o1:=op_Literal v hn hc h0
 generalize prV v=s at *
 unfold vlV at o1
 simp only [trV]
 generalize trVs kids=xs at *
 clear e1 hc h0
 rw [callL_enter (fn:=Tryz.f38) (c:=Tryz.f38.body.getD .skip) rfl rfl fat_R30_Text rfl ok_R30_Text (Nat.le_of_ble_eq_true rfl)]
 obtain ⟨ev,eo,so,co,⟨hev,hco⟩,R⟩:=RULES CC;rw [<- hev]
 rw [<- hco] at o1
 simp only [fpart,part',Tryz.f38,Option.getD]
 simp only [S9,R,seval,TRf,ss1,List.getElem?_concat_length,o1]
 exact ⟨_,rfl⟩
theorem call_RText_14 (n m:Int) (nm:List UInt8) (v:Vl) (key:Ky) (kids:List Tr) (hv:kdB 14 kids.length=true) (hk:∀ t ∈ kids,ndT t=0∧TRc t∧(TX t).length<=200000):∃ bx,callL CC 38 [trV (.mk 14 n m nm v key kids)] []=some (.ret (.str (TX (.mk 14 n m nm v key kids))),bx):=by
 obtain ⟨a,c,d,rfl⟩:=kd_three hv
 have e1:TX (.mk 14 n m nm v key [a,c,d])=cat (cat (cat (cat (cat [105,102,32] (kdS (an a) 0)) [32,116,104,101,110,32]) (kdS (an c) 0)) [32,101,108,115,101,32]) (kdS (an d) 0):=by rw [TX_eq];unfold bdT;simp only [Int.reduceEq,if_true,if_false];try rfl
 rw [e1]
 have o1:=op_Part a (hk a (by simp)).1 (hk a (by simp)).2.1 (hk a (by simp)).2.2 0
 have l1:=kdS_len (an a) 0
 have m1:(an a).s.length<=200000:=(hk a (by simp)).2.2
 have o2:=op_Part c (hk c (by simp)).1 (hk c (by simp)).2.1 (hk c (by simp)).2.2 0
 have l2:=kdS_len (an c) 0
 have m2:(an c).s.length<=200000:=(hk c (by simp)).2.2
 have o3:=op_Part d (hk d (by simp)).1 (hk d (by simp)).2.1 (hk d (by simp)).2.2 0
 have l3:=kdS_len (an d) 0
 have m3:(an d).s.length<=200000:=(hk d (by simp)).2.2
 clear e1 hk
 generalize kdS (an a) 0=s1 at *
 generalize kdS (an c) 0=s2 at *
 generalize kdS (an d) 0=s3 at *
 have c1:=catA (a:=[105,102,32]) (b:=s1) (by simp only [List.length_cons,List.length_nil];omega)
 have c2:=catA (a:=cat [105,102,32] s1) (b:=[32,116,104,101,110,32]) (by simp only [cat_len,List.length_cons,List.length_nil];omega)
 have c3:=catA (a:=cat (cat [105,102,32] s1) [32,116,104,101,110,32]) (b:=s2) (by simp only [cat_len,List.length_cons,List.length_nil];omega)
 have c4:=catA (a:=cat (cat (cat [105,102,32] s1) [32,116,104,101,110,32]) s2) (b:=[32,101,108,115,101,32]) (by simp only [cat_len,List.length_cons,List.length_nil];omega)
 have c5:=catA (a:=cat (cat (cat (cat [105,102,32] s1) [32,116,104,101,110,32]) s2) [32,101,108,115,101,32]) (b:=s3) (by simp only [cat_len,List.length_cons,List.length_nil];omega)
 clear l1 l2 l3 m1 m2 m3
 obtain ⟨ak,an,am,anm,av,akey,akids⟩:=a
 obtain ⟨ck,cn,cm,cnm,cv,ckey,ckids⟩:=c
 obtain ⟨dk,dn,dm,dnm,dv,dkey,dkids⟩:=d
 simp only [trV,trVs] at o1 o2 o3 ⊢
 have q1:=trVs_pure akids
 have q2:=trVs_pure ckids
 have q3:=trVs_pure dkids
 generalize trVs akids=xs at *
 generalize trVs ckids=ys at *
 generalize trVs dkids=zs at *
 rw [callL_enter (fn:=Tryz.f38) (c:=Tryz.f38.body.getD .skip) rfl rfl fat_R30_Text rfl ok_R30_Text (Nat.le_of_ble_eq_true rfl)]
 obtain ⟨ev,eo,so,co,⟨hev,hco⟩,R⟩:=RULES CC;rw [<- hev]
 rw [<- hco] at o1 o2 o3
 simp only [fpart,part',Tryz.f38,Option.getD]
 simp only [S9,R,seval,TRf,ss1,List.getElem?_concat_length,o1,o2,o3,c1,c2,c3,c4,c5,q1,q2,q3]
 exact ⟨_,rfl⟩
theorem call_RText_8 (n m:Int) (nm:List UInt8) (v:Vl) (key:Ky) (kids:List Tr) (hl:kids.length<=1000) (hk:∀ t ∈ kids,ndT t=0∧TRc t∧(TX t).length<=200000):∃ bx,callL CC 38 [trV (.mk 8 n m nm v key kids)] []=some (.ret (.str (TX (.mk 8 n m nm v key kids))),bx):=by
 have e1:TX (.mk 8 n m nm v key kids)=chS [32,111,114,32] 2 (ans kids) 0 []:=by rw [TX_eq];unfold bdT;simp only [Int.reduceEq,if_true,if_false];exact rowS_ch _ _ _ _ _
 rw [e1]
 have o1:=op_Chain kids hl [32,111,114,32] (by decide) 2 hk
 clear e1 hk
 generalize chS [32,111,114,32] 2 (ans kids) 0 []=s at *
 simp only [trV]
 generalize trVs kids=xs at *
 rw [callL_enter (fn:=Tryz.f38) (c:=Tryz.f38.body.getD .skip) rfl rfl fat_R30_Text rfl ok_R30_Text (Nat.le_of_ble_eq_true rfl)]
 obtain ⟨ev,eo,so,co,⟨hev,hco⟩,R⟩:=RULES CC;rw [<- hev]
 rw [<- hco] at o1
 simp only [fpart,part',Tryz.f38,Option.getD]
 simp only [S9,R,seval,TRf,ss1,List.getElem?_concat_length,o1]
 exact ⟨_,rfl⟩
theorem call_RText_7 (n m:Int) (nm:List UInt8) (v:Vl) (key:Ky) (kids:List Tr) (hl:kids.length<=1000) (hk:∀ t ∈ kids,ndT t=0∧TRc t∧(TX t).length<=200000):∃ bx,callL CC 38 [trV (.mk 7 n m nm v key kids)] []=some (.ret (.str (TX (.mk 7 n m nm v key kids))),bx):=by
 have e1:TX (.mk 7 n m nm v key kids)=chS [32,97,110,100,32] 3 (ans kids) 0 []:=by rw [TX_eq];unfold bdT;simp only [Int.reduceEq,if_true,if_false];exact rowS_ch _ _ _ _ _
 rw [e1]
 have o1:=op_Chain kids hl [32,97,110,100,32] (by decide) 3 hk
 clear e1 hk
 generalize chS [32,97,110,100,32] 3 (ans kids) 0 []=s at *
 simp only [trV]
 generalize trVs kids=xs at *
 rw [callL_enter (fn:=Tryz.f38) (c:=Tryz.f38.body.getD .skip) rfl rfl fat_R30_Text rfl ok_R30_Text (Nat.le_of_ble_eq_true rfl)]
 obtain ⟨ev,eo,so,co,⟨hev,hco⟩,R⟩:=RULES CC;rw [<- hev]
 rw [<- hco] at o1
 simp only [fpart,part',Tryz.f38,Option.getD]
 simp only [S9,R,seval,TRf,ss1,List.getElem?_concat_length,o1]
 exact ⟨_,rfl⟩
theorem call_RText_9 (n m:Int) (nm:List UInt8) (v:Vl) (key:Ky) (kids:List Tr) (hv:kdB 9 kids.length=true) (hk:∀ t ∈ kids,ndT t=0∧TRc t∧(TX t).length<=200000):∃ bx,callL CC 38 [trV (.mk 9 n m nm v key kids)] []=some (.ret (.str (TX (.mk 9 n m nm v key kids))),bx):=by
 obtain ⟨a,c,rfl⟩:=kd_two (k:=9) (by omega) hv
 have e1:TX (.mk 9 n m nm v key [a,c])=chS [32,61,61,32] 5 (ans [a,c]) 0 []:=by rw [TX_eq];unfold bdT;simp only [Int.reduceEq,if_true,if_false];exact prS_ch (an a) (an c) [61,61] 5
 rw [e1]
 have o1:=op_Chain [a,c] (by simp) [32,61,61,32] (by decide) 5 hk
 clear e1 hk
 generalize chS [32,61,61,32] 5 (ans [a,c]) 0 []=s at *
 simp only [trV]
 generalize trVs [a,c]=xs at *
 rw [callL_enter (fn:=Tryz.f38) (c:=Tryz.f38.body.getD .skip) rfl rfl fat_R30_Text rfl ok_R30_Text (Nat.le_of_ble_eq_true rfl)]
 obtain ⟨ev,eo,so,co,⟨hev,hco⟩,R⟩:=RULES CC;rw [<- hev]
 rw [<- hco] at o1
 simp only [fpart,part',Tryz.f38,Option.getD]
 simp only [S9,R,seval,TRf,ss1,List.getElem?_concat_length,o1]
 exact ⟨_,rfl⟩
theorem call_RText_10 (n m:Int) (nm:List UInt8) (v:Vl) (key:Ky) (kids:List Tr) (hv:kdB 10 kids.length=true) (hk:∀ t ∈ kids,ndT t=0∧TRc t∧(TX t).length<=200000):∃ bx,callL CC 38 [trV (.mk 10 n m nm v key kids)] []=some (.ret (.str (TX (.mk 10 n m nm v key kids))),bx):=by
 obtain ⟨a,c,rfl⟩:=kd_two (k:=10) (by omega) hv
 have e1:TX (.mk 10 n m nm v key [a,c])=chS [32,60,32] 5 (ans [a,c]) 0 []:=by rw [TX_eq];unfold bdT;simp only [Int.reduceEq,if_true,if_false];exact prS_ch (an a) (an c) [60] 5
 rw [e1]
 have o1:=op_Chain [a,c] (by simp) [32,60,32] (by decide) 5 hk
 clear e1 hk
 generalize chS [32,60,32] 5 (ans [a,c]) 0 []=s at *
 simp only [trV]
 generalize trVs [a,c]=xs at *
 rw [callL_enter (fn:=Tryz.f38) (c:=Tryz.f38.body.getD .skip) rfl rfl fat_R30_Text rfl ok_R30_Text (Nat.le_of_ble_eq_true rfl)]
 obtain ⟨ev,eo,so,co,⟨hev,hco⟩,R⟩:=RULES CC;rw [<- hev]
 rw [<- hco] at o1
 simp only [fpart,part',Tryz.f38,Option.getD]
 simp only [S9,R,seval,TRf,ss1,List.getElem?_concat_length,o1]
 exact ⟨_,rfl⟩
theorem call_RText_11 (n m:Int) (nm:List UInt8) (v:Vl) (key:Ky) (kids:List Tr) (hv:kdB 11 kids.length=true) (hk:∀ t ∈ kids,ndT t=0∧TRc t∧(TX t).length<=200000):∃ bx,callL CC 38 [trV (.mk 11 n m nm v key kids)] []=some (.ret (.str (TX (.mk 11 n m nm v key kids))),bx):=by
 obtain ⟨a,c,rfl⟩:=kd_two (k:=11) (by omega) hv
 have e1:TX (.mk 11 n m nm v key [a,c])=cat (cat (kdS (an a) 5) [32,43,32]) (kdS (an c) 6):=by rw [TX_eq];unfold bdT;simp only [Int.reduceEq,if_true,if_false];exact prS_eq (an a) 5 [43] (an c) 6
 rw [e1]
 have o1:=op_Part a (hk a (by simp)).1 (hk a (by simp)).2.1 (hk a (by simp)).2.2 5
 have l1:=kdS_len (an a) 5
 have m1:(an a).s.length<=200000:=(hk a (by simp)).2.2
 have o2:=op_Part c (hk c (by simp)).1 (hk c (by simp)).2.1 (hk c (by simp)).2.2 6
 have l2:=kdS_len (an c) 6
 have m2:(an c).s.length<=200000:=(hk c (by simp)).2.2
 clear e1 hk
 generalize kdS (an a) 5=s1 at *
 generalize kdS (an c) 6=s2 at *
 have c1:=catA (a:=s1) (b:=[32,43,32]) (by simp only [List.length_cons,List.length_nil];omega)
 have c2:=catA (a:=cat s1 [32,43,32]) (b:=s2) (by simp only [cat_len,List.length_cons,List.length_nil];omega)
 clear l1 l2 m1 m2
 obtain ⟨ak,an',am,anm,av,akey,akids⟩:=a
 obtain ⟨ck,cn,cm,cnm,cv,ckey,ckids⟩:=c
 simp only [trV,trVs] at o1 o2 ⊢
 have q1:=trVs_pure akids
 have q2:=trVs_pure ckids
 generalize trVs akids=xs at *
 generalize trVs ckids=ys at *
 rw [callL_enter (fn:=Tryz.f38) (c:=Tryz.f38.body.getD .skip) rfl rfl fat_R30_Text rfl ok_R30_Text (Nat.le_of_ble_eq_true rfl)]
 obtain ⟨ev,eo,so,co,⟨hev,hco⟩,R⟩:=RULES CC;rw [<- hev]
 rw [<- hco] at o1 o2
 simp only [fpart,part',Tryz.f38,Option.getD]
 simp only [S9,R,seval,TRf,ss1,List.getElem?_concat_length,o1,o2,c1,c2,q1,q2]
 exact ⟨_,rfl⟩
theorem call_RText_13 (n m:Int) (nm:List UInt8) (v:Vl) (key:Ky) (kids:List Tr) (hv:kdB 13 kids.length=true) (hk:∀ t ∈ kids,ndT t=0∧TRc t∧(TX t).length<=200000):∃ bx,callL CC 38 [trV (.mk 13 n m nm v key kids)] []=some (.ret (.str (TX (.mk 13 n m nm v key kids))),bx):=by
 obtain ⟨a,c,rfl⟩:=kd_two (k:=13) (by omega) hv
 have e1:TX (.mk 13 n m nm v key [a,c])=cat (cat (kdS (an a) 6) [32,42,32]) (kdS (an c) 7):=by rw [TX_eq];unfold bdT;simp only [Int.reduceEq,if_true,if_false];exact prS_eq (an a) 6 [42] (an c) 7
 rw [e1]
 have o1:=op_Part a (hk a (by simp)).1 (hk a (by simp)).2.1 (hk a (by simp)).2.2 6
 have l1:=kdS_len (an a) 6
 have m1:(an a).s.length<=200000:=(hk a (by simp)).2.2
 have o2:=op_Part c (hk c (by simp)).1 (hk c (by simp)).2.1 (hk c (by simp)).2.2 7
 have l2:=kdS_len (an c) 7
 have m2:(an c).s.length<=200000:=(hk c (by simp)).2.2
 clear e1 hk
 generalize kdS (an a) 6=s1 at *
 generalize kdS (an c) 7=s2 at *
 have c1:=catA (a:=s1) (b:=[32,42,32]) (by simp only [List.length_cons,List.length_nil];omega)
 have c2:=catA (a:=cat s1 [32,42,32]) (b:=s2) (by simp only [cat_len,List.length_cons,List.length_nil];omega)
 clear l1 l2 m1 m2
 obtain ⟨ak,an',am,anm,av,akey,akids⟩:=a
 obtain ⟨ck,cn,cm,cnm,cv,ckey,ckids⟩:=c
 simp only [trV,trVs] at o1 o2 ⊢
 have q1:=trVs_pure akids
 have q2:=trVs_pure ckids
 generalize trVs akids=xs at *
 generalize trVs ckids=ys at *
 rw [callL_enter (fn:=Tryz.f38) (c:=Tryz.f38.body.getD .skip) rfl rfl fat_R30_Text rfl ok_R30_Text (Nat.le_of_ble_eq_true rfl)]
 obtain ⟨ev,eo,so,co,⟨hev,hco⟩,R⟩:=RULES CC;rw [<- hev]
 rw [<- hco] at o1 o2
 simp only [fpart,part',Tryz.f38,Option.getD]
 simp only [S9,R,seval,TRf,ss1,List.getElem?_concat_length,o1,o2,c1,c2,q1,q2]
 exact ⟨_,rfl⟩
theorem call_RText_12 (n m:Int) (nm:List UInt8) (v:Vl) (key:Ky) (kids:List Tr) (hv:kdB 12 kids.length=true) (hk:∀ t ∈ kids,ndT t=0∧TRc t∧(TX t).length<=200000):∃ bx,callL CC 38 [trV (.mk 12 n m nm v key kids)] []=some (.ret (.str (TX (.mk 12 n m nm v key kids))),bx):=by
 obtain ⟨a,c,rfl⟩:=kd_two (k:=12) (by omega) hv
 have e1:TX (.mk 12 n m nm v key [a,c])=(if mnB [a,c] then cat [45] (kdS (an c) 7) else cat (cat (kdS (an a) 5) [32,45,32]) (kdS (an c) 6)):=by rw [TX_eq];show _=if mnB [a,c] then cat [45] (kdS (an c) 7) else cat (cat (kdS (an a) 5) (cat (cat [32] [45]) [32])) (kdS (an c) 6);unfold bdT;simp only [Int.reduceEq,if_true,if_false];rw [<- prS_eq (an a) 5 [45] (an c) 6];try rfl
 rw [e1]
 have o3:=op_Neg12 n m nm v key a c
 have o1:=op_Part a (hk a (by simp)).1 (hk a (by simp)).2.1 (hk a (by simp)).2.2 5
 have l1:=kdS_len (an a) 5
 have m1:(an a).s.length<=200000:=(hk a (by simp)).2.2
 have o2:=op_Part c (hk c (by simp)).1 (hk c (by simp)).2.1 (hk c (by simp)).2.2 6
 have l2:=kdS_len (an c) 6
 have m2:(an c).s.length<=200000:=(hk c (by simp)).2.2
 have o4:=op_Part c (hk c (by simp)).1 (hk c (by simp)).2.1 (hk c (by simp)).2.2 7
 have l4:=kdS_len (an c) 7
 clear e1 hk
 generalize kdS (an a) 5=s1 at *
 generalize kdS (an c) 6=s2 at *
 generalize kdS (an c) 7=s4 at *
 have c1:=catA (a:=s1) (b:=[32,45,32]) (by simp only [List.length_cons,List.length_nil];omega)
 have c2:=catA (a:=cat s1 [32,45,32]) (b:=s2) (by simp only [cat_len,List.length_cons,List.length_nil];omega)
 have c4:=catA (a:=[45]) (b:=s4) (by simp only [List.length_cons,List.length_nil];omega)
 clear l1 l2 m1 m2 l4
 generalize mnB [a,c]=q at *
 obtain ⟨ak,an',am,anm,av,akey,akids⟩:=a
 obtain ⟨ck,cn,cm,cnm,cv,ckey,ckids⟩:=c
 simp only [trV,trVs] at o1 o2 o3 o4 ⊢
 have q1:=trVs_pure akids
 have q2:=trVs_pure ckids
 generalize trVs akids=xs at *
 generalize trVs ckids=ys at *
 rw [callL_enter (fn:=Tryz.f38) (c:=Tryz.f38.body.getD .skip) rfl rfl fat_R30_Text rfl ok_R30_Text (Nat.le_of_ble_eq_true rfl)]
 cases q with
 | true=>
  rw [if_pos rfl]
  obtain ⟨ev,eo,so,co,⟨hev,hco⟩,R⟩:=RULES CC;rw [<- hev]
  rw [<- hco] at o1 o2 o3 o4
  simp only [fpart,part',Tryz.f38,Option.getD]
  simp only [S9,R,seval,TRf,ss1,List.getElem?_concat_length,o1,o2,o3,o4,c1,c2,c4,q1,q2]
  exact ⟨_,rfl⟩
 | false=>
  rw [if_neg (by simp)]
  obtain ⟨ev,eo,so,co,⟨hev,hco⟩,R⟩:=RULES CC;rw [<- hev]
  rw [<- hco] at o1 o2 o3 o4
  simp only [fpart,part',Tryz.f38,Option.getD]
  simp only [S9,R,seval,TRf,ss1,List.getElem?_concat_length,o1,o2,o3,o4,c1,c2,c4,q1,q2]
  exact ⟨_,rfl⟩
theorem call_RText_6 (n m:Int) (nm:List UInt8) (v:Vl) (key:Ky) (kids:List Tr) (a:Tr) (hkd:kids=[a]) (hng:NRc a):∃ bx,callL CC 38 [trV (.mk 6 n m nm v key kids)] []=some (.ret (.str (TX (.mk 6 n m nm v key kids))),bx):=by
 subst hkd
 have e1:TX (.mk 6 n m nm v key [a])=ngS (kdOf a) (an a):=by rw [TX_eq];unfold bdT;simp only [Int.reduceEq,if_true,if_false];try rfl
 rw [e1]
 have o1:=hng
 unfold NRc at o1
 clear e1 hng
 generalize ngS (kdOf a) (an a)=s at *
 obtain ⟨ak,an,am,anm,av,akey,akids⟩:=a
 simp only [trV,trVs] at o1 ⊢
 have q1:=trVs_pure akids
 generalize trVs akids=xs at *
 rw [callL_enter (fn:=Tryz.f38) (c:=Tryz.f38.body.getD .skip) rfl rfl fat_R30_Text rfl ok_R30_Text (Nat.le_of_ble_eq_true rfl)]
 obtain ⟨ev,eo,so,co,⟨hev,hco⟩,R⟩:=RULES CC;rw [<- hev]
 rw [<- hco] at o1
 simp only [fpart,part',Tryz.f38,Option.getD]
 simp only [S9,R,seval,TRf,ss1,List.getElem?_concat_length,o1,q1]
 exact ⟨_,rfl⟩
theorem call_RText_2 (n m:Int) (nm:List UInt8) (v:Vl) (key:Ky) (kids:List Tr) (hr:rgB 2 n m key.1=true) (hd:inI key.1) (l1:nm.length<=100) (l2:key.2.1.length<=100) (l3:key.2.2.length<=100):∃ bx,callL CC 38 [trV (.mk 2 n m nm v key kids)] []=some (.ret (.str (TX (.mk 2 n m nm v key kids))),bx):=by
 have e1:TX (.mk 2 n m nm v key kids)=prmT 2 n m nm key:=by rw [TX_eq];unfold bdT;simp only [Int.reduceEq,if_true,if_false];try rfl
 rw [e1]
 clear e1
 obtain ⟨d,c,a⟩:=key
 unfold prmT
 unfold rgB at hr
 simp only [Int.reduceEq,if_true,if_false] at hr hd l2 l3 ⊢
 have o1:=op_Path d c a hd (by omega) (by omega)
 generalize dotT d c a=s at *
 simp only [trV]
 generalize trVs kids=xs at *
 rw [callL_enter (fn:=Tryz.f38) (c:=Tryz.f38.body.getD .skip) rfl rfl fat_R30_Text rfl ok_R30_Text (Nat.le_of_ble_eq_true rfl)]
 obtain ⟨ev,eo,so,co,⟨hev,hco⟩,R⟩:=RULES CC;rw [<- hev]
 rw [<- hco] at o1
 simp only [fpart,part',Tryz.f38,Option.getD]
 simp only [S9,R,seval,TRf,ss1,List.getElem?_concat_length,o1]
 exact ⟨_,rfl⟩
theorem call_RText_3 (n m:Int) (nm:List UInt8) (v:Vl) (key:Ky) (kids:List Tr) (hr:rgB 3 n m key.1=true) (hd:inI key.1) (l1:nm.length<=100) (l2:key.2.1.length<=100) (l3:key.2.2.length<=100):∃ bx,callL CC 38 [trV (.mk 3 n m nm v key kids)] []=some (.ret (.str (TX (.mk 3 n m nm v key kids))),bx):=by
 have e1:TX (.mk 3 n m nm v key kids)=prmT 3 n m nm key:=by rw [TX_eq];unfold bdT;simp only [Int.reduceEq,if_true,if_false];try rfl
 rw [e1]
 clear e1
 obtain ⟨d,c,a⟩:=key
 unfold prmT
 unfold rgB at hr
 simp only [Int.reduceEq,if_true,if_false] at hr hd l2 l3 ⊢
 have c1:=catA (a:=[109,111,100,101,32,105,115,32]) (b:=nm) (by simp only [List.length_cons,List.length_nil];omega)
 simp only [trV]
 generalize trVs kids=xs at *
 rw [callL_enter (fn:=Tryz.f38) (c:=Tryz.f38.body.getD .skip) rfl rfl fat_R30_Text rfl ok_R30_Text (Nat.le_of_ble_eq_true rfl)]
 obtain ⟨ev,eo,so,co,⟨hev,hco⟩,R⟩:=RULES CC;rw [<- hev]
 skip
 simp only [fpart,part',Tryz.f38,Option.getD]
 simp only [S9,R,seval,TRf,ss1,List.getElem?_concat_length,c1]
 exact ⟨_,rfl⟩
theorem call_RText_4 (n m:Int) (nm:List UInt8) (v:Vl) (key:Ky) (kids:List Tr) (hr:rgB 4 n m key.1=true) (hd:inI key.1) (l1:nm.length<=100) (l2:key.2.1.length<=100) (l3:key.2.2.length<=100):∃ bx,callL CC 38 [trV (.mk 4 n m nm v key kids)] []=some (.ret (.str (TX (.mk 4 n m nm v key kids))),bx):=by
 have e1:TX (.mk 4 n m nm v key kids)=prmT 4 n m nm key:=by rw [TX_eq];unfold bdT;simp only [Int.reduceEq,if_true,if_false];try rfl
 rw [e1]
 clear e1
 obtain ⟨d,c,a⟩:=key
 unfold prmT
 unfold rgB at hr
 simp only [Int.reduceEq,if_true,if_false] at hr hd l2 l3 ⊢
 have hr:=of_decide_eq_true hr
 have o1:=op_Clock n (by omega)
 have o2:=op_Clock m (by omega)
 have e1:(clkT n.toNat).length=5:=rfl
 have e2:(clkT m.toNat).length=5:=rfl
 generalize clkT n.toNat=s1 at *
 generalize clkT m.toNat=s2 at *
 have c1:=catA (a:=[116,105,109,101,32]) (b:=s1) (by simp only [List.length_cons,List.length_nil];omega)
 have c2:=catA (a:=cat [116,105,109,101,32] s1) (b:=[32,116,111,32]) (by simp only [cat_len,List.length_cons,List.length_nil];omega)
 have c3:=catA (a:=cat (cat [116,105,109,101,32] s1) [32,116,111,32]) (b:=s2) (by simp only [cat_len,List.length_cons,List.length_nil];omega)
 clear hr e1 e2
 simp only [trV]
 generalize trVs kids=xs at *
 rw [callL_enter (fn:=Tryz.f38) (c:=Tryz.f38.body.getD .skip) rfl rfl fat_R30_Text rfl ok_R30_Text (Nat.le_of_ble_eq_true rfl)]
 obtain ⟨ev,eo,so,co,⟨hev,hco⟩,R⟩:=RULES CC;rw [<- hev]
 rw [<- hco] at o1 o2
 simp only [fpart,part',Tryz.f38,Option.getD]
 simp only [S9,R,seval,TRf,ss1,List.getElem?_concat_length,o1,o2,c1,c2,c3]
 exact ⟨_,rfl⟩
theorem call_RText_5 (n m:Int) (nm:List UInt8) (v:Vl) (key:Ky) (kids:List Tr) (hr:rgB 5 n m key.1=true) (hd:inI key.1) (l1:nm.length<=100) (l2:key.2.1.length<=100) (l3:key.2.2.length<=100):∃ bx,callL CC 38 [trV (.mk 5 n m nm v key kids)] []=some (.ret (.str (TX (.mk 5 n m nm v key kids))),bx):=by
 have e1:TX (.mk 5 n m nm v key kids)=prmT 5 n m nm key:=by rw [TX_eq];unfold bdT;simp only [Int.reduceEq,if_true,if_false];try rfl
 rw [e1]
 clear e1
 obtain ⟨d,c,a⟩:=key
 unfold prmT
 unfold rgB at hr
 simp only [Int.reduceEq,if_true,if_false] at hr hd l2 l3 ⊢
 have hr:=of_decide_eq_true hr
 have o1:=op_Days n (by omega)
 generalize dayN n.toNat=s at *
 clear hr
 simp only [trV]
 generalize trVs kids=xs at *
 rw [callL_enter (fn:=Tryz.f38) (c:=Tryz.f38.body.getD .skip) rfl rfl fat_R30_Text rfl ok_R30_Text (Nat.le_of_ble_eq_true rfl)]
 obtain ⟨ev,eo,so,co,⟨hev,hco⟩,R⟩:=RULES CC;rw [<- hev]
 rw [<- hco] at o1
 simp only [fpart,part',Tryz.f38,Option.getD]
 simp only [S9,R,seval,TRf,ss1,List.getElem?_concat_length,o1]
 exact ⟨_,rfl⟩
theorem bldHS:buildSliceP CC 111 4 [(0,.str [103,117,101,115,116]),(1,.str [99,104,105,108,100]),(2,.str [97,100,117,108,116]),(3,.str [111,119,110,101,114])]=some (.osl 9 [.str [103,117,101,115,116],.str [99,104,105,108,100],.str [97,100,117,108,116],.str [111,119,110,101,114]]):=by kernel_rfl
theorem call_RText_15 (n m:Int) (nm:List UInt8) (v:Vl) (key:Ky) (kids:List Tr) (hr:rgB 15 n m key.1=true) (hd:inI key.1) (l1:nm.length<=100) (l2:key.2.1.length<=100) (l3:key.2.2.length<=100):∃ bx,callL CC 38 [trV (.mk 15 n m nm v key kids)] []=some (.ret (.str (TX (.mk 15 n m nm v key kids))),bx):=by
 have e1:TX (.mk 15 n m nm v key kids)=prmT 15 n m nm key:=by rw [TX_eq];unfold bdT;simp only [Int.reduceEq,if_true,if_false];try rfl
 rw [e1]
 clear e1
 obtain ⟨d,c,a⟩:=key
 unfold prmT
 unfold rgB at hr
 simp only [Int.reduceEq,if_true,if_false] at hr hd l2 l3 ⊢
 have hr:=of_decide_eq_true hr
 have w0:=wrap_i64 (n:=0) (by decide)
 have w1:=wrap_i64 (n:=1) (by decide)
 have w2:=wrap_i64 (n:=2) (by decide)
 have w3:=wrap_i64 (n:=3) (by decide)
 have c1:=catA (a:=[104,111,109,101,32]) (b:=[103,117,101,115,116]) (by decide)
 have c2:=catA (a:=[104,111,109,101,32]) (b:=[99,104,105,108,100]) (by decide)
 have c3:=catA (a:=[104,111,109,101,32]) (b:=[97,100,117,108,116]) (by decide)
 have c4:=catA (a:=[104,111,109,101,32]) (b:=[111,119,110,101,114]) (by decide)
 simp only [trV]
 generalize trVs kids=xs at *
 rw [callL_enter (fn:=Tryz.f38) (c:=Tryz.f38.body.getD .skip) rfl rfl fat_R30_Text rfl ok_R30_Text (Nat.le_of_ble_eq_true rfl)]
 have:n=0∨n=1∨n=2∨n=3∨n=4:=by omega
 rcases this with rfl | rfl | rfl | rfl | rfl
 all_goals
  obtain ⟨ev,eo,so,co,⟨hev,hco⟩,R⟩:=RULES CC;rw [<- hev]
  skip
  simp only [fpart,part',Tryz.f38,Option.getD]
  simp only [S9,R,seval,TRf,ss1,List.getElem?_concat_length,bldHS,Int.reduceSub,w0,w1,w2,w3,c1,c2,c3,c4]
  exact ⟨_,rfl⟩
theorem TRc_of {t:Tr} (h:∃ bx,callL CC 38 [trV t] []=some (.ret (.str (TX t)),bx)):TRc t:=fun bx=>by
 obtain ⟨c,hc⟩:=h
 exact callOp_of rfl (by simp only [pureL_cons,trV_pure,pureL_nil,Bool.and_self]) hc rfl
mutual
theorem rtx_ok (t:Tr) (hv:vT t) (hs:shT t) (ho:okTr t) (hn:ndC t<=300):TRc t∧∀ y ∈ kidsOf t,TRc y:=by
 match t with
 | .mk k n m nm v key kids=>
  unfold vT at hv
  unfold shT at hs
  unfold okTr at ho
  unfold ndC at hn
  obtain ⟨o1,o2,o3,o4,o5,o6,o7,o8⟩:=ho
  have hk:=rtxs_ok kids hv.2 hs.2 o8 (by omega)
  have hl:=len_all hv.2 hs.2 o8 (by omega)
  have hnn:=v_nd kids hv.2
  have hkk:∀ t ∈ kids,ndT t=0∧TRc t∧(TX t).length<=200000:=fun t ht=>⟨by obtain ⟨_,_,_,_,_,_,_,rfl,h⟩:=hnn t ht;exact h,(hk t ht).1,hl t ht⟩
  obtain ⟨g1,g2,g3,g4,g5⟩:=nd_ok hv.1
  have h8:=kd_le ⟨g1,g2⟩ g3
  refine ⟨TRc_of ?_,fun y hy=>(hk y hy).1⟩
  have hcase:k=1∨k=14∨k=8∨k=7∨k=6∨k=9∨k=10∨k=11∨k=12∨k=13∨k=2∨k=3∨k=4∨k=5∨k=15:=by omega
  rcases hcase with rfl | rfl | rfl | rfl | rfl | rfl | rfl | rfl | rfl | rfl | rfl | rfl | rfl | rfl | rfl
  · exact call_RText_1 n m nm v key kids o5.2.1 (g5 rfl).1 (g5 rfl).2
  · exact call_RText_14 n m nm v key kids g3 hkk
  · exact call_RText_8 n m nm v key kids (by omega) hkk
  · exact call_RText_7 n m nm v key kids (by omega) hkk
  · obtain ⟨a,rfl⟩:=kd_one g3
    refine call_RText_6 n m nm v key _ a rfl ?_
    have ha:=hk a (by simp)
    have hla:=hl a (by simp)
    obtain ⟨hva,_⟩:=hv.2
    obtain ⟨hsa,_⟩:=hs.2
    unfold okTrs at o8
    have hoa:=o8.1
    unfold ndCs at hn
    obtain ⟨k',n',m',nm',v',key',kids'⟩:=a
    unfold vT at hva
    unfold shT at hsa
    unfold okTr at hoa
    unfold ndC at hn
    have hl':=len_all hva.2 hsa.2 hoa.2.2.2.2.2.2.2 (by omega)
    have hnn2:=v_nd kids' hva.2
    exact op_Not k' n' m' nm' v' key' kids' hva.1 ha.1 hla (fun t ht=>⟨by obtain ⟨_,_,_,_,_,_,_,rfl,h⟩:=hnn2 t ht;exact h,ha.2 t ht,hl' t ht⟩)
  · exact call_RText_9 n m nm v key kids g3 hkk
  · exact call_RText_10 n m nm v key kids g3 hkk
  · exact call_RText_11 n m nm v key kids g3 hkk
  · exact call_RText_12 n m nm v key kids g3 hkk
  · exact call_RText_13 n m nm v key kids g3 hkk
  · exact call_RText_2 n m nm v key kids g4 o6.1 hs.1.1 hs.1.2.2.1 hs.1.2.2.2.1
  · exact call_RText_3 n m nm v key kids g4 o6.1 hs.1.1 hs.1.2.2.1 hs.1.2.2.2.1
  · exact call_RText_4 n m nm v key kids g4 o6.1 hs.1.1 hs.1.2.2.1 hs.1.2.2.2.1
  · exact call_RText_5 n m nm v key kids g4 o6.1 hs.1.1 hs.1.2.2.1 hs.1.2.2.2.1
  · exact call_RText_15 n m nm v key kids g4 o6.1 hs.1.1 hs.1.2.2.1 hs.1.2.2.2.1
theorem rtxs_ok (l:List Tr) (hv:vTs l) (hs:shTs l) (ho:okTrs l) (hn:ndCs l<=300):∀ t ∈ l,TRc t∧∀ y ∈ kidsOf t,TRc y:=by
 match l with
 | []=>intro t ht;cases ht
 | a :: r=>
  unfold vTs at hv
  unfold shTs at hs
  unfold okTrs at ho
  unfold ndCs at hn
  have h1:=rtx_ok a hv.1 hs.1 ho.1 (by omega)
  have h2:=rtxs_ok r hv.2 hs.2 ho.2 (by omega)
  intro t ht
  rcases List.mem_cons.1 ht with rfl | ht
  · exact h1
  · exact h2 t ht
end
end Go.HH
namespace Go.HH
open Go Go.Proofs
set_option maxRecDepth 100000
set_option linter.unusedSimpArgs false
set_option linter.unusedVariables false
theorem uEV:Tryz.prog.underlying 56=some (.struct ((match Tryz.prog.underlying 56 with | some (.struct f)=>f | _=>#[]))):=by kernel_rfl
theorem fEV:((match Tryz.prog.underlying 56 with | some (.struct f)=>f | _=>#[]):Array Field).toList.map (fun f=>(f.type,f.offset))=[(3,0),(9,1),(9,2)]:=by kernel_rfl
theorem cEV:Tryz.prog.cellsOf 56=3:=by kernel_rfl
theorem aggEV:aggT Tryz.prog 56=true:=by unfold aggT;rw [uEV]
theorem uTG_:Tryz.prog.underlying 58=some (.struct ((match Tryz.prog.underlying 58 with | some (.struct f)=>f | _=>#[]))):=by kernel_rfl
theorem fTG_:((match Tryz.prog.underlying 58 with | some (.struct f)=>f | _=>#[]):Array Field).toList.map (fun f=>(f.type,f.offset))=[(3,0),(26,1),(56,4),(9,7),(3,8),(3,9)]:=by kernel_rfl
theorem cTG_:Tryz.prog.cellsOf 58=10:=by kernel_rfl
theorem uSP:Tryz.prog.underlying 60=some (.struct ((match Tryz.prog.underlying 60 with | some (.struct f)=>f | _=>#[]))):=by kernel_rfl
theorem fSP:((match Tryz.prog.underlying 60 with | some (.struct f)=>f | _=>#[]):Array Field).toList.map (fun f=>(f.type,f.offset))=[(3,0),(26,1),(9,4),(29,5)]:=by kernel_rfl
theorem cSP:Tryz.prog.cellsOf 60=16:=by kernel_rfl
theorem uRL:Tryz.prog.underlying 32=some (.struct ((match Tryz.prog.underlying 32 with | some (.struct f)=>f | _=>#[]))):=by kernel_rfl
theorem fRL:((match Tryz.prog.underlying 32 with | some (.struct f)=>f | _=>#[]):Array Field).toList.map (fun f=>(f.type,f.offset))=[(9,0),(3,1),(22,2),(29,3),(30,14)]:=by kernel_rfl
theorem cRL:Tryz.prog.cellsOf 32=15:=by kernel_rfl
theorem uTgs:Tryz.prog.underlying 22=some (.slice 58):=by kernel_rfl
theorem uSps:Tryz.prog.underlying 30=some (.slice 60):=by kernel_rfl
theorem cTgs:Tryz.prog.cellsOf 22=1:=by kernel_rfl
theorem cSps:Tryz.prog.cellsOf 30=1:=by kernel_rfl
theorem hasV_event {p:PV} (h:HasV Tryz.prog 56 p):∃ k:Ky,p=kyV k∧okKy k:=by
 obtain ⟨n,cs,rfl,hlen,hf⟩:=hasV_struct uEV fEV h
 rw [cEV] at hlen
 match cs,hlen with
 | [a,b,c],_=>
  have f0:=hf (3,0) (by simp)
  have f1:=hf (9,1) (by simp)
  have f2:=hf (9,2) (by simp)
  simp only [cInt,cStr] at f0 f1 f2
  obtain ⟨k,e0,h0⟩:=hasT_i64 (P:=Tryz.prog) Tryz.underlying3 f0
  obtain ⟨m,e1,h1⟩:=hasT_str (P:=Tryz.prog) Tryz.underlying9 f1
  obtain ⟨s,e2,h2⟩:=hasT_str (P:=Tryz.prog) Tryz.underlying9 f2
  injection e0 with e0
  injection e1 with e1
  injection e2 with e2
  subst e0 e1 e2
  exact ⟨(k,m,s),rfl,h0,h1,h2⟩
structure Tg where
 k:Int
 key:Ky
 ev:Ky
 nm:List UInt8
 n:Int
 m:Int
def tgV (t:Tg):PV:=.agg [.int .i64 t.k,.int .i64 t.key.1,.str t.key.2.1,.str t.key.2.2,.int .i64 t.ev.1,.str t.ev.2.1,.str t.ev.2.2,.str t.nm,.int .i64 t.n,.int .i64 t.m]
def okTg (t:Tg):Prop:=inI t.k∧okKy t.key∧okKy t.ev∧t.nm.length<=maxLen∧inI t.n∧inI t.m
theorem hasV_tg {p:PV} (h:HasV Tryz.prog 58 p):∃ t:Tg,p=tgV t∧okTg t:=by
 obtain ⟨n,cs,rfl,hlen,hf⟩:=hasV_struct uTG_ fTG_ h
 rw [cTG_] at hlen
 match cs,hlen with
 | [a0,a1,a2,a3,a4,a5,a6,a7,a8,a9],_=>
  have f0:=hf (3,0) (by simp)
  have f1:=hf (26,1) (by simp)
  have f2:=hf (56,4) (by simp)
  have f3:=hf (9,7) (by simp)
  have f4:=hf (3,8) (by simp)
  have f5:=hf (3,9) (by simp)
  simp only [cInt,cStr,cKy,cEV] at f0 f1 f2 f3 f4 f5
  have f1':HasV Tryz.prog 26 (.agg [a1,a2,a3]):=⟨n,[a1,a2,a3],by unfold mkV;rw [if_pos aggKy],fun _=>by rw [cKy];rfl,f1⟩
  have f2':HasV Tryz.prog 56 (.agg [a4,a5,a6]):=⟨n,[a4,a5,a6],by unfold mkV;rw [if_pos aggEV],fun _=>by rw [cEV];rfl,f2⟩
  obtain ⟨k,e0,h0⟩:=hasT_i64 (P:=Tryz.prog) Tryz.underlying3 f0
  obtain ⟨ky,e1,h1⟩:=hasV_key f1'
  obtain ⟨ek,e2,h2⟩:=hasV_event f2'
  obtain ⟨s,e3,h3⟩:=hasT_str (P:=Tryz.prog) Tryz.underlying9 f3
  obtain ⟨x,e4,h4⟩:=hasT_i64 (P:=Tryz.prog) Tryz.underlying3 f4
  obtain ⟨y,e5,h5⟩:=hasT_i64 (P:=Tryz.prog) Tryz.underlying3 f5
  unfold kyV at e1 e2
  simp only [List.drop_succ_cons,List.drop_zero,List.take_succ_cons,List.take_zero,List.cons.injEq,and_true,PV.agg.injEq] at e0 e1 e2 e3 e4 e5
  obtain ⟨e11,e12,e13⟩:=e1
  obtain ⟨e21,e22,e23⟩:=e2
  subst e0 e11 e12 e13 e21 e22 e23 e3 e4 e5
  exact ⟨⟨k,ky,ek,s,x,y⟩,rfl,h0,h1,h2,h3,h4,h5⟩
def trC (t:Tr):List PV:=(trV t).cells
theorem trV_agg (t:Tr):trV t=.agg (trC t):=by
 obtain ⟨k,n,m,nm,v,key,kids⟩:=t
 unfold trC trV
 rfl
structure Sp where
 k:Int
 key:Ky
 nm:List UInt8
 ex:Tr
def spV (s:Sp):PV:=.agg ([.int .i64 s.k,.int .i64 s.key.1,.str s.key.2.1,.str s.key.2.2,.str s.nm]++trC s.ex)
def okSp (s:Sp):Prop:=inI s.k∧okKy s.key∧s.nm.length<=maxLen∧okTr s.ex
theorem hasV_sp {p:PV} (h:HasV Tryz.prog 60 p):∃ s:Sp,p=spV s∧okSp s:=by
 obtain ⟨n,cs,rfl,hlen,hf⟩:=hasV_struct uSP fSP h
 rw [cSP] at hlen
 match cs,hlen with
 | a0 :: a1 :: a2 :: a3 :: a4 :: r,hlen=>
  have hr:r.length=11:=by simpa using hlen
  have f0:=hf (3,0) (by simp)
  have f1:=hf (26,1) (by simp)
  have f2:=hf (9,4) (by simp)
  have f3:=hf (29,5) (by simp)
  simp only [cInt,cStr,cKy,cTr] at f0 f1 f2 f3
  have f1':HasV Tryz.prog 26 (.agg [a1,a2,a3]):=⟨n,[a1,a2,a3],by unfold mkV;rw [if_pos aggKy],fun _=>by rw [cKy];rfl,f1⟩
  have hrt:((a0 :: a1 :: a2 :: a3 :: a4 :: r).drop 5).take 11=r:=by
   show r.take 11=r
   exact List.take_of_length_le (by omega)
  rw [hrt] at f3
  obtain ⟨k,e0,h0⟩:=hasT_i64 (P:=Tryz.prog) Tryz.underlying3 f0
  obtain ⟨ky,e1,h1⟩:=hasV_key f1'
  obtain ⟨s,e2,h2⟩:=hasT_str (P:=Tryz.prog) Tryz.underlying9 f2
  obtain ⟨t,e3,h3⟩:=hasT_tr (n+1) n (by omega) r hr f3
  unfold kyV at e1
  simp only [List.drop_succ_cons,List.drop_zero,List.take_succ_cons,List.take_zero,List.cons.injEq,and_true,PV.agg.injEq] at e0 e1 e2
  obtain ⟨e11,e12,e13⟩:=e1
  rw [trV_agg] at e3
  injection e3 with e3
  subst e0 e11 e12 e13 e2 e3
  exact ⟨⟨k,ky,s,t⟩,rfl,h0,h1,h2,h3⟩
structure Rl where
 nm:List UInt8
 pr:Int
 on:List Tg
 ife:Tr
 dos:List Sp
def rlV (r:Rl):PV:=.agg ([.str r.nm,.int .i64 r.pr,.sl (r.on.map tgV)]++(trC r.ife++[.sl (r.dos.map spV)]))
def okRl (r:Rl):Prop:=r.nm.length<=maxLen∧inI r.pr∧r.on.length<=maxLen∧(∀ t ∈ r.on,okTg t)∧okTr r.ife∧r.dos.length<=maxLen∧∀ s ∈ r.dos,okSp s
theorem hasV_rl {p:PV} (h:HasV Tryz.prog 32 p):∃ r:Rl,p=rlV r∧okRl r:=by
 obtain ⟨n,cs,rfl,hlen,hf⟩:=hasV_struct uRL fRL h
 rw [cRL] at hlen
 match cs,hlen with
 | a0 :: a1 :: a2 :: r,hlen=>
  have hr:r.length=12:=by simpa using hlen
  have f0:=hf (9,0) (by simp)
  have f1:=hf (3,1) (by simp)
  have f2:=hf (22,2) (by simp)
  have f3:=hf (29,3) (by simp)
  have f4:=hf (30,14) (by simp)
  simp only [cInt,cStr,cTgs,cSps,cTr] at f0 f1 f2 f3 f4
  have hrt:((a0 :: a1 :: a2 :: r).drop 3).take 11=r.take 11:=rfl
  have hrd:((a0 :: a1 :: a2 :: r).drop 14).take 1=r.drop 11:=by
   show (r.drop 11).take 1=r.drop 11
   exact List.take_of_length_le (by rw [List.length_drop];omega)
  rw [hrt] at f3
  rw [hrd] at f4
  obtain ⟨s,e0,h0⟩:=hasT_str (P:=Tryz.prog) Tryz.underlying9 f0
  obtain ⟨k,e1,h1⟩:=hasT_i64 (P:=Tryz.prog) Tryz.underlying3 f1
  obtain ⟨xs,e2,h2,h2'⟩:=hasT_slice (P:=Tryz.prog) uTgs f2
  obtain ⟨on,rfl,hon⟩:=list_of (f:=tgV) (Q:=okTg) xs (fun x hx=>hasV_tg (h2' x hx))
  obtain ⟨t,e3,h3⟩:=hasT_tr (n+1) n (by omega) (r.take 11) (by rw [List.length_take];omega) f3
  obtain ⟨ys,e4,h4,h4'⟩:=hasT_slice (P:=Tryz.prog) uSps f4
  obtain ⟨dos,rfl,hdo⟩:=list_of (f:=spV) (Q:=okSp) ys (fun x hx=>hasV_sp (h4' x hx))
  simp only [List.drop_succ_cons,List.drop_zero,List.take_succ_cons,List.take_zero,List.cons.injEq,and_true] at e0 e1 e2
  rw [trV_agg] at e3
  injection e3 with e3
  have he:r=trC t++[.sl (dos.map spV)]:=by rw [<- e3,<- e4,List.take_append_drop]
  subst e0 e1 e2 he
  exact ⟨⟨s,k,on,t,dos⟩,rfl,h0,h1,by simpa using h2,hon,h3,by simpa using h4,hdo⟩
end Go.HH
namespace Go.HH
open Go Go.Proofs
set_option maxRecDepth 100000
set_option maxHeartbeats 4000000
set_option linter.unusedSimpArgs false
set_option linter.unusedVariables false
theorem ok_L30_plain:fnOK CC Tryz.f9 (Tryz.f9.body.getD .skip)=true:=by kernel_rfl
theorem fat_L30_plain:CC.P.funcs[9]?=some Tryz.f9:=by kernel_rfl
def plTg (t:Tg):Bool:=decide (t.nm.length<=100∧t.key.2.1.length<=100∧t.key.2.2.length<=100∧t.ev.2.1.length<=100∧t.ev.2.2.length<=100)
def plSp (s:Sp):Bool:=decide (s.nm.length<=100∧s.key.2.1.length<=100∧s.key.2.2.length<=100∧0<=mdT s.ex 220 30)
def plRl (r:Rl):Bool:=decide (r.nm.length<=100∧r.on.length<=12∧r.dos.length<=12∧0<=mdT r.ife 220 30) && r.on.all plTg && r.dos.all plSp
theorem TGf:zeroCells CC 58=some [.int .i64 0,.int .i64 0,.str [],.str [],.int .i64 0,.str [],.str [],.str [],.int .i64 0,.int .i64 0]:=by kernel_rfl
theorem SPf:zeroCells CC 60=some [.int .i64 0,.int .i64 0,.str [],.str [],.str [],.int .i64 0,.int .i64 0,.int .i64 0,.str [],.int .i64 0,.int .i64 0,.str [],.int .i64 0,.str [],.str [],.nils]:=by kernel_rfl
def PPl (j:Nat) (bx:List PBox) (v:Bool) (res:Option (Ex×St)):Prop:=∃ e' ex,(v=true∧res=some (.exit j,⟨e',bx++ex⟩)∧getT e' 1=.bp 0 0)∨(v=false∧res=some (.ret,⟨e',bx++ex⟩)∧getT e' 2=.bool false)
theorem PPl.app {j:Nat} {bx:List PBox} {x:PBox} {v:Bool} {res:Option (Ex×St)} (h:PPl j (bx++[x]) v res):PPl j bx v res:=by
 obtain ⟨e',ex,h⟩:=h
 refine ⟨e',[x]++ex,?_⟩
 rw [<- List.append_assoc]
 exact h
theorem loop_on (L:Code) (hL:L=fpart Tryz.f9 [1,1,0,1,0]) (l:List Tg) (hl:l.length<=12):∀ (k i:Nat) (e:List PV) (bx:List PBox),i+k=l.length ->
 getT e 1=.bp 0 0->getT e 30=.sl (l.map tgV)->getT e 31=.int .i64 l.length->getT e 32=.int .i64 i->PPl 0 bx ((l.drop i).all plTg) (evL CC L ⟨e,bx⟩):=by
 intro k
 induction k with
 | zero=>
  intro i e bx hi0 e1 es el ei
  rw [evL_at (fpart Tryz.f9 [1,1,0,1,0,0]) hL]
  have hi:¬ ((i:Int) < (l.length:Int)):=by omega
  rw [List.drop_eq_nil_of_le (by omega)]
  rw [List.all_nil]
  generalize l.map tgV=xs at *
  obtain ⟨ev,eo,so,co,⟨hev,hco⟩,R⟩:=RULES CC;rw [<- hev]
  simp only [fpart,part',Tryz.f9,Option.getD]
  simp only [S8,R,SG,seval,UT,SC,TGf,SPf,List.getElem?_concat_length,e1,es,el,ei,hi]
  exact ⟨_,[],.inl ⟨rfl,by rw [List.append_nil],by simp only [S7,R,seval,e1]⟩⟩
 | succ k ih=>
  intro i e bx hi0 e1 es el ei
  rw [evL_at (fpart Tryz.f9 [1,1,0,1,0,0]) hL]
  have hi:((i:Int) < (l.length:Int)):=by omega
  have hi0':¬ ((i:Int) < 0):=by omega
  have hdr:l.drop i=(l[i]'(by omega)) :: l.drop (i+1):=List.drop_eq_getElem_cons (by omega)
  have hx:(l.map tgV)[i]?=some (tgV (l[i]'(by omega))):=by rw [List.getElem?_map,List.getElem?_eq_getElem (by omega)];rfl
  have hw1:=wrap_i64 (n:=(i:Int)+1) ⟨by omega,by omega⟩
  have key:=fun e bx=>ih (i+1) e bx (by omega)
  have cast1:((i+1:Nat):Int)=(i:Int)+1:=by omega
  rw [cast1] at key
  rw [hdr,List.all_cons]
  generalize l[i]'(by omega)=x at *
  generalize (l.drop (i+1)).all plTg=v at *
  generalize l.map tgV=xs at *
  obtain ⟨xk,xkey,xev,xnm,xn,xm⟩:=x
  obtain ⟨xd,xcl,xat⟩:=xkey
  obtain ⟨yd,yc,yn⟩:=xev
  have l1:=len_str xnm
  have l2:=len_str xcl
  have l3:=len_str xat
  have l4:=len_str yc
  have l5:=len_str yn
  unfold tgV at hx
  simp only at hx
  by_cases c0:((xnm.length:Int) > 100)
  · rw [show plTg ⟨xk,(xd,xcl,xat),(yd,yc,yn),xnm,xn,xm⟩=false by unfold plTg;simp only [decide_eq_false_iff_not];intro h;have:=h.1;omega,Bool.false_and]
    obtain ⟨ev,eo,so,co,⟨hev,hco⟩,R⟩:=RULES CC;rw [<- hev]
    skip
    simp only [fpart,part',Tryz.f9,Option.getD]
    simp only [S8,R,SG,seval,UT,SC,TGf,SPf,List.getElem?_concat_length,e1,es,el,ei,hi,hi0',hx,l1,l2,l3,l4,l5,c0]
    exact ⟨_,_,.inr ⟨rfl,rfl,by simp only [S7,R,seval]⟩⟩
  by_cases c1:((xcl.length:Int) > 100)
  · rw [show plTg ⟨xk,(xd,xcl,xat),(yd,yc,yn),xnm,xn,xm⟩=false by unfold plTg;simp only [decide_eq_false_iff_not];intro h;have:=h.2.1;omega,Bool.false_and]
    obtain ⟨ev,eo,so,co,⟨hev,hco⟩,R⟩:=RULES CC;rw [<- hev]
    skip
    simp only [fpart,part',Tryz.f9,Option.getD]
    simp only [S8,R,SG,seval,UT,SC,TGf,SPf,List.getElem?_concat_length,e1,es,el,ei,hi,hi0',hx,l1,l2,l3,l4,l5,c0,c1]
    exact ⟨_,_,.inr ⟨rfl,rfl,by simp only [S7,R,seval]⟩⟩
  by_cases c2:((xat.length:Int) > 100)
  · rw [show plTg ⟨xk,(xd,xcl,xat),(yd,yc,yn),xnm,xn,xm⟩=false by unfold plTg;simp only [decide_eq_false_iff_not];intro h;have:=h.2.2.1;omega,Bool.false_and]
    obtain ⟨ev,eo,so,co,⟨hev,hco⟩,R⟩:=RULES CC;rw [<- hev]
    skip
    simp only [fpart,part',Tryz.f9,Option.getD]
    simp only [S8,R,SG,seval,UT,SC,TGf,SPf,List.getElem?_concat_length,e1,es,el,ei,hi,hi0',hx,l1,l2,l3,l4,l5,c0,c1,c2]
    exact ⟨_,_,.inr ⟨rfl,rfl,by simp only [S7,R,seval]⟩⟩
  by_cases c3:((yc.length:Int) > 100)
  · rw [show plTg ⟨xk,(xd,xcl,xat),(yd,yc,yn),xnm,xn,xm⟩=false by unfold plTg;simp only [decide_eq_false_iff_not];intro h;have:=h.2.2.2.1;omega,Bool.false_and]
    obtain ⟨ev,eo,so,co,⟨hev,hco⟩,R⟩:=RULES CC;rw [<- hev]
    skip
    simp only [fpart,part',Tryz.f9,Option.getD]
    simp only [S8,R,SG,seval,UT,SC,TGf,SPf,List.getElem?_concat_length,e1,es,el,ei,hi,hi0',hx,l1,l2,l3,l4,l5,c0,c1,c2,c3]
    exact ⟨_,_,.inr ⟨rfl,rfl,by simp only [S7,R,seval]⟩⟩
  by_cases c4:((yn.length:Int) > 100)
  · rw [show plTg ⟨xk,(xd,xcl,xat),(yd,yc,yn),xnm,xn,xm⟩=false by unfold plTg;simp only [decide_eq_false_iff_not];intro h;have:=h.2.2.2.2;omega,Bool.false_and]
    obtain ⟨ev,eo,so,co,⟨hev,hco⟩,R⟩:=RULES CC;rw [<- hev]
    skip
    simp only [fpart,part',Tryz.f9,Option.getD]
    simp only [S8,R,SG,seval,UT,SC,TGf,SPf,List.getElem?_concat_length,e1,es,el,ei,hi,hi0',hx,l1,l2,l3,l4,l5,c0,c1,c2,c3,c4]
    exact ⟨_,_,.inr ⟨rfl,rfl,by simp only [S7,R,seval]⟩⟩
  rw [show plTg ⟨xk,(xd,xcl,xat),(yd,yc,yn),xnm,xn,xm⟩=true by unfold plTg;simp only [decide_eq_true_eq];exact ⟨by omega,by omega,by omega,by omega,by omega⟩,Bool.true_and]
  apply PPl.app
  obtain ⟨ev,eo,so,co,⟨hev,hco⟩,R⟩:=RULES CC;rw [<- hev]
  rw [<- hev] at key
  skip
  simp only [fpart,part',Tryz.f9,Option.getD]
  simp only [S8,R,SG,seval,UT,SC,TGf,SPf,List.getElem?_concat_length,e1,es,el,ei,hi,hi0',hx,hw1,l1,l2,l3,l4,l5,c0,c1,c2,c3,c4]
  refine key _ _ ?_ ?_ ?_ ?_
  all_goals simp only [S7,R,seval,e1,es,el,ei]
theorem loop_do (L:Code) (hL:L=fpart Tryz.f9 [1,1,1,0,1,0]) (l:List Sp) (hl:l.length<=12):∀ (k i:Nat) (e:List PV) (bx:List PBox),i+k=l.length ->
 getT e 1=.bp 0 0->getT e 70=.sl (l.map spV)->getT e 71=.int .i64 l.length->getT e 72=.int .i64 i->PPl 2 bx ((l.drop i).all plSp) (evL CC L ⟨e,bx⟩):=by
 intro k
 induction k with
 | zero=>
  intro i e bx hi0 e1 es el ei
  rw [evL_at (fpart Tryz.f9 [1,1,1,0,1,0,0]) hL]
  have hi:¬ ((i:Int) < (l.length:Int)):=by omega
  rw [List.drop_eq_nil_of_le (by omega)]
  rw [List.all_nil]
  generalize l.map spV=xs at *
  obtain ⟨ev,eo,so,co,⟨hev,hco⟩,R⟩:=RULES CC;rw [<- hev]
  simp only [fpart,part',Tryz.f9,Option.getD]
  simp only [S8,R,SG,seval,UT,SC,TGf,SPf,List.getElem?_concat_length,e1,es,el,ei,hi]
  exact ⟨_,[],.inl ⟨rfl,by rw [List.append_nil],by simp only [S7,R,seval,e1]⟩⟩
 | succ k ih=>
  intro i e bx hi0 e1 es el ei
  rw [evL_at (fpart Tryz.f9 [1,1,1,0,1,0,0]) hL]
  have hi:((i:Int) < (l.length:Int)):=by omega
  have hi0':¬ ((i:Int) < 0):=by omega
  have hdr:l.drop i=(l[i]'(by omega)) :: l.drop (i+1):=List.drop_eq_getElem_cons (by omega)
  have hx:(l.map spV)[i]?=some (spV (l[i]'(by omega))):=by rw [List.getElem?_map,List.getElem?_eq_getElem (by omega)];rfl
  have hw1:=wrap_i64 (n:=(i:Int)+1) ⟨by omega,by omega⟩
  have key:=fun e bx=>ih (i+1) e bx (by omega)
  have cast1:((i+1:Nat):Int)=(i:Int)+1:=by omega
  rw [cast1] at key
  rw [hdr,List.all_cons]
  generalize l[i]'(by omega)=x at *
  generalize (l.drop (i+1)).all plSp=v at *
  generalize l.map spV=xs at *
  obtain ⟨xk,xkey,xnm,xt⟩:=x
  obtain ⟨xd,xcl,xat⟩:=xkey
  have l1:=len_str xnm
  have l2:=len_str xcl
  have l3:=len_str xat
  have hmd:=op_modest xt 220 30 (by decide) (by decide)
  obtain ⟨res,hres⟩:∃ res,res=mdT xt 220 30:=⟨_,rfl⟩
  rw [<- hres] at hmd
  have hxt:∃ k n m nm v key kids,xt=Tr.mk k n m nm v key kids:=by obtain ⟨k,n,m,nm,v,key,kids⟩:=xt;exact ⟨k,n,m,nm,v,key,kids,rfl⟩
  obtain ⟨zk,zn,zm,znm,zv,zkey,zkids,hxt⟩:=hxt
  unfold spV trC at hx
  simp only at hx
  rw [hxt] at hx hmd
  unfold trV at hx hmd
  simp only [SA,List.cons_append,List.nil_append] at hx hmd
  generalize trVs zkids=zs at *
  by_cases c0:((xnm.length:Int) > 100)
  · rw [show plSp ⟨xk,(xd,xcl,xat),xnm,xt⟩=false by unfold plSp;simp only [decide_eq_false_iff_not];intro h;have:=h.1;omega,Bool.false_and]
    obtain ⟨ev,eo,so,co,⟨hev,hco⟩,R⟩:=RULES CC;rw [<- hev]
    rw [<- hco] at hmd
    simp only [fpart,part',Tryz.f9,Option.getD]
    simp only [S8,R,SG,seval,UT,SC,TGf,SPf,List.getElem?_concat_length,e1,es,el,ei,hi,hi0',hx,l1,l2,l3,hmd,c0]
    exact ⟨_,_,.inr ⟨rfl,rfl,by simp only [S7,R,seval]⟩⟩
  by_cases c1:((xcl.length:Int) > 100)
  · rw [show plSp ⟨xk,(xd,xcl,xat),xnm,xt⟩=false by unfold plSp;simp only [decide_eq_false_iff_not];intro h;have:=h.2.1;omega,Bool.false_and]
    obtain ⟨ev,eo,so,co,⟨hev,hco⟩,R⟩:=RULES CC;rw [<- hev]
    rw [<- hco] at hmd
    simp only [fpart,part',Tryz.f9,Option.getD]
    simp only [S8,R,SG,seval,UT,SC,TGf,SPf,List.getElem?_concat_length,e1,es,el,ei,hi,hi0',hx,l1,l2,l3,hmd,c0,c1]
    exact ⟨_,_,.inr ⟨rfl,rfl,by simp only [S7,R,seval]⟩⟩
  by_cases c2:((xat.length:Int) > 100)
  · rw [show plSp ⟨xk,(xd,xcl,xat),xnm,xt⟩=false by unfold plSp;simp only [decide_eq_false_iff_not];intro h;have:=h.2.2.1;omega,Bool.false_and]
    obtain ⟨ev,eo,so,co,⟨hev,hco⟩,R⟩:=RULES CC;rw [<- hev]
    rw [<- hco] at hmd
    simp only [fpart,part',Tryz.f9,Option.getD]
    simp only [S8,R,SG,seval,UT,SC,TGf,SPf,List.getElem?_concat_length,e1,es,el,ei,hi,hi0',hx,l1,l2,l3,hmd,c0,c1,c2]
    exact ⟨_,_,.inr ⟨rfl,rfl,by simp only [S7,R,seval]⟩⟩
  by_cases c3:res < 0
  · rw [show plSp ⟨xk,(xd,xcl,xat),xnm,xt⟩=false by unfold plSp;simp only [decide_eq_false_iff_not];intro h;have:=h.2.2.2;omega,Bool.false_and]
    obtain ⟨ev,eo,so,co,⟨hev,hco⟩,R⟩:=RULES CC;rw [<- hev]
    rw [<- hco] at hmd
    simp only [fpart,part',Tryz.f9,Option.getD]
    simp only [S8,R,SG,seval,UT,SC,TGf,SPf,List.getElem?_concat_length,e1,es,el,ei,hi,hi0',hx,l1,l2,l3,hmd,c0,c1,c2,c3]
    exact ⟨_,_,.inr ⟨rfl,rfl,by simp only [S7,R,seval]⟩⟩
  rw [show plSp ⟨xk,(xd,xcl,xat),xnm,xt⟩=true by unfold plSp;simp only [decide_eq_true_eq];exact ⟨by omega,by omega,by omega,by omega⟩,Bool.true_and]
  apply PPl.app
  obtain ⟨ev,eo,so,co,⟨hev,hco⟩,R⟩:=RULES CC;rw [<- hev]
  rw [<- hev] at key
  rw [<- hco] at hmd
  simp only [fpart,part',Tryz.f9,Option.getD]
  simp only [S8,R,SG,seval,UT,SC,TGf,SPf,List.getElem?_concat_length,e1,es,el,ei,hi,hi0',hx,hw1,l1,l2,l3,hmd,c0,c1,c2,c3]
  refine key _ _ ?_ ?_ ?_ ?_
  all_goals simp only [S7,R,seval,e1,es,el,ei]
theorem call_plain (r:Rl):∃ bx,callL CC 9 [rlV r] []=some (.ret (.bool (plRl r)),bx):=by
 obtain ⟨nm,pr,on,ife,dos⟩:=r
 have l1:=len_str nm
 have lon:(on.map tgV).length=on.length:=List.length_map _
 have ldo:(dos.map spV).length=dos.length:=List.length_map _
 have hmd:=op_modest ife 220 30 (by decide) (by decide)
 obtain ⟨res,hres⟩:∃ res,res=mdT ife 220 30:=⟨_,rfl⟩
 rw [<- hres] at hmd
 unfold plRl rlV trC
 simp only
 rw [<- hres]
 obtain ⟨zk,zn,zm,znm,zv,zkey,zkids⟩:=ife
 unfold trV at hmd ⊢
 simp only [SA,List.cons_append,List.nil_append] at hmd ⊢
 generalize trVs zkids=zs at *
 by_cases c0:(nm.length:Int) > 100
 · rw [decide_eq_false (by omega),Bool.false_and,Bool.false_and]
   rw [callL_enter (fn:=Tryz.f9) (c:=Tryz.f9.body.getD .skip) rfl rfl fat_L30_plain rfl ok_L30_plain (Nat.le_of_ble_eq_true rfl)]
   generalize on.map tgV=xs at *
   generalize dos.map spV=ys at *
   obtain ⟨ev,eo,so,co,⟨hev,hco⟩,R⟩:=RULES CC;rw [<- hev]
   skip
   simp only [fpart,part',Tryz.f9,Option.getD]
   simp only [S8,R,SG,seval,UT,SC,TGf,SPf,List.getElem?_concat_length,l1,lon,ldo,hmd,c0]
   exact ⟨_,rfl⟩
 by_cases c1:(on.length:Int) > 12
 · rw [decide_eq_false (by omega),Bool.false_and,Bool.false_and]
   rw [callL_enter (fn:=Tryz.f9) (c:=Tryz.f9.body.getD .skip) rfl rfl fat_L30_plain rfl ok_L30_plain (Nat.le_of_ble_eq_true rfl)]
   generalize on.map tgV=xs at *
   generalize dos.map spV=ys at *
   obtain ⟨ev,eo,so,co,⟨hev,hco⟩,R⟩:=RULES CC;rw [<- hev]
   skip
   simp only [fpart,part',Tryz.f9,Option.getD]
   simp only [S8,R,SG,seval,UT,SC,TGf,SPf,List.getElem?_concat_length,l1,lon,ldo,hmd,c0,c1]
   exact ⟨_,rfl⟩
 by_cases c2:(dos.length:Int) > 12
 · rw [decide_eq_false (by omega),Bool.false_and,Bool.false_and]
   rw [callL_enter (fn:=Tryz.f9) (c:=Tryz.f9.body.getD .skip) rfl rfl fat_L30_plain rfl ok_L30_plain (Nat.le_of_ble_eq_true rfl)]
   generalize on.map tgV=xs at *
   generalize dos.map spV=ys at *
   obtain ⟨ev,eo,so,co,⟨hev,hco⟩,R⟩:=RULES CC;rw [<- hev]
   skip
   simp only [fpart,part',Tryz.f9,Option.getD]
   simp only [S8,R,SG,seval,UT,SC,TGf,SPf,List.getElem?_concat_length,l1,lon,ldo,hmd,c0,c1,c2]
   exact ⟨_,rfl⟩
 by_cases c3:res < 0
 · rw [decide_eq_false (by omega),Bool.false_and,Bool.false_and]
   rw [callL_enter (fn:=Tryz.f9) (c:=Tryz.f9.body.getD .skip) rfl rfl fat_L30_plain rfl ok_L30_plain (Nat.le_of_ble_eq_true rfl)]
   generalize on.map tgV=xs at *
   generalize dos.map spV=ys at *
   obtain ⟨ev,eo,so,co,⟨hev,hco⟩,R⟩:=RULES CC;rw [<- hev]
   rw [<- hco] at hmd
   simp only [fpart,part',Tryz.f9,Option.getD]
   simp only [S8,R,SG,seval,UT,SC,TGf,SPf,List.getElem?_concat_length,l1,lon,ldo,hmd,c0,c1,c2,c3]
   exact ⟨_,rfl⟩
 have hon:=fun e bx=>loop_on _ rfl on (by omega) on.length 0 e bx (by omega)
 have hdo:=fun e bx=>loop_do _ rfl dos (by omega) dos.length 0 e bx (by omega)
 rw [List.drop_zero] at hon hdo
 rw [decide_eq_true (by omega),Bool.true_and]
 generalize on.all plTg=v1 at *
 generalize dos.all plSp=v2 at *
 generalize on.map tgV=xs at *
 generalize dos.map spV=ys at *
 rw [callL_enter (fn:=Tryz.f9) (c:=Tryz.f9.body.getD .skip) rfl rfl fat_L30_plain rfl ok_L30_plain (Nat.le_of_ble_eq_true rfl)]
 obtain ⟨ev,eo,so,co,⟨hev,hco⟩,R⟩:=RULES CC;rw [<- hev]
 rw [<- hev] at hon hdo
 rw [<- hco] at hmd
 simp only [fpart,part',Tryz.f9,Option.getD] at hon hdo ⊢
 simp only [S8,R,SG,seval,UT,SC,TGf,SPf,List.getElem?_concat_length,l1,lon,ldo,hmd,c0,c1,c2,c3]
 generalize hE:ev (Code.loop _) _=z
 have hP:PPl 0 [.cells 32 [.str nm,.int .i64 pr,.sl xs,.int .i64 zk,.int .i64 zn,.int .i64 zm,.str znm,.int .i64 zv.1,.int .i64 zv.2.1,.str zv.2.2,.int .i64 zkey.1,.str zkey.2.1,.str zkey.2.2,.sl zs,.sl ys]] v1 z:=by
  rw [<- hE]
  refine hon _ _ ?_ ?_ ?_ ?_
  all_goals first | (simp only [S7,R,seval];done) | (simp only [S7,R,seval] <;> rfl)
 obtain ⟨e',ex,⟨hv,he,g1⟩ | ⟨hv,he,g2⟩⟩:=hP
 · subst he
   subst hv
   simp only [S8,R,SG,seval,UT,SC,TGf,SPf,List.getElem?_concat_length,g1,ldo]
   generalize hE2:ev (Code.loop _) _=z2
   have hP2:PPl 2 (.cells 32 [.str nm,.int .i64 pr,.sl xs,.int .i64 zk,.int .i64 zn,.int .i64 zm,.str znm,.int .i64 zv.1,.int .i64 zv.2.1,.str zv.2.2,.int .i64 zkey.1,.str zkey.2.1,.str zkey.2.2,.sl zs,.sl ys] :: ex) v2 z2:=by
    rw [<- hE2]
    refine hdo _ _ ?_ ?_ ?_ ?_
    all_goals first | (simp only [S7,R,seval,g1];done) | (simp only [S7,R,seval,g1] <;> rfl)
   obtain ⟨e2,ex2,⟨hv2,he2,g3⟩ | ⟨hv2,he2,g4⟩⟩:=hP2
   · subst he2
     subst hv2
     simp only [S8,R,seval]
     exact ⟨_,rfl⟩
   · subst he2
     subst hv2
     simp only [S8,R,seval,g4]
     exact ⟨_,rfl⟩
 · subst he
   subst hv
   simp only [S8,R,seval,g2]
   exact ⟨_,rfl⟩
end Go.HH
namespace Go.HH
open Go Go.Proofs
set_option maxRecDepth 100000
set_option maxHeartbeats 4000000
set_option linter.unusedSimpArgs false
set_option linter.unusedVariables false
theorem ok_print_device:fnOK CC Tryz.f113 (Tryz.f113.body.getD .skip)=true:=by kernel_rfl
theorem fat_print_device:CC.P.funcs[113]?=some Tryz.f113:=by kernel_rfl
theorem ok_print_named:fnOK CC Tryz.f58 (Tryz.f58.body.getD .skip)=true:=by kernel_rfl
theorem fat_print_named:CC.P.funcs[58]?=some Tryz.f58:=by kernel_rfl
theorem ok_R30_Address:fnOK CC Tryz.f64 (Tryz.f64.body.getD .skip)=true:=by kernel_rfl
theorem fat_R30_Address:CC.P.funcs[64]?=some Tryz.f64:=by kernel_rfl
theorem ok_R30_TriggerSpare:fnOK CC Tryz.f63 (Tryz.f63.body.getD .skip)=true:=by kernel_rfl
theorem fat_R30_TriggerSpare:CC.P.funcs[63]?=some Tryz.f63:=by kernel_rfl
theorem tgV_pure (t:Tg):(tgV t).pure=true:=by
 unfold tgV
 simp only [PV.pure,pureL,Bool.and_self]
theorem tgs_pure:∀ l:List Tg,pureL (l.map tgV)=true
 | []=>rfl
 | t :: r=>by rw [List.map_cons,pureL_cons,tgV_pure,tgs_pure r];rfl
theorem pureL_app (a b:List PV):pureL (a++b)=(pureL a && pureL b):=by
 induction a with
 | nil=>rfl
 | cons x r ih=>rw [List.cons_append,pureL_cons,pureL_cons,ih,Bool.and_assoc]
theorem trC_pure (t:Tr):pureL (trC t)=true:=by
 have h:=trV_pure t
 rw [trV_agg] at h
 unfold PV.pure at h
 exact h
theorem spV_pure (s:Sp):(spV s).pure=true:=by
 unfold spV PV.pure
 rw [pureL_app,trC_pure]
 rfl
theorem sps_pure:∀ l:List Sp,pureL (l.map spV)=true
 | []=>rfl
 | t :: r=>by rw [List.map_cons,pureL_cons,spV_pure,sps_pure r];rfl
theorem rlV_pure (r:Rl):(rlV r).pure=true:=by
 unfold rlV PV.pure
 rw [pureL_app,pureL_app,trC_pure]
 simp only [pureL_cons,pure_sl,pure_str,pure_int,pureL_nil,tgs_pure,sps_pure,Bool.and_self]
theorem op_plain (r:Rl) (bx):callOp CC (callL CC) 9 [rlV r] bx=some (.ret (.bool (plRl r)),bx):=by
 obtain ⟨b,h⟩:=call_plain r
 exact callOp_of rfl (by simp only [pureL_cons,rlV_pure,pureL_nil,Bool.and_self]) h rfl
def dvB (n:Int):Bool:=decide (1<=n∧n<=250)
theorem buildEv0:buildP CC 56 []=some (.agg [.int .i64 0,.str [],.str []]):=by kernel_rfl
theorem eqEP (a a':Int) (b b' c c':List UInt8):eqP CC 100 56 (.agg [.int .i64 a,.str b,.str c]) (.agg [.int .i64 a',.str b',.str c'])=some ((a == a') && (b == b') && (c == c')):=by
 have h:eqP CC 100 56 (.agg [.int .i64 a,.str b,.str c]) (.agg [.int .i64 a',.str b',.str c'])=and2 (a == a') (and2 (b == b') (and2 (c == c') (some true))):=by kernel_rfl
 rw [h]
 cases a == a' <;> cases b == b' <;> cases c == c' <;> rfl
theorem eqgE:CC.P.eqGuardType CC.P.depth 56=false:=by kernel_rfl
theorem call_print_device (n:Int):callL CC 113 [.int .i64 n] []=some (.ret (.bool (dvB n)),[]):=by
 rw [callL_enter (fn:=Tryz.f113) (c:=Tryz.f113.body.getD .skip) rfl rfl fat_print_device rfl ok_print_device (Nat.le_of_ble_eq_true rfl)]
 by_cases c1:n ≥ 1
 · by_cases c2:n<=250
   · rw [show dvB n=true by unfold dvB;simp only [decide_eq_true_eq];omega]
     obtain ⟨ev,eo,so,co,⟨hev,hco⟩,R⟩:=RULES CC;rw [<- hev]
     simp only [fpart,part',Tryz.f113,Option.getD]
     simp only [S8,R,SG,seval,UT,SC,eqgK,eqgE,buildKy0,buildEv0,c1,c2]
   · rw [show dvB n=false by unfold dvB;simp only [decide_eq_false_iff_not];omega]
     obtain ⟨ev,eo,so,co,⟨hev,hco⟩,R⟩:=RULES CC;rw [<- hev]
     simp only [fpart,part',Tryz.f113,Option.getD]
     simp only [S8,R,SG,seval,UT,SC,eqgK,eqgE,buildKy0,buildEv0,c1,c2]
 · rw [show dvB n=false by unfold dvB;simp only [decide_eq_false_iff_not];omega]
   obtain ⟨ev,eo,so,co,⟨hev,hco⟩,R⟩:=RULES CC;rw [<- hev]
   simp only [fpart,part',Tryz.f113,Option.getD]
   simp only [S8,R,SG,seval,UT,SC,eqgK,eqgE,buildKy0,buildEv0,c1]
theorem op_print_device (n:Int) (bx):callOp CC (callL CC) 113 [.int .i64 n] bx=some (.ret (.bool (dvB n)),bx):=callOp_of rfl (by simp only [SA,Bool.and_true]) (call_print_device n) rfl
theorem call_R30_Address (n:Int):callL CC 64 [.int .i64 n] []=some (.ret (.bool (dvB n)),[]):=by
 rw [callL_enter (fn:=Tryz.f64) (c:=Tryz.f64.body.getD .skip) rfl rfl fat_R30_Address rfl ok_R30_Address (Nat.le_of_ble_eq_true rfl)]
 by_cases c1:n ≥ 1
 · by_cases c2:n<=250
   · rw [show dvB n=true by unfold dvB;simp only [decide_eq_true_eq];omega]
     obtain ⟨ev,eo,so,co,⟨hev,hco⟩,R⟩:=RULES CC;rw [<- hev]
     simp only [fpart,part',Tryz.f64,Option.getD]
     simp only [S8,R,SG,seval,UT,SC,eqgK,eqgE,buildKy0,buildEv0,c1,c2]
   · rw [show dvB n=false by unfold dvB;simp only [decide_eq_false_iff_not];omega]
     obtain ⟨ev,eo,so,co,⟨hev,hco⟩,R⟩:=RULES CC;rw [<- hev]
     simp only [fpart,part',Tryz.f64,Option.getD]
     simp only [S8,R,SG,seval,UT,SC,eqgK,eqgE,buildKy0,buildEv0,c1,c2]
 · rw [show dvB n=false by unfold dvB;simp only [decide_eq_false_iff_not];omega]
   obtain ⟨ev,eo,so,co,⟨hev,hco⟩,R⟩:=RULES CC;rw [<- hev]
   simp only [fpart,part',Tryz.f64,Option.getD]
   simp only [S8,R,SG,seval,UT,SC,eqgK,eqgE,buildKy0,buildEv0,c1]
theorem op_R30_Address (n:Int) (bx):callOp CC (callL CC) 64 [.int .i64 n] bx=some (.ret (.bool (dvB n)),bx):=callOp_of rfl (by simp only [SA,Bool.and_true]) (call_R30_Address n) rfl
def nmE (n:Int) (a b:List UInt8):Int:=if dvB n=false then 2 else if valB a && valB b then 0 else 10
theorem call_print_named (n:Int) (a b:List UInt8) (ha:a.length<=1000) (hb:b.length<=1000):∃ bx,callL CC 58 [.int .i64 n,.str a,.str b] []=some (.ret (.int .i64 (nmE n a b)),bx):=by
 rw [callL_enter (fn:=Tryz.f58) (c:=Tryz.f58.body.getD .skip) rfl rfl fat_print_named rfl ok_print_named (Nat.le_of_ble_eq_true rfl)]
 have v1:=op_names_Valid a (by omega)
 have v2:=op_names_Valid b (by omega)
 unfold nmE
 by_cases d1:dvB n=false
 · rw [if_pos d1]
   obtain ⟨ev,eo,so,co,⟨hev,hco⟩,R⟩:=RULES CC;rw [<- hev];have o_print_device:=@op_print_device;rw [<- hco] at o_print_device
   rw [<- hco] at v1 v2
   simp only [fpart,part',Tryz.f58,Option.getD]
   simp only [S8,R,SG,seval,UT,SC,eqgK,eqgE,buildKy0,buildEv0,o_print_device,v1,v2,d1]
   exact ⟨_,rfl⟩
 have d1':dvB n=true:=by simpa using d1
 rw [if_neg d1]
 generalize valB a=p at *
 generalize valB b=q at *
 cases p with
 | false=>
  rw [if_neg (by simp)]
  obtain ⟨ev,eo,so,co,⟨hev,hco⟩,R⟩:=RULES CC;rw [<- hev];have o_print_device:=@op_print_device;rw [<- hco] at o_print_device
  rw [<- hco] at v1 v2
  simp only [fpart,part',Tryz.f58,Option.getD]
  simp only [S8,R,SG,seval,UT,SC,eqgK,eqgE,buildKy0,buildEv0,o_print_device,v1,v2,d1']
  exact ⟨_,rfl⟩
 | true=>
  cases q with
  | false=>
   rw [if_neg (by simp)]
   obtain ⟨ev,eo,so,co,⟨hev,hco⟩,R⟩:=RULES CC;rw [<- hev];have o_print_device:=@op_print_device;rw [<- hco] at o_print_device
   rw [<- hco] at v1 v2
   simp only [fpart,part',Tryz.f58,Option.getD]
   simp only [S8,R,SG,seval,UT,SC,eqgK,eqgE,buildKy0,buildEv0,o_print_device,v1,v2,d1']
   exact ⟨_,rfl⟩
  | true=>
   rw [if_pos (by simp)]
   obtain ⟨ev,eo,so,co,⟨hev,hco⟩,R⟩:=RULES CC;rw [<- hev];have o_print_device:=@op_print_device;rw [<- hco] at o_print_device
   rw [<- hco] at v1 v2
   simp only [fpart,part',Tryz.f58,Option.getD]
   simp only [S8,R,SG,seval,UT,SC,eqgK,eqgE,buildKy0,buildEv0,o_print_device,v1,v2,d1']
   exact ⟨_,rfl⟩
theorem op_print_named (n:Int) (a b:List UInt8) (ha:a.length<=1000) (hb:b.length<=1000) (bx):callOp CC (callL CC) 58 [.int .i64 n,.str a,.str b] bx=some (.ret (.int .i64 (nmE n a b)),bx):=by
 obtain ⟨c,h⟩:=call_print_named n a b ha hb
 exact callOp_of rfl (by simp only [SA,Bool.and_true]) h rfl
def tsB (k:Int) (b1 b2 b3 b4 b5:Bool):Bool:=(b1 && !(k == 1)) || (b2 && !(k == 2)) || (b3 && !(k == 4)) || (b4 && !(k == 3 || k == 6)) || (b5 && !(k == 3))
def tsT (t:Tg):Bool:=tsB t.k (!(eqKy t.key (0,[],[]))) (!(eqKy t.ev (0,[],[]))) (!(t.nm == [])) (t.n != 0) (t.m != 0)
theorem R30_TriggerSpare_1 (n m:Int) (nm:List UInt8) (d:Int) (c a:List UInt8) (d':Int) (c' a':List UInt8) (b1 b2 b3 b4 b5:Bool) (h1:eqP CC 100 26 (.agg [.int .i64 d,.str c,.str a]) (.agg [.int .i64 0,.str [],.str []])=some (!b1)) (h2:eqP CC 100 56 (.agg [.int .i64 d',.str c',.str a']) (.agg [.int .i64 0,.str [],.str []])=some (!b2))
 (h3:strP .neq nm []=some (.bool b3)) (h4:(n == 0)=!b4) (h5:(m == 0)=!b5) :
 ∃ bx,callL CC 63 [.agg [.int .i64 1,.int .i64 d,.str c,.str a,.int .i64 d',.str c',.str a',.str nm,.int .i64 n,.int .i64 m]] []=some (.ret (.bool (!(tsB 1 b1 b2 b3 b4 b5))),bx):=by
 rw [callL_enter (fn:=Tryz.f63) (c:=Tryz.f63.body.getD .skip) rfl rfl fat_R30_TriggerSpare rfl ok_R30_TriggerSpare (Nat.le_of_ble_eq_true rfl)]
 cases b2 with
 | true=>
  have hs:tsB 1 b1 true b3 b4 b5=true:=by simp [tsB]
  rw [hs]
  obtain ⟨ev,eo,so,co,⟨hev,hco⟩,R⟩:=RULES CC;rw [<- hev]
  simp only [fpart,part',Tryz.f63,Option.getD]
  simp only [S8,R,SG,seval,UT,SC,eqgK,eqgE,buildKy0,buildEv0,h1,h2,h3,h4,h5]
  exact ⟨_,rfl⟩
 | false=>
  cases b3 with
  | true=>
   have hs:tsB 1 b1 false true b4 b5=true:=by simp [tsB]
   rw [hs]
   obtain ⟨ev,eo,so,co,⟨hev,hco⟩,R⟩:=RULES CC;rw [<- hev]
   simp only [fpart,part',Tryz.f63,Option.getD]
   simp only [S8,R,SG,seval,UT,SC,eqgK,eqgE,buildKy0,buildEv0,h1,h2,h3,h4,h5]
   exact ⟨_,rfl⟩
  | false=>
   cases b4 with
   | true=>
    have hs:tsB 1 b1 false false true b5=true:=by simp [tsB]
    rw [hs]
    obtain ⟨ev,eo,so,co,⟨hev,hco⟩,R⟩:=RULES CC;rw [<- hev]
    simp only [fpart,part',Tryz.f63,Option.getD]
    simp only [S8,R,SG,seval,UT,SC,eqgK,eqgE,buildKy0,buildEv0,h1,h2,h3,h4,h5]
    exact ⟨_,rfl⟩
   | false=>
    cases b5 with
    | true=>
     have hs:tsB 1 b1 false false false true=true:=by simp [tsB]
     rw [hs]
     obtain ⟨ev,eo,so,co,⟨hev,hco⟩,R⟩:=RULES CC;rw [<- hev]
     simp only [fpart,part',Tryz.f63,Option.getD]
     simp only [S8,R,SG,seval,UT,SC,eqgK,eqgE,buildKy0,buildEv0,h1,h2,h3,h4,h5]
     exact ⟨_,rfl⟩
    | false=>
     have hs:tsB 1 b1 false false false false=false:=by simp [tsB]
     rw [hs]
     obtain ⟨ev,eo,so,co,⟨hev,hco⟩,R⟩:=RULES CC;rw [<- hev]
     simp only [fpart,part',Tryz.f63,Option.getD]
     simp only [S8,R,SG,seval,UT,SC,eqgK,eqgE,buildKy0,buildEv0,h1,h2,h3,h4,h5]
     exact ⟨_,rfl⟩
theorem R30_TriggerSpare_2 (n m:Int) (nm:List UInt8) (d:Int) (c a:List UInt8) (d':Int) (c' a':List UInt8) (b1 b2 b3 b4 b5:Bool) (h1:eqP CC 100 26 (.agg [.int .i64 d,.str c,.str a]) (.agg [.int .i64 0,.str [],.str []])=some (!b1)) (h2:eqP CC 100 56 (.agg [.int .i64 d',.str c',.str a']) (.agg [.int .i64 0,.str [],.str []])=some (!b2))
 (h3:strP .neq nm []=some (.bool b3)) (h4:(n == 0)=!b4) (h5:(m == 0)=!b5) :
 ∃ bx,callL CC 63 [.agg [.int .i64 2,.int .i64 d,.str c,.str a,.int .i64 d',.str c',.str a',.str nm,.int .i64 n,.int .i64 m]] []=some (.ret (.bool (!(tsB 2 b1 b2 b3 b4 b5))),bx):=by
 rw [callL_enter (fn:=Tryz.f63) (c:=Tryz.f63.body.getD .skip) rfl rfl fat_R30_TriggerSpare rfl ok_R30_TriggerSpare (Nat.le_of_ble_eq_true rfl)]
 cases b1 with
 | true=>
  have hs:tsB 2 true b2 b3 b4 b5=true:=by simp [tsB]
  rw [hs]
  obtain ⟨ev,eo,so,co,⟨hev,hco⟩,R⟩:=RULES CC;rw [<- hev]
  simp only [fpart,part',Tryz.f63,Option.getD]
  simp only [S8,R,SG,seval,UT,SC,eqgK,eqgE,buildKy0,buildEv0,h1,h2,h3,h4,h5]
  exact ⟨_,rfl⟩
 | false=>
  cases b3 with
  | true=>
   have hs:tsB 2 false b2 true b4 b5=true:=by simp [tsB]
   rw [hs]
   obtain ⟨ev,eo,so,co,⟨hev,hco⟩,R⟩:=RULES CC;rw [<- hev]
   simp only [fpart,part',Tryz.f63,Option.getD]
   simp only [S8,R,SG,seval,UT,SC,eqgK,eqgE,buildKy0,buildEv0,h1,h2,h3,h4,h5]
   exact ⟨_,rfl⟩
  | false=>
   cases b4 with
   | true=>
    have hs:tsB 2 false b2 false true b5=true:=by simp [tsB]
    rw [hs]
    obtain ⟨ev,eo,so,co,⟨hev,hco⟩,R⟩:=RULES CC;rw [<- hev]
    simp only [fpart,part',Tryz.f63,Option.getD]
    simp only [S8,R,SG,seval,UT,SC,eqgK,eqgE,buildKy0,buildEv0,h1,h2,h3,h4,h5]
    exact ⟨_,rfl⟩
   | false=>
    cases b5 with
    | true=>
     have hs:tsB 2 false b2 false false true=true:=by simp [tsB]
     rw [hs]
     obtain ⟨ev,eo,so,co,⟨hev,hco⟩,R⟩:=RULES CC;rw [<- hev]
     simp only [fpart,part',Tryz.f63,Option.getD]
     simp only [S8,R,SG,seval,UT,SC,eqgK,eqgE,buildKy0,buildEv0,h1,h2,h3,h4,h5]
     exact ⟨_,rfl⟩
    | false=>
     have hs:tsB 2 false b2 false false false=false:=by simp [tsB]
     rw [hs]
     obtain ⟨ev,eo,so,co,⟨hev,hco⟩,R⟩:=RULES CC;rw [<- hev]
     simp only [fpart,part',Tryz.f63,Option.getD]
     simp only [S8,R,SG,seval,UT,SC,eqgK,eqgE,buildKy0,buildEv0,h1,h2,h3,h4,h5]
     exact ⟨_,rfl⟩
theorem R30_TriggerSpare_3 (n m:Int) (nm:List UInt8) (d:Int) (c a:List UInt8) (d':Int) (c' a':List UInt8) (b1 b2 b3 b4 b5:Bool) (h1:eqP CC 100 26 (.agg [.int .i64 d,.str c,.str a]) (.agg [.int .i64 0,.str [],.str []])=some (!b1)) (h2:eqP CC 100 56 (.agg [.int .i64 d',.str c',.str a']) (.agg [.int .i64 0,.str [],.str []])=some (!b2))
 (h3:strP .neq nm []=some (.bool b3)) (h4:(n == 0)=!b4) (h5:(m == 0)=!b5) :
 ∃ bx,callL CC 63 [.agg [.int .i64 3,.int .i64 d,.str c,.str a,.int .i64 d',.str c',.str a',.str nm,.int .i64 n,.int .i64 m]] []=some (.ret (.bool (!(tsB 3 b1 b2 b3 b4 b5))),bx):=by
 rw [callL_enter (fn:=Tryz.f63) (c:=Tryz.f63.body.getD .skip) rfl rfl fat_R30_TriggerSpare rfl ok_R30_TriggerSpare (Nat.le_of_ble_eq_true rfl)]
 cases b1 with
 | true=>
  have hs:tsB 3 true b2 b3 b4 b5=true:=by simp [tsB]
  rw [hs]
  obtain ⟨ev,eo,so,co,⟨hev,hco⟩,R⟩:=RULES CC;rw [<- hev]
  simp only [fpart,part',Tryz.f63,Option.getD]
  simp only [S8,R,SG,seval,UT,SC,eqgK,eqgE,buildKy0,buildEv0,h1,h2,h3,h4,h5]
  exact ⟨_,rfl⟩
 | false=>
  cases b2 with
  | true=>
   have hs:tsB 3 false true b3 b4 b5=true:=by simp [tsB]
   rw [hs]
   obtain ⟨ev,eo,so,co,⟨hev,hco⟩,R⟩:=RULES CC;rw [<- hev]
   simp only [fpart,part',Tryz.f63,Option.getD]
   simp only [S8,R,SG,seval,UT,SC,eqgK,eqgE,buildKy0,buildEv0,h1,h2,h3,h4,h5]
   exact ⟨_,rfl⟩
  | false=>
   cases b3 with
   | true=>
    have hs:tsB 3 false false true b4 b5=true:=by simp [tsB]
    rw [hs]
    obtain ⟨ev,eo,so,co,⟨hev,hco⟩,R⟩:=RULES CC;rw [<- hev]
    simp only [fpart,part',Tryz.f63,Option.getD]
    simp only [S8,R,SG,seval,UT,SC,eqgK,eqgE,buildKy0,buildEv0,h1,h2,h3,h4,h5]
    exact ⟨_,rfl⟩
   | false=>
    have hs:tsB 3 false false false b4 b5=false:=by simp [tsB]
    rw [hs]
    obtain ⟨ev,eo,so,co,⟨hev,hco⟩,R⟩:=RULES CC;rw [<- hev]
    simp only [fpart,part',Tryz.f63,Option.getD]
    simp only [S8,R,SG,seval,UT,SC,eqgK,eqgE,buildKy0,buildEv0,h1,h2,h3,h4,h5]
    exact ⟨_,rfl⟩
theorem R30_TriggerSpare_4 (n m:Int) (nm:List UInt8) (d:Int) (c a:List UInt8) (d':Int) (c' a':List UInt8) (b1 b2 b3 b4 b5:Bool) (h1:eqP CC 100 26 (.agg [.int .i64 d,.str c,.str a]) (.agg [.int .i64 0,.str [],.str []])=some (!b1)) (h2:eqP CC 100 56 (.agg [.int .i64 d',.str c',.str a']) (.agg [.int .i64 0,.str [],.str []])=some (!b2))
 (h3:strP .neq nm []=some (.bool b3)) (h4:(n == 0)=!b4) (h5:(m == 0)=!b5) :
 ∃ bx,callL CC 63 [.agg [.int .i64 4,.int .i64 d,.str c,.str a,.int .i64 d',.str c',.str a',.str nm,.int .i64 n,.int .i64 m]] []=some (.ret (.bool (!(tsB 4 b1 b2 b3 b4 b5))),bx):=by
 rw [callL_enter (fn:=Tryz.f63) (c:=Tryz.f63.body.getD .skip) rfl rfl fat_R30_TriggerSpare rfl ok_R30_TriggerSpare (Nat.le_of_ble_eq_true rfl)]
 cases b1 with
 | true=>
  have hs:tsB 4 true b2 b3 b4 b5=true:=by simp [tsB]
  rw [hs]
  obtain ⟨ev,eo,so,co,⟨hev,hco⟩,R⟩:=RULES CC;rw [<- hev]
  simp only [fpart,part',Tryz.f63,Option.getD]
  simp only [S8,R,SG,seval,UT,SC,eqgK,eqgE,buildKy0,buildEv0,h1,h2,h3,h4,h5]
  exact ⟨_,rfl⟩
 | false=>
  cases b2 with
  | true=>
   have hs:tsB 4 false true b3 b4 b5=true:=by simp [tsB]
   rw [hs]
   obtain ⟨ev,eo,so,co,⟨hev,hco⟩,R⟩:=RULES CC;rw [<- hev]
   simp only [fpart,part',Tryz.f63,Option.getD]
   simp only [S8,R,SG,seval,UT,SC,eqgK,eqgE,buildKy0,buildEv0,h1,h2,h3,h4,h5]
   exact ⟨_,rfl⟩
  | false=>
   cases b4 with
   | true=>
    have hs:tsB 4 false false b3 true b5=true:=by simp [tsB]
    rw [hs]
    obtain ⟨ev,eo,so,co,⟨hev,hco⟩,R⟩:=RULES CC;rw [<- hev]
    simp only [fpart,part',Tryz.f63,Option.getD]
    simp only [S8,R,SG,seval,UT,SC,eqgK,eqgE,buildKy0,buildEv0,h1,h2,h3,h4,h5]
    exact ⟨_,rfl⟩
   | false=>
    cases b5 with
    | true=>
     have hs:tsB 4 false false b3 false true=true:=by simp [tsB]
     rw [hs]
     obtain ⟨ev,eo,so,co,⟨hev,hco⟩,R⟩:=RULES CC;rw [<- hev]
     simp only [fpart,part',Tryz.f63,Option.getD]
     simp only [S8,R,SG,seval,UT,SC,eqgK,eqgE,buildKy0,buildEv0,h1,h2,h3,h4,h5]
     exact ⟨_,rfl⟩
    | false=>
     have hs:tsB 4 false false b3 false false=false:=by simp [tsB]
     rw [hs]
     obtain ⟨ev,eo,so,co,⟨hev,hco⟩,R⟩:=RULES CC;rw [<- hev]
     simp only [fpart,part',Tryz.f63,Option.getD]
     simp only [S8,R,SG,seval,UT,SC,eqgK,eqgE,buildKy0,buildEv0,h1,h2,h3,h4,h5]
     exact ⟨_,rfl⟩
theorem R30_TriggerSpare_6 (n m:Int) (nm:List UInt8) (d:Int) (c a:List UInt8) (d':Int) (c' a':List UInt8) (b1 b2 b3 b4 b5:Bool) (h1:eqP CC 100 26 (.agg [.int .i64 d,.str c,.str a]) (.agg [.int .i64 0,.str [],.str []])=some (!b1)) (h2:eqP CC 100 56 (.agg [.int .i64 d',.str c',.str a']) (.agg [.int .i64 0,.str [],.str []])=some (!b2))
 (h3:strP .neq nm []=some (.bool b3)) (h4:(n == 0)=!b4) (h5:(m == 0)=!b5) :
 ∃ bx,callL CC 63 [.agg [.int .i64 6,.int .i64 d,.str c,.str a,.int .i64 d',.str c',.str a',.str nm,.int .i64 n,.int .i64 m]] []=some (.ret (.bool (!(tsB 6 b1 b2 b3 b4 b5))),bx):=by
 rw [callL_enter (fn:=Tryz.f63) (c:=Tryz.f63.body.getD .skip) rfl rfl fat_R30_TriggerSpare rfl ok_R30_TriggerSpare (Nat.le_of_ble_eq_true rfl)]
 cases b1 with
 | true=>
  have hs:tsB 6 true b2 b3 b4 b5=true:=by simp [tsB]
  rw [hs]
  obtain ⟨ev,eo,so,co,⟨hev,hco⟩,R⟩:=RULES CC;rw [<- hev]
  simp only [fpart,part',Tryz.f63,Option.getD]
  simp only [S8,R,SG,seval,UT,SC,eqgK,eqgE,buildKy0,buildEv0,h1,h2,h3,h4,h5]
  exact ⟨_,rfl⟩
 | false=>
  cases b2 with
  | true=>
   have hs:tsB 6 false true b3 b4 b5=true:=by simp [tsB]
   rw [hs]
   obtain ⟨ev,eo,so,co,⟨hev,hco⟩,R⟩:=RULES CC;rw [<- hev]
   simp only [fpart,part',Tryz.f63,Option.getD]
   simp only [S8,R,SG,seval,UT,SC,eqgK,eqgE,buildKy0,buildEv0,h1,h2,h3,h4,h5]
   exact ⟨_,rfl⟩
  | false=>
   cases b3 with
   | true=>
    have hs:tsB 6 false false true b4 b5=true:=by simp [tsB]
    rw [hs]
    obtain ⟨ev,eo,so,co,⟨hev,hco⟩,R⟩:=RULES CC;rw [<- hev]
    simp only [fpart,part',Tryz.f63,Option.getD]
    simp only [S8,R,SG,seval,UT,SC,eqgK,eqgE,buildKy0,buildEv0,h1,h2,h3,h4,h5]
    exact ⟨_,rfl⟩
   | false=>
    cases b5 with
    | true=>
     have hs:tsB 6 false false false b4 true=true:=by simp [tsB]
     rw [hs]
     obtain ⟨ev,eo,so,co,⟨hev,hco⟩,R⟩:=RULES CC;rw [<- hev]
     simp only [fpart,part',Tryz.f63,Option.getD]
     simp only [S8,R,SG,seval,UT,SC,eqgK,eqgE,buildKy0,buildEv0,h1,h2,h3,h4,h5]
     exact ⟨_,rfl⟩
    | false=>
     have hs:tsB 6 false false false b4 false=false:=by simp [tsB]
     rw [hs]
     obtain ⟨ev,eo,so,co,⟨hev,hco⟩,R⟩:=RULES CC;rw [<- hev]
     simp only [fpart,part',Tryz.f63,Option.getD]
     simp only [S8,R,SG,seval,UT,SC,eqgK,eqgE,buildKy0,buildEv0,h1,h2,h3,h4,h5]
     exact ⟨_,rfl⟩
theorem R30_TriggerSpare_0 (k:Int) (hk1:(k == 1)=false) (hn1:(k != 1)=true) (hk2:(k == 2)=false) (hn2:(k != 2)=true) (hk3:(k == 3)=false) (hn3:(k != 3)=true) (hk4:(k == 4)=false) (hn4:(k != 4)=true) (hk6:(k == 6)=false) (hn6:(k != 6)=true) (n m:Int) (nm:List UInt8) (d:Int) (c a:List UInt8) (d':Int) (c' a':List UInt8) (b1 b2 b3 b4 b5:Bool) (h1:eqP CC 100 26 (.agg [.int .i64 d,.str c,.str a]) (.agg [.int .i64 0,.str [],.str []])=some (!b1)) (h2:eqP CC 100 56 (.agg [.int .i64 d',.str c',.str a']) (.agg [.int .i64 0,.str [],.str []])=some (!b2))
 (h3:strP .neq nm []=some (.bool b3)) (h4:(n == 0)=!b4) (h5:(m == 0)=!b5) :
 ∃ bx,callL CC 63 [.agg [.int .i64 k,.int .i64 d,.str c,.str a,.int .i64 d',.str c',.str a',.str nm,.int .i64 n,.int .i64 m]] []=some (.ret (.bool (!(tsB k b1 b2 b3 b4 b5))),bx):=by
 rw [callL_enter (fn:=Tryz.f63) (c:=Tryz.f63.body.getD .skip) rfl rfl fat_R30_TriggerSpare rfl ok_R30_TriggerSpare (Nat.le_of_ble_eq_true rfl)]
 cases b1 with
 | true=>
  have hs:tsB k true b2 b3 b4 b5=true:=by unfold tsB;simp only [hk1,hk2,hk3,hk4,hk6];simp
  rw [hs]
  obtain ⟨ev,eo,so,co,⟨hev,hco⟩,R⟩:=RULES CC;rw [<- hev]
  simp only [fpart,part',Tryz.f63,Option.getD]
  simp only [S8,R,SG,seval,UT,SC,eqgK,eqgE,buildKy0,buildEv0,h1,h2,h3,h4,h5,hk1,hn1,hk2,hn2,hk3,hn3,hk4,hn4,hk6,hn6]
  exact ⟨_,rfl⟩
 | false=>
  cases b2 with
  | true=>
   have hs:tsB k false true b3 b4 b5=true:=by unfold tsB;simp only [hk1,hk2,hk3,hk4,hk6];simp
   rw [hs]
   obtain ⟨ev,eo,so,co,⟨hev,hco⟩,R⟩:=RULES CC;rw [<- hev]
   simp only [fpart,part',Tryz.f63,Option.getD]
   simp only [S8,R,SG,seval,UT,SC,eqgK,eqgE,buildKy0,buildEv0,h1,h2,h3,h4,h5,hk1,hn1,hk2,hn2,hk3,hn3,hk4,hn4,hk6,hn6]
   exact ⟨_,rfl⟩
  | false=>
   cases b3 with
   | true=>
    have hs:tsB k false false true b4 b5=true:=by unfold tsB;simp only [hk1,hk2,hk3,hk4,hk6];simp
    rw [hs]
    obtain ⟨ev,eo,so,co,⟨hev,hco⟩,R⟩:=RULES CC;rw [<- hev]
    simp only [fpart,part',Tryz.f63,Option.getD]
    simp only [S8,R,SG,seval,UT,SC,eqgK,eqgE,buildKy0,buildEv0,h1,h2,h3,h4,h5,hk1,hn1,hk2,hn2,hk3,hn3,hk4,hn4,hk6,hn6]
    exact ⟨_,rfl⟩
   | false=>
    cases b4 with
    | true=>
     have hs:tsB k false false false true b5=true:=by unfold tsB;simp only [hk1,hk2,hk3,hk4,hk6];simp
     rw [hs]
     obtain ⟨ev,eo,so,co,⟨hev,hco⟩,R⟩:=RULES CC;rw [<- hev]
     simp only [fpart,part',Tryz.f63,Option.getD]
     simp only [S8,R,SG,seval,UT,SC,eqgK,eqgE,buildKy0,buildEv0,h1,h2,h3,h4,h5,hk1,hn1,hk2,hn2,hk3,hn3,hk4,hn4,hk6,hn6]
     exact ⟨_,rfl⟩
    | false=>
     cases b5 with
     | true=>
      have hs:tsB k false false false false true=true:=by unfold tsB;simp only [hk1,hk2,hk3,hk4,hk6];simp
      rw [hs]
      obtain ⟨ev,eo,so,co,⟨hev,hco⟩,R⟩:=RULES CC;rw [<- hev]
      simp only [fpart,part',Tryz.f63,Option.getD]
      simp only [S8,R,SG,seval,UT,SC,eqgK,eqgE,buildKy0,buildEv0,h1,h2,h3,h4,h5,hk1,hn1,hk2,hn2,hk3,hn3,hk4,hn4,hk6,hn6]
      exact ⟨_,rfl⟩
     | false=>
      have hs:tsB k false false false false false=false:=by unfold tsB;simp only [hk1,hk2,hk3,hk4,hk6];simp
      rw [hs]
      obtain ⟨ev,eo,so,co,⟨hev,hco⟩,R⟩:=RULES CC;rw [<- hev]
      simp only [fpart,part',Tryz.f63,Option.getD]
      simp only [S8,R,SG,seval,UT,SC,eqgK,eqgE,buildKy0,buildEv0,h1,h2,h3,h4,h5,hk1,hn1,hk2,hn2,hk3,hn3,hk4,hn4,hk6,hn6]
      exact ⟨_,rfl⟩
theorem call_R30_TriggerSpare (t:Tg):∃ bx,callL CC 63 [tgV t] []=some (.ret (.bool (!(tsT t))),bx):=by
 obtain ⟨k,key,ev,nm,n,m⟩:=t
 obtain ⟨d,c,a⟩:=key
 obtain ⟨d',c',a'⟩:=ev
 unfold tgV tsT
 simp only
 have h1:eqP CC 100 26 (.agg [.int .i64 d,.str c,.str a]) (.agg [.int .i64 0,.str [],.str []])=some (!(!(eqKy (d,c,a) (0,[],[])))):=by rw [eqKP,Bool.not_not];rfl
 have h2:eqP CC 100 56 (.agg [.int .i64 d',.str c',.str a']) (.agg [.int .i64 0,.str [],.str []])=some (!(!(eqKy (d',c',a') (0,[],[])))):=by rw [eqEP,Bool.not_not];rfl
 have h3:strP .neq nm []=some (.bool (!(nm == []))):=rfl
 have h4:(n == 0)=!(n != 0):=by simp [bne]
 have h5:(m == 0)=!(m != 0):=by simp [bne]
 by_cases c1:k=1
 · subst c1
   exact R30_TriggerSpare_1 n m nm d c a d' c' a' _ _ _ _ _ h1 h2 h3 h4 h5
 by_cases c2:k=2
 · subst c2
   exact R30_TriggerSpare_2 n m nm d c a d' c' a' _ _ _ _ _ h1 h2 h3 h4 h5
 by_cases c3:k=3
 · subst c3
   exact R30_TriggerSpare_3 n m nm d c a d' c' a' _ _ _ _ _ h1 h2 h3 h4 h5
 by_cases c4:k=4
 · subst c4
   exact R30_TriggerSpare_4 n m nm d c a d' c' a' _ _ _ _ _ h1 h2 h3 h4 h5
 by_cases c6:k=6
 · subst c6
   exact R30_TriggerSpare_6 n m nm d c a d' c' a' _ _ _ _ _ h1 h2 h3 h4 h5
 exact R30_TriggerSpare_0 k (by simpa using c1) (by simpa using c1) (by simpa using c2) (by simpa using c2) (by simpa using c3) (by simpa using c3) (by simpa using c4) (by simpa using c4) (by simpa using c6) (by simpa using c6) n m nm d c a d' c' a' _ _ _ _ _ h1 h2 h3 h4 h5
theorem op_R30_TriggerSpare (t:Tg) (bx):callOp CC (callL CC) 63 [tgV t] bx=some (.ret (.bool (!(tsT t))),bx):=by
 obtain ⟨b,h⟩:=call_R30_TriggerSpare t
 exact callOp_of rfl (by simp only [pureL_cons,tgV_pure,pureL_nil,Bool.and_self]) h rfl
end Go.HH
