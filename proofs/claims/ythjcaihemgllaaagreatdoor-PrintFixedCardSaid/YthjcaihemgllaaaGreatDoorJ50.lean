/-
  What the law needs, packed: SK LM P1 P2 LN SN SO SP SQ.
-/
import Derived.Test.YthjcaihemgllaaaGreatDoorJ49
open List renaming getElem?_append_right->Aa0,set_cons_zero->Aa2,set_cons_succ->Aa3,nil_append->Aa5,length_append->Aaa,length_cons->Aad,cons_append->Aae,length_map->Aaf,all_eq_true->Aam,getElem?_append_left->Aan,getD_cons_zero->Aap,getElem?_map->Aaq,flatMap_cons->Aar,append_assoc->Aas,getElem_mem->Aat,foldlM_cons->Aau,length_nil->Aav,foldlM_nil->Aaw,append_nil->Aax
open Nat renaming le_of_ble_eq_true->Aa1,sub_self->Aak,add_zero->Aaz,le_refl->Ab0
open Option renaming getD->Aa4
open Bool renaming and_true->Aa6,not_not->Aa7,and_eq_true->Aa8,and_self->Aa9,false_eq_true->Aag
open Go.Proofs.Tryz renaming f54->Aab,f25->Aac,f28->Aah,f27->Aai,f10->Aaj,f26->Aao,f55->Aay
open Go.Lib renaming itoa->Aal
namespace Go.HH
open Go Go.Proofs
set_option maxRecDepth 100000
set_option maxHeartbeats 4000000
set_option linter.unusedSimpArgs false
set_option linter.unusedVariables false
theorem oZ {α:Type} {w:List UInt8} {ks:List (List KT×α)} {q:List KT}:ks≠[]->Js (Ib w ks++q)=(1,w):=fun h=>by
 cases ks with
 | nil=>exact absurd rfl h
 | cons x r=>rfl
def yD (L:List Tk) (n i:Nat):PR Tr:=if Br L 1 [105,102] i then (D0 L n (i+1)).bind fun e i=>(Bs L 4 [59] i).bind fun _ i=>.ok e i else .ok wT i
theorem xB {r:Rl} (h:Vo r=0):∃ ts,(∀ rest B,Lx rest B->Lx (Vr r++rest) (ts++B))/\(∃ q,ts=(1,[114,117,108,101]) :: q)/\∀ (L:List Tk),TokOK L->∀ (rs:List Rl) (i:Nat) (q:List KT),rs.length < 40->(rs.any fun x=>x.nm == r.nm)=false->Dq L i (ts++q) ->
 JF L (ZA L) rs i=.ok r (i+ts.length):=by
 obtain ⟨hv,p0,p1,By,pQ,Zu⟩:=OK h
 have hl:(1<=r.on.length/\r.on.length<=8)/\1<=r.dos.length/\r.dos.length<=8:=by
  unfold Vo at h;rw [hv,if_neg (by decide),if_neg (by omega)] at h;by_cases c:r.on.length < 1\/8 < r.on.length\/r.dos.length < 1\/8 < r.dos.length
  · rw [if_pos c] at h;cases h
  · omega
 clear h;obtain ⟨nm,pr,on,ife,dos⟩:=r;simp only at hv p0 p1 By pQ Zu hl;obtain ⟨⟨l1,l2⟩,l3,l4⟩:=hl;obtain ⟨e2,e3⟩:=Ju p0;obtain ⟨k1,o1,o2⟩:=W8 (l:=on) (S:=Ta) (P:=fun ts t=>∀ (L:List Tk) (i:Nat) (r:List KT),Dq L i (ts++(4,[59]) :: r)->BI L i=.ok t (i+ts.length)) (fun t ht=>xy (By t ht));obtain ⟨k2,d1,d2⟩:=W8 (l:=dos) (S:=Vq) (P:=zU) (fun s hs=>xA (Zu s hs));have ln1:k1.length=on.length:=by rw [<- o1,Aaf]
 have ln2:k2.length=dos.length:=by rw [<- d1,Aaf]
 have hI:∃ ti,(∀ rest B,Lx rest B->Lx ((if Sv ife=true then [] else kJ ife)++rest) (ti++B))/\(ti=[]\/∃ q,ti=(1,[105,102]) :: q)/\∀ (L:List Tk),TokOK L->∀ (i:Nat) (q:List KT),(∃ y,Js q=(1,y)/\y≠[105,102])->Dq L i (ti++q)->yD L (ZA L) i=.ok ife (i+ti.length):=by
  by_cases c:Sv ife=true
  · rw [if_pos c]
    refine ⟨[],fun rest B h=>h,.inl rfl,fun L hT i q ⟨y,hy1,hy2⟩ hq=>?_⟩;have hq:Dq L i q:=hq
    have hn:Br L 1 [105,102] i=false:=by
     rw [Ga hq,hy1];simpa using hy2
    unfold yD;rw [hn,if_neg (by decide),tD c];rfl
  · rw [if_neg c]
    obtain ⟨ts,x1,x2⟩:=lL pQ;refine ⟨(1,[105,102]) :: (ts++[(4,[59])]),fun rest B h=>?_,.inr ⟨_,rfl⟩,fun L hT i q _ hq=>?_⟩
    · have e:(((1,[105,102]) :: (ts++[(4,[59])]))++B:List KT)=(1,[105,102]) :: (ts++(4,[59]) :: B):=by simp
      rw [e];exact dO (w:=[105,102]) (by decide) x1 h
    · have h0:Dq L i ((1,[105,102]) :: (ts++((4,[59]) :: q))):=by simpa using hq
      have h1:=A7 h0;unfold yD;rw [CT h0,if_pos rfl,x2 L hT _ _ h1 (by decide:Ly (4,[59]) < 1),A1,CF (BN h1),A1];exact GG (by simp only [Aad,Aaa,Aav];omega)
 obtain ⟨ti,i1,i2,i3⟩:=hI;refine ⟨(1,[114,117,108,101]) :: (1,nm) :: (1,[112,114,105,111,114,105,116,121]) :: (2,Aal pr) :: (4,[123]) :: (Ib [111,110] k1++(ti++(Ib [100,111] k2++[(4,[125])]))),fun rest B hB=>?_,⟨_,rfl⟩,fun L hT rs i q VH ca hq=>?_⟩
 · have t0:Lx ([125,10]++rest) ((4,[125]) :: B):=Ee (FQ (c:=125) (by decide)) (Ee (dH (c:=10) rfl) hB)
   have t1:=bG (w:=[100,111]) (S:=Vq) (by decide) t0 k2 (fun y hy=>(d2 y hy).1);have t2:=i1 _ _ t1;have t3:=bG (w:=[111,110]) (S:=Ta) (by decide) t2 k1 (fun y hy=>(o2 y hy).1);rw [o1] at t3;rw [d1] at t3;have t4:=B9 (w:=[114,117,108,101]) (by decide) (B9 (FC hv) (B9 (w:=[112,114,105,111,114,105,116,121]) (by decide) (Da (Jr e2) (IM (Ee (FQ (c:=123) (by decide)) (Ee (dH (c:=10) rfl) t3))) rfl)))
   have e:Vr ⟨nm,pr,on,ife,dos⟩++rest=[114,117,108,101]++32 :: (nm++32 :: ([112,114,105,111,114,105,116,121]++32 :: (Aal pr++(32 :: ([123]++([10]++((on.flatMap fun x=>cat (cat (32 :: 32 :: ([111,110]++[32])) (Ta x)) [59,10])++((if Sv ife=true then [] else kJ ife)++((dos.flatMap fun x=>cat (cat (32 :: 32 :: ([100,111]++[32])) (Vq x)) [59,10])++([125,10]++rest)))))))))):=by
    show (cat (cat (cat (cat [114,117,108,101,32] nm) [32,112,114,105,111,114,105,116,121,32]) (Aal pr)) [32,123,10]++on.flatMap kI++(if Sv ife=true then [] else kJ ife)++dos.flatMap kK++[125,10])++rest=_;have f1:on.flatMap kI=on.flatMap fun x=>cat (cat (32 :: 32 :: ([111,110]++[32])) (Ta x)) [59,10]:=rfl;have f2:dos.flatMap kK=dos.flatMap fun x=>cat (cat (32 :: 32 :: ([100,111]++[32])) (Vq x)) [59,10]:=rfl;rw [f1,f2];generalize (on.flatMap fun x=>cat (cat (32 :: 32 :: ([111,110]++[32])) (Ta x)) [59,10])=F1;generalize (dos.flatMap fun x=>cat (cat (32 :: 32 :: ([100,111]++[32])) (Vq x)) [59,10])=F2;generalize (if Sv ife=true then [] else kJ ife)=F3;unfold cat;simp
   rw [e];have e':((1,[114,117,108,101]) :: (1,nm) :: (1,[112,114,105,111,114,105,116,121]) :: (2,Aal pr) :: (4,[123]) :: (Ib [111,110] k1++(ti++(Ib [100,111] k2++[(4,[125])])))++B:List KT)=(1,[114,117,108,101]) :: (1,nm) :: (1,[112,114,105,111,114,105,116,121]) :: ([(2,Aal pr)]++([(4,[123])]++([]++(Ib [111,110] k1++(ti++(Ib [100,111] k2++((4,[125]) :: B))))))):=by simp
   rw [e'];exact t4
 · have h0:Dq L i ((1,[114,117,108,101]) :: (1,nm) :: (1,[112,114,105,111,114,105,116,121]) :: (2,Aal pr) :: (4,[123]) :: (Ib [111,110] k1++(ti++(Ib [100,111] k2++((4,[125]) :: q))))):=by simpa using hq
   have h1:=A7 h0;have h2:=A7 h1;have h3:=A7 h2;have h4:=A7 h3;have h5:=A7 h4;have n1:k1≠[]:=fun e=>by rw [e] at ln1;simp at ln1;omega
   have n2:k2≠[]:=fun e=>by rw [e] at ln2;simp at ln2;omega
   have hQ:Js (Ib [100,111] k2++(4,[125]) :: q)=(1,[100,111]):=oZ n2
   have hd1:Js (ti++(Ib [100,111] k2++(4,[125]) :: q))≠(1,[111,110]):=by
    rcases i2 with rfl | ⟨x,rfl⟩
    · rw [Aa5,hQ];decide
    · exact (by decide:((1,[105,102]):KT)≠(1,[111,110]))
   have s1:=bF (w:=[111,110]) (part:=BI L) k1 [] 10 _ _ (fun x hx=>(o2 x hx).2 L) (by simp;omega) (fun _=>n1) (by omega) h5 hd1;have h6:=BN h5;have s2:=i3 L hT _ _ ⟨[100,111],hQ,by decide⟩ h6;have h7:=BN h6;have s3:=bF (w:=[100,111]) (part:=DV L (ZA L)) k2 [] 10 _ _ (fun x hx i r h=>(d2 x hx).2 L hT i r h) (by simp;omega) (fun _=>n2) (by omega) h7 (by decide:((4,[125]):KT)≠(1,[100,111]));have h8:=BN h7;rw [o1,Aa5] at s1;rw [d1,Aa5] at s3;unfold yD at s2;unfold JF;rw [if_neg (by omega),CF h0,A1,GM h1 hv,A1];rw [if_neg (by rw [ca];decide),CT h2,if_pos rfl,OQ h3 (Nat.zero_le _) (by omega),A1,CF h4,A1,s1,A1,s2,A1,s3,A1,CF h8,A1,e3];exact GG (by simp only [Aad,Aaa,Aav];omega)
def tE:List Rl->List Rl->Prop
 | _,[]=>True
 | pre,r :: l=>Vo r=0/\(pre.any fun x=>x.nm == r.nm)=false/\tE (pre++[r]) l
theorem W9:∀ (l pre:List Rl) (acc:List UInt8),(Vw pre l acc).1=0->(Vw pre l acc).2=acc++l.flatMap Vr/\tE pre l
 | [],pre,acc,h=>by
  refine ⟨?_,trivial⟩;show acc=acc++[];rw [Aax]
 | r :: l,pre,acc,h=>by
  unfold Vw at h |-;by_cases c:Vo r=0
  · rw [if_pos c] at h |-
    cases d:W2 pre r.nm with
    | true=>rw [d,if_pos rfl] at h;cases h
    | false=>
     rw [d,if_neg (by decide)] at h;rw [if_neg (by decide)];obtain ⟨h1,h2⟩:=W9 l (pre++[r]) _ h;exact ⟨by rw [h1,Aar,Aas],c,d,h2⟩
  · rw [if_neg c] at h
    exact absurd h c
theorem qV:∀ (l pre:List Rl),tE pre l->pre.length+l.length<=40->∃ ts,Lx (l.flatMap Vr) ts/\∀ (L:List Tk),TokOK L->∀ (m i:Nat),l.length < m->Dq L i (ts++[(0,[])])->∃ j,Ed L (ZA L) m pre i=.ok (pre++l) j
 | [],pre,_,_=>⟨[],ll.lx,fun L hT m i hm By=>by
  obtain ⟨m,rfl⟩:∃ x,m=x+1:=⟨m - 1,by simp at hm;omega⟩;have hk:(tokAt L i).1=0:=EP By;refine ⟨i,?_⟩;unfold Ed;rw [if_pos hk,Aax]⟩
 | r :: l,pre,h,hl=>by
  obtain ⟨h1,h2,h3⟩:=h;rw [Aad] at hl;obtain ⟨tr,r1,⟨x,rfl⟩,r2⟩:=xB h1;obtain ⟨ts,t1,t2⟩:=qV l (pre++[r]) h3 (by rw [Aaa,List.length_singleton];omega);refine ⟨((1,[114,117,108,101]) :: x)++ts,by rw [Aar];exact r1 _ _ t1,fun L hT m i hm By=>?_⟩;rw [Aad] at hm;obtain ⟨m,rfl⟩:∃ x,m=x+1:=⟨m - 1,by omega⟩;have h0:Dq L i (((1,[114,117,108,101]) :: x)++(ts++[(0,[])])):=by simpa using By
  have hk:(tokAt L i).1=1:=EP h0;obtain ⟨j,hj⟩:=t2 L hT m _ (by omega) (BN h0);refine ⟨j,?_⟩;unfold Ed;rw [if_neg (by omega),r2 L hT pre i _ (by omega) h2 h0,A1,hj,Aas];rfl
theorem gG {l:List Rl} (h:(Qk l).1=0):DK (Qk l).2=(l,0,0)/\(Qk l).2.length<=20000:=by
 have hl:l.length<=40:=by
  unfold Qk at h;by_cases c:40 < l.length
  · rw [if_pos c] at h;cases h
  · omega
 have hg:(Vw [] l []).1=0:=by
  unfold Qk at h;rw [if_neg (by omega)] at h;by_cases c:(Vw [] l []).1=0
  · exact c
  · rw [if_neg c] at h;exact absurd h c
 have ht:(BD (Vw [] l []).2).2.2=0:=by
  unfold Qk at h;rw [if_neg (by omega),if_pos hg] at h;by_cases c:(BD (Vw [] l []).2).2.2=0
  · exact c
  · rw [if_neg c] at h;cases h
 have he:(Qk l).2=l.flatMap Vr:=by
  unfold Qk;rw [if_neg (by omega),if_pos hg,if_pos ht];exact (W9 l [] [] hg).1
 have ht:(BD (l.flatMap Vr)).2.2=0:=by
  have:=(W9 l [] [] hg).1;rw [this] at ht;exact ht
 rw [he];obtain ⟨ts,x1,x2⟩:=qV l [] (W9 l [] [] hg).2 (by simpa using hl);obtain ⟨us,e1,e2,hlen⟩:=oN x1 ht;refine ⟨?_,hlen⟩;have hT:=Mh _ hlen ht
 have By:Dq (BD (l.flatMap Vr)).1 0 (ts++[(0,[])]):=by
  rw [e2];unfold Dq;rw [List.drop_zero,List.map_append,e1];rfl
 obtain ⟨j,hj⟩:=x2 _ hT 42 0 (by omega) By;unfold DK;rw [if_pos ht,hj];rfl
def ZD (n:Int):Tr:=.mk 1 0 0 [] (2,n,[]) (0,[],[]) []
def lM (n:Int):Tr:=.mk 1 0 0 [] (1,n,[]) (0,[],[]) []
def lN:Tr:=.mk 2 0 0 [] (0,0,[]) (3,[108,101,118,101,108],[108,101,118,101,108]) []
def Y' (k:Int) (kids:List Tr):Tr:=.mk k 0 0 [] (0,0,[]) (0,[],[]) kids
def tF:Rl:=⟨[97],0,[⟨5,(0,[],[]),(0,[],[]),[],0,0⟩],lM 1,[⟨4,(0,[],[]),[97,119,97,121],.mk 0 0 0 [] (0,0,[]) (0,[],[]) []⟩]⟩
noncomputable def Pl (f:FuncId) (a:PV) (s:List UInt8) (e:Int):Bool:=match Ff CC 130 f [a] [] with
 | some (.ret (.tup [.str t,.int .i64 x]),_)=>t == s && x == e
 | _=>false
theorem IN {f:FuncId} {a:PV} {s:List UInt8} {e:Int} (hp:a.pure=true) (h:Pl f a s e=true) (bx) (hh:CC.heap f=false:=by rfl):Ai CC (Ad CC) f [a] bx=some (.ret (.tup [.str s,.int .i64 e]),bx):=by
 unfold Pl at h;split at h
 · rename_i t x b hs
   rw [Aa8] at h;have e1:t=s:=by simpa using h.1
   have e2:x=e:=by simpa using h.2
   subst e1 e2;exact Aq hh (by simp only [Al,hp,Aa6]) (ES.2 ⟨130,hs⟩) rfl
 · cases h
def tG:List UInt8:=[53,32,60,61,32,51,46,108,101,118,101,108,46,108,101,118,101,108]
theorem ex1:Pl 14 (BE (Y' 6 [Y' 10 [lN,ZD 5]])) tG 0=true:=by kernel_rfl
def tH:List UInt8:=[40,49,32,43,32,50,41,32,42,32,45,51,46,108,101,118,101,108,46,108,101,118,101,108]
theorem lO:Pl 14 (BE (Y' 13 [Y' 11 [ZD 1,ZD 2],Y' 12 [ZD 0,lN]])) tH 0=true:=by kernel_rfl
def tI:List UInt8:=[40,116,114,117,101,32,111,114,32,102,97,108,115,101,41,32,97,110,100,32,116,114,117,101]
theorem ex3:Pl 14 (BE (Y' 7 [Y' 8 [lM 1,lM 0],lM 1])) tI 0=true:=by kernel_rfl
def tJ:List UInt8:=[48,32,45,32,45,53]
theorem ex4:Pl 14 (BE (Y' 12 [ZD 0,ZD (-5)])) tJ 0=true:=by kernel_rfl
def tK:List UInt8:=[114,117,108,101,32,97,32,112,114,105,111,114,105,116,121,32,48,32,123,10,32,32,111,110,32,115,116,97,114,116,59,10,32,32,100,111,32,109,111,100,101,32,97,119,97,121,59,10,125,10]
theorem ex5:Pl 19 (.sl [Ew tF]) tK 0=true:=by kernel_rfl
theorem ex6:Pl 19 (.sl [Ew tF,Ew tF]) [] 9=true:=by kernel_rfl
theorem tL (bx):Ai CC (Ad CC) 14 [BE (Y' 6 [Y' 10 [lN,ZD 5]])] bx=some (.ret (.tup [.str tG,.int .i64 0]),bx):=IN rfl ex1 bx
theorem tM (bx):Ai CC (Ad CC) 14 [BE (Y' 13 [Y' 11 [ZD 1,ZD 2],Y' 12 [ZD 0,lN]])] bx=some (.ret (.tup [.str tH,.int .i64 0]),bx):=IN rfl lO bx
theorem tN (bx):Ai CC (Ad CC) 14 [BE (Y' 7 [Y' 8 [lM 1,lM 0],lM 1])] bx=some (.ret (.tup [.str tI,.int .i64 0]),bx):=IN rfl ex3 bx
theorem tO (bx):Ai CC (Ad CC) 14 [BE (Y' 12 [ZD 0,ZD (-5)])] bx=some (.ret (.tup [.str tJ,.int .i64 0]),bx):=IN rfl ex4 bx
theorem tP (bx):Ai CC (Ad CC) 19 [.sl [Ew tF]] bx=some (.ret (.tup [.str tK,.int .i64 0]),bx):=IN rfl ex5 bx
theorem tQ (bx):Ai CC (Ad CC) 19 [.sl [Ew tF,Ew tF]] bx=some (.ret (.tup [.str [],.int .i64 9]),bx):=IN rfl ex6 bx
theorem Xa:Be CC Aaj (Aaj.body.getD .skip)=true:=by kernel_rfl
theorem Uq:CC.P.funcs[10]?=some Aaj:=by kernel_rfl
theorem bH:Be CC Aah (Aah.body.getD .skip)=true:=by kernel_rfl
theorem Za:CC.P.funcs[28]?=some Aah:=by kernel_rfl
theorem gH:Be CC Aai (Aai.body.getD .skip)=true:=by kernel_rfl
theorem bI:CC.P.funcs[27]?=some Aai:=by kernel_rfl
def zW (k:Int) (v:Vl) (key:Ky):PV:=.agg [.int .i64 k,.int .i64 0,.int .i64 0,.str [],.int .i64 v.1,.int .i64 v.2.1,.str v.2.2,.int .i64 key.1,.str key.2.1,.str key.2.2,.nils]
theorem HN (n:Int):A9 CC 24 [(0,.int .i64 2),(1,.int .i64 n)]=some (.agg [.int .i64 2,.int .i64 n,.str []]):=by kernel_rfl
theorem Gp:A9 CC 24 [(0,.int .i64 1),(1,.int .i64 1)]=some (.agg [.int .i64 1,.int .i64 1,.str []]):=by kernel_rfl
theorem Gq:A9 CC 24 [(0,.int .i64 1)]=some (.agg [.int .i64 1,.int .i64 0,.str []]):=by kernel_rfl
theorem HO (a n:Int) (s:List UInt8):A9 CC 29 [(0,.int .i64 1),(4,.agg [.int .i64 a,.int .i64 n,.str s])]=some (zW 1 (a,n,s) (0,[],[])):=by kernel_rfl
theorem qW:zeroCells CC 29=some [.int .i64 0,.int .i64 0,.int .i64 0,.str [],.int .i64 0,.int .i64 0,.str [],.int .i64 0,.str [],.str [],.nils]:=by kernel_rfl
def mL (k:Int) (v:Vl) (key:Ky):PV:=.agg [.int .i64 k,.int .i64 0,.int .i64 0,.str [],.int .i64 v.1,.int .i64 v.2.1,.str v.2.2,.int .i64 key.1,.str key.2.1,.str key.2.2,.sl []]
theorem tR (n:Int):mL 1 (2,n,[]) (0,[],[])=BE (ZD n):=by unfold ZD BE A8;rfl
theorem tS (n:Int):mL 1 (1,n,[]) (0,[],[])=BE (lM n):=by unfold lM BE A8;rfl
theorem lP (n:Int):∃ bx,Ad CC 28 [.int .i64 n] []=some (.ret (mL 1 (2,n,[]) (0,[],[])),bx):=by
 rw [Ah (fn:=Aah) (c:=Aah.body.getD .skip) rfl rfl Za rfl bH (Aa1 rfl)];rw [<- An];simp only [Ab,Ac,Aah,Aa4];simp only [S9,Ag,seval,qW,HN,Gp,Gq,HO,Aa2,Aa3];unfold zW mL;simp only [S9,Ag,seval,qW,HN,Gp,Gq,HO,Aa2,Aa3];exact ⟨_,rfl⟩
theorem SQ (n:Int) (bx):Ai CC (Ad CC) 28 [.int .i64 n] bx=some (.ret (BE (ZD n)),bx):=by
 obtain ⟨b,h⟩:=lP n;rw [<- tR];exact Aq rfl rfl h rfl
theorem lQ (a n:Int) (s:List UInt8):∃ bx,Ad CC 55 [.agg [.int .i64 a,.int .i64 n,.str s]] []=some (.ret (mL 1 (a,n,s) (0,[],[])),bx):=by
 rw [Ah (fn:=Aay) (c:=Aay.body.getD .skip) rfl rfl Y1 rfl bu (Aa1 rfl)];rw [<- An];simp only [Ab,Ac,Aay,Aa4];simp only [S9,Ag,seval,qW,HN,Gp,Gq,HO,Aa2,Aa3];unfold zW mL;simp only [S9,Ag,seval,qW,HN,Gp,Gq,HO,Aa2,Aa3];exact ⟨_,rfl⟩
theorem lR (a n:Int) (s:List UInt8) (bx):Ai CC (Ad CC) 55 [.agg [.int .i64 a,.int .i64 n,.str s]] bx=some (.ret (mL 1 (a,n,s) (0,[],[])),bx):=by
 obtain ⟨b,h⟩:=lQ a n s;exact Aq rfl rfl h rfl
theorem gI (b:Bool):∃ bx,Ad CC 26 [.bool b] []=some (.ret (mL 1 (1,if b then 1 else 0,[]) (0,[],[])),bx):=by
 have o1:=lR 1 1 [];have o0:=lR 1 0 [];rw [Ah (fn:=Aao) (c:=Aao.body.getD .skip) rfl rfl W1 rfl Y0 (Aa1 rfl)];cases b with
 | true=>
  rw [<- An];rw [<- AL] at o1 o0;simp only [Ab,Ac,Aao,Aa4];unfold mL at o1 o0 |-;simp only [S9,Ag,seval,qW,HN,Gp,Gq,HO,Aa2,Aa3,o1,o0];exact ⟨_,rfl⟩
 | false=>
  rw [<- An];rw [<- AL] at o1 o0;simp only [Ab,Ac,Aao,Aa4];unfold mL at o1 o0 |-;simp only [S9,Ag,seval,qW,HN,Gp,Gq,HO,Aa2,Aa3,o1,o0];exact ⟨_,rfl⟩
theorem dP (c:Bool) (bx):Ai CC (Ad CC) 26 [.bool c] bx=some (.ret (BE (lM (if c then 1 else 0))),bx):=by
 obtain ⟨b,h⟩:=gI c;rw [<- tS];exact Aq rfl rfl h rfl
noncomputable def yE:TypeInfo:=(Tryz.prog.info? 29).getD default
theorem xC (pk pn pm pa pb pd:Int) (ps pt pu pv:List UInt8) (px:List PV):AZ CC 27 1 [(0,.agg [.int .i64 pk,.int .i64 pn,.int .i64 pm,.str ps,.int .i64 pa,.int .i64 pb,.str pt,.int .i64 pd,.str pu,.str pv,.sl px])]=some (.osl 29 [.agg [.int .i64 pk,.int .i64 pn,.int .i64 pm,.str ps,.int .i64 pa,.int .i64 pb,.str pt,.int .i64 pd,.str pu,.str pv,.sl px]]):=by
 have hz:tZero CC 29=some (.agg [.int .i64 0,.int .i64 0,.int .i64 0,.str [],.int .i64 0,.int .i64 0,.str [],.int .i64 0,.str [],.str [],.nils]):=by kernel_rfl
 have hi:CC.P.info? 29=some yE:=by kernel_rfl
 have hs:yE.size=11:=by kernel_rfl
 have hu:CC.P.underlying 27=some (.slice 29):=by kernel_rfl
 have ht:tAgg CC 29=true:=by kernel_rfl
 have hp:Gd true 11 (.agg [.int .i64 pk,.int .i64 pn,.int .i64 pm,.str ps,.int .i64 pa,.int .i64 pb,.str pt,.int .i64 pd,.str pu,.str pv,.sl px])=some (.agg [.int .i64 pk,.int .i64 pn,.int .i64 pm,.str ps,.int .i64 pa,.int .i64 pb,.str pt,.int .i64 pd,.str pu,.str pv,.sl px]):=rfl;unfold AZ;simp only [hu,hz,hi,hs,ht,Aau,Aaw,hp];rfl
theorem xD (pk pn pm pa pb pd qk qn qm qa qb qd:Int) (ps pt pu pv qs qt qu qv:List UInt8) (px qx:List PV):AZ CC 27 2 [(0,.agg [.int .i64 pk,.int .i64 pn,.int .i64 pm,.str ps,.int .i64 pa,.int .i64 pb,.str pt,.int .i64 pd,.str pu,.str pv,.sl px]),(1,.agg [.int .i64 qk,.int .i64 qn,.int .i64 qm,.str qs,.int .i64 qa,.int .i64 qb,.str qt,.int .i64 qd,.str qu,.str qv,.sl qx])]=some (.osl 29 [.agg [.int .i64 pk,.int .i64 pn,.int .i64 pm,.str ps,.int .i64 pa,.int .i64 pb,.str pt,.int .i64 pd,.str pu,.str pv,.sl px],.agg [.int .i64 qk,.int .i64 qn,.int .i64 qm,.str qs,.int .i64 qa,.int .i64 qb,.str qt,.int .i64 qd,.str qu,.str qv,.sl qx]]):=by
 have hz:tZero CC 29=some (.agg [.int .i64 0,.int .i64 0,.int .i64 0,.str [],.int .i64 0,.int .i64 0,.str [],.int .i64 0,.str [],.str [],.nils]):=by kernel_rfl
 have hi:CC.P.info? 29=some yE:=by kernel_rfl
 have hs:yE.size=11:=by kernel_rfl
 have hu:CC.P.underlying 27=some (.slice 29):=by kernel_rfl
 have ht:tAgg CC 29=true:=by kernel_rfl
 have hp:Gd true 11 (.agg [.int .i64 pk,.int .i64 pn,.int .i64 pm,.str ps,.int .i64 pa,.int .i64 pb,.str pt,.int .i64 pd,.str pu,.str pv,.sl px])=some (.agg [.int .i64 pk,.int .i64 pn,.int .i64 pm,.str ps,.int .i64 pa,.int .i64 pb,.str pt,.int .i64 pd,.str pu,.str pv,.sl px]):=rfl;have hq:Gd true 11 (.agg [.int .i64 qk,.int .i64 qn,.int .i64 qm,.str qs,.int .i64 qa,.int .i64 qb,.str qt,.int .i64 qd,.str qu,.str qv,.sl qx])=some (.agg [.int .i64 qk,.int .i64 qn,.int .i64 qm,.str qs,.int .i64 qa,.int .i64 qb,.str qt,.int .i64 qd,.str qu,.str qv,.sl qx]):=rfl;unfold AZ;simp only [hu,hz,hi,hs,ht,Aau,Aaw,hp,hq];rfl
theorem VB (k:Int) (xs:List PV):A9 CC 29 [(0,.int .i64 k),(6,.sl xs)]=some (.agg [.int .i64 k,.int .i64 0,.int .i64 0,.str [],.int .i64 0,.int .i64 0,.str [],.int .i64 0,.str [],.str [],.sl xs]):=by kernel_rfl
theorem tT (k pk pn pm pa pb pd qk qn qm qa qb qd:Int) (ps pt pu pv qs qt qu qv:List UInt8) (px qx:List PV) (hp:Al px=true) (hq:Al qx=true) (bx):Ai CC (Ad CC) 27 [.int .i64 k,.agg [.int .i64 pk,.int .i64 pn,.int .i64 pm,.str ps,.int .i64 pa,.int .i64 pb,.str pt,.int .i64 pd,.str pu,.str pv,.sl px],.agg [.int .i64 qk,.int .i64 qn,.int .i64 qm,.str qs,.int .i64 qa,.int .i64 qb,.str qt,.int .i64 qd,.str qu,.str qv,.sl qx]] bx=some (.ret (.agg [.int .i64 k,.int .i64 0,.int .i64 0,.str [],.int .i64 0,.int .i64 0,.str [],.int .i64 0,.str [],.str [],.sl [.agg [.int .i64 pk,.int .i64 pn,.int .i64 pm,.str ps,.int .i64 pa,.int .i64 pb,.str pt,.int .i64 pd,.str pu,.str pv,.sl px],.agg [.int .i64 qk,.int .i64 qn,.int .i64 qm,.str qs,.int .i64 qa,.int .i64 qb,.str qt,.int .i64 qd,.str qu,.str qv,.sl qx]]]),bx):=by
 have h:∃ b,Ad CC 27 [.int .i64 k,.agg [.int .i64 pk,.int .i64 pn,.int .i64 pm,.str ps,.int .i64 pa,.int .i64 pb,.str pt,.int .i64 pd,.str pu,.str pv,.sl px],.agg [.int .i64 qk,.int .i64 qn,.int .i64 qm,.str qs,.int .i64 qa,.int .i64 qb,.str qt,.int .i64 qd,.str qu,.str qv,.sl qx]] []=some (.ret (.agg [.int .i64 k,.int .i64 0,.int .i64 0,.str [],.int .i64 0,.int .i64 0,.str [],.int .i64 0,.str [],.str [],.sl [.agg [.int .i64 pk,.int .i64 pn,.int .i64 pm,.str ps,.int .i64 pa,.int .i64 pb,.str pt,.int .i64 pd,.str pu,.str pv,.sl px],.agg [.int .i64 qk,.int .i64 qn,.int .i64 qm,.str qs,.int .i64 qa,.int .i64 qb,.str qt,.int .i64 qd,.str qu,.str qv,.sl qx]]]),b):=by
  rw [Ah (fn:=Aai) (c:=Aai.body.getD .skip) rfl rfl bI rfl gH (Aa1 rfl)];rw [<- An];simp only [Ab,Ac,Aai,Aa4];simp only [S9,Ag,seval,qW,HN,Gp,Gq,HO,Aa2,Aa3,xD,VB];exact ⟨_,rfl⟩
 obtain ⟨b,h⟩:=h;exact Aq rfl (by simp only [Al,PV.pure,hp,hq,Aa9]) h (by simp only [Al,PV.pure,hp,hq,Aa9])
theorem lS:A9 CC 26 [(0,.int .i64 3),(1,.str [108,101,118,101,108]),(2,.str [108,101,118,101,108])]=some (.agg [.int .i64 3,.str [108,101,118,101,108],.str [108,101,118,101,108]]):=by kernel_rfl
theorem o9:A9 CC 29 [(0,.int .i64 2),(5,.agg [.int .i64 3,.str [108,101,118,101,108],.str [108,101,118,101,108]])]=some (.agg [.int .i64 2,.int .i64 0,.int .i64 0,.str [],.int .i64 0,.int .i64 0,.str [],.int .i64 3,.str [108,101,118,101,108],.str [108,101,118,101,108],.nils]):=by kernel_rfl
theorem zX:A9 CC 58 [(0,.int .i64 5)]=some (.agg [.int .i64 5,.int .i64 0,.str [],.str [],.int .i64 0,.str [],.str [],.str [],.int .i64 0,.int .i64 0]):=by kernel_rfl
theorem xE:AZ CC 22 1 [(0,.agg [.int .i64 5,.int .i64 0,.str [],.str [],.int .i64 0,.str [],.str [],.str [],.int .i64 0,.int .i64 0])]=some (.osl 58 [.agg [.int .i64 5,.int .i64 0,.str [],.str [],.int .i64 0,.str [],.str [],.str [],.int .i64 0,.int .i64 0]]):=by kernel_rfl
theorem zY:A9 CC 60 [(0,.int .i64 4),(2,.str [97,119,97,121])]=some (.agg [.int .i64 4,.int .i64 0,.str [],.str [],.str [97,119,97,121],.int .i64 0,.int .i64 0,.int .i64 0,.str [],.int .i64 0,.int .i64 0,.str [],.int .i64 0,.str [],.str [],.nils]):=by kernel_rfl
theorem xF:AZ CC 30 1 [(0,.agg [.int .i64 4,.int .i64 0,.str [],.str [],.str [97,119,97,121],.int .i64 0,.int .i64 0,.int .i64 0,.str [],.int .i64 0,.int .i64 0,.str [],.int .i64 0,.str [],.str [],.nils])]=some (.osl 60 [.agg [.int .i64 4,.int .i64 0,.str [],.str [],.str [97,119,97,121],.int .i64 0,.int .i64 0,.int .i64 0,.str [],.int .i64 0,.int .i64 0,.str [],.int .i64 0,.str [],.str [],.sl []]]):=by kernel_rfl
theorem zZ:A9 CC 32 [(0,.str [97]),(2,.sl [.agg [.int .i64 5,.int .i64 0,.str [],.str [],.int .i64 0,.str [],.str [],.str [],.int .i64 0,.int .i64 0]]),(3,.agg [.int .i64 1,.int .i64 0,.int .i64 0,.str [],.int .i64 1,.int .i64 1,.str [],.int .i64 0,.str [],.str [],.sl []]),(4,.sl [.agg [.int .i64 4,.int .i64 0,.str [],.str [],.str [97,119,97,121],.int .i64 0,.int .i64 0,.int .i64 0,.str [],.int .i64 0,.int .i64 0,.str [],.int .i64 0,.str [],.str [],.sl []]])]=some (.agg [.str [97],.int .i64 0,.sl [.agg [.int .i64 5,.int .i64 0,.str [],.str [],.int .i64 0,.str [],.str [],.str [],.int .i64 0,.int .i64 0]],.int .i64 1,.int .i64 0,.int .i64 0,.str [],.int .i64 1,.int .i64 1,.str [],.int .i64 0,.str [],.str [],.sl [],.sl [.agg [.int .i64 4,.int .i64 0,.str [],.str [],.str [97,119,97,121],.int .i64 0,.int .i64 0,.int .i64 0,.str [],.int .i64 0,.int .i64 0,.str [],.int .i64 0,.str [],.str [],.sl []]]]):=by kernel_rfl
theorem tU:AZ CC 41 1 [(0,.agg [.str [97],.int .i64 0,.sl [.agg [.int .i64 5,.int .i64 0,.str [],.str [],.int .i64 0,.str [],.str [],.str [],.int .i64 0,.int .i64 0]],.int .i64 1,.int .i64 0,.int .i64 0,.str [],.int .i64 1,.int .i64 1,.str [],.int .i64 0,.str [],.str [],.sl [],.sl [.agg [.int .i64 4,.int .i64 0,.str [],.str [],.str [97,119,97,121],.int .i64 0,.int .i64 0,.int .i64 0,.str [],.int .i64 0,.int .i64 0,.str [],.int .i64 0,.str [],.str [],.sl []]]])]=some (.osl 32 [.agg [.str [97],.int .i64 0,.sl [.agg [.int .i64 5,.int .i64 0,.str [],.str [],.int .i64 0,.str [],.str [],.str [],.int .i64 0,.int .i64 0]],.int .i64 1,.int .i64 0,.int .i64 0,.str [],.int .i64 1,.int .i64 1,.str [],.int .i64 0,.str [],.str [],.sl [],.sl [.agg [.int .i64 4,.int .i64 0,.str [],.str [],.str [97,119,97,121],.int .i64 0,.int .i64 0,.int .i64 0,.str [],.int .i64 0,.int .i64 0,.str [],.int .i64 0,.str [],.str [],.sl []]]]]):=by kernel_rfl
theorem tV:AZ CC 41 2 [(0,.agg [.str [97],.int .i64 0,.sl [.agg [.int .i64 5,.int .i64 0,.str [],.str [],.int .i64 0,.str [],.str [],.str [],.int .i64 0,.int .i64 0]],.int .i64 1,.int .i64 0,.int .i64 0,.str [],.int .i64 1,.int .i64 1,.str [],.int .i64 0,.str [],.str [],.sl [],.sl [.agg [.int .i64 4,.int .i64 0,.str [],.str [],.str [97,119,97,121],.int .i64 0,.int .i64 0,.int .i64 0,.str [],.int .i64 0,.int .i64 0,.str [],.int .i64 0,.str [],.str [],.sl []]]]),(1,.agg [.str [97],.int .i64 0,.sl [.agg [.int .i64 5,.int .i64 0,.str [],.str [],.int .i64 0,.str [],.str [],.str [],.int .i64 0,.int .i64 0]],.int .i64 1,.int .i64 0,.int .i64 0,.str [],.int .i64 1,.int .i64 1,.str [],.int .i64 0,.str [],.str [],.sl [],.sl [.agg [.int .i64 4,.int .i64 0,.str [],.str [],.str [97,119,97,121],.int .i64 0,.int .i64 0,.int .i64 0,.str [],.int .i64 0,.int .i64 0,.str [],.int .i64 0,.str [],.str [],.sl []]]])]=some (.osl 32 [.agg [.str [97],.int .i64 0,.sl [.agg [.int .i64 5,.int .i64 0,.str [],.str [],.int .i64 0,.str [],.str [],.str [],.int .i64 0,.int .i64 0]],.int .i64 1,.int .i64 0,.int .i64 0,.str [],.int .i64 1,.int .i64 1,.str [],.int .i64 0,.str [],.str [],.sl [],.sl [.agg [.int .i64 4,.int .i64 0,.str [],.str [],.str [97,119,97,121],.int .i64 0,.int .i64 0,.int .i64 0,.str [],.int .i64 0,.int .i64 0,.str [],.int .i64 0,.str [],.str [],.sl []]]],.agg [.str [97],.int .i64 0,.sl [.agg [.int .i64 5,.int .i64 0,.str [],.str [],.int .i64 0,.str [],.str [],.str [],.int .i64 0,.int .i64 0]],.int .i64 1,.int .i64 0,.int .i64 0,.str [],.int .i64 1,.int .i64 1,.str [],.int .i64 0,.str [],.str [],.sl [],.sl [.agg [.int .i64 4,.int .i64 0,.str [],.str [],.str [97,119,97,121],.int .i64 0,.int .i64 0,.int .i64 0,.str [],.int .i64 0,.int .i64 0,.str [],.int .i64 0,.str [],.str [],.sl []]]]]):=by kernel_rfl
theorem tW:Ew tF=.agg [.str [97],.int .i64 0,.sl [.agg [.int .i64 5,.int .i64 0,.str [],.str [],.int .i64 0,.str [],.str [],.str [],.int .i64 0,.int .i64 0]],.int .i64 1,.int .i64 0,.int .i64 0,.str [],.int .i64 1,.int .i64 1,.str [],.int .i64 0,.str [],.str [],.sl [],.sl [.agg [.int .i64 4,.int .i64 0,.str [],.str [],.str [97,119,97,121],.int .i64 0,.int .i64 0,.int .i64 0,.str [],.int .i64 0,.int .i64 0,.str [],.int .i64 0,.str [],.str [],.sl []]]]:=rfl
theorem RLz:zeroCells CC 32=some [.str [],.int .i64 0,.nils,.int .i64 0,.int .i64 0,.int .i64 0,.str [],.int .i64 0,.int .i64 0,.str [],.int .i64 0,.str [],.str [],.nils,.nils]:=by kernel_rfl
theorem pc (s:List UInt8):EB .neq s s=some (.bool false):=by simp [EB]
theorem pe (s:List UInt8):EB .eql s s=some (.bool true):=by simp [EB]
theorem bJ:∃ bx,Ad CC 10 [] []=some (.ret (.bool true),bx):=by
 have f1:=dP true;have f0:=dP false;have l0:=SQ 0;have l1:=SQ 1;have l2:=SQ 2;have l5:=SQ 5;have lm:=SQ (-5);have x1:=tL;have x2:=tM;have x3:=tN;have x4:=tO;have x5:=tP;have x6:=tQ;have op:=tT;simp only [if_true,Aag,if_false] at f1 f0;simp only [BE,A8,Y',ZD,lN,lM] at f1 f0 l0 l1 l2 l5 lm x1 x2 x3 x4;unfold tG at x1;unfold tH at x2;unfold tI at x3;unfold tJ at x4;unfold tK at x5;rw [tW] at x5 x6;rw [Ah (fn:=Aaj) (c:=Aaj.body.getD .skip) rfl rfl Uq rfl Xa (Aa1 rfl)];rw [<- An];rw [<- AL] at f1 f0 l0 l1 l2 l5 lm x1 x2 x3 x4 x5 x6 op;simp only [Ab,Ac,Aaj,Aa4];have t1:=op 10 2 0 0 0 0 3 1 0 0 2 5 0 [] [] [108,101,118,101,108] [108,101,118,101,108] [] [] [] [] [] [] rfl rfl;have t2:=op 11 1 0 0 2 1 0 1 0 0 2 2 0 [] [] [] [] [] [] [] [] [] [] rfl rfl;have t3:=op 12 1 0 0 2 0 0 2 0 0 0 0 3 [] [] [] [] [] [] [108,101,118,101,108] [108,101,118,101,108] [] [] rfl rfl
 have t4:=op 13 11 0 0 0 0 0 12 0 0 0 0 0 [] [] [] [] [] [] [] [] [.agg [.int .i64 1,.int .i64 0,.int .i64 0,.str [],.int .i64 2,.int .i64 1,.str [],.int .i64 0,.str [],.str [],.sl []],.agg [.int .i64 1,.int .i64 0,.int .i64 0,.str [],.int .i64 2,.int .i64 2,.str [],.int .i64 0,.str [],.str [],.sl []]] [.agg [.int .i64 1,.int .i64 0,.int .i64 0,.str [],.int .i64 2,.int .i64 0,.str [],.int .i64 0,.str [],.str [],.sl []],.agg [.int .i64 2,.int .i64 0,.int .i64 0,.str [],.int .i64 0,.int .i64 0,.str [],.int .i64 3,.str [108,101,118,101,108],.str [108,101,118,101,108],.sl []]] rfl rfl;have t5:=op 8 1 0 0 1 1 0 1 0 0 1 0 0 [] [] [] [] [] [] [] [] [] [] rfl rfl;have t6:=op 7 8 0 0 0 0 0 1 0 0 1 1 0 [] [] [] [] [] [] [] [] [.agg [.int .i64 1,.int .i64 0,.int .i64 0,.str [],.int .i64 1,.int .i64 1,.str [],.int .i64 0,.str [],.str [],.sl []],.agg [.int .i64 1,.int .i64 0,.int .i64 0,.str [],.int .i64 1,.int .i64 0,.str [],.int .i64 0,.str [],.str [],.sl []]] [] rfl rfl;have t7:=op 12 1 0 0 2 0 0 1 0 0 2 (-5) 0 [] [] [] [] [] [] [] [] [] [] rfl rfl;simp only [S9,Ag,seval,qW,HN,Gp,Gq,HO,Aa2,Aa3,t1,t2,t3,t4,t5,t6,t7,xC,VB,lS,o9,f1,f0,l0,l1,l2,l5,lm,x1,x2,x3,x4,x5,x6,pc,pe,zX,xE,zY,xF,zZ,tU,tV,RLz];exact ⟨_,rfl⟩
theorem lT (bx):Ai CC (Ad CC) 10 [] bx=some (.ret (.bool true),bx):=by
 obtain ⟨b,h⟩:=bJ;exact Aq rfl rfl h rfl
theorem dQ (e:List PV) (bx:List PBox) (i:Int) (ds sc:List PV):C2 e bx i ds sc []=⟨e,bx⟩:=by simp [C2,FP,Bv,J6]
def Ic (e:List PV) (bx:List PBox) (i:Int) (ds sc:List PV) (f:Bool):St:=⟨Bv e (fun _=>true) (FP bx.length i ds sc f),bx++[JG sc true,JG sc true]⟩
theorem tX {e:List PV} {bx:List PBox} {i:Int} {ds sc:List PV} {acc:List Nat} (h:∀ j,j < 14->acc.contains j=true):C2 e bx i ds sc acc=Ic e bx i ds sc (LS acc):=by
 unfold C2 Ic J6;rw [h 10 (by omega),h 11 (by omega),h 12 (by omega),h 13 (by omega)];have hf:(if LS acc=true then [JG sc true,JG sc true] else [JG sc true,JG sc true])=[JG sc true,JG sc true]:=by split <;> rfl
 simp only [hf]
 congr 1
 unfold FP;simp only [Bv,h 0 (by omega),h 1 (by omega),h 2 (by omega),h 3 (by omega),h 4 (by omega),h 5 (by omega),h 6 (by omega),h 7 (by omega),h 8 (by omega),h 9 (by omega),h 10 (by omega),h 11 (by omega),if_true]
theorem FD (e:List PV) (bx:List PBox) (i:Int) (ds sc:List PV) (f:Bool) (t:Nat):getT (Ic e bx i ds sc f).env t =
 if t=6 then .bp (if f then bx.length else bx.length+1) 0 else if t=7 then .bp (if f then bx.length+1 else bx.length) 0 else
 if t=51 then .bp 0 14 else if t=52 then .sl ds else if t=53 then .int .i64 i else if t=54 then .ip sc else if t=55 then .agg sc else if t=56 then .bp 1 14 else if t=57 then .sl ds else if t=58 then .int .i64 i else if t=59 then .ip sc else if t=60 then .agg sc else getT e t:=by
 have Jw:=Mk bx.length i ds sc f;have on:∀ k d v,(k,d,v) ∈ FP bx.length i ds sc f->getT (Bv e (fun _=>true) (FP bx.length i ds sc f)) d=v:=fun k d v hm=>BU e _ k d v rfl _ hm Jw;unfold Ic;simp only;by_cases h:t=6
 · subst h;rw [if_pos rfl];exact on 10 6 _ (by unfold FP;simp)
 rw [if_neg h];by_cases h:t=7
 · subst h;rw [if_pos rfl];exact on 11 7 _ (by unfold FP;simp)
 rw [if_neg h];by_cases h51:t=51
 · subst h51;rw [if_pos rfl];exact on 0 51 _ (by unfold FP;simp)
 rw [if_neg h51];by_cases h52:t=52
 · subst h52;rw [if_pos rfl];exact on 1 52 _ (by unfold FP;simp)
 rw [if_neg h52];by_cases h53:t=53
 · subst h53;rw [if_pos rfl];exact on 2 53 _ (by unfold FP;simp)
 rw [if_neg h53];by_cases h54:t=54
 · subst h54;rw [if_pos rfl];exact on 3 54 _ (by unfold FP;simp)
 rw [if_neg h54];by_cases h55:t=55
 · subst h55;rw [if_pos rfl];exact on 4 55 _ (by unfold FP;simp)
 rw [if_neg h55];by_cases h56:t=56
 · subst h56;rw [if_pos rfl];exact on 5 56 _ (by unfold FP;simp)
 rw [if_neg h56];by_cases h57:t=57
 · subst h57;rw [if_pos rfl];exact on 6 57 _ (by unfold FP;simp)
 rw [if_neg h57];by_cases h58:t=58
 · subst h58;rw [if_pos rfl];exact on 7 58 _ (by unfold FP;simp)
 rw [if_neg h58];by_cases h59:t=59
 · subst h59;rw [if_pos rfl];exact on 8 59 _ (by unfold FP;simp)
 rw [if_neg h59];by_cases uR:t=60
 · subst uR;rw [if_pos rfl];exact on 9 60 _ (by unfold FP;simp)
 rw [if_neg uR];exact G8 e _ t _ (by unfold FP;simp;omega)
theorem gJ {e:List PV} {bx:List PBox} {i:Int} {ds sc:List PV} (f:Bool) (n:Nat) (hn:bx.length+2<=n) (h2:2<=bx.length) (hd:Al ds=true) (hs:Al sc=true) (he:∀ t,(getT e t).under n=true) (t:Nat):(getT (Ic e bx i ds sc f).env t).under n=true:=by
 rw [FD];have u1:(PV.sl ds).under n=true:=Ax n ds hd;have u2:(PV.ip sc).under n=true:=Ax n sc hs;have u3:(PV.agg sc).under n=true:=Ax n sc hs;have b:∀ id off,id < n->(PV.bp id off).under n=true:=fun id off h=>decide_eq_true h
 repeat' split
 all_goals first | exact he t | assumption | exact b _ _ (by omega) | exact b _ _ (by split <;> omega) | rfl
theorem dR {e:List PV} {bx:List PBox} {i:Int} {ds sc:List PV} (h2:2<=bx.length) (hd:Al ds=true) (hs:Al sc=true) (he:∀ t,(getT e t).under bx.length=true) (hb:∀ b ∈ bx,b.under bx.length=true) (f:Bool) :
 Eqv bx.length (Ic e bx i ds sc f) (Ic e bx i ds sc (!f)):=by
 refine ⟨by simp [Ic],by simp [Ic],fun t=>?_,fun id b hid=>?_⟩
 · by_cases h6:t=6
   · refine .inr ⟨if f then bx.length else bx.length+1,0,?_,?_⟩
     · rw [FD,if_pos h6]
     · rw [FD,if_pos h6]
       cases f <;> simp [swp]
   by_cases h7:t=7
   · refine .inr ⟨if f then bx.length+1 else bx.length,0,?_,?_⟩
     · rw [FD,if_neg h6,if_pos h7]
     · rw [FD,if_neg h6,if_pos h7]
       cases f <;> simp [swp]
   refine .inl ⟨?_,?_⟩
   · rw [FD,if_neg h6,if_neg h7]
     have u1:(PV.sl ds).under bx.length=true:=Ax _ ds hd;have u2:(PV.ip sc).under bx.length=true:=Ax _ sc hs;have u3:(PV.agg sc).under bx.length=true:=Ax _ sc hs;have b:∀ id off,id < bx.length->(PV.bp id off).under bx.length=true:=fun id off h=>decide_eq_true h
     repeat' split
     all_goals first | exact he t | assumption | exact b _ _ (by omega) | rfl
   · rw [FD,FD,if_neg h6,if_neg h7,if_neg h6,if_neg h7]
 · have hc:(JG sc true).under bx.length=true:=by
    show Ar _ (if true then sc else gD)=true;rw [if_pos rfl];exact Ax _ sc hs
   have Bz:=(List.getElem?_eq_some_iff.1 hid).1;have hlen:(Ic e bx i ds sc f).bx.length=bx.length+2:=by simp [Ic]
   have J8:∀ g,(Ic e bx i ds sc g).bx=bx++[JG sc true,JG sc true]:=fun g=>rfl;rw [J8] at hid hlen Bz |-;by_cases dZ:id < bx.length
   · rw [Aan dZ] at hid
     exact ⟨hb b (List.mem_of_getElem? hid),by rw [ZK dZ,Aan dZ];exact hid⟩
   · have JJ:id=bx.length\/id=bx.length+1:=by omega
     rcases JJ with rfl | rfl
     · rw [Aa0 (Ab0 _),Aak] at hid
       have hid:JG sc true=b:=by simpa using hid
       subst hid;refine ⟨hc,?_⟩;unfold swp;rw [if_pos rfl,Aa0 (by omega),show bx.length+1 - bx.length=1 by omega];rfl
     · rw [Aa0 (by omega),show bx.length+1 - bx.length=1 by omega] at hid
       have hid:JG sc true=b:=by simpa using hid
       subst hid;refine ⟨hc,?_⟩;unfold swp;rw [if_neg (by omega),if_pos rfl,Aa0 (Ab0 _),Aak];rfl
theorem pf (c0 c1 c2 c3 c4 c5 c6 c7 c8 c9 c10 c11 c12 c13:PV) (ds sc:List PV) (rest:List PBox) (e:List PV) (i:Nat) (hx:ds[i]?=some (.agg sc)) (hl:sc.length=16) (eC:sc.map PV.ro=sc) (h1:sc.all PV.one=true) (hd:Al ds=true) (hs:Al sc=true)
 (h2:getT e 2=.bp 0 0) (h3:getT e 3=.bp 1 0) (h5:getT e 5=.int .i64 i) (he:∀ t,(getT e t).under (rest.length+2)=true) (hb:∀ b ∈ (Hu c0 c1 c2 c3 c4 c5 c6 c7 c8 c9 c10 c11 c12 c13 ds :: Hu c0 c1 c2 c3 c4 c5 c6 c7 c8 c9 c10 c11 c12 c13 ds :: rest),b.under (rest.length+2)=true) :
 ∃ f,drawAll CC (Ad CC) (opsOf (Ab Aab [1,1,0,1,0,0,1,1,0,0,1,0])) ⟨e,Hu c0 c1 c2 c3 c4 c5 c6 c7 c8 c9 c10 c11 c12 c13 ds :: Hu c0 c1 c2 c3 c4 c5 c6 c7 c8 c9 c10 c11 c12 c13 ds :: rest⟩=some (.normal,Ic e (Hu c0 c1 c2 c3 c4 c5 c6 c7 c8 c9 c10 c11 c12 c13 ds :: Hu c0 c1 c2 c3 c4 c5 c6 c7 c8 c9 c10 c11 c12 c13 ds :: rest) i ds sc f):=by
 have hlen:(Hu c0 c1 c2 c3 c4 c5 c6 c7 c8 c9 c10 c11 c12 c13 ds :: Hu c0 c1 c2 c3 c4 c5 c6 c7 c8 c9 c10 c11 c12 c13 ds :: rest).length=rest.length+2:=rfl;have Ez:=lh c0 c1 c2 c3 c4 c5 c6 c7 c8 c9 c10 c11 c12 c13 ds sc rest e i hx hl eC h1 h2 h3 h5;have D1:=bw (opsOf (Ab Aab [1,1,0,1,0,0,1,1,0,0,1,0]));rw [Aam] at D1
 have hf:∀ l ∈ BO (opsOf (Ab Aab [1,1,0,1,0,0,1,1,0,0,1,0])),C2 e (Hu c0 c1 c2 c3 c4 c5 c6 c7 c8 c9 c10 c11 c12 c13 ds :: Hu c0 c1 c2 c3 c4 c5 c6 c7 c8 c9 c10 c11 c12 c13 ds :: rest) i ds sc l.reverse=Ic e (Hu c0 c1 c2 c3 c4 c5 c6 c7 c8 c9 c10 c11 c12 c13 ds :: Hu c0 c1 c2 c3 c4 c5 c6 c7 c8 c9 c10 c11 c12 c13 ds :: rest) i ds sc true\/C2 e (Hu c0 c1 c2 c3 c4 c5 c6 c7 c8 c9 c10 c11 c12 c13 ds :: Hu c0 c1 c2 c3 c4 c5 c6 c7 c8 c9 c10 c11 c12 c13 ds :: rest) i ds sc l.reverse=Ic e (Hu c0 c1 c2 c3 c4 c5 c6 c7 c8 c9 c10 c11 c12 c13 ds :: Hu c0 c1 c2 c3 c4 c5 c6 c7 c8 c9 c10 c11 c12 c13 ds :: rest) i ds sc false:=fun l hl=>by
  have hc:=D1 l hl;rw [Aam] at hc
  have hc:∀ j,j < 14->l.reverse.contains j=true:=fun j hj=>by
   have:=hc j (List.mem_range.2 (by rw [dE];exact hj));rw [List.contains_iff_mem] at this |-;exact List.mem_reverse.2 this
  rw [tX hc];cases LS l.reverse
  · exact .inr rfl
  · exact .inl rfl
 rw [<- hlen] at he hb;generalize (Hu c0 c1 c2 c3 c4 c5 c6 c7 c8 c9 c10 c11 c12 c13 ds :: Hu c0 c1 c2 c3 c4 c5 c6 c7 c8 c9 c10 c11 c12 c13 ds :: rest)=bx at *;have mP:2<=bx.length:=by omega
 rw [<- dQ e bx i ds sc];have e1:=dR (i:=i) mP hd hs he hb true;have e2:=dR (i:=i) mP hd hs he hb false;have uo:(C2 e bx i ds sc []).bx.length=bx.length:=by rw [dQ]
 rcases Tl (gC oH) Ez hf (by rw [uo];exact e1) (by rw [uo];exact e2) with h | h
 · exact ⟨true,h⟩
 · exact ⟨false,h⟩
theorem Ef {e:List PV} {n d:Nat} {v:PV} (h:∀ t,(getT e t).under n=true) (hv:v.under n=true) (t:Nat):(getT (setT e d v) t).under n=true:=by
 rw [Dc];split
 · exact hv
 · exact h t
theorem gK (e:List PV) (bx:List PBox) (i:Int) (ds sc:List PV) (f:Bool):∃ E B i6 i7,Ic e bx i ds sc f=⟨E,B⟩/\getT E 6=.bp i6 0/\getT E 7=.bp i7 0/\B[i6]?=some (.cells 60 sc)/\B[i7]?=some (.cells 60 sc)/\i6 < bx.length+2/\i7 < bx.length+2 /\
 B=bx++[.cells 60 sc,.cells 60 sc]/\(∀ t,t < 51->t≠6->t≠7->getT E t=getT e t)/\(∀ n,bx.length+2<=n->2<=bx.length->Al ds=true->Al sc=true->(∀ t,(getT e t).under n=true)->∀ t,(getT E t).under n=true):=by
 have hc:JG sc true=.cells 60 sc:=rfl;refine ⟨(Ic e bx i ds sc f).env,(Ic e bx i ds sc f).bx,if f then bx.length else bx.length+1,if f then bx.length+1 else bx.length,rfl,?_,?_,?_,?_,?_,?_,?_,?_,?_⟩
 · rw [FD,if_pos rfl]
 · rw [FD,if_neg (by omega),if_pos rfl]
 · unfold Ic
   simp only;cases f
   · simp only [Aag,if_false]
     rw [Aa0 (by omega),show bx.length+1 - bx.length=1 by omega];rfl
   · simp only [if_true]
     rw [Aa0 (by omega),Aak];rfl
 · unfold Ic
   simp only;cases f
   · simp only [Aag,if_false]
     rw [Aa0 (by omega),Aak];rfl
   · simp only [if_true]
     rw [Aa0 (by omega),show bx.length+1 - bx.length=1 by omega];rfl
 · split <;> omega
 · split <;> omega
 · rfl
 · intro t h1 h2 h3
   rw [FD,if_neg h2,if_neg h3,if_neg (by omega),if_neg (by omega),if_neg (by omega),if_neg (by omega),if_neg (by omega),if_neg (by omega),if_neg (by omega),if_neg (by omega),if_neg (by omega),if_neg (by omega)]
 · intro n h1 h2 h3 h4 h5 t
   exact gJ f n h1 h2 h3 h4 h5 t
theorem ph (L:Code) (hL:L=Ab Aab [1,1,0,1,0]) (c0 c1 c2 c3 c4 c5 c6 c7 c8 c9 c10 c11 c12 c13:PV) (l:List Sp) (hl:l.length<=100) (hs:∀ x ∈ l,EJ x.ex):∀ (k i:Nat) (e:List PV) (rest:List PBox),i+k=l.length->getT e 2=.bp 0 0->getT e 3=.bp 1 0->getT e 47=.int .i64 l.length->getT e 48=.int .i64 i ->
 (∀ t,(getT e t).under (rest.length+2)=true)->(∀ b ∈ (Hu c0 c1 c2 c3 c4 c5 c6 c7 c8 c9 c10 c11 c12 c13 (l.map F9) :: Hu c0 c1 c2 c3 c4 c5 c6 c7 c8 c9 c10 c11 c12 c13 (l.map F9) :: rest),b.under (rest.length+2)=true)->∃ e' bx',Lh CC L ⟨e,Hu c0 c1 c2 c3 c4 c5 c6 c7 c8 c9 c10 c11 c12 c13 (l.map F9) :: Hu c0 c1 c2 c3 c4 c5 c6 c7 c8 c9 c10 c11 c12 c13 (l.map F9) :: rest⟩=some (.exit 0,⟨e',bx'⟩):=by
 intro k
 induction k with
 | zero=>
  intro i e rest D3 e2 e3 el ei _ _;rw [Ev (Ab Aab [1,1,0,1,0,0]) hL];have hi:¬ ((i:Int) < (l.length:Int)):=by omega
  generalize (Hu c0 c1 c2 c3 c4 c5 c6 c7 c8 c9 c10 c11 c12 c13 (l.map F9) :: Hu c0 c1 c2 c3 c4 c5 c6 c7 c8 c9 c10 c11 c12 c13 (l.map F9) :: rest)=bx;rw [<- Cf];simp only [Ab,Ac,Aab,Aa4];simp only [S9,A5,seval,CX,Az,Gj,Cu,KZ,Aa7,e2,e3,el,ei,hi];exact ⟨_,_,rfl⟩
 | succ k ih=>
  intro i e rest D3 e2 e3 el ei hu hb;rw [Ev (Ab Aab [1,1,0,1,0,0]) hL];have hi:((i:Int) < (l.length:Int)):=by omega
  have hx:l[i]?=some (l[i]'(by omega)):=by simp
  have Hw:(l.map F9)[i]?=some (F9 (l[i]'(by omega))):=by rw [Aaq,hx];rfl
  have Bc:=Nn (l[i]'(by omega)).ex (hs _ (Aat _));have uT:=Hk (l[i]'(by omega));generalize l[i]'(by omega)=x at *;have Mt:=wrap_i64 (n:=(i:Int)+1) ⟨by omega,by omega⟩;have key:=fun e rest=>ih (i+1) e rest (by omega);have cast1:((i+1:Nat):Int)=(i:Int)+1:=by omega
  rw [cast1] at key;obtain ⟨pk,⟨dv,cl,at_⟩,pn,xk,xn,xm,xnm,xv,xkey,xkids⟩:=x;have h1:∀ z:Int,(z != z)=false:=fun z=>by simp
  have h4:EB .neq pn pn=some (.bool false):=by rw [DD];simp
  have h6:Mu CC 100 26 (.agg [.int .i64 dv,.str cl,.str at_]) (.agg [.int .i64 dv,.str cl,.str at_])=some true:=by rw [fl];simp
  rw [<- sd] at Hw uT;unfold DZ RX at Hw uT;rw [R3] at Hw uT;unfold BE at Bc;have mH:=AY xkids;generalize A8 xkids=ys at *;simp only [Aae,Aa5] at Hw Bc uT;have hd:=fun e h2 h3 h5 he=>pf c0 c1 c2 c3 c4 c5 c6 c7 c8 c9 c10 c11 c12 c13 (l.map F9) _ rest e i Hw rfl rfl rfl (map_pure F9 Hk l) uT h2 h3 h5 he hb;simp only [<- A6 wQ] at hd;have hds:=map_pure F9 Hk l;rw [<- Cf] at key;rw [<- C3] at Bc;rw [<- Cf];rw [<- IQ] at hd;simp only [opsOf,Ab,Ac,Aab,Aa4] at hd |-;generalize J8:(Hu c0 c1 c2 c3 c4 c5 c6 c7 c8 c9 c10 c11 c12 c13 (l.map F9) :: Hu c0 c1 c2 c3 c4 c5 c6 c7 c8 c9 c10 c11 c12 c13 (l.map F9) :: rest)=bx at *;simp only [S9,A5,seval,CX,Az,Gj,Cu,KZ,Aa7,e2,e3,el,ei,hi];generalize hE:uW _ _=z
  have hP:∃ E f,z=some (.normal,Ic E bx i (l.map F9) [.int .i64 pk,.int .i64 dv,.str cl,.str at_,.str pn,.int .i64 xk,.int .i64 xn,.int .i64 xm,.str xnm,.int .i64 xv.1,.int .i64 xv.2.1,.str xv.2.2,.int .i64 xkey.1,.str xkey.2.1,.str xkey.2.2,.sl ys] f)/\getT E 2=.bp 0 0/\getT E 3=.bp 1 0/\getT E 5=.int .i64 i/\getT E 47=.int .i64 l.length/\getT E 48=.int .i64 i/\∀ t,(getT E t).under (rest.length+2)=true:=by
   rw [<- hE];refine ⟨_,Exists.elim (hd _ ?_ ?_ ?_ ?_) (fun f hf=>⟨f,hf,?_,?_,?_,?_,?_,?_⟩)⟩
   · simp only [S7,A5,seval,e2]
   · simp only [S7,A5,seval,e3]
   · simp only [S7,A5,seval]
   · exact Ef (Ef (Ef hu rfl) rfl) rfl
   · simp only [S7,A5,seval,e2]
   · simp only [S7,A5,seval,e3]
   · simp only [S7,A5,seval]
   · simp only [S7,A5,seval,el]
   · simp only [S7,A5,seval,ei]
   · exact Ef (Ef (Ef hu rfl) rfl) rfl
  obtain ⟨E0,f,rfl,g2,g3,g5,g47,g48,gu⟩:=hP;clear hE hd;obtain ⟨E,B,i6,i7,pR,z6,z7,b6,b7,l6,l7,hB,vC,hEu⟩:=gK E0 bx i (l.map F9) [.int .i64 pk,.int .i64 dv,.str cl,.str at_,.str pn,.int .i64 xk,.int .i64 xn,.int .i64 xm,.str xnm,.int .i64 xv.1,.int .i64 xv.2.1,.str xv.2.2,.int .i64 xkey.1,.str xkey.2.1,.str xkey.2.2,.sl ys] f;rw [pR];have y2:=(vC 2 (by omega) (by omega) (by omega)).trans g2;have y3:=(vC 3 (by omega) (by omega) (by omega)).trans g3;have y5:=(vC 5 (by omega) (by omega) (by omega)).trans g5;have y47:=(vC 47 (by omega) (by omega) (by omega)).trans g47;have y48:=(vC 48 (by omega) (by omega) (by omega)).trans g48;have hlen:bx.length=rest.length+2:=by rw [<- J8];rfl
  have yu:=hEu (rest.length+2+2) (by omega) (by omega) hds uT (fun t=>under_mono (by omega) _ (gu t));have hB2:B=Hu c0 c1 c2 c3 c4 c5 c6 c7 c8 c9 c10 c11 c12 c13 (l.map F9) :: Hu c0 c1 c2 c3 c4 c5 c6 c7 c8 c9 c10 c11 c12 c13 (l.map F9) :: (rest++[.cells 60 [.int .i64 pk,.int .i64 dv,.str cl,.str at_,.str pn,.int .i64 xk,.int .i64 xn,.int .i64 xm,.str xnm,.int .i64 xv.1,.int .i64 xv.2.1,.str xv.2.2,.int .i64 xkey.1,.str xkey.2.1,.str xkey.2.2,.sl ys],.cells 60 [.int .i64 pk,.int .i64 dv,.str cl,.str at_,.str pn,.int .i64 xk,.int .i64 xn,.int .i64 xm,.str xnm,.int .i64 xv.1,.int .i64 xv.2.1,.str xv.2.2,.int .i64 xkey.1,.str xkey.2.1,.str xkey.2.2,.sl ys]]):=by rw [hB,<- J8];rfl
  have yK:∀ b ∈ B,b.under (rest.length+2+2)=true:=by
   intro b hm;rw [hB] at hm;rcases List.mem_append.1 hm with hm | hm
   · exact PBox.under_mono (by omega) b (hb b hm)
   · have hx:b=.cells 60 [.int .i64 pk,.int .i64 dv,.str cl,.str at_,.str pn,.int .i64 xk,.int .i64 xn,.int .i64 xm,.str xnm,.int .i64 xv.1,.int .i64 xv.2.1,.str xv.2.2,.int .i64 xkey.1,.str xkey.2.1,.str xkey.2.2,.sl ys]:=by simpa using hm
     rw [hx];exact Ax _ _ uT
  rw [hlen] at l6 l7;have b8:∀ n,Ar n ys=true:=fun n=>Ax n ys mH;clear hB vC hEu pR g2 g3 g5 g47 g48 gu hb hu;simp only [S9,A5,seval,CX,Az,Gj,Cu,KZ,Aa7,y2,y3,y5,y47,y48,z6,z7,b6,b7,h1,h4,h6,Bc,mH,Mt,PV.pure,Al,Aaz];rw [hB2] at yK |-;refine key _ _ ?_ ?_ ?_ ?_ ?_ ?_
  · simp only [S7,A5,seval,y2]
  · simp only [S7,A5,seval,y3]
  · simp only [S7,A5,seval,y47]
  · simp only [S7,A5,seval]
  · rw [Aaa]
    have hb6:∀ off,(PV.bp i6 off).under (rest.length+2+2)=true:=fun off=>decide_eq_true (by omega);have hb7:∀ off,(PV.bp i7 off).under (rest.length+2+2)=true:=fun off=>decide_eq_true (by omega);show ∀ t,_=true
    repeat' (first | with_reducible exact yu | with_reducible refine Ef ?_ ?_)
    all_goals first | rfl | exact hb6 _ | exact hb7 _ | (simp only [PV.under,Ar,b8,Aa6];done) | exact yu
  · rw [Aaa]
    exact yK
theorem pj (l:List Sp):(l.map F9).length=l.length:=Aaf ..
def gL (r:Rl):Prop:=r.on.length<=100/\r.dos.length<=100/\EJ r.ife/\∀ x ∈ r.dos,EJ x.ex
theorem po (r:Rl) (hs:gL r):∃ bx,Ad CC 54 [Ew r,Ew r] []=some (.ret (.bool true),bx):=by
 obtain ⟨s1,s2,s3,s4⟩:=hs;obtain ⟨nm,pr,on,ife,dos⟩:=r;simp only at s1 s2 s3 s4;have Bc:=Nn ife s3;have hop1:=sH on s1;have Xg:Al (on.map BR)=true:=map_pure BR KW on;have Zm:Al (dos.map F9)=true:=map_pure F9 Hk dos;have Lz:=pj dos;unfold Ew Zz;obtain ⟨xk,xn,xm,xnm,xv,xkey,xkids⟩:=ife;have h1:∀ z:Int,(z != z)=false:=fun z=>by simp
 have h4:EB .neq nm nm=some (.bool false):=by rw [DD];simp
 unfold BE at Bc |-;have mH:=AY xkids;generalize A8 xkids=ys at *;generalize on.map BR=os at *;simp only [PV.cells,Aae,Aa5];have bT:∀ n,Ar n (dos.map F9)=true:=fun n=>Ax n _ Zm;have yY:∀ n,Ar n ys=true:=fun n=>Ax n _ mH;have yZ:∀ n,Ar n os=true:=fun n=>Ax n _ Xg;have Af:=fun e h2 h3 h47 yR hu hb=>ph _ rfl (.str nm) (.int .i64 pr) (.sl os) (.int .i64 xk) (.int .i64 xn) (.int .i64 xm) (.str xnm) (.int .i64 xv.1) (.int .i64 xv.2.1) (.str xv.2.2) (.int .i64 xkey.1) (.str xkey.2.1) (.str xkey.2.2) (.sl ys) dos s2 s4 dos.length 0 e [] (by omega) h2 h3 h47 yR hu hb;rw [CN (fn:=Aab) (c:=Aab.body.getD .skip) rfl rfl sK rfl sJ sI (Aa1 rfl)];generalize dos.map F9=ds at *;unfold Hu at Af;rw [<- Cf] at Af |-;rw [<- C3] at Bc hop1;simp only [Ab,Ac,Aab,Aa4] at Af |-;simp only [S9,A5,seval,CX,Az,Gj,Cu,KZ,Aa7,h1,h4,Bc,hop1,mH,Xg,Zm,PV.pure,Al,Aaz];generalize hE:S5 (Code.loop _) _=z
 have hP:∃ e' bx',z=some (.exit 0,⟨e',bx'⟩):=by
  rw [<- hE];refine Af _ ?_ ?_ ?_ ?_ ?_ ?_
  · simp only [S7,A5,seval]
  · simp only [S7,A5,seval]
  · simp only [S7,A5,seval,Lz]
  · first | (simp only [S7,A5,seval];done) | (simp only [S7,A5,seval] <;> rfl)
  · repeat' (with_reducible refine Ef ?_ ?_)
    all_goals first | rfl | (simp only [PV.under,Ar,bT,yY,yZ,Aa6,Aa9];done) | skip
    · intro t
      match t with
      | 0=>simp only [getT,Aap,PV.under,Ar,bT,yY,yZ,Aa6,Aa9]
      | 1=>simp only [getT,Aap,List.getD_cons_succ,PV.under,Ar,bT,yY,yZ,Aa6,Aa9]
      | t+2=>rfl
  · intro b hb
    have hb:b=PBox.cells 32 [.str nm,.int .i64 pr,.sl os,.int .i64 xk,.int .i64 xn,.int .i64 xm,.str xnm,.int .i64 xv.1,.int .i64 xv.2.1,.str xv.2.2,.int .i64 xkey.1,.str xkey.2.1,.str xkey.2.2,.sl ys,.sl ds]:=by simpa using hb
    rw [hb];simp only [PBox.under,PV.under,Ar,bT,yY,yZ,Aa6,Aa9]
 obtain ⟨e',bx',he⟩:=hP;subst he;simp only [S9,A5,seval,CX,Az,Gj,Cu,KZ,Aa7,h1];exact ⟨_,rfl⟩
theorem xG (r:Rl) (hs:gL r) (bx):Ai CC (Ad CC) 54 [Ew r,Ew r] bx=some (.ret (.bool true),bx):=by
 obtain ⟨q,hq⟩:=po r hs;exact Aq rfl (by simp only [AO,KX,Bu,Aa9]) hq rfl
theorem lU (L:Code) (hL:L=Ab Aac [1,1,0,1,0]) (l:List Rl) (hl:l.length<=100) (hs:∀ x ∈ l,gL x):∀ (k i:Nat) (e:List PV) (bx:List PBox),i+k=l.length->getT e 0=.sl (l.map Ew)->getT e 1=.sl (l.map Ew)->getT e 12=.int .i64 l.length->getT e 13=.int .i64 i->∃ e' bx',Co CC L ⟨e,bx⟩=some (.exit 0,⟨e',bx'⟩):=by
 intro k
 induction k with
 | zero=>
  intro i e bx D3 e0 e1 el ei;rw [A3 (Ab Aac [1,1,0,1,0,0]) hL];have hi:¬ ((i:Int) < (l.length:Int)):=by omega
  generalize l.map Ew=xs at *;rw [<- An];simp only [Ab,Ac,Aac,Aa4];simp only [S9,Ag,seval,CX,Az,Gj,Cu,KZ,Aa7,e0,e1,el,ei,hi];exact ⟨_,_,rfl⟩
 | succ k ih=>
  intro i e bx D3 e0 e1 el ei;rw [A3 (Ab Aac [1,1,0,1,0,0]) hL];have hi:((i:Int) < (l.length:Int)):=by omega
  have Gb:¬ ((i:Int) < 0):=by omega
  have hx:l[i]?=some (l[i]'(by omega)):=by simp
  have Hw:(l.map Ew)[i]?=some (Ew (l[i]'(by omega))):=by rw [Aaq,hx];rfl
  have Bc:=xG (l[i]'(by omega)) (hs _ (Aat _));have Qo:=KX (l[i]'(by omega));generalize l[i]'(by omega)=x at *;have Mt:=wrap_i64 (n:=(i:Int)+1) ⟨by omega,by omega⟩;have key:=fun e bx=>ih (i+1) e bx (by omega);have cast1:((i+1:Nat):Int)=(i:Int)+1:=by omega
  rw [cast1] at key;obtain ⟨nm,pr,on,ife,dos⟩:=x;generalize l.map Ew=xs at *;unfold Ew Zz at Hw Bc Qo;obtain ⟨xk,xn,xm,xnm,xv,xkey,xkids⟩:=ife;unfold BE at Hw Bc Qo;simp only [PV.cells,Aae,Aa5] at Hw Bc Qo;generalize A8 xkids=ys at *;generalize on.map BR=os at *;generalize dos.map F9=ds at *;simp only [PV.pure,Al,Aa8,Aa6,Bool.true_and] at Qo;obtain ⟨p1,p2,p3⟩:=Qo;rw [<- An];rw [<- An] at key;rw [<- AL] at Bc;simp only [Ab,Ac,Aac,Aa4];simp only [S9,Ag,seval,CX,Az,Gj,Cu,KZ,Aa7,e0,e1,el,ei,hi,Gb,Hw,Mt,Bc,p1,p2,p3,PV.pure,Al];refine key _ _ ?_ ?_ ?_ ?_
  all_goals simp only [S7,Ag,seval,e0,e1,el,ei]
theorem lV (l:List Rl) (hl:l.length<=100) (hs:∀ x ∈ l,gL x):∃ bx,Ad CC 25 [.sl (l.map Ew),.sl (l.map Ew)] []=some (.ret (.bool true),bx):=by
 have Af:=fun L hL e bx=>lU L hL l hl hs l.length 0 e bx (by omega);have Lz:(l.map Ew).length=l.length:=Aaf ..;rw [<- Lz] at Af;generalize l.map Ew=xs at *;have h7:((xs.length:Int) != (xs.length:Int))=false:=by simp
 rw [Ah (fn:=Aac) (c:=Aac.body.getD .skip) rfl rfl NC rfl OO (Aa1 rfl)];rw [<- An];rw [<- An] at Af;simp only [Ab,Ac,Aac,Aa4];simp only [S9,Ag,seval,CX,Az,Gj,Cu,KZ,Aa7,h7];generalize hE:Hp (Code.loop _) _=z
 have hP:∃ e' bx',z=some (.exit 0,⟨e',bx'⟩):=by
  rw [<- hE];refine Af _ rfl _ _ ?_ ?_ ?_ ?_
  all_goals first | (simp only [S7,Ag,seval];done) | (simp only [S7,Ag,seval] <;> rfl)
 obtain ⟨e',bx',he⟩:=hP;subst he;simp only [S8,Ag,seval];exact ⟨_,rfl⟩
theorem tY (l:List Rl) (hl:l.length<=100) (hs:∀ x ∈ l,gL x) (bx):Ai CC (Ad CC) 25 [.sl (l.map Ew),.sl (l.map Ew)] bx=some (.ret (.bool true),bx):=by
 obtain ⟨q,hq⟩:=lV l hl hs;exact Aq rfl (by rw [AO,AO,NA l] <;> rfl) hq rfl
theorem tZ (r:Rl):DS r=Ew r:=by
 obtain ⟨nm,pr,on,ife,dos⟩:=r;obtain ⟨xk,xn,xm,xnm,xv,xkey,xkids⟩:=ife;unfold DS Ew C4 Zz BE;simp only [Aae,Aa5,PV.cells];rfl
theorem dS (l:List Rl):l.map DS=l.map Ew:=List.map_congr_left fun r _=>tZ r
theorem xH {r:Rl} (h:Nu r=true):gL r:=by
 unfold Nu at h;simp only [Aa8,decide_eq_true_eq,Aam] at h;obtain ⟨⟨⟨_,h2,h3,h4⟩,_⟩,h5⟩:=h;refine ⟨by omega,by omega,U5 r.ife 220 30 h4,fun x hx=>?_⟩;have:=h5 x hx;unfold Ul at this;simp only [decide_eq_true_eq] at this;exact U5 x.ex 220 30 this.2.2.2
mutual
theorem lW (t:Tr) (lv b:Int) (h:(U4 t lv b).2=0) (hs:EJ t):(U4 t lv b).1=b+bg t/\b+bg t<=200/\∀ left levels:Int,(bg t:Int)<=left->25 - lv<=levels->Xq t left levels=left - bg t:=by
 match t with
 | .mk k n m nm v key kids=>
  unfold U4 at h |-;unfold EJ at hs;unfold bg Xq;by_cases c1:24 < lv
  · rw [if_pos c1] at h;cases h
  rw [if_neg c1] at h |-;by_cases c2:200<=b
  · rw [if_pos c2] at h;cases h
  rw [if_neg c2] at h |-;by_cases c3:S6 (.mk k n m nm v key kids)≠0
  · rw [if_pos c3] at h;exact absurd h c3
  rw [if_neg c3] at h |-;obtain ⟨g1,g2,g3⟩:=dT kids (lv+1) (b+1) (by omega) h hs.2;obtain ⟨⟨s1,s2,s3,s4,s5⟩,_⟩:=hs;refine ⟨by rw [g1];omega,by omega,fun left levels hl hv=>?_⟩;rw [if_neg (by omega),g3 (left - 1) (levels - 1) (by omega) (by omega)];omega
theorem dT (l:List Tr) (lv b:Int) (hb:b<=200) (h:(L4 l lv b).2=0) (hs:C5 l):(L4 l lv b).1=b+Jn l/\b+Jn l<=200/\∀ left levels:Int,(Jn l:Int)<=left->25 - lv<=levels->Pv l left levels=left - Jn l:=by
 match l with
 | []=>
  unfold L4 Jn Pv;exact ⟨by simp,by simp;omega,fun left levels _ _=>by simp⟩
 | t :: r=>
  unfold L4 at h |-;unfold C5 at hs;unfold Jn Pv;by_cases c1:(U4 t lv b).2≠0
  · rw [if_pos c1] at h;exact absurd h c1
  rw [if_neg c1] at h |-;obtain ⟨g1,g2,g3⟩:=lW t lv b (by omega) hs.1;rw [g1] at h |-;obtain ⟨k1,k2,k3⟩:=dT r lv (b+bg t) g2 h hs.2;refine ⟨by rw [k1];omega,by omega,fun left levels hl hv=>?_⟩;rw [g3 left levels (by omega) hv,if_neg (by omega),k3 _ _ (by omega) hv];omega
end
theorem lX {t:Tr} (h:Km t=0) (hs:EJ t):0<=Xq t 220 30:=by
 obtain ⟨_,h2,h3⟩:=lW t 1 0 h hs;rw [h3 220 30 (by omega) (by omega)];omega
theorem lY {k n m:Int} {nm:List UInt8} {v:Vl} {key:Ky} {kids:List Tr} (h:S6 (.mk k n m nm v key kids)=0):aA (.mk k n m nm v key kids)=false:=by
 unfold S6 at h;dsimp only at h;by_cases h1:k < 1\/15 < k
 · rw [if_pos h1] at h;simp at h
 rw [if_neg h1] at h;cases hb:aA (.mk k n m nm v key kids) with
 | false=>rfl
 | true=>rw [if_pos (.inr hb)] at h;simp at h
theorem ua {v:Vl} (h:JL v=0):Dx v.1/\Dx v.2.1:=by
 unfold JL NW at h;unfold Dx;by_cases a:v.1=0\/v.1=4
 · rw [if_pos a] at h
   cases b:(v.2.1 == 0) with
   | false=>rw [b] at h;cases h
   | true=>have:=eq_of_beq b;omega
 rw [if_neg a] at h;by_cases a1:v.1=1
 · rw [if_pos a1] at h
   cases b:(v.2.1 == 0 || v.2.1 == 1) with
   | false=>rw [b] at h;cases h
   | true=>
    rw [Bool.or_eq_true,beq_iff_eq,beq_iff_eq] at b;omega
 rw [if_neg a1] at h;by_cases a2:v.1=2
 · rw [if_pos a2] at h
   cases b:qg v.2.1 with
   | false=>rw [b] at h;cases h
   | true=>
    unfold qg at b;have:=of_decide_eq_true b;omega
 rw [if_neg a2] at h;by_cases a3:v.1=3
 · rw [if_pos a3] at h
   cases b:(decide (0<=v.2.1) && decide (v.2.1<=63)) with
   | false=>rw [b] at h;cases h
   | true=>
    rw [Aa8,decide_eq_true_eq,decide_eq_true_eq] at b;omega
 rw [if_neg a3] at h;cases h
mutual
theorem lZ (t:Tr) (hv:vT t) (hs:EJ t):Kl t:=by
 match t with
 | .mk k n m nm v key kids=>
  unfold vT at hv;unfold EJ at hs;unfold Kl;obtain ⟨⟨s1,s2,s3,s4,s5⟩,s6⟩:=hs;obtain ⟨g1,g2,g3,g4,g5⟩:=Vn hv.1;have hsp:=lY hv.1;have hk:=dU kids hv.2 s6;unfold aA yx at hsp;simp only [Bool.or_eq_false_iff] at hsp;obtain ⟨⟨⟨⟨p1,p2⟩,p3⟩,p4⟩,p5⟩:=hsp;unfold E' at g4
  have hn:Dx n:=by
   unfold Dx;by_cases a:k=4
   · rw [if_pos a] at g4;have:=of_decide_eq_true g4;omega
   rw [if_neg a] at g4;by_cases a5:k=5
   · rw [if_pos a5] at g4;have:=of_decide_eq_true g4;omega
   rw [if_neg a5] at g4;by_cases a15:k=15
   · rw [if_pos a15] at g4;have:=of_decide_eq_true g4;omega
   have:(n != 0)=false:=by
    have e:(!(k == 4 || k == 5 || k == 15))=true:=by
     rw [beq_eq_false_iff_ne.2 a,beq_eq_false_iff_ne.2 a5,beq_eq_false_iff_ne.2 a15];rfl
    rw [e,Aa6] at p1;exact p1
   have:n=0:=by simpa using this
   omega
  have hm:Dx m:=by
   unfold Dx;by_cases a:k=4
   · rw [if_pos a] at g4;have:=of_decide_eq_true g4;omega
   have:(m != 0)=false:=by
    rw [beq_eq_false_iff_ne.2 a] at p2;simpa using p2
   have:m=0:=by simpa using this
   omega
  have q':nJ v:=by
   by_cases a:k=1
   · obtain ⟨q1,q2⟩:=ua (g5 a).1
     exact ⟨q1,q2,by unfold maxLen;omega⟩
   · rw [beq_eq_false_iff_ne.2 a] at p4
     have e:Ra v (0,0,[])=true:=by simpa using p4
     unfold Ra at e;simp only [Aa8,beq_iff_eq] at e;obtain ⟨⟨e1,e2⟩,e3⟩:=e;unfold nJ Dx;refine ⟨by omega,by omega,by unfold maxLen;omega⟩
  have hky:N1 key:=by
   by_cases a:k=2
   · rw [if_neg (by omega),if_neg (by omega),if_neg (by omega),if_pos a] at g4
     have:=of_decide_eq_true g4;unfold N1 Dx;refine ⟨by omega,by unfold maxLen;omega,by unfold maxLen;omega⟩
   · rw [beq_eq_false_iff_ne.2 a] at p5
     have e:ED key (0,[],[])=true:=by simpa using p5
     unfold ED at e;simp only [Aa8,beq_iff_eq] at e;obtain ⟨⟨e1,e2⟩,e3⟩:=e;unfold N1 Dx;refine ⟨by omega,by unfold maxLen;omega,by unfold maxLen;omega⟩
  exact ⟨by unfold Dx;omega,hn,hm,by unfold maxLen;omega,q',hky,by unfold maxLen;omega,hk⟩
theorem dU (l:List Tr) (hv:YK l) (hs:C5 l):Io l:=by
 match l with
 | []=>unfold Io;trivial
 | t :: r=>
  unfold YK at hv;unfold C5 at hs;unfold Io;exact ⟨lZ t hv.1 hs.1,dU r hv.2 hs.2⟩
end
theorem Xb {t:Tr} (h:Km t=0) (hs:EJ t):Kl t:=lZ t (sj h) hs
end Go.HH
