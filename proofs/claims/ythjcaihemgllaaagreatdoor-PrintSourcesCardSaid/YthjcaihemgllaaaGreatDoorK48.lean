/-
  What the law needs, packed: LL SL UP SM SA SB.
-/
import Derived.Test.YthjcaihemgllaaaGreatDoorK47
open List renaming getElem?_cons_zero->Aau,getElem?_cons_succ->Aav,getElem?_toArray->Aaw,append_assoc->Aax,length_append->Ab0,all_eq_true->Ab3,mem_range->Ab4,length_cons->Ab6,nil_append->Ab7,append_nil->Ab8,range->Ab9,contains_iff_mem->Abb,cons_append->Abc,mem_reverse->Abj,nodup_cons->Abk,drop_left->Abl,drop_drop->Abm,mem_cons->Abn,takeWhile_cons->Abt,mem_singleton->Abu,flatMap_cons->Abv,mem_flatMap->Abx,length_drop->Aby,map_append->Abz,length_nil->Ac0,length_map->Ac1
open Option renaming getD->Aay
open Go.Proofs.Tryz renaming f54->Aaz,f112->Ab5,f25->Ac2,f19->Ac3
open Bool renaming and_eq_true->Ab1,or_eq_false_iff->Ab2,false_eq_true->Aba,or_true->Abd,or_eq_true->Abe,false_or->Abh,not_eq_true'->Abi,not_not->Abp,and_true->Ac4,true_or->Ac5
open UInt8 renaming toNat_lt->Abf,toNat_inj->Abw
open Nat renaming le_refl->Abg,add_assoc->Abo,zero_add->Abq,add_zero->Abr,le_of_ble_eq_true->Abs,sub_self->Ac6,zero_le->Ac8
open False renaming elim->Ac7
namespace Go.HH
open Go Go.Proofs
set_option maxRecDepth 100000
set_option maxHeartbeats 4000000
set_option linter.unusedSimpArgs false
set_option linter.unusedVariables false
theorem SZ (s:List UInt8) (hs:20000 < s.length):∃ bx,Ad CC 21 [.str s] []=some (.ret (.tup [.sl [],.int .i64 0,.int .i64 3]),bx):=by
 have hlen:=A7 s;have c1':(s.length:Int) > 20000:=by omega
 rw [Iy rfl];rw [<- Al];simp only [Aa,Ac,Tryz.f21,Aay];simp only [S8,Af,seval,hlen,c1'];exact ⟨_,rfl⟩
theorem gZ:Gh CC 70 9 .nils=some (.str []):=by kernel_rfl
theorem lT:Gh CC 70 9 (.sl [])=some (.str []):=by kernel_rfl
theorem Zk (s:List UInt8):∃ a b,∀ bx,Ai CC (Ad CC) 21 [.str s] bx=some (.ret (.tup [.sl a,.int .i64 b,.int .i64 (BH s).2.2]),bx):=by
 by_cases h:20000 < s.length
 · obtain ⟨b0,hc⟩:=SZ s h
   refine ⟨[],0,fun bx=>?_⟩;rw [show (BH s).2.2=3 from by unfold BH;rw [if_pos h]];exact Ao rfl (by simp only [SA,Ac4]) hc rfl
 · exact ⟨_,_,fun bx=>H3 s (by omega) bx⟩
theorem OW (l:List Rl) (hl:l.length<=20) (EB:∀ r ∈ l,Ig r=true/\Sa r):∃ bx,Ad CC 19 [.sl (l.map Dw)] []=some (.ret (.tup [.str (UA l).2,.int .i64 (UA l).1]),bx):=by
 have QW:=fun e ys=>xJ _ rfl l hl EB l [] e [] ys rfl;have VU:¬ ((l.length:Int) > 40):=by omega
 have hlen:(((l.map Dw).length:Nat):Int)=(l.length:Int):=by rw [Ac1]
 have zp:=ZPg;have Mw:QN []=.cells 72 [.nils]:=ea;obtain ⟨ta,tb,QX⟩:=Zk (VK [] l []).2;unfold UA;rw [if_neg (by omega)];generalize VK [] l []=res at *;clear EB hl;generalize l.map Dw=ls at *;generalize l.length=ln at *;unfold E6 at QW;rw [Ah (fn:=Ac3) (c:=Ac3.body.getD .skip) rfl rfl Qw rfl SW (Abs rfl)];simp only [Aa,Ac,Ac3,Aay] at QW |-;rw [<- Al];rw [<- Al] at QW;rw [<- AI] at QX;simp only [S9,Af,seval,Aw,VU,hlen,zp];generalize hE:GM (Code.loop _) _=z
 have hP:xI res z:=by
  rw [<- hE,<- Mw];refine QW _ [] ?_ ?_ ?_ ?_ ?_ ?_ (fun n=>rfl) (Ac8 _)
  all_goals first | (simp only [S7,Af,seval];done) | (simp only [S7,Af,seval] <;> rfl)
 clear hE QW;unfold xI at hP;by_cases hr:res.1=0
 case neg=>
  rw [if_neg hr] at hP |-;obtain ⟨e',b',rfl,g2,g3⟩:=hP;simp only [S9,Af,seval,Aw,g2,g3];exact ⟨_,rfl⟩
 rw [if_pos hr] at hP |-;obtain ⟨e',ys',rfl,g4⟩:=hP;have Z3:=kU res.2;by_cases he:res.2=[]
 · rw [he] at QX |-
   rw [ea];have c1:=gZ;have c2:=lT;by_cases hk:(BH []).2.2=0
   · rw [if_pos hk]
     rw [hk] at QX;simp only [S9,Af,seval,Aw,g4,c1,c2,QX];exact ⟨_,rfl⟩
   · rw [if_neg hk]
     have p:((BH []).2.2 != 0)=true:=bne_iff_ne.2 hk;generalize (BH []).2.2=er at *;simp only [S9,Af,seval,Aw,g4,c1,c2,QX,p];exact ⟨_,rfl⟩
 · rw [tl he]
   generalize GZ res.2=bs at *;by_cases hk:(BH res.2).2.2=0
   · rw [if_pos hk]
     rw [hk] at QX;simp only [S9,Af,seval,Aw,g4,Z3,QX];exact ⟨_,rfl⟩
   · rw [if_neg hk]
     have p:((BH res.2).2.2 != 0)=true:=bne_iff_ne.2 hk;generalize (BH res.2).2.2=er at *;simp only [S9,Af,seval,Aw,g4,Z3,QX,p];exact ⟨_,rfl⟩
theorem K3:∀ l:List Rl,(PV.sl (l.map Dw)).pure=true
 | []=>rfl
 | x :: r=>by
  show Ak (Dw x :: r.map Dw)=true;rw [AK,IU];exact K3 r
theorem S0 (l:List Rl) (hl:l.length<=20) (EB:∀ r ∈ l,Ig r=true/\Sa r) (bx):Ai CC (Ad CC) 19 [.sl (l.map Dw)] bx=some (.ret (.tup [.str (UA l).2,.int .i64 (UA l).1]),bx):=by
 obtain ⟨b,hc⟩:=OW l hl EB;refine Ao rfl ?_ hc rfl;rw [AK,Bk,Ac4];exact K3 l
theorem LF:Be CC Ab5 (Ab5.body.getD .skip)=true:=by kernel_rfl
theorem K4:CC.P.funcs[112]?=some Ab5:=by kernel_rfl
theorem OX:Be CC Ac2 (Ac2.body.getD .skip)=true:=by kernel_rfl
theorem NN:CC.P.funcs[25]?=some Ac2:=by kernel_rfl
def OY (x:Option Bool) (y:Option Bool):Option Bool:=match x with
 | some true=>y
 | o=>o
theorem tv (y:Option Bool):OY (some true) y=y:=rfl
theorem K5:CC.P.eqGuardType CC.P.depth 58=false:=by kernel_rfl
theorem xK (k d1 d2 n m k' d1' d2' n' m':Int) (a1 b1 a2 b2 s a1' b1' a2' b2' s':List UInt8):Mx CC 100 58 (.agg [.int .i64 k,.int .i64 d1,.str a1,.str b1,.int .i64 d2,.str a2,.str b2,.str s,.int .i64 n,.int .i64 m]) (.agg [.int .i64 k',.int .i64 d1',.str a1',.str b1',.int .i64 d2',.str a2',.str b2',.str s',.int .i64 n',.int .i64 m'])
 = OY (some (k == k')) (OY (OY (some (d1 == d1')) (OY (some (a1 == a1')) (OY (some (b1 == b1')) (some true)))) (OY (OY (some (d2 == d2')) (OY (some (a2 == a2')) (OY (some (b2 == b2')) (some true)))) (OY (some (s == s')) (OY (some (n == n')) (OY (some (m == m')) (some true)))))):=by kernel_rfl
theorem lU (t:Tg):Mx CC 100 58 (BE t) (BE t)=some true:=by
 unfold BE;rw [xK];simp only [beq_self_eq_true,tv]
theorem lV (L:Code) (hL:L=Aa Ab5 [1,1,0,1,0]) (l:List Tg) (hl:l.length<=100):∀ (k i:Nat) (e:List PV) (bx:List PBox),i+k=l.length->getT e 0=.sl (l.map BE)->getT e 1=.sl (l.map BE)->getT e 12=.int .i64 l.length->getT e 13=.int .i64 i->∃ e' bx',Cf CC L ⟨e,bx⟩=some (.exit 0,⟨e',bx'⟩):=by
 intro k
 induction k with
 | zero=>
  intro i e bx DK e0 e1 el ei;rw [AX (Aa Ab5 [1,1,0,1,0,0]) hL];have hi:¬ ((i:Int) < (l.length:Int)):=by omega
  generalize l.map BE=xs at *;rw [<- Al];simp only [Aa,Ac,Ab5,Aay];simp only [S9,Af,seval,CZ,Aw,Gj,Cw,K5,Abp,e0,e1,el,ei,hi];exact ⟨_,_,rfl⟩
 | succ k ih=>
  intro i e bx DK e0 e1 el ei;rw [AX (Aa Ab5 [1,1,0,1,0,0]) hL];have hi:((i:Int) < (l.length:Int)):=by omega
  have C4:¬ ((i:Int) < 0):=by omega
  have hx:l[i]?=some (l[i]'(by omega)):=by simp
  have Gz:(l.map BE)[i]?=some (BE (l[i]'(by omega))):=by rw [List.getElem?_map,hx];rfl
  have heq:=lU (l[i]'(by omega));generalize l[i]'(by omega)=x at *;have I5:=wrap_i64 (n:=(i:Int)+1) ⟨by omega,by omega⟩;have key:=fun e bx=>ih (i+1) e bx (by omega);have cast1:((i+1:Nat):Int)=(i:Int)+1:=by omega
  rw [cast1] at key;generalize l.map BE=xs at *;unfold BE at Gz heq;rw [<- Al];rw [<- Al] at key;simp only [Aa,Ac,Ab5,Aay];simp only [S9,Af,seval,CZ,Aw,Gj,Cw,K5,Abp,e0,e1,el,ei,hi,C4,Gz,I5,heq];refine key _ _ ?_ ?_ ?_ ?_
  all_goals simp only [S7,Af,seval,e0,e1,el,ei]
theorem lW (l:List Tg) (hl:l.length<=100):∃ bx,Ad CC 112 [.sl (l.map BE),.sl (l.map BE)] []=some (.ret (.bool true),bx):=by
 have Ag:=fun L hL e bx=>lV L hL l hl l.length 0 e bx (by omega);have Im:(l.map BE).length=l.length:=Ac1 ..;rw [<- Im] at Ag;generalize l.map BE=xs at *;have h7:((xs.length:Int) != (xs.length:Int))=false:=by simp
 rw [Ah (fn:=Ab5) (c:=Ab5.body.getD .skip) rfl rfl K4 rfl LF (Abs rfl)];rw [<- Al];rw [<- Al] at Ag;simp only [Aa,Ac,Ab5,Aay];simp only [S9,Af,seval,CZ,Aw,Gj,Cw,K5,Abp,h7];generalize hE:GM (Code.loop _) _=z
 have hP:∃ e' bx',z=some (.exit 0,⟨e',bx'⟩):=by
  rw [<- hE];refine Ag _ rfl _ _ ?_ ?_ ?_ ?_
  all_goals first | (simp only [S7,Af,seval];done) | (simp only [S7,Af,seval] <;> rfl)
 obtain ⟨e',bx',he⟩:=hP;subst he;simp only [S8,Af,seval];exact ⟨_,rfl⟩
theorem tw (l:List Tg) (hl:l.length<=100) (bx):Ai CC (Ad CC) 112 [.sl (l.map BE),.sl (l.map BE)] bx=some (.ret (.bool true),bx):=by
 obtain ⟨q,hq⟩:=lW l hl;have hp:Ak (l.map BE)=true:=map_pure BE K2 l;exact Ao rfl (by simp only [AK,PV.pure,hp,Bk,Bool.and_self]) hq rfl
open Go
theorem VM:∀ (l m:List Nat),l.Nodup->(∀ x ∈ l,x ∈ m)->l.length<=m.length
 | [],_,_,_=>Ac8 _
 | x :: l,m,hn,hs=>by
  rw [Abk] at hn;have hx:=hs x (List.mem_cons_self ..);have h:=VM l (m.erase x) hn.2 (fun y hy=>(List.mem_erase_of_ne (fun e:y=x=>hn.1 (by rw [<- e];exact hy))).2 (hs y (List.mem_cons_of_mem _ hy)));rw [List.length_erase_of_mem hx] at h;have:=List.length_pos_of_mem hx;rw [Ab6];omega
theorem S4 (ops:Array Oper):∀ (k:Nat) (acc l:List Nat),acc.Nodup->(∀ x ∈ acc,x < ops.size)->l ∈ Df ops k acc->l.Nodup/\(∀ x ∈ l,x < ops.size)/\l.length=acc.length+k
 | 0,acc,l,h1,h2,h=>by
  simp only [Df,Abu] at h;subst h;exact ⟨by unfold List.Nodup at h1 |-;rw [List.pairwise_reverse];exact h1.imp (fun h=>Ne.symm h),fun x hx=>h2 x (Abj.1 hx),List.length_reverse ..⟩
 | k+1,acc,l,h1,h2,h=>by
  unfold Df at h;rw [Abx] at h;obtain ⟨i,hi,h⟩:=h;split at h
  · rename_i hr
    have eW:=hr;unfold Ki at eW;rw [Ab1] at eW
    have hn:i ∉ acc:=fun hm=>by
     have:=Abb.2 hm;rw [this] at eW;cases eW.1
    obtain ⟨g1,g2,g3⟩:=S4 ops k (i :: acc) l (Abk.2 ⟨hn,h1⟩) (fun x hx=>by
     rcases Abn.1 hx with rfl | hx
     · exact Ab4.1 hi
     · exact h2 x hx) h
    exact ⟨g1,g2,by rw [g3,Ab6];omega⟩
  · cases h
theorem bY (ops:Array Oper):((BO ops).all fun l=>(Ab9 ops.size).all fun j=>l.contains j)=true:=by
 rw [Ab3];intro l hl;obtain ⟨g1,g2,g3⟩:=S4 ops ops.size [] l List.nodup_nil (fun x hx=>by cases hx) hl;rw [Ac0,Abq] at g3;rw [Ab3];intro j hj;rw [Abb];by_cases h:j ∈ l
 · exact h
 · exfalso
   have hjr:=Ab4.1 hj
   have h5:=VM (j :: l) (Ab9 ops.size) (Abk.2 ⟨h,g1⟩) (fun x hx=>by
    rcases Abn.1 hx with rfl | hx
    · exact hj
    · exact Ab4.2 (g2 x hx))
   rw [Ab6,List.length_range] at h5;omega
def rE (ops:Array Oper):Bool:=(Ab9 ops.size).all fun i=>match ops[i]? with
 | some o=>o.after.toList.all fun e=>!Region.binds .any e || decide (e.on < i)
 | none=>false
theorem hC {ops:Array Oper} (h:rE ops=true):(BO ops).isEmpty=false:=by
 have hb:=Ab3.1 h
 have go:∀ (k m:Nat),m+k=ops.size->∃ l,l ∈ Df ops k (Ab9 m).reverse:=by
  intro k
  induction k with
  | zero=>intro m hm;exact ⟨_,Abu.2 rfl⟩
  | succ k ih=>
   intro m hm;obtain ⟨l,hl⟩:=ih (m+1) (by omega);refine ⟨l,?_⟩;unfold Df;rw [Abx];refine ⟨m,Ab4.2 (by omega),?_⟩
   have hr:Ki ops (Ab9 m).reverse m=true:=by
    have h1:=hb m (Ab4.2 (by omega));unfold Ki;rw [Ab1];refine ⟨?_,?_⟩
    · rw [Abi]
      cases hc:(Ab9 m).reverse.contains m with
      | false=>rfl
      | true=>
       have:=Ab4.1 (Abj.1 (Abb.1 hc));omega
    · cases ho:ops[m]? with
      | none=>rw [ho] at h1;cases h1
      | some o=>
       rw [ho] at h1;rw [Ab3] at h1 |-;intro e he;have:=h1 e he;rw [Abe] at this |-;rcases this with h2 | h2
       · exact .inl h2
       · exact .inr (Abb.2 (Abj.2 (Ab4.2 (of_decide_eq_true h2))))
   rw [hr,if_pos rfl,show m :: (Ab9 m).reverse=(Ab9 (m+1)).reverse from by rw [List.range_succ,List.reverse_append];rfl];exact hl
 obtain ⟨l,hl⟩:=go ops.size 0 (Abq _);unfold BO;cases hc:Df ops ops.size [] with
 | nil=>rw [show (Ab9 0).reverse=([]:List Nat) from rfl,hc] at hl;cases hl
 | cons a r=>rfl
def L2:List Nat->Bool
 | []=>true
 | i :: acc=>if acc.contains 10 || acc.contains 11 then L2 acc else i != 11
def FQ (n:Nat) (i:Int) (ds:List PV) (sc:List PV) (f:Bool):List (Nat×Nat×PV):=
 [(0,51,.bp 0 14),(1,52,.sl ds),(2,53,.int .i64 i),(3,54,.ip sc),(4,55,.agg sc),(5,56,.bp 1 14),(6,57,.sl ds),(7,58,.int .i64 i),(8,59,.ip sc),(9,60,.agg sc),
  (10,6,.bp (if f then n else n+1) 0),(11,7,.bp (if f then n+1 else n) 0)]
theorem Mq (n:Nat) (i:Int) (ds sc:List PV) (f:Bool):(FQ n i ds sc f).Pairwise (fun x y=>x.1≠y.1/\x.2.1≠y.2.1):=by
 unfold FQ;simp
theorem bZ (e:List PV) (D:Nat->Bool) (n:Nat) (i:Int) (ds sc:List PV) (f f':Bool) (h1:D 10=false) (h2:D 11=false):By e D (FQ n i ds sc f)=By e D (FQ n i ds sc f'):=by
 unfold FQ;simp only [By,h1,h2,Aba,if_false]
def hF:List PV:=[.int .i64 0,.int .i64 0,.str [],.str [],.str [],.int .i64 0,.int .i64 0,.int .i64 0,.str [],.int .i64 0,.int .i64 0,.str [],.int .i64 0,.str [],.str [],.nils]
def JO (sc:List PV) (d:Bool):PBox:=.cells 60 (if d then sc else hF)
def Kd (sc:List PV) (acc:List Nat):List PBox:=
 match acc.contains 10,acc.contains 11 with
 | false,false=>[]
 | true,false=>[JO sc (acc.contains 12)]
 | false,true=>[JO sc (acc.contains 13)]
 | true,true=>if L2 acc then [JO sc (acc.contains 12),JO sc (acc.contains 13)] else [JO sc (acc.contains 13),JO sc (acc.contains 12)]
def C2 (e:List PV) (bx:List PBox) (i:Int) (ds sc:List PV) (acc:List Nat):St:=⟨By e (fun j=>acc.contains j) (FQ bx.length i ds sc (L2 acc)),bx++Kd sc acc⟩
theorem BB (i j:Nat) (acc:List Nat):(i :: acc).contains j=(j == i || acc.contains j):=by rw [List.contains_cons]
theorem Ih {i:Nat} {acc:List Nat} (h:(acc.contains 10 || acc.contains 11)=true):L2 (i :: acc)=L2 acc:=by
 show (if (acc.contains 10 || acc.contains 11)=true then _ else _)=_;rw [if_pos h]
theorem QO {i:Nat} {acc:List Nat} (h:(acc.contains 10 || acc.contains 11)=false):L2 (i :: acc)=(i != 11):=by
 show (if (acc.contains 10 || acc.contains 11)=true then _ else _)=_;rw [h];rfl
theorem Gg {e:List PV} {bx:List PBox} {i:Int} {ds sc:List PV} {acc:List Nat} {j d:Nat} {v:PV} (hj:j < 10) (hD:acc.contains j=false) (hm:∀ f,(j,d,v) ∈ FQ bx.length i ds sc f) :
 (⟨setT (C2 e bx i ds sc acc).env d v,(C2 e bx i ds sc acc).bx⟩:St)=C2 e bx i ds sc (j :: acc):=by
 have hd:(fun k=>(j :: acc).contains k)=DP (fun k=>acc.contains k) j:=by
  funext k;unfold DP;rw [BB]
 have hb:Kd sc (j :: acc)=Kd sc acc:=by
  unfold Kd;have k10:(j :: acc).contains 10=acc.contains 10:=by rw [BB,beq_eq_false_iff_ne.2 (by omega),Abh]
  have k11:(j :: acc).contains 11=acc.contains 11:=by rw [BB,beq_eq_false_iff_ne.2 (by omega),Abh]
  have k12:(j :: acc).contains 12=acc.contains 12:=by rw [BB,beq_eq_false_iff_ne.2 (by omega),Abh]
  have k13:(j :: acc).contains 13=acc.contains 13:=by rw [BB,beq_eq_false_iff_ne.2 (by omega),Abh]
  rw [k10,k11,k12,k13];cases a:acc.contains 10 <;> cases b:acc.contains 11
  · rfl
  · rfl
  · rfl
  · rw [Ih (by rw [a] <;> rfl)]
 unfold C2;simp only;rw [hb,hd,B1 e _ j d v hD _ (hm _) (Mq _ _ _ _ _)];cases x:(acc.contains 10 || acc.contains 11) with
 | true=>rw [Ih x]
 | false=>
  rw [Ab2] at x;have a10:DP (fun k=>acc.contains k) j 10=false:=by rw [B7 (by omega)];exact x.1
  have a11:DP (fun k=>acc.contains k) j 11=false:=by rw [B7 (by omega)];exact x.2
  rw [bZ e _ _ _ _ _ (L2 acc) (L2 (j :: acc)) a10 a11]
theorem tz:JG CC Aaz (Aaz.body.getD .skip)=true:=by kernel_rfl
theorem tA:Be CC Aaz (Aaz.body.getD .skip)=false:=by kernel_rfl
theorem tB:CC.P.funcs[54]?=some Aaz:=by kernel_rfl
theorem xL:CM CC (opsOf (Aa Aaz [1,1,0,1,0,0,1,1,0,0,1,0]))=false:=by kernel_rfl
theorem pG:rE (opsOf (Aa Aaz [1,1,0,1,0,0,1,1,0,0,1,0]))=true:=by kernel_rfl
theorem ef:(opsOf (Aa Aaz [1,1,0,1,0,0,1,1,0,0,1,0])).size=14:=by kernel_rfl
theorem eg:zeroCells CC 60=some hF:=by kernel_rfl
theorem lX:tSize CC 60=some 16:=by kernel_rfl
theorem b8:∀ acc:List Nat,acc.contains 11=true->acc.contains 10=false->L2 acc=false
 | [],h,_=>by cases h
 | i :: acc,h,h0=>by
  rw [BB,Abe] at h;rw [BB,Ab2] at h0;cases x:acc.contains 11 with
  | true=>rw [Ih (by rw [x,Abd])];exact b8 acc x h0.2
  | false=>
   rw [QO (by rw [h0.2,x] <;> rfl)];rw [x] at h;rcases h with h | h
   · rw [<- eq_of_beq h];rfl
   · cases h
theorem b9:∀ acc:List Nat,acc.contains 10=true->acc.contains 11=false->L2 acc=true
 | [],h,_=>by cases h
 | i :: acc,h,h0=>by
  rw [BB,Abe] at h;rw [BB,Ab2] at h0;cases x:acc.contains 10 with
  | true=>rw [Ih (by rw [x,Ac5])];exact b9 acc x h0.2
  | false=>
   rw [QO (by rw [h0.2,x] <;> rfl)];rw [x] at h;rcases h with h | h
   · rw [<- eq_of_beq h];rfl
   · cases h
theorem NO (acc:List Nat) (j:Nat):(fun k=>(j :: acc).contains k)=DP (fun k=>acc.contains k) j:=by
 funext k;unfold DP;rw [BB]
theorem pH (e:List PV) (bx:List PBox) (i:Int) (ds sc:List PV) (acc:List Nat) (XF:acc.contains 10=false) (vl:acc.contains 12=false) :
 C2 e bx i ds sc (10 :: acc)=⟨setT (C2 e bx i ds sc acc).env 6 (.bp (C2 e bx i ds sc acc).bx.length 0),(C2 e bx i ds sc acc).bx++[.cells 60 hF]⟩:=by
 have k11:(10 :: acc).contains 11=acc.contains 11:=by rw [BB];rfl
 have k12:(10 :: acc).contains 12=false:=by rw [BB,vl];rfl
 have k13:(10 :: acc).contains 13=acc.contains 13:=by rw [BB];rfl
 have k10:(10 :: acc).contains 10=true:=by rw [BB];rfl
 unfold C2;simp only;rw [NO];cases x:acc.contains 11 with
 | true=>
  have f0:=b8 acc x XF;have f1:L2 (10 :: acc)=false:=by rw [Ih (by rw [x,Abd])];exact f0
  have b0:Kd sc acc=[JO sc (acc.contains 13)]:=by unfold Kd;rw [XF,x]
  have b1:Kd sc (10 :: acc)=[JO sc (acc.contains 13),JO sc false]:=by unfold Kd;rw [k10,k11,x,k12,k13,f1];rfl
  rw [f0,f1,b0,b1,B1 e _ 10 6 _ XF _ (by unfold FQ;simp) (Mq _ _ _ _ _)];simp only [Aax,Abc,Ab7,JO,Aba,if_false]
 | false=>
  have f1:L2 (10 :: acc)=true:=by rw [QO (by rw [XF,x] <;> rfl)];rfl
  have b0:Kd sc acc=[]:=by unfold Kd;rw [XF,x]
  have b1:Kd sc (10 :: acc)=[JO sc false]:=by unfold Kd;rw [k10,k11,x,k12]
  rw [f1,b0,b1,bZ e _ _ _ _ _ (L2 acc) true XF x,Ab8,B1 e _ 10 6 _ XF _ (by unfold FQ;simp) (Mq _ _ _ _ _)];simp only [Aax,Abc,Ab7,JO,Aba,if_false]
theorem pI (e:List PV) (bx:List PBox) (i:Int) (ds sc:List PV) (acc:List Nat) (iK:acc.contains 11=false) (yW:acc.contains 13=false) :
 C2 e bx i ds sc (11 :: acc)=⟨setT (C2 e bx i ds sc acc).env 7 (.bp (C2 e bx i ds sc acc).bx.length 0),(C2 e bx i ds sc acc).bx++[.cells 60 hF]⟩:=by
 have k10:(11 :: acc).contains 10=acc.contains 10:=by rw [BB];rfl
 have k12:(11 :: acc).contains 12=acc.contains 12:=by rw [BB];rfl
 have k13:(11 :: acc).contains 13=false:=by rw [BB,yW];rfl
 have k11:(11 :: acc).contains 11=true:=by rw [BB];rfl
 unfold C2;simp only;rw [NO];cases x:acc.contains 10 with
 | true=>
  have f0:=b9 acc x iK;have f1:L2 (11 :: acc)=true:=by rw [Ih (by rw [x,Ac5])];exact f0
  have b0:Kd sc acc=[JO sc (acc.contains 12)]:=by unfold Kd;rw [iK,x]
  have b1:Kd sc (11 :: acc)=[JO sc (acc.contains 12),JO sc false]:=by unfold Kd;rw [k10,k11,x,k12,k13,f1];rfl
  rw [f0,f1,b0,b1,B1 e _ 11 7 _ iK _ (by unfold FQ;simp) (Mq _ _ _ _ _)];simp only [Aax,Abc,Ab7,JO,Aba,if_false]
 | false=>
  have f1:L2 (11 :: acc)=false:=by rw [QO (by rw [iK,x] <;> rfl)];rfl
  have b0:Kd sc acc=[]:=by unfold Kd;rw [iK,x]
  have b1:Kd sc (11 :: acc)=[JO sc false]:=by unfold Kd;rw [k10,k11,x,k13]
  rw [f1,b0,b1,bZ e _ _ _ _ _ (L2 acc) false x iK,Ab8,B1 e _ 11 7 _ iK _ (by unfold FQ;simp) (Mq _ _ _ _ _)];simp only [Aax,Abc,Ab7,JO,Aba,if_false]
theorem IW (bx r:List PBox) (t:TypeId) (cs vs:List PV) (h:vs.length=cs.length) (h1:vs.all PV.one=true) (id:Nat) (hid:id=bx.length):BK (bx++.cells t cs :: r) id 0 vs=some (bx++.cells t vs :: r):=by
 subst hid;unfold BK;rw [List.getElem?_append_right (Abg _),Ac6];simp only [Aau];rw [if_pos ⟨by omega,h1⟩,List.set_append_right _ _ (Abg _),Ac6]
 have hl:lay cs 0 vs=vs:=by
  unfold lay;rw [List.take_zero,Ab7,List.drop_eq_nil_of_le (by omega),Ab8]
 rw [hl];rfl
theorem Aal (bx:List PBox) (sc:List PV) (hl:sc.length=16) (h1:sc.all PV.one=true) (acc:List Nat) (XF:acc.contains 10=true) (vl:acc.contains 12=false) :
 BK (bx++Kd sc acc) (if L2 acc then bx.length else bx.length+1) 0 sc=some (bx++Kd sc (12 :: acc)):=by
 have k10:(12 :: acc).contains 10=true:=by rw [BB,XF];rfl
 have k11:(12 :: acc).contains 11=acc.contains 11:=by rw [BB];rfl
 have k13:(12 :: acc).contains 13=acc.contains 13:=by rw [BB];rfl
 have k12:(12 :: acc).contains 12=true:=by rw [BB];rfl
 have kf:L2 (12 :: acc)=L2 acc:=Ih (by rw [XF] <;> rfl);have hz:sc.length=hF.length:=by rw [hl];rfl
 unfold Kd;rw [k10,k11,k12,k13,kf,XF,vl];cases x:acc.contains 11 with
 | false=>
  rw [b9 acc XF x];exact IW bx [] _ hF sc hz h1 _ rfl
 | true=>
  cases y:L2 acc with
  | true=>exact IW bx [JO sc (acc.contains 13)] _ hF sc hz h1 _ rfl
  | false=>
   have:=IW (bx++[JO sc (acc.contains 13)]) [] 60 hF sc hz h1 (bx.length+1) (by simp);simpa [JO] using this
theorem Aam (bx:List PBox) (sc:List PV) (hl:sc.length=16) (h1:sc.all PV.one=true) (acc:List Nat) (iK:acc.contains 11=true) (yW:acc.contains 13=false) :
 BK (bx++Kd sc acc) (if L2 acc then bx.length+1 else bx.length) 0 sc=some (bx++Kd sc (13 :: acc)):=by
 have k10:(13 :: acc).contains 10=acc.contains 10:=by rw [BB];rfl
 have k11:(13 :: acc).contains 11=true:=by rw [BB,iK];rfl
 have k12:(13 :: acc).contains 12=acc.contains 12:=by rw [BB];rfl
 have k13:(13 :: acc).contains 13=true:=by rw [BB];rfl
 have kf:L2 (13 :: acc)=L2 acc:=Ih (by rw [iK,Abd]);have hz:sc.length=hF.length:=by rw [hl];rfl
 unfold Kd;rw [k10,k11,k12,k13,kf,iK,yW];cases x:acc.contains 10 with
 | false=>
  rw [b8 acc iK x];exact IW bx [] _ hF sc hz h1 _ rfl
 | true=>
  cases y:L2 acc with
  | false=>exact IW bx [JO sc (acc.contains 12)] _ hF sc hz h1 _ rfl
  | true=>
   have:=IW (bx++[JO sc (acc.contains 12)]) [] 60 hF sc hz h1 (bx.length+1) (by simp);simpa [JO] using this
def Hz (c0 c1 c2 c3 c4 c5 c6 c7 c8 c9 c10 c11 c12 c13:PV) (ds:List PV):PBox:=.cells 32 [c0,c1,c2,c3,c4,c5,c6,c7,c8,c9,c10,c11,c12,c13,.sl ds]
theorem lY (c0 c1 c2 c3 c4 c5 c6 c7 c8 c9 c10 c11 c12 c13:PV) (ds sc:List PV) (rest:List PBox) (e:List PV) (i:Nat) (hx:ds[i]?=some (.agg sc)) (hl:sc.length=16) (eY:sc.map PV.ro=sc) (h1:sc.all PV.one=true)
 (h2:getT e 2=.bp 0 0) (h3:getT e 3=.bp 1 0) (h5:getT e 5=.int .i64 i) :
 Wc CC (Ad CC) (opsOf (Aa Aaz [1,1,0,1,0,0,1,1,0,0,1,0])) (C2 e (Hz c0 c1 c2 c3 c4 c5 c6 c7 c8 c9 c10 c11 c12 c13 ds :: Hz c0 c1 c2 c3 c4 c5 c6 c7 c8 c9 c10 c11 c12 c13 ds :: rest) i ds sc):=by
 intro acc j op Bb hD GA MA
 have hj:j < 14:=by
  have:=(Array.getElem?_eq_some_iff.1 Bb).1;rw [ef] at this;exact this
 have QX:sc.take 16=sc:=List.take_of_length_le (by omega);have hcl10:acc.contains 12=true->acc.contains 10=true:=fun h=>MA 12 _ (by rfl) h ⟨10,.data⟩ (by simp [opsOf,Aa,Ac,Aaz]) rfl;have hcl11:acc.contains 13=true->acc.contains 11=true:=fun h=>MA 13 _ (by rfl) h ⟨11,.data⟩ (by simp [opsOf,Aa,Ac,Aaz]) rfl;have DK:¬ ((i:Int) < 0):=by omega
 generalize Kf:(Hz c0 c1 c2 c3 c4 c5 c6 c7 c8 c9 c10 c11 c12 c13 ds :: Hz c0 c1 c2 c3 c4 c5 c6 c7 c8 c9 c10 c11 c12 c13 ds :: rest)=bx;have JE:=Mq bx.length i ds sc (L2 acc);have z2:getT (C2 e bx i ds sc acc).env 2=.bp 0 0:=by unfold C2;rw [Hd e _ 2 _ (by unfold FQ;simp)];exact h2
 have z3:getT (C2 e bx i ds sc acc).env 3=.bp 1 0:=by unfold C2;rw [Hd e _ 3 _ (by unfold FQ;simp)];exact h3
 have z5:getT (C2 e bx i ds sc acc).env 5=.int .i64 i:=by unfold C2;rw [Hd e _ 5 _ (by unfold FQ;simp)];exact h5
 have I6:∃ Jq9,(C2 e bx i ds sc acc).bx=Hz c0 c1 c2 c3 c4 c5 c6 c7 c8 c9 c10 c11 c12 c13 ds :: Hz c0 c1 c2 c3 c4 c5 c6 c7 c8 c9 c10 c11 c12 c13 ds :: Jq9:=by rw [<- Kf];exact ⟨_,rfl⟩
 by_cases e0:j=0
 · subst e0
   simp only [opsOf,Aa,Ac,Aaz,Aay,Aaw,Aav,Aau] at Bb;injection Bb with Bb
   subst Bb;refine ⟨rfl,fun al=>?_⟩;rw [<- Gg (j:=0) (d:=51) (v:=.bp 0 14) (by omega) hD (fun f=>by unfold FQ;simp)];obtain ⟨Jq9,I6⟩:=I6;rw [show C2 e bx i ds sc acc=⟨(C2 e bx i ds sc acc).env,(C2 e bx i ds sc acc).bx⟩ from rfl,I6];generalize (C2 e bx i ds sc acc).env=E at *;clear I6 Kf;unfold Hz;rw [<- N2];simp only [S9,Je,seval,CZ,z2,z3,z5,hx,hl,QX,eY,DK];exact ⟨_,rfl⟩
 by_cases e1:j=1
 · subst e1
   simp only [opsOf,Aa,Ac,Aaz,Aay,Aaw,Aav,Aau] at Bb;injection Bb with Bb
   subst Bb;refine ⟨rfl,fun al=>?_⟩;have d0:acc.contains 0=true:=GA ⟨0,.data⟩ (by simp) rfl;have z51:getT (C2 e bx i ds sc acc).env 51=.bp 0 14:=BT e _ 0 51 _ d0 _ (by unfold FQ;simp) JE;rw [<- Gg (j:=1) (d:=52) (v:=.sl ds) (by omega) hD (fun f=>by unfold FQ;simp)];obtain ⟨Jq9,I6⟩:=I6;rw [show C2 e bx i ds sc acc=⟨(C2 e bx i ds sc acc).env,(C2 e bx i ds sc acc).bx⟩ from rfl,I6];generalize (C2 e bx i ds sc acc).env=E at *;clear I6 Kf;unfold Hz;rw [<- N2];simp only [S9,Je,seval,CZ,z2,z3,z5,hx,hl,QX,eY,DK,z51];exact ⟨_,rfl⟩
 by_cases e2:j=2
 · subst e2
   simp only [opsOf,Aa,Ac,Aaz,Aay,Aaw,Aav,Aau] at Bb;injection Bb with Bb
   subst Bb;refine ⟨rfl,fun al=>?_⟩;rw [<- Gg (j:=2) (d:=53) (v:=.int .i64 i) (by omega) hD (fun f=>by unfold FQ;simp)];obtain ⟨Jq9,I6⟩:=I6;rw [show C2 e bx i ds sc acc=⟨(C2 e bx i ds sc acc).env,(C2 e bx i ds sc acc).bx⟩ from rfl,I6];generalize (C2 e bx i ds sc acc).env=E at *;clear I6 Kf;unfold Hz;rw [<- N2];simp only [S9,Je,seval,CZ,z2,z3,z5,hx,hl,QX,eY,DK];exact ⟨_,rfl⟩
 by_cases e3:j=3
 · subst e3
   simp only [opsOf,Aa,Ac,Aaz,Aay,Aaw,Aav,Aau] at Bb;injection Bb with Bb
   subst Bb;refine ⟨rfl,fun al=>?_⟩;have d1:acc.contains 1=true:=GA ⟨1,.data⟩ (by simp) rfl;have z52:getT (C2 e bx i ds sc acc).env 52=.sl ds:=BT e _ 1 52 _ d1 _ (by unfold FQ;simp) JE;have d2:acc.contains 2=true:=GA ⟨2,.data⟩ (by simp) rfl;have z53:getT (C2 e bx i ds sc acc).env 53=.int .i64 i:=BT e _ 2 53 _ d2 _ (by unfold FQ;simp) JE;rw [<- Gg (j:=3) (d:=54) (v:=.ip sc) (by omega) hD (fun f=>by unfold FQ;simp)];obtain ⟨Jq9,I6⟩:=I6;rw [show C2 e bx i ds sc acc=⟨(C2 e bx i ds sc acc).env,(C2 e bx i ds sc acc).bx⟩ from rfl,I6];generalize (C2 e bx i ds sc acc).env=E at *;clear I6 Kf;unfold Hz;rw [<- N2];simp only [S9,Je,seval,CZ,z2,z3,z5,hx,hl,QX,eY,DK,z52,z53];exact ⟨_,rfl⟩
 by_cases e4:j=4
 · subst e4
   simp only [opsOf,Aa,Ac,Aaz,Aay,Aaw,Aav,Aau] at Bb;injection Bb with Bb
   subst Bb;refine ⟨rfl,fun al=>?_⟩;have d3:acc.contains 3=true:=GA ⟨3,.data⟩ (by simp) rfl;have z54:getT (C2 e bx i ds sc acc).env 54=.ip sc:=BT e _ 3 54 _ d3 _ (by unfold FQ;simp) JE;rw [<- Gg (j:=4) (d:=55) (v:=.agg sc) (by omega) hD (fun f=>by unfold FQ;simp)];obtain ⟨Jq9,I6⟩:=I6;rw [show C2 e bx i ds sc acc=⟨(C2 e bx i ds sc acc).env,(C2 e bx i ds sc acc).bx⟩ from rfl,I6];generalize (C2 e bx i ds sc acc).env=E at *;clear I6 Kf;unfold Hz;rw [<- N2];simp only [S9,Je,seval,CZ,z2,z3,z5,hx,hl,QX,eY,DK,z54];exact ⟨_,rfl⟩
 by_cases e5:j=5
 · subst e5
   simp only [opsOf,Aa,Ac,Aaz,Aay,Aaw,Aav,Aau] at Bb;injection Bb with Bb
   subst Bb;refine ⟨rfl,fun al=>?_⟩;rw [<- Gg (j:=5) (d:=56) (v:=.bp 1 14) (by omega) hD (fun f=>by unfold FQ;simp)];obtain ⟨Jq9,I6⟩:=I6;rw [show C2 e bx i ds sc acc=⟨(C2 e bx i ds sc acc).env,(C2 e bx i ds sc acc).bx⟩ from rfl,I6];generalize (C2 e bx i ds sc acc).env=E at *;clear I6 Kf;unfold Hz;rw [<- N2];simp only [S9,Je,seval,CZ,z2,z3,z5,hx,hl,QX,eY,DK];exact ⟨_,rfl⟩
 by_cases e6:j=6
 · subst e6
   simp only [opsOf,Aa,Ac,Aaz,Aay,Aaw,Aav,Aau] at Bb;injection Bb with Bb
   subst Bb;refine ⟨rfl,fun al=>?_⟩;have d5:acc.contains 5=true:=GA ⟨5,.data⟩ (by simp) rfl;have z56:getT (C2 e bx i ds sc acc).env 56=.bp 1 14:=BT e _ 5 56 _ d5 _ (by unfold FQ;simp) JE;rw [<- Gg (j:=6) (d:=57) (v:=.sl ds) (by omega) hD (fun f=>by unfold FQ;simp)];obtain ⟨Jq9,I6⟩:=I6;rw [show C2 e bx i ds sc acc=⟨(C2 e bx i ds sc acc).env,(C2 e bx i ds sc acc).bx⟩ from rfl,I6];generalize (C2 e bx i ds sc acc).env=E at *;clear I6 Kf;unfold Hz;rw [<- N2];simp only [S9,Je,seval,CZ,z2,z3,z5,hx,hl,QX,eY,DK,z56];exact ⟨_,rfl⟩
 by_cases e7:j=7
 · subst e7
   simp only [opsOf,Aa,Ac,Aaz,Aay,Aaw,Aav,Aau] at Bb;injection Bb with Bb
   subst Bb;refine ⟨rfl,fun al=>?_⟩;rw [<- Gg (j:=7) (d:=58) (v:=.int .i64 i) (by omega) hD (fun f=>by unfold FQ;simp)];obtain ⟨Jq9,I6⟩:=I6;rw [show C2 e bx i ds sc acc=⟨(C2 e bx i ds sc acc).env,(C2 e bx i ds sc acc).bx⟩ from rfl,I6];generalize (C2 e bx i ds sc acc).env=E at *;clear I6 Kf;unfold Hz;rw [<- N2];simp only [S9,Je,seval,CZ,z2,z3,z5,hx,hl,QX,eY,DK];exact ⟨_,rfl⟩
 by_cases e8:j=8
 · subst e8
   simp only [opsOf,Aa,Ac,Aaz,Aay,Aaw,Aav,Aau] at Bb;injection Bb with Bb
   subst Bb;refine ⟨rfl,fun al=>?_⟩;have d6:acc.contains 6=true:=GA ⟨6,.data⟩ (by simp) rfl;have z57:getT (C2 e bx i ds sc acc).env 57=.sl ds:=BT e _ 6 57 _ d6 _ (by unfold FQ;simp) JE;have d7:acc.contains 7=true:=GA ⟨7,.data⟩ (by simp) rfl;have z58:getT (C2 e bx i ds sc acc).env 58=.int .i64 i:=BT e _ 7 58 _ d7 _ (by unfold FQ;simp) JE;rw [<- Gg (j:=8) (d:=59) (v:=.ip sc) (by omega) hD (fun f=>by unfold FQ;simp)];obtain ⟨Jq9,I6⟩:=I6;rw [show C2 e bx i ds sc acc=⟨(C2 e bx i ds sc acc).env,(C2 e bx i ds sc acc).bx⟩ from rfl,I6];generalize (C2 e bx i ds sc acc).env=E at *;clear I6 Kf;unfold Hz;rw [<- N2];simp only [S9,Je,seval,CZ,z2,z3,z5,hx,hl,QX,eY,DK,z57,z58];exact ⟨_,rfl⟩
 by_cases e9:j=9
 · subst e9
   simp only [opsOf,Aa,Ac,Aaz,Aay,Aaw,Aav,Aau] at Bb;injection Bb with Bb
   subst Bb;refine ⟨rfl,fun al=>?_⟩;have d8:acc.contains 8=true:=GA ⟨8,.data⟩ (by simp) rfl;have z59:getT (C2 e bx i ds sc acc).env 59=.ip sc:=BT e _ 8 59 _ d8 _ (by unfold FQ;simp) JE;rw [<- Gg (j:=9) (d:=60) (v:=.agg sc) (by omega) hD (fun f=>by unfold FQ;simp)];obtain ⟨Jq9,I6⟩:=I6;rw [show C2 e bx i ds sc acc=⟨(C2 e bx i ds sc acc).env,(C2 e bx i ds sc acc).bx⟩ from rfl,I6];generalize (C2 e bx i ds sc acc).env=E at *;clear I6 Kf;unfold Hz;rw [<- N2];simp only [S9,Je,seval,CZ,z2,z3,z5,hx,hl,QX,eY,DK,z59];exact ⟨_,rfl⟩
 by_cases e10:j=10
 · subst e10
   simp only [opsOf,Aa,Ac,Aaz,Aay,Aaw,Aav,Aau] at Bb;injection Bb with Bb
   subst Bb;refine ⟨rfl,fun al=>?_⟩;rw [pH e bx i ds sc acc hD (by cases x:acc.contains 12 with | false=>rfl | true=>rw [hcl10 x] at hD;cases hD)];have hz:=eg;generalize C2 e bx i ds sc acc=st at *;rw [<- N2];simp only [S9,Je,seval,CZ,hz];exact ⟨_,rfl⟩
 by_cases e11:j=11
 · subst e11
   simp only [opsOf,Aa,Ac,Aaz,Aay,Aaw,Aav,Aau] at Bb;injection Bb with Bb
   subst Bb;refine ⟨rfl,fun al=>?_⟩;rw [pI e bx i ds sc acc hD (by cases x:acc.contains 13 with | false=>rfl | true=>rw [hcl11 x] at hD;cases hD)];have hz:=eg;generalize C2 e bx i ds sc acc=st at *;rw [<- N2];simp only [S9,Je,seval,CZ,hz];exact ⟨_,rfl⟩
 by_cases e12:j=12
 · subst e12
   simp only [opsOf,Aa,Ac,Aaz,Aay,Aaw,Aav,Aau] at Bb;injection Bb with Bb
   subst Bb;refine ⟨rfl,fun al=>?_⟩;have d10:acc.contains 10=true:=GA ⟨10,.data⟩ (by simp) rfl;have d4:acc.contains 4=true:=GA ⟨4,.data⟩ (by simp) rfl;have z6:getT (C2 e bx i ds sc acc).env 6=.bp (if L2 acc then bx.length else bx.length+1) 0:=BT e _ 10 6 _ d10 _ (by unfold FQ;simp) JE;have z55:getT (C2 e bx i ds sc acc).env 55=.agg sc:=BT e _ 4 55 _ d4 _ (by unfold FQ;simp) JE;have EC:=Aal bx sc hl h1 acc d10 hD;have hn:C2 e bx i ds sc (12 :: acc)=⟨(C2 e bx i ds sc acc).env,bx++Kd sc (12 :: acc)⟩:=by unfold C2;simp only;rw [NO,Ih (by first | (rw [d10] <;> rfl) | (rw [d10,Abd])),Hc e _ 12 _ (by unfold FQ;simp)]
   have I4:=lX;rw [hn,show C2 e bx i ds sc acc=⟨(C2 e bx i ds sc acc).env,bx++Kd sc acc⟩ from rfl];generalize (C2 e bx i ds sc acc).env=E at *;generalize (if L2 acc then bx.length else bx.length+1)=off at *;generalize bx++Kd sc acc=B at *;generalize bx++Kd sc (12 :: acc)=B2 at *;rw [<- N2];simp only [S8,Je,seval,Jc,laid,z6,z55,EC,I4,hl,eY];exact ⟨_,rfl⟩
 by_cases e13:j=13
 · subst e13
   simp only [opsOf,Aa,Ac,Aaz,Aay,Aaw,Aav,Aau] at Bb;injection Bb with Bb
   subst Bb;refine ⟨rfl,fun al=>?_⟩;have d11:acc.contains 11=true:=GA ⟨11,.data⟩ (by simp) rfl;have d9:acc.contains 9=true:=GA ⟨9,.data⟩ (by simp) rfl;have z7:getT (C2 e bx i ds sc acc).env 7=.bp (if L2 acc then bx.length+1 else bx.length) 0:=BT e _ 11 7 _ d11 _ (by unfold FQ;simp) JE;have z60:getT (C2 e bx i ds sc acc).env 60=.agg sc:=BT e _ 9 60 _ d9 _ (by unfold FQ;simp) JE;have EC:=Aam bx sc hl h1 acc d11 hD;have hn:C2 e bx i ds sc (13 :: acc)=⟨(C2 e bx i ds sc acc).env,bx++Kd sc (13 :: acc)⟩:=by unfold C2;simp only;rw [NO,Ih (by first | (rw [d11] <;> rfl) | (rw [d11,Abd])),Hc e _ 13 _ (by unfold FQ;simp)]
   have I4:=lX;rw [hn,show C2 e bx i ds sc acc=⟨(C2 e bx i ds sc acc).env,bx++Kd sc acc⟩ from rfl];generalize (C2 e bx i ds sc acc).env=E at *;generalize (if L2 acc then bx.length+1 else bx.length)=off at *;generalize bx++Kd sc acc=B at *;generalize bx++Kd sc (13 :: acc)=B2 at *;rw [<- N2];simp only [S8,Je,seval,Jc,laid,z7,z60,EC,I4,hl,eY];exact ⟨_,rfl⟩
 omega
theorem VN {p:UInt8->Bool}:∀ (w R:List UInt8),(∀ b ∈ w,p b=true)->(∀ c r,R=c :: r->p c=false)->(w++R).takeWhile p=w
 | [],[],_,_=>rfl
 | [],c :: r,_,h=>by
  show (c :: r).takeWhile p=[];rw [Abt,h c r rfl];rfl
 | b :: w,R,h1,h2=>by
  rw [Abc,Abt,h1 b (by simp),if_pos rfl,VN w R (fun x hx=>h1 x (by simp [hx])) h2]
theorem VO {p:Nat->Bool} {t:List UInt8} {j:Nat} {w R:List UInt8} (h:t.drop j=w++R) (h1:∀ b ∈ w,p b.toNat=true) (h2:∀ c r,R=c :: r->p c.toNat=false):C6 p t j=j+w.length:=by
 unfold C6;rw [h,VN w R h1 h2]
theorem IX {t:List UInt8} {j:Nat} {w:List UInt8} (h:t.drop j=w) (hw:w≠[]):t.length=j+w.length/\j < t.length:=by
 have h1:(t.drop j).length=w.length:=by rw [h]
 rw [Aby] at h1;have h2:0 < w.length:=List.length_pos_iff.2 hw;omega
theorem FB {t:List UInt8} {j:Nat} {w R:List UInt8} (h:t.drop j=w++R):(t.take (j+w.length)).drop j=w:=by
 rw [List.drop_take,Nat.add_sub_cancel_left,h,List.take_left]
theorem Mr {t:List UInt8} {j:Nat} {c:UInt8} {r:List UInt8} (h:t.drop j=c :: r):Cb t j=c.toNat:=by
 have:=Kz t j 0;rw [Abr,h] at this;exact this
def tC:List UInt8->Nat
 | []=>0
 | d :: _=>d.toNat
theorem eh {t:List UInt8} {j:Nat} {c:UInt8} {R:List UInt8} (h:t.drop j=c :: R):Cb t (j+1)=tC R:=by
 have:=Kz t j 1;rw [h] at this;rw [this];cases R <;> rfl
theorem pJ {s:List UInt8} {i:Nat} {c:UInt8} {r:List UInt8} (h:s.drop i=BL c++r):eQ s i=eQ s (i+(BL c).length):=by
 have hlen:(s.drop i).length=(BL c++r).length:=by rw [h]
 rw [Aby,Ab0] at hlen;have a0:=Kz s i 0;have a2:=Kz s i 2;have a3:=Kz s i 3;rw [h] at a0 a2 a3;rw [Abr] at a0;rcases Jg c with ⟨h1,h2⟩ | ⟨h1,h2,h3⟩ | ⟨x,y,h1,h2,h3,h4⟩
 · rw [h2] at a0 hlen |-
   have a0:Cb s i=92:=a0;have hlen:s.length - i=2+r.length:=hlen;rw [Vr,a0,if_pos ⟨by omega,by decide⟩,if_pos rfl];rfl
 · rw [h3] at a0 hlen |-
   have a0:Cb s i=c.toNat:=a0;have hlen:s.length - i=1+r.length:=hlen;rw [Vr,a0,if_pos ⟨by omega,h1⟩,if_neg h2];rfl
 · rw [h1] at a0 a2 a3 hlen |-
   have a0:Cb s i=92:=a0;have a2:Cb s (i+2)=x.toNat:=a2;have a3:Cb s (i+3)=y.toNat:=a3;have hlen:s.length - i=4+r.length:=hlen
   have ne:∀ z:UInt8,0<=F6 z->z.toNat≠34/\z.toNat≠92:=fun z hz=>by
    unfold F6 oj at hz;split at hz
    · omega
    · split at hz
      · omega
      · omega
   have nx:=ne x h2;have ny:=ne y h3;rw [Vr,a0,if_pos ⟨by omega,by decide⟩,if_pos rfl,Vr,a2,if_pos ⟨by omega,nx.1⟩,if_neg nx.2,show i+2+1=i+3 from rfl,Vr,a3,if_pos ⟨by omega,ny.1⟩,if_neg ny.2];rfl
theorem Zl (s:List UInt8):∀ (t:List UInt8) (i:Nat) (r:List UInt8),s.drop i=t.flatMap BL++34 :: r->eQ s i=i+(t.flatMap BL).length
 | [],i,r,h=>by
  have h:s.drop i=34 :: r:=h;rw [Vr,Mr h,if_neg (fun h=>h.2 rfl)];rfl
 | c :: t,i,r,h=>by
  rw [Abv,Aax] at h;rw [pJ h,Zl s t (i+(BL c).length) r (by rw [<- Abm,h,Abl]),Abv,Ab0,Abo]
theorem xM {n:Nat} (h:sm n=true):pt n=true:=by unfold pt;rw [h];rfl
theorem tD:∀ n:_root_.Fin 256,q8 n.val=true->sm n.val=false/\dg n.val=false/\n.val≠34/\n.val≠32/\n.val≠9/\n.val≠10:=by decide +kernel
theorem tE:∀ n:_root_.Fin 256,q6 n.val=true->sm n.val=false/\dg n.val=false/\n.val≠34/\n.val≠32/\n.val≠9/\n.val≠10/\n.val≠35:=by decide +kernel
theorem xN:∀ n:_root_.Fin 256,sm n.val=true->n.val≠32/\n.val≠9/\n.val≠10/\n.val≠35:=by decide +kernel
def bk:List UInt8->Bool
 | []=>true
 | c :: _=>!pt c.toNat && c != 61
theorem tF {a b:List UInt8} (ha:bk a=true) (hb:bk b=true):bk (a++b)=true:=by
 cases a with
 | nil=>exact hb
 | cons c r=>exact ha
theorem lZ {t:List UInt8} (h:bk t=true):tC t≠61/\∀ c r,t=c :: r->pt c.toNat=false:=by
 cases t with
 | nil=>exact ⟨by decide,fun _ _ h=>by cases h⟩
 | cons c r=>
  unfold bk at h;rw [Ab1,Abi,bne_iff_ne] at h;refine ⟨fun h2=>h.2 ?_,fun d q e=>?_⟩
  · rw [<- Abw];exact h2
  · injection e with e1 e2;subst e1;exact h.1
theorem xO {n:Nat} (h:pt n=false):dg n=false:=by
 unfold pt at h;rw [Ab2,Ab2,Ab2] at h;exact h.1.1.2
def kt (t:Tk):Nat×List UInt8:=(t.1,t.2.1)
def TK (s:List UInt8) (i:Nat) (acc:List Tk):List Tk×Nat×Int:=tk s (sk s i) acc
def Lo (w:List UInt8) (ts:List (Nat×List UInt8)):Prop:=∀ (p t:List UInt8) (acc:List Tk),(TK (p++(w++t)) p.length acc).2.2=0 ->
 ∃ us:List Tk,us.map kt=ts/\TK (p++(w++t)) p.length acc=TK (p++(w++t)) (p.length+w.length) (acc++us)
def Lx (w:List UInt8) (ts:List (Nat×List UInt8)):Prop:=∀ (p t:List UInt8) (acc:List Tk),bk t=true->(TK (p++(w++t)) p.length acc).2.2=0 ->
 ∃ us:List Tk,us.map kt=ts/\TK (p++(w++t)) p.length acc=TK (p++(w++t)) (p.length+w.length) (acc++us)
theorem Lo.lx {w ts} (h:Lo w ts):Lx w ts:=fun p t acc _ h0=>h p t acc h0
theorem l8:Lo [] []:=fun p t acc _=>⟨[],rfl,by rw [Ab8];rfl⟩
theorem Da {a b A B} (ha:Lx a A) (hb:Lx b B) (h:bk b=true):Lx (a++b) (A++B):=fun p t acc ht h0=>by
 have e:p++(a++b++t)=p++(a++(b++t)):=by rw [Aax a]
 rw [e] at h0 |-;obtain ⟨us,e1,e2⟩:=ha p (b++t) acc (tF h ht) h0;rw [e2] at h0 |-;rw [<- Aax,<- Ab0] at h0 |-;obtain ⟨vs,e3,e4⟩:=hb (p++a) t (acc++us) ht h0;exact ⟨us++vs,by rw [Abz,e1,e3],by rw [e4,Aax acc,Ab0,Ab0,Abo]⟩
theorem Ef {a b A B} (ha:Lo a A) (hb:Lx b B):Lx (a++b) (A++B):=fun p t acc ht h0=>by
 have e:p++(a++b++t)=p++(a++(b++t)):=by rw [Aax a]
 rw [e] at h0 |-;obtain ⟨us,e1,e2⟩:=ha p (b++t) acc h0;rw [e2] at h0 |-;rw [<- Aax,<- Ab0] at h0 |-;obtain ⟨vs,e3,e4⟩:=hb (p++a) t (acc++us) ht h0;exact ⟨us++vs,by rw [Abz,e1,e3],by rw [e4,Aax acc,Ab0,Ab0,Abo]⟩
theorem IY (p w t:List UInt8):(p++(w++t)).drop p.length=w++t:=Abl
theorem S5 {s:List UInt8} {j:Nat} {acc:List Tk} {k:Nat} {u:Tk} (hj:j < s.length) (hs:sk s j=j) (ho:FJ s j=.inl (u,k)) (h0:(TK s j acc).2.2=0):TK s j acc=TK s k (acc++[u]):=by
 unfold TK at h0 |-;rw [hs,R1 _ (by omega),if_pos hj] at h0 |-;by_cases c:acc.length=4000
 · rw [if_pos c] at h0;cases h0
 · rw [if_neg c,ho]
theorem tG {s:List UInt8} {j:Nat} {acc:List Tk} {e:Int} (hj:j < s.length) (hs:sk s j=j) (ho:FJ s j=.inr e):(TK s j acc).2.2≠0:=by
 have he:=RX ho;unfold TK;rw [hs,R1 _ (by omega),if_pos hj];by_cases c:acc.length=4000
 · rw [if_pos c];exact (by decide:(3:Int)≠0)
 · rw [if_neg c,ho]
   show e≠0;omega
theorem Zm {t:List UInt8} {j n:Nat} (hl:j < t.length) (hn:Cb t j=n) (h1:n≠32) (h2:n≠9) (h3:n≠10) (h4:¬ (n=35/\dg (Cb t (j+1))=false)):sk t j=j:=by
 rw [LS (by omega),if_pos hl,hn,if_neg (by omega),if_neg h4]
theorem Gp (t:List UInt8) (j:Nat):FJ t j=if sm (Cb t j) then .inl ((1,(t.take (C6 pt t j)).drop j,j),C6 pt t j)
 else if dg (Cb t j) then (match Me t j with
  | some k=>.inl ((2,(t.take k).drop j,j),k)
  | none=>.inr 2)
 else if Cb t j=34 then (match Ok t j with
  | some (u,k)=>.inl ((3,u,j),k)
  | none=>.inr 4)
 else if DE t j=0 then .inr 12
 else .inl ((4,(t.take (j+DE t j)).drop j,j),j+DE t j):=rfl
def Pw:List UInt8->Bool
 | []=>false
 | c :: r=>sm c.toNat && r.all fun b=>pt b.toNat
theorem CG {w:List UInt8} (h:Pw w=true):Lx w [(1,w)]:=fun p t acc ht h0=>by
 have hd:=IY p w t;cases w with
 | nil=>cases h
 | cons c r=>
  unfold Pw at h;rw [Ab1,Ab3] at h;have hl:=IX hd (by simp);have e1:Cb (p++(c :: r++t)) p.length=c.toNat:=Mr hd
  have BV:=VO (p:=pt) hd (fun b hb=>by
   rcases Abn.1 hb with rfl | hb
   · exact xM h.1
   · exact h.2 b hb) (lZ ht).2
  have n1:=xN ⟨c.toNat,Abf c⟩ h.1;have qU:=FB hd;generalize p++(c :: r++t)=s at *
  have ho:FJ s p.length=.inl ((1,c :: r,p.length),p.length+(c :: r).length):=by
   rw [Gp,e1,if_pos h.1,BV,qU]
  exact ⟨[(1,c :: r,p.length)],rfl,S5 hl.2 (Zm hl.2 e1 n1.1 n1.2.1 n1.2.2.1 (fun h=>n1.2.2.2 h.1)) ho h0⟩
def pK (w:List UInt8):Bool:=!w.isEmpty && w.all fun b=>dg b.toNat
theorem JA {w:List UInt8} (h:pK w=true):Lx w [(2,w)]:=fun p t acc ht h0=>by
 have hd:=IY p w t;cases w with
 | nil=>cases h
 | cons c r=>
  unfold pK at h;rw [Ab1,Ab3] at h;have hc:=h.2 c (by simp);have hl:=IX hd (by simp);have e1:Cb (p++(c :: r++t)) p.length=c.toNat:=Mr hd;have BV:=VO (p:=dg) hd h.2 (fun c q e=>xO ((lZ ht).2 c q e));have n1:=jS ⟨c.toNat,Abf c⟩ hc;have qU:=FB hd;generalize p++(c :: r++t)=s at *;have hs:=Zm hl.2 e1 n1.2.2.1 n1.2.2.2.1 n1.2.2.2.2.1 (fun h=>n1.2.2.2.2.2 h.1);cases hn:Me s p.length with
  | none=>
   have ho:FJ s p.length=.inr 2:=by rw [Gp,e1,n1.1,if_neg (by simp),if_pos hc,hn]
   exact absurd h0 (tG hl.2 hs ho)
  | some k=>
   have hk:k=p.length+(c :: r).length:=by
    unfold Me at hn;obtain ⟨v,_,hv⟩:=Option.map_eq_some_iff.1 hn;rw [<- hv,BV]
   subst hk
   have ho:FJ s p.length=.inl ((2,c :: r,p.length),p.length+(c :: r).length):=by
    rw [Gp,e1,n1.1,if_neg (by simp),if_pos hc,hn];simp only;rw [qU]
   exact ⟨[(2,c :: r,p.length)],rfl,S5 hl.2 hs ho h0⟩
theorem l9 {w:List UInt8} (vG:w.length<=60):Lo (BD w) [(3,w)]:=fun p t acc h0=>by
 have hd:=IY p (BD w) t;have e0:(p++(BD w++t)).drop p.length=34 :: (w.flatMap BL++34 :: t):=by rw [hd];unfold BD;simp
 have hl:=IX e0 (by simp);have e1:Cb (p++(BD w++t)) p.length=34:=Mr e0;have qU:=FB hd;generalize p++(BD w++t)=s at *;have e2:s.drop (p.length+1)=w.flatMap BL++34 :: t:=by rw [<- Abm,e0];rfl
 have hq:=Zl s w (p.length+1) t e2;have hql:=EF w
 have hlen:s.length=p.length+(1+((w.flatMap BL).length+(1+t.length))):=by
  rw [hl.1,Ab6,Ab0,Ab6];omega
 have qO:Ok s p.length=some (w,p.length+(BD w).length):=by
  have hd:Ok s p.length=if s.length<=eQ s (p.length+1) then none else if (XH ((s.take (eQ s (p.length+1)+1)).drop p.length)).2≠0 then none else some ((XH ((s.take (eQ s (p.length+1)+1)).drop p.length)).1,eQ s (p.length+1)+1):=rfl
  rw [hd,hq,show p.length+1+(w.flatMap BL).length+1=p.length+(BD w).length from by omega,qU,Vo,if_neg (by omega:¬ w.length > 60),if_neg (by omega),if_neg (by simp)]
 have ho:FJ s p.length=.inl ((3,w,p.length),p.length+(BD w).length):=by
  rw [Gp,e1,if_neg (by decide),if_neg (by decide),if_pos rfl,qO]
 exact ⟨[(3,w,p.length)],rfl,S5 hl.2 (Zm hl.2 e1 (by decide) (by decide) (by decide) (fun h=>absurd h.1 (by decide))) ho h0⟩
theorem ma {c:UInt8} {p t:List UInt8} {acc:List Tk} (ho1:q8 c.toNat=true) (ng:c=35->dg (tC t)=true) (qP:q6 c.toNat=true->tC t≠61) (h0:(TK (p++([c]++t)) p.length acc).2.2=0) :
 TK (p++([c]++t)) p.length acc=TK (p++([c]++t)) (p.length+1) (acc++[(4,[c],p.length)]):=by
 have hd:=IY p [c] t;have hl:=IX hd (by simp);have e1:Cb (p++([c]++t)) p.length=c.toNat:=Mr hd;have e2:Cb (p++([c]++t)) (p.length+1)=tC t:=eh hd;have qU:=FB hd;generalize p++([c]++t)=s at *;have n1:=tD ⟨c.toNat,Abf c⟩ ho1;have zx:DE s p.length=1:=by unfold DE;rw [if_neg (fun h=>qP (by rw [<- e1];exact h.2) (by rw [<- e2];exact h.1)),e1,if_pos ho1]
 have ho:FJ s p.length=.inl ((4,[c],p.length),p.length+1):=by
  rw [Gp,e1,n1.1,n1.2.1,zx,if_neg (by simp),if_neg (by simp),if_neg n1.2.2.1,if_neg (by decide)];rw [show p.length+1=p.length+[c].length from rfl,qU]
 exact S5 hl.2 (Zm hl.2 e1 n1.2.2.2.1 n1.2.2.2.2.1 n1.2.2.2.2.2 (fun h=>by
  have:=ng (by rw [<- Abw];exact h.1);rw [<- e2,h.2] at this;cases this)) ho h0
theorem FR {c:UInt8} (h:(q8 c.toNat && !q6 c.toNat && c != 35)=true):Lo [c] [(4,[c])]:=fun p t acc h0=>by
 rw [Ab1,Ab1,Abi,bne_iff_ne] at h;exact ⟨[(4,[c],p.length)],rfl,ma h.1.1 (fun e=>absurd e h.2) (fun e=>by rw [h.1.2] at e;cases e) h0⟩
theorem rF {c:UInt8} (h:(q8 c.toNat && c != 35)=true):Lx [c] [(4,[c])]:=fun p t acc ht h0=>by
 rw [Ab1,bne_iff_ne] at h;exact ⟨[(4,[c],p.length)],rfl,ma h.1 (fun e=>absurd e h.2) (fun _=>(lZ ht).1) h0⟩
theorem ca {c:UInt8} (h:q6 c.toNat=true):Lo [c,61] [(4,[c,61])]:=fun p t acc h0=>by
 have hd:=IY p [c,61] t;have hl:=IX hd (by simp);have e1:Cb (p++([c,61]++t)) p.length=c.toNat:=Mr hd;have e2:Cb (p++([c,61]++t)) (p.length+1)=61:=eh hd;have qU:=FB hd;generalize p++([c,61]++t)=s at *;have n1:=tE ⟨c.toNat,Abf c⟩ h;have zx:DE s p.length=2:=by unfold DE;rw [if_pos ⟨e2,by rw [e1];exact h⟩]
 have ho:FJ s p.length=.inl ((4,[c,61],p.length),p.length+2):=by
  rw [Gp,e1,n1.1,n1.2.1,zx,if_neg (by simp),if_neg (by simp),if_neg n1.2.2.1,if_neg (by decide)];rw [show p.length+2=p.length+[c,61].length from rfl,qU]
 exact ⟨[(4,[c,61],p.length)],rfl,S5 hl.2 (Zm hl.2 e1 n1.2.2.2.1 n1.2.2.2.2.1 n1.2.2.2.2.2.1 (fun h=>n1.2.2.2.2.2.2 h.1)) ho h0⟩
theorem ej {c:UInt8} (h:(c == 32 || c == 10)=true):Lo [c] []:=fun p t acc h0=>by
 have hd:=IY p [c] t;have hl:=IX hd (by simp);have e1:Cb (p++([c]++t)) p.length=c.toNat:=Mr hd;generalize p++([c]++t)=s at *;rw [Abe,beq_iff_eq,beq_iff_eq] at h;refine ⟨[],rfl,?_⟩
 have hs:sk s p.length=sk s (p.length+1):=by
  rw [LS (by omega),if_pos hl.2,e1,if_pos (by rcases h with rfl | rfl <;> decide)]
 unfold TK;rw [hs,Ab8];rfl
theorem pL {w:List UInt8} (h:pK w=true):Lx (35 :: w) [(4,[35]),(2,w)]:=fun p t acc ht h0=>by
 have e:p++(35 :: w++t)=p++([35]++(w++t)):=rfl
 have NV:dg (tC (w++t))=true:=by
  cases w with
  | nil=>cases h
  | cons c r=>
   unfold pK at h;rw [Ab1,Ab3] at h;exact h.2 c (by simp)
 rw [e] at h0 |-;have e2:=ma (c:=35) (p:=p) (t:=w++t) (acc:=acc) (by decide) (fun _=>NV) (fun h=>absurd h (by decide)) h0;rw [e2] at h0 |-;rw [<- Aax,show p.length+1=(p++[35]).length from by simp] at h0 |-;obtain ⟨us,e3,e4⟩:=JA h (p++[35]) t _ ht h0;have e5:(p++[35]).length+w.length=p.length+((35:UInt8) :: w).length:=by simp only [Ab0,Ab6,Ac0];omega
 exact ⟨(4,[35],p.length) :: us,by rw [List.map_cons,e3];rfl,by rw [e4,e5];simp⟩
theorem IZ {b B} (h:Lx b B):Lx (32 :: b) B:=Ef (ej rfl) h
theorem B9 {w b B} (hw:Pw w=true) (h:Lx b B):Lx (w++32 :: b) ((1,w) :: B):=Da (CG hw) (IZ h) rfl
theorem pM {w:List UInt8} {ts} (h:Lx w ts) (h0:(BH w).2.2=0):∃ us:List Tk,us.map kt=ts/\(BH w).1=us++[(0,[],w.length)]/\w.length<=20000:=by
 unfold BH at h0 |-;by_cases c:20000 < w.length
 · rw [if_pos c] at h0;cases h0
 · rw [if_neg c] at h0 |-
   have e:GF (w.length+1) w (DD (w.length+1) w 0) []=TK ([]++(w++[])) ([]:List UInt8).length []:=by rw [Ab7,Ab8];rfl
   rw [e] at h0 |-;obtain ⟨us,e1,e2⟩:=h [] [] [] rfl h0;refine ⟨us,e1,?_,by omega⟩;rw [e2];have e3:([]:List UInt8)++(w++[])=w:=by simp
   rw [e3];unfold TK;rw [show ([]:List UInt8).length+w.length=w.length from Abq _,LS (Abg _),if_neg (by omega),R1 _ (Abg _),if_neg (by omega)];rfl
abbrev KT:=Nat×List UInt8
def Dn (L:List Tk) (i:Nat) (ts:List KT):Prop:=(L.drop i).map kt=ts
def JB (ts:List KT):KT:=ts.headD (0,[])
theorem S6 {L:List Tk} {i:Nat} {ts:List KT} (h:Dn L i ts):kt (tokAt L i)=JB ts:=by
 unfold Dn at h;subst h
 have e:tokAt L i=((L.drop i)[0]?).getD (0,[],0):=by
  unfold tokAt;rw [List.getD_eq_getElem?_getD,List.getElem?_drop,Abr]
 rw [e];cases L.drop i <;> rfl
theorem Gb {L:List Tk} {i:Nat} {ts:List KT} (h:Dn L i ts) (k:Nat) (w:List UInt8):Bs L k w i=((JB ts).1 == k && (JB ts).2 == w):=by
 rw [<- S6 h];rfl
theorem EP {L:List Tk} {i:Nat} {ts:List KT} (h:Dn L i ts):(tokAt L i).1=(JB ts).1:=by
 rw [<- S6 h];rfl
theorem Ms {L:List Tk} {i:Nat} {ts:List KT} (h:Dn L i ts):(tokAt L i).2.1=(JB ts).2:=by
 rw [<- S6 h];rfl
theorem BN {L:List Tk} {i:Nat} {a r:List KT} (h:Dn L i (a++r)):Dn L (i+a.length) r:=by
 unfold Dn at h |-;rw [<- Abm,List.map_drop,h,Abl]
theorem A9 {L:List Tk} {i:Nat} {x:KT} {r:List KT} (h:Dn L i (x :: r)):Dn L (i+1) r:=BN (a:=[x]) h
theorem CT {L:List Tk} {i k:Nat} {w:List UInt8} {r:List KT} (h:Dn L i ((k,w) :: r)):Bs L k w i=true:=by
 rw [Gb h];simp [JB]
theorem eu {ts r:List KT} (h:ts≠[]):JB (ts++r)=JB ts:=by
 cases ts with
 | nil=>exact absurd rfl h
 | cons x s=>rfl
theorem cb {L:List Tk} {i k:Nat} {w:List UInt8} {ts r:List KT} (h:Dn L i (ts++r)) (hn:ts≠[]) (hh:JB ts≠(k,w)):Bs L k w i=false:=by
 rw [Gb h,eu hn];rw [Bool.and_eq_false_iff,beq_eq_false_iff_ne,beq_eq_false_iff_ne];refine Decidable.or_iff_not_imp_left.2 fun h1 h2=>hh ?_;exact Prod.ext (Decidable.of_not_not h1) h2
def LG (t:KT):Nat:=
 if t == (1,[111,114]) then 1 else if t == (1,[97,110,100]) then 2 else if t.1 == 4 && GG.contains t.2 then 4 else if t == (4,[43]) || t == (4,[45]) then 5 else if t == (4,[42]) then 6 else
 if t == (0,[]) || t == (1,[116,104,101,110]) || t == (1,[101,108,115,101]) || t == (4,[41]) || t == (4,[59]) then 0 else 9
theorem JC {L:List Tk} {i l k:Nat} {w:List UInt8} {ts:List KT} (h:Dn L i ts) (hl:LG (JB ts) < l) (hk:l<=LG (k,w)):Bs L k w i=false:=by
 rw [Gb h];cases e:((JB ts).1 == k && (JB ts).2 == w) with
 | false=>rfl
 | true=>
  rw [Ab1,beq_iff_eq,beq_iff_eq] at e;have:JB ts=(k,w):=Prod.ext e.1 e.2;rw [this] at hl;omega
def Rd (L:List Tk) (nt:NT) (o i:Nat) (e:Tr) (j:Nat):Prop:=∃ m,∀ n,m<=n->pz L n nt o i=.ok e j
theorem BU {L:List Tk} {nt:NT} {o i j:Nat} {e:Tr} (h:∃ m,∀ n,m<=n->pz L (n+1) nt o i=.ok e j):Rd L nt o i e j:=by
 obtain ⟨m,h⟩:=h;refine ⟨m+1,fun n hn=>?_⟩;obtain ⟨k,rfl⟩:∃ k,n=k+1:=⟨n - 1,by omega⟩;exact h k (by omega)
def GR (nt:NT) (b:Nat) (ts:List KT) (d:Nat) (e:Tr):Prop:=∀ (L:List Tk) (o i:Nat) (r:List KT),Dn L i (ts++r)->o+d<=100->LG (JB r) < b->Rd L nt o i e (i+ts.length)
def GS (nt:NT) (lp:Tr->NT) (b:Nat) (ts:List KT) (d:Nat) (e:Tr):Prop:=∀ (L:List Tk) (o i:Nat) (r:List KT),Dn L i (ts++r)->o+d<=100->LG (JB r) < b->∀ x j,Rd L (lp e) o (i+ts.length) x j->Rd L nt o i x j
def G:Nat->List KT->Nat->Tr->Prop
 | 0=>GR .expr 1
 | 1=>GR (.chain true) 1
 | 2=>GR (.chain false) 2
 | 3=>GR .not 3
 | 4=>GR .cmp 4
 | 5=>GS .sum .sumL 6
 | 6=>GS .prod .prodL 7
 | 7=>GR .un 7
 | 8=>GR .prim 8
 | _=>fun _ _ _=>False
section
variable {ts:List KT} {d:Nat} {e:Tr}
theorem g8 (h:GR .prim 8 ts d e) (hn:ts≠[]) (hh:JB ts≠(4,[45])):GR .un 7 ts d e:=fun L o i r Bv ho hl=>by
 obtain ⟨m,h⟩:=h L o i r Bv ho (by omega);refine BU ⟨m,fun n hm=>?_⟩;rw [pz,cb Bv hn hh];exact h n hm
theorem g7 (h:GR .un 7 ts d e):GS .prod .prodL 7 ts d e:=fun L o i r Bv ho hl x j ⟨m2,h2⟩=>by
 obtain ⟨m1,h1⟩:=h L o i r Bv ho hl;refine BU ⟨max m1 m2,fun n hm=>?_⟩;rw [pz,h1 n (by omega)];exact h2 n (by omega)
theorem g6c (h:GS .prod .prodL 7 ts d e):GR .prod 6 ts d e:=fun L o i r Bv ho hl=>by
 refine h L o i r Bv ho (by omega) e _ (BU ⟨0,fun n _=>?_⟩);rw [pz,JC (BN Bv) hl (by decide)];rfl
theorem g6 (h:GS .prod .prodL 7 ts d e):GS .sum .sumL 6 ts d e:=fun L o i r Bv ho hl x j ⟨m2,h2⟩=>by
 obtain ⟨m1,h1⟩:=g6c h L o i r Bv ho hl;refine BU ⟨max m1 m2,fun n hm=>?_⟩;rw [pz,h1 n (by omega)];exact h2 n (by omega)
theorem g5c (h:GS .sum .sumL 6 ts d e):GR .sum 5 ts d e:=fun L o i r Bv ho hl=>by
 refine h L o i r Bv ho (by omega) e _ (BU ⟨0,fun n _=>?_⟩);rw [pz,JC (BN Bv) hl (by decide),JC (BN Bv) hl (by decide)];rfl
theorem pN {L:List Tk} {i:Nat} {r:List KT} (Bv:Dn L i r) (hl:LG (JB r) < 4):C0 L 4 i GG 0=none:=by
 have f:∀ w,4<=LG (4,w)->Bs L 4 w i=false:=fun w hw=>JC Bv hl hw;unfold GG;simp only [C0];rw [f _ (by decide),f _ (by decide),f _ (by decide),f _ (by decide),f _ (by decide),f _ (by decide)];rfl
theorem g5 (h:GS .sum .sumL 6 ts d e):GR .cmp 4 ts d e:=fun L o i r Bv ho hl=>by
 obtain ⟨m1,h1⟩:=g5c h L o i r Bv ho (by omega);refine BU ⟨m1,fun n hm=>?_⟩;rw [pz,h1 n hm];show (match C0 L 4 (i+ts.length) GG 0 with | some k=>_ | none=>_)=_;rw [pN (BN Bv) hl]
theorem g4 (h:GR .cmp 4 ts d e) (hn:ts≠[]) (hh:JB ts≠(1,[110,111,116])):GR .not 3 ts d e:=fun L o i r Bv ho hl=>by
 obtain ⟨m,h⟩:=h L o i r Bv ho (by omega);refine BU ⟨m,fun n hm=>?_⟩;rw [pz,cb Bv hn hh];exact h n hm
theorem Xl {b:Bool} {a:List Tr} {L:List Tk} {o i:Nat} {r:List KT} (Bv:Dn L i r) (hl:LG (JB r) < LG (1,Nb b)):Rd L (.chainL b a) o i (jV b a) i:=BU ⟨0,fun n _=>by
 rw [pz,JC Bv hl (Abg _)];rfl⟩
theorem g3 (h:GR .not 3 ts d e):GR (.chain false) 2 ts d e:=fun L o i r Bv ho hl=>by
 obtain ⟨m1,h1⟩:=h L o i r Bv ho (by omega);obtain ⟨m2,h2⟩:=Xl (b:=false) (a:=[e]) (o:=o) (BN Bv) hl;refine BU ⟨max m1 m2,fun n hm=>?_⟩;rw [pz];show (pz L n .not o i).bind _=_;rw [h1 n (by omega)];exact h2 n (by omega)
theorem g2 (h:GR (.chain false) 2 ts d e):GR (.chain true) 1 ts d e:=fun L o i r Bv ho hl=>by
 obtain ⟨m1,h1⟩:=h L o i r Bv ho (by omega);obtain ⟨m2,h2⟩:=Xl (b:=true) (a:=[e]) (o:=o) (BN Bv) hl;refine BU ⟨max m1 m2,fun n hm=>?_⟩;rw [pz];show (pz L n (.chain false) o i).bind _=_;rw [h1 n (by omega)];exact h2 n (by omega)
theorem g1 (h:GR (.chain true) 1 ts d e) (hn:ts≠[]) (hh:JB ts≠(1,[105,102])):GR .expr 1 ts d e:=fun L o i r Bv ho hl=>by
 obtain ⟨m,h⟩:=h L o i r Bv ho (by omega);refine BU ⟨m,fun n hm=>?_⟩;rw [pz,cb Bv hn hh];exact h n hm
def Ta (l:Nat) (ts:List KT):Prop:=ts≠[]/\(1<=l->JB ts≠(1,[105,102]))/\(4<=l->JB ts≠(1,[110,111,116]))/\(8<=l->JB ts≠(4,[45]))
theorem Ta.mono {l l':Nat} (h:Ta l ts) (hl:l'<=l):Ta l' ts:=⟨h.1,fun x=>h.2.1 (by omega),fun x=>h.2.2.1 (by omega),fun x=>h.2.2.2 (by omega)⟩
theorem tH:∀ {l:Nat},G (l+1) ts d e->Ta (l+1) ts->G l ts d e
 | 0,h,hh=>g1 h hh.1 (hh.2.1 (by omega))
 | 1,h,hh=>g2 h
 | 2,h,hh=>g3 h
 | 3,h,hh=>g4 h hh.1 (hh.2.2.1 (by omega))
 | 4,h,hh=>g5 h
 | 5,h,hh=>g6 h
 | 6,h,hh=>g7 h
 | 7,h,hh=>g8 h hh.1 (hh.2.2.2 (by omega))
 | _+8,h,_=>Ac7 h
theorem xP {l:Nat}:∀ {k:Nat},G (l+k) ts d e->Ta (l+k) ts->G l ts d e
 | 0,h,_=>h
 | k+1,h,hh=>xP (k:=k) (tH h hh) (hh.mono (by omega))
theorem GR.mono {nt:NT} {b d':Nat} (h:GR nt b ts d e) (hd:d<=d'):GR nt b ts d' e:=fun L o i r Bv ho hl=>h L o i r Bv (by omega) hl
theorem G.mono {d':Nat} (hd:d<=d'):∀ {l:Nat},G l ts d e->G l ts d' e
 | 0,h | 1,h | 2,h | 3,h | 4,h | 7,h | 8,h=>GR.mono h hd
 | 5,h | 6,h=>fun L o i r Bv ho hl=>h L o i r Bv (by omega) hl
 | _+9,h=>Ac7 h
end
end Go.HH
