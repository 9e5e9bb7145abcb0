/-
  What the law needs, packed: RK RM RN RO RP RQ RR RS RU RV RW RX.
-/
import Derived.Test.YthjcaihemgllaaaGreatDoorJ43
open Option renaming getD->Aa0
open Go.Proofs.Tryz renaming f53->Aa1,f24->Aa4,f48->Aa8
open List renaming map_cons->Aa2,map_nil->Aa3,length_cons->Aa5,length_nil->Aa6,length_map->Aa7,getElem?_eq_some_iff->Aaa,set_cons_zero->Aac,set_cons_succ->Aad,all_append->Aae,drop_zero->Aaf
open Bool renaming false_eq_true->Aa9,and_self->Aab,and_true->Aag
open Nat renaming le_refl->Aah
namespace Go.HH
open Go Go.Proofs
set_option maxRecDepth 100000
set_option maxHeartbeats 4000000
set_option linter.unusedSimpArgs false
set_option linter.unusedVariables false
def DS (r:Rl):PV:=.agg (C4 r.nm r.pr (.sl (r.on.map BR)) (.sl (r.dos.map DZ)) r.ife)
def KP (L:List Tk) (n:Nat) (nm:List UInt8) (i:Nat):PR Rl:=(if Br L 1 [112,114,105,111,114,105,116,121] i then Hq L 0 100 (i+1) else .ok 0 i).bind fun pr i=>(Md L n i).bind fun x i=>.ok ⟨nm,(pr:Nat),x.1,x.2.1,x.2.2⟩ i
theorem wE (T:Code) (hL:T=Ab Aa1 [1,1,1,1,1,1]) {id:Nat} {L:List Tk} {o:Nat} (hT:TokOK L) (RS:List PV) (eA:Al RS=true) (uN:RS.length<=100) (n:Nat) (ho:o=0) (nm:List UInt8) (t0:Tk) {J:List PBox} (hJ:∀ n,(J.all fun x=>x.under n)=true) {i:Nat} (hi:i < L.length) :
 qB T id L (C8 32 RS) o t0 J i (.cells 32 (C4 nm 0 (.nils) (.nils) wT)) (fun r:Rl=>C8 32 (RS++[DS r])) (KP L n nm i):=by
 have hR:=EG 32 RS eA;obtain ⟨T2,hT2⟩:∃ T2,T2=Ab Aa1 [1,1,1,1,1,1,1]:=⟨_,rfl⟩;have Dw:Ab Aa1 [1,1,1,1,1,1]=.seq (Ab Aa1 [1,1,1,1,1,1,0]) T2:=by rw [hT2];rfl
 rw [Dw] at hL;have Xx:∀ n,Ar n (C4 nm 0 .nils .nils wT)=true:=fun n=>De n nm 0 _ _ wT (by simp only [SU]) (by simp only [SU]);unfold KP;cases f0:Br L 1 [112,114,105,111,114,105,116,121] i with
 | false=>
  simp only [Aa9,if_false];dsimp only [Au];have key:=WE (RLg:=(fun r:Rl=>C8 32 (RS++[DS r]))) (g:=fun x:List Tg×Tr×List Sp=>(⟨nm,(0:Nat),x.1,x.2.1,x.2.2⟩:Rl)) (fun b=>rfl) (qD T2 hT2 (id:=id) hT RS eA uN n ho nm ((0:Nat):Int) t0 hJ hi);revert key;generalize ((Md L n i).bind fun x i=>PR.ok (⟨nm,(0:Nat),x.1,x.2.1,x.2.2⟩:Rl) i)=rr;intro key;cases rr with
  | out=>exact Hg
  | bad t c=>
   obtain ⟨i',o',key⟩:=key;refine ⟨i',o',fun bx hid hc e g1 g2 g3=>?_⟩;have key:=key bx hid hc;have hd:∀ k,id < bx.length+k:=fun k=>by omega
   have CA:Al [PV.bp (bx.length+2) 0,PV.bp bx.length 0]=false:=rfl;have Cz:=Xx;have q0:=Aa hid hc hR (Ae (id:=id) (o:=o) hR hi hT _ f0);rw [show ((0:Nat):Int)=0 from rfl] at key;rw [hL];unfold Ap at|-key;rw [<- Cf];rw [<- Cf] at key;rw [<- C3] at q0;simp only [opsOf,Ab,Ac,Aa1,Aa0] at |-;simp only [S9,A5,seval,PY,PZ,AS,Az,g1,g2,g3,hd,hJ,Cz,CA,q0,SX,hid];refine key _ ?_ ?_ ?_
   · simp only [S7,A5,seval,g1]
   · simp only [S7,A5,seval,g2]
   · simp only [S7,A5,seval,g3]
  | ok v j=>
   refine fun bx hid hc e g1 g2 g3=>?_;have key:=key bx hid hc;have hd:∀ k,id < bx.length+k:=fun k=>by omega
   have CA:Al [PV.bp (bx.length+2) 0,PV.bp bx.length 0]=false:=rfl;have Cz:=Xx;have q0:=Aa hid hc hR (Ae (id:=id) (o:=o) hR hi hT _ f0);rw [show ((0:Nat):Int)=0 from rfl] at key;rw [hL];unfold Ap at|-key;rw [<- Cf];rw [<- Cf] at key;rw [<- C3] at q0;simp only [opsOf,Ab,Ac,Aa1,Aa0] at |-;simp only [S9,A5,seval,PY,PZ,AS,Az,g1,g2,g3,hd,hJ,Cz,CA,q0,SX,hid];refine key _ ?_ ?_ ?_
   · simp only [S7,A5,seval,g1]
   · simp only [S7,A5,seval,g2]
   · simp only [S7,A5,seval,g3]
 | true=>
  simp only [if_true];have BF:=AM hT hi f0 (by decide);have h1:=Hd (id:=id) (o:=o) (i:=i+1) hR BF hT 0 100 0 100 rfl rfl;cases r1:Hq L 0 100 (i+1) with
  | out=>exact Hg
  | bad t c=>
   rw [r1] at h1;obtain ⟨i',o',h1⟩:=h1;refine ⟨i',o',fun bx hid hc e g1 g2 g3=>?_⟩;have hd:∀ k,id < bx.length+k:=fun k=>by omega
   have CA:Al [PV.bp (bx.length+2) 0,PV.bp bx.length 0]=false:=rfl;have Cz:=Xx;have q0:=Aa hid hc hR (As (id:=id) (o:=o) hR hi hT _ f0);have t1:=Am hid hc hR h1;rw [hL];unfold Ap;rw [<- Cf];rw [<- C3] at q0 t1;simp only [opsOf,Ab,Ac,Aa1,Aa0] at |-;simp only [S9,A5,seval,PY,PZ,AS,Az,g1,g2,g3,hd,hJ,Cz,CA,q0,t1,SX,hid];exact ⟨_,_,rfl⟩
  | ok a i1=>
   rw [r1] at h1;dsimp only [Au];have Gu:=(Ft hT BF r1).2.1;have key:=WE (RLg:=(fun r:Rl=>C8 32 (RS++[DS r]))) (g:=fun x:List Tg×Tr×List Sp=>(⟨nm,(a:Nat),x.1,x.2.1,x.2.2⟩:Rl)) (fun b=>rfl) (qD T2 hT2 (id:=id) hT RS eA uN n ho nm ((a:Nat):Int) t0 hJ Gu);revert key;generalize ((Md L n i1).bind fun x i=>PR.ok (⟨nm,(a:Nat),x.1,x.2.1,x.2.2⟩:Rl) i)=rr;intro key;cases rr with
   | out=>exact Hg
   | bad t c=>
    obtain ⟨i',o',key⟩:=key;refine ⟨i',o',fun bx hid hc e g1 g2 g3=>?_⟩;have key:=key bx hid hc;have hd:∀ k,id < bx.length+k:=fun k=>by omega
    have CA:Al [PV.bp (bx.length+2) 0,PV.bp bx.length 0]=false:=rfl;have Cz:=Xx;have q0:=Aa hid hc hR (As (id:=id) (o:=o) hR hi hT _ f0);have t1:=Aa hid hc hR h1;unfold wT zK at Cz |-;simp only [C9,BS,SU,Aab,Aag] at Cz;simp only [C9,BS];unfold wT zK at key;simp only [C9,BS] at key;rw [hL];unfold Ap at|-key;rw [<- Cf];rw [<- Cf] at key;rw [<- C3] at q0 t1;simp only [opsOf,Ab,Ac,Aa1,Aa0] at |-;simp only [S9,A5,seval,PY,PZ,AS,Az,g1,g2,g3,hd,hJ,Cz,CA,q0,t1,CH,SX,hid];refine key _ ?_ ?_ ?_
    · simp only [S7,A5,seval,g1]
    · simp only [S7,A5,seval,g2]
    · simp only [S7,A5,seval,g3]
   | ok v j=>
    refine fun bx hid hc e g1 g2 g3=>?_;have key:=key bx hid hc;have hd:∀ k,id < bx.length+k:=fun k=>by omega
    have CA:Al [PV.bp (bx.length+2) 0,PV.bp bx.length 0]=false:=rfl;have Cz:=Xx;have q0:=Aa hid hc hR (As (id:=id) (o:=o) hR hi hT _ f0);have t1:=Aa hid hc hR h1;unfold wT zK at Cz |-;simp only [C9,BS,SU,Aab,Aag] at Cz;simp only [C9,BS];unfold wT zK at key;simp only [C9,BS] at key;rw [hL];unfold Ap at|-key;rw [<- Cf];rw [<- Cf] at key;rw [<- C3] at q0 t1;simp only [opsOf,Ab,Ac,Aa1,Aa0] at |-;simp only [S9,A5,seval,PY,PZ,AS,Az,g1,g2,g3,hd,hJ,Cz,CA,q0,t1,CH,SX,hid];refine key _ ?_ ?_ ?_
    · simp only [S7,A5,seval,g1]
    · simp only [S7,A5,seval,g2]
    · simp only [S7,A5,seval,g3]
def oo (r:Rl):PBox:=.cells 32 (C4 r.nm r.pr (.sl (r.on.map BR)) (.sl (r.dos.map DZ)) r.ife)
theorem YB {α:Type} (J:List α) (x y:α):(J++[x]).set J.length y=J++[y]:=by rw [List.set_append_right _ _ (Aah _),Nat.sub_self];rfl
theorem Vi (n:Nat) (r:Rl):(oo r).under n=true:=by
 show Ar n (C4 r.nm r.pr (.sl (r.on.map BR)) (.sl (r.dos.map DZ)) r.ife)=true;exact De n _ _ _ _ _ (by simp only [PV.under];exact B4 BR Dd n _) (by simp only [PV.under];exact B4 DZ DJ n _)
theorem Ud {J K:List PBox} (hJ:∀ n,(J.all fun x=>x.under n)=true) (hK:∀ n,(K.all fun x=>x.under n)=true):∀ n,((J++K).all fun x=>x.under n)=true:=fun n=>by rw [Aae,hJ,hK];rfl
theorem aU (rs:List Rl):∀ n,((rs.map oo).all fun x=>x.under n)=true:=fun n=>by
 rw [List.all_eq_true];intro x hx;obtain ⟨r,_,rfl⟩:=List.mem_map.1 hx;exact Vi n r
def zu (Lc:Code) (id:Nat) (L:List Tk) (RL:PV) (i o:Nat) (t0:Tk) (nm:List UInt8) (rs:List Rl) (k:Nat) (b:Bool):Prop:=∀ (bx:List PBox) (hid:id < bx.length) (hc:DN bx) (J:List PBox) (hJ:∀ n,(J.all fun x=>x.under n)=true) (e:List PV),getT e 1=.bp bx.length 0->getT e 2=.bp (bx.length+1) 0->getT e 3=.bp (bx.length+2) 0->(rs=[]\/getT e 31=.sl (rs.map DS))->getT e 32=.int .i64 (rs.length:Int)->getT e 33=.int .i64 (k:Int) ->
 if b=true then ∃ e' ys',Lh CC Lc ⟨e,(BX bx id (Ap L i o RL) (.cells 86 [.bp id 0] :: .cells 80 [.int .i64 (t0.1:Int),.str t0.2.1,.int .i64 (t0.2.2:Int)] :: .cells 32 (C4 nm 0 (.nils) (.nils) wT) :: J))⟩=some (.pan (B7 t0.2.2 9),⟨e',BX bx id (Ap L i o RL) ys'⟩)
 else ∃ e',Lh CC Lc ⟨e,(BX bx id (Ap L i o RL) (.cells 86 [.bp id 0] :: .cells 80 [.int .i64 (t0.1:Int),.str t0.2.1,.int .i64 (t0.2.2:Int)] :: .cells 32 (C4 nm 0 (.nils) (.nils) wT) :: J))⟩=some (.exit 0,⟨e',(BX bx id (Ap L i o RL) (.cells 86 [.bp id 0] :: .cells 80 [.int .i64 (t0.1:Int),.str t0.2.1,.int .i64 (t0.2.2:Int)] :: .cells 32 (C4 nm 0 (.nils) (.nils) wT) :: (J++(rs.drop k).map oo)))⟩)/\getT e' 1=.bp bx.length 0/\getT e' 2=.bp (bx.length+1) 0/\getT e' 3=.bp (bx.length+2) 0
theorem aV (Lc:Code) (hL:Lc=Ab Aa1 [1,1,1,1,1,0,1,0]) {id:Nat} {L:List Tk} {RL:PV} {i o:Nat} (hR:RL.pure=true) (t0:Tk) (nm:List UInt8) (rs:List Rl) (yX:rs.length<=100):∀ (m k:Nat),k+m=rs.length->zu Lc id L RL i o t0 nm rs k ((rs.drop k).any fun r=>r.nm == nm):=by
 have Xx:∀ n,Ar n (C4 nm 0 .nils .nils wT)=true:=fun n=>De n nm 0 _ _ wT (by simp only [SU]) (by simp only [SU]);intro m
 induction m with
 | zero=>
  intro k hk bx hid hc J hJ e g1 g2 g3 g31 g32 g33;have IQ:rs.drop k=[]:=List.drop_of_length_le (by omega);have Bz:¬ ((k:Int) < (rs.length:Int)):=by omega
  rw [IQ];simp only [List.any_nil,Aa9,if_false,Aa3,List.append_nil];generalize rs.map DS=xs at *;generalize rs.length=xl at *;have Cz:=Xx;have hd:∀ k,id < bx.length+k:=fun k=>by omega
  have CA:Al [PV.bp (bx.length+2) 0,PV.bp bx.length 0]=false:=rfl;rw [Ev (Ab Aa1 [1,1,1,1,1,0,1,0,0]) hL];unfold Ap;rw [<- Cf];simp only [opsOf,Ab,Ac,Aa1,Aa0] at |-;simp only [S9,A5,seval,PY,PZ,AS,Az,g1,g2,g3,hd,hJ,Cz,CA,g32,g33,Bz,SX,hid];exact ⟨_,rfl,by simp only [S7,A5,seval,g1],by simp only [S7,A5,seval,g2],by simp only [S7,A5,seval,g3]⟩
 | succ m ih=>
  intro k hk bx hid hc J hJ e g1 g2 g3 g31 g32 g33;have g31:getT e 31=.sl (rs.map DS):=g31.resolve_left (fun h=>by rw [h] at hk;simp at hk);have Bz:((k:Int) < (rs.length:Int)):=by omega
  have uH:¬ ((k:Int) < 0):=by omega
  have IQ:rs.drop k=(rs[k]'(by omega)) :: rs.drop (k+1):=List.drop_eq_getElem_cons (by omega);have hx:(rs.map DS)[k]?=some (DS (rs[k]'(by omega))):=by rw [List.getElem?_map,List.getElem?_eq_getElem (by omega)];rfl
  have hlen:(rs.map DS).length=rs.length:=Aa7 _;have hw:IntKind.wrap .i64 ((k:Int)+1)=((k+1:Nat):Int):=by rw [wrap_i64 ⟨by omega,by omega⟩];omega
  have yh:=Ud hJ (K:=[oo (rs[k]'(by omega))]) (fun n=>by simp only [List.all_cons,List.all_nil,Vi,Aab]);have key:=fun e=>ih (k+1) (by omega) bx hid hc (J++[oo (rs[k]'(by omega))]) yh e;rw [List.append_assoc,List.singleton_append,<- Aa2,<- IQ] at key;have Mr:=YB J;have gV:=fun x:PBox=>List.getElem?_concat_length (l:=J) (a:=x);have ht:=Am hid hc hR (CD (id:=id) (i:=i) (o:=o) (L:=L) (RL:=RL) hR t0.1 t0.2.1 t0.2.2 9);have uO:((rs.drop k).any fun r=>r.nm == nm)=((rs[k]'(by omega)).nm == nm || (rs.drop (k+1)).any fun r=>r.nm == nm):=by rw [IQ,List.any_cons]
  rw [uO];generalize ((rs.drop (k+1)).any fun r=>r.nm == nm)=b at *;generalize rs[k]'(by omega)=x at *;generalize (rs.drop k).map oo=Kx at *;generalize rs.map DS=xs at *;generalize rs.length=xl at *;obtain ⟨xn,xp,xon,⟨xk,xkn,xm,xs_,xv,xq,xkids⟩,xdo⟩:=x;unfold oo DS at *;unfold wT zK at *;simp only [C9,BS] at *;have hs:EB BinOp.eql xn nm=some (.bool (xn == nm)):=rfl;cases hn:xn == nm with
  | true=>
   simp only [Bool.true_or,if_true];have Cz:=Xx;have tgu:=fun n=>B4 BR Dd n xon;have spu:=fun n=>B4 DZ DJ n xdo;have hd:∀ k,id < bx.length+k:=fun k=>by omega
   have CA:Al [PV.bp (bx.length+2) 0,PV.bp bx.length 0]=false:=rfl;rw [Ev (Ab Aa1 [1,1,1,1,1,0,1,0,0]) hL];unfold Ap;rw [<- Cf];rw [<- C3] at ht;simp only [opsOf,Ab,Ac,Aa1,Aa0] at |-;simp only [S9,A5,seval,PY,PZ,AS,Az,g1,g2,g3,hd,hJ,Cz,CA,g31,g32,g33,Bz,uH,hx,hlen,hw,Mr,gV,hs,hn,CH,ht,tgu,spu,Aae,SX,hid];exact ⟨_,_,rfl⟩
  | false=>
   simp only [Bool.false_or];have Cz:=Xx;have hd:∀ k,id < bx.length+k:=fun k=>by omega
   have CA:Al [PV.bp (bx.length+2) 0,PV.bp bx.length 0]=false:=rfl;rw [Ev (Ab Aa1 [1,1,1,1,1,0,1,0,0]) hL];unfold Ap at|-key;rw [<- Cf];rw [<- Cf] at key;simp only [opsOf,Ab,Ac,Aa1,Aa0] at |-;simp only [S9,A5,seval,PY,PZ,AS,Az,g1,g2,g3,hd,hJ,Cz,CA,g31,g32,g33,Bz,uH,hx,hlen,hw,Mr,gV,hs,hn,CH,SX,hid];refine key _ ?_ ?_ ?_ ?_ ?_ ?_
   · simp only [S7,A5,seval,g1]
   · simp only [S7,A5,seval,g2]
   · simp only [S7,A5,seval,g3]
   · exact Or.inr (by simp only [S7,A5,seval,g31])
   · simp only [S7,A5,seval,g32]
   · simp only [S7,A5,seval]
def wF {β:Type} (T:Code) (id:Nat) (L:List Tk) (RL:PV) (o:Nat) (i:Nat) (RLn:β->PV) (r:PR β):Prop:=match r with
 | .ok b j=>∀ (bx:List PBox) (hid:id < bx.length) (hc:DN bx) (e:List PV),getT e 1=.bp bx.length 0->∃ e' ys',Lh CC T ⟨e,BX bx id (Ap L i o RL) [.cells 86 [.bp id 0]]⟩=some (.normal,⟨e',BX bx id (Ap L j o (RLn b)) ys'⟩)
 | .bad t c=>∃ i' o',∀ (bx:List PBox) (hid:id < bx.length) (hc:DN bx) (e:List PV),getT e 1=.bp bx.length 0->∃ e' ys',Lh CC T ⟨e,BX bx id (Ap L i o RL) [.cells 86 [.bp id 0]]⟩=some (.pan (B7 t c),⟨e',BX bx id (Ap L i' o' RL) ys'⟩)
 | .out=>True
theorem aW {β:Type} {T:Code} {id:Nat} {L:List Tk} {RL:PV} {o:Nat} {i:Nat} {RLn:β->PV}:wF T id L RL o i RLn .out:=trivial
theorem bRl (nm:List UInt8) (k n m v1 v2 q1:Int) (s v3 q2 q3:List UInt8) (ks:List PV):A9 CC 32 [(0,.str nm),(3,.agg [.int .i64 k,.int .i64 n,.int .i64 m,.str s,.int .i64 v1,.int .i64 v2,.str v3,.int .i64 q1,.str q2,.str q3,.sl ks])]=some (.agg [.str nm,.int .i64 0,.nils,.int .i64 k,.int .i64 n,.int .i64 m,.str s,.int .i64 v1,.int .i64 v2,.str v3,.int .i64 q1,.str q2,.str q3,.sl ks,.nils]):=by kernel_rfl
theorem Fy (r:Rl):(DS r).pure=true:=by
 obtain ⟨nm,pr,on,⟨k,n,m,s,v,q,kids⟩,dos⟩:=r;have h1:=AY kids;have h2:=map_pure BR fW on;have h3:=map_pure DZ jV dos;unfold DS;rw [C9];simp only [PV.pure,Al,h1,h2,h3,Aab]
def Pg (L:List Tk) (n:Nat) (rs:List Rl) (i:Nat):PR Rl:=(Bs L 1 [114,117,108,101] i).bind fun _ i0=>(DG L i0).bind fun nm i=>if (rs.any fun r=>r.nm == nm)=true then .bad (atT L i0) 9 else KP L n nm i
theorem wG (T:Code) (hL:T=Ab Aa1 [1,1]) {id:Nat} {L:List Tk} {o:Nat} (hT:TokOK L) (rs:List Rl) (yX:rs.length<=100) (n:Nat) (ho:o=0) {i:Nat} (hi:i < L.length) :
 wF T id L (C8 32 (rs.map DS)) o i (fun r=>C8 32 ((rs++[r]).map DS)) (Pg L n rs i):=by
 have eA:=map_pure DS Fy rs;have hR:=EG 32 _ eA;obtain ⟨T1,yi⟩:∃ T1,T1=Ab Aa1 [1,1,1,1,1,1]:=⟨_,rfl⟩;have Dw:Ab Aa1 [1,1]=.seq (Ab Aa1 [1,1,0]) (.seq (Ab Aa1 [1,1,1,0]) (.seq (Ab Aa1 [1,1,1,1,0]) (.seq (Ab Aa1 [1,1,1,1,1,0]) T1))):=by rw [yi];rfl
 rw [Dw] at hL;have hJ:∀ n,(([]:List PBox).all fun x=>x.under n)=true:=fun _=>rfl;have Cz:∀ k:Nat,k<=k:=fun k=>Aah _;unfold Pg;have h1:=Cb (id:=id) (o:=o) (i:=i) hR hi hT 1 1 rfl [114,117,108,101];cases r1:Bs L 1 [114,117,108,101] i with
 | out=>exact aW
 | bad t c=>
  rw [r1] at h1;obtain ⟨i',o',h1⟩:=h1;refine ⟨i',o',fun bx hid hc e g1=>?_⟩;have t1:=Am hid hc hR h1;have g2:=g1;have g3:=g1;have hd:∀ k,id < bx.length+k:=fun k=>by omega
  have CA:Al [PV.bp (bx.length+2) 0,PV.bp bx.length 0]=false:=rfl;rw [hL];unfold Ap;rw [<- Cf];rw [<- C3] at t1;simp only [opsOf,Ab,Ac,Aa1,Aa0] at |-;simp only [S9,A5,seval,PY,PZ,AS,Az,g1,g2,g3,hd,hJ,Cz,CA,t1,SX,hid];exact ⟨_,_,rfl⟩
 | ok u i0=>
  rw [r1] at h1;dsimp only [Au];have D3:=(AW hT hi (by decide) r1).2;have h2:=Hc (id:=id) (o:=o) (i:=i0) hR D3 hT;have hl:=aO 1 1;rw [show El 1 1=.mk 1 0 0 [] (1,1,[]) (0,[],[]) [] from rfl] at hl;simp only [R3,BS] at hl;cases r2:DG L i0 with
  | out=>exact aW
  | bad t c=>
   rw [r2] at h2;obtain ⟨i',o',h2⟩:=h2;refine ⟨i',o',fun bx hid hc e g1=>?_⟩;have t1:=Aa hid hc hR h1;have t0:=Aa hid hc hR (AA (id:=id) (o:=o) hR D3);have t2:=Am hid hc hR h2;have g2:=g1;have g3:=g1;have hd:∀ k,id < bx.length+k:=fun k=>by omega
   have CA:Al [PV.bp (bx.length+2) 0,PV.bp bx.length 0]=false:=rfl;rw [hL];unfold Ap;rw [<- Cf];rw [<- C3] at t1 t0 t2;simp only [opsOf,Ab,Ac,Aa1,Aa0] at |-;simp only [S9,A5,seval,PY,PZ,AS,Az,g1,g2,g3,hd,hJ,Cz,CA,t1,t0,t2,SX,hid];exact ⟨_,_,rfl⟩
  | ok nm i1=>
   rw [r2] at h2;dsimp only [Au];have BF:=(CI hT D3 r2).2;have Af:=aV _ rfl (id:=id) (L:=L) (RL:=C8 32 (rs.map DS)) (i:=i1) (o:=o) hR (tokAt L i0) nm rs yX rs.length 0 (by omega);rw [Aaf] at Af;have Ms:=bRl nm;cases hb:(rs.any fun r=>r.nm == nm) with
   | true=>
    rw [hb] at Af;simp only [if_true];unfold zu at Af;simp only [if_true] at Af;refine ⟨i1,o,fun bx hid hc e g1=>?_⟩;cases rs with
    | nil=>cases hb
    | cons x rs=>
     have hd:∀ k,id < bx.length+k:=fun k=>by omega
     have CA:Al [PV.bp (bx.length+2) 0,PV.bp bx.length 0]=false:=rfl;have t1:=Aa hid hc hR h1;have t0:=Aa hid hc hR (AA (id:=id) (o:=o) hR D3);have t2:=Aa hid hc hR h2;have g2:=g1;have g3:=g1;have SY:=hc;have Af:=Af bx hid hc [] hJ;rw [hL];simp only [Ab,Ac,Aa1,Aa0] at Af |-;unfold Ap at Af |-;unfold wT zK at Af;simp only [C9,BS] at Af;simp only [Aa3,Aa2,BM,BZ,Aa6,Aa5] at Af t1 t0 t2 |-;rw [<- Cf];rw [<- Cf] at Af;rw [<- C3] at t1 t0 t2 hl;simp only [S9,A5,seval,PY,PZ,AS,Az,g1,hd,hJ,CA,t1,t0,t2,hl,Ms,CH,SX,hid];generalize hE:S5 _ _=z
     have hP:∃ e' ys',z=some (.pan (B7 (tokAt L i0).2.2 9),⟨e',BX bx id (Ap L i1 o (C8 32 (DS x :: rs.map DS))) ys'⟩):=by
      rw [<- hE];refine Af _ ?_ ?_ ?_ ?_ ?_ ?_
      · simp only [S7,A5,seval,g1]
      · simp only [S7,A5,seval,g1]
      · simp only [S7,A5,seval,g1]
      · exact Or.inr (by simp only [S7,A5,seval])
      · simp only [S7,A5,seval,Aa7];try rfl
      · simp only [S7,A5,seval];try rfl
     obtain ⟨e',ys',he⟩:=hP;subst he;clear hE Af;unfold Ap atT;simp only [S9,A5,seval,PY,PZ,AS,Az,SX,hid];exact ⟨_,_,rfl⟩
   | false=>
    rw [hb] at Af;simp only [Aa9,if_false];unfold zu at Af;simp only [Aa9,if_false,Aaf] at Af
    have key:qB T1 id L (C8 32 (rs.map DS)) o (tokAt L i0) (rs.map oo) i1 (.cells 32 (C4 nm 0 (.nils) (.nils) wT)) (fun r=>C8 32 ((rs++[r]).map DS)) (KP L n nm i1):=by
     simp only [List.map_append,Aa2,Aa3];exact wE T1 yi hT _ eA (by rw [Aa7];exact yX) n ho nm (tokAt L i0) (aU rs) BF
    revert key;generalize KP L n nm i1=rr;intro key;generalize rs.map oo=KB at key Af;unfold wT zK at key;simp only [C9,BS] at key;cases rr with
    | out=>exact aW
    | bad t c=>
     obtain ⟨i',o',key⟩:=key;refine ⟨i',o',fun bx hid hc e g1=>?_⟩;have key:=key bx hid hc;cases rs with
     | nil=>
      simp only [Aa3,Aa2,BM,BZ] at key;have hd:∀ k,id < bx.length+k:=fun k=>by omega
      have CA:Al [PV.bp (bx.length+2) 0,PV.bp bx.length 0]=false:=rfl;have t1:=Aa hid hc hR h1;have t0:=Aa hid hc hR (AA (id:=id) (o:=o) hR D3);have t2:=Aa hid hc hR h2;have g2:=g1;have g3:=g1;have SY:=hc;have Af:=Af bx hid hc [] hJ;rw [hL];simp only [Ab,Ac,Aa1,Aa0] at Af |-;unfold Ap at Af |-;unfold wT zK at Af;simp only [C9,BS] at Af;simp only [Aa3,Aa2,BM,BZ,Aa6,Aa5] at Af t1 t0 t2 |-;rw [<- Cf];rw [<- Cf] at Af;rw [<- C3] at t1 t0 t2 hl;simp only [S9,A5,seval,PY,PZ,AS,Az,g1,hd,hJ,CA,t1,t0,t2,hl,Ms,CH,SX,hid];generalize hE:S5 _ _=z
      have hP:∃ e',z=some (.exit 0,⟨e',BX bx id (Ap L i1 o (C8 32 [])) (.cells 86 [.bp id 0] :: .cells 80 [.int .i64 ((tokAt L i0).1:Int),.str (tokAt L i0).2.1,.int .i64 ((tokAt L i0).2.2:Int)] :: .cells 32 [.str nm,.int .i64 0,.nils,.int .i64 1,.int .i64 0,.int .i64 0,.str [],.int .i64 1,.int .i64 1,.str [],.int .i64 0,.str [],.str [],.sl [],.nils] :: ([]++KB))⟩)/\getT e' 1=.bp bx.length 0/\getT e' 2=.bp (bx.length+1) 0/\getT e' 3=.bp (bx.length+2) 0:=by
       rw [<- hE];refine Af _ ?_ ?_ ?_ ?_ ?_ ?_
       · simp only [S7,A5,seval,g1]
       · simp only [S7,A5,seval,g1]
       · simp only [S7,A5,seval,g1]
       · exact Or.inl (by trivial)
       · simp only [S7,A5,seval];try rfl
       · simp only [S7,A5,seval];try rfl
      obtain ⟨e',he,k1,k2,k3⟩:=hP;subst he;clear hE Af;unfold Ap at key |-;rw [<- Cf] at key;simp only [S9,A5,seval,PY,PZ,AS,Az,SX,hid];exact key _ k1 k2 k3
     | cons x rs=>
      simp only [Aa3,Aa2,BM,BZ] at key;have hd:∀ k,id < bx.length+k:=fun k=>by omega
      have CA:Al [PV.bp (bx.length+2) 0,PV.bp bx.length 0]=false:=rfl;have t1:=Aa hid hc hR h1;have t0:=Aa hid hc hR (AA (id:=id) (o:=o) hR D3);have t2:=Aa hid hc hR h2;have g2:=g1;have g3:=g1;have SY:=hc;have Af:=Af bx hid hc [] hJ;rw [hL];simp only [Ab,Ac,Aa1,Aa0] at Af |-;unfold Ap at Af |-;unfold wT zK at Af;simp only [C9,BS] at Af;simp only [Aa3,Aa2,BM,BZ,Aa6,Aa5] at Af t1 t0 t2 |-;rw [<- Cf];rw [<- Cf] at Af;rw [<- C3] at t1 t0 t2 hl;simp only [S9,A5,seval,PY,PZ,AS,Az,g1,hd,hJ,CA,t1,t0,t2,hl,Ms,CH,SX,hid];generalize hE:S5 _ _=z
      have hP:∃ e',z=some (.exit 0,⟨e',BX bx id (Ap L i1 o (C8 32 (DS x :: rs.map DS))) (.cells 86 [.bp id 0] :: .cells 80 [.int .i64 ((tokAt L i0).1:Int),.str (tokAt L i0).2.1,.int .i64 ((tokAt L i0).2.2:Int)] :: .cells 32 [.str nm,.int .i64 0,.nils,.int .i64 1,.int .i64 0,.int .i64 0,.str [],.int .i64 1,.int .i64 1,.str [],.int .i64 0,.str [],.str [],.sl [],.nils] :: ([]++KB))⟩)/\getT e' 1=.bp bx.length 0/\getT e' 2=.bp (bx.length+1) 0/\getT e' 3=.bp (bx.length+2) 0:=by
       rw [<- hE];refine Af _ ?_ ?_ ?_ ?_ ?_ ?_
       · simp only [S7,A5,seval,g1]
       · simp only [S7,A5,seval,g1]
       · simp only [S7,A5,seval,g1]
       · exact Or.inr (by simp only [S7,A5,seval])
       · simp only [S7,A5,seval,Aa7];try rfl
       · simp only [S7,A5,seval];try rfl
      obtain ⟨e',he,k1,k2,k3⟩:=hP;subst he;clear hE Af;unfold Ap at key |-;rw [<- Cf] at key;simp only [S9,A5,seval,PY,PZ,AS,Az,SX,hid];exact key _ k1 k2 k3
    | ok v j=>
     refine fun bx hid hc e g1=>?_;have key:=key bx hid hc;generalize C8 32 ((rs++[v]).map DS)=X at key |-;cases rs with
     | nil=>
      simp only [Aa3,Aa2,BM,BZ] at key;have hd:∀ k,id < bx.length+k:=fun k=>by omega
      have CA:Al [PV.bp (bx.length+2) 0,PV.bp bx.length 0]=false:=rfl;have t1:=Aa hid hc hR h1;have t0:=Aa hid hc hR (AA (id:=id) (o:=o) hR D3);have t2:=Aa hid hc hR h2;have g2:=g1;have g3:=g1;have SY:=hc;have Af:=Af bx hid hc [] hJ;rw [hL];simp only [Ab,Ac,Aa1,Aa0] at Af |-;unfold Ap at Af |-;unfold wT zK at Af;simp only [C9,BS] at Af;simp only [Aa3,Aa2,BM,BZ,Aa6,Aa5] at Af t1 t0 t2 |-;rw [<- Cf];rw [<- Cf] at Af;rw [<- C3] at t1 t0 t2 hl;simp only [S9,A5,seval,PY,PZ,AS,Az,g1,hd,hJ,CA,t1,t0,t2,hl,Ms,CH,SX,hid];generalize hE:S5 _ _=z
      have hP:∃ e',z=some (.exit 0,⟨e',BX bx id (Ap L i1 o (C8 32 [])) (.cells 86 [.bp id 0] :: .cells 80 [.int .i64 ((tokAt L i0).1:Int),.str (tokAt L i0).2.1,.int .i64 ((tokAt L i0).2.2:Int)] :: .cells 32 [.str nm,.int .i64 0,.nils,.int .i64 1,.int .i64 0,.int .i64 0,.str [],.int .i64 1,.int .i64 1,.str [],.int .i64 0,.str [],.str [],.sl [],.nils] :: ([]++KB))⟩)/\getT e' 1=.bp bx.length 0/\getT e' 2=.bp (bx.length+1) 0/\getT e' 3=.bp (bx.length+2) 0:=by
       rw [<- hE];refine Af _ ?_ ?_ ?_ ?_ ?_ ?_
       · simp only [S7,A5,seval,g1]
       · simp only [S7,A5,seval,g1]
       · simp only [S7,A5,seval,g1]
       · exact Or.inl (by trivial)
       · simp only [S7,A5,seval];try rfl
       · simp only [S7,A5,seval];try rfl
      obtain ⟨e',he,k1,k2,k3⟩:=hP;subst he;clear hE Af;unfold Ap at key |-;rw [<- Cf] at key;simp only [S9,A5,seval,PY,PZ,AS,Az,SX,hid];exact key _ k1 k2 k3
     | cons x rs=>
      simp only [Aa3,Aa2,BM,BZ] at key;have hd:∀ k,id < bx.length+k:=fun k=>by omega
      have CA:Al [PV.bp (bx.length+2) 0,PV.bp bx.length 0]=false:=rfl;have t1:=Aa hid hc hR h1;have t0:=Aa hid hc hR (AA (id:=id) (o:=o) hR D3);have t2:=Aa hid hc hR h2;have g2:=g1;have g3:=g1;have SY:=hc;have Af:=Af bx hid hc [] hJ;rw [hL];simp only [Ab,Ac,Aa1,Aa0] at Af |-;unfold Ap at Af |-;unfold wT zK at Af;simp only [C9,BS] at Af;simp only [Aa3,Aa2,BM,BZ,Aa6,Aa5] at Af t1 t0 t2 |-;rw [<- Cf];rw [<- Cf] at Af;rw [<- C3] at t1 t0 t2 hl;simp only [S9,A5,seval,PY,PZ,AS,Az,g1,hd,hJ,CA,t1,t0,t2,hl,Ms,CH,SX,hid];generalize hE:S5 _ _=z
      have hP:∃ e',z=some (.exit 0,⟨e',BX bx id (Ap L i1 o (C8 32 (DS x :: rs.map DS))) (.cells 86 [.bp id 0] :: .cells 80 [.int .i64 ((tokAt L i0).1:Int),.str (tokAt L i0).2.1,.int .i64 ((tokAt L i0).2.2:Int)] :: .cells 32 [.str nm,.int .i64 0,.nils,.int .i64 1,.int .i64 0,.int .i64 0,.str [],.int .i64 1,.int .i64 1,.str [],.int .i64 0,.str [],.str [],.sl [],.nils] :: ([]++KB))⟩)/\getT e' 1=.bp bx.length 0/\getT e' 2=.bp (bx.length+1) 0/\getT e' 3=.bp (bx.length+2) 0:=by
       rw [<- hE];refine Af _ ?_ ?_ ?_ ?_ ?_ ?_
       · simp only [S7,A5,seval,g1]
       · simp only [S7,A5,seval,g1]
       · simp only [S7,A5,seval,g1]
       · exact Or.inr (by simp only [S7,A5,seval])
       · simp only [S7,A5,seval,Aa7];try rfl
       · simp only [S7,A5,seval];try rfl
      obtain ⟨e',he,k1,k2,k3⟩:=hP;subst he;clear hE Af;unfold Ap at key |-;rw [<- Cf] at key;simp only [S9,A5,seval,PY,PZ,AS,Az,SX,hid];exact key _ k1 k2 k3
theorem jW {α β γ:Type} (r:PR α) (f:α->Nat->PR β) (g:β->Nat->PR γ):(r.bind f).bind g=r.bind fun a i=>(f a i).bind g:=by cases r <;> rfl
theorem YC (L:List Tk) (n:Nat) (rs:List Rl) (i:Nat):JF L n rs i=if Br L 1 [114,117,108,101] i=true/\rs.length=40 then .bad (atT L i) 3 else Pg L n rs i:=by
 unfold JF Pg KP Md;simp only [jW,Au]
def wH (id:Nat) (L:List Tk) (rs:List Rl) (o i:Nat) (r:PR Rl):Prop:=match r with
 | .ok v j=>∀ B,M4 L i o (C8 32 (rs.map DS)) id B->Ai CC (Ad CC) 53 [.bp id 0] B=some (.ret (.tup []),B.set id (Ap L j o (C8 32 ((rs++[v]).map DS))))
 | .bad t c=>∃ i' o',M5 53 [] id L (C8 32 (rs.map DS)) i o t c i' o'
 | .out=>True
theorem jX {id:Nat} {L:List Tk} {o:Nat} (hT:TokOK L) (rs:List Rl) (yX:rs.length<=40) (n:Nat) (ho:o=0) {i:Nat} (hi:i < L.length):wH id L rs o i (JF L n rs i):=by
 have eA:=map_pure DS Fy rs;have hR:=EG 32 _ eA;rw [YC];obtain ⟨T,yi⟩:∃ T,T=Ab Aa1 [1,1]:=⟨_,rfl⟩;have Dw:Aa1.body.getD .skip=.seq (Ab Aa1 [0]) (.seq (Ab Aa1 [1,0]) T):=by rw [yi];rfl
 have key:=wG T yi (id:=id) hT rs (by omega) n ho hi;cases hk:Br L 1 [114,117,108,101] i with
 | false=>
  rw [if_neg (by simp)];revert key;generalize Pg L n rs i=rr;intro key;cases rr with
  | out=>trivial
  | bad t c=>
   obtain ⟨i',o',key⟩:=key;refine ⟨i',o',Aw hR fun bx hid hc=>?_⟩;have hd:∀ k,id < bx.length+k:=fun k=>by omega
   have tis:=Aa hid hc hR (Dt (id:=id) (o:=o) hR hi 1 1 rfl [114,117,108,101]);rw [hk] at tis;have key:=key bx hid hc;rw [Bt rfl];rw [Dw];unfold Ap at|-key;rw [<- Cf];rw [<- Cf] at key;rw [<- C3] at tis;simp only [opsOf,Ab,Ac,Aa1,Aa0] at |-;simp only [S9,A5,seval,PY,PZ,AS,Az,hd,tis,SX,hid];generalize hE:S5 T _=z
   have hP:∃ e' ys',z=some (.pan (B7 t c),⟨e',BX bx id (Ap L i' o' (C8 32 (rs.map DS))) ys'⟩):=by
    rw [<- hE];refine key _ ?_
    first | rfl | (simp only [S7,A5,seval];done) | (simp only [S7,A5,seval] <;> rfl)
   obtain ⟨e',ys',he⟩:=hP;subst he;clear hE key;unfold Ap;simp only [S9,A5,seval,PY,PZ,AS,Az,SX,hid];exact ⟨_,rfl⟩
  | ok v j=>
   have hX:(C8 32 ((rs++[v]).map DS)).pure=true:=EG _ _ (map_pure DS Fy _);refine fun B hB=>LN (P:=Ap L i o (C8 32 (rs.map DS))) (by simp [Al,PV.pure]) hB.1 hB.2 (Bl L _ _ hX) (by simp [CR.under,PV.under,Ar]) ?_;have hid:=(Aaa.1 hB.2).1;have hc:=hB.1;clear hX;unfold wF at key;dsimp only at key;generalize C8 32 ((rs++[v]).map DS)=X at key |-;generalize B=bx at *;have hd:∀ k,id < bx.length+k:=fun k=>by omega
   have tis:=Aa hid hc hR (Dt (id:=id) (o:=o) hR hi 1 1 rfl [114,117,108,101]);rw [hk] at tis;have key:=key bx hid hc;rw [Bt rfl];rw [Dw];unfold Ap at|-key;rw [<- Cf];rw [<- Cf] at key;rw [<- C3] at tis;simp only [opsOf,Ab,Ac,Aa1,Aa0] at |-;simp only [S9,A5,seval,PY,PZ,AS,Az,hd,tis,SX,hid];generalize hE:S5 T _=z
   have hP:∃ e' ys',z=some (.normal,⟨e',BX bx id (Ap L j o X) ys'⟩):=by
    rw [<- hE];refine key _ ?_
    first | rfl | (simp only [S7,A5,seval];done) | (simp only [S7,A5,seval] <;> rfl)
   obtain ⟨e',ys',he⟩:=hP;subst he;clear hE key;unfold Ap;simp only [S9,A5,seval,PY,PZ,AS,Az,SX,hid];exact ⟨_,rfl⟩
 | true=>
  cases rs with
  | nil=>
   rw [if_neg (by simp)];have VH:(((0:Nat):Int) == 40)=false:=rfl;revert key;generalize Pg L n [] i=rr;intro key;cases rr with
   | out=>trivial
   | bad t c=>
    obtain ⟨i',o',key⟩:=key;refine ⟨i',o',Aw hR fun bx hid hc=>?_⟩;have hd:∀ k,id < bx.length+k:=fun k=>by omega
    have tis:=Aa hid hc hR (Dt (id:=id) (o:=o) hR hi 1 1 rfl [114,117,108,101]);rw [hk] at tis;have key:=key bx hid hc
    try simp only [Aa3,BM] at tis
    try simp only [Aa3,BM] at |-
    try simp only [Aa3,BM] at key
    rw [Bt rfl];rw [Dw];unfold Ap at|-key;rw [<- Cf];rw [<- Cf] at key;rw [<- C3] at tis;simp only [opsOf,Ab,Ac,Aa1,Aa0] at |-;simp only [S9,A5,seval,PY,PZ,AS,Az,hd,tis,SX,VH,hid];generalize hE:S5 T _=z
    have hP:∃ e' ys',z=some (.pan (B7 t c),⟨e',BX bx id (Ap L i' o' .nils) ys'⟩):=by
     rw [<- hE];refine key _ ?_
     first | rfl | (simp only [S7,A5,seval];done) | (simp only [S7,A5,seval] <;> rfl)
    obtain ⟨e',ys',he⟩:=hP;subst he;clear hE key;unfold Ap;simp only [S9,A5,seval,PY,PZ,AS,Az,SX,hid];exact ⟨_,rfl⟩
   | ok v j=>
    have hX:(C8 32 (([]++[v]).map DS)).pure=true:=EG _ _ (map_pure DS Fy _);refine fun B hB=>LN (P:=Ap L i o (C8 32 ([].map DS))) (by simp [Al,PV.pure]) hB.1 hB.2 (Bl L _ _ hX) (by simp [CR.under,PV.under,Ar]) ?_;have hid:=(Aaa.1 hB.2).1;have hc:=hB.1;clear hX;unfold wF at key;dsimp only at key;generalize C8 32 (([]++[v]).map DS)=X at key |-;generalize B=bx at *;have hd:∀ k,id < bx.length+k:=fun k=>by omega
    have tis:=Aa hid hc hR (Dt (id:=id) (o:=o) hR hi 1 1 rfl [114,117,108,101]);rw [hk] at tis;have key:=key bx hid hc
    try simp only [Aa3,BM] at tis
    try simp only [Aa3,BM] at |-
    try simp only [Aa3,BM] at key
    rw [Bt rfl];rw [Dw];unfold Ap at|-key;rw [<- Cf];rw [<- Cf] at key;rw [<- C3] at tis;simp only [opsOf,Ab,Ac,Aa1,Aa0] at |-;simp only [S9,A5,seval,PY,PZ,AS,Az,hd,tis,SX,VH,hid];generalize hE:S5 T _=z
    have hP:∃ e' ys',z=some (.normal,⟨e',BX bx id (Ap L j o X) ys'⟩):=by
     rw [<- hE];refine key _ ?_
     first | rfl | (simp only [S7,A5,seval];done) | (simp only [S7,A5,seval] <;> rfl)
    obtain ⟨e',ys',he⟩:=hP;subst he;clear hE key;unfold Ap;simp only [S9,A5,seval,PY,PZ,AS,Az,SX,hid];exact ⟨_,rfl⟩
  | cons x rs=>
   by_cases mG:(x :: rs).length=40
   · rw [if_pos ⟨rfl,mG⟩]
     have VH:((((rs.map DS).length+1:Nat):Int) == 40)=true:=by rw [Aa7];simp only [Aa5] at mG;rw [mG];rfl
     refine ⟨i,o,Aw hR fun bx hid hc=>?_⟩;have hd:∀ k,id < bx.length+k:=fun k=>by omega
     have tis:=Aa hid hc hR (Dt (id:=id) (o:=o) hR hi 1 1 rfl [114,117,108,101]);rw [hk] at tis;have ER:=fun e g1=>oi (id:=id) (L:=L) (i:=i) (o:=o) hR hid hc hi e g1
     try simp only [Aa2,BZ] at tis
     try simp only [Aa2,BZ] at |-
     try simp only [Aa2,BZ] at ER
     rw [Bt rfl];rw [Dw];simp only [<- A6 wD] at ER;unfold Ap at|-ER;rw [<- Cf];rw [<- IQ] at ER;rw [<- C3] at tis;simp only [opsOf,Ab,Ac,Aa1,Aa0] at|-ER;simp only [S9,A5,seval,PY,PZ,AS,Az,hd,tis,SX,VH,ER,hid];exact ⟨_,rfl⟩
   · rw [if_neg (fun h=>mG h.2)]
     have VH:((((rs.map DS).length+1:Nat):Int) == 40)=false:=by rw [Aa7];simp only [Aa5] at mG;exact beq_eq_false_iff_ne.2 (by omega)
     revert key;generalize Pg L n (x :: rs) i=rr;intro key;cases rr with
     | out=>trivial
     | bad t c=>
      obtain ⟨i',o',key⟩:=key;refine ⟨i',o',Aw hR fun bx hid hc=>?_⟩;have hd:∀ k,id < bx.length+k:=fun k=>by omega
      have tis:=Aa hid hc hR (Dt (id:=id) (o:=o) hR hi 1 1 rfl [114,117,108,101]);rw [hk] at tis;have key:=key bx hid hc
      try simp only [Aa2,BZ] at tis
      try simp only [Aa2,BZ] at |-
      try simp only [Aa2,BZ] at key
      rw [Bt rfl];rw [Dw];unfold Ap at|-key;rw [<- Cf];rw [<- Cf] at key;rw [<- C3] at tis;simp only [opsOf,Ab,Ac,Aa1,Aa0] at |-;simp only [S9,A5,seval,PY,PZ,AS,Az,hd,tis,SX,VH,hid];generalize hE:S5 T _=z
      have hP:∃ e' ys',z=some (.pan (B7 t c),⟨e',BX bx id (Ap L i' o' (.osl 32 (DS x :: rs.map DS))) ys'⟩):=by
       rw [<- hE];refine key _ ?_
       first | rfl | (simp only [S7,A5,seval];done) | (simp only [S7,A5,seval] <;> rfl)
      obtain ⟨e',ys',he⟩:=hP;subst he;clear hE key;unfold Ap;simp only [S9,A5,seval,PY,PZ,AS,Az,SX,hid];exact ⟨_,rfl⟩
     | ok v j=>
      have hX:(C8 32 (((x :: rs)++[v]).map DS)).pure=true:=EG _ _ (map_pure DS Fy _);refine fun B hB=>LN (P:=Ap L i o (C8 32 ((x :: rs).map DS))) (by simp [Al,PV.pure]) hB.1 hB.2 (Bl L _ _ hX) (by simp [CR.under,PV.under,Ar]) ?_;have hid:=(Aaa.1 hB.2).1;have hc:=hB.1;clear hX;unfold wF at key;dsimp only at key;generalize C8 32 (((x :: rs)++[v]).map DS)=X at key |-;generalize B=bx at *;have hd:∀ k,id < bx.length+k:=fun k=>by omega
      have tis:=Aa hid hc hR (Dt (id:=id) (o:=o) hR hi 1 1 rfl [114,117,108,101]);rw [hk] at tis;have key:=key bx hid hc
      try simp only [Aa2,BZ] at tis
      try simp only [Aa2,BZ] at |-
      try simp only [Aa2,BZ] at key
      rw [Bt rfl];rw [Dw];unfold Ap at|-key;rw [<- Cf];rw [<- Cf] at key;rw [<- C3] at tis;simp only [opsOf,Ab,Ac,Aa1,Aa0] at |-;simp only [S9,A5,seval,PY,PZ,AS,Az,hd,tis,SX,VH,hid];generalize hE:S5 T _=z
      have hP:∃ e' ys',z=some (.normal,⟨e',BX bx id (Ap L j o X) ys'⟩):=by
       rw [<- hE];refine key _ ?_
       first | rfl | (simp only [S7,A5,seval];done) | (simp only [S7,A5,seval] <;> rfl)
      obtain ⟨e',ys',he⟩:=hP;subst he;clear hE key;unfold Ap;simp only [S9,A5,seval,PY,PZ,AS,Az,SX,hid];exact ⟨_,rfl⟩
theorem R4:Be CC Aa8 (Aa8.body.getD .skip)=true:=by kernel_rfl
theorem P3:CC.P.funcs[48]?=some Aa8:=by kernel_rfl
theorem HK {x:List PV} {b:List PBox} (h:x.length.ble Aa8.ntmps=true):Ad CC 48 x b=CM CC Aa8.results.toList (Co CC (Aa8.body.getD .skip) ⟨x,b⟩):=Ah (fn:=Aa8) (c:=Aa8.body.getD .skip) rfl rfl P3 rfl R4 (Nat.le_of_ble_eq_true h)
theorem zw (t e:Int):A9 CC 84 [(0,.int .i64 t),(1,.int .i64 e)]=some (.agg [.int .i64 t,.int .i64 e]):=by kernel_rfl
theorem zx (xs:List PV):A9 CC 92 [(0,.sl xs)]=some (.agg [.sl xs,.int .i64 0,.int .i64 0,.nils]):=by kernel_rfl
theorem Ue (s:List UInt8) (hs:s.length<=40000) (h0:(BD s).2.2=0) (bx:List PBox):Ad CC 48 [.str s] bx=some (.ret (.bp bx.length 0),bx++[Ap (BD s).1 0 0 .nils]):=by
 have ht:=HX s (by omega) bx;rw [h0] at ht;rw [HK rfl];unfold Ap;generalize Bj (BD s).1=xs at *;rw [<- An];rw [<- AL] at ht;simp only [Ab,Ac,Aa8,Aa0];simp only [S9,Ag,seval,yA,ht,zx,CX,Az]
 try rfl
theorem R5 (s:List UInt8) (hs:s.length<=40000) (h0:(BD s).2.2≠0) (bx:List PBox):Ad CC 48 [.str s] bx=some (.pan (B7 (BD s).2.1 (BD s).2.2),bx):=by
 have ht:=HX s (by omega) bx;have hz:((BD s).2.2 != 0)=true:=by simp [bne_iff_ne,h0]
 rw [HK rfl];unfold B7;generalize Bj (BD s).1=xs at *;generalize (BD s).2.2=er at *;generalize (BD s).2.1=ta at *;rw [<- An];rw [<- AL] at ht;simp only [Ab,Ac,Aa8,Aa0];simp only [S9,Ag,seval,yA,ht,hz,zw,ju,CX,Az]
 try rfl
def Ed (L:List Tk) (n:Nat):Nat->List Rl->Nat->PR (List Rl)
 | 0,_,_=>.out
 | m+1,rs,i=>if (tokAt L i).1=0 then .ok rs i else (JF L n rs i).bind fun r i=>Ed L n m (rs++[r]) i
theorem jY {L:List Tk} (hT:TokOK L) {n:Nat} {nm:List UInt8} {i:Nat} {a:Rl} {j:Nat} (hi:i < L.length) (h:KP L n nm i=.ok a j):j < L.length:=by
 unfold KP Md at h;obtain ⟨pr,i1,r1,h⟩:=Aj h
 have h1:i1 < L.length:=by
  split at r1
  · rename_i hk
    have:=AM hT hi hk (by decide);exact (Ft hT this r1).2.1
  · injection r1 with _ r1
    exact r1 ▸ hi
 obtain ⟨x,i9,r2,h⟩:=Aj h;injection h with _ h
 subst h;obtain ⟨_,i2,r3,r2⟩:=Aj r2;have h2:=(AW hT h1 (by decide) r3).2;obtain ⟨on,i3,r4,r2⟩:=Aj r2;have h3:=(Gl hT (fun i a j hi h=>E6 hT hi h) 10 [] i2 on i3 h2 (by simp) r4).1;obtain ⟨e,i4,r5,r2⟩:=Aj r2
 have h4:i4 < L.length:=by
  split at r5
  · rename_i hk
    have mA:=AM hT h3 hk (by decide);obtain ⟨_,i5,r6,r5⟩:=Aj r5;have h5:=(E3 hT mA r6).2;obtain ⟨_,i6,r7,r5⟩:=Aj r5;injection r5 with _ r5
    exact r5 ▸ (AW hT h5 (by decide) r7).2
  · injection r5 with _ r5
    exact r5 ▸ h3
 obtain ⟨dos,i5,r6,r2⟩:=Aj r2;have h5:=(Gl hT (fun i a j hi h=>KO hT hi h) 10 [] i4 dos i5 h4 (by simp) r6).1;obtain ⟨_,i6,r7,r2⟩:=Aj r2;injection r2 with _ r2
 exact r2 ▸ (AW hT h5 (by decide) r7).2
theorem R6 {L:List Tk} (hT:TokOK L) {n:Nat} {rs:List Rl} {i:Nat} {a:Rl} {j:Nat} (hi:i < L.length) (h:JF L n rs i=.ok a j):j < L.length/\rs.length≠40:=by
 rw [YC] at h;split at h
 · cases h
 · rename_i hn
   unfold Pg at h;obtain ⟨_,i0,r0,h⟩:=Aj h
   have hk:Br L 1 [114,117,108,101] i=true:=by
    unfold Bs at r0;split at r0
    · assumption
    · cases r0
   have h0:=(AW hT hi (by decide) r0).2;obtain ⟨nm,i1,r1,h⟩:=Aj h;have h1:=(CI hT h0 r1).2;split at h
   · cases h
   · exact ⟨jY hT h1 h,fun e=>hn ⟨hk,e⟩⟩
def fX (Lc:Code) (L:List Tk) (rs:List Rl) (i:Nat) (r:PR (List Rl)):Prop:=match r with
 | .ok l j=>∀ e:List PV,getT e 2=.bp 0 0->getT e 3=.bp 1 0->getT e 4=.bp 2 0->getT e 5=.bp 3 0->∃ e',Co CC Lc ⟨e,[.cells 41 [.nils],.cells 3 [.int .i64 0],.cells 35 [.int .i64 0],Ap L i 0 (C8 32 (rs.map DS))]⟩=some (.exit 0,⟨e',[.cells 41 [.nils],.cells 3 [.int .i64 0],.cells 35 [.int .i64 0],Ap L j 0 (C8 32 (l.map DS))]⟩)/\getT e' 2=.bp 0 0/\getT e' 3=.bp 1 0/\getT e' 4=.bp 2 0/\getT e' 5=.bp 3 0
 | .bad t c=>∀ e:List PV,getT e 2=.bp 0 0->getT e 3=.bp 1 0->getT e 4=.bp 2 0->getT e 5=.bp 3 0->∃ (e':List PV) (i' o':Nat) (rs':List Rl),Co CC Lc ⟨e,[.cells 41 [.nils],.cells 3 [.int .i64 0],.cells 35 [.int .i64 0],Ap L i 0 (C8 32 (rs.map DS))]⟩=some (.pan (B7 t c),⟨e',[.cells 41 [.nils],.cells 3 [.int .i64 0],.cells 35 [.int .i64 0],Ap L i' o' (C8 32 (rs'.map DS))]⟩)/\getT e' 2=.bp 0 0/\getT e' 3=.bp 1 0/\getT e' 4=.bp 2 0
 | .out=>True
theorem jZ (L:List Tk) (i o:Nat) (rs:List Rl):M4 L i o (C8 32 (rs.map DS)) 3 [.cells 41 [.nils],.cells 3 [.int .i64 0],.cells 35 [.int .i64 0],Ap L i o (C8 32 (rs.map DS))]:=by
 refine ⟨?_,rfl⟩;have:=Bl (n:=4) L i o (EG 32 _ (map_pure DS Fy rs));unfold DN;simp only [SU,Aa5,Aa6,this,Aab]
theorem Me (Lc:Code) (hL:Lc=Ab Aa4 [1,1,1,0,0]) {L:List Tk} (hT:TokOK L) (n:Nat):∀ (m:Nat) (rs:List Rl) (i:Nat),rs.length<=40->i < L.length->fX Lc L rs i (Ed L n m rs i):=by
 intro m
 induction m with
 | zero=>intro rs i _ _;trivial
 | succ m ih=>
  intro rs i VH hi;have hR:=EG 32 _ (map_pure DS Fy rs);have AS:Al [PV.bp 3 0]=false:=rfl;have t0:=AA (id:=3) (o:=0) hR hi _ (jZ L i 0 rs);simp only [Aad,Aac] at t0;have hz:=Ok (tokAt L i).1 0;have pZ:((0:Nat):Int)=0:=rfl;rw [Ed];by_cases hk:(tokAt L i).1=0
  · rw [if_pos hk]
    have hz:((((tokAt L i).1:Nat):Int) != 0)=false:=by rw [hk];rfl
    refine fun e g2 g3 g4 g5=>?_;rw [A3 (Ab Aa4 [1,1,1,0,0,0]) hL];generalize C8 32 (rs.map DS)=RV at *;unfold Ap at t0 |-
    try simp only [pZ] at t0
    rw [<- An];rw [<- AL] at t0;simp only [Ab,Ac,Aa4,Aa0];simp only [S9,Ag,seval,PY,AS,Az,g5,t0,hz];exact ⟨_,rfl,by simp only [S7,Ag,seval,g2],by simp only [S7,Ag,seval,g3],by simp only [S7,Ag,seval,g4],by simp only [S7,Ag,seval,g5]⟩
  · rw [if_neg hk]
    have hz:((((tokAt L i).1:Nat):Int) != 0)=true:=by simp [hk]
    have h1:=jX (id:=3) (o:=0) hT rs VH n rfl hi;cases r1:JF L n rs i with
    | out=>trivial
    | bad t c=>
     rw [r1] at h1;obtain ⟨i',o',h1⟩:=h1;refine fun e g2 g3 g4 g5=>?_;have t1:=h1 _ (jZ L i 0 rs);simp only [Aad,Aac] at t1;refine Exists.elim (?_:∃ e',Co CC Lc ⟨e,[.cells 41 [.nils],.cells 3 [.int .i64 0],.cells 35 [.int .i64 0],Ap L i 0 (C8 32 (rs.map DS))]⟩=some (.pan (B7 t c),⟨e',[.cells 41 [.nils],.cells 3 [.int .i64 0],.cells 35 [.int .i64 0],Ap L i' o' (C8 32 (rs.map DS))]⟩)/\getT e' 2=.bp 0 0/\getT e' 3=.bp 1 0/\getT e' 4=.bp 2 0) (fun e' h=>⟨e',i',o',rs,h⟩);rw [A3 (Ab Aa4 [1,1,1,0,0,0]) hL];generalize C8 32 (rs.map DS)=RV at *;unfold Ap at t0 t1 |-
     try simp only [pZ] at t0
     try simp only [pZ] at t1
     rw [<- An];rw [<- AL] at t0 t1;simp only [Ab,Ac,Aa4,Aa0];simp only [S9,Ag,seval,PY,AS,Az,g5,t0,t1,hz];exact ⟨_,rfl,by simp only [S7,Ag,seval,g2],by simp only [S7,Ag,seval,g3],by simp only [S7,Ag,seval,g4]⟩
    | ok r i1=>
     rw [r1] at h1;dsimp only [Au];have Bz:=R6 hT hi r1;have key:=ih (rs++[r]) i1 (by rw [List.length_append];simp only [Aa5,Aa6];omega) Bz.1;have t1:=h1 _ (jZ L i 0 rs);simp only [Aad,Aac] at t1;cases r2:Ed L n m (rs++[r]) i1 with
     | out=>trivial
     | bad t c=>
      rw [r2] at key;refine fun e g2 g3 g4 g5=>?_;unfold fX at key;dsimp only at key;rw [A3 (Ab Aa4 [1,1,1,0,0,0]) hL];generalize C8 32 (rs.map DS)=RV at *;generalize C8 32 ((rs++[r]).map DS)=RW at *;unfold Ap at t0 t1 key |-
      try simp only [pZ] at t0
      try simp only [pZ] at t1
      try simp only [pZ] at key
      rw [<- An];rw [<- An] at key;rw [<- AL] at t0 t1;simp only [Ab,Ac,Aa4,Aa0];simp only [S9,Ag,seval,PY,AS,Az,g5,t0,t1,hz];refine key _ ?_ ?_ ?_ ?_
      · simp only [S7,Ag,seval,g2]
      · simp only [S7,Ag,seval,g3]
      · simp only [S7,Ag,seval,g4]
      · simp only [S7,Ag,seval,g5]
     | ok l j=>
      rw [r2] at key;refine fun e g2 g3 g4 g5=>?_;unfold fX at key;dsimp only at key;rw [A3 (Ab Aa4 [1,1,1,0,0,0]) hL];generalize C8 32 (rs.map DS)=RV at *;generalize C8 32 ((rs++[r]).map DS)=RW at *;unfold Ap at t0 t1 key |-
      try simp only [pZ] at t0
      try simp only [pZ] at t1
      try simp only [pZ] at key
      rw [<- An];rw [<- An] at key;rw [<- AL] at t0 t1;simp only [Ab,Ac,Aa4,Aa0];simp only [S9,Ag,seval,PY,AS,Az,g5,t0,t1,hz];refine key _ ?_ ?_ ?_ ?_
      · simp only [S7,Ag,seval,g2]
      · simp only [S7,Ag,seval,g3]
      · simp only [S7,Ag,seval,g4]
      · simp only [S7,Ag,seval,g5]
theorem KQ (s:List UInt8) (hs:s.length<=40000) (h0:(BD s).2.2=0) (bx:List PBox):Ai CC (Ad CC) 48 [.str s] bx=some (.ret (.bp bx.length 0),bx++[Ap (BD s).1 0 0 .nils]):=by
 unfold Ai;rw [if_pos (show (CC.heap 48 || !Al [PV.str s])=true from rfl),Ue s hs h0 bx];simp only;unfold Es;rw [if_neg (by simp [CR.under,PV.under])]
theorem WG (s:List UInt8) (hs:s.length<=40000) (h0:(BD s).2.2≠0):Ai CC (Ad CC) 48 [.str s] [.cells 41 [.nils],.cells 3 [.int .i64 0],.cells 35 [.int .i64 0]]=some (.pan (B7 (BD s).2.1 (BD s).2.2),[.cells 41 [.nils],.cells 3 [.int .i64 0],.cells 35 [.int .i64 0]]):=by
 unfold Ai;rw [if_pos (show (CC.heap 48 || !Al [PV.str s])=true from rfl),R5 s hs h0 _];simp only;unfold Es;split <;> rfl
theorem YD (x y:Int) (e:List PV) (r:List PBox) (k2:getT e 2=.bp 0 0) (k3:getT e 3=.bp 1 0) (k4:getT e 4=.bp 2 0):Lm.post (.pan (.iface 84 (.agg [.int .i64 x,.int .i64 y])),⟨e,.cells 41 [.nils] :: .cells 3 [.int .i64 0] :: .cells 35 [.int .i64 0] :: r⟩)=some (.ret (.tup [.sl [],.int .i64 x,.int .i64 y]),[]):=by
 have h:mJ 1 ⟨e,.cells 41 [.nils] :: .cells 3 [.int .i64 0] :: .cells 35 [.int .i64 0] :: r⟩=true:=by unfold mJ;simp only [k2,k3,k4];rfl
 show (if (decide (84=84) && mJ 1 ⟨e,.cells 41 [.nils] :: .cells 3 [.int .i64 0] :: .cells 35 [.int .i64 0] :: r⟩)=true then some (CR.ret (.tup [fj [.osl 32 []],.int .i64 x,.int .i64 y]),([]:List PBox)) else none)=_;rw [h];rfl
theorem R7 (s:List UInt8) (hs:s.length<=40000) (h0:(BD s).2.2≠0):Ad CC 24 [.str s] []=some (.ret (.tup [.sl [],.int .i64 ((BD s).2.1:Int),.int .i64 (BD s).2.2]),[]):=by
 rw [K5 (k:=Lm) rfl rfl];have AS:Al [PV.bp 3 0]=false:=rfl;have ht:=WG s hs h0;unfold B7 at ht;generalize (BD s).2.2=er at *;generalize (BD s).2.1=ta at *;have GI:Lm.code=Ab Aa4 [1,1]:=rfl;have mn:Lm.pre [.str s] []=some ⟨setT (Ll s) 6 (.fn 51 [] [.bp 0 0,.bp 1 0,.bp 2 0]),[.cells 41 [.nils],.cells 3 [.int .i64 0],.cells 35 [.int .i64 0]]⟩:=rfl;unfold Et;rw [mn,GI]
 have Xn:∃ e',Co CC (Ab Aa4 [1,1]) ⟨setT (Ll s) 6 (.fn 51 [] [.bp 0 0,.bp 1 0,.bp 2 0]),[.cells 41 [.nils],.cells 3 [.int .i64 0],.cells 35 [.int .i64 0]]⟩=some (.pan (.iface 84 (.agg [.int .i64 (ta:Int),.int .i64 er])),⟨e',[.cells 41 [.nils],.cells 3 [.int .i64 0],.cells 35 [.int .i64 0]]⟩)/\getT e' 2=.bp 0 0/\getT e' 3=.bp 1 0/\getT e' 4=.bp 2 0:=by
  unfold Ll;rw [<- An];rw [<- AL] at ht;simp only [Ab,Ac,Aa4,Aa0];simp only [S9,Ag,seval,PY,AS,Az,ht];exact ⟨_,rfl,by simp only [S7,Ag,seval];try rfl,by simp only [S7,Ag,seval];try rfl,by simp only [S7,Ag,seval];try rfl⟩
 obtain ⟨e',he,k2,k3,k4⟩:=Xn;simp only;rw [he];exact YD _ _ e' [] k2 k3 k4
theorem R8 (s:List UInt8) (hs:s.length<=40000) (h0:(BD s).2.2=0) (hT:TokOK (BD s).1) (n m:Nat) {t:Nat} {c:Int} (h:Ed (BD s).1 n m [] 0=.bad t c):Ad CC 24 [.str s] []=some (.ret (.tup [.sl [],.int .i64 (t:Int),.int .i64 c]),[]):=by
 rw [K5 (k:=Lm) rfl rfl];have AS:Al [PV.bp 3 0]=false:=rfl;have ht:=KQ s hs h0 [.cells 41 [.nils],.cells 3 [.int .i64 0],.cells 35 [.int .i64 0]];have Af:=Me _ rfl hT n m [] 0 (by simp) hT.pos;rw [h] at Af;unfold fX at Af;simp only [Aa3,BM] at Af;have GI:Lm.code=Ab Aa4 [1,1]:=rfl;have mn:Lm.pre [.str s] []=some ⟨setT (Ll s) 6 (.fn 51 [] [.bp 0 0,.bp 1 0,.bp 2 0]),[.cells 41 [.nils],.cells 3 [.int .i64 0],.cells 35 [.int .i64 0]]⟩:=rfl;unfold Et;rw [mn,GI]
 have Xn:∃ (e':List PV) (i' o':Nat) (rs':List Rl),Co CC (Ab Aa4 [1,1]) ⟨setT (Ll s) 6 (.fn 51 [] [.bp 0 0,.bp 1 0,.bp 2 0]),[.cells 41 [.nils],.cells 3 [.int .i64 0],.cells 35 [.int .i64 0]]⟩=some (.pan (B7 t c),⟨e',[.cells 41 [.nils],.cells 3 [.int .i64 0],.cells 35 [.int .i64 0],Ap (BD s).1 i' o' (C8 32 (rs'.map DS))]⟩)/\getT e' 2=.bp 0 0/\getT e' 3=.bp 1 0/\getT e' 4=.bp 2 0:=by
  simp only [Ab,Ac,Aa4,Aa0] at Af |-;unfold Ap at Af ht |-;unfold Ll;rw [<- An];rw [<- An] at Af;rw [<- AL] at ht;simp only [S9,Ag,seval,PY,AS,Az,ht];generalize hE:Hp _ _=z
  have hP:∃ (e':List PV) (i' o':Nat) (rs':List Rl),z=some (.pan (B7 t c),⟨e',[.cells 41 [.nils],.cells 3 [.int .i64 0],.cells 35 [.int .i64 0],Ap (BD s).1 i' o' (C8 32 (rs'.map DS))]⟩)/\getT e' 2=.bp 0 0/\getT e' 3=.bp 1 0/\getT e' 4=.bp 2 0:=by
   rw [<- hE];unfold Ap;refine Af _ ?_ ?_ ?_ ?_
   · simp only [S7,Ag,seval];try rfl
   · simp only [S7,Ag,seval];try rfl
   · simp only [S7,Ag,seval];try rfl
   · simp only [S7,Ag,seval];try rfl
  obtain ⟨e',i',o',rs',he,k⟩:=hP;refine ⟨e',i',o',rs',?_,k⟩;subst he;unfold Ap;simp only [S9,Ag,seval,PY,AS,Az]
 obtain ⟨e',i',o',rs',he,k2,k3,k4⟩:=Xn;simp only;rw [he];exact YD _ _ e' _ k2 k3 k4
theorem YE (v:PV) (hv:v.pure=true) (e:List PV) (r:List PBox) (k2:getT e 2=.bp 0 0) (k3:getT e 3=.bp 1 0) (k4:getT e 4=.bp 2 0):Lm.post (.ret,⟨e,.cells 41 [v] :: .cells 3 [.int .i64 0] :: .cells 35 [.int .i64 0] :: r⟩)=some (.ret (.tup [v.ro.shutV,.int .i64 0,.int .i64 0]),[]):=by
 have h:mJ 1 ⟨e,.cells 41 [v] :: .cells 3 [.int .i64 0] :: .cells 35 [.int .i64 0] :: r⟩=true:=by unfold mJ;simp only [k2,k3,k4,AO,Bu,hv];rfl
 show (if mJ 1 ⟨e,.cells 41 [v] :: .cells 3 [.int .i64 0] :: .cells 35 [.int .i64 0] :: r⟩=true then some (CR.ret (.tup [fj [v],.int .i64 0,.int .i64 0]),([]:List PBox)) else none)=_;rw [h];rfl
theorem R9 (s:List UInt8) (hs:s.length<=40000) (h0:(BD s).2.2=0) (hT:TokOK (BD s).1) (n m:Nat) {j:Nat} (h:Ed (BD s).1 n m [] 0=.ok [] j):Ad CC 24 [.str s] []=some (.ret (.tup [.sl [],.int .i64 0,.int .i64 0]),[]):=by
 rw [K5 (k:=Lm) rfl rfl];have AS:Al [PV.bp 3 0]=false:=rfl;have ht:=KQ s hs h0 [.cells 41 [.nils],.cells 3 [.int .i64 0],.cells 35 [.int .i64 0]];have Af:=Me _ rfl hT n m [] 0 (by simp) hT.pos;rw [h] at Af;unfold fX at Af;simp only [Aa3,Aa2,BM,BZ] at Af;skip;skip;have GI:Lm.code=Ab Aa4 [1,1]:=rfl;have mn:Lm.pre [.str s] []=some ⟨setT (Ll s) 6 (.fn 51 [] [.bp 0 0,.bp 1 0,.bp 2 0]),[.cells 41 [.nils],.cells 3 [.int .i64 0],.cells 35 [.int .i64 0]]⟩:=rfl;unfold Et;rw [mn,GI]
 have Xn:∃ (e':List PV) (r:List PBox),Co CC (Ab Aa4 [1,1]) ⟨setT (Ll s) 6 (.fn 51 [] [.bp 0 0,.bp 1 0,.bp 2 0]),[.cells 41 [.nils],.cells 3 [.int .i64 0],.cells 35 [.int .i64 0]]⟩=some (.ret,⟨e',.cells 41 [.nils] :: .cells 3 [.int .i64 0] :: .cells 35 [.int .i64 0] :: r⟩)/\getT e' 2=.bp 0 0/\getT e' 3=.bp 1 0/\getT e' 4=.bp 2 0:=by
  simp only [Ab,Ac,Aa4,Aa0] at Af |-;unfold Ap at Af ht;unfold Ll;rw [<- An];rw [<- An] at Af;rw [<- AL] at ht;simp only [S9,Ag,seval,PY,AS,Az,ht];generalize hE:Hp _ _=z
  have hP:∃ (e':List PV),z=some (.exit 0,⟨e',[.cells 41 [.nils],.cells 3 [.int .i64 0],.cells 35 [.int .i64 0],Ap (BD s).1 j 0 (.nils)]⟩)/\getT e' 2=.bp 0 0/\getT e' 3=.bp 1 0/\getT e' 4=.bp 2 0/\getT e' 5=.bp 3 0:=by
   rw [<- hE];unfold Ap;refine Af _ ?_ ?_ ?_ ?_
   · simp only [S7,Ag,seval];try rfl
   · simp only [S7,Ag,seval];try rfl
   · simp only [S7,Ag,seval];try rfl
   · simp only [S7,Ag,seval];try rfl
  obtain ⟨e',he,k2,k3,k4,k5⟩:=hP;subst he;unfold Ap;simp only [S9,Ag,seval,PY,AS,Az,k2,k3,k4,k5]
  first | exact ⟨_,_,rfl,by simp only [S7,Ag,seval,k2],by simp only [S7,Ag,seval,k3],by simp only [S7,Ag,seval,k4]⟩
 obtain ⟨e',r,he,k2,k3,k4⟩:=Xn;simp only;rw [he];exact YE _ rfl e' r k2 k3 k4
theorem P4 (s:List UInt8) (hs:s.length<=40000) (h0:(BD s).2.2=0) (hT:TokOK (BD s).1) (n m:Nat) {x:Rl} {rs:List Rl} {j:Nat} (h:Ed (BD s).1 n m [] 0=.ok (x :: rs) j):Ad CC 24 [.str s] []=some (.ret (.tup [.sl (DS x :: rs.map DS),.int .i64 0,.int .i64 0]),[]):=by
 rw [K5 (k:=Lm) rfl rfl];have AS:Al [PV.bp 3 0]=false:=rfl;have ht:=KQ s hs h0 [.cells 41 [.nils],.cells 3 [.int .i64 0],.cells 35 [.int .i64 0]];have Af:=Me _ rfl hT n m [] 0 (by simp) hT.pos;rw [h] at Af;unfold fX at Af;simp only [Aa3,Aa2,BM,BZ] at Af;have hpu:(PV.sl (DS x :: rs.map DS)).pure=true:=map_pure DS Fy (x :: rs);generalize DS x :: rs.map DS=xs at *;have GI:Lm.code=Ab Aa4 [1,1]:=rfl;have mn:Lm.pre [.str s] []=some ⟨setT (Ll s) 6 (.fn 51 [] [.bp 0 0,.bp 1 0,.bp 2 0]),[.cells 41 [.nils],.cells 3 [.int .i64 0],.cells 35 [.int .i64 0]]⟩:=rfl;unfold Et;rw [mn,GI]
 have Xn:∃ (e':List PV) (r:List PBox),Co CC (Ab Aa4 [1,1]) ⟨setT (Ll s) 6 (.fn 51 [] [.bp 0 0,.bp 1 0,.bp 2 0]),[.cells 41 [.nils],.cells 3 [.int .i64 0],.cells 35 [.int .i64 0]]⟩=some (.ret,⟨e',.cells 41 [.sl xs] :: .cells 3 [.int .i64 0] :: .cells 35 [.int .i64 0] :: r⟩)/\getT e' 2=.bp 0 0/\getT e' 3=.bp 1 0/\getT e' 4=.bp 2 0:=by
  simp only [Ab,Ac,Aa4,Aa0] at Af |-;unfold Ap at Af ht;unfold Ll;rw [<- An];rw [<- An] at Af;rw [<- AL] at ht;simp only [S9,Ag,seval,PY,AS,Az,ht];generalize hE:Hp _ _=z
  have hP:∃ (e':List PV),z=some (.exit 0,⟨e',[.cells 41 [.nils],.cells 3 [.int .i64 0],.cells 35 [.int .i64 0],Ap (BD s).1 j 0 (.osl 32 xs)]⟩)/\getT e' 2=.bp 0 0/\getT e' 3=.bp 1 0/\getT e' 4=.bp 2 0/\getT e' 5=.bp 3 0:=by
   rw [<- hE];unfold Ap;refine Af _ ?_ ?_ ?_ ?_
   · simp only [S7,Ag,seval];try rfl
   · simp only [S7,Ag,seval];try rfl
   · simp only [S7,Ag,seval];try rfl
   · simp only [S7,Ag,seval];try rfl
  obtain ⟨e',he,k2,k3,k4,k5⟩:=hP;subst he;unfold Ap;simp only [S9,Ag,seval,PY,AS,Az,k2,k3,k4,k5]
  first | exact ⟨_,_,rfl,by simp only [S7,Ag,seval,k2],by simp only [S7,Ag,seval,k3],by simp only [S7,Ag,seval,k4]⟩
 obtain ⟨e',r,he,k2,k3,k4⟩:=Xn;simp only;rw [he];exact YE _ hpu e' r k2 k3 k4
def KR:NT->Nat
 | .expr=>10 | .chain true=>9 | .chain false=>8 | .chainL _ _=>1 | .not=>7 | .cmp=>6 | .sum=>5 | .sumL _=>1 | .prod=>4 | .prodL _=>1 | .un=>3 | .prim=>2
theorem Ay {α β:Type} {r:PR α} {f:α->Nat->PR β} (h:r≠.out) (h2:∀ a i,r=.ok a i->f a i≠.out):r.bind f≠.out:=by
 cases r with
 | ok a i=>exact h2 a i rfl
 | bad t e=>intro e;cases e
 | out=>exact absurd rfl h
theorem B5 {L:List Tk} {k:Nat} {w:List UInt8} {i:Nat}:Bs L k w i≠.out:=by unfold Bs;split <;> (intro e;cases e)
theorem si (b:Bool):KR (Eo b)+1<=KR (.chain b):=by cases b <;> decide
theorem j7 (nt:NT):KR nt<=10/\1<=KR nt:=by
 cases nt with
 | chain b=>cases b <;> simp [KR]
 | _=>simp [KR]
theorem KS {L:List Tk} {lo hi i:Nat}:Hq L lo hi i≠.out:=by
 unfold Hq;split
 · split <;> (intro e;cases e)
 · intro e;cases e
theorem F' {L:List Tk} {i:Nat}:DG L i≠.out:=by
 unfold DG;split
 · split <;> (intro e;cases e)
 · intro e;cases e
theorem j8 {L:List Tk} {k i:Nat}:Oh L k i≠.out:=by unfold Oh;split <;> (intro e;cases e)
theorem YF {L:List Tk} {hi i:Nat}:PO L hi i≠.out:=by
 unfold PO;split
 · intro e;cases e
 · exact KS
theorem A' {α:Type} {a:α} {i:Nat}:PR.ok a i≠.out:=fun e=>nomatch e
theorem IF {L:List Tk} {i:Nat}:Eb L i≠.out:=Ay KS fun _ _ _=>Ay B5 fun _ _ _=>Ay F' fun _ _ _=>Ay B5 fun _ _ _=>Ay F' fun _ _ _=>A'
theorem Mf {L:List Tk} {i:Nat}:Fo L i≠.out:=Ay YF fun _ _ _=>Ay B5 fun _ _ _=>Ay YF fun _ _ _=>A'
theorem j9 {L:List Tk} {i:Nat}:PS L i≠.out:=by unfold PS;split <;> (intro e;cases e)
theorem ka {L:List Tk} (hT:TokOK L) {i a j:Nat} (hi:i < L.length) (h:PS L i=.ok a j):i < j/\j < L.length:=by
 unfold PS at h;split at h
 · rename_i k hp
   obtain ⟨_,_,h4⟩:=Iu hp;have:=AM hT hi h4 (by decide);injection h with _ h
   omega
 · cases h
theorem fY {L:List Tk} (hT:TokOK L):∀ (n m i:Nat),i < L.length->L.length - i<=n->Hb L n m i≠.out:=by
 intro n
 induction n with
 | zero=>intro m i hi h;omega
 | succ n ih=>
  intro m i hi h;rw [Hb];refine Ay j9 fun k j hj=>?_;have h1:=ka hT hi hj;split
  · rename_i hk
    have h2:=AM hT h1.2 hk (by decide);exact ih _ _ h2 (by omega)
  · exact A'
theorem Vj {L:List Tk} (hT:TokOK L) {i:Nat} (hi:i < L.length):Kq L i≠.out:=fY hT _ _ _ hi (by omega)
theorem fZ {L:List Tk} (hT:TokOK L) {i:Nat} (hi:i < L.length):Fp L i≠.out:=by
 unfold Fp;split
 · exact A'
 split
 · exact A'
 split
 · exact Ay B5 fun _ _ _=>Ay F' fun _ _ _=>A'
 split
 · exact Ay Mf fun _ _ _=>Ay B5 fun _ _ _=>Ay Mf fun _ _ _=>A'
 split
 · rename_i hk
   exact Ay (Vj hT (AM hT hi hk (by decide))) fun _ _ _=>A'
 split
 · split <;> exact A'
 · intro e;cases e
theorem kb {L:List Tk} (hT:TokOK L):∀ (n:Nat) (nt:NT) (o i:Nat),i < L.length->12 * (L.length - i)+KR nt<=n->pz L n nt o i≠.out:=by
 intro n
 induction n with
 | zero=>intro nt o i hi h;have:=j7 nt;omega
 | succ n ih=>
  intro nt o i hi h;have lt:=fun (nt:NT) (o i:Nat) (a:Tr) (j:Nat) hi (r:pz L n nt o i=.ok a j)=>He hT n nt o i a j hi r;cases nt with
  | expr=>
   have hr:KR .expr=10:=rfl;have eB:KR (.chain true)=9:=rfl;rw [pz];split
   · rename_i hk
     have h0:=AM hT hi hk (by decide);split
     · refine Ay (ih _ _ _ h0 (by omega)) fun _ i1 r1=>Ay B5 fun _ i2 r2=>?_
       have h1:=lt _ _ _ _ _ h0 r1;have h2:=AW hT h1.2 (by decide) r2;refine Ay (ih _ _ _ h2.2 (by omega)) fun _ i3 r3=>Ay B5 fun _ i4 r4=>?_;have h3:=lt _ _ _ _ _ h2.2 r3;have h4:=AW hT h3.2 (by decide) r4;exact Ay (ih _ _ _ h4.2 (by omega)) fun _ _ _=>A'
     · intro e;cases e
   · exact ih _ _ _ hi (by omega)
  | chain b=>
   have hr:=si b;have eB:KR (.chainL b [])=1:=rfl;rw [pz];refine Ay (ih _ _ _ hi (by omega)) fun a i1 r1=>?_;have h1:=lt _ _ _ _ _ hi r1;have vB:KR (.chainL b [a])=1:=rfl;have hr4:=(j7 (Eo b)).2;exact ih _ _ _ h1.2 (by omega)
  | chainL b acc=>
   have hr:KR (.chainL b acc)=1:=rfl;rw [pz];split
   · rename_i hk
     have h0:=AM hT hi hk (by decide);split
     · intro e;cases e
     · have hr4:=(j7 (Eo b)).1
       refine Ay (ih _ _ _ h0 (by omega)) fun a i1 r1=>?_;have h1:=lt _ _ _ _ _ h0 r1;have vB:KR (.chainL b (acc++[a]))=1:=rfl;exact ih _ _ _ h1.2 (by omega)
   · exact A'
  | not=>
   have hr:KR .not=7:=rfl;have eB:KR .cmp=6:=rfl;rw [pz];split
   · rename_i hk
     have h0:=AM hT hi hk (by decide);split
     · exact Ay (ih _ _ _ h0 (by omega)) fun _ _ _=>A'
     · intro e;cases e
   · exact ih _ _ _ hi (by omega)
  | cmp=>
   have hr:KR .cmp=6:=rfl;have eB:KR .sum=5:=rfl;rw [pz];refine Ay (ih _ _ _ hi (by omega)) fun a i1 r1=>?_;have h1:=lt _ _ _ _ _ hi r1;split
   · rename_i k hp
     obtain ⟨_,_,h4⟩:=Iu hp;have h0:=AM hT h1.2 h4 (by decide);exact Ay (ih _ _ _ h0 (by omega)) fun _ _ _=>A'
   · exact A'
  | sum=>
   have hr:KR .sum=5:=rfl;have eB:KR .prod=4:=rfl;rw [pz];refine Ay (ih _ _ _ hi (by omega)) fun a i1 r1=>?_;have h1:=lt _ _ _ _ _ hi r1;have vB:KR (.sumL a)=1:=rfl;exact ih _ _ _ h1.2 (by omega)
  | sumL e=>
   have hr:KR (.sumL e)=1:=rfl;have eB:KR .prod=4:=rfl;rw [pz];split
   · rename_i hk
     have h0:=AM hT hi hk (by decide);refine Ay (ih _ _ _ h0 (by omega)) fun a i1 r1=>?_;have h1:=lt _ _ _ _ _ h0 r1;have vB:KR (.sumL (Bd 11 [e,a]))=1:=rfl;exact ih _ _ _ h1.2 (by omega)
   split
   · rename_i hk
     have h0:=AM hT hi hk (by decide);refine Ay (ih _ _ _ h0 (by omega)) fun a i1 r1=>?_;have h1:=lt _ _ _ _ _ h0 r1;have vB:KR (.sumL (Bd 12 [e,a]))=1:=rfl;exact ih _ _ _ h1.2 (by omega)
   · exact A'
  | prod=>
   have hr:KR .prod=4:=rfl;have eB:KR .un=3:=rfl;rw [pz];refine Ay (ih _ _ _ hi (by omega)) fun a i1 r1=>?_;have h1:=lt _ _ _ _ _ hi r1;have vB:KR (.prodL a)=1:=rfl;exact ih _ _ _ h1.2 (by omega)
  | prodL e=>
   have hr:KR (.prodL e)=1:=rfl;have eB:KR .un=3:=rfl;rw [pz];split
   · rename_i hk
     have h0:=AM hT hi hk (by decide);refine Ay (ih _ _ _ h0 (by omega)) fun a i1 r1=>?_;have h1:=lt _ _ _ _ _ h0 r1;have vB:KR (.prodL (Bd 13 [e,a]))=1:=rfl;exact ih _ _ _ h1.2 (by omega)
   · exact A'
  | un=>
   have hr:KR .un=3:=rfl;have eB:KR .prim=2:=rfl;rw [pz];split
   · rename_i hk
     have h0:=AM hT hi hk (by decide);split
     · exact A'
     split
     · exact Ay (ih _ _ _ h0 (by omega)) fun _ _ _=>A'
     · intro e;cases e
   · exact ih _ _ _ hi (by omega)
  | prim=>
   have hr:KR .prim=2:=rfl;have eB:KR .expr=10:=rfl;rw [pz];split
   · exact A'
   split
   · exact Ay IF fun _ _ _=>A'
   split
   · exact A'
   split
   · exact Ay KS fun _ _ _=>A'
   split
   · rename_i hk
     have h0:=AM hT hi hk (by decide);split
     · exact Ay (ih _ _ _ h0 (by omega)) fun _ _ _=>Ay B5 fun _ _ _=>A'
     · intro e;cases e
   · exact fZ hT hi
end Go.HH
