/-
  What the law needs, packed: RK RM RN RO RP RQ RR RS RU RV RW RX.
-/
import Derived.Test.YthjcaihemgllaaaGreatDoorK43
open Option renaming getD->Aau
open Go.Proofs.Tryz renaming f53->Aav,f24->Aay,f48->Ab2
open List renaming map_cons->Aaw,map_nil->Aax,length_cons->Aaz,length_nil->Ab0,length_map->Ab1,getElem?_eq_some_iff->Ab4,set_cons_zero->Ab6,set_cons_succ->Ab7,all_append->Ab8,drop_zero->Ab9
open Bool renaming false_eq_true->Ab3,and_self->Ab5,and_true->Aba
open Nat renaming le_refl->Abb
namespace Go.HH
open Go Go.Proofs
set_option maxRecDepth 100000
set_option maxHeartbeats 4000000
set_option linter.unusedSimpArgs false
set_option linter.unusedVariables false
def DS (r:Rl):PV:=.agg (C5 r.nm r.pr (.sl (r.on.map BE)) (.sl (r.dos.map D0)) r.ife)
def KX (L:List Tk) (n:Nat) (nm:List UInt8) (i:Nat):PR Rl:=(if Bs L 1 [112,114,105,111,114,105,116,121] i then Hu L 0 100 (i+1) else .ok 0 i).bind fun pr i=>(Mk L n i).bind fun x i=>.ok ⟨nm,(pr:Nat),x.1,x.2.1,x.2.2⟩ i
theorem xy (T:Code) (hL:T=Aa Aav [1,1,1,1,1,1]) {id:Nat} {L:List Tk} {o:Nat} (hT:TokOK L) (RS:List PV) (eV:Ak RS=true) (vC:RS.length<=100) (n:Nat) (ho:o=0) (nm:List UInt8) (t0:Tk) {J:List PBox} (hJ:∀ n,(J.all fun x=>x.under n)=true) {i:Nat} (hi:i < L.length) :
 rh T id L (C8 32 RS) o t0 J i (.cells 32 (C5 nm 0 (.nils) (.nils) wT)) (fun r:Rl=>C8 32 (RS++[DS r])) (KX L n nm i):=by
 have hR:=EH 32 RS eV;obtain ⟨T2,hT2⟩:∃ T2,T2=Aa Aav [1,1,1,1,1,1,1]:=⟨_,rfl⟩;have Du:Aa Aav [1,1,1,1,1,1]=.seq (Aa Aav [1,1,1,1,1,1,0]) T2:=by rw [hT2];rfl
 rw [Du] at hL;have XM:∀ n,Ar n (C5 nm 0 .nils .nils wT)=true:=fun n=>De n nm 0 _ _ wT (by simp only [SU]) (by simp only [SU]);unfold KX;cases f0:Bs L 1 [112,114,105,111,114,105,116,121] i with
 | false=>
  simp only [Ab3,if_false];dsimp only [Au];have key:=WX (RLg:=(fun r:Rl=>C8 32 (RS++[DS r]))) (g:=fun x:List Tg×Tr×List Sp=>(⟨nm,(0:Nat),x.1,x.2.1,x.2.2⟩:Rl)) (fun b=>rfl) (rj T2 hT2 (id:=id) hT RS eV vC n ho nm ((0:Nat):Int) t0 hJ hi);revert key;generalize ((Mk L n i).bind fun x i=>PR.ok (⟨nm,(0:Nat),x.1,x.2.1,x.2.2⟩:Rl) i)=rr;intro key;cases rr with
  | out=>exact Hl
  | bad t c=>
   obtain ⟨i',o',key⟩:=key;refine ⟨i',o',fun bx hid hc e g1 g2 g3=>?_⟩;have key:=key bx hid hc;have hd:∀ k,id < bx.length+k:=fun k=>by omega
   have CB:Ak [PV.bp (bx.length+2) 0,PV.bp bx.length 0]=false:=rfl;have CA:=XM;have q0:=Ab hid hc hR (Ae (id:=id) (o:=o) hR hi hT _ f0);rw [show ((0:Nat):Int)=0 from rfl] at key;rw [hL];unfold Ap at|-key;rw [<- Ch];rw [<- Ch] at key;rw [<- C3] at q0;simp only [opsOf,Aa,Ac,Aav,Aau] at |-;simp only [S9,A6,seval,PY,PZ,AS,Aw,g1,g2,g3,hd,hJ,CA,CB,q0,SX,hid];refine key _ ?_ ?_ ?_
   · simp only [S7,A6,seval,g1]
   · simp only [S7,A6,seval,g2]
   · simp only [S7,A6,seval,g3]
  | ok v j=>
   refine fun bx hid hc e g1 g2 g3=>?_;have key:=key bx hid hc;have hd:∀ k,id < bx.length+k:=fun k=>by omega
   have CB:Ak [PV.bp (bx.length+2) 0,PV.bp bx.length 0]=false:=rfl;have CA:=XM;have q0:=Ab hid hc hR (Ae (id:=id) (o:=o) hR hi hT _ f0);rw [show ((0:Nat):Int)=0 from rfl] at key;rw [hL];unfold Ap at|-key;rw [<- Ch];rw [<- Ch] at key;rw [<- C3] at q0;simp only [opsOf,Aa,Ac,Aav,Aau] at |-;simp only [S9,A6,seval,PY,PZ,AS,Aw,g1,g2,g3,hd,hJ,CA,CB,q0,SX,hid];refine key _ ?_ ?_ ?_
   · simp only [S7,A6,seval,g1]
   · simp only [S7,A6,seval,g2]
   · simp only [S7,A6,seval,g3]
 | true=>
  simp only [if_true];have BF:=AO hT hi f0 (by decide);have h1:=Hi (id:=id) (o:=o) (i:=i+1) hR BF hT 0 100 0 100 rfl rfl;cases r1:Hu L 0 100 (i+1) with
  | out=>exact Hl
  | bad t c=>
   rw [r1] at h1;obtain ⟨i',o',h1⟩:=h1;refine ⟨i',o',fun bx hid hc e g1 g2 g3=>?_⟩;have hd:∀ k,id < bx.length+k:=fun k=>by omega
   have CB:Ak [PV.bp (bx.length+2) 0,PV.bp bx.length 0]=false:=rfl;have CA:=XM;have q0:=Ab hid hc hR (As (id:=id) (o:=o) hR hi hT _ f0);have t1:=Am hid hc hR h1;rw [hL];unfold Ap;rw [<- Ch];rw [<- C3] at q0 t1;simp only [opsOf,Aa,Ac,Aav,Aau] at |-;simp only [S9,A6,seval,PY,PZ,AS,Aw,g1,g2,g3,hd,hJ,CA,CB,q0,t1,SX,hid];exact ⟨_,_,rfl⟩
  | ok a i1=>
   rw [r1] at h1;dsimp only [Au];have Gu:=(GN hT BF r1).2.1;have key:=WX (RLg:=(fun r:Rl=>C8 32 (RS++[DS r]))) (g:=fun x:List Tg×Tr×List Sp=>(⟨nm,(a:Nat),x.1,x.2.1,x.2.2⟩:Rl)) (fun b=>rfl) (rj T2 hT2 (id:=id) hT RS eV vC n ho nm ((a:Nat):Int) t0 hJ Gu);revert key;generalize ((Mk L n i1).bind fun x i=>PR.ok (⟨nm,(a:Nat),x.1,x.2.1,x.2.2⟩:Rl) i)=rr;intro key;cases rr with
   | out=>exact Hl
   | bad t c=>
    obtain ⟨i',o',key⟩:=key;refine ⟨i',o',fun bx hid hc e g1 g2 g3=>?_⟩;have key:=key bx hid hc;have hd:∀ k,id < bx.length+k:=fun k=>by omega
    have CB:Ak [PV.bp (bx.length+2) 0,PV.bp bx.length 0]=false:=rfl;have CA:=XM;have q0:=Ab hid hc hR (As (id:=id) (o:=o) hR hi hT _ f0);have t1:=Ab hid hc hR h1;unfold wT zK at CA |-;simp only [C9,BR,SU,Ab5,Aba] at CA;simp only [C9,BR];unfold wT zK at key;simp only [C9,BR] at key;rw [hL];unfold Ap at|-key;rw [<- Ch];rw [<- Ch] at key;rw [<- C3] at q0 t1;simp only [opsOf,Aa,Ac,Aav,Aau] at |-;simp only [S9,A6,seval,PY,PZ,AS,Aw,g1,g2,g3,hd,hJ,CA,CB,q0,t1,CJ,SX,hid];refine key _ ?_ ?_ ?_
    · simp only [S7,A6,seval,g1]
    · simp only [S7,A6,seval,g2]
    · simp only [S7,A6,seval,g3]
   | ok v j=>
    refine fun bx hid hc e g1 g2 g3=>?_;have key:=key bx hid hc;have hd:∀ k,id < bx.length+k:=fun k=>by omega
    have CB:Ak [PV.bp (bx.length+2) 0,PV.bp bx.length 0]=false:=rfl;have CA:=XM;have q0:=Ab hid hc hR (As (id:=id) (o:=o) hR hi hT _ f0);have t1:=Ab hid hc hR h1;unfold wT zK at CA |-;simp only [C9,BR,SU,Ab5,Aba] at CA;simp only [C9,BR];unfold wT zK at key;simp only [C9,BR] at key;rw [hL];unfold Ap at|-key;rw [<- Ch];rw [<- Ch] at key;rw [<- C3] at q0 t1;simp only [opsOf,Aa,Ac,Aav,Aau] at |-;simp only [S9,A6,seval,PY,PZ,AS,Aw,g1,g2,g3,hd,hJ,CA,CB,q0,t1,CJ,SX,hid];refine key _ ?_ ?_ ?_
    · simp only [S7,A6,seval,g1]
    · simp only [S7,A6,seval,g2]
    · simp only [S7,A6,seval,g3]
def oW (r:Rl):PBox:=.cells 32 (C5 r.nm r.pr (.sl (r.on.map BE)) (.sl (r.dos.map D0)) r.ife)
theorem YU {α:Type} (J:List α) (x y:α):(J++[x]).set J.length y=J++[y]:=by rw [List.set_append_right _ _ (Abb _),Nat.sub_self];rfl
theorem Vy (n:Nat) (r:Rl):(oW r).under n=true:=by
 show Ar n (C5 r.nm r.pr (.sl (r.on.map BE)) (.sl (r.dos.map D0)) r.ife)=true;exact De n _ _ _ _ _ (by simp only [PV.under];exact B3 BE Dd n _) (by simp only [PV.under];exact B3 D0 DI n _)
theorem Uq {J K:List PBox} (hJ:∀ n,(J.all fun x=>x.under n)=true) (hK:∀ n,(K.all fun x=>x.under n)=true):∀ n,((J++K).all fun x=>x.under n)=true:=fun n=>by rw [Ab8,hJ,hK];rfl
theorem bC (rs:List Rl):∀ n,((rs.map oW).all fun x=>x.under n)=true:=fun n=>by
 rw [List.all_eq_true];intro x hx;obtain ⟨r,_,rfl⟩:=List.mem_map.1 hx;exact Vy n r
def NMl (Lc:Code) (id:Nat) (L:List Tk) (RL:PV) (i o:Nat) (t0:Tk) (nm:List UInt8) (rs:List Rl) (k:Nat) (b:Bool):Prop:=∀ (bx:List PBox) (hid:id < bx.length) (hc:DM bx) (J:List PBox) (hJ:∀ n,(J.all fun x=>x.under n)=true) (e:List PV),getT e 1=.bp bx.length 0->getT e 2=.bp (bx.length+1) 0->getT e 3=.bp (bx.length+2) 0->(rs=[]\/getT e 31=.sl (rs.map DS))->getT e 32=.int .i64 (rs.length:Int)->getT e 33=.int .i64 (k:Int) ->
 if b=true then ∃ e' ys',Lp CC Lc ⟨e,(BX bx id (Ap L i o RL) (.cells 86 [.bp id 0] :: .cells 80 [.int .i64 (t0.1:Int),.str t0.2.1,.int .i64 (t0.2.2:Int)] :: .cells 32 (C5 nm 0 (.nils) (.nils) wT) :: J))⟩=some (.pan (B5 t0.2.2 9),⟨e',BX bx id (Ap L i o RL) ys'⟩)
 else ∃ e',Lp CC Lc ⟨e,(BX bx id (Ap L i o RL) (.cells 86 [.bp id 0] :: .cells 80 [.int .i64 (t0.1:Int),.str t0.2.1,.int .i64 (t0.2.2:Int)] :: .cells 32 (C5 nm 0 (.nils) (.nils) wT) :: J))⟩=some (.exit 0,⟨e',(BX bx id (Ap L i o RL) (.cells 86 [.bp id 0] :: .cells 80 [.int .i64 (t0.1:Int),.str t0.2.1,.int .i64 (t0.2.2:Int)] :: .cells 32 (C5 nm 0 (.nils) (.nils) wT) :: (J++(rs.drop k).map oW)))⟩)/\getT e' 1=.bp bx.length 0/\getT e' 2=.bp (bx.length+1) 0/\getT e' 3=.bp (bx.length+2) 0
theorem bD (Lc:Code) (hL:Lc=Aa Aav [1,1,1,1,1,0,1,0]) {id:Nat} {L:List Tk} {RL:PV} {i o:Nat} (hR:RL.pure=true) (t0:Tk) (nm:List UInt8) (rs:List Rl) (zC:rs.length<=100):∀ (m k:Nat),k+m=rs.length->NMl Lc id L RL i o t0 nm rs k ((rs.drop k).any fun r=>r.nm == nm):=by
 have XM:∀ n,Ar n (C5 nm 0 .nils .nils wT)=true:=fun n=>De n nm 0 _ _ wT (by simp only [SU]) (by simp only [SU]);intro m
 induction m with
 | zero=>
  intro k hk bx hid hc J hJ e g1 g2 g3 g31 g32 g33;have I3:rs.drop k=[]:=List.drop_of_length_le (by omega);have BC:¬ ((k:Int) < (rs.length:Int)):=by omega
  rw [I3];simp only [List.any_nil,Ab3,if_false,Aax,List.append_nil];generalize rs.map DS=xs at *;generalize rs.length=xl at *;have CA:=XM;have hd:∀ k,id < bx.length+k:=fun k=>by omega
  have CB:Ak [PV.bp (bx.length+2) 0,PV.bp bx.length 0]=false:=rfl;rw [Ez (Aa Aav [1,1,1,1,1,0,1,0,0]) hL];unfold Ap;rw [<- Ch];simp only [opsOf,Aa,Ac,Aav,Aau] at |-;simp only [S9,A6,seval,PY,PZ,AS,Aw,g1,g2,g3,hd,hJ,CA,CB,g32,g33,BC,SX,hid];exact ⟨_,rfl,by simp only [S7,A6,seval,g1],by simp only [S7,A6,seval,g2],by simp only [S7,A6,seval,g3]⟩
 | succ m ih=>
  intro k hk bx hid hc J hJ e g1 g2 g3 g31 g32 g33;have g31:getT e 31=.sl (rs.map DS):=g31.resolve_left (fun h=>by rw [h] at hk;simp at hk);have BC:((k:Int) < (rs.length:Int)):=by omega
  have vt:¬ ((k:Int) < 0):=by omega
  have I3:rs.drop k=(rs[k]'(by omega)) :: rs.drop (k+1):=List.drop_eq_getElem_cons (by omega);have hx:(rs.map DS)[k]?=some (DS (rs[k]'(by omega))):=by rw [List.getElem?_map,List.getElem?_eq_getElem (by omega)];rfl
  have hlen:(rs.map DS).length=rs.length:=Ab1 _;have hw:IntKind.wrap .i64 ((k:Int)+1)=((k+1:Nat):Int):=by rw [wrap_i64 ⟨by omega,by omega⟩];omega
  have yU:=Uq hJ (K:=[oW (rs[k]'(by omega))]) (fun n=>by simp only [List.all_cons,List.all_nil,Vy,Ab5]);have key:=fun e=>ih (k+1) (by omega) bx hid hc (J++[oW (rs[k]'(by omega))]) yU e;rw [List.append_assoc,List.singleton_append,<- Aaw,<- I3] at key;have Mv:=YU J;have iv:=fun x:PBox=>List.getElem?_concat_length (l:=J) (a:=x);have ht:=Am hid hc hR (CF (id:=id) (i:=i) (o:=o) (L:=L) (RL:=RL) hR t0.1 t0.2.1 t0.2.2 9);have hany:((rs.drop k).any fun r=>r.nm == nm)=((rs[k]'(by omega)).nm == nm || (rs.drop (k+1)).any fun r=>r.nm == nm):=by rw [I3,List.any_cons]
  rw [hany];generalize ((rs.drop (k+1)).any fun r=>r.nm == nm)=b at *;generalize rs[k]'(by omega)=x at *;generalize (rs.drop k).map oW=Kx at *;generalize rs.map DS=xs at *;generalize rs.length=xl at *;obtain ⟨xn,xp,xon,⟨xk,xkn,xm,xs_,xv,xq,xkids⟩,xdo⟩:=x;unfold oW DS at *;unfold wT zK at *;simp only [C9,BR] at *;have hs:ED BinOp.eql xn nm=some (.bool (xn == nm)):=rfl;cases hn:xn == nm with
  | true=>
   simp only [Bool.true_or,if_true];have CA:=XM;have tgu:=fun n=>B3 BE Dd n xon;have spu:=fun n=>B3 D0 DI n xdo;have hd:∀ k,id < bx.length+k:=fun k=>by omega
   have CB:Ak [PV.bp (bx.length+2) 0,PV.bp bx.length 0]=false:=rfl;rw [Ez (Aa Aav [1,1,1,1,1,0,1,0,0]) hL];unfold Ap;rw [<- Ch];rw [<- C3] at ht;simp only [opsOf,Aa,Ac,Aav,Aau] at |-;simp only [S9,A6,seval,PY,PZ,AS,Aw,g1,g2,g3,hd,hJ,CA,CB,g31,g32,g33,BC,vt,hx,hlen,hw,Mv,iv,hs,hn,CJ,ht,tgu,spu,Ab8,SX,hid];exact ⟨_,_,rfl⟩
  | false=>
   simp only [Bool.false_or];have CA:=XM;have hd:∀ k,id < bx.length+k:=fun k=>by omega
   have CB:Ak [PV.bp (bx.length+2) 0,PV.bp bx.length 0]=false:=rfl;rw [Ez (Aa Aav [1,1,1,1,1,0,1,0,0]) hL];unfold Ap at|-key;rw [<- Ch];rw [<- Ch] at key;simp only [opsOf,Aa,Ac,Aav,Aau] at |-;simp only [S9,A6,seval,PY,PZ,AS,Aw,g1,g2,g3,hd,hJ,CA,CB,g31,g32,g33,BC,vt,hx,hlen,hw,Mv,iv,hs,hn,CJ,SX,hid];refine key _ ?_ ?_ ?_ ?_ ?_ ?_
   · simp only [S7,A6,seval,g1]
   · simp only [S7,A6,seval,g2]
   · simp only [S7,A6,seval,g3]
   · exact Or.inr (by simp only [S7,A6,seval,g31])
   · simp only [S7,A6,seval,g32]
   · simp only [S7,A6,seval]
def xz {β:Type} (T:Code) (id:Nat) (L:List Tk) (RL:PV) (o:Nat) (i:Nat) (RLn:β->PV) (r:PR β):Prop:=match r with
 | .ok b j=>∀ (bx:List PBox) (hid:id < bx.length) (hc:DM bx) (e:List PV),getT e 1=.bp bx.length 0->∃ e' ys',Lp CC T ⟨e,BX bx id (Ap L i o RL) [.cells 86 [.bp id 0]]⟩=some (.normal,⟨e',BX bx id (Ap L j o (RLn b)) ys'⟩)
 | .bad t c=>∃ i' o',∀ (bx:List PBox) (hid:id < bx.length) (hc:DM bx) (e:List PV),getT e 1=.bp bx.length 0->∃ e' ys',Lp CC T ⟨e,BX bx id (Ap L i o RL) [.cells 86 [.bp id 0]]⟩=some (.pan (B5 t c),⟨e',BX bx id (Ap L i' o' RL) ys'⟩)
 | .out=>True
theorem bE {β:Type} {T:Code} {id:Nat} {L:List Tk} {RL:PV} {o:Nat} {i:Nat} {RLn:β->PV}:xz T id L RL o i RLn .out:=trivial
theorem bRl (nm:List UInt8) (k n m v1 v2 q1:Int) (s v3 q2 q3:List UInt8) (ks:List PV):A' CC 32 [(0,.str nm),(3,.agg [.int .i64 k,.int .i64 n,.int .i64 m,.str s,.int .i64 v1,.int .i64 v2,.str v3,.int .i64 q1,.str q2,.str q3,.sl ks])]=some (.agg [.str nm,.int .i64 0,.nils,.int .i64 k,.int .i64 n,.int .i64 m,.str s,.int .i64 v1,.int .i64 v2,.str v3,.int .i64 q1,.str q2,.str q3,.sl ks,.nils]):=by kernel_rfl
theorem Fx (r:Rl):(DS r).pure=true:=by
 obtain ⟨nm,pr,on,⟨k,n,m,s,v,q,kids⟩,dos⟩:=r;have h1:=AW kids;have h2:=map_pure BE gE on;have h3:=map_pure D0 kH dos;unfold DS;rw [C9];simp only [PV.pure,Ak,h1,h2,h3,Ab5]
def Pt (L:List Tk) (n:Nat) (rs:List Rl) (i:Nat):PR Rl:=(Bt L 1 [114,117,108,101] i).bind fun _ i0=>(DF L i0).bind fun nm i=>if (rs.any fun r=>r.nm == nm)=true then .bad (atT L i0) 9 else KX L n nm i
theorem xA (T:Code) (hL:T=Aa Aav [1,1]) {id:Nat} {L:List Tk} {o:Nat} (hT:TokOK L) (rs:List Rl) (zC:rs.length<=100) (n:Nat) (ho:o=0) {i:Nat} (hi:i < L.length) :
 xz T id L (C8 32 (rs.map DS)) o i (fun r=>C8 32 ((rs++[r]).map DS)) (Pt L n rs i):=by
 have eV:=map_pure DS Fx rs;have hR:=EH 32 _ eV;obtain ⟨T1,yV⟩:∃ T1,T1=Aa Aav [1,1,1,1,1,1]:=⟨_,rfl⟩;have Du:Aa Aav [1,1]=.seq (Aa Aav [1,1,0]) (.seq (Aa Aav [1,1,1,0]) (.seq (Aa Aav [1,1,1,1,0]) (.seq (Aa Aav [1,1,1,1,1,0]) T1))):=by rw [yV];rfl
 rw [Du] at hL;have hJ:∀ n,(([]:List PBox).all fun x=>x.under n)=true:=fun _=>rfl;have CA:∀ k:Nat,k<=k:=fun k=>Abb _;unfold Pt;have h1:=Cc (id:=id) (o:=o) (i:=i) hR hi hT 1 1 rfl [114,117,108,101];cases r1:Bt L 1 [114,117,108,101] i with
 | out=>exact bE
 | bad t c=>
  rw [r1] at h1;obtain ⟨i',o',h1⟩:=h1;refine ⟨i',o',fun bx hid hc e g1=>?_⟩;have t1:=Am hid hc hR h1;have g2:=g1;have g3:=g1;have hd:∀ k,id < bx.length+k:=fun k=>by omega
  have CB:Ak [PV.bp (bx.length+2) 0,PV.bp bx.length 0]=false:=rfl;rw [hL];unfold Ap;rw [<- Ch];rw [<- C3] at t1;simp only [opsOf,Aa,Ac,Aav,Aau] at |-;simp only [S9,A6,seval,PY,PZ,AS,Aw,g1,g2,g3,hd,hJ,CA,CB,t1,SX,hid];exact ⟨_,_,rfl⟩
 | ok u i0=>
  rw [r1] at h1;dsimp only [Au];have DK:=(A4 hT hi (by decide) r1).2;have h2:=Hh (id:=id) (o:=o) (i:=i0) hR DK hT;have hl:=bq 1 1;rw [show En 1 1=.mk 1 0 0 [] (1,1,[]) (0,[],[]) [] from rfl] at hl;simp only [Sh,BR] at hl;cases r2:DF L i0 with
  | out=>exact bE
  | bad t c=>
   rw [r2] at h2;obtain ⟨i',o',h2⟩:=h2;refine ⟨i',o',fun bx hid hc e g1=>?_⟩;have t1:=Ab hid hc hR h1;have t0:=Ab hid hc hR (AA (id:=id) (o:=o) hR DK);have t2:=Am hid hc hR h2;have g2:=g1;have g3:=g1;have hd:∀ k,id < bx.length+k:=fun k=>by omega
   have CB:Ak [PV.bp (bx.length+2) 0,PV.bp bx.length 0]=false:=rfl;rw [hL];unfold Ap;rw [<- Ch];rw [<- C3] at t1 t0 t2;simp only [opsOf,Aa,Ac,Aav,Aau] at |-;simp only [S9,A6,seval,PY,PZ,AS,Aw,g1,g2,g3,hd,hJ,CA,CB,t1,t0,t2,SX,hid];exact ⟨_,_,rfl⟩
  | ok nm i1=>
   rw [r2] at h2;dsimp only [Au];have BF:=(C1 hT DK r2).2;have Ag:=bD _ rfl (id:=id) (L:=L) (RL:=C8 32 (rs.map DS)) (i:=i1) (o:=o) hR (tokAt L i0) nm rs zC rs.length 0 (by omega);rw [Ab9] at Ag;have Mw:=bRl nm;cases hb:(rs.any fun r=>r.nm == nm) with
   | true=>
    rw [hb] at Ag;simp only [if_true];unfold NMl at Ag;simp only [if_true] at Ag;refine ⟨i1,o,fun bx hid hc e g1=>?_⟩;cases rs with
    | nil=>cases hb
    | cons x rs=>
     have hd:∀ k,id < bx.length+k:=fun k=>by omega
     have CB:Ak [PV.bp (bx.length+2) 0,PV.bp bx.length 0]=false:=rfl;have t1:=Ab hid hc hR h1;have t0:=Ab hid hc hR (AA (id:=id) (o:=o) hR DK);have t2:=Ab hid hc hR h2;have g2:=g1;have g3:=g1;have Tf:=hc;have Ag:=Ag bx hid hc [] hJ;rw [hL];simp only [Aa,Ac,Aav,Aau] at Ag |-;unfold Ap at Ag |-;unfold wT zK at Ag;simp only [C9,BR] at Ag;simp only [Aax,Aaw,BM,BY,Ab0,Aaz] at Ag t1 t0 t2 |-;rw [<- Ch];rw [<- Ch] at Ag;rw [<- C3] at t1 t0 t2 hl;simp only [S9,A6,seval,PY,PZ,AS,Aw,g1,hd,hJ,CB,t1,t0,t2,hl,Mw,CJ,SX,hid];generalize hE:Tm _ _=z
     have hP:∃ e' ys',z=some (.pan (B5 (tokAt L i0).2.2 9),⟨e',BX bx id (Ap L i1 o (C8 32 (DS x :: rs.map DS))) ys'⟩):=by
      rw [<- hE];refine Ag _ ?_ ?_ ?_ ?_ ?_ ?_
      · simp only [S7,A6,seval,g1]
      · simp only [S7,A6,seval,g1]
      · simp only [S7,A6,seval,g1]
      · exact Or.inr (by simp only [S7,A6,seval])
      · simp only [S7,A6,seval,Ab1];try rfl
      · simp only [S7,A6,seval];try rfl
     obtain ⟨e',ys',he⟩:=hP;subst he;clear hE Ag;unfold Ap atT;simp only [S9,A6,seval,PY,PZ,AS,Aw,SX,hid];exact ⟨_,_,rfl⟩
   | false=>
    rw [hb] at Ag;simp only [Ab3,if_false];unfold NMl at Ag;simp only [Ab3,if_false,Ab9] at Ag
    have key:rh T1 id L (C8 32 (rs.map DS)) o (tokAt L i0) (rs.map oW) i1 (.cells 32 (C5 nm 0 (.nils) (.nils) wT)) (fun r=>C8 32 ((rs++[r]).map DS)) (KX L n nm i1):=by
     simp only [List.map_append,Aaw,Aax];exact xy T1 yV hT _ eV (by rw [Ab1];exact zC) n ho nm (tokAt L i0) (bC rs) BF
    revert key;generalize KX L n nm i1=rr;intro key;generalize rs.map oW=KB at key Ag;unfold wT zK at key;simp only [C9,BR] at key;cases rr with
    | out=>exact bE
    | bad t c=>
     obtain ⟨i',o',key⟩:=key;refine ⟨i',o',fun bx hid hc e g1=>?_⟩;have key:=key bx hid hc;cases rs with
     | nil=>
      simp only [Aax,Aaw,BM,BY] at key;have hd:∀ k,id < bx.length+k:=fun k=>by omega
      have CB:Ak [PV.bp (bx.length+2) 0,PV.bp bx.length 0]=false:=rfl;have t1:=Ab hid hc hR h1;have t0:=Ab hid hc hR (AA (id:=id) (o:=o) hR DK);have t2:=Ab hid hc hR h2;have g2:=g1;have g3:=g1;have Tf:=hc;have Ag:=Ag bx hid hc [] hJ;rw [hL];simp only [Aa,Ac,Aav,Aau] at Ag |-;unfold Ap at Ag |-;unfold wT zK at Ag;simp only [C9,BR] at Ag;simp only [Aax,Aaw,BM,BY,Ab0,Aaz] at Ag t1 t0 t2 |-;rw [<- Ch];rw [<- Ch] at Ag;rw [<- C3] at t1 t0 t2 hl;simp only [S9,A6,seval,PY,PZ,AS,Aw,g1,hd,hJ,CB,t1,t0,t2,hl,Mw,CJ,SX,hid];generalize hE:Tm _ _=z
      have hP:∃ e',z=some (.exit 0,⟨e',BX bx id (Ap L i1 o (C8 32 [])) (.cells 86 [.bp id 0] :: .cells 80 [.int .i64 ((tokAt L i0).1:Int),.str (tokAt L i0).2.1,.int .i64 ((tokAt L i0).2.2:Int)] :: .cells 32 [.str nm,.int .i64 0,.nils,.int .i64 1,.int .i64 0,.int .i64 0,.str [],.int .i64 1,.int .i64 1,.str [],.int .i64 0,.str [],.str [],.sl [],.nils] :: ([]++KB))⟩)/\getT e' 1=.bp bx.length 0/\getT e' 2=.bp (bx.length+1) 0/\getT e' 3=.bp (bx.length+2) 0:=by
       rw [<- hE];refine Ag _ ?_ ?_ ?_ ?_ ?_ ?_
       · simp only [S7,A6,seval,g1]
       · simp only [S7,A6,seval,g1]
       · simp only [S7,A6,seval,g1]
       · exact Or.inl (by trivial)
       · simp only [S7,A6,seval];try rfl
       · simp only [S7,A6,seval];try rfl
      obtain ⟨e',he,k1,k2,k3⟩:=hP;subst he;clear hE Ag;unfold Ap at key |-;rw [<- Ch] at key;simp only [S9,A6,seval,PY,PZ,AS,Aw,SX,hid];exact key _ k1 k2 k3
     | cons x rs=>
      simp only [Aax,Aaw,BM,BY] at key;have hd:∀ k,id < bx.length+k:=fun k=>by omega
      have CB:Ak [PV.bp (bx.length+2) 0,PV.bp bx.length 0]=false:=rfl;have t1:=Ab hid hc hR h1;have t0:=Ab hid hc hR (AA (id:=id) (o:=o) hR DK);have t2:=Ab hid hc hR h2;have g2:=g1;have g3:=g1;have Tf:=hc;have Ag:=Ag bx hid hc [] hJ;rw [hL];simp only [Aa,Ac,Aav,Aau] at Ag |-;unfold Ap at Ag |-;unfold wT zK at Ag;simp only [C9,BR] at Ag;simp only [Aax,Aaw,BM,BY,Ab0,Aaz] at Ag t1 t0 t2 |-;rw [<- Ch];rw [<- Ch] at Ag;rw [<- C3] at t1 t0 t2 hl;simp only [S9,A6,seval,PY,PZ,AS,Aw,g1,hd,hJ,CB,t1,t0,t2,hl,Mw,CJ,SX,hid];generalize hE:Tm _ _=z
      have hP:∃ e',z=some (.exit 0,⟨e',BX bx id (Ap L i1 o (C8 32 (DS x :: rs.map DS))) (.cells 86 [.bp id 0] :: .cells 80 [.int .i64 ((tokAt L i0).1:Int),.str (tokAt L i0).2.1,.int .i64 ((tokAt L i0).2.2:Int)] :: .cells 32 [.str nm,.int .i64 0,.nils,.int .i64 1,.int .i64 0,.int .i64 0,.str [],.int .i64 1,.int .i64 1,.str [],.int .i64 0,.str [],.str [],.sl [],.nils] :: ([]++KB))⟩)/\getT e' 1=.bp bx.length 0/\getT e' 2=.bp (bx.length+1) 0/\getT e' 3=.bp (bx.length+2) 0:=by
       rw [<- hE];refine Ag _ ?_ ?_ ?_ ?_ ?_ ?_
       · simp only [S7,A6,seval,g1]
       · simp only [S7,A6,seval,g1]
       · simp only [S7,A6,seval,g1]
       · exact Or.inr (by simp only [S7,A6,seval])
       · simp only [S7,A6,seval,Ab1];try rfl
       · simp only [S7,A6,seval];try rfl
      obtain ⟨e',he,k1,k2,k3⟩:=hP;subst he;clear hE Ag;unfold Ap at key |-;rw [<- Ch] at key;simp only [S9,A6,seval,PY,PZ,AS,Aw,SX,hid];exact key _ k1 k2 k3
    | ok v j=>
     refine fun bx hid hc e g1=>?_;have key:=key bx hid hc;generalize C8 32 ((rs++[v]).map DS)=X at key |-;cases rs with
     | nil=>
      simp only [Aax,Aaw,BM,BY] at key;have hd:∀ k,id < bx.length+k:=fun k=>by omega
      have CB:Ak [PV.bp (bx.length+2) 0,PV.bp bx.length 0]=false:=rfl;have t1:=Ab hid hc hR h1;have t0:=Ab hid hc hR (AA (id:=id) (o:=o) hR DK);have t2:=Ab hid hc hR h2;have g2:=g1;have g3:=g1;have Tf:=hc;have Ag:=Ag bx hid hc [] hJ;rw [hL];simp only [Aa,Ac,Aav,Aau] at Ag |-;unfold Ap at Ag |-;unfold wT zK at Ag;simp only [C9,BR] at Ag;simp only [Aax,Aaw,BM,BY,Ab0,Aaz] at Ag t1 t0 t2 |-;rw [<- Ch];rw [<- Ch] at Ag;rw [<- C3] at t1 t0 t2 hl;simp only [S9,A6,seval,PY,PZ,AS,Aw,g1,hd,hJ,CB,t1,t0,t2,hl,Mw,CJ,SX,hid];generalize hE:Tm _ _=z
      have hP:∃ e',z=some (.exit 0,⟨e',BX bx id (Ap L i1 o (C8 32 [])) (.cells 86 [.bp id 0] :: .cells 80 [.int .i64 ((tokAt L i0).1:Int),.str (tokAt L i0).2.1,.int .i64 ((tokAt L i0).2.2:Int)] :: .cells 32 [.str nm,.int .i64 0,.nils,.int .i64 1,.int .i64 0,.int .i64 0,.str [],.int .i64 1,.int .i64 1,.str [],.int .i64 0,.str [],.str [],.sl [],.nils] :: ([]++KB))⟩)/\getT e' 1=.bp bx.length 0/\getT e' 2=.bp (bx.length+1) 0/\getT e' 3=.bp (bx.length+2) 0:=by
       rw [<- hE];refine Ag _ ?_ ?_ ?_ ?_ ?_ ?_
       · simp only [S7,A6,seval,g1]
       · simp only [S7,A6,seval,g1]
       · simp only [S7,A6,seval,g1]
       · exact Or.inl (by trivial)
       · simp only [S7,A6,seval];try rfl
       · simp only [S7,A6,seval];try rfl
      obtain ⟨e',he,k1,k2,k3⟩:=hP;subst he;clear hE Ag;unfold Ap at key |-;rw [<- Ch] at key;simp only [S9,A6,seval,PY,PZ,AS,Aw,SX,hid];exact key _ k1 k2 k3
     | cons x rs=>
      simp only [Aax,Aaw,BM,BY] at key;have hd:∀ k,id < bx.length+k:=fun k=>by omega
      have CB:Ak [PV.bp (bx.length+2) 0,PV.bp bx.length 0]=false:=rfl;have t1:=Ab hid hc hR h1;have t0:=Ab hid hc hR (AA (id:=id) (o:=o) hR DK);have t2:=Ab hid hc hR h2;have g2:=g1;have g3:=g1;have Tf:=hc;have Ag:=Ag bx hid hc [] hJ;rw [hL];simp only [Aa,Ac,Aav,Aau] at Ag |-;unfold Ap at Ag |-;unfold wT zK at Ag;simp only [C9,BR] at Ag;simp only [Aax,Aaw,BM,BY,Ab0,Aaz] at Ag t1 t0 t2 |-;rw [<- Ch];rw [<- Ch] at Ag;rw [<- C3] at t1 t0 t2 hl;simp only [S9,A6,seval,PY,PZ,AS,Aw,g1,hd,hJ,CB,t1,t0,t2,hl,Mw,CJ,SX,hid];generalize hE:Tm _ _=z
      have hP:∃ e',z=some (.exit 0,⟨e',BX bx id (Ap L i1 o (C8 32 (DS x :: rs.map DS))) (.cells 86 [.bp id 0] :: .cells 80 [.int .i64 ((tokAt L i0).1:Int),.str (tokAt L i0).2.1,.int .i64 ((tokAt L i0).2.2:Int)] :: .cells 32 [.str nm,.int .i64 0,.nils,.int .i64 1,.int .i64 0,.int .i64 0,.str [],.int .i64 1,.int .i64 1,.str [],.int .i64 0,.str [],.str [],.sl [],.nils] :: ([]++KB))⟩)/\getT e' 1=.bp bx.length 0/\getT e' 2=.bp (bx.length+1) 0/\getT e' 3=.bp (bx.length+2) 0:=by
       rw [<- hE];refine Ag _ ?_ ?_ ?_ ?_ ?_ ?_
       · simp only [S7,A6,seval,g1]
       · simp only [S7,A6,seval,g1]
       · simp only [S7,A6,seval,g1]
       · exact Or.inr (by simp only [S7,A6,seval])
       · simp only [S7,A6,seval,Ab1];try rfl
       · simp only [S7,A6,seval];try rfl
      obtain ⟨e',he,k1,k2,k3⟩:=hP;subst he;clear hE Ag;unfold Ap at key |-;rw [<- Ch] at key;simp only [S9,A6,seval,PY,PZ,AS,Aw,SX,hid];exact key _ k1 k2 k3
theorem kI {α β γ:Type} (r:PR α) (f:α->Nat->PR β) (g:β->Nat->PR γ):(r.bind f).bind g=r.bind fun a i=>(f a i).bind g:=by cases r <;> rfl
theorem YV (L:List Tk) (n:Nat) (rs:List Rl) (i:Nat):LY L n rs i=if Bs L 1 [114,117,108,101] i=true/\rs.length=40 then .bad (atT L i) 3 else Pt L n rs i:=by
 unfold LY Pt KX Mk;simp only [kI,Au]
def xB (id:Nat) (L:List Tk) (rs:List Rl) (o i:Nat) (r:PR Rl):Prop:=match r with
 | .ok v j=>∀ B,Nc L i o (C8 32 (rs.map DS)) id B->Ai CC (Ad CC) 53 [.bp id 0] B=some (.ret (.tup []),B.set id (Ap L j o (C8 32 ((rs++[v]).map DS))))
 | .bad t c=>∃ i' o',Nd 53 [] id L (C8 32 (rs.map DS)) i o t c i' o'
 | .out=>True
theorem kJ {id:Nat} {L:List Tk} {o:Nat} (hT:TokOK L) (rs:List Rl) (zC:rs.length<=40) (n:Nat) (ho:o=0) {i:Nat} (hi:i < L.length):xB id L rs o i (LY L n rs i):=by
 have eV:=map_pure DS Fx rs;have hR:=EH 32 _ eV;rw [YV];obtain ⟨T,yV⟩:∃ T,T=Aa Aav [1,1]:=⟨_,rfl⟩;have Du:Aav.body.getD .skip=.seq (Aa Aav [0]) (.seq (Aa Aav [1,0]) T):=by rw [yV];rfl
 have key:=xA T yV (id:=id) hT rs (by omega) n ho hi;cases hk:Bs L 1 [114,117,108,101] i with
 | false=>
  rw [if_neg (by simp)];revert key;generalize Pt L n rs i=rr;intro key;cases rr with
  | out=>trivial
  | bad t c=>
   obtain ⟨i',o',key⟩:=key;refine ⟨i',o',Ax hR fun bx hid hc=>?_⟩;have hd:∀ k,id < bx.length+k:=fun k=>by omega
   have tis:=Ab hid hc hR (Dr (id:=id) (o:=o) hR hi 1 1 rfl [114,117,108,101]);rw [hk] at tis;have key:=key bx hid hc;rw [Bu rfl];rw [Du];unfold Ap at|-key;rw [<- Ch];rw [<- Ch] at key;rw [<- C3] at tis;simp only [opsOf,Aa,Ac,Aav,Aau] at |-;simp only [S9,A6,seval,PY,PZ,AS,Aw,hd,tis,SX,hid];generalize hE:Tm T _=z
   have hP:∃ e' ys',z=some (.pan (B5 t c),⟨e',BX bx id (Ap L i' o' (C8 32 (rs.map DS))) ys'⟩):=by
    rw [<- hE];refine key _ ?_
    first | rfl | (simp only [S7,A6,seval];done) | (simp only [S7,A6,seval] <;> rfl)
   obtain ⟨e',ys',he⟩:=hP;subst he;clear hE key;unfold Ap;simp only [S9,A6,seval,PY,PZ,AS,Aw,SX,hid];exact ⟨_,rfl⟩
  | ok v j=>
   have hX:(C8 32 ((rs++[v]).map DS)).pure=true:=EH _ _ (map_pure DS Fx _);refine fun B hB=>LU (P:=Ap L i o (C8 32 (rs.map DS))) (by simp [Ak,PV.pure]) hB.1 hB.2 (Bm L _ _ hX) (by simp [CR.under,PV.under,Ar]) ?_;have hid:=(Ab4.1 hB.2).1;have hc:=hB.1;clear hX;unfold xz at key;dsimp only at key;generalize C8 32 ((rs++[v]).map DS)=X at key |-;generalize B=bx at *;have hd:∀ k,id < bx.length+k:=fun k=>by omega
   have tis:=Ab hid hc hR (Dr (id:=id) (o:=o) hR hi 1 1 rfl [114,117,108,101]);rw [hk] at tis;have key:=key bx hid hc;rw [Bu rfl];rw [Du];unfold Ap at|-key;rw [<- Ch];rw [<- Ch] at key;rw [<- C3] at tis;simp only [opsOf,Aa,Ac,Aav,Aau] at |-;simp only [S9,A6,seval,PY,PZ,AS,Aw,hd,tis,SX,hid];generalize hE:Tm T _=z
   have hP:∃ e' ys',z=some (.normal,⟨e',BX bx id (Ap L j o X) ys'⟩):=by
    rw [<- hE];refine key _ ?_
    first | rfl | (simp only [S7,A6,seval];done) | (simp only [S7,A6,seval] <;> rfl)
   obtain ⟨e',ys',he⟩:=hP;subst he;clear hE key;unfold Ap;simp only [S9,A6,seval,PY,PZ,AS,Aw,SX,hid];exact ⟨_,rfl⟩
 | true=>
  cases rs with
  | nil=>
   rw [if_neg (by simp)];have VU:(((0:Nat):Int) == 40)=false:=rfl;revert key;generalize Pt L n [] i=rr;intro key;cases rr with
   | out=>trivial
   | bad t c=>
    obtain ⟨i',o',key⟩:=key;refine ⟨i',o',Ax hR fun bx hid hc=>?_⟩;have hd:∀ k,id < bx.length+k:=fun k=>by omega
    have tis:=Ab hid hc hR (Dr (id:=id) (o:=o) hR hi 1 1 rfl [114,117,108,101]);rw [hk] at tis;have key:=key bx hid hc
    try simp only [Aax,BM] at tis
    try simp only [Aax,BM] at |-
    try simp only [Aax,BM] at key
    rw [Bu rfl];rw [Du];unfold Ap at|-key;rw [<- Ch];rw [<- Ch] at key;rw [<- C3] at tis;simp only [opsOf,Aa,Ac,Aav,Aau] at |-;simp only [S9,A6,seval,PY,PZ,AS,Aw,hd,tis,SX,VU,hid];generalize hE:Tm T _=z
    have hP:∃ e' ys',z=some (.pan (B5 t c),⟨e',BX bx id (Ap L i' o' .nils) ys'⟩):=by
     rw [<- hE];refine key _ ?_
     first | rfl | (simp only [S7,A6,seval];done) | (simp only [S7,A6,seval] <;> rfl)
    obtain ⟨e',ys',he⟩:=hP;subst he;clear hE key;unfold Ap;simp only [S9,A6,seval,PY,PZ,AS,Aw,SX,hid];exact ⟨_,rfl⟩
   | ok v j=>
    have hX:(C8 32 (([]++[v]).map DS)).pure=true:=EH _ _ (map_pure DS Fx _);refine fun B hB=>LU (P:=Ap L i o (C8 32 ([].map DS))) (by simp [Ak,PV.pure]) hB.1 hB.2 (Bm L _ _ hX) (by simp [CR.under,PV.under,Ar]) ?_;have hid:=(Ab4.1 hB.2).1;have hc:=hB.1;clear hX;unfold xz at key;dsimp only at key;generalize C8 32 (([]++[v]).map DS)=X at key |-;generalize B=bx at *;have hd:∀ k,id < bx.length+k:=fun k=>by omega
    have tis:=Ab hid hc hR (Dr (id:=id) (o:=o) hR hi 1 1 rfl [114,117,108,101]);rw [hk] at tis;have key:=key bx hid hc
    try simp only [Aax,BM] at tis
    try simp only [Aax,BM] at |-
    try simp only [Aax,BM] at key
    rw [Bu rfl];rw [Du];unfold Ap at|-key;rw [<- Ch];rw [<- Ch] at key;rw [<- C3] at tis;simp only [opsOf,Aa,Ac,Aav,Aau] at |-;simp only [S9,A6,seval,PY,PZ,AS,Aw,hd,tis,SX,VU,hid];generalize hE:Tm T _=z
    have hP:∃ e' ys',z=some (.normal,⟨e',BX bx id (Ap L j o X) ys'⟩):=by
     rw [<- hE];refine key _ ?_
     first | rfl | (simp only [S7,A6,seval];done) | (simp only [S7,A6,seval] <;> rfl)
    obtain ⟨e',ys',he⟩:=hP;subst he;clear hE key;unfold Ap;simp only [S9,A6,seval,PY,PZ,AS,Aw,SX,hid];exact ⟨_,rfl⟩
  | cons x rs=>
   by_cases np:(x :: rs).length=40
   · rw [if_pos ⟨rfl,np⟩]
     have VU:((((rs.map DS).length+1:Nat):Int) == 40)=true:=by rw [Ab1];simp only [Aaz] at np;rw [np];rfl
     refine ⟨i,o,Ax hR fun bx hid hc=>?_⟩;have hd:∀ k,id < bx.length+k:=fun k=>by omega
     have tis:=Ab hid hc hR (Dr (id:=id) (o:=o) hR hi 1 1 rfl [114,117,108,101]);rw [hk] at tis;have ER:=fun e g1=>oT (id:=id) (L:=L) (i:=i) (o:=o) hR hid hc hi e g1
     try simp only [Aaw,BY] at tis
     try simp only [Aaw,BY] at |-
     try simp only [Aaw,BY] at ER
     rw [Bu rfl];rw [Du];simp only [<- A8 xw] at ER;unfold Ap at|-ER;rw [<- Ch];rw [<- I3] at ER;rw [<- C3] at tis;simp only [opsOf,Aa,Ac,Aav,Aau] at|-ER;simp only [S9,A6,seval,PY,PZ,AS,Aw,hd,tis,SX,VU,ER,hid];exact ⟨_,rfl⟩
   · rw [if_neg (fun h=>np h.2)]
     have VU:((((rs.map DS).length+1:Nat):Int) == 40)=false:=by rw [Ab1];simp only [Aaz] at np;exact beq_eq_false_iff_ne.2 (by omega)
     revert key;generalize Pt L n (x :: rs) i=rr;intro key;cases rr with
     | out=>trivial
     | bad t c=>
      obtain ⟨i',o',key⟩:=key;refine ⟨i',o',Ax hR fun bx hid hc=>?_⟩;have hd:∀ k,id < bx.length+k:=fun k=>by omega
      have tis:=Ab hid hc hR (Dr (id:=id) (o:=o) hR hi 1 1 rfl [114,117,108,101]);rw [hk] at tis;have key:=key bx hid hc
      try simp only [Aaw,BY] at tis
      try simp only [Aaw,BY] at |-
      try simp only [Aaw,BY] at key
      rw [Bu rfl];rw [Du];unfold Ap at|-key;rw [<- Ch];rw [<- Ch] at key;rw [<- C3] at tis;simp only [opsOf,Aa,Ac,Aav,Aau] at |-;simp only [S9,A6,seval,PY,PZ,AS,Aw,hd,tis,SX,VU,hid];generalize hE:Tm T _=z
      have hP:∃ e' ys',z=some (.pan (B5 t c),⟨e',BX bx id (Ap L i' o' (.osl 32 (DS x :: rs.map DS))) ys'⟩):=by
       rw [<- hE];refine key _ ?_
       first | rfl | (simp only [S7,A6,seval];done) | (simp only [S7,A6,seval] <;> rfl)
      obtain ⟨e',ys',he⟩:=hP;subst he;clear hE key;unfold Ap;simp only [S9,A6,seval,PY,PZ,AS,Aw,SX,hid];exact ⟨_,rfl⟩
     | ok v j=>
      have hX:(C8 32 (((x :: rs)++[v]).map DS)).pure=true:=EH _ _ (map_pure DS Fx _);refine fun B hB=>LU (P:=Ap L i o (C8 32 ((x :: rs).map DS))) (by simp [Ak,PV.pure]) hB.1 hB.2 (Bm L _ _ hX) (by simp [CR.under,PV.under,Ar]) ?_;have hid:=(Ab4.1 hB.2).1;have hc:=hB.1;clear hX;unfold xz at key;dsimp only at key;generalize C8 32 (((x :: rs)++[v]).map DS)=X at key |-;generalize B=bx at *;have hd:∀ k,id < bx.length+k:=fun k=>by omega
      have tis:=Ab hid hc hR (Dr (id:=id) (o:=o) hR hi 1 1 rfl [114,117,108,101]);rw [hk] at tis;have key:=key bx hid hc
      try simp only [Aaw,BY] at tis
      try simp only [Aaw,BY] at |-
      try simp only [Aaw,BY] at key
      rw [Bu rfl];rw [Du];unfold Ap at|-key;rw [<- Ch];rw [<- Ch] at key;rw [<- C3] at tis;simp only [opsOf,Aa,Ac,Aav,Aau] at |-;simp only [S9,A6,seval,PY,PZ,AS,Aw,hd,tis,SX,VU,hid];generalize hE:Tm T _=z
      have hP:∃ e' ys',z=some (.normal,⟨e',BX bx id (Ap L j o X) ys'⟩):=by
       rw [<- hE];refine key _ ?_
       first | rfl | (simp only [S7,A6,seval];done) | (simp only [S7,A6,seval] <;> rfl)
      obtain ⟨e',ys',he⟩:=hP;subst he;clear hE key;unfold Ap;simp only [S9,A6,seval,PY,PZ,AS,Aw,SX,hid];exact ⟨_,rfl⟩
theorem Si:Be CC Ab2 (Ab2.body.getD .skip)=true:=by kernel_rfl
theorem Qh:CC.P.funcs[48]?=some Ab2:=by kernel_rfl
theorem HO {x:List PV} {b:List PBox} (h:x.length.ble Ab2.ntmps=true):Ad CC 48 x b=CD CC Ab2.results.toList (Cf CC (Ab2.body.getD .skip) ⟨x,b⟩):=Ah (fn:=Ab2) (c:=Ab2.body.getD .skip) rfl rfl Qh rfl Si (Nat.le_of_ble_eq_true h)
theorem Aac (t e:Int):A' CC 84 [(0,.int .i64 t),(1,.int .i64 e)]=some (.agg [.int .i64 t,.int .i64 e]):=by kernel_rfl
theorem Aad (xs:List PV):A' CC 92 [(0,.sl xs)]=some (.agg [.sl xs,.int .i64 0,.int .i64 0,.nils]):=by kernel_rfl
theorem Ur (s:List UInt8) (hs:s.length<=40000) (h0:(BH s).2.2=0) (bx:List PBox):Ad CC 48 [.str s] bx=some (.ret (.bp bx.length 0),bx++[Ap (BH s).1 0 0 .nils]):=by
 have ht:=H3 s (by omega) bx;rw [h0] at ht;rw [HO rfl];unfold Ap;generalize Bl (BH s).1=xs at *;rw [<- Al];rw [<- AI] at ht;simp only [Aa,Ac,Ab2,Aau];simp only [S9,Af,seval,y9,ht,Aad,CZ,Aw]
 try rfl
theorem Sj (s:List UInt8) (hs:s.length<=40000) (h0:(BH s).2.2≠0) (bx:List PBox):Ad CC 48 [.str s] bx=some (.pan (B5 (BH s).2.1 (BH s).2.2),bx):=by
 have ht:=H3 s (by omega) bx;have hz:((BH s).2.2 != 0)=true:=by simp [bne_iff_ne,h0]
 rw [HO rfl];unfold B5;generalize Bl (BH s).1=xs at *;generalize (BH s).2.2=er at *;generalize (BH s).2.1=ta at *;rw [<- Al];rw [<- AI] at ht;simp only [Aa,Ac,Ab2,Aau];simp only [S9,Af,seval,y9,ht,hz,Aac,jX,CZ,Aw]
 try rfl
def Fy (L:List Tk) (n:Nat):Nat->List Rl->Nat->PR (List Rl)
 | 0,_,_=>.out
 | m+1,rs,i=>if (tokAt L i).1=0 then .ok rs i else (LY L n rs i).bind fun r i=>Fy L n m (rs++[r]) i
theorem kK {L:List Tk} (hT:TokOK L) {n:Nat} {nm:List UInt8} {i:Nat} {a:Rl} {j:Nat} (hi:i < L.length) (h:KX L n nm i=.ok a j):j < L.length:=by
 unfold KX Mk at h;obtain ⟨pr,i1,r1,h⟩:=Aq h
 have h1:i1 < L.length:=by
  split at r1
  · rename_i hk
    have:=AO hT hi hk (by decide);exact (GN hT this r1).2.1
  · injection r1 with _ r1
    exact r1 ▸ hi
 obtain ⟨x,i9,r2,h⟩:=Aq h;injection h with _ h
 subst h;obtain ⟨_,i2,r3,r2⟩:=Aq r2;have h2:=(A4 hT h1 (by decide) r3).2;obtain ⟨on,i3,r4,r2⟩:=Aq r2;have h3:=(Gm hT (fun i a j hi h=>Gl hT hi h) 10 [] i2 on i3 h2 (by simp) r4).1;obtain ⟨e,i4,r5,r2⟩:=Aq r2
 have h4:i4 < L.length:=by
  split at r5
  · rename_i hk
    have nf:=AO hT h3 hk (by decide);obtain ⟨_,i5,r6,r5⟩:=Aq r5;have h5:=(F' hT nf r6).2;obtain ⟨_,i6,r7,r5⟩:=Aq r5;injection r5 with _ r5
    exact r5 ▸ (A4 hT h5 (by decide) r7).2
  · injection r5 with _ r5
    exact r5 ▸ h3
 obtain ⟨dos,i5,r6,r2⟩:=Aq r2;have h5:=(Gm hT (fun i a j hi h=>Nv hT hi h) 10 [] i4 dos i5 h4 (by simp) r6).1;obtain ⟨_,i6,r7,r2⟩:=Aq r2;injection r2 with _ r2
 exact r2 ▸ (A4 hT h5 (by decide) r7).2
theorem YW {L:List Tk} (hT:TokOK L) {n:Nat} {rs:List Rl} {i:Nat} {a:Rl} {j:Nat} (hi:i < L.length) (h:LY L n rs i=.ok a j):j < L.length/\rs.length≠40:=by
 rw [YV] at h;split at h
 · cases h
 · rename_i hn
   unfold Pt at h;obtain ⟨_,i0,r0,h⟩:=Aq h
   have hk:Bs L 1 [114,117,108,101] i=true:=by
    unfold Bt at r0;split at r0
    · assumption
    · cases r0
   have h0:=(A4 hT hi (by decide) r0).2;obtain ⟨nm,i1,r1,h⟩:=Aq h;have h1:=(C1 hT h0 r1).2;split at h
   · cases h
   · exact ⟨kK hT h1 h,fun e=>hn ⟨hk,e⟩⟩
def gF (Lc:Code) (L:List Tk) (rs:List Rl) (i:Nat) (r:PR (List Rl)):Prop:=match r with
 | .ok l j=>∀ e:List PV,getT e 2=.bp 0 0->getT e 3=.bp 1 0->getT e 4=.bp 2 0->getT e 5=.bp 3 0->∃ e',Cf CC Lc ⟨e,[.cells 41 [.nils],.cells 3 [.int .i64 0],.cells 35 [.int .i64 0],Ap L i 0 (C8 32 (rs.map DS))]⟩=some (.exit 0,⟨e',[.cells 41 [.nils],.cells 3 [.int .i64 0],.cells 35 [.int .i64 0],Ap L j 0 (C8 32 (l.map DS))]⟩)/\getT e' 2=.bp 0 0/\getT e' 3=.bp 1 0/\getT e' 4=.bp 2 0/\getT e' 5=.bp 3 0
 | .bad t c=>∀ e:List PV,getT e 2=.bp 0 0->getT e 3=.bp 1 0->getT e 4=.bp 2 0->getT e 5=.bp 3 0->∃ (e':List PV) (i' o':Nat) (rs':List Rl),Cf CC Lc ⟨e,[.cells 41 [.nils],.cells 3 [.int .i64 0],.cells 35 [.int .i64 0],Ap L i 0 (C8 32 (rs.map DS))]⟩=some (.pan (B5 t c),⟨e',[.cells 41 [.nils],.cells 3 [.int .i64 0],.cells 35 [.int .i64 0],Ap L i' o' (C8 32 (rs'.map DS))]⟩)/\getT e' 2=.bp 0 0/\getT e' 3=.bp 1 0/\getT e' 4=.bp 2 0
 | .out=>True
theorem kM (L:List Tk) (i o:Nat) (rs:List Rl):Nc L i o (C8 32 (rs.map DS)) 3 [.cells 41 [.nils],.cells 3 [.int .i64 0],.cells 35 [.int .i64 0],Ap L i o (C8 32 (rs.map DS))]:=by
 refine ⟨?_,rfl⟩;have:=Bm (n:=4) L i o (EH 32 _ (map_pure DS Fx rs));unfold DM;simp only [SU,Aaz,Ab0,this,Ab5]
theorem Ml (Lc:Code) (hL:Lc=Aa Aay [1,1,1,0,0]) {L:List Tk} (hT:TokOK L) (n:Nat):∀ (m:Nat) (rs:List Rl) (i:Nat),rs.length<=40->i < L.length->gF Lc L rs i (Fy L n m rs i):=by
 intro m
 induction m with
 | zero=>intro rs i _ _;trivial
 | succ m ih=>
  intro rs i VU hi;have hR:=EH 32 _ (map_pure DS Fx rs);have AS:Ak [PV.bp 3 0]=false:=rfl;have t0:=AA (id:=3) (o:=0) hR hi _ (kM L i 0 rs);simp only [Ab7,Ab6] at t0;have hz:=Ot (tokAt L i).1 0;have qS:((0:Nat):Int)=0:=rfl;rw [Fy];by_cases hk:(tokAt L i).1=0
  · rw [if_pos hk]
    have hz:((((tokAt L i).1:Nat):Int) != 0)=false:=by rw [hk];rfl
    refine fun e g2 g3 g4 g5=>?_;rw [AX (Aa Aay [1,1,1,0,0,0]) hL];generalize C8 32 (rs.map DS)=RV at *;unfold Ap at t0 |-
    try simp only [qS] at t0
    rw [<- Al];rw [<- AI] at t0;simp only [Aa,Ac,Aay,Aau];simp only [S9,Af,seval,PY,AS,Aw,g5,t0,hz];exact ⟨_,rfl,by simp only [S7,Af,seval,g2],by simp only [S7,Af,seval,g3],by simp only [S7,Af,seval,g4],by simp only [S7,Af,seval,g5]⟩
  · rw [if_neg hk]
    have hz:((((tokAt L i).1:Nat):Int) != 0)=true:=by simp [hk]
    have h1:=kJ (id:=3) (o:=0) hT rs VU n rfl hi;cases r1:LY L n rs i with
    | out=>trivial
    | bad t c=>
     rw [r1] at h1;obtain ⟨i',o',h1⟩:=h1;refine fun e g2 g3 g4 g5=>?_;have t1:=h1 _ (kM L i 0 rs);simp only [Ab7,Ab6] at t1;refine Exists.elim (?_:∃ e',Cf CC Lc ⟨e,[.cells 41 [.nils],.cells 3 [.int .i64 0],.cells 35 [.int .i64 0],Ap L i 0 (C8 32 (rs.map DS))]⟩=some (.pan (B5 t c),⟨e',[.cells 41 [.nils],.cells 3 [.int .i64 0],.cells 35 [.int .i64 0],Ap L i' o' (C8 32 (rs.map DS))]⟩)/\getT e' 2=.bp 0 0/\getT e' 3=.bp 1 0/\getT e' 4=.bp 2 0) (fun e' h=>⟨e',i',o',rs,h⟩);rw [AX (Aa Aay [1,1,1,0,0,0]) hL];generalize C8 32 (rs.map DS)=RV at *;unfold Ap at t0 t1 |-
     try simp only [qS] at t0
     try simp only [qS] at t1
     rw [<- Al];rw [<- AI] at t0 t1;simp only [Aa,Ac,Aay,Aau];simp only [S9,Af,seval,PY,AS,Aw,g5,t0,t1,hz];exact ⟨_,rfl,by simp only [S7,Af,seval,g2],by simp only [S7,Af,seval,g3],by simp only [S7,Af,seval,g4]⟩
    | ok r i1=>
     rw [r1] at h1;dsimp only [Au];have BC:=YW hT hi r1;have key:=ih (rs++[r]) i1 (by rw [List.length_append];simp only [Aaz,Ab0];omega) BC.1;have t1:=h1 _ (kM L i 0 rs);simp only [Ab7,Ab6] at t1;cases r2:Fy L n m (rs++[r]) i1 with
     | out=>trivial
     | bad t c=>
      rw [r2] at key;refine fun e g2 g3 g4 g5=>?_;unfold gF at key;dsimp only at key;rw [AX (Aa Aay [1,1,1,0,0,0]) hL];generalize C8 32 (rs.map DS)=RV at *;generalize C8 32 ((rs++[r]).map DS)=RW at *;unfold Ap at t0 t1 key |-
      try simp only [qS] at t0
      try simp only [qS] at t1
      try simp only [qS] at key
      rw [<- Al];rw [<- Al] at key;rw [<- AI] at t0 t1;simp only [Aa,Ac,Aay,Aau];simp only [S9,Af,seval,PY,AS,Aw,g5,t0,t1,hz];refine key _ ?_ ?_ ?_ ?_
      · simp only [S7,Af,seval,g2]
      · simp only [S7,Af,seval,g3]
      · simp only [S7,Af,seval,g4]
      · simp only [S7,Af,seval,g5]
     | ok l j=>
      rw [r2] at key;refine fun e g2 g3 g4 g5=>?_;unfold gF at key;dsimp only at key;rw [AX (Aa Aay [1,1,1,0,0,0]) hL];generalize C8 32 (rs.map DS)=RV at *;generalize C8 32 ((rs++[r]).map DS)=RW at *;unfold Ap at t0 t1 key |-
      try simp only [qS] at t0
      try simp only [qS] at t1
      try simp only [qS] at key
      rw [<- Al];rw [<- Al] at key;rw [<- AI] at t0 t1;simp only [Aa,Ac,Aay,Aau];simp only [S9,Af,seval,PY,AS,Aw,g5,t0,t1,hz];refine key _ ?_ ?_ ?_ ?_
      · simp only [S7,Af,seval,g2]
      · simp only [S7,Af,seval,g3]
      · simp only [S7,Af,seval,g4]
      · simp only [S7,Af,seval,g5]
theorem KY (s:List UInt8) (hs:s.length<=40000) (h0:(BH s).2.2=0) (bx:List PBox):Ai CC (Ad CC) 48 [.str s] bx=some (.ret (.bp bx.length 0),bx++[Ap (BH s).1 0 0 .nils]):=by
 unfold Ai;rw [if_pos (show (CC.heap 48 || !Ak [PV.str s])=true from rfl),Ur s hs h0 bx];simp only;unfold Eu;rw [if_neg (by simp [CR.under,PV.under])]
theorem WY (s:List UInt8) (hs:s.length<=40000) (h0:(BH s).2.2≠0):Ai CC (Ad CC) 48 [.str s] [.cells 41 [.nils],.cells 3 [.int .i64 0],.cells 35 [.int .i64 0]]=some (.pan (B5 (BH s).2.1 (BH s).2.2),[.cells 41 [.nils],.cells 3 [.int .i64 0],.cells 35 [.int .i64 0]]):=by
 unfold Ai;rw [if_pos (show (CC.heap 48 || !Ak [PV.str s])=true from rfl),Sj s hs h0 _];simp only;unfold Eu;split <;> rfl
theorem YX (x y:Int) (e:List PV) (r:List PBox) (k2:getT e 2=.bp 0 0) (k3:getT e 3=.bp 1 0) (k4:getT e 4=.bp 2 0):Lt.post (.pan (.iface 84 (.agg [.int .i64 x,.int .i64 y])),⟨e,.cells 41 [.nils] :: .cells 3 [.int .i64 0] :: .cells 35 [.int .i64 0] :: r⟩)=some (.ret (.tup [.sl [],.int .i64 x,.int .i64 y]),[]):=by
 have h:nr 1 ⟨e,.cells 41 [.nils] :: .cells 3 [.int .i64 0] :: .cells 35 [.int .i64 0] :: r⟩=true:=by unfold nr;simp only [k2,k3,k4];rfl
 show (if (decide (84=84) && nr 1 ⟨e,.cells 41 [.nils] :: .cells 3 [.int .i64 0] :: .cells 35 [.int .i64 0] :: r⟩)=true then some (CR.ret (.tup [fJ [.osl 32 []],.int .i64 x,.int .i64 y]),([]:List PBox)) else none)=_;rw [h];rfl
theorem Sk (s:List UInt8) (hs:s.length<=40000) (h0:(BH s).2.2≠0):Ad CC 24 [.str s] []=some (.ret (.tup [.sl [],.int .i64 ((BH s).2.1:Int),.int .i64 (BH s).2.2]),[]):=by
 rw [Ld (k:=Lt) rfl rfl];have AS:Ak [PV.bp 3 0]=false:=rfl;have ht:=WY s hs h0;unfold B5 at ht;generalize (BH s).2.2=er at *;generalize (BH s).2.1=ta at *;have GJ:Lt.code=Aa Aay [1,1]:=rfl;have mV:Lt.pre [.str s] []=some ⟨setT (Ls s) 6 (.fn 51 [] [.bp 0 0,.bp 1 0,.bp 2 0]),[.cells 41 [.nils],.cells 3 [.int .i64 0],.cells 35 [.int .i64 0]]⟩:=rfl;unfold Ev;rw [mV,GJ]
 have XE:∃ e',Cf CC (Aa Aay [1,1]) ⟨setT (Ls s) 6 (.fn 51 [] [.bp 0 0,.bp 1 0,.bp 2 0]),[.cells 41 [.nils],.cells 3 [.int .i64 0],.cells 35 [.int .i64 0]]⟩=some (.pan (.iface 84 (.agg [.int .i64 (ta:Int),.int .i64 er])),⟨e',[.cells 41 [.nils],.cells 3 [.int .i64 0],.cells 35 [.int .i64 0]]⟩)/\getT e' 2=.bp 0 0/\getT e' 3=.bp 1 0/\getT e' 4=.bp 2 0:=by
  unfold Ls;rw [<- Al];rw [<- AI] at ht;simp only [Aa,Ac,Aay,Aau];simp only [S9,Af,seval,PY,AS,Aw,ht];exact ⟨_,rfl,by simp only [S7,Af,seval];try rfl,by simp only [S7,Af,seval];try rfl,by simp only [S7,Af,seval];try rfl⟩
 obtain ⟨e',he,k2,k3,k4⟩:=XE;simp only;rw [he];exact YX _ _ e' [] k2 k3 k4
theorem Sl (s:List UInt8) (hs:s.length<=40000) (h0:(BH s).2.2=0) (hT:TokOK (BH s).1) (n m:Nat) {t:Nat} {c:Int} (h:Fy (BH s).1 n m [] 0=.bad t c):Ad CC 24 [.str s] []=some (.ret (.tup [.sl [],.int .i64 (t:Int),.int .i64 c]),[]):=by
 rw [Ld (k:=Lt) rfl rfl];have AS:Ak [PV.bp 3 0]=false:=rfl;have ht:=KY s hs h0 [.cells 41 [.nils],.cells 3 [.int .i64 0],.cells 35 [.int .i64 0]];have Ag:=Ml _ rfl hT n m [] 0 (by simp) hT.pos;rw [h] at Ag;unfold gF at Ag;simp only [Aax,BM] at Ag;have GJ:Lt.code=Aa Aay [1,1]:=rfl;have mV:Lt.pre [.str s] []=some ⟨setT (Ls s) 6 (.fn 51 [] [.bp 0 0,.bp 1 0,.bp 2 0]),[.cells 41 [.nils],.cells 3 [.int .i64 0],.cells 35 [.int .i64 0]]⟩:=rfl;unfold Ev;rw [mV,GJ]
 have XE:∃ (e':List PV) (i' o':Nat) (rs':List Rl),Cf CC (Aa Aay [1,1]) ⟨setT (Ls s) 6 (.fn 51 [] [.bp 0 0,.bp 1 0,.bp 2 0]),[.cells 41 [.nils],.cells 3 [.int .i64 0],.cells 35 [.int .i64 0]]⟩=some (.pan (B5 t c),⟨e',[.cells 41 [.nils],.cells 3 [.int .i64 0],.cells 35 [.int .i64 0],Ap (BH s).1 i' o' (C8 32 (rs'.map DS))]⟩)/\getT e' 2=.bp 0 0/\getT e' 3=.bp 1 0/\getT e' 4=.bp 2 0:=by
  simp only [Aa,Ac,Aay,Aau] at Ag |-;unfold Ap at Ag ht |-;unfold Ls;rw [<- Al];rw [<- Al] at Ag;rw [<- AI] at ht;simp only [S9,Af,seval,PY,AS,Aw,ht];generalize hE:GM _ _=z
  have hP:∃ (e':List PV) (i' o':Nat) (rs':List Rl),z=some (.pan (B5 t c),⟨e',[.cells 41 [.nils],.cells 3 [.int .i64 0],.cells 35 [.int .i64 0],Ap (BH s).1 i' o' (C8 32 (rs'.map DS))]⟩)/\getT e' 2=.bp 0 0/\getT e' 3=.bp 1 0/\getT e' 4=.bp 2 0:=by
   rw [<- hE];unfold Ap;refine Ag _ ?_ ?_ ?_ ?_
   · simp only [S7,Af,seval];try rfl
   · simp only [S7,Af,seval];try rfl
   · simp only [S7,Af,seval];try rfl
   · simp only [S7,Af,seval];try rfl
  obtain ⟨e',i',o',rs',he,k⟩:=hP;refine ⟨e',i',o',rs',?_,k⟩;subst he;unfold Ap;simp only [S9,Af,seval,PY,AS,Aw]
 obtain ⟨e',i',o',rs',he,k2,k3,k4⟩:=XE;simp only;rw [he];exact YX _ _ e' _ k2 k3 k4
theorem YY (v:PV) (hv:v.pure=true) (e:List PV) (r:List PBox) (k2:getT e 2=.bp 0 0) (k3:getT e 3=.bp 1 0) (k4:getT e 4=.bp 2 0):Lt.post (.ret,⟨e,.cells 41 [v] :: .cells 3 [.int .i64 0] :: .cells 35 [.int .i64 0] :: r⟩)=some (.ret (.tup [v.ro.shutV,.int .i64 0,.int .i64 0]),[]):=by
 have h:nr 1 ⟨e,.cells 41 [v] :: .cells 3 [.int .i64 0] :: .cells 35 [.int .i64 0] :: r⟩=true:=by unfold nr;simp only [k2,k3,k4,AK,Bk,hv];rfl
 show (if nr 1 ⟨e,.cells 41 [v] :: .cells 3 [.int .i64 0] :: .cells 35 [.int .i64 0] :: r⟩=true then some (CR.ret (.tup [fJ [v],.int .i64 0,.int .i64 0]),([]:List PBox)) else none)=_;rw [h];rfl
theorem Sm (s:List UInt8) (hs:s.length<=40000) (h0:(BH s).2.2=0) (hT:TokOK (BH s).1) (n m:Nat) {j:Nat} (h:Fy (BH s).1 n m [] 0=.ok [] j):Ad CC 24 [.str s] []=some (.ret (.tup [.sl [],.int .i64 0,.int .i64 0]),[]):=by
 rw [Ld (k:=Lt) rfl rfl];have AS:Ak [PV.bp 3 0]=false:=rfl;have ht:=KY s hs h0 [.cells 41 [.nils],.cells 3 [.int .i64 0],.cells 35 [.int .i64 0]];have Ag:=Ml _ rfl hT n m [] 0 (by simp) hT.pos;rw [h] at Ag;unfold gF at Ag;simp only [Aax,Aaw,BM,BY] at Ag;skip;skip;have GJ:Lt.code=Aa Aay [1,1]:=rfl;have mV:Lt.pre [.str s] []=some ⟨setT (Ls s) 6 (.fn 51 [] [.bp 0 0,.bp 1 0,.bp 2 0]),[.cells 41 [.nils],.cells 3 [.int .i64 0],.cells 35 [.int .i64 0]]⟩:=rfl;unfold Ev;rw [mV,GJ]
 have XE:∃ (e':List PV) (r:List PBox),Cf CC (Aa Aay [1,1]) ⟨setT (Ls s) 6 (.fn 51 [] [.bp 0 0,.bp 1 0,.bp 2 0]),[.cells 41 [.nils],.cells 3 [.int .i64 0],.cells 35 [.int .i64 0]]⟩=some (.ret,⟨e',.cells 41 [.nils] :: .cells 3 [.int .i64 0] :: .cells 35 [.int .i64 0] :: r⟩)/\getT e' 2=.bp 0 0/\getT e' 3=.bp 1 0/\getT e' 4=.bp 2 0:=by
  simp only [Aa,Ac,Aay,Aau] at Ag |-;unfold Ap at Ag ht;unfold Ls;rw [<- Al];rw [<- Al] at Ag;rw [<- AI] at ht;simp only [S9,Af,seval,PY,AS,Aw,ht];generalize hE:GM _ _=z
  have hP:∃ (e':List PV),z=some (.exit 0,⟨e',[.cells 41 [.nils],.cells 3 [.int .i64 0],.cells 35 [.int .i64 0],Ap (BH s).1 j 0 (.nils)]⟩)/\getT e' 2=.bp 0 0/\getT e' 3=.bp 1 0/\getT e' 4=.bp 2 0/\getT e' 5=.bp 3 0:=by
   rw [<- hE];unfold Ap;refine Ag _ ?_ ?_ ?_ ?_
   · simp only [S7,Af,seval];try rfl
   · simp only [S7,Af,seval];try rfl
   · simp only [S7,Af,seval];try rfl
   · simp only [S7,Af,seval];try rfl
  obtain ⟨e',he,k2,k3,k4,k5⟩:=hP;subst he;unfold Ap;simp only [S9,Af,seval,PY,AS,Aw,k2,k3,k4,k5]
  first | exact ⟨_,_,rfl,by simp only [S7,Af,seval,k2],by simp only [S7,Af,seval,k3],by simp only [S7,Af,seval,k4]⟩
 obtain ⟨e',r,he,k2,k3,k4⟩:=XE;simp only;rw [he];exact YY _ rfl e' r k2 k3 k4
theorem Qi (s:List UInt8) (hs:s.length<=40000) (h0:(BH s).2.2=0) (hT:TokOK (BH s).1) (n m:Nat) {x:Rl} {rs:List Rl} {j:Nat} (h:Fy (BH s).1 n m [] 0=.ok (x :: rs) j):Ad CC 24 [.str s] []=some (.ret (.tup [.sl (DS x :: rs.map DS),.int .i64 0,.int .i64 0]),[]):=by
 rw [Ld (k:=Lt) rfl rfl];have AS:Ak [PV.bp 3 0]=false:=rfl;have ht:=KY s hs h0 [.cells 41 [.nils],.cells 3 [.int .i64 0],.cells 35 [.int .i64 0]];have Ag:=Ml _ rfl hT n m [] 0 (by simp) hT.pos;rw [h] at Ag;unfold gF at Ag;simp only [Aax,Aaw,BM,BY] at Ag;have hpu:(PV.sl (DS x :: rs.map DS)).pure=true:=map_pure DS Fx (x :: rs);generalize DS x :: rs.map DS=xs at *;have GJ:Lt.code=Aa Aay [1,1]:=rfl;have mV:Lt.pre [.str s] []=some ⟨setT (Ls s) 6 (.fn 51 [] [.bp 0 0,.bp 1 0,.bp 2 0]),[.cells 41 [.nils],.cells 3 [.int .i64 0],.cells 35 [.int .i64 0]]⟩:=rfl;unfold Ev;rw [mV,GJ]
 have XE:∃ (e':List PV) (r:List PBox),Cf CC (Aa Aay [1,1]) ⟨setT (Ls s) 6 (.fn 51 [] [.bp 0 0,.bp 1 0,.bp 2 0]),[.cells 41 [.nils],.cells 3 [.int .i64 0],.cells 35 [.int .i64 0]]⟩=some (.ret,⟨e',.cells 41 [.sl xs] :: .cells 3 [.int .i64 0] :: .cells 35 [.int .i64 0] :: r⟩)/\getT e' 2=.bp 0 0/\getT e' 3=.bp 1 0/\getT e' 4=.bp 2 0:=by
  simp only [Aa,Ac,Aay,Aau] at Ag |-;unfold Ap at Ag ht;unfold Ls;rw [<- Al];rw [<- Al] at Ag;rw [<- AI] at ht;simp only [S9,Af,seval,PY,AS,Aw,ht];generalize hE:GM _ _=z
  have hP:∃ (e':List PV),z=some (.exit 0,⟨e',[.cells 41 [.nils],.cells 3 [.int .i64 0],.cells 35 [.int .i64 0],Ap (BH s).1 j 0 (.osl 32 xs)]⟩)/\getT e' 2=.bp 0 0/\getT e' 3=.bp 1 0/\getT e' 4=.bp 2 0/\getT e' 5=.bp 3 0:=by
   rw [<- hE];unfold Ap;refine Ag _ ?_ ?_ ?_ ?_
   · simp only [S7,Af,seval];try rfl
   · simp only [S7,Af,seval];try rfl
   · simp only [S7,Af,seval];try rfl
   · simp only [S7,Af,seval];try rfl
  obtain ⟨e',he,k2,k3,k4,k5⟩:=hP;subst he;unfold Ap;simp only [S9,Af,seval,PY,AS,Aw,k2,k3,k4,k5]
  first | exact ⟨_,_,rfl,by simp only [S7,Af,seval,k2],by simp only [S7,Af,seval,k3],by simp only [S7,Af,seval,k4]⟩
 obtain ⟨e',r,he,k2,k3,k4⟩:=XE;simp only;rw [he];exact YY _ hpu e' r k2 k3 k4
def KZ:NT->Nat
 | .expr=>10 | .chain true=>9 | .chain false=>8 | .chainL _ _=>1 | .not=>7 | .cmp=>6 | .sum=>5 | .sumL _=>1 | .prod=>4 | .prodL _=>1 | .un=>3 | .prim=>2
theorem Az {α β:Type} {r:PR α} {f:α->Nat->PR β} (h:r≠.out) (h2:∀ a i,r=.ok a i->f a i≠.out):r.bind f≠.out:=by
 cases r with
 | ok a i=>exact h2 a i rfl
 | bad t e=>intro e;cases e
 | out=>exact absurd rfl h
theorem B4 {L:List Tk} {k:Nat} {w:List UInt8} {i:Nat}:Bt L k w i≠.out:=by unfold Bt;split <;> (intro e;cases e)
theorem s6 (b:Bool):KZ (Er b)+1<=KZ (.chain b):=by cases b <;> decide
theorem kN (nt:NT):KZ nt<=10/\1<=KZ nt:=by
 cases nt with
 | chain b=>cases b <;> simp [KZ]
 | _=>simp [KZ]
theorem K0 {L:List Tk} {lo hi i:Nat}:Hu L lo hi i≠.out:=by
 unfold Hu;split
 · split <;> (intro e;cases e)
 · intro e;cases e
theorem Ga {L:List Tk} {i:Nat}:DF L i≠.out:=by
 unfold DF;split
 · split <;> (intro e;cases e)
 · intro e;cases e
theorem kO {L:List Tk} {k i:Nat}:P7 L k i≠.out:=by unfold P7;split <;> (intro e;cases e)
theorem YZ {L:List Tk} {hi i:Nat}:P8 L hi i≠.out:=by
 unfold P8;split
 · intro e;cases e
 · exact K0
theorem Ba {α:Type} {a:α} {i:Nat}:PR.ok a i≠.out:=fun e=>nomatch e
theorem IP {L:List Tk} {i:Nat}:Ea L i≠.out:=Az K0 fun _ _ _=>Az B4 fun _ _ _=>Az Ga fun _ _ _=>Az B4 fun _ _ _=>Az Ga fun _ _ _=>Ba
theorem Mm {L:List Tk} {i:Nat}:Fo L i≠.out:=Az YZ fun _ _ _=>Az B4 fun _ _ _=>Az YZ fun _ _ _=>Ba
theorem kP {L:List Tk} {i:Nat}:P9 L i≠.out:=by unfold P9;split <;> (intro e;cases e)
theorem kQ {L:List Tk} (hT:TokOK L) {i a j:Nat} (hi:i < L.length) (h:P9 L i=.ok a j):i < j/\j < L.length:=by
 unfold P9 at h;split at h
 · rename_i k hp
   obtain ⟨_,_,h4⟩:=ID hp;have:=AO hT hi h4 (by decide);injection h with _ h
   omega
 · cases h
theorem gG {L:List Tk} (hT:TokOK L):∀ (n m i:Nat),i < L.length->L.length - i<=n->IA L n m i≠.out:=by
 intro n
 induction n with
 | zero=>intro m i hi h;omega
 | succ n ih=>
  intro m i hi h;rw [IA];refine Az kP fun k j hj=>?_;have h1:=kQ hT hi hj;split
  · rename_i hk
    have h2:=AO hT h1.2 hk (by decide);exact ih _ _ h2 (by omega)
  · exact Ba
theorem Vz {L:List Tk} (hT:TokOK L) {i:Nat} (hi:i < L.length):KC L i≠.out:=gG hT _ _ _ hi (by omega)
theorem gH {L:List Tk} (hT:TokOK L) {i:Nat} (hi:i < L.length):Fp L i≠.out:=by
 unfold Fp;split
 · exact Ba
 split
 · exact Ba
 split
 · exact Az B4 fun _ _ _=>Az Ga fun _ _ _=>Ba
 split
 · exact Az Mm fun _ _ _=>Az B4 fun _ _ _=>Az Mm fun _ _ _=>Ba
 split
 · rename_i hk
   exact Az (Vz hT (AO hT hi hk (by decide))) fun _ _ _=>Ba
 split
 · split <;> exact Ba
 · intro e;cases e
theorem kR {L:List Tk} (hT:TokOK L):∀ (n:Nat) (nt:NT) (o i:Nat),i < L.length->12 * (L.length - i)+KZ nt<=n->pz L n nt o i≠.out:=by
 intro n
 induction n with
 | zero=>intro nt o i hi h;have:=kN nt;omega
 | succ n ih=>
  intro nt o i hi h;have lt:=fun (nt:NT) (o i:Nat) (a:Tr) (j:Nat) hi (r:pz L n nt o i=.ok a j)=>Hj hT n nt o i a j hi r;cases nt with
  | expr=>
   have hr:KZ .expr=10:=rfl;have eW:KZ (.chain true)=9:=rfl;rw [pz];split
   · rename_i hk
     have h0:=AO hT hi hk (by decide);split
     · refine Az (ih _ _ _ h0 (by omega)) fun _ i1 r1=>Az B4 fun _ i2 r2=>?_
       have h1:=lt _ _ _ _ _ h0 r1;have h2:=A4 hT h1.2 (by decide) r2;refine Az (ih _ _ _ h2.2 (by omega)) fun _ i3 r3=>Az B4 fun _ i4 r4=>?_;have h3:=lt _ _ _ _ _ h2.2 r3;have h4:=A4 hT h3.2 (by decide) r4;exact Az (ih _ _ _ h4.2 (by omega)) fun _ _ _=>Ba
     · intro e;cases e
   · exact ih _ _ _ hi (by omega)
  | chain b=>
   have hr:=s6 b;have eW:KZ (.chainL b [])=1:=rfl;rw [pz];refine Az (ih _ _ _ hi (by omega)) fun a i1 r1=>?_;have h1:=lt _ _ _ _ _ hi r1;have wi:KZ (.chainL b [a])=1:=rfl;have hr4:=(kN (Er b)).2;exact ih _ _ _ h1.2 (by omega)
  | chainL b acc=>
   have hr:KZ (.chainL b acc)=1:=rfl;rw [pz];split
   · rename_i hk
     have h0:=AO hT hi hk (by decide);split
     · intro e;cases e
     · have hr4:=(kN (Er b)).1
       refine Az (ih _ _ _ h0 (by omega)) fun a i1 r1=>?_;have h1:=lt _ _ _ _ _ h0 r1;have wi:KZ (.chainL b (acc++[a]))=1:=rfl;exact ih _ _ _ h1.2 (by omega)
   · exact Ba
  | not=>
   have hr:KZ .not=7:=rfl;have eW:KZ .cmp=6:=rfl;rw [pz];split
   · rename_i hk
     have h0:=AO hT hi hk (by decide);split
     · exact Az (ih _ _ _ h0 (by omega)) fun _ _ _=>Ba
     · intro e;cases e
   · exact ih _ _ _ hi (by omega)
  | cmp=>
   have hr:KZ .cmp=6:=rfl;have eW:KZ .sum=5:=rfl;rw [pz];refine Az (ih _ _ _ hi (by omega)) fun a i1 r1=>?_;have h1:=lt _ _ _ _ _ hi r1;split
   · rename_i k hp
     obtain ⟨_,_,h4⟩:=ID hp;have h0:=AO hT h1.2 h4 (by decide);exact Az (ih _ _ _ h0 (by omega)) fun _ _ _=>Ba
   · exact Ba
  | sum=>
   have hr:KZ .sum=5:=rfl;have eW:KZ .prod=4:=rfl;rw [pz];refine Az (ih _ _ _ hi (by omega)) fun a i1 r1=>?_;have h1:=lt _ _ _ _ _ hi r1;have wi:KZ (.sumL a)=1:=rfl;exact ih _ _ _ h1.2 (by omega)
  | sumL e=>
   have hr:KZ (.sumL e)=1:=rfl;have eW:KZ .prod=4:=rfl;rw [pz];split
   · rename_i hk
     have h0:=AO hT hi hk (by decide);refine Az (ih _ _ _ h0 (by omega)) fun a i1 r1=>?_;have h1:=lt _ _ _ _ _ h0 r1;have wi:KZ (.sumL (Bf 11 [e,a]))=1:=rfl;exact ih _ _ _ h1.2 (by omega)
   split
   · rename_i hk
     have h0:=AO hT hi hk (by decide);refine Az (ih _ _ _ h0 (by omega)) fun a i1 r1=>?_;have h1:=lt _ _ _ _ _ h0 r1;have wi:KZ (.sumL (Bf 12 [e,a]))=1:=rfl;exact ih _ _ _ h1.2 (by omega)
   · exact Ba
  | prod=>
   have hr:KZ .prod=4:=rfl;have eW:KZ .un=3:=rfl;rw [pz];refine Az (ih _ _ _ hi (by omega)) fun a i1 r1=>?_;have h1:=lt _ _ _ _ _ hi r1;have wi:KZ (.prodL a)=1:=rfl;exact ih _ _ _ h1.2 (by omega)
  | prodL e=>
   have hr:KZ (.prodL e)=1:=rfl;have eW:KZ .un=3:=rfl;rw [pz];split
   · rename_i hk
     have h0:=AO hT hi hk (by decide);refine Az (ih _ _ _ h0 (by omega)) fun a i1 r1=>?_;have h1:=lt _ _ _ _ _ h0 r1;have wi:KZ (.prodL (Bf 13 [e,a]))=1:=rfl;exact ih _ _ _ h1.2 (by omega)
   · exact Ba
  | un=>
   have hr:KZ .un=3:=rfl;have eW:KZ .prim=2:=rfl;rw [pz];split
   · rename_i hk
     have h0:=AO hT hi hk (by decide);split
     · exact Ba
     split
     · exact Az (ih _ _ _ h0 (by omega)) fun _ _ _=>Ba
     · intro e;cases e
   · exact ih _ _ _ hi (by omega)
  | prim=>
   have hr:KZ .prim=2:=rfl;have eW:KZ .expr=10:=rfl;rw [pz];split
   · exact Ba
   split
   · exact Az IP fun _ _ _=>Ba
   split
   · exact Ba
   split
   · exact Az K0 fun _ _ _=>Ba
   split
   · rename_i hk
     have h0:=AO hT hi hk (by decide);split
     · exact Az (ih _ _ _ h0 (by omega)) fun _ _ _=>Az B4 fun _ _ _=>Ba
     · intro e;cases e
   · exact gH hT hi
end Go.HH
