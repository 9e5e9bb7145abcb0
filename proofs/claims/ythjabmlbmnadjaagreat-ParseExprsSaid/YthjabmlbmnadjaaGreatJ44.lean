/-
  What the law needs, packed: GF GG GH GI GJ GK GL.
-/
import Derived.Test.YthjabmlbmnadjaaGreatJ43
open Bool renaming false_eq_true->yW
open Option renaming getD->yX
open Go.Proofs.Tryz renaming f148->yY,f129->yZ,f145->y2,f121->y3,f113->y4,f87->y5,f54->y6,f78->y8
open Nat renaming le_of_ble_eq_true->y0,mul_one->y1,zero_le->zd
open Go.IntKind renaming wrap->y7
open Go.Code renaming loop->y9
open List renaming drop_of_length_le->y',drop_zero->za
namespace Go.HH
open Go Go.Proofs
set_option maxRecDepth 100000
set_option maxHeartbeats 4000000
set_option linter.unusedSimpArgs false
set_option linter.unusedVariables false
set_option linter.unusedSectionVars false
theorem NO:Bk CC yY (yY.body.getD .skip)=true:=by kernel_rfl
theorem MH:CC.P.funcs[148]?=some yY:=by kernel_rfl
theorem BY {x:List PV} {b:List PBox} (h:x.length.ble yY.ntmps=true):Ae CC 148 x b=CB CC yY.results.toList (Cp CC (yY.body.getD .skip) ⟨x,b⟩):=Ah (fn:=yY) (c:=yY.body.getD .skip) rfl rfl MH rfl NO (y0 h)
def Qz (L:List Tk) (s:RS):Option (Tr×RS):=
 if Bf L s 1 [116,114,117,101] then some (Da 1 1,BZ s) else
 if Bf L s 1 [102,97,108,115,101] then some (Da 1 0,BZ s) else
 if Bf L s 1 [109,111,100,101] then some (.mk 3 0 0 (Cf L (As L (BZ s) 1 [105,115])).1 zV zK [],(Cf L (As L (BZ s) 1 [105,115])).2) else
 if Bf L s 1 [116,105,109,101] then some (.mk 4 ((Cm L (BZ s)).1:Nat) ((Cm L (As L (Cm L (BZ s)).2 1 [116,111])).1:Nat) [] zV zK [],(Cm L (As L (Cm L (BZ s)).2 1 [116,111])).2) else
 if Bf L s 1 [100,97,121,115] then (Ic L (BZ s)).map fun d=>(.mk 5 (d.1:Nat) 0 [] zV zK [],d.2) else
 if Bf L s 1 [104,111,109,101] then (match DE L (BZ s) 1 Bw 0 with
  | some k=>some (.mk 15 ((k+1:Nat):Int) 0 [] zV zK [],BZ (BZ s))
  | none=>some (.mk 15 0 0 [] zV zK [],BZ s)) else some (zT,B9 L s 12)
theorem oq:((List.range 128).all fun m=>decide (Kq .or .i64 ((m:Nat):Int) ((0:Nat):Int)=some ((m:Nat):Int)))=true:=by decide +kernel
theorem q' (L:List Tk) (s:RS) {m:Nat} (hm:m < 128):Kq .or .i64 (m:Int) ((Hn L s).1:Int)=some ((m ||| (Hn L s).1:Nat):Int)/\(m ||| (Hn L s).1) < 128:=by
 unfold Hn;cases hp:DE L s 1 BI 0 with
 | some k=>
  obtain ⟨_,_,h3,_⟩:=OY hp;exact yx hm (by rw [show BI.length=7 from rfl] at h3;omega)
 | none=>
  simp only;rw [Nat.or_zero];exact ⟨by simpa using List.all_eq_true.1 oq m (List.mem_range.2 hm),hm⟩
section
variable {id:Nat} {L:List Tk} {o:Nat} {Nm:PV} (hR:Nm.pure=true)
include hR
def xi (L:List Tk) (Nm:PV) (bx:List PBox) (id o:Nat) (r:Option (Nat×RS)) (z:Option (Ex×St)):Prop:=match r with
 | some d=>∃ e',z=some (.exit 0,⟨e',BX bx id (Be L d.2 o Nm) []⟩)/\getT e' 3=.int .i64 (d.1:Int)
 | none=>True
omit hR in
theorem dk (hR:Nm.pure=true) (hT:TokOK L) (Lc:Code) (hL:Lc=Aa y8 [1,1,0,0]) (bx:List PBox) (Ad:id < bx.length) (hc:C5 bx):∀ (n m:Nat) (s:RS) (e:List PV),inv L s->m < 128->getT e 0=.bp id 0->getT e 3=.int .i64 (m:Int) ->
 xi L Nm bx id o (Ib L n m s) (Cp CC Lc ⟨e,BX bx id (Be L s o Nm) []⟩):=by
 intro n
 induction n with
 | zero=>intro m s e hi hm e0 e3;trivial
 | succ n ih=>
  intro m s e hi hm e0 e3;rw [A0 (Aa y8 [1,1,0,0,0]) hL];have t1:=Aj Ad hc hR (Ay (o:=o) hR hT hi 4 4 rfl [44]);rw [Ib];unfold Cx at t1;cases hn:Bf L s 4 [44] with
  | false=>
   rw [hn] at t1;simp only [yW,if_false] at t1 |-;unfold Be;rw [<- Am];rw [<- AK] at t1;simp only [Aa,Ac,y8,yX];simp only [S9,Ag,seval,PY,Bv,PZ,Aw,Al,e0,e3,t1,Ad];unfold xi Be;exact ⟨_,rfl,by simp only [S7,Ag,seval,e3]⟩
  | true=>
   rw [hn] at t1;simp only [if_true] at t1 |-;have Jb:=Bj hT hi (by decide) hn;have t2:=Aj Ad hc hR (lg (o:=o) hR hT Jb);have hd:=lf L (BZ s);have sy:=RJ hT Jb;obtain ⟨iV,s8⟩:=q' L (BZ s) hm;have key:=fun e=>ih (m ||| (Hn L (BZ s)).1) (Hn L (BZ s)).2 e sy s8;generalize m ||| (Hn L (BZ s)).1=m2 at *
   generalize Hn L (BZ s)=d at *;generalize Ib L n m2 d.2=r at *;unfold Be at key |-;generalize BZ s=s1 at *;rw [<- Am];rw [<- Am] at key;rw [<- AK] at t1 t2;simp only [Aa,Ac,y8,yX];simp only [S9,Ag,seval,PY,Bv,PZ,Aw,Al,e0,e3,t1,t2,iV,Ad];refine key _ ?_ ?_
   all_goals first | (simp only [S7,Ag,seval,e0,e3];done) | (simp only [S7,Ag,seval,e0,e3] <;> rfl)
def YD {α:Type} (f:FuncId) (xs:List PV) (id:Nat) (L:List Tk) (o:Nat) (Nm:PV) (s:RS) (enc:α->PV) (r:Option (α×RS)):Prop:=match r with
 | some d=>CF f xs id L o o Nm s (enc d.1) d.2
 | none=>True
theorem eZ (hT:TokOK L) {s:RS} (hi:inv L s):YD 78 [] id L o Nm s (fun n:Nat=>.int .i64 (n:Int)) (Ic L s):=by
 have sy:=RJ hT hi;have hd:=lf L s;unfold YD;cases hr:Ic L s with
 | none=>trivial
 | some d=>
  refine BK hR (fun n=>by simp [PV.under]) fun bx Ad hc=>?_;have t1:=Aj Ad hc hR (lg (o:=o) hR hT hi);have Af:=fun Lc hL e=>dk (o:=o) hR hT Lc hL bx Ad hc (L.length+1) (Hn L s).1 (Hn L s).2 e sy (by omega);unfold Ic at hr;rw [hr] at Af;clear hr;generalize Hn L s=q at *;unfold xi Be at Af;unfold Be;rw [Ah (fn:=y8) (c:=y8.body.getD .skip) rfl rfl MG rfl NM (y0 rfl)];rw [<- Am];rw [<- Am] at Af;rw [<- AK] at t1;simp only [Aa,Ac,y8,yX] at Af |-;simp only [S9,Ag,seval,PY,Bv,PZ,Aw,Al,t1,Ad];generalize hE:GZ (y9 _) _=z
  have hP:∃ e',z=some (.exit 0,⟨e',BX bx id (Be L d.2 o Nm) []⟩)/\getT e' 3=.int .i64 (d.1:Int):=by
   rw [<- hE];unfold Be;refine Af _ rfl _ ?_ ?_
   all_goals first | (simp only [S7,Ag,seval];done) | (simp only [S7,Ag,seval] <;> rfl)
  clear hE Af;obtain ⟨e',h1,h2⟩:=hP;subst h1;unfold Be;simp only [S9,Ag,seval,PY,Bv,PZ,Aw,Al,h2,Ad];exact ⟨_,rfl⟩
end
theorem uB:zeroCells CC 147=some [.str [],.str [],.str [],.str []]:=by kernel_rfl
theorem uC:Bp CC 147 [(0,.str [103,117,101,115,116]),(1,.str [99,104,105,108,100]),(2,.str [97,100,117,108,116]),(3,.str [111,119,110,101,114])]=some (.agg (Bw.map .str)):=by kernel_rfl
theorem ra:CC.P.underlying 147=some (.array 4 9)/\tSize CC 9=some 1:=⟨by kernel_rfl,by kernel_rfl⟩
theorem lh:(Bw.map PV.str).length=4/\(Bw.map PV.str).take 4=Bw.map .str/\(Bw.map PV.str).drop 4=[]/\(Bw.map PV.str).map PV.ro=Bw.map .str/\(Bw.map PV.str).map PV.seal1=Bw.map .str/\(Bw.map PV.str).all PV.one=true:=⟨rfl,rfl,rfl,rfl,rfl,rfl⟩
theorem rb:∀ k,k < 4->((Bw.map PV.str).drop k).head?=some (.str (Bw.getD k []))/\(Bw.map PV.str)[k]?=some (.str (Bw.getD k []))/\Bw.drop k=Bw.getD k [] :: Bw.drop (k+1)
 | 0,_=>⟨rfl,rfl,rfl⟩
 | 1,_=>⟨rfl,rfl,rfl⟩
 | 2,_=>⟨rfl,rfl,rfl⟩
 | 3,_=>⟨rfl,rfl,rfl⟩
 | k+4,h=>by omega
theorem uD:Bp CC 35 []=some (.agg [.int .i64 0,.int .i64 0,.int .i64 0,.str [],.int .i64 0,.int .i64 0,.str [],.int .i64 0,.str [],.str [],.nils]):=by kernel_rfl
theorem uE (s:List UInt8):Bp CC 35 [(0,.int .i64 3),(3,.str s)]=some (.agg [.int .i64 3,.int .i64 0,.int .i64 0,.str s,.int .i64 0,.int .i64 0,.str [],.int .i64 0,.str [],.str [],.nils]):=by kernel_rfl
theorem uF (n m:Int):Bp CC 35 [(0,.int .i64 4),(1,.int .i64 n),(2,.int .i64 m)]=some (.agg [.int .i64 4,.int .i64 n,.int .i64 m,.str [],.int .i64 0,.int .i64 0,.str [],.int .i64 0,.str [],.str [],.nils]):=by kernel_rfl
section
variable {id:Nat} {L:List Tk} {o:Nat} {Nm:PV} (hR:Nm.pure=true)
include hR
def vX (L:List Tk) (Nm:PV) (bx:List PBox) (id o:Nat) (s:RS) (B:PBox) (r:Option Nat) (z:Option (Ex×St)):Prop:=match r with
 | some k=>∃ e',z=some (.ret,⟨e',BX bx id (Be L (BZ s) o Nm) [.cells 35 [.int .i64 15,.int .i64 ((k+1:Nat):Int),.int .i64 0,.str [],.int .i64 0,.int .i64 0,.str [],.int .i64 0,.str [],.str [],.nils],B]⟩)/\getT e' 2=.bp bx.length 0
 | none=>∃ e',z=some (.exit 0,⟨e',BX bx id (Be L s o Nm) [.cells 35 [.int .i64 0,.int .i64 0,.int .i64 0,.str [],.int .i64 0,.int .i64 0,.str [],.int .i64 0,.str [],.str [],.nils],B]⟩)/\getT e' 0=.bp id 0/\getT e' 2=.bp bx.length 0
omit hR in
theorem ib (hR:Nm.pure=true) (hT:TokOK L) (Lc:Code) (hL:Lc=Aa yY [1,1,1,1,1,1,0,1,0,1,0,1,0]) {s:RS} (hi:inv L s) (bx:List PBox) (Ad:id < bx.length) (hc:C5 bx):∀ (m k:Nat) (e:List PV),k+m=4->getT e 0=.bp id 0->getT e 2=.bp bx.length 0->getT e 4=.bp (bx.length+1) 0->getT e 5=.int .i64 (k:Int) ->
 vX L Nm bx id o s (.cells 147 (Bw.map .str)) (DE L s 1 (Bw.drop k) k) (Cp CC Lc ⟨e,BX bx id (Be L s o Nm) [.cells 35 [.int .i64 0,.int .i64 0,.int .i64 0,.str [],.int .i64 0,.int .i64 0,.str [],.int .i64 0,.str [],.str [],.nils],.cells 147 (Bw.map .str)]⟩):=by
 intro m
 induction m with
 | zero=>
  intro k e hk e0 e2 e4 e5;rw [A0 (Aa yY [1,1,1,1,1,1,0,1,0,1,0,1,0,0]) hL];have Yz:¬ ((k:Int) < 4):=by omega
  have:Bw.drop k=[]:=y' (by rw [show Bw.length=4 from rfl];omega);rw [this];have hn:DE L s 1 [] k=none:=by unfold DE;split <;> rfl
  rw [hn];unfold Be;generalize Bw.map PV.str=ds at *;rw [<- Am];simp only [Aa,Ac,yY,yX];simp only [S9,Ag,seval,PY,Bv,PZ,Aw,Al,e0,e2,e4,e5,Yz,Ad];exact ⟨_,rfl,by simp only [S7,Ag,seval,e0],by simp only [S7,Ag,seval,e2]⟩
 | succ m ih=>
  intro k e hk e0 e2 e4 e5;rw [A0 (Aa yY [1,1,1,1,1,1,0,1,0,1,0,1,0,0]) hL];have pZ:k < 4:=by omega
  have Yz:((k:Int) < 4):=by omega
  have Dq:¬ ((k:Int) < 0):=by omega
  obtain ⟨d1,d2,d3⟩:=rb k pZ;have EB:([PBox.cells 35 [.int .i64 0,.int .i64 0,.int .i64 0,.str [],.int .i64 0,.int .i64 0,.str [],.int .i64 0,.str [],.str [],.nils],PBox.cells 147 (Bw.map PV.str)].all fun x=>x.under (bx.length+[PBox.cells 35 [.int .i64 0,.int .i64 0,.int .i64 0,.str [],.int .i64 0,.int .i64 0,.str [],.int .i64 0,.str [],.str [],.nils],PBox.cells 147 (Bw.map PV.str)].length))=true:=rfl;have t1:=Aj Ad hc hR (Ay (o:=o) hR hT hi 1 1 rfl (Bw.getD k [])) _ EB;have N5:y7 .i64 ((k:Int)+1)=((k+1:Nat):Int):=by rw [wrap_i64 ⟨by omega,by omega⟩];omega
  have key:=fun e=>ih (k+1) e (by omega);have hA:=ra;have iL:=lh.1;have vI:=fun n=>Hy 15 n;rw [d3,NN];unfold Cx at t1;unfold Be at key |-;generalize Bw.getD k []=w at *;generalize DE L s 1 (Bw.drop (k+1)) (k+1)=pr at *;generalize Bw.map PV.str=ds at *;cases hn:Bf L s 1 w with
  | true=>
   rw [hn] at t1;simp only [if_true] at t1 |-;rw [<- Am];rw [<- AK] at t1;simp only [Aa,Ac,yY,yX];simp only [S9,Ag,seval,PY,Bv,PZ,Aw,Al,e0,e2,e4,e5,Yz,Dq,y1,d1,d2,hA,iL,t1,N5,vI,PV.ro,Ad];unfold vX Be;exact ⟨_,rfl,by simp only [S7,Ag,seval,e2]⟩
  | false=>
   rw [hn] at t1;simp only [yW,if_false] at t1 |-;rw [<- Am];rw [<- Am] at key;rw [<- AK] at t1;simp only [Aa,Ac,yY,yX];simp only [S9,Ag,seval,PY,Bv,PZ,Aw,Al,e0,e2,e4,e5,Yz,Dq,y1,d1,d2,hA,iL,t1,N5,PV.ro,Ad];refine key _ ?_ ?_ ?_ ?_
   all_goals first | (simp only [S7,Ag,seval,e0,e2,e4,e5];done) | (simp only [S7,Ag,seval,e0,e2,e4,e5] <;> rfl)
theorem ot (hT:TokOK L) {s:RS} (hi:inv L s):YD 148 [] id L o Nm s (fun t:Tr=>.agg (A7 t)) (Qz L s):=by
 have hz:∀ ys,ys=[PBox.cells 35 [.int .i64 0,.int .i64 0,.int .i64 0,.str [],.int .i64 0,.int .i64 0,.str [],.int .i64 0,.str [],.str [],.nils]]->∀ n,(ys.all fun x=>x.under n)=true:=fun ys h n=>by subst h;rfl
 unfold Qz;cases n0:Bf L s 1 [116,114,117,101] with
 | true=>
  simp only [if_true];have Jb:=Bj hT hi (by decide) n0;unfold YD;dsimp only;refine BK hR (fun n=>by rw [<- An];exact BL n _ (Bs _)) fun bx Ad hc=>?_;have t0:=Aj Ad hc hR (Ay (o:=o) hR hT hi 1 1 rfl [116,114,117,101]);unfold Cx at t0;rw [n0] at t0;simp only [if_true,yW,if_false] at t0;have hl:=E7 1 1;unfold Be;rw [BY rfl];rw [<- Am];rw [<- AK] at t0 hl;simp only [Aa,Ac,yY,yX];simp only [S9,Ag,seval,PY,Bv,PZ,Aw,Al,t0,hl,SX,Ad];exact ⟨_,rfl⟩
 | false=>
  simp only [yW,if_false];cases n1:Bf L s 1 [102,97,108,115,101] with
  | true=>
   simp only [if_true];have Jb:=Bj hT hi (by decide) n1;unfold YD;dsimp only;refine BK hR (fun n=>by rw [<- An];exact BL n _ (Bs _)) fun bx Ad hc=>?_;have t0:=Aj Ad hc hR (Ay (o:=o) hR hT hi 1 1 rfl [116,114,117,101]);have t1:=Aj Ad hc hR (Ay (o:=o) hR hT hi 1 1 rfl [102,97,108,115,101]);unfold Cx at t0 t1;rw [n0] at t0;rw [n1] at t1;simp only [if_true,yW,if_false] at t0 t1;have hl:=E7 1 0;unfold Be;rw [BY rfl];rw [<- Am];rw [<- AK] at t0 t1 hl;simp only [Aa,Ac,yY,yX];simp only [S9,Ag,seval,PY,Bv,PZ,Aw,Al,t0,t1,hl,SX,Ad];exact ⟨_,rfl⟩
  | false=>
   simp only [yW,if_false];cases n2:Bf L s 1 [109,111,100,101] with
   | true=>
    simp only [if_true];have Jb:=Bj hT hi (by decide) n2;unfold YD;dsimp only;refine BK hR (fun n=>by rw [<- An];exact BL n _ (Bs _)) fun bx Ad hc=>?_;have t0:=Aj Ad hc hR (Ay (o:=o) hR hT hi 1 1 rfl [116,114,117,101]);have t1:=Aj Ad hc hR (Ay (o:=o) hR hT hi 1 1 rfl [102,97,108,115,101]);have t2:=Aj Ad hc hR (Ay (o:=o) hR hT hi 1 1 rfl [109,111,100,101]);unfold Cx at t0 t1 t2;rw [n0] at t0;rw [n1] at t1;rw [n2] at t2;simp only [if_true,yW,if_false] at t0 t1 t2;have i1:=Bc hT Jb (k:=1) [105,115] (by decide);have u1:=Aj Ad hc hR (BN (o:=o) hR hT Jb 1 1 rfl [105,115]);have u2:=Aj Ad hc hR (J' (o:=o) hR hT i1);generalize Cf L (As L (BZ s) 1 [105,115])=r2 at *;generalize As L (BZ s) 1 [105,115]=r1 at *;have hb:=uE r2.1;rw [CM,Bi];unfold zV zK;unfold Be;rw [BY rfl];rw [<- Am];rw [<- AK] at t0 t1 t2 u1 u2;simp only [Aa,Ac,yY,yX];simp only [S9,Ag,seval,PY,Bv,PZ,Aw,Al,t0,t1,t2,u1,u2,hb,Ad];exact ⟨_,rfl⟩
   | false=>
    simp only [yW,if_false];cases n3:Bf L s 1 [116,105,109,101] with
    | true=>
     simp only [if_true];have Jb:=Bj hT hi (by decide) n3;unfold YD;dsimp only;refine BK hR (fun n=>by rw [<- An];exact BL n _ (Bs _)) fun bx Ad hc=>?_;have t0:=Aj Ad hc hR (Ay (o:=o) hR hT hi 1 1 rfl [116,114,117,101]);have t1:=Aj Ad hc hR (Ay (o:=o) hR hT hi 1 1 rfl [102,97,108,115,101]);have t2:=Aj Ad hc hR (Ay (o:=o) hR hT hi 1 1 rfl [109,111,100,101]);have t3:=Aj Ad hc hR (Ay (o:=o) hR hT hi 1 1 rfl [116,105,109,101]);unfold Cx at t0 t1 t2 t3;rw [n0] at t0;rw [n1] at t1;rw [n2] at t2;rw [n3] at t3;simp only [if_true,yW,if_false] at t0 t1 t2 t3;have i1:=JA hT Jb;have i2:=Bc hT i1 (k:=1) [116,111] (by decide);have u1:=Aj Ad hc hR (OW (o:=o) hR hT Jb);have u2:=Aj Ad hc hR (BN (o:=o) hR hT i1 1 1 rfl [116,111]);have u3:=Aj Ad hc hR (OW (o:=o) hR hT i2);generalize Cm L (As L (Cm L (BZ s)).2 1 [116,111])=r3 at *;generalize As L (Cm L (BZ s)).2 1 [116,111]=r2 at *;generalize Cm L (BZ s)=r1 at *;have hb:=uF (r1.1:Nat) (r3.1:Nat);rw [CM,Bi];unfold zV zK;unfold Be;rw [BY rfl];rw [<- Am];rw [<- AK] at t0 t1 t2 t3 u1 u2 u3;simp only [Aa,Ac,yY,yX];simp only [S9,Ag,seval,PY,Bv,PZ,Aw,Al,t0,t1,t2,t3,u1,u2,u3,hb,Ad];exact ⟨_,rfl⟩
    | false=>
     simp only [yW,if_false];cases n4:Bf L s 1 [100,97,121,115] with
     | true=>
      simp only [if_true];have Jb:=Bj hT hi (by decide) n4;have hd:=eZ (o:=o) (id:=id) hR hT Jb;cases hr:Ic L (BZ s) with
      | none=>trivial
      | some d=>
       rw [hr] at hd;simp only [Option.map_some];unfold YD;dsimp only;refine BK hR (fun n=>by rw [<- An];exact BL n _ (Bs _)) fun bx Ad hc=>?_;have t0:=Aj Ad hc hR (Ay (o:=o) hR hT hi 1 1 rfl [116,114,117,101]);have t1:=Aj Ad hc hR (Ay (o:=o) hR hT hi 1 1 rfl [102,97,108,115,101]);have t2:=Aj Ad hc hR (Ay (o:=o) hR hT hi 1 1 rfl [109,111,100,101]);have t3:=Aj Ad hc hR (Ay (o:=o) hR hT hi 1 1 rfl [116,105,109,101]);have t4:=Aj Ad hc hR (Ay (o:=o) hR hT hi 1 1 rfl [100,97,121,115]);unfold Cx at t0 t1 t2 t3 t4;rw [n0] at t0;rw [n1] at t1;rw [n2] at t2;rw [n3] at t3;rw [n4] at t4;simp only [if_true,yW,if_false] at t0 t1 t2 t3 t4;have u1:=Aj Ad hc hR hd;have hb:=Hy 5 (d.1:Nat);rw [CM,Bi];unfold zV zK;unfold Be;rw [BY rfl];rw [<- Am];rw [<- AK] at t0 t1 t2 t3 t4 u1;simp only [Aa,Ac,yY,yX];simp only [S9,Ag,seval,PY,Bv,PZ,Aw,Al,t0,t1,t2,t3,t4,u1,hb,Ad];exact ⟨_,rfl⟩
     | false=>
      simp only [yW,if_false];cases n5:Bf L s 1 [104,111,109,101] with
      | true=>
       simp only [if_true];have Jb:=Bj hT hi (by decide) n5;have Af:=fun Lc hL bx Ad hc e=>ib (o:=o) (id:=id) hR hT Lc hL Jb bx Ad hc 4 0 e rfl;simp only [za] at Af;have hb:=uC;have mz:=uB;have hf:=lh;have Ru:=eG 15;cases hp:DE L (BZ s) 1 Bw 0 with
       | some k=>
        rw [hp] at Af;unfold YD;dsimp only;refine BK hR (fun n=>by rw [<- An];exact BL n _ (Bs _)) fun bx Ad hc=>?_;have t0:=Aj Ad hc hR (Ay (o:=o) hR hT hi 1 1 rfl [116,114,117,101]);have t1:=Aj Ad hc hR (Ay (o:=o) hR hT hi 1 1 rfl [102,97,108,115,101]);have t2:=Aj Ad hc hR (Ay (o:=o) hR hT hi 1 1 rfl [109,111,100,101]);have t3:=Aj Ad hc hR (Ay (o:=o) hR hT hi 1 1 rfl [116,105,109,101]);have t4:=Aj Ad hc hR (Ay (o:=o) hR hT hi 1 1 rfl [100,97,121,115]);have t5:=Aj Ad hc hR (Ay (o:=o) hR hT hi 1 1 rfl [104,111,109,101]);unfold Cx at t0 t1 t2 t3 t4 t5;rw [n0] at t0;rw [n1] at t1;rw [n2] at t2;rw [n3] at t3;rw [n4] at t4;rw [n5] at t5;simp only [if_true,yW,if_false] at t0 t1 t2 t3 t4 t5;have Af:=fun Lc hL e=>Af Lc hL bx Ad hc e;rw [CM,Bi];unfold zV zK;unfold vX Be at Af;unfold Be;generalize Bw.map PV.str=ds at *;rw [BY rfl];rw [<- Am];rw [<- Am] at Af;rw [<- AK] at t0 t1 t2 t3 t4 t5;simp only [Aa,Ac,yY,yX] at Af |-;simp only [S9,Ag,seval,PY,Bv,PZ,Aw,Al,t0,t1,t2,t3,t4,t5,hb,mz,hf,Ad];generalize hE:GZ (y9 _) _=z
        have hP:∃ e',z=some (.ret,⟨e',BX bx id (Be L (BZ (BZ s)) o Nm) [.cells 35 [.int .i64 15,.int .i64 ((k+1:Nat):Int),.int .i64 0,.str [],.int .i64 0,.int .i64 0,.str [],.int .i64 0,.str [],.str [],.nils],.cells 147 ds]⟩)/\getT e' 2=.bp bx.length 0:=by
         rw [<- hE];unfold Be;refine Af _ rfl _ ?_ ?_ ?_ ?_
         all_goals first | (simp only [S7,Ag,seval];done) | (simp only [S7,Ag,seval] <;> rfl)
        clear hE Af;obtain ⟨e',h1,h2⟩:=hP;subst h1;unfold Be;simp only [S9,Ag,seval,PY,Bv,PZ,Aw,Al,h2,Ad];exact ⟨_,rfl⟩
       | none=>
        rw [hp] at Af;unfold YD;dsimp only;refine BK hR (fun n=>by rw [<- An];exact BL n _ (Bs _)) fun bx Ad hc=>?_;have t0:=Aj Ad hc hR (Ay (o:=o) hR hT hi 1 1 rfl [116,114,117,101]);have t1:=Aj Ad hc hR (Ay (o:=o) hR hT hi 1 1 rfl [102,97,108,115,101]);have t2:=Aj Ad hc hR (Ay (o:=o) hR hT hi 1 1 rfl [109,111,100,101]);have t3:=Aj Ad hc hR (Ay (o:=o) hR hT hi 1 1 rfl [116,105,109,101]);have t4:=Aj Ad hc hR (Ay (o:=o) hR hT hi 1 1 rfl [100,97,121,115]);have t5:=Aj Ad hc hR (Ay (o:=o) hR hT hi 1 1 rfl [104,111,109,101]);unfold Cx at t0 t1 t2 t3 t4 t5;rw [n0] at t0;rw [n1] at t1;rw [n2] at t2;rw [n3] at t3;rw [n4] at t4;rw [n5] at t5;simp only [if_true,yW,if_false] at t0 t1 t2 t3 t4 t5;have Af:=fun Lc hL e=>Af Lc hL bx Ad hc e;rw [CM,Bi];unfold zV zK;unfold vX Be at Af;unfold Be;generalize Bw.map PV.str=ds at *;rw [BY rfl];rw [<- Am];rw [<- Am] at Af;rw [<- AK] at t0 t1 t2 t3 t4 t5;simp only [Aa,Ac,yY,yX] at Af |-;simp only [S9,Ag,seval,PY,Bv,PZ,Aw,Al,t0,t1,t2,t3,t4,t5,hb,mz,hf,Ad];generalize hE:GZ (y9 _) _=z
        have hP:∃ e',z=some (.exit 0,⟨e',BX bx id (Be L (BZ s) o Nm) [.cells 35 [.int .i64 0,.int .i64 0,.int .i64 0,.str [],.int .i64 0,.int .i64 0,.str [],.int .i64 0,.str [],.str [],.nils],.cells 147 ds]⟩)/\getT e' 0=.bp id 0/\getT e' 2=.bp bx.length 0:=by
         rw [<- hE];unfold Be;refine Af _ rfl _ ?_ ?_ ?_ ?_
         all_goals first | (simp only [S7,Ag,seval];done) | (simp only [S7,Ag,seval] <;> rfl)
        clear hE Af;obtain ⟨e',h1,h0,h2⟩:=hP;subst h1;unfold Be;simp only [S9,Ag,seval,PY,Bv,PZ,Aw,Al,h0,h2,Ru,Ad];exact ⟨_,rfl⟩
      | false=>
       simp only [yW,if_false];unfold YD;dsimp only;refine BK hR (fun n=>by rw [<- An];exact BL n _ (Bs _)) fun bx Ad hc=>?_;have t0:=Aj Ad hc hR (Ay (o:=o) hR hT hi 1 1 rfl [116,114,117,101]);have t1:=Aj Ad hc hR (Ay (o:=o) hR hT hi 1 1 rfl [102,97,108,115,101]);have t2:=Aj Ad hc hR (Ay (o:=o) hR hT hi 1 1 rfl [109,111,100,101]);have t3:=Aj Ad hc hR (Ay (o:=o) hR hT hi 1 1 rfl [116,105,109,101]);have t4:=Aj Ad hc hR (Ay (o:=o) hR hT hi 1 1 rfl [100,97,121,115]);have t5:=Aj Ad hc hR (Ay (o:=o) hR hT hi 1 1 rfl [104,111,109,101]);unfold Cx at t0 t1 t2 t3 t4 t5;rw [n0] at t0;rw [n1] at t1;rw [n2] at t2;rw [n3] at t3;rw [n4] at t4;rw [n5] at t5;simp only [yW,if_false] at t0 t1 t2 t3 t4 t5;have u1:=Aj Ad hc hR (D8 (o:=o) hR hi 12);have hb:=uD;unfold zT;rw [CM,Bi];unfold zV zK;generalize B9 L s 12=r1 at *;unfold Be;rw [BY rfl];rw [<- Am];rw [<- AK] at t0 t1 t2 t3 t4 t5 u1;simp only [Aa,Ac,yY,yX];simp only [S9,Ag,seval,PY,Bv,PZ,Aw,Al,t0,t1,t2,t3,t4,t5,u1,hb,Ad];exact ⟨_,rfl⟩
end
abbrev ZR:=Option (Tr×RS)
def zb (r:ZR) (f:Tr->RS->ZR):ZR:=match r with
 | some d=>f d.1 d.2
 | none=>none
def aB (L:List Tk) (s:RS) (sg:Int):ZR:=some (Da 2 (sg * (amtN (BW L s 2).1 0:Int)),(BW L s 2).2)
def zF (L:List Tk):Nat->NT->Nat->RS->ZR
 | 0,_,_,_=>none
 | n+1,.expr,o,s=>if Bf L s 1 [105,102] then
  zb (zF L n .expr (o+1) (As L (ER L o s) 1 [105,102])) fun a s=>zb (zF L n .expr (o+1) (As L s 1 [116,104,101,110])) fun b s=>zb (zF L n .expr (o+1) (As L s 1 [101,108,115,101])) fun c s=>some (Bb 14 [a,b,c],s)
  else zF L n (.chain true) o s
 | n+1,.chain b,o,s=>zb (zF L n (Ee b) o s) fun a s=>zF L n (.chainL b [a]) o s
 | n+1,.chainL b acc,o,s=>if Bf L s 1 (PH b) then (if acc.length=8 then some (zT,B9 L s 3) else zb (zF L n (Ee b) o (As L s 1 (PH b))) fun a s=>zF L n (.chainL b (acc++[a])) o s) else some (mu b acc,s)
 | n+1,.not,o,s=>if Bf L s 1 [110,111,116] then zb (zF L n .not (o+1) (As L (ER L o s) 1 [110,111,116])) fun e s=>some (Bb 6 [e],s) else zF L n .cmp o s
 | n+1,.cmp,o,s=>zb (zF L n .sum o s) fun a s=>match DE L s 4 Cw 0 with
  | some k=>zb (zF L n .sum o (BZ s)) fun b s=>some (KG k a b,s)
  | none=>some (a,s)
 | n+1,.sum,o,s=>zb (zF L n .prod o s) fun e s=>zF L n (.sumL e) o s
 | n+1,.sumL e,o,s=>if Bf L s 4 [43] then zb (zF L n .prod o (BZ s)) fun f s=>zF L n (.sumL (Bb 11 [e,f])) o s else
  if Bf L s 4 [45] then zb (zF L n .prod o (BZ s)) fun f s=>zF L n (.sumL (Bb 12 [e,f])) o s else some (e,s)
 | n+1,.prod,o,s=>zb (zF L n .un o s) fun e s=>zF L n (.prodL e) o s
 | n+1,.prodL e,o,s=>if Bf L s 4 [42] then zb (zF L n .un o (BZ s)) fun f s=>zF L n (.prodL (Bb 13 [e,f])) o s else some (e,s)
 | n+1,.un,o,s=>if Bf L s 4 [45] then
  (if D0 L (s.i+1) then aB L (BZ s) (-1) else
  zb (zF L n .un (o+1) (As L (ER L o s) 4 [45])) fun e s=>some (Bb 12 [Da 2 0,e],s)) else zF L n .prim o s
 | n+1,.prim,o,s=>if s.c≠0 then some (zT,s) else
  if (tokAt L s.i).1=2 then (if D0 L s.i then aB L s 1 else some (.mk 2 0 0 [] zV (B7 L s).1 [],(B7 L s).2)) else
  if (tokAt L s.i).1=3 then some (.mk 1 0 0 [] (4,0,(tokAt L s.i).2.1) zK [],BZ s) else
  if (tokAt L s.i).1=4 then
   (if Bf L s 4 [35] then some (Da 3 ((DL L (BZ s) 0 63 false).1:Int),(DL L (BZ s) 0 63 false).2) else
   if Bf L s 4 [40] then zb (zF L n .expr (o+1) (As L (ER L o s) 4 [40])) fun e s=>some (e,As L s 4 [41]) else some (zT,B9 L s 12)) else
  if (tokAt L s.i).1=1 then Qz L s else some (zT,B9 L s 12)
theorem RK (a:Tr) (s:RS) (f:Tr->RS->ZR):zb (some (a,s)) f=f a s:=rfl
theorem aC {L:List Tk} (hT:TokOK L) {s:RS} (hi:inv L s) {k r:Nat} {l:List (List UInt8)} (hk:k≠0) (h:DE L s k l 0=some r):inv L (BZ s):=fun hc=>AG hT (hi hc) (OY h).2.2.2 hk
theorem ig {L:List Tk} (hT:TokOK L):∀ (n m:Nat) (s:RS) (d:Nat×RS),inv L s->Ib L n m s=some d->inv L d.2:=by
 intro n
 induction n with
 | zero=>intro m s d _ h;rw [Ib] at h;cases h
 | succ n ih=>
  intro m s d hi h;rw [Ib] at h;split at h
  · rename_i hn;exact ih _ _ _ (RJ hT (Bj hT hi (by decide) hn)) h
  · injection h with h
    exact h ▸ hi
theorem aD {L:List Tk} (hT:TokOK L) {s:RS} (hi:inv L s) {d:Nat×RS} (h:Ic L s=some d):inv L d.2:=by
 unfold Ic at h;exact ig hT _ _ _ _ (RJ hT hi) h
theorem Fp {L:List Tk} {r:ZR} {f:Tr->RS->ZR} {a:Tr} {s:RS} (h:zb r f=some (a,s)) (hr:∀ b t,r=some (b,t)->inv L t) (hf:∀ b t,inv L t->f b t=some (a,s)->inv L s):inv L s:=by
 cases r with
 | none=>cases h
 | some d=>exact hf d.1 d.2 (hr _ _ rfl) h
theorem aE {L:List Tk} (hT:TokOK L) {s:RS} (hi:inv L s) {k:Int} {a:Tr} {s':RS} (h:aB L s k=some (a,s')):inv L s':=by
 unfold aB at h;injection h with h
 injection h with _ h
 exact h ▸ LM hT hi (by decide)
theorem B4 {L:List Tk} {a b:Tr} {s t:RS} (h:some (a,s)=some (b,t)) (hi:inv L s):inv L t:=by
 injection h with h
 injection h with _ h
 exact h ▸ hi
theorem lj {L:List Tk} (hT:TokOK L) {s:RS} (hi:inv L s) {a:Tr} {s':RS} (h:Qz L s=some (a,s')):inv L s':=by
 unfold Qz at h;split at h
 · rename_i hn;exact B4 h (Bj hT hi (by decide) hn)
 split at h
 · rename_i hn;exact B4 h (Bj hT hi (by decide) hn)
 split at h
 · rename_i hn;exact B4 h (G5 hT (Bc hT (Bj hT hi (by decide) hn) _ (by decide)))
 split at h
 · rename_i hn;exact B4 h (JA hT (Bc hT (JA hT (Bj hT hi (by decide) hn)) _ (by decide)))
 split at h
 · rename_i hn
   cases hd:Ic L (BZ s) with
   | none=>rw [hd] at h;cases h
   | some d=>
    rw [hd] at h;exact B4 h (aD hT (Bj hT hi (by decide) hn) hd)
 split at h
 · rename_i hn
   have Jb:=Bj hT hi (by decide) hn;split at h
   · rename_i k hp
     exact B4 h (aC hT Jb (by decide) hp)
   · exact B4 h Jb
 · exact B4 h (CX hi (by decide))
theorem Ho {L:List Tk} (hT:TokOK L):∀ (n:Nat) (nt:NT) (o:Nat) (s:RS) (a:Tr) (s':RS),inv L s->zF L n nt o s=some (a,s')->inv L s':=by
 intro n
 induction n with
 | zero=>intro nt o s a s' _ h;rw [zF] at h;cases h
 | succ n ih=>
  intro nt o s a s' hi h;have nd:=fun (s:RS) (hi:inv L s) (k:Nat) (w:List UInt8) (hk:k≠0)=>Bc hT hi (k:=k) w hk;cases nt with
  | expr=>
   rw [zF] at h;split at h
   · refine Fp h (fun _ _ e=>ih _ _ _ _ _ (nd _ (G6 o hi) _ _ (by decide)) e) fun _ _ h1 h=>?_
     refine Fp h (fun _ _ e=>ih _ _ _ _ _ (nd _ h1 _ _ (by decide)) e) fun _ _ h2 h=>?_;exact Fp h (fun _ _ e=>ih _ _ _ _ _ (nd _ h2 _ _ (by decide)) e) fun _ _ h3 h=>B4 h h3
   · exact ih _ _ _ _ _ hi h
  | chain b=>
   rw [zF] at h;exact Fp h (fun _ _ e=>ih _ _ _ _ _ hi e) fun _ _ h1 h=>ih _ _ _ _ _ h1 h
  | chainL b acc=>
   rw [zF] at h;split at h
   · split at h
     · exact B4 h (CX hi (by decide))
     · exact Fp h (fun _ _ e=>ih _ _ _ _ _ (nd _ hi _ _ (by decide)) e) fun _ _ h1 h=>ih _ _ _ _ _ h1 h
   · exact B4 h hi
  | not=>
   rw [zF] at h;split at h
   · exact Fp h (fun _ _ e=>ih _ _ _ _ _ (nd _ (G6 o hi) _ _ (by decide)) e) fun _ _ h1 h=>B4 h h1
   · exact ih _ _ _ _ _ hi h
  | cmp=>
   rw [zF] at h;refine Fp h (fun _ _ e=>ih _ _ _ _ _ hi e) fun _ t h1 h=>?_;split at h
   · rename_i k hp
     exact Fp h (fun _ _ e=>ih _ _ _ _ _ (aC hT h1 (by decide) hp) e) fun _ _ h2 h=>B4 h h2
   · exact B4 h h1
  | sum=>
   rw [zF] at h;exact Fp h (fun _ _ e=>ih _ _ _ _ _ hi e) fun _ _ h1 h=>ih _ _ _ _ _ h1 h
  | sumL e=>
   rw [zF] at h;split at h
   · rename_i hn;exact Fp h (fun _ _ e=>ih _ _ _ _ _ (Bj hT hi (by decide) hn) e) fun _ _ h1 h=>ih _ _ _ _ _ h1 h
   split at h
   · rename_i hn;exact Fp h (fun _ _ e=>ih _ _ _ _ _ (Bj hT hi (by decide) hn) e) fun _ _ h1 h=>ih _ _ _ _ _ h1 h
   · exact B4 h hi
  | prod=>
   rw [zF] at h;exact Fp h (fun _ _ e=>ih _ _ _ _ _ hi e) fun _ _ h1 h=>ih _ _ _ _ _ h1 h
  | prodL e=>
   rw [zF] at h;split at h
   · rename_i hn;exact Fp h (fun _ _ e=>ih _ _ _ _ _ (Bj hT hi (by decide) hn) e) fun _ _ h1 h=>ih _ _ _ _ _ h1 h
   · exact B4 h hi
  | un=>
   rw [zF] at h;split at h
   · rename_i hn
     split at h
     · exact aE hT (Bj hT hi (by decide) hn) h
     · exact Fp h (fun _ _ e=>ih _ _ _ _ _ (nd _ (G6 o hi) _ _ (by decide)) e) fun _ _ h1 h=>B4 h h1
   · exact ih _ _ _ _ _ hi h
  | prim=>
   rw [zF] at h;split at h
   · exact B4 h hi
   split at h
   · split at h
     · exact aE hT hi h
     · exact B4 h (Ia hT hi)
   split at h
   · rename_i hk;exact B4 h fun hc=>Gb hT (hi hc) (by rw [hk];decide)
   split at h
   · split at h
     · rename_i hn;exact B4 h (Hz hT (Bj hT hi (by decide) hn))
     split at h
     · exact Fp h (fun _ _ e=>ih _ _ _ _ _ (nd _ (G6 o hi) _ _ (by decide)) e) fun _ _ h1 h=>B4 h (nd _ h1 _ _ (by decide))
     · exact B4 h (CX hi (by decide))
   split at h
   · exact lj hT hi h
   · exact B4 h (CX hi (by decide))
theorem Dp {L:List Tk} {s:RS} (hc:s.c≠0) (k:Nat) (w:List UInt8):Bf L s k w=false:=by
 unfold Bf;rw [beq_eq_false_iff_ne.2 hc];rfl
def vY:NT->Tr
 | .chainL b acc=>mu b acc
 | .sumL e=>e
 | .prodL e=>e
 | _=>zT
theorem lk (L:List Tk):∀ (n:Nat) (nt:NT) (o:Nat) (s:RS),s.c≠0->EA nt < n->zF L n nt o s=some (vY nt,s):=by
 intro n
 induction n with
 | zero=>intro nt o s _ h;omega
 | succ n ih=>
  intro nt o s hc h;have hn:=fun (k:Nat) (w:List UInt8)=>Dp (L:=L) hc k w;cases nt with
  | expr=>
   have hr:EA .expr=10:=rfl;have Pe:EA (.chain true)=9:=rfl;rw [zF,hn];exact ih _ _ _ hc (by omega)
  | chain b=>
   have hr:=cT b;have wy:=(OT (Ee b)).2;rw [zF,ih _ _ _ hc (by omega),RK];have bB:EA (.chainL b [vY (Ee b)])=1:=rfl;refine (ih _ _ _ hc (by omega)).trans ?_;cases b <;> rfl
  | chainL b acc=>rw [zF,hn];rfl
  | not=>
   have hr:EA .not=7:=rfl;have Pe:EA .cmp=6:=rfl;rw [zF,hn];exact ih _ _ _ hc (by omega)
  | cmp=>
   have hr:EA .cmp=6:=rfl;have Pe:EA .sum=5:=rfl;rw [zF,ih _ _ _ hc (by omega),RK];unfold DE;rw [if_neg hc];rfl
  | sum=>
   have hr:EA .sum=5:=rfl;have Pe:EA .prod=4:=rfl;rw [zF,ih _ _ _ hc (by omega),RK];have bB:EA (.sumL (vY .prod))=1:=rfl;exact ih _ _ _ hc (by omega)
  | sumL e=>rw [zF,hn,hn];rfl
  | prod=>
   have hr:EA .prod=4:=rfl;have Pe:EA .un=3:=rfl;rw [zF,ih _ _ _ hc (by omega),RK];have bB:EA (.prodL (vY .un))=1:=rfl;exact ih _ _ _ hc (by omega)
  | prodL e=>rw [zF,hn];rfl
  | un=>
   have hr:EA .un=3:=rfl;have Pe:EA .prim=2:=rfl;rw [zF,hn];exact ih _ _ _ hc (by omega)
  | prim=>rw [zF,if_pos hc];rfl
theorem NP:Bk CC y6 (y6.body.getD .skip)=true:=by kernel_rfl
theorem MI:CC.P.funcs[54]?=some y6:=by kernel_rfl
theorem Gw {x:List PV} {b:List PBox} (h:x.length.ble y6.ntmps=true):Ae CC 54 x b=CB CC y6.results.toList (Cp CC (y6.body.getD .skip) ⟨x,b⟩):=Ah (fn:=y6) (c:=y6.body.getD .skip) rfl rfl MI rfl NP (y0 h)
theorem K1:Bk CC y4 (y4.body.getD .skip)=true:=by kernel_rfl
theorem Kd:CC.P.funcs[113]?=some y4:=by kernel_rfl
theorem Fy {x:List PV} {b:List PBox} (h:x.length.ble y4.ntmps=true):Ae CC 113 x b=CB CC y4.results.toList (Cp CC (y4.body.getD .skip) ⟨x,b⟩):=Ah (fn:=y4) (c:=y4.body.getD .skip) rfl rfl Kd rfl K1 (y0 h)
theorem OZ:Bk CC y3 (y3.body.getD .skip)=true:=by kernel_rfl
theorem NQ:CC.P.funcs[121]?=some y3:=by kernel_rfl
theorem G7 {x:List PV} {b:List PBox} (h:x.length.ble y3.ntmps=true):Ae CC 121 x b=CB CC y3.results.toList (Cp CC (y3.body.getD .skip) ⟨x,b⟩):=Ah (fn:=y3) (c:=y3.body.getD .skip) rfl rfl NQ rfl OZ (y0 h)
theorem MJ:Bk CC y2 (y2.body.getD .skip)=true:=by kernel_rfl
theorem LP:CC.P.funcs[145]?=some y2:=by kernel_rfl
theorem Ev {x:List PV} {b:List PBox} (h:x.length.ble y2.ntmps=true):Ae CC 145 x b=CB CC y2.results.toList (Cp CC (y2.body.getD .skip) ⟨x,b⟩):=Ah (fn:=y2) (c:=y2.body.getD .skip) rfl rfl LP rfl MJ (y0 h)
def E8 (f:FuncId) (xs:List PV) (nt:NT) (id:Nat) (L:List Tk) (Nm:PV) (n:Nat):Prop:=∀ (o:Nat) (s:RS),inv L s->o+n<=1000000->YD f xs id L o Nm s (fun t:Tr=>.agg (A7 t)) (zF L n nt o s)
theorem ll {α:Type} {f:FuncId} {xs:List PV} {id:Nat} {L:List Tk} {o:Nat} {Nm:PV} {s:RS} {enc:α->PV}:YD f xs id L o Nm s enc none:=trivial
theorem AB {α:Type} {f:FuncId} {xs:List PV} {id:Nat} {L:List Tk} {o:Nat} {Nm:PV} {s:RS} {enc:α->PV} {d:α×RS}:YD f xs id L o Nm s enc (some d)=CF f xs id L o o Nm s (enc d.1) d.2:=rfl
theorem MK (d:Tr×RS) (f:Tr->RS->ZR):zb (some d) f=f d.1 d.2:=rfl
theorem fc {o:Nat} (h:o<=1000000):y7 .i64 (((o+1:Nat):Int) - 1)=(o:Int):=by rw [wrap_i64 ⟨by omega,by omega⟩];omega
theorem QA (t:Tr) (n:Nat):(PV.agg (A7 t)).under n=true:=by simp only [SX,PV.under]
section
variable {id:Nat} {L:List Tk} {Nm:PV} (hR:Nm.pure=true) (hT:TokOK L)
include hR hT
theorem aF (b:Bool) {n:Nat} (hC:E8 87 [.int .i64 7,.str [97,110,100]] (.chain false) id L Nm n) (hN:E8 121 [] .not id L Nm n):E8 113 [.int .i64 (Pf b)] (Ee b) id L Nm n:=by
 intro o s hi ho;cases b with
 | true=>
  unfold Ee Pf;simp only [if_true];have h1:=hC o s hi ho;cases z1:zF L n (.chain false) o s with
  | none=>trivial
  | some d1=>
   rw [z1,AB] at h1;rw [AB];refine BK hR (QA _) fun bx Ad hc=>?_;have t1:=Aj Ad hc hR h1;unfold Be;rw [Fy rfl];rw [<- Am];rw [<- AK] at t1;simp only [Aa,Ac,y4,yX];simp only [S9,Ag,seval,PY,Bv,PZ,Aw,Al,SX,t1,Ad];exact ⟨_,rfl⟩
 | false=>
  unfold Ee Pf;simp only [yW,if_false];have h1:=hN o s hi ho;cases z1:zF L n .not o s with
  | none=>trivial
  | some d1=>
   rw [z1,AB] at h1;rw [AB];refine BK hR (QA _) fun bx Ad hc=>?_;have t1:=Aj Ad hc hR h1;unfold Be;rw [Fy rfl];rw [<- Am];rw [<- AK] at t1;simp only [Aa,Ac,y4,yX];simp only [S9,Ag,seval,PY,Bv,PZ,Aw,Al,SX,t1,Ad];exact ⟨_,rfl⟩
theorem ln {n:Nat} (hE:E8 54 [] .expr id L Nm n) (hC:E8 87 [.int .i64 8,.str [111,114]] (.chain true) id L Nm n):E8 54 [] .expr id L Nm (n+1):=by
 intro o s hi ho;rw [zF];cases hn:Bf L s 1 [105,102] with
 | false=>
  simp only [yW,if_false];have h1:=hC o s hi (by omega);cases z1:zF L n (.chain true) o s with
  | none=>trivial
  | some d1=>
   rw [z1,AB] at h1;rw [AB];refine BK hR (QA _) fun bx Ad hc=>?_;have t0:=Aj Ad hc hR (Dy (o:=o) hR hi 1 1 rfl [105,102]);rw [hn] at t0;have t1:=Aj Ad hc hR h1;unfold Be;rw [Gw rfl];rw [<- Am];rw [<- AK] at t0 t1;simp only [Aa,Ac,y6,yX];simp only [S9,Ag,seval,PY,Bv,PZ,Aw,Al,SX,t0,t1,Ad];exact ⟨_,rfl⟩
 | true=>
  simp only [if_true];have i1:=G6 (L:=L) o hi;have i2:=Bc hT i1 (k:=1) [105,102] (by decide);have h1:=hE (o+1) _ i2 (by omega);cases z1:zF L n .expr (o+1) (As L (ER L o s) 1 [105,102]) with
  | none=>trivial
  | some d1=>
   rw [z1,AB] at h1;rw [MK];have i3:=Ho hT _ _ _ _ _ _ i2 z1;have i4:=Bc hT i3 (k:=1) [116,104,101,110] (by decide);have h2:=hE (o+1) _ i4 (by omega);cases z2:zF L n .expr (o+1) (As L d1.2 1 [116,104,101,110]) with
   | none=>trivial
   | some d2=>
    rw [z2,AB] at h2;rw [MK];have i5:=Ho hT _ _ _ _ _ _ i4 z2;have i6:=Bc hT i5 (k:=1) [101,108,115,101] (by decide);have h3:=hE (o+1) _ i6 (by omega);cases z3:zF L n .expr (o+1) (As L d2.2 1 [101,108,115,101]) with
    | none=>trivial
    | some d3=>
     rw [z3,AB] at h3;rw [MK,AB];refine BK hR (QA _) fun bx Ad hc=>?_;have t0:=Aj Ad hc hR (Dy (o:=o) hR hi 1 1 rfl [105,102]);rw [hn] at t0;have u1:=Aj Ad hc hR (RI (o:=o) hR (by omega) hi);have u2:=Aj Ad hc hR (BN (o:=o+1) hR hT i1 1 1 rfl [105,102]);have t1:=Aj Ad hc hR h1;have u3:=Aj Ad hc hR (BN (o:=o+1) hR hT i3 1 1 rfl [116,104,101,110]);have t2:=Aj Ad hc hR h2;have u4:=Aj Ad hc hR (BN (o:=o+1) hR hT i5 1 1 rfl [101,108,115,101]);have t3:=Aj Ad hc hR h3;have hw:=fc (o:=o) (by omega);have hb:=tV d1.1 d2.1 d3.1;have Un:=uv 14 d1.1 d2.1 d3.1;clear h1 h2 h3 z1 z2 z3 i2 i4 i6;generalize As L d2.2 1 [101,108,115,101]=r3 at *;generalize As L d1.2 1 [116,104,101,110]=r2 at *;generalize As L (ER L o s) 1 [105,102]=r1 at *;generalize ER L o s=r0 at *;unfold Be;rw [Gw rfl];rw [<- Am];rw [<- AK] at t0 u1 u2 t1 u3 t2 u4 t3 Un;simp only [Aa,Ac,y6,yX];simp only [S9,Ag,seval,PY,Bv,PZ,Aw,Al,SX,t0,u1,u2,t1,u3,t2,u4,t3,hw,hb,Un,Ad];exact ⟨_,rfl⟩
theorem ou {n:Nat} (hN:E8 121 [] .not id L Nm n) (hC:E8 129 [] .cmp id L Nm n):E8 121 [] .not id L Nm (n+1):=by
 intro o s hi ho;rw [zF];cases hn:Bf L s 1 [110,111,116] with
 | false=>
  simp only [yW,if_false];have h1:=hC o s hi (by omega);cases z1:zF L n .cmp o s with
  | none=>trivial
  | some d1=>
   rw [z1,AB] at h1;rw [AB];refine BK hR (QA _) fun bx Ad hc=>?_;have t0:=Aj Ad hc hR (Dy (o:=o) hR hi 1 1 rfl [110,111,116]);rw [hn] at t0;have t1:=Aj Ad hc hR h1;unfold Be;rw [G7 rfl];rw [<- Am];rw [<- AK] at t0 t1;simp only [Aa,Ac,y3,yX];simp only [S9,Ag,seval,PY,Bv,PZ,Aw,Al,SX,t0,t1,Ad];exact ⟨_,rfl⟩
 | true=>
  simp only [if_true];have i1:=G6 (L:=L) o hi;have i2:=Bc hT i1 (k:=1) [110,111,116] (by decide);have h1:=hN (o+1) _ i2 (by omega);cases z1:zF L n .not (o+1) (As L (ER L o s) 1 [110,111,116]) with
  | none=>trivial
  | some d1=>
   rw [z1,AB] at h1;rw [MK,AB];refine BK hR (QA _) fun bx Ad hc=>?_;have t0:=Aj Ad hc hR (Dy (o:=o) hR hi 1 1 rfl [110,111,116]);rw [hn] at t0;have u1:=Aj Ad hc hR (RI (o:=o) hR (by omega) hi);have u2:=Aj Ad hc hR (BN (o:=o+1) hR hT i1 1 1 rfl [110,111,116]);have t1:=Aj Ad hc hR h1;have hw:=fc (o:=o) (by omega);have hb:=PT d1.1;have Un:=eY 6 d1.1;clear h1 z1 i2;generalize As L (ER L o s) 1 [110,111,116]=r1 at *;generalize ER L o s=r0 at *;unfold Be;rw [G7 rfl];rw [<- Am];rw [<- AK] at t0 u1 u2 t1 Un;simp only [Aa,Ac,y3,yX];simp only [S9,Ag,seval,PY,Bv,PZ,Aw,Al,SX,t0,u1,u2,t1,hw,hb,Un,Ad];exact ⟨_,rfl⟩
end
theorem ML:Bk CC y5 (y5.body.getD .skip)=true:=by kernel_rfl
theorem LQ:CC.P.funcs[87]?=some y5:=by kernel_rfl
theorem ff:Bp CC 35 []=some (.agg [.int .i64 0,.int .i64 0,.int .i64 0,.str [],.int .i64 0,.int .i64 0,.str [],.int .i64 0,.str [],.str [],.nils]):=by kernel_rfl
def yC (b:Bool) (L:List Tk) (Nm:PV) (bx:List PBox) (id o:Nat) (r:ZR) (z:Option (Ex×St)):Prop:=match r with
 | none=>True
 | some d=>(∃ (l:List Tr) (e':List PV),d.1=mu b l/\l≠[]/\l.length<=8/\z=some (.exit 0,⟨e',BX bx id (Be L d.2 o Nm) [.cells 35 [.int .i64 0,.int .i64 0,.int .i64 0,.str [],.int .i64 0,.int .i64 0,.str [],.int .i64 0,.str [],.str [],.nils]]⟩)/\getT e' 1=.int .i64 (Pf b)/\getT e' 6=.bp bx.length 0/\getT e' 7=.osl 35 (N7 l))\/(∃ e',z=some (.ret,⟨e',BX bx id (Be L d.2 o Nm) [.cells 35 [.int .i64 0,.int .i64 0,.int .i64 0,.str [],.int .i64 0,.int .i64 0,.str [],.int .i64 0,.str [],.str [],.nils]]⟩)/\d.1=zT/\getT e' 6=.bp bx.length 0)
def vZ (b:Bool) (id:Nat) (L:List Tk) (Nm:PV) (n:Nat):Prop:=∀ (Lc:Code),Lc=Aa y5 [1,1,0,0]->∀ (o:Nat) (s:RS) (acc:List Tr),inv L s->o+n<=1000000->acc≠[]->acc.length<=8->∀ bx:List PBox,id < bx.length->C5 bx->∀ e:List PV,getT e 0=.bp id 0->getT e 1=.int .i64 (Pf b)->getT e 2=.str (PH b)->getT e 6=.bp bx.length 0->getT e 7=.osl 35 (N7 acc) ->
 yC b L Nm bx id o (zF L n (.chainL b acc) o s) (Cp CC Lc ⟨e,BX bx id (Be L s o Nm) [.cells 35 [.int .i64 0,.int .i64 0,.int .i64 0,.str [],.int .i64 0,.int .i64 0,.str [],.int .i64 0,.str [],.str [],.nils]]⟩)
section
variable {id:Nat} {L:List Tk} {Nm:PV} (hR:Nm.pure=true) (hT:TokOK L)
include hR hT
theorem lp (b:Bool) {n:Nat} (hO:E8 113 [.int .i64 (Pf b)] (Ee b) id L Nm n) (hl:vZ b id L Nm n):vZ b id L Nm (n+1):=by
 intro Lc hL o s acc hi ho DZ h8l bx Ad hc e g0 g1 g2 g6 g7;have pV:=yz 136 kz;have hlen:=RF acc;rw [zF,A0 (Aa y5 [1,1,0,0,0]) hL];have t0:=Aj Ad hc hR (Dy (o:=o) hR hi 1 1 rfl (PH b));cases hn:Bf L s 1 (PH b) with
 | false=>
  rw [hn] at t0;simp only [yW,if_false];refine .inl ?_;simp only;refine ⟨acc,?_⟩;unfold Be;rw [<- Am];rw [<- AK] at t0;simp only [Aa,Ac,y5,yX];simp only [S9,Ag,seval,PY,Bv,PZ,Aw,Al,g0,g1,g2,g6,g7,t0,Ad];exact ⟨_,DZ,h8l,rfl,by simp only [S7,Ag,seval,g1],by simp only [S7,Ag,seval,g6],by simp only [S7,Ag,seval,g7]⟩
 | true=>
  rw [hn] at t0;simp only [if_true];by_cases h8:acc.length=8
  · rw [if_pos h8]
    have o9:(((N7 acc).length:Int) == 8)=true:=by rw [hlen,h8];rfl
    have t1:=Aj Ad hc hR (D8 (o:=o) hR hi 3);have hb:=ff;refine .inr ?_;simp only;generalize B9 L s 3=r1 at *;unfold Be;rw [<- Am];rw [<- AK] at t0 t1;simp only [Aa,Ac,y5,yX];simp only [S9,Ag,seval,PY,Bv,PZ,Aw,Al,g0,g1,g2,g6,g7,t0,t1,o9,hb,Ad];exact ⟨_,rfl,by simp only [S7,Ag,seval,g6]⟩
  · rw [if_neg h8]
    have o9:(((N7 acc).length:Int) == 8)=false:=by rw [hlen];have:¬ (acc.length:Int)=8:=(by omega);exact beq_eq_false_iff_ne.2 this
    have i1:=Bc hT hi (k:=1) (PH b) (by decide);have h1:=hO o _ i1 (by omega);cases z1:zF L n (Ee b) o (As L s 1 (PH b)) with
    | none=>trivial
    | some d1=>
     rw [z1,AB] at h1;rw [MK];have i2:=Ho hT _ _ _ _ _ _ i1 z1;have key:=hl Lc hL o d1.2 (acc++[d1.1]) i2 (by omega) (by simp) (by simp;omega) bx Ad hc;have u1:=Aj Ad hc hR (BN (o:=o) hR hT hi 1 1 rfl (PH b));have t1:=Aj Ad hc hR h1;have hb:=PT d1.1;have Ek:=ky d1.1;have iK:(N7 acc).length+[PV.agg (A7 d1.1)].length<=1000000:=by rw [hlen];simp;omega
     have pa:=eJ acc d1.1;have pb:=fun st al l d=>D7 (bytes:=136) (size:=11) (e:=35) (st:=st) (al:=al) (l:=l) (d:=d) iK (by decide) Ek;clear h1 z1 i1;generalize As L s 1 (PH b)=r1 at *;generalize zF L n (.chainL b (acc++[d1.1])) o d1.2=zz at *;generalize N7 acc=xa at *;generalize N7 (acc++[d1.1])=xb at *;unfold Be at key |-;rw [<- Am];rw [<- Am] at key;rw [<- AK] at t0 u1 t1;simp only [Aa,Ac,y5,yX];simp only [S9,Ag,seval,PY,Bv,PZ,Aw,Al,g0,g1,g2,g6,g7,t0,u1,t1,o9,hb,pV,Ek,iK,pa,pb,Bool.or_true,List.filter_cons,SX,Ad];refine key _ ?_ ?_ ?_ ?_ ?_
     all_goals first | (simp only [S7,Ag,seval,g0,g1,g2,g6,g7];done) | (simp only [S7,Ag,seval,g0,g1,g2,g6,g7] <;> rfl)
theorem ij (b:Bool) {n:Nat} (hO:E8 113 [.int .i64 (Pf b)] (Ee b) id L Nm n) (hl:vZ b id L Nm n):E8 87 [.int .i64 (Pf b),.str (PH b)] (.chain b) id L Nm (n+1):=by
 intro o s hi ho;rw [zF];have h1:=hO o s hi (by omega);cases z1:zF L n (Ee b) o s with
 | none=>trivial
 | some d1=>
  rw [z1,AB] at h1;rw [MK];have i1:=Ho hT _ _ _ _ _ _ hi z1;cases z2:zF L n (.chainL b [d1.1]) o d1.2 with
  | none=>trivial
  | some d2=>
   rw [AB];refine BK hR (QA _) fun bx Ad hc=>?_;have t1:=Aj Ad hc hR h1;have hb:=PT d1.1;have Af:=hl _ rfl o d1.2 [d1.1] i1 (by omega) (by simp) (by simp) bx Ad hc;rw [z2] at Af;rw [Ah (fn:=y5) (c:=y5.body.getD .skip) rfl rfl LQ rfl ML (y0 rfl)];simp only [Aa,Ac,y5,yX] at Af |-;unfold yC Be at Af;simp only at Af;unfold Be;rw [<- Am];rw [<- Am] at Af;rw [<- AK] at t1;simp only [S9,Ag,seval,PY,Bv,PZ,Aw,Al,t1,hb,SX,Ad];generalize hE:GZ (y9 _) _=z;have hP:=fun e a b c d f=>Af e a b c d f
   replace hP:(∃ (l:List Tr) (e':List PV),d2.1=mu b l/\l≠[]/\l.length<=8/\z=some (.exit 0,⟨e',BX bx id (.cells 69 [.sl (A2 L),.int .i64 (d2.2.i:Int),.int .i64 d2.2.c,.int .i64 (d2.2.t:Int),.int .i64 (o:Int),Nm]) [.cells 35 [.int .i64 0,.int .i64 0,.int .i64 0,.str [],.int .i64 0,.int .i64 0,.str [],.int .i64 0,.str [],.str [],.nils]]⟩)/\getT e' 1=.int .i64 (Pf b)/\getT e' 6=.bp bx.length 0/\getT e' 7=.osl 35 (N7 l))\/(∃ e',z=some (.ret,⟨e',BX bx id (.cells 69 [.sl (A2 L),.int .i64 (d2.2.i:Int),.int .i64 d2.2.c,.int .i64 (d2.2.t:Int),.int .i64 (o:Int),Nm]) [.cells 35 [.int .i64 0,.int .i64 0,.int .i64 0,.str [],.int .i64 0,.int .i64 0,.str [],.int .i64 0,.str [],.str [],.nils]]⟩)/\d2.1=zT/\getT e' 6=.bp bx.length 0):=by
    rw [<- hE];refine Af _ ?_ ?_ ?_ ?_ ?_
    all_goals first | (simp only [S7,Ag,seval];done) | (simp only [S7,Ag,seval] <;> rfl)
   clear hE Af;rcases hP with ⟨l,e',q1,DZ,wv,he,k1,k6,k7⟩ | ⟨e',he,q1,k6⟩
   · subst he
     rw [q1];have yb:=RF l
     have Un:ph 89 [.int .i64 (Pf b),.sl (N7 l)]=fun bx=>some (.ret (.agg (A7 (Bb (Pf b) l))),bx):=by
      funext bx
      rw [AK];exact IL (Pf b) l bx
     by_cases h1:l.length=1
     · obtain ⟨a0,rfl⟩:∃ a0,l=[a0]:=by
        match l,h1 with
        | [a0],_=>exact ⟨a0,rfl⟩
       rw [eK];have Fh:(([PV.agg (A7 a0)].length:Int) == 1)=true:=rfl;have mm:(((0+1:Nat):Int) == 1)=true:=rfl;rw [show N7 [a0]=[PV.agg (A7 a0)] from rfl] at k7;simp only [S9,Ag,seval,PY,Bv,PZ,Aw,Al,k1,k6,k7,Fh,mm,SX,Ad];exact ⟨_,rfl⟩
     · have Gk:2<=l.length:=by
        have:l.length≠0:=fun h=>DZ (List.eq_nil_of_length_eq_zero h);omega
       rw [Z1 b l Gk];have Fh:(((N7 l).length:Int) == 1)=false:=by rw [yb];exact beq_eq_false_iff_ne.2 (by omega)
       simp only [S9,Ag,seval,PY,Bv,PZ,Aw,Al,k1,k6,k7,Fh,Un,SX,Ad];exact ⟨_,rfl⟩
   · subst he
     rw [q1];unfold zT;rw [CM,Bi];unfold zV zK;simp only [S9,Ag,seval,PY,Bv,PZ,Aw,Al,k6,PV.ro,Ad];exact ⟨_,rfl⟩
end
theorem K2:Bk CC yZ (yZ.body.getD .skip)=true:=by kernel_rfl
theorem Ke:CC.P.funcs[129]?=some yZ:=by kernel_rfl
theorem Fz {x:List PV} {b:List PBox} (h:x.length.ble yZ.ntmps=true):Ae CC 129 x b=CB CC yZ.results.toList (Cp CC (yZ.body.getD .skip) ⟨x,b⟩):=Ah (fn:=yZ) (c:=yZ.body.getD .skip) rfl rfl Ke rfl K2 (y0 h)
theorem xj:zeroCells CC 141=some [.str [],.str [],.str [],.str [],.str [],.str []]:=by kernel_rfl
theorem xr:Bp CC 141 [(0,.str [61,61]),(1,.str [33,61]),(2,.str [60]),(3,.str [62,61]),(4,.str [62]),(5,.str [60,61])]=some (.agg (Cw.map .str)):=by kernel_rfl
theorem uG:CC.P.underlying 141=some (.array 6 9)/\tSize CC 9=some 1:=⟨by kernel_rfl,by kernel_rfl⟩
theorem pM:(Cw.map PV.str).length=6/\(Cw.map PV.str).take 6=Cw.map .str/\(Cw.map PV.str).drop 6=[]/\(Cw.map PV.str).map PV.ro=Cw.map .str/\(Cw.map PV.str).map PV.seal1=Cw.map .str/\(Cw.map PV.str).all PV.one=true:=⟨rfl,rfl,rfl,rfl,rfl,rfl⟩
theorem uH:∀ k,k < 6->((Cw.map PV.str).drop k).head?=some (.str (Cw.getD k []))/\(Cw.map PV.str)[k]?=some (.str (Cw.getD k []))/\Cw.drop k=Cw.getD k [] :: Cw.drop (k+1)
 | 0,_=>⟨rfl,rfl,rfl⟩
 | 1,_=>⟨rfl,rfl,rfl⟩
 | 2,_=>⟨rfl,rfl,rfl⟩
 | 3,_=>⟨rfl,rfl,rfl⟩
 | 4,_=>⟨rfl,rfl,rfl⟩
 | 5,_=>⟨rfl,rfl,rfl⟩
 | k+6,h=>by omega
def uI (L:List Tk) (Nm:PV) (bx:List PBox) (id o:Nat) (s:RS) (a:Tr) (B:PBox) (q:ZR) (r:Option Nat) (z:Option (Ex×St)):Prop:=match r with
 | some k=>(match q with
  | none=>True
  | some d=>∃ e' ys,z=some (.ret,⟨e',BX bx id (Be L d.2 o Nm) (.cells 35 (A7 (KG k a d.1)) :: ys)⟩)/\getT e' 2=.bp bx.length 0)
 | none=>∃ e',z=some (.exit 0,⟨e',BX bx id (Be L s o Nm) [.cells 35 [.int .i64 0,.int .i64 0,.int .i64 0,.str [],.int .i64 0,.int .i64 0,.str [],.int .i64 0,.str [],.str [],.nils],.cells 35 (A7 a),B]⟩)/\getT e' 2=.bp bx.length 0/\getT e' 3=.bp (bx.length+1) 0
section
variable {id:Nat} {L:List Tk} {o:Nat} {Nm:PV} (hR:Nm.pure=true) (hT:TokOK L)
include hR hT
theorem lq (Lc:Code) (hL:Lc=Aa yZ [1,1,1,0,1,0]) {n:Nat} (hS:E8 135 [] .sum id L Nm n) (ho:o+n<=1000000) {s:RS} (hi:inv L s) (a:Tr) (bx:List PBox) (Ad:id < bx.length) (hc:C5 bx):∀ (m k:Nat) (e:List PV),k+m=6->getT e 0=.bp id 0->getT e 2=.bp bx.length 0->getT e 3=.bp (bx.length+1) 0->getT e 4=.bp (bx.length+2) 0->getT e 5=.int .i64 (k:Int) ->
 uI L Nm bx id o s a (.cells 141 (Cw.map .str)) (zF L n .sum o (BZ s)) (DE L s 4 (Cw.drop k) k) (Cp CC Lc ⟨e,BX bx id (Be L s o Nm) [.cells 35 [.int .i64 0,.int .i64 0,.int .i64 0,.str [],.int .i64 0,.int .i64 0,.str [],.int .i64 0,.str [],.str [],.nils],.cells 35 (A7 a),.cells 141 (Cw.map .str)]⟩):=by
 intro m
 induction m with
 | zero=>
  intro k e hk e0 e2 e3 e4 e5;rw [A0 (Aa yZ [1,1,1,0,1,0,0]) hL];have Yz:¬ ((k:Int) < 6):=by omega
  have:Cw.drop k=[]:=y' (by rw [show Cw.length=6 from rfl];omega);rw [this];have hn:DE L s 4 [] k=none:=by unfold DE;split <;> rfl
  rw [hn];unfold Be;generalize Cw.map PV.str=ds at *;rw [<- Am];simp only [Aa,Ac,yZ,yX];simp only [S9,Ag,seval,PY,Bv,PZ,Aw,Al,e0,e2,e3,e4,e5,Yz,Ad];unfold uI Be;exact ⟨_,rfl,by simp only [S7,Ag,seval,e2],by simp only [S7,Ag,seval,e3]⟩
 | succ m ih=>
  intro k e hk e0 e2 e3 e4 e5;rw [A0 (Aa yZ [1,1,1,0,1,0,0]) hL];have pZ:k < 6:=by omega
  have Yz:((k:Int) < 6):=by omega
  have Dq:¬ ((k:Int) < 0):=by omega
  obtain ⟨d1,d2,d3⟩:=uH k pZ;have EB:([PBox.cells 35 [.int .i64 0,.int .i64 0,.int .i64 0,.str [],.int .i64 0,.int .i64 0,.str [],.int .i64 0,.str [],.str [],.nils],PBox.cells 35 (A7 a),PBox.cells 141 (Cw.map .str)].all fun x=>x.under (bx.length+[PBox.cells 35 [.int .i64 0,.int .i64 0,.int .i64 0,.str [],.int .i64 0,.int .i64 0,.str [],.int .i64 0,.str [],.str [],.nils],PBox.cells 35 (A7 a),PBox.cells 141 (Cw.map .str)].length))=true:=by simp only [SU,SX,List.all_cons,List.all_nil,Bool.and_self];rfl
  have t1:=Aj Ad hc hR (Ay (o:=o) hR hT hi 4 4 rfl (Cw.getD k [])) _ EB;have N5:y7 .i64 ((k:Int)+1)=((k+1:Nat):Int):=by rw [wrap_i64 ⟨by omega,by omega⟩];omega
  have key:=fun e=>ih (k+1) e (by omega);have hA:=uG;have iL:=pM.1;rw [d3,NN];unfold Cx at t1;unfold Be at key |-;cases hn:Bf L s 4 (Cw.getD k []) with
  | false=>
   rw [hn] at t1;generalize Cw.getD k []=w at *;generalize DE L s 4 (Cw.drop (k+1)) (k+1)=pr at *;generalize zF L n .sum o (BZ s)=zz at *;generalize Cw.map PV.str=ds at *;simp only [yW,if_false] at t1 |-;rw [<- Am];rw [<- Am] at key;rw [<- AK] at t1;simp only [Aa,Ac,yZ,yX];simp only [S9,Ag,seval,PY,Bv,PZ,Aw,Al,e0,e2,e3,e4,e5,Yz,Dq,y1,d1,d2,hA,iL,t1,N5,PV.ro,Ad];refine key _ ?_ ?_ ?_ ?_ ?_
   all_goals first | (simp only [S7,Ag,seval,e0,e2,e3,e4,e5];done) | (simp only [S7,Ag,seval,e0,e2,e3,e4,e5] <;> rfl)
  | true=>
   rw [hn] at t1;simp only [if_true] at t1 |-;have Jb:=Bj hT hi (by decide) hn;have h1:=hS o _ Jb ho;cases z1:zF L n .sum o (BZ s) with
   | none=>trivial
   | some d=>
    rw [z1,AB] at h1;have t2:=Aj Ad hc hR h1 _ EB;have b1:=PT (Bb 9 [a,d.1]);have b2:=PT (Bb 10 [a,d.1]);have b3:=PT (Bb 10 [d.1,a]);have w1:=FG 10 a d.1;have w2:=FG 9 a d.1;have w3:=FG 10 d.1 a;have n1:=eY 6 (Bb 9 [a,d.1]);have n2:=eY 6 (Bb 10 [a,d.1]);have n3:=eY 6 (Bb 10 [d.1,a]);unfold uI;simp only;clear key ih z1 h1;have Uh:k=0\/k=1\/k=2\/k=3\/k=4\/k=5:=by omega
    generalize Cw.getD k []=w at *;generalize Cw.map PV.str=ds at *;rcases Uh with h | h | h | h | h | h
    · have hv:KG k a d.1=Bb 9 [a,d.1]:=by rw [h];rfl
      rw [hv];have c2:((k:Int) < 2):=by omega
      have c3:¬ ((k:Int) > 3):=by omega
      have c4:((k:Int).tmod 2 == 1)=false:=by rw [h];rfl
      clear hv h;unfold Be;rw [<- Am];rw [<- AK] at t1 t2 w1 w2 w3 n1 n2 n3;simp only [Aa,Ac,yZ,yX];simp only [S9,Ag,seval,PY,Bv,PZ,Aw,Al,e0,e2,e3,e4,e5,Yz,Dq,y1,d1,d2,hA,iL,t1,t2,c2,c3,c4,w1,w2,w3,n1,n2,n3,b1,b2,b3,SX,PV.ro,Ad];exact ⟨_,_,rfl,by simp only [S7,Ag,seval,e2]⟩
    · have hv:KG k a d.1=Bb 6 [Bb 9 [a,d.1]]:=by rw [h];rfl
      rw [hv];have c2:((k:Int) < 2):=by omega
      have c3:¬ ((k:Int) > 3):=by omega
      have c4:((k:Int).tmod 2 == 1)=true:=by rw [h];rfl
      clear hv h;unfold Be;rw [<- Am];rw [<- AK] at t1 t2 w1 w2 w3 n1 n2 n3;simp only [Aa,Ac,yZ,yX];simp only [S9,Ag,seval,PY,Bv,PZ,Aw,Al,e0,e2,e3,e4,e5,Yz,Dq,y1,d1,d2,hA,iL,t1,t2,c2,c3,c4,w1,w2,w3,n1,n2,n3,b1,b2,b3,SX,PV.ro,Ad];exact ⟨_,_,rfl,by simp only [S7,Ag,seval,e2]⟩
    · have hv:KG k a d.1=Bb 10 [a,d.1]:=by rw [h];rfl
      rw [hv];have c2:¬ ((k:Int) < 2):=by omega
      have c3:¬ ((k:Int) > 3):=by omega
      have c4:((k:Int).tmod 2 == 1)=false:=by rw [h];rfl
      clear hv h;unfold Be;rw [<- Am];rw [<- AK] at t1 t2 w1 w2 w3 n1 n2 n3;simp only [Aa,Ac,yZ,yX];simp only [S9,Ag,seval,PY,Bv,PZ,Aw,Al,e0,e2,e3,e4,e5,Yz,Dq,y1,d1,d2,hA,iL,t1,t2,c2,c3,c4,w1,w2,w3,n1,n2,n3,b1,b2,b3,SX,PV.ro,Ad];exact ⟨_,_,rfl,by simp only [S7,Ag,seval,e2]⟩
    · have hv:KG k a d.1=Bb 6 [Bb 10 [a,d.1]]:=by rw [h];rfl
      rw [hv];have c2:¬ ((k:Int) < 2):=by omega
      have c3:¬ ((k:Int) > 3):=by omega
      have c4:((k:Int).tmod 2 == 1)=true:=by rw [h];rfl
      clear hv h;unfold Be;rw [<- Am];rw [<- AK] at t1 t2 w1 w2 w3 n1 n2 n3;simp only [Aa,Ac,yZ,yX];simp only [S9,Ag,seval,PY,Bv,PZ,Aw,Al,e0,e2,e3,e4,e5,Yz,Dq,y1,d1,d2,hA,iL,t1,t2,c2,c3,c4,w1,w2,w3,n1,n2,n3,b1,b2,b3,SX,PV.ro,Ad];exact ⟨_,_,rfl,by simp only [S7,Ag,seval,e2]⟩
    · have hv:KG k a d.1=Bb 10 [d.1,a]:=by rw [h];rfl
      rw [hv];have c2:¬ ((k:Int) < 2):=by omega
      have c3:((k:Int) > 3):=by omega
      have c4:((k:Int).tmod 2 == 1)=false:=by rw [h];rfl
      clear hv h;unfold Be;rw [<- Am];rw [<- AK] at t1 t2 w1 w2 w3 n1 n2 n3;simp only [Aa,Ac,yZ,yX];simp only [S9,Ag,seval,PY,Bv,PZ,Aw,Al,e0,e2,e3,e4,e5,Yz,Dq,y1,d1,d2,hA,iL,t1,t2,c2,c3,c4,w1,w2,w3,n1,n2,n3,b1,b2,b3,SX,PV.ro,Ad];exact ⟨_,_,rfl,by simp only [S7,Ag,seval,e2]⟩
    · have hv:KG k a d.1=Bb 6 [Bb 10 [d.1,a]]:=by rw [h];rfl
      rw [hv];have c2:¬ ((k:Int) < 2):=by omega
      have c3:((k:Int) > 3):=by omega
      have c4:((k:Int).tmod 2 == 1)=true:=by rw [h];rfl
      clear hv h;unfold Be;rw [<- Am];rw [<- AK] at t1 t2 w1 w2 w3 n1 n2 n3;simp only [Aa,Ac,yZ,yX];simp only [S9,Ag,seval,PY,Bv,PZ,Aw,Al,e0,e2,e3,e4,e5,Yz,Dq,y1,d1,d2,hA,iL,t1,t2,c2,c3,c4,w1,w2,w3,n1,n2,n3,b1,b2,b3,SX,PV.ro,Ad];exact ⟨_,_,rfl,by simp only [S7,Ag,seval,e2]⟩
end
theorem O0 {L:List Tk} (hT:TokOK L) (s:RS):(BW L s 2).1.length<=20000/\(∀ b ∈ (BW L s 2).1,48<=b.toNat/\b.toNat<=57)/\amtN (BW L s 2).1 0<=1099511627776:=by
 unfold BW;split
 · rename_i h
   have:=hT.num _ h.2;exact ⟨hT.word _,this.1,this.2⟩
 · exact ⟨zd _,fun b h=>absurd h (by simp),zd _⟩
theorem QB {L:List Tk} (hT:TokOK L) (s:RS) (bx):Ak CC (Ae CC) 75 [.str (BW L s 2).1] bx=some (.ret (.int .i64 (amtN (BW L s 2).1 0:Nat)),bx):=OV _ (O0 hT s).1 (O0 hT s).2.1 (O0 hT s).2.2 bx
section
variable {id:Nat} {L:List Tk} {Nm:PV} (hR:Nm.pure=true) (hT:TokOK L)
include hR hT
theorem ov {n:Nat} (hS:E8 135 [] .sum id L Nm n):E8 129 [] .cmp id L Nm (n+1):=by
 intro o s hi ho;rw [zF];have h0:=hS o s hi (by omega);cases z0:zF L n .sum o s with
 | none=>trivial
 | some d0=>
  rw [z0,AB] at h0;rw [MK];have i1:=Ho hT _ _ _ _ _ _ hi z0;have Af:=fun Lc hL bx Ad hc e=>lq hR hT Lc hL hS (o:=o) (by omega) i1 d0.1 bx Ad hc 6 0 e rfl;simp only [za] at Af;have hb:=xr;have mz:=xj;have hf:=pM;cases hp:DE L d0.2 4 Cw 0 with
  | some k=>
   rw [hp] at Af;dsimp only;cases z2:zF L n .sum o (BZ d0.2) with
   | none=>trivial
   | some d=>
    rw [z2] at Af;rw [MK];rw [AB];refine BK hR (QA _) fun bx Ad hc=>?_;have t0:=Aj Ad hc hR h0;have Af:=fun Lc hL e=>Af Lc hL bx Ad hc e;clear h0 z0;unfold uI Be at Af;simp only at Af;generalize Cw.map PV.str=ds at *;unfold Be;rw [Fz rfl];rw [<- Am];rw [<- Am] at Af;rw [<- AK] at t0;simp only [Aa,Ac,yZ,yX] at Af |-;simp only [S9,Ag,seval,PY,Bv,PZ,Aw,Al,t0,hb,mz,hf,SX,Ad];generalize hE:GZ (y9 _) _=z
    have hP:∃ e' ys,z=some (.ret,⟨e',BX bx id (.cells 69 [.sl (A2 L),.int .i64 (d.2.i:Int),.int .i64 d.2.c,.int .i64 (d.2.t:Int),.int .i64 (o:Int),Nm]) (.cells 35 (A7 (KG k d0.1 d.1)) :: ys)⟩)/\getT e' 2=.bp bx.length 0:=by
     rw [<- hE];refine Af _ rfl _ ?_ ?_ ?_ ?_ ?_
     all_goals first | (simp only [S7,Ag,seval];done) | (simp only [S7,Ag,seval] <;> rfl)
    clear hE Af;obtain ⟨e',ys,h1,h2⟩:=hP;subst h1;simp only [S9,Ag,seval,PY,Bv,PZ,Aw,Al,h2,SX,Ad];exact ⟨_,rfl⟩
  | none=>
   rw [hp] at Af;dsimp only;rw [AB];refine BK hR (QA _) fun bx Ad hc=>?_;have t0:=Aj Ad hc hR h0;have Af:=fun Lc hL e=>Af Lc hL bx Ad hc e;clear h0 z0;unfold uI Be at Af;simp only at Af;generalize Cw.map PV.str=ds at *;unfold Be;rw [Fz rfl];rw [<- Am];rw [<- Am] at Af;rw [<- AK] at t0;simp only [Aa,Ac,yZ,yX] at Af |-;simp only [S9,Ag,seval,PY,Bv,PZ,Aw,Al,t0,hb,mz,hf,SX,Ad];generalize hE:GZ (y9 _) _=z
   have hP:∃ e',z=some (.exit 0,⟨e',BX bx id (.cells 69 [.sl (A2 L),.int .i64 (d0.2.i:Int),.int .i64 d0.2.c,.int .i64 (d0.2.t:Int),.int .i64 (o:Int),Nm]) [.cells 35 [.int .i64 0,.int .i64 0,.int .i64 0,.str [],.int .i64 0,.int .i64 0,.str [],.int .i64 0,.str [],.str [],.nils],.cells 35 (A7 d0.1),.cells 141 ds]⟩)/\getT e' 2=.bp bx.length 0/\getT e' 3=.bp (bx.length+1) 0:=by
    rw [<- hE];refine Af _ rfl _ ?_ ?_ ?_ ?_ ?_
    all_goals first | (simp only [S7,Ag,seval];done) | (simp only [S7,Ag,seval] <;> rfl)
   clear hE Af;obtain ⟨e',h1,h2,h3⟩:=hP;subst h1;simp only [S9,Ag,seval,PY,Bv,PZ,Aw,Al,h2,h3,SX,Ad];exact ⟨_,rfl⟩
theorem re {n:Nat} (hU:E8 145 [] .un id L Nm n) (hP:E8 146 [] .prim id L Nm n):E8 145 [] .un id L Nm (n+1):=by
 intro o s hi ho;rw [zF];cases hn:Bf L s 4 [45] with
 | false=>
  simp only [yW,if_false];have h1:=hP o s hi (by omega);cases z1:zF L n .prim o s with
  | none=>trivial
  | some d1=>
   rw [z1,AB] at h1;rw [AB];refine BK hR (QA _) fun bx Ad hc=>?_;have t0:=Aj Ad hc hR (Dy (o:=o) hR hi 4 4 rfl [45]);rw [hn] at t0;have t1:=Aj Ad hc hR h1;unfold Be;rw [Ev rfl];rw [<- Am];rw [<- AK] at t0 t1;simp only [Aa,Ac,y2,yX];simp only [S9,Ag,seval,PY,Bv,PZ,Aw,Al,SX,t0,t1,Ad];exact ⟨_,rfl⟩
 | true=>
  simp only [if_true];have ia:=Bj hT hi (by decide) hn;have Bq:=ia (LL hn).1;have Bq:s.i+1 < L.length:=Bq;have N5:y7 .i64 ((s.i:Int)+1)=((s.i+1:Nat):Int):=by rw [wrap_i64 ⟨by omega,by have:=hT.len;omega⟩];omega
  cases hq:D0 L (s.i+1) with
  | true=>
   simp only [if_true];unfold aB;rw [AB];refine BK hR (QA _) fun bx Ad hc=>?_;have t0:=Aj Ad hc hR (Dy (o:=o) hR hi 4 4 rfl [45]);rw [hn] at t0;have t1:=Aj Ad hc hR (Kc (o:=o) hR hT s (s.i+1) Bq);rw [hq] at t1;have t2:=Aj Ad hc hR (Me (o:=o) hR hT ia 2 2 rfl);have hv:=QB hT (BZ s);have hl:=E7 2 (-1 * (amtN (BW L (BZ s) 2).1 0:Int))
   have hng:y7 .i64 (0 - (amtN (BW L (BZ s) 2).1 0:Int))=-1 * (amtN (BW L (BZ s) 2).1 0:Int):=by
    have:=(O0 hT (BZ s)).2.2;rw [wrap_i64 ⟨by omega,by omega⟩];omega
   unfold BZ at t2 hv hl hng |-;generalize BW L ⟨s.i+1,s.c,s.t⟩ 2=r1 at *;simp only at t2;unfold Be;rw [Ev rfl];rw [<- Am];rw [<- AK] at t0 t1 t2 hv hl;simp only [Aa,Ac,y2,yX];simp only [S9,Ag,seval,PY,Bv,PZ,Aw,Al,SX,t0,t1,t2,hv,hl,hng,N5,Ad];exact ⟨_,rfl⟩
  | false=>
   simp only [yW,if_false];have i1:=G6 (L:=L) o hi;have i2:=Bc hT i1 (k:=4) [45] (by decide);have h1:=hU (o+1) _ i2 (by omega);cases z1:zF L n .un (o+1) (As L (ER L o s) 4 [45]) with
   | none=>trivial
   | some d1=>
    rw [z1,AB] at h1;rw [MK,AB];refine BK hR (QA _) fun bx Ad hc=>?_;have t0:=Aj Ad hc hR (Dy (o:=o) hR hi 4 4 rfl [45]);rw [hn] at t0;have u0:=Aj Ad hc hR (Kc (o:=o) hR hT s (s.i+1) Bq);rw [hq] at u0;have u1:=Aj Ad hc hR (RI (o:=o) hR (by omega) hi);have u2:=Aj Ad hc hR (BN (o:=o+1) hR hT i1 4 4 rfl [45]);have t1:=Aj Ad hc hR h1;have hw:=fc (o:=o) (by omega);have hl:=E7 2 0;have vo:=FG 12 (Da 2 0) d1.1;clear h1 z1 i2;generalize As L (ER L o s) 4 [45]=r1 at *;generalize ER L o s=r0 at *;unfold Be;rw [Ev rfl];rw [<- Am];rw [<- AK] at t0 u0 u1 u2 t1 hl vo;simp only [Aa,Ac,y2,yX];simp only [S9,Ag,seval,PY,Bv,PZ,Aw,Al,SX,t0,u0,u1,u2,t1,hw,N5,hl,vo,Ad];exact ⟨_,rfl⟩
end
end Go.HH
