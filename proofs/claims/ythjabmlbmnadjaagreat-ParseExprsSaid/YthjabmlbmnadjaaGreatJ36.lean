/-
  What the law needs, packed: PE PF PG PH PI PK PL.
-/
import Derived.Test.YthjabmlbmnadjaaGreatJ35
open Option renaming getD->yW
open List renaming getElem?_cons_zero->yX,getElem?_cons_succ->yY,getElem?_toArray->yZ,filterMap_cons->y3,filterMap_nil->y4,not_mem_nil->y7,mem_cons->y8,foldlM_cons->ze,foldlM_nil->zf,drop_of_length_le->zh,set_cons_zero->zl,set_cons_succ->zm,range->zn,all_eq_true->zq,mem_range->zu
open Go.Proofs.Tryz renaming f141->y0,f64->y1,f102->y2,f119->y5,f128->za,f62->zd,f101->zg,f63->zj,f83->zr,f35->zt,f82->zy,f61->zA
open Nat renaming le_of_ble_eq_true->y6,reduceLT->zi,le_refl->zk
open Go.IntKind renaming wrap->y9
open Bool renaming true_and->y',false_eq_true->zo,false_and->zw,and_true->zx
namespace Go.HH
open Go Go.Proofs
set_option maxRecDepth 100000
set_option maxHeartbeats 4000000
set_option linter.unusedSimpArgs false
set_option linter.unusedVariables false
def qE (k:Ky):PV:=.agg [.int .i64 k.1,.str k.2.1,.str k.2.2]
theorem AA {α β:Type} (a:α) (i:Nat) (f:α->Nat->PR β):(PR.ok a i).bind f=f a i:=rfl
theorem ez {id:Nat} {L:List Tk} {i o:Nat} {RL:PV} (hR:RL.pure=true) (hi:i < L.length) (hT:TokOK L) (Ey:Nat) (khi:Int) (h2:khi=(Ey:Int)):YC 101 [.int .i64 khi] id L RL i o (fun n=>.int .i64 ((n:Nat):Int)) (Ri L Ey i):=by
 have h0:=AJ (id:=id) (o:=o) hR hi;have hq:=I0 (tokAt L i).1 2;have hlen:=AX (tokAt L i).2.1;have Gk:=JX (tokAt L i).2.1.length 2;have h1:=H5 (id:=id) (o:=o) hR hi hT 0 Ey 0 khi rfl h2;unfold Ri;by_cases hk:(tokAt L i).1=2
 · rw [beq_iff_eq.2 hk] at hq
   have hq:(((tokAt L i).1:Int) == 2)=true:=hq;by_cases hl:(tokAt L i).2.1.length=2
   · rw [if_neg (by omega)]
     rw [beq_iff_eq.2 hl] at Gk;have Gk:(((tokAt L i).2.1.length:Int) != 2)=false:=Gk;cases r1:Hj L 0 Ey i with
     | out=>exact A4
     | bad t e=>
      rw [r1] at h1;obtain ⟨i',o',h1⟩:=h1;refine AV ⟨i',o',AF hR fun bx Ad hc=>?_⟩;have t0:=Ab Ad hc hR h0;have t1:=At Ad hc hR h1;rw [Dw rfl];unfold Av;rw [<- Am];rw [<- AK] at t0 t1;simp only [Aa,Ac,zg,yW];simp only [S9,Ag,seval,PY,PZ,Aw,t0,t1,hq,hlen,Gk,y',Ad];exact ⟨_,rfl⟩
     | ok a j=>
      rw [r1] at h1;refine BB (Bl hR (fun n=>by simp [PV.under]) fun bx Ad hc=>?_);have t0:=Ab Ad hc hR h0;have t1:=Ab Ad hc hR h1;rw [Dw rfl];unfold Av;rw [<- Am];rw [<- AK] at t0 t1;simp only [Aa,Ac,zg,yW];simp only [S9,Ag,seval,PY,PZ,Aw,t0,t1,hq,hlen,Gk,y',Ad];exact ⟨_,rfl⟩
   · rw [if_pos ⟨hk,hl⟩]
     rw [beq_eq_false_iff_ne.2 hl] at Gk;have Gk:(((tokAt L i).2.1.length:Int) != 2)=true:=Gk;refine AV ⟨i,o,AF hR fun bx Ad hc=>?_⟩;have t0:=Ab Ad hc hR h0;have t3:=At Ad hc hR (Dk (i:=i) (o:=o) (L:=L) hR (tokAt L i).1 (tokAt L i).2.1 (tokAt L i).2.2 12);rw [Dw rfl];unfold Av atT;rw [<- Am];rw [<- AK] at t0 t3;simp only [Aa,Ac,zg,yW];simp only [S9,Ag,seval,PY,PZ,Aw,t0,t3,hq,hlen,Gk,y',Ad];exact ⟨_,rfl⟩
 · rw [if_neg (fun h=>hk h.1)]
   rw [beq_eq_false_iff_ne.2 hk] at hq;have hq:(((tokAt L i).1:Int) == 2)=false:=hq;have r1:Hj L 0 Ey i=.bad (atT L i) 12:=by unfold Hj;rw [if_neg hk]
   rw [r1] at h1 |-;obtain ⟨i',o',h1⟩:=h1;refine AV ⟨i',o',AF hR fun bx Ad hc=>?_⟩;have t0:=Ab Ad hc hR h0;have t1:=At Ad hc hR h1;rw [Dw rfl];unfold Av;rw [<- Am];rw [<- AK] at t0 t1;simp only [Aa,Ac,zg,yW];simp only [S9,Ag,seval,PY,PZ,Aw,t0,t1,hq,zw,Ad];exact ⟨_,rfl⟩
theorem Tt {id:Nat} {L:List Tk} {i o:Nat} {RL:PV} (hR:RL.pure=true) (hi:i < L.length) (hT:TokOK L):YC 62 [] id L RL i o (fun k=>.tup [.int .i64 k.1,.str k.2.1,.str k.2.2]) (Fv L i):=by
 unfold Fv;have h0:=H5 (id:=id) (o:=o) (i:=i) hR hi hT 1 250 1 250 rfl rfl;cases r0:Hj L 1 250 i with
 | out=>exact A4
 | bad t e=>
  rw [r0] at h0;obtain ⟨i',o',h0⟩:=h0;refine AV ⟨i',o',AF hR fun bx Ad hc=>?_⟩;have t0:=At Ad hc hR h0;rw [Ci rfl];unfold Av;rw [<- Am];rw [<- AK] at t0;simp only [Aa,Ac,zd,yW];simp only [S9,Ag,seval,PY,PZ,Aw,t0,Ad];exact ⟨_,rfl⟩
 | ok a0 i0=>
  rw [r0] at h0;dsimp only [AA];have j0:=GQ hT hi r0;have DF:=j0.2.1;have h1:=CE (id:=id) (o:=o) (i:=i0) hR DF hT 4 4 rfl [46];cases r1:BM L 4 [46] i0 with
  | out=>exact A4
  | bad t e=>
   rw [r1] at h1;obtain ⟨i',o',h1⟩:=h1;refine AV ⟨i',o',AF hR fun bx Ad hc=>?_⟩;have t0:=Ab Ad hc hR h0;have t1:=At Ad hc hR h1;rw [Ci rfl];unfold Av;rw [<- Am];rw [<- AK] at t0 t1;simp only [Aa,Ac,zd,yW];simp only [S9,Ag,seval,PY,PZ,Aw,t0,t1,Ad];exact ⟨_,rfl⟩
  | ok a1 i1=>
   rw [r1] at h1;dsimp only [AA];have j1:=A6 hT DF (by decide) r1;have B8:=j1.2;have h2:=H4 (id:=id) (o:=o) (i:=i1) hR B8 hT;cases r2:CI L i1 with
   | out=>exact A4
   | bad t e=>
    rw [r2] at h2;obtain ⟨i',o',h2⟩:=h2;refine AV ⟨i',o',AF hR fun bx Ad hc=>?_⟩;have t0:=Ab Ad hc hR h0;have t1:=Ab Ad hc hR h1;have t2:=At Ad hc hR h2;rw [Ci rfl];unfold Av;rw [<- Am];rw [<- AK] at t0 t1 t2;simp only [Aa,Ac,zd,yW];simp only [S9,Ag,seval,PY,PZ,Aw,t0,t1,t2,Ad];exact ⟨_,rfl⟩
   | ok a2 i2=>
    rw [r2] at h2;dsimp only [AA];have j2:=Dt hT B8 r2;have FV:=j2.2;have h3:=CE (id:=id) (o:=o) (i:=i2) hR FV hT 4 4 rfl [46];cases r3:BM L 4 [46] i2 with
    | out=>exact A4
    | bad t e=>
     rw [r3] at h3;obtain ⟨i',o',h3⟩:=h3;refine AV ⟨i',o',AF hR fun bx Ad hc=>?_⟩;have t0:=Ab Ad hc hR h0;have t1:=Ab Ad hc hR h1;have t2:=Ab Ad hc hR h2;have t3:=At Ad hc hR h3;rw [Ci rfl];unfold Av;rw [<- Am];rw [<- AK] at t0 t1 t2 t3;simp only [Aa,Ac,zd,yW];simp only [S9,Ag,seval,PY,PZ,Aw,t0,t1,t2,t3,Ad];exact ⟨_,rfl⟩
    | ok a3 i3=>
     rw [r3] at h3;dsimp only [AA];have j3:=A6 hT FV (by decide) r3;have VS:=j3.2;have h4:=H4 (id:=id) (o:=o) (i:=i3) hR VS hT;cases r4:CI L i3 with
     | out=>exact A4
     | bad t e=>
      rw [r4] at h4;obtain ⟨i',o',h4⟩:=h4;refine AV ⟨i',o',AF hR fun bx Ad hc=>?_⟩;have t0:=Ab Ad hc hR h0;have t1:=Ab Ad hc hR h1;have t2:=Ab Ad hc hR h2;have t3:=Ab Ad hc hR h3;have t4:=At Ad hc hR h4;rw [Ci rfl];unfold Av;rw [<- Am];rw [<- AK] at t0 t1 t2 t3 t4;simp only [Aa,Ac,zd,yW];simp only [S9,Ag,seval,PY,PZ,Aw,t0,t1,t2,t3,t4,Ad];exact ⟨_,rfl⟩
     | ok a4 i4=>
      rw [r4] at h4;dsimp only [AA];have j4:=Dt hT VS r4;have iW:=j4.2;refine BB (Bl hR (fun n=>by simp [PV.under,Au]) fun bx Ad hc=>?_);have t0:=Ab Ad hc hR h0;have t1:=Ab Ad hc hR h1;have t2:=Ab Ad hc hR h2;have t3:=Ab Ad hc hR h3;have t4:=Ab Ad hc hR h4;rw [Ci rfl];unfold Av;rw [<- Am];rw [<- AK] at t0 t1 t2 t3 t4;simp only [Aa,Ac,zd,yW];simp only [S9,Ag,seval,PY,PZ,Aw,t0,t1,t2,t3,t4,Ad];exact ⟨_,rfl⟩
theorem Eg {L:List Tk} {i:Nat} {a:Ky} {j:Nat} (hT:TokOK L) (hi:i < L.length) (h:Fv L i=.ok a j):i < j/\j < L.length/\Fo a.2.1=true/\Fo a.2.2=true/\1<=a.1/\a.1<=250:=by
 unfold Fv at h;obtain ⟨d,i0,r0,h⟩:=Ao h;obtain ⟨_,i1,r1,h⟩:=Ao h;obtain ⟨s,i2,r2,h⟩:=Ao h;obtain ⟨_,i3,r3,h⟩:=Ao h;obtain ⟨u,i4,r4,h⟩:=Ao h;injection h with h1 h2
 have j0:=GQ hT hi r0;have j1:=A6 hT j0.2.1 (by decide) r1;have j2:=Dt hT j1.2 r2;have j3:=A6 hT j2.2 (by decide) r3;have j4:=Dt hT j3.2 r4;subst h1 h2;exact ⟨by omega,by omega,Qx r2,Qx r4,by omega,by omega⟩
theorem kj (d:Int) (a b:List UInt8):Bp CC 32 [(0,.int .i64 d),(1,.str a),(2,.str b)]=some (.agg [.int .i64 d,.str a,.str b]):=by kernel_rfl
theorem XF {id:Nat} {L:List Tk} {i o:Nat} {RL:PV} (hR:RL.pure=true) (hi:i < L.length) (hT:TokOK L):YC 61 [] id L RL i o qE (Fv L i):=by
 have h0:=Tt (id:=id) (o:=o) hR hi hT;unfold qE;cases r0:Fv L i with
 | out=>exact A4
 | bad t e=>
  rw [r0] at h0;obtain ⟨i',o',h0⟩:=h0;refine AV ⟨i',o',AF hR fun bx Ad hc=>?_⟩;have t0:=At Ad hc hR h0;rw [Ga rfl];unfold Av;rw [<- Am];rw [<- AK] at t0;simp only [Aa,Ac,zA,yW];simp only [S9,Ag,seval,PY,PZ,Aw,t0,Ad];exact ⟨_,rfl⟩
 | ok k j=>
  rw [r0] at h0;refine BB (Bl hR (fun n=>by simp [PV.under,Au]) fun bx Ad hc=>?_);have t0:=Ab Ad hc hR h0;rw [Ga rfl];unfold Av;rw [<- Am];rw [<- AK] at t0;simp only [Aa,Ac,zA,yW];simp only [S9,Ag,seval,PY,PZ,Aw,t0,kj,Ad];exact ⟨_,rfl⟩
theorem PN {id:Nat} {L:List Tk} {i o:Nat} {RL:PV} (hR:RL.pure=true) (hi:i < L.length) (hT:TokOK L):YC 63 [] id L RL i o (fun n=>.int .i64 ((n:Nat):Int)) (GG L i):=by
 unfold GG;have h0:=ez (id:=id) (o:=o) (i:=i) hR hi hT 23 23 rfl;cases r0:Ri L 23 i with
 | out=>exact A4
 | bad t e=>
  rw [r0] at h0;obtain ⟨i',o',h0⟩:=h0;refine AV ⟨i',o',AF hR fun bx Ad hc=>?_⟩;have t0:=At Ad hc hR h0;rw [C6 rfl];unfold Av;rw [<- Am];rw [<- AK] at t0;simp only [Aa,Ac,zj,yW];simp only [S9,Ag,seval,PY,PZ,Aw,t0,Ad];exact ⟨_,rfl⟩
 | ok a0 i0=>
  rw [r0] at h0;dsimp only [AA];have j0:=RE hT hi r0;have DF:=j0.2.1;have N5:y9 .i64 (60 * (a0:Int))=((60 * a0:Nat):Int):=by rw [wrap_i64 ⟨by omega,by omega⟩];omega
  have h1:=CE (id:=id) (o:=o) (i:=i0) hR DF hT 4 4 rfl [58];cases r1:BM L 4 [58] i0 with
  | out=>exact A4
  | bad t e=>
   rw [r1] at h1;obtain ⟨i',o',h1⟩:=h1;refine AV ⟨i',o',AF hR fun bx Ad hc=>?_⟩;have t0:=Ab Ad hc hR h0;have t1:=At Ad hc hR h1;rw [C6 rfl];unfold Av;rw [<- Am];rw [<- AK] at t0 t1;simp only [Aa,Ac,zj,yW];simp only [S9,Ag,seval,PY,PZ,Aw,t0,t1,N5,Ad];exact ⟨_,rfl⟩
  | ok a1 i1=>
   rw [r1] at h1;dsimp only [AA];have j1:=A6 hT DF (by decide) r1;have B8:=j1.2;have h2:=ez (id:=id) (o:=o) (i:=i1) hR B8 hT 59 59 rfl;cases r2:Ri L 59 i1 with
   | out=>exact A4
   | bad t e=>
    rw [r2] at h2;obtain ⟨i',o',h2⟩:=h2;refine AV ⟨i',o',AF hR fun bx Ad hc=>?_⟩;have t0:=Ab Ad hc hR h0;have t1:=Ab Ad hc hR h1;have t2:=At Ad hc hR h2;rw [C6 rfl];unfold Av;rw [<- Am];rw [<- AK] at t0 t1 t2;simp only [Aa,Ac,zj,yW];simp only [S9,Ag,seval,PY,PZ,Aw,t0,t1,t2,N5,Ad];exact ⟨_,rfl⟩
   | ok a2 i2=>
    rw [r2] at h2;dsimp only [AA];have j2:=RE hT B8 r2;have FV:=j2.2.1;have o7:y9 .i64 (((60 * a0:Nat):Int)+(a2:Int))=((60 * a0+a2:Nat):Int):=by rw [wrap_i64 ⟨by omega,by omega⟩];omega
    refine BB (Bl hR (fun n=>by simp [PV.under,Au]) fun bx Ad hc=>?_);have t0:=Ab Ad hc hR h0;have t1:=Ab Ad hc hR h1;have t2:=Ab Ad hc hR h2;rw [C6 rfl];unfold Av;rw [<- Am];rw [<- AK] at t0 t1 t2;simp only [Aa,Ac,zj,yW];simp only [S9,Ag,seval,PY,PZ,Aw,t0,t1,t2,N5,o7,Ad];exact ⟨_,rfl⟩
theorem GH {L:List Tk} {i:Nat} {a j:Nat} (hT:TokOK L) (hi:i < L.length) (h:GG L i=.ok a j):i < j/\j < L.length/\a < 1440:=by
 unfold GG at h;obtain ⟨x,i0,r0,h⟩:=Ao h;obtain ⟨_,i1,r1,h⟩:=Ao h;obtain ⟨y,i2,r2,h⟩:=Ao h;injection h with h1 h2
 have j0:=RE hT hi r0;have j1:=A6 hT j0.2.1 (by decide) r1;have j2:=RE hT j1.2 r2;omega
theorem Mu:Bk CC y2 (y2.body.getD .skip)=true:=by kernel_rfl
theorem Lt:CC.P.funcs[102]?=some y2:=by kernel_rfl
theorem Gc {x:List PV} {b:List PBox} (h:x.length.ble y2.ntmps=true):Ae CC 102 x b=CB CC y2.results.toList (Cp CC (y2.body.getD .skip) ⟨x,b⟩):=Ah (fn:=y2) (c:=y2.body.getD .skip) rfl rfl Lt rfl Mu (y6 h)
theorem Lu:Bk CC y1 (y1.body.getD .skip)=true:=by kernel_rfl
theorem KQ:CC.P.funcs[64]?=some y1:=by kernel_rfl
theorem FP {x:List PV} {b:List PBox} (h:x.length.ble y1.ntmps=true):Ae CC 64 x b=CB CC y1.results.toList (Cp CC (y1.body.getD .skip) ⟨x,b⟩):=Ah (fn:=y1) (c:=y1.body.getD .skip) rfl rfl KQ rfl Lu (y6 h)
theorem DG {id:Nat} {L:List Tk} {i o:Nat} {RL:PV} (hR:RL.pure=true) (ho:o < 100) (k:Nat) (tx:List UInt8) (a:Nat):Vq 82 [.agg [.int .i64 (k:Int),.str tx,.int .i64 (a:Int)]] id L RL i o (.tup []) i (o+1):=by
 refine Bl hR (fun n=>by simp [PV.under,Au]) fun bx Ad hc=>?_;have hw:y9 .i64 ((o:Int)+1)=((o+1:Nat):Int):=by rw [wrap_i64 ⟨by omega,by omega⟩];omega
 have hg:¬ (((o+1:Nat):Int) > 100):=by omega
 rw [Fw rfl];unfold Av;rw [<- Am];simp only [Aa,Ac,zy,yW];simp only [S9,Ag,seval,PY,PZ,Aw,hw,hg,Ad];exact ⟨_,rfl⟩
theorem J2 {id:Nat} {L:List Tk} {i o:Nat} {RL:PV} (hR:RL.pure=true) (ho:o=100) (k:Nat) (tx:List UInt8) (a:Nat):OC 82 [.agg [.int .i64 (k:Int),.str tx,.int .i64 (a:Int)]] id L RL i o a 22 i (o+1):=by
 refine AF hR fun bx Ad hc=>?_;have hw:y9 .i64 ((o:Int)+1)=((o+1:Nat):Int):=by rw [wrap_i64 ⟨by omega,by omega⟩];omega
 have hg:(((o+1:Nat):Int) > 100):=by omega
 have t3:=At Ad hc hR (Dk (i:=i) (o:=o+1) (L:=L) hR k tx a 22);rw [Fw rfl];unfold Av;rw [<- Am];rw [<- AK] at t3;simp only [Aa,Ac,zy,yW];simp only [S9,Ag,seval,PY,PZ,Aw,hw,hg,t3,Ad];exact ⟨_,rfl⟩
theorem Tu (k n:Int):Bp CC 30 [(0,.int .i64 k),(1,.int .i64 n)]=some (.agg [.int .i64 k,.int .i64 n,.str []]):=by kernel_rfl
theorem Tv (k n:Int):Bp CC 35 [(0,.int .i64 1),(4,.agg [.int .i64 k,.int .i64 n,.str []])]=some (.agg [.int .i64 1,.int .i64 0,.int .i64 0,.str [],.int .i64 k,.int .i64 n,.str [],.int .i64 0,.str [],.str [],.nils]):=by kernel_rfl
theorem OE (k:Int) (xs:List PV):Bp CC 35 [(0,.int .i64 k),(6,.sl xs)]=some (.agg [.int .i64 k,.int .i64 0,.int .i64 0,.str [],.int .i64 0,.int .i64 0,.str [],.int .i64 0,.str [],.str [],.sl xs]):=by kernel_rfl
theorem PO (k n:Int) (bx):Ak CC (Ae CC) 35 [.int .i64 k,.int .i64 n] bx=some (.ret (DH (Da k n)),bx):=by
 suffices h:∃ b,Ae CC 35 [.int .i64 k,.int .i64 n] []=some (.ret (DH (Da k n)),b) by
  obtain ⟨b,h⟩:=h;exact Ax rfl (by simp only [SA,zx]) h (Bs _)
 rw [Ah (fn:=zt) (c:=zt.body.getD .skip) rfl rfl OD rfl PM (y6 rfl)];unfold Da DH BS zK;rw [<- Am];simp only [Aa,Ac,zt,yW];simp only [S9,Ag,seval,ZC,C8,zl,zm,Tu,Tv];exact ⟨_,rfl⟩
theorem Vs (k:Int) (kids:List Tr) (bx):Ak CC (Ae CC) 83 [.int .i64 k,.sl (BS kids)] bx=some (.ret (DH (Bb k kids)),bx):=by
 suffices h:∃ b,Ae CC 83 [.int .i64 k,.sl (BS kids)] []=some (.ret (DH (Bb k kids)),b) by
  obtain ⟨b,h⟩:=h;exact Ax rfl (by simp only [SA,SE,By,zx]) h (Bs _)
 rw [Ah (fn:=zr) (c:=zr.body.getD .skip) rfl rfl Ts rfl Vr (y6 rfl)];unfold Bb DH zK zV;generalize BS kids=xs;rw [<- Am];simp only [Aa,Ac,zr,yW];simp only [S9,Ag,seval,ZC,C8,zl,zm,OE];exact ⟨_,rfl⟩
theorem qF:Bp CC 124 [(0,.str [109,111,110]),(1,.str [116,117,101]),(2,.str [119,101,100]),(3,.str [116,104,117]),(4,.str [102,114,105]),(5,.str [115,97,116]),(6,.str [115,117,110])]=some (.agg (BI.map .str)):=by kernel_rfl
theorem wI:∀ k:Nat,k < 7->EK CC 124 (.agg (BI.map .str)) (.int .i64 (k:Int))=some (.str (BI.getD k []))
 | 0,_=>by kernel_rfl
 | 1,_=>by kernel_rfl
 | 2,_=>by kernel_rfl
 | 3,_=>by kernel_rfl
 | 4,_=>by kernel_rfl
 | 5,_=>by kernel_rfl
 | 6,_=>by kernel_rfl
 | k+7,h=>by omega
theorem G4 {L:List Tk} {k i:Nat}:∀ {l:List (List UInt8)} {n r:Nat},Em L k i l n=some r->n<=r/\r < n+l.length/\B2 L k (l.getD (r - n) []) i=true
 | [],n,r,h=>by cases h
 | w :: l,n,r,h=>by
  unfold Em at h;split at h
  · rename_i hw
    injection h with h
    subst h;exact ⟨zk _,by simp,by rw [Nat.sub_self];exact hw⟩
  · obtain ⟨h1,h2,h3⟩:=G4 h
    refine ⟨by omega,by simp only [List.length_cons];omega,?_⟩;rw [show r - n=(r - (n+1))+1 from by omega];exact h3
def kl (L:List Tk) (RL:PV) (bx:List PBox) (id i o:Nat) (r:Option Nat) (z:Option (Ex×St)):Prop:=match r with
 | some k=>∃ e',z=some (.ret,⟨e',BX bx id (Av L (i+1) o RL) []⟩)/\getT e' 2=.int .i64 (k:Int)
 | none=>∃ e',z=some (.exit 0,⟨e',BX bx id (Av L i o RL) []⟩)/\getT e' 0=.bp id 0
theorem ZY (Lc:Code) (hL:Lc=Aa y2 [1,0,1,0]) {id:Nat} {L:List Tk} {i o:Nat} {RL:PV} (hR:RL.pure=true) (hi:i < L.length) (hT:TokOK L) (bx:List PBox) (Ad:id < bx.length) (hc:C5 bx):∀ (m k:Nat) (e:List PV),k+m=7->getT e 0=.bp id 0->getT e 5=.agg (BI.map .str)->getT e 6=.int .i64 (k:Int) ->
 kl L RL bx id i o (Em L 1 i (BI.drop k) k) (Cp CC Lc ⟨e,BX bx id (Av L i o RL) []⟩):=by
 intro m
 induction m with
 | zero=>
  intro k e hk h0 h5 h6;rw [A0 (Aa y2 [1,0,1,0,0]) hL];have mJ:¬ ((k:Int) < 7):=by omega
  rw [show BI.drop k=[] from zh (by rw [show BI.length=7 from rfl];omega)];unfold kl Em Av;rw [<- Am];simp only [Aa,Ac,y2,yW];simp only [S9,Ag,seval,PY,PZ,Aw,h0,h5,h6,mJ,Ad];exact ⟨_,rfl,by simp only [S7,Ag,seval,h0]⟩
 | succ m ih=>
  intro k e hk h0 h5 h6;rw [A0 (Aa y2 [1,0,1,0,0]) hL];have mJ:((k:Int) < 7):=by omega
  have Dc:=wI k (by omega)
  have KE:BI.drop k=BI.getD k [] :: BI.drop (k+1):=by
   have hl:k < BI.length:=by rw [show BI.length=7 from rfl];omega
   rw [List.drop_eq_getElem_cons hl,List.getD_eq_getElem?_getD,List.getElem?_eq_getElem hl];rfl
  have key:=fun e=>ih (k+1) e (by omega);have hw:y9 .i64 ((k:Int)+1)=((k+1:Nat):Int):=by rw [wrap_i64 ⟨by omega,by omega⟩];omega
  rw [KE];generalize BI.getD k []=wd at *;unfold Em;cases Ru:B2 L 1 wd i with
  | true=>
   have t1:=Ab Ad hc hR (Az (id:=id) (o:=o) hR hi hT wd Ru);unfold kl Av;simp only [if_true];rw [<- Am];rw [<- AK] at t1;simp only [Aa,Ac,y2,yW];simp only [S9,Ag,seval,PY,PZ,Aw,h0,h5,h6,mJ,Dc,t1,Ad];exact ⟨_,rfl,by simp only [S7,Ag,seval]⟩
  | false=>
   have t1:=Ab Ad hc hR (Ai (id:=id) (o:=o) hR hi hT wd Ru);simp only [zo,if_false];generalize Em L 1 i (BI.drop (k+1)) (k+1)=pw at *;unfold Av at key |-;rw [<- Am];rw [<- AK] at t1;rw [<- Am] at key;simp only [Aa,Ac,y2,yW];simp only [S9,Ag,seval,PY,PZ,Aw,h0,h5,h6,mJ,Dc,t1,hw,Ad];refine key _ ?_ ?_ ?_
   · simp only [S7,Ag,seval,h0]
   · simp only [S7,Ag,seval,h5]
   · simp only [S7,Ag,seval]
theorem nJ {id:Nat} {L:List Tk} {i o:Nat} {RL:PV} (hR:RL.pure=true) (hi:i < L.length) (hT:TokOK L):YC 102 [] id L RL i o (fun n=>.int .i64 ((n:Nat):Int)) (To L i):=by
 unfold To;cases hp:Em L 1 i BI 0 with
 | some k=>
  refine BB (Bl hR (fun n=>by simp [PV.under]) fun bx Ad hc=>?_);have Af:=fun e=>ZY _ rfl (o:=o) hR hi hT bx Ad hc 7 0 e rfl;rw [show BI.drop 0=BI from rfl,hp] at Af;rw [Gc rfl];simp only [Aa,Ac,y2,yW] at Af |-;unfold Av at Af |-;rw [<- Am];rw [<- Am] at Af;simp only [S9,Ag,seval,PY,PZ,Aw,qF,Ad];generalize hE:GZ _ _=z
  have hP:kl L RL bx id i o (some k) z:=by
   rw [<- hE];refine Af _ ?_ ?_ ?_
   · simp only [S7,Ag,seval]
   · simp only [S7,Ag,seval]
   · simp only [S7,Ag,seval] <;> rfl
  obtain ⟨e',he,h2⟩:=hP;subst he;clear hE Af;unfold Av;simp only [S9,Ag,seval,PY,PZ,Aw,h2,Ad];exact ⟨_,rfl⟩
 | none=>
  refine AV ⟨i,o,AF hR fun bx Ad hc=>?_⟩;have Af:=fun e=>ZY _ rfl (o:=o) hR hi hT bx Ad hc 7 0 e rfl;rw [show BI.drop 0=BI from rfl,hp] at Af;have t2:=Ab Ad hc hR (AJ (id:=id) (o:=o) hR hi);have t3:=At Ad hc hR (Dk (id:=id) (i:=i) (o:=o) (L:=L) hR (tokAt L i).1 (tokAt L i).2.1 (tokAt L i).2.2 12);rw [Gc rfl];simp only [Aa,Ac,y2,yW] at Af |-;unfold Av atT at *;rw [<- Am];rw [<- Am] at Af;rw [<- AK] at t2 t3;simp only [S9,Ag,seval,PY,PZ,Aw,qF,Ad];generalize hE:GZ _ _=z
  have hP:kl L RL bx id i o none z:=by
   rw [<- hE];refine Af _ ?_ ?_ ?_
   · simp only [S7,Ag,seval]
   · simp only [S7,Ag,seval]
   · simp only [S7,Ag,seval] <;> rfl
  obtain ⟨e',he,h0⟩:=hP;subst he;clear hE Af;unfold Av;simp only [S9,Ag,seval,PY,PZ,Aw,h0,t2,t3,Ad];exact ⟨_,rfl⟩
theorem wJ:∀ k:Nat,k < 7->JH .shl .i64 1 (k:Int)=some (.int .i64 ((2 ^ k:Nat):Int))
 | 0,_=>by kernel_rfl
 | 1,_=>by kernel_rfl
 | 2,_=>by kernel_rfl
 | 3,_=>by kernel_rfl
 | 4,_=>by kernel_rfl
 | 5,_=>by kernel_rfl
 | 6,_=>by kernel_rfl
 | k+7,h=>by omega
theorem nK:((zn 128).all fun m=>(zn 7).all fun k=>decide (Kq .or .i64 ((m:Nat):Int) ((2 ^ k:Nat):Int)=some ((m ||| 2 ^ k:Nat):Int)) && decide ((m ||| 2 ^ k) < 128))=true:=by decide +kernel
theorem yx {m k:Nat} (hm:m < 128) (hk:k < 7):Kq .or .i64 (m:Int) ((2 ^ k:Nat):Int)=some ((m ||| 2 ^ k:Nat):Int)/\(m ||| 2 ^ k) < 128:=by
 have h:=nK;rw [zq] at h;have h:=h m (zu.2 hm);rw [zq] at h;have h:=h k (zu.2 hk);simpa using h
theorem nL {L:List Tk} {i:Nat} {a j:Nat} (hT:TokOK L) (hi:i < L.length) (h:To L i=.ok a j):i < j/\j < L.length/\a < 7:=by
 unfold To at h;split at h
 · rename_i k hk
   injection h with h1 h2
   obtain ⟨_,h3,h4⟩:=G4 hk;have:=AG hT hi h4 (by decide);have h5:BI.length=7:=rfl;omega
 · cases h
theorem Wp (Lc:Code) (hL:Lc=Aa y1 [1,1,0]) {id:Nat} {L:List Tk} {o:Nat} {RL:PV} (hR:RL.pure=true) (hT:TokOK L):∀ (n m i:Nat),m < 128->i < L.length->match Lj L n m i with
 | .ok v j=>v < 128/\i < j/\j < L.length/\∀ (bx:List PBox) (Ad:id < bx.length) (hc:C5 bx) (e:List PV),getT e 0=.bp id 0->getT e 3=.int .i64 (m:Int)->∃ e',Cp CC Lc ⟨e,BX bx id (Av L i o RL) []⟩=some (.ret,⟨e',BX bx id (Av L j o RL) []⟩)/\getT e' 2=.int .i64 (v:Int)
 | .bad t c=>∃ i' o',∀ (bx:List PBox) (Ad:id < bx.length) (hc:C5 bx) (e:List PV),getT e 0=.bp id 0->getT e 3=.int .i64 (m:Int)->∃ e' ys',Cp CC Lc ⟨e,BX bx id (Av L i o RL) []⟩=some (.pan (Cr t c),⟨e',BX bx id (Av L i' o' RL) ys'⟩)
 | .out=>True:=by
 intro n
 induction n with
 | zero=>intro m i hm hi;unfold Lj;trivial
 | succ n ih=>
  intro m i hm hi;have h0:=nJ (id:=id) (o:=o) hR hi hT;unfold Lj;cases r0:To L i with
  | out=>trivial
  | bad t c=>
   rw [r0] at h0;obtain ⟨i',o',h0⟩:=h0;refine ⟨i',o',fun bx Ad hc e g0 g3=>?_⟩;have t0:=At Ad hc hR h0;rw [A0 (Aa y1 [1,1,0,0]) hL];unfold Av;rw [<- Am];rw [<- AK] at t0;simp only [Aa,Ac,y1,yW];simp only [S9,Ag,seval,PY,PZ,Aw,g0,g3,t0,Ad];exact ⟨_,_,rfl⟩
  | ok k i1=>
   rw [r0] at h0;have j0:=nL hT hi r0;have B8:=j0.2.1;have iX:=wJ k j0.2.2;obtain ⟨iV,Bq⟩:=yx hm j0.2.2;dsimp only [AA];cases hk:B2 L 4 [44] i1 with
   | false=>
    simp only [zo,if_false];refine ⟨Bq,j0.1,B8,fun bx Ad hc e g0 g3=>?_⟩;have t0:=Ab Ad hc hR h0;have t1:=Ab Ad hc hR (A3 (id:=id) (o:=o) hR B8 hT _ hk);rw [A0 (Aa y1 [1,1,0,0]) hL];unfold Av;rw [<- Am];rw [<- AK] at t0 t1;simp only [Aa,Ac,y1,yW];simp only [S9,Ag,seval,PY,PZ,Aw,g0,g3,t0,t1,iX,iV,Ad];exact ⟨_,rfl,by simp only [S7,Ag,seval]⟩
   | true=>
    simp only [if_true];have FV:=AG hT B8 hk (by decide);have key:=ih (m ||| 2 ^ k) (i1+1) Bq FV;cases r2:Lj L n (m ||| 2 ^ k) (i1+1) with
    | out=>trivial
    | ok v j=>
     rw [r2] at key;obtain ⟨q1,q2,q3,key⟩:=key;refine ⟨q1,by omega,q3,fun bx Ad hc e g0 g3=>?_⟩;have key:=key bx Ad hc;have t0:=Ab Ad hc hR h0;have t1:=Ab Ad hc hR (Bt (id:=id) (o:=o) hR B8 hT _ hk);rw [A0 (Aa y1 [1,1,0,0]) hL];unfold Av at key |-;rw [<- Am];rw [<- AK] at t0 t1;rw [<- Am] at key;simp only [Aa,Ac,y1,yW];simp only [S9,Ag,seval,PY,PZ,Aw,g0,g3,t0,t1,iX,iV,Ad];refine key _ ?_ ?_
     · simp only [S7,Ag,seval,g0]
     · simp only [S7,Ag,seval]
    | bad t c=>
     rw [r2] at key;obtain ⟨i',o',key⟩:=key;refine ⟨i',o',fun bx Ad hc e g0 g3=>?_⟩;have key:=key bx Ad hc;have t0:=Ab Ad hc hR h0;have t1:=Ab Ad hc hR (Bt (id:=id) (o:=o) hR B8 hT _ hk);rw [A0 (Aa y1 [1,1,0,0]) hL];unfold Av at key |-;rw [<- Am];rw [<- AK] at t0 t1;rw [<- Am] at key;simp only [Aa,Ac,y1,yW];simp only [S9,Ag,seval,PY,PZ,Aw,g0,g3,t0,t1,iX,iV,Ad];refine key _ ?_ ?_
     · simp only [S7,Ag,seval,g0]
     · simp only [S7,Ag,seval]
theorem ZZ {id:Nat} {L:List Tk} {i o:Nat} {RL:PV} (hR:RL.pure=true) (hi:i < L.length) (hT:TokOK L):YC 64 [] id L RL i o (fun n=>.int .i64 ((n:Nat):Int)) (KA L i):=by
 have Af:=Wp _ rfl (id:=id) (o:=o) hR hT (L.length+1) 0 i (by decide) hi;unfold KA;cases r0:Lj L (L.length+1) 0 i with
 | out=>exact A4
 | ok v j=>
  rw [r0] at Af;obtain ⟨_,_,_,Af⟩:=Af;refine BB (Bl hR (fun n=>by simp [PV.under]) fun bx Ad hc=>?_);have Af:=Af bx Ad hc;rw [FP rfl];simp only [Aa,Ac,y1,yW] at Af |-;unfold Av at Af |-;rw [<- Am];rw [<- Am] at Af;simp only [S9,Ag,seval,PY,PZ,Aw,Ad];generalize hE:GZ _ _=z
  have hP:∃ e',z=some (.ret,⟨e',BX bx id (.cells 63 [.sl (A2 L),.int .i64 ((j:Nat):Int),.int .i64 ((o:Nat):Int),RL]) []⟩)/\getT e' 2=.int .i64 (v:Int):=by
   rw [<- hE];refine Af _ ?_ ?_
   · simp only [S7,Ag,seval]
   · simp only [S7,Ag,seval] <;> rfl
  obtain ⟨e',he,h2⟩:=hP;subst he;clear hE Af;simp only [S9,Ag,seval,PY,PZ,Aw,h2,Ad];exact ⟨_,rfl⟩
 | bad t c=>
  rw [r0] at Af;obtain ⟨i',o',Af⟩:=Af;refine AV ⟨i',o',AF hR fun bx Ad hc=>?_⟩;have Af:=Af bx Ad hc;rw [FP rfl];simp only [Aa,Ac,y1,yW] at Af |-;unfold Av at Af |-;rw [<- Am];rw [<- Am] at Af;simp only [S9,Ag,seval,PY,PZ,Aw,Ad];generalize hE:GZ _ _=z
  have hP:∃ e' ys',z=some (.pan (Cr t c),⟨e',BX bx id (.cells 63 [.sl (A2 L),.int .i64 ((i':Nat):Int),.int .i64 ((o':Nat):Int),RL]) ys'⟩):=by
   rw [<- hE];refine Af _ ?_ ?_
   · simp only [S7,Ag,seval]
   · simp only [S7,Ag,seval] <;> rfl
  obtain ⟨e',ys',he⟩:=hP;subst he;clear hE Af;simp only [S9,Ag,seval,PY,PZ,Aw,Ad];exact ⟨_,rfl⟩
theorem OF {L:List Tk} {i:Nat} {a j:Nat} (hT:TokOK L) (hi:i < L.length) (h:KA L i=.ok a j):i < j/\j < L.length/\a < 128:=by
 have Af:=Wp (RL:=.nils) _ rfl (id:=0) (o:=0) rfl hT (L.length+1) 0 i (by decide) hi;unfold KA at h;rw [h] at Af;exact ⟨Af.2.1,Af.2.2.1,Af.1⟩
theorem gI:GY CC y0 (y0.body.getD .skip)=true:=by kernel_rfl
theorem gJ:Bk CC y0 (y0.body.getD .skip)=false:=by kernel_rfl
theorem gK:CC.P.funcs[141]?=some y0:=by kernel_rfl
theorem Vt:Cl CC (opsOf (Aa y0 [1,1,0]))=false:=by kernel_rfl
theorem cI:((Cc (opsOf (Aa y0 [1,1,0]))).all fun l=>(zn (opsOf (Aa y0 [1,1,0])).size).all fun j=>l.contains j)=true:=by kernel_rfl
theorem cJ:(Cc (opsOf (Aa y0 [1,1,0]))).isEmpty=false:=by kernel_rfl
theorem Tw:(opsOf (Aa y0 [1,1,0])).size=13:=by kernel_rfl
def FX (bx:List PBox) (id:Nat) (L:List Tk) (i:Nat):List (Nat×Nat×PV):=[(0,8,.bp id 0),(1,9,.bp id 0),(2,10,.bp id 0),(3,11,.sl (A2 L)),(4,12,.bp id 0),(5,13,.bp id 0),(6,14,.bp id 1),(7,15,.int .i64 (i:Int)),(8,16,.int .i64 ((i+1:Nat):Int)),(9,17,.ip [.int .i64 ((tokAt L (i+1)).1:Int),.str (tokAt L (i+1)).2.1,.int .i64 ((tokAt L (i+1)).2.2:Int)]),(10,18,.agg [.int .i64 ((tokAt L (i+1)).1:Int),.str (tokAt L (i+1)).2.1,.int .i64 ((tokAt L (i+1)).2.2:Int)]),(11,3,.bp bx.length 0)]
def Gj (bx:List PBox) (id:Nat) (L:List Tk) (i o:Nat) (RL:PV) (D:Nat->Bool):List PBox:=BX bx id (Av L i o RL) (if D 12 then [.cells 59 [.int .i64 ((tokAt L (i+1)).1:Int),.str (tokAt L (i+1)).2.1,.int .i64 ((tokAt L (i+1)).2.2:Int)]] else if D 11 then [.cells 59 [.int .i64 0,.str [],.int .i64 0]] else [])
theorem km (bx:List PBox) (id:Nat) (L:List Tk) (i:Nat):(FX bx id L i).Pairwise (fun x y=>x.1≠y.1/\x.2.1≠y.2.1):=by unfold FX;simp
theorem nM {bx:List PBox} {id:Nat} {L:List Tk} {i o:Nat} {RL:PV} {D:Nat->Bool} (Ad:id < bx.length):(Gj bx id L i o RL D)[id]?=some (Av L i o RL):=PI Ad
theorem cK {bx:List PBox} {id:Nat} {L:List Tk} {i o:Nat} {RL:PV} (hR:RL.pure=true) (hT:TokOK L) (Ad:id < bx.length) (FV:i+1 < L.length) (e:List PV) (h0:getT e 0=.bp id 0) :
 ∃ e',drawAll CC (Ae CC) (opsOf (Aa y0 [1,1,0])) ⟨e,BX bx id (Av L i o RL) []⟩=some (.normal,⟨e',BX bx id (Av L i o RL) [.cells 59 [.int .i64 ((tokAt L (i+1)).1:Int),.str (tokAt L (i+1)).2.1,.int .i64 ((tokAt L (i+1)).2.2:Int)]]⟩)/\getT e' 0=.bp id 0/\getT e' 3=.bp bx.length 0:=by
 refine ⟨_,E0 (e0:=e) (L:=FX bx id L i) (bxOf:=Gj bx id L i o RL) cI cJ (fun D j op A1 hD Dd QE=>?_) (by unfold Gj FX;simp [AD]) (r:=⟨AD e (fun _=>true) (FX bx id L i),BX bx id (Av L i o RL) [.cells 59 [.int .i64 ((tokAt L (i+1)).1:Int),.str (tokAt L (i+1)).2.1,.int .i64 ((tokAt L (i+1)).2.2:Int)]]⟩) (fun D hD=>?_),?_,?_⟩
 · have Aw:Aq [PV.bp id 0]=false:=rfl
   have ml:D 12=true->D 11=true:=fun h=>QE 12 _ rfl h ⟨11,.data⟩ (by simp [opsOf,Aa,Ac,y0]) rfl
   have hj:j < 13:=by
    have:=(Array.getElem?_eq_some_iff.1 A1).1;rw [Tw] at this;exact this
   have hw:y9 .i64 ((i:Int)+1)=((i+1:Nat):Int):=by rw [wrap_i64 ⟨by omega,by have:=hT.len;omega⟩];omega
   have hg:=Fg FV;unfold ID at hg;have DF:¬ (((i+1:Nat):Int) < 0):=by omega
   have hn:((i+1:Nat):Int).toNat=i+1:=by omega
   have De:=km bx id L i;have z0:getT (AD e D (FX bx id L i)) 0=.bp id 0:=by rw [ED e D 0 _ (by unfold FX;simp)];exact h0
   have D4:=nM (L:=L) (i:=i) (o:=o) (RL:=RL) (D:=D) Ad;unfold Av at D4;have bm:D 11=false->D 12=false->(Gj bx id L i o RL D).length=bx.length:=fun a b=>by unfold Gj;rw [a,b];simp [E2]
   by_cases e0:j=0
   · subst e0
     simp only [opsOf,Aa,Ac,y0,yW,yZ,yY,yX] at A1;injection A1 with A1
     subst A1;refine ⟨rfl,fun al=>?_⟩;rw [<- AL e D 0 8 (.bp id 0) hD _ (by unfold FX;simp) De];have hb:Gj bx id L i o RL (C1 D 0)=Gj bx id L i o RL D:=by unfold Gj;rw [A9 (by decide),A9 (by decide)]
     rw [hb];generalize Gj bx id L i o RL D=Bx at *;generalize AD e D (FX bx id L i)=E at *;rw [<- Gh];simp only [S9,Gi,seval,PY,PZ,Aw,z0,D4,hg,DF,hn,hw,Ad];exact ⟨_,rfl⟩
   by_cases e1:j=1
   · subst e1
     simp only [opsOf,Aa,Ac,y0,yW,yZ,yY,yX] at A1;injection A1 with A1
     subst A1;refine ⟨rfl,fun al=>?_⟩;have d0:D 0=true:=Dd ⟨0,.data⟩ (by simp) rfl;have z8:getT (AD e D (FX bx id L i)) 8=.bp id 0:=Ba e D 0 8 _ d0 _ (by unfold FX;simp) De;rw [<- AL e D 1 9 (.bp id 0) hD _ (by unfold FX;simp) De];have hb:Gj bx id L i o RL (C1 D 1)=Gj bx id L i o RL D:=by unfold Gj;rw [A9 (by decide),A9 (by decide)]
     rw [hb];generalize Gj bx id L i o RL D=Bx at *;generalize AD e D (FX bx id L i)=E at *;rw [<- Gh];simp only [S9,Gi,seval,PY,PZ,Aw,z0,D4,hg,DF,hn,hw,z8,Ad];exact ⟨_,rfl⟩
   by_cases e2:j=2
   · subst e2
     simp only [opsOf,Aa,Ac,y0,yW,yZ,yY,yX] at A1;injection A1 with A1
     subst A1;refine ⟨rfl,fun al=>?_⟩;have d1:D 1=true:=Dd ⟨1,.data⟩ (by simp) rfl;have z9:getT (AD e D (FX bx id L i)) 9=.bp id 0:=Ba e D 1 9 _ d1 _ (by unfold FX;simp) De;rw [<- AL e D 2 10 (.bp id 0) hD _ (by unfold FX;simp) De];have hb:Gj bx id L i o RL (C1 D 2)=Gj bx id L i o RL D:=by unfold Gj;rw [A9 (by decide),A9 (by decide)]
     rw [hb];generalize Gj bx id L i o RL D=Bx at *;generalize AD e D (FX bx id L i)=E at *;rw [<- Gh];simp only [S9,Gi,seval,PY,PZ,Aw,z0,D4,hg,DF,hn,hw,z9,Ad];exact ⟨_,rfl⟩
   by_cases e3:j=3
   · subst e3
     simp only [opsOf,Aa,Ac,y0,yW,yZ,yY,yX] at A1;injection A1 with A1
     subst A1;refine ⟨rfl,fun al=>?_⟩;have d2:D 2=true:=Dd ⟨2,.data⟩ (by simp) rfl;have z10:getT (AD e D (FX bx id L i)) 10=.bp id 0:=Ba e D 2 10 _ d2 _ (by unfold FX;simp) De;rw [<- AL e D 3 11 (.sl (A2 L)) hD _ (by unfold FX;simp) De];have hb:Gj bx id L i o RL (C1 D 3)=Gj bx id L i o RL D:=by unfold Gj;rw [A9 (by decide),A9 (by decide)]
     rw [hb];generalize Gj bx id L i o RL D=Bx at *;generalize AD e D (FX bx id L i)=E at *;rw [<- Gh];simp only [S9,Gi,seval,PY,PZ,Aw,z0,D4,hg,DF,hn,hw,z10,Ad];exact ⟨_,rfl⟩
   by_cases e4:j=4
   · subst e4
     simp only [opsOf,Aa,Ac,y0,yW,yZ,yY,yX] at A1;injection A1 with A1
     subst A1;refine ⟨rfl,fun al=>?_⟩;rw [<- AL e D 4 12 (.bp id 0) hD _ (by unfold FX;simp) De];have hb:Gj bx id L i o RL (C1 D 4)=Gj bx id L i o RL D:=by unfold Gj;rw [A9 (by decide),A9 (by decide)]
     rw [hb];generalize Gj bx id L i o RL D=Bx at *;generalize AD e D (FX bx id L i)=E at *;rw [<- Gh];simp only [S9,Gi,seval,PY,PZ,Aw,z0,D4,hg,DF,hn,hw,Ad];exact ⟨_,rfl⟩
   by_cases e5:j=5
   · subst e5
     simp only [opsOf,Aa,Ac,y0,yW,yZ,yY,yX] at A1;injection A1 with A1
     subst A1;refine ⟨rfl,fun al=>?_⟩;have d4:D 4=true:=Dd ⟨4,.data⟩ (by simp) rfl;have z12:getT (AD e D (FX bx id L i)) 12=.bp id 0:=Ba e D 4 12 _ d4 _ (by unfold FX;simp) De;rw [<- AL e D 5 13 (.bp id 0) hD _ (by unfold FX;simp) De];have hb:Gj bx id L i o RL (C1 D 5)=Gj bx id L i o RL D:=by unfold Gj;rw [A9 (by decide),A9 (by decide)]
     rw [hb];generalize Gj bx id L i o RL D=Bx at *;generalize AD e D (FX bx id L i)=E at *;rw [<- Gh];simp only [S9,Gi,seval,PY,PZ,Aw,z0,D4,hg,DF,hn,hw,z12,Ad];exact ⟨_,rfl⟩
   by_cases e6:j=6
   · subst e6
     simp only [opsOf,Aa,Ac,y0,yW,yZ,yY,yX] at A1;injection A1 with A1
     subst A1;refine ⟨rfl,fun al=>?_⟩;have d5:D 5=true:=Dd ⟨5,.data⟩ (by simp) rfl;have z13:getT (AD e D (FX bx id L i)) 13=.bp id 0:=Ba e D 5 13 _ d5 _ (by unfold FX;simp) De;rw [<- AL e D 6 14 (.bp id 1) hD _ (by unfold FX;simp) De];have hb:Gj bx id L i o RL (C1 D 6)=Gj bx id L i o RL D:=by unfold Gj;rw [A9 (by decide),A9 (by decide)]
     rw [hb];generalize Gj bx id L i o RL D=Bx at *;generalize AD e D (FX bx id L i)=E at *;rw [<- Gh];simp only [S9,Gi,seval,PY,PZ,Aw,z0,D4,hg,DF,hn,hw,z13,Ad];exact ⟨_,rfl⟩
   by_cases e7:j=7
   · subst e7
     simp only [opsOf,Aa,Ac,y0,yW,yZ,yY,yX] at A1;injection A1 with A1
     subst A1;refine ⟨rfl,fun al=>?_⟩;have d6:D 6=true:=Dd ⟨6,.data⟩ (by simp) rfl;have z14:getT (AD e D (FX bx id L i)) 14=.bp id 1:=Ba e D 6 14 _ d6 _ (by unfold FX;simp) De;rw [<- AL e D 7 15 (.int .i64 (i:Int)) hD _ (by unfold FX;simp) De];have hb:Gj bx id L i o RL (C1 D 7)=Gj bx id L i o RL D:=by unfold Gj;rw [A9 (by decide),A9 (by decide)]
     rw [hb];generalize Gj bx id L i o RL D=Bx at *;generalize AD e D (FX bx id L i)=E at *;rw [<- Gh];simp only [S9,Gi,seval,PY,PZ,Aw,z0,D4,hg,DF,hn,hw,z14,Ad];exact ⟨_,rfl⟩
   by_cases e8:j=8
   · subst e8
     simp only [opsOf,Aa,Ac,y0,yW,yZ,yY,yX] at A1;injection A1 with A1
     subst A1;refine ⟨rfl,fun al=>?_⟩;have d7:D 7=true:=Dd ⟨7,.data⟩ (by simp) rfl;have z15:getT (AD e D (FX bx id L i)) 15=.int .i64 (i:Int):=Ba e D 7 15 _ d7 _ (by unfold FX;simp) De;rw [<- AL e D 8 16 (.int .i64 ((i+1:Nat):Int)) hD _ (by unfold FX;simp) De];have hb:Gj bx id L i o RL (C1 D 8)=Gj bx id L i o RL D:=by unfold Gj;rw [A9 (by decide),A9 (by decide)]
     rw [hb];generalize Gj bx id L i o RL D=Bx at *;generalize AD e D (FX bx id L i)=E at *;rw [<- Gh];simp only [S9,Gi,seval,PY,PZ,Aw,z0,D4,hg,DF,hn,hw,z15,Ad];exact ⟨_,rfl⟩
   by_cases e9:j=9
   · subst e9
     simp only [opsOf,Aa,Ac,y0,yW,yZ,yY,yX] at A1;injection A1 with A1
     subst A1;refine ⟨rfl,fun al=>?_⟩;have d3:D 3=true:=Dd ⟨3,.data⟩ (by simp) rfl;have z11:getT (AD e D (FX bx id L i)) 11=.sl (A2 L):=Ba e D 3 11 _ d3 _ (by unfold FX;simp) De;have d8:D 8=true:=Dd ⟨8,.data⟩ (by simp) rfl;have z16:getT (AD e D (FX bx id L i)) 16=.int .i64 ((i+1:Nat):Int):=Ba e D 8 16 _ d8 _ (by unfold FX;simp) De;rw [<- AL e D 9 17 (.ip [.int .i64 ((tokAt L (i+1)).1:Int),.str (tokAt L (i+1)).2.1,.int .i64 ((tokAt L (i+1)).2.2:Int)]) hD _ (by unfold FX;simp) De];have hb:Gj bx id L i o RL (C1 D 9)=Gj bx id L i o RL D:=by unfold Gj;rw [A9 (by decide),A9 (by decide)]
     rw [hb];generalize Gj bx id L i o RL D=Bx at *;generalize AD e D (FX bx id L i)=E at *;rw [<- Gh];simp only [S9,Gi,seval,PY,PZ,Aw,z0,D4,hg,DF,hn,hw,z11,z16,Ad];exact ⟨_,rfl⟩
   by_cases e10:j=10
   · subst e10
     simp only [opsOf,Aa,Ac,y0,yW,yZ,yY,yX] at A1;injection A1 with A1
     subst A1;refine ⟨rfl,fun al=>?_⟩;have d9:D 9=true:=Dd ⟨9,.data⟩ (by simp) rfl;have z17:getT (AD e D (FX bx id L i)) 17=.ip [.int .i64 ((tokAt L (i+1)).1:Int),.str (tokAt L (i+1)).2.1,.int .i64 ((tokAt L (i+1)).2.2:Int)]:=Ba e D 9 17 _ d9 _ (by unfold FX;simp) De;rw [<- AL e D 10 18 (.agg [.int .i64 ((tokAt L (i+1)).1:Int),.str (tokAt L (i+1)).2.1,.int .i64 ((tokAt L (i+1)).2.2:Int)]) hD _ (by unfold FX;simp) De];have hb:Gj bx id L i o RL (C1 D 10)=Gj bx id L i o RL D:=by unfold Gj;rw [A9 (by decide),A9 (by decide)]
     rw [hb];generalize Gj bx id L i o RL D=Bx at *;generalize AD e D (FX bx id L i)=E at *;rw [<- Gh];simp only [S9,Gi,seval,PY,PZ,Aw,z0,D4,hg,DF,hn,hw,z17,Ad];exact ⟨_,rfl⟩
   by_cases e11:j=11
   · subst e11
     simp only [opsOf,Aa,Ac,y0,yW,yZ,yY,yX] at A1;injection A1 with A1
     subst A1;refine ⟨rfl,fun al=>?_⟩;rw [<- AL e D 11 3 (.bp bx.length 0) hD _ (by unfold FX;simp) De]
     have d12:D 12=false:=by
      cases s0:D 12 with
      | false=>rfl
      | true=>exact absurd (ml s0) (by rw [hD];decide)
     have hl:=bm hD d12;have hb:Gj bx id L i o RL (C1 D 11)=Gj bx id L i o RL D++[.cells 59 [.int .i64 0,.str [],.int .i64 0]]:=by unfold Gj;rw [A9 (by decide),HF,d12,hD];simp [XD]
     rw [hb];generalize Gj bx id L i o RL D=Bx at *;generalize AD e D (FX bx id L i)=E at *;rw [<- Gh];simp only [S9,Gi,seval,PY,PZ,Aw,z0,D4,hg,DF,hn,hw,hl,Ad];exact ⟨_,rfl⟩
   by_cases e12:j=12
   · subst e12
     simp only [opsOf,Aa,Ac,y0,yW,yZ,yY,yX] at A1;injection A1 with A1
     subst A1;refine ⟨rfl,fun al=>?_⟩;have d10:D 10=true:=Dd ⟨10,.data⟩ (by simp) rfl;have z18:getT (AD e D (FX bx id L i)) 18=.agg [.int .i64 ((tokAt L (i+1)).1:Int),.str (tokAt L (i+1)).2.1,.int .i64 ((tokAt L (i+1)).2.2:Int)]:=Ba e D 10 18 _ d10 _ (by unfold FX;simp) De;have d11:D 11=true:=Dd ⟨11,.data⟩ (by simp) rfl;have z3:getT (AD e D (FX bx id L i)) 3=.bp bx.length 0:=Ba e D 11 3 _ d11 _ (by unfold FX;simp) De;rw [GD e D 12 _ (by unfold FX;simp)];have hb:Gj bx id L i o RL (C1 D 12)=BX bx id (Av L i o RL) [.cells 59 [.int .i64 ((tokAt L (i+1)).1:Int),.str (tokAt L (i+1)).2.1,.int .i64 ((tokAt L (i+1)).2.2:Int)]]:=by unfold Gj;rw [HF];rfl
     have EM:Gj bx id L i o RL D=BX bx id (Av L i o RL) [.cells 59 [.int .i64 0,.str [],.int .i64 0]]:=by unfold Gj;rw [hD,d11];rfl
     rw [hb,EM];generalize AD e D (FX bx id L i)=E at *;unfold Av;rw [<- Gh];simp only [S9,Gi,seval,PY,PZ,Aw,z0,D4,hg,DF,hn,hw,z18,z3,Ad];exact ⟨_,rfl⟩
   omega
 · have JE:=Tw
   have hd:∀ j,j < 13->D j=true:=fun j hj=>hD j (by rw [JE];exact hj);unfold FX Gj;simp only [AD,hd 0 (by decide),hd 1 (by decide),hd 2 (by decide),hd 3 (by decide),hd 4 (by decide),hd 5 (by decide),hd 6 (by decide),hd 7 (by decide),hd 8 (by decide),hd 9 (by decide),hd 10 (by decide),hd 11 (by decide),hd 12 (by decide),if_true]
 · rw [ED e _ 0 _ (by unfold FX;simp)];exact h0
 · exact Ba e _ 11 3 _ rfl _ (by unfold FX;simp) (km bx id L i)
theorem CO {id:Nat} {L:List Tk} {i o:Nat} {RL:PV} (hR:RL.pure=true) (hi:i < L.length) (hT:TokOK L):Vq 141 [] id L RL i o (.bool (D0 L i)) i o:=by
 refine Bl hR (fun n=>by simp [PV.under]) fun bx Ad hc=>?_;have t0:=Ab Ad hc hR (AJ (id:=id) (o:=o) hR hi);have hq:=JX (tokAt L i).1 2;rw [Ce (fn:=y0) (c:=y0.body.getD .skip) rfl rfl gK rfl gJ gI (y6 rfl)];unfold D0;by_cases hk:(tokAt L i).1=2
 · have FV:=Gb hT hi (by rw [hk];decide)
   rw [beq_iff_eq.2 hk] at hq |-;have hq:(((tokAt L i).1:Int) != 2)=false:=hq;have hd:=fun e=>cK (o:=o) (id:=id) hR hT Ad FV e;simp only [<- AP Vt] at hd;have p4:=JX (tokAt L (i+1)).1 4;have hs:HP .neq (tokAt L (i+1)).2.1 [46]=some (.bool (!((tokAt L (i+1)).2.1 == [46]))):=rfl;rw [<- B5];rw [<- Cu] at t0;rw [<- Fm] at hd;unfold Av at hd |-;simp only [opsOf,Aa,Ac,y0,yW] at hd |-;simp only [S9,AT,seval,PY,PZ,Aw,t0,hq,Ad];generalize hE:Zk _ _=z
   have hP:∃ e',z=some (.normal,⟨e',BX bx id (.cells 63 [.sl (A2 L),.int .i64 ((i:Nat):Int),.int .i64 ((o:Nat):Int),RL]) [.cells 59 [.int .i64 ((tokAt L (i+1)).1:Int),.str (tokAt L (i+1)).2.1,.int .i64 ((tokAt L (i+1)).2.2:Int)]]⟩)/\getT e' 0=.bp id 0/\getT e' 3=.bp bx.length 0:=by
    rw [<- hE];refine hd _ ?_;simp only [S7,AT,seval]
   obtain ⟨e',he,g0,g3⟩:=hP;subst he;clear hE hd;by_cases bw:(tokAt L (i+1)).1=4
   · rw [beq_iff_eq.2 bw] at p4
     have p4:(((tokAt L (i+1)).1:Int) != 4)=false:=p4;have hr:B2 L 4 [46] (i+1)=((tokAt L (i+1)).2.1 == [46]):=by unfold B2;rw [beq_iff_eq.2 bw];rfl
     rw [hr];simp only [S9,AT,seval,PY,PZ,Aw,g0,g3,p4,hs,y',Ad];exact ⟨_,rfl⟩
   · rw [beq_eq_false_iff_ne.2 bw] at p4
     have p4:(((tokAt L (i+1)).1:Int) != 4)=true:=p4;have hr:B2 L 4 [46] (i+1)=false:=by unfold B2;rw [beq_eq_false_iff_ne.2 bw];rfl
     rw [hr];simp only [S9,AT,seval,PY,PZ,Aw,g0,g3,p4,hs,y',Ad];exact ⟨_,rfl⟩
 · rw [beq_eq_false_iff_ne.2 hk] at hq |-
   have hq:(((tokAt L i).1:Int) != 2)=true:=hq;rw [<- B5];rw [<- Cu] at t0;unfold Av;simp only [Aa,Ac,y0,yW];simp only [S9,AT,seval,PY,PZ,Aw,t0,hq,zw,Ad];exact ⟨_,rfl⟩
def A7 (t:Tr):List PV:=(DH t).cells
theorem An (t:Tr):DH t=.agg (A7 t):=by cases t;unfold A7 DH;rfl
theorem J3 (t:Tr):(A7 t).length=11:=by cases t;unfold A7 DH;rfl
theorem kn (t:Tr):(A7 t).map PV.ro=A7 t:=by cases t;unfold A7 DH;rfl
theorem Tx (t:Tr):(A7 t).map PV.seal1=A7 t:=by cases t;unfold A7 DH;rfl
theorem nN (t:Tr):(A7 t).all PV.one=true:=by cases t;unfold A7 DH;rfl
theorem Fx (t:Tr):Aq (A7 t)=true:=by
 have:=Bs t;rw [An] at this;simpa [PV.pure] using this
theorem PS (n:Nat) (t:Tr):Au n (A7 t)=true:=AE n _ (Fx t)
theorem ko (t:Tr):(A7 t).take 11=A7 t:=List.take_of_length_le (by rw [J3];exact zk _)
theorem kp (t:Tr):(A7 t).drop 11=[]:=zh (by rw [J3];exact zk _)
theorem SX:(∀ t,(A7 t).length=11)/\(∀ t,(A7 t).map PV.ro=A7 t)/\(∀ t,(A7 t).map PV.seal1=A7 t)/\(∀ t,(A7 t).all PV.one=true)/\(∀ t,Aq (A7 t)=true)/\(∀ n t,Au n (A7 t)=true)/\(∀ t,(A7 t).take 11=A7 t)/\(∀ t,(A7 t).drop 11=[])/\(∀ n x r,(PV.bp x r).under n=decide (x < n)):=
 ⟨J3,kn,Tx,nN,Fx,PS,ko,kp,fun _ _ _=>by simp [PV.under]⟩
noncomputable def IE:TypeInfo:=(Tryz.prog.info? 35).getD default
theorem kq (t:Tr):JI true 11 (.agg (A7 t))=some (.agg (A7 t)):=by
 unfold JI;simp only [PV.shutV,Tx,J3];rfl
theorem wK:tZero CC 35=some (.agg Cq)/\CC.P.info? 35=some IE/\IE.size=11/\CC.P.underlying 33=some (.slice 35)/\tAgg CC 35=true/\(PV.agg Cq).cells.length=11/\(PV.agg Cq).val=true:=⟨by kernel_rfl,by kernel_rfl,by kernel_rfl,by kernel_rfl,by kernel_rfl,rfl,by kernel_rfl⟩
theorem PT (a:Tr):AW CC 33 1 [(0,.agg (A7 a))]=some (.osl 35 [.agg (A7 a)]):=by
 obtain ⟨hz,hi,hs,hu,ht,hl,hv⟩:=wK;unfold AW;simp only [hu,hz,hi,hs,ht,hl,hv,ze,zf,kq];rfl
theorem Rk (a b:Tr):AW CC 33 2 [(0,.agg (A7 a)),(1,.agg (A7 b))]=some (.osl 35 [.agg (A7 a),.agg (A7 b)]):=by
 obtain ⟨hz,hi,hs,hu,ht,hl,hv⟩:=wK;unfold AW;simp only [hu,hz,hi,hs,ht,hl,hv,ze,zf,kq];rfl
theorem tV (a b c:Tr):AW CC 33 3 [(0,.agg (A7 a)),(1,.agg (A7 b)),(2,.agg (A7 c))]=some (.osl 35 [.agg (A7 a),.agg (A7 b),.agg (A7 c)]):=by
 obtain ⟨hz,hi,hs,hu,ht,hl,hv⟩:=wK;unfold AW;simp only [hu,hz,hi,hs,ht,hl,hv,ze,zf,kq];rfl
theorem Lv:∀ l:List Tr,BS l=l.map fun t=>PV.agg (A7 t)
 | []=>by unfold BS;rfl
 | t :: r=>by unfold BS;rw [Lv r,An];rfl
theorem nO (k:Int) (l:List Tr) (bx):Ak CC (Ae CC) 83 [.int .i64 k,.sl (l.map fun t=>PV.agg (A7 t))] bx=some (.ret (.agg (A7 (Bb k l))),bx):=by
 have:=Vs k l bx;rw [Lv,An] at this;exact this
theorem nP (k:Int) (a:Tr) (bx):Ak CC (Ae CC) 83 [.int .i64 k,.sl [.agg (A7 a)]] bx=some (.ret (.agg (A7 (Bb k [a]))),bx):=nO k [a] bx
theorem Vu (k:Int) (a b:Tr) (bx):Ak CC (Ae CC) 83 [.int .i64 k,.sl [.agg (A7 a),.agg (A7 b)]] bx=some (.ret (.agg (A7 (Bb k [a,b]))),bx):=nO k [a,b] bx
theorem wL (k:Int) (a b c:Tr) (bx):Ak CC (Ae CC) 83 [.int .i64 k,.sl [.agg (A7 a),.agg (A7 b),.agg (A7 c)]] bx=some (.ret (.agg (A7 (Bb k [a,b,c]))),bx):=nO k [a,b,c] bx
theorem cL (k n:Int) (bx):Ak CC (Ae CC) 35 [.int .i64 k,.int .i64 n] bx=some (.ret (.agg (A7 (Da k n))),bx):=by rw [<- An];exact PO k n bx
theorem AR (st:St):Gs (some (.normal,st))=some (.normal,st):=rfl
theorem Bm (v:PV) (st:St):Gs (some (.pan v,st))=some (.pan v,⟨[],st.bx⟩):=rfl
theorem EE (e:List PV) (i j:Nat) (a b:PV) (h:j < i):setT (setT e i a) j b=setT (setT e j b) i a:=Ar e i j a b (by omega)
theorem Eu {L:Code} (b:Code) (h:L=.loop b) (st:St):Hg CC L st=EX (Hg CC b st) (Hg CC L):=by
 subst h;exact V3 true b st
theorem XG:Cl CC (opsOf (Aa za [1,1,0,0,0,1,0]))=false:=by kernel_rfl
theorem OG:Cc (opsOf (Aa za [1,1,0,0,0,1,0]))=[[0,1,2,3,4,5],[1,0,2,3,4,5],[1,2,0,3,4,5]]:=by kernel_rfl
theorem OH {bx:List PBox} {id:Nat} {L:List Tk} {i o:Nat} {RL:PV} (hR:RL.pure=true) (a b:Tr) {j:Nat} (Ad:id < bx.length) (hc:C5 bx)  (e:List PV) (g0:getT e 0=.bp id 0) (g3:getT e 3=.bp (bx.length+1) 0) (t1:∀ ys:List PBox,(ys.all fun x=>x.under (bx.length+ys.length))=true->Ak CC (Ae CC) 134 [.bp id 0] (BX bx id (.cells 63 [.sl (A2 L),.int .i64 ((i:Nat):Int),.int .i64 ((o:Nat):Int),RL]) ys)=some (.ret (.agg (A7 b)),BX bx id (.cells 63 [.sl (A2 L),.int .i64 ((j:Nat):Int),.int .i64 ((o:Nat):Int),RL]) ys)) :
 drawAll CC (Ae CC) (opsOf (Aa za [1,1,0,0,0,1,0])) ⟨e,BX bx id (Av L i o RL) [.cells 35 [.int .i64 0,.int .i64 0,.int .i64 0,.str [],.int .i64 0,.int .i64 0,.str [],.int .i64 0,.str [],.str [],.nils],.cells 35 (A7 a)]⟩=some (.normal,⟨(setT (setT (setT (setT (setT e 8 (.agg (A7 a))) 9 (.bp id 0)) 10 (.agg (A7 b))) 11 (.osl 35 [.agg (A7 a),.agg (A7 b)])) 12 (.agg (A7 (Bb 13 [a,b])))),BX bx id (Av L j o RL) [.cells 35 [.int .i64 0,.int .i64 0,.int .i64 0,.str [],.int .i64 0,.int .i64 0,.str [],.int .i64 0,.str [],.str [],.nils],.cells 35 (A7 (Bb 13 [a,b]))]⟩):=by
 have hb:=Rk a b;have hn:=Vu 13 a b;refine AN.2 ⟨by rw [OG];simp,fun l hl=>?_⟩;rw [OG] at hl;unfold Av;rw [<- Ih];rw [<- Cu] at t1 hn;simp only [y8,y7,or_false] at hl;rcases hl with rfl | rfl | rfl
 all_goals
  simp only [opsOf,Aa,Ac,za,yW,A',y3,y4,yZ,yY,yX];simp only [S9,AT,seval,PY,PZ,Aw,g0,g3,SX,AR,Bm,t1,hb,hn,Ad]
  try simp only [EE,zi]
theorem Vv {bx:List PBox} {id:Nat} {L:List Tk} {i o:Nat} {RL:PV} (hR:RL.pure=true) (a:Tr) {t:Nat} {c:Int} {i' o':Nat} (Ad:id < bx.length) (hc:C5 bx)  (e:List PV) (g0:getT e 0=.bp id 0) (g3:getT e 3=.bp (bx.length+1) 0) (t1:∀ ys:List PBox,(ys.all fun x=>x.under (bx.length+ys.length))=true->Ak CC (Ae CC) 134 [.bp id 0] (BX bx id (.cells 63 [.sl (A2 L),.int .i64 ((i:Nat):Int),.int .i64 ((o:Nat):Int),RL]) ys)=some (.pan (Cr t c),BX bx id (.cells 63 [.sl (A2 L),.int .i64 ((i':Nat):Int),.int .i64 ((o':Nat):Int),RL]) ys)) :
 drawAll CC (Ae CC) (opsOf (Aa za [1,1,0,0,0,1,0])) ⟨e,BX bx id (Av L i o RL) [.cells 35 [.int .i64 0,.int .i64 0,.int .i64 0,.str [],.int .i64 0,.int .i64 0,.str [],.int .i64 0,.str [],.str [],.nils],.cells 35 (A7 a)]⟩=some (.pan (Cr t c),⟨[],BX bx id (Av L i' o' RL) [.cells 35 [.int .i64 0,.int .i64 0,.int .i64 0,.str [],.int .i64 0,.int .i64 0,.str [],.int .i64 0,.str [],.str [],.nils],.cells 35 (A7 a)]⟩):=by
 refine AN.2 ⟨by rw [OG];simp,fun l hl=>?_⟩;rw [OG] at hl;unfold Av;rw [<- Ih];rw [<- Cu] at t1;simp only [y8,y7,or_false] at hl;rcases hl with rfl | rfl | rfl
 all_goals
  simp only [opsOf,Aa,Ac,za,yW,A',y3,y4,yZ,yY,yX];simp only [S9,AT,seval,PY,PZ,Aw,g0,g3,SX,AR,Bm,t1,Ad]
theorem XH:Cl CC (opsOf (Aa y5 [1,1,0,0,0,0,1,0]))=false:=by kernel_rfl
theorem OI:Cc (opsOf (Aa y5 [1,1,0,0,0,0,1,0]))=[[0,1,2,3,4,5],[1,0,2,3,4,5],[1,2,0,3,4,5]]:=by kernel_rfl
theorem OJ {bx:List PBox} {id:Nat} {L:List Tk} {i o:Nat} {RL:PV} (hR:RL.pure=true) (a b:Tr) {j:Nat} (Ad:id < bx.length) (hc:C5 bx)  (e:List PV) (g0:getT e 0=.bp id 0) (g3:getT e 3=.bp (bx.length+1) 0) (t1:∀ ys:List PBox,(ys.all fun x=>x.under (bx.length+ys.length))=true->Ak CC (Ae CC) 128 [.bp id 0] (BX bx id (.cells 63 [.sl (A2 L),.int .i64 ((i:Nat):Int),.int .i64 ((o:Nat):Int),RL]) ys)=some (.ret (.agg (A7 b)),BX bx id (.cells 63 [.sl (A2 L),.int .i64 ((j:Nat):Int),.int .i64 ((o:Nat):Int),RL]) ys)) :
 drawAll CC (Ae CC) (opsOf (Aa y5 [1,1,0,0,0,0,1,0])) ⟨e,BX bx id (Av L i o RL) [.cells 35 [.int .i64 0,.int .i64 0,.int .i64 0,.str [],.int .i64 0,.int .i64 0,.str [],.int .i64 0,.str [],.str [],.nils],.cells 35 (A7 a)]⟩=some (.normal,⟨(setT (setT (setT (setT (setT e 10 (.agg (A7 a))) 11 (.bp id 0)) 12 (.agg (A7 b))) 13 (.osl 35 [.agg (A7 a),.agg (A7 b)])) 14 (.agg (A7 (Bb 11 [a,b])))),BX bx id (Av L j o RL) [.cells 35 [.int .i64 0,.int .i64 0,.int .i64 0,.str [],.int .i64 0,.int .i64 0,.str [],.int .i64 0,.str [],.str [],.nils],.cells 35 (A7 (Bb 11 [a,b]))]⟩):=by
 have hb:=Rk a b;have hn:=Vu 11 a b;refine AN.2 ⟨by rw [OI];simp,fun l hl=>?_⟩;rw [OI] at hl;unfold Av;rw [<- Ih];rw [<- Cu] at t1 hn;simp only [y8,y7,or_false] at hl;rcases hl with rfl | rfl | rfl
 all_goals
  simp only [opsOf,Aa,Ac,y5,yW,A',y3,y4,yZ,yY,yX];simp only [S9,AT,seval,PY,PZ,Aw,g0,g3,SX,AR,Bm,t1,hb,hn,Ad]
  try simp only [EE,zi]
theorem Vw {bx:List PBox} {id:Nat} {L:List Tk} {i o:Nat} {RL:PV} (hR:RL.pure=true) (a:Tr) {t:Nat} {c:Int} {i' o':Nat} (Ad:id < bx.length) (hc:C5 bx)  (e:List PV) (g0:getT e 0=.bp id 0) (g3:getT e 3=.bp (bx.length+1) 0) (t1:∀ ys:List PBox,(ys.all fun x=>x.under (bx.length+ys.length))=true->Ak CC (Ae CC) 128 [.bp id 0] (BX bx id (.cells 63 [.sl (A2 L),.int .i64 ((i:Nat):Int),.int .i64 ((o:Nat):Int),RL]) ys)=some (.pan (Cr t c),BX bx id (.cells 63 [.sl (A2 L),.int .i64 ((i':Nat):Int),.int .i64 ((o':Nat):Int),RL]) ys)) :
 drawAll CC (Ae CC) (opsOf (Aa y5 [1,1,0,0,0,0,1,0])) ⟨e,BX bx id (Av L i o RL) [.cells 35 [.int .i64 0,.int .i64 0,.int .i64 0,.str [],.int .i64 0,.int .i64 0,.str [],.int .i64 0,.str [],.str [],.nils],.cells 35 (A7 a)]⟩=some (.pan (Cr t c),⟨[],BX bx id (Av L i' o' RL) [.cells 35 [.int .i64 0,.int .i64 0,.int .i64 0,.str [],.int .i64 0,.int .i64 0,.str [],.int .i64 0,.str [],.str [],.nils],.cells 35 (A7 a)]⟩):=by
 refine AN.2 ⟨by rw [OI];simp,fun l hl=>?_⟩;rw [OI] at hl;unfold Av;rw [<- Ih];rw [<- Cu] at t1;simp only [y8,y7,or_false] at hl;rcases hl with rfl | rfl | rfl
 all_goals
  simp only [opsOf,Aa,Ac,y5,yW,A',y3,y4,yZ,yY,yX];simp only [S9,AT,seval,PY,PZ,Aw,g0,g3,SX,AR,Bm,t1,Ad]
theorem XI:Cl CC (opsOf (Aa y5 [1,1,0,0,0,0,1,1,1,0]))=false:=by kernel_rfl
theorem OK:Cc (opsOf (Aa y5 [1,1,0,0,0,0,1,1,1,0]))=[[0,1,2,3,4,5],[1,0,2,3,4,5],[1,2,0,3,4,5]]:=by kernel_rfl
theorem OL {bx:List PBox} {id:Nat} {L:List Tk} {i o:Nat} {RL:PV} (hR:RL.pure=true) (a b:Tr) {j:Nat} (Ad:id < bx.length) (hc:C5 bx)  (e:List PV) (g0:getT e 0=.bp id 0) (g3:getT e 3=.bp (bx.length+1) 0) (t1:∀ ys:List PBox,(ys.all fun x=>x.under (bx.length+ys.length))=true->Ak CC (Ae CC) 128 [.bp id 0] (BX bx id (.cells 63 [.sl (A2 L),.int .i64 ((i:Nat):Int),.int .i64 ((o:Nat):Int),RL]) ys)=some (.ret (.agg (A7 b)),BX bx id (.cells 63 [.sl (A2 L),.int .i64 ((j:Nat):Int),.int .i64 ((o:Nat):Int),RL]) ys)) :
 drawAll CC (Ae CC) (opsOf (Aa y5 [1,1,0,0,0,0,1,1,1,0])) ⟨e,BX bx id (Av L i o RL) [.cells 35 [.int .i64 0,.int .i64 0,.int .i64 0,.str [],.int .i64 0,.int .i64 0,.str [],.int .i64 0,.str [],.str [],.nils],.cells 35 (A7 a)]⟩=some (.normal,⟨(setT (setT (setT (setT (setT e 18 (.agg (A7 a))) 19 (.bp id 0)) 20 (.agg (A7 b))) 21 (.osl 35 [.agg (A7 a),.agg (A7 b)])) 22 (.agg (A7 (Bb 12 [a,b])))),BX bx id (Av L j o RL) [.cells 35 [.int .i64 0,.int .i64 0,.int .i64 0,.str [],.int .i64 0,.int .i64 0,.str [],.int .i64 0,.str [],.str [],.nils],.cells 35 (A7 (Bb 12 [a,b]))]⟩):=by
 have hb:=Rk a b;have hn:=Vu 12 a b;refine AN.2 ⟨by rw [OK];simp,fun l hl=>?_⟩;rw [OK] at hl;unfold Av;rw [<- Ih];rw [<- Cu] at t1 hn;simp only [y8,y7,or_false] at hl;rcases hl with rfl | rfl | rfl
 all_goals
  simp only [opsOf,Aa,Ac,y5,yW,A',y3,y4,yZ,yY,yX];simp only [S9,AT,seval,PY,PZ,Aw,g0,g3,SX,AR,Bm,t1,hb,hn,Ad]
  try simp only [EE,zi]
theorem Vx {bx:List PBox} {id:Nat} {L:List Tk} {i o:Nat} {RL:PV} (hR:RL.pure=true) (a:Tr) {t:Nat} {c:Int} {i' o':Nat} (Ad:id < bx.length) (hc:C5 bx)  (e:List PV) (g0:getT e 0=.bp id 0) (g3:getT e 3=.bp (bx.length+1) 0) (t1:∀ ys:List PBox,(ys.all fun x=>x.under (bx.length+ys.length))=true->Ak CC (Ae CC) 128 [.bp id 0] (BX bx id (.cells 63 [.sl (A2 L),.int .i64 ((i:Nat):Int),.int .i64 ((o:Nat):Int),RL]) ys)=some (.pan (Cr t c),BX bx id (.cells 63 [.sl (A2 L),.int .i64 ((i':Nat):Int),.int .i64 ((o':Nat):Int),RL]) ys)) :
 drawAll CC (Ae CC) (opsOf (Aa y5 [1,1,0,0,0,0,1,1,1,0])) ⟨e,BX bx id (Av L i o RL) [.cells 35 [.int .i64 0,.int .i64 0,.int .i64 0,.str [],.int .i64 0,.int .i64 0,.str [],.int .i64 0,.str [],.str [],.nils],.cells 35 (A7 a)]⟩=some (.pan (Cr t c),⟨[],BX bx id (Av L i' o' RL) [.cells 35 [.int .i64 0,.int .i64 0,.int .i64 0,.str [],.int .i64 0,.int .i64 0,.str [],.int .i64 0,.str [],.str [],.nils],.cells 35 (A7 a)]⟩):=by
 refine AN.2 ⟨by rw [OK];simp,fun l hl=>?_⟩;rw [OK] at hl;unfold Av;rw [<- Ih];rw [<- Cu] at t1;simp only [y8,y7,or_false] at hl;rcases hl with rfl | rfl | rfl
 all_goals
  simp only [opsOf,Aa,Ac,y5,yW,A',y3,y4,yZ,yY,yX];simp only [S9,AT,seval,PY,PZ,Aw,g0,g3,SX,AR,Bm,t1,Ad]
end Go.HH
