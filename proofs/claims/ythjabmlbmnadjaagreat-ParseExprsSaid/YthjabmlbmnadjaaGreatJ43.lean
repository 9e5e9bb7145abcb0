/-
  What the law needs, packed: UG UH UN GA GB GC GD GE.
-/
import Derived.Test.YthjabmlbmnadjaaGreatJ42
open Option renaming getD->yW
open Nat renaming le_of_ble_eq_true->yX,zero_le->zD,mul_one->zE
open List renaming set_cons_zero->yY,set_cons_succ->yZ,getElem?_cons_zero->y0,getElem?_cons_succ->y1,getElem?_toArray->y2,map_cons->zx,map_nil->zy,drop_of_length_le->zA,mem_singleton->zB
open Go.Proofs.Tryz renaming f5->y3,f106->y5,f49->y7,f75->y8,f147->y9,f73->y',f74->za,f21->zd,f88->ze,f48->zf,f45->zg,f22->zh,f136->zj,f89->zm,f77->zn,f76->zo,f47->zq,f15->zr,f14->zt,f13->zu,f12->zw,f78->zC
open Go.IntKind renaming wrap->y4
open Bool renaming and_true->y6,false_and->zi,true_and->zk,false_eq_true->zl
open Go.Code renaming loop->zG
open Classical renaming not_not->zH
namespace Go.HH
open Go Go.Proofs
set_option maxRecDepth 100000
set_option maxHeartbeats 4000000
set_option linter.unusedSimpArgs false
set_option linter.unusedVariables false
theorem cW:Bk CC zr (zr.body.getD .skip)=true:=by kernel_rfl
theorem ao:CC.P.funcs[15]?=some zr:=by kernel_rfl
theorem cX:Bk CC zu (zu.body.getD .skip)=true:=by kernel_rfl
theorem ar:CC.P.funcs[13]?=some zu:=by kernel_rfl
theorem au:Bk CC zw (zw.body.getD .skip)=true:=by kernel_rfl
theorem X3:CC.P.funcs[12]?=some zw:=by kernel_rfl
theorem cY:Bk CC zt (zt.body.getD .skip)=true:=by kernel_rfl
theorem aw:CC.P.funcs[14]?=some zt:=by kernel_rfl
theorem Md (k n:Int) (bx):Ak CC (Ae CC) 15 [.int .i64 k,.int .i64 n] bx=some (.ret (.agg (A7 (Da k n))),bx):=by
 suffices h:∃ b,Ae CC 15 [.int .i64 k,.int .i64 n] []=some (.ret (.agg (A7 (Da k n))),b) by
  obtain ⟨b,h⟩:=h;exact Ax rfl (by simp only [SA,y6]) h (by rw [<- An];exact Bs _)
 rw [<- An];rw [Ah (fn:=zr) (c:=zr.body.getD .skip) rfl rfl ao rfl cW (yX rfl)];unfold Da DH BS zK;rw [<- Am];simp only [Aa,Ac,zr,yW];simp only [S9,Ag,seval,ZC,C8,yY,yZ,Tu,Tv];exact ⟨_,rfl⟩
theorem HJ (n:Int) (bx):Ak CC (Ae CC) 13 [.int .i64 n] bx=some (.ret (.agg (A7 (Da 2 n))),bx):=by
 suffices h:∃ b,Ae CC 13 [.int .i64 n] []=some (.ret (.agg (A7 (Da 2 n))),b) by
  obtain ⟨b,h⟩:=h;exact Ax rfl (by simp only [SA,y6]) h (by rw [<- An];exact Bs _)
 have hl:=Md 2 n;rw [Ah (fn:=zu) (c:=zu.body.getD .skip) rfl rfl ar rfl cX (yX rfl)];rw [<- Am];rw [<- AK] at hl;simp only [Aa,Ac,zu,yW];simp only [S9,Ag,seval,ZC,C8,yY,yZ,hl,SX];exact ⟨_,rfl⟩
theorem eU (k:Int) (l:List Tr):A7 (Bb k l)=[.int .i64 k,.int .i64 0,.int .i64 0,.str [],.int .i64 0,.int .i64 0,.str [],.int .i64 0,.str [],.str [],.sl (BS l)]:=by unfold A7 Bb DH zV zK;rfl
theorem cZ (k:Int) (a b:Tr) (bx):Ak CC (Ae CC) 12 [.int .i64 k,.agg (A7 a),.agg (A7 b)] bx=some (.ret (.agg (A7 (Bb k [a,b]))),bx):=by
 suffices h:∃ q,Ae CC 12 [.int .i64 k,.agg (A7 a),.agg (A7 b)] []=some (.ret (.agg (A7 (Bb k [a,b]))),q) by
  obtain ⟨q,h⟩:=h;exact Ax rfl (by simp only [SA,SE,PV.pure,Fx,y6]) h (by rw [<- An];exact Bs _)
 rw [eU,Lv];have hb:=Rk a b;rw [Ah (fn:=zw) (c:=zw.body.getD .skip) rfl rfl X3 rfl au (yX rfl)];rw [<- Am];simp only [Aa,Ac,zw,yW];simp only [S9,Ag,seval,ZC,C8,yY,yZ,SX,hb,OE];exact ⟨_,rfl⟩
theorem hY (a:Tr) (bx):Ak CC (Ae CC) 14 [.agg (A7 a)] bx=some (.ret (.agg (A7 (Bb 6 [a]))),bx):=by
 suffices h:∃ q,Ae CC 14 [.agg (A7 a)] []=some (.ret (.agg (A7 (Bb 6 [a]))),q) by
  obtain ⟨q,h⟩:=h;exact Ax rfl (by simp only [SA,SE,PV.pure,Fx,y6]) h (by rw [<- An];exact Bs _)
 rw [eU,Lv];have hb:=PT a;rw [Ah (fn:=zt) (c:=zt.body.getD .skip) rfl rfl aw rfl cY (yX rfl)];rw [<- Am];simp only [Aa,Ac,zt,yW];simp only [S9,Ag,seval,ZC,C8,yY,yZ,SX,hb,OE];exact ⟨_,rfl⟩
theorem qP:GY CC y3 (y3.body.getD .skip)=true:=by kernel_rfl
theorem qQ:Bk CC y3 (y3.body.getD .skip)=false:=by kernel_rfl
theorem qR:CC.P.funcs[5]?=some y3:=by kernel_rfl
theorem da:Cl CC (opsOf (Aa y3 [1,1,1,1,1,1,1,0]))=false:=by kernel_rfl
theorem oa:((Cc (opsOf (Aa y3 [1,1,1,1,1,1,1,0]))).all fun l=>(List.range (opsOf (Aa y3 [1,1,1,1,1,1,1,0])).size).all fun j=>l.contains j)=true:=by kernel_rfl
theorem oc:(Cc (opsOf (Aa y3 [1,1,1,1,1,1,1,0]))).isEmpty=false:=by kernel_rfl
theorem eV:(opsOf (Aa y3 [1,1,1,1,1,1,1,0])).size=10:=by kernel_rfl
def TO:List PV:=[.int .i64 3,.str [111,110,111,102,102],.str [111,110]]
def kX:PV:=.agg [.int .i64 3,.int .i64 0,.str [],.str [],.int .i64 0,.str [],.str [],.str [],.int .i64 1350,.int .i64 127]
def iN (n:Int):List PV:=[.int .i64 1,.int .i64 0,.int .i64 0,.str [],.int .i64 1,.int .i64 n,.str [],.int .i64 0,.str [],.str [],.sl []]
def kY:List PV:=[.int .i64 1,.int .i64 3,.str [111,110,111,102,102],.str [111,110],.str [],.int .i64 1,.int .i64 0,.int .i64 0,.str [],.int .i64 1,.int .i64 0,.str [],.int .i64 0,.str [],.str [],.sl []]
def P6:List PV:=[.str [110,105,103,104,116],.int .i64 0,.sl [kX],.int .i64 1,.int .i64 0,.int .i64 0,.str [],.int .i64 1,.int .i64 1,.str [],.int .i64 0,.str [],.str [],.sl [],.sl [.agg kY]]
def uq:List PV:=[.str [],.int .i64 0,.nils,.int .i64 0,.int .i64 0,.int .i64 0,.str [],.int .i64 0,.int .i64 0,.str [],.int .i64 0,.str [],.str [],.nils,.nils]
theorem wV:Bp CC 46 [(0,.int .i64 3),(4,.int .i64 1350),(5,.int .i64 127)]=some kX:=by kernel_rfl
theorem wW:AW CC 47 1 [(0,kX)]=some (.osl 46 [kX]):=by kernel_rfl
theorem wX:Bp CC 49 [(0,.int .i64 1),(1,.agg TO),(3,.agg (iN 0))]=some (.agg kY):=by kernel_rfl
theorem wY:AW CC 50 1 [(0,.agg kY)]=some (.osl 49 [.agg kY]):=by kernel_rfl
theorem wZ:Bp CC 52 [(0,.str [110,105,103,104,116]),(2,.sl [kX]),(3,.agg (iN 1)),(4,.sl [.agg kY])]=some (.agg P6):=by kernel_rfl
theorem w5 (n:Int):(iN n).map PV.seal1=iN n:=rfl
theorem qS (n:Int):A7 (Da 1 n)=iN n:=by unfold A7 Da DH BS zK iN;rfl
def CQ:List (Nat×Nat×PV):=[(0,47,kX),(1,48,.osl 46 [kX]),(2,49,.agg (iN 1)),(3,50,.agg TO),(4,51,.agg (iN 0)),(5,52,.agg kY),(6,53,.osl 49 [.agg kY]),(7,54,.agg P6),(8,15,.bp 5 0)]
def DN (b0 b1 b2 b3:PBox) (D:Nat->Bool):List PBox:=[b0,b1,b2,b3,.cells 32 TO]++(if D 9 then [.cells 52 P6] else if D 8 then [.cells 52 uq] else [])
theorem eW:CQ.Pairwise (fun x y=>x.1≠y.1/\x.2.1≠y.2.1):=by unfold CQ;simp
theorem kZ (b0 b1 b2 b3:PBox) (D:Nat->Bool):(DN b0 b1 b2 b3 D)[4]?=some (.cells 32 TO):=rfl
theorem od (b0 b1 b2 b3:PBox) (e:List PV) (Yt:getT e 14=.bp 4 0) :
 ∃ e',drawAll CC (Ae CC) (opsOf (Aa y3 [1,1,1,1,1,1,1,0])) ⟨e,[b0,b1,b2,b3,.cells 32 TO]⟩=some (.normal,⟨e',[b0,b1,b2,b3,.cells 32 TO,.cells 52 P6]⟩)/\getT e' 15=.bp 5 0/\∀ t,(∀ x ∈ CQ,x.2.1≠t)->getT e' t=getT e t:=by
 refine ⟨_,E0 (e0:=e) (L:=CQ) (bxOf:=DN b0 b1 b2 b3) oa oc (fun D j op A1 hD Dd QE=>?_) (by unfold DN CQ;simp [AD]) (r:=⟨AD e (fun _=>true) CQ,[b0,b1,b2,b3,.cells 32 TO,.cells 52 P6]⟩) (fun D hD=>?_),?_,fun t ht=>ED e _ t _ ht⟩
 · have hcl9:D 9=true->D 8=true:=fun h=>QE 9 _ rfl h ⟨8,.data⟩ (by simp [opsOf,Aa,Ac,y3]) rfl
   have hj:j < 10:=by
    have:=(Array.getElem?_eq_some_iff.1 A1).1;rw [eV] at this;exact this
   have De:=eW;have z14:getT (AD e D CQ) 14=.bp 4 0:=by rw [ED e D 14 _ (by unfold CQ;simp)];exact Yt
   have D4:=kZ b0 b1 b2 b3 D;have Ub:=Md 1 0;have VM:=Md 1 1;rw [qS] at Ub VM;have bm:D 8=false->D 9=false->(DN b0 b1 b2 b3 D).length=5:=fun a b=>by unfold DN;rw [a,b];rfl
   by_cases e0:j=0
   · subst e0
     simp only [opsOf,Aa,Ac,y3,yW,y2,y1,y0] at A1;injection A1 with A1
     subst A1;refine ⟨rfl,fun al=>?_⟩;rw [<- AL e D 0 47 (kX) hD _ (by unfold CQ;simp) De];have hb:DN b0 b1 b2 b3 (C1 D 0)=DN b0 b1 b2 b3 D:=by unfold DN;rw [A9 (by decide),A9 (by decide)]
     rw [hb];generalize DN b0 b1 b2 b3 D=Bx at *;generalize AD e D CQ=E at *;rw [<- Gh];simp only [S9,Gi,seval,ZC,C8,yY,yZ,wV];exact ⟨_,rfl⟩
   by_cases e1:j=1
   · subst e1
     simp only [opsOf,Aa,Ac,y3,yW,y2,y1,y0] at A1;injection A1 with A1
     subst A1;refine ⟨rfl,fun al=>?_⟩;have d0:D 0=true:=Dd ⟨0,.data⟩ (by simp) rfl;have z47:getT (AD e D CQ) 47=kX:=Ba e D 0 47 _ d0 _ (by unfold CQ;simp) De;rw [<- AL e D 1 48 (.osl 46 [kX]) hD _ (by unfold CQ;simp) De];have hb:DN b0 b1 b2 b3 (C1 D 1)=DN b0 b1 b2 b3 D:=by unfold DN;rw [A9 (by decide),A9 (by decide)]
     rw [hb];generalize DN b0 b1 b2 b3 D=Bx at *;generalize AD e D CQ=E at *;rw [<- Gh];simp only [S9,Gi,seval,ZC,C8,yY,yZ,z47,wW];exact ⟨_,rfl⟩
   by_cases e2:j=2
   · subst e2
     simp only [opsOf,Aa,Ac,y3,yW,y2,y1,y0] at A1;injection A1 with A1
     subst A1;refine ⟨rfl,fun al=>?_⟩;rw [<- AL e D 2 49 (.agg (iN 1)) hD _ (by unfold CQ;simp) De];have hb:DN b0 b1 b2 b3 (C1 D 2)=DN b0 b1 b2 b3 D:=by unfold DN;rw [A9 (by decide),A9 (by decide)]
     rw [hb];generalize DN b0 b1 b2 b3 D=Bx at *;generalize AD e D CQ=E at *;rw [<- Gh];rw [<- yq] at Ub VM;simp only [S9,Gi,seval,ZC,C8,yY,yZ,VM];exact ⟨_,rfl⟩
   by_cases e3:j=3
   · subst e3
     simp only [opsOf,Aa,Ac,y3,yW,y2,y1,y0] at A1;injection A1 with A1
     subst A1;refine ⟨rfl,fun al=>?_⟩;rw [<- AL e D 3 50 (.agg TO) hD _ (by unfold CQ;simp) De];have hb:DN b0 b1 b2 b3 (C1 D 3)=DN b0 b1 b2 b3 D:=by unfold DN;rw [A9 (by decide),A9 (by decide)]
     rw [hb];generalize DN b0 b1 b2 b3 D=Bx at *;generalize AD e D CQ=E at *;unfold TO at D4 |-;rw [<- Gh];simp only [S9,Gi,seval,ZC,C8,yY,yZ,z14,D4];exact ⟨_,rfl⟩
   by_cases e4:j=4
   · subst e4
     simp only [opsOf,Aa,Ac,y3,yW,y2,y1,y0] at A1;injection A1 with A1
     subst A1;refine ⟨rfl,fun al=>?_⟩;rw [<- AL e D 4 51 (.agg (iN 0)) hD _ (by unfold CQ;simp) De];have hb:DN b0 b1 b2 b3 (C1 D 4)=DN b0 b1 b2 b3 D:=by unfold DN;rw [A9 (by decide),A9 (by decide)]
     rw [hb];generalize DN b0 b1 b2 b3 D=Bx at *;generalize AD e D CQ=E at *;rw [<- Gh];rw [<- yq] at Ub VM;simp only [S9,Gi,seval,ZC,C8,yY,yZ,Ub];exact ⟨_,rfl⟩
   by_cases e5:j=5
   · subst e5
     simp only [opsOf,Aa,Ac,y3,yW,y2,y1,y0] at A1;injection A1 with A1
     subst A1;refine ⟨rfl,fun al=>?_⟩;have d3:D 3=true:=Dd ⟨3,.data⟩ (by simp) rfl;have z50:getT (AD e D CQ) 50=.agg TO:=Ba e D 3 50 _ d3 _ (by unfold CQ;simp) De;have d4:D 4=true:=Dd ⟨4,.data⟩ (by simp) rfl;have z51:getT (AD e D CQ) 51=.agg (iN 0):=Ba e D 4 51 _ d4 _ (by unfold CQ;simp) De;rw [<- AL e D 5 52 (.agg kY) hD _ (by unfold CQ;simp) De];have hb:DN b0 b1 b2 b3 (C1 D 5)=DN b0 b1 b2 b3 D:=by unfold DN;rw [A9 (by decide),A9 (by decide)]
     rw [hb];generalize DN b0 b1 b2 b3 D=Bx at *;generalize AD e D CQ=E at *;rw [<- Gh];simp only [S9,Gi,seval,ZC,C8,yY,yZ,z50,z51,wX];exact ⟨_,rfl⟩
   by_cases e6:j=6
   · subst e6
     simp only [opsOf,Aa,Ac,y3,yW,y2,y1,y0] at A1;injection A1 with A1
     subst A1;refine ⟨rfl,fun al=>?_⟩;have d5:D 5=true:=Dd ⟨5,.data⟩ (by simp) rfl;have z52:getT (AD e D CQ) 52=.agg kY:=Ba e D 5 52 _ d5 _ (by unfold CQ;simp) De;rw [<- AL e D 6 53 (.osl 49 [.agg kY]) hD _ (by unfold CQ;simp) De];have hb:DN b0 b1 b2 b3 (C1 D 6)=DN b0 b1 b2 b3 D:=by unfold DN;rw [A9 (by decide),A9 (by decide)]
     rw [hb];generalize DN b0 b1 b2 b3 D=Bx at *;generalize AD e D CQ=E at *;rw [<- Gh];simp only [S9,Gi,seval,ZC,C8,yY,yZ,z52,wY];exact ⟨_,rfl⟩
   by_cases e7:j=7
   · subst e7
     simp only [opsOf,Aa,Ac,y3,yW,y2,y1,y0] at A1;injection A1 with A1
     subst A1;refine ⟨rfl,fun al=>?_⟩;have d1:D 1=true:=Dd ⟨1,.data⟩ (by simp) rfl;have z48:getT (AD e D CQ) 48=.osl 46 [kX]:=Ba e D 1 48 _ d1 _ (by unfold CQ;simp) De;have d2:D 2=true:=Dd ⟨2,.data⟩ (by simp) rfl;have z49:getT (AD e D CQ) 49=.agg (iN 1):=Ba e D 2 49 _ d2 _ (by unfold CQ;simp) De;have d6:D 6=true:=Dd ⟨6,.data⟩ (by simp) rfl;have z53:getT (AD e D CQ) 53=.osl 49 [.agg kY]:=Ba e D 6 53 _ d6 _ (by unfold CQ;simp) De;rw [<- AL e D 7 54 (.agg P6) hD _ (by unfold CQ;simp) De];have hb:DN b0 b1 b2 b3 (C1 D 7)=DN b0 b1 b2 b3 D:=by unfold DN;rw [A9 (by decide),A9 (by decide)]
     rw [hb];generalize DN b0 b1 b2 b3 D=Bx at *;generalize AD e D CQ=E at *;rw [<- Gh];simp only [S9,Gi,seval,ZC,C8,yY,yZ,z48,z49,z53,wZ,w5];exact ⟨_,rfl⟩
   by_cases e8:j=8
   · subst e8
     simp only [opsOf,Aa,Ac,y3,yW,y2,y1,y0] at A1;injection A1 with A1
     subst A1;refine ⟨rfl,fun al=>?_⟩;rw [<- AL e D 8 15 (.bp 5 0) hD _ (by unfold CQ;simp) De]
     have d9:D 9=false:=by
      cases h9:D 9 with
      | false=>rfl
      | true=>exact absurd (hcl9 h9) (by rw [hD];decide)
     have hl:=bm hD d9;have hb:DN b0 b1 b2 b3 (C1 D 8)=DN b0 b1 b2 b3 D++[.cells 52 uq]:=by unfold DN;rw [A9 (by decide),HF,d9,hD];rfl
     rw [hb];generalize DN b0 b1 b2 b3 D=Bx at *;generalize AD e D CQ=E at *;unfold uq;rw [<- Gh];simp only [S9,Gi,seval,ZC,C8,yY,yZ,hl];exact ⟨_,rfl⟩
   by_cases e9:j=9
   · subst e9
     simp only [opsOf,Aa,Ac,y3,yW,y2,y1,y0] at A1;injection A1 with A1
     subst A1;refine ⟨rfl,fun al=>?_⟩;have d7:D 7=true:=Dd ⟨7,.data⟩ (by simp) rfl;have z54:getT (AD e D CQ) 54=.agg P6:=Ba e D 7 54 _ d7 _ (by unfold CQ;simp) De;have d8:D 8=true:=Dd ⟨8,.data⟩ (by simp) rfl;have z15:getT (AD e D CQ) 15=.bp 5 0:=Ba e D 8 15 _ d8 _ (by unfold CQ;simp) De;rw [GD e D 9 _ (by unfold CQ;simp)];have hb:DN b0 b1 b2 b3 (C1 D 9)=[b0,b1,b2,b3,.cells 32 TO,.cells 52 P6]:=by unfold DN;rw [HF];rfl
     have EM:DN b0 b1 b2 b3 D=[b0,b1,b2,b3,.cells 32 TO,.cells 52 uq]:=by unfold DN;rw [hD,d8];rfl
     rw [hb,EM];generalize AD e D CQ=E at *;unfold P6 at z54 |-;unfold uq;rw [<- Gh];simp only [S9,Gi,seval,ZC,C8,yY,yZ,z54,z15];exact ⟨_,rfl⟩
   omega
 · have JE:=eV
   have hd:∀ j,j < 10->D j=true:=fun j hj=>hD j (by rw [JE];exact hj);unfold CQ DN;simp only [AD,hd 0 (by decide),hd 1 (by decide),hd 2 (by decide),hd 3 (by decide),hd 4 (by decide),hd 5 (by decide),hd 6 (by decide),hd 7 (by decide),hd 8 (by decide),hd 9 (by decide),if_true];rfl
 · exact Ba e _ 8 15 _ rfl _ (by unfold CQ;simp) eW
def oe:List UInt8:=[49,32,43,32,50,32,42,32,51,32,61,61,32,55,32,97,110,100,32,110,111,116,32,102,97,108,115,101]
def og:List UInt8:=[45,45,51]
def oh:List UInt8:=[49,32,60,32,50,32,60,32,51]
def oi:List UInt8:=[114,117,108,101,32,110,105,103,104,116,32,123,32,111,110,32,116,105,109,101,32,50,50,58,51,48,59,32,100,111,32,115,101,116,32,51,46,111,110,111,102,102,46,111,110,32,61,32,102,97,108,115,101,59,32,125]
def db:Tr:=Bb 7 [Bb 9 [Bb 11 [Da 2 1,Bb 13 [Da 2 2,Da 2 3]],Da 2 7],Bb 6 [Da 1 0]]
def dc:Tr:=Bb 12 [Da 2 0,Da 2 (-3)]
def oj:Rl:=⟨[110,105,103,104,116],0,[⟨3,zK,zK,[],1350,127⟩],wT,[⟨1,(3,[111,110,111,102,102],[111,110]),[],Da 1 0⟩]⟩
theorem w6:EF oe=(db,0,0):=by kernel_rfl
theorem w7:EF og=(dc,0,0):=by kernel_rfl
theorem w8:EF oh=(zT,6,12):=by kernel_rfl
theorem w9:DR oi=([oj],0,0):=by kernel_rfl
theorem yB:CW oj=.agg P6:=by
 unfold CW oj P6 wT Da;simp only [Ct,zx,zy];unfold BJ B1 M7;simp only [CM,Bi,zK,zV];rfl
theorem qT (bx):Ak CC (Ae CC) 9 [.str oe] bx=some (.ret (.tup [.agg (A7 db),.int .i64 0,.int .i64 0]),bx):=by
 have:=GR oe (by decide) bx;rw [w6,An] at this;exact this
theorem qU (bx):Ak CC (Ae CC) 9 [.str og] bx=some (.ret (.tup [.agg (A7 dc),.int .i64 0,.int .i64 0]),bx):=by
 have:=GR og (by decide) bx;rw [w7,An] at this;exact this
theorem qV (bx):Ak CC (Ae CC) 9 [.str oh] bx=some (.ret (.tup [.agg (A7 zT),.int .i64 6,.int .i64 12]),bx):=by
 have:=GR oh (by decide) bx;rw [w8,An] at this;exact this
theorem qW (bx):Ak CC (Ae CC) 6 [.str oi] bx=some (.ret (.tup [.sl [.agg P6],.int .i64 0,.int .i64 0]),bx):=by
 have:=LK oi (by decide) bx;rw [w9] at this;simp only [zx,zy,yB] at this;exact this
theorem om:Fi db:=by
 have h:∀ k n,Fi (Da k n):=Hm;exact H7 (H7 (H7 (h _ _) (H7 (h _ _) (h _ _))) (h _ _)) (Z2 (h _ _))
theorem oo:Fi dc:=H7 (Hm _ _) (Hm _ _)
theorem qX (bx):Ak CC (Ae CC) 11 [.agg (A7 db),.agg (A7 db)] bx=some (.ret (.bool true),bx):=by rw [<- An];exact Ge _ om bx
theorem qY (bx):Ak CC (Ae CC) 11 [.agg (A7 dc),.agg (A7 dc)] bx=some (.ret (.bool true),bx):=by rw [<- An];exact Ge _ oo bx
theorem qZ (bx):Ak CC (Ae CC) 8 [.sl [.agg P6],.sl [.agg P6]] bx=some (.ret (.bool true),bx):=by
 have:=Qy [oj] (by decide) (fun x hx=>by
  rw [zB] at hx;subst hx
  exact ⟨by decide,by decide,Hm 1 1,fun y hy=>by
   have:y=⟨1,(3,[111,110,111,102,102],[111,110]),[],Da 1 0⟩:=zB.1 hy;rw [this];exact Hm 1 0⟩) bx
 simp only [zx,zy,yB] at this;exact this
theorem xc:AW CC 23 1 [(0,.agg P6)]=some (.osl 52 [.agg P6]):=by kernel_rfl
theorem xd:Aq P6=true:=by kernel_rfl
theorem xe:Bp CC 32 [(0,.int .i64 3),(1,.str [111,110,111,102,102]),(2,.str [111,110])]=some (.agg TO):=by kernel_rfl
theorem lb:P6.length=15/\P6.take 15=P6/\P6.drop 15=[]/\P6.map PV.ro=P6/\P6.map PV.seal1=P6/\P6.all PV.one=true:=⟨rfl,rfl,rfl,rfl,rfl,rfl⟩
theorem xf:TO.length=3/\TO.take 3=TO/\TO.drop 3=[]/\TO.map PV.ro=TO/\TO.map PV.seal1=TO/\TO.all PV.one=true:=⟨rfl,rfl,rfl,rfl,rfl,rfl⟩
theorem de:Cl CC (opsOf (Aa y3 [1,1,1,1,1,1,1,1,0]))=true:=by kernel_rfl
theorem df:∃ bx,Ae CC 5 [] []=some (.ret (.bool true),bx):=by
 have x1:=qT;have x2:=qU;have x3:=qV;have x4:=qW;have m1:=qX;have m2:=qY;have m4:=qZ;unfold oe at x1;unfold og at x2;unfold oh at x3;unfold oi at x4;have n1:=HJ 1;have n2:=HJ 2;have n3:=HJ 3;have n7:=HJ 7;have n0:=HJ 0;have nm:=HJ (-3);have l0:=Md 1 0;have nt:=hY;have nd:=cZ;have hb:=xc;have hp:=xd;have hk:=xe;have hl:=lb;have wk:=xf;have vG:Bb 7 [Bb 9 [Bb 11 [Da 2 1,Bb 13 [Da 2 2,Da 2 3]],Da 2 7],Bb 6 [Da 1 0]]=db:=rfl;have vH:Bb 12 [Da 2 0,Da 2 (-3)]=dc:=rfl;rw [Ce (fn:=y3) (c:=y3.body.getD .skip) rfl rfl qR rfl qQ qP (yX rfl)];have hd:=fun b0 b1 b2 b3 e h=>od b0 b1 b2 b3 e h;simp only [<- AP da] at hd;have HN:=fun st=>Ep (call:=Ae CC) (st:=st) de;generalize db=u1 at *;generalize dc=u2 at *;generalize P6=rr at *;generalize TO=kk at *;rw [<- B5];rw [<- Cu] at x1 x2 x3 x4 m1 m2 m4 n1 n2 n3 n7 n0 nm l0 nt nd;rw [<- Fm] at hd;rw [<- Fm,<- Ih] at HN;simp only [opsOf,Aa,Ac,y3,yW] at hd HN |-;simp only [S9,AT,seval,ZC,C8,yY,yZ,SX,x1,x2,x3,x4,n1,n2,n3,n7,l0,nt,nd,vG,hk,wk]
 have hd3:∀ e,getT e 14=.bp 4 0->getT e 3=.int .i64 0->getT e 1=.bp 0 0->getT e 4=.bp 1 0->getT e 7=.int .i64 0->getT e 5=.bp 2 0->getT e 9=.int .i64 6->getT e 10=.int .i64 12->getT e 13=.int .i64 0->getT e 11=.sl [.agg rr]->∃ e',Zk _ ⟨e,[.cells 35 (A7 u1),.cells 35 (A7 u1),.cells 35 (A7 u2),.cells 35 (A7 zT),.cells 32 kk]⟩=some (.normal,⟨e',[.cells 35 (A7 u1),.cells 35 (A7 u1),.cells 35 (A7 u2),.cells 35 (A7 zT),.cells 32 kk,.cells 52 rr]⟩)/\getT e' 15=.bp 5 0/\getT e' 3=.int .i64 0/\getT e' 1=.bp 0 0/\getT e' 4=.bp 1 0/\getT e' 7=.int .i64 0/\getT e' 5=.bp 2 0/\getT e' 9=.int .i64 6/\getT e' 10=.int .i64 12/\getT e' 13=.int .i64 0/\getT e' 11=.sl [.agg rr]:=fun e Yt k3 k1 k4 k7 k5 k9 k10 k13 k11=>by
  obtain ⟨e',h1,h2,h3⟩:=hd (.cells 35 (A7 u1)) (.cells 35 (A7 u1)) (.cells 35 (A7 u2)) (.cells 35 (A7 zT)) e Yt;exact ⟨e',h1,h2,(h3 3 (by unfold CQ;simp)).trans k3,(h3 1 (by unfold CQ;simp)).trans k1,(h3 4 (by unfold CQ;simp)).trans k4,(h3 7 (by unfold CQ;simp)).trans k7,(h3 5 (by unfold CQ;simp)).trans k5,(h3 9 (by unfold CQ;simp)).trans k9,(h3 10 (by unfold CQ;simp)).trans k10,(h3 13 (by unfold CQ;simp)).trans k13,(h3 11 (by unfold CQ;simp)).trans k11⟩
 clear hd;generalize hE:Zk _ _=z
 have hP:∃ e',z=some (.normal,⟨e',[.cells 35 (A7 u1),.cells 35 (A7 u1),.cells 35 (A7 u2),.cells 35 (A7 zT),.cells 32 kk,.cells 52 rr]⟩)/\getT e' 15=.bp 5 0/\getT e' 3=.int .i64 0/\getT e' 1=.bp 0 0/\getT e' 4=.bp 1 0/\getT e' 7=.int .i64 0/\getT e' 5=.bp 2 0/\getT e' 9=.int .i64 6/\getT e' 10=.int .i64 12/\getT e' 13=.int .i64 0/\getT e' 11=.sl [.agg rr]:=by
  rw [<- hE];refine hd3 _ ?_ ?_ ?_ ?_ ?_ ?_ ?_ ?_ ?_ ?_
  all_goals first | (simp only [S7,AT,seval];done) | (simp only [S7,AT,seval] <;> rfl)
 obtain ⟨e',he,g15,g3,g1,g4,g7,g5,g9,g10,g13,g11⟩:=hP;subst he;clear hE hd3;simp only [S9,AT,seval,ZC,C8,yY,yZ,SX,HN,m1,m2,m4,n0,nm,nd,vH,hb,hp,hl,wk,PV.pure,Aq,g15,g3,g1,g4,g7,g5,g9,g10,g13,g11];exact ⟨_,rfl⟩
theorem ax (bx):Ak CC (Ae CC) 5 [] bx=some (.ret (.bool true),bx):=by
 obtain ⟨b,h⟩:=df;exact Ax rfl rfl h rfl
section
variable {L:List Tk}
end
structure RS where
 i:Nat
 c:Int
 t:Nat
def Be (L:List Tk) (s:RS) (o:Nat) (Nm:PV):PBox:=.cells 69 [.sl (A2 L),.int .i64 (s.i:Int),.int .i64 s.c,.int .i64 (s.t:Int),.int .i64 (o:Int),Nm]
theorem Cb {n:Nat} (L:List Tk) (s:RS) (o:Nat) {Nm:PV} (hR:Nm.pure=true):(Be L s o Nm).under n=true:=by
 unfold Be PBox.under;simp only [Au,PV.under,AE n _ (PJ L),BL n _ hR,Bool.and_self]
def q6 (L:List Tk) (s:RS) (o:Nat) (Nm:PV) (id:Nat) (B:List PBox):Prop:=C5 B/\B[id]?=some (Be L s o Nm)
def CF (f:FuncId) (xs:List PV) (id:Nat) (L:List Tk) (o o':Nat) (Nm:PV) (s:RS) (v:PV) (s':RS):Prop:=
 ∀ B,q6 L s o Nm id B->Ak CC (Ae CC) f (.bp id 0 :: xs) B=some (.ret v,B.set id (Be L s' o' Nm))
theorem eX {bx:List PBox} {id:Nat} {L:List Tk} {s:RS} {o:Nat} {Nm:PV} {ys:List PBox} (Ad:id < bx.length) (hc:C5 bx) (hR:Nm.pure=true) (hy:ys.all (·.under (bx.length+ys.length))=true):q6 L s o Nm id (BX bx id (Be L s o Nm) ys):=
 ⟨IZ hc (Cb L s o hR) hy,PI Ad⟩
theorem BK {f:FuncId} {xs:List PV} {id:Nat} {L:List Tk} {o o':Nat} {Nm:PV} {s s':RS} {v:PV} (hR:Nm.pure=true) (hv:∀ n,v.under n=true) (h:∀ bx,id < bx.length->C5 bx->∃ ys,Ae CC f (.bp id 0 :: xs) (BX bx id (Be L s o Nm) [])=some (.ret v,BX bx id (Be L s' o' Nm) ys)):CF f xs id L o o' Nm s v s':=
 fun B hB=>KC (P:=Be L s o Nm) (by simp [Aq,PV.pure]) hB.1 hB.2 (Cb L s' o' hR) (by simp only [CR.under];exact hv _) (h B (List.getElem?_eq_some_iff.1 hB.2).1 hB.1)
section
variable {bx:List PBox} {id:Nat} {L:List Tk} {s:RS} {o:Nat} {Nm:PV} (Ad:id < bx.length) (hc:C5 bx) (hR:Nm.pure=true)
include Ad hc hR
theorem Aj {f:FuncId} {xs:List PV} {v:PV} {s':RS} {o':Nat} (h:CF f xs id L o o' Nm s v s') (ys:List PBox) (hy:ys.all (·.under (bx.length+ys.length))=true) :
 Ak CC (Ae CC) f (.bp id 0 :: xs) (BX bx id (.cells 69 [.sl (A2 L),.int .i64 (s.i:Int),.int .i64 s.c,.int .i64 (s.t:Int),.int .i64 (o:Int),Nm]) ys)=some (.ret v,BX bx id (.cells 69 [.sl (A2 L),.int .i64 (s'.i:Int),.int .i64 s'.c,.int .i64 (s'.t:Int),.int .i64 (o':Int),Nm]) ys):=by
 have:=h _ (eX Ad hc hR hy);rw [Hk Ad] at this;exact this
end
noncomputable def yL:Array Field:=match CC.P.underlying 69 with | some (.struct f)=>f | _=>#[]
theorem Bv:CC.P.underlying 69=some (.struct yL):=by kernel_rfl
section
variable (L:List Tk)
def Bf (s:RS) (k:Nat) (w:List UInt8):Bool:=s.c == 0 && B2 L k w s.i
def B9 (s:RS) (e:Int):RS:=if s.c=0 then ⟨s.i,e,atT L s.i⟩ else s
def BZ (s:RS):RS:=⟨s.i+1,s.c,s.t⟩
def back (s:RS):RS:=⟨s.i - 1,s.c,s.t⟩
def Cx (s:RS) (k:Nat) (w:List UInt8):Bool×RS:=if Bf L s k w then (true,BZ s) else (false,s)
def As (s:RS) (k:Nat) (w:List UInt8):RS:=if Bf L s k w then BZ s else B9 L s 12
def BW (s:RS) (k:Nat):List UInt8×RS:=if s.c=0/\(tokAt L s.i).1=k then ((tokAt L s.i).2.1,BZ s) else ([],B9 L s 12)
def Cf (s:RS):List UInt8×RS:=BW L (if s.c=0/\(tokAt L s.i).1=1/\Fo (tokAt L s.i).2.1=false then B9 L s 10 else s) 1
def DL (s:RS) (lo hi:Nat) (two:Bool):Nat×RS:=
 if (BW L s 2).2.c≠0 then (0,(BW L s 2).2) else
 if two=true/\(BW L s 2).1.length≠2 then (amtN (BW L s 2).1 0,B9 L (back (BW L s 2).2) 12) else
 if amtN (BW L s 2).1 0 < lo\/hi < amtN (BW L s 2).1 0 then (amtN (BW L s 2).1 0,B9 L (back (BW L s 2).2) 2) else (amtN (BW L s 2).1 0,(BW L s 2).2)
end
def inv (L:List Tk) (s:RS):Prop:=s.c=0->s.i < L.length
theorem CX {L:List Tk} {s:RS} (h:inv L s) {e:Int} (he:e≠0):inv L (B9 L s e):=by
 unfold B9;split
 · exact fun h=>absurd h he
 · exact h
theorem LL {L:List Tk} {s:RS} {k:Nat} {w:List UInt8} (h:Bf L s k w=true):s.c=0/\B2 L k w s.i=true:=by
 unfold Bf at h;rw [Bool.and_eq_true] at h;exact ⟨beq_iff_eq.1 h.1,h.2⟩
theorem Bj {L:List Tk} (hT:TokOK L) {s:RS} (h:inv L s) {k:Nat} {w:List UInt8} (hk:k≠0) (hn:Bf L s k w=true):inv L (BZ s):=fun hc=>AG hT (h hc) (LL hn).2 hk
theorem Bc {L:List Tk} (hT:TokOK L) {s:RS} (h:inv L s) {k:Nat} (w:List UInt8) (hk:k≠0):inv L (As L s k w):=by
 unfold As;split
 · rename_i hn;exact Bj hT h hk hn
 · exact CX h (by decide)
theorem LM {L:List Tk} (hT:TokOK L) {s:RS} (h:inv L s) {k:Nat} (hk:k≠0):inv L (BW L s k).2:=by
 unfold BW;split
 · rename_i hn;exact fun hc=>Gb hT (h hc) (by rw [hn.2];exact hk)
 · exact CX h (by decide)
theorem G5 {L:List Tk} (hT:TokOK L) {s:RS} (h:inv L s):inv L (Cf L s).2:=by
 unfold Cf;refine LM hT ?_ (by decide);split
 · exact CX h (by decide)
 · exact h
theorem Hz {L:List Tk} (hT:TokOK L) {s:RS} (h:inv L s) {lo hi:Nat} {two:Bool}:inv L (DL L s lo hi two).2:=by
 have h1:=LM hT h (k:=2) (by decide)
 have h2:inv L (back (BW L s 2).2):=fun hc=>by
  have:=h1 hc;unfold back;simp only;omega
 unfold DL;split
 · exact h1
 split
 · exact CX h2 (by decide)
 split
 · exact CX h2 (by decide)
 · exact h1
theorem NC:Bk CC zd (zd.body.getD .skip)=true:=by kernel_rfl
theorem Mx:CC.P.funcs[21]?=some zd:=by kernel_rfl
theorem ND:Bk CC zh (zh.body.getD .skip)=true:=by kernel_rfl
theorem My:CC.P.funcs[22]?=some zh:=by kernel_rfl
theorem NF:Bk CC zf (zf.body.getD .skip)=true:=by kernel_rfl
theorem Mz:CC.P.funcs[48]?=some zf:=by kernel_rfl
theorem NG:Bk CC zg (zg.body.getD .skip)=true:=by kernel_rfl
theorem MA:CC.P.funcs[45]?=some zg:=by kernel_rfl
theorem NH:Bk CC za (za.body.getD .skip)=true:=by kernel_rfl
theorem MB:CC.P.funcs[74]?=some za:=by kernel_rfl
theorem NI:Bk CC y' (y'.body.getD .skip)=true:=by kernel_rfl
theorem MC:CC.P.funcs[73]?=some y':=by kernel_rfl
theorem LN:Bk CC y7 (y7.body.getD .skip)=true:=by kernel_rfl
theorem KZ:CC.P.funcs[49]?=some y7:=by kernel_rfl
section
variable {id:Nat} {L:List Tk} {o:Nat} {Nm:PV} (hR:Nm.pure=true)
include hR
theorem Dy {s:RS} (hi:inv L s) (k:Nat) (kk:Int) (Uh:kk=(k:Int)) (w:List UInt8):CF 21 [.int .i64 kk,.str w] id L o o Nm s (.bool (Bf L s k w)) s:=by
 subst Uh;refine BK hR (fun n=>by simp [PV.under]) fun bx Ad hc=>?_;unfold Bf B2 Be;rw [Ah (fn:=zd) (c:=zd.body.getD .skip) rfl rfl Mx rfl NC (yX rfl)];by_cases c0:s.c=0
 · have hg:=Fg (hi c0)
   unfold ID at hg;have Dq:(s.c == 0)=true:=beq_iff_eq.2 c0;have DF:¬ ((s.i:Int) < 0):=by omega
   have hs:HP .eql (tokAt L s.i).2.1 w=some (.bool ((tokAt L s.i).2.1 == w)):=rfl;have Ft:=I0 (tokAt L s.i).1 k;cases hk:(tokAt L s.i).1 == k with
   | false=>
    rw [hk] at Ft;rw [<- Am];simp only [Aa,Ac,zd,yW];simp only [S9,Ag,seval,PY,Bv,PZ,Aw,Al,hg,DF,Dq,Ft,hs,zi,Bool.and_false,Ad];exact ⟨_,rfl⟩
   | true=>
    rw [hk] at Ft;rw [<- Am];simp only [Aa,Ac,zd,yW];simp only [S9,Ag,seval,PY,Bv,PZ,Aw,Al,hg,DF,Dq,Ft,hs,zk,Ad];exact ⟨_,rfl⟩
 · have Dq:(s.c == 0)=false:=beq_eq_false_iff_ne.2 c0
   rw [<- Am];simp only [Aa,Ac,zd,yW];simp only [S9,Ag,seval,PY,Bv,PZ,Aw,Al,Dq,zi,Ad];exact ⟨_,rfl⟩
theorem D8 {s:RS} (hi:inv L s) (e:Int):CF 22 [.int .i64 e] id L o o Nm s (.tup []) (B9 L s e):=by
 refine BK hR (fun n=>by simp [PV.under,Au]) fun bx Ad hc=>?_;unfold B9 Be;rw [Ah (fn:=zh) (c:=zh.body.getD .skip) rfl rfl My rfl ND (yX rfl)];by_cases c0:s.c=0
 · have hg:=Fg (hi c0)
   unfold ID at hg;have Dq:(s.c == 0)=true:=beq_iff_eq.2 c0;have DF:¬ ((s.i:Int) < 0):=by omega
   rw [if_pos c0];unfold atT;rw [<- Am];simp only [Aa,Ac,zh,yW];simp only [S9,Ag,seval,PY,Bv,PZ,Aw,Al,hg,DF,Dq,Ad];exact ⟨_,rfl⟩
 · have Dq:(s.c == 0)=false:=beq_eq_false_iff_ne.2 c0
   rw [if_neg c0];rw [<- Am];simp only [Aa,Ac,zh,yW];simp only [S9,Ag,seval,PY,Bv,PZ,Aw,Al,Dq,Ad];exact ⟨_,rfl⟩
theorem Ay (hT:TokOK L) {s:RS} (hi:inv L s) (k:Nat) (kk:Int) (Uh:kk=(k:Int)) (w:List UInt8):CF 48 [.int .i64 kk,.str w] id L o o Nm s (.bool (Cx L s k w).1) (Cx L s k w).2:=by
 subst Uh;refine BK hR (fun n=>by simp [PV.under]) fun bx Ad hc=>?_;have t0:=Aj Ad hc hR (Dy (o:=o) hR hi k k rfl w);unfold Cx Be;rw [Ah (fn:=zf) (c:=zf.body.getD .skip) rfl rfl Mz rfl NF (yX rfl)];cases hn:Bf L s k w with
 | false=>
  rw [hn] at t0;simp only [zl,if_false];rw [<- Am];rw [<- AK] at t0;simp only [Aa,Ac,zf,yW];simp only [S9,Ag,seval,PY,Bv,PZ,Aw,Al,t0,Ad];exact ⟨_,rfl⟩
 | true=>
  rw [hn] at t0;have Bq:=hi (LL hn).1;have hw:y4 .i64 ((s.i:Int)+1)=((s.i+1:Nat):Int):=by rw [wrap_i64 ⟨by omega,by have:=hT.len;omega⟩];omega
  simp only [if_true];unfold BZ;rw [<- Am];rw [<- AK] at t0;simp only [Aa,Ac,zf,yW];simp only [S9,Ag,seval,PY,Bv,PZ,Aw,Al,t0,hw,Ad];exact ⟨_,rfl⟩
theorem BN (hT:TokOK L) {s:RS} (hi:inv L s) (k:Nat) (kk:Int) (Uh:kk=(k:Int)) (w:List UInt8):CF 45 [.int .i64 kk,.str w] id L o o Nm s (.tup []) (As L s k w):=by
 subst Uh;refine BK hR (fun n=>by simp [PV.under,Au]) fun bx Ad hc=>?_;have t0:=Aj Ad hc hR (Ay (o:=o) hR hT hi k k rfl w);have t1:=Aj Ad hc hR (D8 (o:=o) hR hi 12);unfold As Be;unfold Cx at t0;rw [Ah (fn:=zg) (c:=zg.body.getD .skip) rfl rfl MA rfl NG (yX rfl)];cases hn:Bf L s k w with
 | false=>
  rw [hn] at t0;simp only [zl,if_false] at t0 |-;generalize B9 L s 12=s' at *;rw [<- Am];rw [<- AK] at t0 t1;simp only [Aa,Ac,zg,yW];simp only [S9,Ag,seval,PY,Bv,PZ,Aw,Al,t0,t1,Ad];exact ⟨_,rfl⟩
 | true=>
  rw [hn] at t0;simp only [if_true] at t0 |-;generalize BZ s=s' at *;rw [<- Am];rw [<- AK] at t0 t1;simp only [Aa,Ac,zg,yW];simp only [S9,Ag,seval,PY,Bv,PZ,Aw,Al,t0,Ad];exact ⟨_,rfl⟩
theorem Me (hT:TokOK L) {s:RS} (hi:inv L s) (k:Nat) (kk:Int) (Uh:kk=(k:Int)):CF 74 [.int .i64 kk] id L o o Nm s (.str (BW L s k).1) (BW L s k).2:=by
 subst Uh;refine BK hR (fun n=>by simp [PV.under]) fun bx Ad hc=>?_;have t1:=Aj Ad hc hR (D8 (o:=o) hR hi 12);unfold BW Be;rw [Ah (fn:=za) (c:=za.body.getD .skip) rfl rfl MB rfl NH (yX rfl)];by_cases c0:s.c=0
 · have Bq:=hi c0
   have hg:=Fg Bq;unfold ID at hg;have Dq:(s.c != 0)=false:=by rw [c0];rfl
   have DF:¬ ((s.i:Int) < 0):=by omega
   have Ft:=JX (tokAt L s.i).1 k;have hw:y4 .i64 ((s.i:Int)+1)=(s.i:Int)+1:=wrap_i64 ⟨by omega,by have:=hT.len;omega⟩;have o7:y4 .i64 ((s.i:Int)+1 - 1)=(s.i:Int):=by rw [wrap_i64 ⟨by omega,by have:=hT.len;omega⟩];omega
   by_cases hk:(tokAt L s.i).1=k
   · rw [beq_iff_eq.2 hk] at Ft
     have Ft:(((tokAt L s.i).1:Int) != (k:Int))=false:=Ft;rw [if_pos ⟨c0,hk⟩];unfold BZ;have cst:((s.i+1:Nat):Int)=(s.i:Int)+1:=by omega
     simp only [cst];rw [<- Am];simp only [Aa,Ac,za,yW];simp only [S9,Ag,seval,PY,Bv,PZ,Aw,Al,hg,DF,Dq,Ft,hw,o7,Ad];exact ⟨_,rfl⟩
   · rw [beq_eq_false_iff_ne.2 hk] at Ft
     have Ft:(((tokAt L s.i).1:Int) != (k:Int))=true:=Ft;rw [if_neg (fun x=>hk x.2)];generalize B9 L s 12=s' at *;rw [<- Am];rw [<- AK] at t1;simp only [Aa,Ac,za,yW];simp only [S9,Ag,seval,PY,Bv,PZ,Aw,Al,hg,DF,Dq,Ft,t1,Ad];exact ⟨_,rfl⟩
 · have Dq:(s.c != 0)=true:=bne_iff_ne.2 c0
   rw [if_neg (fun x=>c0 x.1)];generalize B9 L s 12=s' at *;rw [<- Am];rw [<- AK] at t1;simp only [Aa,Ac,za,yW];simp only [S9,Ag,seval,PY,Bv,PZ,Aw,Al,Dq,t1,Ad];exact ⟨_,rfl⟩
theorem J' (hT:TokOK L) {s:RS} (hi:inv L s):CF 73 [] id L o o Nm s (.str (Cf L s).1) (Cf L s).2:=by
 refine BK hR (fun n=>by simp [PV.under]) fun bx Ad hc=>?_;have t1:=Aj Ad hc hR (D8 (o:=o) hR hi 10);have xU:=CX hi (e:=10) (by decide);have t2:=Aj Ad hc hR (Me (o:=o) hR hT xU 1 1 rfl);have t3:=Aj Ad hc hR (Me (o:=o) hR hT hi 1 1 rfl);unfold Cf Be;rw [Ah (fn:=y') (c:=y'.body.getD .skip) rfl rfl MC rfl NI (yX rfl)];by_cases c0:s.c=0
 · have Bq:=hi c0
   have hg:=Fg Bq;have hv:=Hv (tokAt L s.i).2.1 (by have:=hT.word s.i;omega);unfold ID at hg;have Dq:(s.c == 0)=true:=beq_iff_eq.2 c0;have DF:¬ ((s.i:Int) < 0):=by omega
   have Ft:=I0 (tokAt L s.i).1 1;by_cases hk:(tokAt L s.i).1=1
   · rw [beq_iff_eq.2 hk] at Ft
     have Ft:(((tokAt L s.i).1:Int) == 1)=true:=Ft;cases hvb:Fo (tokAt L s.i).2.1 with
     | false=>
      rw [hvb] at hv;rw [if_pos ⟨c0,hk,rfl⟩];generalize BW L (B9 L s 10) 1=r2 at *;generalize B9 L s 10=s' at *;rw [<- Am];rw [<- AK] at t1 t2 hv;simp only [Aa,Ac,y',yW];simp only [S9,Ag,seval,PY,Bv,PZ,Aw,Al,hg,DF,Dq,Ft,hv,t1,t2,Ad];exact ⟨_,rfl⟩
     | true=>
      rw [hvb] at hv;rw [if_neg (fun x=>by cases x.2.2)];generalize BW L s 1=r2 at *;rw [<- Am];rw [<- AK] at t3 hv;simp only [Aa,Ac,y',yW];simp only [S9,Ag,seval,PY,Bv,PZ,Aw,Al,hg,DF,Dq,Ft,hv,t3,Ad];exact ⟨_,rfl⟩
   · rw [beq_eq_false_iff_ne.2 hk] at Ft
     have Ft:(((tokAt L s.i).1:Int) == 1)=false:=Ft;rw [if_neg (fun x=>hk x.2.1)];generalize BW L s 1=r2 at *;rw [<- Am];rw [<- AK] at t3;simp only [Aa,Ac,y',yW];simp only [S9,Ag,seval,PY,Bv,PZ,Aw,Al,hg,DF,Dq,Ft,t3,Ad];exact ⟨_,rfl⟩
 · have Dq:(s.c == 0)=false:=beq_eq_false_iff_ne.2 c0
   rw [if_neg (fun x=>c0 x.1)];generalize BW L s 1=r2 at *;rw [<- Am];rw [<- AK] at t3;simp only [Aa,Ac,y',yW];simp only [S9,Ag,seval,PY,Bv,PZ,Aw,Al,Dq,t3,Ad];exact ⟨_,rfl⟩
end
theorem X4:Bk CC y8 (y8.body.getD .skip)=true:=by kernel_rfl
theorem VK:CC.P.funcs[75]?=some y8:=by kernel_rfl
theorem dh (Lc:Code) (hL:Lc=Aa y8 [1,1,0,1,0]) (tx:List UInt8) (hs:tx.length<=20000) (hd:∀ b ∈ tx,48<=b.toNat/\b.toNat<=57) (hn:amtN tx 0<=1099511627776) (bx:List PBox):∀ (m i n:Nat) (e:List PV),i+m=tx.length->amtN (tx.drop i) n=amtN tx 0->getT e 0=.str tx->getT e 3=.int .i64 n->getT e 4=.int .i64 i ->
 ∃ e',Cp CC Lc ⟨e,bx⟩=some (.exit 0,⟨e',bx⟩)/\getT e' 3=.int .i64 (amtN tx 0:Nat):=by
 intro m
 induction m with
 | zero=>
  intro i n e hm ha h1 h3 h4;rw [A0 (Aa y8 [1,1,0,1,0,0]) hL];have hi:¬ (i:Int) < (tx.length:Int):=by omega
  have hlen:=AX tx;have hz:amtN (tx.drop i) n=n:=by rw [zA (by omega)];rfl
  rw [hz] at ha;rw [<- Am];simp only [Aa,Ac,y8,yW];simp only [S9,Ag,seval,ZC,C8,yY,yZ,h1,h3,h4,hi,hlen];exact ⟨_,rfl,by simp only [S7,Ag,seval,h3,ha]⟩
 | succ m ih=>
  intro i n e hm ha h1 h3 h4;rw [A0 (Aa y8 [1,1,0,1,0,0]) hL];have hi:(i:Int) < (tx.length:Int):=by omega
  have hlen:=AX tx;have hx:tx[i]?=some tx[i]:=by simp
  have Dc:=FE tx i tx[i] hx;have hdd:=hd tx[i] (List.getElem_mem _);have KE:tx.drop i=tx[i] :: tx.drop (i+1):=List.drop_eq_getElem_cons (by omega);rw [KE] at ha;generalize tx[i]=c at *;have ya:amtN (tx.drop (i+1)) (10 * n+(c.toNat - 48))=amtN tx 0:=ha;have Mg:=XE (tx.drop (i+1)) (10 * n+(c.toNat - 48));have w2:y4 .u8 ((c.toNat:Int) - 48)=(c.toNat:Int) - 48:=by simp [y4,IntKind.bits,IntKind.signed];omega
  have w3:=L9 ((c.toNat:Int) - 48) ⟨by omega,by omega⟩;have w1:=wrap_i64 (n:=10 * (n:Int)) ⟨by omega,by omega⟩;have w4:=wrap_i64 (n:=10 * (n:Int)+((c.toNat:Int) - 48)) ⟨by omega,by omega⟩;have hw:=wrap_i64 (n:=(i:Int)+1) ⟨by omega,by omega⟩;have bl:((10 * n+(c.toNat - 48):Nat):Int)=10 * (n:Int)+((c.toNat:Int) - 48):=by omega
  have cast1:((i+1:Nat):Int)=(i:Int)+1:=by omega
  have key:=fun e=>ih (i+1) (10 * n+(c.toNat - 48)) e (by omega) ya;rw [bl,cast1] at key;rw [<- Am];rw [<- Am] at key;simp only [Aa,Ac,y8,yW];simp only [S9,Ag,seval,ZC,C8,yY,yZ,h1,h3,h4,hi,hlen,Dc,w1,w2,w3,w4,hw];refine key _ ?_ ?_ ?_
  all_goals first | (simp only [S7,Ag,seval,h1];done) | (simp only [S7,Ag,seval];done)
theorem OV (tx:List UInt8) (hs:tx.length<=20000) (hd:∀ b ∈ tx,48<=b.toNat/\b.toNat<=57) (hn:amtN tx 0<=1099511627776) (bx):Ak CC (Ae CC) 75 [.str tx] bx=some (.ret (.int .i64 (amtN tx 0:Nat)),bx):=by
 suffices h:∃ b,Ae CC 75 [.str tx] []=some (.ret (.int .i64 (amtN tx 0:Nat)),b) by
  obtain ⟨b,h⟩:=h;exact Ax rfl (by simp only [SA,y6]) h rfl
 rw [Ah (fn:=y8) (c:=y8.body.getD .skip) rfl rfl VK rfl X4 (yX rfl)];have Af:=fun e=>dh _ rfl tx hs hd hn [] tx.length 0 0 e (by omega) rfl;simp only [Aa,Ac,y8,yW] at Af |-;rw [<- Am];rw [<- Am] at Af;simp only [S9,Ag,seval,ZC,C8,yY,yZ,Af];generalize hE:GZ _ _=z
 have hP:∃ e',z=some (.exit 0,⟨e',[]⟩)/\getT e' 3=.int .i64 (amtN tx 0:Nat):=by
  rw [<- hE];refine Af _ ?_ ?_ ?_
  all_goals first | (simp only [S7,Ag,seval];done) | (simp only [S7,Ag,seval] <;> rfl)
 obtain ⟨e',he,h3⟩:=hP;subst he;clear hE Af;simp only [S9,Ag,seval,ZC,C8,yY,yZ,h3];exact ⟨_,rfl⟩
theorem Wx {L:List Tk} {s:RS} {k:Nat} (h:(BW L s k).2.c=0):s.c=0/\(tokAt L s.i).1=k/\BW L s k=((tokAt L s.i).2.1,BZ s):=by
 unfold BW at h |-;split at h
 · rename_i hh
   exact ⟨hh.1,hh.2,by rw [if_pos hh]⟩
 · rename_i hh
   unfold B9 at h;split at h
   · exact absurd (show (12:Int)=0 from h) (by decide)
   · rename_i hc;exact absurd h hc
theorem ld {L:List Tk} (hT:TokOK L) (s:RS) (lo hi:Nat) (two:Bool):(DL L s lo hi two).1<=1099511627776:=by
 unfold DL;split
 · exact zD _
 · rename_i hc
   have hc:(BW L s 2).2.c=0:=zH.1 hc;obtain ⟨_,h2,h3⟩:=Wx hc;have:=(hT.num _ h2).2;rw [h3];split
   · exact this
   split <;> exact this
section
variable {id:Nat} {L:List Tk} {o:Nat} {Nm:PV} (hR:Nm.pure=true)
include hR
theorem HK (hT:TokOK L) {s:RS} (hi:inv L s) (lo h:Nat) (klo kh:Int) (h1:klo=(lo:Int)) (h2:kh=(h:Int)) (two:Bool):CF 49 [.int .i64 klo,.int .i64 kh,.bool two] id L o o Nm s (.int .i64 ((DL L s lo h two).1:Nat)) (DL L s lo h two).2:=by
 subst h1 h2;refine BK hR (fun n=>by simp [PV.under]) fun bx Ad hc=>?_;have t0:=Aj Ad hc hR (Me (o:=o) hR hT hi 2 2 rfl);have wz:=LM hT hi (k:=2) (by decide);unfold DL Be;rw [Ah (fn:=y7) (c:=y7.body.getD .skip) rfl rfl KZ rfl LN (yX rfl)];by_cases c0:(BW L s 2).2.c=0
 · obtain ⟨g1,g2,g3⟩:=Wx c0
   have Bq:=wz c0;have JF:=hT.num _ g2;have hv:=OV (tokAt L s.i).2.1 (hT.word _) JF.1 JF.2;have hlen:=AX (tokAt L s.i).2.1;have hwl:=hT.word s.i;rw [if_neg (by rw [c0];decide)];rw [g3] at t0 c0 Bq |-;simp only at t0 c0 Bq |-;have Dq:((BZ s).c != 0)=false:=by rw [c0];rfl
   have yf:inv L (back (BZ s)):=fun hc=>by unfold back;simp only;omega
   have hw:y4 .i64 (((BZ s).i:Int) - 1)=((back (BZ s)).i:Int):=by
    unfold back BZ;rw [wrap_i64 ⟨by simp only;omega,by simp only;have:=hT.len;unfold BZ at Bq;simp only at Bq;omega⟩];simp only;omega
   have f12:=Aj Ad hc hR (D8 (o:=o) hR yf 12);have f2:=Aj Ad hc hR (D8 (o:=o) hR yf 2);have bc:(back (BZ s)).c=(BZ s).c:=rfl;have bt:(back (BZ s)).t=(BZ s).t:=rfl;rw [bc,bt] at f12 f2;have hamt:=JF.2;clear g3 JF yf wz;generalize (tokAt L s.i).2.1=w at *;generalize B9 L (back (BZ s)) 12=q12 at *;generalize B9 L (back (BZ s)) 2=q2 at *;generalize (back (BZ s)).i=bi at *;generalize BZ s=s1 at *;generalize amtN w 0=n at *;by_cases c1:two=true/\w.length≠2
   · obtain ⟨rfl,c1'⟩:=c1
     have Gk:((w.length:Int) != 2)=true:=bne_iff_ne.2 (by omega);rw [if_pos ⟨rfl,c1'⟩];rw [<- Am];rw [<- AK] at t0 f12 f2 hv;simp only [Aa,Ac,y7,yW];simp only [S9,Ag,seval,PY,Bv,PZ,Aw,Al,t0,Dq,hv,hlen,Gk,hw,f12,Ad];exact ⟨_,rfl⟩
   · rw [if_neg c1]
     by_cases c2:n < lo
     · have c2':(n:Int) < (lo:Int):=by omega
       rw [if_pos (.inl c2)];cases two with
       | false=>
        rw [<- Am];rw [<- AK] at t0 f12 f2 hv;simp only [Aa,Ac,y7,yW];simp only [S9,Ag,seval,PY,Bv,PZ,Aw,Al,t0,Dq,hv,hlen,hw,c2',f2,Ad];exact ⟨_,rfl⟩
       | true=>
        have Gk:((w.length:Int) != 2)=false:=by
         have:w.length=2:=by
          by_cases h:w.length=2
          · exact h
          · exact absurd ⟨rfl,h⟩ c1
         rw [this];rfl
        rw [<- Am];rw [<- AK] at t0 f12 f2 hv;simp only [Aa,Ac,y7,yW];simp only [S9,Ag,seval,PY,Bv,PZ,Aw,Al,t0,Dq,hv,hlen,Gk,hw,c2',f2,Ad];exact ⟨_,rfl⟩
     · have c2':¬ ((n:Int) < (lo:Int)):=by omega
       by_cases c3:h < n
       · have c3':(n:Int) > (h:Int):=by omega
         rw [if_pos (.inr c3)];cases two with
         | false=>
          rw [<- Am];rw [<- AK] at t0 f12 f2 hv;simp only [Aa,Ac,y7,yW];simp only [S9,Ag,seval,PY,Bv,PZ,Aw,Al,t0,Dq,hv,hlen,hw,c2',c3',f2,Ad];exact ⟨_,rfl⟩
         | true=>
          have Gk:((w.length:Int) != 2)=false:=by
           have:w.length=2:=by
            by_cases h:w.length=2
            · exact h
            · exact absurd ⟨rfl,h⟩ c1
           rw [this];rfl
          rw [<- Am];rw [<- AK] at t0 f12 f2 hv;simp only [Aa,Ac,y7,yW];simp only [S9,Ag,seval,PY,Bv,PZ,Aw,Al,t0,Dq,hv,hlen,Gk,hw,c2',c3',f2,Ad];exact ⟨_,rfl⟩
       · have c3':¬ ((n:Int) > (h:Int)):=by omega
         rw [if_neg (by rintro (x | x) <;> contradiction)];cases two with
         | false=>
          rw [<- Am];rw [<- AK] at t0 f12 f2 hv;simp only [Aa,Ac,y7,yW];simp only [S9,Ag,seval,PY,Bv,PZ,Aw,Al,t0,Dq,hv,hlen,hw,c2',c3',Ad];exact ⟨_,rfl⟩
         | true=>
          have Gk:((w.length:Int) != 2)=false:=by
           have:w.length=2:=by
            by_cases h:w.length=2
            · exact h
            · exact absurd ⟨rfl,h⟩ c1
           rw [this];rfl
          rw [<- Am];rw [<- AK] at t0 f12 f2 hv;simp only [Aa,Ac,y7,yW];simp only [S9,Ag,seval,PY,Bv,PZ,Aw,Al,t0,Dq,hv,hlen,Gk,hw,c2',c3',Ad];exact ⟨_,rfl⟩
 · have Dq:((BW L s 2).2.c != 0)=true:=bne_iff_ne.2 c0
   rw [if_pos c0];generalize BW L s 2=r at *;rw [<- Am];rw [<- AK] at t0;simp only [Aa,Ac,y7,yW];simp only [S9,Ag,seval,PY,Bv,PZ,Aw,Al,t0,Dq,Ad];exact ⟨_,rfl⟩
end
theorem NJ:Bk CC zo (zo.body.getD .skip)=true:=by kernel_rfl
theorem MD:CC.P.funcs[76]?=some zo:=by kernel_rfl
theorem ME:Bk CC zn (zn.body.getD .skip)=true:=by kernel_rfl
theorem LO:CC.P.funcs[77]?=some zn:=by kernel_rfl
theorem NK:Bk CC ze (ze.body.getD .skip)=true:=by kernel_rfl
theorem MF:CC.P.funcs[88]?=some ze:=by kernel_rfl
theorem ay:Bk CC zm (zm.body.getD .skip)=true:=by kernel_rfl
theorem X5:CC.P.funcs[89]?=some zm:=by kernel_rfl
theorem di:Bk CC zj (zj.body.getD .skip)=true:=by kernel_rfl
theorem az:CC.P.funcs[136]?=some zj:=by kernel_rfl
theorem dj:Bk CC zq (zq.body.getD .skip)=true:=by kernel_rfl
theorem aA:CC.P.funcs[47]?=some zq:=by kernel_rfl
theorem K0:Bk CC y9 (y9.body.getD .skip)=true:=by kernel_rfl
theorem Ka:CC.P.funcs[147]?=some y9:=by kernel_rfl
def B7 (L:List Tk) (s:RS):Ky×RS:=
 let a:=DL L s 1 250 false
 let b:=Cf L (As L a.2 4 [46])
 let c:=Cf L (As L b.2 4 [46])
 (((a.1:Int),b.1,c.1),c.2)
def Cm (L:List Tk) (s:RS):Nat×RS:=
 let a:=DL L s 0 23 true
 let b:=DL L (As L a.2 4 [58]) 0 59 true
 (60 * a.1+b.1,b.2)
def ER (L:List Tk) (o:Nat) (s:RS):RS:=if 100<=o then B9 L s 22 else s
theorem Ia {L:List Tk} (hT:TokOK L) {s:RS} (h:inv L s):inv L (B7 L s).2:=by
 unfold B7;exact G5 hT (Bc hT (G5 hT (Bc hT (Hz hT h) _ (by decide))) _ (by decide))
theorem JA {L:List Tk} (hT:TokOK L) {s:RS} (h:inv L s):inv L (Cm L s).2:=by
 unfold Cm;exact Hz hT (Bc hT (Hz hT h) _ (by decide))
theorem G6 {L:List Tk} {s:RS} (o:Nat) (h:inv L s):inv L (ER L o s):=by
 unfold ER;split
 · exact CX h (by decide)
 · exact h
theorem ur (d:Int):Bp CC 32 [(0,.int .i64 d)]=some (.agg [.int .i64 d,.str [],.str []]):=by kernel_rfl
theorem IL (k:Int) (kids:List Tr) (bx):Ak CC (Ae CC) 89 [.int .i64 k,.sl (kids.map fun t=>PV.agg (A7 t))] bx=some (.ret (.agg (A7 (Bb k kids))),bx):=by
 rw [<- Lv,<- An]
 suffices h:∃ b,Ae CC 89 [.int .i64 k,.sl (BS kids)] []=some (.ret (DH (Bb k kids)),b) by
  obtain ⟨b,h⟩:=h;exact Ax rfl (by simp only [SA,SE,By,y6]) h (Bs _)
 rw [Ah (fn:=zm) (c:=zm.body.getD .skip) rfl rfl X5 rfl ay (yX rfl)];unfold Bb DH zK zV;generalize BS kids=xs;rw [<- Am];simp only [Aa,Ac,zm,yW];simp only [S9,Ag,seval,ZC,C8,yY,yZ,OE];exact ⟨_,rfl⟩
theorem eY (k:Int) (a:Tr) (bx):Ak CC (Ae CC) 89 [.int .i64 k,.sl [.agg (A7 a)]] bx=some (.ret (.agg (A7 (Bb k [a]))),bx):=IL k [a] bx
theorem uu (k:Int) (a b:Tr) (bx):Ak CC (Ae CC) 89 [.int .i64 k,.sl [.agg (A7 a),.agg (A7 b)]] bx=some (.ret (.agg (A7 (Bb k [a,b]))),bx):=IL k [a,b] bx
theorem uv (k:Int) (a b c:Tr) (bx):Ak CC (Ae CC) 89 [.int .i64 k,.sl [.agg (A7 a),.agg (A7 b),.agg (A7 c)]] bx=some (.ret (.agg (A7 (Bb k [a,b,c]))),bx):=IL k [a,b,c] bx
theorem FG (k:Int) (a b:Tr) (bx):Ak CC (Ae CC) 136 [.int .i64 k,.agg (A7 a),.agg (A7 b)] bx=some (.ret (.agg (A7 (Bb k [a,b]))),bx):=by
 suffices h:∃ q,Ae CC 136 [.int .i64 k,.agg (A7 a),.agg (A7 b)] []=some (.ret (.agg (A7 (Bb k [a,b]))),q) by
  obtain ⟨q,h⟩:=h;exact Ax rfl (by simp only [SA,SE,PV.pure,Fx,y6]) h (by rw [<- An];exact Bs _)
 have hb:=Rk a b;have hn:=uu k a b;rw [Ah (fn:=zj) (c:=zj.body.getD .skip) rfl rfl az rfl di (yX rfl)];rw [<- Am];rw [<- AK] at hn;simp only [Aa,Ac,zj,yW];simp only [S9,Ag,seval,ZC,C8,yY,yZ,SX,hb,hn];exact ⟨_,rfl⟩
theorem E7 (k n:Int) (bx):Ak CC (Ae CC) 47 [.int .i64 k,.int .i64 n] bx=some (.ret (.agg (A7 (Da k n))),bx):=by
 rw [<- An]
 suffices h:∃ b,Ae CC 47 [.int .i64 k,.int .i64 n] []=some (.ret (DH (Da k n)),b) by
  obtain ⟨b,h⟩:=h;exact Ax rfl (by simp only [SA,y6]) h (Bs _)
 rw [Ah (fn:=zq) (c:=zq.body.getD .skip) rfl rfl aA rfl dj (yX rfl)];unfold Da DH BS zK;rw [<- Am];simp only [Aa,Ac,zq,yW];simp only [S9,Ag,seval,ZC,C8,yY,yZ,Tu,Tv];exact ⟨_,rfl⟩
section
variable {id:Nat} {L:List Tk} {o:Nat} {Nm:PV} (hR:Nm.pure=true)
include hR
theorem RI (ho:o<=1000000) {s:RS} (hi:inv L s):CF 88 [] id L o (o+1) Nm s (.tup []) (ER L o s):=by
 refine BK hR (fun n=>by simp [PV.under,Au]) fun bx Ad hc=>?_;have t1:=Aj Ad hc hR (D8 (o:=o) hR hi 22);have hw:y4 .i64 ((o:Int)+1)=((o+1:Nat):Int):=by rw [wrap_i64 ⟨by omega,by omega⟩];omega
 unfold ER Be;rw [Ah (fn:=ze) (c:=ze.body.getD .skip) rfl rfl MF rfl NK (yX rfl)];by_cases c:100<=o
 · have c':(o:Int) ≥ 100:=by omega
   rw [if_pos c];generalize B9 L s 22=q at *;rw [<- Am];rw [<- AK] at t1;simp only [Aa,Ac,ze,yW];simp only [S9,Ag,seval,PY,Bv,PZ,Aw,Al,c',t1,hw,Ad];exact ⟨_,rfl⟩
 · have c':¬ ((o:Int) ≥ 100):=by omega
   rw [if_neg c];rw [<- Am];simp only [Aa,Ac,ze,yW];simp only [S9,Ag,seval,PY,Bv,PZ,Aw,Al,c',hw,Ad];exact ⟨_,rfl⟩
theorem Kb (hT:TokOK L) {s:RS} (hi:inv L s):CF 76 [] id L o o Nm s (.agg [.int .i64 (B7 L s).1.1,.str (B7 L s).1.2.1,.str (B7 L s).1.2.2]) (B7 L s).2:=by
 refine BK hR (fun n=>by simp [PV.under,Au]) fun bx Ad hc=>?_;have i1:=Hz hT hi (lo:=1) (hi:=250) (two:=false);have t1:=Aj Ad hc hR (HK (o:=o) hR hT hi 1 250 1 250 rfl rfl false);have i2:=Bc hT i1 (k:=4) [46] (by decide);have t2:=Aj Ad hc hR (BN (o:=o) hR hT i1 4 4 rfl [46]);have i3:=G5 hT i2;have t3:=Aj Ad hc hR (J' (o:=o) hR hT i2);have i4:=Bc hT i3 (k:=4) [46] (by decide);have t4:=Aj Ad hc hR (BN (o:=o) hR hT i3 4 4 rfl [46]);have t5:=Aj Ad hc hR (J' (o:=o) hR hT i4);unfold B7 Be;simp only;generalize Cf L (As L (Cf L (As L (DL L s 1 250 false).2 4 [46])).2 4 [46])=r5 at *;generalize As L (Cf L (As L (DL L s 1 250 false).2 4 [46])).2 4 [46]=r4 at *;generalize Cf L (As L (DL L s 1 250 false).2 4 [46])=r3 at *;generalize As L (DL L s 1 250 false).2 4 [46]=r2 at *;generalize DL L s 1 250 false=r1 at *;have hk:=ur (r1.1:Nat);rw [Ah (fn:=zo) (c:=zo.body.getD .skip) rfl rfl MD rfl NJ (yX rfl)];rw [<- Am];rw [<- AK] at t1 t2 t3 t4 t5;simp only [Aa,Ac,zo,yW];simp only [S9,Ag,seval,PY,Bv,PZ,Aw,Al,t1,t2,t3,t4,t5,hk,Ad];exact ⟨_,rfl⟩
theorem OW (hT:TokOK L) {s:RS} (hi:inv L s):CF 77 [] id L o o Nm s (.int .i64 ((Cm L s).1:Nat)) (Cm L s).2:=by
 refine BK hR (fun n=>by simp [PV.under]) fun bx Ad hc=>?_;have i1:=Hz hT hi (lo:=0) (hi:=23) (two:=true);have t1:=Aj Ad hc hR (HK (o:=o) hR hT hi 0 23 0 23 rfl rfl true);have i2:=Bc hT i1 (k:=4) [58] (by decide);have t2:=Aj Ad hc hR (BN (o:=o) hR hT i1 4 4 rfl [58]);have t3:=Aj Ad hc hR (HK (o:=o) hR hT i2 0 59 0 59 rfl rfl true);have l1:=ld hT s 0 23 true;have l2:=ld hT (As L (DL L s 0 23 true).2 4 [58]) 0 59 true;unfold Cm Be;simp only;generalize DL L (As L (DL L s 0 23 true).2 4 [58]) 0 59 true=r3 at *;generalize As L (DL L s 0 23 true).2 4 [58]=r2 at *;generalize DL L s 0 23 true=r1 at *;have w1:y4 .i64 (60 * ((r1.1:Nat):Int))=60 * ((r1.1:Nat):Int):=wrap_i64 ⟨by omega,by omega⟩;have w2:y4 .i64 (60 * ((r1.1:Nat):Int)+((r3.1:Nat):Int))=((60 * r1.1+r3.1:Nat):Int):=by rw [wrap_i64 ⟨by omega,by omega⟩];omega
 rw [Ah (fn:=zn) (c:=zn.body.getD .skip) rfl rfl LO rfl ME (yX rfl)];rw [<- Am];rw [<- AK] at t1 t2 t3;simp only [Aa,Ac,zn,yW];simp only [S9,Ag,seval,PY,Bv,PZ,Aw,Al,t1,t2,t3,w1,w2,Ad];exact ⟨_,rfl⟩
theorem Kc (hT:TokOK L) (s:RS) (i:Nat) (hi:i < L.length):CF 147 [.int .i64 (i:Int)] id L o o Nm s (.bool (D0 L i)) s:=by
 refine BK hR (fun n=>by simp [PV.under]) fun bx Ad hc=>?_;have hg:=Fg hi;unfold ID at hg;have DF:¬ ((i:Int) < 0):=by omega
 have Ft:=I0 (tokAt L i).1 2;unfold D0 Be;rw [Ah (fn:=y9) (c:=y9.body.getD .skip) rfl rfl Ka rfl K0 (yX rfl)];by_cases hk:(tokAt L i).1=2
 · rw [beq_iff_eq.2 hk] at Ft |-
   have Ft:(((tokAt L i).1:Int) == 2)=true:=Ft;have Bq:=Gb hT hi (by rw [hk];decide);have l9:=Fg Bq;unfold ID at l9;have hw:y4 .i64 ((i:Int)+1)=((i+1:Nat):Int):=by rw [wrap_i64 ⟨by omega,by have:=hT.len;omega⟩];omega
   have FV:¬ (((i+1:Nat):Int) < 0):=by omega
   have o4:((i+1:Nat):Int).toNat=i+1:=by omega
   have Ul:=I0 (tokAt L (i+1)).1 4;have hs:HP .eql (tokAt L (i+1)).2.1 [46]=some (.bool ((tokAt L (i+1)).2.1 == [46])):=rfl;unfold B2;by_cases hj:(tokAt L (i+1)).1=4
   · rw [beq_iff_eq.2 hj] at Ul |-
     have Ul:(((tokAt L (i+1)).1:Int) == 4)=true:=Ul;rw [<- Am];simp only [Aa,Ac,y9,yW];simp only [S9,Ag,seval,PY,Bv,PZ,Aw,Al,hg,DF,Ft,l9,hw,FV,o4,Ul,hs,zk,Ad];exact ⟨_,rfl⟩
   · rw [beq_eq_false_iff_ne.2 hj] at Ul |-
     have Ul:(((tokAt L (i+1)).1:Int) == 4)=false:=Ul;rw [<- Am];simp only [Aa,Ac,y9,yW];simp only [S9,Ag,seval,PY,Bv,PZ,Aw,Al,hg,DF,Ft,l9,hw,FV,o4,Ul,hs,zk,zi,Ad];exact ⟨_,rfl⟩
 · rw [beq_eq_false_iff_ne.2 hk] at Ft |-
   have Ft:(((tokAt L i).1:Int) == 2)=false:=Ft;rw [<- Am];simp only [Aa,Ac,y9,yW];simp only [S9,Ag,seval,PY,Bv,PZ,Aw,Al,hg,DF,Ft,zi,Ad];exact ⟨_,rfl⟩
end
theorem OX:Bk CC y5 (y5.body.getD .skip)=true:=by kernel_rfl
theorem NL:CC.P.funcs[106]?=some y5:=by kernel_rfl
theorem NM:Bk CC zC (zC.body.getD .skip)=true:=by kernel_rfl
theorem MG:CC.P.funcs[78]?=some zC:=by kernel_rfl
def DE (L:List Tk) (s:RS) (k:Nat) (ws:List (List UInt8)) (n:Nat):Option Nat:=if s.c=0 then Em L k s.i ws n else none
theorem NN (L:List Tk) (s:RS) (k:Nat) (w:List UInt8) (ws:List (List UInt8)) (n:Nat):DE L s k (w :: ws) n=if Bf L s k w=true then some n else DE L s k ws (n+1):=by
 unfold DE Bf;by_cases c:s.c=0
 · rw [if_pos c,beq_iff_eq.2 c,zk,if_pos c]
   rfl
 · rw [if_neg c,beq_eq_false_iff_ne.2 c,if_neg (by simp),if_neg c]
def Hn (L:List Tk) (s:RS):Nat×RS:=match DE L s 1 BI 0 with
 | some k=>(2 ^ k,BZ s)
 | none=>(0,B9 L s 12)
def Ib (L:List Tk):Nat->Nat->RS->Option (Nat×RS)
 | 0,_,_=>none
 | n+1,m,s=>if Bf L s 4 [44] then Ib L n (m ||| (Hn L (BZ s)).1) (Hn L (BZ s)).2 else some (m,s)
def Ic (L:List Tk) (s:RS):Option (Nat×RS):=Ib L (L.length+1) (Hn L s).1 (Hn L s).2
theorem OY {L:List Tk} {s:RS} {k:Nat} {l:List (List UInt8)} {n r:Nat} (h:DE L s k l n=some r):s.c=0/\n<=r/\r < n+l.length/\B2 L k (l.getD (r - n) []) s.i=true:=by
 unfold DE at h;split at h
 · rename_i hc
   exact ⟨hc,G4 h⟩
 · cases h
theorem RJ {L:List Tk} (hT:TokOK L) {s:RS} (h:inv L s):inv L (Hn L s).2:=by
 unfold Hn;cases hp:DE L s 1 BI 0 with
 | some k=>
  obtain ⟨h1,_,_,h4⟩:=OY hp;exact fun _=>AG hT (h h1) h4 (by decide)
 | none=>exact CX h (by decide)
theorem lf (L:List Tk) (s:RS):(Hn L s).1<=64:=by
 unfold Hn;cases hp:DE L s 1 BI 0 with
 | some k=>
  obtain ⟨_,_,h3,_⟩:=OY hp;have:k < 7:=by rw [show BI.length=7 from rfl] at h3;omega
  simp only
  match k,this with
  | 0,_=>decide
  | 1,_=>decide
  | 2,_=>decide
  | 3,_=>decide
  | 4,_=>decide
  | 5,_=>decide
  | 6,_=>decide
  | k+7,h=>omega
 | none=>exact zD _
theorem xg:zeroCells CC 124=some [.str [],.str [],.str [],.str [],.str [],.str [],.str []]:=by kernel_rfl
theorem uw:Bp CC 124 [(0,.str [109,111,110]),(1,.str [116,117,101]),(2,.str [119,101,100]),(3,.str [116,104,117]),(4,.str [102,114,105]),(5,.str [115,97,116]),(6,.str [115,117,110])]=some (.agg (BI.map .str)):=qF
theorem uz:CC.P.underlying 124=some (.array 7 9)/\tSize CC 9=some 1:=⟨by kernel_rfl,by kernel_rfl⟩
theorem pL:(BI.map PV.str).length=7/\(BI.map PV.str).take 7=BI.map .str/\(BI.map PV.str).drop 7=[]/\(BI.map PV.str).map PV.ro=BI.map .str/\(BI.map PV.str).map PV.seal1=BI.map .str/\(BI.map PV.str).all PV.one=true:=⟨rfl,rfl,rfl,rfl,rfl,rfl⟩
theorem uA:∀ k,k < 7->((BI.map PV.str).drop k).head?=some (.str (BI.getD k []))/\(BI.map PV.str)[k]?=some (.str (BI.getD k []))/\BI.drop k=BI.getD k [] :: BI.drop (k+1)/\y4 .i64 (2 ^ k)=((2 ^ k:Nat):Int)
 | 0,_=>⟨rfl,rfl,rfl,by decide⟩
 | 1,_=>⟨rfl,rfl,rfl,by decide⟩
 | 2,_=>⟨rfl,rfl,rfl,by decide⟩
 | 3,_=>⟨rfl,rfl,rfl,by decide⟩
 | 4,_=>⟨rfl,rfl,rfl,by decide⟩
 | 5,_=>⟨rfl,rfl,rfl,by decide⟩
 | 6,_=>⟨rfl,rfl,rfl,by decide⟩
 | k+7,h=>by omega
theorem xh (k:Nat) (hk:k < 7):JH .shl .i64 1 (k:Int)=some (.int .i64 ((2 ^ k:Nat):Int)):=by
 match k,hk with
 | 0,_=>rfl
 | 1,_=>rfl
 | 2,_=>rfl
 | 3,_=>rfl
 | 4,_=>rfl
 | 5,_=>rfl
 | 6,_=>rfl
 | k+7,h=>omega
section
variable {id:Nat} {L:List Tk} {o:Nat} {Nm:PV} (hR:Nm.pure=true)
include hR
def vW (L:List Tk) (Nm:PV) (bx:List PBox) (id o:Nat) (s:RS) (B:PBox) (r:Option Nat) (z:Option (Ex×St)):Prop:=match r with
 | some k=>∃ e',z=some (.ret,⟨e',BX bx id (Be L (BZ s) o Nm) [B]⟩)/\getT e' 2=.int .i64 ((2 ^ k:Nat):Int)
 | none=>∃ e',z=some (.exit 0,⟨e',BX bx id (Be L s o Nm) [B]⟩)/\getT e' 0=.bp id 0
omit hR in
theorem hZ (hR:Nm.pure=true) (hT:TokOK L) (Lc:Code) (hL:Lc=Aa y5 [1,1,0,1,0]) {s:RS} (hi:inv L s) (bx:List PBox) (Ad:id < bx.length) (hc:C5 bx):∀ (m k:Nat) (e:List PV),k+m=7->getT e 0=.bp id 0->getT e 3=.bp bx.length 0->getT e 4=.int .i64 (k:Int) ->
 vW L Nm bx id o s (.cells 124 (BI.map .str)) (DE L s 1 (BI.drop k) k) (Cp CC Lc ⟨e,BX bx id (Be L s o Nm) [.cells 124 (BI.map .str)]⟩):=by
 intro m
 induction m with
 | zero=>
  intro k e hk e0 e3 e4;rw [A0 (Aa y5 [1,1,0,1,0,0]) hL];have Yz:¬ ((k:Int) < 7):=by omega
  have:BI.drop k=[]:=zA (by rw [show BI.length=7 from rfl];omega);rw [this];have hn:DE L s 1 [] k=none:=by unfold DE;split <;> rfl
  rw [hn];unfold Be;generalize BI.map PV.str=ds at *;rw [<- Am];simp only [Aa,Ac,y5,yW];simp only [S9,Ag,seval,PY,Bv,PZ,Aw,Al,e0,e3,e4,Yz,Ad];exact ⟨_,rfl,by simp only [S7,Ag,seval,e0]⟩
 | succ m ih=>
  intro k e hk e0 e3 e4;rw [A0 (Aa y5 [1,1,0,1,0,0]) hL];have pZ:k < 7:=by omega
  have Yz:((k:Int) < 7):=by omega
  have Dq:¬ ((k:Int) < 0):=by omega
  obtain ⟨d1,d2,d3,_⟩:=uA k pZ;have t1:=Aj Ad hc hR (Ay (o:=o) hR hT hi 1 1 rfl (BI.getD k []));have EB:([PBox.cells 124 (BI.map PV.str)].all fun x=>x.under (bx.length+[PBox.cells 124 (BI.map PV.str)].length))=true:=rfl;have t1:=t1 [.cells 124 (BI.map .str)] EB;have N5:=wrap_i64 (n:=(k:Int)+1) ⟨by omega,by omega⟩;have key:=fun e=>ih (k+1) e (by omega);have cast1:((k+1:Nat):Int)=(k:Int)+1:=by omega
  rw [cast1] at key;have iX:=xh k pZ;have hA:=uz;have iL:=pL.1;rw [d3,NN];unfold Cx at t1;unfold Be at key |-;generalize BI.getD k []=w at *;generalize DE L s 1 (BI.drop (k+1)) (k+1)=pr at *;generalize BI.map PV.str=ds at *;cases hn:Bf L s 1 w with
  | true=>
   rw [hn] at t1;simp only [if_true] at t1 |-;rw [<- Am];rw [<- AK] at t1;simp only [Aa,Ac,y5,yW];simp only [S9,Ag,seval,PY,Bv,PZ,Aw,Al,e0,e3,e4,Yz,Dq,zE,d1,d2,hA,iL,t1,iX,PV.ro,Ad];unfold vW Be;exact ⟨_,rfl,by simp only [S7,Ag,seval]⟩
  | false=>
   rw [hn] at t1;simp only [zl,if_false] at t1 |-;rw [<- Am];rw [<- Am] at key;rw [<- AK] at t1;simp only [Aa,Ac,y5,yW];simp only [S9,Ag,seval,PY,Bv,PZ,Aw,Al,e0,e3,e4,Yz,Dq,zE,d1,d2,hA,iL,t1,N5,PV.ro,Ad];refine key _ ?_ ?_ ?_
   all_goals first | (simp only [S7,Ag,seval,e0,e3,e4];done) | (simp only [S7,Ag,seval,e0,e3,e4] <;> rfl)
theorem lg (hT:TokOK L) {s:RS} (hi:inv L s):CF 106 [] id L o o Nm s (.int .i64 ((Hn L s).1:Nat)) (Hn L s).2:=by
 refine BK hR (fun n=>by simp [PV.under]) fun bx Ad hc=>?_;have EB:([PBox.cells 124 (BI.map PV.str)].all fun x=>x.under (bx.length+[PBox.cells 124 (BI.map PV.str)].length))=true:=rfl;have t1:=Aj Ad hc hR (D8 (o:=o) hR hi 12) [.cells 124 (BI.map .str)] EB;have Af:=fun Lc hL e=>hZ (o:=o) hR hT Lc hL hi bx Ad hc 7 0 e rfl;rw [List.drop_zero] at Af;have hb:=uw;have hz:=xg;have hf:=pL;unfold Hn;rw [Ah (fn:=y5) (c:=y5.body.getD .skip) rfl rfl NL rfl OX (yX rfl)];cases hp:DE L s 1 BI 0 with
 | some k=>
  rw [hp] at Af;unfold Be vW at *;simp only;generalize BI.map PV.str=ds at *;rw [<- Am];rw [<- Am] at Af;simp only [Aa,Ac,y5,yW] at Af |-;simp only [S9,Ag,seval,PY,Bv,PZ,Aw,Al,hb,hz,hf,Ad];generalize hE:GZ (zG _) _=z
  have hP:∃ e',z=some (.ret,⟨e',BX bx id (Be L (BZ s) o Nm) [.cells 124 ds]⟩)/\getT e' 2=.int .i64 ((2 ^ k:Nat):Int):=by
   rw [<- hE];unfold Be;refine Af _ rfl _ ?_ ?_ ?_
   all_goals first | (simp only [S7,Ag,seval];done) | (simp only [S7,Ag,seval] <;> rfl)
  clear hE Af;obtain ⟨e',h1,h2⟩:=hP;subst h1;unfold Be;simp only [S9,Ag,seval,PY,Bv,PZ,Aw,Al,h2,Ad];exact ⟨_,rfl⟩
 | none=>
  rw [hp] at Af;unfold Be vW at *;simp only;generalize B9 L s 12=q at *;generalize BI.map PV.str=ds at *;rw [<- Am];rw [<- Am] at Af;rw [<- AK] at t1;simp only [Aa,Ac,y5,yW] at Af |-;simp only [S9,Ag,seval,PY,Bv,PZ,Aw,Al,hb,hz,hf,Ad];generalize hE:GZ (zG _) _=z
  have hP:∃ e',z=some (.exit 0,⟨e',BX bx id (Be L s o Nm) [.cells 124 ds]⟩)/\getT e' 0=.bp id 0:=by
   rw [<- hE];unfold Be;refine Af _ rfl _ ?_ ?_ ?_
   all_goals first | (simp only [S7,Ag,seval];done) | (simp only [S7,Ag,seval] <;> rfl)
  clear hE Af;obtain ⟨e',h1,h2⟩:=hP;subst h1;unfold Be;simp only [S9,Ag,seval,PY,Bv,PZ,Aw,Al,h2,t1,Ad];exact ⟨_,rfl⟩
end
end Go.HH
