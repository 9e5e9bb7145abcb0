/-
  What the law needs, packed: GS GT GU GV GW GX GY.
-/
import Derived.Test.YthjabmlbmnadjaaGreatJ46
open Bool renaming false_eq_true->yW,or_true->y7
open Option renaming getD->yX,map_some->y8
open Go.Proofs.Tryz renaming f46->yY,f50->yZ,f51->y0
open List renaming getD_cons_zero->y1,getD_cons_succ->y2,map_cons->y3,any_eq_true->y4,map_nil->y6,length_cons->y9,map_append->y',length_map->za
open Nat renaming le_of_ble_eq_true->y5
open Go.Code renaming loop->zd
namespace Go.HH
open Go Go.Proofs
set_option maxRecDepth 100000
set_option maxHeartbeats 4000000
set_option linter.unusedSimpArgs false
set_option linter.unusedVariables false
set_option linter.unusedSectionVars false
theorem K3:Bk CC yZ (yZ.body.getD .skip)=true:=by kernel_rfl
theorem Kk:CC.P.funcs[50]?=some yZ:=by kernel_rfl
theorem BG {x:List PV} {b:List PBox} (h:x.length.ble yZ.ntmps=true):Ae CC 50 x b=CB CC yZ.results.toList (Cp CC (yZ.body.getD .skip) ⟨x,b⟩):=Ah (fn:=yZ) (c:=yZ.body.getD .skip) rfl rfl Kk rfl K3 (y5 h)
def Cn (L:List Tk) (s:RS):Option (Tg×RS):=
 if Bf L s 1 [99,104,97,110,103,101] then some (⟨1,(B7 L (BZ s)).1,zK,[],0,0⟩,(B7 L (BZ s)).2) else
 if Bf L s 1 [101,118,101,110,116] then some (⟨2,zK,(B7 L (BZ s)).1,[],0,0⟩,(B7 L (BZ s)).2) else
 if Bf L s 1 [116,105,109,101] then (if Bf L (Cm L (BZ s)).2 1 [100,97,121,115] then (Ic L (BZ (Cm L (BZ s)).2)).map fun m=>(⟨3,zK,zK,[],(Cm L (BZ s)).1,(m.1:Nat)⟩,m.2) else some (⟨3,zK,zK,[],(Cm L (BZ s)).1,127⟩,(Cm L (BZ s)).2)) else
 if Bf L s 1 [109,111,100,101] then (if (tokAt L (s.i+1)).1=1 then some (⟨4,zK,zK,(Cf L (BZ s)).1,0,0⟩,(Cf L (BZ s)).2) else some (⟨4,zK,zK,[],0,0⟩,BZ s)) else
 if Bf L s 1 [115,116,97,114,116] then some (⟨5,zK,zK,[],0,0⟩,BZ s) else
 some (⟨6,zK,zK,[],(DL L (As L s 1 [104,111,108,100]) 0 1099511627776 false).1,0⟩,(DL L (As L s 1 [104,111,108,100]) 0 1099511627776 false).2)
theorem C3 {α:Type} {L:List Tk} {a b:α} {s t:RS} (h:some (a,s)=some (b,t)) (hi:inv L s):inv L t:=by
 injection h with h
 injection h with _ h
 exact h ▸ hi
theorem G' {L:List Tk} (hT:TokOK L) {s:RS} (hi:inv L s) {a:Tg} {s2:RS} (h:Cn L s=some (a,s2)):inv L s2:=by
 unfold Cn at h;split at h
 · rename_i hn;exact C3 h (Ia hT (Bj hT hi (by decide) hn))
 split at h
 · rename_i hn;exact C3 h (Ia hT (Bj hT hi (by decide) hn))
 split at h
 · rename_i hn
   have ic:=JA hT (Bj hT hi (by decide) hn);split at h
   · rename_i o4
     cases hd:Ic L (BZ (Cm L (BZ s)).2) with
     | none=>rw [hd] at h;cases h
     | some d=>
      rw [hd] at h;exact C3 h (aD hT (Bj hT ic (by decide) o4) hd)
   · exact C3 h ic
 split at h
 · rename_i hn
   have ia:=Bj hT hi (by decide) hn;split at h
   · exact C3 h (G5 hT ia)
   · exact C3 h ia
 split at h
 · rename_i hn;exact C3 h (Bj hT hi (by decide) hn)
 · exact C3 h (Hz hT (Bc hT hi _ (by decide)))
theorem pP (t:Tg) (n:Nat):(BJ t).under n=true:=by unfold BJ;simp [PV.under,Au]
theorem NX (L:List Tk) {s:RS} (h:s.c≠0):∃ b,Cn L s=some (b,s):=by
 unfold Cn;simp only [Dp h,yW,if_false,Ck L h,TQ L h];exact ⟨_,rfl⟩
theorem lP {L:List Tk} (i t:Nat):ZL (DK L i) t (Cn L ⟨i,0,t⟩):=by
 unfold DK Cn;simp only [E9];unfold BZ;simp only;split
 · exact Cj (p:=B7 L ⟨i+1,0,t⟩) (g:=fun k s=>some ((⟨1,k,zK,[],0,0⟩:Tg),s)) (aI (i+1) t) (fun _ _ _=>rfl) (fun _ _ _=>⟨_,rfl⟩)
 split
 · exact Cj (p:=B7 L ⟨i+1,0,t⟩) (g:=fun k s=>some ((⟨2,zK,k,[],0,0⟩:Tg),s)) (aI (i+1) t) (fun _ _ _=>rfl) (fun _ _ _=>⟨_,rfl⟩)
 split
 · refine Cj (p:=Cm L ⟨i+1,0,t⟩) (g:=fun n s=>if Bf L s 1 [100,97,121,115] then (Ic L ⟨s.i+1,s.c,s.t⟩).map fun m=>((⟨3,zK,zK,[],n,(m.1:Nat)⟩:Tg),m.2) else some (⟨3,zK,zK,[],n,127⟩,s)) (dw (i+1) t) (fun n j _=>?_) (fun n s h=>⟨⟨3,zK,zK,[],n,127⟩,by rw [Dp h];rfl⟩)
   simp only [E9];split
   · have hd:=pN (L:=L) (j+1) t
     cases hp:KA L (j+1) with
     | ok m k=>
      rw [hp] at hd;have hd:Ic L ⟨j+1,0,t⟩=some (m,⟨k,0,t⟩):=hd;rw [hd];rfl
     | bad t2 e=>
      rw [hp] at hd;obtain ⟨⟨a,i2,hd⟩,he⟩:=hd;rw [hd];exact ⟨⟨_,_,rfl⟩,he⟩
     | out=>trivial
   · rfl
 split
 · split
   · exact Cj (p:=Cf L ⟨i+1,0,t⟩) (g:=fun k s=>some ((⟨4,zK,zK,k,0,0⟩:Tg),s)) (TR (i+1) t) (fun _ _ _=>rfl) (fun _ _ _=>⟨_,rfl⟩)
   · rfl
 split
 · rfl
 · refine Cj (p:=((),As L ⟨i,0,t⟩ 1 [104,111,108,100])) (g:=fun _ s=>some ((⟨6,zK,zK,[],(DL L s 0 1099511627776 false).1,0⟩:Tg),(DL L s 0 1099511627776 false).2)) (G9 i t 1 [104,111,108,100]) (fun _ j _=>?_) (fun _ s h=>⟨⟨6,zK,zK,[],0,0⟩,by rw [TQ L h];rfl⟩)
   exact Cj (p:=DL L ⟨j,0,t⟩ 0 1099511627776 false) (g:=fun k s=>some ((⟨6,zK,zK,[],(k:Nat),0⟩:Tg),s)) (lF 0 1099511627776 j t) (fun _ _ _=>rfl) (fun _ _ _=>⟨_,rfl⟩)
section
variable {id:Nat} {L:List Tk} {o:Nat} {Nm:PV} (hR:Nm.pure=true)
include hR
theorem NY (hT:TokOK L) {s:RS} (hi:inv L s):YD 50 [] id L o Nm s BJ (Cn L s):=by
 unfold Cn;cases n0:Bf L s 1 [99,104,97,110,103,101] with
 | true=>
  simp only [if_true];have Jb:=Bj hT hi (by decide) n0;rw [AB];refine BK hR (pP _) fun bx Ad hc=>?_;have t0:=Aj Ad hc hR (Ay (o:=o) hR hT hi 1 1 rfl [99,104,97,110,103,101]);unfold Cx at t0;rw [n0] at t0;simp only [if_true,yW,if_false] at t0;have u1:=Aj Ad hc hR (Kb (o:=o) hR hT Jb);generalize B7 L (BZ s)=r1 at *;have hb:=ua r1.1.1 r1.1.2.1 r1.1.2.2;unfold BJ Be zK;rw [BG rfl];rw [<- Am];rw [<- AK] at t0 u1;simp only [Aa,Ac,yZ,yX];simp only [S9,Ag,seval,PY,Bv,PZ,Aw,Al,t0,u1,hb,Ad];exact ⟨_,rfl⟩
 | false=>
  simp only [yW,if_false];cases n1:Bf L s 1 [101,118,101,110,116] with
  | true=>
   simp only [if_true];have Jb:=Bj hT hi (by decide) n1;rw [AB];refine BK hR (pP _) fun bx Ad hc=>?_;have t0:=Aj Ad hc hR (Ay (o:=o) hR hT hi 1 1 rfl [99,104,97,110,103,101]);have t1:=Aj Ad hc hR (Ay (o:=o) hR hT hi 1 1 rfl [101,118,101,110,116]);unfold Cx at t0 t1;rw [n0] at t0;rw [n1] at t1;simp only [if_true,yW,if_false] at t0 t1;have u1:=Aj Ad hc hR (Kb (o:=o) hR hT Jb);generalize B7 L (BZ s)=r1 at *;have EM:=yA r1.1.1 r1.1.2.1 r1.1.2.2;have hb:=ub r1.1.1 r1.1.2.1 r1.1.2.2;unfold BJ Be zK;rw [BG rfl];rw [<- Am];rw [<- AK] at t0 t1 u1;simp only [Aa,Ac,yZ,yX];simp only [S9,Ag,seval,PY,Bv,PZ,Aw,Al,t0,t1,u1,EM,hb,Ad];exact ⟨_,rfl⟩
  | false=>
   simp only [yW,if_false];cases n2:Bf L s 1 [116,105,109,101] with
   | true=>
    simp only [if_true];have Jb:=Bj hT hi (by decide) n2;have ic:=JA hT Jb;cases m0:Bf L (Cm L (BZ s)).2 1 [100,97,121,115] with
    | true=>
     simp only [if_true];have hd:=eZ (o:=o) (id:=id) hR hT (Bj hT ic (by decide) m0);cases hr:Ic L (BZ (Cm L (BZ s)).2) with
     | none=>trivial
     | some d=>
      rw [hr,AB] at hd;rw [y8];rw [AB];refine BK hR (pP _) fun bx Ad hc=>?_;have t0:=Aj Ad hc hR (Ay (o:=o) hR hT hi 1 1 rfl [99,104,97,110,103,101]);have t1:=Aj Ad hc hR (Ay (o:=o) hR hT hi 1 1 rfl [101,118,101,110,116]);have t2:=Aj Ad hc hR (Ay (o:=o) hR hT hi 1 1 rfl [116,105,109,101]);unfold Cx at t0 t1 t2;rw [n0] at t0;rw [n1] at t1;rw [n2] at t2;simp only [if_true,yW,if_false] at t0 t1 t2;have u1:=Aj Ad hc hR (OW (o:=o) hR hT Jb);have u2:=Aj Ad hc hR (Ay (o:=o) hR hT ic 1 1 rfl [100,97,121,115]);unfold Cx at u2;rw [m0] at u2;simp only [if_true,yW,if_false] at u2;have u3:=Aj Ad hc hR hd;clear hd hr m0;generalize Cm L (BZ s)=r1 at *;have hb:=kC (r1.1:Nat);unfold BJ Be zK;rw [BG rfl];rw [<- Am];rw [<- AK] at t0 t1 t2 u1 u2 u3;simp only [Aa,Ac,yZ,yX];simp only [S9,Ag,seval,PY,Bv,PZ,Aw,Al,t0,t1,t2,u1,u2,u3,hb,Ad];exact ⟨_,rfl⟩
    | false=>
     simp only [yW,if_false];rw [AB];refine BK hR (pP _) fun bx Ad hc=>?_;have t0:=Aj Ad hc hR (Ay (o:=o) hR hT hi 1 1 rfl [99,104,97,110,103,101]);have t1:=Aj Ad hc hR (Ay (o:=o) hR hT hi 1 1 rfl [101,118,101,110,116]);have t2:=Aj Ad hc hR (Ay (o:=o) hR hT hi 1 1 rfl [116,105,109,101]);unfold Cx at t0 t1 t2;rw [n0] at t0;rw [n1] at t1;rw [n2] at t2;simp only [if_true,yW,if_false] at t0 t1 t2;have u1:=Aj Ad hc hR (OW (o:=o) hR hT Jb);have u2:=Aj Ad hc hR (Ay (o:=o) hR hT ic 1 1 rfl [100,97,121,115]);unfold Cx at u2;rw [m0] at u2;simp only [if_true,yW,if_false] at u2;clear m0;generalize Cm L (BZ s)=r1 at *;have hb:=kC (r1.1:Nat);unfold BJ Be zK;rw [BG rfl];rw [<- Am];rw [<- AK] at t0 t1 t2 u1 u2;simp only [Aa,Ac,yZ,yX];simp only [S9,Ag,seval,PY,Bv,PZ,Aw,Al,t0,t1,t2,u1,u2,hb,Ad];exact ⟨_,rfl⟩
   | false=>
    simp only [yW,if_false];cases n3:Bf L s 1 [109,111,100,101] with
    | true=>
     simp only [if_true];have Jb:=Bj hT hi (by decide) n3;have Bq:s.i+1 < L.length:=Jb (LL n3).1;have hg:=Fg Bq;unfold ID at hg;have DF:¬ (((s.i+1:Nat):Int) < 0):=by omega
     have o4:((s.i+1:Nat):Int).toNat=s.i+1:=by omega
     by_cases hk:(tokAt L (s.i+1)).1=1
     · rw [if_pos hk]
       have k1:(((tokAt L (s.i+1)).1:Int) == 1)=true:=by rw [hk];rfl
       rw [AB];refine BK hR (pP _) fun bx Ad hc=>?_;have t0:=Aj Ad hc hR (Ay (o:=o) hR hT hi 1 1 rfl [99,104,97,110,103,101]);have t1:=Aj Ad hc hR (Ay (o:=o) hR hT hi 1 1 rfl [101,118,101,110,116]);have t2:=Aj Ad hc hR (Ay (o:=o) hR hT hi 1 1 rfl [116,105,109,101]);have t3:=Aj Ad hc hR (Ay (o:=o) hR hT hi 1 1 rfl [109,111,100,101]);unfold Cx at t0 t1 t2 t3;rw [n0] at t0;rw [n1] at t1;rw [n2] at t2;rw [n3] at t3;simp only [if_true,yW,if_false] at t0 t1 t2 t3;have u1:=Aj Ad hc hR (J' (o:=o) hR hT Jb);have hb:=uc 4;generalize Cf L (BZ s)=r1 at *;unfold BZ at t3 u1;unfold BJ Be zK;rw [BG rfl];rw [<- Am];rw [<- AK] at t0 t1 t2 t3 u1;simp only [Aa,Ac,yZ,yX];simp only [S9,Ag,seval,PY,Bv,PZ,Aw,Al,t0,t1,t2,t3,u1,hb,hg,DF,o4,k1,Ad];exact ⟨_,rfl⟩
     · rw [if_neg hk]
       have k1:(((tokAt L (s.i+1)).1:Int) == 1)=false:=beq_eq_false_iff_ne.2 (by omega);rw [AB];refine BK hR (pP _) fun bx Ad hc=>?_;have t0:=Aj Ad hc hR (Ay (o:=o) hR hT hi 1 1 rfl [99,104,97,110,103,101]);have t1:=Aj Ad hc hR (Ay (o:=o) hR hT hi 1 1 rfl [101,118,101,110,116]);have t2:=Aj Ad hc hR (Ay (o:=o) hR hT hi 1 1 rfl [116,105,109,101]);have t3:=Aj Ad hc hR (Ay (o:=o) hR hT hi 1 1 rfl [109,111,100,101]);unfold Cx at t0 t1 t2 t3;rw [n0] at t0;rw [n1] at t1;rw [n2] at t2;rw [n3] at t3;simp only [if_true,yW,if_false] at t0 t1 t2 t3;have hb:=uc 4;unfold BZ at t3 |-;unfold BJ Be zK;rw [BG rfl];rw [<- Am];rw [<- AK] at t0 t1 t2 t3;simp only [Aa,Ac,yZ,yX];simp only [S9,Ag,seval,PY,Bv,PZ,Aw,Al,t0,t1,t2,t3,hb,hg,DF,o4,k1,Ad];exact ⟨_,rfl⟩
    | false=>
     simp only [yW,if_false];cases n4:Bf L s 1 [115,116,97,114,116] with
     | true=>
      simp only [if_true];have Jb:=Bj hT hi (by decide) n4;rw [AB];refine BK hR (pP _) fun bx Ad hc=>?_;have t0:=Aj Ad hc hR (Ay (o:=o) hR hT hi 1 1 rfl [99,104,97,110,103,101]);have t1:=Aj Ad hc hR (Ay (o:=o) hR hT hi 1 1 rfl [101,118,101,110,116]);have t2:=Aj Ad hc hR (Ay (o:=o) hR hT hi 1 1 rfl [116,105,109,101]);have t3:=Aj Ad hc hR (Ay (o:=o) hR hT hi 1 1 rfl [109,111,100,101]);have t4:=Aj Ad hc hR (Ay (o:=o) hR hT hi 1 1 rfl [115,116,97,114,116]);unfold Cx at t0 t1 t2 t3 t4;rw [n0] at t0;rw [n1] at t1;rw [n2] at t2;rw [n3] at t3;rw [n4] at t4;simp only [if_true,yW,if_false] at t0 t1 t2 t3 t4;have hb:=uc 5;unfold BJ Be zK;rw [BG rfl];rw [<- Am];rw [<- AK] at t0 t1 t2 t3 t4;simp only [Aa,Ac,yZ,yX];simp only [S9,Ag,seval,PY,Bv,PZ,Aw,Al,t0,t1,t2,t3,t4,hb,Ad];exact ⟨_,rfl⟩
     | false=>
      simp only [yW,if_false];have i1:=Bc hT hi (k:=1) [104,111,108,100] (by decide);rw [AB];refine BK hR (pP _) fun bx Ad hc=>?_;have t0:=Aj Ad hc hR (Ay (o:=o) hR hT hi 1 1 rfl [99,104,97,110,103,101]);have t1:=Aj Ad hc hR (Ay (o:=o) hR hT hi 1 1 rfl [101,118,101,110,116]);have t2:=Aj Ad hc hR (Ay (o:=o) hR hT hi 1 1 rfl [116,105,109,101]);have t3:=Aj Ad hc hR (Ay (o:=o) hR hT hi 1 1 rfl [109,111,100,101]);have t4:=Aj Ad hc hR (Ay (o:=o) hR hT hi 1 1 rfl [115,116,97,114,116]);unfold Cx at t0 t1 t2 t3 t4;rw [n0] at t0;rw [n1] at t1;rw [n2] at t2;rw [n3] at t3;rw [n4] at t4;simp only [if_true,yW,if_false] at t0 t1 t2 t3 t4;have u1:=Aj Ad hc hR (BN (o:=o) hR hT hi 1 1 rfl [104,111,108,100]);have u2:=Aj Ad hc hR (HK (o:=o) hR hT i1 0 1099511627776 0 1099511627776 rfl rfl false);generalize DL L (As L s 1 [104,111,108,100]) 0 1099511627776 false=r2 at *;generalize As L s 1 [104,111,108,100]=r1 at *;have hb:=ud (r2.1:Nat);unfold BJ Be zK;rw [BG rfl];rw [<- Am];rw [<- AK] at t0 t1 t2 t3 t4 u1 u2;simp only [Aa,Ac,yZ,yX];simp only [S9,Ag,seval,PY,Bv,PZ,Aw,Al,t0,t1,t2,t3,t4,u1,u2,hb,Ad];exact ⟨_,rfl⟩
end
theorem NZ:Bk CC y0 (y0.body.getD .skip)=true:=by kernel_rfl
theorem MO:CC.P.funcs[51]?=some y0:=by kernel_rfl
theorem Cd {x:List PV} {b:List PBox} (h:x.length.ble y0.ntmps=true):Ae CC 51 x b=CB CC y0.results.toList (Cp CC (y0.body.getD .skip) ⟨x,b⟩):=Ah (fn:=y0) (c:=y0.body.getD .skip) rfl rfl MO rfl NZ (y5 h)
def D6 (L:List Tk) (n o:Nat) (s:RS):Option (Sp×RS):=
 if Bf L s 1 [115,101,116] then (if (As L (B7 L (BZ s)).2 4 [61]).c=0 then (CS L n o (As L (B7 L (BZ s)).2 4 [61])).map fun d=>(⟨1,(B7 L (BZ s)).1,[],d.1⟩,d.2) else some (⟨1,(B7 L (BZ s)).1,[],zT⟩,As L (B7 L (BZ s)).2 4 [61])) else
 if Bf L s 1 [99,97,108,108] then (if Bf L (B7 L (BZ s)).2 4 [40] then (CS L n o (BZ (B7 L (BZ s)).2)).map fun d=>(⟨2,((B7 L (BZ s)).1.1,(B7 L (BZ s)).1.2.1,[]),(B7 L (BZ s)).1.2.2,d.1⟩,As L d.2 4 [41]) else some (⟨2,((B7 L (BZ s)).1.1,(B7 L (BZ s)).1.2.1,[]),(B7 L (BZ s)).1.2.2,zT⟩,(B7 L (BZ s)).2)) else
 if Bf L s 1 [115,99,101,110,101] then some (⟨3,zK,(Cf L (BZ s)).1,zT⟩,(Cf L (BZ s)).2) else
 if Bf L s 1 [109,111,100,101] then some (⟨4,zK,(Cf L (BZ s)).1,zT⟩,(Cf L (BZ s)).2) else
 some (⟨5,zK,(BW L (As L s 1 [110,111,116,105,102,121]) 3).1,zT⟩,(BW L (As L s 1 [110,111,116,105,102,121]) 3).2)
theorem LS {L:List Tk} (hT:TokOK L) {n o:Nat} {s:RS} (hi:inv L s) {a:Sp} {s2:RS} (h:D6 L n o s=some (a,s2)):inv L s2:=by
 unfold D6 at h;split at h
 · rename_i hn
   have i1:=Bc hT (Ia hT (Bj hT hi (by decide) hn)) (k:=4) [61] (by decide);split at h
   · cases hd:CS L n o (As L (B7 L (BZ s)).2 4 [61]) with
     | none=>rw [hd] at h;cases h
     | some d=>
      rw [hd] at h;exact C3 h (HL hT i1 hd)
   · exact C3 h i1
 split at h
 · rename_i hn
   have i1:=Ia hT (Bj hT hi (by decide) hn);split at h
   · rename_i hm
     cases hd:CS L n o (BZ (B7 L (BZ s)).2) with
     | none=>rw [hd] at h;cases h
     | some d=>
      rw [hd] at h;exact C3 h (Bc hT (HL hT (Bj hT i1 (by decide) hm) hd) _ (by decide))
   · exact C3 h i1
 split at h
 · rename_i hn;exact C3 h (G5 hT (Bj hT hi (by decide) hn))
 split at h
 · rename_i hn;exact C3 h (G5 hT (Bj hT hi (by decide) hn))
 · exact C3 h (LM hT (Bc hT hi _ (by decide)) (by decide))
theorem rz (t:Sp) (n:Nat):(B1 t).under n=true:=by unfold B1 M7;simp [PV.under,Au,SX]
theorem Ya (L:List Tk) {s:RS} (h:s.c≠0) (n o:Nat):∃ b,D6 L n o s=some (b,s):=by
 unfold D6;simp only [Dp h,yW,if_false,Ck L h,O2 L h];exact ⟨_,rfl⟩
theorem xA {L:List Tk} (k i t:Nat):VR ((IY L k i).bind fun x i=>.ok x.2.1 i) t (BW L ⟨i,0,t⟩ k):=by
 unfold IY;by_cases h:(tokAt L i).1=k
 · rw [if_pos h,NU h]
   rfl
 · rw [if_neg h,X6 h]
   exact ⟨⟨i,rfl⟩,by decide⟩
theorem xB {L:List Tk} {α:Type} (k i:Nat) (f:List UInt8->Nat->PR α):((IY L k i).bind fun x i=>f x.2.1 i)=((IY L k i).bind fun x i=>.ok x.2.1 i).bind f:=by
 cases IY L k i <;> rfl
theorem fk {α β:Type} {r:PR Tr} {t:Nat} {z:ZR} {f:Tr->Nat->PR β} {g:Tr×RS->β×RS} (h:ZL r t z) (Ek:∀ a j,r=.ok a j->VR (f a j) t (g (a,⟨j,0,t⟩))) (Fq:∀ a s,s.c≠0->(g (a,s)).2=s):ZL (r.bind f) t (z.map g):=by
 cases r with
 | ok a j=>
  have h:z=some (a,⟨j,0,t⟩):=h;rw [h];exact xw (Ek a j rfl)
 | bad t2 e=>
  obtain ⟨⟨a,i2,h⟩,he⟩:=h;rw [h];exact ⟨⟨(g (a,⟨i2,e,t2⟩)).1,i2,congrArg some (Prod.ext rfl (Fq a _ he))⟩,he⟩
 | out=>trivial
theorem uQ {L:List Tk} (hT:TokOK L) {n i t:Nat} (hi:i < L.length) (hn:12 * L.length+10<=n):ZL (FQ L n i) t (D6 L n 0 ⟨i,0,t⟩):=by
 unfold FQ D6;simp only [E9];unfold BZ;simp only;split
 · rename_i hk
   have h0:=AG hT hi hk (by decide);refine Cj (p:=B7 L ⟨i+1,0,t⟩) (g:=fun k s=>if (As L s 4 [61]).c=0 then (CS L n 0 (As L s 4 [61])).map fun d=>((⟨1,k,[],d.1⟩:Sp),d.2) else some (⟨1,k,[],zT⟩,As L s 4 [61])) (aI (i+1) t) (fun k j r=>?_) (fun k s h=>⟨⟨1,k,[],zT⟩,by rw [Ck L h,if_neg h]⟩);have h1:=(Eg hT h0 r).2.1;refine Cj (p:=((),As L ⟨j,0,t⟩ 4 [61])) (g:=fun _ s=>if s.c=0 then (CS L n 0 s).map fun d=>((⟨1,k,[],d.1⟩:Sp),d.2) else some (⟨1,k,[],zT⟩,s)) (G9 j t 4 [61]) (fun _ j2 r=>?_) (fun _ s h=>⟨⟨1,k,[],zT⟩,by rw [if_neg h]⟩);have h2:=(A6 hT h1 (by decide) r).2;rw [if_pos rfl];exact fk (α:=Nat) (X7 hT h2 (by omega)) (fun _ _ _=>rfl) (fun _ _ _=>rfl)
 split
 · rename_i hk
   have h0:=AG hT hi hk (by decide);refine Cj (p:=B7 L ⟨i+1,0,t⟩) (g:=fun k s=>if Bf L s 4 [40] then (CS L n 0 ⟨s.i+1,s.c,s.t⟩).map fun d=>((⟨2,(k.1,k.2.1,[]),k.2.2,d.1⟩:Sp),As L d.2 4 [41]) else some (⟨2,(k.1,k.2.1,[]),k.2.2,zT⟩,s)) (aI (i+1) t) (fun k j r=>?_) (fun k s h=>⟨⟨2,(k.1,k.2.1,[]),k.2.2,zT⟩,by rw [Dp h];rfl⟩);have h1:=(Eg hT h0 r).2.1;simp only [E9];split
   · rename_i hm
     have h2:=AG hT h1 hm (by decide);refine fk (α:=Nat) (X7 hT h2 (by omega)) (fun e j2 _=>?_) (fun _ s h=>Ck L h _ _);exact GU (p:=((),As L ⟨j2,0,t⟩ 4 [41])) (g:=fun _ s=>((⟨2,(k.1,k.2.1,[]),k.2.2,e⟩:Sp),s)) (G9 j2 t 4 [41]) (fun _ _ _=>rfl) (fun _ _ _=>rfl)
   · rfl
 split
 · exact Cj (p:=Cf L ⟨i+1,0,t⟩) (g:=fun k s=>some ((⟨3,zK,k,zT⟩:Sp),s)) (TR (i+1) t) (fun _ _ _=>rfl) (fun _ _ _=>⟨_,rfl⟩)
 split
 · exact Cj (p:=Cf L ⟨i+1,0,t⟩) (g:=fun k s=>some ((⟨4,zK,k,zT⟩:Sp),s)) (TR (i+1) t) (fun _ _ _=>rfl) (fun _ _ _=>⟨_,rfl⟩)
 · refine Cj (p:=((),As L ⟨i,0,t⟩ 1 [110,111,116,105,102,121])) (g:=fun _ s=>some ((⟨5,zK,(BW L s 3).1,zT⟩:Sp),(BW L s 3).2)) (G9 i t 1 [110,111,116,105,102,121]) (fun _ j _=>?_) (fun _ s h=>⟨⟨5,zK,[],zT⟩,by rw [O2 L h]⟩)
   rw [xB 3 j (fun x i=>PR.ok (⟨5,zK,x,zT⟩:Sp) i)];exact Cj (p:=BW L ⟨j,0,t⟩ 3) (g:=fun k s=>some ((⟨5,zK,k,zT⟩:Sp),s)) (xA 3 j t) (fun _ _ _=>rfl) (fun _ _ _=>⟨_,rfl⟩)
section
variable {id:Nat} {L:List Tk} {o:Nat} {Nm:PV} (hR:Nm.pure=true)
include hR
theorem P8 (hT:TokOK L) {n:Nat} {s:RS} (c0:s.c=0) (hi:inv L s) (hn:12 * L.length+10<=n) (ho:o+n<=1000000):YD 29 [] id L o Nm s (fun t:Tr=>.agg (A7 t)) (CS L n o s):=by
 have h:=hi c0;obtain ⟨i,c,t⟩:=s;simp only at c0 h;subst c0;exact aK hR hT h (by omega) ho
theorem Yb (hT:TokOK L) {n:Nat} (hn:12 * L.length+10<=n) (ho:o+n<=1000000) {s:RS} (hi:inv L s):YD 51 [] id L o Nm s B1 (D6 L n o s):=by
 unfold D6;cases n0:Bf L s 1 [115,101,116] with
 | true=>
  simp only [if_true];have Jb:=Bj hT hi (by decide) n0;have i1:=Ia hT Jb;have i2:=Bc hT i1 (k:=4) [61] (by decide);by_cases c0:(As L (B7 L (BZ s)).2 4 [61]).c=0
  · rw [if_pos c0]
    have hw:=P8 (id:=id) hR hT c0 i2 hn ho;cases hr:CS L n o (As L (B7 L (BZ s)).2 4 [61]) with
    | none=>trivial
    | some d=>
     rw [hr,AB] at hw;rw [y8];have Dq:((As L (B7 L (BZ s)).2 4 [61]).c == 0)=true:=beq_iff_eq.2 c0;rw [AB];refine BK hR (rz _) fun bx Ad hc=>?_;have t0:=Aj Ad hc hR (Ay (o:=o) hR hT hi 1 1 rfl [115,101,116]);unfold Cx at t0;rw [n0] at t0;simp only [if_true,yW,if_false] at t0;have u1:=Aj Ad hc hR (Kb (o:=o) hR hT Jb);have u2:=Aj Ad hc hR (BN (o:=o) hR hT i1 4 4 rfl [61]);have u3:=Aj Ad hc hR hw;clear hw hr;generalize As L (B7 L (BZ s)).2 4 [61]=r2 at *;generalize B7 L (BZ s)=r1 at *;have hb:=gR r1.1.1 r1.1.2.1 r1.1.2.2;unfold B1 M7 Be
     try unfold zK
     try simp only [DP]
     rw [Cd rfl];rw [<- Am];rw [<- AK] at t0 u1 u2 u3;simp only [Aa,Ac,y0,yX];simp only [S9,Ag,seval,PY,Bv,PZ,Aw,Al,t0,u1,u2,u3,hb,Dq,SX,Ad];exact ⟨_,rfl⟩
  · rw [if_neg c0]
    have Dq:((As L (B7 L (BZ s)).2 4 [61]).c == 0)=false:=beq_eq_false_iff_ne.2 c0;rw [AB];refine BK hR (rz _) fun bx Ad hc=>?_;have t0:=Aj Ad hc hR (Ay (o:=o) hR hT hi 1 1 rfl [115,101,116]);unfold Cx at t0;rw [n0] at t0;simp only [if_true,yW,if_false] at t0;have u1:=Aj Ad hc hR (Kb (o:=o) hR hT Jb);have u2:=Aj Ad hc hR (BN (o:=o) hR hT i1 4 4 rfl [61]);generalize As L (B7 L (BZ s)).2 4 [61]=r2 at *;generalize B7 L (BZ s)=r1 at *;have hb:=gR r1.1.1 r1.1.2.1 r1.1.2.2;unfold B1 M7 Be
    try unfold zK
    try simp only [DP]
    rw [Cd rfl];rw [<- Am];rw [<- AK] at t0 u1 u2;simp only [Aa,Ac,y0,yX];simp only [S9,Ag,seval,PY,Bv,PZ,Aw,Al,t0,u1,u2,hb,Dq,PV.ro,SX,Ad];exact ⟨_,rfl⟩
 | false=>
  simp only [yW,if_false];cases n1:Bf L s 1 [99,97,108,108] with
  | true=>
   simp only [if_true];have Jb:=Bj hT hi (by decide) n1;have i1:=Ia hT Jb;cases m0:Bf L (B7 L (BZ s)).2 4 [40] with
   | true=>
    simp only [if_true];have i2:=Bj hT i1 (by decide) m0;have hw:=P8 (id:=id) hR hT (s:=BZ (B7 L (BZ s)).2) (LL m0).1 i2 hn ho;cases hr:CS L n o (BZ (B7 L (BZ s)).2) with
    | none=>trivial
    | some d=>
     rw [hr,AB] at hw;rw [y8];have i3:=HL hT i2 hr;rw [AB];refine BK hR (rz _) fun bx Ad hc=>?_;have t0:=Aj Ad hc hR (Ay (o:=o) hR hT hi 1 1 rfl [115,101,116]);have t1:=Aj Ad hc hR (Ay (o:=o) hR hT hi 1 1 rfl [99,97,108,108]);unfold Cx at t0 t1;rw [n0] at t0;rw [n1] at t1;simp only [if_true,yW,if_false] at t0 t1;have u1:=Aj Ad hc hR (Kb (o:=o) hR hT Jb);have u2:=Aj Ad hc hR (Ay (o:=o) hR hT i1 4 4 rfl [40]);unfold Cx at u2;rw [m0] at u2;simp only [if_true,yW,if_false] at u2;have u3:=Aj Ad hc hR hw;have u4:=Aj Ad hc hR (BN (o:=o) hR hT i3 4 4 rfl [41]);clear hw hr m0;dsimp only;generalize As L d.2 4 [41]=r4 at *;generalize B7 L (BZ s)=r1 at *;have EM:=gQ r1.1.1 r1.1.2.1;have hb:=gS r1.1.1 r1.1.2.1 [] r1.1.2.2;unfold B1 M7 Be
     try unfold zK
     try simp only [DP]
     rw [Cd rfl];rw [<- Am];rw [<- AK] at t0 t1 u1 u2 u3 u4;simp only [Aa,Ac,y0,yX];simp only [S9,Ag,seval,PY,Bv,PZ,Aw,Al,t0,t1,u1,u2,u3,u4,EM,hb,SX,Ad];exact ⟨_,rfl⟩
   | false=>
    simp only [yW,if_false];rw [AB];refine BK hR (rz _) fun bx Ad hc=>?_;have t0:=Aj Ad hc hR (Ay (o:=o) hR hT hi 1 1 rfl [115,101,116]);have t1:=Aj Ad hc hR (Ay (o:=o) hR hT hi 1 1 rfl [99,97,108,108]);unfold Cx at t0 t1;rw [n0] at t0;rw [n1] at t1;simp only [if_true,yW,if_false] at t0 t1;have u1:=Aj Ad hc hR (Kb (o:=o) hR hT Jb);have u2:=Aj Ad hc hR (Ay (o:=o) hR hT i1 4 4 rfl [40]);unfold Cx at u2;rw [m0] at u2;simp only [if_true,yW,if_false] at u2;clear m0;generalize B7 L (BZ s)=r1 at *;have EM:=gQ r1.1.1 r1.1.2.1;have hb:=gS r1.1.1 r1.1.2.1 [] r1.1.2.2;unfold B1 M7 Be
    try unfold zK
    try simp only [DP]
    rw [Cd rfl];rw [<- Am];rw [<- AK] at t0 t1 u1 u2;simp only [Aa,Ac,y0,yX];simp only [S9,Ag,seval,PY,Bv,PZ,Aw,Al,t0,t1,u1,u2,EM,hb,PV.ro,SX,Ad];exact ⟨_,rfl⟩
  | false=>
   simp only [yW,if_false];cases n2:Bf L s 1 [115,99,101,110,101] with
   | true=>
    simp only [if_true];have Jb:=Bj hT hi (by decide) n2;rw [AB];refine BK hR (rz _) fun bx Ad hc=>?_;have t0:=Aj Ad hc hR (Ay (o:=o) hR hT hi 1 1 rfl [115,101,116]);have t1:=Aj Ad hc hR (Ay (o:=o) hR hT hi 1 1 rfl [99,97,108,108]);have t2:=Aj Ad hc hR (Ay (o:=o) hR hT hi 1 1 rfl [115,99,101,110,101]);unfold Cx at t0 t1 t2;rw [n0] at t0;rw [n1] at t1;rw [n2] at t2;simp only [if_true,yW,if_false] at t0 t1 t2;have u1:=Aj Ad hc hR (J' (o:=o) hR hT Jb);generalize Cf L (BZ s)=r1 at *;have hb:=sI 3 r1.1;unfold B1 M7 Be
    try unfold zK
    try simp only [DP]
    rw [Cd rfl];rw [<- Am];rw [<- AK] at t0 t1 t2 u1;simp only [Aa,Ac,y0,yX];simp only [S9,Ag,seval,PY,Bv,PZ,Aw,Al,t0,t1,t2,u1,hb,PV.ro,SX,Ad];exact ⟨_,rfl⟩
   | false=>
    simp only [yW,if_false];cases n3:Bf L s 1 [109,111,100,101] with
    | true=>
     simp only [if_true];have Jb:=Bj hT hi (by decide) n3;rw [AB];refine BK hR (rz _) fun bx Ad hc=>?_;have t0:=Aj Ad hc hR (Ay (o:=o) hR hT hi 1 1 rfl [115,101,116]);have t1:=Aj Ad hc hR (Ay (o:=o) hR hT hi 1 1 rfl [99,97,108,108]);have t2:=Aj Ad hc hR (Ay (o:=o) hR hT hi 1 1 rfl [115,99,101,110,101]);have t3:=Aj Ad hc hR (Ay (o:=o) hR hT hi 1 1 rfl [109,111,100,101]);unfold Cx at t0 t1 t2 t3;rw [n0] at t0;rw [n1] at t1;rw [n2] at t2;rw [n3] at t3;simp only [if_true,yW,if_false] at t0 t1 t2 t3;have u1:=Aj Ad hc hR (J' (o:=o) hR hT Jb);generalize Cf L (BZ s)=r1 at *;have hb:=sI 4 r1.1;unfold B1 M7 Be
     try unfold zK
     try simp only [DP]
     rw [Cd rfl];rw [<- Am];rw [<- AK] at t0 t1 t2 t3 u1;simp only [Aa,Ac,y0,yX];simp only [S9,Ag,seval,PY,Bv,PZ,Aw,Al,t0,t1,t2,t3,u1,hb,PV.ro,SX,Ad];exact ⟨_,rfl⟩
    | false=>
     simp only [yW,if_false];have i1:=Bc hT hi (k:=1) [110,111,116,105,102,121] (by decide);rw [AB];refine BK hR (rz _) fun bx Ad hc=>?_;have t0:=Aj Ad hc hR (Ay (o:=o) hR hT hi 1 1 rfl [115,101,116]);have t1:=Aj Ad hc hR (Ay (o:=o) hR hT hi 1 1 rfl [99,97,108,108]);have t2:=Aj Ad hc hR (Ay (o:=o) hR hT hi 1 1 rfl [115,99,101,110,101]);have t3:=Aj Ad hc hR (Ay (o:=o) hR hT hi 1 1 rfl [109,111,100,101]);unfold Cx at t0 t1 t2 t3;rw [n0] at t0;rw [n1] at t1;rw [n2] at t2;rw [n3] at t3;simp only [if_true,yW,if_false] at t0 t1 t2 t3;have u1:=Aj Ad hc hR (BN (o:=o) hR hT hi 1 1 rfl [110,111,116,105,102,121]);have u2:=Aj Ad hc hR (Me (o:=o) hR hT i1 3 3 rfl);generalize BW L (As L s 1 [110,111,116,105,102,121]) 3=r2 at *;generalize As L s 1 [110,111,116,105,102,121]=r1 at *;have hb:=sI 5 r2.1;unfold B1 M7 Be
     try unfold zK
     try simp only [DP]
     rw [Cd rfl];rw [<- Am];rw [<- AK] at t0 t1 t2 t3 u1 u2;simp only [Aa,Ac,y0,yX];simp only [S9,Ag,seval,PY,Bv,PZ,Aw,Al,t0,t1,t2,t3,u1,u2,hb,PV.ro,SX,Ad];exact ⟨_,rfl⟩
end
theorem MP:Bk CC yY (yY.body.getD .skip)=true:=by kernel_rfl
theorem LU:CC.P.funcs[46]?=some yY:=by kernel_rfl
theorem Gf {x:List PV} {b:List PBox} (h:x.length.ble yY.ntmps=true):Ae CC 46 x b=CB CC yY.results.toList (Cp CC (yY.body.getD .skip) ⟨x,b⟩):=Ah (fn:=yY) (c:=yY.body.getD .skip) rfl rfl LU rfl MP (y5 h)
def CN (f:FuncId) (xs:List PV) (id:Nat) (L:List Tk) (o:Nat) (Nm Nm2:PV) (s:RS) (v:PV) (s2:RS):Prop:=
 ∀ B,q6 L s o Nm id B->Ak CC (Ae CC) f (.bp id 0 :: xs) B=some (.ret v,B.set id (Be L s2 o Nm2))
theorem lQ {f:FuncId} {xs:List PV} {id:Nat} {L:List Tk} {o:Nat} {Nm Nm2:PV} {s s2:RS} {v:PV} (hR:Nm2.pure=true) (hv:∀ n,v.under n=true) (h:∀ bx,id < bx.length->C5 bx->∃ ys,Ae CC f (.bp id 0 :: xs) (BX bx id (Be L s o Nm) [])=some (.ret v,BX bx id (Be L s2 o Nm2) ys)):CN f xs id L o Nm Nm2 s v s2:=
 fun B hB=>KC (P:=Be L s o Nm) (by simp [Aq,PV.pure]) hB.1 hB.2 (Cb L s2 o hR) (by simp only [CR.under];exact hv _) (h B (List.getElem?_eq_some_iff.1 hB.2).1 hB.1)
theorem lR {bx:List PBox} {id:Nat} {L:List Tk} {s:RS} {o:Nat} {Nm Nm2:PV} (Ad:id < bx.length) (hc:C5 bx) (hR:Nm.pure=true) {f:FuncId} {xs:List PV} {v:PV} {s2:RS} (h:CN f xs id L o Nm Nm2 s v s2) (ys:List PBox) (hy:ys.all (·.under (bx.length+ys.length))=true) :
 Ak CC (Ae CC) f (.bp id 0 :: xs) (BX bx id (.cells 69 [.sl (A2 L),.int .i64 (s.i:Int),.int .i64 s.c,.int .i64 (s.t:Int),.int .i64 (o:Int),Nm]) ys)=some (.ret v,BX bx id (.cells 69 [.sl (A2 L),.int .i64 (s2.i:Int),.int .i64 s2.c,.int .i64 (s2.t:Int),.int .i64 (o:Int),Nm2]) ys):=by
 have:=h _ (eX Ad hc hR hy);rw [Hk Ad] at this;exact this
noncomputable def uR:TypeInfo:=(Tryz.prog.info? 9).getD default
theorem xC (bytes:Nat) (hb:uR.bytes=bytes) (st:St) (al:List (Nat×Loc)) (s x:Operand) (d:Option Tmp):EW CC st al s x 67 67 d=match DV CC st al 9 s,Di (opd CC st.env x) with
 | some (l,xs),some ys=>Sf bytes 1 9 st al l xs ys d
 | _,_=>none:=EZ (i:=uR) (by kernel_rfl) (by kernel_rfl) (by kernel_rfl) (z:=(uR.zero).getD default) (by kernel_rfl) (by kernel_rfl) (by rw [show uR.size=1 from by kernel_rfl];decide) hb (by kernel_rfl)
theorem oH:uR.bytes=16:=by kernel_rfl
theorem xD (w:List UInt8):AW CC 67 1 [(0,.str w)]=some (.osl 9 [.str w]):=by kernel_rfl
def TZ (ns:List (List UInt8)):PV:=Dh 9 (ns.map .str)
theorem JD (ns:List (List UInt8)):(TZ ns).pure=true:=E5 _ _ (by
 induction ns with
 | nil=>rfl
 | cons x r ih=>rw [y3,BE,ih] <;> rfl)
def LV (L:List Tk):List (List UInt8)->RS->RS
 | [],s=>s
 | w :: r,s=>LV L r (if Bf L s 1 w then B9 L s 9 else s)
def Ch (L:List Tk) (ns:List (List UInt8)) (s:RS):List UInt8×RS:=Cf L (LV L ns s)
theorem Yc {L:List Tk}:∀ (ns:List (List UInt8)) (s:RS),inv L s->inv L (LV L ns s)
 | [],s,h=>h
 | w :: r,s,h=>by
  rw [LV];refine Yc r _ ?_;split
  · exact CX h (by decide)
  · exact h
theorem WH {L:List Tk} (hT:TokOK L) (ns:List (List UInt8)) {s:RS} (h:inv L s):inv L (Ch L ns s).2:=G5 hT (Yc ns s h)
theorem T0 (C:Cfg) (co:FuncId->List PV->List PBox->Option (CR×List PBox)) (tys:Array TypeId) (k:FuncId) (vs:List PV) (d:Option Tmp) (t id off:Nat) (st:St) (h:Au id vs=false):H2 C co tys k vs d [(t,.box id off)] st=EP C (co k vs st.bx) k vs d [(t,.box id off)] st:=by
 unfold H2 JJ cutAt;rw [show Dl [(t,Loc.box id off)]=some id from rfl];cases (YJ (.func k) && fJ C tys) with
 | false=>rfl
 | true=>
  simp only [h,Bool.false_and,Bool.and_false,yW,if_false,if_true]
theorem T4 (id:Nat) (r:List PV):Au id (.bp id 0 :: r)=false:=by
 rw [SU.2.2.1];simp [PV.under]
section
variable {id:Nat} {L:List Tk} {o:Nat}
theorem dB (Lc:Code) (hL:Lc=Aa yY [1,0,1,0]) (W:List (List UInt8)) (hW:W.length<=1000) (x:PV) (q:List PV) (hq:W.map PV.str=x :: q) (bx:List PBox) (Ad:id < bx.length) (hc:C5 bx):∀ (m k:Nat) (s:RS) (e:List PV),k+m=W.length->inv L s->getT e 0=.bp id 0->getT e 3=.int .i64 (k:Int) ->
 ∃ e',Cp CC Lc ⟨e,BX bx id (Be L s o (.osl 9 (x :: q))) []⟩=some (.exit 0,⟨e',BX bx id (Be L (LV L (W.drop k) s) o (.osl 9 (x :: q))) []⟩)/\getT e' 0=.bp id 0:=by
 have hR:(PV.osl 9 (x :: q)).pure=true:=by
  have:=JD W;unfold TZ at this;rw [hq] at this;exact this
 have hlen:(x :: q).length=W.length:=by rw [<- hq,za]
 intro m
 induction m with
 | zero=>
  intro k s e hk hi e0 e3;rw [A0 (Aa yY [1,0,1,0,0]) hL];have LY:¬ ((k:Int) < ((x :: q).length:Int)):=by rw [hlen];omega
  rw [List.drop_of_length_le (by omega)];unfold LV Be;generalize x :: q=ds at *;rw [<- Am];simp only [Aa,Ac,yY,yX];simp only [S9,Ag,seval,PY,Bv,PZ,Aw,Al,e0,e3,LY,Ad];exact ⟨_,rfl,by simp only [S7,Ag,seval,e0]⟩
 | succ m ih=>
  intro k s e hk hi e0 e3;rw [A0 (Aa yY [1,0,1,0,0]) hL];have LY:((k:Int) < ((x :: q).length:Int)):=by rw [hlen];omega
  have Yv:¬ ((k:Int) < 0):=by omega
  have hkW:k < W.length:=by omega
  have D4:(x :: q)[k]?=some (.str W[k]):=by rw [<- hq,List.getElem?_map,List.getElem?_eq_getElem hkW];rfl
  have hw:IntKind.wrap .i64 ((k:Int)+1)=((k+1:Nat):Int):=by rw [wrap_i64 ⟨by omega,by omega⟩];omega
  rw [List.drop_eq_getElem_cons hkW,LV];have t0:=Aj Ad hc hR (Dy (o:=o) hR hi 1 1 rfl W[k]);have t1:=Aj Ad hc hR (D8 (o:=o) hR hi 9);cases hn:Bf L s 1 W[k] with
  | true=>
   rw [hn] at t0;simp only [if_true];have key:=fun e=>ih (k+1) (B9 L s 9) e (by omega) (CX hi (by decide));generalize B9 L s 9=r1 at *;generalize LV L (W.drop (k+1)) r1=r2 at *;generalize W[k]=w at *;generalize x :: q=ds at *;unfold Be at key |-;rw [<- Am];rw [<- Am] at key;rw [<- AK] at t0 t1;have Jc:=fun tys k d t off st=>T0 CC ph tys k [.bp id 0,.int .i64 1,.str w] d t id off st (T4 id _);have Um:Aq [PV.bp id 0,.int .i64 1,.str w]=false:=rfl;simp only [Aa,Ac,yY,yX];simp only [S9,Ag,seval,PY,Bv,PZ,Aw,Al,e0,e3,LY,Yv,D4,hw,t0,t1,y1,y2,Jc,Um,y7,Ad];refine key _ ?_ ?_
   all_goals simp only [S7,Ag,seval,e0,e3]
  | false=>
   rw [hn] at t0;simp only [yW,if_false];have key:=fun e=>ih (k+1) s e (by omega) hi;generalize LV L (W.drop (k+1)) s=r2 at *;generalize W[k]=w at *;generalize x :: q=ds at *;unfold Be at key |-;rw [<- Am];rw [<- Am] at key;rw [<- AK] at t0;have Jc:=fun tys k d t off st=>T0 CC ph tys k [.bp id 0,.int .i64 1,.str w] d t id off st (T4 id _);have Um:Aq [PV.bp id 0,.int .i64 1,.str w]=false:=rfl;simp only [Aa,Ac,yY,yX];simp only [S9,Ag,seval,PY,Bv,PZ,Aw,Al,e0,e3,LY,Yv,D4,hw,t0,y1,y2,Jc,Um,y7,Ad];refine key _ ?_ ?_
   all_goals simp only [S7,Ag,seval,e0,e3]
end
section
variable {id:Nat} {L:List Tk} {o:Nat}
theorem Yd (Lc:Code) (hL:Lc=Aa yY [1,0,1,0]) (ns:List (List UInt8)) (hW:ns.length<=1000) {s:RS} (hi:inv L s) (bx:List PBox) (Ad:id < bx.length) (hc:C5 bx) (e:List PV) (e0:getT e 0=.bp id 0) (e3:getT e 3=.int .i64 0) :
 ∃ e',Cp CC Lc ⟨e,BX bx id (Be L s o (TZ ns)) []⟩=some (.exit 0,⟨e',BX bx id (Be L (LV L ns s) o (TZ ns)) []⟩)/\getT e' 0=.bp id 0:=by
 cases ns with
 | nil=>
  rw [A0 (Aa yY [1,0,1,0,0]) hL];unfold TZ LV Be;rw [y6,BF];rw [<- Am];simp only [Aa,Ac,yY,yX];simp only [S9,Ag,seval,PY,Bv,PZ,Aw,Al,e0,e3,Ad];exact ⟨_,rfl,by simp only [S7,Ag,seval,e0]⟩
 | cons w r=>
  have h:=dB (o:=o) Lc hL (w :: r) hW (.str w) (r.map PV.str) rfl bx Ad hc (w :: r).length 0 s e (Nat.zero_add _) hi e0 e3;rw [List.drop_zero] at h;exact h
theorem lS (hT:TokOK L) (ns:List (List UInt8)) (hW:ns.length<=1000) {s:RS} (hi:inv L s):CN 46 [] id L o (TZ ns) (TZ (ns++[(Ch L ns s).1])) s (.str (Ch L ns s).1) (Ch L ns s).2:=by
 refine lQ (JD _) (fun n=>by simp [PV.under]) fun bx Ad hc=>?_;have hR:=JD ns;have Af:=fun e=>Yd (o:=o) (id:=id) _ rfl ns hW hi bx Ad hc e;have t1:=Aj Ad hc hR (J' (o:=o) hR hT (Yc ns s hi));have hb:=xC 16 oH;unfold Ch;generalize Cf L (LV L ns s)=r1 at *;generalize LV L ns s=r0 at *;have FB:=xD r1.1;have Jd:=fun (xs:List PV) (hx:xs.length<=1000) st al l d=>D7 (bytes:=16) (size:=1) (e:=9) (st:=st) (al:=al) (l:=l) (d:=d) (xs:=xs) (ys:=[.str r1.1]) (by simp only [y9,List.length_nil];omega) (by decide) rfl;cases ns with
 | nil=>
  have Jd:=Jd [] (Nat.zero_le _);unfold TZ at *;rw [y6,BF] at *;rw [List.nil_append,y3,y6,BA];unfold Be at Af |-;rw [Gf rfl];simp only [Aa,Ac,yY,yX] at Af |-;rw [<- Am];rw [<- Am] at Af;rw [<- AK] at t1;simp only [S9,Ag,seval,PY,Bv,PZ,Aw,Al,SX,Ad];generalize hE:GZ (zd _) _=z
  have hP:∃ e',z=some (.exit 0,⟨e',BX bx id (.cells 69 [.sl (A2 L),.int .i64 (r0.i:Int),.int .i64 r0.c,.int .i64 (r0.t:Int),.int .i64 (o:Int),.nils]) []⟩)/\getT e' 0=.bp id 0:=by
   rw [<- hE];refine Af _ ?_ ?_
   all_goals simp only [S7,Ag,seval]
  obtain ⟨e',he,g0⟩:=hP;subst he;clear hE Af;simp only [S9,Ag,seval,PY,Bv,PZ,Aw,Al,g0,t1,hb,FB,Jd,y1,y2,y7,Ad];exact ⟨_,rfl⟩
 | cons w0 r=>
  have Jd:=Jd (.str w0 :: r.map PV.str) (by rw [y9,za];rw [y9] at hW;exact hW);unfold TZ at *;rw [y3,BA] at *;rw [List.cons_append,y3,y',BA,y3,y6];generalize r.map PV.str=qs at *;unfold Be at Af |-;rw [Gf rfl];simp only [Aa,Ac,yY,yX] at Af |-;rw [<- Am];rw [<- Am] at Af;rw [<- AK] at t1;simp only [S9,Ag,seval,PY,Bv,PZ,Aw,Al,SX,Ad];generalize hE:GZ (zd _) _=z
  have hP:∃ e',z=some (.exit 0,⟨e',BX bx id (.cells 69 [.sl (A2 L),.int .i64 (r0.i:Int),.int .i64 r0.c,.int .i64 (r0.t:Int),.int .i64 (o:Int),(.osl 9 (.str w0 :: qs))]) []⟩)/\getT e' 0=.bp id 0:=by
   rw [<- hE];refine Af _ ?_ ?_
   all_goals simp only [S7,Ag,seval]
  obtain ⟨e',he,g0⟩:=hP;subst he;clear hE Af;simp only [S9,Ag,seval,PY,Bv,PZ,Aw,Al,g0,t1,hb,FB,Jd,y1,y2,y7,Ad];exact ⟨_,rfl⟩
end
def ob {α β:Type} (z:Option (α×RS)) (f:α->RS->Option (β×RS)):Option (β×RS):=match z with
 | some d=>f d.1 d.2
 | none=>none
theorem Ye {α β:Type} (a:α) (s:RS) (f:α->RS->Option (β×RS)):ob (some (a,s)) f=f a s:=rfl
theorem Kl {α β:Type} (d:α×RS) (f:α->RS->Option (β×RS)):ob (some d) f=f d.1 d.2:=rfl
theorem Mf {α β:Type} {r:PR α} {t:Nat} {z:Option (α×RS)} {f:α->Nat->PR β} {g:α->RS->Option (β×RS)} (h:ZL r t z) (Ek:∀ a j,r=.ok a j->ZL (f a j) t (g a ⟨j,0,t⟩)) (Fq:∀ a s,s.c≠0->∃ b,g a s=some (b,s)):ZL (r.bind f) t (ob z g):=by
 cases r with
 | ok a j=>
  have h:z=some (a,⟨j,0,t⟩):=h;rw [h];exact Ek a j rfl
 | bad t2 e=>
  obtain ⟨⟨a,i2,h⟩,he⟩:=h;obtain ⟨b,hb⟩:=Fq a ⟨i2,e,t2⟩ he;exact ⟨⟨b,i2,by rw [h];exact hb⟩,he⟩
 | out=>trivial
theorem HA {α β:Type} {z:Option (α×RS)} {g:α->RS->Option (β×RS)} {s:RS} (h:∃ b,z=some (b,s)) (hg:∀ a,∃ b,g a s=some (b,s)):∃ b,ob z g=some (b,s):=by
 obtain ⟨a,h⟩:=h;rw [h];exact hg a
def DO {α:Type} (L:List Tk) (w:List UInt8) (part:RS->Option (α×RS)):Nat->List α->RS->Option (List α×RS)
 | 0,_,_=>none
 | n+1,acc,s=>if acc.length=0\/Bf L s 1 w=true then ob (part (As L (if acc.length=8 then B9 L s 3 else s) 1 w)) fun a s=>DO L w part n (acc++[a]) (As L s 4 [59]) else some (acc,s)
section
variable {α:Type} {L:List Tk} {w:List UInt8} {part:RS->Option (α×RS)} (Fq:∀ s:RS,s.c≠0->∃ b,part s=some (b,s))
theorem RN {n:Nat} {acc:List α} (ha:acc≠[]) {s:RS} (h:s.c≠0):DO L w part (n+1) acc s=some (acc,s):=by
 rw [DO,Dp h,if_neg]
 rintro (h | h)
 · exact ha (List.eq_nil_of_length_eq_zero h)
 · cases h
include Fq
theorem Yf {n:Nat} {acc:List α} {s:RS} (h:s.c≠0):∃ b,DO L w part (n+2) acc s=some (b,s):=by
 by_cases ha:acc=[]
 · subst ha
   rw [DO,if_pos (.inl rfl),if_neg (show ¬ (([]:List α).length=8) from by simp),Ck L h];refine HA (Fq s h) fun a=>?_;rw [Ck L h];exact ⟨_,RN (by simp) h⟩
 · exact ⟨_,RN ha h⟩
theorem uS {pp:Nat->PR α} (hp:∀ i t,i < L.length->ZL (pp i) t (part ⟨i,0,t⟩)) (Bq:∀ i a j,i < L.length->pp i=.ok a j->j < L.length) (hT:TokOK L):∀ (m:Nat) (acc:List α) (i t:Nat),i < L.length->ZL (BU L w pp m acc i) t (DO L w part (m+1) acc ⟨i,0,t⟩):=by
 intro m
 induction m with
 | zero=>intro acc i t _;trivial
 | succ m ih=>
  intro acc i t hi;rw [BU,DO,E9]
  have sA:∀ (a:α) (s:RS),s.c≠0->∃ b,DO L w part (m+1) (acc++[a]) (As L s 4 [59])=some (b,s):=fun a s h=>by
   rw [Ck L h];exact ⟨_,RN (by simp) h⟩
  split
  · by_cases h8:acc.length=8
    · rw [if_pos h8,if_pos h8,aH]
      have h3:(⟨i,3,atT L i⟩:RS).c≠0:=(by decide:(3:Int)≠0);rw [Ck L h3];obtain ⟨b,hb⟩:=HA (g:=fun a s=>DO L w part (m+1) (acc++[a]) (As L s 4 [59])) (Fq _ h3) fun a=>sA a _ h3;rw [hb];exact ⟨⟨_,_,rfl⟩,by decide⟩
    · rw [if_neg h8,if_neg h8]
      refine Cj (p:=((),As L ⟨i,0,t⟩ 1 w)) (g:=fun _ s=>ob (part s) fun a s=>DO L w part (m+1) (acc++[a]) (As L s 4 [59])) (G9 i t 1 w) (fun _ i1 r1=>?_) (fun _ s h=>HA (Fq s h) fun a=>sA a s h);have h1:=(A6 hT hi (by decide) r1).2;refine Mf (hp i1 t h1) (fun a i2 r2=>?_) sA;have h2:=Bq i1 a i2 h1 r2;refine Cj (p:=((),As L ⟨i2,0,t⟩ 4 [59])) (g:=fun _ s=>DO L w part (m+1) (acc++[a]) s) (G9 i2 t 4 [59]) (fun _ i3 r3=>?_) (fun _ s h=>⟨_,RN (by simp) h⟩);exact ih _ _ _ (A6 hT h2 (by decide) r3).2
  · rfl
end
section
variable {L:List Tk}
theorem dC {s:RS} (h:s.c≠0):∀ ns,LV L ns s=s
 | []=>rfl
 | w :: r=>by
  rw [LV,Dp h];exact dC h r
theorem uT (i t:Nat):∀ ns,LV L ns ⟨i,0,t⟩=if (ns.any fun w=>B2 L 1 w i)=true then ⟨i,9,atT L i⟩ else ⟨i,0,t⟩
 | []=>rfl
 | w :: r=>by
  rw [LV,E9,List.any_cons];cases B2 L 1 w i with
  | true=>exact dC (by decide:(9:Int)≠0) r
  | false=>rw [Bool.false_or];exact uT i t r
theorem rA {ns:List (List UInt8)} (hv:∀ w ∈ ns,Fo w=true) (i t:Nat):VR ((CI L i).bind fun nm j=>if ns.any (fun w=>w == nm) then .bad (atT L i) 9 else .ok nm j) t (Ch L ns ⟨i,0,t⟩):=by
 unfold Ch;rw [uT];by_cases h:(ns.any fun w=>B2 L 1 w i)=true
 · rw [if_pos h]
   obtain ⟨w,hw,hi⟩:=y4.1 h;have FV:=hi;unfold B2 at FV;simp only [Bool.and_eq_true,beq_iff_eq] at FV
   have hn:CI L i=.ok w (i+1):=by
    unfold CI;rw [if_pos FV.1,FV.2,hv w hw];rfl
   rw [hn,AA,if_pos (show (ns.any fun x=>x == w)=true from y4.2 ⟨w,hw,beq_self_eq_true w⟩),Kj L (show (9:Int)≠0 by decide)];exact ⟨⟨i,rfl⟩,by decide⟩
 · rw [if_neg h]
   refine GU (p:=Cf L ⟨i,0,t⟩) (g:=fun a s=>(a,s)) (TR i t) (fun nm j r=>?_) (fun _ _ _=>rfl)
   have hk:B2 L 1 nm i=true:=by
    unfold CI at r;split at r
    · rename_i h1
      split at r
      · injection r with r
        unfold B2;rw [h1,r];simp
      · cases r
    · cases r
   rw [if_neg]
   · rfl
   · intro ha
     obtain ⟨w,hw,he⟩:=y4.1 ha;rw [beq_iff_eq] at he;subst he;exact h (y4.2 ⟨w,hw,hk⟩)
theorem aP {s:RS} (h:s.c≠0) (ns:List (List UInt8)):Ch L ns s=([],s):=by
 unfold Ch;rw [dC h];exact Kj L h
end
def Na (L:List Tk) (n o:Nat) (nm:List UInt8) (pr:Nat) (s:RS):Option (Rl×RS):=
 ob (DO L [111,110] (Cn L) 11 [] (As L s 4 [123])) fun on s=>
 ob (if Bf L s 1 [105,102] then ob (CS L n o (BZ s)) (fun e s=>some (e,As L s 4 [59])) else some (wT,s)) fun e s=>
 ob (DO L [100,111] (D6 L n o) 11 [] s) fun dos s=>some (⟨nm,(pr:Int),on,e,dos⟩,As L s 4 [125])
def IN (L:List Tk) (s:RS):Nat×RS:=if Bf L s 1 [112,114,105,111,114,105,116,121] then DL L (BZ s) 0 100 false else (0,s)
def aQ (L:List Tk) (n o:Nat) (nm:List UInt8) (s:RS):Option (Rl×RS):=Na L n o nm (IN L s).1 (IN L s).2
def sL (L:List Tk) (n o:Nat) (ns:List (List UInt8)) (s:RS):Option (Rl×RS):=aQ L n o (Ch L ns s).1 (Ch L ns s).2
def KD (L:List Tk) (n o:Nat) (ns:List (List UInt8)) (s:RS):Option (Rl×RS):=sL L n o ns (As L s 1 [114,117,108,101])
theorem Yg (L:List Tk) {s:RS} (h:s.c≠0) (n o:Nat) (nm:List UInt8) (pr:Nat):∃ b,Na L n o nm pr s=some (b,s):=by
 unfold Na;rw [Ck L h];refine HA (Yf (fun s h=>NX L h) h) fun on=>?_;rw [Dp h];refine HA ⟨wT,rfl⟩ fun e=>?_;refine HA (Yf (fun s h=>Ya L h n o) h) fun dos=>?_;rw [Ck L h];exact ⟨_,rfl⟩
theorem fl (L:List Tk) {s:RS} (h:s.c≠0):IN L s=(0,s):=by
 unfold IN;rw [Dp h];rfl
theorem oI (L:List Tk) {s:RS} (h:s.c≠0) (n o:Nat) (ns:List (List UInt8)):∃ b,KD L n o ns s=some (b,s):=by
 unfold KD sL aQ;rw [Ck L h,aP h,fl L h];exact Yg L h n o _ _
section
variable {L:List Tk} (hT:TokOK L)
include hT
theorem uU {n:Nat} (hn:12 * L.length+10<=n) (nm:List UInt8) (pr:Nat) (i t:Nat) (hi:i < L.length):ZL ((BM L 4 [123] i).bind fun _ i=>
 (BU L [111,110] (DK L) 10 [] i).bind fun on i=>
 (if B2 L 1 [105,102] i then (Db L n (i+1)).bind fun e i=>(BM L 4 [59] i).bind fun _ i=>.ok e i else .ok wT i).bind fun e i=>
 (BU L [100,111] (FQ L n) 10 [] i).bind fun dos i=>(BM L 4 [125] i).bind fun _ i=>.ok (⟨nm,(pr:Int),on,e,dos⟩:Rl) i) t (Na L n 0 nm pr ⟨i,0,t⟩):=by
 unfold Na;have s3:∀ (on:List Tg) (e:Tr) (s:RS),s.c≠0->∃ b,(ob (DO L [100,111] (D6 L n 0) 11 [] s) fun dos s=>some ((⟨nm,(pr:Int),on,e,dos⟩:Rl),As L s 4 [125]))=some (b,s):=fun on e s h=>HA (Yf (fun s h=>Ya L h n 0) h) fun dos=>⟨_,by rw [Ck L h]⟩
 have s2:∀ (on:List Tg) (s:RS),s.c≠0->∃ b,(ob (if Bf L s 1 [105,102] then ob (CS L n 0 (BZ s)) (fun e s=>some (e,As L s 4 [59])) else some (wT,s)) fun e s=>ob (DO L [100,111] (D6 L n 0) 11 [] s) fun dos s=>some ((⟨nm,(pr:Int),on,e,dos⟩:Rl),As L s 4 [125]))=some (b,s):=fun on s h=>by
  rw [Dp h];exact HA ⟨wT,rfl⟩ fun e=>s3 on e s h
 refine Cj (p:=((),As L ⟨i,0,t⟩ 4 [123])) (g:=fun _ s=>ob (DO L [111,110] (Cn L) 11 [] s) fun on s=>ob (if Bf L s 1 [105,102] then ob (CS L n 0 (BZ s)) (fun e s=>some (e,As L s 4 [59])) else some (wT,s)) fun e s=>ob (DO L [100,111] (D6 L n 0) 11 [] s) fun dos s=>some ((⟨nm,(pr:Int),on,e,dos⟩:Rl),As L s 4 [125])) (G9 i t 4 [123]) (fun _ i1 r1=>?_) (fun _ s h=>HA (Yf (fun s h=>NX L h) h) fun on=>s2 on s h);have h1:=(A6 hT hi (by decide) r1).2;refine Mf (uS (fun s h=>NX L h) (fun i t _=>lP i t) (fun i a j hi h=>E4 hT hi h) hT 10 [] i1 t h1) (fun on i2 r2=>?_) s2;have h2:=(FR hT (fun i a j hi h=>E4 hT hi h) 10 [] i1 on i2 h1 (by simp) r2).1;refine Mf (α:=Tr) ?_ (fun e i3 r3=>?_) (s3 on)
 · rw [E9]
   split
   · rename_i hk
     have Ru:=AG hT h2 hk (by decide);refine Mf (X7 hT Ru (by omega)) (fun e i3 r3=>?_) (fun e s h=>⟨_,by rw [Ck L h]⟩);exact Cj (p:=((),As L ⟨i3,0,t⟩ 4 [59])) (g:=fun _ s=>some (e,s)) (G9 i3 t 4 [59]) (fun _ _ _=>rfl) (fun _ _ _=>⟨_,rfl⟩)
   · rfl
 · have h3:i3 < L.length:=by
    split at r3
    · rename_i hk
      have Ru:=AG hT h2 hk (by decide);obtain ⟨_,i4,r4,r3⟩:=Ao r3;have h4:=(EJ hT Ru r4).2;obtain ⟨_,i5,r5,r3⟩:=Ao r3;injection r3 with _ r3
      exact r3 ▸ (A6 hT h4 (by decide) r5).2
    · injection r3 with _ r3
      exact r3 ▸ h2
   refine Mf (uS (fun s h=>Ya L h n 0) (fun i t hi=>uQ hT hi hn) (fun i a j hi h=>LF hT hi h) hT 10 [] i3 t h3) (fun dos i4 r4=>?_) (fun dos s h=>⟨_,by rw [Ck L h]⟩);exact Cj (p:=((),As L ⟨i4,0,t⟩ 4 [125])) (g:=fun _ s=>some ((⟨nm,(pr:Int),on,e,dos⟩:Rl),s)) (G9 i4 t 4 [125]) (fun _ _ _=>rfl) (fun _ _ _=>⟨_,rfl⟩)
end
set_option maxHeartbeats 200000
theorem oJ {L:List Tk} {n o:Nat} {nm:List UInt8} {pr:Nat} {s:RS} {r:Rl} {s2:RS} (h:Na L n o nm pr s=some (r,s2)):r.nm=nm:=by
 unfold Na at h;cases h1:DO L [111,110] (Cn L) 11 [] (As L s 4 [123]) with
 | none=>rw [h1] at h;cases h
 | some d1=>
  rw [h1,Kl] at h;cases h2:(if Bf L d1.2 1 [105,102] then ob (CS L n o (BZ d1.2)) (fun e s=>some (e,As L s 4 [59])) else some (wT,d1.2)) with
  | none=>rw [h2] at h;cases h
  | some d2=>
   rw [h2,Kl] at h;cases h3:DO L [100,111] (D6 L n o) 11 [] d2.2 with
   | none=>rw [h3] at h;cases h
   | some d3=>
    rw [h3,Kl] at h;injection h with h
    injection h with h _
    exact h ▸ rfl
theorem oK {L:List Tk} {n o:Nat} {ns:List (List UInt8)} {s:RS} {r:Rl} {s2:RS} (h:KD L n o ns s=some (r,s2)):r.nm=(Ch L ns (As L s 1 [114,117,108,101])).1:=oJ h
theorem lT {L:List Tk} {i:Nat} {nm:List UInt8} {j:Nat} (h:CI L i=.ok nm j):Fo nm=true:=by
 unfold CI at h;split at h
 · split at h
   · rename_i hv
     injection h with h
     exact h ▸ hv
   · cases h
 · cases h
theorem im {L:List Tk} {n:Nat} {rs:List Rl} {i:Nat} {r:Rl} {j:Nat} (h:Jr L n rs i=.ok r j):Fo r.nm=true:=by
 rw [LH] at h;split at h
 · cases h
 · unfold M9 at h
   obtain ⟨_,i0,r0,h⟩:=Ao h;obtain ⟨nm,i1,r1,h⟩:=Ao h;split at h
   · cases h
   · unfold H9 at h
     obtain ⟨pr,i2,r2,h⟩:=Ao h;obtain ⟨x,i3,r3,h⟩:=Ao h;injection h with h _
     rw [<- h];exact lT r1
theorem oL {L:List Tk} {i t2:Nat} {e2:Int} {c:List UInt8->Bool} {α:Type} {F:List UInt8->Nat->PR α}:((CI L i).bind fun nm j=>if c nm=true then .bad t2 e2 else F nm j)=((CI L i).bind fun nm j=>if c nm=true then .bad t2 e2 else .ok nm j).bind F:=by
 cases CI L i with
 | ok nm j=>
  show (if c nm=true then PR.bad t2 e2 else F nm j)=(if c nm=true then PR.bad t2 e2 else .ok nm j).bind F;split <;> rfl
 | bad t e=>rfl
 | out=>rfl
theorem uV {L:List Tk} (i t:Nat):VR (if B2 L 1 [112,114,105,111,114,105,116,121] i then Hj L 0 100 (i+1) else .ok 0 i) t (IN L ⟨i,0,t⟩):=by
 unfold IN;rw [E9];split
 · exact lF 0 100 (i+1) t
 · rfl
theorem oM {L:List Tk} (hT:TokOK L) {i:Nat} (hi:i < L.length) {a j:Nat} (h:(if B2 L 1 [112,114,105,111,114,105,116,121] i then Hj L 0 100 (i+1) else .ok 0 i)=.ok a j):j < L.length:=by
 split at h
 · rename_i hk
   exact (GQ hT (AG hT hi hk (by decide)) h).2.1
 · injection h with _ h
   exact h ▸ hi
theorem uW {L:List Tk} (hT:TokOK L) {n:Nat} (hn:12 * L.length+10<=n) (nm:List UInt8) (i t:Nat) (hi:i < L.length):ZL (H9 L n nm i) t (aQ L n 0 nm ⟨i,0,t⟩):=by
 unfold aQ H9;have hp:=uV (L:=L) i t;have hl:=fun a j h=>oM hT hi (a:=a) (j:=j) h;generalize IN L ⟨i,0,t⟩=p at hp |-;generalize (if B2 L 1 [112,114,105,111,114,105,116,121] i then Hj L 0 100 (i+1) else .ok 0 i:PR Nat)=r at hp hl |-;cases r with
 | out=>trivial
 | bad t2 e=>
  obtain ⟨⟨i2,hp⟩,he⟩:=hp;obtain ⟨b,hb⟩:=Yg L (s:=p.2) (by rw [hp];exact he) n 0 nm p.1;rw [hb,hp];exact ⟨⟨_,_,rfl⟩,he⟩
 | ok pr i1=>
  have hp:p=(pr,⟨i1,0,t⟩):=hp;have hb:=uU hT hn nm pr i1 t (hl pr i1 rfl);rw [hp,AA];unfold LG;simp only [Z8,AA];exact hb
theorem uX {L:List Tk} (hT:TokOK L) {n:Nat} (hn:12 * L.length+10<=n) {rs:List Rl} (hv:∀ r ∈ rs,Fo r.nm=true) (i t:Nat) (hi:i < L.length) (Pd:¬ (B2 L 1 [114,117,108,101] i=true/\rs.length=40)):ZL (Jr L n rs i) t (KD L n 0 (rs.map (·.nm)) ⟨i,0,t⟩):=by
 rw [LH,if_neg Pd];unfold M9 KD
 have s1:∀ (nm:List UInt8) (s:RS),s.c≠0->∃ b,aQ L n 0 nm s=some (b,s):=fun nm s h=>by
  unfold aQ;rw [fl L h];exact Yg L h n 0 nm 0
 by_cases hk:B2 L 1 [114,117,108,101] i=true
 case neg=>
  have hm:BM L 1 [114,117,108,101] i=.bad (atT L i) 12:=by unfold BM;rw [if_neg hk]
  have hs:As L ⟨i,0,t⟩ 1 [114,117,108,101]=⟨i,12,atT L i⟩:=by unfold As;rw [E9,if_neg hk];rfl
  have s0:(⟨i,12,atT L i⟩:RS).c≠0:=(by decide:(12:Int)≠0);rw [hm,hs];obtain ⟨b,hb⟩:=s1 [] _ s0;unfold sL;rw [aP s0,hb];exact ⟨⟨_,_,rfl⟩,by decide⟩
 have hm:BM L 1 [114,117,108,101] i=.ok () (i+1):=by unfold BM;rw [if_pos hk]
 have h0:=AG hT hi hk (by decide);rw [P7 hk,hm,AA];generalize i+1=i0 at *;rw [oL (c:=fun nm=>rs.any fun r=>r.nm == nm)]
 have hf:=rA (L:=L) (ns:=rs.map (·.nm)) (fun w hw=>by
  obtain ⟨r,hr,rfl⟩:=List.mem_map.1 hw;exact hv r hr) i0 t
 simp only [List.any_map] at hf;unfold sL
 have h1:∀ nm i1,((CI L i0).bind fun nm j=>if (rs.any fun r=>r.nm == nm)=true then .bad (atT L i0) 9 else .ok nm j)=.ok nm i1->i1 < L.length:=fun nm i1 r1=>by
  obtain ⟨nm2,i2,r2,r1⟩:=Ao r1;have h2:=(Dt hT h0 r2).2;split at r1
  · cases r1
  · injection r1 with _ r1
    exact r1 ▸ h2
 have hf:VR ((CI L i0).bind fun nm j=>if (rs.any fun r=>r.nm == nm)=true then .bad (atT L i0) 9 else .ok nm j) t (Ch L (rs.map (·.nm)) ⟨i0,0,t⟩):=hf;generalize Ch L (rs.map (·.nm)) ⟨i0,0,t⟩=p at hf |-;generalize ((CI L i0).bind fun nm j=>if (rs.any fun r=>r.nm == nm)=true then .bad (atT L i0) 9 else .ok nm j)=rr at hf h1 |-;cases rr with
 | out=>trivial
 | bad t2 e=>
  obtain ⟨⟨i2,hf⟩,he⟩:=hf;obtain ⟨b,hb⟩:=s1 p.1 p.2 (by rw [hf];exact he);rw [hb,hf];exact ⟨⟨_,_,rfl⟩,he⟩
 | ok nm i1=>
  have hf:p=(nm,⟨i1,0,t⟩):=hf;have h1:=h1 nm i1 rfl;rw [hf,AA];exact uW hT hn nm i1 t h1
def Yh (L:List Tk) (k:Nat) (s:RS):RS:=if k=40/\Bf L s 1 [114,117,108,101]=true then B9 L s 3 else s
def Km (L:List Tk) (n o:Nat):Nat->List Rl->List (List UInt8)->RS->Option (List Rl×RS)
 | 0,_,_,_=>none
 | m+1,rs,ns,s=>if s.c=0/\(tokAt L s.i).1≠0 then ob (KD L n o ns (Yh L rs.length s)) fun r s2=>Km L n o m (rs++[r]) (ns++[(Ch L ns (As L (Yh L rs.length s) 1 [114,117,108,101])).1]) s2 else some (rs,s)
theorem aR (L:List Tk) (n o m:Nat) (rs:List Rl) (ns:List (List UInt8)) {s:RS} (h:s.c≠0):Km L n o (m+1) rs ns s=some (rs,s):=by
 rw [Km,if_neg (fun hh=>h hh.1)]
theorem rB {L:List Tk} (hT:TokOK L) {n:Nat} (hn:12 * L.length+10<=n):∀ (m:Nat) (rs:List Rl) (i t:Nat),(∀ r ∈ rs,Fo r.nm=true)->i < L.length->ZL (E6 L n m rs i) t (Km L n 0 (m+1) rs (rs.map (·.nm)) ⟨i,0,t⟩):=by
 intro m
 induction m with
 | zero=>intro rs i t _ _;trivial
 | succ m ih=>
  intro rs i t hv hi;rw [E6,Km];by_cases hk:(tokAt L i).1=0
  · rw [if_pos hk,if_neg (fun h=>h.2 hk)]
    rfl
  · rw [if_neg hk,if_pos ⟨rfl,hk⟩]
    unfold Yh;rw [E9];by_cases Pd:B2 L 1 [114,117,108,101] i=true/\rs.length=40
    · rw [if_pos ⟨Pd.2,Pd.1⟩,aH]
      have h3:(⟨i,3,atT L i⟩:RS).c≠0:=(by decide:(3:Int)≠0);have he:Jr L n rs i=.bad (atT L i) 3:=by rw [LH,if_pos Pd]
      rw [he];obtain ⟨b,hb⟩:=oI L h3 n 0 (rs.map (·.nm));rw [hb,Ye,aR L n 0 m _ _ h3];exact ⟨⟨_,_,rfl⟩,by decide⟩
    · rw [if_neg (fun h=>Pd ⟨h.2,h.1⟩)]
      have hr:=uX hT hn hv i t hi Pd;refine Mf hr (fun r i1 r1=>?_) (fun r s h=>⟨_,aR L n 0 m _ _ h⟩);rw [r1] at hr;have hr:KD L n 0 (rs.map (·.nm)) ⟨i,0,t⟩=some (r,⟨i1,0,t⟩):=hr;have hnm:=oK hr;rw [<- hnm]
      have:=ih (rs++[r]) i1 t (fun x hx=>by
       rcases List.mem_append.1 hx with hx | hx
       · exact hv x hx
       · rw [List.mem_singleton.1 hx];exact im r1) (OS hT hi r1).1
      rw [y'] at this;exact this
end Go.HH
