/-
  What the law needs, packed: PF PG PH PI PK PL PM.
-/
import Derived.Test.YthjcaihemgllaaaGreatDoorJ37
open Option renaming getD->Aa0
open List renaming getElem?_cons_zero->Aa1,getElem?_cons_succ->Aa2,getElem?_toArray->Aa3,filterMap_cons->Aa9,filterMap_nil->Aaa,not_mem_nil->Aac,mem_cons->Aad,foldlM_cons->Aag,foldlM_nil->Aai,drop_of_length_le->Aaj,set_cons_zero->Aal,set_cons_succ->Aam,range->Aan,all_eq_true->Aaq,mem_range->Aas
open Go.Proofs.Tryz renaming f188->Aa4,f178->Aa5,f147->Aa6,f164->Aa7,f171->Aab,f141->Aao,f104->Aap
open Nat renaming le_of_ble_eq_true->Aa8,le_refl->Aah,reduceLT->Aak
open Go.IntKind renaming wrap->Aae
open Bool renaming false_eq_true->Aaf,and_eq_true->Aar,true_and->Aat,and_true->Aau
namespace Go.HH
open Go Go.Proofs
set_option maxRecDepth 100000
set_option maxHeartbeats 4000000
set_option linter.unusedSimpArgs false
set_option linter.unusedVariables false
theorem Lu:Be CC Aa7 (Aa7.body.getD .skip)=true:=by kernel_rfl
theorem KE:CC.P.funcs[164]?=some Aa7:=by kernel_rfl
theorem Fu {x:List PV} {b:List PBox} (h:x.length.ble Aa7.ntmps=true):Ad CC 164 x b=CM CC Aa7.results.toList (Co CC (Aa7.body.getD .skip) ⟨x,b⟩):=Ah (fn:=Aa7) (c:=Aa7.body.getD .skip) rfl rfl KE rfl Lu (Aa8 h)
theorem KF:Be CC Aa6 (Aa6.body.getD .skip)=true:=by kernel_rfl
theorem JV:CC.P.funcs[147]?=some Aa6:=by kernel_rfl
theorem E2 {x:List PV} {b:List PBox} (h:x.length.ble Aa6.ntmps=true):Ad CC 147 x b=CM CC Aa6.results.toList (Co CC (Aa6.body.getD .skip) ⟨x,b⟩):=Ah (fn:=Aa6) (c:=Aa6.body.getD .skip) rfl rfl JV rfl KF (Aa8 h)
theorem CY {id:Nat} {L:List Tk} {i o:Nat} {RL:PV} (hR:RL.pure=true) (ho:o < 100) (k:Nat) (tx:List UInt8) (a:Nat):TS 140 [.agg [.int .i64 (k:Int),.str tx,.int .i64 (a:Int)]] id L RL i o (.tup []) i (o+1):=by
 refine A4 hR (fun n=>by simp [PV.under,Ar]) fun bx hid hc=>?_;have hw:Aae .i64 ((o:Int)+1)=((o+1:Nat):Int):=by rw [wrap_i64 ⟨by omega,by omega⟩];omega
 have hg:¬ (((o+1:Nat):Int) > 100):=by omega
 rw [EF rfl];unfold Ap;rw [<- An];simp only [Ab,Ac,Tryz.f140,Aa0];simp only [S9,Ag,seval,PY,PZ,AS,hw,hg,hid];exact ⟨_,rfl⟩
theorem Jd {id:Nat} {L:List Tk} {i o:Nat} {RL:PV} (hR:RL.pure=true) (ho:o=100) (k:Nat) (tx:List UInt8) (a:Nat):M5 140 [.agg [.int .i64 (k:Int),.str tx,.int .i64 (a:Int)]] id L RL i o a 22 i (o+1):=by
 refine Aw hR fun bx hid hc=>?_;have hw:Aae .i64 ((o:Int)+1)=((o+1:Nat):Int):=by rw [wrap_i64 ⟨by omega,by omega⟩];omega
 have hg:(((o+1:Nat):Int) > 100):=by omega
 have t3:=Am hid hc hR (CD (i:=i) (o:=o+1) (L:=L) hR k tx a 22);rw [EF rfl];unfold Ap;rw [<- An];rw [<- AL] at t3;simp only [Ab,Ac,Tryz.f140,Aa0];simp only [S9,Ag,seval,PY,PZ,AS,hw,hg,t3,hid];exact ⟨_,rfl⟩
theorem jx (k n:Int):A9 CC 24 [(0,.int .i64 k),(1,.int .i64 n)]=some (.agg [.int .i64 k,.int .i64 n,.str []]):=by kernel_rfl
theorem jy (k n:Int):A9 CC 29 [(0,.int .i64 1),(4,.agg [.int .i64 k,.int .i64 n,.str []])]=some (.agg [.int .i64 1,.int .i64 0,.int .i64 0,.str [],.int .i64 k,.int .i64 n,.str [],.int .i64 0,.str [],.str [],.nils]):=by kernel_rfl
theorem jz (k:Int) (xs:List PV):A9 CC 29 [(0,.int .i64 k),(6,.sl xs)]=some (.agg [.int .i64 k,.int .i64 0,.int .i64 0,.str [],.int .i64 0,.int .i64 0,.str [],.int .i64 0,.str [],.str [],.sl xs]):=by kernel_rfl
theorem Oo (k n:Int) (bx):Ai CC (Ad CC) 104 [.int .i64 k,.int .i64 n] bx=some (.ret (BE (El k n)),bx):=by
 suffices h:∃ b,Ad CC 104 [.int .i64 k,.int .i64 n] []=some (.ret (BE (El k n)),b) by
  obtain ⟨b,h⟩:=h;exact Aq rfl (by simp only [SA,Aau]) h (BH _)
 rw [Ah (fn:=Aap) (c:=Aap.body.getD .skip) rfl rfl M6 rfl Om (Aa8 rfl)];unfold El BE A8 zK;rw [<- An];simp only [Ab,Ac,Aap,Aa0];simp only [S9,Ag,seval,ZC,CX,Aal,Aam,jx,jy];exact ⟨_,rfl⟩
theorem TU (k:Int) (kids:List Tr) (bx):Ai CC (Ad CC) 141 [.int .i64 k,.sl (A8 kids)] bx=some (.ret (BE (Bd k kids)),bx):=by
 suffices h:∃ b,Ad CC 141 [.int .i64 k,.sl (A8 kids)] []=some (.ret (BE (Bd k kids)),b) by
  obtain ⟨b,h⟩:=h;exact Aq rfl (by simp only [SA,SE,AY,Aau]) h (BH _)
 rw [Ah (fn:=Aao) (c:=Aao.body.getD .skip) rfl rfl RM rfl TT (Aa8 rfl)];unfold Bd BE zK zV;generalize A8 kids=xs;rw [<- An];simp only [Ab,Ac,Aao,Aa0];simp only [S9,Ag,seval,ZC,CX,Aal,Aam,jz];exact ⟨_,rfl⟩
theorem wv:A9 CC 150 [(0,.str [109,111,110]),(1,.str [116,117,101]),(2,.str [119,101,100]),(3,.str [116,104,117]),(4,.str [102,114,105]),(5,.str [115,97,116]),(6,.str [115,117,110])]=some (.agg (Cw.map .str)):=by kernel_rfl
theorem zf:∀ k:Nat,k < 7->DA CC 150 (.agg (Cw.map .str)) (.int .i64 (k:Int))=some (.str (Cw.getD k []))
 | 0,_=>by kernel_rfl
 | 1,_=>by kernel_rfl
 | 2,_=>by kernel_rfl
 | 3,_=>by kernel_rfl
 | 4,_=>by kernel_rfl
 | 5,_=>by kernel_rfl
 | 6,_=>by kernel_rfl
 | k+7,h=>by omega
theorem Iu {L:List Tk} {k i:Nat}:∀ {l:List (List UInt8)} {n r:Nat},C0 L k i l n=some r->n<=r/\r < n+l.length/\Br L k (l.getD (r - n) []) i=true
 | [],n,r,h=>by cases h
 | w :: l,n,r,h=>by
  unfold C0 at h;split at h
  · rename_i hw
    injection h with h
    subst h;exact ⟨Aah _,by simp,by rw [Nat.sub_self];exact hw⟩
  · obtain ⟨h1,h2,h3⟩:=Iu h
    refine ⟨by omega,by simp only [List.length_cons];omega,?_⟩;rw [show r - n=(r - (n+1))+1 from by omega];exact h3
def jA (L:List Tk) (RL:PV) (bx:List PBox) (id i o:Nat) (r:Option Nat) (z:Option (Ex×St)):Prop:=match r with
 | some k=>∃ e',z=some (.ret,⟨e',BX bx id (Ap L (i+1) o RL) []⟩)/\getT e' 2=.int .i64 (k:Int)
 | none=>∃ e',z=some (.exit 0,⟨e',BX bx id (Ap L i o RL) []⟩)/\getT e' 0=.bp id 0
theorem Yr (Lc:Code) (hL:Lc=Ab Aa7 [1,0,1,0]) {id:Nat} {L:List Tk} {i o:Nat} {RL:PV} (hR:RL.pure=true) (hi:i < L.length) (hT:TokOK L) (bx:List PBox) (hid:id < bx.length) (hc:DN bx):∀ (m k:Nat) (e:List PV),k+m=7->getT e 0=.bp id 0->getT e 5=.agg (Cw.map .str)->getT e 6=.int .i64 (k:Int) ->
 jA L RL bx id i o (C0 L 1 i (Cw.drop k) k) (Co CC Lc ⟨e,BX bx id (Ap L i o RL) []⟩):=by
 intro m
 induction m with
 | zero=>
  intro k e hk h0 h5 h6;rw [A3 (Ab Aa7 [1,0,1,0,0]) hL];have nb:¬ ((k:Int) < 7):=by omega
  rw [show Cw.drop k=[] from Aaj (by rw [show Cw.length=7 from rfl];omega)];unfold jA C0 Ap;rw [<- An];simp only [Ab,Ac,Aa7,Aa0];simp only [S9,Ag,seval,PY,PZ,AS,h0,h5,h6,nb,hid];exact ⟨_,rfl,by simp only [S7,Ag,seval,h0]⟩
 | succ m ih=>
  intro k e hk h0 h5 h6;rw [A3 (Ab Aa7 [1,0,1,0,0]) hL];have nb:((k:Int) < 7):=by omega
  have Qp:=zf k (by omega)
  have IU:Cw.drop k=Cw.getD k [] :: Cw.drop (k+1):=by
   have hl:k < Cw.length:=by rw [show Cw.length=7 from rfl];omega
   rw [List.drop_eq_getElem_cons hl,List.getD_eq_getElem?_getD,List.getElem?_eq_getElem hl];rfl
  have key:=fun e=>ih (k+1) e (by omega);have hw:Aae .i64 ((k:Int)+1)=((k+1:Nat):Int):=by rw [wrap_i64 ⟨by omega,by omega⟩];omega
  rw [IU];generalize Cw.getD k []=wd at *;unfold C0;cases mA:Br L 1 wd i with
  | true=>
   have t1:=Aa hid hc hR (As (id:=id) (o:=o) hR hi hT wd mA);unfold jA Ap;simp only [if_true];rw [<- An];rw [<- AL] at t1;simp only [Ab,Ac,Aa7,Aa0];simp only [S9,Ag,seval,PY,PZ,AS,h0,h5,h6,nb,Qp,t1,hid];exact ⟨_,rfl,by simp only [S7,Ag,seval]⟩
  | false=>
   have t1:=Aa hid hc hR (Ae (id:=id) (o:=o) hR hi hT wd mA);simp only [Aaf,if_false];generalize C0 L 1 i (Cw.drop (k+1)) (k+1)=pw at *;unfold Ap at key |-;rw [<- An];rw [<- AL] at t1;rw [<- An] at key;simp only [Ab,Ac,Aa7,Aa0];simp only [S9,Ag,seval,PY,PZ,AS,h0,h5,h6,nb,Qp,t1,hw,hid];refine key _ ?_ ?_ ?_
   · simp only [S7,Ag,seval,h0]
   · simp only [S7,Ag,seval,h5]
   · simp only [S7,Ag,seval]
theorem nU {id:Nat} {L:List Tk} {i o:Nat} {RL:PV} (hR:RL.pure=true) (hi:i < L.length) (hT:TokOK L):Xs 164 [] id L RL i o (fun n=>.int .i64 ((n:Nat):Int)) (PS L i):=by
 unfold PS;cases hp:C0 L 1 i Cw 0 with
 | some k=>
  refine Bh (A4 hR (fun n=>by simp [PV.under]) fun bx hid hc=>?_);have Af:=fun e=>Yr _ rfl (o:=o) hR hi hT bx hid hc 7 0 e rfl;rw [show Cw.drop 0=Cw from rfl,hp] at Af;rw [Fu rfl];simp only [Ab,Ac,Aa7,Aa0] at Af |-;unfold Ap at Af |-;rw [<- An];rw [<- An] at Af;simp only [S9,Ag,seval,PY,PZ,AS,wv,hid];generalize hE:Hp _ _=z
  have hP:jA L RL bx id i o (some k) z:=by
   rw [<- hE];refine Af _ ?_ ?_ ?_
   · simp only [S7,Ag,seval]
   · simp only [S7,Ag,seval]
   · simp only [S7,Ag,seval] <;> rfl
  obtain ⟨e',he,h2⟩:=hP;subst he;clear hE Af;unfold Ap;simp only [S9,Ag,seval,PY,PZ,AS,h2,hid];exact ⟨_,rfl⟩
 | none=>
  refine AK ⟨i,o,Aw hR fun bx hid hc=>?_⟩;have Af:=fun e=>Yr _ rfl (o:=o) hR hi hT bx hid hc 7 0 e rfl;rw [show Cw.drop 0=Cw from rfl,hp] at Af;have t2:=Aa hid hc hR (AA (id:=id) (o:=o) hR hi);have t3:=Am hid hc hR (CD (id:=id) (i:=i) (o:=o) (L:=L) hR (tokAt L i).1 (tokAt L i).2.1 (tokAt L i).2.2 12);rw [Fu rfl];simp only [Ab,Ac,Aa7,Aa0] at Af |-;unfold Ap atT at *;rw [<- An];rw [<- An] at Af;rw [<- AL] at t2 t3;simp only [S9,Ag,seval,PY,PZ,AS,wv,hid];generalize hE:Hp _ _=z
  have hP:jA L RL bx id i o none z:=by
   rw [<- hE];refine Af _ ?_ ?_ ?_
   · simp only [S7,Ag,seval]
   · simp only [S7,Ag,seval]
   · simp only [S7,Ag,seval] <;> rfl
  obtain ⟨e',he,h0⟩:=hP;subst he;clear hE Af;unfold Ap;simp only [S9,Ag,seval,PY,PZ,AS,h0,t2,t3,hid];exact ⟨_,rfl⟩
theorem zg:∀ k:Nat,k < 7->J9 .shl .i64 1 (k:Int)=some (.int .i64 ((2 ^ k:Nat):Int))
 | 0,_=>by kernel_rfl
 | 1,_=>by kernel_rfl
 | 2,_=>by kernel_rfl
 | 3,_=>by kernel_rfl
 | 4,_=>by kernel_rfl
 | 5,_=>by kernel_rfl
 | 6,_=>by kernel_rfl
 | k+7,h=>by omega
theorem nV:((Aan 128).all fun m=>(Aan 7).all fun k=>decide (LA .or .i64 ((m:Nat):Int) ((2 ^ k:Nat):Int)=some ((m ||| 2 ^ k:Nat):Int)) && decide ((m ||| 2 ^ k) < 128))=true:=by decide +kernel
theorem or7 {m k:Nat} (hm:m < 128) (hk:k < 7):LA .or .i64 (m:Int) ((2 ^ k:Nat):Int)=some ((m ||| 2 ^ k:Nat):Int)/\(m ||| 2 ^ k) < 128:=by
 have h:=nV;rw [Aaq] at h;have h:=h m (Aas.2 hm);rw [Aaq] at h;have h:=h k (Aas.2 hk);simpa using h
theorem nW {L:List Tk} {i:Nat} {a j:Nat} (hT:TokOK L) (hi:i < L.length) (h:PS L i=.ok a j):i < j/\j < L.length/\a < 7:=by
 unfold PS at h;split at h
 · rename_i k hk
   injection h with h1 h2
   obtain ⟨_,h3,h4⟩:=Iu hk;have:=AM hT hi h4 (by decide);have h5:Cw.length=7:=rfl;omega
 · cases h
theorem Vg (Lc:Code) (hL:Lc=Ab Aa6 [1,1,0]) {id:Nat} {L:List Tk} {o:Nat} {RL:PV} (hR:RL.pure=true) (hT:TokOK L):∀ (n m i:Nat),m < 128->i < L.length->match Hb L n m i with
 | .ok v j=>v < 128/\i < j/\j < L.length/\∀ (bx:List PBox) (hid:id < bx.length) (hc:DN bx) (e:List PV),getT e 0=.bp id 0->getT e 3=.int .i64 (m:Int)->∃ e',Co CC Lc ⟨e,BX bx id (Ap L i o RL) []⟩=some (.ret,⟨e',BX bx id (Ap L j o RL) []⟩)/\getT e' 2=.int .i64 (v:Int)
 | .bad t c=>∃ i' o',∀ (bx:List PBox) (hid:id < bx.length) (hc:DN bx) (e:List PV),getT e 0=.bp id 0->getT e 3=.int .i64 (m:Int)->∃ e' ys',Co CC Lc ⟨e,BX bx id (Ap L i o RL) []⟩=some (.pan (B7 t c),⟨e',BX bx id (Ap L i' o' RL) ys'⟩)
 | .out=>True:=by
 intro n
 induction n with
 | zero=>intro m i hm hi;unfold Hb;trivial
 | succ n ih=>
  intro m i hm hi;have h0:=nU (id:=id) (o:=o) hR hi hT;unfold Hb;cases r0:PS L i with
  | out=>trivial
  | bad t c=>
   rw [r0] at h0;obtain ⟨i',o',h0⟩:=h0;refine ⟨i',o',fun bx hid hc e g0 g3=>?_⟩;have t0:=Am hid hc hR h0;rw [A3 (Ab Aa6 [1,1,0,0]) hL];unfold Ap;rw [<- An];rw [<- AL] at t0;simp only [Ab,Ac,Aa6,Aa0];simp only [S9,Ag,seval,PY,PZ,AS,g0,g3,t0,hid];exact ⟨_,_,rfl⟩
  | ok k i1=>
   rw [r0] at h0;have j0:=nW hT hi r0;have BF:=j0.2.1;have vw:=zg k j0.2.2;obtain ⟨hor,Bz⟩:=or7 hm j0.2.2;dsimp only [Au];cases hk:Br L 4 [44] i1 with
   | false=>
    simp only [Aaf,if_false];refine ⟨Bz,j0.1,BF,fun bx hid hc e g0 g3=>?_⟩;have t0:=Aa hid hc hR h0;have t1:=Aa hid hc hR (AQ (id:=id) (o:=o) hR BF hT _ hk);rw [A3 (Ab Aa6 [1,1,0,0]) hL];unfold Ap;rw [<- An];rw [<- AL] at t0 t1;simp only [Ab,Ac,Aa6,Aa0];simp only [S9,Ag,seval,PY,PZ,AS,g0,g3,t0,t1,vw,hor,hid];exact ⟨_,rfl,by simp only [S7,Ag,seval]⟩
   | true=>
    simp only [if_true];have Gu:=AM hT BF hk (by decide);have key:=ih (m ||| 2 ^ k) (i1+1) Bz Gu;cases r2:Hb L n (m ||| 2 ^ k) (i1+1) with
    | out=>trivial
    | ok v j=>
     rw [r2] at key;obtain ⟨q1,q2,q3,key⟩:=key;refine ⟨q1,by omega,q3,fun bx hid hc e g0 g3=>?_⟩;have key:=key bx hid hc;have t0:=Aa hid hc hR h0;have t1:=Aa hid hc hR (Bb (id:=id) (o:=o) hR BF hT _ hk);rw [A3 (Ab Aa6 [1,1,0,0]) hL];unfold Ap at key |-;rw [<- An];rw [<- AL] at t0 t1;rw [<- An] at key;simp only [Ab,Ac,Aa6,Aa0];simp only [S9,Ag,seval,PY,PZ,AS,g0,g3,t0,t1,vw,hor,hid];refine key _ ?_ ?_
     · simp only [S7,Ag,seval,g0]
     · simp only [S7,Ag,seval]
    | bad t c=>
     rw [r2] at key;obtain ⟨i',o',key⟩:=key;refine ⟨i',o',fun bx hid hc e g0 g3=>?_⟩;have key:=key bx hid hc;have t0:=Aa hid hc hR h0;have t1:=Aa hid hc hR (Bb (id:=id) (o:=o) hR BF hT _ hk);rw [A3 (Ab Aa6 [1,1,0,0]) hL];unfold Ap at key |-;rw [<- An];rw [<- AL] at t0 t1;rw [<- An] at key;simp only [Ab,Ac,Aa6,Aa0];simp only [S9,Ag,seval,PY,PZ,AS,g0,g3,t0,t1,vw,hor,hid];refine key _ ?_ ?_
     · simp only [S7,Ag,seval,g0]
     · simp only [S7,Ag,seval]
theorem Ys {id:Nat} {L:List Tk} {i o:Nat} {RL:PV} (hR:RL.pure=true) (hi:i < L.length) (hT:TokOK L):Xs 147 [] id L RL i o (fun n=>.int .i64 ((n:Nat):Int)) (Kq L i):=by
 have Af:=Vg _ rfl (id:=id) (o:=o) hR hT (L.length+1) 0 i (by decide) hi;unfold Kq;cases r0:Hb L (L.length+1) 0 i with
 | out=>exact AT
 | ok v j=>
  rw [r0] at Af;obtain ⟨_,_,_,Af⟩:=Af;refine Bh (A4 hR (fun n=>by simp [PV.under]) fun bx hid hc=>?_);have Af:=Af bx hid hc;rw [E2 rfl];simp only [Ab,Ac,Aa6,Aa0] at Af |-;unfold Ap at Af |-;rw [<- An];rw [<- An] at Af;simp only [S9,Ag,seval,PY,PZ,AS,hid];generalize hE:Hp _ _=z
  have hP:∃ e',z=some (.ret,⟨e',BX bx id (.cells 92 [.sl (Bj L),.int .i64 ((j:Nat):Int),.int .i64 ((o:Nat):Int),RL]) []⟩)/\getT e' 2=.int .i64 (v:Int):=by
   rw [<- hE];refine Af _ ?_ ?_
   · simp only [S7,Ag,seval]
   · simp only [S7,Ag,seval] <;> rfl
  obtain ⟨e',he,h2⟩:=hP;subst he;clear hE Af;simp only [S9,Ag,seval,PY,PZ,AS,h2,hid];exact ⟨_,rfl⟩
 | bad t c=>
  rw [r0] at Af;obtain ⟨i',o',Af⟩:=Af;refine AK ⟨i',o',Aw hR fun bx hid hc=>?_⟩;have Af:=Af bx hid hc;rw [E2 rfl];simp only [Ab,Ac,Aa6,Aa0] at Af |-;unfold Ap at Af |-;rw [<- An];rw [<- An] at Af;simp only [S9,Ag,seval,PY,PZ,AS,hid];generalize hE:Hp _ _=z
  have hP:∃ e' ys',z=some (.pan (B7 t c),⟨e',BX bx id (.cells 92 [.sl (Bj L),.int .i64 ((i':Nat):Int),.int .i64 ((o':Nat):Int),RL]) ys'⟩):=by
   rw [<- hE];refine Af _ ?_ ?_
   · simp only [S7,Ag,seval]
   · simp only [S7,Ag,seval] <;> rfl
  obtain ⟨e',ys',he⟩:=hP;subst he;clear hE Af;simp only [S9,Ag,seval,PY,PZ,AS,hid];exact ⟨_,rfl⟩
theorem KG {L:List Tk} {i:Nat} {a j:Nat} (hT:TokOK L) (hi:i < L.length) (h:Kq L i=.ok a j):i < j/\j < L.length/\a < 128:=by
 have Af:=Vg (RL:=.nils) _ rfl (id:=0) (o:=0) rfl hT (L.length+1) 0 i (by decide) hi;unfold Kq at h;rw [h] at Af;exact ⟨Af.2.1,Af.2.2.1,Af.1⟩
theorem fH:Jy CC Aa4 (Aa4.body.getD .skip)=true:=by kernel_rfl
theorem fI:Be CC Aa4 (Aa4.body.getD .skip)=false:=by kernel_rfl
theorem fJ:CC.P.funcs[188]?=some Aa4:=by kernel_rfl
theorem TV:CL CC (opsOf (Ab Aa4 [1,1,0]))=false:=by kernel_rfl
theorem aL:((BO (opsOf (Ab Aa4 [1,1,0]))).all fun l=>(Aan (opsOf (Ab Aa4 [1,1,0])).size).all fun j=>l.contains j)=true:=by kernel_rfl
theorem aM:(BO (opsOf (Ab Aa4 [1,1,0]))).isEmpty=false:=by kernel_rfl
theorem RO:(opsOf (Ab Aa4 [1,1,0])).size=13:=by kernel_rfl
def Fa (bx:List PBox) (id:Nat) (L:List Tk) (i:Nat):List (Nat×Nat×PV):=[(0,8,.bp id 0),(1,9,.bp id 0),(2,10,.bp id 0),(3,11,.sl (Bj L)),(4,12,.bp id 0),(5,13,.bp id 0),(6,14,.bp id 1),(7,15,.int .i64 (i:Int)),(8,16,.int .i64 ((i+1:Nat):Int)),(9,17,.ip [.int .i64 ((tokAt L (i+1)).1:Int),.str (tokAt L (i+1)).2.1,.int .i64 ((tokAt L (i+1)).2.2:Int)]),(10,18,.agg [.int .i64 ((tokAt L (i+1)).1:Int),.str (tokAt L (i+1)).2.1,.int .i64 ((tokAt L (i+1)).2.2:Int)]),(11,3,.bp bx.length 0)]
def FF (bx:List PBox) (id:Nat) (L:List Tk) (i o:Nat) (RL:PV) (D:Nat->Bool):List PBox:=BX bx id (Ap L i o RL) (if D 12 then [.cells 80 [.int .i64 ((tokAt L (i+1)).1:Int),.str (tokAt L (i+1)).2.1,.int .i64 ((tokAt L (i+1)).2.2:Int)]] else if D 11 then [.cells 80 [.int .i64 0,.str [],.int .i64 0]] else [])
theorem jB (bx:List PBox) (id:Nat) (L:List Tk) (i:Nat):(Fa bx id L i).Pairwise (fun x y=>x.1≠y.1/\x.2.1≠y.2.1):=by unfold Fa;simp
theorem nX {bx:List PBox} {id:Nat} {L:List Tk} {i o:Nat} {RL:PV} {D:Nat->Bool} (hid:id < bx.length):(FF bx id L i o RL D)[id]?=some (Ap L i o RL):=Wg hid
theorem aN {bx:List PBox} {id:Nat} {L:List Tk} {i o:Nat} {RL:PV} (hR:RL.pure=true) (hT:TokOK L) (hid:id < bx.length) (Gu:i+1 < L.length) (e:List PV) (h0:getT e 0=.bp id 0) :
 ∃ e',drawAll CC (Ad CC) (opsOf (Ab Aa4 [1,1,0])) ⟨e,BX bx id (Ap L i o RL) []⟩=some (.normal,⟨e',BX bx id (Ap L i o RL) [.cells 80 [.int .i64 ((tokAt L (i+1)).1:Int),.str (tokAt L (i+1)).2.1,.int .i64 ((tokAt L (i+1)).2.2:Int)]]⟩)/\getT e' 0=.bp id 0/\getT e' 3=.bp bx.length 0:=by
 refine ⟨_,Q8 (e0:=e) (L:=Fa bx id L i) (bxOf:=FF bx id L i o RL) aL aM (fun D j op Bc hD Gz Mw=>?_) (by unfold FF Fa;simp [Bv]) (r:=⟨Bv e (fun _=>true) (Fa bx id L i),BX bx id (Ap L i o RL) [.cells 80 [.int .i64 ((tokAt L (i+1)).1:Int),.str (tokAt L (i+1)).2.1,.int .i64 ((tokAt L (i+1)).2.2:Int)]]⟩) (fun D hD=>?_),?_,?_⟩
 · have AS:Al [PV.bp id 0]=false:=rfl
   have hcl12:D 12=true->D 11=true:=fun h=>Mw 12 _ rfl h ⟨11,.data⟩ (by simp [opsOf,Ab,Ac,Aa4]) rfl
   have hj:j < 13:=by
    have:=(Array.getElem?_eq_some_iff.1 Bc).1;rw [RO] at this;exact this
   have hw:Aae .i64 ((i:Int)+1)=((i+1:Nat):Int):=by rw [wrap_i64 ⟨by omega,by have:=hT.len;omega⟩];omega
   have hg:=cL Gu;unfold Oe at hg;have D3:¬ (((i+1:Nat):Int) < 0):=by omega
   have hn:((i+1:Nat):Int).toNat=i+1:=by omega
   have Jw:=jB bx id L i;have z0:getT (Bv e D (Fa bx id L i)) 0=.bp id 0:=by rw [G8 e D 0 _ (by unfold Fa;simp)];exact h0
   have Hn:=nX (L:=L) (i:=i) (o:=o) (RL:=RL) (D:=D) hid;unfold Ap at Hn;have hlenB:D 11=false->D 12=false->(FF bx id L i o RL D).length=bx.length:=fun a b=>by unfold FF;rw [a,b];simp [F7]
   by_cases e0:j=0
   · subst e0
     simp only [opsOf,Ab,Ac,Aa4,Aa0,Aa3,Aa2,Aa1] at Bc;injection Bc with Bc
     subst Bc;refine ⟨rfl,fun al=>?_⟩;rw [<- B3 e D 0 8 (.bp id 0) hD _ (by unfold Fa;simp) Jw];have hb:FF bx id L i o RL (DQ D 0)=FF bx id L i o RL D:=by unfold FF;rw [B8 (by decide),B8 (by decide)]
     rw [hb];generalize FF bx id L i o RL D=Bx at *;generalize Bv e D (Fa bx id L i)=E at *;rw [<- NS];simp only [S9,I6,seval,PY,PZ,AS,z0,Hn,hg,D3,hn,hw,hid];exact ⟨_,rfl⟩
   by_cases e1:j=1
   · subst e1
     simp only [opsOf,Ab,Ac,Aa4,Aa0,Aa3,Aa2,Aa1] at Bc;injection Bc with Bc
     subst Bc;refine ⟨rfl,fun al=>?_⟩;have d0:D 0=true:=Gz ⟨0,.data⟩ (by simp) rfl;have z8:getT (Bv e D (Fa bx id L i)) 8=.bp id 0:=BU e D 0 8 _ d0 _ (by unfold Fa;simp) Jw;rw [<- B3 e D 1 9 (.bp id 0) hD _ (by unfold Fa;simp) Jw];have hb:FF bx id L i o RL (DQ D 1)=FF bx id L i o RL D:=by unfold FF;rw [B8 (by decide),B8 (by decide)]
     rw [hb];generalize FF bx id L i o RL D=Bx at *;generalize Bv e D (Fa bx id L i)=E at *;rw [<- NS];simp only [S9,I6,seval,PY,PZ,AS,z0,Hn,hg,D3,hn,hw,z8,hid];exact ⟨_,rfl⟩
   by_cases e2:j=2
   · subst e2
     simp only [opsOf,Ab,Ac,Aa4,Aa0,Aa3,Aa2,Aa1] at Bc;injection Bc with Bc
     subst Bc;refine ⟨rfl,fun al=>?_⟩;have d1:D 1=true:=Gz ⟨1,.data⟩ (by simp) rfl;have z9:getT (Bv e D (Fa bx id L i)) 9=.bp id 0:=BU e D 1 9 _ d1 _ (by unfold Fa;simp) Jw;rw [<- B3 e D 2 10 (.bp id 0) hD _ (by unfold Fa;simp) Jw];have hb:FF bx id L i o RL (DQ D 2)=FF bx id L i o RL D:=by unfold FF;rw [B8 (by decide),B8 (by decide)]
     rw [hb];generalize FF bx id L i o RL D=Bx at *;generalize Bv e D (Fa bx id L i)=E at *;rw [<- NS];simp only [S9,I6,seval,PY,PZ,AS,z0,Hn,hg,D3,hn,hw,z9,hid];exact ⟨_,rfl⟩
   by_cases e3:j=3
   · subst e3
     simp only [opsOf,Ab,Ac,Aa4,Aa0,Aa3,Aa2,Aa1] at Bc;injection Bc with Bc
     subst Bc;refine ⟨rfl,fun al=>?_⟩;have d2:D 2=true:=Gz ⟨2,.data⟩ (by simp) rfl;have z10:getT (Bv e D (Fa bx id L i)) 10=.bp id 0:=BU e D 2 10 _ d2 _ (by unfold Fa;simp) Jw;rw [<- B3 e D 3 11 (.sl (Bj L)) hD _ (by unfold Fa;simp) Jw];have hb:FF bx id L i o RL (DQ D 3)=FF bx id L i o RL D:=by unfold FF;rw [B8 (by decide),B8 (by decide)]
     rw [hb];generalize FF bx id L i o RL D=Bx at *;generalize Bv e D (Fa bx id L i)=E at *;rw [<- NS];simp only [S9,I6,seval,PY,PZ,AS,z0,Hn,hg,D3,hn,hw,z10,hid];exact ⟨_,rfl⟩
   by_cases e4:j=4
   · subst e4
     simp only [opsOf,Ab,Ac,Aa4,Aa0,Aa3,Aa2,Aa1] at Bc;injection Bc with Bc
     subst Bc;refine ⟨rfl,fun al=>?_⟩;rw [<- B3 e D 4 12 (.bp id 0) hD _ (by unfold Fa;simp) Jw];have hb:FF bx id L i o RL (DQ D 4)=FF bx id L i o RL D:=by unfold FF;rw [B8 (by decide),B8 (by decide)]
     rw [hb];generalize FF bx id L i o RL D=Bx at *;generalize Bv e D (Fa bx id L i)=E at *;rw [<- NS];simp only [S9,I6,seval,PY,PZ,AS,z0,Hn,hg,D3,hn,hw,hid];exact ⟨_,rfl⟩
   by_cases e5:j=5
   · subst e5
     simp only [opsOf,Ab,Ac,Aa4,Aa0,Aa3,Aa2,Aa1] at Bc;injection Bc with Bc
     subst Bc;refine ⟨rfl,fun al=>?_⟩;have d4:D 4=true:=Gz ⟨4,.data⟩ (by simp) rfl;have z12:getT (Bv e D (Fa bx id L i)) 12=.bp id 0:=BU e D 4 12 _ d4 _ (by unfold Fa;simp) Jw;rw [<- B3 e D 5 13 (.bp id 0) hD _ (by unfold Fa;simp) Jw];have hb:FF bx id L i o RL (DQ D 5)=FF bx id L i o RL D:=by unfold FF;rw [B8 (by decide),B8 (by decide)]
     rw [hb];generalize FF bx id L i o RL D=Bx at *;generalize Bv e D (Fa bx id L i)=E at *;rw [<- NS];simp only [S9,I6,seval,PY,PZ,AS,z0,Hn,hg,D3,hn,hw,z12,hid];exact ⟨_,rfl⟩
   by_cases e6:j=6
   · subst e6
     simp only [opsOf,Ab,Ac,Aa4,Aa0,Aa3,Aa2,Aa1] at Bc;injection Bc with Bc
     subst Bc;refine ⟨rfl,fun al=>?_⟩;have d5:D 5=true:=Gz ⟨5,.data⟩ (by simp) rfl;have z13:getT (Bv e D (Fa bx id L i)) 13=.bp id 0:=BU e D 5 13 _ d5 _ (by unfold Fa;simp) Jw;rw [<- B3 e D 6 14 (.bp id 1) hD _ (by unfold Fa;simp) Jw];have hb:FF bx id L i o RL (DQ D 6)=FF bx id L i o RL D:=by unfold FF;rw [B8 (by decide),B8 (by decide)]
     rw [hb];generalize FF bx id L i o RL D=Bx at *;generalize Bv e D (Fa bx id L i)=E at *;rw [<- NS];simp only [S9,I6,seval,PY,PZ,AS,z0,Hn,hg,D3,hn,hw,z13,hid];exact ⟨_,rfl⟩
   by_cases e7:j=7
   · subst e7
     simp only [opsOf,Ab,Ac,Aa4,Aa0,Aa3,Aa2,Aa1] at Bc;injection Bc with Bc
     subst Bc;refine ⟨rfl,fun al=>?_⟩;have d6:D 6=true:=Gz ⟨6,.data⟩ (by simp) rfl;have z14:getT (Bv e D (Fa bx id L i)) 14=.bp id 1:=BU e D 6 14 _ d6 _ (by unfold Fa;simp) Jw;rw [<- B3 e D 7 15 (.int .i64 (i:Int)) hD _ (by unfold Fa;simp) Jw];have hb:FF bx id L i o RL (DQ D 7)=FF bx id L i o RL D:=by unfold FF;rw [B8 (by decide),B8 (by decide)]
     rw [hb];generalize FF bx id L i o RL D=Bx at *;generalize Bv e D (Fa bx id L i)=E at *;rw [<- NS];simp only [S9,I6,seval,PY,PZ,AS,z0,Hn,hg,D3,hn,hw,z14,hid];exact ⟨_,rfl⟩
   by_cases e8:j=8
   · subst e8
     simp only [opsOf,Ab,Ac,Aa4,Aa0,Aa3,Aa2,Aa1] at Bc;injection Bc with Bc
     subst Bc;refine ⟨rfl,fun al=>?_⟩;have d7:D 7=true:=Gz ⟨7,.data⟩ (by simp) rfl;have z15:getT (Bv e D (Fa bx id L i)) 15=.int .i64 (i:Int):=BU e D 7 15 _ d7 _ (by unfold Fa;simp) Jw;rw [<- B3 e D 8 16 (.int .i64 ((i+1:Nat):Int)) hD _ (by unfold Fa;simp) Jw];have hb:FF bx id L i o RL (DQ D 8)=FF bx id L i o RL D:=by unfold FF;rw [B8 (by decide),B8 (by decide)]
     rw [hb];generalize FF bx id L i o RL D=Bx at *;generalize Bv e D (Fa bx id L i)=E at *;rw [<- NS];simp only [S9,I6,seval,PY,PZ,AS,z0,Hn,hg,D3,hn,hw,z15,hid];exact ⟨_,rfl⟩
   by_cases e9:j=9
   · subst e9
     simp only [opsOf,Ab,Ac,Aa4,Aa0,Aa3,Aa2,Aa1] at Bc;injection Bc with Bc
     subst Bc;refine ⟨rfl,fun al=>?_⟩;have d3:D 3=true:=Gz ⟨3,.data⟩ (by simp) rfl;have z11:getT (Bv e D (Fa bx id L i)) 11=.sl (Bj L):=BU e D 3 11 _ d3 _ (by unfold Fa;simp) Jw;have d8:D 8=true:=Gz ⟨8,.data⟩ (by simp) rfl;have z16:getT (Bv e D (Fa bx id L i)) 16=.int .i64 ((i+1:Nat):Int):=BU e D 8 16 _ d8 _ (by unfold Fa;simp) Jw;rw [<- B3 e D 9 17 (.ip [.int .i64 ((tokAt L (i+1)).1:Int),.str (tokAt L (i+1)).2.1,.int .i64 ((tokAt L (i+1)).2.2:Int)]) hD _ (by unfold Fa;simp) Jw];have hb:FF bx id L i o RL (DQ D 9)=FF bx id L i o RL D:=by unfold FF;rw [B8 (by decide),B8 (by decide)]
     rw [hb];generalize FF bx id L i o RL D=Bx at *;generalize Bv e D (Fa bx id L i)=E at *;rw [<- NS];simp only [S9,I6,seval,PY,PZ,AS,z0,Hn,hg,D3,hn,hw,z11,z16,hid];exact ⟨_,rfl⟩
   by_cases e10:j=10
   · subst e10
     simp only [opsOf,Ab,Ac,Aa4,Aa0,Aa3,Aa2,Aa1] at Bc;injection Bc with Bc
     subst Bc;refine ⟨rfl,fun al=>?_⟩;have d9:D 9=true:=Gz ⟨9,.data⟩ (by simp) rfl;have z17:getT (Bv e D (Fa bx id L i)) 17=.ip [.int .i64 ((tokAt L (i+1)).1:Int),.str (tokAt L (i+1)).2.1,.int .i64 ((tokAt L (i+1)).2.2:Int)]:=BU e D 9 17 _ d9 _ (by unfold Fa;simp) Jw;rw [<- B3 e D 10 18 (.agg [.int .i64 ((tokAt L (i+1)).1:Int),.str (tokAt L (i+1)).2.1,.int .i64 ((tokAt L (i+1)).2.2:Int)]) hD _ (by unfold Fa;simp) Jw];have hb:FF bx id L i o RL (DQ D 10)=FF bx id L i o RL D:=by unfold FF;rw [B8 (by decide),B8 (by decide)]
     rw [hb];generalize FF bx id L i o RL D=Bx at *;generalize Bv e D (Fa bx id L i)=E at *;rw [<- NS];simp only [S9,I6,seval,PY,PZ,AS,z0,Hn,hg,D3,hn,hw,z17,hid];exact ⟨_,rfl⟩
   by_cases e11:j=11
   · subst e11
     simp only [opsOf,Ab,Ac,Aa4,Aa0,Aa3,Aa2,Aa1] at Bc;injection Bc with Bc
     subst Bc;refine ⟨rfl,fun al=>?_⟩;rw [<- B3 e D 11 3 (.bp bx.length 0) hD _ (by unfold Fa;simp) Jw]
     have d12:D 12=false:=by
      cases uD:D 12 with
      | false=>rfl
      | true=>exact absurd (hcl12 uD) (by rw [hD];decide)
     have hl:=hlenB hD d12;have hb:FF bx id L i o RL (DQ D 11)=FF bx id L i o RL D++[.cells 80 [.int .i64 0,.str [],.int .i64 0]]:=by unfold FF;rw [B8 (by decide),UZ,d12,hD];simp [aK]
     rw [hb];generalize FF bx id L i o RL D=Bx at *;generalize Bv e D (Fa bx id L i)=E at *;rw [<- NS];simp only [S9,I6,seval,PY,PZ,AS,z0,Hn,hg,D3,hn,hw,hl,hid];exact ⟨_,rfl⟩
   by_cases e12:j=12
   · subst e12
     simp only [opsOf,Ab,Ac,Aa4,Aa0,Aa3,Aa2,Aa1] at Bc;injection Bc with Bc
     subst Bc;refine ⟨rfl,fun al=>?_⟩;have d10:D 10=true:=Gz ⟨10,.data⟩ (by simp) rfl;have z18:getT (Bv e D (Fa bx id L i)) 18=.agg [.int .i64 ((tokAt L (i+1)).1:Int),.str (tokAt L (i+1)).2.1,.int .i64 ((tokAt L (i+1)).2.2:Int)]:=BU e D 10 18 _ d10 _ (by unfold Fa;simp) Jw;have d11:D 11=true:=Gz ⟨11,.data⟩ (by simp) rfl;have z3:getT (Bv e D (Fa bx id L i)) 3=.bp bx.length 0:=BU e D 11 3 _ d11 _ (by unfold Fa;simp) Jw;rw [G7 e D 12 _ (by unfold Fa;simp)];have hb:FF bx id L i o RL (DQ D 12)=BX bx id (Ap L i o RL) [.cells 80 [.int .i64 ((tokAt L (i+1)).1:Int),.str (tokAt L (i+1)).2.1,.int .i64 ((tokAt L (i+1)).2.2:Int)]]:=by unfold FF;rw [UZ];rfl
     have Ms:FF bx id L i o RL D=BX bx id (Ap L i o RL) [.cells 80 [.int .i64 0,.str [],.int .i64 0]]:=by unfold FF;rw [hD,d11];rfl
     rw [hb,Ms];generalize Bv e D (Fa bx id L i)=E at *;unfold Ap;rw [<- NS];simp only [S9,I6,seval,PY,PZ,AS,z0,Hn,hg,D3,hn,hw,z18,z3,hid];exact ⟨_,rfl⟩
   omega
 · have IV:=RO
   have hd:∀ j,j < 13->D j=true:=fun j hj=>hD j (by rw [IV];exact hj);unfold Fa FF;simp only [Bv,hd 0 (by decide),hd 1 (by decide),hd 2 (by decide),hd 3 (by decide),hd 4 (by decide),hd 5 (by decide),hd 6 (by decide),hd 7 (by decide),hd 8 (by decide),hd 9 (by decide),hd 10 (by decide),hd 11 (by decide),hd 12 (by decide),if_true]
 · rw [G8 e _ 0 _ (by unfold Fa;simp)];exact h0
 · exact BU e _ 11 3 _ rfl _ (by unfold Fa;simp) (jB bx id L i)
theorem Ck {id:Nat} {L:List Tk} {i o:Nat} {RL:PV} (hR:RL.pure=true) (hi:i < L.length) (hT:TokOK L):TS 188 [] id L RL i o (.bool (Cx L i)) i o:=by
 refine A4 hR (fun n=>by simp [PV.under]) fun bx hid hc=>?_;have t0:=Aa hid hc hR (AA (id:=id) (o:=o) hR hi);have hq:=Ok (tokAt L i).1 2;rw [CN (fn:=Aa4) (c:=Aa4.body.getD .skip) rfl rfl fJ rfl fI fH (Aa8 rfl)];unfold Cx;by_cases hk:(tokAt L i).1=2
 · have Gu:=HJ hT hi (by rw [hk];decide)
   rw [beq_iff_eq.2 hk] at hq |-;have hq:(((tokAt L i).1:Int) != 2)=false:=hq;have hd:=fun e=>aN (o:=o) (id:=id) hR hT hid Gu e;simp only [<- A6 TV] at hd;have rz:=Ok (tokAt L (i+1)).1 4;have hs:EB .neq (tokAt L (i+1)).2.1 [46]=some (.bool (!((tokAt L (i+1)).2.1 == [46]))):=rfl;rw [<- Cf];rw [<- C3] at t0;rw [<- IQ] at hd;unfold Ap at hd |-;simp only [opsOf,Ab,Ac,Aa4,Aa0] at hd |-;simp only [S9,A5,seval,PY,PZ,AS,t0,hq,hid];generalize hE:uW _ _=z
   have hP:∃ e',z=some (.normal,⟨e',BX bx id (.cells 92 [.sl (Bj L),.int .i64 ((i:Nat):Int),.int .i64 ((o:Nat):Int),RL]) [.cells 80 [.int .i64 ((tokAt L (i+1)).1:Int),.str (tokAt L (i+1)).2.1,.int .i64 ((tokAt L (i+1)).2.2:Int)]]⟩)/\getT e' 0=.bp id 0/\getT e' 3=.bp bx.length 0:=by
    rw [<- hE];refine hd _ ?_;simp only [S7,A5,seval]
   obtain ⟨e',he,g0,g3⟩:=hP;subst he;clear hE hd;by_cases vt:(tokAt L (i+1)).1=4
   · rw [beq_iff_eq.2 vt] at rz
     have rz:(((tokAt L (i+1)).1:Int) != 4)=false:=rz;have hr:Br L 4 [46] (i+1)=((tokAt L (i+1)).2.1 == [46]):=by unfold Br;rw [beq_iff_eq.2 vt];rfl
     rw [hr];simp only [S9,A5,seval,PY,PZ,AS,g0,g3,rz,hs,Aat,hid];exact ⟨_,rfl⟩
   · rw [beq_eq_false_iff_ne.2 vt] at rz
     have rz:(((tokAt L (i+1)).1:Int) != 4)=true:=rz;have hr:Br L 4 [46] (i+1)=false:=by unfold Br;rw [beq_eq_false_iff_ne.2 vt];rfl
     rw [hr];simp only [S9,A5,seval,PY,PZ,AS,g0,g3,rz,hs,Aat,hid];exact ⟨_,rfl⟩
 · rw [beq_eq_false_iff_ne.2 hk] at hq |-
   have hq:(((tokAt L i).1:Int) != 2)=true:=hq;rw [<- Cf];rw [<- C3] at t0;unfold Ap;simp only [Ab,Ac,Aa4,Aa0];simp only [S9,A5,seval,PY,PZ,AS,t0,hq,Bool.false_and,hid];exact ⟨_,rfl⟩
def Bo (t:Tr):List PV:=(BE t).cells
theorem Ao (t:Tr):BE t=.agg (Bo t):=by cases t;unfold Bo BE;rfl
theorem M7 (t:Tr):(Bo t).length=11:=by cases t;unfold Bo BE;rfl
theorem rV (t:Tr):(Bo t).map PV.ro=Bo t:=by cases t;unfold Bo BE;rfl
theorem Yt (t:Tr):(Bo t).map PV.seal1=Bo t:=by cases t;unfold Bo BE;rfl
theorem nY (t:Tr):(Bo t).all PV.one=true:=by cases t;unfold Bo BE;rfl
theorem RP (t:Tr):Al (Bo t)=true:=by
 have:=BH t;rw [Ao] at this;simpa [PV.pure] using this
theorem fK (n:Nat) (t:Tr):Ar n (Bo t)=true:=Ax n _ (RP t)
theorem jC (t:Tr):(Bo t).take 11=Bo t:=List.take_of_length_le (by rw [M7];exact Aah _)
theorem jD (t:Tr):(Bo t).drop 11=[]:=Aaj (by rw [M7];exact Aah _)
theorem SX:(∀ t,(Bo t).length=11)/\(∀ t,(Bo t).map PV.ro=Bo t)/\(∀ t,(Bo t).map PV.seal1=Bo t)/\(∀ t,(Bo t).all PV.one=true)/\(∀ t,Al (Bo t)=true)/\(∀ n t,Ar n (Bo t)=true)/\(∀ t,(Bo t).take 11=Bo t)/\(∀ t,(Bo t).drop 11=[])/\(∀ n x r,(PV.bp x r).under n=decide (x < n)):=
 ⟨M7,rV,Yt,nY,RP,fK,jC,jD,fun _ _ _=>by simp [PV.under]⟩
noncomputable def IE:TypeInfo:=(Tryz.prog.info? 29).getD default
theorem jE (t:Tr):Gd true 11 (.agg (Bo t))=some (.agg (Bo t)):=by
 unfold Gd;simp only [PV.shutV,Yt,M7];rfl
theorem zh:tZero CC 29=some (.agg G9)/\CC.P.info? 29=some IE/\IE.size=11/\CC.P.underlying 27=some (.slice 29)/\tAgg CC 29=true/\(PV.agg G9).cells.length=11/\(PV.agg G9).val=true:=⟨by kernel_rfl,by kernel_rfl,by kernel_rfl,by kernel_rfl,by kernel_rfl,rfl,by kernel_rfl⟩
theorem fL (a:Tr):AZ CC 27 1 [(0,.agg (Bo a))]=some (.osl 29 [.agg (Bo a)]):=by
 obtain ⟨hz,hi,hs,hu,ht,hl,hv⟩:=zh;unfold AZ;simp only [hu,hz,hi,hs,ht,hl,hv,Aag,Aai,jE];rfl
theorem TW (a b:Tr):AZ CC 27 2 [(0,.agg (Bo a)),(1,.agg (Bo b))]=some (.osl 29 [.agg (Bo a),.agg (Bo b)]):=by
 obtain ⟨hz,hi,hs,hu,ht,hl,hv⟩:=zh;unfold AZ;simp only [hu,hz,hi,hs,ht,hl,hv,Aag,Aai,jE];rfl
theorem zi (a b c:Tr):AZ CC 27 3 [(0,.agg (Bo a)),(1,.agg (Bo b)),(2,.agg (Bo c))]=some (.osl 29 [.agg (Bo a),.agg (Bo b),.agg (Bo c)]):=by
 obtain ⟨hz,hi,hs,hu,ht,hl,hv⟩:=zh;unfold AZ;simp only [hu,hz,hi,hs,ht,hl,hv,Aag,Aai,jE];rfl
theorem Yu:∀ l:List Tr,A8 l=l.map fun t=>PV.agg (Bo t)
 | []=>by unfold A8;rfl
 | t :: r=>by unfold A8;rw [Yu r,Ao];rfl
theorem nZ (k:Int) (l:List Tr) (bx):Ai CC (Ad CC) 141 [.int .i64 k,.sl (l.map fun t=>PV.agg (Bo t))] bx=some (.ret (.agg (Bo (Bd k l))),bx):=by
 have:=TU k l bx;rw [Yu,Ao] at this;exact this
theorem n3 (k:Int) (a:Tr) (bx):Ai CC (Ad CC) 141 [.int .i64 k,.sl [.agg (Bo a)]] bx=some (.ret (.agg (Bo (Bd k [a]))),bx):=nZ k [a] bx
theorem TY (k:Int) (a b:Tr) (bx):Ai CC (Ad CC) 141 [.int .i64 k,.sl [.agg (Bo a),.agg (Bo b)]] bx=some (.ret (.agg (Bo (Bd k [a,b]))),bx):=nZ k [a,b] bx
theorem zj (k:Int) (a b c:Tr) (bx):Ai CC (Ad CC) 141 [.int .i64 k,.sl [.agg (Bo a),.agg (Bo b),.agg (Bo c)]] bx=some (.ret (.agg (Bo (Bd k [a,b,c]))),bx):=nZ k [a,b,c] bx
theorem aO (k n:Int) (bx):Ai CC (Ad CC) 104 [.int .i64 k,.int .i64 n] bx=some (.ret (.agg (Bo (El k n))),bx):=by rw [<- Ao];exact Oo k n bx
theorem AX (st:St):DM (some (.normal,st))=some (.normal,st):=rfl
theorem Bf (v:PV) (st:St):DM (some (.pan v,st))=some (.pan v,⟨[],st.bx⟩):=rfl
theorem Fv (e:List PV) (i j:Nat) (a b:PV) (h:j < i):setT (setT e i a) j b=setT (setT e j b) i a:=Av e i j a b (by omega)
theorem Ev {L:Code} (b:Code) (h:L=.loop b) (st:St):Lh CC L st=Ea (Lh CC b st) (Lh CC L):=by
 subst h;exact UJ true b st
theorem Wi:CL CC (opsOf (Ab Aa5 [1,1,0,0,0,1,0]))=false:=by kernel_rfl
theorem M8:BO (opsOf (Ab Aa5 [1,1,0,0,0,1,0]))=[[0,1,2,3,4,5],[1,0,2,3,4,5],[1,2,0,3,4,5]]:=by kernel_rfl
theorem M9 {bx:List PBox} {id:Nat} {L:List Tk} {i o:Nat} {RL:PV} (hR:RL.pure=true) (a b:Tr) {j:Nat} (hid:id < bx.length) (hc:DN bx)  (e:List PV) (g0:getT e 0=.bp id 0) (g3:getT e 3=.bp (bx.length+1) 0) (t1:∀ ys:List PBox,(ys.all fun x=>x.under (bx.length+ys.length))=true->Ai CC (Ad CC) 184 [.bp id 0] (BX bx id (.cells 92 [.sl (Bj L),.int .i64 ((i:Nat):Int),.int .i64 ((o:Nat):Int),RL]) ys)=some (.ret (.agg (Bo b)),BX bx id (.cells 92 [.sl (Bj L),.int .i64 ((j:Nat):Int),.int .i64 ((o:Nat):Int),RL]) ys)) :
 drawAll CC (Ad CC) (opsOf (Ab Aa5 [1,1,0,0,0,1,0])) ⟨e,BX bx id (Ap L i o RL) [.cells 29 [.int .i64 0,.int .i64 0,.int .i64 0,.str [],.int .i64 0,.int .i64 0,.str [],.int .i64 0,.str [],.str [],.nils],.cells 29 (Bo a)]⟩=some (.normal,⟨(setT (setT (setT (setT (setT e 8 (.agg (Bo a))) 9 (.bp id 0)) 10 (.agg (Bo b))) 11 (.osl 29 [.agg (Bo a),.agg (Bo b)])) 12 (.agg (Bo (Bd 13 [a,b])))),BX bx id (Ap L j o RL) [.cells 29 [.int .i64 0,.int .i64 0,.int .i64 0,.str [],.int .i64 0,.int .i64 0,.str [],.int .i64 0,.str [],.str [],.nils],.cells 29 (Bo (Bd 13 [a,b]))]⟩):=by
 have hb:=TW a b;have hn:=TY 13 a b;refine AV.2 ⟨by rw [M8];simp,fun l hl=>?_⟩;rw [M8] at hl;unfold Ap;rw [<- Mv];rw [<- C3] at t1 hn;simp only [Aad,Aac,or_false] at hl;rcases hl with rfl | rfl | rfl
 all_goals
  simp only [opsOf,Ab,Ac,Aa5,Aa0,AR,Aa9,Aaa,Aa3,Aa2,Aa1];simp only [S9,A5,seval,PY,PZ,AS,g0,g3,SX,AX,Bf,t1,hb,hn,hid]
  try simp only [Fv,Aak]
theorem TZ {bx:List PBox} {id:Nat} {L:List Tk} {i o:Nat} {RL:PV} (hR:RL.pure=true) (a:Tr) {t:Nat} {c:Int} {i' o':Nat} (hid:id < bx.length) (hc:DN bx)  (e:List PV) (g0:getT e 0=.bp id 0) (g3:getT e 3=.bp (bx.length+1) 0) (t1:∀ ys:List PBox,(ys.all fun x=>x.under (bx.length+ys.length))=true->Ai CC (Ad CC) 184 [.bp id 0] (BX bx id (.cells 92 [.sl (Bj L),.int .i64 ((i:Nat):Int),.int .i64 ((o:Nat):Int),RL]) ys)=some (.pan (B7 t c),BX bx id (.cells 92 [.sl (Bj L),.int .i64 ((i':Nat):Int),.int .i64 ((o':Nat):Int),RL]) ys)) :
 drawAll CC (Ad CC) (opsOf (Ab Aa5 [1,1,0,0,0,1,0])) ⟨e,BX bx id (Ap L i o RL) [.cells 29 [.int .i64 0,.int .i64 0,.int .i64 0,.str [],.int .i64 0,.int .i64 0,.str [],.int .i64 0,.str [],.str [],.nils],.cells 29 (Bo a)]⟩=some (.pan (B7 t c),⟨[],BX bx id (Ap L i' o' RL) [.cells 29 [.int .i64 0,.int .i64 0,.int .i64 0,.str [],.int .i64 0,.int .i64 0,.str [],.int .i64 0,.str [],.str [],.nils],.cells 29 (Bo a)]⟩):=by
 refine AV.2 ⟨by rw [M8];simp,fun l hl=>?_⟩;rw [M8] at hl;unfold Ap;rw [<- Mv];rw [<- C3] at t1;simp only [Aad,Aac,or_false] at hl;rcases hl with rfl | rfl | rfl
 all_goals
  simp only [opsOf,Ab,Ac,Aa5,Aa0,AR,Aa9,Aaa,Aa3,Aa2,Aa1];simp only [S9,A5,seval,PY,PZ,AS,g0,g3,SX,AX,Bf,t1,hid]
theorem Wj:CL CC (opsOf (Ab Aab [1,1,0,0,0,0,1,0]))=false:=by kernel_rfl
theorem Na:BO (opsOf (Ab Aab [1,1,0,0,0,0,1,0]))=[[0,1,2,3,4,5],[1,0,2,3,4,5],[1,2,0,3,4,5]]:=by kernel_rfl
theorem Nb {bx:List PBox} {id:Nat} {L:List Tk} {i o:Nat} {RL:PV} (hR:RL.pure=true) (a b:Tr) {j:Nat} (hid:id < bx.length) (hc:DN bx)  (e:List PV) (g0:getT e 0=.bp id 0) (g3:getT e 3=.bp (bx.length+1) 0) (t1:∀ ys:List PBox,(ys.all fun x=>x.under (bx.length+ys.length))=true->Ai CC (Ad CC) 178 [.bp id 0] (BX bx id (.cells 92 [.sl (Bj L),.int .i64 ((i:Nat):Int),.int .i64 ((o:Nat):Int),RL]) ys)=some (.ret (.agg (Bo b)),BX bx id (.cells 92 [.sl (Bj L),.int .i64 ((j:Nat):Int),.int .i64 ((o:Nat):Int),RL]) ys)) :
 drawAll CC (Ad CC) (opsOf (Ab Aab [1,1,0,0,0,0,1,0])) ⟨e,BX bx id (Ap L i o RL) [.cells 29 [.int .i64 0,.int .i64 0,.int .i64 0,.str [],.int .i64 0,.int .i64 0,.str [],.int .i64 0,.str [],.str [],.nils],.cells 29 (Bo a)]⟩=some (.normal,⟨(setT (setT (setT (setT (setT e 10 (.agg (Bo a))) 11 (.bp id 0)) 12 (.agg (Bo b))) 13 (.osl 29 [.agg (Bo a),.agg (Bo b)])) 14 (.agg (Bo (Bd 11 [a,b])))),BX bx id (Ap L j o RL) [.cells 29 [.int .i64 0,.int .i64 0,.int .i64 0,.str [],.int .i64 0,.int .i64 0,.str [],.int .i64 0,.str [],.str [],.nils],.cells 29 (Bo (Bd 11 [a,b]))]⟩):=by
 have hb:=TW a b;have hn:=TY 11 a b;refine AV.2 ⟨by rw [Na];simp,fun l hl=>?_⟩;rw [Na] at hl;unfold Ap;rw [<- Mv];rw [<- C3] at t1 hn;simp only [Aad,Aac,or_false] at hl;rcases hl with rfl | rfl | rfl
 all_goals
  simp only [opsOf,Ab,Ac,Aab,Aa0,AR,Aa9,Aaa,Aa3,Aa2,Aa1];simp only [S9,A5,seval,PY,PZ,AS,g0,g3,SX,AX,Bf,t1,hb,hn,hid]
  try simp only [Fv,Aak]
theorem T0 {bx:List PBox} {id:Nat} {L:List Tk} {i o:Nat} {RL:PV} (hR:RL.pure=true) (a:Tr) {t:Nat} {c:Int} {i' o':Nat} (hid:id < bx.length) (hc:DN bx)  (e:List PV) (g0:getT e 0=.bp id 0) (g3:getT e 3=.bp (bx.length+1) 0) (t1:∀ ys:List PBox,(ys.all fun x=>x.under (bx.length+ys.length))=true->Ai CC (Ad CC) 178 [.bp id 0] (BX bx id (.cells 92 [.sl (Bj L),.int .i64 ((i:Nat):Int),.int .i64 ((o:Nat):Int),RL]) ys)=some (.pan (B7 t c),BX bx id (.cells 92 [.sl (Bj L),.int .i64 ((i':Nat):Int),.int .i64 ((o':Nat):Int),RL]) ys)) :
 drawAll CC (Ad CC) (opsOf (Ab Aab [1,1,0,0,0,0,1,0])) ⟨e,BX bx id (Ap L i o RL) [.cells 29 [.int .i64 0,.int .i64 0,.int .i64 0,.str [],.int .i64 0,.int .i64 0,.str [],.int .i64 0,.str [],.str [],.nils],.cells 29 (Bo a)]⟩=some (.pan (B7 t c),⟨[],BX bx id (Ap L i' o' RL) [.cells 29 [.int .i64 0,.int .i64 0,.int .i64 0,.str [],.int .i64 0,.int .i64 0,.str [],.int .i64 0,.str [],.str [],.nils],.cells 29 (Bo a)]⟩):=by
 refine AV.2 ⟨by rw [Na];simp,fun l hl=>?_⟩;rw [Na] at hl;unfold Ap;rw [<- Mv];rw [<- C3] at t1;simp only [Aad,Aac,or_false] at hl;rcases hl with rfl | rfl | rfl
 all_goals
  simp only [opsOf,Ab,Ac,Aab,Aa0,AR,Aa9,Aaa,Aa3,Aa2,Aa1];simp only [S9,A5,seval,PY,PZ,AS,g0,g3,SX,AX,Bf,t1,hid]
theorem Wk:CL CC (opsOf (Ab Aab [1,1,0,0,0,0,1,1,1,0]))=false:=by kernel_rfl
theorem Nc:BO (opsOf (Ab Aab [1,1,0,0,0,0,1,1,1,0]))=[[0,1,2,3,4,5],[1,0,2,3,4,5],[1,2,0,3,4,5]]:=by kernel_rfl
theorem Nd {bx:List PBox} {id:Nat} {L:List Tk} {i o:Nat} {RL:PV} (hR:RL.pure=true) (a b:Tr) {j:Nat} (hid:id < bx.length) (hc:DN bx)  (e:List PV) (g0:getT e 0=.bp id 0) (g3:getT e 3=.bp (bx.length+1) 0) (t1:∀ ys:List PBox,(ys.all fun x=>x.under (bx.length+ys.length))=true->Ai CC (Ad CC) 178 [.bp id 0] (BX bx id (.cells 92 [.sl (Bj L),.int .i64 ((i:Nat):Int),.int .i64 ((o:Nat):Int),RL]) ys)=some (.ret (.agg (Bo b)),BX bx id (.cells 92 [.sl (Bj L),.int .i64 ((j:Nat):Int),.int .i64 ((o:Nat):Int),RL]) ys)) :
 drawAll CC (Ad CC) (opsOf (Ab Aab [1,1,0,0,0,0,1,1,1,0])) ⟨e,BX bx id (Ap L i o RL) [.cells 29 [.int .i64 0,.int .i64 0,.int .i64 0,.str [],.int .i64 0,.int .i64 0,.str [],.int .i64 0,.str [],.str [],.nils],.cells 29 (Bo a)]⟩=some (.normal,⟨(setT (setT (setT (setT (setT e 18 (.agg (Bo a))) 19 (.bp id 0)) 20 (.agg (Bo b))) 21 (.osl 29 [.agg (Bo a),.agg (Bo b)])) 22 (.agg (Bo (Bd 12 [a,b])))),BX bx id (Ap L j o RL) [.cells 29 [.int .i64 0,.int .i64 0,.int .i64 0,.str [],.int .i64 0,.int .i64 0,.str [],.int .i64 0,.str [],.str [],.nils],.cells 29 (Bo (Bd 12 [a,b]))]⟩):=by
 have hb:=TW a b;have hn:=TY 12 a b;refine AV.2 ⟨by rw [Nc];simp,fun l hl=>?_⟩;rw [Nc] at hl;unfold Ap;rw [<- Mv];rw [<- C3] at t1 hn;simp only [Aad,Aac,or_false] at hl;rcases hl with rfl | rfl | rfl
 all_goals
  simp only [opsOf,Ab,Ac,Aab,Aa0,AR,Aa9,Aaa,Aa3,Aa2,Aa1];simp only [S9,A5,seval,PY,PZ,AS,g0,g3,SX,AX,Bf,t1,hb,hn,hid]
  try simp only [Fv,Aak]
theorem T4 {bx:List PBox} {id:Nat} {L:List Tk} {i o:Nat} {RL:PV} (hR:RL.pure=true) (a:Tr) {t:Nat} {c:Int} {i' o':Nat} (hid:id < bx.length) (hc:DN bx)  (e:List PV) (g0:getT e 0=.bp id 0) (g3:getT e 3=.bp (bx.length+1) 0) (t1:∀ ys:List PBox,(ys.all fun x=>x.under (bx.length+ys.length))=true->Ai CC (Ad CC) 178 [.bp id 0] (BX bx id (.cells 92 [.sl (Bj L),.int .i64 ((i:Nat):Int),.int .i64 ((o:Nat):Int),RL]) ys)=some (.pan (B7 t c),BX bx id (.cells 92 [.sl (Bj L),.int .i64 ((i':Nat):Int),.int .i64 ((o':Nat):Int),RL]) ys)) :
 drawAll CC (Ad CC) (opsOf (Ab Aab [1,1,0,0,0,0,1,1,1,0])) ⟨e,BX bx id (Ap L i o RL) [.cells 29 [.int .i64 0,.int .i64 0,.int .i64 0,.str [],.int .i64 0,.int .i64 0,.str [],.int .i64 0,.str [],.str [],.nils],.cells 29 (Bo a)]⟩=some (.pan (B7 t c),⟨[],BX bx id (Ap L i' o' RL) [.cells 29 [.int .i64 0,.int .i64 0,.int .i64 0,.str [],.int .i64 0,.int .i64 0,.str [],.int .i64 0,.str [],.str [],.nils],.cells 29 (Bo a)]⟩):=by
 refine AV.2 ⟨by rw [Nc];simp,fun l hl=>?_⟩;rw [Nc] at hl;unfold Ap;rw [<- Mv];rw [<- C3] at t1;simp only [Aad,Aac,or_false] at hl;rcases hl with rfl | rfl | rfl
 all_goals
  simp only [opsOf,Ab,Ac,Aab,Aa0,AR,Aa9,Aaa,Aa3,Aa2,Aa1];simp only [S9,A5,seval,PY,PZ,AS,g0,g3,SX,AX,Bf,t1,hid]
theorem jF {L:List Tk} {i:Nat} {a:Tr} {j:Nat} (hT:TokOK L) (hi:i < L.length) (h:Fp L i=.ok a j):i < j/\j < L.length:=by
 unfold Fp at h;split at h
 · rename_i hk
   injection h with _ h
   have:=AM hT hi hk (by decide);omega
 split at h
 · rename_i hk
   injection h with _ h
   have:=AM hT hi hk (by decide);omega
 split at h
 · rename_i hk
   have h0:=AM hT hi hk (by decide);obtain ⟨_,i1,r1,h⟩:=Aj h;obtain ⟨_,i2,r2,h⟩:=Aj h;injection h with _ h
   have h1:=AW hT h0 (by decide) r1;have h2:=CI hT h1.2 r2;omega
 split at h
 · rename_i hk
   have h0:=AM hT hi hk (by decide);obtain ⟨_,i1,r1,h⟩:=Aj h;obtain ⟨_,i2,r2,h⟩:=Aj h;obtain ⟨_,i3,r3,h⟩:=Aj h;injection h with _ h
   have h1:=E1 hT h0 r1;have h2:=AW hT h1.2.1 (by decide) r2;have h3:=E1 hT h2.2 r3;omega
 split at h
 · rename_i hk
   have h0:=AM hT hi hk (by decide);obtain ⟨_,i1,r1,h⟩:=Aj h;injection h with _ h
   have h1:=KG hT h0 r1;omega
 split at h
 · rename_i hk
   have h0:=AM hT hi hk (by decide);split at h
   · rename_i k hp
     injection h with _ h
     obtain ⟨_,_,h4⟩:=Iu hp;have:=AM hT h0 h4 (by decide);omega
   · injection h with _ h
     omega
 · cases h
theorem He {L:List Tk} (hT:TokOK L):∀ (n:Nat) (nt:NT) (o i:Nat) (a:Tr) (j:Nat),i < L.length->pz L n nt o i=.ok a j->i<=j/\j < L.length:=by
 intro n
 induction n with
 | zero=>intro nt o i a j hi h;cases h
 | succ n ih=>
  intro nt o i a j hi h;cases nt with
  | expr=>
   rw [pz] at h;split at h
   · rename_i hk
     have h0:=AM hT hi hk (by decide);split at h
     · obtain ⟨_,i1,r1,h⟩:=Aj h
       obtain ⟨_,i2,r2,h⟩:=Aj h;obtain ⟨_,i3,r3,h⟩:=Aj h;obtain ⟨_,i4,r4,h⟩:=Aj h;obtain ⟨_,i5,r5,h⟩:=Aj h;injection h with _ h
       have h1:=ih _ _ _ _ _ h0 r1;have h2:=AW hT h1.2 (by decide) r2;have h3:=ih _ _ _ _ _ h2.2 r3;have h4:=AW hT h3.2 (by decide) r4;have h5:=ih _ _ _ _ _ h4.2 r5;omega
     · cases h
   · exact ih _ _ _ _ _ hi h
  | chain b=>
   rw [pz] at h;obtain ⟨_,i1,r1,h⟩:=Aj h;have h1:=ih _ _ _ _ _ hi r1;have h2:=ih _ _ _ _ _ h1.2 h;omega
  | chainL b acc=>
   rw [pz] at h;split at h
   · rename_i hk
     have h0:=AM hT hi hk (by decide);split at h
     · cases h
     · obtain ⟨_,i1,r1,h⟩:=Aj h
       have h1:=ih _ _ _ _ _ h0 r1;have h2:=ih _ _ _ _ _ h1.2 h;omega
   · injection h with _ h;omega
  | not=>
   rw [pz] at h;split at h
   · rename_i hk
     have h0:=AM hT hi hk (by decide);split at h
     · obtain ⟨_,i1,r1,h⟩:=Aj h
       injection h with _ h
       have h1:=ih _ _ _ _ _ h0 r1;omega
     · cases h
   · exact ih _ _ _ _ _ hi h
  | cmp=>
   rw [pz] at h;obtain ⟨_,i1,r1,h⟩:=Aj h;have h1:=ih _ _ _ _ _ hi r1;split at h
   · rename_i k hp
     obtain ⟨_,_,h4⟩:=Iu hp;have h0:=AM hT h1.2 h4 (by decide);obtain ⟨_,i2,r2,h⟩:=Aj h;injection h with _ h
     have h2:=ih _ _ _ _ _ h0 r2;omega
   · injection h with _ h;omega
  | sum=>
   rw [pz] at h;obtain ⟨_,i1,r1,h⟩:=Aj h;have h1:=ih _ _ _ _ _ hi r1;have h2:=ih _ _ _ _ _ h1.2 h;omega
  | sumL e=>
   rw [pz] at h;split at h
   · rename_i hk
     have h0:=AM hT hi hk (by decide);obtain ⟨_,i1,r1,h⟩:=Aj h;have h1:=ih _ _ _ _ _ h0 r1;have h2:=ih _ _ _ _ _ h1.2 h;omega
   · split at h
     · rename_i hk
       have h0:=AM hT hi hk (by decide);obtain ⟨_,i1,r1,h⟩:=Aj h;have h1:=ih _ _ _ _ _ h0 r1;have h2:=ih _ _ _ _ _ h1.2 h;omega
     · injection h with _ h;omega
  | prod=>
   rw [pz] at h;obtain ⟨_,i1,r1,h⟩:=Aj h;have h1:=ih _ _ _ _ _ hi r1;have h2:=ih _ _ _ _ _ h1.2 h;omega
  | prodL e=>
   rw [pz] at h;split at h
   · rename_i hk
     have h0:=AM hT hi hk (by decide);obtain ⟨_,i1,r1,h⟩:=Aj h;have h1:=ih _ _ _ _ _ h0 r1;have h2:=ih _ _ _ _ _ h1.2 h;omega
   · injection h with _ h;omega
  | un=>
   rw [pz] at h;split at h
   · rename_i hk
     have h0:=AM hT hi hk (by decide);split at h
     · rename_i hp
       injection h with _ h
       unfold Cx at hp;simp only [Aar,beq_iff_eq] at hp;have:=HJ hT h0 (by rw [hp.1];decide);omega
     · split at h
       · obtain ⟨_,i1,r1,h⟩:=Aj h
         injection h with _ h
         have h1:=ih _ _ _ _ _ h0 r1;omega
       · cases h
   · exact ih _ _ _ _ _ hi h
  | prim=>
   rw [pz] at h;split at h
   · rename_i hp
     injection h with _ h
     unfold Cx at hp;simp only [Aar,beq_iff_eq] at hp;have:=HJ hT hi (by rw [hp.1];decide);omega
   · split at h
     · obtain ⟨_,i1,r1,h⟩:=Aj h
       injection h with _ h
       have h1:=C1 hT hi r1;omega
     · split at h
       · rename_i hk
         injection h with _ h
         have:=HJ hT hi (by rw [hk];decide);omega
       · split at h
         · rename_i hk
           have h0:=AM hT hi hk (by decide);obtain ⟨_,i1,r1,h⟩:=Aj h;injection h with _ h
           have h1:=Ft hT h0 r1;omega
         · split at h
           · rename_i hk
             have h0:=AM hT hi hk (by decide);split at h
             · obtain ⟨_,i1,r1,h⟩:=Aj h
               obtain ⟨_,i2,r2,h⟩:=Aj h;injection h with _ h
               have h1:=ih _ _ _ _ _ h0 r1;have h2:=AW hT h1.2 (by decide) r2;omega
             · cases h
           · have:=jF hT hi h
             omega
def FK (f:FuncId) (nt:NT) (id:Nat) (L:List Tk) (RL:PV) (n:Nat):Prop:=∀ i o,i < L.length->o<=100->Xs f [] id L RL i o BE (pz L n nt o i)
theorem HZ:Jy CC Aa5 (Aa5.body.getD .skip)=true:=by kernel_rfl
theorem H0:Be CC Aa5 (Aa5.body.getD .skip)=false:=by kernel_rfl
theorem Hr:CC.P.funcs[178]?=some Aa5:=by kernel_rfl
theorem CS {x:List PV} {b:List PBox} (h:x.length.ble Aa5.ntmps=true):Ad CC 178 x b=CM CC Aa5.results.toList (Lh CC (Aa5.body.getD .skip) ⟨x,b⟩):=CN (fn:=Aa5) (c:=Aa5.body.getD .skip) rfl rfl Hr rfl H0 HZ (Aa8 h)
theorem fM (Lc:Code) (hL:Lc=Ab Aa5 [1,1,0,0]) {id:Nat} {L:List Tk} {o:Nat} {RL:PV} (hR:RL.pure=true) (hT:TokOK L) (ho:o<=100):∀ (m:Nat),(∀ k,k < m->FK 184 .un id L RL k)->∀ (i:Nat) (a:Tr),i < L.length->match pz L m (.prodL a) o i with
 | .ok v j=>∀ (bx:List PBox) (hid:id < bx.length) (hc:DN bx) (e:List PV),getT e 0=.bp id 0->getT e 2=.bp bx.length 0->getT e 3=.bp (bx.length+1) 0->∃ e',Lh CC Lc ⟨e,BX bx id (Ap L i o RL) [.cells 29 [.int .i64 0,.int .i64 0,.int .i64 0,.str [],.int .i64 0,.int .i64 0,.str [],.int .i64 0,.str [],.str [],.nils],.cells 29 (Bo a)]⟩=some (.exit 0,⟨e',BX bx id (Ap L j o RL) [.cells 29 [.int .i64 0,.int .i64 0,.int .i64 0,.str [],.int .i64 0,.int .i64 0,.str [],.int .i64 0,.str [],.str [],.nils],.cells 29 (Bo v)]⟩)/\getT e' 2=.bp bx.length 0/\getT e' 3=.bp (bx.length+1) 0
 | .bad t c=>∃ i' o',∀ (bx:List PBox) (hid:id < bx.length) (hc:DN bx) (e:List PV),getT e 0=.bp id 0->getT e 2=.bp bx.length 0->getT e 3=.bp (bx.length+1) 0->∃ e' ys',Lh CC Lc ⟨e,BX bx id (Ap L i o RL) [.cells 29 [.int .i64 0,.int .i64 0,.int .i64 0,.str [],.int .i64 0,.int .i64 0,.str [],.int .i64 0,.str [],.str [],.nils],.cells 29 (Bo a)]⟩=some (.pan (B7 t c),⟨e',BX bx id (Ap L i' o' RL) ys'⟩)
 | .out=>True:=by
 intro m
 induction m with
 | zero=>intro _ i a hi;trivial
 | succ m ih=>
  intro hu i a hi;rw [pz];cases hk:Br L 4 [42] i with
  | false=>
   simp only [Aaf,if_false];intro bx hid hc e g0 g2 g3;have t0:=Aa hid hc hR (AQ (id:=id) (o:=o) hR hi hT _ hk);rw [Ev (Ab Aa5 [1,1,0,0,0]) hL];unfold Ap at |-;rw [<- Cf];rw [<- C3] at t0;simp only [opsOf,Ab,Ac,Aa5,Aa0] at |-;simp only [S9,A5,seval,PY,PZ,AS,g0,g2,g3,t0,SX,hid];exact ⟨_,rfl,by simp only [S7,A5,seval,g2],by simp only [S7,A5,seval,g3]⟩
  | true=>
   simp only [if_true];have BF:=AM hT hi hk (by decide);have h1:=hu m (by omega) (i+1) o BF ho;cases r1:pz L m .un o (i+1) with
   | out=>trivial
   | bad t c=>
    rw [r1] at h1;obtain ⟨i',o',h1⟩:=h1;refine ⟨i',o',fun bx hid hc e g0 g2 g3=>?_⟩;have t0:=Aa hid hc hR (Bb (id:=id) (o:=o) hR hi hT _ hk);have t1:=Am hid hc hR h1;have hd:=fun e g0 g3=>TZ (L:=L) hR a hid hc e g0 g3 t1;rw [Ev (Ab Aa5 [1,1,0,0,0]) hL];simp only [<- A6 Wi] at hd;unfold Ap at|-hd;rw [<- Cf];rw [<- C3] at t0;rw [<- IQ] at hd;simp only [opsOf,Ab,Ac,Aa5,Aa0] at|-hd;simp only [S9,A5,seval,PY,PZ,AS,g0,g2,g3,t0,hd,SX,hid];exact ⟨_,_,rfl⟩
   | ok b i1=>
    rw [r1] at h1;have Gu:=(He hT _ _ _ _ _ _ BF r1).2;dsimp only [Au];have key:=ih (fun k hk=>hu k (by omega)) i1 (Bd 13 [a,b]) Gu;cases r2:pz L m (.prodL (Bd 13 [a,b])) o i1 with
    | out=>trivial
    | ok v j=>
     rw [r2] at key;intro bx hid hc e g0 g2 g3;have key:=key bx hid hc;have t0:=Aa hid hc hR (Bb (id:=id) (o:=o) hR hi hT _ hk);have t1:=Aa hid hc hR h1;rw [Ao] at t1;have hd:=fun e g0 g3=>M9 (L:=L) hR a b hid hc e g0 g3 t1;rw [Ev (Ab Aa5 [1,1,0,0,0]) hL];simp only [<- A6 Wi] at hd;unfold Ap at|-hd key;rw [<- Cf];rw [<- Cf] at key;rw [<- C3] at t0;rw [<- IQ] at hd;simp only [opsOf,Ab,Ac,Aa5,Aa0] at|-hd key;simp only [S9,A5,seval,PY,PZ,AS,g0,g2,g3,t0,hd,SX,hid];refine key _ ?_ ?_ ?_
     · simp only [S7,A5,seval,g0]
     · simp only [S7,A5,seval,g2]
     · simp only [S7,A5,seval,g3]
    | bad t c=>
     rw [r2] at key;obtain ⟨i',o',key⟩:=key;refine ⟨i',o',fun bx hid hc e g0 g2 g3=>?_⟩;have key:=key bx hid hc;have t0:=Aa hid hc hR (Bb (id:=id) (o:=o) hR hi hT _ hk);have t1:=Aa hid hc hR h1;rw [Ao] at t1;have hd:=fun e g0 g3=>M9 (L:=L) hR a b hid hc e g0 g3 t1;rw [Ev (Ab Aa5 [1,1,0,0,0]) hL];simp only [<- A6 Wi] at hd;unfold Ap at|-hd key;rw [<- Cf];rw [<- Cf] at key;rw [<- C3] at t0;rw [<- IQ] at hd;simp only [opsOf,Ab,Ac,Aa5,Aa0] at|-hd key;simp only [S9,A5,seval,PY,PZ,AS,g0,g2,g3,t0,hd,SX,hid];refine key _ ?_ ?_ ?_
     · simp only [S7,A5,seval,g0]
     · simp only [S7,A5,seval,g2]
     · simp only [S7,A5,seval,g3]
theorem jG {id:Nat} {L:List Tk} {RL:PV} (hR:RL.pure=true) (hT:TokOK L) (n:Nat) (hu:∀ k,k<=n->FK 184 .un id L RL k):FK 178 .prod id L RL (n+1):=by
 intro i o hi ho;rw [pz];have h0:=hu n (Aah _) i o hi ho;cases r0:pz L n .un o i with
 | out=>exact AT
 | bad t c=>
  rw [r0] at h0;obtain ⟨i',o',h0⟩:=h0;refine AK ⟨i',o',Aw hR fun bx hid hc=>?_⟩;have t0:=Am hid hc hR h0;rw [CS rfl];unfold Ap at |-;rw [<- Cf];rw [<- C3] at t0;simp only [opsOf,Ab,Ac,Aa5,Aa0] at |-;simp only [S9,A5,seval,PY,PZ,AS,t0,SX,hid];exact ⟨_,rfl⟩
 | ok a i1=>
  rw [r0] at h0;dsimp only [Au];have BF:=(He hT _ _ _ _ _ _ hi r0).2;have Af:=fM _ rfl (id:=id) (RL:=RL) hR hT ho n (fun k hk=>hu k (by omega)) i1 a BF;cases r1:pz L n (.prodL a) o i1 with
  | out=>exact AT
  | ok v j=>
   rw [r1] at Af;refine Bh (A4 hR (fun n=>by rw [Ao];simp only [SX,PV.under]) fun bx hid hc=>?_);have Af:=Af bx hid hc;have t0:=Aa hid hc hR h0;rw [Ao] at t0;rw [CS rfl];rw [Ao];unfold Ap at|-Af;rw [<- Cf];rw [<- Cf] at Af;rw [<- C3] at t0;simp only [opsOf,Ab,Ac,Aa5,Aa0] at|-Af;simp only [S9,A5,seval,PY,PZ,AS,t0,SX,hid];generalize hE:S5 _ _=z
   have hP:∃ e',z=some (.exit 0,⟨e',BX bx id (.cells 92 [.sl (Bj L),.int .i64 ((j:Nat):Int),.int .i64 ((o:Nat):Int),RL]) [.cells 29 [.int .i64 0,.int .i64 0,.int .i64 0,.str [],.int .i64 0,.int .i64 0,.str [],.int .i64 0,.str [],.str [],.nils],.cells 29 (Bo v)]⟩)/\getT e' 2=.bp bx.length 0/\getT e' 3=.bp (bx.length+1) 0:=by
    rw [<- hE];refine Af _ ?_ ?_ ?_
    · simp only [S7,A5,seval]
    · simp only [S7,A5,seval]
    · simp only [S7,A5,seval]
   obtain ⟨e',he,g2,g3⟩:=hP;subst he;clear hE Af;simp only [S9,A5,seval,PY,PZ,AS,SX,g2,g3,hid];exact ⟨_,rfl⟩
  | bad t c=>
   rw [r1] at Af;obtain ⟨i',o',Af⟩:=Af;refine AK ⟨i',o',Aw hR fun bx hid hc=>?_⟩;have Af:=Af bx hid hc;have t0:=Aa hid hc hR h0;rw [Ao] at t0;rw [CS rfl];unfold Ap at|-Af;rw [<- Cf];rw [<- Cf] at Af;rw [<- C3] at t0;simp only [opsOf,Ab,Ac,Aa5,Aa0] at|-Af;simp only [S9,A5,seval,PY,PZ,AS,t0,SX,hid];generalize hE:S5 _ _=z
   have hP:∃ e' ys',z=some (.pan (B7 t c),⟨e',BX bx id (.cells 92 [.sl (Bj L),.int .i64 ((i':Nat):Int),.int .i64 ((o':Nat):Int),RL]) ys'⟩):=by
    rw [<- hE];refine Af _ ?_ ?_ ?_
    · simp only [S7,A5,seval]
    · simp only [S7,A5,seval]
    · simp only [S7,A5,seval]
   obtain ⟨e',ys',he⟩:=hP;subst he;clear hE Af;simp only [S9,A5,seval,PY,PZ,AS,SX,hid];exact ⟨_,rfl⟩
end Go.HH
