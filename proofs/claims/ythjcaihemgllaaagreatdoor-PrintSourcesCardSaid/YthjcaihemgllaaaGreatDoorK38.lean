/-
  What the law needs, packed: PF PG PH PI PK PL PM.
-/
import Derived.Test.YthjcaihemgllaaaGreatDoorK37
open Option renaming getD->Aau
open List renaming getElem?_cons_zero->Aav,getElem?_cons_succ->Aaw,getElem?_toArray->Aax,filterMap_cons->Ab3,filterMap_nil->Ab4,not_mem_nil->Ab6,mem_cons->Ab7,foldlM_cons->Aba,foldlM_nil->Abc,drop_of_length_le->Abd,set_cons_zero->Abf,set_cons_succ->Abg,range->Abh,all_eq_true->Abk,mem_range->Abm
open Go.Proofs.Tryz renaming f188->Aay,f178->Aaz,f147->Ab0,f164->Ab1,f171->Ab5,f141->Abi,f104->Abj
open Nat renaming le_of_ble_eq_true->Ab2,le_refl->Abb,reduceLT->Abe
open Go.IntKind renaming wrap->Ab8
open Bool renaming false_eq_true->Ab9,and_eq_true->Abl,true_and->Abn,and_true->Abo
namespace Go.HH
open Go Go.Proofs
set_option maxRecDepth 100000
set_option maxHeartbeats 4000000
set_option linter.unusedSimpArgs false
set_option linter.unusedVariables false
theorem LC:Be CC Ab1 (Ab1.body.getD .skip)=true:=by kernel_rfl
theorem KN:CC.P.funcs[164]?=some Ab1:=by kernel_rfl
theorem Ft {x:List PV} {b:List PBox} (h:x.length.ble Ab1.ntmps=true):Ad CC 164 x b=CD CC Ab1.results.toList (Cf CC (Ab1.body.getD .skip) ⟨x,b⟩):=Ah (fn:=Ab1) (c:=Ab1.body.getD .skip) rfl rfl KN rfl LC (Ab2 h)
theorem KO:Be CC Ab0 (Ab0.body.getD .skip)=true:=by kernel_rfl
theorem J3:CC.P.funcs[147]?=some Ab0:=by kernel_rfl
theorem E2 {x:List PV} {b:List PBox} (h:x.length.ble Ab0.ntmps=true):Ad CC 147 x b=CD CC Ab0.results.toList (Cf CC (Ab0.body.getD .skip) ⟨x,b⟩):=Ah (fn:=Ab0) (c:=Ab0.body.getD .skip) rfl rfl J3 rfl KO (Ab2 h)
theorem CX {id:Nat} {L:List Tk} {i o:Nat} {RL:PV} (hR:RL.pure=true) (ho:o < 100) (k:Nat) (tx:List UInt8) (a:Nat):T9 140 [.agg [.int .i64 (k:Int),.str tx,.int .i64 (a:Int)]] id L RL i o (.tup []) i (o+1):=by
 refine A5 hR (fun n=>by simp [PV.under,Ar]) fun bx hid hc=>?_;have hw:Ab8 .i64 ((o:Int)+1)=((o+1:Nat):Int):=by rw [wrap_i64 ⟨by omega,by omega⟩];omega
 have hg:¬ (((o+1:Nat):Int) > 100):=by omega
 rw [EG rfl];unfold Ap;rw [<- Al];simp only [Aa,Ac,Tryz.f140,Aau];simp only [S9,Af,seval,PY,PZ,AS,hw,hg,hid];exact ⟨_,rfl⟩
theorem Jm {id:Nat} {L:List Tk} {i o:Nat} {RL:PV} (hR:RL.pure=true) (ho:o=100) (k:Nat) (tx:List UInt8) (a:Nat):Nd 140 [.agg [.int .i64 (k:Int),.str tx,.int .i64 (a:Int)]] id L RL i o a 22 i (o+1):=by
 refine Ax hR fun bx hid hc=>?_;have hw:Ab8 .i64 ((o:Int)+1)=((o+1:Nat):Int):=by rw [wrap_i64 ⟨by omega,by omega⟩];omega
 have hg:(((o+1:Nat):Int) > 100):=by omega
 have t3:=Am hid hc hR (CF (i:=i) (o:=o+1) (L:=L) hR k tx a 22);rw [EG rfl];unfold Ap;rw [<- Al];rw [<- AI] at t3;simp only [Aa,Ac,Tryz.f140,Aau];simp only [S9,Af,seval,PY,PZ,AS,hw,hg,t3,hid];exact ⟨_,rfl⟩
theorem j7 (k n:Int):A' CC 24 [(0,.int .i64 k),(1,.int .i64 n)]=some (.agg [.int .i64 k,.int .i64 n,.str []]):=by kernel_rfl
theorem j8 (k n:Int):A' CC 29 [(0,.int .i64 1),(4,.agg [.int .i64 k,.int .i64 n,.str []])]=some (.agg [.int .i64 1,.int .i64 0,.int .i64 0,.str [],.int .i64 k,.int .i64 n,.str [],.int .i64 0,.str [],.str [],.nils]):=by kernel_rfl
theorem j9 (k:Int) (xs:List PV):A' CC 29 [(0,.int .i64 k),(6,.sl xs)]=some (.agg [.int .i64 k,.int .i64 0,.int .i64 0,.str [],.int .i64 0,.int .i64 0,.str [],.int .i64 0,.str [],.str [],.sl xs]):=by kernel_rfl
theorem Ox (k n:Int) (bx):Ai CC (Ad CC) 104 [.int .i64 k,.int .i64 n] bx=some (.ret (Bw (En k n)),bx):=by
 suffices h:∃ b,Ad CC 104 [.int .i64 k,.int .i64 n] []=some (.ret (Bw (En k n)),b) by
  obtain ⟨b,h⟩:=h;exact Ao rfl (by simp only [SA,Abo]) h (Bz _)
 rw [Ah (fn:=Abj) (c:=Abj.body.getD .skip) rfl rfl Nf rfl Ov (Ab2 rfl)];unfold En Bw A1 zK;rw [<- Al];simp only [Aa,Ac,Abj,Aau];simp only [S9,Af,seval,ZC,CZ,Abf,Abg,j7,j8];exact ⟨_,rfl⟩
theorem Ub (k:Int) (kids:List Tr) (bx):Ai CC (Ad CC) 141 [.int .i64 k,.sl (A1 kids)] bx=some (.ret (Bw (Bf k kids)),bx):=by
 suffices h:∃ b,Ad CC 141 [.int .i64 k,.sl (A1 kids)] []=some (.ret (Bw (Bf k kids)),b) by
  obtain ⟨b,h⟩:=h;exact Ao rfl (by simp only [SA,SE,AW,Abo]) h (Bz _)
 rw [Ah (fn:=Abi) (c:=Abi.body.getD .skip) rfl rfl R4 rfl Ua (Ab2 rfl)];unfold Bf Bw zK zV;generalize A1 kids=xs;rw [<- Al];simp only [Aa,Ac,Abi,Aau];simp only [S9,Af,seval,ZC,CZ,Abf,Abg,j9];exact ⟨_,rfl⟩
theorem xf:A' CC 150 [(0,.str [109,111,110]),(1,.str [116,117,101]),(2,.str [119,101,100]),(3,.str [116,104,117]),(4,.str [102,114,105]),(5,.str [115,97,116]),(6,.str [115,117,110])]=some (.agg (Cy.map .str)):=by kernel_rfl
theorem zX:∀ k:Nat,k < 7->Dy CC 150 (.agg (Cy.map .str)) (.int .i64 (k:Int))=some (.str (Cy.getD k []))
 | 0,_=>by kernel_rfl
 | 1,_=>by kernel_rfl
 | 2,_=>by kernel_rfl
 | 3,_=>by kernel_rfl
 | 4,_=>by kernel_rfl
 | 5,_=>by kernel_rfl
 | 6,_=>by kernel_rfl
 | k+7,h=>by omega
theorem ID {L:List Tk} {k i:Nat}:∀ {l:List (List UInt8)} {n r:Nat},C0 L k i l n=some r->n<=r/\r < n+l.length/\Bs L k (l.getD (r - n) []) i=true
 | [],n,r,h=>by cases h
 | w :: l,n,r,h=>by
  unfold C0 at h;split at h
  · rename_i hw
    injection h with h
    subst h;exact ⟨Abb _,by simp,by rw [Nat.sub_self];exact hw⟩
  · obtain ⟨h1,h2,h3⟩:=ID h
    refine ⟨by omega,by simp only [List.length_cons];omega,?_⟩;rw [show r - n=(r - (n+1))+1 from by omega];exact h3
def ka (L:List Tk) (RL:PV) (bx:List PBox) (id i o:Nat) (r:Option Nat) (z:Option (Ex×St)):Prop:=match r with
 | some k=>∃ e',z=some (.ret,⟨e',BX bx id (Ap L (i+1) o RL) []⟩)/\getT e' 2=.int .i64 (k:Int)
 | none=>∃ e',z=some (.exit 0,⟨e',BX bx id (Ap L i o RL) []⟩)/\getT e' 0=.bp id 0
theorem YK (Lc:Code) (hL:Lc=Aa Ab1 [1,0,1,0]) {id:Nat} {L:List Tk} {i o:Nat} {RL:PV} (hR:RL.pure=true) (hi:i < L.length) (hT:TokOK L) (bx:List PBox) (hid:id < bx.length) (hc:DM bx):∀ (m k:Nat) (e:List PV),k+m=7->getT e 0=.bp id 0->getT e 5=.agg (Cy.map .str)->getT e 6=.int .i64 (k:Int) ->
 ka L RL bx id i o (C0 L 1 i (Cy.drop k) k) (Cf CC Lc ⟨e,BX bx id (Ap L i o RL) []⟩):=by
 intro m
 induction m with
 | zero=>
  intro k e hk h0 h5 h6;rw [AX (Aa Ab1 [1,0,1,0,0]) hL];have nO:¬ ((k:Int) < 7):=by omega
  rw [show Cy.drop k=[] from Abd (by rw [show Cy.length=7 from rfl];omega)];unfold ka C0 Ap;rw [<- Al];simp only [Aa,Ac,Ab1,Aau];simp only [S9,Af,seval,PY,PZ,AS,h0,h5,h6,nO,hid];exact ⟨_,rfl,by simp only [S7,Af,seval,h0]⟩
 | succ m ih=>
  intro k e hk h0 h5 h6;rw [AX (Aa Ab1 [1,0,1,0,0]) hL];have nO:((k:Int) < 7):=by omega
  have QB:=zX k (by omega)
  have G1:Cy.drop k=Cy.getD k [] :: Cy.drop (k+1):=by
   have hl:k < Cy.length:=by rw [show Cy.length=7 from rfl];omega
   rw [List.drop_eq_getElem_cons hl,List.getD_eq_getElem?_getD,List.getElem?_eq_getElem hl];rfl
  have key:=fun e=>ih (k+1) e (by omega);have hw:Ab8 .i64 ((k:Int)+1)=((k+1:Nat):Int):=by rw [wrap_i64 ⟨by omega,by omega⟩];omega
  rw [G1];generalize Cy.getD k []=wd at *;unfold C0;cases nf:Bs L 1 wd i with
  | true=>
   have t1:=Ab hid hc hR (As (id:=id) (o:=o) hR hi hT wd nf);unfold ka Ap;simp only [if_true];rw [<- Al];rw [<- AI] at t1;simp only [Aa,Ac,Ab1,Aau];simp only [S9,Af,seval,PY,PZ,AS,h0,h5,h6,nO,QB,t1,hid];exact ⟨_,rfl,by simp only [S7,Af,seval]⟩
  | false=>
   have t1:=Ab hid hc hR (Ae (id:=id) (o:=o) hR hi hT wd nf);simp only [Ab9,if_false];generalize C0 L 1 i (Cy.drop (k+1)) (k+1)=pw at *;unfold Ap at key |-;rw [<- Al];rw [<- AI] at t1;rw [<- Al] at key;simp only [Aa,Ac,Ab1,Aau];simp only [S9,Af,seval,PY,PZ,AS,h0,h5,h6,nO,QB,t1,hw,hid];refine key _ ?_ ?_ ?_
   · simp only [S7,Af,seval,h0]
   · simp only [S7,Af,seval,h5]
   · simp only [S7,Af,seval]
theorem ox {id:Nat} {L:List Tk} {i o:Nat} {RL:PV} (hR:RL.pure=true) (hi:i < L.length) (hT:TokOK L):XI 164 [] id L RL i o (fun n=>.int .i64 ((n:Nat):Int)) (P9 L i):=by
 unfold P9;cases hp:C0 L 1 i Cy 0 with
 | some k=>
  refine Bi (A5 hR (fun n=>by simp [PV.under]) fun bx hid hc=>?_);have Ag:=fun e=>YK _ rfl (o:=o) hR hi hT bx hid hc 7 0 e rfl;rw [show Cy.drop 0=Cy from rfl,hp] at Ag;rw [Ft rfl];simp only [Aa,Ac,Ab1,Aau] at Ag |-;unfold Ap at Ag |-;rw [<- Al];rw [<- Al] at Ag;simp only [S9,Af,seval,PY,PZ,AS,xf,hid];generalize hE:GM _ _=z
  have hP:ka L RL bx id i o (some k) z:=by
   rw [<- hE];refine Ag _ ?_ ?_ ?_
   · simp only [S7,Af,seval]
   · simp only [S7,Af,seval]
   · simp only [S7,Af,seval] <;> rfl
  obtain ⟨e',he,h2⟩:=hP;subst he;clear hE Ag;unfold Ap;simp only [S9,Af,seval,PY,PZ,AS,h2,hid];exact ⟨_,rfl⟩
 | none=>
  refine AM ⟨i,o,Ax hR fun bx hid hc=>?_⟩;have Ag:=fun e=>YK _ rfl (o:=o) hR hi hT bx hid hc 7 0 e rfl;rw [show Cy.drop 0=Cy from rfl,hp] at Ag;have t2:=Ab hid hc hR (AA (id:=id) (o:=o) hR hi);have t3:=Am hid hc hR (CF (id:=id) (i:=i) (o:=o) (L:=L) hR (tokAt L i).1 (tokAt L i).2.1 (tokAt L i).2.2 12);rw [Ft rfl];simp only [Aa,Ac,Ab1,Aau] at Ag |-;unfold Ap atT at *;rw [<- Al];rw [<- Al] at Ag;rw [<- AI] at t2 t3;simp only [S9,Af,seval,PY,PZ,AS,xf,hid];generalize hE:GM _ _=z
  have hP:ka L RL bx id i o none z:=by
   rw [<- hE];refine Ag _ ?_ ?_ ?_
   · simp only [S7,Af,seval]
   · simp only [S7,Af,seval]
   · simp only [S7,Af,seval] <;> rfl
  obtain ⟨e',he,h0⟩:=hP;subst he;clear hE Ag;unfold Ap;simp only [S9,Af,seval,PY,PZ,AS,h0,t2,t3,hid];exact ⟨_,rfl⟩
theorem zY:∀ k:Nat,k < 7->Kg .shl .i64 1 (k:Int)=some (.int .i64 ((2 ^ k:Nat):Int))
 | 0,_=>by kernel_rfl
 | 1,_=>by kernel_rfl
 | 2,_=>by kernel_rfl
 | 3,_=>by kernel_rfl
 | 4,_=>by kernel_rfl
 | 5,_=>by kernel_rfl
 | 6,_=>by kernel_rfl
 | k+7,h=>by omega
theorem oy:((Abh 128).all fun m=>(Abh 7).all fun k=>decide (LI .or .i64 ((m:Nat):Int) ((2 ^ k:Nat):Int)=some ((m ||| 2 ^ k:Nat):Int)) && decide ((m ||| 2 ^ k) < 128))=true:=by decide +kernel
theorem or7 {m k:Nat} (hm:m < 128) (hk:k < 7):LI .or .i64 (m:Int) ((2 ^ k:Nat):Int)=some ((m ||| 2 ^ k:Nat):Int)/\(m ||| 2 ^ k) < 128:=by
 have h:=oy;rw [Abk] at h;have h:=h m (Abm.2 hm);rw [Abk] at h;have h:=h k (Abm.2 hk);simpa using h
theorem oz {L:List Tk} {i:Nat} {a j:Nat} (hT:TokOK L) (hi:i < L.length) (h:P9 L i=.ok a j):i < j/\j < L.length/\a < 7:=by
 unfold P9 at h;split at h
 · rename_i k hk
   injection h with h1 h2
   obtain ⟨_,h3,h4⟩:=ID hk;have:=AO hT hi h4 (by decide);have h5:Cy.length=7:=rfl;omega
 · cases h
theorem Vv (Lc:Code) (hL:Lc=Aa Ab0 [1,1,0]) {id:Nat} {L:List Tk} {o:Nat} {RL:PV} (hR:RL.pure=true) (hT:TokOK L):∀ (n m i:Nat),m < 128->i < L.length->match IA L n m i with
 | .ok v j=>v < 128/\i < j/\j < L.length/\∀ (bx:List PBox) (hid:id < bx.length) (hc:DM bx) (e:List PV),getT e 0=.bp id 0->getT e 3=.int .i64 (m:Int)->∃ e',Cf CC Lc ⟨e,BX bx id (Ap L i o RL) []⟩=some (.ret,⟨e',BX bx id (Ap L j o RL) []⟩)/\getT e' 2=.int .i64 (v:Int)
 | .bad t c=>∃ i' o',∀ (bx:List PBox) (hid:id < bx.length) (hc:DM bx) (e:List PV),getT e 0=.bp id 0->getT e 3=.int .i64 (m:Int)->∃ e' ys',Cf CC Lc ⟨e,BX bx id (Ap L i o RL) []⟩=some (.pan (B5 t c),⟨e',BX bx id (Ap L i' o' RL) ys'⟩)
 | .out=>True:=by
 intro n
 induction n with
 | zero=>intro m i hm hi;unfold IA;trivial
 | succ n ih=>
  intro m i hm hi;have h0:=ox (id:=id) (o:=o) hR hi hT;unfold IA;cases r0:P9 L i with
  | out=>trivial
  | bad t c=>
   rw [r0] at h0;obtain ⟨i',o',h0⟩:=h0;refine ⟨i',o',fun bx hid hc e g0 g3=>?_⟩;have t0:=Am hid hc hR h0;rw [AX (Aa Ab0 [1,1,0,0]) hL];unfold Ap;rw [<- Al];rw [<- AI] at t0;simp only [Aa,Ac,Ab0,Aau];simp only [S9,Af,seval,PY,PZ,AS,g0,g3,t0,hid];exact ⟨_,_,rfl⟩
  | ok k i1=>
   rw [r0] at h0;have j0:=oz hT hi r0;have BF:=j0.2.1;have we:=zY k j0.2.2;obtain ⟨hor,BC⟩:=or7 hm j0.2.2;dsimp only [Au];cases hk:Bs L 4 [44] i1 with
   | false=>
    simp only [Ab9,if_false];refine ⟨BC,j0.1,BF,fun bx hid hc e g0 g3=>?_⟩;have t0:=Ab hid hc hR h0;have t1:=Ab hid hc hR (AQ (id:=id) (o:=o) hR BF hT _ hk);rw [AX (Aa Ab0 [1,1,0,0]) hL];unfold Ap;rw [<- Al];rw [<- AI] at t0 t1;simp only [Aa,Ac,Ab0,Aau];simp only [S9,Af,seval,PY,PZ,AS,g0,g3,t0,t1,we,hor,hid];exact ⟨_,rfl,by simp only [S7,Af,seval]⟩
   | true=>
    simp only [if_true];have Gu:=AO hT BF hk (by decide);have key:=ih (m ||| 2 ^ k) (i1+1) BC Gu;cases r2:IA L n (m ||| 2 ^ k) (i1+1) with
    | out=>trivial
    | ok v j=>
     rw [r2] at key;obtain ⟨q1,q2,q3,key⟩:=key;refine ⟨q1,by omega,q3,fun bx hid hc e g0 g3=>?_⟩;have key:=key bx hid hc;have t0:=Ab hid hc hR h0;have t1:=Ab hid hc hR (Bd (id:=id) (o:=o) hR BF hT _ hk);rw [AX (Aa Ab0 [1,1,0,0]) hL];unfold Ap at key |-;rw [<- Al];rw [<- AI] at t0 t1;rw [<- Al] at key;simp only [Aa,Ac,Ab0,Aau];simp only [S9,Af,seval,PY,PZ,AS,g0,g3,t0,t1,we,hor,hid];refine key _ ?_ ?_
     · simp only [S7,Af,seval,g0]
     · simp only [S7,Af,seval]
    | bad t c=>
     rw [r2] at key;obtain ⟨i',o',key⟩:=key;refine ⟨i',o',fun bx hid hc e g0 g3=>?_⟩;have key:=key bx hid hc;have t0:=Ab hid hc hR h0;have t1:=Ab hid hc hR (Bd (id:=id) (o:=o) hR BF hT _ hk);rw [AX (Aa Ab0 [1,1,0,0]) hL];unfold Ap at key |-;rw [<- Al];rw [<- AI] at t0 t1;rw [<- Al] at key;simp only [Aa,Ac,Ab0,Aau];simp only [S9,Af,seval,PY,PZ,AS,g0,g3,t0,t1,we,hor,hid];refine key _ ?_ ?_
     · simp only [S7,Af,seval,g0]
     · simp only [S7,Af,seval]
theorem YL {id:Nat} {L:List Tk} {i o:Nat} {RL:PV} (hR:RL.pure=true) (hi:i < L.length) (hT:TokOK L):XI 147 [] id L RL i o (fun n=>.int .i64 ((n:Nat):Int)) (KC L i):=by
 have Ag:=Vv _ rfl (id:=id) (o:=o) hR hT (L.length+1) 0 i (by decide) hi;unfold KC;cases r0:IA L (L.length+1) 0 i with
 | out=>exact AT
 | ok v j=>
  rw [r0] at Ag;obtain ⟨_,_,_,Ag⟩:=Ag;refine Bi (A5 hR (fun n=>by simp [PV.under]) fun bx hid hc=>?_);have Ag:=Ag bx hid hc;rw [E2 rfl];simp only [Aa,Ac,Ab0,Aau] at Ag |-;unfold Ap at Ag |-;rw [<- Al];rw [<- Al] at Ag;simp only [S9,Af,seval,PY,PZ,AS,hid];generalize hE:GM _ _=z
  have hP:∃ e',z=some (.ret,⟨e',BX bx id (.cells 92 [.sl (Bl L),.int .i64 ((j:Nat):Int),.int .i64 ((o:Nat):Int),RL]) []⟩)/\getT e' 2=.int .i64 (v:Int):=by
   rw [<- hE];refine Ag _ ?_ ?_
   · simp only [S7,Af,seval]
   · simp only [S7,Af,seval] <;> rfl
  obtain ⟨e',he,h2⟩:=hP;subst he;clear hE Ag;simp only [S9,Af,seval,PY,PZ,AS,h2,hid];exact ⟨_,rfl⟩
 | bad t c=>
  rw [r0] at Ag;obtain ⟨i',o',Ag⟩:=Ag;refine AM ⟨i',o',Ax hR fun bx hid hc=>?_⟩;have Ag:=Ag bx hid hc;rw [E2 rfl];simp only [Aa,Ac,Ab0,Aau] at Ag |-;unfold Ap at Ag |-;rw [<- Al];rw [<- Al] at Ag;simp only [S9,Af,seval,PY,PZ,AS,hid];generalize hE:GM _ _=z
  have hP:∃ e' ys',z=some (.pan (B5 t c),⟨e',BX bx id (.cells 92 [.sl (Bl L),.int .i64 ((i':Nat):Int),.int .i64 ((o':Nat):Int),RL]) ys'⟩):=by
   rw [<- hE];refine Ag _ ?_ ?_
   · simp only [S7,Af,seval]
   · simp only [S7,Af,seval] <;> rfl
  obtain ⟨e',ys',he⟩:=hP;subst he;clear hE Ag;simp only [S9,Af,seval,PY,PZ,AS,hid];exact ⟨_,rfl⟩
theorem Ng {L:List Tk} {i:Nat} {a j:Nat} (hT:TokOK L) (hi:i < L.length) (h:KC L i=.ok a j):i < j/\j < L.length/\a < 128:=by
 have Ag:=Vv (RL:=.nils) _ rfl (id:=0) (o:=0) rfl hT (L.length+1) 0 i (by decide) hi;unfold KC at h;rw [h] at Ag;exact ⟨Ag.2.1,Ag.2.2.1,Ag.1⟩
theorem gj:JG CC Aay (Aay.body.getD .skip)=true:=by kernel_rfl
theorem gk:Be CC Aay (Aay.body.getD .skip)=false:=by kernel_rfl
theorem gl:CC.P.funcs[188]?=some Aay:=by kernel_rfl
theorem Uc:CM CC (opsOf (Aa Aay [1,1,0]))=false:=by kernel_rfl
theorem bm:((BO (opsOf (Aa Aay [1,1,0]))).all fun l=>(Abh (opsOf (Aa Aay [1,1,0])).size).all fun j=>l.contains j)=true:=by kernel_rfl
theorem bn:(BO (opsOf (Aa Aay [1,1,0]))).isEmpty=false:=by kernel_rfl
theorem R6:(opsOf (Aa Aay [1,1,0])).size=13:=by kernel_rfl
def E8 (bx:List PBox) (id:Nat) (L:List Tk) (i:Nat):List (Nat×Nat×PV):=[(0,8,.bp id 0),(1,9,.bp id 0),(2,10,.bp id 0),(3,11,.sl (Bl L)),(4,12,.bp id 0),(5,13,.bp id 0),(6,14,.bp id 1),(7,15,.int .i64 (i:Int)),(8,16,.int .i64 ((i+1:Nat):Int)),(9,17,.ip [.int .i64 ((tokAt L (i+1)).1:Int),.str (tokAt L (i+1)).2.1,.int .i64 ((tokAt L (i+1)).2.2:Int)]),(10,18,.agg [.int .i64 ((tokAt L (i+1)).1:Int),.str (tokAt L (i+1)).2.1,.int .i64 ((tokAt L (i+1)).2.2:Int)]),(11,3,.bp bx.length 0)]
def FE (bx:List PBox) (id:Nat) (L:List Tk) (i o:Nat) (RL:PV) (D:Nat->Bool):List PBox:=BX bx id (Ap L i o RL) (if D 12 then [.cells 80 [.int .i64 ((tokAt L (i+1)).1:Int),.str (tokAt L (i+1)).2.1,.int .i64 ((tokAt L (i+1)).2.2:Int)]] else if D 11 then [.cells 80 [.int .i64 0,.str [],.int .i64 0]] else [])
theorem kb (bx:List PBox) (id:Nat) (L:List Tk) (i:Nat):(E8 bx id L i).Pairwise (fun x y=>x.1≠y.1/\x.2.1≠y.2.1):=by unfold E8;simp
theorem oA {bx:List PBox} {id:Nat} {L:List Tk} {i o:Nat} {RL:PV} {D:Nat->Bool} (hid:id < bx.length):(FE bx id L i o RL D)[id]?=some (Ap L i o RL):=Ww hid
theorem bo {bx:List PBox} {id:Nat} {L:List Tk} {i o:Nat} {RL:PV} (hR:RL.pure=true) (hT:TokOK L) (hid:id < bx.length) (Gu:i+1 < L.length) (e:List PV) (h0:getT e 0=.bp id 0) :
 ∃ e',drawAll CC (Ad CC) (opsOf (Aa Aay [1,1,0])) ⟨e,BX bx id (Ap L i o RL) []⟩=some (.normal,⟨e',BX bx id (Ap L i o RL) [.cells 80 [.int .i64 ((tokAt L (i+1)).1:Int),.str (tokAt L (i+1)).2.1,.int .i64 ((tokAt L (i+1)).2.2:Int)]]⟩)/\getT e' 0=.bp id 0/\getT e' 3=.bp bx.length 0:=by
 refine ⟨_,Rm (e0:=e) (L:=E8 bx id L i) (bxOf:=FE bx id L i o RL) bm bn (fun D j op Bb hD GA MA=>?_) (by unfold FE E8;simp [By]) (r:=⟨By e (fun _=>true) (E8 bx id L i),BX bx id (Ap L i o RL) [.cells 80 [.int .i64 ((tokAt L (i+1)).1:Int),.str (tokAt L (i+1)).2.1,.int .i64 ((tokAt L (i+1)).2.2:Int)]]⟩) (fun D hD=>?_),?_,?_⟩
 · have AS:Ak [PV.bp id 0]=false:=rfl
   have hcl12:D 12=true->D 11=true:=fun h=>MA 12 _ rfl h ⟨11,.data⟩ (by simp [opsOf,Aa,Ac,Aay]) rfl
   have hj:j < 13:=by
    have:=(Array.getElem?_eq_some_iff.1 Bb).1;rw [R6] at this;exact this
   have hw:Ab8 .i64 ((i:Int)+1)=((i+1:Nat):Int):=by rw [wrap_i64 ⟨by omega,by have:=hT.len;omega⟩];omega
   have hg:=du Gu;unfold Ol at hg;have DK:¬ (((i+1:Nat):Int) < 0):=by omega
   have hn:((i+1:Nat):Int).toNat=i+1:=by omega
   have JE:=kb bx id L i;have z0:getT (By e D (E8 bx id L i)) 0=.bp id 0:=by rw [Hd e D 0 _ (by unfold E8;simp)];exact h0
   have Hs:=oA (L:=L) (i:=i) (o:=o) (RL:=RL) (D:=D) hid;unfold Ap at Hs;have hlenB:D 11=false->D 12=false->(FE bx id L i o RL D).length=bx.length:=fun a b=>by unfold FE;rw [a,b];simp [F8]
   by_cases e0:j=0
   · subst e0
     simp only [opsOf,Aa,Ac,Aay,Aau,Aax,Aaw,Aav] at Bb;injection Bb with Bb
     subst Bb;refine ⟨rfl,fun al=>?_⟩;rw [<- B1 e D 0 8 (.bp id 0) hD _ (by unfold E8;simp) JE];have hb:FE bx id L i o RL (DP D 0)=FE bx id L i o RL D:=by unfold FE;rw [B7 (by decide),B7 (by decide)]
     rw [hb];generalize FE bx id L i o RL D=Bx at *;generalize By e D (E8 bx id L i)=E at *;rw [<- N2];simp only [S9,Je,seval,PY,PZ,AS,z0,Hs,hg,DK,hn,hw,hid];exact ⟨_,rfl⟩
   by_cases e1:j=1
   · subst e1
     simp only [opsOf,Aa,Ac,Aay,Aau,Aax,Aaw,Aav] at Bb;injection Bb with Bb
     subst Bb;refine ⟨rfl,fun al=>?_⟩;have d0:D 0=true:=GA ⟨0,.data⟩ (by simp) rfl;have z8:getT (By e D (E8 bx id L i)) 8=.bp id 0:=BT e D 0 8 _ d0 _ (by unfold E8;simp) JE;rw [<- B1 e D 1 9 (.bp id 0) hD _ (by unfold E8;simp) JE];have hb:FE bx id L i o RL (DP D 1)=FE bx id L i o RL D:=by unfold FE;rw [B7 (by decide),B7 (by decide)]
     rw [hb];generalize FE bx id L i o RL D=Bx at *;generalize By e D (E8 bx id L i)=E at *;rw [<- N2];simp only [S9,Je,seval,PY,PZ,AS,z0,Hs,hg,DK,hn,hw,z8,hid];exact ⟨_,rfl⟩
   by_cases e2:j=2
   · subst e2
     simp only [opsOf,Aa,Ac,Aay,Aau,Aax,Aaw,Aav] at Bb;injection Bb with Bb
     subst Bb;refine ⟨rfl,fun al=>?_⟩;have d1:D 1=true:=GA ⟨1,.data⟩ (by simp) rfl;have z9:getT (By e D (E8 bx id L i)) 9=.bp id 0:=BT e D 1 9 _ d1 _ (by unfold E8;simp) JE;rw [<- B1 e D 2 10 (.bp id 0) hD _ (by unfold E8;simp) JE];have hb:FE bx id L i o RL (DP D 2)=FE bx id L i o RL D:=by unfold FE;rw [B7 (by decide),B7 (by decide)]
     rw [hb];generalize FE bx id L i o RL D=Bx at *;generalize By e D (E8 bx id L i)=E at *;rw [<- N2];simp only [S9,Je,seval,PY,PZ,AS,z0,Hs,hg,DK,hn,hw,z9,hid];exact ⟨_,rfl⟩
   by_cases e3:j=3
   · subst e3
     simp only [opsOf,Aa,Ac,Aay,Aau,Aax,Aaw,Aav] at Bb;injection Bb with Bb
     subst Bb;refine ⟨rfl,fun al=>?_⟩;have d2:D 2=true:=GA ⟨2,.data⟩ (by simp) rfl;have z10:getT (By e D (E8 bx id L i)) 10=.bp id 0:=BT e D 2 10 _ d2 _ (by unfold E8;simp) JE;rw [<- B1 e D 3 11 (.sl (Bl L)) hD _ (by unfold E8;simp) JE];have hb:FE bx id L i o RL (DP D 3)=FE bx id L i o RL D:=by unfold FE;rw [B7 (by decide),B7 (by decide)]
     rw [hb];generalize FE bx id L i o RL D=Bx at *;generalize By e D (E8 bx id L i)=E at *;rw [<- N2];simp only [S9,Je,seval,PY,PZ,AS,z0,Hs,hg,DK,hn,hw,z10,hid];exact ⟨_,rfl⟩
   by_cases e4:j=4
   · subst e4
     simp only [opsOf,Aa,Ac,Aay,Aau,Aax,Aaw,Aav] at Bb;injection Bb with Bb
     subst Bb;refine ⟨rfl,fun al=>?_⟩;rw [<- B1 e D 4 12 (.bp id 0) hD _ (by unfold E8;simp) JE];have hb:FE bx id L i o RL (DP D 4)=FE bx id L i o RL D:=by unfold FE;rw [B7 (by decide),B7 (by decide)]
     rw [hb];generalize FE bx id L i o RL D=Bx at *;generalize By e D (E8 bx id L i)=E at *;rw [<- N2];simp only [S9,Je,seval,PY,PZ,AS,z0,Hs,hg,DK,hn,hw,hid];exact ⟨_,rfl⟩
   by_cases e5:j=5
   · subst e5
     simp only [opsOf,Aa,Ac,Aay,Aau,Aax,Aaw,Aav] at Bb;injection Bb with Bb
     subst Bb;refine ⟨rfl,fun al=>?_⟩;have d4:D 4=true:=GA ⟨4,.data⟩ (by simp) rfl;have z12:getT (By e D (E8 bx id L i)) 12=.bp id 0:=BT e D 4 12 _ d4 _ (by unfold E8;simp) JE;rw [<- B1 e D 5 13 (.bp id 0) hD _ (by unfold E8;simp) JE];have hb:FE bx id L i o RL (DP D 5)=FE bx id L i o RL D:=by unfold FE;rw [B7 (by decide),B7 (by decide)]
     rw [hb];generalize FE bx id L i o RL D=Bx at *;generalize By e D (E8 bx id L i)=E at *;rw [<- N2];simp only [S9,Je,seval,PY,PZ,AS,z0,Hs,hg,DK,hn,hw,z12,hid];exact ⟨_,rfl⟩
   by_cases e6:j=6
   · subst e6
     simp only [opsOf,Aa,Ac,Aay,Aau,Aax,Aaw,Aav] at Bb;injection Bb with Bb
     subst Bb;refine ⟨rfl,fun al=>?_⟩;have d5:D 5=true:=GA ⟨5,.data⟩ (by simp) rfl;have z13:getT (By e D (E8 bx id L i)) 13=.bp id 0:=BT e D 5 13 _ d5 _ (by unfold E8;simp) JE;rw [<- B1 e D 6 14 (.bp id 1) hD _ (by unfold E8;simp) JE];have hb:FE bx id L i o RL (DP D 6)=FE bx id L i o RL D:=by unfold FE;rw [B7 (by decide),B7 (by decide)]
     rw [hb];generalize FE bx id L i o RL D=Bx at *;generalize By e D (E8 bx id L i)=E at *;rw [<- N2];simp only [S9,Je,seval,PY,PZ,AS,z0,Hs,hg,DK,hn,hw,z13,hid];exact ⟨_,rfl⟩
   by_cases e7:j=7
   · subst e7
     simp only [opsOf,Aa,Ac,Aay,Aau,Aax,Aaw,Aav] at Bb;injection Bb with Bb
     subst Bb;refine ⟨rfl,fun al=>?_⟩;have d6:D 6=true:=GA ⟨6,.data⟩ (by simp) rfl;have z14:getT (By e D (E8 bx id L i)) 14=.bp id 1:=BT e D 6 14 _ d6 _ (by unfold E8;simp) JE;rw [<- B1 e D 7 15 (.int .i64 (i:Int)) hD _ (by unfold E8;simp) JE];have hb:FE bx id L i o RL (DP D 7)=FE bx id L i o RL D:=by unfold FE;rw [B7 (by decide),B7 (by decide)]
     rw [hb];generalize FE bx id L i o RL D=Bx at *;generalize By e D (E8 bx id L i)=E at *;rw [<- N2];simp only [S9,Je,seval,PY,PZ,AS,z0,Hs,hg,DK,hn,hw,z14,hid];exact ⟨_,rfl⟩
   by_cases e8:j=8
   · subst e8
     simp only [opsOf,Aa,Ac,Aay,Aau,Aax,Aaw,Aav] at Bb;injection Bb with Bb
     subst Bb;refine ⟨rfl,fun al=>?_⟩;have d7:D 7=true:=GA ⟨7,.data⟩ (by simp) rfl;have z15:getT (By e D (E8 bx id L i)) 15=.int .i64 (i:Int):=BT e D 7 15 _ d7 _ (by unfold E8;simp) JE;rw [<- B1 e D 8 16 (.int .i64 ((i+1:Nat):Int)) hD _ (by unfold E8;simp) JE];have hb:FE bx id L i o RL (DP D 8)=FE bx id L i o RL D:=by unfold FE;rw [B7 (by decide),B7 (by decide)]
     rw [hb];generalize FE bx id L i o RL D=Bx at *;generalize By e D (E8 bx id L i)=E at *;rw [<- N2];simp only [S9,Je,seval,PY,PZ,AS,z0,Hs,hg,DK,hn,hw,z15,hid];exact ⟨_,rfl⟩
   by_cases e9:j=9
   · subst e9
     simp only [opsOf,Aa,Ac,Aay,Aau,Aax,Aaw,Aav] at Bb;injection Bb with Bb
     subst Bb;refine ⟨rfl,fun al=>?_⟩;have d3:D 3=true:=GA ⟨3,.data⟩ (by simp) rfl;have z11:getT (By e D (E8 bx id L i)) 11=.sl (Bl L):=BT e D 3 11 _ d3 _ (by unfold E8;simp) JE;have d8:D 8=true:=GA ⟨8,.data⟩ (by simp) rfl;have z16:getT (By e D (E8 bx id L i)) 16=.int .i64 ((i+1:Nat):Int):=BT e D 8 16 _ d8 _ (by unfold E8;simp) JE;rw [<- B1 e D 9 17 (.ip [.int .i64 ((tokAt L (i+1)).1:Int),.str (tokAt L (i+1)).2.1,.int .i64 ((tokAt L (i+1)).2.2:Int)]) hD _ (by unfold E8;simp) JE];have hb:FE bx id L i o RL (DP D 9)=FE bx id L i o RL D:=by unfold FE;rw [B7 (by decide),B7 (by decide)]
     rw [hb];generalize FE bx id L i o RL D=Bx at *;generalize By e D (E8 bx id L i)=E at *;rw [<- N2];simp only [S9,Je,seval,PY,PZ,AS,z0,Hs,hg,DK,hn,hw,z11,z16,hid];exact ⟨_,rfl⟩
   by_cases e10:j=10
   · subst e10
     simp only [opsOf,Aa,Ac,Aay,Aau,Aax,Aaw,Aav] at Bb;injection Bb with Bb
     subst Bb;refine ⟨rfl,fun al=>?_⟩;have d9:D 9=true:=GA ⟨9,.data⟩ (by simp) rfl;have z17:getT (By e D (E8 bx id L i)) 17=.ip [.int .i64 ((tokAt L (i+1)).1:Int),.str (tokAt L (i+1)).2.1,.int .i64 ((tokAt L (i+1)).2.2:Int)]:=BT e D 9 17 _ d9 _ (by unfold E8;simp) JE;rw [<- B1 e D 10 18 (.agg [.int .i64 ((tokAt L (i+1)).1:Int),.str (tokAt L (i+1)).2.1,.int .i64 ((tokAt L (i+1)).2.2:Int)]) hD _ (by unfold E8;simp) JE];have hb:FE bx id L i o RL (DP D 10)=FE bx id L i o RL D:=by unfold FE;rw [B7 (by decide),B7 (by decide)]
     rw [hb];generalize FE bx id L i o RL D=Bx at *;generalize By e D (E8 bx id L i)=E at *;rw [<- N2];simp only [S9,Je,seval,PY,PZ,AS,z0,Hs,hg,DK,hn,hw,z17,hid];exact ⟨_,rfl⟩
   by_cases e11:j=11
   · subst e11
     simp only [opsOf,Aa,Ac,Aay,Aau,Aax,Aaw,Aav] at Bb;injection Bb with Bb
     subst Bb;refine ⟨rfl,fun al=>?_⟩;rw [<- B1 e D 11 3 (.bp bx.length 0) hD _ (by unfold E8;simp) JE]
     have d12:D 12=false:=by
      cases vl:D 12 with
      | false=>rfl
      | true=>exact absurd (hcl12 vl) (by rw [hD];decide)
     have hl:=hlenB hD d12;have hb:FE bx id L i o RL (DP D 11)=FE bx id L i o RL D++[.cells 80 [.int .i64 0,.str [],.int .i64 0]]:=by unfold FE;rw [B7 (by decide),Vc,d12,hD];simp [bl]
     rw [hb];generalize FE bx id L i o RL D=Bx at *;generalize By e D (E8 bx id L i)=E at *;rw [<- N2];simp only [S9,Je,seval,PY,PZ,AS,z0,Hs,hg,DK,hn,hw,hl,hid];exact ⟨_,rfl⟩
   by_cases e12:j=12
   · subst e12
     simp only [opsOf,Aa,Ac,Aay,Aau,Aax,Aaw,Aav] at Bb;injection Bb with Bb
     subst Bb;refine ⟨rfl,fun al=>?_⟩;have d10:D 10=true:=GA ⟨10,.data⟩ (by simp) rfl;have z18:getT (By e D (E8 bx id L i)) 18=.agg [.int .i64 ((tokAt L (i+1)).1:Int),.str (tokAt L (i+1)).2.1,.int .i64 ((tokAt L (i+1)).2.2:Int)]:=BT e D 10 18 _ d10 _ (by unfold E8;simp) JE;have d11:D 11=true:=GA ⟨11,.data⟩ (by simp) rfl;have z3:getT (By e D (E8 bx id L i)) 3=.bp bx.length 0:=BT e D 11 3 _ d11 _ (by unfold E8;simp) JE;rw [Hc e D 12 _ (by unfold E8;simp)];have hb:FE bx id L i o RL (DP D 12)=BX bx id (Ap L i o RL) [.cells 80 [.int .i64 ((tokAt L (i+1)).1:Int),.str (tokAt L (i+1)).2.1,.int .i64 ((tokAt L (i+1)).2.2:Int)]]:=by unfold FE;rw [Vc];rfl
     have Mw:FE bx id L i o RL D=BX bx id (Ap L i o RL) [.cells 80 [.int .i64 0,.str [],.int .i64 0]]:=by unfold FE;rw [hD,d11];rfl
     rw [hb,Mw];generalize By e D (E8 bx id L i)=E at *;unfold Ap;rw [<- N2];simp only [S9,Je,seval,PY,PZ,AS,z0,Hs,hg,DK,hn,hw,z18,z3,hid];exact ⟨_,rfl⟩
   omega
 · have I4:=R6
   have hd:∀ j,j < 13->D j=true:=fun j hj=>hD j (by rw [I4];exact hj);unfold E8 FE;simp only [By,hd 0 (by decide),hd 1 (by decide),hd 2 (by decide),hd 3 (by decide),hd 4 (by decide),hd 5 (by decide),hd 6 (by decide),hd 7 (by decide),hd 8 (by decide),hd 9 (by decide),hd 10 (by decide),hd 11 (by decide),hd 12 (by decide),if_true]
 · rw [Hd e _ 0 _ (by unfold E8;simp)];exact h0
 · exact BT e _ 11 3 _ rfl _ (by unfold E8;simp) (kb bx id L i)
theorem Cm {id:Nat} {L:List Tk} {i o:Nat} {RL:PV} (hR:RL.pure=true) (hi:i < L.length) (hT:TokOK L):T9 188 [] id L RL i o (.bool (Cz L i)) i o:=by
 refine A5 hR (fun n=>by simp [PV.under]) fun bx hid hc=>?_;have t0:=Ab hid hc hR (AA (id:=id) (o:=o) hR hi);have hq:=Ot (tokAt L i).1 2;rw [CN (fn:=Aay) (c:=Aay.body.getD .skip) rfl rfl gl rfl gk gj (Ab2 rfl)];unfold Cz;by_cases hk:(tokAt L i).1=2
 · have Gu:=HN hT hi (by rw [hk];decide)
   rw [beq_iff_eq.2 hk] at hq |-;have hq:(((tokAt L i).1:Int) != 2)=false:=hq;have hd:=fun e=>bo (o:=o) (id:=id) hR hT hid Gu e;simp only [<- A8 Uc] at hd;have se:=Ot (tokAt L (i+1)).1 4;have hs:ED .neq (tokAt L (i+1)).2.1 [46]=some (.bool (!((tokAt L (i+1)).2.1 == [46]))):=rfl;rw [<- Ch];rw [<- C3] at t0;rw [<- I3] at hd;unfold Ap at hd |-;simp only [opsOf,Aa,Ac,Aay,Aau] at hd |-;simp only [S9,A6,seval,PY,PZ,AS,t0,hq,hid];generalize hE:vL _ _=z
   have hP:∃ e',z=some (.normal,⟨e',BX bx id (.cells 92 [.sl (Bl L),.int .i64 ((i:Nat):Int),.int .i64 ((o:Nat):Int),RL]) [.cells 80 [.int .i64 ((tokAt L (i+1)).1:Int),.str (tokAt L (i+1)).2.1,.int .i64 ((tokAt L (i+1)).2.2:Int)]]⟩)/\getT e' 0=.bp id 0/\getT e' 3=.bp bx.length 0:=by
    rw [<- hE];refine hd _ ?_;simp only [S7,A6,seval]
   obtain ⟨e',he,g0,g3⟩:=hP;subst he;clear hE hd;by_cases wc:(tokAt L (i+1)).1=4
   · rw [beq_iff_eq.2 wc] at se
     have se:(((tokAt L (i+1)).1:Int) != 4)=false:=se;have hr:Bs L 4 [46] (i+1)=((tokAt L (i+1)).2.1 == [46]):=by unfold Bs;rw [beq_iff_eq.2 wc];rfl
     rw [hr];simp only [S9,A6,seval,PY,PZ,AS,g0,g3,se,hs,Abn,hid];exact ⟨_,rfl⟩
   · rw [beq_eq_false_iff_ne.2 wc] at se
     have se:(((tokAt L (i+1)).1:Int) != 4)=true:=se;have hr:Bs L 4 [46] (i+1)=false:=by unfold Bs;rw [beq_eq_false_iff_ne.2 wc];rfl
     rw [hr];simp only [S9,A6,seval,PY,PZ,AS,g0,g3,se,hs,Abn,hid];exact ⟨_,rfl⟩
 · rw [beq_eq_false_iff_ne.2 hk] at hq |-
   have hq:(((tokAt L i).1:Int) != 2)=true:=hq;rw [<- Ch];rw [<- C3] at t0;unfold Ap;simp only [Aa,Ac,Aay,Aau];simp only [S9,A6,seval,PY,PZ,AS,t0,hq,Bool.false_and,hid];exact ⟨_,rfl⟩
def Bp (t:Tr):List PV:=(Bw t).cells
theorem An (t:Tr):Bw t=.agg (Bp t):=by cases t;unfold Bp Bw;rfl
theorem Nh (t:Tr):(Bp t).length=11:=by cases t;unfold Bp Bw;rfl
theorem sM (t:Tr):(Bp t).map PV.ro=Bp t:=by cases t;unfold Bp Bw;rfl
theorem YM (t:Tr):(Bp t).map PV.seal1=Bp t:=by cases t;unfold Bp Bw;rfl
theorem oB (t:Tr):(Bp t).all PV.one=true:=by cases t;unfold Bp Bw;rfl
theorem R7 (t:Tr):Ak (Bp t)=true:=by
 have:=Bz t;rw [An] at this;simpa [PV.pure] using this
theorem gm (n:Nat) (t:Tr):Ar n (Bp t)=true:=Ay n _ (R7 t)
theorem kc (t:Tr):(Bp t).take 11=Bp t:=List.take_of_length_le (by rw [Nh];exact Abb _)
theorem ke (t:Tr):(Bp t).drop 11=[]:=Abd (by rw [Nh];exact Abb _)
theorem SX:(∀ t,(Bp t).length=11)/\(∀ t,(Bp t).map PV.ro=Bp t)/\(∀ t,(Bp t).map PV.seal1=Bp t)/\(∀ t,(Bp t).all PV.one=true)/\(∀ t,Ak (Bp t)=true)/\(∀ n t,Ar n (Bp t)=true)/\(∀ t,(Bp t).take 11=Bp t)/\(∀ t,(Bp t).drop 11=[])/\(∀ n x r,(PV.bp x r).under n=decide (x < n)):=
 ⟨Nh,sM,YM,oB,R7,gm,kc,ke,fun _ _ _=>by simp [PV.under]⟩
noncomputable def IE:TypeInfo:=(Tryz.prog.info? 29).getD default
theorem kg (t:Tr):Gd true 11 (.agg (Bp t))=some (.agg (Bp t)):=by
 unfold Gd;simp only [PV.shutV,YM,Nh];rfl
theorem zZ:tZero CC 29=some (.agg He)/\CC.P.info? 29=some IE/\IE.size=11/\CC.P.underlying 27=some (.slice 29)/\tAgg CC 29=true/\(PV.agg He).cells.length=11/\(PV.agg He).val=true:=⟨by kernel_rfl,by kernel_rfl,by kernel_rfl,by kernel_rfl,by kernel_rfl,rfl,by kernel_rfl⟩
theorem gp (a:Tr):AZ CC 27 1 [(0,.agg (Bp a))]=some (.osl 29 [.agg (Bp a)]):=by
 obtain ⟨hz,hi,hs,hu,ht,hl,hv⟩:=zZ;unfold AZ;simp only [hu,hz,hi,hs,ht,hl,hv,Aba,Abc,kg];rfl
theorem Ud (a b:Tr):AZ CC 27 2 [(0,.agg (Bp a)),(1,.agg (Bp b))]=some (.osl 29 [.agg (Bp a),.agg (Bp b)]):=by
 obtain ⟨hz,hi,hs,hu,ht,hl,hv⟩:=zZ;unfold AZ;simp only [hu,hz,hi,hs,ht,hl,hv,Aba,Abc,kg];rfl
theorem z' (a b c:Tr):AZ CC 27 3 [(0,.agg (Bp a)),(1,.agg (Bp b)),(2,.agg (Bp c))]=some (.osl 29 [.agg (Bp a),.agg (Bp b),.agg (Bp c)]):=by
 obtain ⟨hz,hi,hs,hu,ht,hl,hv⟩:=zZ;unfold AZ;simp only [hu,hz,hi,hs,ht,hl,hv,Aba,Abc,kg];rfl
theorem YN:∀ l:List Tr,A1 l=l.map fun t=>PV.agg (Bp t)
 | []=>by unfold A1;rfl
 | t :: r=>by unfold A1;rw [YN r,An];rfl
theorem oC (k:Int) (l:List Tr) (bx):Ai CC (Ad CC) 141 [.int .i64 k,.sl (l.map fun t=>PV.agg (Bp t))] bx=some (.ret (.agg (Bp (Bf k l))),bx):=by
 have:=Ub k l bx;rw [YN,An] at this;exact this
theorem oD (k:Int) (a:Tr) (bx):Ai CC (Ad CC) 141 [.int .i64 k,.sl [.agg (Bp a)]] bx=some (.ret (.agg (Bp (Bf k [a]))),bx):=oC k [a] bx
theorem Ue (k:Int) (a b:Tr) (bx):Ai CC (Ad CC) 141 [.int .i64 k,.sl [.agg (Bp a),.agg (Bp b)]] bx=some (.ret (.agg (Bp (Bf k [a,b]))),bx):=oC k [a,b] bx
theorem Aa0 (k:Int) (a b c:Tr) (bx):Ai CC (Ad CC) 141 [.int .i64 k,.sl [.agg (Bp a),.agg (Bp b),.agg (Bp c)]] bx=some (.ret (.agg (Bp (Bf k [a,b,c]))),bx):=oC k [a,b,c] bx
theorem bq (k n:Int) (bx):Ai CC (Ad CC) 104 [.int .i64 k,.int .i64 n] bx=some (.ret (.agg (Bp (En k n))),bx):=by rw [<- An];exact Ox k n bx
theorem AY (st:St):DL (some (.normal,st))=some (.normal,st):=rfl
theorem Bg (v:PV) (st:St):DL (some (.pan v,st))=some (.pan v,⟨[],st.bx⟩):=rfl
theorem Fu (e:List PV) (i j:Nat) (a b:PV) (h:j < i):setT (setT e i a) j b=setT (setT e j b) i a:=Av e i j a b (by omega)
theorem Ez {L:Code} (b:Code) (h:L=.loop b) (st:St):Lp CC L st=D9 (Lp CC b st) (Lp CC L):=by
 subst h;exact UY true b st
theorem Wy:CM CC (opsOf (Aa Aaz [1,1,0,0,0,1,0]))=false:=by kernel_rfl
theorem Ni:BO (opsOf (Aa Aaz [1,1,0,0,0,1,0]))=[[0,1,2,3,4,5],[1,0,2,3,4,5],[1,2,0,3,4,5]]:=by kernel_rfl
theorem Nj {bx:List PBox} {id:Nat} {L:List Tk} {i o:Nat} {RL:PV} (hR:RL.pure=true) (a b:Tr) {j:Nat} (hid:id < bx.length) (hc:DM bx)  (e:List PV) (g0:getT e 0=.bp id 0) (g3:getT e 3=.bp (bx.length+1) 0) (t1:∀ ys:List PBox,(ys.all fun x=>x.under (bx.length+ys.length))=true->Ai CC (Ad CC) 184 [.bp id 0] (BX bx id (.cells 92 [.sl (Bl L),.int .i64 ((i:Nat):Int),.int .i64 ((o:Nat):Int),RL]) ys)=some (.ret (.agg (Bp b)),BX bx id (.cells 92 [.sl (Bl L),.int .i64 ((j:Nat):Int),.int .i64 ((o:Nat):Int),RL]) ys)) :
 drawAll CC (Ad CC) (opsOf (Aa Aaz [1,1,0,0,0,1,0])) ⟨e,BX bx id (Ap L i o RL) [.cells 29 [.int .i64 0,.int .i64 0,.int .i64 0,.str [],.int .i64 0,.int .i64 0,.str [],.int .i64 0,.str [],.str [],.nils],.cells 29 (Bp a)]⟩=some (.normal,⟨(setT (setT (setT (setT (setT e 8 (.agg (Bp a))) 9 (.bp id 0)) 10 (.agg (Bp b))) 11 (.osl 29 [.agg (Bp a),.agg (Bp b)])) 12 (.agg (Bp (Bf 13 [a,b])))),BX bx id (Ap L j o RL) [.cells 29 [.int .i64 0,.int .i64 0,.int .i64 0,.str [],.int .i64 0,.int .i64 0,.str [],.int .i64 0,.str [],.str [],.nils],.cells 29 (Bp (Bf 13 [a,b]))]⟩):=by
 have hb:=Ud a b;have hn:=Ue 13 a b;refine AV.2 ⟨by rw [Ni];simp,fun l hl=>?_⟩;rw [Ni] at hl;unfold Ap;rw [<- My];rw [<- C3] at t1 hn;simp only [Ab7,Ab6,or_false] at hl;rcases hl with rfl | rfl | rfl
 all_goals
  simp only [opsOf,Aa,Ac,Aaz,Aau,AR,Ab3,Ab4,Aax,Aaw,Aav];simp only [S9,A6,seval,PY,PZ,AS,g0,g3,SX,AY,Bg,t1,hb,hn,hid]
  try simp only [Fu,Abe]
theorem Uf {bx:List PBox} {id:Nat} {L:List Tk} {i o:Nat} {RL:PV} (hR:RL.pure=true) (a:Tr) {t:Nat} {c:Int} {i' o':Nat} (hid:id < bx.length) (hc:DM bx)  (e:List PV) (g0:getT e 0=.bp id 0) (g3:getT e 3=.bp (bx.length+1) 0) (t1:∀ ys:List PBox,(ys.all fun x=>x.under (bx.length+ys.length))=true->Ai CC (Ad CC) 184 [.bp id 0] (BX bx id (.cells 92 [.sl (Bl L),.int .i64 ((i:Nat):Int),.int .i64 ((o:Nat):Int),RL]) ys)=some (.pan (B5 t c),BX bx id (.cells 92 [.sl (Bl L),.int .i64 ((i':Nat):Int),.int .i64 ((o':Nat):Int),RL]) ys)) :
 drawAll CC (Ad CC) (opsOf (Aa Aaz [1,1,0,0,0,1,0])) ⟨e,BX bx id (Ap L i o RL) [.cells 29 [.int .i64 0,.int .i64 0,.int .i64 0,.str [],.int .i64 0,.int .i64 0,.str [],.int .i64 0,.str [],.str [],.nils],.cells 29 (Bp a)]⟩=some (.pan (B5 t c),⟨[],BX bx id (Ap L i' o' RL) [.cells 29 [.int .i64 0,.int .i64 0,.int .i64 0,.str [],.int .i64 0,.int .i64 0,.str [],.int .i64 0,.str [],.str [],.nils],.cells 29 (Bp a)]⟩):=by
 refine AV.2 ⟨by rw [Ni];simp,fun l hl=>?_⟩;rw [Ni] at hl;unfold Ap;rw [<- My];rw [<- C3] at t1;simp only [Ab7,Ab6,or_false] at hl;rcases hl with rfl | rfl | rfl
 all_goals
  simp only [opsOf,Aa,Ac,Aaz,Aau,AR,Ab3,Ab4,Aax,Aaw,Aav];simp only [S9,A6,seval,PY,PZ,AS,g0,g3,SX,AY,Bg,t1,hid]
theorem Wz:CM CC (opsOf (Aa Ab5 [1,1,0,0,0,0,1,0]))=false:=by kernel_rfl
theorem Nk:BO (opsOf (Aa Ab5 [1,1,0,0,0,0,1,0]))=[[0,1,2,3,4,5],[1,0,2,3,4,5],[1,2,0,3,4,5]]:=by kernel_rfl
theorem Nl {bx:List PBox} {id:Nat} {L:List Tk} {i o:Nat} {RL:PV} (hR:RL.pure=true) (a b:Tr) {j:Nat} (hid:id < bx.length) (hc:DM bx)  (e:List PV) (g0:getT e 0=.bp id 0) (g3:getT e 3=.bp (bx.length+1) 0) (t1:∀ ys:List PBox,(ys.all fun x=>x.under (bx.length+ys.length))=true->Ai CC (Ad CC) 178 [.bp id 0] (BX bx id (.cells 92 [.sl (Bl L),.int .i64 ((i:Nat):Int),.int .i64 ((o:Nat):Int),RL]) ys)=some (.ret (.agg (Bp b)),BX bx id (.cells 92 [.sl (Bl L),.int .i64 ((j:Nat):Int),.int .i64 ((o:Nat):Int),RL]) ys)) :
 drawAll CC (Ad CC) (opsOf (Aa Ab5 [1,1,0,0,0,0,1,0])) ⟨e,BX bx id (Ap L i o RL) [.cells 29 [.int .i64 0,.int .i64 0,.int .i64 0,.str [],.int .i64 0,.int .i64 0,.str [],.int .i64 0,.str [],.str [],.nils],.cells 29 (Bp a)]⟩=some (.normal,⟨(setT (setT (setT (setT (setT e 10 (.agg (Bp a))) 11 (.bp id 0)) 12 (.agg (Bp b))) 13 (.osl 29 [.agg (Bp a),.agg (Bp b)])) 14 (.agg (Bp (Bf 11 [a,b])))),BX bx id (Ap L j o RL) [.cells 29 [.int .i64 0,.int .i64 0,.int .i64 0,.str [],.int .i64 0,.int .i64 0,.str [],.int .i64 0,.str [],.str [],.nils],.cells 29 (Bp (Bf 11 [a,b]))]⟩):=by
 have hb:=Ud a b;have hn:=Ue 11 a b;refine AV.2 ⟨by rw [Nk];simp,fun l hl=>?_⟩;rw [Nk] at hl;unfold Ap;rw [<- My];rw [<- C3] at t1 hn;simp only [Ab7,Ab6,or_false] at hl;rcases hl with rfl | rfl | rfl
 all_goals
  simp only [opsOf,Aa,Ac,Ab5,Aau,AR,Ab3,Ab4,Aax,Aaw,Aav];simp only [S9,A6,seval,PY,PZ,AS,g0,g3,SX,AY,Bg,t1,hb,hn,hid]
  try simp only [Fu,Abe]
theorem Ug {bx:List PBox} {id:Nat} {L:List Tk} {i o:Nat} {RL:PV} (hR:RL.pure=true) (a:Tr) {t:Nat} {c:Int} {i' o':Nat} (hid:id < bx.length) (hc:DM bx)  (e:List PV) (g0:getT e 0=.bp id 0) (g3:getT e 3=.bp (bx.length+1) 0) (t1:∀ ys:List PBox,(ys.all fun x=>x.under (bx.length+ys.length))=true->Ai CC (Ad CC) 178 [.bp id 0] (BX bx id (.cells 92 [.sl (Bl L),.int .i64 ((i:Nat):Int),.int .i64 ((o:Nat):Int),RL]) ys)=some (.pan (B5 t c),BX bx id (.cells 92 [.sl (Bl L),.int .i64 ((i':Nat):Int),.int .i64 ((o':Nat):Int),RL]) ys)) :
 drawAll CC (Ad CC) (opsOf (Aa Ab5 [1,1,0,0,0,0,1,0])) ⟨e,BX bx id (Ap L i o RL) [.cells 29 [.int .i64 0,.int .i64 0,.int .i64 0,.str [],.int .i64 0,.int .i64 0,.str [],.int .i64 0,.str [],.str [],.nils],.cells 29 (Bp a)]⟩=some (.pan (B5 t c),⟨[],BX bx id (Ap L i' o' RL) [.cells 29 [.int .i64 0,.int .i64 0,.int .i64 0,.str [],.int .i64 0,.int .i64 0,.str [],.int .i64 0,.str [],.str [],.nils],.cells 29 (Bp a)]⟩):=by
 refine AV.2 ⟨by rw [Nk];simp,fun l hl=>?_⟩;rw [Nk] at hl;unfold Ap;rw [<- My];rw [<- C3] at t1;simp only [Ab7,Ab6,or_false] at hl;rcases hl with rfl | rfl | rfl
 all_goals
  simp only [opsOf,Aa,Ac,Ab5,Aau,AR,Ab3,Ab4,Aax,Aaw,Aav];simp only [S9,A6,seval,PY,PZ,AS,g0,g3,SX,AY,Bg,t1,hid]
theorem WA:CM CC (opsOf (Aa Ab5 [1,1,0,0,0,0,1,1,1,0]))=false:=by kernel_rfl
theorem Nn:BO (opsOf (Aa Ab5 [1,1,0,0,0,0,1,1,1,0]))=[[0,1,2,3,4,5],[1,0,2,3,4,5],[1,2,0,3,4,5]]:=by kernel_rfl
theorem No {bx:List PBox} {id:Nat} {L:List Tk} {i o:Nat} {RL:PV} (hR:RL.pure=true) (a b:Tr) {j:Nat} (hid:id < bx.length) (hc:DM bx)  (e:List PV) (g0:getT e 0=.bp id 0) (g3:getT e 3=.bp (bx.length+1) 0) (t1:∀ ys:List PBox,(ys.all fun x=>x.under (bx.length+ys.length))=true->Ai CC (Ad CC) 178 [.bp id 0] (BX bx id (.cells 92 [.sl (Bl L),.int .i64 ((i:Nat):Int),.int .i64 ((o:Nat):Int),RL]) ys)=some (.ret (.agg (Bp b)),BX bx id (.cells 92 [.sl (Bl L),.int .i64 ((j:Nat):Int),.int .i64 ((o:Nat):Int),RL]) ys)) :
 drawAll CC (Ad CC) (opsOf (Aa Ab5 [1,1,0,0,0,0,1,1,1,0])) ⟨e,BX bx id (Ap L i o RL) [.cells 29 [.int .i64 0,.int .i64 0,.int .i64 0,.str [],.int .i64 0,.int .i64 0,.str [],.int .i64 0,.str [],.str [],.nils],.cells 29 (Bp a)]⟩=some (.normal,⟨(setT (setT (setT (setT (setT e 18 (.agg (Bp a))) 19 (.bp id 0)) 20 (.agg (Bp b))) 21 (.osl 29 [.agg (Bp a),.agg (Bp b)])) 22 (.agg (Bp (Bf 12 [a,b])))),BX bx id (Ap L j o RL) [.cells 29 [.int .i64 0,.int .i64 0,.int .i64 0,.str [],.int .i64 0,.int .i64 0,.str [],.int .i64 0,.str [],.str [],.nils],.cells 29 (Bp (Bf 12 [a,b]))]⟩):=by
 have hb:=Ud a b;have hn:=Ue 12 a b;refine AV.2 ⟨by rw [Nn];simp,fun l hl=>?_⟩;rw [Nn] at hl;unfold Ap;rw [<- My];rw [<- C3] at t1 hn;simp only [Ab7,Ab6,or_false] at hl;rcases hl with rfl | rfl | rfl
 all_goals
  simp only [opsOf,Aa,Ac,Ab5,Aau,AR,Ab3,Ab4,Aax,Aaw,Aav];simp only [S9,A6,seval,PY,PZ,AS,g0,g3,SX,AY,Bg,t1,hb,hn,hid]
  try simp only [Fu,Abe]
theorem Uh {bx:List PBox} {id:Nat} {L:List Tk} {i o:Nat} {RL:PV} (hR:RL.pure=true) (a:Tr) {t:Nat} {c:Int} {i' o':Nat} (hid:id < bx.length) (hc:DM bx)  (e:List PV) (g0:getT e 0=.bp id 0) (g3:getT e 3=.bp (bx.length+1) 0) (t1:∀ ys:List PBox,(ys.all fun x=>x.under (bx.length+ys.length))=true->Ai CC (Ad CC) 178 [.bp id 0] (BX bx id (.cells 92 [.sl (Bl L),.int .i64 ((i:Nat):Int),.int .i64 ((o:Nat):Int),RL]) ys)=some (.pan (B5 t c),BX bx id (.cells 92 [.sl (Bl L),.int .i64 ((i':Nat):Int),.int .i64 ((o':Nat):Int),RL]) ys)) :
 drawAll CC (Ad CC) (opsOf (Aa Ab5 [1,1,0,0,0,0,1,1,1,0])) ⟨e,BX bx id (Ap L i o RL) [.cells 29 [.int .i64 0,.int .i64 0,.int .i64 0,.str [],.int .i64 0,.int .i64 0,.str [],.int .i64 0,.str [],.str [],.nils],.cells 29 (Bp a)]⟩=some (.pan (B5 t c),⟨[],BX bx id (Ap L i' o' RL) [.cells 29 [.int .i64 0,.int .i64 0,.int .i64 0,.str [],.int .i64 0,.int .i64 0,.str [],.int .i64 0,.str [],.str [],.nils],.cells 29 (Bp a)]⟩):=by
 refine AV.2 ⟨by rw [Nn];simp,fun l hl=>?_⟩;rw [Nn] at hl;unfold Ap;rw [<- My];rw [<- C3] at t1;simp only [Ab7,Ab6,or_false] at hl;rcases hl with rfl | rfl | rfl
 all_goals
  simp only [opsOf,Aa,Ac,Ab5,Aau,AR,Ab3,Ab4,Aax,Aaw,Aav];simp only [S9,A6,seval,PY,PZ,AS,g0,g3,SX,AY,Bg,t1,hid]
theorem kh {L:List Tk} {i:Nat} {a:Tr} {j:Nat} (hT:TokOK L) (hi:i < L.length) (h:Fp L i=.ok a j):i < j/\j < L.length:=by
 unfold Fp at h;split at h
 · rename_i hk
   injection h with _ h
   have:=AO hT hi hk (by decide);omega
 split at h
 · rename_i hk
   injection h with _ h
   have:=AO hT hi hk (by decide);omega
 split at h
 · rename_i hk
   have h0:=AO hT hi hk (by decide);obtain ⟨_,i1,r1,h⟩:=Aq h;obtain ⟨_,i2,r2,h⟩:=Aq h;injection h with _ h
   have h1:=A4 hT h0 (by decide) r1;have h2:=C1 hT h1.2 r2;omega
 split at h
 · rename_i hk
   have h0:=AO hT hi hk (by decide);obtain ⟨_,i1,r1,h⟩:=Aq h;obtain ⟨_,i2,r2,h⟩:=Aq h;obtain ⟨_,i3,r3,h⟩:=Aq h;injection h with _ h
   have h1:=F9 hT h0 r1;have h2:=A4 hT h1.2.1 (by decide) r2;have h3:=F9 hT h2.2 r3;omega
 split at h
 · rename_i hk
   have h0:=AO hT hi hk (by decide);obtain ⟨_,i1,r1,h⟩:=Aq h;injection h with _ h
   have h1:=Ng hT h0 r1;omega
 split at h
 · rename_i hk
   have h0:=AO hT hi hk (by decide);split at h
   · rename_i k hp
     injection h with _ h
     obtain ⟨_,_,h4⟩:=ID hp;have:=AO hT h0 h4 (by decide);omega
   · injection h with _ h
     omega
 · cases h
theorem Hj {L:List Tk} (hT:TokOK L):∀ (n:Nat) (nt:NT) (o i:Nat) (a:Tr) (j:Nat),i < L.length->pz L n nt o i=.ok a j->i<=j/\j < L.length:=by
 intro n
 induction n with
 | zero=>intro nt o i a j hi h;cases h
 | succ n ih=>
  intro nt o i a j hi h;cases nt with
  | expr=>
   rw [pz] at h;split at h
   · rename_i hk
     have h0:=AO hT hi hk (by decide);split at h
     · obtain ⟨_,i1,r1,h⟩:=Aq h
       obtain ⟨_,i2,r2,h⟩:=Aq h;obtain ⟨_,i3,r3,h⟩:=Aq h;obtain ⟨_,i4,r4,h⟩:=Aq h;obtain ⟨_,i5,r5,h⟩:=Aq h;injection h with _ h
       have h1:=ih _ _ _ _ _ h0 r1;have h2:=A4 hT h1.2 (by decide) r2;have h3:=ih _ _ _ _ _ h2.2 r3;have h4:=A4 hT h3.2 (by decide) r4;have h5:=ih _ _ _ _ _ h4.2 r5;omega
     · cases h
   · exact ih _ _ _ _ _ hi h
  | chain b=>
   rw [pz] at h;obtain ⟨_,i1,r1,h⟩:=Aq h;have h1:=ih _ _ _ _ _ hi r1;have h2:=ih _ _ _ _ _ h1.2 h;omega
  | chainL b acc=>
   rw [pz] at h;split at h
   · rename_i hk
     have h0:=AO hT hi hk (by decide);split at h
     · cases h
     · obtain ⟨_,i1,r1,h⟩:=Aq h
       have h1:=ih _ _ _ _ _ h0 r1;have h2:=ih _ _ _ _ _ h1.2 h;omega
   · injection h with _ h;omega
  | not=>
   rw [pz] at h;split at h
   · rename_i hk
     have h0:=AO hT hi hk (by decide);split at h
     · obtain ⟨_,i1,r1,h⟩:=Aq h
       injection h with _ h
       have h1:=ih _ _ _ _ _ h0 r1;omega
     · cases h
   · exact ih _ _ _ _ _ hi h
  | cmp=>
   rw [pz] at h;obtain ⟨_,i1,r1,h⟩:=Aq h;have h1:=ih _ _ _ _ _ hi r1;split at h
   · rename_i k hp
     obtain ⟨_,_,h4⟩:=ID hp;have h0:=AO hT h1.2 h4 (by decide);obtain ⟨_,i2,r2,h⟩:=Aq h;injection h with _ h
     have h2:=ih _ _ _ _ _ h0 r2;omega
   · injection h with _ h;omega
  | sum=>
   rw [pz] at h;obtain ⟨_,i1,r1,h⟩:=Aq h;have h1:=ih _ _ _ _ _ hi r1;have h2:=ih _ _ _ _ _ h1.2 h;omega
  | sumL e=>
   rw [pz] at h;split at h
   · rename_i hk
     have h0:=AO hT hi hk (by decide);obtain ⟨_,i1,r1,h⟩:=Aq h;have h1:=ih _ _ _ _ _ h0 r1;have h2:=ih _ _ _ _ _ h1.2 h;omega
   · split at h
     · rename_i hk
       have h0:=AO hT hi hk (by decide);obtain ⟨_,i1,r1,h⟩:=Aq h;have h1:=ih _ _ _ _ _ h0 r1;have h2:=ih _ _ _ _ _ h1.2 h;omega
     · injection h with _ h;omega
  | prod=>
   rw [pz] at h;obtain ⟨_,i1,r1,h⟩:=Aq h;have h1:=ih _ _ _ _ _ hi r1;have h2:=ih _ _ _ _ _ h1.2 h;omega
  | prodL e=>
   rw [pz] at h;split at h
   · rename_i hk
     have h0:=AO hT hi hk (by decide);obtain ⟨_,i1,r1,h⟩:=Aq h;have h1:=ih _ _ _ _ _ h0 r1;have h2:=ih _ _ _ _ _ h1.2 h;omega
   · injection h with _ h;omega
  | un=>
   rw [pz] at h;split at h
   · rename_i hk
     have h0:=AO hT hi hk (by decide);split at h
     · rename_i hp
       injection h with _ h
       unfold Cz at hp;simp only [Abl,beq_iff_eq] at hp;have:=HN hT h0 (by rw [hp.1];decide);omega
     · split at h
       · obtain ⟨_,i1,r1,h⟩:=Aq h
         injection h with _ h
         have h1:=ih _ _ _ _ _ h0 r1;omega
       · cases h
   · exact ih _ _ _ _ _ hi h
  | prim=>
   rw [pz] at h;split at h
   · rename_i hp
     injection h with _ h
     unfold Cz at hp;simp only [Abl,beq_iff_eq] at hp;have:=HN hT hi (by rw [hp.1];decide);omega
   · split at h
     · obtain ⟨_,i1,r1,h⟩:=Aq h
       injection h with _ h
       have h1:=Eb hT hi r1;omega
     · split at h
       · rename_i hk
         injection h with _ h
         have:=HN hT hi (by rw [hk];decide);omega
       · split at h
         · rename_i hk
           have h0:=AO hT hi hk (by decide);obtain ⟨_,i1,r1,h⟩:=Aq h;injection h with _ h
           have h1:=GN hT h0 r1;omega
         · split at h
           · rename_i hk
             have h0:=AO hT hi hk (by decide);split at h
             · obtain ⟨_,i1,r1,h⟩:=Aq h
               obtain ⟨_,i2,r2,h⟩:=Aq h;injection h with _ h
               have h1:=ih _ _ _ _ _ h0 r1;have h2:=A4 hT h1.2 (by decide) r2;omega
             · cases h
           · have:=kh hT hi h
             omega
def FK (f:FuncId) (nt:NT) (id:Nat) (L:List Tk) (RL:PV) (n:Nat):Prop:=∀ i o,i < L.length->o<=100->XI f [] id L RL i o Bw (pz L n nt o i)
theorem H5:JG CC Aaz (Aaz.body.getD .skip)=true:=by kernel_rfl
theorem H6:Be CC Aaz (Aaz.body.getD .skip)=false:=by kernel_rfl
theorem Hv:CC.P.funcs[178]?=some Aaz:=by kernel_rfl
theorem CS {x:List PV} {b:List PBox} (h:x.length.ble Aaz.ntmps=true):Ad CC 178 x b=CD CC Aaz.results.toList (Lp CC (Aaz.body.getD .skip) ⟨x,b⟩):=CN (fn:=Aaz) (c:=Aaz.body.getD .skip) rfl rfl Hv rfl H6 H5 (Ab2 h)
theorem gq (Lc:Code) (hL:Lc=Aa Aaz [1,1,0,0]) {id:Nat} {L:List Tk} {o:Nat} {RL:PV} (hR:RL.pure=true) (hT:TokOK L) (ho:o<=100):∀ (m:Nat),(∀ k,k < m->FK 184 .un id L RL k)->∀ (i:Nat) (a:Tr),i < L.length->match pz L m (.prodL a) o i with
 | .ok v j=>∀ (bx:List PBox) (hid:id < bx.length) (hc:DM bx) (e:List PV),getT e 0=.bp id 0->getT e 2=.bp bx.length 0->getT e 3=.bp (bx.length+1) 0->∃ e',Lp CC Lc ⟨e,BX bx id (Ap L i o RL) [.cells 29 [.int .i64 0,.int .i64 0,.int .i64 0,.str [],.int .i64 0,.int .i64 0,.str [],.int .i64 0,.str [],.str [],.nils],.cells 29 (Bp a)]⟩=some (.exit 0,⟨e',BX bx id (Ap L j o RL) [.cells 29 [.int .i64 0,.int .i64 0,.int .i64 0,.str [],.int .i64 0,.int .i64 0,.str [],.int .i64 0,.str [],.str [],.nils],.cells 29 (Bp v)]⟩)/\getT e' 2=.bp bx.length 0/\getT e' 3=.bp (bx.length+1) 0
 | .bad t c=>∃ i' o',∀ (bx:List PBox) (hid:id < bx.length) (hc:DM bx) (e:List PV),getT e 0=.bp id 0->getT e 2=.bp bx.length 0->getT e 3=.bp (bx.length+1) 0->∃ e' ys',Lp CC Lc ⟨e,BX bx id (Ap L i o RL) [.cells 29 [.int .i64 0,.int .i64 0,.int .i64 0,.str [],.int .i64 0,.int .i64 0,.str [],.int .i64 0,.str [],.str [],.nils],.cells 29 (Bp a)]⟩=some (.pan (B5 t c),⟨e',BX bx id (Ap L i' o' RL) ys'⟩)
 | .out=>True:=by
 intro m
 induction m with
 | zero=>intro _ i a hi;trivial
 | succ m ih=>
  intro hu i a hi;rw [pz];cases hk:Bs L 4 [42] i with
  | false=>
   simp only [Ab9,if_false];intro bx hid hc e g0 g2 g3;have t0:=Ab hid hc hR (AQ (id:=id) (o:=o) hR hi hT _ hk);rw [Ez (Aa Aaz [1,1,0,0,0]) hL];unfold Ap at |-;rw [<- Ch];rw [<- C3] at t0;simp only [opsOf,Aa,Ac,Aaz,Aau] at |-;simp only [S9,A6,seval,PY,PZ,AS,g0,g2,g3,t0,SX,hid];exact ⟨_,rfl,by simp only [S7,A6,seval,g2],by simp only [S7,A6,seval,g3]⟩
  | true=>
   simp only [if_true];have BF:=AO hT hi hk (by decide);have h1:=hu m (by omega) (i+1) o BF ho;cases r1:pz L m .un o (i+1) with
   | out=>trivial
   | bad t c=>
    rw [r1] at h1;obtain ⟨i',o',h1⟩:=h1;refine ⟨i',o',fun bx hid hc e g0 g2 g3=>?_⟩;have t0:=Ab hid hc hR (Bd (id:=id) (o:=o) hR hi hT _ hk);have t1:=Am hid hc hR h1;have hd:=fun e g0 g3=>Uf (L:=L) hR a hid hc e g0 g3 t1;rw [Ez (Aa Aaz [1,1,0,0,0]) hL];simp only [<- A8 Wy] at hd;unfold Ap at|-hd;rw [<- Ch];rw [<- C3] at t0;rw [<- I3] at hd;simp only [opsOf,Aa,Ac,Aaz,Aau] at|-hd;simp only [S9,A6,seval,PY,PZ,AS,g0,g2,g3,t0,hd,SX,hid];exact ⟨_,_,rfl⟩
   | ok b i1=>
    rw [r1] at h1;have Gu:=(Hj hT _ _ _ _ _ _ BF r1).2;dsimp only [Au];have key:=ih (fun k hk=>hu k (by omega)) i1 (Bf 13 [a,b]) Gu;cases r2:pz L m (.prodL (Bf 13 [a,b])) o i1 with
    | out=>trivial
    | ok v j=>
     rw [r2] at key;intro bx hid hc e g0 g2 g3;have key:=key bx hid hc;have t0:=Ab hid hc hR (Bd (id:=id) (o:=o) hR hi hT _ hk);have t1:=Ab hid hc hR h1;rw [An] at t1;have hd:=fun e g0 g3=>Nj (L:=L) hR a b hid hc e g0 g3 t1;rw [Ez (Aa Aaz [1,1,0,0,0]) hL];simp only [<- A8 Wy] at hd;unfold Ap at|-hd key;rw [<- Ch];rw [<- Ch] at key;rw [<- C3] at t0;rw [<- I3] at hd;simp only [opsOf,Aa,Ac,Aaz,Aau] at|-hd key;simp only [S9,A6,seval,PY,PZ,AS,g0,g2,g3,t0,hd,SX,hid];refine key _ ?_ ?_ ?_
     · simp only [S7,A6,seval,g0]
     · simp only [S7,A6,seval,g2]
     · simp only [S7,A6,seval,g3]
    | bad t c=>
     rw [r2] at key;obtain ⟨i',o',key⟩:=key;refine ⟨i',o',fun bx hid hc e g0 g2 g3=>?_⟩;have key:=key bx hid hc;have t0:=Ab hid hc hR (Bd (id:=id) (o:=o) hR hi hT _ hk);have t1:=Ab hid hc hR h1;rw [An] at t1;have hd:=fun e g0 g3=>Nj (L:=L) hR a b hid hc e g0 g3 t1;rw [Ez (Aa Aaz [1,1,0,0,0]) hL];simp only [<- A8 Wy] at hd;unfold Ap at|-hd key;rw [<- Ch];rw [<- Ch] at key;rw [<- C3] at t0;rw [<- I3] at hd;simp only [opsOf,Aa,Ac,Aaz,Aau] at|-hd key;simp only [S9,A6,seval,PY,PZ,AS,g0,g2,g3,t0,hd,SX,hid];refine key _ ?_ ?_ ?_
     · simp only [S7,A6,seval,g0]
     · simp only [S7,A6,seval,g2]
     · simp only [S7,A6,seval,g3]
theorem ki {id:Nat} {L:List Tk} {RL:PV} (hR:RL.pure=true) (hT:TokOK L) (n:Nat) (hu:∀ k,k<=n->FK 184 .un id L RL k):FK 178 .prod id L RL (n+1):=by
 intro i o hi ho;rw [pz];have h0:=hu n (Abb _) i o hi ho;cases r0:pz L n .un o i with
 | out=>exact AT
 | bad t c=>
  rw [r0] at h0;obtain ⟨i',o',h0⟩:=h0;refine AM ⟨i',o',Ax hR fun bx hid hc=>?_⟩;have t0:=Am hid hc hR h0;rw [CS rfl];unfold Ap at |-;rw [<- Ch];rw [<- C3] at t0;simp only [opsOf,Aa,Ac,Aaz,Aau] at |-;simp only [S9,A6,seval,PY,PZ,AS,t0,SX,hid];exact ⟨_,rfl⟩
 | ok a i1=>
  rw [r0] at h0;dsimp only [Au];have BF:=(Hj hT _ _ _ _ _ _ hi r0).2;have Ag:=gq _ rfl (id:=id) (RL:=RL) hR hT ho n (fun k hk=>hu k (by omega)) i1 a BF;cases r1:pz L n (.prodL a) o i1 with
  | out=>exact AT
  | ok v j=>
   rw [r1] at Ag;refine Bi (A5 hR (fun n=>by rw [An];simp only [SX,PV.under]) fun bx hid hc=>?_);have Ag:=Ag bx hid hc;have t0:=Ab hid hc hR h0;rw [An] at t0;rw [CS rfl];rw [An];unfold Ap at|-Ag;rw [<- Ch];rw [<- Ch] at Ag;rw [<- C3] at t0;simp only [opsOf,Aa,Ac,Aaz,Aau] at|-Ag;simp only [S9,A6,seval,PY,PZ,AS,t0,SX,hid];generalize hE:Tm _ _=z
   have hP:∃ e',z=some (.exit 0,⟨e',BX bx id (.cells 92 [.sl (Bl L),.int .i64 ((j:Nat):Int),.int .i64 ((o:Nat):Int),RL]) [.cells 29 [.int .i64 0,.int .i64 0,.int .i64 0,.str [],.int .i64 0,.int .i64 0,.str [],.int .i64 0,.str [],.str [],.nils],.cells 29 (Bp v)]⟩)/\getT e' 2=.bp bx.length 0/\getT e' 3=.bp (bx.length+1) 0:=by
    rw [<- hE];refine Ag _ ?_ ?_ ?_
    · simp only [S7,A6,seval]
    · simp only [S7,A6,seval]
    · simp only [S7,A6,seval]
   obtain ⟨e',he,g2,g3⟩:=hP;subst he;clear hE Ag;simp only [S9,A6,seval,PY,PZ,AS,SX,g2,g3,hid];exact ⟨_,rfl⟩
  | bad t c=>
   rw [r1] at Ag;obtain ⟨i',o',Ag⟩:=Ag;refine AM ⟨i',o',Ax hR fun bx hid hc=>?_⟩;have Ag:=Ag bx hid hc;have t0:=Ab hid hc hR h0;rw [An] at t0;rw [CS rfl];unfold Ap at|-Ag;rw [<- Ch];rw [<- Ch] at Ag;rw [<- C3] at t0;simp only [opsOf,Aa,Ac,Aaz,Aau] at|-Ag;simp only [S9,A6,seval,PY,PZ,AS,t0,SX,hid];generalize hE:Tm _ _=z
   have hP:∃ e' ys',z=some (.pan (B5 t c),⟨e',BX bx id (.cells 92 [.sl (Bl L),.int .i64 ((i':Nat):Int),.int .i64 ((o':Nat):Int),RL]) ys'⟩):=by
    rw [<- hE];refine Ag _ ?_ ?_ ?_
    · simp only [S7,A6,seval]
    · simp only [S7,A6,seval]
    · simp only [S7,A6,seval]
   obtain ⟨e',ys',he⟩:=hP;subst he;clear hE Ag;simp only [S9,A6,seval,PY,PZ,AS,SX,hid];exact ⟨_,rfl⟩
end Go.HH
