/-
  What the law needs, packed: RD RE RF RG RH RI RJ.
-/
import Derived.Test.YthjcaihemgllaaaGreatDoorJ42
open Option renaming getD->Aa0
open Go.Proofs.Tryz renaming f53->Aa1,f107->Aa2,f110->Aam,f108->Aan
open List renaming length_cons->Aa3,map_nil->Aa4,length_nil->Aa5,map_cons->Aa6,cons_append->Aa8,nil_append->Aa9,getElem?_cons_zero->Aaa,getElem?_cons_succ->Aab,map_append->Aac,length_map->Aad,getElem?_toArray->Aae,filterMap_cons->Aaf,length_append->Aag,filterMap_nil->Aah,not_mem_nil->Aai,exists_cons_of_ne_nil->Aaj,mem_cons->Aak,getD_cons_zero->Aap,getD_cons_succ->Aaq
open Bool renaming and_self->Aa7,and_true->Aal
open Nat renaming le_of_ble_eq_true->Aao
namespace Go.HH
open Go Go.Proofs
set_option maxRecDepth 100000
set_option maxHeartbeats 4000000
set_option linter.unusedSimpArgs false
set_option linter.unusedVariables false
theorem De (n:Nat) (nm:List UInt8) (pr:Int) (on dos:PV) (e:Tr) (h1:on.under n=true) (h2:dos.under n=true):Ar n (C4 nm pr on dos e)=true:=by
 obtain ⟨k,x,m,s,v,q,kids⟩:=e;unfold C4;have hk:Ar n (A8 kids)=true:=Ax n _ (AY kids);simp only [SU,h1,h2,hk,Aa7]
theorem jR {bx:List PBox} {id:Nat} {L:List Tk} {i o:Nat} {RL:PV} (hR:RL.pure=true) (j:Nat) (hid:id < bx.length) (hc:DN bx) (nm:List UInt8) (pr:Int) (dosV:PV) (Ig:∀ n,dosV.under n=true) (et:Tr) (t0:Tk) {J:List PBox} (hJ:∀ n,(J.all fun x=>x.under n)=true) (l:List Tg) (hl:l.length<=7) (a:Tg) (h:TS 109 [] id L RL i o (BR a) j o) :
 Ai CC (Ad CC) 108 [.bp (bx.length+2) 0,.bp bx.length 0] (BX bx id (Ap L i o RL) (.cells 86 [.bp id 0] :: .cells 80 [.int .i64 (t0.1:Int),.str t0.2.1,.int .i64 (t0.2.2:Int)] :: .cells 32 (C4 nm pr (C8 58 (l.map BR)) dosV et) :: J))=some (.ret (.tup []),BX bx id (Ap L j o RL) (.cells 86 [.bp id 0] :: .cells 80 [.int .i64 (t0.1:Int),.str t0.2.1,.int .i64 (t0.2.2:Int)] :: .cells 32 (C4 nm pr (C8 58 ((l++[a]).map BR)) dosV et) :: J)):=by
 have hd:∀ k,id < bx.length+k:=fun k=>by omega
 refine Ou rfl rfl hc (Bl L _ _ hR) ?_ (by simp [CR.under,PV.under,Ar]) ?_
 · have Zt:∀ n,Ar n (C4 nm pr (C8 58 ((l++[a]).map BR)) dosV et)=true:=fun n=>De n nm pr _ _ et (Em _ _ _ (B4 BR Dd _ _)) (Ig _)
   simp only [SU,SX,hd,Zt,hJ,decide_true,Aa3,Aa5,Aa7]
 cases l with
 | nil=>
  have ER:=R1 (j:=j) hR hid hc nm pr dosV Ig et t0 hJ a h;simp only [Aa4,Aa6,Aa9,C8];skip;rw [Ci rfl];simp only [<- A6 de] at ER;rw [<- Cf];rw [<- IQ] at ER;simp only [opsOf,Ab,Ac,Aan,Aa0] at|-ER;simp only [S9,A5,seval,PY,PZ,AS,Az,ER,SX,hid]
 | cons x r=>
  have ER:=P0 (j:=j) hR hid hc nm pr dosV Ig et t0 hJ (BR x) (r.map BR) (fun n=>Dd n x) (fun n=>B4 BR Dd n r) (by rw [Aad];simp only [Aa3] at hl;omega) a h;simp only [Aa6,Aac,Aa8,Aa4,C8];rw [Ci rfl];simp only [<- A6 de] at ER;rw [<- Cf];rw [<- IQ] at ER;simp only [opsOf,Ab,Ac,Aan,Aa0] at|-ER;simp only [S9,A5,seval,PY,PZ,AS,Az,ER,SX,hid]
theorem fU {bx:List PBox} {id:Nat} {L:List Tk} {i o:Nat} {RL:PV} (hR:RL.pure=true) (j:Nat) (hid:id < bx.length) (hc:DN bx) (nm:List UInt8) (pr:Int) (dosV:PV) (Ig:∀ n,dosV.under n=true) (et:Tr) (t0:Tk) {J:List PBox} (hJ:∀ n,(J.all fun x=>x.under n)=true) (l:List Tg) (hl:l.length<=7) {t:Nat} {c:Int} {i' o':Nat} (h:M5 109 [] id L RL i o t c i' o') :
 Ai CC (Ad CC) 108 [.bp (bx.length+2) 0,.bp bx.length 0] (BX bx id (Ap L i o RL) (.cells 86 [.bp id 0] :: .cells 80 [.int .i64 (t0.1:Int),.str t0.2.1,.int .i64 (t0.2.2:Int)] :: .cells 32 (C4 nm pr (C8 58 (l.map BR)) dosV et) :: J))=some (.pan (B7 t c),BX bx id (Ap L i' o' RL) (.cells 86 [.bp id 0] :: .cells 80 [.int .i64 (t0.1:Int),.str t0.2.1,.int .i64 (t0.2.2:Int)] :: .cells 32 (C4 nm pr (C8 58 (l.map BR)) dosV et) :: J)):=by
 have hd:∀ k,id < bx.length+k:=fun k=>by omega
 refine Ou rfl rfl hc (Bl L _ _ hR) ?_ (DR _ _ _) ?_
 · have Zt:∀ n,Ar n (C4 nm pr (C8 58 (l.map BR)) dosV et)=true:=fun n=>De n nm pr _ _ et (Em _ _ _ (B4 BR Dd _ _)) (Ig _)
   simp only [SU,SX,hd,Zt,hJ,decide_true,Aa3,Aa5,Aa7]
 cases l with
 | nil=>
  have ER:=PX (j:=j) hR hid hc nm pr dosV Ig et t0 hJ  h;simp only [Aa4,Aa6,Aa9,C8];skip;rw [Ci rfl];simp only [<- A6 de] at ER;rw [<- Cf];rw [<- IQ] at ER;simp only [opsOf,Ab,Ac,Aan,Aa0] at|-ER;simp only [S9,A5,seval,PY,PZ,AS,Az,ER,SX,hid]
 | cons x r=>
  have ER:=Ov (j:=j) hR hid hc nm pr dosV Ig et t0 hJ (BR x) (r.map BR) (fun n=>Dd n x) (fun n=>B4 BR Dd n r) (by rw [Aad];simp only [Aa3] at hl;omega)  h;simp only [Aa6,Aac,Aa8,Aa4,C8];rw [Ci rfl];simp only [<- A6 de] at ER;rw [<- Cf];rw [<- IQ] at ER;simp only [opsOf,Ab,Ac,Aan,Aa0] at|-ER;simp only [S9,A5,seval,PY,PZ,AS,Az,ER,SX,hid]
theorem jS {bx:List PBox} {id:Nat} {L:List Tk} {i o:Nat} {RL:PV} (hR:RL.pure=true) (j:Nat) (hid:id < bx.length) (hc:DN bx) (nm:List UInt8) (pr:Int) (onV:PV) (Ig:∀ n,onV.under n=true) (et:Tr) (t0:Tk) {J:List PBox} (hJ:∀ n,(J.all fun x=>x.under n)=true) (l:List Sp) (hl:l.length<=7) (a:Sp) (h:TS 111 [] id L RL i o (DZ a) j o) :
 Ai CC (Ad CC) 110 [.bp (bx.length+2) 0,.bp bx.length 0] (BX bx id (Ap L i o RL) (.cells 86 [.bp id 0] :: .cells 80 [.int .i64 (t0.1:Int),.str t0.2.1,.int .i64 (t0.2.2:Int)] :: .cells 32 (C4 nm pr onV (C8 60 (l.map DZ)) et) :: J))=some (.ret (.tup []),BX bx id (Ap L j o RL) (.cells 86 [.bp id 0] :: .cells 80 [.int .i64 (t0.1:Int),.str t0.2.1,.int .i64 (t0.2.2:Int)] :: .cells 32 (C4 nm pr onV (C8 60 ((l++[a]).map DZ)) et) :: J)):=by
 have hd:∀ k,id < bx.length+k:=fun k=>by omega
 refine Ou rfl rfl hc (Bl L _ _ hR) ?_ (by simp [CR.under,PV.under,Ar]) ?_
 · have Zt:∀ n,Ar n (C4 nm pr onV (C8 60 ((l++[a]).map DZ)) et)=true:=fun n=>De n nm pr _ _ et (Ig _) (Em _ _ _ (B4 DZ DJ _ _))
   simp only [SU,SX,hd,Zt,hJ,decide_true,Aa3,Aa5,Aa7]
 cases l with
 | nil=>
  have ER:=R2 (j:=j) hR hid hc nm pr onV Ig et t0 hJ a h;simp only [Aa4,Aa6,Aa9,C8];skip;rw [Cj rfl];simp only [<- A6 df] at ER;rw [<- Cf];rw [<- IQ] at ER;simp only [opsOf,Ab,Ac,Aam,Aa0] at|-ER;simp only [S9,A5,seval,PY,PZ,AS,Az,ER,SX,hid]
  try rfl
 | cons x r=>
  have ER:=P2 (j:=j) hR hid hc nm pr onV Ig et t0 hJ (DZ x) (r.map DZ) (fun n=>DJ n x) (fun n=>B4 DZ DJ n r) (by rw [Aad];simp only [Aa3] at hl;omega) a h;simp only [Aa6,Aac,Aa8,Aa4,C8];rw [Cj rfl];simp only [<- A6 df] at ER;rw [<- Cf];rw [<- IQ] at ER;simp only [opsOf,Ab,Ac,Aam,Aa0] at|-ER;simp only [S9,A5,seval,PY,PZ,AS,Az,ER,SX,hid]
  try rfl
theorem fV {bx:List PBox} {id:Nat} {L:List Tk} {i o:Nat} {RL:PV} (hR:RL.pure=true) (j:Nat) (hid:id < bx.length) (hc:DN bx) (nm:List UInt8) (pr:Int) (onV:PV) (Ig:∀ n,onV.under n=true) (et:Tr) (t0:Tk) {J:List PBox} (hJ:∀ n,(J.all fun x=>x.under n)=true) (l:List Sp) (hl:l.length<=7) {t:Nat} {c:Int} {i' o':Nat} (h:M5 111 [] id L RL i o t c i' o') :
 Ai CC (Ad CC) 110 [.bp (bx.length+2) 0,.bp bx.length 0] (BX bx id (Ap L i o RL) (.cells 86 [.bp id 0] :: .cells 80 [.int .i64 (t0.1:Int),.str t0.2.1,.int .i64 (t0.2.2:Int)] :: .cells 32 (C4 nm pr onV (C8 60 (l.map DZ)) et) :: J))=some (.pan (B7 t c),BX bx id (Ap L i' o' RL) (.cells 86 [.bp id 0] :: .cells 80 [.int .i64 (t0.1:Int),.str t0.2.1,.int .i64 (t0.2.2:Int)] :: .cells 32 (C4 nm pr onV (C8 60 (l.map DZ)) et) :: J)):=by
 have hd:∀ k,id < bx.length+k:=fun k=>by omega
 refine Ou rfl rfl hc (Bl L _ _ hR) ?_ (DR _ _ _) ?_
 · have Zt:∀ n,Ar n (C4 nm pr onV (C8 60 (l.map DZ)) et)=true:=fun n=>De n nm pr _ _ et (Ig _) (Em _ _ _ (B4 DZ DJ _ _))
   simp only [SU,SX,hd,Zt,hJ,decide_true,Aa3,Aa5,Aa7]
 cases l with
 | nil=>
  have ER:=P1 (j:=j) hR hid hc nm pr onV Ig et t0 hJ  h;simp only [Aa4,Aa6,Aa9,C8];skip;rw [Cj rfl];simp only [<- A6 df] at ER;rw [<- Cf];rw [<- IQ] at ER;simp only [opsOf,Ab,Ac,Aam,Aa0] at|-ER;simp only [S9,A5,seval,PY,PZ,AS,Az,ER,SX,hid]
  try rfl
 | cons x r=>
  have ER:=Ow (j:=j) hR hid hc nm pr onV Ig et t0 hJ (DZ x) (r.map DZ) (fun n=>DJ n x) (fun n=>B4 DZ DJ n r) (by rw [Aad];simp only [Aa3] at hl;omega)  h;simp only [Aa6,Aac,Aa8,Aa4,C8];rw [Cj rfl];simp only [<- A6 df] at ER;rw [<- Cf];rw [<- IQ] at ER;simp only [opsOf,Ab,Ac,Aam,Aa0] at|-ER;simp only [S9,A5,seval,PY,PZ,AS,Az,ER,SX,hid]
  try rfl
theorem ID:Be CC Aa2 (Aa2.body.getD .skip)=true:=by kernel_rfl
theorem H8:CC.P.funcs[107]?=some Aa2:=by kernel_rfl
theorem Ec {x:List PV} {b:List PBox} (h:x.length.ble Aa2.ntmps=true):Ad CC 107 x b=CM CC Aa2.results.toList (Co CC (Aa2.body.getD .skip) ⟨x,b⟩):=Ah (fn:=Aa2) (c:=Aa2.body.getD .skip) rfl rfl H8 rfl ID (Aao h)
def dh {α:Type} (F:FuncId) (part:Nat->PR α) (id:Nat) (L:List Tk) (RL:PV) (o:Nat) (t0:Tk) (J:List PBox) (RBX:List α->PBox):Prop:=∀ i,i < L.length->∀ acc:List α,acc.length<=7->match part i with
 | .ok a j=>∀ (bx:List PBox) (hid:id < bx.length) (hc:DN bx),Ai CC (Ad CC) F [.bp (bx.length+2) 0,.bp bx.length 0] (BX bx id (Ap L i o RL) (.cells 86 [.bp id 0] :: .cells 80 [.int .i64 (t0.1:Int),.str t0.2.1,.int .i64 (t0.2.2:Int)] :: RBX acc :: J))=some (.ret (.tup []),(BX bx id (Ap L j o RL) (.cells 86 [.bp id 0] :: .cells 80 [.int .i64 (t0.1:Int),.str t0.2.1,.int .i64 (t0.2.2:Int)] :: RBX (acc++[a]) :: J)))
 | .bad t c=>∃ i' o',∀ (bx:List PBox) (hid:id < bx.length) (hc:DN bx),Ai CC (Ad CC) F [.bp (bx.length+2) 0,.bp bx.length 0] (BX bx id (Ap L i o RL) (.cells 86 [.bp id 0] :: .cells 80 [.int .i64 (t0.1:Int),.str t0.2.1,.int .i64 (t0.2.2:Int)] :: RBX acc :: J))=some (.pan (B7 t c),(BX bx id (Ap L i' o' RL) (.cells 86 [.bp id 0] :: .cells 80 [.int .i64 (t0.1:Int),.str t0.2.1,.int .i64 (t0.2.2:Int)] :: RBX acc :: J)))
 | .out=>True
def wC {α:Type} (Lc:Code) (F:FuncId) (w:List UInt8) (id:Nat) (L:List Tk) (RL:PV) (o:Nat) (t0:Tk) (J:List PBox) (RBX:List α->PBox) (i:Nat) (acc:List α) (r:PR (List α)):Prop:=match r with
 | .ok l j=>∀ (bx:List PBox) (hid:id < bx.length) (hc:DN bx) (e:List PV),getT e 0=.bp id 0->getT e 1=.str w->getT e 2=.fn F [] [.bp (bx.length+2) 0,.bp bx.length 0]->getT e 6=.int .i64 (acc.length:Int)->∃ e',Co CC Lc ⟨e,(BX bx id (Ap L i o RL) (.cells 86 [.bp id 0] :: .cells 80 [.int .i64 (t0.1:Int),.str t0.2.1,.int .i64 (t0.2.2:Int)] :: RBX acc :: J))⟩=some (.exit 0,⟨e',(BX bx id (Ap L j o RL) (.cells 86 [.bp id 0] :: .cells 80 [.int .i64 (t0.1:Int),.str t0.2.1,.int .i64 (t0.2.2:Int)] :: RBX l :: J))⟩)
 | .bad t c=>∃ i' o',∀ (bx:List PBox) (hid:id < bx.length) (hc:DN bx) (e:List PV),getT e 0=.bp id 0->getT e 1=.str w->getT e 2=.fn F [] [.bp (bx.length+2) 0,.bp bx.length 0]->getT e 6=.int .i64 (acc.length:Int)->∃ e' acc',Co CC Lc ⟨e,(BX bx id (Ap L i o RL) (.cells 86 [.bp id 0] :: .cells 80 [.int .i64 (t0.1:Int),.str t0.2.1,.int .i64 (t0.2.2:Int)] :: RBX acc :: J))⟩=some (.pan (B7 t c),⟨e',(BX bx id (Ap L i' o' RL) (.cells 86 [.bp id 0] :: .cells 80 [.int .i64 (t0.1:Int),.str t0.2.1,.int .i64 (t0.2.2:Int)] :: RBX acc' :: J))⟩)
 | .out=>True
theorem Fx {α:Type} {Lc:Code} {F:FuncId} {w:List UInt8} {id:Nat} {L:List Tk} {RL:PV} {o:Nat} {t0:Tk} {J:List PBox} {RBX:List α->PBox} {i:Nat} {acc:List α}:wC Lc F w id L RL o t0 J RBX i acc .out:=trivial
theorem WA {α:Type} (Lc:Code) (hL:Lc=Ab Aa2 [1,0]) {F:FuncId} {wd:List UInt8} {id:Nat} {L:List Tk} {RL:PV} {o:Nat} {t0:Tk} {J:List PBox} {RBX:List α->PBox} {part:Nat->PR α} (hR:RL.pure=true) (hT:TokOK L) (hJ:∀ n,(J.all fun x=>x.under n)=true) (ZI:∀ n acc,(RBX acc).under n=true) (Bz:∀ i a j,i < L.length->part i=.ok a j->j < L.length) (hp:dh F part id L RL o t0 J RBX):∀ (m i:Nat) (acc:List α),i < L.length->acc.length<=8->wC Lc F wd id L RL o t0 J RBX i acc (Bw L wd part m acc i):=by
 intro m
 induction m with
 | zero=>intro i acc _ _;exact Fx
 | succ m ih=>
  intro i acc hi hl8;rw [Bw];have hw:IntKind.wrap .i64 ((acc.length:Int)+1)=((acc.length+1:Nat):Int):=by rw [wrap_i64 ⟨by omega,by omega⟩];omega
  by_cases hz:acc.length=0
  · rw [if_pos (Or.inl hz),if_neg (by omega)]
    have h0:(((acc.length:Nat):Int) == 0)=true:=by rw [hz];rfl
    have h8:(((acc.length:Nat):Int) == 8)=false:=by rw [hz];rfl
    have h1:=Cb (id:=id) (o:=o) (i:=i) hR hi hT 1 1 rfl wd;cases r1:Bs L 1 wd i with
    | out=>exact Fx
    | bad t c=>
     rw [r1] at h1;obtain ⟨i',o',h1⟩:=h1;refine ⟨i',o',fun bx hid hc e g0 g1 g2 g6=>?_⟩;have hd:∀ k,id < bx.length+k:=fun k=>by omega
     have pbp2:Al [PV.bp (bx.length+2) 0,PV.bp bx.length 0]=false:=rfl;have t1:=Am hid hc hR h1;rw [A3 (Ab Aa2 [1,0,0]) hL];unfold Ap;rw [<- An];rw [<- AL] at t1;simp only [Ab,Ac,Aa2,Aa0];simp only [S9,Ag,seval,PY,PZ,AS,Az,g0,g1,g2,g6,hd,ZI,hJ,pbp2,h0,h8,t1,SX,hid];exact ⟨_,_,rfl⟩
    | ok u i1=>
     rw [r1] at h1;dsimp only [Au];have BF:=(AW hT hi (by decide) r1).2;have h2:=hp i1 BF acc (by omega);cases r2:part i1 with
     | out=>exact Fx
     | bad t c=>
      rw [r2] at h2;obtain ⟨i',o',h2⟩:=h2;refine ⟨i',o',fun bx hid hc e g0 g1 g2 g6=>?_⟩;have hd:∀ k,id < bx.length+k:=fun k=>by omega
      have pbp2:Al [PV.bp (bx.length+2) 0,PV.bp bx.length 0]=false:=rfl;have t1:=Aa hid hc hR h1;have t2:=h2 bx hid hc;unfold Ap at t2;rw [A3 (Ab Aa2 [1,0,0]) hL];unfold Ap;rw [<- An];rw [<- AL] at t1 t2;simp only [Ab,Ac,Aa2,Aa0];simp only [S9,Ag,seval,PY,PZ,AS,Az,g0,g1,g2,g6,hd,ZI,hJ,pbp2,h0,h8,t1,t2,SX,hid];exact ⟨_,_,rfl⟩
     | ok a i2=>
      rw [r2] at h2;dsimp only [Au];have Gu:=Bz i1 a i2 BF r2;have h3:=Cb (id:=id) (o:=o) (i:=i2) hR Gu hT 4 4 rfl [59];cases r3:Bs L 4 [59] i2 with
      | out=>exact Fx
      | bad t c=>
       rw [r3] at h3;obtain ⟨i',o',h3⟩:=h3;refine ⟨i',o',fun bx hid hc e g0 g1 g2 g6=>?_⟩;have hd:∀ k,id < bx.length+k:=fun k=>by omega
       have pbp2:Al [PV.bp (bx.length+2) 0,PV.bp bx.length 0]=false:=rfl;have t1:=Aa hid hc hR h1;have t2:=h2 bx hid hc;unfold Ap at t2;have t3:=Am hid hc hR h3;rw [A3 (Ab Aa2 [1,0,0]) hL];unfold Ap;rw [<- An];rw [<- AL] at t1 t2 t3;simp only [Ab,Ac,Aa2,Aa0];simp only [S9,Ag,seval,PY,PZ,AS,Az,g0,g1,g2,g6,hd,ZI,hJ,pbp2,h0,h8,t1,t2,t3,SX,hid];exact ⟨_,_,rfl⟩
      | ok u3 i3=>
       rw [r3] at h3;dsimp only [Au];have Uy:=(AW hT Gu (by decide) r3).2;have key:=ih i3 (acc++[a]) Uy (by rw [Aag];simp only [Aa3,Aa5];omega);have ry:(acc++[a]).length=acc.length+1:=by simp
       cases r4:Bw L wd part m (acc++[a]) i3 with
       | out=>exact Fx
       | bad t c=>
        rw [r4] at key;obtain ⟨i',o',key⟩:=key;refine ⟨i',o',fun bx hid hc e g0 g1 g2 g6=>?_⟩;have key:=key bx hid hc;rw [ry] at key;have hd:∀ k,id < bx.length+k:=fun k=>by omega
        have pbp2:Al [PV.bp (bx.length+2) 0,PV.bp bx.length 0]=false:=rfl;have t1:=Aa hid hc hR h1;have t2:=h2 bx hid hc;unfold Ap at t2;have t3:=Aa hid hc hR h3;rw [A3 (Ab Aa2 [1,0,0]) hL];unfold Ap at key |-;rw [<- An];rw [<- An] at key;rw [<- AL] at t1 t2 t3;simp only [Ab,Ac,Aa2,Aa0];simp only [S9,Ag,seval,PY,PZ,AS,Az,g0,g1,g2,g6,hd,ZI,hJ,pbp2,h0,h8,hw,t1,t2,t3,SX,hid];refine key _ ?_ ?_ ?_ ?_
        · simp only [S7,Ag,seval,g0]
        · simp only [S7,Ag,seval,g1]
        · simp only [S7,Ag,seval,g2]
        · simp only [S7,Ag,seval]
       | ok l j=>
        rw [r4] at key;refine fun bx hid hc e g0 g1 g2 g6=>?_;have key:=key bx hid hc;rw [ry] at key;have hd:∀ k,id < bx.length+k:=fun k=>by omega
        have pbp2:Al [PV.bp (bx.length+2) 0,PV.bp bx.length 0]=false:=rfl;have t1:=Aa hid hc hR h1;have t2:=h2 bx hid hc;unfold Ap at t2;have t3:=Aa hid hc hR h3;rw [A3 (Ab Aa2 [1,0,0]) hL];unfold Ap at key |-;rw [<- An];rw [<- An] at key;rw [<- AL] at t1 t2 t3;simp only [Ab,Ac,Aa2,Aa0];simp only [S9,Ag,seval,PY,PZ,AS,Az,g0,g1,g2,g6,hd,ZI,hJ,pbp2,h0,h8,hw,t1,t2,t3,SX,hid];refine key _ ?_ ?_ ?_ ?_
        · simp only [S7,Ag,seval,g0]
        · simp only [S7,Ag,seval,g1]
        · simp only [S7,Ag,seval,g2]
        · simp only [S7,Ag,seval]
  · have h0:(((acc.length:Nat):Int) == 0)=false:=beq_eq_false_iff_ne.2 (by omega)
    cases hk:Br L 1 wd i with
    | false=>
     rw [if_neg (by simp [hz])];refine fun bx hid hc e g0 g1 g2 g6=>?_;have hd:∀ k,id < bx.length+k:=fun k=>by omega
     have pbp2:Al [PV.bp (bx.length+2) 0,PV.bp bx.length 0]=false:=rfl;have tis:=Aa hid hc hR (Dt (id:=id) (o:=o) hR hi 1 1 rfl wd);rw [hk] at tis;rw [A3 (Ab Aa2 [1,0,0]) hL];unfold Ap;rw [<- An];rw [<- AL] at tis;simp only [Ab,Ac,Aa2,Aa0];simp only [S9,Ag,seval,PY,PZ,AS,Az,g0,g1,g2,g6,hd,ZI,hJ,pbp2,h0,tis,SX,hid];exact ⟨_,rfl⟩
    | true=>
     rw [if_pos (Or.inr rfl)];by_cases h8n:acc.length=8
     · rw [if_pos h8n]
       have h8:(((acc.length:Nat):Int) == 8)=true:=by rw [h8n];rfl
       refine ⟨i,o,fun bx hid hc e g0 g1 g2 g6=>?_⟩;have hd:∀ k,id < bx.length+k:=fun k=>by omega
       have pbp2:Al [PV.bp (bx.length+2) 0,PV.bp bx.length 0]=false:=rfl;have tis:=Aa hid hc hR (Dt (id:=id) (o:=o) hR hi 1 1 rfl wd);rw [hk] at tis;have t2:=Aa hid hc hR (AA (id:=id) (o:=o) hR hi);have t3:=Am hid hc hR (CD (id:=id) (i:=i) (o:=o) (L:=L) (RL:=RL) hR (tokAt L i).1 (tokAt L i).2.1 (tokAt L i).2.2 3);unfold atT;rw [A3 (Ab Aa2 [1,0,0]) hL];unfold Ap;rw [<- An];rw [<- AL] at tis t2 t3;simp only [Ab,Ac,Aa2,Aa0];simp only [S9,Ag,seval,PY,PZ,AS,Az,g0,g1,g2,g6,hd,ZI,hJ,pbp2,h0,tis,h8,t2,t3,SX,hid];exact ⟨_,_,rfl⟩
     · rw [if_neg h8n]
       have h8:(((acc.length:Nat):Int) == 8)=false:=beq_eq_false_iff_ne.2 (by omega);have h1:=Cb (id:=id) (o:=o) (i:=i) hR hi hT 1 1 rfl wd;cases r1:Bs L 1 wd i with
       | out=>exact Fx
       | bad t c=>
        rw [r1] at h1;obtain ⟨i',o',h1⟩:=h1;refine ⟨i',o',fun bx hid hc e g0 g1 g2 g6=>?_⟩;have hd:∀ k,id < bx.length+k:=fun k=>by omega
        have pbp2:Al [PV.bp (bx.length+2) 0,PV.bp bx.length 0]=false:=rfl;have tis:=Aa hid hc hR (Dt (id:=id) (o:=o) hR hi 1 1 rfl wd);rw [hk] at tis;have t1:=Am hid hc hR h1;rw [A3 (Ab Aa2 [1,0,0]) hL];unfold Ap;rw [<- An];rw [<- AL] at tis t1;simp only [Ab,Ac,Aa2,Aa0];simp only [S9,Ag,seval,PY,PZ,AS,Az,g0,g1,g2,g6,hd,ZI,hJ,pbp2,h0,tis,h8,t1,SX,hid];exact ⟨_,_,rfl⟩
       | ok u i1=>
        rw [r1] at h1;dsimp only [Au];have BF:=(AW hT hi (by decide) r1).2;have h2:=hp i1 BF acc (by omega);cases r2:part i1 with
        | out=>exact Fx
        | bad t c=>
         rw [r2] at h2;obtain ⟨i',o',h2⟩:=h2;refine ⟨i',o',fun bx hid hc e g0 g1 g2 g6=>?_⟩;have hd:∀ k,id < bx.length+k:=fun k=>by omega
         have pbp2:Al [PV.bp (bx.length+2) 0,PV.bp bx.length 0]=false:=rfl;have tis:=Aa hid hc hR (Dt (id:=id) (o:=o) hR hi 1 1 rfl wd);rw [hk] at tis;have t1:=Aa hid hc hR h1;have t2:=h2 bx hid hc;unfold Ap at t2;rw [A3 (Ab Aa2 [1,0,0]) hL];unfold Ap;rw [<- An];rw [<- AL] at tis t1 t2;simp only [Ab,Ac,Aa2,Aa0];simp only [S9,Ag,seval,PY,PZ,AS,Az,g0,g1,g2,g6,hd,ZI,hJ,pbp2,h0,tis,h8,t1,t2,SX,hid];exact ⟨_,_,rfl⟩
        | ok a i2=>
         rw [r2] at h2;dsimp only [Au];have Gu:=Bz i1 a i2 BF r2;have h3:=Cb (id:=id) (o:=o) (i:=i2) hR Gu hT 4 4 rfl [59];cases r3:Bs L 4 [59] i2 with
         | out=>exact Fx
         | bad t c=>
          rw [r3] at h3;obtain ⟨i',o',h3⟩:=h3;refine ⟨i',o',fun bx hid hc e g0 g1 g2 g6=>?_⟩;have hd:∀ k,id < bx.length+k:=fun k=>by omega
          have pbp2:Al [PV.bp (bx.length+2) 0,PV.bp bx.length 0]=false:=rfl;have tis:=Aa hid hc hR (Dt (id:=id) (o:=o) hR hi 1 1 rfl wd);rw [hk] at tis;have t1:=Aa hid hc hR h1;have t2:=h2 bx hid hc;unfold Ap at t2;have t3:=Am hid hc hR h3;rw [A3 (Ab Aa2 [1,0,0]) hL];unfold Ap;rw [<- An];rw [<- AL] at tis t1 t2 t3;simp only [Ab,Ac,Aa2,Aa0];simp only [S9,Ag,seval,PY,PZ,AS,Az,g0,g1,g2,g6,hd,ZI,hJ,pbp2,h0,tis,h8,t1,t2,t3,SX,hid];exact ⟨_,_,rfl⟩
         | ok u3 i3=>
          rw [r3] at h3;dsimp only [Au];have Uy:=(AW hT Gu (by decide) r3).2;have key:=ih i3 (acc++[a]) Uy (by rw [Aag];simp only [Aa3,Aa5];omega);have ry:(acc++[a]).length=acc.length+1:=by simp
          cases r4:Bw L wd part m (acc++[a]) i3 with
          | out=>exact Fx
          | bad t c=>
           rw [r4] at key;obtain ⟨i',o',key⟩:=key;refine ⟨i',o',fun bx hid hc e g0 g1 g2 g6=>?_⟩;have key:=key bx hid hc;rw [ry] at key;have hd:∀ k,id < bx.length+k:=fun k=>by omega
           have pbp2:Al [PV.bp (bx.length+2) 0,PV.bp bx.length 0]=false:=rfl;have tis:=Aa hid hc hR (Dt (id:=id) (o:=o) hR hi 1 1 rfl wd);rw [hk] at tis;have t1:=Aa hid hc hR h1;have t2:=h2 bx hid hc;unfold Ap at t2;have t3:=Aa hid hc hR h3;rw [A3 (Ab Aa2 [1,0,0]) hL];unfold Ap at key |-;rw [<- An];rw [<- An] at key;rw [<- AL] at tis t1 t2 t3;simp only [Ab,Ac,Aa2,Aa0];simp only [S9,Ag,seval,PY,PZ,AS,Az,g0,g1,g2,g6,hd,ZI,hJ,pbp2,h0,tis,h8,hw,t1,t2,t3,SX,hid];refine key _ ?_ ?_ ?_ ?_
           · simp only [S7,Ag,seval,g0]
           · simp only [S7,Ag,seval,g1]
           · simp only [S7,Ag,seval,g2]
           · simp only [S7,Ag,seval]
          | ok l j=>
           rw [r4] at key;refine fun bx hid hc e g0 g1 g2 g6=>?_;have key:=key bx hid hc;rw [ry] at key;have hd:∀ k,id < bx.length+k:=fun k=>by omega
           have pbp2:Al [PV.bp (bx.length+2) 0,PV.bp bx.length 0]=false:=rfl;have tis:=Aa hid hc hR (Dt (id:=id) (o:=o) hR hi 1 1 rfl wd);rw [hk] at tis;have t1:=Aa hid hc hR h1;have t2:=h2 bx hid hc;unfold Ap at t2;have t3:=Aa hid hc hR h3;rw [A3 (Ab Aa2 [1,0,0]) hL];unfold Ap at key |-;rw [<- An];rw [<- An] at key;rw [<- AL] at tis t1 t2 t3;simp only [Ab,Ac,Aa2,Aa0];simp only [S9,Ag,seval,PY,PZ,AS,Az,g0,g1,g2,g6,hd,ZI,hJ,pbp2,h0,tis,h8,hw,t1,t2,t3,SX,hid];refine key _ ?_ ?_ ?_ ?_
           · simp only [S7,Ag,seval,g0]
           · simp only [S7,Ag,seval,g1]
           · simp only [S7,Ag,seval,g2]
           · simp only [S7,Ag,seval]
def sf {α:Type} (F:FuncId) (w:List UInt8) (id:Nat) (L:List Tk) (RL:PV) (o:Nat) (t0:Tk) (J:List PBox) (RBX:List α->PBox) (i:Nat) (r:PR (List α)):Prop:=match r with
 | .ok l j=>∀ (bx:List PBox) (hid:id < bx.length) (hc:DN bx),Ai CC (Ad CC) 107 [.bp id 0,.str w,.fn F [] [.bp (bx.length+2) 0,.bp bx.length 0]] (BX bx id (Ap L i o RL) (.cells 86 [.bp id 0] :: .cells 80 [.int .i64 (t0.1:Int),.str t0.2.1,.int .i64 (t0.2.2:Int)] :: RBX [] :: J))=some (.ret (.tup []),(BX bx id (Ap L j o RL) (.cells 86 [.bp id 0] :: .cells 80 [.int .i64 (t0.1:Int),.str t0.2.1,.int .i64 (t0.2.2:Int)] :: RBX l :: J)))
 | .bad t c=>∃ i' o',∀ (bx:List PBox) (hid:id < bx.length) (hc:DN bx),∃ acc',Ai CC (Ad CC) 107 [.bp id 0,.str w,.fn F [] [.bp (bx.length+2) 0,.bp bx.length 0]] (BX bx id (Ap L i o RL) (.cells 86 [.bp id 0] :: .cells 80 [.int .i64 (t0.1:Int),.str t0.2.1,.int .i64 (t0.2.2:Int)] :: RBX [] :: J))=some (.pan (B7 t c),(BX bx id (Ap L i' o' RL) (.cells 86 [.bp id 0] :: .cells 80 [.int .i64 (t0.1:Int),.str t0.2.1,.int .i64 (t0.2.2:Int)] :: RBX acc' :: J)))
 | .out=>True
theorem Yz {α:Type} {F:FuncId} {wd:List UInt8} {id:Nat} {L:List Tk} {RL:PV} {o:Nat} {t0:Tk} {J:List PBox} {RBX:List α->PBox} {part:Nat->PR α} (hR:RL.pure=true) (hT:TokOK L) (hJ:∀ n,(J.all fun x=>x.under n)=true) (ZI:∀ n acc,(RBX acc).under n=true) (Bz:∀ i a j,i < L.length->part i=.ok a j->j < L.length) (hp:dh F part id L RL o t0 J RBX) {i:Nat} (hi:i < L.length):sf F wd id L RL o t0 J RBX i (Bw L wd part 10 [] i):=by
 have Af:=WA _ rfl (wd:=wd) hR hT hJ ZI Bz hp 10 i [] hi (by simp);cases r:Bw L wd part 10 [] i with
 | out=>trivial
 | bad t c=>
  rw [r] at Af;obtain ⟨i',o',Af⟩:=Af;refine ⟨i',o',fun bx hid hc=>?_⟩;have Af:=Af bx hid hc;have hd:∀ k,id < bx.length+k:=fun k=>by omega
  have hx:∃ acc', Ad CC 107 [.bp id 0,.str wd,.fn F [] [.bp (bx.length+2) 0,.bp bx.length 0]] (BX bx id (Ap L i o RL) (.cells 86 [.bp id 0] :: .cells 80 [.int .i64 (t0.1:Int),.str t0.2.1,.int .i64 (t0.2.2:Int)] :: RBX [] :: J))=some (.pan (B7 t c),(BX bx id (Ap L i' o' RL) (.cells 86 [.bp id 0] :: .cells 80 [.int .i64 (t0.1:Int),.str t0.2.1,.int .i64 (t0.2.2:Int)] :: RBX acc' :: J))):=by
   rw [Ec rfl];simp only [Ab,Ac,Aa2,Aa0] at Af |-;unfold Ap at Af |-;rw [<- An];rw [<- An] at Af;simp only [S9,Ag,seval,PY,PZ,AS,Az,SX,hid];generalize hE:Hp _ _=z
   have hP:∃ e' acc',z=some (.pan (B7 t c),⟨e',(BX bx id (Ap L i' o' RL) (.cells 86 [.bp id 0] :: .cells 80 [.int .i64 (t0.1:Int),.str t0.2.1,.int .i64 (t0.2.2:Int)] :: RBX acc' :: J))⟩):=by
    rw [<- hE];unfold Ap;refine Af _ ?_ ?_ ?_ ?_
    · simp only [S7,Ag,seval]
    · simp only [S7,Ag,seval]
    · simp only [S7,Ag,seval]
    · simp only [S7,Ag,seval] <;> rfl
   obtain ⟨e',acc',he⟩:=hP;subst he;clear hE Af;unfold Ap;simp only [S9,Ag,seval,PY,PZ,AS,Az,SX,hid];exact ⟨_,rfl⟩
  obtain ⟨acc',hx⟩:=hx;refine ⟨acc',?_⟩;refine Ou (by simp [Al,PV.pure]) rfl hc (Bl L _ _ hR) ?_ (DR _ _ _) hx;simp only [SU,SX,hd,ZI,hJ,decide_true,Aa3,Aa5,Aa7]
 | ok l j=>
  rw [r] at Af;refine fun bx hid hc=>?_;have Af:=Af bx hid hc;have hd:∀ k,id < bx.length+k:=fun k=>by omega
  have hx:∃ u:Unit, Ad CC 107 [.bp id 0,.str wd,.fn F [] [.bp (bx.length+2) 0,.bp bx.length 0]] (BX bx id (Ap L i o RL) (.cells 86 [.bp id 0] :: .cells 80 [.int .i64 (t0.1:Int),.str t0.2.1,.int .i64 (t0.2.2:Int)] :: RBX [] :: J))=some (.ret (.tup []),(BX bx id (Ap L j o RL) (.cells 86 [.bp id 0] :: .cells 80 [.int .i64 (t0.1:Int),.str t0.2.1,.int .i64 (t0.2.2:Int)] :: RBX l :: J))):=by
   rw [Ec rfl];simp only [Ab,Ac,Aa2,Aa0] at Af |-;unfold Ap at Af |-;rw [<- An];rw [<- An] at Af;simp only [S9,Ag,seval,PY,PZ,AS,Az,SX,hid];generalize hE:Hp _ _=z
   have hP:∃ e' ,z=some (.exit 0,⟨e',(BX bx id (Ap L j o RL) (.cells 86 [.bp id 0] :: .cells 80 [.int .i64 (t0.1:Int),.str t0.2.1,.int .i64 (t0.2.2:Int)] :: RBX l :: J))⟩):=by
    rw [<- hE];unfold Ap;refine Af _ ?_ ?_ ?_ ?_
    · simp only [S7,Ag,seval]
    · simp only [S7,Ag,seval]
    · simp only [S7,Ag,seval]
    · simp only [S7,Ag,seval] <;> rfl
   obtain ⟨e',he⟩:=hP;subst he;clear hE Af;unfold Ap;simp only [S9,Ag,seval,PY,PZ,AS,Az,SX,hid];exact ⟨(),trivial⟩
  obtain ⟨_,hx⟩:=hx;skip;refine Ou (by simp [Al,PV.pure]) rfl hc (Bl L _ _ hR) ?_ (by simp [CR.under,PV.under,Ar]) hx;simp only [SU,SX,hd,ZI,hJ,decide_true,Aa3,Aa5,Aa7]
theorem J2:Jy CC Aa1 (Aa1.body.getD .skip)=true:=by kernel_rfl
theorem J3:Be CC Aa1 (Aa1.body.getD .skip)=false:=by kernel_rfl
theorem Jm:CC.P.funcs[53]?=some Aa1:=by kernel_rfl
theorem Bt {x:List PV} {b:List PBox} (h:x.length.ble Aa1.ntmps=true):Ad CC 53 x b=CM CC Aa1.results.toList (Lh CC (Aa1.body.getD .skip) ⟨x,b⟩):=CN (fn:=Aa1) (c:=Aa1.body.getD .skip) rfl rfl Jm rfl J3 J2 (Aao h)
noncomputable def IR:TypeInfo:=(Tryz.prog.info? 32).getD default
theorem apR (bytes:Nat) (hb:IR.bytes=bytes) (st:St) (al:List (Nat×Loc)) (s x:Operand) (d:Option Tmp):DT CC st al s x 41 41 d=match CZ CC st al 32 s,CJ (opd CC st.env x) with
 | some (l,xs),some ys=>MH bytes 15 32 st al l xs ys d
 | _,_=>none:=EV (i:=IR) (by kernel_rfl) (by kernel_rfl) (by kernel_rfl) (z:=(IR.zero).getD default) (by kernel_rfl) (by kernel_rfl) (by rw [show IR.size=15 from by kernel_rfl];decide) hb (by kernel_rfl)
theorem jT:IR.bytes=208:=by kernel_rfl
theorem bsR (nm:List UInt8) (pr:Int) (xs ys:List PV) (e:Tr):AZ CC 41 1 [(0,.agg (C4 nm pr (.sl xs) (.sl ys) e))]=some (.osl 32 [.agg (C4 nm pr (.sl xs) (.sl ys) e)]):=by
 obtain ⟨k,n,m,s,v,q,kids⟩:=e;unfold C4
 kernel_rfl
theorem wD:CL CC (opsOf (Ab Aa1 [1,0,1,0]))=false:=by kernel_rfl
theorem jU:BO (opsOf (Ab Aa1 [1,0,1,0]))=[[0,1,2,3],[1,0,2,3],[1,2,0,3]]:=by kernel_rfl
theorem oi {bx:List PBox} {id:Nat} {L:List Tk} {i o:Nat} {RL:PV} (hR:RL.pure=true) (hid:id < bx.length) (hc:DN bx) (hi:i < L.length) (e:List PV) (g1:getT e 1=.bp bx.length 0) :
 drawAll CC (Ad CC) (opsOf (Ab Aa1 [1,0,1,0])) ⟨e,BX bx id (Ap L i o RL) [.cells 86 [.bp id 0]]⟩=some (.pan (B7 (atT L i) 3),⟨[],BX bx id (Ap L i o RL) [.cells 86 [.bp id 0]]⟩):=by
 have t0:=Aa hid hc hR (AA (id:=id) (o:=o) hR hi);have t1:=Am hid hc hR (CD (id:=id) (i:=i) (o:=o) (L:=L) (RL:=RL) hR (tokAt L i).1 (tokAt L i).2.1 (tokAt L i).2.2 3);have hd:∀ k,id < bx.length+k:=fun k=>by omega
 refine AV.2 ⟨by rw [jU];simp,fun l hl=>?_⟩;rw [jU] at hl;unfold Ap atT;rw [<- Mv];rw [<- C3] at t0 t1;simp only [Aak,Aai,or_false] at hl;rcases hl with rfl | rfl | rfl
 all_goals
  simp only [opsOf,Ab,Ac,Aa1,Aa0,AR,Aaf,Aah,Aae,Aab,Aaa];simp only [S9,A5,seval,PY,PZ,AS,Az,t0,t1,g1,hd,SX,AX,Bf,hid]
theorem qA:CL CC (opsOf (Ab Aa1 [1,1,1,1,1,1,1,1,1,1,1,1]))=false:=by kernel_rfl
theorem WC:BO (opsOf (Ab Aa1 [1,1,1,1,1,1,1,1,1,1,1,1]))=[[0,1,2,3,4,5,6,7,8,9,10],[0,1,2,3,5,4,6,7,8,9,10],[0,1,2,3,5,6,4,7,8,9,10],[0,1,2,5,3,4,6,7,8,9,10],[0,1,2,5,3,6,4,7,8,9,10],[0,1,2,5,6,3,4,7,8,9,10],[0,1,5,2,3,4,6,7,8,9,10],[0,1,5,2,3,6,4,7,8,9,10],[0,1,5,2,6,3,4,7,8,9,10],[0,1,5,6,2,3,4,7,8,9,10],[0,5,1,2,3,4,6,7,8,9,10],[0,5,1,2,3,6,4,7,8,9,10],[0,5,1,2,6,3,4,7,8,9,10],[0,5,1,6,2,3,4,7,8,9,10],[0,5,6,1,2,3,4,7,8,9,10],[1,0,2,3,4,5,6,7,8,9,10],[1,0,2,3,5,4,6,7,8,9,10],[1,0,2,3,5,6,4,7,8,9,10],[1,0,2,5,3,4,6,7,8,9,10],[1,0,2,5,3,6,4,7,8,9,10],[1,0,2,5,6,3,4,7,8,9,10],[1,0,5,2,3,4,6,7,8,9,10],[1,0,5,2,3,6,4,7,8,9,10],[1,0,5,2,6,3,4,7,8,9,10],[1,0,5,6,2,3,4,7,8,9,10],[1,2,0,3,4,5,6,7,8,9,10],[1,2,0,3,5,4,6,7,8,9,10],[1,2,0,3,5,6,4,7,8,9,10],[1,2,0,5,3,4,6,7,8,9,10],[1,2,0,5,3,6,4,7,8,9,10],[1,2,0,5,6,3,4,7,8,9,10],[1,2,3,0,4,5,6,7,8,9,10],[1,2,3,0,5,4,6,7,8,9,10],[1,2,3,0,5,6,4,7,8,9,10],[1,2,3,4,0,5,6,7,8,9,10],[1,2,3,4,5,0,6,7,8,9,10],[1,2,3,4,5,6,0,7,8,9,10],[1,2,3,4,5,6,7,0,8,9,10],[1,2,3,5,0,4,6,7,8,9,10],[1,2,3,5,0,6,4,7,8,9,10],[1,2,3,5,4,0,6,7,8,9,10],[1,2,3,5,4,6,0,7,8,9,10],[1,2,3,5,4,6,7,0,8,9,10],[1,2,3,5,6,0,4,7,8,9,10],[1,2,3,5,6,4,0,7,8,9,10],[1,2,3,5,6,4,7,0,8,9,10],[1,2,5,0,3,4,6,7,8,9,10],[1,2,5,0,3,6,4,7,8,9,10],[1,2,5,0,6,3,4,7,8,9,10],[1,2,5,3,0,4,6,7,8,9,10],[1,2,5,3,0,6,4,7,8,9,10],[1,2,5,3,4,0,6,7,8,9,10],[1,2,5,3,4,6,0,7,8,9,10],[1,2,5,3,4,6,7,0,8,9,10],[1,2,5,3,6,0,4,7,8,9,10],[1,2,5,3,6,4,0,7,8,9,10],[1,2,5,3,6,4,7,0,8,9,10],[1,2,5,6,0,3,4,7,8,9,10],[1,2,5,6,3,0,4,7,8,9,10],[1,2,5,6,3,4,0,7,8,9,10],[1,2,5,6,3,4,7,0,8,9,10],[1,5,0,2,3,4,6,7,8,9,10],[1,5,0,2,3,6,4,7,8,9,10],[1,5,0,2,6,3,4,7,8,9,10],[1,5,0,6,2,3,4,7,8,9,10],[1,5,2,0,3,4,6,7,8,9,10],[1,5,2,0,3,6,4,7,8,9,10],[1,5,2,0,6,3,4,7,8,9,10],[1,5,2,3,0,4,6,7,8,9,10],[1,5,2,3,0,6,4,7,8,9,10],[1,5,2,3,4,0,6,7,8,9,10],[1,5,2,3,4,6,0,7,8,9,10],[1,5,2,3,4,6,7,0,8,9,10],[1,5,2,3,6,0,4,7,8,9,10],[1,5,2,3,6,4,0,7,8,9,10],[1,5,2,3,6,4,7,0,8,9,10],[1,5,2,6,0,3,4,7,8,9,10],[1,5,2,6,3,0,4,7,8,9,10],[1,5,2,6,3,4,0,7,8,9,10],[1,5,2,6,3,4,7,0,8,9,10],[1,5,6,0,2,3,4,7,8,9,10],[1,5,6,2,0,3,4,7,8,9,10],[1,5,6,2,3,0,4,7,8,9,10],[1,5,6,2,3,4,0,7,8,9,10],[1,5,6,2,3,4,7,0,8,9,10],[5,0,1,2,3,4,6,7,8,9,10],[5,0,1,2,3,6,4,7,8,9,10],[5,0,1,2,6,3,4,7,8,9,10],[5,0,1,6,2,3,4,7,8,9,10],[5,0,6,1,2,3,4,7,8,9,10],[5,1,0,2,3,4,6,7,8,9,10],[5,1,0,2,3,6,4,7,8,9,10],[5,1,0,2,6,3,4,7,8,9,10],[5,1,0,6,2,3,4,7,8,9,10],[5,1,2,0,3,4,6,7,8,9,10],[5,1,2,0,3,6,4,7,8,9,10],[5,1,2,0,6,3,4,7,8,9,10],[5,1,2,3,0,4,6,7,8,9,10],[5,1,2,3,0,6,4,7,8,9,10],[5,1,2,3,4,0,6,7,8,9,10],[5,1,2,3,4,6,0,7,8,9,10],[5,1,2,3,4,6,7,0,8,9,10],[5,1,2,3,6,0,4,7,8,9,10],[5,1,2,3,6,4,0,7,8,9,10],[5,1,2,3,6,4,7,0,8,9,10],[5,1,2,6,0,3,4,7,8,9,10],[5,1,2,6,3,0,4,7,8,9,10],[5,1,2,6,3,4,0,7,8,9,10],[5,1,2,6,3,4,7,0,8,9,10],[5,1,6,0,2,3,4,7,8,9,10],[5,1,6,2,0,3,4,7,8,9,10],[5,1,6,2,3,0,4,7,8,9,10],[5,1,6,2,3,4,0,7,8,9,10],[5,1,6,2,3,4,7,0,8,9,10],[5,6,0,1,2,3,4,7,8,9,10],[5,6,1,0,2,3,4,7,8,9,10],[5,6,1,2,0,3,4,7,8,9,10],[5,6,1,2,3,0,4,7,8,9,10],[5,6,1,2,3,4,0,7,8,9,10],[5,6,1,2,3,4,7,0,8,9,10]]:=by kernel_rfl
theorem YA {bx:List PBox} {id:Nat} {L:List Tk} {i o:Nat} (hid:id < bx.length) (hc:DN bx) (nm:List UInt8) (pr:Int) (ons dss:List PV) (et:Tr) (t0:Tk) (J:List PBox)  (e:List PV) (g1:getT e 1=.bp bx.length 0) (g3:getT e 3=.bp (bx.length+2) 0) :
 drawAll CC (Ad CC) (opsOf (Ab Aa1 [1,1,1,1,1,1,1,1,1,1,1,1])) ⟨e,BX bx id (Ap L i o .nils) (.cells 86 [.bp id 0] :: .cells 80 [.int .i64 (t0.1:Int),.str t0.2.1,.int .i64 (t0.2.2:Int)] :: .cells 32 (C4 nm pr (.osl 58 ons) (.osl 60 dss) et) :: J)⟩=some (.normal,⟨(setT (setT (setT (setT (setT (setT (setT (setT (setT (setT (setT e 68 (.bp id 0)) 69 (.bp id 0)) 70 (.bp id 0)) 71 (.bp id 3)) 72 (.nils)) 73 (.agg (C4 nm pr (.sl ons) (.sl dss) et))) 74 (.osl 32 [.agg (C4 nm pr (.sl ons) (.sl dss) et)])) 75 ((.osl 32 [.agg (C4 nm pr (.sl ons) (.sl dss) et)]))) 76 (.bp id 0)) 77 (.bp id 3)) 75 (.sl [.agg (C4 nm pr (.sl ons) (.sl dss) et)])),BX bx id (Ap L i o (.osl 32 [.agg (C4 nm pr (.sl ons) (.sl dss) et)])) (.cells 86 [.bp id 0] :: .cells 80 [.int .i64 (t0.1:Int),.str t0.2.1,.int .i64 (t0.2.2:Int)] :: .cells 32 (C4 nm pr (.osl 58 ons) (.osl 60 dss) et) :: J)⟩):=by
 have hb:=apR _ jT;have Xu:=bsR nm pr ons dss et;have b9:=fun st al l d=>GK (bytes:=208) (size:=15) (e:=32) (st:=st) (al:=al) (l:=l) (d:=d) (xs:=[]) (ys:=[.agg (C4 nm pr (.sl ons) (.sl dss) et)]) (by simp only [Aa3,Aa5];omega) (by decide) (by obtain ⟨k,n,m,s,v,q,kids⟩:=et;rfl);obtain ⟨k,n,m,s,v,q,kids⟩:=et;refine AV.2 ⟨by rw [WC];simp,fun l hl=>?_⟩;rw [WC] at hl;unfold C4 Ap at *;rw [<- Mv];simp only [Aak,Aai,or_false] at hl;rcases hl with rfl | rfl | rfl | rfl | rfl | rfl | rfl | rfl | rfl | rfl | rfl | rfl | rfl | rfl | rfl | rfl | rfl | rfl | rfl | rfl | rfl | rfl | rfl | rfl | rfl | rfl | rfl | rfl | rfl | rfl | rfl | rfl | rfl | rfl | rfl | rfl | rfl | rfl | rfl | rfl | rfl | rfl | rfl | rfl | rfl | rfl | rfl | rfl | rfl | rfl | rfl | rfl | rfl | rfl | rfl | rfl | rfl | rfl | rfl | rfl | rfl | rfl | rfl | rfl | rfl | rfl | rfl | rfl | rfl | rfl | rfl | rfl | rfl | rfl | rfl | rfl | rfl | rfl | rfl | rfl | rfl | rfl | rfl | rfl | rfl | rfl | rfl | rfl | rfl | rfl | rfl | rfl | rfl | rfl | rfl | rfl | rfl | rfl | rfl | rfl | rfl | rfl | rfl | rfl | rfl | rfl | rfl | rfl | rfl | rfl | rfl | rfl | rfl | rfl | rfl | rfl | rfl | rfl | rfl | rfl
 all_goals
  simp only [opsOf,Ab,Ac,Aa1,Aa0,AR,Aaf,Aah,Aae,Aab,Aaa];simp only [S9,A5,seval,PY,PZ,AS,Az,hb,Xu,b9,g1,g3,F4,SX,AX,Bf,Aap,Aaq,hid]
  repeat first | rw [Av _ 75 68 _ _ (by decide)] | rw [Av _ 74 68 _ _ (by decide)] | rw [Av _ 73 68 _ _ (by decide)] | rw [Av _ 72 68 _ _ (by decide)] | rw [Av _ 71 68 _ _ (by decide)] | rw [Av _ 70 68 _ _ (by decide)] | rw [Av _ 69 68 _ _ (by decide)] | rw [Av _ 74 69 _ _ (by decide)] | rw [Av _ 73 69 _ _ (by decide)] | rw [Av _ 74 70 _ _ (by decide)] | rw [Av _ 73 70 _ _ (by decide)] | rw [Av _ 74 71 _ _ (by decide)] | rw [Av _ 73 71 _ _ (by decide)] | rw [Av _ 74 72 _ _ (by decide)] | rw [Av _ 73 72 _ _ (by decide)]
  try rfl
theorem WD {bx:List PBox} {id:Nat} {L:List Tk} {i o:Nat} (hid:id < bx.length) (hc:DN bx) (nm:List UInt8) (pr:Int) (ons dss:List PV) (et:Tr) (t0:Tk) (J:List PBox) (x0:PV) (xs:List PV) (yW:xs.length<=100) (e:List PV) (g1:getT e 1=.bp bx.length 0) (g3:getT e 3=.bp (bx.length+2) 0) :
 drawAll CC (Ad CC) (opsOf (Ab Aa1 [1,1,1,1,1,1,1,1,1,1,1,1])) ⟨e,BX bx id (Ap L i o (.osl 32 (x0 :: xs))) (.cells 86 [.bp id 0] :: .cells 80 [.int .i64 (t0.1:Int),.str t0.2.1,.int .i64 (t0.2.2:Int)] :: .cells 32 (C4 nm pr (.osl 58 ons) (.osl 60 dss) et) :: J)⟩=some (.normal,⟨(setT (setT (setT (setT (setT (setT (setT (setT (setT (setT (setT e 68 (.bp id 0)) 69 (.bp id 0)) 70 (.bp id 0)) 71 (.bp id 3)) 72 (.sl (x0 :: xs))) 73 (.agg (C4 nm pr (.sl ons) (.sl dss) et))) 74 (.osl 32 [.agg (C4 nm pr (.sl ons) (.sl dss) et)])) 75 ((.osl 32 (x0 :: (xs++[.agg (C4 nm pr (.sl ons) (.sl dss) et)]))))) 76 (.bp id 0)) 77 (.bp id 3)) 75 (.sl (x0 :: (xs++[.agg (C4 nm pr (.sl ons) (.sl dss) et)])))),BX bx id (Ap L i o (.osl 32 (x0 :: (xs++[.agg (C4 nm pr (.sl ons) (.sl dss) et)])))) (.cells 86 [.bp id 0] :: .cells 80 [.int .i64 (t0.1:Int),.str t0.2.1,.int .i64 (t0.2.2:Int)] :: .cells 32 (C4 nm pr (.osl 58 ons) (.osl 60 dss) et) :: J)⟩):=by
 have hb:=apR _ jT;have Xu:=bsR nm pr ons dss et;have b9:=fun st al l d=>GK (bytes:=208) (size:=15) (e:=32) (st:=st) (al:=al) (l:=l) (d:=d) (xs:=x0 :: xs) (ys:=[.agg (C4 nm pr (.sl ons) (.sl dss) et)]) (by simp only [Aa3,Aa5];omega) (by decide) (by obtain ⟨k,n,m,s,v,q,kids⟩:=et;rfl);obtain ⟨k,n,m,s,v,q,kids⟩:=et;refine AV.2 ⟨by rw [WC];simp,fun l hl=>?_⟩;rw [WC] at hl;unfold C4 Ap at *;rw [<- Mv];simp only [Aak,Aai,or_false] at hl;rcases hl with rfl | rfl | rfl | rfl | rfl | rfl | rfl | rfl | rfl | rfl | rfl | rfl | rfl | rfl | rfl | rfl | rfl | rfl | rfl | rfl | rfl | rfl | rfl | rfl | rfl | rfl | rfl | rfl | rfl | rfl | rfl | rfl | rfl | rfl | rfl | rfl | rfl | rfl | rfl | rfl | rfl | rfl | rfl | rfl | rfl | rfl | rfl | rfl | rfl | rfl | rfl | rfl | rfl | rfl | rfl | rfl | rfl | rfl | rfl | rfl | rfl | rfl | rfl | rfl | rfl | rfl | rfl | rfl | rfl | rfl | rfl | rfl | rfl | rfl | rfl | rfl | rfl | rfl | rfl | rfl | rfl | rfl | rfl | rfl | rfl | rfl | rfl | rfl | rfl | rfl | rfl | rfl | rfl | rfl | rfl | rfl | rfl | rfl | rfl | rfl | rfl | rfl | rfl | rfl | rfl | rfl | rfl | rfl | rfl | rfl | rfl | rfl | rfl | rfl | rfl | rfl | rfl | rfl | rfl | rfl
 all_goals
  simp only [opsOf,Ab,Ac,Aa1,Aa0,AR,Aaf,Aah,Aae,Aab,Aaa];simp only [S9,A5,seval,PY,PZ,AS,Az,hb,Xu,b9,g1,g3,F4,SX,AX,Bf,Aap,Aaq,hid]
  repeat first | rw [Av _ 75 68 _ _ (by decide)] | rw [Av _ 74 68 _ _ (by decide)] | rw [Av _ 73 68 _ _ (by decide)] | rw [Av _ 72 68 _ _ (by decide)] | rw [Av _ 71 68 _ _ (by decide)] | rw [Av _ 70 68 _ _ (by decide)] | rw [Av _ 69 68 _ _ (by decide)] | rw [Av _ 74 69 _ _ (by decide)] | rw [Av _ 73 69 _ _ (by decide)] | rw [Av _ 74 70 _ _ (by decide)] | rw [Av _ 73 70 _ _ (by decide)] | rw [Av _ 74 71 _ _ (by decide)] | rw [Av _ 73 71 _ _ (by decide)] | rw [Av _ 74 72 _ _ (by decide)] | rw [Av _ 73 72 _ _ (by decide)]
  try rfl
theorem E6 {L:List Tk} (hT:TokOK L) {i:Nat} {a:Tg} {j:Nat} (hi:i < L.length) (h:BI L i=.ok a j):j < L.length:=by
 unfold BI at h;split at h
 · rename_i hk
   have BF:=AM hT hi hk (by decide);obtain ⟨_,_,r0,h⟩:=Aj h;have h0:=C1 hT BF r0;injection h with _ h
   exact h ▸ h0.2.1
 split at h
 · rename_i hk
   have BF:=AM hT hi hk (by decide);obtain ⟨_,_,r0,h⟩:=Aj h;have h0:=C1 hT BF r0;injection h with _ h
   exact h ▸ h0.2.1
 split at h
 · rename_i hk
   have BF:=AM hT hi hk (by decide);obtain ⟨_,_,r0,h⟩:=Aj h;have h0:=E1 hT BF r0;split at h
   · rename_i Zx
     have Gu:=AM hT h0.2.1 Zx (by decide);obtain ⟨_,_,r0,h⟩:=Aj h;have h0:=KG hT Gu r0;injection h with _ h
     exact h ▸ h0.2.1
   · injection h with _ h
     exact h ▸ h0.2.1
 split at h
 · rename_i hk
   have BF:=AM hT hi hk (by decide);split at h
   · skip
     obtain ⟨_,_,r0,h⟩:=Aj h;have h0:=CI hT BF r0;injection h with _ h
     exact h ▸ h0.2
   · rename_i h0 Dz
     injection h with _ h
     exact h ▸ BF
 split at h
 · rename_i hk
   have BF:=AM hT hi hk (by decide);injection h with _ h
   exact h ▸ BF
 obtain ⟨_,_,r0,h⟩:=Aj h;obtain ⟨_,_,r1,h⟩:=Aj h;have h0:=AW hT hi (by decide) r0;have h1:=Ft hT h0.2 r1;injection h with _ h
 exact h ▸ h1.2.1
theorem KO {L:List Tk} (hT:TokOK L) {n i:Nat} {a:Sp} {j:Nat} (hi:i < L.length) (h:DV L n i=.ok a j):j < L.length:=by
 unfold DV at h;split at h
 · rename_i hk
   have BF:=AM hT hi hk (by decide);obtain ⟨_,_,r0,h⟩:=Aj h;obtain ⟨_,_,r1,h⟩:=Aj h;obtain ⟨_,_,r2,h⟩:=Aj h;have h0:=C1 hT BF r0;have h1:=AW hT h0.2.1 (by decide) r1;have h2:=E3 hT h1.2 r2;injection h with _ h
   exact h ▸ h2.2
 split at h
 · rename_i hk
   have BF:=AM hT hi hk (by decide);obtain ⟨_,_,r0,h⟩:=Aj h;have h0:=C1 hT BF r0;split at h
   · rename_i Zx
     have Gu:=AM hT h0.2.1 Zx (by decide);obtain ⟨_,_,r0,h⟩:=Aj h;obtain ⟨_,_,r1,h⟩:=Aj h;have h0:=E3 hT Gu r0;have h1:=AW hT h0.2 (by decide) r1;injection h with _ h
     exact h ▸ h1.2
   · injection h with _ h
     exact h ▸ h0.2.1
 split at h
 · rename_i hk
   have BF:=AM hT hi hk (by decide);obtain ⟨_,_,r0,h⟩:=Aj h;have h0:=CI hT BF r0;injection h with _ h
   exact h ▸ h0.2
 split at h
 · rename_i hk
   have BF:=AM hT hi hk (by decide);obtain ⟨_,_,r0,h⟩:=Aj h;have h0:=CI hT BF r0;injection h with _ h
   exact h ▸ h0.2
 obtain ⟨_,_,r0,h⟩:=Aj h;obtain ⟨_,_,r1,h⟩:=Aj h;have h0:=AW hT hi (by decide) r0;have h1:=cM hT h0.2 (by decide) r1;injection h with _ h
 exact h ▸ h1.2
theorem Gl {α:Type} {L:List Tk} (hT:TokOK L) {wd:List UInt8} {part:Nat->PR α} (Bz:∀ i a j,i < L.length->part i=.ok a j->j < L.length):∀ (m:Nat) (acc:List α) (i:Nat) (l:List α) (j:Nat),i < L.length->acc.length<=8->Bw L wd part m acc i=.ok l j->j < L.length/\l≠[]/\l.length<=8:=by
 intro m
 induction m with
 | zero=>intro acc i l j _ _ h;cases h
 | succ m ih=>
  intro acc i l j hi h8 h;rw [Bw] at h;split at h
  · split at h
    · cases h
    · obtain ⟨_,_,r0,h⟩:=Aj h
      obtain ⟨_,_,r1,h⟩:=Aj h;obtain ⟨_,_,r2,h⟩:=Aj h;have h0:=(AW hT hi (by decide) r0).2;have h1:=Bz _ _ _ h0 r1;have h2:=(AW hT h1 (by decide) r2).2;exact ih _ _ _ _ h2 (by rw [Aag];simp only [Aa3,Aa5];omega) h
  · rename_i hn
    injection h with e1 e2
    subst e1 e2;exact ⟨hi,fun e=>hn (Or.inl (by rw [e] <;> rfl)),h8⟩
theorem oj {id:Nat} {L:List Tk} {o:Nat} {RL:PV} (hR:RL.pure=true) (hT:TokOK L) (nm:List UInt8) (pr:Int) (xV:PV) (Ig:∀ n,xV.under n=true) (et:Tr) (t0:Tk) {J:List PBox} (hJ:∀ n,(J.all fun x=>x.under n)=true) :
 dh 108 (BI L) id L RL o t0 J (fun acc:List Tg=>.cells 32 (C4 nm pr (C8 58 (acc.map BR)) xV et)):=by
 intro i hi acc h7;have h:=Yy (id:=id) (o:=o) hR hi hT;cases r:BI L i with
 | out=>trivial
 | ok a j=>
  rw [r] at h;exact fun bx hid hc=>jR hR j hid hc nm pr xV Ig et t0 hJ acc h7 a h
 | bad t c=>
  rw [r] at h;obtain ⟨i',o',h⟩:=h;exact ⟨i',o',fun bx hid hc=>fU hR 0 hid hc nm pr xV Ig et t0 hJ acc h7 h⟩
theorem sg {id:Nat} {L:List Tk} {o:Nat} {RL:PV} (hR:RL.pure=true) (hT:TokOK L) (nm:List UInt8) (pr:Int) (xV:PV) (Ig:∀ n,xV.under n=true) (et:Tr) (t0:Tk) {J:List PBox} (hJ:∀ n,(J.all fun x=>x.under n)=true) (wd:List UInt8) {i:Nat} (hi:i < L.length) :
 sf 108 wd id L RL o t0 J (fun acc:List Tg=>.cells 32 (C4 nm pr (C8 58 (acc.map BR)) xV et)) i (Bw L wd (BI L) 10 [] i):=
 Yz hR hT hJ (fun z acc=>by show Ar z (C4 nm pr (C8 58 (acc.map BR)) xV et)=true;exact De z nm pr _ _ et (Em _ _ _ (B4 BR Dd _ _)) (Ig _)) (fun i a j hi h=>E6 hT hi h) (oj hR hT nm pr xV Ig et t0 hJ) hi
theorem om {id:Nat} {L:List Tk} {o:Nat} {RL:PV} (hR:RL.pure=true) (hT:TokOK L) (n:Nat) (ho:o=0) (nm:List UInt8) (pr:Int) (xV:PV) (Ig:∀ n,xV.under n=true) (et:Tr) (t0:Tk) {J:List PBox} (hJ:∀ n,(J.all fun x=>x.under n)=true) :
 dh 110 (DV L n) id L RL o t0 J (fun acc:List Sp=>.cells 32 (C4 nm pr xV (C8 60 (acc.map DZ)) et)):=by
 intro i hi acc h7;have h:=jP (id:=id) (o:=o) hR hi hT n ho;cases r:DV L n i with
 | out=>trivial
 | ok a j=>
  rw [r] at h;exact fun bx hid hc=>jS hR j hid hc nm pr xV Ig et t0 hJ acc h7 a h
 | bad t c=>
  rw [r] at h;obtain ⟨i',o',h⟩:=h;exact ⟨i',o',fun bx hid hc=>fV hR 0 hid hc nm pr xV Ig et t0 hJ acc h7 h⟩
theorem sh {id:Nat} {L:List Tk} {o:Nat} {RL:PV} (hR:RL.pure=true) (hT:TokOK L) (n:Nat) (ho:o=0) (nm:List UInt8) (pr:Int) (xV:PV) (Ig:∀ n,xV.under n=true) (et:Tr) (t0:Tk) {J:List PBox} (hJ:∀ n,(J.all fun x=>x.under n)=true) (wd:List UInt8) {i:Nat} (hi:i < L.length) :
 sf 110 wd id L RL o t0 J (fun acc:List Sp=>.cells 32 (C4 nm pr xV (C8 60 (acc.map DZ)) et)) i (Bw L wd (DV L n) 10 [] i):=
 Yz hR hT hJ (fun z acc=>by show Ar z (C4 nm pr xV (C8 60 (acc.map DZ)) et)=true;exact De z nm pr _ _ et (Ig _) (Em _ _ _ (B4 DZ DJ _ _))) (fun i a j hi h=>KO hT hi h) (om hR hT n ho nm pr xV Ig et t0 hJ) hi
def qB {β:Type} (T:Code) (id:Nat) (L:List Tk) (RL:PV) (o:Nat) (t0:Tk) (J:List PBox) (i:Nat) (R0:PBox) (RLn:β->PV) (r:PR β):Prop:=match r with
 | .ok b j=>∀ (bx:List PBox) (hid:id < bx.length) (hc:DN bx) (e:List PV),getT e 1=.bp bx.length 0->getT e 2=.bp (bx.length+1) 0->getT e 3=.bp (bx.length+2) 0->∃ e' ys',Lh CC T ⟨e,(BX bx id (Ap L i o RL) (.cells 86 [.bp id 0] :: .cells 80 [.int .i64 (t0.1:Int),.str t0.2.1,.int .i64 (t0.2.2:Int)] :: R0 :: J))⟩=some (.normal,⟨e',BX bx id (Ap L j o (RLn b)) ys'⟩)
 | .bad t c=>∃ i' o',∀ (bx:List PBox) (hid:id < bx.length) (hc:DN bx) (e:List PV),getT e 1=.bp bx.length 0->getT e 2=.bp (bx.length+1) 0->getT e 3=.bp (bx.length+2) 0->∃ e' ys',Lh CC T ⟨e,(BX bx id (Ap L i o RL) (.cells 86 [.bp id 0] :: .cells 80 [.int .i64 (t0.1:Int),.str t0.2.1,.int .i64 (t0.2.2:Int)] :: R0 :: J))⟩=some (.pan (B7 t c),⟨e',BX bx id (Ap L i' o' RL) ys'⟩)
 | .out=>True
theorem Hg {β:Type} {T:Code} {id:Nat} {L:List Tk} {RL:PV} {o:Nat} {t0:Tk} {J:List PBox} {i:Nat} {R0:PBox} {RLn:β->PV}:qB T id L RL o t0 J i R0 RLn .out:=trivial
theorem BM (t:TypeId):C8 t []=.nils:=rfl
theorem BZ (t:TypeId) (x:PV) (r:List PV):C8 t (x :: r)=.osl t (x :: r):=rfl
theorem EG (t:TypeId):∀ l:List PV,Al l=true->(C8 t l).pure=true
 | [],_=>rfl
 | x :: r,h=>h
theorem fW (t:Tg):(BR t).pure=true:=rfl
theorem jV (s:Sp):(DZ s).pure=true:=RZ s
theorem map_pure {α:Type} (f:α->PV) (hf:∀ a,(f a).pure=true):∀ l:List α,Al (l.map f)=true
 | []=>rfl
 | x :: r=>by rw [Aa6,AO,hf,map_pure f hf r];rfl
theorem qC (T:Code) (hL:T=Ab Aa1 [1,1,1,1,1,1,1,1,1,1]) {id:Nat} {L:List Tk} {o:Nat} (hT:TokOK L) (RS:List PV) (eA:Al RS=true) (uN:RS.length<=100) (n:Nat) (ho:o=0) (nm:List UInt8) (pr:Int) (ons:List Tg) (By:ons≠[]) (et:Tr) (t0:Tk) {J:List PBox} (hJ:∀ n,(J.all fun x=>x.under n)=true) {i:Nat} (hi:i < L.length) :
 qB T id L (C8 32 RS) o t0 J i (.cells 32 (C4 nm pr (C8 58 (ons.map BR)) (.nils) et)) (fun dos=>C8 32 (RS++[.agg (C4 nm pr (.sl (ons.map BR)) (.sl (dos.map DZ)) et)])) ((Bw L [100,111] (DV L n) 10 [] i).bind fun dos i=>(Bs L 4 [125] i).bind fun _ i=>.ok dos i):=by
 have hR:=EG 32 RS eA;have hZ:∀ n,(C8 58 (ons.map BR)).under n=true:=fun n=>Em _ _ _ (B4 BR Dd n ons);have Cz:∀ (n:Nat) (l:List Sp),Ar n (C4 nm pr (C8 58 (ons.map BR)) (C8 60 (l.map DZ)) et)=true:=fun n l=>De n nm pr _ _ et (hZ n) (Em _ _ _ (B4 DZ DJ n l));have Jx:=sh (id:=id) (o:=o) (RL:=C8 32 RS) hR hT n ho nm pr (C8 58 (ons.map BR)) hZ et t0 hJ [100,111] hi;have Dw:Ab Aa1 [1,1,1,1,1,1,1,1,1,1]=.seq (Ab Aa1 [1,1,1,1,1,1,1,1,1,1,0]) (.seq (Ab Aa1 [1,1,1,1,1,1,1,1,1,1,1,0]) (Ab Aa1 [1,1,1,1,1,1,1,1,1,1,1,1])):=rfl;rw [Dw] at hL;cases r1:Bw L [100,111] (DV L n) 10 [] i with
 | out=>exact Hg
 | bad t c=>
  rw [r1] at Jx;obtain ⟨i',o',Jx⟩:=Jx;refine ⟨i',o',fun bx hid hc e g1 g2 g3=>?_⟩;obtain ⟨acc',t1⟩:=Jx bx hid hc;unfold Ap at t1;simp only [Aa4,BM] at t1;have hd:∀ k,id < bx.length+k:=fun k=>by omega
  have CA:Al [PV.bp (bx.length+2) 0,PV.bp bx.length 0]=false:=rfl;rw [hL];unfold Ap;rw [<- Cf];rw [<- C3] at t1;simp only [opsOf,Ab,Ac,Aa1,Aa0] at |-;simp only [S9,A5,seval,PY,PZ,AS,Az,g1,g2,g3,hd,hJ,Cz,CA,t1,SX,hid];exact ⟨_,_,rfl⟩
 | ok dos i1=>
  rw [r1] at Jx;have Bz:=Gl hT (fun i a j hi h=>KO hT hi h) 10 [] i dos i1 hi (by simp) r1;have BF:=Bz.1;have hm:=Cb (id:=id) (o:=o) (i:=i1) hR BF hT 4 4 rfl [125];dsimp only [Au];cases r2:Bs L 4 [125] i1 with
  | out=>exact Hg
  | bad t c=>
   rw [r2] at hm;obtain ⟨i',o',hm⟩:=hm;refine ⟨i',o',fun bx hid hc e g1 g2 g3=>?_⟩;have t1:=Jx bx hid hc;unfold Ap at t1;simp only [Aa4,BM] at t1;have t2:=Am hid hc hR hm;have hd:∀ k,id < bx.length+k:=fun k=>by omega
   have CA:Al [PV.bp (bx.length+2) 0,PV.bp bx.length 0]=false:=rfl;rw [hL];unfold Ap;rw [<- Cf];rw [<- C3] at t1 t2;simp only [opsOf,Ab,Ac,Aa1,Aa0] at |-;simp only [S9,A5,seval,PY,PZ,AS,Az,g1,g2,g3,hd,hJ,Cz,CA,t1,t2,SX,hid];exact ⟨_,_,rfl⟩
  | ok u i2=>
   rw [r2] at hm;dsimp only [Au];refine fun bx hid hc e g1 g2 g3=>?_;have t1:=Jx bx hid hc;unfold Ap at t1;have t2:=Aa hid hc hR hm;obtain ⟨x,ons,rfl⟩:=Aaj By;obtain ⟨y,dss,rfl⟩:=Aaj Bz.2.1;cases RS with
   | nil=>
    simp only [Aa4,Aa6,Aa9,Aa8,BM,BZ] at t1 t2 Cz hZ |-;have hd:∀ k,id < bx.length+k:=fun k=>by omega
    have CA:Al [PV.bp (bx.length+2) 0,PV.bp bx.length 0]=false:=rfl;have ER:=fun e g1 g3=>YA (id:=id) (L:=L) (i:=i2) (o:=o) hid hc nm pr (BR x :: ons.map BR) (DZ y :: dss.map DZ) et t0 J e g1 g3;have Zt:∀ n,Ar n (C4 nm pr (.osl 58 (BR x :: ons.map BR)) (.osl 60 (DZ y :: dss.map DZ)) et)=true:=fun n=>Cz n (y :: dss);unfold Ap at ER;simp only [<- A6 qA] at ER;rw [hL];unfold Ap;rw [<- Cf];rw [<- C3] at t1 t2;rw [<- IQ] at ER;simp only [opsOf,Ab,Ac,Aa1,Aa0] at|-ER;simp only [S9,A5,seval,PY,PZ,AS,Az,g1,g2,g3,hd,hJ,Cz,CA,t1,t2,Zt,ER,SX,hid];exact ⟨_,_,rfl⟩
   | cons a RS=>
    simp only [Aa4,Aa6,Aa9,Aa8,BM,BZ] at t1 t2 Cz hZ |-;have hd:∀ k,id < bx.length+k:=fun k=>by omega
    have CA:Al [PV.bp (bx.length+2) 0,PV.bp bx.length 0]=false:=rfl;have ER:=fun e g1 g3=>WD (id:=id) (L:=L) (i:=i2) (o:=o) hid hc nm pr (BR x :: ons.map BR) (DZ y :: dss.map DZ) et t0 J a RS (by simp only [Aa3] at uN;omega) e g1 g3;have Zt:∀ n,Ar n (C4 nm pr (.osl 58 (BR x :: ons.map BR)) (.osl 60 (DZ y :: dss.map DZ)) et)=true:=fun n=>Cz n (y :: dss);unfold Ap at ER;simp only [<- A6 qA] at ER;rw [hL];unfold Ap;rw [<- Cf];rw [<- C3] at t1 t2;rw [<- IQ] at ER;simp only [opsOf,Ab,Ac,Aa1,Aa0] at|-ER;simp only [S9,A5,seval,PY,PZ,AS,Az,g1,g2,g3,hd,hJ,Cz,CA,t1,t2,Zt,ER,SX,hid];exact ⟨_,_,rfl⟩
theorem C9 (nm:List UInt8) (pr:Int) (on dos:PV) (k n m:Int) (s:List UInt8) (v:Vl) (q:Ky) (kids:List Tr):C4 nm pr on dos (.mk k n m s v q kids)=[.str nm,.int .i64 pr,on,.int .i64 k,.int .i64 n,.int .i64 m,.str s,.int .i64 v.1,.int .i64 v.2.1,.str v.2.2,.int .i64 q.1,.str q.2.1,.str q.2.2,.sl (A8 kids),dos]:=rfl
theorem R3 (k n m:Int) (s:List UInt8) (v:Vl) (q:Ky) (kids:List Tr):Bo (.mk k n m s v q kids)=[.int .i64 k,.int .i64 n,.int .i64 m,.str s,.int .i64 v.1,.int .i64 v.2.1,.str v.2.2,.int .i64 q.1,.str q.2.1,.str q.2.2,.sl (A8 kids)]:=by unfold Bo BE;rfl
theorem CH (n:Nat) (l:List Tr):Ar n (A8 l)=true:=Ax n _ (AY l)
theorem BS:A8 []=[]:=by unfold A8;rfl
def Md (L:List Tk) (n i:Nat):PR (List Tg×Tr×List Sp):=(Bs L 4 [123] i).bind fun _ i=>
 (Bw L [111,110] (BI L) 10 [] i).bind fun on i=>
 (if Br L 1 [105,102] i then (D0 L n (i+1)).bind fun e i=>(Bs L 4 [59] i).bind fun _ i=>.ok e i else .ok wT i).bind fun e i=>
 (Bw L [100,111] (DV L n) 10 [] i).bind fun dos i=>(Bs L 4 [125] i).bind fun _ i=>.ok (on,e,dos) i
theorem LQ {α γ:Type} (r:PR α) (f:Nat->PR Unit) (g:α->γ):((r.bind fun a i=>(f i).bind fun _ i=>PR.ok a i).bind fun b j=>PR.ok (g b) j)=r.bind fun a i=>(f i).bind fun _ i=>PR.ok (g a) i:=by
 cases r with
 | ok a i=>show (((f i).bind fun _ i=>PR.ok a i).bind fun b j=>PR.ok (g b) j)=(f i).bind fun _ i=>PR.ok (g a) i;cases f i <;> rfl
 | bad t e=>rfl
 | out=>rfl
theorem WE {β γ:Type} {T:Code} {id:Nat} {L:List Tk} {RL:PV} {o:Nat} {t0:Tk} {J:List PBox} {i:Nat} {R0:PBox} {RLn:β->PV} {r:PR β} {g:β->γ} {RLg:γ->PV} (hg:∀ b,RLg (g b)=RLn b) (h:qB T id L RL o t0 J i R0 RLn r):qB T id L RL o t0 J i R0 RLg (r.bind fun b j=>.ok (g b) j):=by
 cases r with
 | out=>trivial
 | bad t c=>exact h
 | ok b j=>unfold qB PR.bind at *;simp only [hg];exact h
theorem qD (T:Code) (hL:T=Ab Aa1 [1,1,1,1,1,1,1]) {id:Nat} {L:List Tk} {o:Nat} (hT:TokOK L) (RS:List PV) (eA:Al RS=true) (uN:RS.length<=100) (n:Nat) (ho:o=0) (nm:List UInt8) (pr:Int) (t0:Tk) {J:List PBox} (hJ:∀ n,(J.all fun x=>x.under n)=true) {i:Nat} (hi:i < L.length) :
 qB T id L (C8 32 RS) o t0 J i (.cells 32 (C4 nm pr (.nils) (.nils) wT)) (fun x:List Tg×Tr×List Sp=>C8 32 (RS++[.agg (C4 nm pr (.sl (x.1.map BR)) (.sl (x.2.2.map DZ)) x.2.1)])) (Md L n i):=by
 have hR:=EG 32 RS eA;obtain ⟨T3,hT3⟩:∃ T3,T3=Ab Aa1 [1,1,1,1,1,1,1,1,1,1]:=⟨_,rfl⟩;have Dw:Ab Aa1 [1,1,1,1,1,1,1]=.seq (Ab Aa1 [1,1,1,1,1,1,1,0]) (.seq (Ab Aa1 [1,1,1,1,1,1,1,1,0]) (.seq (Ab Aa1 [1,1,1,1,1,1,1,1,1,0]) T3)):=by rw [hT3];rfl
 rw [Dw] at hL;have Xx:∀ n,Ar n (C4 nm pr .nils .nils wT)=true:=fun n=>De n nm pr _ _ wT (by simp only [SU]) (by simp only [SU]);unfold Md;have h1:=Cb (id:=id) (o:=o) (i:=i) hR hi hT 4 4 rfl [123];cases r1:Bs L 4 [123] i with
 | out=>exact Hg
 | bad t c=>
  rw [r1] at h1;obtain ⟨i',o',h1⟩:=h1;refine ⟨i',o',fun bx hid hc e g1 g2 g3=>?_⟩;have t1:=Am hid hc hR h1;have Cz:=Xx;have hd:∀ k,id < bx.length+k:=fun k=>by omega
  have CA:Al [PV.bp (bx.length+2) 0,PV.bp bx.length 0]=false:=rfl;rw [hL];unfold Ap;rw [<- Cf];rw [<- C3] at t1;simp only [opsOf,Ab,Ac,Aa1,Aa0] at |-;simp only [S9,A5,seval,PY,PZ,AS,Az,g1,g2,g3,hd,hJ,Cz,CA,t1,SX,hid];exact ⟨_,_,rfl⟩
 | ok u i1=>
  rw [r1] at h1;dsimp only [Au];have BF:=(AW hT hi (by decide) r1).2;have Jx:=sg (id:=id) (o:=o) (RL:=C8 32 RS) hR hT nm pr .nils (fun n=>by simp only [SU]) wT t0 hJ [111,110] BF;cases r2:Bw L [111,110] (BI L) 10 [] i1 with
  | out=>exact Hg
  | bad t c=>
   rw [r2] at Jx;obtain ⟨i',o',Jx⟩:=Jx;refine ⟨i',o',fun bx hid hc e g1 g2 g3=>?_⟩;have t1:=Aa hid hc hR h1;obtain ⟨acc',t2⟩:=Jx bx hid hc;unfold Ap at t2;simp only [Aa4,BM] at t2;have Cz:=Xx;have hd:∀ k,id < bx.length+k:=fun k=>by omega
   have CA:Al [PV.bp (bx.length+2) 0,PV.bp bx.length 0]=false:=rfl;rw [hL];unfold Ap;rw [<- Cf];rw [<- C3] at t1 t2;simp only [opsOf,Ab,Ac,Aa1,Aa0] at |-;simp only [S9,A5,seval,PY,PZ,AS,Az,g1,g2,g3,hd,hJ,Cz,CA,t1,t2,SX,hid];exact ⟨_,_,rfl⟩
  | ok ons i2=>
   rw [r2] at Jx;dsimp only [Au];have Bz:=Gl hT (fun i a j hi h=>E6 hT hi h) 10 [] i1 ons i2 BF (by simp) r2;have Gu:=Bz.1;have hZ:∀ n,(C8 58 (ons.map BR)).under n=true:=fun n=>Em _ _ _ (B4 BR Dd n ons);have Xp:∀ n,Ar n (C4 nm pr (C8 58 (ons.map BR)) .nils wT)=true:=fun n=>De n nm pr _ _ wT (hZ n) (by simp only [SU]);cases f0:Br L 1 [105,102] i2 with
   | false=>
    simp only [Bool.false_eq_true,if_false];dsimp only [Au];have key:=WE (RLg:=(fun x:List Tg×Tr×List Sp=>C8 32 (RS++[.agg (C4 nm pr (.sl (x.1.map BR)) (.sl (x.2.2.map DZ)) x.2.1)]))) (g:=fun dos=>(ons,wT,dos)) (fun b=>rfl) (qC T3 hT3 (id:=id) hT RS eA uN n ho nm pr ons Bz.2.1 wT t0 hJ Gu);rw [LQ] at key;revert key;generalize ((Bw L [100,111] (DV L n) 10 [] i2).bind fun dos i=>(Bs L 4 [125] i).bind fun _ i=>PR.ok (ons,wT,dos) i)=rr;intro key;cases rr with
    | out=>exact Hg
    | bad t c=>
     obtain ⟨i',o',key⟩:=key;refine ⟨i',o',fun bx hid hc e g1 g2 g3=>?_⟩;have key:=key bx hid hc;have hd:∀ k,id < bx.length+k:=fun k=>by omega
     have CA:Al [PV.bp (bx.length+2) 0,PV.bp bx.length 0]=false:=rfl;have t1:=Aa hid hc hR h1;have t2:=Jx bx hid hc;unfold Ap at t2;simp only [Aa4,BM] at t2;have Cz:=Xx;have q0:=Aa hid hc hR (Ae (id:=id) (o:=o) hR Gu hT _ f0);rw [hL];unfold Ap at|-key;rw [<- Cf];rw [<- Cf] at key;rw [<- C3] at t1 t2 q0;simp only [opsOf,Ab,Ac,Aa1,Aa0] at |-;simp only [S9,A5,seval,PY,PZ,AS,Az,g1,g2,g3,hd,hJ,Cz,CA,t1,t2,q0,Xp,SX,hid];refine key _ ?_ ?_ ?_
     · simp only [S7,A5,seval,g1]
     · simp only [S7,A5,seval,g2]
     · simp only [S7,A5,seval,g3]
    | ok v j=>
     refine fun bx hid hc e g1 g2 g3=>?_;have key:=key bx hid hc;have hd:∀ k,id < bx.length+k:=fun k=>by omega
     have CA:Al [PV.bp (bx.length+2) 0,PV.bp bx.length 0]=false:=rfl;have t1:=Aa hid hc hR h1;have t2:=Jx bx hid hc;unfold Ap at t2;simp only [Aa4,BM] at t2;have Cz:=Xx;have q0:=Aa hid hc hR (Ae (id:=id) (o:=o) hR Gu hT _ f0);rw [hL];unfold Ap at|-key;rw [<- Cf];rw [<- Cf] at key;rw [<- C3] at t1 t2 q0;simp only [opsOf,Ab,Ac,Aa1,Aa0] at |-;simp only [S9,A5,seval,PY,PZ,AS,Az,g1,g2,g3,hd,hJ,Cz,CA,t1,t2,q0,Xp,SX,hid];refine key _ ?_ ?_ ?_
     · simp only [S7,A5,seval,g1]
     · simp only [S7,A5,seval,g2]
     · simp only [S7,A5,seval,g3]
   | true=>
    simp only [if_true];have Uy:=AM hT Gu f0 (by decide);have h3:=Oq (id:=id) (i:=i2+1) hR hT Uy n o ho;cases r3:D0 L n (i2+1) with
    | out=>exact Hg
    | bad t c=>
     rw [r3] at h3;obtain ⟨i',o',h3⟩:=h3;refine ⟨i',o',fun bx hid hc e g1 g2 g3=>?_⟩;have hd:∀ k,id < bx.length+k:=fun k=>by omega
     have CA:Al [PV.bp (bx.length+2) 0,PV.bp bx.length 0]=false:=rfl;have t1:=Aa hid hc hR h1;have t2:=Jx bx hid hc;unfold Ap at t2;simp only [Aa4,BM] at t2;have Cz:=Xx;have q0:=Aa hid hc hR (As (id:=id) (o:=o) hR Gu hT _ f0);have t3:=Am hid hc hR h3;rw [hL];unfold Ap;rw [<- Cf];rw [<- C3] at t1 t2 q0 t3;simp only [opsOf,Ab,Ac,Aa1,Aa0] at |-;simp only [S9,A5,seval,PY,PZ,AS,Az,g1,g2,g3,hd,hJ,Cz,CA,t1,t2,q0,t3,Xp,SX,hid];exact ⟨_,_,rfl⟩
    | ok a i3=>
     rw [r3] at h3;dsimp only [Au];have hY:=(E3 hT Uy r3).2;have h4:=Cb (id:=id) (o:=o) (i:=i3) hR hY hT 4 4 rfl [59];cases r4:Bs L 4 [59] i3 with
     | out=>exact Hg
     | bad t c=>
      rw [r4] at h4;obtain ⟨i',o',h4⟩:=h4;refine ⟨i',o',fun bx hid hc e g1 g2 g3=>?_⟩;have hd:∀ k,id < bx.length+k:=fun k=>by omega
      have CA:Al [PV.bp (bx.length+2) 0,PV.bp bx.length 0]=false:=rfl;obtain ⟨ak,an,am,as_,av,aq,akids⟩:=a;have t1:=Aa hid hc hR h1;have t2:=Jx bx hid hc;unfold Ap at t2;simp only [Aa4,BM] at t2;have Cz:=Xx;have q0:=Aa hid hc hR (As (id:=id) (o:=o) hR Gu hT _ f0);have t3:=Aa hid hc hR h3;rw [Ao] at t3;have t4:=Am hid hc hR h4;unfold wT zK at Cz Xp t2 |-;simp only [C9,BS,SU,hZ,Aa7,Aal] at Cz Xp;simp only [C9,BS] at t2 |-;simp only [R3] at t3;rw [hL];unfold Ap;rw [<- Cf];rw [<- C3] at t1 t2 q0 t3 t4;simp only [opsOf,Ab,Ac,Aa1,Aa0] at |-;simp only [S9,A5,seval,PY,PZ,AS,Az,g1,g2,g3,hd,hJ,Cz,CA,t1,t2,q0,t3,t4,hZ,CH,BS,SX,hid];exact ⟨_,_,rfl⟩
     | ok u4 i4=>
      rw [r4] at h4;dsimp only [Au];have hi5:=(AW hT hY (by decide) r4).2;have key:=WE (RLg:=(fun x:List Tg×Tr×List Sp=>C8 32 (RS++[.agg (C4 nm pr (.sl (x.1.map BR)) (.sl (x.2.2.map DZ)) x.2.1)]))) (g:=fun dos=>(ons,a,dos)) (fun b=>rfl) (qC T3 hT3 (id:=id) hT RS eA uN n ho nm pr ons Bz.2.1 a t0 hJ hi5);rw [LQ] at key;revert key;generalize ((Bw L [100,111] (DV L n) 10 [] i4).bind fun dos i=>(Bs L 4 [125] i).bind fun _ i=>PR.ok (ons,a,dos) i)=rr;intro key;cases rr with
      | out=>exact Hg
      | bad t c=>
       obtain ⟨ak,an,am,as_,av,aq,akids⟩:=a;obtain ⟨i',o',key⟩:=key;refine ⟨i',o',fun bx hid hc e g1 g2 g3=>?_⟩;have key:=key bx hid hc;have hd:∀ k,id < bx.length+k:=fun k=>by omega
       have CA:Al [PV.bp (bx.length+2) 0,PV.bp bx.length 0]=false:=rfl;have t1:=Aa hid hc hR h1;have t2:=Jx bx hid hc;unfold Ap at t2;simp only [Aa4,BM] at t2;have Cz:=Xx;have q0:=Aa hid hc hR (As (id:=id) (o:=o) hR Gu hT _ f0);have t3:=Aa hid hc hR h3;rw [Ao] at t3;have t4:=Aa hid hc hR h4;unfold wT zK at Cz Xp t2 |-;simp only [C9,BS,SU,hZ,Aa7,Aal] at Cz Xp;simp only [C9,BS] at t2 |-;simp only [R3] at t3;simp only [C9] at key;rw [hL];unfold Ap at|-key;rw [<- Cf];rw [<- Cf] at key;rw [<- C3] at t1 t2 q0 t3 t4;simp only [opsOf,Ab,Ac,Aa1,Aa0] at |-;simp only [S9,A5,seval,PY,PZ,AS,Az,g1,g2,g3,hd,hJ,Cz,CA,t1,t2,q0,t3,t4,hZ,CH,BS,SX,hid];refine key _ ?_ ?_ ?_
       · simp only [S7,A5,seval,g1]
       · simp only [S7,A5,seval,g2]
       · simp only [S7,A5,seval,g3]
      | ok v j=>
       obtain ⟨ak,an,am,as_,av,aq,akids⟩:=a;refine fun bx hid hc e g1 g2 g3=>?_;have key:=key bx hid hc;have hd:∀ k,id < bx.length+k:=fun k=>by omega
       have CA:Al [PV.bp (bx.length+2) 0,PV.bp bx.length 0]=false:=rfl;have t1:=Aa hid hc hR h1;have t2:=Jx bx hid hc;unfold Ap at t2;simp only [Aa4,BM] at t2;have Cz:=Xx;have q0:=Aa hid hc hR (As (id:=id) (o:=o) hR Gu hT _ f0);have t3:=Aa hid hc hR h3;rw [Ao] at t3;have t4:=Aa hid hc hR h4;unfold wT zK at Cz Xp t2 |-;simp only [C9,BS,SU,hZ,Aa7,Aal] at Cz Xp;simp only [C9,BS] at t2 |-;simp only [R3] at t3;simp only [C9] at key;rw [hL];unfold Ap at|-key;rw [<- Cf];rw [<- Cf] at key;rw [<- C3] at t1 t2 q0 t3 t4;simp only [opsOf,Ab,Ac,Aa1,Aa0] at |-;simp only [S9,A5,seval,PY,PZ,AS,Az,g1,g2,g3,hd,hJ,Cz,CA,t1,t2,q0,t3,t4,hZ,CH,BS,SX,hid];refine key _ ?_ ?_ ?_
       · simp only [S7,A5,seval,g1]
       · simp only [S7,A5,seval,g2]
       · simp only [S7,A5,seval,g3]
end Go.HH
