/-
  What the law needs, packed: RD RE RF RG RH RI RJ.
-/
import Derived.Test.YthjcaihemgllaaaGreatDoorK42
open Option renaming getD->Aau
open Go.Proofs.Tryz renaming f53->Aav,f107->Aaw,f110->Abg,f108->Abh
open List renaming length_cons->Aax,map_nil->Aay,length_nil->Aaz,map_cons->Ab0,cons_append->Ab2,nil_append->Ab3,getElem?_cons_zero->Ab4,getElem?_cons_succ->Ab5,map_append->Ab6,length_map->Ab7,getElem?_toArray->Ab8,filterMap_cons->Ab9,length_append->Aba,filterMap_nil->Abb,not_mem_nil->Abc,exists_cons_of_ne_nil->Abd,mem_cons->Abe,getD_cons_zero->Abj,getD_cons_succ->Abk
open Bool renaming and_self->Ab1,and_true->Abf
open Nat renaming le_of_ble_eq_true->Abi
namespace Go.HH
open Go Go.Proofs
set_option maxRecDepth 100000
set_option maxHeartbeats 4000000
set_option linter.unusedSimpArgs false
set_option linter.unusedVariables false
theorem De (n:Nat) (nm:List UInt8) (pr:Int) (on dos:PV) (e:Tr) (h1:on.under n=true) (h2:dos.under n=true):Ar n (C5 nm pr on dos e)=true:=by
 obtain ⟨k,x,m,s,v,q,kids⟩:=e;unfold C5;have hk:Ar n (A1 kids)=true:=Ay n _ (AW kids);simp only [SU,h1,h2,hk,Ab1]
theorem kD {bx:List PBox} {id:Nat} {L:List Tk} {i o:Nat} {RL:PV} (hR:RL.pure=true) (j:Nat) (hid:id < bx.length) (hc:DM bx) (nm:List UInt8) (pr:Int) (dosV:PV) (Io:∀ n,dosV.under n=true) (et:Tr) (t0:Tk) {J:List PBox} (hJ:∀ n,(J.all fun x=>x.under n)=true) (l:List Tg) (hl:l.length<=7) (a:Tg) (h:T9 109 [] id L RL i o (BE a) j o) :
 Ai CC (Ad CC) 108 [.bp (bx.length+2) 0,.bp bx.length 0] (BX bx id (Ap L i o RL) (.cells 86 [.bp id 0] :: .cells 80 [.int .i64 (t0.1:Int),.str t0.2.1,.int .i64 (t0.2.2:Int)] :: .cells 32 (C5 nm pr (C8 58 (l.map BE)) dosV et) :: J))=some (.ret (.tup []),BX bx id (Ap L j o RL) (.cells 86 [.bp id 0] :: .cells 80 [.int .i64 (t0.1:Int),.str t0.2.1,.int .i64 (t0.2.2:Int)] :: .cells 32 (C5 nm pr (C8 58 ((l++[a]).map BE)) dosV et) :: J)):=by
 have hd:∀ k,id < bx.length+k:=fun k=>by omega
 refine OC rfl rfl hc (Bm L _ _ hR) ?_ (by simp [CR.under,PV.under,Ar]) ?_
 · have ZM:∀ n,Ar n (C5 nm pr (C8 58 ((l++[a]).map BE)) dosV et)=true:=fun n=>De n nm pr _ _ et (Eo _ _ _ (B3 BE Dd _ _)) (Io _)
   simp only [SU,SX,hd,ZM,hJ,decide_true,Aax,Aaz,Ab1]
 cases l with
 | nil=>
  have ER:=Sf (j:=j) hR hid hc nm pr dosV Io et t0 hJ a h;simp only [Aay,Ab0,Ab3,C8];skip;rw [Ck rfl];simp only [<- A8 dN] at ER;rw [<- Ch];rw [<- I3] at ER;simp only [opsOf,Aa,Ac,Abh,Aau] at|-ER;simp only [S9,A6,seval,PY,PZ,AS,Aw,ER,SX,hid]
 | cons x r=>
  have ER:=Qe (j:=j) hR hid hc nm pr dosV Io et t0 hJ (BE x) (r.map BE) (fun n=>Dd n x) (fun n=>B3 BE Dd n r) (by rw [Ab7];simp only [Aax] at hl;omega) a h;simp only [Ab0,Ab6,Ab2,Aay,C8];rw [Ck rfl];simp only [<- A8 dN] at ER;rw [<- Ch];rw [<- I3] at ER;simp only [opsOf,Aa,Ac,Abh,Aau] at|-ER;simp only [S9,A6,seval,PY,PZ,AS,Aw,ER,SX,hid]
theorem gC {bx:List PBox} {id:Nat} {L:List Tk} {i o:Nat} {RL:PV} (hR:RL.pure=true) (j:Nat) (hid:id < bx.length) (hc:DM bx) (nm:List UInt8) (pr:Int) (dosV:PV) (Io:∀ n,dosV.under n=true) (et:Tr) (t0:Tk) {J:List PBox} (hJ:∀ n,(J.all fun x=>x.under n)=true) (l:List Tg) (hl:l.length<=7) {t:Nat} {c:Int} {i' o':Nat} (h:Nd 109 [] id L RL i o t c i' o') :
 Ai CC (Ad CC) 108 [.bp (bx.length+2) 0,.bp bx.length 0] (BX bx id (Ap L i o RL) (.cells 86 [.bp id 0] :: .cells 80 [.int .i64 (t0.1:Int),.str t0.2.1,.int .i64 (t0.2.2:Int)] :: .cells 32 (C5 nm pr (C8 58 (l.map BE)) dosV et) :: J))=some (.pan (B5 t c),BX bx id (Ap L i' o' RL) (.cells 86 [.bp id 0] :: .cells 80 [.int .i64 (t0.1:Int),.str t0.2.1,.int .i64 (t0.2.2:Int)] :: .cells 32 (C5 nm pr (C8 58 (l.map BE)) dosV et) :: J)):=by
 have hd:∀ k,id < bx.length+k:=fun k=>by omega
 refine OC rfl rfl hc (Bm L _ _ hR) ?_ (DQ _ _ _) ?_
 · have ZM:∀ n,Ar n (C5 nm pr (C8 58 (l.map BE)) dosV et)=true:=fun n=>De n nm pr _ _ et (Eo _ _ _ (B3 BE Dd _ _)) (Io _)
   simp only [SU,SX,hd,ZM,hJ,decide_true,Aax,Aaz,Ab1]
 cases l with
 | nil=>
  have ER:=Qd (j:=j) hR hid hc nm pr dosV Io et t0 hJ  h;simp only [Aay,Ab0,Ab3,C8];skip;rw [Ck rfl];simp only [<- A8 dN] at ER;rw [<- Ch];rw [<- I3] at ER;simp only [opsOf,Aa,Ac,Abh,Aau] at|-ER;simp only [S9,A6,seval,PY,PZ,AS,Aw,ER,SX,hid]
 | cons x r=>
  have ER:=OD (j:=j) hR hid hc nm pr dosV Io et t0 hJ (BE x) (r.map BE) (fun n=>Dd n x) (fun n=>B3 BE Dd n r) (by rw [Ab7];simp only [Aax] at hl;omega)  h;simp only [Ab0,Ab6,Ab2,Aay,C8];rw [Ck rfl];simp only [<- A8 dN] at ER;rw [<- Ch];rw [<- I3] at ER;simp only [opsOf,Aa,Ac,Abh,Aau] at|-ER;simp only [S9,A6,seval,PY,PZ,AS,Aw,ER,SX,hid]
theorem kE {bx:List PBox} {id:Nat} {L:List Tk} {i o:Nat} {RL:PV} (hR:RL.pure=true) (j:Nat) (hid:id < bx.length) (hc:DM bx) (nm:List UInt8) (pr:Int) (onV:PV) (Io:∀ n,onV.under n=true) (et:Tr) (t0:Tk) {J:List PBox} (hJ:∀ n,(J.all fun x=>x.under n)=true) (l:List Sp) (hl:l.length<=7) (a:Sp) (h:T9 111 [] id L RL i o (D0 a) j o) :
 Ai CC (Ad CC) 110 [.bp (bx.length+2) 0,.bp bx.length 0] (BX bx id (Ap L i o RL) (.cells 86 [.bp id 0] :: .cells 80 [.int .i64 (t0.1:Int),.str t0.2.1,.int .i64 (t0.2.2:Int)] :: .cells 32 (C5 nm pr onV (C8 60 (l.map D0)) et) :: J))=some (.ret (.tup []),BX bx id (Ap L j o RL) (.cells 86 [.bp id 0] :: .cells 80 [.int .i64 (t0.1:Int),.str t0.2.1,.int .i64 (t0.2.2:Int)] :: .cells 32 (C5 nm pr onV (C8 60 ((l++[a]).map D0)) et) :: J)):=by
 have hd:∀ k,id < bx.length+k:=fun k=>by omega
 refine OC rfl rfl hc (Bm L _ _ hR) ?_ (by simp [CR.under,PV.under,Ar]) ?_
 · have ZM:∀ n,Ar n (C5 nm pr onV (C8 60 ((l++[a]).map D0)) et)=true:=fun n=>De n nm pr _ _ et (Io _) (Eo _ _ _ (B3 D0 DI _ _))
   simp only [SU,SX,hd,ZM,hJ,decide_true,Aax,Aaz,Ab1]
 cases l with
 | nil=>
  have ER:=Sg (j:=j) hR hid hc nm pr onV Io et t0 hJ a h;simp only [Aay,Ab0,Ab3,C8];skip;rw [Cl rfl];simp only [<- A8 dO] at ER;rw [<- Ch];rw [<- I3] at ER;simp only [opsOf,Aa,Ac,Abg,Aau] at|-ER;simp only [S9,A6,seval,PY,PZ,AS,Aw,ER,SX,hid]
  try rfl
 | cons x r=>
  have ER:=Qg (j:=j) hR hid hc nm pr onV Io et t0 hJ (D0 x) (r.map D0) (fun n=>DI n x) (fun n=>B3 D0 DI n r) (by rw [Ab7];simp only [Aax] at hl;omega) a h;simp only [Ab0,Ab6,Ab2,Aay,C8];rw [Cl rfl];simp only [<- A8 dO] at ER;rw [<- Ch];rw [<- I3] at ER;simp only [opsOf,Aa,Ac,Abg,Aau] at|-ER;simp only [S9,A6,seval,PY,PZ,AS,Aw,ER,SX,hid]
  try rfl
theorem gD {bx:List PBox} {id:Nat} {L:List Tk} {i o:Nat} {RL:PV} (hR:RL.pure=true) (j:Nat) (hid:id < bx.length) (hc:DM bx) (nm:List UInt8) (pr:Int) (onV:PV) (Io:∀ n,onV.under n=true) (et:Tr) (t0:Tk) {J:List PBox} (hJ:∀ n,(J.all fun x=>x.under n)=true) (l:List Sp) (hl:l.length<=7) {t:Nat} {c:Int} {i' o':Nat} (h:Nd 111 [] id L RL i o t c i' o') :
 Ai CC (Ad CC) 110 [.bp (bx.length+2) 0,.bp bx.length 0] (BX bx id (Ap L i o RL) (.cells 86 [.bp id 0] :: .cells 80 [.int .i64 (t0.1:Int),.str t0.2.1,.int .i64 (t0.2.2:Int)] :: .cells 32 (C5 nm pr onV (C8 60 (l.map D0)) et) :: J))=some (.pan (B5 t c),BX bx id (Ap L i' o' RL) (.cells 86 [.bp id 0] :: .cells 80 [.int .i64 (t0.1:Int),.str t0.2.1,.int .i64 (t0.2.2:Int)] :: .cells 32 (C5 nm pr onV (C8 60 (l.map D0)) et) :: J)):=by
 have hd:∀ k,id < bx.length+k:=fun k=>by omega
 refine OC rfl rfl hc (Bm L _ _ hR) ?_ (DQ _ _ _) ?_
 · have ZM:∀ n,Ar n (C5 nm pr onV (C8 60 (l.map D0)) et)=true:=fun n=>De n nm pr _ _ et (Io _) (Eo _ _ _ (B3 D0 DI _ _))
   simp only [SU,SX,hd,ZM,hJ,decide_true,Aax,Aaz,Ab1]
 cases l with
 | nil=>
  have ER:=Qf (j:=j) hR hid hc nm pr onV Io et t0 hJ  h;simp only [Aay,Ab0,Ab3,C8];skip;rw [Cl rfl];simp only [<- A8 dO] at ER;rw [<- Ch];rw [<- I3] at ER;simp only [opsOf,Aa,Ac,Abg,Aau] at|-ER;simp only [S9,A6,seval,PY,PZ,AS,Aw,ER,SX,hid]
  try rfl
 | cons x r=>
  have ER:=OE (j:=j) hR hid hc nm pr onV Io et t0 hJ (D0 x) (r.map D0) (fun n=>DI n x) (fun n=>B3 D0 DI n r) (by rw [Ab7];simp only [Aax] at hl;omega)  h;simp only [Ab0,Ab6,Ab2,Aay,C8];rw [Cl rfl];simp only [<- A8 dO] at ER;rw [<- Ch];rw [<- I3] at ER;simp only [opsOf,Aa,Ac,Abg,Aau] at|-ER;simp only [S9,A6,seval,PY,PZ,AS,Aw,ER,SX,hid]
  try rfl
theorem IN:Be CC Aaw (Aaw.body.getD .skip)=true:=by kernel_rfl
theorem Ic:CC.P.funcs[107]?=some Aaw:=by kernel_rfl
theorem Ee {x:List PV} {b:List PBox} (h:x.length.ble Aaw.ntmps=true):Ad CC 107 x b=CD CC Aaw.results.toList (Cf CC (Aaw.body.getD .skip) ⟨x,b⟩):=Ah (fn:=Aaw) (c:=Aaw.body.getD .skip) rfl rfl Ic rfl IN (Abi h)
def dP {α:Type} (F:FuncId) (part:Nat->PR α) (id:Nat) (L:List Tk) (RL:PV) (o:Nat) (t0:Tk) (J:List PBox) (RBX:List α->PBox):Prop:=∀ i,i < L.length->∀ acc:List α,acc.length<=7->match part i with
 | .ok a j=>∀ (bx:List PBox) (hid:id < bx.length) (hc:DM bx),Ai CC (Ad CC) F [.bp (bx.length+2) 0,.bp bx.length 0] (BX bx id (Ap L i o RL) (.cells 86 [.bp id 0] :: .cells 80 [.int .i64 (t0.1:Int),.str t0.2.1,.int .i64 (t0.2.2:Int)] :: RBX acc :: J))=some (.ret (.tup []),(BX bx id (Ap L j o RL) (.cells 86 [.bp id 0] :: .cells 80 [.int .i64 (t0.1:Int),.str t0.2.1,.int .i64 (t0.2.2:Int)] :: RBX (acc++[a]) :: J)))
 | .bad t c=>∃ i' o',∀ (bx:List PBox) (hid:id < bx.length) (hc:DM bx),Ai CC (Ad CC) F [.bp (bx.length+2) 0,.bp bx.length 0] (BX bx id (Ap L i o RL) (.cells 86 [.bp id 0] :: .cells 80 [.int .i64 (t0.1:Int),.str t0.2.1,.int .i64 (t0.2.2:Int)] :: RBX acc :: J))=some (.pan (B5 t c),(BX bx id (Ap L i' o' RL) (.cells 86 [.bp id 0] :: .cells 80 [.int .i64 (t0.1:Int),.str t0.2.1,.int .i64 (t0.2.2:Int)] :: RBX acc :: J)))
 | .out=>True
def xu {α:Type} (Lc:Code) (F:FuncId) (w:List UInt8) (id:Nat) (L:List Tk) (RL:PV) (o:Nat) (t0:Tk) (J:List PBox) (RBX:List α->PBox) (i:Nat) (acc:List α) (r:PR (List α)):Prop:=match r with
 | .ok l j=>∀ (bx:List PBox) (hid:id < bx.length) (hc:DM bx) (e:List PV),getT e 0=.bp id 0->getT e 1=.str w->getT e 2=.fn F [] [.bp (bx.length+2) 0,.bp bx.length 0]->getT e 6=.int .i64 (acc.length:Int)->∃ e',Cf CC Lc ⟨e,(BX bx id (Ap L i o RL) (.cells 86 [.bp id 0] :: .cells 80 [.int .i64 (t0.1:Int),.str t0.2.1,.int .i64 (t0.2.2:Int)] :: RBX acc :: J))⟩=some (.exit 0,⟨e',(BX bx id (Ap L j o RL) (.cells 86 [.bp id 0] :: .cells 80 [.int .i64 (t0.1:Int),.str t0.2.1,.int .i64 (t0.2.2:Int)] :: RBX l :: J))⟩)
 | .bad t c=>∃ i' o',∀ (bx:List PBox) (hid:id < bx.length) (hc:DM bx) (e:List PV),getT e 0=.bp id 0->getT e 1=.str w->getT e 2=.fn F [] [.bp (bx.length+2) 0,.bp bx.length 0]->getT e 6=.int .i64 (acc.length:Int)->∃ e' acc',Cf CC Lc ⟨e,(BX bx id (Ap L i o RL) (.cells 86 [.bp id 0] :: .cells 80 [.int .i64 (t0.1:Int),.str t0.2.1,.int .i64 (t0.2.2:Int)] :: RBX acc :: J))⟩=some (.pan (B5 t c),⟨e',(BX bx id (Ap L i' o' RL) (.cells 86 [.bp id 0] :: .cells 80 [.int .i64 (t0.1:Int),.str t0.2.1,.int .i64 (t0.2.2:Int)] :: RBX acc' :: J))⟩)
 | .out=>True
theorem Fw {α:Type} {Lc:Code} {F:FuncId} {w:List UInt8} {id:Nat} {L:List Tk} {RL:PV} {o:Nat} {t0:Tk} {J:List PBox} {RBX:List α->PBox} {i:Nat} {acc:List α}:xu Lc F w id L RL o t0 J RBX i acc .out:=trivial
theorem WU {α:Type} (Lc:Code) (hL:Lc=Aa Aaw [1,0]) {F:FuncId} {wd:List UInt8} {id:Nat} {L:List Tk} {RL:PV} {o:Nat} {t0:Tk} {J:List PBox} {RBX:List α->PBox} {part:Nat->PR α} (hR:RL.pure=true) (hT:TokOK L) (hJ:∀ n,(J.all fun x=>x.under n)=true) (Z4:∀ n acc,(RBX acc).under n=true) (BC:∀ i a j,i < L.length->part i=.ok a j->j < L.length) (hp:dP F part id L RL o t0 J RBX):∀ (m i:Nat) (acc:List α),i < L.length->acc.length<=8->xu Lc F wd id L RL o t0 J RBX i acc (BI L wd part m acc i):=by
 intro m
 induction m with
 | zero=>intro i acc _ _;exact Fw
 | succ m ih=>
  intro i acc hi hl8;rw [BI];have hw:IntKind.wrap .i64 ((acc.length:Int)+1)=((acc.length+1:Nat):Int):=by rw [wrap_i64 ⟨by omega,by omega⟩];omega
  by_cases hz:acc.length=0
  · rw [if_pos (Or.inl hz),if_neg (by omega)]
    have h0:(((acc.length:Nat):Int) == 0)=true:=by rw [hz];rfl
    have h8:(((acc.length:Nat):Int) == 8)=false:=by rw [hz];rfl
    have h1:=Cc (id:=id) (o:=o) (i:=i) hR hi hT 1 1 rfl wd;cases r1:Bt L 1 wd i with
    | out=>exact Fw
    | bad t c=>
     rw [r1] at h1;obtain ⟨i',o',h1⟩:=h1;refine ⟨i',o',fun bx hid hc e g0 g1 g2 g6=>?_⟩;have hd:∀ k,id < bx.length+k:=fun k=>by omega
     have pbp2:Ak [PV.bp (bx.length+2) 0,PV.bp bx.length 0]=false:=rfl;have t1:=Am hid hc hR h1;rw [AX (Aa Aaw [1,0,0]) hL];unfold Ap;rw [<- Al];rw [<- AI] at t1;simp only [Aa,Ac,Aaw,Aau];simp only [S9,Af,seval,PY,PZ,AS,Aw,g0,g1,g2,g6,hd,Z4,hJ,pbp2,h0,h8,t1,SX,hid];exact ⟨_,_,rfl⟩
    | ok u i1=>
     rw [r1] at h1;dsimp only [Au];have BF:=(A4 hT hi (by decide) r1).2;have h2:=hp i1 BF acc (by omega);cases r2:part i1 with
     | out=>exact Fw
     | bad t c=>
      rw [r2] at h2;obtain ⟨i',o',h2⟩:=h2;refine ⟨i',o',fun bx hid hc e g0 g1 g2 g6=>?_⟩;have hd:∀ k,id < bx.length+k:=fun k=>by omega
      have pbp2:Ak [PV.bp (bx.length+2) 0,PV.bp bx.length 0]=false:=rfl;have t1:=Ab hid hc hR h1;have t2:=h2 bx hid hc;unfold Ap at t2;rw [AX (Aa Aaw [1,0,0]) hL];unfold Ap;rw [<- Al];rw [<- AI] at t1 t2;simp only [Aa,Ac,Aaw,Aau];simp only [S9,Af,seval,PY,PZ,AS,Aw,g0,g1,g2,g6,hd,Z4,hJ,pbp2,h0,h8,t1,t2,SX,hid];exact ⟨_,_,rfl⟩
     | ok a i2=>
      rw [r2] at h2;dsimp only [Au];have Gu:=BC i1 a i2 BF r2;have h3:=Cc (id:=id) (o:=o) (i:=i2) hR Gu hT 4 4 rfl [59];cases r3:Bt L 4 [59] i2 with
      | out=>exact Fw
      | bad t c=>
       rw [r3] at h3;obtain ⟨i',o',h3⟩:=h3;refine ⟨i',o',fun bx hid hc e g0 g1 g2 g6=>?_⟩;have hd:∀ k,id < bx.length+k:=fun k=>by omega
       have pbp2:Ak [PV.bp (bx.length+2) 0,PV.bp bx.length 0]=false:=rfl;have t1:=Ab hid hc hR h1;have t2:=h2 bx hid hc;unfold Ap at t2;have t3:=Am hid hc hR h3;rw [AX (Aa Aaw [1,0,0]) hL];unfold Ap;rw [<- Al];rw [<- AI] at t1 t2 t3;simp only [Aa,Ac,Aaw,Aau];simp only [S9,Af,seval,PY,PZ,AS,Aw,g0,g1,g2,g6,hd,Z4,hJ,pbp2,h0,h8,t1,t2,t3,SX,hid];exact ⟨_,_,rfl⟩
      | ok u3 i3=>
       rw [r3] at h3;dsimp only [Au];have UL:=(A4 hT Gu (by decide) r3).2;have key:=ih i3 (acc++[a]) UL (by rw [Aba];simp only [Aax,Aaz];omega);have sd:(acc++[a]).length=acc.length+1:=by simp
       cases r4:BI L wd part m (acc++[a]) i3 with
       | out=>exact Fw
       | bad t c=>
        rw [r4] at key;obtain ⟨i',o',key⟩:=key;refine ⟨i',o',fun bx hid hc e g0 g1 g2 g6=>?_⟩;have key:=key bx hid hc;rw [sd] at key;have hd:∀ k,id < bx.length+k:=fun k=>by omega
        have pbp2:Ak [PV.bp (bx.length+2) 0,PV.bp bx.length 0]=false:=rfl;have t1:=Ab hid hc hR h1;have t2:=h2 bx hid hc;unfold Ap at t2;have t3:=Ab hid hc hR h3;rw [AX (Aa Aaw [1,0,0]) hL];unfold Ap at key |-;rw [<- Al];rw [<- Al] at key;rw [<- AI] at t1 t2 t3;simp only [Aa,Ac,Aaw,Aau];simp only [S9,Af,seval,PY,PZ,AS,Aw,g0,g1,g2,g6,hd,Z4,hJ,pbp2,h0,h8,hw,t1,t2,t3,SX,hid];refine key _ ?_ ?_ ?_ ?_
        · simp only [S7,Af,seval,g0]
        · simp only [S7,Af,seval,g1]
        · simp only [S7,Af,seval,g2]
        · simp only [S7,Af,seval]
       | ok l j=>
        rw [r4] at key;refine fun bx hid hc e g0 g1 g2 g6=>?_;have key:=key bx hid hc;rw [sd] at key;have hd:∀ k,id < bx.length+k:=fun k=>by omega
        have pbp2:Ak [PV.bp (bx.length+2) 0,PV.bp bx.length 0]=false:=rfl;have t1:=Ab hid hc hR h1;have t2:=h2 bx hid hc;unfold Ap at t2;have t3:=Ab hid hc hR h3;rw [AX (Aa Aaw [1,0,0]) hL];unfold Ap at key |-;rw [<- Al];rw [<- Al] at key;rw [<- AI] at t1 t2 t3;simp only [Aa,Ac,Aaw,Aau];simp only [S9,Af,seval,PY,PZ,AS,Aw,g0,g1,g2,g6,hd,Z4,hJ,pbp2,h0,h8,hw,t1,t2,t3,SX,hid];refine key _ ?_ ?_ ?_ ?_
        · simp only [S7,Af,seval,g0]
        · simp only [S7,Af,seval,g1]
        · simp only [S7,Af,seval,g2]
        · simp only [S7,Af,seval]
  · have h0:(((acc.length:Nat):Int) == 0)=false:=beq_eq_false_iff_ne.2 (by omega)
    cases hk:Bs L 1 wd i with
    | false=>
     rw [if_neg (by simp [hz])];refine fun bx hid hc e g0 g1 g2 g6=>?_;have hd:∀ k,id < bx.length+k:=fun k=>by omega
     have pbp2:Ak [PV.bp (bx.length+2) 0,PV.bp bx.length 0]=false:=rfl;have tis:=Ab hid hc hR (Dr (id:=id) (o:=o) hR hi 1 1 rfl wd);rw [hk] at tis;rw [AX (Aa Aaw [1,0,0]) hL];unfold Ap;rw [<- Al];rw [<- AI] at tis;simp only [Aa,Ac,Aaw,Aau];simp only [S9,Af,seval,PY,PZ,AS,Aw,g0,g1,g2,g6,hd,Z4,hJ,pbp2,h0,tis,SX,hid];exact ⟨_,rfl⟩
    | true=>
     rw [if_pos (Or.inr rfl)];by_cases h8n:acc.length=8
     · rw [if_pos h8n]
       have h8:(((acc.length:Nat):Int) == 8)=true:=by rw [h8n];rfl
       refine ⟨i,o,fun bx hid hc e g0 g1 g2 g6=>?_⟩;have hd:∀ k,id < bx.length+k:=fun k=>by omega
       have pbp2:Ak [PV.bp (bx.length+2) 0,PV.bp bx.length 0]=false:=rfl;have tis:=Ab hid hc hR (Dr (id:=id) (o:=o) hR hi 1 1 rfl wd);rw [hk] at tis;have t2:=Ab hid hc hR (AA (id:=id) (o:=o) hR hi);have t3:=Am hid hc hR (CF (id:=id) (i:=i) (o:=o) (L:=L) (RL:=RL) hR (tokAt L i).1 (tokAt L i).2.1 (tokAt L i).2.2 3);unfold atT;rw [AX (Aa Aaw [1,0,0]) hL];unfold Ap;rw [<- Al];rw [<- AI] at tis t2 t3;simp only [Aa,Ac,Aaw,Aau];simp only [S9,Af,seval,PY,PZ,AS,Aw,g0,g1,g2,g6,hd,Z4,hJ,pbp2,h0,tis,h8,t2,t3,SX,hid];exact ⟨_,_,rfl⟩
     · rw [if_neg h8n]
       have h8:(((acc.length:Nat):Int) == 8)=false:=beq_eq_false_iff_ne.2 (by omega);have h1:=Cc (id:=id) (o:=o) (i:=i) hR hi hT 1 1 rfl wd;cases r1:Bt L 1 wd i with
       | out=>exact Fw
       | bad t c=>
        rw [r1] at h1;obtain ⟨i',o',h1⟩:=h1;refine ⟨i',o',fun bx hid hc e g0 g1 g2 g6=>?_⟩;have hd:∀ k,id < bx.length+k:=fun k=>by omega
        have pbp2:Ak [PV.bp (bx.length+2) 0,PV.bp bx.length 0]=false:=rfl;have tis:=Ab hid hc hR (Dr (id:=id) (o:=o) hR hi 1 1 rfl wd);rw [hk] at tis;have t1:=Am hid hc hR h1;rw [AX (Aa Aaw [1,0,0]) hL];unfold Ap;rw [<- Al];rw [<- AI] at tis t1;simp only [Aa,Ac,Aaw,Aau];simp only [S9,Af,seval,PY,PZ,AS,Aw,g0,g1,g2,g6,hd,Z4,hJ,pbp2,h0,tis,h8,t1,SX,hid];exact ⟨_,_,rfl⟩
       | ok u i1=>
        rw [r1] at h1;dsimp only [Au];have BF:=(A4 hT hi (by decide) r1).2;have h2:=hp i1 BF acc (by omega);cases r2:part i1 with
        | out=>exact Fw
        | bad t c=>
         rw [r2] at h2;obtain ⟨i',o',h2⟩:=h2;refine ⟨i',o',fun bx hid hc e g0 g1 g2 g6=>?_⟩;have hd:∀ k,id < bx.length+k:=fun k=>by omega
         have pbp2:Ak [PV.bp (bx.length+2) 0,PV.bp bx.length 0]=false:=rfl;have tis:=Ab hid hc hR (Dr (id:=id) (o:=o) hR hi 1 1 rfl wd);rw [hk] at tis;have t1:=Ab hid hc hR h1;have t2:=h2 bx hid hc;unfold Ap at t2;rw [AX (Aa Aaw [1,0,0]) hL];unfold Ap;rw [<- Al];rw [<- AI] at tis t1 t2;simp only [Aa,Ac,Aaw,Aau];simp only [S9,Af,seval,PY,PZ,AS,Aw,g0,g1,g2,g6,hd,Z4,hJ,pbp2,h0,tis,h8,t1,t2,SX,hid];exact ⟨_,_,rfl⟩
        | ok a i2=>
         rw [r2] at h2;dsimp only [Au];have Gu:=BC i1 a i2 BF r2;have h3:=Cc (id:=id) (o:=o) (i:=i2) hR Gu hT 4 4 rfl [59];cases r3:Bt L 4 [59] i2 with
         | out=>exact Fw
         | bad t c=>
          rw [r3] at h3;obtain ⟨i',o',h3⟩:=h3;refine ⟨i',o',fun bx hid hc e g0 g1 g2 g6=>?_⟩;have hd:∀ k,id < bx.length+k:=fun k=>by omega
          have pbp2:Ak [PV.bp (bx.length+2) 0,PV.bp bx.length 0]=false:=rfl;have tis:=Ab hid hc hR (Dr (id:=id) (o:=o) hR hi 1 1 rfl wd);rw [hk] at tis;have t1:=Ab hid hc hR h1;have t2:=h2 bx hid hc;unfold Ap at t2;have t3:=Am hid hc hR h3;rw [AX (Aa Aaw [1,0,0]) hL];unfold Ap;rw [<- Al];rw [<- AI] at tis t1 t2 t3;simp only [Aa,Ac,Aaw,Aau];simp only [S9,Af,seval,PY,PZ,AS,Aw,g0,g1,g2,g6,hd,Z4,hJ,pbp2,h0,tis,h8,t1,t2,t3,SX,hid];exact ⟨_,_,rfl⟩
         | ok u3 i3=>
          rw [r3] at h3;dsimp only [Au];have UL:=(A4 hT Gu (by decide) r3).2;have key:=ih i3 (acc++[a]) UL (by rw [Aba];simp only [Aax,Aaz];omega);have sd:(acc++[a]).length=acc.length+1:=by simp
          cases r4:BI L wd part m (acc++[a]) i3 with
          | out=>exact Fw
          | bad t c=>
           rw [r4] at key;obtain ⟨i',o',key⟩:=key;refine ⟨i',o',fun bx hid hc e g0 g1 g2 g6=>?_⟩;have key:=key bx hid hc;rw [sd] at key;have hd:∀ k,id < bx.length+k:=fun k=>by omega
           have pbp2:Ak [PV.bp (bx.length+2) 0,PV.bp bx.length 0]=false:=rfl;have tis:=Ab hid hc hR (Dr (id:=id) (o:=o) hR hi 1 1 rfl wd);rw [hk] at tis;have t1:=Ab hid hc hR h1;have t2:=h2 bx hid hc;unfold Ap at t2;have t3:=Ab hid hc hR h3;rw [AX (Aa Aaw [1,0,0]) hL];unfold Ap at key |-;rw [<- Al];rw [<- Al] at key;rw [<- AI] at tis t1 t2 t3;simp only [Aa,Ac,Aaw,Aau];simp only [S9,Af,seval,PY,PZ,AS,Aw,g0,g1,g2,g6,hd,Z4,hJ,pbp2,h0,tis,h8,hw,t1,t2,t3,SX,hid];refine key _ ?_ ?_ ?_ ?_
           · simp only [S7,Af,seval,g0]
           · simp only [S7,Af,seval,g1]
           · simp only [S7,Af,seval,g2]
           · simp only [S7,Af,seval]
          | ok l j=>
           rw [r4] at key;refine fun bx hid hc e g0 g1 g2 g6=>?_;have key:=key bx hid hc;rw [sd] at key;have hd:∀ k,id < bx.length+k:=fun k=>by omega
           have pbp2:Ak [PV.bp (bx.length+2) 0,PV.bp bx.length 0]=false:=rfl;have tis:=Ab hid hc hR (Dr (id:=id) (o:=o) hR hi 1 1 rfl wd);rw [hk] at tis;have t1:=Ab hid hc hR h1;have t2:=h2 bx hid hc;unfold Ap at t2;have t3:=Ab hid hc hR h3;rw [AX (Aa Aaw [1,0,0]) hL];unfold Ap at key |-;rw [<- Al];rw [<- Al] at key;rw [<- AI] at tis t1 t2 t3;simp only [Aa,Ac,Aaw,Aau];simp only [S9,Af,seval,PY,PZ,AS,Aw,g0,g1,g2,g6,hd,Z4,hJ,pbp2,h0,tis,h8,hw,t1,t2,t3,SX,hid];refine key _ ?_ ?_ ?_ ?_
           · simp only [S7,Af,seval,g0]
           · simp only [S7,Af,seval,g1]
           · simp only [S7,Af,seval,g2]
           · simp only [S7,Af,seval]
def sY {α:Type} (F:FuncId) (w:List UInt8) (id:Nat) (L:List Tk) (RL:PV) (o:Nat) (t0:Tk) (J:List PBox) (RBX:List α->PBox) (i:Nat) (r:PR (List α)):Prop:=match r with
 | .ok l j=>∀ (bx:List PBox) (hid:id < bx.length) (hc:DM bx),Ai CC (Ad CC) 107 [.bp id 0,.str w,.fn F [] [.bp (bx.length+2) 0,.bp bx.length 0]] (BX bx id (Ap L i o RL) (.cells 86 [.bp id 0] :: .cells 80 [.int .i64 (t0.1:Int),.str t0.2.1,.int .i64 (t0.2.2:Int)] :: RBX [] :: J))=some (.ret (.tup []),(BX bx id (Ap L j o RL) (.cells 86 [.bp id 0] :: .cells 80 [.int .i64 (t0.1:Int),.str t0.2.1,.int .i64 (t0.2.2:Int)] :: RBX l :: J)))
 | .bad t c=>∃ i' o',∀ (bx:List PBox) (hid:id < bx.length) (hc:DM bx),∃ acc',Ai CC (Ad CC) 107 [.bp id 0,.str w,.fn F [] [.bp (bx.length+2) 0,.bp bx.length 0]] (BX bx id (Ap L i o RL) (.cells 86 [.bp id 0] :: .cells 80 [.int .i64 (t0.1:Int),.str t0.2.1,.int .i64 (t0.2.2:Int)] :: RBX [] :: J))=some (.pan (B5 t c),(BX bx id (Ap L i' o' RL) (.cells 86 [.bp id 0] :: .cells 80 [.int .i64 (t0.1:Int),.str t0.2.1,.int .i64 (t0.2.2:Int)] :: RBX acc' :: J)))
 | .out=>True
theorem YS {α:Type} {F:FuncId} {wd:List UInt8} {id:Nat} {L:List Tk} {RL:PV} {o:Nat} {t0:Tk} {J:List PBox} {RBX:List α->PBox} {part:Nat->PR α} (hR:RL.pure=true) (hT:TokOK L) (hJ:∀ n,(J.all fun x=>x.under n)=true) (Z4:∀ n acc,(RBX acc).under n=true) (BC:∀ i a j,i < L.length->part i=.ok a j->j < L.length) (hp:dP F part id L RL o t0 J RBX) {i:Nat} (hi:i < L.length):sY F wd id L RL o t0 J RBX i (BI L wd part 10 [] i):=by
 have Ag:=WU _ rfl (wd:=wd) hR hT hJ Z4 BC hp 10 i [] hi (by simp);cases r:BI L wd part 10 [] i with
 | out=>trivial
 | bad t c=>
  rw [r] at Ag;obtain ⟨i',o',Ag⟩:=Ag;refine ⟨i',o',fun bx hid hc=>?_⟩;have Ag:=Ag bx hid hc;have hd:∀ k,id < bx.length+k:=fun k=>by omega
  have hx:∃ acc', Ad CC 107 [.bp id 0,.str wd,.fn F [] [.bp (bx.length+2) 0,.bp bx.length 0]] (BX bx id (Ap L i o RL) (.cells 86 [.bp id 0] :: .cells 80 [.int .i64 (t0.1:Int),.str t0.2.1,.int .i64 (t0.2.2:Int)] :: RBX [] :: J))=some (.pan (B5 t c),(BX bx id (Ap L i' o' RL) (.cells 86 [.bp id 0] :: .cells 80 [.int .i64 (t0.1:Int),.str t0.2.1,.int .i64 (t0.2.2:Int)] :: RBX acc' :: J))):=by
   rw [Ee rfl];simp only [Aa,Ac,Aaw,Aau] at Ag |-;unfold Ap at Ag |-;rw [<- Al];rw [<- Al] at Ag;simp only [S9,Af,seval,PY,PZ,AS,Aw,SX,hid];generalize hE:GM _ _=z
   have hP:∃ e' acc',z=some (.pan (B5 t c),⟨e',(BX bx id (Ap L i' o' RL) (.cells 86 [.bp id 0] :: .cells 80 [.int .i64 (t0.1:Int),.str t0.2.1,.int .i64 (t0.2.2:Int)] :: RBX acc' :: J))⟩):=by
    rw [<- hE];unfold Ap;refine Ag _ ?_ ?_ ?_ ?_
    · simp only [S7,Af,seval]
    · simp only [S7,Af,seval]
    · simp only [S7,Af,seval]
    · simp only [S7,Af,seval] <;> rfl
   obtain ⟨e',acc',he⟩:=hP;subst he;clear hE Ag;unfold Ap;simp only [S9,Af,seval,PY,PZ,AS,Aw,SX,hid];exact ⟨_,rfl⟩
  obtain ⟨acc',hx⟩:=hx;refine ⟨acc',?_⟩;refine OC (by simp [Ak,PV.pure]) rfl hc (Bm L _ _ hR) ?_ (DQ _ _ _) hx;simp only [SU,SX,hd,Z4,hJ,decide_true,Aax,Aaz,Ab1]
 | ok l j=>
  rw [r] at Ag;refine fun bx hid hc=>?_;have Ag:=Ag bx hid hc;have hd:∀ k,id < bx.length+k:=fun k=>by omega
  have hx:∃ u:Unit, Ad CC 107 [.bp id 0,.str wd,.fn F [] [.bp (bx.length+2) 0,.bp bx.length 0]] (BX bx id (Ap L i o RL) (.cells 86 [.bp id 0] :: .cells 80 [.int .i64 (t0.1:Int),.str t0.2.1,.int .i64 (t0.2.2:Int)] :: RBX [] :: J))=some (.ret (.tup []),(BX bx id (Ap L j o RL) (.cells 86 [.bp id 0] :: .cells 80 [.int .i64 (t0.1:Int),.str t0.2.1,.int .i64 (t0.2.2:Int)] :: RBX l :: J))):=by
   rw [Ee rfl];simp only [Aa,Ac,Aaw,Aau] at Ag |-;unfold Ap at Ag |-;rw [<- Al];rw [<- Al] at Ag;simp only [S9,Af,seval,PY,PZ,AS,Aw,SX,hid];generalize hE:GM _ _=z
   have hP:∃ e' ,z=some (.exit 0,⟨e',(BX bx id (Ap L j o RL) (.cells 86 [.bp id 0] :: .cells 80 [.int .i64 (t0.1:Int),.str t0.2.1,.int .i64 (t0.2.2:Int)] :: RBX l :: J))⟩):=by
    rw [<- hE];unfold Ap;refine Ag _ ?_ ?_ ?_ ?_
    · simp only [S7,Af,seval]
    · simp only [S7,Af,seval]
    · simp only [S7,Af,seval]
    · simp only [S7,Af,seval] <;> rfl
   obtain ⟨e',he⟩:=hP;subst he;clear hE Ag;unfold Ap;simp only [S9,Af,seval,PY,PZ,AS,Aw,SX,hid];exact ⟨(),trivial⟩
  obtain ⟨_,hx⟩:=hx;skip;refine OC (by simp [Ak,PV.pure]) rfl hc (Bm L _ _ hR) ?_ (by simp [CR.under,PV.under,Ar]) hx;simp only [SU,SX,hd,Z4,hJ,decide_true,Aax,Aaz,Ab1]
theorem J':JG CC Aav (Aav.body.getD .skip)=true:=by kernel_rfl
theorem Ka:Be CC Aav (Aav.body.getD .skip)=false:=by kernel_rfl
theorem Jv:CC.P.funcs[53]?=some Aav:=by kernel_rfl
theorem Bu {x:List PV} {b:List PBox} (h:x.length.ble Aav.ntmps=true):Ad CC 53 x b=CD CC Aav.results.toList (Lp CC (Aav.body.getD .skip) ⟨x,b⟩):=CN (fn:=Aav) (c:=Aav.body.getD .skip) rfl rfl Jv rfl Ka J' (Abi h)
noncomputable def IR:TypeInfo:=(Tryz.prog.info? 32).getD default
theorem apR (bytes:Nat) (hb:IR.bytes=bytes) (st:St) (al:List (Nat×Loc)) (s x:Operand) (d:Option Tmp):DT CC st al s x 41 41 d=match CY CC st al 32 s,CK (opd CC st.env x) with
 | some (l,xs),some ys=>MK bytes 15 32 st al l xs ys d
 | _,_=>none:=EV (i:=IR) (by kernel_rfl) (by kernel_rfl) (by kernel_rfl) (z:=(IR.zero).getD default) (by kernel_rfl) (by kernel_rfl) (by rw [show IR.size=15 from by kernel_rfl];decide) hb (by kernel_rfl)
theorem kF:IR.bytes=208:=by kernel_rfl
theorem bsR (nm:List UInt8) (pr:Int) (xs ys:List PV) (e:Tr):AZ CC 41 1 [(0,.agg (C5 nm pr (.sl xs) (.sl ys) e))]=some (.osl 32 [.agg (C5 nm pr (.sl xs) (.sl ys) e)]):=by
 obtain ⟨k,n,m,s,v,q,kids⟩:=e;unfold C5
 kernel_rfl
theorem xw:CM CC (opsOf (Aa Aav [1,0,1,0]))=false:=by kernel_rfl
theorem kG:BO (opsOf (Aa Aav [1,0,1,0]))=[[0,1,2,3],[1,0,2,3],[1,2,0,3]]:=by kernel_rfl
theorem oT {bx:List PBox} {id:Nat} {L:List Tk} {i o:Nat} {RL:PV} (hR:RL.pure=true) (hid:id < bx.length) (hc:DM bx) (hi:i < L.length) (e:List PV) (g1:getT e 1=.bp bx.length 0) :
 drawAll CC (Ad CC) (opsOf (Aa Aav [1,0,1,0])) ⟨e,BX bx id (Ap L i o RL) [.cells 86 [.bp id 0]]⟩=some (.pan (B5 (atT L i) 3),⟨[],BX bx id (Ap L i o RL) [.cells 86 [.bp id 0]]⟩):=by
 have t0:=Ab hid hc hR (AA (id:=id) (o:=o) hR hi);have t1:=Am hid hc hR (CF (id:=id) (i:=i) (o:=o) (L:=L) (RL:=RL) hR (tokAt L i).1 (tokAt L i).2.1 (tokAt L i).2.2 3);have hd:∀ k,id < bx.length+k:=fun k=>by omega
 refine AV.2 ⟨by rw [kG];simp,fun l hl=>?_⟩;rw [kG] at hl;unfold Ap atT;rw [<- My];rw [<- C3] at t0 t1;simp only [Abe,Abc,or_false] at hl;rcases hl with rfl | rfl | rfl
 all_goals
  simp only [opsOf,Aa,Ac,Aav,Aau,AR,Ab9,Abb,Ab8,Ab5,Ab4];simp only [S9,A6,seval,PY,PZ,AS,Aw,t0,t1,g1,hd,SX,AY,Bg,hid]
theorem rf:CM CC (opsOf (Aa Aav [1,1,1,1,1,1,1,1,1,1,1,1]))=false:=by kernel_rfl
theorem WV:BO (opsOf (Aa Aav [1,1,1,1,1,1,1,1,1,1,1,1]))=[[0,1,2,3,4,5,6,7,8,9,10],[0,1,2,3,5,4,6,7,8,9,10],[0,1,2,3,5,6,4,7,8,9,10],[0,1,2,5,3,4,6,7,8,9,10],[0,1,2,5,3,6,4,7,8,9,10],[0,1,2,5,6,3,4,7,8,9,10],[0,1,5,2,3,4,6,7,8,9,10],[0,1,5,2,3,6,4,7,8,9,10],[0,1,5,2,6,3,4,7,8,9,10],[0,1,5,6,2,3,4,7,8,9,10],[0,5,1,2,3,4,6,7,8,9,10],[0,5,1,2,3,6,4,7,8,9,10],[0,5,1,2,6,3,4,7,8,9,10],[0,5,1,6,2,3,4,7,8,9,10],[0,5,6,1,2,3,4,7,8,9,10],[1,0,2,3,4,5,6,7,8,9,10],[1,0,2,3,5,4,6,7,8,9,10],[1,0,2,3,5,6,4,7,8,9,10],[1,0,2,5,3,4,6,7,8,9,10],[1,0,2,5,3,6,4,7,8,9,10],[1,0,2,5,6,3,4,7,8,9,10],[1,0,5,2,3,4,6,7,8,9,10],[1,0,5,2,3,6,4,7,8,9,10],[1,0,5,2,6,3,4,7,8,9,10],[1,0,5,6,2,3,4,7,8,9,10],[1,2,0,3,4,5,6,7,8,9,10],[1,2,0,3,5,4,6,7,8,9,10],[1,2,0,3,5,6,4,7,8,9,10],[1,2,0,5,3,4,6,7,8,9,10],[1,2,0,5,3,6,4,7,8,9,10],[1,2,0,5,6,3,4,7,8,9,10],[1,2,3,0,4,5,6,7,8,9,10],[1,2,3,0,5,4,6,7,8,9,10],[1,2,3,0,5,6,4,7,8,9,10],[1,2,3,4,0,5,6,7,8,9,10],[1,2,3,4,5,0,6,7,8,9,10],[1,2,3,4,5,6,0,7,8,9,10],[1,2,3,4,5,6,7,0,8,9,10],[1,2,3,5,0,4,6,7,8,9,10],[1,2,3,5,0,6,4,7,8,9,10],[1,2,3,5,4,0,6,7,8,9,10],[1,2,3,5,4,6,0,7,8,9,10],[1,2,3,5,4,6,7,0,8,9,10],[1,2,3,5,6,0,4,7,8,9,10],[1,2,3,5,6,4,0,7,8,9,10],[1,2,3,5,6,4,7,0,8,9,10],[1,2,5,0,3,4,6,7,8,9,10],[1,2,5,0,3,6,4,7,8,9,10],[1,2,5,0,6,3,4,7,8,9,10],[1,2,5,3,0,4,6,7,8,9,10],[1,2,5,3,0,6,4,7,8,9,10],[1,2,5,3,4,0,6,7,8,9,10],[1,2,5,3,4,6,0,7,8,9,10],[1,2,5,3,4,6,7,0,8,9,10],[1,2,5,3,6,0,4,7,8,9,10],[1,2,5,3,6,4,0,7,8,9,10],[1,2,5,3,6,4,7,0,8,9,10],[1,2,5,6,0,3,4,7,8,9,10],[1,2,5,6,3,0,4,7,8,9,10],[1,2,5,6,3,4,0,7,8,9,10],[1,2,5,6,3,4,7,0,8,9,10],[1,5,0,2,3,4,6,7,8,9,10],[1,5,0,2,3,6,4,7,8,9,10],[1,5,0,2,6,3,4,7,8,9,10],[1,5,0,6,2,3,4,7,8,9,10],[1,5,2,0,3,4,6,7,8,9,10],[1,5,2,0,3,6,4,7,8,9,10],[1,5,2,0,6,3,4,7,8,9,10],[1,5,2,3,0,4,6,7,8,9,10],[1,5,2,3,0,6,4,7,8,9,10],[1,5,2,3,4,0,6,7,8,9,10],[1,5,2,3,4,6,0,7,8,9,10],[1,5,2,3,4,6,7,0,8,9,10],[1,5,2,3,6,0,4,7,8,9,10],[1,5,2,3,6,4,0,7,8,9,10],[1,5,2,3,6,4,7,0,8,9,10],[1,5,2,6,0,3,4,7,8,9,10],[1,5,2,6,3,0,4,7,8,9,10],[1,5,2,6,3,4,0,7,8,9,10],[1,5,2,6,3,4,7,0,8,9,10],[1,5,6,0,2,3,4,7,8,9,10],[1,5,6,2,0,3,4,7,8,9,10],[1,5,6,2,3,0,4,7,8,9,10],[1,5,6,2,3,4,0,7,8,9,10],[1,5,6,2,3,4,7,0,8,9,10],[5,0,1,2,3,4,6,7,8,9,10],[5,0,1,2,3,6,4,7,8,9,10],[5,0,1,2,6,3,4,7,8,9,10],[5,0,1,6,2,3,4,7,8,9,10],[5,0,6,1,2,3,4,7,8,9,10],[5,1,0,2,3,4,6,7,8,9,10],[5,1,0,2,3,6,4,7,8,9,10],[5,1,0,2,6,3,4,7,8,9,10],[5,1,0,6,2,3,4,7,8,9,10],[5,1,2,0,3,4,6,7,8,9,10],[5,1,2,0,3,6,4,7,8,9,10],[5,1,2,0,6,3,4,7,8,9,10],[5,1,2,3,0,4,6,7,8,9,10],[5,1,2,3,0,6,4,7,8,9,10],[5,1,2,3,4,0,6,7,8,9,10],[5,1,2,3,4,6,0,7,8,9,10],[5,1,2,3,4,6,7,0,8,9,10],[5,1,2,3,6,0,4,7,8,9,10],[5,1,2,3,6,4,0,7,8,9,10],[5,1,2,3,6,4,7,0,8,9,10],[5,1,2,6,0,3,4,7,8,9,10],[5,1,2,6,3,0,4,7,8,9,10],[5,1,2,6,3,4,0,7,8,9,10],[5,1,2,6,3,4,7,0,8,9,10],[5,1,6,0,2,3,4,7,8,9,10],[5,1,6,2,0,3,4,7,8,9,10],[5,1,6,2,3,0,4,7,8,9,10],[5,1,6,2,3,4,0,7,8,9,10],[5,1,6,2,3,4,7,0,8,9,10],[5,6,0,1,2,3,4,7,8,9,10],[5,6,1,0,2,3,4,7,8,9,10],[5,6,1,2,0,3,4,7,8,9,10],[5,6,1,2,3,0,4,7,8,9,10],[5,6,1,2,3,4,0,7,8,9,10],[5,6,1,2,3,4,7,0,8,9,10]]:=by kernel_rfl
theorem YT {bx:List PBox} {id:Nat} {L:List Tk} {i o:Nat} (hid:id < bx.length) (hc:DM bx) (nm:List UInt8) (pr:Int) (ons dss:List PV) (et:Tr) (t0:Tk) (J:List PBox)  (e:List PV) (g1:getT e 1=.bp bx.length 0) (g3:getT e 3=.bp (bx.length+2) 0) :
 drawAll CC (Ad CC) (opsOf (Aa Aav [1,1,1,1,1,1,1,1,1,1,1,1])) ⟨e,BX bx id (Ap L i o .nils) (.cells 86 [.bp id 0] :: .cells 80 [.int .i64 (t0.1:Int),.str t0.2.1,.int .i64 (t0.2.2:Int)] :: .cells 32 (C5 nm pr (.osl 58 ons) (.osl 60 dss) et) :: J)⟩=some (.normal,⟨(setT (setT (setT (setT (setT (setT (setT (setT (setT (setT (setT e 68 (.bp id 0)) 69 (.bp id 0)) 70 (.bp id 0)) 71 (.bp id 3)) 72 (.nils)) 73 (.agg (C5 nm pr (.sl ons) (.sl dss) et))) 74 (.osl 32 [.agg (C5 nm pr (.sl ons) (.sl dss) et)])) 75 ((.osl 32 [.agg (C5 nm pr (.sl ons) (.sl dss) et)]))) 76 (.bp id 0)) 77 (.bp id 3)) 75 (.sl [.agg (C5 nm pr (.sl ons) (.sl dss) et)])),BX bx id (Ap L i o (.osl 32 [.agg (C5 nm pr (.sl ons) (.sl dss) et)])) (.cells 86 [.bp id 0] :: .cells 80 [.int .i64 (t0.1:Int),.str t0.2.1,.int .i64 (t0.2.2:Int)] :: .cells 32 (C5 nm pr (.osl 58 ons) (.osl 60 dss) et) :: J)⟩):=by
 have hb:=apR _ kF;have XK:=bsR nm pr ons dss et;have cN:=fun st al l d=>GL (bytes:=208) (size:=15) (e:=32) (st:=st) (al:=al) (l:=l) (d:=d) (xs:=[]) (ys:=[.agg (C5 nm pr (.sl ons) (.sl dss) et)]) (by simp only [Aax,Aaz];omega) (by decide) (by obtain ⟨k,n,m,s,v,q,kids⟩:=et;rfl);obtain ⟨k,n,m,s,v,q,kids⟩:=et;refine AV.2 ⟨by rw [WV];simp,fun l hl=>?_⟩;rw [WV] at hl;unfold C5 Ap at *;rw [<- My];simp only [Abe,Abc,or_false] at hl;rcases hl with rfl | rfl | rfl | rfl | rfl | rfl | rfl | rfl | rfl | rfl | rfl | rfl | rfl | rfl | rfl | rfl | rfl | rfl | rfl | rfl | rfl | rfl | rfl | rfl | rfl | rfl | rfl | rfl | rfl | rfl | rfl | rfl | rfl | rfl | rfl | rfl | rfl | rfl | rfl | rfl | rfl | rfl | rfl | rfl | rfl | rfl | rfl | rfl | rfl | rfl | rfl | rfl | rfl | rfl | rfl | rfl | rfl | rfl | rfl | rfl | rfl | rfl | rfl | rfl | rfl | rfl | rfl | rfl | rfl | rfl | rfl | rfl | rfl | rfl | rfl | rfl | rfl | rfl | rfl | rfl | rfl | rfl | rfl | rfl | rfl | rfl | rfl | rfl | rfl | rfl | rfl | rfl | rfl | rfl | rfl | rfl | rfl | rfl | rfl | rfl | rfl | rfl | rfl | rfl | rfl | rfl | rfl | rfl | rfl | rfl | rfl | rfl | rfl | rfl | rfl | rfl | rfl | rfl | rfl | rfl
 all_goals
  simp only [opsOf,Aa,Ac,Aav,Aau,AR,Ab9,Abb,Ab8,Ab5,Ab4];simp only [S9,A6,seval,PY,PZ,AS,Aw,hb,XK,cN,g1,g3,F5,SX,AY,Bg,Abj,Abk,hid]
  repeat first | rw [Av _ 75 68 _ _ (by decide)] | rw [Av _ 74 68 _ _ (by decide)] | rw [Av _ 73 68 _ _ (by decide)] | rw [Av _ 72 68 _ _ (by decide)] | rw [Av _ 71 68 _ _ (by decide)] | rw [Av _ 70 68 _ _ (by decide)] | rw [Av _ 69 68 _ _ (by decide)] | rw [Av _ 74 69 _ _ (by decide)] | rw [Av _ 73 69 _ _ (by decide)] | rw [Av _ 74 70 _ _ (by decide)] | rw [Av _ 73 70 _ _ (by decide)] | rw [Av _ 74 71 _ _ (by decide)] | rw [Av _ 73 71 _ _ (by decide)] | rw [Av _ 74 72 _ _ (by decide)] | rw [Av _ 73 72 _ _ (by decide)]
  try rfl
theorem WW {bx:List PBox} {id:Nat} {L:List Tk} {i o:Nat} (hid:id < bx.length) (hc:DM bx) (nm:List UInt8) (pr:Int) (ons dss:List PV) (et:Tr) (t0:Tk) (J:List PBox) (x0:PV) (xs:List PV) (zB:xs.length<=100) (e:List PV) (g1:getT e 1=.bp bx.length 0) (g3:getT e 3=.bp (bx.length+2) 0) :
 drawAll CC (Ad CC) (opsOf (Aa Aav [1,1,1,1,1,1,1,1,1,1,1,1])) ⟨e,BX bx id (Ap L i o (.osl 32 (x0 :: xs))) (.cells 86 [.bp id 0] :: .cells 80 [.int .i64 (t0.1:Int),.str t0.2.1,.int .i64 (t0.2.2:Int)] :: .cells 32 (C5 nm pr (.osl 58 ons) (.osl 60 dss) et) :: J)⟩=some (.normal,⟨(setT (setT (setT (setT (setT (setT (setT (setT (setT (setT (setT e 68 (.bp id 0)) 69 (.bp id 0)) 70 (.bp id 0)) 71 (.bp id 3)) 72 (.sl (x0 :: xs))) 73 (.agg (C5 nm pr (.sl ons) (.sl dss) et))) 74 (.osl 32 [.agg (C5 nm pr (.sl ons) (.sl dss) et)])) 75 ((.osl 32 (x0 :: (xs++[.agg (C5 nm pr (.sl ons) (.sl dss) et)]))))) 76 (.bp id 0)) 77 (.bp id 3)) 75 (.sl (x0 :: (xs++[.agg (C5 nm pr (.sl ons) (.sl dss) et)])))),BX bx id (Ap L i o (.osl 32 (x0 :: (xs++[.agg (C5 nm pr (.sl ons) (.sl dss) et)])))) (.cells 86 [.bp id 0] :: .cells 80 [.int .i64 (t0.1:Int),.str t0.2.1,.int .i64 (t0.2.2:Int)] :: .cells 32 (C5 nm pr (.osl 58 ons) (.osl 60 dss) et) :: J)⟩):=by
 have hb:=apR _ kF;have XK:=bsR nm pr ons dss et;have cN:=fun st al l d=>GL (bytes:=208) (size:=15) (e:=32) (st:=st) (al:=al) (l:=l) (d:=d) (xs:=x0 :: xs) (ys:=[.agg (C5 nm pr (.sl ons) (.sl dss) et)]) (by simp only [Aax,Aaz];omega) (by decide) (by obtain ⟨k,n,m,s,v,q,kids⟩:=et;rfl);obtain ⟨k,n,m,s,v,q,kids⟩:=et;refine AV.2 ⟨by rw [WV];simp,fun l hl=>?_⟩;rw [WV] at hl;unfold C5 Ap at *;rw [<- My];simp only [Abe,Abc,or_false] at hl;rcases hl with rfl | rfl | rfl | rfl | rfl | rfl | rfl | rfl | rfl | rfl | rfl | rfl | rfl | rfl | rfl | rfl | rfl | rfl | rfl | rfl | rfl | rfl | rfl | rfl | rfl | rfl | rfl | rfl | rfl | rfl | rfl | rfl | rfl | rfl | rfl | rfl | rfl | rfl | rfl | rfl | rfl | rfl | rfl | rfl | rfl | rfl | rfl | rfl | rfl | rfl | rfl | rfl | rfl | rfl | rfl | rfl | rfl | rfl | rfl | rfl | rfl | rfl | rfl | rfl | rfl | rfl | rfl | rfl | rfl | rfl | rfl | rfl | rfl | rfl | rfl | rfl | rfl | rfl | rfl | rfl | rfl | rfl | rfl | rfl | rfl | rfl | rfl | rfl | rfl | rfl | rfl | rfl | rfl | rfl | rfl | rfl | rfl | rfl | rfl | rfl | rfl | rfl | rfl | rfl | rfl | rfl | rfl | rfl | rfl | rfl | rfl | rfl | rfl | rfl | rfl | rfl | rfl | rfl | rfl | rfl
 all_goals
  simp only [opsOf,Aa,Ac,Aav,Aau,AR,Ab9,Abb,Ab8,Ab5,Ab4];simp only [S9,A6,seval,PY,PZ,AS,Aw,hb,XK,cN,g1,g3,F5,SX,AY,Bg,Abj,Abk,hid]
  repeat first | rw [Av _ 75 68 _ _ (by decide)] | rw [Av _ 74 68 _ _ (by decide)] | rw [Av _ 73 68 _ _ (by decide)] | rw [Av _ 72 68 _ _ (by decide)] | rw [Av _ 71 68 _ _ (by decide)] | rw [Av _ 70 68 _ _ (by decide)] | rw [Av _ 69 68 _ _ (by decide)] | rw [Av _ 74 69 _ _ (by decide)] | rw [Av _ 73 69 _ _ (by decide)] | rw [Av _ 74 70 _ _ (by decide)] | rw [Av _ 73 70 _ _ (by decide)] | rw [Av _ 74 71 _ _ (by decide)] | rw [Av _ 73 71 _ _ (by decide)] | rw [Av _ 74 72 _ _ (by decide)] | rw [Av _ 73 72 _ _ (by decide)]
  try rfl
theorem Gl {L:List Tk} (hT:TokOK L) {i:Nat} {a:Tg} {j:Nat} (hi:i < L.length) (h:BQ L i=.ok a j):j < L.length:=by
 unfold BQ at h;split at h
 · rename_i hk
   have BF:=AO hT hi hk (by decide);obtain ⟨_,_,r0,h⟩:=Aq h;have h0:=Eb hT BF r0;injection h with _ h
   exact h ▸ h0.2.1
 split at h
 · rename_i hk
   have BF:=AO hT hi hk (by decide);obtain ⟨_,_,r0,h⟩:=Aq h;have h0:=Eb hT BF r0;injection h with _ h
   exact h ▸ h0.2.1
 split at h
 · rename_i hk
   have BF:=AO hT hi hk (by decide);obtain ⟨_,_,r0,h⟩:=Aq h;have h0:=F9 hT BF r0;split at h
   · rename_i ZU
     have Gu:=AO hT h0.2.1 ZU (by decide);obtain ⟨_,_,r0,h⟩:=Aq h;have h0:=Ng hT Gu r0;injection h with _ h
     exact h ▸ h0.2.1
   · injection h with _ h
     exact h ▸ h0.2.1
 split at h
 · rename_i hk
   have BF:=AO hT hi hk (by decide);split at h
   · skip
     obtain ⟨_,_,r0,h⟩:=Aq h;have h0:=C1 hT BF r0;injection h with _ h
     exact h ▸ h0.2
   · rename_i h0 Dx
     injection h with _ h
     exact h ▸ BF
 split at h
 · rename_i hk
   have BF:=AO hT hi hk (by decide);injection h with _ h
   exact h ▸ BF
 obtain ⟨_,_,r0,h⟩:=Aq h;obtain ⟨_,_,r1,h⟩:=Aq h;have h0:=A4 hT hi (by decide) r0;have h1:=GN hT h0.2 r1;injection h with _ h
 exact h ▸ h1.2.1
theorem Nv {L:List Tk} (hT:TokOK L) {n i:Nat} {a:Sp} {j:Nat} (hi:i < L.length) (h:Ed L n i=.ok a j):j < L.length:=by
 unfold Ed at h;split at h
 · rename_i hk
   have BF:=AO hT hi hk (by decide);obtain ⟨_,_,r0,h⟩:=Aq h;obtain ⟨_,_,r1,h⟩:=Aq h;obtain ⟨_,_,r2,h⟩:=Aq h;have h0:=Eb hT BF r0;have h1:=A4 hT h0.2.1 (by decide) r1;have h2:=F' hT h1.2 r2;injection h with _ h
   exact h ▸ h2.2
 split at h
 · rename_i hk
   have BF:=AO hT hi hk (by decide);obtain ⟨_,_,r0,h⟩:=Aq h;have h0:=Eb hT BF r0;split at h
   · rename_i ZU
     have Gu:=AO hT h0.2.1 ZU (by decide);obtain ⟨_,_,r0,h⟩:=Aq h;obtain ⟨_,_,r1,h⟩:=Aq h;have h0:=F' hT Gu r0;have h1:=A4 hT h0.2 (by decide) r1;injection h with _ h
     exact h ▸ h1.2
   · injection h with _ h
     exact h ▸ h0.2.1
 split at h
 · rename_i hk
   have BF:=AO hT hi hk (by decide);obtain ⟨_,_,r0,h⟩:=Aq h;have h0:=C1 hT BF r0;injection h with _ h
   exact h ▸ h0.2
 split at h
 · rename_i hk
   have BF:=AO hT hi hk (by decide);obtain ⟨_,_,r0,h⟩:=Aq h;have h0:=C1 hT BF r0;injection h with _ h
   exact h ▸ h0.2
 obtain ⟨_,_,r0,h⟩:=Aq h;obtain ⟨_,_,r1,h⟩:=Aq h;have h0:=A4 hT hi (by decide) r0;have h1:=dw hT h0.2 (by decide) r1;injection h with _ h
 exact h ▸ h1.2
theorem Gm {α:Type} {L:List Tk} (hT:TokOK L) {wd:List UInt8} {part:Nat->PR α} (BC:∀ i a j,i < L.length->part i=.ok a j->j < L.length):∀ (m:Nat) (acc:List α) (i:Nat) (l:List α) (j:Nat),i < L.length->acc.length<=8->BI L wd part m acc i=.ok l j->j < L.length/\l≠[]/\l.length<=8:=by
 intro m
 induction m with
 | zero=>intro acc i l j _ _ h;cases h
 | succ m ih=>
  intro acc i l j hi h8 h;rw [BI] at h;split at h
  · split at h
    · cases h
    · obtain ⟨_,_,r0,h⟩:=Aq h
      obtain ⟨_,_,r1,h⟩:=Aq h;obtain ⟨_,_,r2,h⟩:=Aq h;have h0:=(A4 hT hi (by decide) r0).2;have h1:=BC _ _ _ h0 r1;have h2:=(A4 hT h1 (by decide) r2).2;exact ih _ _ _ _ h2 (by rw [Aba];simp only [Aax,Aaz];omega) h
  · rename_i hn
    injection h with e1 e2
    subst e1 e2;exact ⟨hi,fun e=>hn (Or.inl (by rw [e] <;> rfl)),h8⟩
theorem oU {id:Nat} {L:List Tk} {o:Nat} {RL:PV} (hR:RL.pure=true) (hT:TokOK L) (nm:List UInt8) (pr:Int) (xV:PV) (Io:∀ n,xV.under n=true) (et:Tr) (t0:Tk) {J:List PBox} (hJ:∀ n,(J.all fun x=>x.under n)=true) :
 dP 108 (BQ L) id L RL o t0 J (fun acc:List Tg=>.cells 32 (C5 nm pr (C8 58 (acc.map BE)) xV et)):=by
 intro i hi acc h7;have h:=YR (id:=id) (o:=o) hR hi hT;cases r:BQ L i with
 | out=>trivial
 | ok a j=>
  rw [r] at h;exact fun bx hid hc=>kD hR j hid hc nm pr xV Io et t0 hJ acc h7 a h
 | bad t c=>
  rw [r] at h;obtain ⟨i',o',h⟩:=h;exact ⟨i',o',fun bx hid hc=>gC hR 0 hid hc nm pr xV Io et t0 hJ acc h7 h⟩
theorem sZ {id:Nat} {L:List Tk} {o:Nat} {RL:PV} (hR:RL.pure=true) (hT:TokOK L) (nm:List UInt8) (pr:Int) (xV:PV) (Io:∀ n,xV.under n=true) (et:Tr) (t0:Tk) {J:List PBox} (hJ:∀ n,(J.all fun x=>x.under n)=true) (wd:List UInt8) {i:Nat} (hi:i < L.length) :
 sY 108 wd id L RL o t0 J (fun acc:List Tg=>.cells 32 (C5 nm pr (C8 58 (acc.map BE)) xV et)) i (BI L wd (BQ L) 10 [] i):=
 YS hR hT hJ (fun z acc=>by show Ar z (C5 nm pr (C8 58 (acc.map BE)) xV et)=true;exact De z nm pr _ _ et (Eo _ _ _ (B3 BE Dd _ _)) (Io _)) (fun i a j hi h=>Gl hT hi h) (oU hR hT nm pr xV Io et t0 hJ) hi
theorem oV {id:Nat} {L:List Tk} {o:Nat} {RL:PV} (hR:RL.pure=true) (hT:TokOK L) (n:Nat) (ho:o=0) (nm:List UInt8) (pr:Int) (xV:PV) (Io:∀ n,xV.under n=true) (et:Tr) (t0:Tk) {J:List PBox} (hJ:∀ n,(J.all fun x=>x.under n)=true) :
 dP 110 (Ed L n) id L RL o t0 J (fun acc:List Sp=>.cells 32 (C5 nm pr xV (C8 60 (acc.map D0)) et)):=by
 intro i hi acc h7;have h:=kB (id:=id) (o:=o) hR hi hT n ho;cases r:Ed L n i with
 | out=>trivial
 | ok a j=>
  rw [r] at h;exact fun bx hid hc=>kE hR j hid hc nm pr xV Io et t0 hJ acc h7 a h
 | bad t c=>
  rw [r] at h;obtain ⟨i',o',h⟩:=h;exact ⟨i',o',fun bx hid hc=>gD hR 0 hid hc nm pr xV Io et t0 hJ acc h7 h⟩
theorem s0 {id:Nat} {L:List Tk} {o:Nat} {RL:PV} (hR:RL.pure=true) (hT:TokOK L) (n:Nat) (ho:o=0) (nm:List UInt8) (pr:Int) (xV:PV) (Io:∀ n,xV.under n=true) (et:Tr) (t0:Tk) {J:List PBox} (hJ:∀ n,(J.all fun x=>x.under n)=true) (wd:List UInt8) {i:Nat} (hi:i < L.length) :
 sY 110 wd id L RL o t0 J (fun acc:List Sp=>.cells 32 (C5 nm pr xV (C8 60 (acc.map D0)) et)) i (BI L wd (Ed L n) 10 [] i):=
 YS hR hT hJ (fun z acc=>by show Ar z (C5 nm pr xV (C8 60 (acc.map D0)) et)=true;exact De z nm pr _ _ et (Io _) (Eo _ _ _ (B3 D0 DI _ _))) (fun i a j hi h=>Nv hT hi h) (oV hR hT n ho nm pr xV Io et t0 hJ) hi
def rh {β:Type} (T:Code) (id:Nat) (L:List Tk) (RL:PV) (o:Nat) (t0:Tk) (J:List PBox) (i:Nat) (R0:PBox) (RLn:β->PV) (r:PR β):Prop:=match r with
 | .ok b j=>∀ (bx:List PBox) (hid:id < bx.length) (hc:DM bx) (e:List PV),getT e 1=.bp bx.length 0->getT e 2=.bp (bx.length+1) 0->getT e 3=.bp (bx.length+2) 0->∃ e' ys',Lp CC T ⟨e,(BX bx id (Ap L i o RL) (.cells 86 [.bp id 0] :: .cells 80 [.int .i64 (t0.1:Int),.str t0.2.1,.int .i64 (t0.2.2:Int)] :: R0 :: J))⟩=some (.normal,⟨e',BX bx id (Ap L j o (RLn b)) ys'⟩)
 | .bad t c=>∃ i' o',∀ (bx:List PBox) (hid:id < bx.length) (hc:DM bx) (e:List PV),getT e 1=.bp bx.length 0->getT e 2=.bp (bx.length+1) 0->getT e 3=.bp (bx.length+2) 0->∃ e' ys',Lp CC T ⟨e,(BX bx id (Ap L i o RL) (.cells 86 [.bp id 0] :: .cells 80 [.int .i64 (t0.1:Int),.str t0.2.1,.int .i64 (t0.2.2:Int)] :: R0 :: J))⟩=some (.pan (B5 t c),⟨e',BX bx id (Ap L i' o' RL) ys'⟩)
 | .out=>True
theorem Hl {β:Type} {T:Code} {id:Nat} {L:List Tk} {RL:PV} {o:Nat} {t0:Tk} {J:List PBox} {i:Nat} {R0:PBox} {RLn:β->PV}:rh T id L RL o t0 J i R0 RLn .out:=trivial
theorem BM (t:TypeId):C8 t []=.nils:=rfl
theorem BY (t:TypeId) (x:PV) (r:List PV):C8 t (x :: r)=.osl t (x :: r):=rfl
theorem EH (t:TypeId):∀ l:List PV,Ak l=true->(C8 t l).pure=true
 | [],_=>rfl
 | x :: r,h=>h
theorem gE (t:Tg):(BE t).pure=true:=rfl
theorem kH (s:Sp):(D0 s).pure=true:=Se s
theorem map_pure {α:Type} (f:α->PV) (hf:∀ a,(f a).pure=true):∀ l:List α,Ak (l.map f)=true
 | []=>rfl
 | x :: r=>by rw [Ab0,AK,hf,map_pure f hf r];rfl
theorem ri (T:Code) (hL:T=Aa Aav [1,1,1,1,1,1,1,1,1,1]) {id:Nat} {L:List Tk} {o:Nat} (hT:TokOK L) (RS:List PV) (eV:Ak RS=true) (vC:RS.length<=100) (n:Nat) (ho:o=0) (nm:List UInt8) (pr:Int) (ons:List Tg) (Bv:ons≠[]) (et:Tr) (t0:Tk) {J:List PBox} (hJ:∀ n,(J.all fun x=>x.under n)=true) {i:Nat} (hi:i < L.length) :
 rh T id L (C8 32 RS) o t0 J i (.cells 32 (C5 nm pr (C8 58 (ons.map BE)) (.nils) et)) (fun dos=>C8 32 (RS++[.agg (C5 nm pr (.sl (ons.map BE)) (.sl (dos.map D0)) et)])) ((BI L [100,111] (Ed L n) 10 [] i).bind fun dos i=>(Bt L 4 [125] i).bind fun _ i=>.ok dos i):=by
 have hR:=EH 32 RS eV;have iJ:∀ n,(C8 58 (ons.map BE)).under n=true:=fun n=>Eo _ _ _ (B3 BE Dd n ons);have CA:∀ (n:Nat) (l:List Sp),Ar n (C5 nm pr (C8 58 (ons.map BE)) (C8 60 (l.map D0)) et)=true:=fun n l=>De n nm pr _ _ et (iJ n) (Eo _ _ _ (B3 D0 DI n l));have JF:=s0 (id:=id) (o:=o) (RL:=C8 32 RS) hR hT n ho nm pr (C8 58 (ons.map BE)) iJ et t0 hJ [100,111] hi;have Du:Aa Aav [1,1,1,1,1,1,1,1,1,1]=.seq (Aa Aav [1,1,1,1,1,1,1,1,1,1,0]) (.seq (Aa Aav [1,1,1,1,1,1,1,1,1,1,1,0]) (Aa Aav [1,1,1,1,1,1,1,1,1,1,1,1])):=rfl;rw [Du] at hL;cases r1:BI L [100,111] (Ed L n) 10 [] i with
 | out=>exact Hl
 | bad t c=>
  rw [r1] at JF;obtain ⟨i',o',JF⟩:=JF;refine ⟨i',o',fun bx hid hc e g1 g2 g3=>?_⟩;obtain ⟨acc',t1⟩:=JF bx hid hc;unfold Ap at t1;simp only [Aay,BM] at t1;have hd:∀ k,id < bx.length+k:=fun k=>by omega
  have CB:Ak [PV.bp (bx.length+2) 0,PV.bp bx.length 0]=false:=rfl;rw [hL];unfold Ap;rw [<- Ch];rw [<- C3] at t1;simp only [opsOf,Aa,Ac,Aav,Aau] at |-;simp only [S9,A6,seval,PY,PZ,AS,Aw,g1,g2,g3,hd,hJ,CA,CB,t1,SX,hid];exact ⟨_,_,rfl⟩
 | ok dos i1=>
  rw [r1] at JF;have BC:=Gm hT (fun i a j hi h=>Nv hT hi h) 10 [] i dos i1 hi (by simp) r1;have BF:=BC.1;have hm:=Cc (id:=id) (o:=o) (i:=i1) hR BF hT 4 4 rfl [125];dsimp only [Au];cases r2:Bt L 4 [125] i1 with
  | out=>exact Hl
  | bad t c=>
   rw [r2] at hm;obtain ⟨i',o',hm⟩:=hm;refine ⟨i',o',fun bx hid hc e g1 g2 g3=>?_⟩;have t1:=JF bx hid hc;unfold Ap at t1;simp only [Aay,BM] at t1;have t2:=Am hid hc hR hm;have hd:∀ k,id < bx.length+k:=fun k=>by omega
   have CB:Ak [PV.bp (bx.length+2) 0,PV.bp bx.length 0]=false:=rfl;rw [hL];unfold Ap;rw [<- Ch];rw [<- C3] at t1 t2;simp only [opsOf,Aa,Ac,Aav,Aau] at |-;simp only [S9,A6,seval,PY,PZ,AS,Aw,g1,g2,g3,hd,hJ,CA,CB,t1,t2,SX,hid];exact ⟨_,_,rfl⟩
  | ok u i2=>
   rw [r2] at hm;dsimp only [Au];refine fun bx hid hc e g1 g2 g3=>?_;have t1:=JF bx hid hc;unfold Ap at t1;have t2:=Ab hid hc hR hm;obtain ⟨x,ons,rfl⟩:=Abd Bv;obtain ⟨y,dss,rfl⟩:=Abd BC.2.1;cases RS with
   | nil=>
    simp only [Aay,Ab0,Ab3,Ab2,BM,BY] at t1 t2 CA iJ |-;have hd:∀ k,id < bx.length+k:=fun k=>by omega
    have CB:Ak [PV.bp (bx.length+2) 0,PV.bp bx.length 0]=false:=rfl;have ER:=fun e g1 g3=>YT (id:=id) (L:=L) (i:=i2) (o:=o) hid hc nm pr (BE x :: ons.map BE) (D0 y :: dss.map D0) et t0 J e g1 g3;have ZM:∀ n,Ar n (C5 nm pr (.osl 58 (BE x :: ons.map BE)) (.osl 60 (D0 y :: dss.map D0)) et)=true:=fun n=>CA n (y :: dss);unfold Ap at ER;simp only [<- A8 rf] at ER;rw [hL];unfold Ap;rw [<- Ch];rw [<- C3] at t1 t2;rw [<- I3] at ER;simp only [opsOf,Aa,Ac,Aav,Aau] at|-ER;simp only [S9,A6,seval,PY,PZ,AS,Aw,g1,g2,g3,hd,hJ,CA,CB,t1,t2,ZM,ER,SX,hid];exact ⟨_,_,rfl⟩
   | cons a RS=>
    simp only [Aay,Ab0,Ab3,Ab2,BM,BY] at t1 t2 CA iJ |-;have hd:∀ k,id < bx.length+k:=fun k=>by omega
    have CB:Ak [PV.bp (bx.length+2) 0,PV.bp bx.length 0]=false:=rfl;have ER:=fun e g1 g3=>WW (id:=id) (L:=L) (i:=i2) (o:=o) hid hc nm pr (BE x :: ons.map BE) (D0 y :: dss.map D0) et t0 J a RS (by simp only [Aax] at vC;omega) e g1 g3;have ZM:∀ n,Ar n (C5 nm pr (.osl 58 (BE x :: ons.map BE)) (.osl 60 (D0 y :: dss.map D0)) et)=true:=fun n=>CA n (y :: dss);unfold Ap at ER;simp only [<- A8 rf] at ER;rw [hL];unfold Ap;rw [<- Ch];rw [<- C3] at t1 t2;rw [<- I3] at ER;simp only [opsOf,Aa,Ac,Aav,Aau] at|-ER;simp only [S9,A6,seval,PY,PZ,AS,Aw,g1,g2,g3,hd,hJ,CA,CB,t1,t2,ZM,ER,SX,hid];exact ⟨_,_,rfl⟩
theorem C9 (nm:List UInt8) (pr:Int) (on dos:PV) (k n m:Int) (s:List UInt8) (v:Vl) (q:Ky) (kids:List Tr):C5 nm pr on dos (.mk k n m s v q kids)=[.str nm,.int .i64 pr,on,.int .i64 k,.int .i64 n,.int .i64 m,.str s,.int .i64 v.1,.int .i64 v.2.1,.str v.2.2,.int .i64 q.1,.str q.2.1,.str q.2.2,.sl (A1 kids),dos]:=rfl
theorem Sh (k n m:Int) (s:List UInt8) (v:Vl) (q:Ky) (kids:List Tr):Bp (.mk k n m s v q kids)=[.int .i64 k,.int .i64 n,.int .i64 m,.str s,.int .i64 v.1,.int .i64 v.2.1,.str v.2.2,.int .i64 q.1,.str q.2.1,.str q.2.2,.sl (A1 kids)]:=by unfold Bp Bw;rfl
theorem CJ (n:Nat) (l:List Tr):Ar n (A1 l)=true:=Ay n _ (AW l)
theorem BR:A1 []=[]:=by unfold A1;rfl
def Mk (L:List Tk) (n i:Nat):PR (List Tg×Tr×List Sp):=(Bt L 4 [123] i).bind fun _ i=>
 (BI L [111,110] (BQ L) 10 [] i).bind fun on i=>
 (if Bs L 1 [105,102] i then (Ey L n (i+1)).bind fun e i=>(Bt L 4 [59] i).bind fun _ i=>.ok e i else .ok wT i).bind fun e i=>
 (BI L [100,111] (Ed L n) 10 [] i).bind fun dos i=>(Bt L 4 [125] i).bind fun _ i=>.ok (on,e,dos) i
theorem LZ {α γ:Type} (r:PR α) (f:Nat->PR Unit) (g:α->γ):((r.bind fun a i=>(f i).bind fun _ i=>PR.ok a i).bind fun b j=>PR.ok (g b) j)=r.bind fun a i=>(f i).bind fun _ i=>PR.ok (g a) i:=by
 cases r with
 | ok a i=>show (((f i).bind fun _ i=>PR.ok a i).bind fun b j=>PR.ok (g b) j)=(f i).bind fun _ i=>PR.ok (g a) i;cases f i <;> rfl
 | bad t e=>rfl
 | out=>rfl
theorem WX {β γ:Type} {T:Code} {id:Nat} {L:List Tk} {RL:PV} {o:Nat} {t0:Tk} {J:List PBox} {i:Nat} {R0:PBox} {RLn:β->PV} {r:PR β} {g:β->γ} {RLg:γ->PV} (hg:∀ b,RLg (g b)=RLn b) (h:rh T id L RL o t0 J i R0 RLn r):rh T id L RL o t0 J i R0 RLg (r.bind fun b j=>.ok (g b) j):=by
 cases r with
 | out=>trivial
 | bad t c=>exact h
 | ok b j=>unfold rh PR.bind at *;simp only [hg];exact h
theorem rj (T:Code) (hL:T=Aa Aav [1,1,1,1,1,1,1]) {id:Nat} {L:List Tk} {o:Nat} (hT:TokOK L) (RS:List PV) (eV:Ak RS=true) (vC:RS.length<=100) (n:Nat) (ho:o=0) (nm:List UInt8) (pr:Int) (t0:Tk) {J:List PBox} (hJ:∀ n,(J.all fun x=>x.under n)=true) {i:Nat} (hi:i < L.length) :
 rh T id L (C8 32 RS) o t0 J i (.cells 32 (C5 nm pr (.nils) (.nils) wT)) (fun x:List Tg×Tr×List Sp=>C8 32 (RS++[.agg (C5 nm pr (.sl (x.1.map BE)) (.sl (x.2.2.map D0)) x.2.1)])) (Mk L n i):=by
 have hR:=EH 32 RS eV;obtain ⟨T3,hT3⟩:∃ T3,T3=Aa Aav [1,1,1,1,1,1,1,1,1,1]:=⟨_,rfl⟩;have Du:Aa Aav [1,1,1,1,1,1,1]=.seq (Aa Aav [1,1,1,1,1,1,1,0]) (.seq (Aa Aav [1,1,1,1,1,1,1,1,0]) (.seq (Aa Aav [1,1,1,1,1,1,1,1,1,0]) T3)):=by rw [hT3];rfl
 rw [Du] at hL;have XM:∀ n,Ar n (C5 nm pr .nils .nils wT)=true:=fun n=>De n nm pr _ _ wT (by simp only [SU]) (by simp only [SU]);unfold Mk;have h1:=Cc (id:=id) (o:=o) (i:=i) hR hi hT 4 4 rfl [123];cases r1:Bt L 4 [123] i with
 | out=>exact Hl
 | bad t c=>
  rw [r1] at h1;obtain ⟨i',o',h1⟩:=h1;refine ⟨i',o',fun bx hid hc e g1 g2 g3=>?_⟩;have t1:=Am hid hc hR h1;have CA:=XM;have hd:∀ k,id < bx.length+k:=fun k=>by omega
  have CB:Ak [PV.bp (bx.length+2) 0,PV.bp bx.length 0]=false:=rfl;rw [hL];unfold Ap;rw [<- Ch];rw [<- C3] at t1;simp only [opsOf,Aa,Ac,Aav,Aau] at |-;simp only [S9,A6,seval,PY,PZ,AS,Aw,g1,g2,g3,hd,hJ,CA,CB,t1,SX,hid];exact ⟨_,_,rfl⟩
 | ok u i1=>
  rw [r1] at h1;dsimp only [Au];have BF:=(A4 hT hi (by decide) r1).2;have JF:=sZ (id:=id) (o:=o) (RL:=C8 32 RS) hR hT nm pr .nils (fun n=>by simp only [SU]) wT t0 hJ [111,110] BF;cases r2:BI L [111,110] (BQ L) 10 [] i1 with
  | out=>exact Hl
  | bad t c=>
   rw [r2] at JF;obtain ⟨i',o',JF⟩:=JF;refine ⟨i',o',fun bx hid hc e g1 g2 g3=>?_⟩;have t1:=Ab hid hc hR h1;obtain ⟨acc',t2⟩:=JF bx hid hc;unfold Ap at t2;simp only [Aay,BM] at t2;have CA:=XM;have hd:∀ k,id < bx.length+k:=fun k=>by omega
   have CB:Ak [PV.bp (bx.length+2) 0,PV.bp bx.length 0]=false:=rfl;rw [hL];unfold Ap;rw [<- Ch];rw [<- C3] at t1 t2;simp only [opsOf,Aa,Ac,Aav,Aau] at |-;simp only [S9,A6,seval,PY,PZ,AS,Aw,g1,g2,g3,hd,hJ,CA,CB,t1,t2,SX,hid];exact ⟨_,_,rfl⟩
  | ok ons i2=>
   rw [r2] at JF;dsimp only [Au];have BC:=Gm hT (fun i a j hi h=>Gl hT hi h) 10 [] i1 ons i2 BF (by simp) r2;have Gu:=BC.1;have iJ:∀ n,(C8 58 (ons.map BE)).under n=true:=fun n=>Eo _ _ _ (B3 BE Dd n ons);have XG:∀ n,Ar n (C5 nm pr (C8 58 (ons.map BE)) .nils wT)=true:=fun n=>De n nm pr _ _ wT (iJ n) (by simp only [SU]);cases f0:Bs L 1 [105,102] i2 with
   | false=>
    simp only [Bool.false_eq_true,if_false];dsimp only [Au];have key:=WX (RLg:=(fun x:List Tg×Tr×List Sp=>C8 32 (RS++[.agg (C5 nm pr (.sl (x.1.map BE)) (.sl (x.2.2.map D0)) x.2.1)]))) (g:=fun dos=>(ons,wT,dos)) (fun b=>rfl) (ri T3 hT3 (id:=id) hT RS eV vC n ho nm pr ons BC.2.1 wT t0 hJ Gu);rw [LZ] at key;revert key;generalize ((BI L [100,111] (Ed L n) 10 [] i2).bind fun dos i=>(Bt L 4 [125] i).bind fun _ i=>PR.ok (ons,wT,dos) i)=rr;intro key;cases rr with
    | out=>exact Hl
    | bad t c=>
     obtain ⟨i',o',key⟩:=key;refine ⟨i',o',fun bx hid hc e g1 g2 g3=>?_⟩;have key:=key bx hid hc;have hd:∀ k,id < bx.length+k:=fun k=>by omega
     have CB:Ak [PV.bp (bx.length+2) 0,PV.bp bx.length 0]=false:=rfl;have t1:=Ab hid hc hR h1;have t2:=JF bx hid hc;unfold Ap at t2;simp only [Aay,BM] at t2;have CA:=XM;have q0:=Ab hid hc hR (Ae (id:=id) (o:=o) hR Gu hT _ f0);rw [hL];unfold Ap at|-key;rw [<- Ch];rw [<- Ch] at key;rw [<- C3] at t1 t2 q0;simp only [opsOf,Aa,Ac,Aav,Aau] at |-;simp only [S9,A6,seval,PY,PZ,AS,Aw,g1,g2,g3,hd,hJ,CA,CB,t1,t2,q0,XG,SX,hid];refine key _ ?_ ?_ ?_
     · simp only [S7,A6,seval,g1]
     · simp only [S7,A6,seval,g2]
     · simp only [S7,A6,seval,g3]
    | ok v j=>
     refine fun bx hid hc e g1 g2 g3=>?_;have key:=key bx hid hc;have hd:∀ k,id < bx.length+k:=fun k=>by omega
     have CB:Ak [PV.bp (bx.length+2) 0,PV.bp bx.length 0]=false:=rfl;have t1:=Ab hid hc hR h1;have t2:=JF bx hid hc;unfold Ap at t2;simp only [Aay,BM] at t2;have CA:=XM;have q0:=Ab hid hc hR (Ae (id:=id) (o:=o) hR Gu hT _ f0);rw [hL];unfold Ap at|-key;rw [<- Ch];rw [<- Ch] at key;rw [<- C3] at t1 t2 q0;simp only [opsOf,Aa,Ac,Aav,Aau] at |-;simp only [S9,A6,seval,PY,PZ,AS,Aw,g1,g2,g3,hd,hJ,CA,CB,t1,t2,q0,XG,SX,hid];refine key _ ?_ ?_ ?_
     · simp only [S7,A6,seval,g1]
     · simp only [S7,A6,seval,g2]
     · simp only [S7,A6,seval,g3]
   | true=>
    simp only [if_true];have UL:=AO hT Gu f0 (by decide);have h3:=OA (id:=id) (i:=i2+1) hR hT UL n o ho;cases r3:Ey L n (i2+1) with
    | out=>exact Hl
    | bad t c=>
     rw [r3] at h3;obtain ⟨i',o',h3⟩:=h3;refine ⟨i',o',fun bx hid hc e g1 g2 g3=>?_⟩;have hd:∀ k,id < bx.length+k:=fun k=>by omega
     have CB:Ak [PV.bp (bx.length+2) 0,PV.bp bx.length 0]=false:=rfl;have t1:=Ab hid hc hR h1;have t2:=JF bx hid hc;unfold Ap at t2;simp only [Aay,BM] at t2;have CA:=XM;have q0:=Ab hid hc hR (As (id:=id) (o:=o) hR Gu hT _ f0);have t3:=Am hid hc hR h3;rw [hL];unfold Ap;rw [<- Ch];rw [<- C3] at t1 t2 q0 t3;simp only [opsOf,Aa,Ac,Aav,Aau] at |-;simp only [S9,A6,seval,PY,PZ,AS,Aw,g1,g2,g3,hd,hJ,CA,CB,t1,t2,q0,t3,XG,SX,hid];exact ⟨_,_,rfl⟩
    | ok a i3=>
     rw [r3] at h3;dsimp only [Au];have iI:=(F' hT UL r3).2;have h4:=Cc (id:=id) (o:=o) (i:=i3) hR iI hT 4 4 rfl [59];cases r4:Bt L 4 [59] i3 with
     | out=>exact Hl
     | bad t c=>
      rw [r4] at h4;obtain ⟨i',o',h4⟩:=h4;refine ⟨i',o',fun bx hid hc e g1 g2 g3=>?_⟩;have hd:∀ k,id < bx.length+k:=fun k=>by omega
      have CB:Ak [PV.bp (bx.length+2) 0,PV.bp bx.length 0]=false:=rfl;obtain ⟨ak,an,am,as_,av,aq,akids⟩:=a;have t1:=Ab hid hc hR h1;have t2:=JF bx hid hc;unfold Ap at t2;simp only [Aay,BM] at t2;have CA:=XM;have q0:=Ab hid hc hR (As (id:=id) (o:=o) hR Gu hT _ f0);have t3:=Ab hid hc hR h3;rw [An] at t3;have t4:=Am hid hc hR h4;unfold wT zK at CA XG t2 |-;simp only [C9,BR,SU,iJ,Ab1,Abf] at CA XG;simp only [C9,BR] at t2 |-;simp only [Sh] at t3;rw [hL];unfold Ap;rw [<- Ch];rw [<- C3] at t1 t2 q0 t3 t4;simp only [opsOf,Aa,Ac,Aav,Aau] at |-;simp only [S9,A6,seval,PY,PZ,AS,Aw,g1,g2,g3,hd,hJ,CA,CB,t1,t2,q0,t3,t4,iJ,CJ,BR,SX,hid];exact ⟨_,_,rfl⟩
     | ok u4 i4=>
      rw [r4] at h4;dsimp only [Au];have hi5:=(A4 hT iI (by decide) r4).2;have key:=WX (RLg:=(fun x:List Tg×Tr×List Sp=>C8 32 (RS++[.agg (C5 nm pr (.sl (x.1.map BE)) (.sl (x.2.2.map D0)) x.2.1)]))) (g:=fun dos=>(ons,a,dos)) (fun b=>rfl) (ri T3 hT3 (id:=id) hT RS eV vC n ho nm pr ons BC.2.1 a t0 hJ hi5);rw [LZ] at key;revert key;generalize ((BI L [100,111] (Ed L n) 10 [] i4).bind fun dos i=>(Bt L 4 [125] i).bind fun _ i=>PR.ok (ons,a,dos) i)=rr;intro key;cases rr with
      | out=>exact Hl
      | bad t c=>
       obtain ⟨ak,an,am,as_,av,aq,akids⟩:=a;obtain ⟨i',o',key⟩:=key;refine ⟨i',o',fun bx hid hc e g1 g2 g3=>?_⟩;have key:=key bx hid hc;have hd:∀ k,id < bx.length+k:=fun k=>by omega
       have CB:Ak [PV.bp (bx.length+2) 0,PV.bp bx.length 0]=false:=rfl;have t1:=Ab hid hc hR h1;have t2:=JF bx hid hc;unfold Ap at t2;simp only [Aay,BM] at t2;have CA:=XM;have q0:=Ab hid hc hR (As (id:=id) (o:=o) hR Gu hT _ f0);have t3:=Ab hid hc hR h3;rw [An] at t3;have t4:=Ab hid hc hR h4;unfold wT zK at CA XG t2 |-;simp only [C9,BR,SU,iJ,Ab1,Abf] at CA XG;simp only [C9,BR] at t2 |-;simp only [Sh] at t3;simp only [C9] at key;rw [hL];unfold Ap at|-key;rw [<- Ch];rw [<- Ch] at key;rw [<- C3] at t1 t2 q0 t3 t4;simp only [opsOf,Aa,Ac,Aav,Aau] at |-;simp only [S9,A6,seval,PY,PZ,AS,Aw,g1,g2,g3,hd,hJ,CA,CB,t1,t2,q0,t3,t4,iJ,CJ,BR,SX,hid];refine key _ ?_ ?_ ?_
       · simp only [S7,A6,seval,g1]
       · simp only [S7,A6,seval,g2]
       · simp only [S7,A6,seval,g3]
      | ok v j=>
       obtain ⟨ak,an,am,as_,av,aq,akids⟩:=a;refine fun bx hid hc e g1 g2 g3=>?_;have key:=key bx hid hc;have hd:∀ k,id < bx.length+k:=fun k=>by omega
       have CB:Ak [PV.bp (bx.length+2) 0,PV.bp bx.length 0]=false:=rfl;have t1:=Ab hid hc hR h1;have t2:=JF bx hid hc;unfold Ap at t2;simp only [Aay,BM] at t2;have CA:=XM;have q0:=Ab hid hc hR (As (id:=id) (o:=o) hR Gu hT _ f0);have t3:=Ab hid hc hR h3;rw [An] at t3;have t4:=Ab hid hc hR h4;unfold wT zK at CA XG t2 |-;simp only [C9,BR,SU,iJ,Ab1,Abf] at CA XG;simp only [C9,BR] at t2 |-;simp only [Sh] at t3;simp only [C9] at key;rw [hL];unfold Ap at|-key;rw [<- Ch];rw [<- Ch] at key;rw [<- C3] at t1 t2 q0 t3 t4;simp only [opsOf,Aa,Ac,Aav,Aau] at |-;simp only [S9,A6,seval,PY,PZ,AS,Aw,g1,g2,g3,hd,hJ,CA,CB,t1,t2,q0,t3,t4,iJ,CJ,BR,SX,hid];refine key _ ?_ ?_ ?_
       · simp only [S7,A6,seval,g1]
       · simp only [S7,A6,seval,g2]
       · simp only [S7,A6,seval,g3]
end Go.HH
