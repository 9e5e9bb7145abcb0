/-
  What the law needs, packed: RQ RR RS RU RV RW RX RY UA UB UC UD UE UF.
-/
import Derived.Test.YthjabmlbmnadjaaGreatJ41
open Option renaming getD->yW
open Bool renaming not_not->yX,and_self->yZ,and_true->zf
open Go.Proofs.Tryz renaming f6->yY,f25->y4,f24->y5,f11->y6,f9->y9,f8->y'
open List renaming set_cons_zero->y0,set_cons_succ->y1,length_append->y2,length_map->y3,length_singleton->y7,getD_eq_getElem?_getD->za,getElem_mem->zd,mem_singleton->zg,getElem?_map->zh,length_cons->zi,nil_append->zj,mem_append->zk,length_nil->zl,map_nil->zn,cons_append->zo,mem_cons->zq,map_cons->zr
open Nat renaming le_of_ble_eq_true->y8,zero_le->ze,le_refl->zt
open Go.Code renaming loop->zm
namespace Go.HH
open Go Go.Proofs
set_option maxRecDepth 100000
set_option maxHeartbeats 4000000
set_option linter.unusedSimpArgs false
set_option linter.unusedVariables false
def E6 (L:List Tk) (n:Nat):Nat->List Rl->Nat->PR (List Rl)
 | 0,_,_=>.out
 | m+1,rs,i=>if (tokAt L i).1=0 then .ok rs i else (Jr L n rs i).bind fun r i=>E6 L n m (rs++[r]) i
theorem kI {L:List Tk} (hT:TokOK L) {n:Nat} {nm:List UInt8} {i:Nat} {a:Rl} {j:Nat} (hi:i < L.length) (h:H9 L n nm i=.ok a j):j < L.length:=by
 unfold H9 LG at h;obtain ⟨pr,i1,r1,h⟩:=Ao h
 have h1:i1 < L.length:=by
  split at r1
  · rename_i hk
    have:=AG hT hi hk (by decide);exact (GQ hT this r1).2.1
  · injection r1 with _ r1
    exact r1 ▸ hi
 obtain ⟨x,i9,r2,h⟩:=Ao h;injection h with _ h
 subst h;obtain ⟨_,i2,r3,r2⟩:=Ao r2;have h2:=(A6 hT h1 (by decide) r3).2;obtain ⟨on,i3,r4,r2⟩:=Ao r2;have h3:=(FR hT (fun i a j hi h=>E4 hT hi h) 10 [] i2 on i3 h2 (by simp) r4).1;obtain ⟨e,i4,r5,r2⟩:=Ao r2
 have h4:i4 < L.length:=by
  split at r5
  · rename_i hk
    have Ru:=AG hT h3 hk (by decide);obtain ⟨_,i5,r6,r5⟩:=Ao r5;have h5:=(EJ hT Ru r6).2;obtain ⟨_,i6,r7,r5⟩:=Ao r5;injection r5 with _ r5
    exact r5 ▸ (A6 hT h5 (by decide) r7).2
  · injection r5 with _ r5
    exact r5 ▸ h3
 obtain ⟨dos,i5,r6,r2⟩:=Ao r2;have h5:=(FR hT (fun i a j hi h=>LF hT hi h) 10 [] i4 dos i5 h4 (by simp) r6).1;obtain ⟨_,i6,r7,r2⟩:=Ao r2;injection r2 with _ r2
 exact r2 ▸ (A6 hT h5 (by decide) r7).2
theorem OS {L:List Tk} (hT:TokOK L) {n:Nat} {rs:List Rl} {i:Nat} {a:Rl} {j:Nat} (hi:i < L.length) (h:Jr L n rs i=.ok a j):j < L.length/\rs.length≠40:=by
 rw [LH] at h;split at h
 · cases h
 · rename_i hn
   unfold M9 at h;obtain ⟨_,i0,r0,h⟩:=Ao h
   have hk:B2 L 1 [114,117,108,101] i=true:=by
    unfold BM at r0;split at r0
    · assumption
    · cases r0
   have h0:=(A6 hT hi (by decide) r0).2;obtain ⟨nm,i1,r1,h⟩:=Ao h;have h1:=(Dt hT h0 r1).2;split at h
   · cases h
   · exact ⟨kI hT h1 h,fun e=>hn ⟨hk,e⟩⟩
def gV (Lc:Code) (L:List Tk) (rs:List Rl) (i:Nat) (r:PR (List Rl)):Prop:=match r with
 | .ok l j=>∀ e:List PV,getT e 2=.bp 0 0->getT e 3=.bp 1 0->getT e 4=.bp 2 0->getT e 5=.bp 3 0->∃ e',Cp CC Lc ⟨e,[.cells 23 [.nils],.cells 3 [.int .i64 0],.cells 24 [.int .i64 0],Av L i 0 (Dh 52 (rs.map CW))]⟩=some (.exit 0,⟨e',[.cells 23 [.nils],.cells 3 [.int .i64 0],.cells 24 [.int .i64 0],Av L j 0 (Dh 52 (l.map CW))]⟩)/\getT e' 2=.bp 0 0/\getT e' 3=.bp 1 0/\getT e' 4=.bp 2 0/\getT e' 5=.bp 3 0
 | .bad t c=>∀ e:List PV,getT e 2=.bp 0 0->getT e 3=.bp 1 0->getT e 4=.bp 2 0->getT e 5=.bp 3 0->∃ (e':List PV) (i' o':Nat) (rs':List Rl),Cp CC Lc ⟨e,[.cells 23 [.nils],.cells 3 [.int .i64 0],.cells 24 [.int .i64 0],Av L i 0 (Dh 52 (rs.map CW))]⟩=some (.pan (Cr t c),⟨e',[.cells 23 [.nils],.cells 3 [.int .i64 0],.cells 24 [.int .i64 0],Av L i' o' (Dh 52 (rs'.map CW))]⟩)/\getT e' 2=.bp 0 0/\getT e' 3=.bp 1 0/\getT e' 4=.bp 2 0
 | .out=>True
theorem kJ (L:List Tk) (i o:Nat) (rs:List Rl):Nt L i o (Dh 52 (rs.map CW)) 3 [.cells 23 [.nils],.cells 3 [.int .i64 0],.cells 24 [.int .i64 0],Av L i o (Dh 52 (rs.map CW))]:=by
 refine ⟨?_,rfl⟩;have:=BH (n:=4) L i o (E5 52 _ (map_pure CW Ej rs));unfold C5;simp only [SU,zi,zl,this,yZ]
theorem Ny (Lc:Code) (hL:Lc=Aa yY [1,1,1,0,0]) {L:List Tk} (hT:TokOK L) (n:Nat):∀ (m:Nat) (rs:List Rl) (i:Nat),rs.length<=40->i < L.length->gV Lc L rs i (E6 L n m rs i):=by
 intro m
 induction m with
 | zero=>intro rs i _ _;trivial
 | succ m ih=>
  intro rs i Pd hi;have hR:=E5 52 _ (map_pure CW Ej rs);have Aw:Aq [PV.bp 3 0]=false:=rfl;have t0:=AJ (id:=3) (o:=0) hR hi _ (kJ L i 0 rs);simp only [y1,y0] at t0;have hz:=JX (tokAt L i).1 0;have VU:((0:Nat):Int)=0:=rfl;rw [E6];by_cases hk:(tokAt L i).1=0
  · rw [if_pos hk]
    have hz:((((tokAt L i).1:Nat):Int) != 0)=false:=by rw [hk];rfl
    refine fun e g2 g3 g4 g5=>?_;rw [A0 (Aa yY [1,1,1,0,0,0]) hL];generalize Dh 52 (rs.map CW)=RV at *;unfold Av at t0 |-
    try simp only [VU] at t0
    rw [<- Am];rw [<- AK] at t0;simp only [Aa,Ac,yY,yW];simp only [S9,Ag,seval,PY,Aw,Al,g5,t0,hz];exact ⟨_,rfl,by simp only [S7,Ag,seval,g2],by simp only [S7,Ag,seval,g3],by simp only [S7,Ag,seval,g4],by simp only [S7,Ag,seval,g5]⟩
  · rw [if_neg hk]
    have hz:((((tokAt L i).1:Nat):Int) != 0)=true:=by simp [hk]
    have h1:=kH (id:=3) (o:=0) hT rs Pd n rfl hi;cases r1:Jr L n rs i with
    | out=>trivial
    | bad t c=>
     rw [r1] at h1;obtain ⟨i',o',h1⟩:=h1;refine fun e g2 g3 g4 g5=>?_;have t1:=h1 _ (kJ L i 0 rs);simp only [y1,y0] at t1;refine Exists.elim (?_:∃ e',Cp CC Lc ⟨e,[.cells 23 [.nils],.cells 3 [.int .i64 0],.cells 24 [.int .i64 0],Av L i 0 (Dh 52 (rs.map CW))]⟩=some (.pan (Cr t c),⟨e',[.cells 23 [.nils],.cells 3 [.int .i64 0],.cells 24 [.int .i64 0],Av L i' o' (Dh 52 (rs.map CW))]⟩)/\getT e' 2=.bp 0 0/\getT e' 3=.bp 1 0/\getT e' 4=.bp 2 0) (fun e' h=>⟨e',i',o',rs,h⟩);rw [A0 (Aa yY [1,1,1,0,0,0]) hL];generalize Dh 52 (rs.map CW)=RV at *;unfold Av at t0 t1 |-
     try simp only [VU] at t0
     try simp only [VU] at t1
     rw [<- Am];rw [<- AK] at t0 t1;simp only [Aa,Ac,yY,yW];simp only [S9,Ag,seval,PY,Aw,Al,g5,t0,t1,hz];exact ⟨_,rfl,by simp only [S7,Ag,seval,g2],by simp only [S7,Ag,seval,g3],by simp only [S7,Ag,seval,g4]⟩
    | ok r i1=>
     rw [r1] at h1;dsimp only [AA];have Bq:=OS hT hi r1;have key:=ih (rs++[r]) i1 (by rw [y2];simp only [zi,zl];omega) Bq.1;have t1:=h1 _ (kJ L i 0 rs);simp only [y1,y0] at t1;cases r2:E6 L n m (rs++[r]) i1 with
     | out=>trivial
     | bad t c=>
      rw [r2] at key;refine fun e g2 g3 g4 g5=>?_;unfold gV at key;dsimp only at key;rw [A0 (Aa yY [1,1,1,0,0,0]) hL];generalize Dh 52 (rs.map CW)=RV at *;generalize Dh 52 ((rs++[r]).map CW)=RW at *;unfold Av at t0 t1 key |-
      try simp only [VU] at t0
      try simp only [VU] at t1
      try simp only [VU] at key
      rw [<- Am];rw [<- Am] at key;rw [<- AK] at t0 t1;simp only [Aa,Ac,yY,yW];simp only [S9,Ag,seval,PY,Aw,Al,g5,t0,t1,hz];refine key _ ?_ ?_ ?_ ?_
      · simp only [S7,Ag,seval,g2]
      · simp only [S7,Ag,seval,g3]
      · simp only [S7,Ag,seval,g4]
      · simp only [S7,Ag,seval,g5]
     | ok l j=>
      rw [r2] at key;refine fun e g2 g3 g4 g5=>?_;unfold gV at key;dsimp only at key;rw [A0 (Aa yY [1,1,1,0,0,0]) hL];generalize Dh 52 (rs.map CW)=RV at *;generalize Dh 52 ((rs++[r]).map CW)=RW at *;unfold Av at t0 t1 key |-
      try simp only [VU] at t0
      try simp only [VU] at t1
      try simp only [VU] at key
      rw [<- Am];rw [<- Am] at key;rw [<- AK] at t0 t1;simp only [Aa,Ac,yY,yW];simp only [S9,Ag,seval,PY,Aw,Al,g5,t0,t1,hz];refine key _ ?_ ?_ ?_ ?_
      · simp only [S7,Ag,seval,g2]
      · simp only [S7,Ag,seval,g3]
      · simp only [S7,Ag,seval,g4]
      · simp only [S7,Ag,seval,g5]
theorem FT (s:List UInt8) (hs:s.length<=40000) (h0:(Bd s).2.2=0) (bx:List PBox):Ak CC (Ae CC) 17 [.str s] bx=some (.ret (.bp bx.length 0),bx++[Av (Bd s).1 0 0 .nils]):=by
 unfold Ak;rw [if_pos (show (CC.heap 17 || !Aq [PV.str s])=true from rfl),VF s hs h0 bx];simp only;unfold Fl;rw [if_neg (by simp [CR.under,PV.under])]
theorem XY (s:List UInt8) (hs:s.length<=40000) (h0:(Bd s).2.2≠0):Ak CC (Ae CC) 17 [.str s] [.cells 23 [.nils],.cells 3 [.int .i64 0],.cells 24 [.int .i64 0]]=some (.pan (Cr (Bd s).2.1 (Bd s).2.2),[.cells 23 [.nils],.cells 3 [.int .i64 0],.cells 24 [.int .i64 0]]):=by
 unfold Ak;rw [if_pos (show (CC.heap 17 || !Aq [PV.str s])=true from rfl),LI s hs h0 _];simp only;unfold Fl;split <;> rfl
theorem Z9 (x y:Int) (e:List PV) (r:List PBox) (k2:getT e 2=.bp 0 0) (k3:getT e 3=.bp 1 0) (k4:getT e 4=.bp 2 0):Ml.post (.pan (.iface 54 (.agg [.int .i64 x,.int .i64 y])),⟨e,.cells 23 [.nils] :: .cells 3 [.int .i64 0] :: .cells 24 [.int .i64 0] :: r⟩)=some (.ret (.tup [.sl [],.int .i64 x,.int .i64 y]),[]):=by
 have h:bq 1 ⟨e,.cells 23 [.nils] :: .cells 3 [.int .i64 0] :: .cells 24 [.int .i64 0] :: r⟩=true:=by unfold bq;simp only [k2,k3,k4];rfl
 show (if (decide (54=54) && bq 1 ⟨e,.cells 23 [.nils] :: .cells 3 [.int .i64 0] :: .cells 24 [.int .i64 0] :: r⟩)=true then some (CR.ret (.tup [gm [.osl 52 []],.int .i64 x,.int .i64 y]),([]:List PBox)) else none)=_;rw [h];rfl
theorem TE (s:List UInt8) (hs:s.length<=40000) (h0:(Bd s).2.2≠0):Ae CC 6 [.str s] []=some (.ret (.tup [.sl [],.int .i64 ((Bd s).2.1:Int),.int .i64 (Bd s).2.2]),[]):=by
 rw [FH (k:=Ml) rfl rfl];have Aw:Aq [PV.bp 3 0]=false:=rfl;have ht:=XY s hs h0;unfold Cr at ht;generalize (Bd s).2.2=er at *;generalize (Bd s).2.1=ta at *;have ES:Ml.code=Aa yY [1,1]:=rfl;have Yq:Ml.pre [.str s] []=some ⟨setT (Gp s) 6 (.fn 16 [] [.bp 0 0,.bp 1 0,.bp 2 0]),[.cells 23 [.nils],.cells 3 [.int .i64 0],.cells 24 [.int .i64 0]]⟩:=rfl;unfold Ea;rw [Yq,ES]
 have LZ:∃ e',Cp CC (Aa yY [1,1]) ⟨setT (Gp s) 6 (.fn 16 [] [.bp 0 0,.bp 1 0,.bp 2 0]),[.cells 23 [.nils],.cells 3 [.int .i64 0],.cells 24 [.int .i64 0]]⟩=some (.pan (.iface 54 (.agg [.int .i64 (ta:Int),.int .i64 er])),⟨e',[.cells 23 [.nils],.cells 3 [.int .i64 0],.cells 24 [.int .i64 0]]⟩)/\getT e' 2=.bp 0 0/\getT e' 3=.bp 1 0/\getT e' 4=.bp 2 0:=by
  unfold Gp;rw [<- Am];rw [<- AK] at ht;simp only [Aa,Ac,yY,yW];simp only [S9,Ag,seval,PY,Aw,Al,ht];exact ⟨_,rfl,by simp only [S7,Ag,seval];try rfl,by simp only [S7,Ag,seval];try rfl,by simp only [S7,Ag,seval];try rfl⟩
 obtain ⟨e',he,k2,k3,k4⟩:=LZ;simp only;rw [he];exact Z9 _ _ e' [] k2 k3 k4
theorem TH (s:List UInt8) (hs:s.length<=40000) (h0:(Bd s).2.2=0) (hT:TokOK (Bd s).1) (n m:Nat) {t:Nat} {c:Int} (h:E6 (Bd s).1 n m [] 0=.bad t c):Ae CC 6 [.str s] []=some (.ret (.tup [.sl [],.int .i64 (t:Int),.int .i64 c]),[]):=by
 rw [FH (k:=Ml) rfl rfl];have Aw:Aq [PV.bp 3 0]=false:=rfl;have ht:=FT s hs h0 [.cells 23 [.nils],.cells 3 [.int .i64 0],.cells 24 [.int .i64 0]];have Af:=Ny _ rfl hT n m [] 0 (by simp) hT.pos;rw [h] at Af;unfold gV at Af;simp only [zn,BF] at Af;have ES:Ml.code=Aa yY [1,1]:=rfl;have Yq:Ml.pre [.str s] []=some ⟨setT (Gp s) 6 (.fn 16 [] [.bp 0 0,.bp 1 0,.bp 2 0]),[.cells 23 [.nils],.cells 3 [.int .i64 0],.cells 24 [.int .i64 0]]⟩:=rfl;unfold Ea;rw [Yq,ES]
 have LZ:∃ (e':List PV) (i' o':Nat) (rs':List Rl),Cp CC (Aa yY [1,1]) ⟨setT (Gp s) 6 (.fn 16 [] [.bp 0 0,.bp 1 0,.bp 2 0]),[.cells 23 [.nils],.cells 3 [.int .i64 0],.cells 24 [.int .i64 0]]⟩=some (.pan (Cr t c),⟨e',[.cells 23 [.nils],.cells 3 [.int .i64 0],.cells 24 [.int .i64 0],Av (Bd s).1 i' o' (Dh 52 (rs'.map CW))]⟩)/\getT e' 2=.bp 0 0/\getT e' 3=.bp 1 0/\getT e' 4=.bp 2 0:=by
  simp only [Aa,Ac,yY,yW] at Af |-;unfold Av at Af ht |-;unfold Gp;rw [<- Am];rw [<- Am] at Af;rw [<- AK] at ht;simp only [S9,Ag,seval,PY,Aw,Al,ht];generalize hE:GZ _ _=z
  have hP:∃ (e':List PV) (i' o':Nat) (rs':List Rl),z=some (.pan (Cr t c),⟨e',[.cells 23 [.nils],.cells 3 [.int .i64 0],.cells 24 [.int .i64 0],Av (Bd s).1 i' o' (Dh 52 (rs'.map CW))]⟩)/\getT e' 2=.bp 0 0/\getT e' 3=.bp 1 0/\getT e' 4=.bp 2 0:=by
   rw [<- hE];unfold Av;refine Af _ ?_ ?_ ?_ ?_
   · simp only [S7,Ag,seval];try rfl
   · simp only [S7,Ag,seval];try rfl
   · simp only [S7,Ag,seval];try rfl
   · simp only [S7,Ag,seval];try rfl
  obtain ⟨e',i',o',rs',he,k⟩:=hP;refine ⟨e',i',o',rs',?_,k⟩;subst he;unfold Av;simp only [S9,Ag,seval,PY,Aw,Al]
 obtain ⟨e',i',o',rs',he,k2,k3,k4⟩:=LZ;simp only;rw [he];exact Z9 _ _ e' _ k2 k3 k4
theorem Z' (v:PV) (hv:v.pure=true) (e:List PV) (r:List PBox) (k2:getT e 2=.bp 0 0) (k3:getT e 3=.bp 1 0) (k4:getT e 4=.bp 2 0):Ml.post (.ret,⟨e,.cells 23 [v] :: .cells 3 [.int .i64 0] :: .cells 24 [.int .i64 0] :: r⟩)=some (.ret (.tup [v.ro.shutV,.int .i64 0,.int .i64 0]),[]):=by
 have h:bq 1 ⟨e,.cells 23 [v] :: .cells 3 [.int .i64 0] :: .cells 24 [.int .i64 0] :: r⟩=true:=by unfold bq;simp only [k2,k3,k4,BE,CZ,hv];rfl
 show (if bq 1 ⟨e,.cells 23 [v] :: .cells 3 [.int .i64 0] :: .cells 24 [.int .i64 0] :: r⟩=true then some (CR.ret (.tup [gm [v],.int .i64 0,.int .i64 0]),([]:List PBox)) else none)=_;rw [h];rfl
theorem TJ (s:List UInt8) (hs:s.length<=40000) (h0:(Bd s).2.2=0) (hT:TokOK (Bd s).1) (n m:Nat) {j:Nat} (h:E6 (Bd s).1 n m [] 0=.ok [] j):Ae CC 6 [.str s] []=some (.ret (.tup [.sl [],.int .i64 0,.int .i64 0]),[]):=by
 rw [FH (k:=Ml) rfl rfl];have Aw:Aq [PV.bp 3 0]=false:=rfl;have ht:=FT s hs h0 [.cells 23 [.nils],.cells 3 [.int .i64 0],.cells 24 [.int .i64 0]];have Af:=Ny _ rfl hT n m [] 0 (by simp) hT.pos;rw [h] at Af;unfold gV at Af;simp only [zn,zr,BF,BA] at Af;skip;skip;have ES:Ml.code=Aa yY [1,1]:=rfl;have Yq:Ml.pre [.str s] []=some ⟨setT (Gp s) 6 (.fn 16 [] [.bp 0 0,.bp 1 0,.bp 2 0]),[.cells 23 [.nils],.cells 3 [.int .i64 0],.cells 24 [.int .i64 0]]⟩:=rfl;unfold Ea;rw [Yq,ES]
 have LZ:∃ (e':List PV) (r:List PBox),Cp CC (Aa yY [1,1]) ⟨setT (Gp s) 6 (.fn 16 [] [.bp 0 0,.bp 1 0,.bp 2 0]),[.cells 23 [.nils],.cells 3 [.int .i64 0],.cells 24 [.int .i64 0]]⟩=some (.ret,⟨e',.cells 23 [.nils] :: .cells 3 [.int .i64 0] :: .cells 24 [.int .i64 0] :: r⟩)/\getT e' 2=.bp 0 0/\getT e' 3=.bp 1 0/\getT e' 4=.bp 2 0:=by
  simp only [Aa,Ac,yY,yW] at Af |-;unfold Av at Af ht;unfold Gp;rw [<- Am];rw [<- Am] at Af;rw [<- AK] at ht;simp only [S9,Ag,seval,PY,Aw,Al,ht];generalize hE:GZ _ _=z
  have hP:∃ (e':List PV),z=some (.exit 0,⟨e',[.cells 23 [.nils],.cells 3 [.int .i64 0],.cells 24 [.int .i64 0],Av (Bd s).1 j 0 (.nils)]⟩)/\getT e' 2=.bp 0 0/\getT e' 3=.bp 1 0/\getT e' 4=.bp 2 0/\getT e' 5=.bp 3 0:=by
   rw [<- hE];unfold Av;refine Af _ ?_ ?_ ?_ ?_
   · simp only [S7,Ag,seval];try rfl
   · simp only [S7,Ag,seval];try rfl
   · simp only [S7,Ag,seval];try rfl
   · simp only [S7,Ag,seval];try rfl
  obtain ⟨e',he,k2,k3,k4,k5⟩:=hP;subst he;unfold Av;simp only [S9,Ag,seval,PY,Aw,Al,k2,k3,k4,k5]
  first | exact ⟨_,_,rfl,by simp only [S7,Ag,seval,k2],by simp only [S7,Ag,seval,k3],by simp only [S7,Ag,seval,k4]⟩
 obtain ⟨e',r,he,k2,k3,k4⟩:=LZ;simp only;rw [he];exact Z' _ rfl e' r k2 k3 k4
theorem Rr (s:List UInt8) (hs:s.length<=40000) (h0:(Bd s).2.2=0) (hT:TokOK (Bd s).1) (n m:Nat) {x:Rl} {rs:List Rl} {j:Nat} (h:E6 (Bd s).1 n m [] 0=.ok (x :: rs) j):Ae CC 6 [.str s] []=some (.ret (.tup [.sl (CW x :: rs.map CW),.int .i64 0,.int .i64 0]),[]):=by
 rw [FH (k:=Ml) rfl rfl];have Aw:Aq [PV.bp 3 0]=false:=rfl;have ht:=FT s hs h0 [.cells 23 [.nils],.cells 3 [.int .i64 0],.cells 24 [.int .i64 0]];have Af:=Ny _ rfl hT n m [] 0 (by simp) hT.pos;rw [h] at Af;unfold gV at Af;simp only [zn,zr,BF,BA] at Af;have vE:(PV.sl (CW x :: rs.map CW)).pure=true:=map_pure CW Ej (x :: rs);generalize CW x :: rs.map CW=xs at *;have ES:Ml.code=Aa yY [1,1]:=rfl;have Yq:Ml.pre [.str s] []=some ⟨setT (Gp s) 6 (.fn 16 [] [.bp 0 0,.bp 1 0,.bp 2 0]),[.cells 23 [.nils],.cells 3 [.int .i64 0],.cells 24 [.int .i64 0]]⟩:=rfl;unfold Ea;rw [Yq,ES]
 have LZ:∃ (e':List PV) (r:List PBox),Cp CC (Aa yY [1,1]) ⟨setT (Gp s) 6 (.fn 16 [] [.bp 0 0,.bp 1 0,.bp 2 0]),[.cells 23 [.nils],.cells 3 [.int .i64 0],.cells 24 [.int .i64 0]]⟩=some (.ret,⟨e',.cells 23 [.sl xs] :: .cells 3 [.int .i64 0] :: .cells 24 [.int .i64 0] :: r⟩)/\getT e' 2=.bp 0 0/\getT e' 3=.bp 1 0/\getT e' 4=.bp 2 0:=by
  simp only [Aa,Ac,yY,yW] at Af |-;unfold Av at Af ht;unfold Gp;rw [<- Am];rw [<- Am] at Af;rw [<- AK] at ht;simp only [S9,Ag,seval,PY,Aw,Al,ht];generalize hE:GZ _ _=z
  have hP:∃ (e':List PV),z=some (.exit 0,⟨e',[.cells 23 [.nils],.cells 3 [.int .i64 0],.cells 24 [.int .i64 0],Av (Bd s).1 j 0 (.osl 52 xs)]⟩)/\getT e' 2=.bp 0 0/\getT e' 3=.bp 1 0/\getT e' 4=.bp 2 0/\getT e' 5=.bp 3 0:=by
   rw [<- hE];unfold Av;refine Af _ ?_ ?_ ?_ ?_
   · simp only [S7,Ag,seval];try rfl
   · simp only [S7,Ag,seval];try rfl
   · simp only [S7,Ag,seval];try rfl
   · simp only [S7,Ag,seval];try rfl
  obtain ⟨e',he,k2,k3,k4,k5⟩:=hP;subst he;unfold Av;simp only [S9,Ag,seval,PY,Aw,Al,k2,k3,k4,k5]
  first | exact ⟨_,_,rfl,by simp only [S7,Ag,seval,k2],by simp only [S7,Ag,seval,k3],by simp only [S7,Ag,seval,k4]⟩
 obtain ⟨e',r,he,k2,k3,k4⟩:=LZ;simp only;rw [he];exact Z' _ vE e' r k2 k3 k4
theorem P3 (x y:Int) (e:List PV) (c0:List PV) (hl:c0.length=11) (hp:Aq c0=true) (r:List PBox) (k2:getT e 2=.bp 0 0) (k3:getT e 3=.bp 1 0) (k4:getT e 4=.bp 2 0):Mm.post (.pan (.iface 54 (.agg [.int .i64 x,.int .i64 y])),⟨e,.cells 35 c0 :: .cells 3 [.int .i64 0] :: .cells 24 [.int .i64 0] :: r⟩)=some (.ret (.tup [.agg (A7 zT),.int .i64 x,.int .i64 y]),[]):=by
 have h:bq 11 ⟨e,.cells 35 c0 :: .cells 3 [.int .i64 0] :: .cells 24 [.int .i64 0] :: r⟩=true:=by unfold bq;simp only [k2,k3,k4,hl,hp];rfl
 show (if (decide (54=54) && bq 11 ⟨e,.cells 35 c0 :: .cells 3 [.int .i64 0] :: .cells 24 [.int .i64 0] :: r⟩)=true then some (CR.ret (.tup [cw Cq,.int .i64 x,.int .i64 y]),([]:List PBox)) else none)=_;rw [h,DP];rfl
theorem TK (L:List Tk) (i:Nat) (c0:List PV) (hc:∀ n,Au n c0=true):Nt L i 0 .nils 3 [.cells 35 c0,.cells 3 [.int .i64 0],.cells 24 [.int .i64 0],Av L i 0 .nils]:=by
 refine ⟨?_,rfl⟩;have:=BH (n:=4) L i 0 (RL:=.nils) rfl;unfold C5;simp only [SU,zi,zl,this,hc,yZ]
theorem VG (s:List UInt8) (hs:s.length<=40000) (h0:(Bd s).2.2=0) (hT:TokOK (Bd s).1) (n:Nat) {t:Nat} {c:Int} (h:Db (Bd s).1 n 0=.bad t c):Ae CC 9 [.str s] []=some (.ret (.tup [.agg (A7 zT),.int .i64 (t:Int),.int .i64 c]),[]):=by
 rw [FH (k:=Mm) rfl rfl];have Aw:Aq [PV.bp 3 0]=false:=rfl;have ES:Mm.code=Aa y9 [1,1]:=rfl;have Yq:Mm.pre [.str s] []=some ⟨setT (Gp s) 6 (.fn 26 [] [.bp 0 0,.bp 1 0,.bp 2 0]),[.cells 35 [.int .i64 0,.int .i64 0,.int .i64 0,.str [],.int .i64 0,.int .i64 0,.str [],.int .i64 0,.str [],.str [],.nils],.cells 3 [.int .i64 0],.cells 24 [.int .i64 0]]⟩:=rfl;unfold Ea;rw [Yq,ES];have ht:=FT s hs h0 [.cells 35 [.int .i64 0,.int .i64 0,.int .i64 0,.str [],.int .i64 0,.int .i64 0,.str [],.int .i64 0,.str [],.str [],.nils],.cells 3 [.int .i64 0],.cells 24 [.int .i64 0]];have h1:=HI (id:=3) (RL:=.nils) rfl hT hT.pos n 0 rfl;rw [h] at h1;obtain ⟨i',o',h1⟩:=h1;have t1:=h1 _ (TK _ 0 [.int .i64 0,.int .i64 0,.int .i64 0,.str [],.int .i64 0,.int .i64 0,.str [],.int .i64 0,.str [],.str [],.nils] (fun n=>by simp only [SU,yZ]));simp only [y1,y0] at t1;have VU:((0:Nat):Int)=0:=rfl
 have LZ:∃ (e':List PV),Cp CC (Aa y9 [1,1]) ⟨setT (Gp s) 6 (.fn 26 [] [.bp 0 0,.bp 1 0,.bp 2 0]),[.cells 35 [.int .i64 0,.int .i64 0,.int .i64 0,.str [],.int .i64 0,.int .i64 0,.str [],.int .i64 0,.str [],.str [],.nils],.cells 3 [.int .i64 0],.cells 24 [.int .i64 0]]⟩=some (.pan (Cr t c),⟨e',[.cells 35 [.int .i64 0,.int .i64 0,.int .i64 0,.str [],.int .i64 0,.int .i64 0,.str [],.int .i64 0,.str [],.str [],.nils],.cells 3 [.int .i64 0],.cells 24 [.int .i64 0],Av (Bd s).1 i' o' .nils]⟩)/\getT e' 2=.bp 0 0/\getT e' 3=.bp 1 0/\getT e' 4=.bp 2 0:=by
  simp only [Aa,Ac,y9,yW];unfold Av at t1 ht |-;simp only [VU] at t1 ht;unfold Gp;rw [<- Am];rw [<- AK] at ht t1;simp only [S9,Ag,seval,PY,Aw,Al,ht,t1];exact ⟨_,rfl,by simp only [S7,Ag,seval];try rfl,by simp only [S7,Ag,seval];try rfl,by simp only [S7,Ag,seval];try rfl⟩
 obtain ⟨e',he,k2,k3,k4⟩:=LZ;simp only;rw [he];exact P3 _ _ e' _ rfl rfl _ k2 k3 k4
theorem TL (s:List UInt8) (hs:s.length<=40000) (h0:(Bd s).2.2=0) (hT:TokOK (Bd s).1) (n:Nat) {a:Tr} {i:Nat} (h:Db (Bd s).1 n 0=.ok a i) {t:Nat} {c:Int} (h2:IY (Bd s).1 0 i=.bad t c):Ae CC 9 [.str s] []=some (.ret (.tup [.agg (A7 zT),.int .i64 (t:Int),.int .i64 c]),[]):=by
 rw [FH (k:=Mm) rfl rfl];have Aw:Aq [PV.bp 3 0]=false:=rfl;have ES:Mm.code=Aa y9 [1,1]:=rfl;have Yq:Mm.pre [.str s] []=some ⟨setT (Gp s) 6 (.fn 26 [] [.bp 0 0,.bp 1 0,.bp 2 0]),[.cells 35 [.int .i64 0,.int .i64 0,.int .i64 0,.str [],.int .i64 0,.int .i64 0,.str [],.int .i64 0,.str [],.str [],.nils],.cells 3 [.int .i64 0],.cells 24 [.int .i64 0]]⟩:=rfl;unfold Ea;rw [Yq,ES];have ht:=FT s hs h0 [.cells 35 [.int .i64 0,.int .i64 0,.int .i64 0,.str [],.int .i64 0,.int .i64 0,.str [],.int .i64 0,.str [],.str [],.nils],.cells 3 [.int .i64 0],.cells 24 [.int .i64 0]];have h1:=HI (id:=3) (RL:=.nils) rfl hT hT.pos n 0 rfl;rw [h] at h1;have hi:=(EJ hT hT.pos h).2;have t1:=h1 _ (TK _ 0 [.int .i64 0,.int .i64 0,.int .i64 0,.str [],.int .i64 0,.int .i64 0,.str [],.int .i64 0,.str [],.str [],.nils] (fun n=>by simp only [SU,yZ]));have h3:=Mb (id:=3) (RL:=.nils) (o:=0) (i:=i) rfl hi hT 0 0 rfl;rw [h2] at h3;obtain ⟨i',o',h3⟩:=h3;have t2:=h3 _ (TK _ i (A7 a) (fun n=>PS n a));simp only [y1,y0] at t1 t2;rw [An] at t1;have VU:((0:Nat):Int)=0:=rfl
 have LZ:∃ (e':List PV) (r:List PBox),Cp CC (Aa y9 [1,1]) ⟨setT (Gp s) 6 (.fn 26 [] [.bp 0 0,.bp 1 0,.bp 2 0]),[.cells 35 [.int .i64 0,.int .i64 0,.int .i64 0,.str [],.int .i64 0,.int .i64 0,.str [],.int .i64 0,.str [],.str [],.nils],.cells 3 [.int .i64 0],.cells 24 [.int .i64 0]]⟩=some (.pan (Cr t c),⟨e',.cells 35 (A7 a) :: .cells 3 [.int .i64 0] :: .cells 24 [.int .i64 0] :: r⟩)/\getT e' 2=.bp 0 0/\getT e' 3=.bp 1 0/\getT e' 4=.bp 2 0:=by
  simp only [Aa,Ac,y9,yW];unfold Av at t1 t2 ht;simp only [VU] at t1 t2 ht;unfold Gp;rw [<- Am];rw [<- AK] at ht t1 t2;simp only [S9,Ag,seval,PY,Aw,Al,ht,t1,t2,SX];exact ⟨_,_,rfl,by simp only [S7,Ag,seval];try rfl,by simp only [S7,Ag,seval];try rfl,by simp only [S7,Ag,seval];try rfl⟩
 obtain ⟨e',r,he,k2,k3,k4⟩:=LZ;simp only;rw [he];exact P3 _ _ e' _ (J3 a) (Fx a) _ k2 k3 k4
theorem gW (a:Tr) (e:List PV) (r:List PBox) (k2:getT e 2=.bp 0 0) (k3:getT e 3=.bp 1 0) (k4:getT e 4=.bp 2 0):Mm.post (.ret,⟨e,.cells 35 (A7 a) :: .cells 3 [.int .i64 0] :: .cells 24 [.int .i64 0] :: r⟩)=some (.ret (.tup [.agg (A7 a),.int .i64 0,.int .i64 0]),[]):=by
 have h:bq 11 ⟨e,.cells 35 (A7 a) :: .cells 3 [.int .i64 0] :: .cells 24 [.int .i64 0] :: r⟩=true:=by unfold bq;simp only [k2,k3,k4,J3,Fx];rfl
 show (if bq 11 ⟨e,.cells 35 (A7 a) :: .cells 3 [.int .i64 0] :: .cells 24 [.int .i64 0] :: r⟩=true then some (CR.ret (.tup [cw (A7 a),.int .i64 0,.int .i64 0]),([]:List PBox)) else none)=_;rw [h];unfold cw;rw [kn];show some (CR.ret (.tup [.agg ((A7 a).map PV.seal1),_,_]),([]:List PBox))=_;rw [Tx]
theorem VH (s:List UInt8) (hs:s.length<=40000) (h0:(Bd s).2.2=0) (hT:TokOK (Bd s).1) (n:Nat) {a:Tr} {i:Nat} (h:Db (Bd s).1 n 0=.ok a i) {tk:Tk} {j:Nat} (h2:IY (Bd s).1 0 i=.ok tk j):Ae CC 9 [.str s] []=some (.ret (.tup [.agg (A7 a),.int .i64 0,.int .i64 0]),[]):=by
 rw [FH (k:=Mm) rfl rfl];have Aw:Aq [PV.bp 3 0]=false:=rfl;have ES:Mm.code=Aa y9 [1,1]:=rfl;have Yq:Mm.pre [.str s] []=some ⟨setT (Gp s) 6 (.fn 26 [] [.bp 0 0,.bp 1 0,.bp 2 0]),[.cells 35 [.int .i64 0,.int .i64 0,.int .i64 0,.str [],.int .i64 0,.int .i64 0,.str [],.int .i64 0,.str [],.str [],.nils],.cells 3 [.int .i64 0],.cells 24 [.int .i64 0]]⟩:=rfl;unfold Ea;rw [Yq,ES];have ht:=FT s hs h0 [.cells 35 [.int .i64 0,.int .i64 0,.int .i64 0,.str [],.int .i64 0,.int .i64 0,.str [],.int .i64 0,.str [],.str [],.nils],.cells 3 [.int .i64 0],.cells 24 [.int .i64 0]];have h1:=HI (id:=3) (RL:=.nils) rfl hT hT.pos n 0 rfl;rw [h] at h1;have hi:=(EJ hT hT.pos h).2;have t1:=h1 _ (TK _ 0 [.int .i64 0,.int .i64 0,.int .i64 0,.str [],.int .i64 0,.int .i64 0,.str [],.int .i64 0,.str [],.str [],.nils] (fun n=>by simp only [SU,yZ]));have h3:=Mb (id:=3) (RL:=.nils) (o:=0) (i:=i) rfl hi hT 0 0 rfl;rw [h2] at h3;skip;have t2:=h3 _ (TK _ i (A7 a) (fun n=>PS n a));simp only [y1,y0] at t1 t2;rw [An] at t1;have VU:((0:Nat):Int)=0:=rfl
 have LZ:∃ (e':List PV) (r:List PBox),Cp CC (Aa y9 [1,1]) ⟨setT (Gp s) 6 (.fn 26 [] [.bp 0 0,.bp 1 0,.bp 2 0]),[.cells 35 [.int .i64 0,.int .i64 0,.int .i64 0,.str [],.int .i64 0,.int .i64 0,.str [],.int .i64 0,.str [],.str [],.nils],.cells 3 [.int .i64 0],.cells 24 [.int .i64 0]]⟩=some (.ret,⟨e',.cells 35 (A7 a) :: .cells 3 [.int .i64 0] :: .cells 24 [.int .i64 0] :: r⟩)/\getT e' 2=.bp 0 0/\getT e' 3=.bp 1 0/\getT e' 4=.bp 2 0:=by
  simp only [Aa,Ac,y9,yW];unfold Av at t1 t2 ht;simp only [VU] at t1 t2 ht;unfold Gp;rw [<- Am];rw [<- AK] at ht t1 t2;simp only [S9,Ag,seval,PY,Aw,Al,ht,t1,t2,SX];exact ⟨_,_,rfl,by simp only [S7,Ag,seval];try rfl,by simp only [S7,Ag,seval];try rfl,by simp only [S7,Ag,seval];try rfl⟩
 obtain ⟨e',r,he,k2,k3,k4⟩:=LZ;simp only;rw [he];exact gW a e' r k2 k3 k4
theorem VI (s:List UInt8) (hs:s.length<=40000) (h0:(Bd s).2.2≠0):Ak CC (Ae CC) 17 [.str s] [.cells 35 [.int .i64 0,.int .i64 0,.int .i64 0,.str [],.int .i64 0,.int .i64 0,.str [],.int .i64 0,.str [],.str [],.nils],.cells 3 [.int .i64 0],.cells 24 [.int .i64 0]]=some (.pan (Cr (Bd s).2.1 (Bd s).2.2),[.cells 35 [.int .i64 0,.int .i64 0,.int .i64 0,.str [],.int .i64 0,.int .i64 0,.str [],.int .i64 0,.str [],.str [],.nils],.cells 3 [.int .i64 0],.cells 24 [.int .i64 0]]):=by
 unfold Ak;rw [if_pos (show (CC.heap 17 || !Aq [PV.str s])=true from rfl),LI s hs h0 _];simp only;unfold Fl;split <;> rfl
theorem VJ (s:List UInt8) (hs:s.length<=40000) (h0:(Bd s).2.2≠0):Ae CC 9 [.str s] []=some (.ret (.tup [.agg (A7 zT),.int .i64 ((Bd s).2.1:Int),.int .i64 (Bd s).2.2]),[]):=by
 rw [FH (k:=Mm) rfl rfl];have Aw:Aq [PV.bp 3 0]=false:=rfl;have ES:Mm.code=Aa y9 [1,1]:=rfl;have Yq:Mm.pre [.str s] []=some ⟨setT (Gp s) 6 (.fn 26 [] [.bp 0 0,.bp 1 0,.bp 2 0]),[.cells 35 [.int .i64 0,.int .i64 0,.int .i64 0,.str [],.int .i64 0,.int .i64 0,.str [],.int .i64 0,.str [],.str [],.nils],.cells 3 [.int .i64 0],.cells 24 [.int .i64 0]]⟩:=rfl;unfold Ea;rw [Yq,ES];have ht:=VI s hs h0
 have LZ:∃ (e':List PV),Cp CC (Aa y9 [1,1]) ⟨setT (Gp s) 6 (.fn 26 [] [.bp 0 0,.bp 1 0,.bp 2 0]),[.cells 35 [.int .i64 0,.int .i64 0,.int .i64 0,.str [],.int .i64 0,.int .i64 0,.str [],.int .i64 0,.str [],.str [],.nils],.cells 3 [.int .i64 0],.cells 24 [.int .i64 0]]⟩=some (.pan (Cr (Bd s).2.1 (Bd s).2.2),⟨e',[.cells 35 [.int .i64 0,.int .i64 0,.int .i64 0,.str [],.int .i64 0,.int .i64 0,.str [],.int .i64 0,.str [],.str [],.nils],.cells 3 [.int .i64 0],.cells 24 [.int .i64 0]]⟩)/\getT e' 2=.bp 0 0/\getT e' 3=.bp 1 0/\getT e' 4=.bp 2 0:=by
  simp only [Aa,Ac,y9,yW];unfold Gp;rw [<- Am];rw [<- AK] at ht;simp only [S9,Ag,seval,PY,Aw,Al,ht];exact ⟨_,rfl,by simp only [S7,Ag,seval];try rfl,by simp only [S7,Ag,seval];try rfl,by simp only [S7,Ag,seval];try rfl⟩
 obtain ⟨e',he,k2,k3,k4⟩:=LZ;simp only;rw [he];exact P3 _ _ e' _ rfl rfl _ k2 k3 k4
def EA:NT->Nat
 | .expr=>10 | .chain true=>9 | .chain false=>8 | .chainL _ _=>1 | .not=>7 | .cmp=>6 | .sum=>5 | .sumL _=>1 | .prod=>4 | .prodL _=>1 | .un=>3 | .prim=>2
theorem AI {α β:Type} {r:PR α} {f:α->Nat->PR β} (h:r≠.out) (h2:∀ a i,r=.ok a i->f a i≠.out):r.bind f≠.out:=by
 cases r with
 | ok a i=>exact h2 a i rfl
 | bad t e=>intro e;cases e
 | out=>exact absurd rfl h
theorem Cy {L:List Tk} {k:Nat} {w:List UInt8} {i:Nat}:BM L k w i≠.out:=by unfold BM;split <;> (intro e;cases e)
theorem cT (b:Bool):EA (Ee b)+1<=EA (.chain b):=by cases b <;> decide
theorem OT (nt:NT):EA nt<=10/\1<=EA nt:=by
 cases nt with
 | chain b=>cases b <;> simp [EA]
 | _=>simp [EA]
theorem LJ {L:List Tk} {lo hi i:Nat}:Hj L lo hi i≠.out:=by
 unfold Hj;split
 · split <;> (intro e;cases e)
 · intro e;cases e
theorem GI {L:List Tk} {i:Nat}:CI L i≠.out:=by
 unfold CI;split
 · split <;> (intro e;cases e)
 · intro e;cases e
theorem aa {L:List Tk} {k i:Nat}:IY L k i≠.out:=by unfold IY;split <;> (intro e;cases e)
theorem ab {L:List Tk} {hi i:Nat}:Ri L hi i≠.out:=by
 unfold Ri;split
 · intro e;cases e
 · exact LJ
theorem Br {α:Type} {a:α} {i:Nat}:PR.ok a i≠.out:=fun e=>nomatch e
theorem Jz {L:List Tk} {i:Nat}:Fv L i≠.out:=AI LJ fun _ _ _=>AI Cy fun _ _ _=>AI GI fun _ _ _=>AI Cy fun _ _ _=>AI GI fun _ _ _=>Br
theorem Nz {L:List Tk} {i:Nat}:GG L i≠.out:=AI ab fun _ _ _=>AI Cy fun _ _ _=>AI ab fun _ _ _=>Br
theorem kK {L:List Tk} {i:Nat}:To L i≠.out:=by unfold To;split <;> (intro e;cases e)
theorem kM {L:List Tk} (hT:TokOK L) {i a j:Nat} (hi:i < L.length) (h:To L i=.ok a j):i < j/\j < L.length:=by
 unfold To at h;split at h
 · rename_i k hp
   obtain ⟨_,_,h4⟩:=G4 hp;have:=AG hT hi h4 (by decide);injection h with _ h
   omega
 · cases h
theorem gX {L:List Tk} (hT:TokOK L):∀ (n m i:Nat),i < L.length->L.length - i<=n->Lj L n m i≠.out:=by
 intro n
 induction n with
 | zero=>intro m i hi h;omega
 | succ n ih=>
  intro m i hi h;rw [Lj];refine AI kK fun k j hj=>?_;have h1:=kM hT hi hj;split
  · rename_i hk
    have h2:=AG hT h1.2 hk (by decide);exact ih _ _ h2 (by omega)
  · exact Br
theorem Wv {L:List Tk} (hT:TokOK L) {i:Nat} (hi:i < L.length):KA L i≠.out:=gX hT _ _ _ hi (by omega)
theorem gY {L:List Tk} (hT:TokOK L) {i:Nat} (hi:i < L.length):IF L i≠.out:=by
 unfold IF;split
 · exact Br
 split
 · exact Br
 split
 · exact AI Cy fun _ _ _=>AI GI fun _ _ _=>Br
 split
 · exact AI Nz fun _ _ _=>AI Cy fun _ _ _=>AI Nz fun _ _ _=>Br
 split
 · rename_i hk
   exact AI (Wv hT (AG hT hi hk (by decide))) fun _ _ _=>Br
 split
 · split <;> exact Br
 · intro e;cases e
theorem kN {L:List Tk} (hT:TokOK L):∀ (n:Nat) (nt:NT) (o i:Nat),i < L.length->12 * (L.length - i)+EA nt<=n->pz L n nt o i≠.out:=by
 intro n
 induction n with
 | zero=>intro nt o i hi h;have:=OT nt;omega
 | succ n ih=>
  intro nt o i hi h;have lt:=fun (nt:NT) (o i:Nat) (a:Tr) (j:Nat) hi (r:pz L n nt o i=.ok a j)=>Hq hT n nt o i a j hi r;cases nt with
  | expr=>
   have hr:EA .expr=10:=rfl;have Pe:EA (.chain true)=9:=rfl;rw [pz];split
   · rename_i hk
     have h0:=AG hT hi hk (by decide);split
     · refine AI (ih _ _ _ h0 (by omega)) fun _ i1 r1=>AI Cy fun _ i2 r2=>?_
       have h1:=lt _ _ _ _ _ h0 r1;have h2:=A6 hT h1.2 (by decide) r2;refine AI (ih _ _ _ h2.2 (by omega)) fun _ i3 r3=>AI Cy fun _ i4 r4=>?_;have h3:=lt _ _ _ _ _ h2.2 r3;have h4:=A6 hT h3.2 (by decide) r4;exact AI (ih _ _ _ h4.2 (by omega)) fun _ _ _=>Br
     · intro e;cases e
   · exact ih _ _ _ hi (by omega)
  | chain b=>
   have hr:=cT b;have Pe:EA (.chainL b [])=1:=rfl;rw [pz];refine AI (ih _ _ _ hi (by omega)) fun a i1 r1=>?_;have h1:=lt _ _ _ _ _ hi r1;have bB:EA (.chainL b [a])=1:=rfl;have wy:=(OT (Ee b)).2;exact ih _ _ _ h1.2 (by omega)
  | chainL b acc=>
   have hr:EA (.chainL b acc)=1:=rfl;rw [pz];split
   · rename_i hk
     have h0:=AG hT hi hk (by decide);split
     · intro e;cases e
     · have wy:=(OT (Ee b)).1
       refine AI (ih _ _ _ h0 (by omega)) fun a i1 r1=>?_;have h1:=lt _ _ _ _ _ h0 r1;have bB:EA (.chainL b (acc++[a]))=1:=rfl;exact ih _ _ _ h1.2 (by omega)
   · exact Br
  | not=>
   have hr:EA .not=7:=rfl;have Pe:EA .cmp=6:=rfl;rw [pz];split
   · rename_i hk
     have h0:=AG hT hi hk (by decide);split
     · exact AI (ih _ _ _ h0 (by omega)) fun _ _ _=>Br
     · intro e;cases e
   · exact ih _ _ _ hi (by omega)
  | cmp=>
   have hr:EA .cmp=6:=rfl;have Pe:EA .sum=5:=rfl;rw [pz];refine AI (ih _ _ _ hi (by omega)) fun a i1 r1=>?_;have h1:=lt _ _ _ _ _ hi r1;split
   · rename_i k hp
     obtain ⟨_,_,h4⟩:=G4 hp;have h0:=AG hT h1.2 h4 (by decide);exact AI (ih _ _ _ h0 (by omega)) fun _ _ _=>Br
   · exact Br
  | sum=>
   have hr:EA .sum=5:=rfl;have Pe:EA .prod=4:=rfl;rw [pz];refine AI (ih _ _ _ hi (by omega)) fun a i1 r1=>?_;have h1:=lt _ _ _ _ _ hi r1;have bB:EA (.sumL a)=1:=rfl;exact ih _ _ _ h1.2 (by omega)
  | sumL e=>
   have hr:EA (.sumL e)=1:=rfl;have Pe:EA .prod=4:=rfl;rw [pz];split
   · rename_i hk
     have h0:=AG hT hi hk (by decide);refine AI (ih _ _ _ h0 (by omega)) fun a i1 r1=>?_;have h1:=lt _ _ _ _ _ h0 r1;have bB:EA (.sumL (Bb 11 [e,a]))=1:=rfl;exact ih _ _ _ h1.2 (by omega)
   split
   · rename_i hk
     have h0:=AG hT hi hk (by decide);refine AI (ih _ _ _ h0 (by omega)) fun a i1 r1=>?_;have h1:=lt _ _ _ _ _ h0 r1;have bB:EA (.sumL (Bb 12 [e,a]))=1:=rfl;exact ih _ _ _ h1.2 (by omega)
   · exact Br
  | prod=>
   have hr:EA .prod=4:=rfl;have Pe:EA .un=3:=rfl;rw [pz];refine AI (ih _ _ _ hi (by omega)) fun a i1 r1=>?_;have h1:=lt _ _ _ _ _ hi r1;have bB:EA (.prodL a)=1:=rfl;exact ih _ _ _ h1.2 (by omega)
  | prodL e=>
   have hr:EA (.prodL e)=1:=rfl;have Pe:EA .un=3:=rfl;rw [pz];split
   · rename_i hk
     have h0:=AG hT hi hk (by decide);refine AI (ih _ _ _ h0 (by omega)) fun a i1 r1=>?_;have h1:=lt _ _ _ _ _ h0 r1;have bB:EA (.prodL (Bb 13 [e,a]))=1:=rfl;exact ih _ _ _ h1.2 (by omega)
   · exact Br
  | un=>
   have hr:EA .un=3:=rfl;have Pe:EA .prim=2:=rfl;rw [pz];split
   · rename_i hk
     have h0:=AG hT hi hk (by decide);split
     · exact Br
     split
     · exact AI (ih _ _ _ h0 (by omega)) fun _ _ _=>Br
     · intro e;cases e
   · exact ih _ _ _ hi (by omega)
  | prim=>
   have hr:EA .prim=2:=rfl;have Pe:EA .expr=10:=rfl;rw [pz];split
   · exact Br
   split
   · exact AI Jz fun _ _ _=>Br
   split
   · exact Br
   split
   · exact AI LJ fun _ _ _=>Br
   split
   · rename_i hk
     have h0:=AG hT hi hk (by decide);split
     · exact AI (ih _ _ _ h0 (by omega)) fun _ _ _=>AI Cy fun _ _ _=>Br
     · intro e;cases e
   · exact gY hT hi
theorem RG {α:Type} {t:Nat} {e:Int}:(PR.bad t e:PR α)≠.out:=fun e=>nomatch e
def Ww (L:List Tk):Nat:=12 * L.length+10
theorem H' {L:List Tk} (hT:TokOK L) {i:Nat} (hi:i < L.length):Db L (Ww L) i≠.out:=by
 unfold Db;refine AI (kN hT _ _ _ _ hi (by unfold Ww;have:EA .expr=10:=rfl;omega)) fun a j _=>?_;split
 · exact Br
 · exact RG
theorem XZ {L:List Tk} (hT:TokOK L) {i:Nat} (hi:i < L.length):DK L i≠.out:=by
 unfold DK;split
 · exact AI Jz fun _ _ _=>Br
 split
 · exact AI Jz fun _ _ _=>Br
 split
 · rename_i hk
   refine AI Nz fun _ j r=>?_;split
   · rename_i iC
     exact AI (Wv hT (AG hT (GH hT (AG hT hi hk (by decide)) r).2.1 iC (by decide))) fun _ _ _=>Br
   · exact Br
 split
 · split
   · exact AI GI fun _ _ _=>Br
   · exact Br
 split
 · exact Br
 · exact AI Cy fun _ _ _=>AI LJ fun _ _ _=>Br
theorem gZ {L:List Tk} (hT:TokOK L) {i:Nat} (hi:i < L.length):FQ L (Ww L) i≠.out:=by
 unfold FQ;split
 · rename_i hk
   have h0:=AG hT hi hk (by decide);refine AI Jz fun _ j r=>AI Cy fun _ j2 r2=>?_;have h1:=(Eg hT h0 r).2.1;exact AI (H' hT (A6 hT h1 (by decide) r2).2) fun _ _ _=>Br
 split
 · rename_i hk
   have h0:=AG hT hi hk (by decide);refine AI Jz fun _ j r=>?_;have h1:=(Eg hT h0 r).2.1;split
   · rename_i iC
     exact AI (H' hT (AG hT h1 iC (by decide))) fun _ _ _=>AI Cy fun _ _ _=>Br
   · exact Br
 split
 · exact AI GI fun _ _ _=>Br
 split
 · exact AI GI fun _ _ _=>Br
 · exact AI Cy fun _ _ _=>AI aa fun _ _ _=>Br
theorem OU {α:Type} {L:List Tk} (hT:TokOK L) {w:List UInt8} {part:Nat->PR α} (hp:∀ i,i < L.length->part i≠.out) (Bq:∀ i a j,i < L.length->part i=.ok a j->j < L.length):∀ (m:Nat) (acc:List α) (i:Nat),i < L.length->acc.length<=8->9<=acc.length+m->BU L w part m acc i≠.out:=by
 intro m
 induction m with
 | zero=>intro acc i hi h1 h2;omega
 | succ m ih=>
  intro acc i hi h1 h2;rw [BU];split
  · split
    · exact RG
    · refine AI Cy fun _ j r=>?_
      have h3:=(A6 hT hi (by decide) r).2;refine AI (hp _ h3) fun a j2 r2=>AI Cy fun _ j3 r3=>?_;have h4:=Bq _ _ _ h3 r2;exact ih _ _ (A6 hT h4 (by decide) r3).2 (by rw [y2,y7];omega) (by rw [y2,y7];omega)
  · exact Br
theorem hF {L:List Tk} (hT:TokOK L) (rs:List Rl) {i:Nat} (hi:i < L.length):Jr L (Ww L) rs i≠.out:=by
 unfold Jr;split
 · exact RG
 refine AI Cy fun _ i0 r0=>AI GI fun nm i1 r1=>?_;have h0:=(A6 hT hi (by decide) r0).2;have h1:=(Dt hT h0 r1).2;split
 · exact RG
 refine AI ?_ fun pr i2 r2=>AI Cy fun _ i3 r3=>?_
 · split
   · exact LJ
   · exact Br
 have h2:i2 < L.length:=by
  split at r2
  · rename_i hk
    exact (GQ hT (AG hT h1 hk (by decide)) r2).2.1
  · injection r2 with _ r2
    exact r2 ▸ h1
 have h3:=(A6 hT h2 (by decide) r3).2;refine AI (OU hT (fun i hi=>XZ hT hi) (fun i a j hi h=>E4 hT hi h) _ _ _ h3 (by simp) (by simp)) fun on i4 r4=>?_;have h4:=FR hT (fun i a j hi h=>E4 hT hi h) _ _ _ _ _ h3 (by simp) r4;refine AI ?_ fun e i5 r5=>?_
 · split
   · rename_i hk
     exact AI (H' hT (AG hT h4.1 hk (by decide))) fun _ _ _=>AI Cy fun _ _ _=>Br
   · exact Br
 have h5:i5 < L.length:=by
  split at r5
  · rename_i hk
    obtain ⟨_,i6,r6,r7⟩:=Ao r5;obtain ⟨_,i8,r8,r9⟩:=Ao r7;have h6:=EJ hT (AG hT h4.1 hk (by decide)) r6;have h8:=(A6 hT h6.2 (by decide) r8).2;injection r9 with _ r9
    exact r9 ▸ h8
  · injection r5 with _ r5
    exact r5 ▸ h4.1
 exact AI (OU hT (fun i hi=>gZ hT hi) (fun i a j hi h=>LF hT hi h) _ _ _ h5 (by simp) (by simp)) fun _ _ _=>AI Cy fun _ _ _=>Br
theorem TM {L:List Tk} (hT:TokOK L):∀ (m:Nat) (rs:List Rl) (i:Nat),i < L.length->rs.length<=40->42<=rs.length+m->E6 L (Ww L) m rs i≠.out:=by
 intro m
 induction m with
 | zero=>intro rs i hi h1 h2;omega
 | succ m ih=>
  intro rs i hi h1 h2;rw [E6];split
  · exact Br
  · refine AI (hF hT rs hi) fun r j hr=>?_
    have h3:=OS hT hi hr;exact ih _ _ h3.1 (by rw [y2,y7];omega) (by rw [y2,y7];omega)
def DR (s:List UInt8):List Rl×Nat×Int:=if (Bd s).2.2=0 then (match E6 (Bd s).1 (Ww (Bd s).1) 42 [] 0 with
 | .ok l _=>(l,0,0)
 | .bad t c=>([],t,c)
 | .out=>([],0,0)) else ([],(Bd s).2.1,(Bd s).2.2)
def EF (s:List UInt8):Tr×Nat×Int:=if (Bd s).2.2=0 then (match (Db (Bd s).1 (Ww (Bd s).1) 0).bind fun a i=>(IY (Bd s).1 0 i).bind fun _ j=>.ok a j with
 | .ok a _=>(a,0,0)
 | .bad t c=>(zT,t,c)
 | .out=>(zT,0,0)) else (zT,(Bd s).2.1,(Bd s).2.2)
section
variable {f:Nat->Nat} {L:List Tk}
end
def um (x y:Tk):Prop:=(x.1=y.1/\x.2.1=y.2.1)\/(x.1=0/\y.1=4/\y.2.1=[41])
def kO (L M:List Tk) (s j:Nat):Prop:=∀ k,k<=j->um (tokAt L k) (tokAt M (k+s))
theorem kO.mono {L M:List Tk} {s j j':Nat} (h:kO L M s j) (hj:j'<=j):kO L M s j':=fun k hk=>h k (Nat.le_trans hk hj)
section
variable {L M:List Tk} {s:Nat}
end
section
variable (p t:List UInt8)
end
section
variable (s t:List UInt8)
theorem eS {s:List UInt8} (h:s.length<=20000):Bd s=tk s (sk s 0) []:=by unfold Bd;rw [if_neg (by omega)];rfl
end
theorem cU (s:List UInt8) (i k:Nat):((s.take k).drop i).length<=s.length:=by
 rw [List.length_drop,List.length_take];omega
theorem nZ {s:List UInt8} {i:Nat} {t:Tk} {k:Nat} (ho:Hx s i=.inl (t,k)):t.2.2=i/\(t.1=3\/t.2.1.length<=s.length):=by
 unfold Hx at ho;simp only at ho;split at ho
 · injection ho with ho
   injection ho with h1 h2
   subst h1;exact ⟨rfl,.inr (cU s _ _)⟩
 · split at ho
   · split at ho
     · injection ho with ho
       injection ho with h1 h2
       subst h1;exact ⟨rfl,.inr (cU s _ _)⟩
     · cases ho
   · split at ho
     · split at ho
       · injection ho with ho
         injection ho with h1 h2
         subst h1;exact ⟨rfl,.inl rfl⟩
       · cases ho
     · split at ho
       · cases ho
       · injection ho with ho
         injection ho with h1 h2
         subst h1;exact ⟨rfl,.inr (cU s _ _)⟩
theorem uo (s:List UInt8):∀ (d i:Nat) (acc:List Tk),s.length - i<=d->i<=s.length->(tk s i acc).2.1<=s.length/\∀ x ∈ (tk s i acc).1,x ∈ acc\/(x.2.2<=s.length/\(x.1=3\/x.2.1.length<=s.length)):=by
 have mj:∀ i acc,i<=s.length->¬ i < s.length->(tk s i acc).2.1<=s.length/\∀ x ∈ (tk s i acc).1,x ∈ acc\/(x.2.2<=s.length/\(x.1=3\/x.2.1.length<=s.length)):=fun i acc h hc=>by
  rw [ZP _ h,if_neg hc];refine ⟨ze _,fun x hx=>?_⟩;rcases zk.1 hx with hx | hx
  · exact .inl hx
  · rw [zg] at hx
    subst hx;exact .inr ⟨zt _,.inr (ze _)⟩
 intro d
 induction d with
 | zero=>intro i acc h hl;exact mj i acc hl (by omega)
 | succ d ih=>
  intro i acc h hl;by_cases c:i < s.length
  · rw [ZP _ hl,if_pos c]
    split
    · exact ⟨hl,fun x hx=>by cases hx⟩
    · cases ho:Hx s i with
      | inr e=>exact ⟨hl,fun x hx=>by cases hx⟩
      | inl y=>
       obtain ⟨x,k⟩:=y;have Yu:=Ma c ho;have hle:=Qu Yu.2;obtain ⟨g1,g2⟩:=nZ ho;obtain ⟨f1,f2⟩:=ih (sk s k) (acc++[x]) (by omega) hle.2;refine ⟨f1,fun z hz=>?_⟩;rcases f2 z hz with hz | hz
       · rcases zk.1 hz with hz | hz
         · exact .inl hz
         · rw [zg] at hz
           subst hz;exact .inr ⟨by omega,g2⟩
       · exact .inr hz
  · exact mj i acc hl c
theorem n6 (s:List UInt8) (hs:s.length<=20000):(Bd s).2.1<=s.length/\∀ x ∈ (Bd s).1,x.2.2<=s.length/\(x.1=3\/x.2.1.length<=s.length):=by
 rw [eS hs];have hle:=Qu (s:=s) (i:=0) (by omega);obtain ⟨h1,h2⟩:=uo s s.length (sk s 0) [] (by omega) hle.2;exact ⟨h1,fun x hx=>(h2 x hx).resolve_left (fun h=>by cases h)⟩
theorem TN:∀ {r:List Tk},PG r->∀ x ∈ r,ej x
 | [],_,_,h=>by cases h
 | y :: r,hc,x,h=>by
  rcases zq.1 h with rfl | h
  · exact hc.1
  · exact TN hc.2.2 x h
theorem ae:∀ (w:List UInt8) (n:Nat),n<=1099511627776->(KF w n).isSome=true->amtN w n<=1099511627776
 | [],n,h,_=>h
 | c :: r,n,h,hs=>by
  unfold KF at hs;split at hs
  · cases hs
  · rename_i h1
    exact ae r (10 * n+(c.toNat - 48)) (by omega) hs
theorem hH {L:List Tk} (i:Nat):tokAt L i ∈ L\/tokAt L i=(0,[],0):=by
 unfold tokAt;rw [za];cases h:L[i]? with
 | none=>exact .inr rfl
 | some x=>exact .inl (List.mem_of_getElem? h)
theorem cV (s:List UInt8) (hs:s.length<=3900) (h0:(Bd s).2.2=0):∃ r,Bd s=(r++[(0,[],s.length)],0,0)/\PG r/\r.length<=s.length:=by
 have hle:=Qu (s:=s) (i:=0) (by omega);rw [eS (by omega)] at h0 |-;obtain ⟨r,g1,g2,g3,g4,_⟩:=gF s s.length (sk s 0) [] (by omega) hle.2 (ek s _ 0 (zt _) (by omega)) h0;rw [zj] at g1;exact ⟨r,g1,g2,by omega⟩
theorem kP {s:List UInt8} (hs:s.length<=3900) {r:List Tk} (h:Bd s=(r++[(0,[],s.length)],0,0)) (hc:PG r) (hr:r.length<=s.length):TokOK (r++[(0,[],s.length)]):=by
 have Ip:=(n6 s (by omega)).2;rw [h] at Ip;have hlen:(r++[(0,[],s.length)]).length=r.length+1:=by rw [y2];rfl
 have hg:=TN hc
 have bd:∀ x ∈ r++[(0,[],s.length)],x.1=0/\x.2.1=[]\/ej x:=fun x hx=>by
  rcases zk.1 hx with hx | hx
  · exact .inr (hg x hx)
  · rw [zg] at hx
    subst hx;exact .inl ⟨rfl,rfl⟩
 have FA:∀ i,tokAt (r++[(0,[],s.length)]) i=(0,[],0)\/(tokAt (r++[(0,[],s.length)]) i ∈ r++[(0,[],s.length)]):=fun i=>(hH i).symm;refine ⟨by omega,by omega,?_,fun i hi=>?_,fun i=>?_,fun i=>?_,fun i h3=>?_,fun i h2=>?_⟩
 · rw [hlen]
   unfold tokAt;rw [za,List.getElem?_append_right (by omega),show r.length+1 - 1 - r.length=0 from by omega];rfl
 · have FV:i < r.length:=by omega
   have:tokAt (r++[(0,[],s.length)]) i ∈ r:=by
    unfold tokAt;rw [za,List.getElem?_append_left FV,List.getElem?_eq_getElem FV];exact zd FV
   rcases hg _ this with h | h | h | h <;> (rw [h.1];decide)
 · unfold atT
   rcases FA i with h | h
   · rw [h];exact ze _
   · have:=(Ip _ h).1;omega
 · rcases FA i with h | h
   · rw [h];exact ze _
   · rcases (Ip _ h).2 with h3 | h3
     · rcases bd _ h with h4 | h4 | h4 | h4 | h4
       · rw [h4.2];exact ze _
       · rw [h4.1] at h3;cases h3
       · rw [h4.1] at h3;cases h3
       · omega
       · rw [h4.1] at h3;cases h3
     · omega
 · rcases FA i with h | h
   · rw [h] at h3;cases h3
   · rcases bd _ h with h4 | h4 | h4 | h4 | h4
     · rw [h4.1] at h3;cases h3
     · rw [h4.1] at h3;cases h3
     · rw [h4.1] at h3;cases h3
     · exact h4.2
     · rw [h4.1] at h3;cases h3
 · rcases FA i with h | h
   · rw [h] at h2;cases h2
   · rcases bd _ h with h4 | h4 | h4 | h4 | h4
     · rw [h4.1] at h2;cases h2
     · rw [h4.1] at h2;cases h2
     · refine ⟨fun b hb=>?_,ae _ 0 (by omega) h4.2.2.2⟩
       have:=h4.2.2.1 b hb;unfold dg at this;simpa using this
     · rw [h4.1] at h2;cases h2
     · rw [h4.1] at h2;cases h2
theorem GJ (s:List UInt8) (hs:s.length<=3900) (h0:(Bd s).2.2=0):TokOK (Bd s).1:=by
 obtain ⟨r,h1,h2,h3⟩:=cV s hs h0;have:=kP hs h1 h2 h3;rw [h1];exact this
theorem RH (t:Tr):PV.agg (A7 t)=DH t:=by
 cases t with
 | mk k n m s v q kids=>rw [CM];unfold DH;rfl
theorem GR (s:List UInt8) (hs:s.length<=3900) (bx:List PBox):Ak CC (Ae CC) 9 [.str s] bx=some (.ret (.tup [DH (EF s).1,.int .i64 ((EF s).2.1:Int),.int .i64 (EF s).2.2]),bx):=by
 have h:Ae CC 9 [.str s] []=some (.ret (.tup [DH (EF s).1,.int .i64 ((EF s).2.1:Int),.int .i64 (EF s).2.2]),[]):=by
  unfold EF;by_cases h0:(Bd s).2.2=0
  · rw [if_pos h0]
    have hT:=GJ s hs h0;have hw:=H' hT hT.pos;cases hr:Db (Bd s).1 (Ww (Bd s).1) 0 with
    | out=>exact absurd hr hw
    | bad t c=>
     rw [VG s (by omega) h0 hT _ hr,RH];rfl
    | ok a i=>
     simp only [PR.bind];cases h2:IY (Bd s).1 0 i with
     | out=>exact absurd h2 aa
     | bad t c=>
      rw [TL s (by omega) h0 hT _ hr h2,RH]
     | ok tk j=>
      rw [VH s (by omega) h0 hT _ hr h2,RH];rfl
  · rw [if_neg h0,VJ s (by omega) h0,RH]
 refine Ax rfl (by simp only [SA,zf]) h ?_;simp only [PV.pure,Aq,Bs,zf]
theorem LK (s:List UInt8) (hs:s.length<=3900) (bx:List PBox):Ak CC (Ae CC) 6 [.str s] bx=some (.ret (.tup [.sl ((DR s).1.map CW),.int .i64 ((DR s).2.1:Int),.int .i64 (DR s).2.2]),bx):=by
 have h:Ae CC 6 [.str s] []=some (.ret (.tup [.sl ((DR s).1.map CW),.int .i64 ((DR s).2.1:Int),.int .i64 (DR s).2.2]),[]):=by
  unfold DR;by_cases h0:(Bd s).2.2=0
  · rw [if_pos h0]
    have hT:=GJ s hs h0;have hw:=TM hT 42 [] 0 hT.pos (by simp) (by simp);cases hr:E6 (Bd s).1 (Ww (Bd s).1) 42 [] 0 with
    | out=>exact absurd hr hw
    | bad t c=>
     rw [TH s (by omega) h0 hT _ _ hr];rfl
    | ok l j=>
     cases l with
     | nil=>
      rw [TJ s (by omega) h0 hT _ _ hr];rfl
     | cons x rs=>
      rw [Rr s (by omega) h0 hT _ _ hr];rfl
  · rw [if_neg h0,TE s (by omega) h0]
    rfl
 refine Ax rfl (by simp only [SA,zf]) h ?_;simp only [PV.pure,Aq,map_pure CW Ej,zf]
theorem ah:Bk CC y6 (y6.body.getD .skip)=true:=by kernel_rfl
theorem X0:CC.P.funcs[11]?=some y6:=by kernel_rfl
def pI (t:Tr):Prop:=∃ bx,Ae CC 11 [DH t,DH t] []=some (.ret (.bool true),bx)
theorem pJ {t:Tr} (h:pI t) (bx):Ak CC (Ae CC) 11 [DH t,DH t] bx=some (.ret (.bool true),bx):=by
 obtain ⟨q,hq⟩:=h;exact Ax rfl (by simp only [BE,Bs,CZ,yZ]) hq rfl
theorem n8 (L:Code) (hL:L=Aa y6 [1,1,0,1,0]) (a0 a1 a2 a3 a4 a5 a6 a7 a8 a9:PV) (l:List Tr) (hl:l.length<=12) (hk:∀ t ∈ l,pI t):∀ (k i:Nat) (e:List PV),i+k=l.length->getT e 2=.bp 0 0->getT e 3=.bp 1 0->getT e 5=.int .i64 i->∃ e' bx',Cp CC L ⟨e,[.cells 35 [a0,a1,a2,a3,a4,a5,a6,a7,a8,a9,.sl (BS l)],.cells 35 [a0,a1,a2,a3,a4,a5,a6,a7,a8,a9,.sl (BS l)]]⟩=some (.exit 0,⟨e',bx'⟩):=by
 intro k
 induction k with
 | zero=>
  intro i e DF e2 e3 e5;rw [A0 (Aa y6 [1,1,0,1,0,0]) hL];have hi:¬ ((i:Int) < (l.length:Int)):=by omega
  have EL:=DC l;generalize BS l=xs at *;rw [<- Am];simp only [Aa,Ac,y6,yW];simp only [S9,Ag,seval,C8,Al,Mn,Mo,yX,e2,e3,e5,EL,hi];exact ⟨_,_,rfl⟩
 | succ k ih=>
  intro i e DF e2 e3 e5;rw [A0 (Aa y6 [1,1,0,1,0,0]) hL];have hi:((i:Int) < (l.length:Int)):=by omega
  have Qb:¬ ((i:Int) < 0):=by omega
  have hx:l[i]?=some (l[i]'(by omega)):=by simp
  have Fq:pI (l[i]'(by omega)):=hk _ (zd _);generalize l[i]'(by omega)=x at *;have Ie:=Sr hx;have EL:=DC l;have N5:=wrap_i64 (n:=(i:Int)+1) ⟨by omega,by omega⟩;have key:=fun e=>ih (i+1) e (by omega);have cast1:((i+1:Nat):Int)=(i:Int)+1:=by omega
  rw [cast1] at key;have A1:=pJ Fq;obtain ⟨xk,xn,xm,xnm,xv,xkey,xkids⟩:=x;unfold DH at Ie A1;have vF:=By xkids;generalize BS xkids=ys at *;generalize BS l=xs at *;rw [<- Am];rw [<- Am] at key;rw [<- AK] at A1;simp only [Aa,Ac,y6,yW];simp only [S9,Ag,seval,C8,Al,Mn,Mo,yX,e2,e3,e5,EL,hi,Qb,Ie,N5,A1,vF,PV.pure,Aq];refine key _ ?_ ?_ ?_
  all_goals simp only [S7,Ag,seval,e2,e3,e5]
theorem n9 (k n m:Int) (nm:List UInt8) (v:Vl) (key:Ky) (kids:List Tr) (mg:kids.length<=12) (hk:∀ t ∈ kids,pI t):pI (.mk k n m nm v key kids):=by
 obtain ⟨vk,vn,vs⟩:=v;obtain ⟨dv,cl,at_⟩:=key;have h1:∀ z:Int,(z != z)=false:=fun z=>by simp
 have h4:HP .neq nm nm=some (.bool false):=by rw [CH];simp
 have h5:QG CC 100 30 (.agg [.int .i64 vk,.int .i64 vn,.str vs]) (.agg [.int .i64 vk,.int .i64 vn,.str vs])=some true:=by rw [nf];simp
 have h6:QG CC 100 32 (.agg [.int .i64 dv,.str cl,.str at_]) (.agg [.int .i64 dv,.str cl,.str at_])=some true:=by rw [jN];simp
 have EL:=DC kids;have Af:=fun L hL a0 a1 a2 a3 a4 a5 a6 a7 a8 a9 e=>n8 L hL a0 a1 a2 a3 a4 a5 a6 a7 a8 a9 kids mg hk kids.length 0 e (by omega);unfold pI DH;generalize BS kids=xs at *;rw [Ah (fn:=y6) (c:=y6.body.getD .skip) rfl rfl X0 rfl ah (y8 rfl)];rw [<- Am];rw [<- Am] at Af;simp only [Aa,Ac,y6,yW];simp only [S9,Ag,seval,C8,Al,Mn,Mo,yX,h1,h4,h5,h6];generalize hE:GZ (zm _) _=z
 have hP:∃ e' bx',z=some (.exit 0,⟨e',bx'⟩):=by
  rw [<- hE];refine Af _ rfl _ _ _ _ _ _ _ _ _ _ _ ?_ ?_ ?_
  all_goals first | (simp only [S7,Ag,seval];done) | (simp only [S7,Ag,seval] <;> rfl)
 obtain ⟨e',bx',he⟩:=hP;subst he;simp only [S8,Ag,seval];exact ⟨_,rfl⟩
mutual
theorem eT (t:Tr) (hs:Fi t):pI t:=by
 match t,hs with
 | .mk k n m nm v key kids,hs=>
  have h2:E1 kids:=by unfold Fi at hs;exact hs.2
  exact n9 k n m nm v key kids (by unfold Fi at hs;exact hs.1.2.2.2.2) (ai kids h2)
theorem ai (l:List Tr) (hs:E1 l):∀ t ∈ l,pI t:=by
 match l,hs with
 | [],_=>intro t ht;simp at ht
 | x :: r,hs=>
  intro t ht;unfold E1 at hs;rcases zq.1 ht with h | h
  · rw [h];exact eT x hs.1
  · exact ai r hs.2 t h
end
theorem Ge (t:Tr) (hs:Fi t) (bx):Ak CC (Ae CC) 11 [DH t,DH t] bx=some (.ret (.bool true),bx):=pJ (eT t hs) bx
theorem NA:Bk CC y5 (y5.body.getD .skip)=true:=by kernel_rfl
theorem Mw:CC.P.funcs[24]?=some y5:=by kernel_rfl
theorem Rs:Bk CC y4 (y4.body.getD .skip)=true:=by kernel_rfl
theorem P4:CC.P.funcs[25]?=some y4:=by kernel_rfl
theorem aj:Bk CC y' (y'.body.getD .skip)=true:=by kernel_rfl
theorem X1:CC.P.funcs[8]?=some y':=by kernel_rfl
def P5 (x:Option Bool) (y:Option Bool):Option Bool:=match x with
 | some true=>y
 | o=>o
theorem qM (y:Option Bool):P5 (some true) y=y:=rfl
theorem X2:CC.P.eqGuardType CC.P.depth 46=false:=by kernel_rfl
theorem wU (k d1 d2 n m k' d1' d2' n' m':Int) (a1 b1 a2 b2 s a1' b1' a2' b2' s':List UInt8):QG CC 100 46 (.agg [.int .i64 k,.int .i64 d1,.str a1,.str b1,.int .i64 d2,.str a2,.str b2,.str s,.int .i64 n,.int .i64 m]) (.agg [.int .i64 k',.int .i64 d1',.str a1',.str b1',.int .i64 d2',.str a2',.str b2',.str s',.int .i64 n',.int .i64 m'])
 = P5 (some (k == k')) (P5 (P5 (some (d1 == d1')) (P5 (some (a1 == a1')) (P5 (some (b1 == b1')) (some true)))) (P5 (P5 (some (d2 == d2')) (P5 (some (a2 == a2')) (P5 (some (b2 == b2')) (some true)))) (P5 (some (s == s')) (P5 (some (n == n')) (P5 (some (m == m')) (some true)))))):=by kernel_rfl
theorem kQ (t:Tg):QG CC 100 46 (BJ t) (BJ t)=some true:=by
 unfold BJ;rw [wU];simp only [beq_self_eq_true,qM]
theorem kR (L:Code) (hL:L=Aa y5 [1,1,0,1,0]) (l:List Tg) (hl:l.length<=100):∀ (k i:Nat) (e:List PV) (bx:List PBox),i+k=l.length->getT e 0=.sl (l.map BJ)->getT e 1=.sl (l.map BJ)->getT e 5=.int .i64 i->∃ e' bx',Cp CC L ⟨e,bx⟩=some (.exit 0,⟨e',bx'⟩):=by
 intro k
 induction k with
 | zero=>
  intro i e bx DF e0 e1 e5;rw [A0 (Aa y5 [1,1,0,1,0,0]) hL];have hi:¬ ((i:Int) < (l.length:Int)):=by omega
  have EL:(l.map BJ).length=l.length:=y3 ..;generalize l.map BJ=xs at *;rw [<- Am];simp only [Aa,Ac,y5,yW];simp only [S9,Ag,seval,C8,Al,Mn,Mo,X2,yX,e0,e1,e5,EL,hi];exact ⟨_,_,rfl⟩
 | succ k ih=>
  intro i e bx DF e0 e1 e5;rw [A0 (Aa y5 [1,1,0,1,0,0]) hL];have hi:((i:Int) < (l.length:Int)):=by omega
  have Qb:¬ ((i:Int) < 0):=by omega
  have hx:l[i]?=some (l[i]'(by omega)):=by simp
  have Ie:(l.map BJ)[i]?=some (BJ (l[i]'(by omega))):=by rw [zh,hx];rfl
  have heq:=kQ (l[i]'(by omega));generalize l[i]'(by omega)=x at *;have EL:(l.map BJ).length=l.length:=y3 ..;have N5:=wrap_i64 (n:=(i:Int)+1) ⟨by omega,by omega⟩;have key:=fun e bx=>ih (i+1) e bx (by omega);have cast1:((i+1:Nat):Int)=(i:Int)+1:=by omega
  rw [cast1] at key;generalize l.map BJ=xs at *;unfold BJ at Ie heq;rw [<- Am];rw [<- Am] at key;simp only [Aa,Ac,y5,yW];simp only [S9,Ag,seval,C8,Al,Mn,Mo,X2,yX,e0,e1,e5,EL,hi,Qb,Ie,N5,heq];refine key _ _ ?_ ?_ ?_
  all_goals simp only [S7,Ag,seval,e0,e1,e5]
theorem kS (l:List Tg) (hl:l.length<=100):∃ bx,Ae CC 24 [.sl (l.map BJ),.sl (l.map BJ)] []=some (.ret (.bool true),bx):=by
 have Af:=fun L hL e bx=>kR L hL l hl l.length 0 e bx (by omega);generalize l.map BJ=xs at *;have h7:((xs.length:Int) != (xs.length:Int))=false:=by simp
 rw [Ah (fn:=y5) (c:=y5.body.getD .skip) rfl rfl Mw rfl NA (y8 rfl)];rw [<- Am];rw [<- Am] at Af;simp only [Aa,Ac,y5,yW];simp only [S9,Ag,seval,C8,Al,Mn,Mo,X2,yX,h7];generalize hE:GZ (zm _) _=z
 have hP:∃ e' bx',z=some (.exit 0,⟨e',bx'⟩):=by
  rw [<- hE];refine Af _ rfl _ _ ?_ ?_ ?_
  all_goals first | (simp only [S7,Ag,seval];done) | (simp only [S7,Ag,seval] <;> rfl)
 obtain ⟨e',bx',he⟩:=hP;subst he;simp only [S8,Ag,seval];exact ⟨_,rfl⟩
theorem qN (l:List Tg) (hl:l.length<=100) (bx):Ak CC (Ae CC) 24 [.sl (l.map BJ),.sl (l.map BJ)] bx=some (.ret (.bool true),bx):=by
 obtain ⟨q,hq⟩:=kS l hl;have hp:Aq (l.map BJ)=true:=map_pure BJ TB l;exact Ax rfl (by simp only [BE,PV.pure,hp,CZ,yZ]) hq rfl
theorem kT (L:Code) (hL:L=Aa y4 [1,1,0,1,0]) (l:List Sp) (hl:l.length<=100) (hs:∀ x ∈ l,Fi x.ex):∀ (k i:Nat) (e:List PV) (bx:List PBox),i+k=l.length->getT e 0=.sl (l.map B1)->getT e 1=.sl (l.map B1)->getT e 5=.int .i64 i->∃ e' bx',Cp CC L ⟨e,bx⟩=some (.exit 0,⟨e',bx'⟩):=by
 intro k
 induction k with
 | zero=>
  intro i e bx DF e0 e1 e5;rw [A0 (Aa y4 [1,1,0,1,0,0]) hL];have hi:¬ ((i:Int) < (l.length:Int)):=by omega
  have EL:(l.map B1).length=l.length:=y3 ..;generalize l.map B1=xs at *;rw [<- Am];simp only [Aa,Ac,y4,yW];simp only [S9,Ag,seval,C8,Al,Mn,Mo,X2,yX,e0,e1,e5,EL,hi];exact ⟨_,_,rfl⟩
 | succ k ih=>
  intro i e bx DF e0 e1 e5;rw [A0 (Aa y4 [1,1,0,1,0,0]) hL];have hi:((i:Int) < (l.length:Int)):=by omega
  have Qb:¬ ((i:Int) < 0):=by omega
  have hx:l[i]?=some (l[i]'(by omega)):=by simp
  have Ie:(l.map B1)[i]?=some (B1 (l[i]'(by omega))):=by rw [zh,hx];rfl
  have A1:=Ge (l[i]'(by omega)).ex (hs _ (zd _));generalize l[i]'(by omega)=x at *;have EL:(l.map B1).length=l.length:=y3 ..;have N5:=wrap_i64 (n:=(i:Int)+1) ⟨by omega,by omega⟩;have key:=fun e bx=>ih (i+1) e bx (by omega);have cast1:((i+1:Nat):Int)=(i:Int)+1:=by omega
  rw [cast1] at key;obtain ⟨pk,⟨dv,cl,at_⟩,pn,xk,xn,xm,xnm,xv,xkey,xkids⟩:=x;have h1:∀ z:Int,(z != z)=false:=fun z=>by simp
  have h4:HP .neq pn pn=some (.bool false):=by rw [CH];simp
  have h6:QG CC 100 32 (.agg [.int .i64 dv,.str cl,.str at_]) (.agg [.int .i64 dv,.str cl,.str at_])=some true:=by rw [jN];simp
  generalize l.map B1=xs at *;unfold B1 M7 at Ie;rw [CM] at Ie;unfold DH at A1;have vF:=By xkids;generalize BS xkids=ys at *;simp only [zo,zj] at Ie A1;rw [<- Am];rw [<- Am] at key;rw [<- AK] at A1;simp only [Aa,Ac,y4,yW];simp only [S9,Ag,seval,C8,Al,Mn,Mo,X2,yX,e0,e1,e5,EL,hi,Qb,Ie,N5,h1,h4,h6,A1,vF,PV.pure,Aq];refine key _ _ ?_ ?_ ?_
  all_goals simp only [S7,Ag,seval,e0,e1,e5]
theorem kU (l:List Sp) (hl:l.length<=100) (hs:∀ x ∈ l,Fi x.ex):∃ bx,Ae CC 25 [.sl (l.map B1),.sl (l.map B1)] []=some (.ret (.bool true),bx):=by
 have Af:=fun L hL e bx=>kT L hL l hl hs l.length 0 e bx (by omega);generalize l.map B1=xs at *;have h7:((xs.length:Int) != (xs.length:Int))=false:=by simp
 rw [Ah (fn:=y4) (c:=y4.body.getD .skip) rfl rfl P4 rfl Rs (y8 rfl)];rw [<- Am];rw [<- Am] at Af;simp only [Aa,Ac,y4,yW];simp only [S9,Ag,seval,C8,Al,Mn,Mo,X2,yX,h7];generalize hE:GZ (zm _) _=z
 have hP:∃ e' bx',z=some (.exit 0,⟨e',bx'⟩):=by
  rw [<- hE];refine Af _ rfl _ _ ?_ ?_ ?_
  all_goals first | (simp only [S7,Ag,seval];done) | (simp only [S7,Ag,seval] <;> rfl)
 obtain ⟨e',bx',he⟩:=hP;subst he;simp only [S8,Ag,seval];exact ⟨_,rfl⟩
theorem qO (l:List Sp) (hl:l.length<=100) (hs:∀ x ∈ l,Fi x.ex) (bx):Ak CC (Ae CC) 25 [.sl (l.map B1),.sl (l.map B1)] bx=some (.ret (.bool true),bx):=by
 obtain ⟨q,hq⟩:=kU l hl hs;have hp:Aq (l.map B1)=true:=map_pure B1 TC l;exact Ax rfl (by simp only [BE,PV.pure,hp,CZ,yZ]) hq rfl
def pK (r:Rl):Prop:=r.on.length<=100/\r.dos.length<=100/\Fi r.ife/\∀ x ∈ r.dos,Fi x.ex
theorem kV (L:Code) (hL:L=Aa y' [1,1,0,1,0]) (l:List Rl) (hl:l.length<=100) (hs:∀ x ∈ l,pK x):∀ (k i:Nat) (e:List PV) (bx:List PBox),i+k=l.length->getT e 0=.sl (l.map CW)->getT e 1=.sl (l.map CW)->getT e 5=.int .i64 i->∃ e' bx',Cp CC L ⟨e,bx⟩=some (.exit 0,⟨e',bx'⟩):=by
 intro k
 induction k with
 | zero=>
  intro i e bx DF e0 e1 e5;rw [A0 (Aa y' [1,1,0,1,0,0]) hL];have hi:¬ ((i:Int) < (l.length:Int)):=by omega
  have EL:(l.map CW).length=l.length:=y3 ..;generalize l.map CW=xs at *;rw [<- Am];simp only [Aa,Ac,y',yW];simp only [S9,Ag,seval,C8,Al,Mn,Mo,X2,yX,e0,e1,e5,EL,hi];exact ⟨_,_,rfl⟩
 | succ k ih=>
  intro i e bx DF e0 e1 e5;rw [A0 (Aa y' [1,1,0,1,0,0]) hL];have hi:((i:Int) < (l.length:Int)):=by omega
  have Qb:¬ ((i:Int) < 0):=by omega
  have hx:l[i]?=some (l[i]'(by omega)):=by simp
  have Ie:(l.map CW)[i]?=some (CW (l[i]'(by omega))):=by rw [zh,hx];rfl
  have iX:=hs _ (zd (h:=(by omega:i < l.length)));generalize l[i]'(by omega)=x at *;have EL:(l.map CW).length=l.length:=y3 ..;have N5:=wrap_i64 (n:=(i:Int)+1) ⟨by omega,by omega⟩;have key:=fun e bx=>ih (i+1) e bx (by omega);have cast1:((i+1:Nat):Int)=(i:Int)+1:=by omega
  rw [cast1] at key;obtain ⟨nm,pr,on,ife,dos⟩:=x;obtain ⟨s1,s2,s3,s4⟩:=iX;simp only at s1 s2 s3 s4;have A1:=Ge ife s3;have hop1:=qN on s1;have hop2:=qO dos s2 s4;have YG:Aq (on.map BJ)=true:=map_pure BJ TB on;have bu:Aq (dos.map B1)=true:=map_pure B1 TC dos;obtain ⟨xk,xn,xm,xnm,xv,xkey,xkids⟩:=ife;have h1:∀ z:Int,(z != z)=false:=fun z=>by simp
  have h4:HP .neq nm nm=some (.bool false):=by rw [CH];simp
  generalize l.map CW=xs at *;simp only [CW,Ct] at Ie;unfold DH at A1;have vF:=By xkids;generalize BS xkids=ys at *;generalize on.map BJ=os at *;generalize dos.map B1=ds at *;rw [<- Am];rw [<- Am] at key;rw [<- AK] at A1 hop1 hop2;simp only [Aa,Ac,y',yW];simp only [List.append_eq,zo,zj];simp only [S9,Ag,seval,C8,Al,Mn,Mo,X2,yX,e0,e1,e5,EL,hi,Qb,Ie,N5,h1,h4,A1,hop1,hop2,vF,YG,bu,PV.pure,Aq];refine key _ _ ?_ ?_ ?_
  all_goals simp only [S7,Ag,seval,e0,e1,e5]
theorem kW (l:List Rl) (hl:l.length<=100) (hs:∀ x ∈ l,pK x):∃ bx,Ae CC 8 [.sl (l.map CW),.sl (l.map CW)] []=some (.ret (.bool true),bx):=by
 have Af:=fun L hL e bx=>kV L hL l hl hs l.length 0 e bx (by omega);generalize l.map CW=xs at *;have h7:((xs.length:Int) != (xs.length:Int))=false:=by simp
 rw [Ah (fn:=y') (c:=y'.body.getD .skip) rfl rfl X1 rfl aj (y8 rfl)];rw [<- Am];rw [<- Am] at Af;simp only [Aa,Ac,y',yW];simp only [S9,Ag,seval,C8,Al,Mn,Mo,X2,yX,h7];generalize hE:GZ (zm _) _=z
 have hP:∃ e' bx',z=some (.exit 0,⟨e',bx'⟩):=by
  rw [<- hE];refine Af _ rfl _ _ ?_ ?_ ?_
  all_goals first | (simp only [S7,Ag,seval];done) | (simp only [S7,Ag,seval] <;> rfl)
 obtain ⟨e',bx',he⟩:=hP;subst he;simp only [S8,Ag,seval];exact ⟨_,rfl⟩
theorem Qy (l:List Rl) (hl:l.length<=100) (hs:∀ x ∈ l,pK x) (bx):Ak CC (Ae CC) 8 [.sl (l.map CW),.sl (l.map CW)] bx=some (.ret (.bool true),bx):=by
 obtain ⟨q,hq⟩:=kW l hl hs;have hp:Aq (l.map CW)=true:=map_pure CW Ej l;exact Ax rfl (by simp only [BE,PV.pure,hp,CZ,yZ]) hq rfl
end Go.HH
