/-
  What the law needs, packed: WM WN WO WP WQ.
-/
import Derived.Test.YtmiilonaehgplaaM36
namespace Go.HH
open Go Go.Proofs
set_option maxRecDepth 100000
set_option maxHeartbeats 4000000
set_option linter.unusedSimpArgs false
set_option linter.unusedVariables false
theorem ok_us1:drawOK CC (opsOf (fpart Try.f7 [1,1,1,0,1,0,1,1,1,0,1,0,1,0,0,1,0,0,1,0,0,1,0,0,0,0]))=true:=by kernel_rfl
noncomputable def IBo:TypeInfo:=(Try.prog.info? 4).getD default
theorem bsB:buildSliceP CC 39 0 []=some (.osl 4 []):=by kernel_rfl
theorem apB (st:St) (al:List (Nat×Loc)) (s x:Operand) (d:Option Tmp):appendOn CC st al s x 39 39 d=match appendAt CC st al 4 s,elemsOf (opd CC st.env x) with
 | some (l,xs),some ys=>appKR 1 1 4 st al l xs ys d
 | _,_=>none:=appendOn_eqR (i:=IBo) (by kernel_rfl) (by kernel_rfl) (by kernel_rfl) (z:=(IBo.zero).getD default) (by kernel_rfl) (by kernel_rfl) (by rw [show IBo.size=1 from by kernel_rfl];decide) (by kernel_rfl) (by kernel_rfl) (by rfl)
def HvI (l:List Up):Prop:=∀ u ∈ l,1<=u.hv.length∧u.hv.length<=64
theorem MvR.hv {l cur:List Up} (h:MvR l cur) (hi:HvI l):HvI cur:=by
 intro u' hu'
 obtain ⟨j,hj,hx⟩:=List.getElem_of_mem hu'
 have hjl:j < l.length:=by rw [<- h.1];exact hj
 obtain ⟨u2,h2,hr⟩:=h.2 j l[j] (List.getElem?_eq_getElem hjl)
 rw [List.getElem?_eq_getElem hj,hx] at h2
 injection h2 with h2
 subst h2
 have hl:=hi l[j] (List.getElem_mem _)
 rcases hr with rfl | ⟨_,_,_,_,_,hr | hr⟩
 · exact hl
 · rw [hr];exact hl
 · exact hr
theorem MvR.trans {l m n:List Up} (h:MvR l m) (k:MvR m n):MvR l n:=by
 refine ⟨k.1.trans h.1,fun j u hu=>?_⟩
 obtain ⟨u1,h1,r1⟩:=h.2 j u hu
 obtain ⟨u2,h2,r2⟩:=k.2 j u1 h1
 refine ⟨u2,h2,?_⟩
 rcases r1 with rfl | ⟨a0,a4,a5,a1,av,ah⟩
 · exact r2
 · rcases r2 with rfl | ⟨b0,b4,b5,b1,bv,bh⟩
   · exact .inr ⟨a0,a4,a5,a1,av,ah⟩
   · refine .inr ⟨a0,a4,a5,b1,bv,?_⟩
     unfold hvOK at *
     rcases bh with bh | bh
     · rw [bh];exact ah
     · exact .inr bh
theorem MvR.ne {l m:List Up} (h:MvR l m) (hl:l≠[]):m≠[]:=by
 intro e
 subst e
 have:=h.1
 exact hl (List.eq_nil_of_length_eq_zero this.symm)
def UnB (bx:List PBox):Prop:=∀ n,bx.all (·.under n)=true
theorem UnB.app {bx:List PBox} (h:UnB bx) (l:List Bool):UnB (bx++[.cells 4 (bos l)]):=fun n=>by
 rw [List.all_append,h n]
 simp only [List.all_cons,List.all_nil,PBox.under,underL_pure n (bos l) (bos_pure l),Bool.and_self]
def PIn (cur:List Up) (f:Fw) (e:List PV) (j:Nat) (keep:List Nat) (res:Option (Ex×St)):Prop:=∃ e' bx' cur',res=some (.exit j,⟨e',bx'⟩)∧getT e' 0=.sl (ups cur')∧MvR cur cur'∧bx'[0]?=some (PBox.cells 28 [.int .i64 f.vn,.int .i64 f.vr,.sl (ints f.sums)])∧UnB bx'∧∀ t ∈ keep,getT e' t=getT e t
theorem PIn.of {ev:Code->St->Option (Ex×St)} {L:Code} {st:St} {cur:List Up} {f:Fw} {e:List PV} {j:Nat} {keep:List Nat} {z:Option (Ex×St)} (hE:ev L st=z) (h:PIn cur f e j keep (ev L st)):PIn cur f e j keep z:=hE ▸ h
theorem PIn.step {cur cur2:List Up} {f:Fw} {e e2:List PV} {j:Nat} {keep:List Nat} {res:Option (Ex×St)} (hm:MvR cur cur2) (hk:∀ t ∈ keep,getT e2 t=getT e t) (h:PIn cur2 f e2 j keep res):PIn cur f e j keep res:=by
 obtain ⟨e',bx',cur',h1,h2,h3,h4,h5,h6⟩:=h
 exact ⟨e',bx',cur',h1,h2,hm.trans h3,h4,h5,fun t ht=>(h6 t ht).trans (hk t ht)⟩
theorem loop_in (L:Code) (hL:L=fpart Try.f7 [1,1,1,0,1,0,1,1,1,0,1,0,1,0,0,1,0,0,1,0]) (f:Fw) (ps:List (Int×Int)) (hps:ps.length<=100000) (i:Nat) (a b:Int) (hp:ps[i]?=some (a,b)) (N:Nat) (hN:N<=10000):∀ (k j:Nat) (cur:List Up) (e:List PV) (bx:List PBox),j+k=N->cur.length=N->cur≠[]->HvI cur ->
 getT e 0=.sl (ups cur)->getT e 5=.bp 0 0->getT e 10=.sl (pts ps)->getT e 11=.int .i64 (i:Nat)->getT e 12=.int .i64 (j:Nat)->bx[0]?=some (PBox.cells 28 [.int .i64 f.vn,.int .i64 f.vr,.sl (ints f.sums)])->UnB bx->PIn cur f e 3 [5,10,11] (evB CC L ⟨e,bx⟩):=by
 intro k
 induction k with
 | zero=>
  intro j cur e bx hk hcl hne hhi h0 h5 h10 h11 h12 hb hu
  rw [evB_at (fpart Try.f7 [1,1,1,0,1,0,1,1,1,0,1,0,1,0,0,1,0,0,1,0,0]) hL]
  have hi:¬ ((j:Int) < (cur.length:Int)):=by omega
  have hln:=ups_length cur
  have hfin:∀ e',getT e' 0=.sl (ups cur)->(∀ t ∈ ([5,10,11]:List Nat),getT e' t=getT e t)->PIn cur f e 3 [5,10,11] (some (.exit 3,⟨e',bx⟩)):=fun e' g0 gk=>⟨e',bx,cur,rfl,g0,MvR.refl _,hb,hu,gk⟩
  generalize ups cur=xs at *
  obtain ⟨fa,fb,fv,hfn⟩:=FNs
  obtain ⟨dr,ev,eo,so,co,⟨hev,hco,heo,hdr⟩,R⟩:=RULESB CC
  rw [<- hev]
  simp only [fpart,part',Try.f7,Option.getD]
  simp (maxSteps:=5000000) only [SA,SB,SD,R,SF,SG,SH,seval,TG,SE,SC,UTT,ZCT,RV,dynR,hfn,nchP,List.getElem?_concat_length,ss1,List.set_cons_zero,List.set_cons_succ,Bool.not_not,strP_eql,strP_neq,h0,h5,h10,h11,h12,hi,hln]
  exact hfin _ (by simp (maxSteps:=5000000) only [SA,SB,SD,R,SF,seval,h0]) (by intro t ht;simp only [List.mem_cons,List.not_mem_nil,or_false] at ht;(repeat' (first | rcases ht with rfl | ht)) <;> (try subst ht) <;> simp (maxSteps:=5000000) only [SA,SB,SD,R,SF,seval])
 | succ k ih=>
  intro j cur e bx hk hcl hne hhi h0 h5 h10 h11 h12 hb hu
  rw [evB_at (fpart Try.f7 [1,1,1,0,1,0,1,1,1,0,1,0,1,0,0,1,0,0,1,0,0]) hL]
  have hi:((j:Int) < (cur.length:Int)):=by omega
  have hi0:¬ ((j:Int) < 0):=by omega
  have hii0:¬ ((i:Int) < 0):=by omega
  have hw:=wrap_i64 (n:=(j:Int)+1) ⟨by omega,by omega⟩
  have key:=fun cur e bx=>ih (j+1) cur e bx (by omega)
  have cast1:((j+1:Nat):Int)=(j:Int)+1:=by omega
  rw [cast1] at key
  have hx:=ups_get (l:=cur) (i:=j) (u:=cur[j]'(by omega)) (List.getElem?_eq_getElem (by omega))
  have hxh:=hhi (cur[j]'(by omega)) (List.getElem_mem _)
  generalize cur[j]'(by omega)=x at *
  have hln:=ups_length cur
  have hpx:(pts ps)[i]?=some (.agg [.int .i64 a,.int .i64 b]):=map_get (f:=fun p:Int×Int=>PV.agg [.int .i64 p.1,.int .i64 p.2]) hp
  have hd1:=fun st=>drawM_calm (call:=callL CC) (st:=st) ok_us1
  have hd:∀ (nh:List Bool) e,nh.length=x.hv.length->getT e 0=.sl (ups cur)->getT e 5=.bp 0 0->getT e 10=.sl (pts ps)->getT e 11=.int .i64 (i:Nat)->getT e 13=.rs bx.length x.hv.length->PUs cur (bx++[.cells 4 (bos nh)]) e (drawAll CC (callL CC) (opsOf (fpart Try.f7 [1,1,1,0,1,0,1,1,1,0,1,0,1,0,0,1,0,0,1,0,0,1,0,0,1,1,1])) ⟨e,bx++[.cells 4 (bos nh)]⟩):=fun nh e hnl g0 g5 g10 g11 g13=>
   draw_us (h:=nh) _ e hne (by omega) (fun u hu=>by have:=hhi u hu;omega) (.inr ⟨bx.length,by rw [hnl],List.getElem?_concat_length⟩) (hu.app nh _) hp (get_app hb _) g0 g5 g10 g11 g13
  simp only [<- drawM_all no_us] at hd
  have hbs:=bsB
  have hap:=fun st al l d=>appKR_ok (bytes:=1) (size:=1) (e:=4) (st:=st) (al:=al) (l:=l) (d:=d) (ys:=bos x.hv) (by rw [bos_length];omega) (by cases hv:x.hv with | nil=>rw [hv] at hxh;simp at hxh | cons b r=>rfl) (by decide) (bos_cells x.hv)
  simp only [flat_bos,bos_ro,bos_length] at hap
  have hnx:∀ nh cur2 e,MvR cur cur2->getT e 0=.sl (ups cur2)->getT e 5=.bp 0 0->getT e 10=.sl (pts ps)->getT e 11=.int .i64 (i:Nat)->getT e 12=.int .i64 ((j:Int)+1)->PIn cur2 f e 3 [5,10,11] (evB CC L ⟨e,bx++[.cells 4 (bos nh)]⟩):=fun nh cur2 e hm g0 g5 g10 g11 g12=>key cur2 e _ (hm.1.trans hcl) (hm.ne hne) (hm.hv hhi) g0 g5 g10 g11 g12 (get_app hb _) (hu.app nh)
  have hnx0:∀ e,getT e 0=.sl (ups cur)->getT e 5=.bp 0 0->getT e 10=.sl (pts ps)->getT e 11=.int .i64 (i:Nat)->getT e 12=.int .i64 ((j:Int)+1)->PIn cur f e 3 [5,10,11] (evB CC L ⟨e,bx⟩):=fun e g0 g5 g10 g11 g12=>key cur e _ hcl hne hhi g0 g5 g10 g11 g12 hb hu
  have hbl:=bos_length x.hv
  have hst:∀ (hb1:0<=b) (hb2:b < x.hv.length),b.toNat+[PV.bool true].length<=(bos x.hv).length∧lay (bos x.hv) b.toNat [.bool true]=bos (x.hv.set b.toNat true):=fun hb1 hb2=>⟨by rw [bos_length,List.length_singleton];omega,by
   unfold lay bos
   rw [List.set_eq_take_append_cons_drop,if_pos (by omega),List.map_append,List.map_take,List.map_cons,List.map_drop]
   simp⟩
  clear ih key
  obtain ⟨dv,st,vr,pv,sn,hv⟩:=x
  unfold upV upC at hx
  simp only at hx hxh hd hap hbl hst
  obtain ⟨fa,fb,fv,hfn⟩:=FNs
  by_cases d0:dv=a
  · have d1:(dv != a)=false:=by simp [d0]
    by_cases c1:b ≥ 0
    · by_cases c2:b < (hv.length:Int)
      · obtain ⟨hs1,hs2⟩:=hst (by omega) c2
        have hnb:¬ (b < 0):=by omega
        have hbn:b.toNat < hv.length:=by omega
        have hd:=hd (hv.set b.toNat true)
        rw [List.length_set] at hd
        have hnx:=hnx (hv.set b.toNat true)
        rw [<- hs2] at hd hnx
        have hsc:storeCellsP (bx++[.cells 4 (bos hv)]) bx.length b.toNat [.bool true]=some (bx++[.cells 4 (lay (bos hv) b.toNat [.bool true])]):=storeCells_last bx 4 (bos hv) b.toNat [.bool true] hs1 rfl
        generalize lay (bos hv) b.toNat [.bool true]=ys2 at *
        generalize bos hv=ys at *
        obtain ⟨dr,ev,eo,so,co,⟨hev,hco,heo,hdr⟩,R⟩:=RULESB CC
        rw [<- hev]
        rw [<- hdr,<- heo] at hd1
        rw [<- hdr] at hd
        rw [<- hev] at hnx
        simp only [opsOf,fpart,part',Try.f7,Option.getD] at⊢hd1 hd
        simp (maxSteps:=5000000) only [SA,SB,SD,R,SF,SG,seval,TG,SE,SC,UTT,ZCT,RV,dynR,hfn,nchP,List.getElem?_concat_length,storeR,storeK,laid,ss1,List.set_cons_zero,List.set_cons_succ,Bool.not_not,strP_eql,strP_neq,h0,h5,h10,h11,h12,hi,hi0,hii0,hln,hx,hpx,hd1,d1,hbs,apB,hap,c1,c2,hnb,hbn,hsc,Nat.mul_one]
        generalize hE:dr _ _=z
        obtain ⟨e',cur2,hmv,he,g0,gk⟩:=PUs.of hE (hd _ (by first | exact trivial | rfl) (by simp (maxSteps:=5000000) only [SA,SB,SD,R,SF,seval,h0]) (by simp (maxSteps:=5000000) only [SA,SB,SD,R,SF,seval,h5]) (by simp (maxSteps:=5000000) only [SA,SB,SD,R,SF,seval,h10]) (by simp (maxSteps:=5000000) only [SA,SB,SD,R,SF,seval,h11]) (by simp (maxSteps:=5000000) only [SA,SB,SD,R,SF,seval] <;> rfl))
        have g5:=gk 5 (by decide) (by decide)
        have g10:=gk 10 (by decide) (by decide)
        have g11:=gk 11 (by decide) (by decide)
        have g12:=gk 12 (by decide) (by decide)
        simp (maxSteps:=5000000) only [SA,SB,SD,R,SF,seval,h5,h10,h11,h12] at g5 g10 g11 g12
        subst he
        clear hd hE gk
        simp (maxSteps:=5000000) only [SA,SB,SD,R,SF,SG,seval,TG,SE,SC,UTT,ZCT,RV,dynR,hfn,nchP,List.getElem?_concat_length,storeR,storeK,laid,ss1,List.set_cons_zero,List.set_cons_succ,Bool.not_not,strP_eql,strP_neq,g0,g5,g10,g11,g12,hw]
        refine PIn.step hmv (by intro t ht;simp only [List.mem_cons,List.not_mem_nil,or_false] at ht;(repeat' (first | rcases ht with rfl | ht)) <;> (try subst ht) <;> simp (maxSteps:=5000000) only [SA,SB,SD,R,SF,seval,g5,g10,g11,h5,h10,h11]) (hnx cur2 _ hmv ?_ ?_ ?_ ?_ ?_)
        · simp (maxSteps:=5000000) only [SA,SB,SD,R,SF,seval,g0]
        · simp (maxSteps:=5000000) only [SA,SB,SD,R,SF,seval,g5]
        · simp (maxSteps:=5000000) only [SA,SB,SD,R,SF,seval,g10]
        · simp (maxSteps:=5000000) only [SA,SB,SD,R,SF,seval,g11]
        · simp (maxSteps:=5000000) only [SA,SB,SD,R,SF,seval]
      · have hd:=hd hv
        have hnx:=hnx hv
        generalize bos hv=ys at *
        obtain ⟨dr,ev,eo,so,co,⟨hev,hco,heo,hdr⟩,R⟩:=RULESB CC
        rw [<- hev]
        rw [<- hdr,<- heo] at hd1
        rw [<- hdr] at hd
        rw [<- hev] at hnx
        simp only [opsOf,fpart,part',Try.f7,Option.getD] at⊢hd1 hd
        simp (maxSteps:=5000000) only [SA,SB,SD,R,SF,SG,seval,TG,SE,SC,UTT,ZCT,RV,dynR,hfn,nchP,List.getElem?_concat_length,storeR,storeK,laid,ss1,List.set_cons_zero,List.set_cons_succ,Bool.not_not,strP_eql,strP_neq,h0,h5,h10,h11,h12,hi,hi0,hii0,hln,hx,hpx,hd1,d1,hbs,apB,hap,c1,c2]
        generalize hE:dr _ _=z
        obtain ⟨e',cur2,hmv,he,g0,gk⟩:=PUs.of hE (hd _ (by first | exact trivial | rfl) (by simp (maxSteps:=5000000) only [SA,SB,SD,R,SF,seval,h0]) (by simp (maxSteps:=5000000) only [SA,SB,SD,R,SF,seval,h5]) (by simp (maxSteps:=5000000) only [SA,SB,SD,R,SF,seval,h10]) (by simp (maxSteps:=5000000) only [SA,SB,SD,R,SF,seval,h11]) (by simp (maxSteps:=5000000) only [SA,SB,SD,R,SF,seval] <;> rfl))
        have g5:=gk 5 (by decide) (by decide)
        have g10:=gk 10 (by decide) (by decide)
        have g11:=gk 11 (by decide) (by decide)
        have g12:=gk 12 (by decide) (by decide)
        simp (maxSteps:=5000000) only [SA,SB,SD,R,SF,seval,h5,h10,h11,h12] at g5 g10 g11 g12
        subst he
        clear hd hE gk
        simp (maxSteps:=5000000) only [SA,SB,SD,R,SF,SG,seval,TG,SE,SC,UTT,ZCT,RV,dynR,hfn,nchP,List.getElem?_concat_length,storeR,storeK,laid,ss1,List.set_cons_zero,List.set_cons_succ,Bool.not_not,strP_eql,strP_neq,g0,g5,g10,g11,g12,hw]
        refine PIn.step hmv (by intro t ht;simp only [List.mem_cons,List.not_mem_nil,or_false] at ht;(repeat' (first | rcases ht with rfl | ht)) <;> (try subst ht) <;> simp (maxSteps:=5000000) only [SA,SB,SD,R,SF,seval,g5,g10,g11,h5,h10,h11]) (hnx cur2 _ hmv ?_ ?_ ?_ ?_ ?_)
        · simp (maxSteps:=5000000) only [SA,SB,SD,R,SF,seval,g0]
        · simp (maxSteps:=5000000) only [SA,SB,SD,R,SF,seval,g5]
        · simp (maxSteps:=5000000) only [SA,SB,SD,R,SF,seval,g10]
        · simp (maxSteps:=5000000) only [SA,SB,SD,R,SF,seval,g11]
        · simp (maxSteps:=5000000) only [SA,SB,SD,R,SF,seval]
    · have hd:=hd hv
      have hnx:=hnx hv
      generalize bos hv=ys at *
      obtain ⟨dr,ev,eo,so,co,⟨hev,hco,heo,hdr⟩,R⟩:=RULESB CC
      rw [<- hev]
      rw [<- hdr,<- heo] at hd1
      rw [<- hdr] at hd
      rw [<- hev] at hnx
      simp only [opsOf,fpart,part',Try.f7,Option.getD] at⊢hd1 hd
      simp (maxSteps:=5000000) only [SA,SB,SD,R,SF,SG,seval,TG,SE,SC,UTT,ZCT,RV,dynR,hfn,nchP,List.getElem?_concat_length,storeR,storeK,laid,ss1,List.set_cons_zero,List.set_cons_succ,Bool.not_not,strP_eql,strP_neq,h0,h5,h10,h11,h12,hi,hi0,hii0,hln,hx,hpx,hd1,d1,hbs,apB,hap,c1]
      generalize hE:dr _ _=z
      obtain ⟨e',cur2,hmv,he,g0,gk⟩:=PUs.of hE (hd _ (by first | exact trivial | rfl) (by simp (maxSteps:=5000000) only [SA,SB,SD,R,SF,seval,h0]) (by simp (maxSteps:=5000000) only [SA,SB,SD,R,SF,seval,h5]) (by simp (maxSteps:=5000000) only [SA,SB,SD,R,SF,seval,h10]) (by simp (maxSteps:=5000000) only [SA,SB,SD,R,SF,seval,h11]) (by simp (maxSteps:=5000000) only [SA,SB,SD,R,SF,seval] <;> rfl))
      have g5:=gk 5 (by decide) (by decide)
      have g10:=gk 10 (by decide) (by decide)
      have g11:=gk 11 (by decide) (by decide)
      have g12:=gk 12 (by decide) (by decide)
      simp (maxSteps:=5000000) only [SA,SB,SD,R,SF,seval,h5,h10,h11,h12] at g5 g10 g11 g12
      subst he
      clear hd hE gk
      simp (maxSteps:=5000000) only [SA,SB,SD,R,SF,SG,seval,TG,SE,SC,UTT,ZCT,RV,dynR,hfn,nchP,List.getElem?_concat_length,storeR,storeK,laid,ss1,List.set_cons_zero,List.set_cons_succ,Bool.not_not,strP_eql,strP_neq,g0,g5,g10,g11,g12,hw]
      refine PIn.step hmv (by intro t ht;simp only [List.mem_cons,List.not_mem_nil,or_false] at ht;(repeat' (first | rcases ht with rfl | ht)) <;> (try subst ht) <;> simp (maxSteps:=5000000) only [SA,SB,SD,R,SF,seval,g5,g10,g11,h5,h10,h11]) (hnx cur2 _ hmv ?_ ?_ ?_ ?_ ?_)
      · simp (maxSteps:=5000000) only [SA,SB,SD,R,SF,seval,g0]
      · simp (maxSteps:=5000000) only [SA,SB,SD,R,SF,seval,g5]
      · simp (maxSteps:=5000000) only [SA,SB,SD,R,SF,seval,g10]
      · simp (maxSteps:=5000000) only [SA,SB,SD,R,SF,seval,g11]
      · simp (maxSteps:=5000000) only [SA,SB,SD,R,SF,seval]
  · have d1:(dv != a)=true:=by simpa using d0
    generalize bos hv=ys at *
    obtain ⟨dr,ev,eo,so,co,⟨hev,hco,heo,hdr⟩,R⟩:=RULESB CC
    rw [<- hev]
    rw [<- hdr,<- heo] at hd1
    rw [<- hev] at hnx0
    simp only [opsOf,fpart,part',Try.f7,Option.getD] at⊢hd1
    simp (maxSteps:=5000000) only [SA,SB,SD,R,SF,SG,seval,TG,SE,SC,UTT,ZCT,RV,dynR,hfn,nchP,List.getElem?_concat_length,storeR,storeK,laid,ss1,List.set_cons_zero,List.set_cons_succ,Bool.not_not,strP_eql,strP_neq,h0,h5,h10,h11,h12,hi,hi0,hii0,hln,hx,hpx,hd1,d1,hw]
    refine PIn.step (MvR.refl _) (by intro t ht;simp only [List.mem_cons,List.not_mem_nil,or_false] at ht;(repeat' (first | rcases ht with rfl | ht)) <;> (try subst ht) <;> simp (maxSteps:=5000000) only [SA,SB,SD,R,SF,seval]) (hnx0 _ ?_ ?_ ?_ ?_ ?_)
    · simp (maxSteps:=5000000) only [SA,SB,SD,R,SF,seval,h0]
    · simp (maxSteps:=5000000) only [SA,SB,SD,R,SF,seval,h5]
    · simp (maxSteps:=5000000) only [SA,SB,SD,R,SF,seval,h10]
    · simp (maxSteps:=5000000) only [SA,SB,SD,R,SF,seval,h11]
    · simp (maxSteps:=5000000) only [SA,SB,SD,R,SF,seval]
end Go.HH
namespace Go.HH
open Go Go.Proofs
set_option maxRecDepth 100000
set_option maxHeartbeats 4000000
set_option linter.unusedSimpArgs false
set_option linter.unusedVariables false
theorem okB_Us:fnOKB CC Try.f7 (Try.f7.body.getD .skip)=true:=by kernel_rfl
theorem noB_Us:fnOK CC Try.f7 (Try.f7.body.getD .skip)=false:=by kernel_rfl
theorem fat_Us:CC.P.funcs[7]?=some Try.f7:=by kernel_rfl
theorem cv16 (b:Nat) (h:b < 65536):convP CC 35 3 (.int .u16 (b:Nat))=some (.int .i64 (b:Nat)):=by
 have u1:CC.P.underlying 35=some (.int .u16):=by kernel_rfl
 have u2:CC.P.underlying 3=some (.int .i64):=by kernel_rfl
 simp only [convP,u1,u2,wrap_i64 (n:=(b:Int)) ⟨by omega,by omega⟩]
theorem loop_out (L:Code) (hL:L=fpart Try.f7 [1,1,1,0,1,0,1,1,1,0,1,0,1,0]) (f:Fw) (ps:List (Int×Int)) (hps:ps.length<=100000) (N:Nat) (hN:N<=10000):∀ (k i:Nat) (cur:List Up) (e:List PV) (bx:List PBox),i+k=ps.length->cur.length=N->cur≠[]->HvI cur ->
 getT e 0=.sl (ups cur)->getT e 5=.bp 0 0->getT e 10=.sl (pts ps)->getT e 11=.int .i64 (i:Nat)->bx[0]?=some (PBox.cells 28 [.int .i64 f.vn,.int .i64 f.vr,.sl (ints f.sums)])->UnB bx->PIn cur f e 1 [] (evB CC L ⟨e,bx⟩):=by
 intro k
 induction k with
 | zero=>
  intro i cur e bx hk hcl hne hhi h0 h5 h10 h11 hb hu
  rw [evB_at (fpart Try.f7 [1,1,1,0,1,0,1,1,1,0,1,0,1,0,0]) hL]
  have hi:¬ ((i:Int) < (ps.length:Int)):=by omega
  have hln:=pts_length ps
  have hfin:∀ e',getT e' 0=.sl (ups cur)->PIn cur f e 1 [] (some (.exit 1,⟨e',bx⟩)):=fun e' g0=>⟨e',bx,cur,rfl,g0,MvR.refl _,hb,hu,fun t ht=>(by cases ht)⟩
  generalize ups cur=xs at *
  generalize pts ps=ys at *
  obtain ⟨fa,fb,fv,hfn⟩:=FNs
  obtain ⟨dr,ev,eo,so,co,⟨hev,hco,heo,hdr⟩,R⟩:=RULESB CC
  rw [<- hev]
  simp only [fpart,part',Try.f7,Option.getD]
  simp (maxSteps:=5000000) only [SA,SB,SD,R,SF,SG,SH,seval,TG,SE,SC,UTT,ZCT,RV,dynR,hfn,nchP,List.getElem?_concat_length,ss1,List.set_cons_zero,List.set_cons_succ,Bool.not_not,strP_eql,strP_neq,h0,h5,h10,h11,hi,hln]
  exact hfin _ (by simp (maxSteps:=5000000) only [SA,SB,SD,R,SF,seval,h0])
 | succ k ih=>
  intro i cur e bx hk hcl hne hhi h0 h5 h10 h11 hb hu
  rw [evB_at (fpart Try.f7 [1,1,1,0,1,0,1,1,1,0,1,0,1,0,0]) hL]
  have hi:((i:Int) < (ps.length:Int)):=by omega
  have hw:=wrap_i64 (n:=(i:Int)+1) ⟨by omega,by omega⟩
  have key:=fun cur e bx=>ih (i+1) cur e bx (by omega)
  have cast1:((i+1:Nat):Int)=(i:Int)+1:=by omega
  rw [cast1] at key
  have hp:ps[i]?=some (ps[i]'(by omega)):=List.getElem?_eq_getElem (by omega)
  generalize ps[i]'(by omega)=p at *
  have hloop:=fun e=>loop_in _ rfl f ps hps i p.1 p.2 hp N hN cur.length 0 cur e bx (by omega) hcl hne hhi
  have hln:=pts_length ps
  have hnx:∀ cur2 e bx2,MvR cur cur2->getT e 0=.sl (ups cur2)->getT e 5=.bp 0 0->getT e 10=.sl (pts ps)->getT e 11=.int .i64 ((i:Int)+1)->bx2[0]?=some (PBox.cells 28 [.int .i64 f.vn,.int .i64 f.vr,.sl (ints f.sums)])->UnB bx2->PIn cur2 f e 1 [] (evB CC L ⟨e,bx2⟩):=fun cur2 e bx2 hm g0 g5 g10 g11 hb2 hu2=>key cur2 e bx2 (hm.1.trans hcl) (hm.ne hne) (hm.hv hhi) g0 g5 g10 g11 hb2 hu2
  clear ih key
  generalize pts ps=ys at *
  obtain ⟨fa,fb,fv,hfn⟩:=FNs
  obtain ⟨dr,ev,eo,so,co,⟨hev,hco,heo,hdr⟩,R⟩:=RULESB CC
  rw [<- hev]
  rw [<- hev] at hloop hnx
  simp only [fpart,part',Try.f7,Option.getD] at hloop ⊢
  simp (maxSteps:=5000000) only [SA,SB,SD,R,SF,SG,SH,seval,TG,SE,SC,UTT,ZCT,RV,dynR,hfn,nchP,List.getElem?_concat_length,ss1,List.set_cons_zero,List.set_cons_succ,Bool.not_not,strP_eql,strP_neq,h0,h5,h10,h11,hi,hln]
  generalize hE:ev _ _=z
  obtain ⟨e',bx',cur2,he,g0,hmv,hb2,hu2,gk⟩:=PIn.of hE (hloop _ (by simp (maxSteps:=5000000) only [SA,SB,SD,R,SF,seval,h0]) (by simp (maxSteps:=5000000) only [SA,SB,SD,R,SF,seval,h5]) (by simp (maxSteps:=5000000) only [SA,SB,SD,R,SF,seval,h10]) (by simp (maxSteps:=5000000) only [SA,SB,SD,R,SF,seval,h11]) (by simp (maxSteps:=5000000) only [SA,SB,SD,R,SF,seval] <;> rfl) hb hu)
  have g5:=gk 5 (by simp)
  have g10:=gk 10 (by simp)
  have g11:=gk 11 (by simp)
  simp (maxSteps:=5000000) only [SA,SB,SD,R,SF,seval,h5,h10,h11] at g5 g10 g11
  subst he
  clear hloop hE gk
  simp (maxSteps:=5000000) only [SA,SB,SD,R,SF,SG,SH,seval,TG,SE,SC,UTT,ZCT,RV,dynR,hfn,nchP,List.getElem?_concat_length,ss1,List.set_cons_zero,List.set_cons_succ,Bool.not_not,strP_eql,strP_neq,g0,g5,g10,g11,hw]
  refine PIn.step (e2:=e) hmv (fun t ht=>(by cases ht)) ?_
  refine PIn.step (MvR.refl _) (fun t ht=>(by cases ht)) (hnx cur2 _ bx' hmv ?_ ?_ ?_ ?_ hb2 hu2)
  · simp (maxSteps:=5000000) only [SA,SB,SD,R,SF,seval,g0]
  · simp (maxSteps:=5000000) only [SA,SB,SD,R,SF,seval,g5]
  · simp (maxSteps:=5000000) only [SA,SB,SD,R,SF,seval,g10]
  · simp (maxSteps:=5000000) only [SA,SB,SD,R,SF,seval]
def NxR (l:List Up) (f:Fw) (cur:List Up):Prop:=StartR l f cur∨MvR l cur
def stV (a b c:Nat):PV:=.agg [.int .u16 (a:Nat),.int .u16 (b:Nat),.int .u16 (c:Nat)]
theorem call_us0 (l:List Up) (hne:l≠[]) (hl:l.length<=10000) (hhi:HvI l) (f:Fw) (a b c:Nat) (hb:b < 65536) (t:Int) (hk:(a:Int).tmod 6=0):∃ cur,NxR l f cur∧∃ bx,callL CC 7 [.sl (ups l),fwV f,stV a b c,.int .i64 t] []=some (.ret (.sl (ups cur)),bx):=by
 rw [callL_enterB (fn:=Try.f7) (c:=Try.f7.body.getD .skip) rfl rfl fat_Us rfl noB_Us okB_Us (Nat.le_of_ble_eq_true rfl)]
 have hh:∀ u ∈ l,u.hv.length<=1000000:=fun u hu=>by have:=hhi u hu;omega
 have hw1:=cv16 b hb
 have hlp:=List.length_pos_iff.2 hne
 have hlen:((l.length:Int) > 0):=by omega
 have hlen0:¬ ((l.length:Int)=0):=by omega
 have htm:(b:Int).tmod (l.length:Int)=((b % l.length:Nat):Int):=rfl
 have hml:b % l.length < l.length:=Nat.mod_lt _ hlp
 have hx:=ups_get (l:=l) (i:=b % l.length) (u:=l[b % l.length]'hml) (List.getElem?_eq_getElem hml)
 generalize l[b % l.length]'hml=u at *
 generalize b % l.length=r at *
 have hr0:¬ ((r:Int) < 0):=by omega
 have hln:=ups_length l
 have hsp:=ups_pure l
 have hsi:pureL (ints f.sums)=true:=pureL_ints f.sums
 obtain ⟨fa,fb,fv,hfn⟩:=FNs
 obtain ⟨cur,hrel,hop⟩:=op_Start l hne (by omega) hh f t
 obtain ⟨dv,st,vr,pv,sn,hv⟩:=u
 obtain ⟨vn,fvr,fs⟩:=f
 unfold upV upC at hx
 unfold stV
 unfold fwV at *
 simp only at *
 refine ⟨cur,.inl hrel,?_⟩
 generalize bos hv=ys at *
 generalize hxs:ups l=xs at *
 generalize ints fs=zs at *
 obtain ⟨dr,ev,eo,so,co,⟨hev,hco,heo,hdr⟩,R⟩:=RULESB CC
 rw [<- hev]
 rw [<- hco] at hop
 simp only [opsOf,fpart,part',Try.f7,Option.getD] at ⊢
 simp (maxSteps:=5000000) only [SA,SB,SD,R,SF,SG,SH,seval,TG,SE,SC,UTT,ZCT,RV,dynR,hfn,nchP,List.getElem?_concat_length,ss1,List.set_cons_zero,List.set_cons_succ,Bool.not_not,strP_eql,strP_neq,hw1,hlen,hlen0,htm,hx,hr0,hln,hsp,hsi,hk,hop]
 exact ⟨_,rfl⟩
theorem call_us2 (l:List Up) (hne:l≠[]) (hl:l.length<=10000) (hhi:HvI l) (f:Fw) (a b c:Nat) (hb:b < 65536) (t:Int) (hk:(a:Int).tmod 6=2):∃ cur,NxR l f cur∧∃ bx,callL CC 7 [.sl (ups l),fwV f,stV a b c,.int .i64 t] []=some (.ret (.sl (ups cur)),bx):=by
 rw [callL_enterB (fn:=Try.f7) (c:=Try.f7.body.getD .skip) rfl rfl fat_Us rfl noB_Us okB_Us (Nat.le_of_ble_eq_true rfl)]
 have hh:∀ u ∈ l,u.hv.length<=1000000:=fun u hu=>by have:=hhi u hu;omega
 have hw1:=cv16 b hb
 have hlp:=List.length_pos_iff.2 hne
 have hlen:((l.length:Int) > 0):=by omega
 have hlen0:¬ ((l.length:Int)=0):=by omega
 have htm:(b:Int).tmod (l.length:Int)=((b % l.length:Nat):Int):=rfl
 have hml:b % l.length < l.length:=Nat.mod_lt _ hlp
 have hx:=ups_get (l:=l) (i:=b % l.length) (u:=l[b % l.length]'hml) (List.getElem?_eq_getElem hml)
 generalize l[b % l.length]'hml=u at *
 generalize b % l.length=r at *
 have hr0:¬ ((r:Int) < 0):=by omega
 have hln:=ups_length l
 have hsp:=ups_pure l
 have hsi:pureL (ints f.sums)=true:=pureL_ints f.sums
 obtain ⟨fa,fb,fv,hfn⟩:=FNs
 have hop:=op_Install l hne (by omega) hh f u.dv t
 have hrel:=instF_mv l f u.dv t
 generalize instF l f u.dv t=cur at *
 obtain ⟨dv,st,vr,pv,sn,hv⟩:=u
 obtain ⟨vn,fvr,fs⟩:=f
 unfold upV upC at hx
 unfold stV
 unfold fwV at *
 simp only at *
 refine ⟨cur,.inr hrel,?_⟩
 generalize bos hv=ys at *
 generalize hxs:ups l=xs at *
 generalize ints fs=zs at *
 obtain ⟨dr,ev,eo,so,co,⟨hev,hco,heo,hdr⟩,R⟩:=RULESB CC
 rw [<- hev]
 rw [<- hco] at hop
 simp only [opsOf,fpart,part',Try.f7,Option.getD] at ⊢
 simp (maxSteps:=5000000) only [SA,SB,SD,R,SF,SG,SH,seval,TG,SE,SC,UTT,ZCT,RV,dynR,hfn,nchP,List.getElem?_concat_length,ss1,List.set_cons_zero,List.set_cons_succ,Bool.not_not,strP_eql,strP_neq,hw1,hlen,hlen0,htm,hx,hr0,hln,hsp,hsi,hk,hop]
 exact ⟨_,rfl⟩
theorem call_us3 (l:List Up) (hne:l≠[]) (hl:l.length<=10000) (hhi:HvI l) (f:Fw) (a b c:Nat) (hb:b < 65536) (t:Int) (hk:(a:Int).tmod 6=3):∃ cur,NxR l f cur∧∃ bx,callL CC 7 [.sl (ups l),fwV f,stV a b c,.int .i64 t] []=some (.ret (.sl (ups cur)),bx):=by
 rw [callL_enterB (fn:=Try.f7) (c:=Try.f7.body.getD .skip) rfl rfl fat_Us rfl noB_Us okB_Us (Nat.le_of_ble_eq_true rfl)]
 have hh:∀ u ∈ l,u.hv.length<=1000000:=fun u hu=>by have:=hhi u hu;omega
 have hw1:=cv16 b hb
 have hlp:=List.length_pos_iff.2 hne
 have hlen:((l.length:Int) > 0):=by omega
 have hlen0:¬ ((l.length:Int)=0):=by omega
 have htm:(b:Int).tmod (l.length:Int)=((b % l.length:Nat):Int):=rfl
 have hml:b % l.length < l.length:=Nat.mod_lt _ hlp
 have hx:=ups_get (l:=l) (i:=b % l.length) (u:=l[b % l.length]'hml) (List.getElem?_eq_getElem hml)
 generalize l[b % l.length]'hml=u at *
 generalize b % l.length=r at *
 have hr0:¬ ((r:Int) < 0):=by omega
 have hln:=ups_length l
 have hsp:=ups_pure l
 have hsi:pureL (ints f.sums)=true:=pureL_ints f.sums
 obtain ⟨fa,fb,fv,hfn⟩:=FNs
 obtain ⟨cur,hrel,hop⟩:=op_Confirm l hne (by omega) hh u.dv true t
 obtain ⟨dv,st,vr,pv,sn,hv⟩:=u
 obtain ⟨vn,fvr,fs⟩:=f
 unfold upV upC at hx
 unfold stV
 unfold fwV at *
 simp only at *
 refine ⟨cur,.inr hrel,?_⟩
 generalize bos hv=ys at *
 generalize hxs:ups l=xs at *
 generalize ints fs=zs at *
 obtain ⟨dr,ev,eo,so,co,⟨hev,hco,heo,hdr⟩,R⟩:=RULESB CC
 rw [<- hev]
 rw [<- hco] at hop
 simp only [opsOf,fpart,part',Try.f7,Option.getD] at ⊢
 simp (maxSteps:=5000000) only [SA,SB,SD,R,SF,SG,SH,seval,TG,SE,SC,UTT,ZCT,RV,dynR,hfn,nchP,List.getElem?_concat_length,ss1,List.set_cons_zero,List.set_cons_succ,Bool.not_not,strP_eql,strP_neq,hw1,hlen,hlen0,htm,hx,hr0,hln,hsp,hsi,hk,hop]
 exact ⟨_,rfl⟩
theorem call_us4 (l:List Up) (hne:l≠[]) (hl:l.length<=10000) (hhi:HvI l) (f:Fw) (a b c:Nat) (hb:b < 65536) (t:Int) (hk:(a:Int).tmod 6=4):∃ cur,NxR l f cur∧∃ bx,callL CC 7 [.sl (ups l),fwV f,stV a b c,.int .i64 t] []=some (.ret (.sl (ups cur)),bx):=by
 rw [callL_enterB (fn:=Try.f7) (c:=Try.f7.body.getD .skip) rfl rfl fat_Us rfl noB_Us okB_Us (Nat.le_of_ble_eq_true rfl)]
 have hh:∀ u ∈ l,u.hv.length<=1000000:=fun u hu=>by have:=hhi u hu;omega
 have hw1:=cv16 b hb
 have hlp:=List.length_pos_iff.2 hne
 have hlen:((l.length:Int) > 0):=by omega
 have hlen0:¬ ((l.length:Int)=0):=by omega
 have htm:(b:Int).tmod (l.length:Int)=((b % l.length:Nat):Int):=rfl
 have hml:b % l.length < l.length:=Nat.mod_lt _ hlp
 have hx:=ups_get (l:=l) (i:=b % l.length) (u:=l[b % l.length]'hml) (List.getElem?_eq_getElem hml)
 generalize l[b % l.length]'hml=u at *
 generalize b % l.length=r at *
 have hr0:¬ ((r:Int) < 0):=by omega
 have hln:=ups_length l
 have hsp:=ups_pure l
 have hsi:pureL (ints f.sums)=true:=pureL_ints f.sums
 obtain ⟨fa,fb,fv,hfn⟩:=FNs
 obtain ⟨cur,hrel,hop⟩:=op_Confirm l hne (by omega) hh u.dv false t
 obtain ⟨dv,st,vr,pv,sn,hv⟩:=u
 obtain ⟨vn,fvr,fs⟩:=f
 unfold upV upC at hx
 unfold stV
 unfold fwV at *
 simp only at *
 refine ⟨cur,.inr hrel,?_⟩
 generalize bos hv=ys at *
 generalize hxs:ups l=xs at *
 generalize ints fs=zs at *
 obtain ⟨dr,ev,eo,so,co,⟨hev,hco,heo,hdr⟩,R⟩:=RULESB CC
 rw [<- hev]
 rw [<- hco] at hop
 simp only [opsOf,fpart,part',Try.f7,Option.getD] at ⊢
 simp (maxSteps:=5000000) only [SA,SB,SD,R,SF,SG,SH,seval,TG,SE,SC,UTT,ZCT,RV,dynR,hfn,nchP,List.getElem?_concat_length,ss1,List.set_cons_zero,List.set_cons_succ,Bool.not_not,strP_eql,strP_neq,hw1,hlen,hlen0,htm,hx,hr0,hln,hsp,hsi,hk,hop]
 exact ⟨_,rfl⟩
theorem call_us5 (l:List Up) (hne:l≠[]) (hl:l.length<=10000) (hhi:HvI l) (f:Fw) (a b c:Nat) (hb:b < 65536) (t:Int) (hk:(a:Int).tmod 6=5):∃ cur,NxR l f cur∧∃ bx,callL CC 7 [.sl (ups l),fwV f,stV a b c,.int .i64 t] []=some (.ret (.sl (ups cur)),bx):=by
 rw [callL_enterB (fn:=Try.f7) (c:=Try.f7.body.getD .skip) rfl rfl fat_Us rfl noB_Us okB_Us (Nat.le_of_ble_eq_true rfl)]
 have hh:∀ u ∈ l,u.hv.length<=1000000:=fun u hu=>by have:=hhi u hu;omega
 have hw1:=cv16 b hb
 have hlp:=List.length_pos_iff.2 hne
 have hlen:((l.length:Int) > 0):=by omega
 have hlen0:¬ ((l.length:Int)=0):=by omega
 have htm:(b:Int).tmod (l.length:Int)=((b % l.length:Nat):Int):=rfl
 have hml:b % l.length < l.length:=Nat.mod_lt _ hlp
 have hx:=ups_get (l:=l) (i:=b % l.length) (u:=l[b % l.length]'hml) (List.getElem?_eq_getElem hml)
 generalize l[b % l.length]'hml=u at *
 generalize b % l.length=r at *
 have hr0:¬ ((r:Int) < 0):=by omega
 have hln:=ups_length l
 have hsp:=ups_pure l
 have hsi:pureL (ints f.sums)=true:=pureL_ints f.sums
 obtain ⟨fa,fb,fv,hfn⟩:=FNs
 obtain ⟨cur,hrel,hop⟩:=op_Overdue l hne (by omega) hh t
 obtain ⟨dv,st,vr,pv,sn,hv⟩:=u
 obtain ⟨vn,fvr,fs⟩:=f
 unfold upV upC at hx
 unfold stV
 unfold fwV at *
 simp only at *
 refine ⟨cur,.inr hrel,?_⟩
 generalize bos hv=ys at *
 generalize hxs:ups l=xs at *
 generalize ints fs=zs at *
 obtain ⟨dr,ev,eo,so,co,⟨hev,hco,heo,hdr⟩,R⟩:=RULESB CC
 rw [<- hev]
 rw [<- hco] at hop
 simp only [opsOf,fpart,part',Try.f7,Option.getD] at ⊢
 simp (maxSteps:=5000000) only [SA,SB,SD,R,SF,SG,SH,seval,TG,SE,SC,UTT,ZCT,RV,dynR,hfn,nchP,List.getElem?_concat_length,ss1,List.set_cons_zero,List.set_cons_succ,Bool.not_not,strP_eql,strP_neq,hw1,hlen,hlen0,htm,hx,hr0,hln,hsp,hsi,hk,hop]
 exact ⟨_,rfl⟩
theorem call_us1 (l:List Up) (hne:l≠[]) (hl:l.length<=10000) (hhi:HvI l) (f:Fw) (a b c:Nat) (hb:b < 65536) (t:Int) (hk:(a:Int).tmod 6=1):∃ cur,NxR l f cur∧∃ bx,callL CC 7 [.sl (ups l),fwV f,stV a b c,.int .i64 t] []=some (.ret (.sl (ups cur)),bx):=by
 rw [callL_enterB (fn:=Try.f7) (c:=Try.f7.body.getD .skip) rfl rfl fat_Us rfl noB_Us okB_Us (Nat.le_of_ble_eq_true rfl)]
 have hw1:=cv16 b hb
 have hlp:=List.length_pos_iff.2 hne
 have hlen:((l.length:Int) > 0):=by omega
 have hlen0:¬ ((l.length:Int)=0):=by omega
 have htm:(b:Int).tmod (l.length:Int)=((b % l.length:Nat):Int):=rfl
 have hml:b % l.length < l.length:=Nat.mod_lt _ hlp
 have hx:=ups_get (l:=l) (i:=b % l.length) (u:=l[b % l.length]'hml) (List.getElem?_eq_getElem hml)
 generalize l[b % l.length]'hml=u at *
 generalize b % l.length=r at *
 have hr0:¬ ((r:Int) < 0):=by omega
 have hln:=ups_length l
 have hsp:=ups_pure l
 have hsi:pureL (ints f.sums)=true:=pureL_ints f.sums
 obtain ⟨fa,fb,fv,hfn⟩:=FNs
 obtain ⟨ps,hps,hop⟩:=op_Send l hl f
 have hloop:=fun e bx=>loop_out _ rfl f ps (by omega) l.length hl ps.length 0 l e bx (by omega) rfl hne hhi
 have hub:UnB [PBox.cells 28 [.int .i64 f.vn,.int .i64 f.vr,.sl (ints f.sums)],.cells 36 [.int .u16 (a:Nat),.int .u16 (b:Nat),.int .u16 (c:Nat)]]:=fun n=>by
  simp only [List.all_cons,List.all_nil,PBox.under,underL,PV.under,underL_pure n _ hsi,Bool.and_self]
 obtain ⟨dv,st,vr,pv,sn,hv⟩:=u
 unfold upV upC at hx
 unfold stV
 unfold fwV at *
 simp only at hx ⊢
 generalize bos hv=ys at *
 generalize hxs:ups l=xs at *
 generalize ints f.sums=zs at *
 obtain ⟨dr,ev,eo,so,co,⟨hev,hco,heo,hdr⟩,R⟩:=RULESB CC
 rw [<- hev]
 rw [<- hco] at hop
 rw [<- hev] at hloop
 simp only [fpart,part',Try.f7,Option.getD] at hloop ⊢
 simp (maxSteps:=5000000) only [SA,SB,SD,R,SF,SG,SH,seval,TG,SE,SC,UTT,ZCT,RV,dynR,hfn,nchP,List.getElem?_concat_length,ss1,List.set_cons_zero,List.set_cons_succ,Bool.not_not,strP_eql,strP_neq,hw1,hlen,hlen0,htm,hx,hr0,hln,hsp,hsi,hk,hop]
 generalize hE:ev _ _=z
 obtain ⟨e',bx',cur2,he,g0,hmv,hb2,hu2,gk⟩:=PIn.of hE (hloop _ _ (by simp (maxSteps:=5000000) only [SA,SB,SD,R,SF,seval] <;> rfl) (by simp (maxSteps:=5000000) only [SA,SB,SD,R,SF,seval] <;> rfl) (by simp (maxSteps:=5000000) only [SA,SB,SD,R,SF,seval] <;> rfl) (by simp (maxSteps:=5000000) only [SA,SB,SD,R,SF,seval] <;> rfl) rfl hub)
 subst he
 refine ⟨cur2,.inr hmv,?_⟩
 clear hloop hE
 simp (maxSteps:=5000000) only [SA,SB,SD,R,SF,SG,SH,seval,TG,SE,SC,UTT,ZCT,RV,dynR,hfn,nchP,List.getElem?_concat_length,ss1,List.set_cons_zero,List.set_cons_succ,Bool.not_not,strP_eql,strP_neq,g0]
 exact ⟨_,rfl⟩
theorem op_us (l:List Up) (hne:l≠[]) (hl:l.length<=10000) (hhi:HvI l) (f:Fw) (a b c:Nat) (hb:b < 65536) (t:Int):∃ cur,NxR l f cur∧∀ bx,callOp CC (callL CC) 7 [.sl (ups l),fwV f,stV a b c,.int .i64 t] bx=some (.ret (.sl (ups cur)),bx):=by
 have hc:∃ cur,NxR l f cur∧∃ bx,callL CC 7 [.sl (ups l),fwV f,stV a b c,.int .i64 t] []=some (.ret (.sl (ups cur)),bx):=by
  have h6:a % 6 < 6:=Nat.mod_lt _ (by decide)
  have hm:(a:Int).tmod 6=((a % 6:Nat):Int):=rfl
  have:a % 6=0∨a % 6=1∨a % 6=2∨a % 6=3∨a % 6=4∨a % 6=5:=by omega
  rcases this with h | h | h | h | h | h <;> rw [h] at hm
  · exact call_us0 l hne hl hhi f a b c hb t hm
  · exact call_us1 l hne hl hhi f a b c hb t hm
  · exact call_us2 l hne hl hhi f a b c hb t hm
  · exact call_us3 l hne hl hhi f a b c hb t hm
  · exact call_us4 l hne hl hhi f a b c hb t hm
  · exact call_us5 l hne hl hhi f a b c hb t hm
 obtain ⟨cur,h1,bx',h2⟩:=hc
 exact ⟨cur,h1,fun bx=>callOp_of rfl (by simp only [SA,ups_pure,fwV_pure,stV,PV.pure,Bool.and_true,Bool.and_self]) h2 (ups_pure cur)⟩
end Go.HH
namespace Go.HH
open Go Go.Proofs
set_option maxRecDepth 100000
set_option maxHeartbeats 4000000
set_option linter.unusedSimpArgs false
set_option linter.unusedVariables false
theorem ok_homehubtop_earlier:fnOK CC Try.f8 (Try.f8.body.getD .skip)=true:=by kernel_rfl
theorem fat_homehubtop_earlier:CC.P.funcs[8]?=some Try.f8:=by kernel_rfl
inductive Ch:Nat->Nat->Prop
 | zero:Ch 0 0
 | succ {m w:Nat} (h:Ch m w):Ch (m+1) (2 * w+1)
theorem wv_at {m w:Nat} (h:Ch m w):∀ x,m<=80->w<=x->wv x=wvF (80 - m) m w x:=by
 induction h with
 | zero=>intro x _ _;rfl
 | succ h ih=>
  rename_i m w
  intro x hm hx
  rw [ih x (by omega) (by omega),show 80 - m=(80 - (m+1))+1 by omega]
  show (if 2 * w+1<=x then _ else _)=_
  rw [if_pos hx]
theorem wv_sep {m w i j:Nat} (h:Ch m w) (hm:m < 80) (hi:2 * w+1<=i) (hj:j < 2 * w+1):wv j < wv i:=by
 have h1:wv (2 * w)=m:=by
  rw [wv_at h (2 * w) (by omega) (by omega),show 80 - m=(79 - m)+1 by omega]
  show (if 2 * w+1<=2 * w then _ else _)=_
  rw [if_neg (by omega)]
 have h2:m+1<=wv i:=by
  rw [wv_at (Ch.succ h) i (by omega) hi]
  exact (wvF_mono _ (m+1) (2 * w+1) i i (Nat.le_refl _)).2
 have h3:=wv_mono (i:=j) (j:=2 * w) (by omega)
 omega
def PEa (w z:Nat) (bx:List PBox) (e:List PV) (j:Nat) (res:Option (Ex×St)):Prop:=∃ e',res=some (.exit j,⟨e',bx⟩)∧getT e' 0=getT e 0∧getT e' 1=getT e 1∧(j=2->getT e' 5=.int .i64 (w:Nat)∧getT e' 6=.int .i64 (z:Nat))
theorem PEa.of {ev:Code->St->Option (Ex×St)} {L:Code} {st:St} {w z:Nat} {bx:List PBox} {e:List PV} {j:Nat} {r:Option (Ex×St)} (hE:ev L st=r) (h:PEa w z bx e j (ev L st)):PEa w z bx e j r:=hE ▸ h
theorem PEa.env {w z:Nat} {bx:List PBox} {e e2:List PV} {j:Nat} {r:Option (Ex×St)} (h0:getT e2 0=getT e 0) (h1:getT e2 1=getT e 1) (h:PEa w z bx e2 j r):PEa w z bx e j r:=by
 obtain ⟨e',q1,q2,q3,q4⟩:=h
 exact ⟨e',q1,q2.trans h0,q3.trans h1,q4⟩
theorem PEa.env2 {w z:Nat} {bx:List PBox} {e e2:List PV} {j:Nat} {r:Option (Ex×St)} (h0:getT e2 0=getT e 0) (h1:getT e2 1=getT e 1) (h:PEa w z bx e2 j r):PEa w z bx e j r:=PEa.env h0 h1 h
theorem loop_ea2 (L:Code) (hL:L=fpart Try.f8 [1,1,0,0,0,1,0,0,1,0]) (l:List Up) (hl:l.length<=1000) (w z:Nat) (hz:w+z<=l.length) (hst:∀ j u,l[j]?=some u->j < w+z->u.st=4) (bx:List PBox):∀ (k j:Nat) (e:List PV),j+k=w+z ->
 getT e 0=.sl (ups l)->getT e 5=.int .i64 (w:Nat)->getT e 6=.int .i64 (z:Nat)->getT e 7=.int .i64 (j:Nat)->PEa w z bx e 2 (evL CC L ⟨e,bx⟩):=by
 intro k
 induction k with
 | zero=>
  intro j e hk h0 h5 h6 h7
  rw [evL_at (fpart Try.f8 [1,1,0,0,0,1,0,0,1,0,0]) hL]
  have hw:=wrap_i64 (n:=(w:Int)+(z:Int)) ⟨by omega,by omega⟩
  have hi:¬ ((j:Int) < (w:Int)+(z:Int)):=by omega
  obtain ⟨fa,fb,fv,hfn⟩:=FNs
  obtain ⟨ev,eo,so,co,⟨hev,hco⟩,R⟩:=RULES CC;rw [<- hev]
  simp only [fpart,part',Try.f8,Option.getD]
  simp (maxSteps:=5000000) only [SA,SB,SD,R,SF,SG,SH,seval,TG,SE,SC,UTT,ZCT,RV,dynR,hfn,nchP,List.getElem?_concat_length,ss1,List.set_cons_zero,List.set_cons_succ,Bool.not_not,strP_eql,strP_neq,h0,h5,h6,h7,hw,hi]
  exact ⟨_,rfl,by simp (maxSteps:=5000000) only [SA,SB,SD,R,SF,seval],by simp (maxSteps:=5000000) only [SA,SB,SD,R,SF,seval],fun _=>⟨by simp (maxSteps:=5000000) only [SA,SB,SD,R,SF,seval,h5],by simp (maxSteps:=5000000) only [SA,SB,SD,R,SF,seval,h6]⟩⟩
 | succ k ih=>
  intro j e hk h0 h5 h6 h7
  rw [evL_at (fpart Try.f8 [1,1,0,0,0,1,0,0,1,0,0]) hL]
  have hw:=wrap_i64 (n:=(w:Int)+(z:Int)) ⟨by omega,by omega⟩
  have hi:((j:Int) < (w:Int)+(z:Int)):=by omega
  have hi0:¬ ((j:Int) < 0):=by omega
  have hw1:=wrap_i64 (n:=(j:Int)+1) ⟨by omega,by omega⟩
  have key:=fun e=>ih (j+1) e (by omega)
  have cast1:((j+1:Nat):Int)=(j:Int)+1:=by omega
  rw [cast1] at key
  have hx:=ups_get (l:=l) (i:=j) (u:=l[j]'(by omega)) (List.getElem?_eq_getElem (by omega))
  have h4:=hst j (l[j]'(by omega)) (List.getElem?_eq_getElem (by omega)) (by omega)
  generalize l[j]'(by omega)=x at *
  obtain ⟨dv,st,vr,pv,sn,hv⟩:=x
  unfold upV upC at hx
  simp only at h4
  subst h4
  generalize bos hv=ys at *
  generalize ups l=xs at *
  obtain ⟨fa,fb,fv,hfn⟩:=FNs
  obtain ⟨ev,eo,so,co,⟨hev,hco⟩,R⟩:=RULES CC;rw [<- hev]
  rw [<- hev] at key
  simp only [fpart,part',Try.f8,Option.getD]
  simp (maxSteps:=5000000) only [SA,SB,SD,R,SF,SG,SH,seval,TG,SE,SC,UTT,ZCT,RV,dynR,hfn,nchP,List.getElem?_concat_length,ss1,List.set_cons_zero,List.set_cons_succ,Bool.not_not,strP_eql,strP_neq,h0,h5,h6,h7,hw,hi,hi0,hw1,hx]
  refine PEa.env (by simp (maxSteps:=5000000) only [SA,SB,SD,R,SF,seval]) (by simp (maxSteps:=5000000) only [SA,SB,SD,R,SF,seval]) (key _ ?_ ?_ ?_ ?_)
  all_goals simp (maxSteps:=5000000) only [SA,SB,SD,R,SF,seval,h0,h5,h6]
theorem loop_ea0 (L:Code) (hL:L=fpart Try.f8 [1,1,0,0]) (l:List Up) (hl:l.length<=1000) (i:Nat) (hil:i < l.length) (hst:∀ j u,l[j]?=some u->wv j < wv i->u.st=4) (bx:List PBox):∀ (k m w:Nat) (e:List PV),Ch m w->i < 2 ^ k * (w+1)->m+k=40->w<=i ->
 getT e 0=.sl (ups l)->getT e 1=.int .i64 (i:Nat)->getT e 5=.int .i64 (w:Nat)->getT e 6=.int .i64 ((w+1:Nat):Int)->PEa 0 0 bx e 0 (evL CC L ⟨e,bx⟩):=by
 intro k
 induction k with
 | zero=>
  intro m w e hch hk hm hw0 h0 h1 h5 h6
  rw [evL_at (fpart Try.f8 [1,1,0,0,0]) hL]
  have cast0:((w+1:Nat):Int)=(w:Int)+1:=by omega
  rw [cast0] at h6
  have hw:=wrap_i64 (n:=(w:Int)+((w:Int)+1)) ⟨by omega,by omega⟩
  have hc:¬ ((w:Int)+((w:Int)+1)<=(i:Int)):=by omega
  obtain ⟨fa,fb,fv,hfn⟩:=FNs
  obtain ⟨ev,eo,so,co,⟨hev,hco⟩,R⟩:=RULES CC;rw [<- hev]
  simp only [fpart,part',Try.f8,Option.getD]
  simp (maxSteps:=5000000) only [SA,SB,SD,R,SF,SG,SH,seval,TG,SE,SC,UTT,ZCT,RV,dynR,hfn,nchP,List.getElem?_concat_length,ss1,List.set_cons_zero,List.set_cons_succ,Bool.not_not,strP_eql,strP_neq,h0,h1,h5,h6,hw,hc]
  exact ⟨_,rfl,by simp (maxSteps:=5000000) only [SA,SB,SD,R,SF,seval],by simp (maxSteps:=5000000) only [SA,SB,SD,R,SF,seval],fun h=>by cases h⟩
 | succ k ih=>
  intro m w e hch hk hm hw0 h0 h1 h5 h6
  rw [evL_at (fpart Try.f8 [1,1,0,0,0]) hL]
  have cast0:((w+1:Nat):Int)=(w:Int)+1:=by omega
  have hw:=wrap_i64 (n:=(w:Int)+((w:Int)+1)) ⟨by omega,by omega⟩
  have hpw:2 ^ (k+1) * (w+1)=2 ^ k * (2 * w+1+1):=by rw [Nat.pow_succ,Nat.mul_assoc];congr 1 <;> omega
  rw [hpw] at hk
  obtain ⟨fa,fb,fv,hfn⟩:=FNs
  by_cases c:2 * w+1<=i
  · have key:=fun e=>ih (m+1) (2 * w+1) e (Ch.succ hch) hk (by omega) c
    have hloop:=fun e=>loop_ea2 _ rfl l hl w (w+1) (by omega) (fun j u hu hj=>hst j u hu (wv_sep hch (by omega) c (by omega))) bx (w+1) w e (by omega)
    have cast1:((2 * w+1:Nat):Int)=(w:Int)+((w:Int)+1):=by omega
    have cast2:((2 * w+1+1:Nat):Int)=2 * ((w:Int)+1):=by omega
    rw [cast1,cast2] at key
    rw [cast0] at h6
    have hw2:=wrap_i64 (n:=2 * ((w:Int)+1)) ⟨by omega,by omega⟩
    have hc:((w:Int)+((w:Int)+1)<=(i:Int)):=by omega
    clear ih
    generalize ups l=xs at *
    obtain ⟨ev,eo,so,co,⟨hev,hco⟩,R⟩:=RULES CC;rw [<- hev]
    rw [<- hev] at hloop key
    simp only [fpart,part',Try.f8,Option.getD] at hloop ⊢
    simp (maxSteps:=5000000) only [SA,SB,SD,R,SF,SG,SH,seval,TG,SE,SC,UTT,ZCT,RV,dynR,hfn,nchP,List.getElem?_concat_length,ss1,List.set_cons_zero,List.set_cons_succ,Bool.not_not,strP_eql,strP_neq,h0,h1,h5,h6,hw,hc]
    generalize hE:ev _ _=z
    obtain ⟨e',he,q0,q1,q5⟩:=PEa.of hE (hloop _ (by simp (maxSteps:=5000000) only [SA,SB,SD,R,SF,seval,h0]) (by simp (maxSteps:=5000000) only [SA,SB,SD,R,SF,seval,h5]) (by simp (maxSteps:=5000000) only [SA,SB,SD,R,SF,seval,h6,cast0]) (by simp (maxSteps:=5000000) only [SA,SB,SD,R,SF,seval]))
    obtain ⟨q5,q6⟩:=q5 rfl
    simp (maxSteps:=5000000) only [SA,SB,SD,R,SF,seval,h0,h1] at q0 q1
    rw [cast0] at q6
    subst he
    clear hloop hE
    simp (maxSteps:=5000000) only [SA,SB,SD,R,SF,SG,SH,seval,TG,SE,SC,UTT,ZCT,RV,dynR,hfn,nchP,List.getElem?_concat_length,ss1,List.set_cons_zero,List.set_cons_succ,Bool.not_not,strP_eql,strP_neq,q0,q1,q5,q6,hw,hw2]
    refine PEa.env (e2:=e) rfl rfl ?_
    refine PEa.env2 (by simp (maxSteps:=5000000) only [SA,SB,SD,R,SF,seval,h0,q0]) (by simp (maxSteps:=5000000) only [SA,SB,SD,R,SF,seval,h1,q1]) (key _ ?_ ?_ ?_ ?_)
    all_goals simp (maxSteps:=5000000) only [SA,SB,SD,R,SF,seval,q0,q1]
  · have hc:¬ ((w:Int)+((w:Int)+1)<=(i:Int)):=by omega
    rw [cast0] at h6
    obtain ⟨ev,eo,so,co,⟨hev,hco⟩,R⟩:=RULES CC;rw [<- hev]
    simp only [fpart,part',Try.f8,Option.getD]
    simp (maxSteps:=5000000) only [SA,SB,SD,R,SF,SG,SH,seval,TG,SE,SC,UTT,ZCT,RV,dynR,hfn,nchP,List.getElem?_concat_length,ss1,List.set_cons_zero,List.set_cons_succ,Bool.not_not,strP_eql,strP_neq,h0,h1,h5,h6,hw,hc]
    exact ⟨_,rfl,by simp (maxSteps:=5000000) only [SA,SB,SD,R,SF,seval],by simp (maxSteps:=5000000) only [SA,SB,SD,R,SF,seval],fun h=>by cases h⟩
theorem call_earlier (l:List Up) (hl:l.length<=1000) (i:Nat) (hil:i < l.length) (hst:∀ j u,l[j]?=some u->wv j < wv i->u.st=4):callL CC 8 [.sl (ups l),.int .i64 (i:Nat)] []=some (.ret (.bool true),[]):=by
 rw [callL_enter (fn:=Try.f8) (c:=Try.f8.body.getD .skip) rfl rfl fat_homehubtop_earlier rfl ok_homehubtop_earlier (Nat.le_of_ble_eq_true rfl)]
 have hloop:=fun e=>loop_ea0 _ rfl l hl i hil hst [] 40 0 0 e .zero (by omega) rfl (Nat.zero_le _)
 obtain ⟨fa,fb,fv,hfn⟩:=FNs
 generalize ups l=xs at *
 obtain ⟨ev,eo,so,co,⟨hev,hco⟩,R⟩:=RULES CC;rw [<- hev]
 rw [<- hev] at hloop
 simp only [fpart,part',Try.f8,Option.getD] at hloop ⊢
 simp (maxSteps:=5000000) only [SA,SB,SD,R,SF,SG,SH,seval,TG,SE,SC,UTT,ZCT,RV,dynR,hfn,nchP,List.getElem?_concat_length,ss1,List.set_cons_zero,List.set_cons_succ,Bool.not_not,strP_eql,strP_neq,hil]
 generalize hE:ev _ _=z
 obtain ⟨e',he,q0,q1,q5⟩:=PEa.of hE (hloop _ (by simp (maxSteps:=5000000) only [SA,SB,SD,R,SF,seval] <;> rfl) (by simp (maxSteps:=5000000) only [SA,SB,SD,R,SF,seval] <;> rfl) (by simp (maxSteps:=5000000) only [SA,SB,SD,R,SF,seval] <;> rfl) (by simp (maxSteps:=5000000) only [SA,SB,SD,R,SF,seval] <;> rfl))
 subst he
 simp (maxSteps:=5000000) only [SA,SB,SD,R,SF,SG,SH,seval,TG,SE,SC,UTT,ZCT,RV,dynR,hfn,nchP,List.getElem?_concat_length,ss1,List.set_cons_zero,List.set_cons_succ,Bool.not_not,strP_eql,strP_neq,q0]
theorem op_earlier (l:List Up) (hl:l.length<=1000) (i:Nat) (hil:i < l.length) (hst:∀ j u,l[j]?=some u->wv j < wv i->u.st=4) (bx):callOp CC (callL CC) 8 [.sl (ups l),.int .i64 (i:Nat)] bx=some (.ret (.bool true),bx):=
 callOp_of rfl (by simp only [SA,ups_pure,Bool.and_true]) (call_earlier l hl i hil hst) rfl
end Go.HH
namespace Go.HH
open Go Go.Proofs
set_option maxRecDepth 100000
set_option maxHeartbeats 4000000
set_option linter.unusedSimpArgs false
set_option linter.unusedVariables false
def PX0 (bx:List PBox) (res:Option (Ex×St)):Prop:=∃ e',res=some (.exit 0,⟨e',bx⟩)
theorem PX0.of {ev:Code->St->Option (Ex×St)} {L:Code} {st:St} {bx:List PBox} {z:Option (Ex×St)} (hE:ev L st=z) (h:PX0 bx (ev L st)):PX0 bx z:=hE ▸ h
def PO5 (bx:List PBox) (res:Option (Ex×St)):Prop:=∃ e',res=some (.exit 0,⟨e',bx⟩)∧getT e' 5=.sl []
theorem PO5.of {ev:Code->St->Option (Ex×St)} {L:Code} {st:St} {bx:List PBox} {z:Option (Ex×St)} (hE:ev L st=z) (h:PO5 bx (ev L st)):PO5 bx z:=hE ▸ h
def PO1 (bx:List PBox) (res:Option (Ex×St)):Prop:=∃ e',res=some (.exit 1,⟨e',bx⟩)∧getT e' 0=.sl []
theorem PO1.of {ev:Code->St->Option (Ex×St)} {L:Code} {st:St} {bx:List PBox} {z:Option (Ex×St)} (hE:ev L st=z) (h:PO1 bx (ev L st)):PO1 bx z:=hE ▸ h
theorem loop_ix0 (L:Code) (hL:L=fpart Try.f37 [1,0,1,0]) (e:List PV) (bx:List PBox) (h7:getT e 7=.int .i64 0) (h8:getT e 8=.int .i64 0):PX0 bx (evL CC L ⟨e,bx⟩):=by
 rw [evL_at (fpart Try.f37 [1,0,1,0,0]) hL]
 have hi:¬ ((0:Int) < 0):=by decide
 obtain ⟨fa,fb,fv,hfn⟩:=FNs
 obtain ⟨ev,eo,so,co,⟨hev,hco⟩,R⟩:=RULES CC;rw [<- hev]
 simp only [fpart,part',Try.f37,Option.getD]
 simp (maxSteps:=5000000) only [SA,SB,SD,R,SF,SG,SH,seval,TG,SE,SC,UTT,ZCT,RV,dynR,hfn,nchP,List.getElem?_concat_length,ss1,List.set_cons_zero,List.set_cons_succ,Bool.not_not,strP_eql,strP_neq,h7,h8,hi]
 exact ⟨_,rfl⟩
theorem call_ix0 (q:Nat) (bx:List PBox):callL CC 37 [.sl [],.fn 40 [] [.bp q 0]] bx=some (.ret (.int .i64 (-1)),bx++[]):=by
 rw [List.append_nil]
 rw [callL_enter (fn:=Try.f37) (c:=Try.f37.body.getD .skip) rfl rfl fat_slices_IndexFunc_api_Update_api_Update rfl ok_slices_IndexFunc_api_Update_api_Update (Nat.le_of_ble_eq_true rfl)]
 have hloop:=fun e=>loop_ix0 _ rfl e bx
 obtain ⟨fa,fb,fv,hfn⟩:=FNs
 obtain ⟨ev,eo,so,co,⟨hev,hco⟩,R⟩:=RULES CC;rw [<- hev]
 rw [<- hev] at hloop
 simp only [fpart,part',Try.f37,Option.getD] at hloop ⊢
 simp (maxSteps:=5000000) only [SA,SB,SD,R,SF,SG,SH,seval,TG,SE,SC,UTT,ZCT,RV,dynR,hfn,nchP,List.getElem?_concat_length,ss1,List.set_cons_zero,List.set_cons_succ,Bool.not_not,strP_eql,strP_neq]
 generalize hE:ev _ _=z
 obtain ⟨e',he⟩:=PX0.of hE (hloop _ (by simp (maxSteps:=5000000) only [SA,SB,SD,R,SF,seval] <;> rfl) (by simp (maxSteps:=5000000) only [SA,SB,SD,R,SF,seval] <;> rfl))
 subst he
 simp (maxSteps:=5000000) only [SA,SB,SD,R,SF,SG,SH,seval,TG,SE,SC,UTT,ZCT,RV,dynR,hfn,nchP,List.getElem?_concat_length,ss1,List.set_cons_zero,List.set_cons_succ,Bool.not_not,strP_eql,strP_neq]
theorem op_ix0 (q:Nat) (bx:List PBox):∃ ex,callOp CC (callL CC) 37 [.sl [],.fn 40 [] [.bp q 0]] bx=some (.ret (.int .i64 (-1)),bx++ex):=callOp_pre (by simp [pureL,PV.pure]) (call_ix0 q bx)
theorem call_find0 (dev st:Int):∃ bx,callL CC 29 [.sl [],.int .i64 dev,.int .i64 st] []=some (.ret (.int .i64 (-1)),bx):=by
 rw [callL_enter (fn:=Try.f29) (c:=Try.f29.body.getD .skip) rfl rfl fat_rollout_find rfl ok_rollout_find (Nat.le_of_ble_eq_true rfl)]
 obtain ⟨ex,hix⟩:=op_ix0 0 [.cells 3 [.int .i64 dev]]
 have hm:¬ ((-1:Int) ≥ 0):=by decide
 obtain ⟨fa,fb,fv,hfn⟩:=FNs
 obtain ⟨ev,eo,so,co,⟨hev,hco⟩,R⟩:=RULES CC;rw [<- hev]
 rw [<- hco] at hix
 simp only [fpart,part',Try.f29,Option.getD]
 simp (maxSteps:=5000000) only [SA,SB,SD,R,SF,SG,SH,seval,TG,SE,SC,UTT,ZCT,RV,dynR,hfn,nchP,List.getElem?_concat_length,ss1,List.set_cons_zero,List.set_cons_succ,Bool.not_not,strP_eql,strP_neq,hix,hm]
 exact ⟨_,rfl⟩
theorem op_find0 (dev st:Int) (bx):callOp CC (callL CC) 29 [.sl [],.int .i64 dev,.int .i64 st] bx=some (.ret (.int .i64 (-1)),bx):=by
 obtain ⟨b,h⟩:=call_find0 dev st
 exact callOp_of rfl rfl h rfl
theorem call_Start0 (f:Fw) (t:Int):∃ bx,callL CC 10 [.sl [],fwV f,.int .i64 t] []=some (.ret (.sl []),bx):=by
 rw [callL_enterT (fn:=Try.f10) (c:=Try.f10.body.getD .skip) rfl rfl fat_rollout_Start rfl ok_rollout_Start (Nat.le_of_ble_eq_true rfl)]
 have how:=op_own0 [.cells 28 [.int .i64 f.vn,.int .i64 f.vr,.sl (ints f.sums)]]
 obtain ⟨w,hw,hwa⟩:=op_Wave [] (by simp) f
 have hsto:=op_Stopped [] (by simp)
 have hw:w=-1:=by
  rcases hw with h | ⟨j,hj,_⟩
  · exact h
  · cases hj
 subst hw
 have hm:((-1:Int) < 0):=by decide
 simp only [show ups []=[] from rfl,show stopB []=false from rfl] at hwa hsto
 obtain ⟨fa,fb,fv,hfn⟩:=FNs
 have hsi:pureL (ints f.sums)=true:=pureL_ints f.sums
 unfold fwV at *
 generalize ints f.sums=zs at *
 obtain ⟨ev,eo,so,co,⟨hev,hco⟩,R⟩:=RULES CC;rw [<- hev]
 rw [<- hco] at how hwa hsto
 simp only [fpart,part',Try.f10,Option.getD]
 simp (maxSteps:=5000000) only [SA,SB,SD,R,SF,SG,SH,seval,TG,SE,SC,UTT,ZCT,RV,dynR,hfn,nchP,List.getElem?_concat_length,ss1,List.set_cons_zero,List.set_cons_succ,Bool.not_not,strP_eql,strP_neq,how,hwa,hsto,hsi,hm]
 rw [endQ_nil]
 exact ⟨_,rfl⟩
theorem call_Install0 (f:Fw) (dev t:Int):∃ bx,callL CC 11 [.sl [],fwV f,.int .i64 dev,.int .i64 t] []=some (.ret (.sl []),bx):=by
 rw [callL_enterTB (fn:=Try.f11) (c:=Try.f11.body.getD .skip) rfl rfl fat_Install rfl noB_Install okB_Install (Nat.le_of_ble_eq_true rfl)]
 have how:=op_own0 [.cells 28 [.int .i64 f.vn,.int .i64 f.vr,.sl (ints f.sums)]]
 have hfi:=op_find0 dev 2
 have hck:=op_fwCheck f
 have hm:((-1:Int) < 0):=by decide
 generalize ckF f=c at *
 obtain ⟨fa,fb,fv,hfn⟩:=FNs
 have hsi:pureL (ints f.sums)=true:=pureL_ints f.sums
 unfold fwV at *
 generalize ints f.sums=zs at *
 by_cases c0:c=0
 · have c1:(c != 0)=false:=by simp [c0]
   obtain ⟨dr,ev,eo,so,co,⟨hev,hco,heo,hdr⟩,R⟩:=RULESB CC
   rw [<- hev]
   rw [<- hco] at how hfi hck
   simp only [opsOf,fpart,part',Try.f11,Option.getD] at ⊢
   simp (maxSteps:=5000000) only [SA,SB,SD,R,SF,SG,SH,seval,TG,SE,SC,UTT,ZCT,RV,dynR,hfn,nchP,List.getElem?_concat_length,ss1,List.set_cons_zero,List.set_cons_succ,Bool.not_not,strP_eql,strP_neq,how,hfi,hck,hsi,hm,c1]
   rw [endQ_nil]
   exact ⟨_,rfl⟩
 · have c1:(c != 0)=true:=by simpa using c0
   obtain ⟨dr,ev,eo,so,co,⟨hev,hco,heo,hdr⟩,R⟩:=RULESB CC
   rw [<- hev]
   rw [<- hco] at how hfi hck
   simp only [opsOf,fpart,part',Try.f11,Option.getD] at ⊢
   simp (maxSteps:=5000000) only [SA,SB,SD,R,SF,SG,SH,seval,TG,SE,SC,UTT,ZCT,RV,dynR,hfn,nchP,List.getElem?_concat_length,ss1,List.set_cons_zero,List.set_cons_succ,Bool.not_not,strP_eql,strP_neq,how,hfi,hck,hsi,hm,c1]
   rw [endQ_nil]
   exact ⟨_,rfl⟩
theorem call_Confirm0 (dev:Int) (ok:Bool) (t:Int):∃ bx,callL CC 13 [.sl [],.int .i64 dev,.bool ok,.int .i64 t] []=some (.ret (.sl []),bx):=by
 rw [callL_enterT (fn:=Try.f13) (c:=Try.f13.body.getD .skip) rfl rfl fat_rollout_Confirm rfl ok_rollout_Confirm (Nat.le_of_ble_eq_true rfl)]
 have how:=op_own0 []
 have hfi:=op_find0 dev 3
 have hm:((-1:Int) < 0):=by decide
 obtain ⟨fa,fb,fv,hfn⟩:=FNs
 obtain ⟨ev,eo,so,co,⟨hev,hco⟩,R⟩:=RULES CC;rw [<- hev]
 rw [<- hco] at how hfi
 simp only [fpart,part',Try.f13,Option.getD]
 simp (maxSteps:=5000000) only [SA,SB,SD,R,SF,SG,SH,seval,TG,SE,SC,UTT,ZCT,RV,dynR,hfn,nchP,List.getElem?_concat_length,ss1,List.set_cons_zero,List.set_cons_succ,Bool.not_not,strP_eql,strP_neq,how,hfi,hm]
 rw [endQ_nil]
 exact ⟨_,rfl⟩
theorem loop_Ov0 (L:Code) (hL:L=fpart Try.f21 [1,1,0,1,0]) (e:List PV) (bx:List PBox) (h5:getT e 5=.sl []) (h11:getT e 11=.int .i64 0) (h12:getT e 12=.int .i64 0):PO5 bx (evB CC L ⟨e,bx⟩):=by
 rw [evB_at (fpart Try.f21 [1,1,0,1,0,0]) hL]
 have hi:¬ ((0:Int) < 0):=by decide
 obtain ⟨fa,fb,fv,hfn⟩:=FNs
 obtain ⟨dr,ev,eo,so,co,⟨hev,hco,heo,hdr⟩,R⟩:=RULESB CC
 rw [<- hev]
 simp only [fpart,part',Try.f21,Option.getD]
 simp (maxSteps:=5000000) only [SA,SB,SD,R,SF,SG,SH,seval,TG,SE,SC,UTT,ZCT,RV,dynR,hfn,nchP,List.getElem?_concat_length,ss1,List.set_cons_zero,List.set_cons_succ,Bool.not_not,strP_eql,strP_neq,h5,h11,h12,hi]
 exact ⟨_,rfl,by simp (maxSteps:=5000000) only [SA,SB,SD,R,SF,seval,h5]⟩
theorem call_Overdue0 (t:Int):∃ bx,callL CC 21 [.sl [],.int .i64 t] []=some (.ret (.sl []),bx):=by
 rw [callL_enterTB (fn:=Try.f21) (c:=Try.f21.body.getD .skip) rfl rfl fat_Overdue rfl noB_Overdue okB_Overdue (Nat.le_of_ble_eq_true rfl)]
 have how:=op_own0 []
 have hloop:=fun e bx=>loop_Ov0 _ rfl e bx
 obtain ⟨fa,fb,fv,hfn⟩:=FNs
 obtain ⟨dr,ev,eo,so,co,⟨hev,hco,heo,hdr⟩,R⟩:=RULESB CC
 rw [<- hev]
 rw [<- hco] at how
 rw [<- hev] at hloop
 simp only [fpart,part',Try.f21,Option.getD] at hloop ⊢
 simp (maxSteps:=5000000) only [SA,SB,SD,R,SF,SG,SH,seval,TG,SE,SC,UTT,ZCT,RV,dynR,hfn,nchP,List.getElem?_concat_length,ss1,List.set_cons_zero,List.set_cons_succ,Bool.not_not,strP_eql,strP_neq,how]
 generalize hE:ev _ _=z
 obtain ⟨e',he,g5⟩:=PO5.of hE (hloop _ _ (by simp (maxSteps:=5000000) only [SA,SB,SD,R,SF,seval] <;> rfl) (by simp (maxSteps:=5000000) only [SA,SB,SD,R,SF,seval] <;> rfl) (by simp (maxSteps:=5000000) only [SA,SB,SD,R,SF,seval] <;> rfl))
 subst he
 simp (maxSteps:=5000000) only [SA,SB,SD,R,SF,SG,SH,seval,TG,SE,SC,UTT,ZCT,RV,dynR,hfn,nchP,List.getElem?_concat_length,ss1,List.set_cons_zero,List.set_cons_succ,Bool.not_not,strP_eql,strP_neq,g5]
 rw [endQ_nil]
 exact ⟨_,rfl⟩
theorem op_Start0 (f:Fw) (t:Int) (bx):callOp CC (callL CC) 10 [.sl [],fwV f,.int .i64 t] bx=some (.ret (.sl []),bx):=by
 obtain ⟨b,h⟩:=call_Start0 f t
 exact callOp_of rfl (by simp only [SA,fwV_pure,Bool.and_true]) h rfl
theorem op_Install0 (f:Fw) (dev t:Int) (bx):callOp CC (callL CC) 11 [.sl [],fwV f,.int .i64 dev,.int .i64 t] bx=some (.ret (.sl []),bx):=by
 obtain ⟨b,h⟩:=call_Install0 f dev t
 exact callOp_of rfl (by simp only [SA,fwV_pure,Bool.and_true]) h rfl
theorem op_Confirm0 (dev:Int) (ok:Bool) (t:Int) (bx):callOp CC (callL CC) 13 [.sl [],.int .i64 dev,.bool ok,.int .i64 t] bx=some (.ret (.sl []),bx):=by
 obtain ⟨b,h⟩:=call_Confirm0 dev ok t
 exact callOp_of rfl (by simp only [SA,fwV_pure,Bool.and_true]) h rfl
theorem op_Overdue0 (t:Int) (bx):callOp CC (callL CC) 21 [.sl [],.int .i64 t] bx=some (.ret (.sl []),bx):=by
 obtain ⟨b,h⟩:=call_Overdue0 t
 exact callOp_of rfl (by simp only [SA,fwV_pure,Bool.and_true]) h rfl
theorem loop_out0 (L:Code) (hL:L=fpart Try.f7 [1,1,1,0,1,0,1,1,1,0,1,0,1,0]) (e:List PV) (bx:List PBox) (h0:getT e 0=.sl []) (h10:getT e 10=.sl []) (h11:getT e 11=.int .i64 0):PO1 bx (evB CC L ⟨e,bx⟩):=by
 rw [evB_at (fpart Try.f7 [1,1,1,0,1,0,1,1,1,0,1,0,1,0,0]) hL]
 have hi:¬ ((0:Int) < 0):=by decide
 obtain ⟨fa,fb,fv,hfn⟩:=FNs
 obtain ⟨dr,ev,eo,so,co,⟨hev,hco,heo,hdr⟩,R⟩:=RULESB CC
 rw [<- hev]
 simp only [fpart,part',Try.f7,Option.getD]
 simp (maxSteps:=5000000) only [SA,SB,SD,R,SF,SG,SH,seval,TG,SE,SC,UTT,ZCT,RV,dynR,hfn,nchP,List.getElem?_concat_length,ss1,List.set_cons_zero,List.set_cons_succ,Bool.not_not,strP_eql,strP_neq,h0,h10,h11,hi]
 exact ⟨_,rfl,by simp (maxSteps:=5000000) only [SA,SB,SD,R,SF,seval,h0]⟩
theorem call_un0 (f:Fw) (a b c:Nat) (t:Int) (hk:(a:Int).tmod 6=0):∃ bx,callL CC 7 [.sl [],fwV f,stV a b c,.int .i64 t] []=some (.ret (.sl []),bx):=by
 rw [callL_enterB (fn:=Try.f7) (c:=Try.f7.body.getD .skip) rfl rfl fat_Us rfl noB_Us okB_Us (Nat.le_of_ble_eq_true rfl)]
 have hlen:¬ ((0:Int) > 0):=by decide
 have hop:=op_Start0 f t
 unfold stV
 obtain ⟨fa,fb,fv,hfn⟩:=FNs
 have hsi:pureL (ints f.sums)=true:=pureL_ints f.sums
 unfold fwV at *
 generalize ints f.sums=zs at *
 obtain ⟨dr,ev,eo,so,co,⟨hev,hco,heo,hdr⟩,R⟩:=RULESB CC
 rw [<- hev]
 rw [<- hco] at hop
 simp only [opsOf,fpart,part',Try.f7,Option.getD] at ⊢
 simp (maxSteps:=5000000) only [SA,SB,SD,R,SF,SG,SH,seval,TG,SE,SC,UTT,ZCT,RV,dynR,hfn,nchP,List.getElem?_concat_length,ss1,List.set_cons_zero,List.set_cons_succ,Bool.not_not,strP_eql,strP_neq,hlen,hsi,hk,hop]
 exact ⟨_,rfl⟩
theorem call_un2 (f:Fw) (a b c:Nat) (t:Int) (hk:(a:Int).tmod 6=2):∃ bx,callL CC 7 [.sl [],fwV f,stV a b c,.int .i64 t] []=some (.ret (.sl []),bx):=by
 rw [callL_enterB (fn:=Try.f7) (c:=Try.f7.body.getD .skip) rfl rfl fat_Us rfl noB_Us okB_Us (Nat.le_of_ble_eq_true rfl)]
 have hlen:¬ ((0:Int) > 0):=by decide
 have hop:=op_Install0 f 0 t
 unfold stV
 obtain ⟨fa,fb,fv,hfn⟩:=FNs
 have hsi:pureL (ints f.sums)=true:=pureL_ints f.sums
 unfold fwV at *
 generalize ints f.sums=zs at *
 obtain ⟨dr,ev,eo,so,co,⟨hev,hco,heo,hdr⟩,R⟩:=RULESB CC
 rw [<- hev]
 rw [<- hco] at hop
 simp only [opsOf,fpart,part',Try.f7,Option.getD] at ⊢
 simp (maxSteps:=5000000) only [SA,SB,SD,R,SF,SG,SH,seval,TG,SE,SC,UTT,ZCT,RV,dynR,hfn,nchP,List.getElem?_concat_length,ss1,List.set_cons_zero,List.set_cons_succ,Bool.not_not,strP_eql,strP_neq,hlen,hsi,hk,hop]
 exact ⟨_,rfl⟩
theorem call_un3 (f:Fw) (a b c:Nat) (t:Int) (hk:(a:Int).tmod 6=3):∃ bx,callL CC 7 [.sl [],fwV f,stV a b c,.int .i64 t] []=some (.ret (.sl []),bx):=by
 rw [callL_enterB (fn:=Try.f7) (c:=Try.f7.body.getD .skip) rfl rfl fat_Us rfl noB_Us okB_Us (Nat.le_of_ble_eq_true rfl)]
 have hlen:¬ ((0:Int) > 0):=by decide
 have hop:=op_Confirm0 0 true t
 unfold stV
 obtain ⟨fa,fb,fv,hfn⟩:=FNs
 have hsi:pureL (ints f.sums)=true:=pureL_ints f.sums
 unfold fwV at *
 generalize ints f.sums=zs at *
 obtain ⟨dr,ev,eo,so,co,⟨hev,hco,heo,hdr⟩,R⟩:=RULESB CC
 rw [<- hev]
 rw [<- hco] at hop
 simp only [opsOf,fpart,part',Try.f7,Option.getD] at ⊢
 simp (maxSteps:=5000000) only [SA,SB,SD,R,SF,SG,SH,seval,TG,SE,SC,UTT,ZCT,RV,dynR,hfn,nchP,List.getElem?_concat_length,ss1,List.set_cons_zero,List.set_cons_succ,Bool.not_not,strP_eql,strP_neq,hlen,hsi,hk,hop]
 exact ⟨_,rfl⟩
theorem call_un4 (f:Fw) (a b c:Nat) (t:Int) (hk:(a:Int).tmod 6=4):∃ bx,callL CC 7 [.sl [],fwV f,stV a b c,.int .i64 t] []=some (.ret (.sl []),bx):=by
 rw [callL_enterB (fn:=Try.f7) (c:=Try.f7.body.getD .skip) rfl rfl fat_Us rfl noB_Us okB_Us (Nat.le_of_ble_eq_true rfl)]
 have hlen:¬ ((0:Int) > 0):=by decide
 have hop:=op_Confirm0 0 false t
 unfold stV
 obtain ⟨fa,fb,fv,hfn⟩:=FNs
 have hsi:pureL (ints f.sums)=true:=pureL_ints f.sums
 unfold fwV at *
 generalize ints f.sums=zs at *
 obtain ⟨dr,ev,eo,so,co,⟨hev,hco,heo,hdr⟩,R⟩:=RULESB CC
 rw [<- hev]
 rw [<- hco] at hop
 simp only [opsOf,fpart,part',Try.f7,Option.getD] at ⊢
 simp (maxSteps:=5000000) only [SA,SB,SD,R,SF,SG,SH,seval,TG,SE,SC,UTT,ZCT,RV,dynR,hfn,nchP,List.getElem?_concat_length,ss1,List.set_cons_zero,List.set_cons_succ,Bool.not_not,strP_eql,strP_neq,hlen,hsi,hk,hop]
 exact ⟨_,rfl⟩
theorem call_un5 (f:Fw) (a b c:Nat) (t:Int) (hk:(a:Int).tmod 6=5):∃ bx,callL CC 7 [.sl [],fwV f,stV a b c,.int .i64 t] []=some (.ret (.sl []),bx):=by
 rw [callL_enterB (fn:=Try.f7) (c:=Try.f7.body.getD .skip) rfl rfl fat_Us rfl noB_Us okB_Us (Nat.le_of_ble_eq_true rfl)]
 have hlen:¬ ((0:Int) > 0):=by decide
 have hop:=op_Overdue0 t
 unfold stV
 obtain ⟨fa,fb,fv,hfn⟩:=FNs
 have hsi:pureL (ints f.sums)=true:=pureL_ints f.sums
 unfold fwV at *
 generalize ints f.sums=zs at *
 obtain ⟨dr,ev,eo,so,co,⟨hev,hco,heo,hdr⟩,R⟩:=RULESB CC
 rw [<- hev]
 rw [<- hco] at hop
 simp only [opsOf,fpart,part',Try.f7,Option.getD] at ⊢
 simp (maxSteps:=5000000) only [SA,SB,SD,R,SF,SG,SH,seval,TG,SE,SC,UTT,ZCT,RV,dynR,hfn,nchP,List.getElem?_concat_length,ss1,List.set_cons_zero,List.set_cons_succ,Bool.not_not,strP_eql,strP_neq,hlen,hsi,hk,hop]
 exact ⟨_,rfl⟩
theorem call_un1 (f:Fw) (a b c:Nat) (t:Int) (hk:(a:Int).tmod 6=1):∃ bx,callL CC 7 [.sl [],fwV f,stV a b c,.int .i64 t] []=some (.ret (.sl []),bx):=by
 rw [callL_enterB (fn:=Try.f7) (c:=Try.f7.body.getD .skip) rfl rfl fat_Us rfl noB_Us okB_Us (Nat.le_of_ble_eq_true rfl)]
 have hlen:¬ ((0:Int) > 0):=by decide
 obtain ⟨ps,hps,hop⟩:=op_Send [] (by simp) f
 obtain rfl:ps=[]:=List.eq_nil_of_length_eq_zero (by simpa using hps)
 have hloop:=fun e bx=>loop_out0 _ rfl e bx
 simp only [show ups []=[] from rfl,show pts []=[] from rfl] at hop
 unfold stV
 obtain ⟨fa,fb,fv,hfn⟩:=FNs
 have hsi:pureL (ints f.sums)=true:=pureL_ints f.sums
 unfold fwV at *
 generalize ints f.sums=zs at *
 obtain ⟨dr,ev,eo,so,co,⟨hev,hco,heo,hdr⟩,R⟩:=RULESB CC
 rw [<- hev]
 rw [<- hco] at hop
 rw [<- hev] at hloop
 simp only [fpart,part',Try.f7,Option.getD] at hloop ⊢
 simp (maxSteps:=5000000) only [SA,SB,SD,R,SF,SG,SH,seval,TG,SE,SC,UTT,ZCT,RV,dynR,hfn,nchP,List.getElem?_concat_length,ss1,List.set_cons_zero,List.set_cons_succ,Bool.not_not,strP_eql,strP_neq,hlen,hsi,hk,hop]
 generalize hE:ev _ _=z
 obtain ⟨e',he,g0⟩:=PO1.of hE (hloop _ _ (by simp (maxSteps:=5000000) only [SA,SB,SD,R,SF,seval] <;> rfl) (by simp (maxSteps:=5000000) only [SA,SB,SD,R,SF,seval] <;> rfl) (by simp (maxSteps:=5000000) only [SA,SB,SD,R,SF,seval] <;> rfl))
 subst he
 clear hloop hE
 simp (maxSteps:=5000000) only [SA,SB,SD,R,SF,SG,SH,seval,TG,SE,SC,UTT,ZCT,RV,dynR,hfn,nchP,List.getElem?_concat_length,ss1,List.set_cons_zero,List.set_cons_succ,Bool.not_not,strP_eql,strP_neq,g0]
 exact ⟨_,rfl⟩
theorem op_un (f:Fw) (a b c:Nat) (t:Int) (bx):callOp CC (callL CC) 7 [.sl [],fwV f,stV a b c,.int .i64 t] bx=some (.ret (.sl []),bx):=by
 have hc:∃ bx,callL CC 7 [.sl [],fwV f,stV a b c,.int .i64 t] []=some (.ret (.sl []),bx):=by
  have h6:a % 6 < 6:=Nat.mod_lt _ (by decide)
  have hm:(a:Int).tmod 6=((a % 6:Nat):Int):=rfl
  have:a % 6=0∨a % 6=1∨a % 6=2∨a % 6=3∨a % 6=4∨a % 6=5:=by omega
  rcases this with h | h | h | h | h | h <;> rw [h] at hm
  · exact call_un0 f a b c t hm
  · exact call_un1 f a b c t hm
  · exact call_un2 f a b c t hm
  · exact call_un3 f a b c t hm
  · exact call_un4 f a b c t hm
  · exact call_un5 f a b c t hm
 obtain ⟨bx',h2⟩:=hc
 exact callOp_of rfl (by simp only [SA,fwV_pure,stV,PV.pure,Bool.and_true,Bool.and_self]) h2 rfl
end Go.HH
namespace Go.HH
open Go Go.Proofs
set_option maxRecDepth 100000
set_option maxHeartbeats 4000000
set_option linter.unusedSimpArgs false
set_option linter.unusedVariables false
section
variable {C:Cfg} {call:CallT} {ops:Array Oper}
theorem go_al {stD:(Nat->Bool)->St} {AlI:(Nat->Bool)->List (Nat×Loc)->Prop} (hstep:∀ (D:Nat->Bool) (i:Nat) (o:Oper),ops[i]?=some o->D i=false->(∀ e ∈ o.after.toList,Region.binds .any e=true->D e.on=true)->(∀ j o,ops[j]?=some o->D j=true->∀ e ∈ o.after.toList,Region.binds .any e=true->D e.on=true)->o.guard=none∧∀ al,AlI D al->∃ al',stepOp C call false al o (stD D)=some (.next (stD (addD D i)) al')∧AlI (addD D i) al') :
 ∀ (k:Nat) (acc l:List Nat),(∀ j o,ops[j]?=some o->acc.contains j=true->∀ e ∈ o.after.toList,Region.binds .any e=true->acc.contains e.on=true)->l ∈ orderGo ops k acc->∃ s,l=acc.reverse++s∧∀ al,AlI (fun j=>acc.contains j) al->evOps C call false ops (pickOps ops s) al (stD (fun j=>acc.contains j))=some (.normal,stD (fun j=>l.contains j))
 | 0,acc,l,_,h=>by
  simp only [orderGo,List.mem_singleton] at h
  subst h
  refine ⟨[],by simp,fun al _=>?_⟩
  have e:(fun j=>acc.reverse.contains j)=fun j=>acc.contains j:=by funext j;rw [Bool.eq_iff_iff];simp
  rw [e]
  rfl
 | k+1,acc,l,hcl,h=>by
  unfold orderGo at h
  rw [List.mem_flatMap] at h
  obtain ⟨i,hi,h⟩:=h
  split at h
  rotate_left
  · simp at h
  rename_i hr
  have h':=h
  unfold readyB at hr
  simp only [Bool.and_eq_true,Bool.not_eq_true'] at hr
  obtain ⟨hn,hr⟩:=hr
  split at hr
  rotate_left
  · cases hr
  rename_i o ho
  rw [List.all_eq_true] at hr
  obtain ⟨hg,hst⟩:=hstep (fun j=>acc.contains j) i o ho hn (fun e he hb=>by
   have:=hr e he
   rw [hb] at this
   simpa using this) hcl
  have hcl':∀ j o,ops[j]?=some o->(i :: acc).contains j=true->∀ e ∈ o.after.toList,Region.binds .any e=true->(i :: acc).contains e.on=true:=by
   intro j o' ho' hj e he hb
   rw [List.contains_cons] at hj ⊢
   simp only [Bool.or_eq_true,beq_iff_eq] at hj ⊢
   rcases hj with rfl | hj
   · rw [ho] at ho'
     injection ho' with ho'
     subst ho'
     have:=hr e he
     rw [hb] at this
     exact .inr (by simpa using this)
   · exact .inr (hcl j o' ho' hj e he hb)
  obtain ⟨s,hs,hev⟩:=go_al hstep k (i :: acc) l hcl' h'
  refine ⟨i :: s,by rw [hs];simp,fun al hal=>?_⟩
  obtain ⟨al',hst,hal'⟩:=hst al hal
  have hp:pickOps ops (i :: s)=o :: pickOps ops s:=by unfold pickOps;rw [List.filterMap_cons,ho]
  rw [hp]
  unfold evOps
  have hw:wantP ops (stD (fun j=>acc.contains j)).env o=some true:=by unfold wantP;rw [hg]
  simp only [hw,hst]
  have e:addD (fun j=>acc.contains j) i=fun j=>(i :: acc).contains j:=by funext j;unfold addD;rw [List.contains_cons]
  rw [e] at hal' ⊢
  exact hev al' hal'
theorem drawAll_al {stD:(Nat->Bool)->St} {AlI:(Nat->Bool)->List (Nat×Loc)->Prop} (hc:((orders ops).all fun l=>(List.range ops.size).all fun j=>l.contains j)=true) (hne:(orders ops).isEmpty=false)
 (hstep:∀ (D:Nat->Bool) (i:Nat) (o:Oper),ops[i]?=some o->D i=false->(∀ e ∈ o.after.toList,Region.binds .any e=true->D e.on=true)->(∀ j o,ops[j]?=some o->D j=true->∀ e ∈ o.after.toList,Region.binds .any e=true->D e.on=true)->o.guard=none∧∀ al,AlI D al->∃ al',stepOp C call false al o (stD D)=some (.next (stD (addD D i)) al')∧AlI (addD D i) al')
 (hA:AlI (fun _=>false) []) {st:St} (h0:st=stD (fun _=>false)) {r:St} (h1:∀ D:Nat->Bool,(∀ j,j < ops.size->D j=true)->stD D=r):drawAll C call ops st=some (.normal,r):=by
 refine drawAll_iff.2 ⟨fun e=>(by rw [e] at hne;cases hne),fun l hl=>?_⟩
 obtain ⟨s,hs,hev⟩:=go_al hstep _ [] l (fun j o _ h=>by simp at h) hl
 simp only [List.reverse_nil,List.nil_append] at hs
 subst hs
 rw [List.all_eq_true] at hc
 have hl':=hc l hl
 rw [List.all_eq_true] at hl'
 have h2:=h1 (fun j=>l.contains j) (fun j hj=>hl' j (List.mem_range.2 hj))
 have e:(fun j=>([]:List Nat).contains j)=fun _=>false:=by funext j;rfl
 have h3:=hev []
 rw [e] at h3
 have h3:=h3 hA
 rw [h2] at h3
 rw [<- h0] at h3
 rw [h3]
 rfl
end
theorem find_killT (al:List (Nat×Loc)) (d k j:Nat) (hk:d≠k) (hj:d≠j) (h:al.find? (fun p=>p.1 == k)=some (k,.tmp j)):(killT al (some d)).find? (fun p=>p.1 == k)=some (k,.tmp j):=by
 induction al with
 | nil=>cases h
 | cons p r ih=>
  obtain ⟨a,l⟩:=p
  rw [List.find?_cons] at h
  unfold killT at ih ⊢
  simp only at ih ⊢
  rw [List.filter_cons]
  by_cases e:a=k
  · subst e
    simp only [beq_self_eq_true] at h
    injection h with h
    injection h with h1 h2
    subst h2
    rw [if_pos (by simp [Ne.symm hk,Ne.symm hj]),List.find?_cons]
    simp
  · have e':(a == k)=false:=by simpa using e
    simp only [e'] at h
    split
    · rw [List.find?_cons]
      simp only [e']
      exact ih h
    · exact ih h
end Go.HH
