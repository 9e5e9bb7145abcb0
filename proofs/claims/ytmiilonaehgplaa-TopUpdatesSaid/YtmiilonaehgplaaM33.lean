/-
  What the law needs, packed: TI TR TJ.
-/
import Derived.Test.YtmiilonaehgplaaM32
namespace Go.HH
open Go Go.Proofs
set_option maxRecDepth 100000
set_option maxHeartbeats 4000000
set_option linter.unusedSimpArgs false
set_option linter.unusedVariables false
theorem PL.apps {j:Nat} {keep:List Nat} {e e2:List PV} {bx ex:List PBox} {r:Nat} {Q:PV->Prop} {X Y:Prop} {res:Option (Ex×St)} (hk:∀ t ∈ keep,getT e2 t=getT e t) (hX:Y->X) (h:PL j keep e2 (bx++ex) r Q Y res):PL j keep e bx r Q X res:=by
 obtain ⟨e',ex',h⟩:=h
 refine ⟨e',ex++ex',?_⟩
 rw [<- List.append_assoc]
 rcases h with ⟨h1,h2,h3⟩ | h
 · exact .inl ⟨h1,fun t ht=>(h2 t ht).trans (hk t ht),hX h3⟩
 · exact .inr h
theorem PL.appss {j:Nat} {keep:List Nat} {e e2:List PV} {bx ex:List PBox} {x:PBox} {r:Nat} {Q:PV->Prop} {X Y:Prop} {res:Option (Ex×St)} (hk:∀ t ∈ keep,getT e2 t=getT e t) (hX:Y->X) (h:PL j keep e2 (bx++[x]++ex) r Q Y res):PL j keep e bx r Q X res:=by
 rw [List.append_assoc] at h
 exact PL.apps hk hX h
theorem PL.rets {j:Nat} {keep:List Nat} {e e':List PV} {bx ex:List PBox} {x:PBox} {r:Nat} {Q:PV->Prop} {X:Prop} (h:Q (getT e' r)):PL j keep e bx r Q X (some (.ret,⟨e',bx++[x]++ex⟩)):=
 ⟨e',[x]++ex,.inr ⟨by rw [List.append_assoc],h⟩⟩
theorem loop_ck2 (L:Code) (hL:L=fpart Try.f42 [1,1,1,0,1,0,0,1,1,0,0,1,1,1,0]) (l:List At) (hl:l.length<=9223372036854775807) (p:Nat) (s:List UInt8) (rest:List PV):∀ (k i:Nat) (e:List PV) (bx:List PBox),i+k=l.length ->
 getT e 4=.bp p 0->getT e 34=.sl (l.map attV)->getT e 35=.int .i64 l.length->getT e 36=.int .i64 i->bx[p]?=some (.cells 67 (.str s :: rest))->PL 2 [1,3,19,20,21] e bx 2 isI True (evL CC L ⟨e,bx⟩):=by
 intro k
 induction k with
 | zero=>
  intro i e bx hk ht h1 h2 h3 hb
  rw [evL_at (fpart Try.f42 [1,1,1,0,1,0,0,1,1,0,0,1,1,1,0,0]) hL]
  have hi:¬ ((i:Int) < (l.length:Int)):=by omega
  obtain ⟨ev,eo,so,co,⟨hev,hco⟩,R⟩:=RULES CC;rw [<- hev]
  simp only [fpart,part',Try.f42,Option.getD]
  simp (maxSteps:=5000000) only [SA,SB,SD,R,SF,SG,SH,seval,TG,SE,SC,UTT,ZCT,List.getElem?_concat_length,ss1,List.set_cons_zero,List.set_cons_succ,Bool.not_not,strP_eql,strP_neq,ht,h1,h2,h3,hi]
  exact PL.exit (by intro t ht;simp only [List.mem_cons,List.not_mem_nil,or_false] at ht;(repeat' (first | rcases ht with rfl | ht)) <;> (try subst ht) <;> simp (maxSteps:=5000000) only [SA,SB,SD,R,SF,seval]) trivial
 | succ k ih=>
  intro i e bx hk ht h1 h2 h3 hb
  rw [evL_at (fpart Try.f42 [1,1,1,0,1,0,0,1,1,0,0,1,1,1,0,0]) hL]
  have hi:((i:Int) < (l.length:Int)):=by omega
  have hi0:¬ ((i:Int) < 0):=by omega
  have hw:=wrap_i64 (n:=(i:Int)+1) ⟨by omega,by omega⟩
  have key:=fun e bx=>ih (i+1) e bx (by omega)
  have cast1:((i+1:Nat):Int)=(i:Int)+1:=by omega
  rw [cast1] at key
  have hx:=map_get (f:=attV) (l:=l) (i:=i) (x:=l[i]'(by omega)) (List.getElem?_eq_getElem (by omega))
  generalize l[i]'(by omega)=x at *
  generalize l.map attV=xs at *
  have hb1:=get_app hb
  obtain ⟨nm,kd,mn,mx,en,wr,sf⟩:=x
  unfold attV at hx
  simp only at hx
  generalize strs en=zs at *
  have heq:strP .eql nm s=some (.bool (nm == s)):=rfl
  generalize (nm == s)=b at *
  cases b with
  | true=>
   obtain ⟨ev,eo,so,co,⟨hev,hco⟩,R⟩:=RULES CC;rw [<- hev]
   simp only [fpart,part',Try.f42,Option.getD]
   simp (maxSteps:=5000000) only [SA,SB,SD,R,SF,SG,SH,seval,TG,SE,SC,UTT,ZCT,List.getElem?_concat_length,ss1,List.set_cons_zero,List.set_cons_succ,Bool.not_not,strP_eql,strP_neq,ht,h1,h2,h3,hi,hi0,hx,heq,hb1]
   refine PL.ret1 ?_
   exact ⟨_,by simp (maxSteps:=5000000) only [SA,SB,SD,R,SF,seval];rfl⟩
  | false=>
   obtain ⟨ev,eo,so,co,⟨hev,hco⟩,R⟩:=RULES CC;rw [<- hev]
   rw [<- hev] at key
   simp only [fpart,part',Try.f42,Option.getD]
   simp (maxSteps:=5000000) only [SA,SB,SD,R,SF,SG,SH,seval,TG,SE,SC,UTT,ZCT,List.getElem?_concat_length,ss1,List.set_cons_zero,List.set_cons_succ,Bool.not_not,strP_eql,strP_neq,ht,h1,h2,h3,hi,hi0,hx,heq,hb1,hw]
   refine PL.app (by intro t ht;simp only [List.mem_cons,List.not_mem_nil,or_false] at ht;(repeat' (first | rcases ht with rfl | ht)) <;> (try subst ht) <;> simp (maxSteps:=5000000) only [SA,SB,SD,R,SF,seval]) (fun h=>h) (key _ _ ?_ ?_ ?_ ?_ (hb1 _))
   · simp (maxSteps:=5000000) only [SA,SB,SD,R,SF,seval,ht]
   · simp (maxSteps:=5000000) only [SA,SB,SD,R,SF,seval,h1]
   · simp (maxSteps:=5000000) only [SA,SB,SD,R,SF,seval,h2]
   · simp (maxSteps:=5000000) only [SA,SB,SD,R,SF,seval]
theorem loop_ck0 (L:Code) (hL:L=fpart Try.f42 [1,1,1,0,1,0]) (l:List At) (hl:l.length<=9223372036854775807) (nm:List UInt8) (p2 p3:PV):∀ (k i:Nat) (e:List PV) (bx:List PBox),i+k=l.length ->
 getT e 1=.bp 0 0->getT e 19=.sl (l.map attV)->getT e 20=.int .i64 l.length->getT e 21=.int .i64 i->bx[0]?=some (.cells 76 [.str nm,.sl (l.map attV),p2,p3])->PL 0 [1] e bx 2 isI (∀ a ∈ l.drop i,a.en.length<=64) (evL CC L ⟨e,bx⟩):=by
 intro k
 induction k with
 | zero=>
  intro i e bx hk ht h1 h2 h3 hb
  rw [evL_at (fpart Try.f42 [1,1,1,0,1,0,0]) hL]
  have hi:¬ ((i:Int) < (l.length:Int)):=by omega
  have hX:∀ a ∈ l.drop i,a.en.length<=64:=by rw [List.drop_eq_nil_of_le (by omega)];simp
  obtain ⟨ev,eo,so,co,⟨hev,hco⟩,R⟩:=RULES CC;rw [<- hev]
  simp only [fpart,part',Try.f42,Option.getD]
  simp (maxSteps:=5000000) only [SA,SB,SD,R,SF,SG,SH,seval,TG,SE,SC,UTT,ZCT,List.getElem?_concat_length,ss1,List.set_cons_zero,List.set_cons_succ,Bool.not_not,strP_eql,strP_neq,ht,h1,h2,h3,hi]
  exact PL.exit (by intro t ht;simp only [List.mem_cons,List.not_mem_nil,or_false] at ht;(repeat' (first | rcases ht with rfl | ht)) <;> (try subst ht) <;> simp (maxSteps:=5000000) only [SA,SB,SD,R,SF,seval]) hX
 | succ k ih=>
  intro i e bx hk ht h1 h2 h3 hb
  rw [evL_at (fpart Try.f42 [1,1,1,0,1,0,0]) hL]
  have hi:((i:Int) < (l.length:Int)):=by omega
  have hi0:¬ ((i:Int) < 0):=by omega
  have hw:=wrap_i64 (n:=(i:Int)+1) ⟨by omega,by omega⟩
  have key:=fun e bx=>ih (i+1) e bx (by omega)
  have cast1:((i+1:Nat):Int)=(i:Int)+1:=by omega
  rw [cast1] at key
  have hx:=map_get (f:=attV) (l:=l) (i:=i) (x:=l[i]'(by omega)) (List.getElem?_eq_getElem (by omega))
  have hdr:l.drop i=(l[i]'(by omega)) :: l.drop (i+1):=List.drop_eq_getElem_cons (by omega)
  have hd:=op_value_Def (l[i]'(by omega))
  have hde:dfV (l[i]'(by omega))=0->(l[i]'(by omega)).en.length<=64:=dfV_en
  have hsl:=sl_hi (t:=72) (el:=67) (s:=7) (by kernel_rfl) (by kernel_rfl) (l.map attV) i (by rw [List.length_map];omega)
  rw [<- List.map_take] at hsl
  have hl0:(l.take i).length<=9223372036854775807:=by rw [List.length_take];omega
  have hll:((l.take i).map attV).length=(l.take i).length:=List.length_map _
  generalize l.take i=l0 at *
  rw [hdr]
  generalize l[i]'(by omega)=x at *
  generalize l.drop (i+1)=rest at *
  have hb1:=get_app hb
  obtain ⟨xn,xk,xmn,xmx,xen,xwr,xsf⟩:=x
  have loop2:=fun p e bx=>loop_ck2 _ rfl l0 hl0 p xn [.int .i64 xk,.int .i64 xmn,.int .i64 xmx,.sl (strs xen),.bool xwr,.bool xsf] l0.length 0 e bx (by omega)
  simp only at hde
  generalize dfV _=dv at *
  generalize hxs:l.map attV=xs at *
  generalize hxl:l0.map attV=xl at *
  unfold attV at hx hd
  simp only at hx hd
  have hp4:=strs_pure xen
  generalize strs xen=zs at *
  by_cases d0:dv=0
  · have d1:(dv != 0)=false:=by simp [d0]
    have hX:(∀ a ∈ rest,a.en.length<=64)->∀ a ∈ (⟨xn,xk,xmn,xmx,xen,xwr,xsf⟩:At) :: rest,a.en.length<=64:=fun h a ha=>by
     rcases List.mem_cons.1 ha with rfl | ha
     · exact hde d0
     · exact h a ha
    obtain ⟨ev,eo,so,co,⟨hev,hco⟩,R⟩:=RULES CC;rw [<- hev]
    rw [<- hco] at hd
    rw [<- hev] at key loop2
    simp only [fpart,part',Try.f42,Option.getD] at loop2 ⊢
    simp (maxSteps:=5000000) only [SA,SB,SD,R,SF,SG,SH,seval,TG,SE,SC,UTT,ZCT,List.getElem?_concat_length,ss1,List.set_cons_zero,List.set_cons_succ,Bool.not_not,strP_eql,strP_neq,ht,h1,h2,h3,hi,hi0,hx,hb1,hd,hp4,d1,hsl,hll]
    generalize hE:ev _ _=z
    have hP:=PL.of hE (loop2 bx.length _ _ (by simp (maxSteps:=5000000) only [SA,SB,SD,R,SF,seval] <;> rfl) (by simp (maxSteps:=5000000) only [SA,SB,SD,R,SF,seval] <;> rfl) (by simp (maxSteps:=5000000) only [SA,SB,SD,R,SF,seval] <;> rfl) (by simp (maxSteps:=5000000) only [SA,SB,SD,R,SF,seval] <;> rfl) List.getElem?_concat_length)
    obtain ⟨e',ex,⟨he,hk,_⟩ | ⟨he,n,g2⟩⟩:=hP
    · subst he
      have k1:=hk 1 (by simp)
      have k19:=hk 19 (by simp)
      have k20:=hk 20 (by simp)
      have k21:=hk 21 (by simp)
      simp (maxSteps:=5000000) only [SA,SB,SD,R,SF,seval,ht,h1,h2,h3] at k1 k19 k20 k21
      simp (maxSteps:=5000000) only [SA,SB,SD,R,SF,SG,SH,seval,TG,SE,SC,UTT,ZCT,List.getElem?_concat_length,ss1,List.set_cons_zero,List.set_cons_succ,Bool.not_not,strP_eql,strP_neq,k1,k19,k20,k21,hw]
      refine PL.appss (by intro t hm;simp only [List.mem_cons,List.not_mem_nil,or_false] at hm;subst hm;simp (maxSteps:=5000000) only [SA,SB,SD,R,SF,seval,k1,ht]) hX (key _ _ ?_ ?_ ?_ ?_ (get_apps (hb1 _) _))
      · simp (maxSteps:=5000000) only [SA,SB,SD,R,SF,seval,k1]
      · simp (maxSteps:=5000000) only [SA,SB,SD,R,SF,seval,k19]
      · simp (maxSteps:=5000000) only [SA,SB,SD,R,SF,seval,k20]
      · simp (maxSteps:=5000000) only [SA,SB,SD,R,SF,seval]
    · subst he
      simp (maxSteps:=5000000) only [SA,SB,SD,R,SF,SG,SH,seval,TG,SE,SC,UTT,ZCT,List.getElem?_concat_length,ss1,List.set_cons_zero,List.set_cons_succ,Bool.not_not,strP_eql,strP_neq,g2]
      refine PL.rets ?_
      exact ⟨_,g2⟩
  · have d1:(dv != 0)=true:=by simpa using d0
    obtain ⟨ev,eo,so,co,⟨hev,hco⟩,R⟩:=RULES CC;rw [<- hev]
    rw [<- hco] at hd
    simp only [fpart,part',Try.f42,Option.getD]
    simp (maxSteps:=5000000) only [SA,SB,SD,R,SF,SG,SH,seval,TG,SE,SC,UTT,ZCT,List.getElem?_concat_length,ss1,List.set_cons_zero,List.set_cons_succ,Bool.not_not,strP_eql,strP_neq,ht,h1,h2,h3,hi,hi0,hx,hb1,hd,hp4,d1]
    refine PL.ret1 ?_
    exact ⟨_,by simp (maxSteps:=5000000) only [SA,SB,SD,R,SF,seval];rfl⟩
theorem loop_ck4 (L:Code) (hL:L=fpart Try.f42 [1,1,1,1,0,1,0]) (c:Cl) (hl:c.cms.length<=9223372036854775807) (hc:okCl c) (hen:∀ a ∈ c.ats,a.en.length<=64):∀ (k i:Nat) (e:List PV) (bx:List PBox),i+k=c.cms.length ->
 getT e 1=.bp 0 0->getT e 49=.int .i64 c.cms.length->getT e 50=.int .i64 i->bx[0]?=some (.cells 76 (clV c).cells)->PL 4 [1] e bx 2 isI True (evL CC L ⟨e,bx⟩):=by
 intro k
 induction k with
 | zero=>
  intro i e bx hk ht h2 h3 hb
  rw [evL_at (fpart Try.f42 [1,1,1,1,0,1,0,0]) hL]
  have hi:¬ ((i:Int) < (c.cms.length:Int)):=by omega
  obtain ⟨ev,eo,so,co,⟨hev,hco⟩,R⟩:=RULES CC;rw [<- hev]
  simp only [fpart,part',Try.f42,Option.getD]
  simp (maxSteps:=5000000) only [SA,SB,SD,R,SF,SG,SH,seval,TG,SE,SC,UTT,ZCT,List.getElem?_concat_length,ss1,List.set_cons_zero,List.set_cons_succ,Bool.not_not,strP_eql,strP_neq,ht,h2,h3,hi]
  exact PL.exit (by intro t ht;simp only [List.mem_cons,List.not_mem_nil,or_false] at ht;(repeat' (first | rcases ht with rfl | ht)) <;> (try subst ht) <;> simp (maxSteps:=5000000) only [SA,SB,SD,R,SF,seval]) trivial
 | succ k ih=>
  intro i e bx hk ht h2 h3 hb
  rw [evL_at (fpart Try.f42 [1,1,1,1,0,1,0,0]) hL]
  have hi:((i:Int) < (c.cms.length:Int)):=by omega
  have hi0:¬ ((i:Int) < 0):=by omega
  have hw:=wrap_i64 (n:=(i:Int)+1) ⟨by omega,by omega⟩
  have key:=fun e bx=>ih (i+1) e bx (by omega)
  have cast1:((i+1:Nat):Int)=(i:Int)+1:=by omega
  rw [cast1] at key
  obtain ⟨n,hnb⟩:=op_numbered c hc hen i (by omega)
  obtain ⟨nm,ats,cms,ev'⟩:=c
  simp only at h2 hi
  unfold clV at hb hnb key
  simp only [show ∀ cs,(PV.agg cs).cells=cs from fun _=>rfl] at hb key
  have hq1:=atts_pure ats
  have hq2:=cms_pure cms
  have hq3:=strs_pure ev'
  generalize ats.map attV=xs1 at *
  generalize cms.map cmV=xs2 at *
  generalize strs ev'=xs3 at *
  by_cases n00:n=0
  · have n0:(n != 0)=false:=by simp [n00]
    obtain ⟨ev,eo,so,co,⟨hev,hco⟩,R⟩:=RULES CC;rw [<- hev]
    rw [<- hco] at hnb
    rw [<- hev] at key
    simp only [fpart,part',Try.f42,Option.getD]
    simp (maxSteps:=5000000) only [SA,SB,SD,R,SF,SG,SH,seval,TG,SE,SC,UTT,ZCT,List.getElem?_concat_length,ss1,List.set_cons_zero,List.set_cons_succ,Bool.not_not,strP_eql,strP_neq,n0,ht,h2,h3,hi,hi0,hb,hnb,hq1,hq2,hq3,hw]
    refine PL.env (by intro t ht;simp only [List.mem_cons,List.not_mem_nil,or_false] at ht;(repeat' (first | rcases ht with rfl | ht)) <;> (try subst ht) <;> simp (maxSteps:=5000000) only [SA,SB,SD,R,SF,seval]) (fun h=>h) (key _ _ ?_ ?_ ?_ hb)
    · simp (maxSteps:=5000000) only [SA,SB,SD,R,SF,seval,ht]
    · simp (maxSteps:=5000000) only [SA,SB,SD,R,SF,seval,h2]
    · simp (maxSteps:=5000000) only [SA,SB,SD,R,SF,seval]
  · have n0:(n != 0)=true:=by simpa using n00
    obtain ⟨ev,eo,so,co,⟨hev,hco⟩,R⟩:=RULES CC;rw [<- hev]
    rw [<- hco] at hnb
    simp only [fpart,part',Try.f42,Option.getD]
    simp (maxSteps:=5000000) only [SA,SB,SD,R,SF,SG,SH,seval,TG,SE,SC,UTT,ZCT,List.getElem?_concat_length,ss1,List.set_cons_zero,List.set_cons_succ,Bool.not_not,strP_eql,strP_neq,n0,ht,h2,h3,hi,hi0,hb,hnb,hq1,hq2,hq3]
    refine PL.ret ?_
    exact ⟨_,by simp (maxSteps:=5000000) only [SA,SB,SD,R,SF,seval];rfl⟩
theorem loop_ck6 (L:Code) (hL:L=fpart Try.f42 [1,1,1,1,1,0,1,0]) (l:List (List UInt8)) (hl:l.length<=9223372036854775807) (p0 p1 p2:PV):∀ (k i:Nat) (e:List PV) (bx:List PBox),i+k=l.length ->
 getT e 1=.bp 0 0->getT e 61=.sl (strs l)->getT e 62=.int .i64 l.length->getT e 63=.int .i64 i->bx[0]?=some (.cells 76 [p0,p1,p2,.sl (strs l)])->PL 6 [1] e bx 2 isI True (evL CC L ⟨e,bx⟩):=by
 intro k
 induction k with
 | zero=>
  intro i e bx hk ht h1 h2 h3 hb
  rw [evL_at (fpart Try.f42 [1,1,1,1,1,0,1,0,0]) hL]
  have hi:¬ ((i:Int) < (l.length:Int)):=by omega
  obtain ⟨ev,eo,so,co,⟨hev,hco⟩,R⟩:=RULES CC;rw [<- hev]
  simp only [fpart,part',Try.f42,Option.getD]
  simp (maxSteps:=5000000) only [SA,SB,SD,R,SF,SG,SH,seval,TG,SE,SC,UTT,ZCT,List.getElem?_concat_length,ss1,List.set_cons_zero,List.set_cons_succ,Bool.not_not,strP_eql,strP_neq,ht,h1,h2,h3,hi]
  exact PL.exit (by intro t ht;simp only [List.mem_cons,List.not_mem_nil,or_false] at ht;(repeat' (first | rcases ht with rfl | ht)) <;> (try subst ht) <;> simp (maxSteps:=5000000) only [SA,SB,SD,R,SF,seval]) trivial
 | succ k ih=>
  intro i e bx hk ht h1 h2 h3 hb
  rw [evL_at (fpart Try.f42 [1,1,1,1,1,0,1,0,0]) hL]
  have hi:((i:Int) < (l.length:Int)):=by omega
  have hi0:¬ ((i:Int) < 0):=by omega
  have hw:=wrap_i64 (n:=(i:Int)+1) ⟨by omega,by omega⟩
  have key:=fun e bx=>ih (i+1) e bx (by omega)
  have cast1:((i+1:Nat):Int)=(i:Int)+1:=by omega
  rw [cast1] at key
  have hx:=strs_get (l:=l) (i:=i) (s:=l[i]'(by omega)) (List.getElem?_eq_getElem (by omega))
  generalize l[i]'(by omega)=x at *
  have hv:=op_names_Valid x
  have hsl:=sl_hi (t:=46) (el:=9) (s:=1) (by kernel_rfl) (by kernel_rfl) (strs l) i (by rw [strs_length];omega)
  have hst:(strs l).take i=strs (l.take i):=by unfold strs;rw [List.map_take]
  rw [hst] at hsl
  have hcn:=op_Contains (l.take i) (by rw [List.length_take];omega) x
  have hp0:=strs_pure (l.take i)
  generalize decide (ixF 0 (l.take i) x ≥ 0)=bc at *
  generalize strs (l.take i)=ys at *
  generalize strs l=xs at *
  generalize valB x=bv at *
  cases bv with
  | true=>
   cases bc with
   | true=>
    obtain ⟨ev,eo,so,co,⟨hev,hco⟩,R⟩:=RULES CC;rw [<- hev]
    rw [<- hco] at hv hcn
    simp only [fpart,part',Try.f42,Option.getD]
    simp (maxSteps:=5000000) only [SA,SB,SD,R,SF,SG,SH,seval,TG,SE,SC,UTT,ZCT,List.getElem?_concat_length,ss1,List.set_cons_zero,List.set_cons_succ,Bool.not_not,strP_eql,strP_neq,ht,h1,h2,h3,hi,hi0,hx,hb,hv,hsl,hcn,hp0]
    refine PL.ret ?_
    exact ⟨_,by simp (maxSteps:=5000000) only [SA,SB,SD,R,SF,seval];rfl⟩
   | false=>
    obtain ⟨ev,eo,so,co,⟨hev,hco⟩,R⟩:=RULES CC;rw [<- hev]
    rw [<- hco] at hv hcn
    rw [<- hev] at key
    simp only [fpart,part',Try.f42,Option.getD]
    simp (maxSteps:=5000000) only [SA,SB,SD,R,SF,SG,SH,seval,TG,SE,SC,UTT,ZCT,List.getElem?_concat_length,ss1,List.set_cons_zero,List.set_cons_succ,Bool.not_not,strP_eql,strP_neq,ht,h1,h2,h3,hi,hi0,hx,hb,hv,hsl,hcn,hp0,hw]
    refine PL.env (by intro t ht;simp only [List.mem_cons,List.not_mem_nil,or_false] at ht;(repeat' (first | rcases ht with rfl | ht)) <;> (try subst ht) <;> simp (maxSteps:=5000000) only [SA,SB,SD,R,SF,seval]) (fun h=>h) (key _ _ ?_ ?_ ?_ ?_ hb)
    · simp (maxSteps:=5000000) only [SA,SB,SD,R,SF,seval,ht]
    · simp (maxSteps:=5000000) only [SA,SB,SD,R,SF,seval,h1]
    · simp (maxSteps:=5000000) only [SA,SB,SD,R,SF,seval,h2]
    · simp (maxSteps:=5000000) only [SA,SB,SD,R,SF,seval]
  | false=>
   obtain ⟨ev,eo,so,co,⟨hev,hco⟩,R⟩:=RULES CC;rw [<- hev]
   rw [<- hco] at hv
   simp only [fpart,part',Try.f42,Option.getD]
   simp (maxSteps:=5000000) only [SA,SB,SD,R,SF,SG,SH,seval,TG,SE,SC,UTT,ZCT,List.getElem?_concat_length,ss1,List.set_cons_zero,List.set_cons_succ,Bool.not_not,strP_eql,strP_neq,ht,h1,h2,h3,hi,hi0,hx,hb,hv]
   refine PL.ret ?_
   exact ⟨_,by simp (maxSteps:=5000000) only [SA,SB,SD,R,SF,seval];rfl⟩
theorem call_cluster_Check (c:Cl) (hc:okCl c):∃ n bx,callL CC 42 [clV c] []=some (.ret (.int .i64 n),bx):=by
 rw [callL_enter (fn:=Try.f42) (c:=Try.f42.body.getD .skip) rfl rfl fat_cluster_Check rfl ok_cluster_Check (Nat.le_of_ble_eq_true rfl)]
 have hv:=op_names_Valid c.nm
 obtain ⟨bw,hwd⟩:=op_wide c hc
 have l0:=fun e bx=>loop_ck0 _ rfl c.ats hc.1 c.nm (.sl (c.cms.map cmV)) (.sl (strs c.ev)) c.ats.length 0 e bx (by omega)
 have l4:=fun hen e bx=>loop_ck4 _ rfl c hc.2.1 hc hen c.cms.length 0 e bx (by omega)
 have l6:=fun e bx=>loop_ck6 _ rfl c.ev hc.2.2.1 (.str c.nm) (.sl (c.ats.map attV)) (.sl (c.cms.map cmV)) c.ev.length 0 e bx (by omega)
 have hl1:(c.ats.map attV).length=c.ats.length:=List.length_map _
 have hl2:(c.cms.map cmV).length=c.cms.length:=List.length_map _
 have hl3:=strs_length c.ev
 obtain ⟨nm,ats,cms,ev'⟩:=c
 unfold clV at *
 simp only [show ∀ cs,(PV.agg cs).cells=cs from fun _=>rfl] at l4
 simp only at *
 have hq1:=atts_pure ats
 have hq2:=cms_pure cms
 have hq3:=strs_pure ev'
 generalize ats.map attV=xs1 at *
 generalize cms.map cmV=xs2 at *
 generalize strs ev'=xs3 at *
 generalize valB nm=bv at *
 obtain ⟨ev,eo,so,co,⟨hev,hco⟩,R⟩:=RULES CC;rw [<- hev]
 rw [<- hco] at hv hwd
 rw [<- hev] at l0 l4 l6
 simp only [fpart,part',Try.f42,Option.getD] at l0 l4 l6 ⊢
 cases bv with
 | false=>
  simp (maxSteps:=5000000) only [SA,SB,SD,R,SF,SG,SH,seval,TG,SE,SC,UTT,ZCT,List.getElem?_concat_length,ss1,List.set_cons_zero,List.set_cons_succ,Bool.not_not,strP_eql,strP_neq,hv]
  exact ⟨_,_,rfl⟩
 | true=>
  cases bw with
  | true=>
   simp (maxSteps:=5000000) only [SA,SB,SD,R,SF,SG,SH,seval,TG,SE,SC,UTT,ZCT,List.getElem?_concat_length,ss1,List.set_cons_zero,List.set_cons_succ,Bool.not_not,strP_eql,strP_neq,hv,hwd,hq1,hq2,hq3]
   exact ⟨_,_,rfl⟩
  | false=>
   simp (maxSteps:=5000000) only [SA,SB,SD,R,SF,SG,SH,seval,TG,SE,SC,UTT,ZCT,List.getElem?_concat_length,ss1,List.set_cons_zero,List.set_cons_succ,Bool.not_not,strP_eql,strP_neq,hv,hwd,hq1,hq2,hq3,hl1]
   generalize hE:ev _ _=z
   have hP:=PL.of hE (l0 _ _ (by simp (maxSteps:=5000000) only [SA,SB,SD,R,SF,seval] <;> rfl) (by simp (maxSteps:=5000000) only [SA,SB,SD,R,SF,seval] <;> rfl) (by simp (maxSteps:=5000000) only [SA,SB,SD,R,SF,seval] <;> rfl) (by simp (maxSteps:=5000000) only [SA,SB,SD,R,SF,seval] <;> rfl) rfl)
   obtain ⟨e',ex,⟨he,hk,hX⟩ | ⟨he,n,g2⟩⟩:=hP
   · subst he
     rw [List.drop_zero] at hX
     have l4:=l4 hX
     have k1:=hk 1 (by simp)
     simp (maxSteps:=5000000) only [SA,SB,SD,R,SF,seval] at k1
     simp (maxSteps:=5000000) only [SA,SB,SD,R,SF,SG,SH,seval,TG,SE,SC,UTT,ZCT,List.getElem?_concat_length,ss1,List.set_cons_zero,List.set_cons_succ,Bool.not_not,strP_eql,strP_neq,k1,hl2]
     generalize hE2:ev _ _=z2
     have hP2:=PL.of hE2 (l4 _ _ (by simp (maxSteps:=5000000) only [SA,SB,SD,R,SF,seval,k1]) (by simp (maxSteps:=5000000) only [SA,SB,SD,R,SF,seval] <;> rfl) (by simp (maxSteps:=5000000) only [SA,SB,SD,R,SF,seval] <;> rfl) rfl)
     obtain ⟨e2,ex2,⟨he2,hk2,_⟩ | ⟨he2,n,g2⟩⟩:=hP2
     · subst he2
       have m1:=hk2 1 (by simp)
       simp (maxSteps:=5000000) only [SA,SB,SD,R,SF,seval,k1] at m1
       simp (maxSteps:=5000000) only [SA,SB,SD,R,SF,SG,SH,seval,TG,SE,SC,UTT,ZCT,List.getElem?_concat_length,ss1,List.set_cons_zero,List.set_cons_succ,Bool.not_not,strP_eql,strP_neq,m1,hl3]
       generalize hE3:ev _ _=z3
       have hP3:=PL.of hE3 (l6 _ _ (by simp (maxSteps:=5000000) only [SA,SB,SD,R,SF,seval,m1]) (by simp (maxSteps:=5000000) only [SA,SB,SD,R,SF,seval] <;> rfl) (by simp (maxSteps:=5000000) only [SA,SB,SD,R,SF,seval] <;> rfl) (by simp (maxSteps:=5000000) only [SA,SB,SD,R,SF,seval] <;> rfl) rfl)
       obtain ⟨e3,ex3,⟨he3,hk3,_⟩ | ⟨he3,n,g2⟩⟩:=hP3
       · subst he3
         simp (maxSteps:=5000000) only [SA,SB,SD,R,SF,SG,SH,seval,TG,SE,SC,UTT,ZCT,List.getElem?_concat_length,ss1,List.set_cons_zero,List.set_cons_succ,Bool.not_not,strP_eql,strP_neq,m1]
         exact ⟨_,_,rfl⟩
       · subst he3
         simp (maxSteps:=5000000) only [SA,SB,SD,R,SF,SG,SH,seval,TG,SE,SC,UTT,ZCT,List.getElem?_concat_length,ss1,List.set_cons_zero,List.set_cons_succ,Bool.not_not,strP_eql,strP_neq,g2]
         exact ⟨_,_,rfl⟩
     · subst he2
       simp (maxSteps:=5000000) only [SA,SB,SD,R,SF,SG,SH,seval,TG,SE,SC,UTT,ZCT,List.getElem?_concat_length,ss1,List.set_cons_zero,List.set_cons_succ,Bool.not_not,strP_eql,strP_neq,g2]
       exact ⟨_,_,rfl⟩
   · subst he
     simp (maxSteps:=5000000) only [SA,SB,SD,R,SF,SG,SH,seval,TG,SE,SC,UTT,ZCT,List.getElem?_concat_length,ss1,List.set_cons_zero,List.set_cons_succ,Bool.not_not,strP_eql,strP_neq,g2]
     exact ⟨_,_,rfl⟩
theorem op_cluster_Check (c:Cl) (hc:okCl c):∃ n,∀ bx,callOp CC (callL CC) 42 [clV c] bx=some (.ret (.int .i64 n),bx):=by
 obtain ⟨n,bx',h⟩:=call_cluster_Check c hc
 exact ⟨n,fun bx=>callOp_of rfl (by simp only [SA,clV_pure,Bool.and_true]) h rfl⟩
theorem loop_all2 (L:Code) (hL:L=fpart Try.f31 [1,1,0,1,0,0,1,1,0,0,1,1,1,0]) (l:List Cl) (hl:l.length<=9223372036854775807) (p:Nat) (s:List UInt8) (rest:List PV):∀ (k i:Nat) (e:List PV) (bx:List PBox),i+k=l.length ->
 getT e 4=.bp p 0->getT e 25=.sl (l.map clV)->getT e 26=.int .i64 l.length->getT e 27=.int .i64 i->bx[p]?=some (.cells 76 (.str s :: rest))->PL 2 [0,11,12,13] e bx 2 isI True (evL CC L ⟨e,bx⟩):=by
 intro k
 induction k with
 | zero=>
  intro i e bx hk ht h1 h2 h3 hb
  rw [evL_at (fpart Try.f31 [1,1,0,1,0,0,1,1,0,0,1,1,1,0,0]) hL]
  have hi:¬ ((i:Int) < (l.length:Int)):=by omega
  obtain ⟨ev,eo,so,co,⟨hev,hco⟩,R⟩:=RULES CC;rw [<- hev]
  simp only [fpart,part',Try.f31,Option.getD]
  simp (maxSteps:=5000000) only [SA,SB,SD,R,SF,SG,SH,seval,TG,SE,SC,UTT,ZCT,List.getElem?_concat_length,ss1,List.set_cons_zero,List.set_cons_succ,Bool.not_not,strP_eql,strP_neq,ht,h1,h2,h3,hi]
  exact PL.exit (by intro t ht;simp only [List.mem_cons,List.not_mem_nil,or_false] at ht;(repeat' (first | rcases ht with rfl | ht)) <;> (try subst ht) <;> simp (maxSteps:=5000000) only [SA,SB,SD,R,SF,seval]) trivial
 | succ k ih=>
  intro i e bx hk ht h1 h2 h3 hb
  rw [evL_at (fpart Try.f31 [1,1,0,1,0,0,1,1,0,0,1,1,1,0,0]) hL]
  have hi:((i:Int) < (l.length:Int)):=by omega
  have hi0:¬ ((i:Int) < 0):=by omega
  have hw:=wrap_i64 (n:=(i:Int)+1) ⟨by omega,by omega⟩
  have key:=fun e bx=>ih (i+1) e bx (by omega)
  have cast1:((i+1:Nat):Int)=(i:Int)+1:=by omega
  rw [cast1] at key
  have hx:=map_get (f:=clV) (l:=l) (i:=i) (x:=l[i]'(by omega)) (List.getElem?_eq_getElem (by omega))
  generalize l[i]'(by omega)=x at *
  generalize l.map clV=xs at *
  have hb1:=get_app hb
  obtain ⟨nm,ats,cms,ev'⟩:=x
  unfold clV at hx
  simp only at hx
  generalize ats.map attV=xs1 at *
  generalize cms.map cmV=xs2 at *
  generalize strs ev'=xs3 at *
  have heq:strP .eql nm s=some (.bool (nm == s)):=rfl
  generalize (nm == s)=b at *
  cases b with
  | true=>
   obtain ⟨ev,eo,so,co,⟨hev,hco⟩,R⟩:=RULES CC;rw [<- hev]
   simp only [fpart,part',Try.f31,Option.getD]
   simp (maxSteps:=5000000) only [SA,SB,SD,R,SF,SG,SH,seval,TG,SE,SC,UTT,ZCT,List.getElem?_concat_length,ss1,List.set_cons_zero,List.set_cons_succ,Bool.not_not,strP_eql,strP_neq,ht,h1,h2,h3,hi,hi0,hx,heq,hb1]
   refine PL.ret1 ?_
   exact ⟨_,by simp (maxSteps:=5000000) only [SA,SB,SD,R,SF,seval];rfl⟩
  | false=>
   obtain ⟨ev,eo,so,co,⟨hev,hco⟩,R⟩:=RULES CC;rw [<- hev]
   rw [<- hev] at key
   simp only [fpart,part',Try.f31,Option.getD]
   simp (maxSteps:=5000000) only [SA,SB,SD,R,SF,SG,SH,seval,TG,SE,SC,UTT,ZCT,List.getElem?_concat_length,ss1,List.set_cons_zero,List.set_cons_succ,Bool.not_not,strP_eql,strP_neq,ht,h1,h2,h3,hi,hi0,hx,heq,hb1,hw]
   refine PL.app (by intro t ht;simp only [List.mem_cons,List.not_mem_nil,or_false] at ht;(repeat' (first | rcases ht with rfl | ht)) <;> (try subst ht) <;> simp (maxSteps:=5000000) only [SA,SB,SD,R,SF,seval]) (fun h=>h) (key _ _ ?_ ?_ ?_ ?_ (hb1 _))
   · simp (maxSteps:=5000000) only [SA,SB,SD,R,SF,seval,ht]
   · simp (maxSteps:=5000000) only [SA,SB,SD,R,SF,seval,h1]
   · simp (maxSteps:=5000000) only [SA,SB,SD,R,SF,seval,h2]
   · simp (maxSteps:=5000000) only [SA,SB,SD,R,SF,seval]
theorem loop_all0 (L:Code) (hL:L=fpart Try.f31 [1,1,0,1,0]) (l:List Cl) (hl:l.length<=9223372036854775807) (hcs:∀ c ∈ l,okCl c):∀ (k i:Nat) (e:List PV) (bx:List PBox),i+k=l.length ->
 getT e 0=.sl (l.map clV)->getT e 11=.sl (l.map clV)->getT e 12=.int .i64 l.length->getT e 13=.int .i64 i->PL 0 [0] e bx 2 isI True (evL CC L ⟨e,bx⟩):=by
 intro k
 induction k with
 | zero=>
  intro i e bx hk ht h1 h2 h3
  rw [evL_at (fpart Try.f31 [1,1,0,1,0,0]) hL]
  have hi:¬ ((i:Int) < (l.length:Int)):=by omega
  obtain ⟨ev,eo,so,co,⟨hev,hco⟩,R⟩:=RULES CC;rw [<- hev]
  simp only [fpart,part',Try.f31,Option.getD]
  simp (maxSteps:=5000000) only [SA,SB,SD,R,SF,SG,SH,seval,TG,SE,SC,UTT,ZCT,List.getElem?_concat_length,ss1,List.set_cons_zero,List.set_cons_succ,Bool.not_not,strP_eql,strP_neq,ht,h1,h2,h3,hi]
  exact PL.exit (by intro t ht;simp only [List.mem_cons,List.not_mem_nil,or_false] at ht;(repeat' (first | rcases ht with rfl | ht)) <;> (try subst ht) <;> simp (maxSteps:=5000000) only [SA,SB,SD,R,SF,seval]) trivial
 | succ k ih=>
  intro i e bx hk ht h1 h2 h3
  rw [evL_at (fpart Try.f31 [1,1,0,1,0,0]) hL]
  have hi:((i:Int) < (l.length:Int)):=by omega
  have hi0:¬ ((i:Int) < 0):=by omega
  have hw:=wrap_i64 (n:=(i:Int)+1) ⟨by omega,by omega⟩
  have key:=fun e bx=>ih (i+1) e bx (by omega)
  have cast1:((i+1:Nat):Int)=(i:Int)+1:=by omega
  rw [cast1] at key
  have hx:=map_get (f:=clV) (l:=l) (i:=i) (x:=l[i]'(by omega)) (List.getElem?_eq_getElem (by omega))
  obtain ⟨n,hck⟩:=op_cluster_Check (l[i]'(by omega)) (hcs _ (List.getElem_mem _))
  have hsl:=sl_hi (t:=22) (el:=76) (s:=4) (by kernel_rfl) (by kernel_rfl) (l.map clV) i (by rw [List.length_map];omega)
  rw [<- List.map_take] at hsl
  have hl0:(l.take i).length<=9223372036854775807:=by rw [List.length_take];omega
  have hll:((l.take i).map clV).length=(l.take i).length:=List.length_map _
  generalize l.take i=l0 at *
  generalize l[i]'(by omega)=x at *
  obtain ⟨nm,ats,cms,ev'⟩:=x
  have loop2:=fun p e bx=>loop_all2 _ rfl l0 hl0 p nm [.sl (ats.map attV),.sl (cms.map cmV),.sl (strs ev')] l0.length 0 e bx (by omega)
  generalize l.map clV=xs at *
  generalize l0.map clV=xl at *
  unfold clV at hx hck
  simp only at hx hck
  have hq1:=atts_pure ats
  have hq2:=cms_pure cms
  have hq3:=strs_pure ev'
  generalize ats.map attV=xs1 at *
  generalize cms.map cmV=xs2 at *
  generalize strs ev'=xs3 at *
  by_cases d0:n=0
  · have d1:(n != 0)=false:=by simp [d0]
    obtain ⟨ev,eo,so,co,⟨hev,hco⟩,R⟩:=RULES CC;rw [<- hev]
    rw [<- hco] at hck
    rw [<- hev] at key loop2
    simp only [fpart,part',Try.f31,Option.getD] at loop2 ⊢
    simp (maxSteps:=5000000) only [SA,SB,SD,R,SF,SG,SH,seval,TG,SE,SC,UTT,ZCT,List.getElem?_concat_length,ss1,List.set_cons_zero,List.set_cons_succ,Bool.not_not,strP_eql,strP_neq,ht,h1,h2,h3,hi,hi0,hx,hck,hq1,hq2,hq3,d1,hsl,hll]
    generalize hE:ev _ _=z
    have hP:=PL.of hE (loop2 bx.length _ _ (by simp (maxSteps:=5000000) only [SA,SB,SD,R,SF,seval] <;> rfl) (by simp (maxSteps:=5000000) only [SA,SB,SD,R,SF,seval] <;> rfl) (by simp (maxSteps:=5000000) only [SA,SB,SD,R,SF,seval] <;> rfl) (by simp (maxSteps:=5000000) only [SA,SB,SD,R,SF,seval] <;> rfl) List.getElem?_concat_length)
    obtain ⟨e',ex,⟨he,hk,_⟩ | ⟨he,n,g2⟩⟩:=hP
    · subst he
      have k1:=hk 0 (by simp)
      have k19:=hk 11 (by simp)
      have k20:=hk 12 (by simp)
      have k21:=hk 13 (by simp)
      simp (maxSteps:=5000000) only [SA,SB,SD,R,SF,seval,ht,h1,h2,h3] at k1 k19 k20 k21
      simp (maxSteps:=5000000) only [SA,SB,SD,R,SF,SG,SH,seval,TG,SE,SC,UTT,ZCT,List.getElem?_concat_length,ss1,List.set_cons_zero,List.set_cons_succ,Bool.not_not,strP_eql,strP_neq,k1,k19,k20,k21,hw]
      refine PL.appss (by intro t hm;simp only [List.mem_cons,List.not_mem_nil,or_false] at hm;subst hm;simp (maxSteps:=5000000) only [SA,SB,SD,R,SF,seval,k1,ht]) (fun h=>h) (key _ _ ?_ ?_ ?_ ?_)
      · simp (maxSteps:=5000000) only [SA,SB,SD,R,SF,seval,k1]
      · simp (maxSteps:=5000000) only [SA,SB,SD,R,SF,seval,k19]
      · simp (maxSteps:=5000000) only [SA,SB,SD,R,SF,seval,k20]
      · simp (maxSteps:=5000000) only [SA,SB,SD,R,SF,seval]
    · subst he
      simp (maxSteps:=5000000) only [SA,SB,SD,R,SF,SG,SH,seval,TG,SE,SC,UTT,ZCT,List.getElem?_concat_length,ss1,List.set_cons_zero,List.set_cons_succ,Bool.not_not,strP_eql,strP_neq,g2]
      refine PL.rets ?_
      exact ⟨_,g2⟩
  · have d1:(n != 0)=true:=by simpa using d0
    obtain ⟨ev,eo,so,co,⟨hev,hco⟩,R⟩:=RULES CC;rw [<- hev]
    rw [<- hco] at hck
    simp only [fpart,part',Try.f31,Option.getD]
    simp (maxSteps:=5000000) only [SA,SB,SD,R,SF,SG,SH,seval,TG,SE,SC,UTT,ZCT,List.getElem?_concat_length,ss1,List.set_cons_zero,List.set_cons_succ,Bool.not_not,strP_eql,strP_neq,ht,h1,h2,h3,hi,hi0,hx,hck,hq1,hq2,hq3,d1]
    refine PL.ret1 ?_
    exact ⟨_,by simp (maxSteps:=5000000) only [SA,SB,SD,R,SF,seval];rfl⟩
theorem clvs_pure:∀ l:List Cl,pureL (l.map clV)=true
 | []=>rfl
 | f :: r=>by simp only [List.map_cons,pureL,clV_pure,clvs_pure r,Bool.and_self]
theorem call_All (l:List Cl) (hl:l.length<=9223372036854775807) (hcs:∀ c ∈ l,okCl c):∃ n bx,callL CC 31 [.sl (l.map clV)] []=some (.ret (.int .i64 n),bx):=by
 rw [callL_enter (fn:=Try.f31) (c:=Try.f31.body.getD .skip) rfl rfl fat_cluster_All rfl ok_cluster_All (Nat.le_of_ble_eq_true rfl)]
 have l0:=fun e bx=>loop_all0 _ rfl l hl hcs l.length 0 e bx (by omega)
 have hll:(l.map clV).length=l.length:=List.length_map _
 generalize l.map clV=xs at *
 by_cases c1:(l.length:Int) > 256
 · skip
   obtain ⟨ev,eo,so,co,⟨hev,hco⟩,R⟩:=RULES CC;rw [<- hev]
   simp only [fpart,part',Try.f31,Option.getD]
   simp (maxSteps:=5000000) only [SA,SB,SD,R,SF,SG,SH,seval,TG,SE,SC,UTT,ZCT,List.getElem?_concat_length,ss1,List.set_cons_zero,List.set_cons_succ,Bool.not_not,strP_eql,strP_neq,hll,c1]
   exact ⟨_,_,rfl⟩
 · skip
   obtain ⟨ev,eo,so,co,⟨hev,hco⟩,R⟩:=RULES CC;rw [<- hev]
   rw [<- hev] at l0
   simp only [fpart,part',Try.f31,Option.getD] at l0 ⊢
   simp (maxSteps:=5000000) only [SA,SB,SD,R,SF,SG,SH,seval,TG,SE,SC,UTT,ZCT,List.getElem?_concat_length,ss1,List.set_cons_zero,List.set_cons_succ,Bool.not_not,strP_eql,strP_neq,hll,c1]
   generalize hE:ev _ _=z
   have hP:=PL.of hE (l0 _ _ (by simp (maxSteps:=5000000) only [SA,SB,SD,R,SF,seval] <;> rfl) (by simp (maxSteps:=5000000) only [SA,SB,SD,R,SF,seval] <;> rfl) (by simp (maxSteps:=5000000) only [SA,SB,SD,R,SF,seval] <;> rfl) (by simp (maxSteps:=5000000) only [SA,SB,SD,R,SF,seval] <;> rfl))
   obtain ⟨e',ex,⟨he,hk,_⟩ | ⟨he,n,g2⟩⟩:=hP
   · subst he
     simp (maxSteps:=5000000) only [SA,SB,SD,R,SF,SG,SH,seval,TG,SE,SC,UTT,ZCT,List.getElem?_concat_length,ss1,List.set_cons_zero,List.set_cons_succ,Bool.not_not,strP_eql,strP_neq,hll]
     exact ⟨_,_,rfl⟩
   · subst he
     simp (maxSteps:=5000000) only [SA,SB,SD,R,SF,SG,SH,seval,TG,SE,SC,UTT,ZCT,List.getElem?_concat_length,ss1,List.set_cons_zero,List.set_cons_succ,Bool.not_not,strP_eql,strP_neq,g2]
     exact ⟨_,_,rfl⟩
theorem op_All (l:List Cl) (hl:l.length<=9223372036854775807) (hcs:∀ c ∈ l,okCl c):∃ n,∀ bx,callOp CC (callL CC) 31 [.sl (l.map clV)] bx=some (.ret (.int .i64 n),bx):=by
 obtain ⟨n,bx',h⟩:=call_All l hl hcs
 exact ⟨n,fun bx=>callOp_of rfl (by simp only [SA,clvs_pure,Bool.and_true]) h rfl⟩
end Go.HH
namespace Go.HH
open Go Go.Proofs
theorem RV:(∀ i,(PV.mv i).ro=.mv i)∧(∀ i,(PV.mv i).shutV=.mv i)∧(∀ i,(PV.mv i).seal1=.mv i)∧(∀ i,(PV.mv i).cells=[.mv i])∧(∀ i,(PV.mv i).one=true)∧(∀ i,(PV.mv i).pure=false) ∧
 (∀ i t d al b,mvAl b (.mv i) t d al=killT al d)∧(∀ i k d al st,asgT (PV.mv i) k d al st=some (.next (st.put d (.mv i)) (killT (killT al (some k)) d))) ∧
 (∀ i n,(PV.rs i n).ro=.rs i n)∧(∀ i n,(PV.rs i n).shutV=.rs i n)∧(∀ i n,(PV.rs i n).seal1=.rs i n)∧(∀ i n,(PV.rs i n).cells=[.rs i n])∧(∀ i n,(PV.rs i n).one=true)∧(∀ i n,(PV.rs i n).pure=false) ∧
 (∀ i n t d al b,mvAl b (.rs i n) t d al=killT al d)∧(∀ i n k d al st,asgT (PV.rs i n) k d al st=some (.next (st.put d (.rs i n)) (killT (killT al (some k)) d))) ∧
 PV.top.ro=.top∧(∀ t d al b,mvAl b .top t d al=killT al d):=
 ⟨fun _=>rfl,fun _=>rfl,fun _=>rfl,fun _=>rfl,fun _=>rfl,fun _=>rfl,fun _ _ d _ _=>by cases d <;> rfl,fun _ _ _ _ _=>rfl,
  fun _ _=>rfl,fun _ _=>rfl,fun _ _=>rfl,fun _ _=>rfl,fun _ _=>rfl,fun _ _=>rfl,fun _ _ _ d _ _=>by cases d <;> rfl,fun _ _ _ _ _ _=>rfl,rfl,fun _ d _ _=>by cases d <;> rfl⟩
end Go.HH
namespace Go.HH
open Go Go.Proofs
set_option maxRecDepth 100000
set_option maxHeartbeats 4000000
set_option linter.unusedSimpArgs false
set_option linter.unusedVariables false
theorem ok_device_numbers:fnOK CC Try.f33 (Try.f33.body.getD .skip)=true:=by kernel_rfl
theorem fat_device_numbers:CC.P.funcs[33]?=some Try.f33:=by kernel_rfl
theorem ok_device_clusters:fnOK CC Try.f32 (Try.f32.body.getD .skip)=true:=by kernel_rfl
theorem fat_device_clusters:CC.P.funcs[32]?=some Try.f32:=by kernel_rfl
theorem ok_device_capabilities:fnOK CC Try.f35 (Try.f35.body.getD .skip)=true:=by kernel_rfl
theorem fat_device_capabilities:CC.P.funcs[35]?=some Try.f35:=by kernel_rfl
theorem ok_device_Check:fnOK CC Try.f15 (Try.f15.body.getD .skip)=true:=by kernel_rfl
theorem fat_device_Check:CC.P.funcs[15]?=some Try.f15:=by kernel_rfl
theorem call_numbers (d:Dv):∃ b bx,callL CC 33 [dvV d] []=some (.ret (.bool b),bx):=by
 rw [callL_enter (fn:=Try.f33) (c:=Try.f33.body.getD .skip) rfl rfl fat_device_numbers rfl ok_device_numbers (Nat.le_of_ble_eq_true rfl)]
 obtain ⟨id,eui,vn,sl,pl,rm,cl⟩:=d
 unfold dvV
 simp only
 generalize strs cl=xs at *
 by_cases c1:id < 1
 · skip
   obtain ⟨ev,eo,so,co,⟨hev,hco⟩,R⟩:=RULES CC;rw [<- hev]
   simp only [fpart,part',Try.f33,Option.getD]
   simp (maxSteps:=5000000) only [SA,SB,SD,R,SF,SG,SH,seval,TG,SE,SC,UTT,ZCT,RV,List.getElem?_concat_length,ss1,List.set_cons_zero,List.set_cons_succ,Bool.not_not,strP_eql,strP_neq,c1]
   exact ⟨_,_,rfl⟩
 · skip
   by_cases c2:id > 250
   · skip
     obtain ⟨ev,eo,so,co,⟨hev,hco⟩,R⟩:=RULES CC;rw [<- hev]
     simp only [fpart,part',Try.f33,Option.getD]
     simp (maxSteps:=5000000) only [SA,SB,SD,R,SF,SG,SH,seval,TG,SE,SC,UTT,ZCT,RV,List.getElem?_concat_length,ss1,List.set_cons_zero,List.set_cons_succ,Bool.not_not,strP_eql,strP_neq,c1,c2]
     exact ⟨_,_,rfl⟩
   · skip
     by_cases c3:vn < 0
     · skip
       obtain ⟨ev,eo,so,co,⟨hev,hco⟩,R⟩:=RULES CC;rw [<- hev]
       simp only [fpart,part',Try.f33,Option.getD]
       simp (maxSteps:=5000000) only [SA,SB,SD,R,SF,SG,SH,seval,TG,SE,SC,UTT,ZCT,RV,List.getElem?_concat_length,ss1,List.set_cons_zero,List.set_cons_succ,Bool.not_not,strP_eql,strP_neq,c1,c2,c3]
       exact ⟨_,_,rfl⟩
     · skip
       by_cases c4:vn > 255
       · skip
         obtain ⟨ev,eo,so,co,⟨hev,hco⟩,R⟩:=RULES CC;rw [<- hev]
         simp only [fpart,part',Try.f33,Option.getD]
         simp (maxSteps:=5000000) only [SA,SB,SD,R,SF,SG,SH,seval,TG,SE,SC,UTT,ZCT,RV,List.getElem?_concat_length,ss1,List.set_cons_zero,List.set_cons_succ,Bool.not_not,strP_eql,strP_neq,c1,c2,c3,c4]
         exact ⟨_,_,rfl⟩
       · skip
         cases sl with
         | true=>
          by_cases c5:pl ≥ 4
          · skip
            obtain ⟨ev,eo,so,co,⟨hev,hco⟩,R⟩:=RULES CC;rw [<- hev]
            simp only [fpart,part',Try.f33,Option.getD]
            simp (maxSteps:=5000000) only [SA,SB,SD,R,SF,SG,SH,seval,TG,SE,SC,UTT,ZCT,RV,List.getElem?_concat_length,ss1,List.set_cons_zero,List.set_cons_succ,Bool.not_not,strP_eql,strP_neq,c1,c2,c3,c4,c5]
            exact ⟨_,_,rfl⟩
          · skip
            obtain ⟨ev,eo,so,co,⟨hev,hco⟩,R⟩:=RULES CC;rw [<- hev]
            simp only [fpart,part',Try.f33,Option.getD]
            simp (maxSteps:=5000000) only [SA,SB,SD,R,SF,SG,SH,seval,TG,SE,SC,UTT,ZCT,RV,List.getElem?_concat_length,ss1,List.set_cons_zero,List.set_cons_succ,Bool.not_not,strP_eql,strP_neq,c1,c2,c3,c4,c5]
            exact ⟨_,_,rfl⟩
         | false=>
          obtain ⟨ev,eo,so,co,⟨hev,hco⟩,R⟩:=RULES CC;rw [<- hev]
          simp only [fpart,part',Try.f33,Option.getD]
          simp (maxSteps:=5000000) only [SA,SB,SD,R,SF,SG,SH,seval,TG,SE,SC,UTT,ZCT,RV,List.getElem?_concat_length,ss1,List.set_cons_zero,List.set_cons_succ,Bool.not_not,strP_eql,strP_neq,c1,c2,c3,c4]
          exact ⟨_,_,rfl⟩
theorem dvV_pure (d:Dv):(dvV d).pure=true:=by
 unfold dvV
 simp only [PV.pure,pureL,strs_pure,Bool.and_self]
theorem op_numbers (d:Dv):∃ b,∀ bx,callOp CC (callL CC) 33 [dvV d] bx=some (.ret (.bool b),bx):=by
 obtain ⟨n,bx',h⟩:=call_numbers d
 exact ⟨n,fun bx=>callOp_of rfl (by simp only [SA,dvV_pure,Bool.and_true]) h rfl⟩
def MK (es:List (PV×PV)):Prop:=∀ p ∈ es,∃ s c,p=(.str s,clV c)
def MN (es:List (PV×PV)):Prop:=∀ p ∈ es,∃ n b,p=(.int .u64 n,.bool b)
theorem find_MK (s:List UInt8):∀ (es:List (PV×PV)) (i:Nat),MK es->findP .string (.str s) es i=some none∨∃ j c,findP .string (.str s) es i=some (some (j,clV c))
 | [],i,_=>.inl rfl
 | e :: es,i,h=>by
  obtain ⟨s',c,rfl⟩:=h e (by simp)
  have ih:=find_MK s es (i+1) fun p hp=>h p (by simp [hp])
  unfold findP sameP
  simp only
  cases (s == s') with
  | true=>exact .inr ⟨i,c,rfl⟩
  | false=>exact ih
theorem find_MN (m:Int):∀ (es:List (PV×PV)) (i:Nat),MN es->findP (.int .u64) (.int .u64 m) es i=some none∨∃ j b,findP (.int .u64) (.int .u64 m) es i=some (some (j,.bool b))
 | [],i,_=>.inl rfl
 | e :: es,i,h=>by
  obtain ⟨s',c,rfl⟩:=h e (by simp)
  have ih:=find_MN m es (i+1) fun p hp=>h p (by simp [hp])
  unfold findP sameP
  simp only [if_true]
  cases (m == s') with
  | true=>exact .inr ⟨i,c,rfl⟩
  | false=>exact ih
theorem mem_set_or {α:Type} {l:List α} {i:Nat} {x y:α} (h:y ∈ l.set i x):y ∈ l∨y=x:=by
 rcases List.mem_or_eq_of_mem_set h with h | h
 · exact .inl h
 · exact .inr h
theorem upd_MK {bx:List PBox} {p:Nat} {es:List (PV×PV)} (hb:bx[p]?=some (.mp es)) (he:MK es) (s:List UInt8) (c:Cl):∃ es',MK es'∧updateP CC bx 84 (.mv p) (.str s) (clV c)=some (bx.set p (.mp es')):=by
 unfold updateP mapAt
 simp only [MPc,TG,hb,keyD,if_true]
 rcases find_MK s es 0 he with h | ⟨j,d,h⟩
 · rw [h]
   exact ⟨_,fun q hq=>by
    rcases List.mem_append.1 hq with hq | hq
    · exact he q hq
    · rw [List.mem_singleton] at hq;exact ⟨s,c,hq⟩,rfl⟩
 · rw [h]
   exact ⟨_,fun q hq=>by
    rcases mem_set_or hq with hq | hq
    · exact he q hq
    · exact ⟨s,c,hq⟩,rfl⟩
theorem upd_MN {bx:List PBox} {p:Nat} {es:List (PV×PV)} (hb:bx[p]?=some (.mp es)) (he:MN es) (m:Int) (c:Bool):∃ es',MN es'∧updateP CC bx 86 (.mv p) (.int .u64 m) (.bool c)=some (bx.set p (.mp es')):=by
 unfold updateP mapAt
 simp only [MPn,TG,hb,keyD,if_true]
 rcases find_MN m es 0 he with h | ⟨j,d,h⟩
 · rw [h]
   exact ⟨_,fun q hq=>by
    rcases List.mem_append.1 hq with hq | hq
    · exact he q hq
    · rw [List.mem_singleton] at hq;exact ⟨m,c,hq⟩,rfl⟩
 · rw [h]
   exact ⟨_,fun q hq=>by
    rcases mem_set_or hq with hq | hq
    · exact he q hq
    · exact ⟨m,c,hq⟩,rfl⟩
theorem zCl:tZero CC 76=some (.agg [.str [],.nils,.nils,.nils]):=by kernel_rfl
theorem zBo:tZero CC 4=some (.bool false):=by kernel_rfl
theorem look_MK {bx:List PBox} {p:Nat} {es:List (PV×PV)} (hb:bx[p]?=some (.mp es)) (he:MK es) (s:List UInt8):lookupP CC bx 84 (.mv p) (.str s) true=some (.tup [.agg [.str [],.nils,.nils,.nils],.bool false])∨∃ c,lookupP CC bx 84 (.mv p) (.str s) true=some (.tup [clV c,.bool true]):=by
 unfold lookupP mapAt
 simp only [MPc,TG,hb,keyD,if_true]
 rcases find_MK s es 0 he with h | ⟨j,d,h⟩
 · rw [h]
   simp only [zCl,Option.map_some,if_true]
   exact .inl rfl
 · rw [h]
   exact .inr ⟨d,rfl⟩
theorem look_MN {bx:List PBox} {p:Nat} {es:List (PV×PV)} (hb:bx[p]?=some (.mp es)) (he:MN es) (m:Int):∃ b,lookupP CC bx 86 (.mv p) (.int .u64 m) false=some (.bool b):=by
 unfold lookupP mapAt
 simp only [MPn,TG,hb,keyD,if_true]
 rcases find_MN m es 0 he with h | ⟨j,d,h⟩
 · rw [h]
   simp only [zBo,Option.map_some]
   exact ⟨false,rfl⟩
 · rw [h]
   exact ⟨d,rfl⟩
theorem callOp_keep {f:FuncId} {args:List PV} {bx bx1:List PBox} {v:PV} (hh:(CC.heap f || !(pureL args))=true) (h:callL CC f args bx=some (.ret v,bx1)) (hk:∀ (q:Nat) w,bx[q]?=some w->bx1[q]?=some w) :
 ∃ bx',callOp CC (callL CC) f args bx=some (.ret v,bx')∧∀ (q:Nat) w,bx[q]?=some w->bx'[q]?=some w:=by
 unfold callOp
 rw [if_pos hh,h]
 refine ⟨_,rfl,fun q w hq=>?_⟩
 unfold truncB
 split
 · rw [List.getElem?_take_of_lt (List.getElem?_eq_some_iff.1 hq).1];exact hk q w hq
 · exact hk q w hq
def PMp (e:List PV) (bx:List PBox) (p:Nat) (res:Option (Ex×St)):Prop:=∃ e' bx' es,res=some (.exit 0,⟨e',bx'⟩)∧getT e' 3=.mv p∧bx'[p]?=some (.mp es)∧MK es∧∀ q w,q < p->bx[q]?=some w->bx'[q]?=some w
theorem PMp.app {e e2:List PV} {bx bx2:List PBox} {p:Nat} {res:Option (Ex×St)} (hk:∀ q w,q < p->bx[q]?=some w->bx2[q]?=some w) (h:PMp e2 bx2 p res):PMp e bx p res:=by
 obtain ⟨e',bx',es,h1,h2,h3,h4,h5⟩:=h
 exact ⟨e',bx',es,h1,h2,h3,h4,fun q w hq hw=>h5 q w hq (hk q w hq hw)⟩
theorem PMp.of {ev:Code->St->Option (Ex×St)} {L:Code} {e:List PV} {bx:List PBox} {p:Nat} {z:Option (Ex×St)} (hE:ev L ⟨e,bx⟩=z) (h:PMp e bx p (ev L ⟨e,bx⟩)):PMp e bx p z:=hE ▸ h
theorem loop_clusters (L:Code) (hL:L=fpart Try.f32 [1,1,0,1,0]) (l:List Cl) (hl:l.length<=9223372036854775807) (p:Nat):∀ (k i:Nat) (es:List (PV×PV)) (e:List PV) (bx:List PBox),i+k=l.length ->
 getT e 3=.mv p->getT e 8=.sl (l.map clV)->getT e 9=.int .i64 l.length->getT e 10=.int .i64 i->bx[p]?=some (.mp es)->MK es->PMp e bx p (evL CC L ⟨e,bx⟩):=by
 intro k
 induction k with
 | zero=>
  intro i es e bx hk ht h1 h2 h3 hb he
  rw [evL_at (fpart Try.f32 [1,1,0,1,0,0]) hL]
  have hi:¬ ((i:Int) < (l.length:Int)):=by omega
  obtain ⟨ev,eo,so,co,⟨hev,hco⟩,R⟩:=RULES CC;rw [<- hev]
  simp only [fpart,part',Try.f32,Option.getD]
  simp (maxSteps:=5000000) only [SA,SB,SD,R,SF,SG,SH,seval,TG,SE,SC,UTT,ZCT,RV,List.getElem?_concat_length,ss1,List.set_cons_zero,List.set_cons_succ,Bool.not_not,strP_eql,strP_neq,ht,h1,h2,h3,hi]
  exact ⟨_,_,es,rfl,by simp (maxSteps:=5000000) only [SA,SB,SD,R,SF,seval,ht],hb,he,fun q w _ h=>h⟩
 | succ k ih=>
  intro i es e bx hk ht h1 h2 h3 hb he
  rw [evL_at (fpart Try.f32 [1,1,0,1,0,0]) hL]
  have hi:((i:Int) < (l.length:Int)):=by omega
  have hi0:¬ ((i:Int) < 0):=by omega
  have hw:=wrap_i64 (n:=(i:Int)+1) ⟨by omega,by omega⟩
  have key:=fun es e bx=>ih (i+1) es e bx (by omega)
  have cast1:((i+1:Nat):Int)=(i:Int)+1:=by omega
  rw [cast1] at key
  have hx:=map_get (f:=clV) (l:=l) (i:=i) (x:=l[i]'(by omega)) (List.getElem?_eq_getElem (by omega))
  generalize l[i]'(by omega)=x at *
  generalize l.map clV=xs at *
  have hup:=fun y=>upd_MK (get_app hb y) he x.nm x
  have hup':=hup (.cells 76 (clV x).cells)
  obtain ⟨es',he',hu⟩:=hup'
  clear hup
  have hset:∀ y:PBox,((bx++[y]).set p (.mp es'))[p]?=some (.mp es'):=fun y=>List.getElem?_set_self (List.getElem?_eq_some_iff.1 (get_app hb y)).1
  have hfr:∀ (y:PBox) q w,q < p->bx[q]?=some w->((bx++[y]).set p (.mp es'))[q]?=some w:=fun y q w hq hw=>by
   rw [List.getElem?_set_ne (by omega)];exact get_app hw y
  obtain ⟨nm,ats,cms,ev'⟩:=x
  unfold clV at hx hu
  simp only [show ∀ cs,(PV.agg cs).cells=cs from fun _=>rfl] at hx hu
  generalize ats.map attV=xs1 at *
  generalize cms.map cmV=xs2 at *
  generalize strs ev'=xs3 at *
  obtain ⟨ev,eo,so,co,⟨hev,hco⟩,R⟩:=RULES CC;rw [<- hev]
  rw [<- hev] at key
  simp only [fpart,part',Try.f32,Option.getD]
  simp (maxSteps:=5000000) only [SA,SB,SD,R,SF,SG,SH,seval,TG,SE,SC,UTT,ZCT,RV,List.getElem?_concat_length,ss1,List.set_cons_zero,List.set_cons_succ,Bool.not_not,strP_eql,strP_neq,ht,h1,h2,h3,hi,hi0,hx,hu,hw,mupR]
  refine PMp.app (hfr _) (key es' _ _ ?_ ?_ ?_ ?_ (hset _) he')
  · simp (maxSteps:=5000000) only [SA,SB,SD,R,SF,seval,ht]
  · simp (maxSteps:=5000000) only [SA,SB,SD,R,SF,seval,h1]
  · simp (maxSteps:=5000000) only [SA,SB,SD,R,SF,seval,h2]
  · simp (maxSteps:=5000000) only [SA,SB,SD,R,SF,seval]
theorem call_clusters (h:Hm) (hl:h.cls.length<=9223372036854775807) (bx:List PBox):∃ bx' es,callL CC 32 [hmV h] bx=some (.ret (.mv (bx.length+1)),bx')∧bx'[bx.length+1]?=some (.mp es)∧MK es∧∀ (q:Nat) w,bx[q]?=some w->bx'[q]?=some w:=by
 rw [callL_enter (fn:=Try.f32) (c:=Try.f32.body.getD .skip) rfl rfl fat_device_clusters rfl ok_device_clusters (Nat.le_of_ble_eq_true rfl)]
 have hloop:=fun es e bx p=>loop_clusters _ rfl h.cls hl p h.cls.length 0 es e bx (by omega)
 have hll:(h.cls.map clV).length=h.cls.length:=List.length_map _
 obtain ⟨cls,dvs⟩:=h
 unfold hmV
 simp only at *
 generalize cls.map clV=xs at *
 generalize dvs.map dvV=ys at *
 have hg:∀ H M:PBox,(bx++[H]++[M])[bx.length]?=some H:=fun H M=>by simp
 have hg2:∀ H M:PBox,(bx++[H]++[M])[bx.length+1]?=some M:=fun H M=>by simp
 have hg3:∀ (H M:PBox) (q:Nat) w,bx[q]?=some w->(bx++[H]++[M])[q]?=some w:=fun H M q w hq=>get_app (get_app hq H) M
 have hlt:∀ (q:Nat) w,bx[q]?=some w->q < bx.length+1:=fun q w hq=>by have:=(List.getElem?_eq_some_iff.1 hq).1;omega
 obtain ⟨ev,eo,so,co,⟨hev,hco⟩,R⟩:=RULES CC;rw [<- hev]
 rw [<- hev] at hloop
 simp only [fpart,part',Try.f32,Option.getD] at hloop ⊢
 simp (maxSteps:=5000000) only [SA,SB,SD,R,SF,SG,SH,seval,TG,SE,SC,UTT,ZCT,RV,List.getElem?_concat_length,ss1,List.set_cons_zero,List.set_cons_succ,Bool.not_not,strP_eql,strP_neq,hll,hg,List.length_append]
 generalize hE:ev _ _=z
 have hP:=PMp.of hE (hloop [] _ _ (bx.length+1) (by simp (maxSteps:=5000000) only [SA,SB,SD,R,SF,seval] <;> rfl) (by simp (maxSteps:=5000000) only [SA,SB,SD,R,SF,seval] <;> rfl) (by simp (maxSteps:=5000000) only [SA,SB,SD,R,SF,seval] <;> rfl) (by simp (maxSteps:=5000000) only [SA,SB,SD,R,SF,seval] <;> rfl) (hg2 _ _) (fun p hp=>by cases hp))
 obtain ⟨e',bx',es,he,g3,g4,g5,g6⟩:=hP
 subst he
 refine ⟨bx',es,?_,g4,g5,fun q w hq=>g6 q w (hlt q w hq) (hg3 _ _ q w hq)⟩
 simp (maxSteps:=5000000) only [SA,SB,SD,R,SF,SG,SH,seval,TG,SE,SC,UTT,ZCT,RV,List.getElem?_concat_length,ss1,List.set_cons_zero,List.set_cons_succ,Bool.not_not,strP_eql,strP_neq,g3]
theorem op_clusters (h:Hm) (hl:h.cls.length<=9223372036854775807) (bx:List PBox):∃ bx' es,callOp CC (callL CC) 32 [hmV h] bx=some (.ret (.mv (bx.length+1)),bx')∧bx'[bx.length+1]?=some (.mp es)∧MK es∧∀ (q:Nat) w,bx[q]?=some w->bx'[q]?=some w:=by
 obtain ⟨bx',es,h1,h2,h3,h4⟩:=call_clusters h hl bx
 refine ⟨bx',es,?_,h2,h3,h4⟩
 unfold callOp
 simp only [show CC.heap 32=true from rfl,Bool.true_or,if_true,h1]
 unfold truncB
 rw [if_neg]
 simp [CR.under,PV.under]
 intro h
 exact absurd h (by omega)
def PCp (e:List PV) (bx:List PBox) (res:Option (Ex×St)):Prop:=∃ e' ex,(res=some (.exit 0,⟨e',bx++ex⟩)∧isI (getT e' 5))∨(res=some (.ret,⟨e',bx++ex⟩)∧isI (getT e' 4))
theorem PCp.app {e e2:List PV} {bx:List PBox} {x:PBox} {res:Option (Ex×St)} (h:PCp e2 (bx++[x]) res):PCp e bx res:=by
 obtain ⟨e',ex,h⟩:=h
 refine ⟨e',[x]++ex,?_⟩
 rw [<- List.append_assoc]
 exact h
theorem PCp.of {ev:Code->St->Option (Ex×St)} {L:Code} {e:List PV} {bx:List PBox} {z:Option (Ex×St)} (hE:ev L ⟨e,bx⟩=z) (h:PCp e bx (ev L ⟨e,bx⟩)):PCp e bx z:=hE ▸ h
theorem loop_cap (L:Code) (hL:L=fpart Try.f35 [1,1,1,0,1,0]) (l:List (List UInt8)) (hl:l.length<=9223372036854775807) (p d:Nat) (es:List (PV×PV)) (he:MK es) (d0 d1 d2 d3 d4 d5:PV):∀ (k i:Nat) (n:Int) (e:List PV) (bx:List PBox),i+k=l.length ->
 getT e 1=.mv p->getT e 2=.bp d 0->getT e 5=.int .i64 n->getT e 21=.sl (strs l)->getT e 22=.int .i64 l.length->getT e 23=.int .i64 i->bx[p]?=some (.mp es)->bx[d]?=some (.cells 48 [d0,d1,d2,d3,d4,d5,.sl (strs l)])->PCp e bx (evL CC L ⟨e,bx⟩):=by
 intro k
 induction k with
 | zero=>
  intro i n e bx hk h1 h2 h5 h21 h22 h23 hb hd
  rw [evL_at (fpart Try.f35 [1,1,1,0,1,0,0]) hL]
  have hi:¬ ((i:Int) < (l.length:Int)):=by omega
  obtain ⟨ev,eo,so,co,⟨hev,hco⟩,R⟩:=RULES CC;rw [<- hev]
  simp only [fpart,part',Try.f35,Option.getD]
  simp (maxSteps:=5000000) only [SA,SB,SD,R,SF,SG,SH,seval,TG,SE,SC,UTT,ZCT,RV,List.getElem?_concat_length,ss1,List.set_cons_zero,List.set_cons_succ,Bool.not_not,strP_eql,strP_neq,h1,h2,h5,h21,h22,h23,hi]
  exact ⟨_,[],.inl ⟨by rw [List.append_nil],n,by simp (maxSteps:=5000000) only [SA,SB,SD,R,SF,seval,h5]⟩⟩
 | succ k ih=>
  intro i n e bx hk h1 h2 h5 h21 h22 h23 hb hd
  rw [evL_at (fpart Try.f35 [1,1,1,0,1,0,0]) hL]
  have hi:((i:Int) < (l.length:Int)):=by omega
  have hi0:¬ ((i:Int) < 0):=by omega
  have hw:=wrap_i64 (n:=(i:Int)+1) ⟨by omega,by omega⟩
  have key:=fun n e bx=>ih (i+1) n e bx (by omega)
  have cast1:((i+1:Nat):Int)=(i:Int)+1:=by omega
  rw [cast1] at key
  have hx:=strs_get (l:=l) (i:=i) (s:=l[i]'(by omega)) (List.getElem?_eq_getElem (by omega))
  generalize l[i]'(by omega)=x at *
  have hix:=op_names_Index l hl x
  have hlk:=look_MK hb he x
  have hb1:=get_app hb
  have hd1:=get_app hd
  have hsp:=strs_pure l
  generalize strs l=xs at *
  generalize ixF 0 l x=j at *
  rcases hlk with hlk | ⟨c,hlk⟩
  · skip
    obtain ⟨ev,eo,so,co,⟨hev,hco⟩,R⟩:=RULES CC;rw [<- hev]
    simp only [fpart,part',Try.f35,Option.getD]
    simp (maxSteps:=5000000) only [SA,SB,SD,R,SF,SG,SH,seval,TG,SE,SC,UTT,ZCT,RV,List.getElem?_concat_length,ss1,List.set_cons_zero,List.set_cons_succ,Bool.not_not,strP_eql,strP_neq,h1,h2,h5,h21,h22,h23,hi,hi0,hx,hlk,hb1,hd1]
    exact ⟨_,[_],.inr ⟨rfl,_,by simp (maxSteps:=5000000) only [SA,SB,SD,R,SF,seval];rfl⟩⟩
  · obtain ⟨nm,ats,cms,ev'⟩:=c
    unfold clV at hlk
    simp only at hlk
    generalize ats.map attV=xs1 at *
    generalize cms.map cmV=xs2 at *
    generalize strs ev'=xs3 at *
    by_cases c1:j < (i:Int)
    · skip
      obtain ⟨ev,eo,so,co,⟨hev,hco⟩,R⟩:=RULES CC;rw [<- hev]
      rw [<- hco] at hix
      simp only [fpart,part',Try.f35,Option.getD]
      simp (maxSteps:=5000000) only [SA,SB,SD,R,SF,SG,SH,seval,TG,SE,SC,UTT,ZCT,RV,List.getElem?_concat_length,ss1,List.set_cons_zero,List.set_cons_succ,Bool.not_not,strP_eql,strP_neq,c1,h1,h2,h5,h21,h22,h23,hi,hi0,hx,hlk,hb1,hd1,hix,hsp]
      exact ⟨_,[_],.inr ⟨rfl,_,by simp (maxSteps:=5000000) only [SA,SB,SD,R,SF,seval];rfl⟩⟩
    · skip
      obtain ⟨ev,eo,so,co,⟨hev,hco⟩,R⟩:=RULES CC;rw [<- hev]
      rw [<- hco] at hix
      rw [<- hev] at key
      simp only [fpart,part',Try.f35,Option.getD]
      simp (maxSteps:=5000000) only [SA,SB,SD,R,SF,SG,SH,seval,TG,SE,SC,UTT,ZCT,RV,List.getElem?_concat_length,ss1,List.set_cons_zero,List.set_cons_succ,Bool.not_not,strP_eql,strP_neq,c1,h1,h2,h5,h21,h22,h23,hi,hi0,hx,hlk,hb1,hd1,hix,hsp,hw]
      refine PCp.app (key (IntKind.wrap .i64 (n+(xs1.length:Int))) _ _ ?_ ?_ ?_ ?_ ?_ ?_ (hb1 _) (hd1 _))
      · simp (maxSteps:=5000000) only [SA,SB,SD,R,SF,seval,h1]
      · simp (maxSteps:=5000000) only [SA,SB,SD,R,SF,seval,h2]
      · simp (maxSteps:=5000000) only [SA,SB,SD,R,SF,seval] <;> rfl
      · simp (maxSteps:=5000000) only [SA,SB,SD,R,SF,seval,h21]
      · simp (maxSteps:=5000000) only [SA,SB,SD,R,SF,seval,h22]
      · simp (maxSteps:=5000000) only [SA,SB,SD,R,SF,seval]
theorem call_cap (d:Dv) (hl:d.cl.length<=9223372036854775807) (p:Nat) (es:List (PV×PV)) (he:MK es) (bx:List PBox) (hb:bx[p]?=some (.mp es)):∃ n bx',callL CC 35 [dvV d,.mv p] bx=some (.ret (.int .i64 n),bx')∧∀ (q:Nat) w,bx[q]?=some w->bx'[q]?=some w:=by
 rw [callL_enter (fn:=Try.f35) (c:=Try.f35.body.getD .skip) rfl rfl fat_device_capabilities rfl ok_device_capabilities (Nat.le_of_ble_eq_true rfl)]
 obtain ⟨id,eui,vn,sl,pl,rm,cl⟩:=d
 simp only at hl
 have hloop:=fun e bx'=>loop_cap _ rfl cl hl p bx.length es he (.int .i64 id) (.int .u64 eui) (.int .i64 vn) (.bool sl) (.int .i64 pl) (.str rm) cl.length 0 0 e bx' (by omega)
 have hll:=strs_length cl
 unfold dvV
 simp only
 generalize strs cl=xs at *
 have hfr:∀ (H:PBox) (q:Nat) w,bx[q]?=some w->(bx++[H])[q]?=some w:=fun H q w h=>get_app h H
 have hfr2:∀ (H:PBox) (ex:List PBox) (q:Nat) w,bx[q]?=some w->(bx++[H]++ex)[q]?=some w:=fun H ex q w h=>get_apps (get_app h H) ex
 by_cases c1:(cl.length:Int) < 1
 · skip
   obtain ⟨ev,eo,so,co,⟨hev,hco⟩,R⟩:=RULES CC;rw [<- hev]
   simp only [fpart,part',Try.f35,Option.getD]
   simp (maxSteps:=5000000) only [SA,SB,SD,R,SF,SG,SH,seval,TG,SE,SC,UTT,ZCT,RV,List.getElem?_concat_length,ss1,List.set_cons_zero,List.set_cons_succ,Bool.not_not,strP_eql,strP_neq,hll,c1]
   exact ⟨_,_,rfl,hfr _⟩
 · by_cases c2:(cl.length:Int) > 4
   · skip
     obtain ⟨ev,eo,so,co,⟨hev,hco⟩,R⟩:=RULES CC;rw [<- hev]
     simp only [fpart,part',Try.f35,Option.getD]
     simp (maxSteps:=5000000) only [SA,SB,SD,R,SF,SG,SH,seval,TG,SE,SC,UTT,ZCT,RV,List.getElem?_concat_length,ss1,List.set_cons_zero,List.set_cons_succ,Bool.not_not,strP_eql,strP_neq,hll,c1,c2]
     exact ⟨_,_,rfl,hfr _⟩
   · skip
     obtain ⟨ev,eo,so,co,⟨hev,hco⟩,R⟩:=RULES CC;rw [<- hev]
     rw [<- hev] at hloop
     simp only [fpart,part',Try.f35,Option.getD] at hloop ⊢
     simp (maxSteps:=5000000) only [SA,SB,SD,R,SF,SG,SH,seval,TG,SE,SC,UTT,ZCT,RV,List.getElem?_concat_length,ss1,List.set_cons_zero,List.set_cons_succ,Bool.not_not,strP_eql,strP_neq,hll,c1,c2]
     generalize hE:ev _ _=z
     have hP:=PCp.of hE (hloop _ _ (by simp (maxSteps:=5000000) only [SA,SB,SD,R,SF,seval] <;> rfl) (by simp (maxSteps:=5000000) only [SA,SB,SD,R,SF,seval] <;> rfl) (by simp (maxSteps:=5000000) only [SA,SB,SD,R,SF,seval] <;> rfl) (by simp (maxSteps:=5000000) only [SA,SB,SD,R,SF,seval] <;> rfl) (by simp (maxSteps:=5000000) only [SA,SB,SD,R,SF,seval] <;> rfl) (by simp (maxSteps:=5000000) only [SA,SB,SD,R,SF,seval] <;> rfl) (get_app hb _) List.getElem?_concat_length)
     obtain ⟨e',ex,⟨he,m,g5⟩ | ⟨he,m,g4⟩⟩:=hP
     · subst he
       by_cases c3:m > 24
       · simp (maxSteps:=5000000) only [SA,SB,SD,R,SF,SG,SH,seval,TG,SE,SC,UTT,ZCT,RV,List.getElem?_concat_length,ss1,List.set_cons_zero,List.set_cons_succ,Bool.not_not,strP_eql,strP_neq,g5,c3]
         exact ⟨_,_,rfl,hfr2 _ _⟩
       · simp (maxSteps:=5000000) only [SA,SB,SD,R,SF,SG,SH,seval,TG,SE,SC,UTT,ZCT,RV,List.getElem?_concat_length,ss1,List.set_cons_zero,List.set_cons_succ,Bool.not_not,strP_eql,strP_neq,g5,c3]
         exact ⟨_,_,rfl,hfr2 _ _⟩
     · subst he
       simp (maxSteps:=5000000) only [SA,SB,SD,R,SF,SG,SH,seval,TG,SE,SC,UTT,ZCT,RV,List.getElem?_concat_length,ss1,List.set_cons_zero,List.set_cons_succ,Bool.not_not,strP_eql,strP_neq,g4]
       exact ⟨_,_,rfl,hfr2 _ _⟩
theorem op_cap (d:Dv) (hl:d.cl.length<=9223372036854775807) (p:Nat) (es:List (PV×PV)) (he:MK es) (bx:List PBox) (hb:bx[p]?=some (.mp es)):∃ n bx',callOp CC (callL CC) 35 [dvV d,.mv p] bx=some (.ret (.int .i64 n),bx')∧∀ (q:Nat) w,bx[q]?=some w->bx'[q]?=some w:=by
 obtain ⟨n,bx1,h,hk⟩:=call_cap d hl p es he bx hb
 obtain ⟨bx',h1,h2⟩:=callOp_keep (by simp [pureL,PV.pure]) h hk
 exact ⟨n,bx',h1,h2⟩
def PDc (res:Option (Ex×St)):Prop:=∃ e' bx',res=some (.exit 0,⟨e',bx'⟩)∨(res=some (.ret,⟨e',bx'⟩)∧isI (getT e' 2))
theorem PDc.of {ev:Code->St->Option (Ex×St)} {L:Code} {e:List PV} {bx:List PBox} {z:Option (Ex×St)} (hE:ev L ⟨e,bx⟩=z) (h:PDc (ev L ⟨e,bx⟩)):PDc z:=hE ▸ h
theorem loop_dck (L:Code) (hL:L=fpart Try.f15 [1,1,1,1,1,0,1,0]) (l:List Dv) (hl:l.length<=9223372036854775807) (hcl:∀ d ∈ l,d.cl.length<=9223372036854775807) (p1 p2:Nat) (hp0:0≠p2) (hp1:p1≠p2) (es:List (PV×PV)) (hes:MK es) (c0:PV):∀ (k i:Nat) (fs:List (PV×PV)) (e:List PV) (bx:List PBox),i+k=l.length ->
 getT e 1=.bp 0 0->getT e 4=.mv p1->getT e 5=.mv p2->getT e 23=.sl (l.map dvV)->getT e 24=.int .i64 l.length->getT e 25=.int .i64 i->bx[0]?=some (.cells 25 [c0,.sl (l.map dvV)])->bx[p1]?=some (.mp es)->bx[p2]?=some (.mp fs)->MN fs->PDc (evL CC L ⟨e,bx⟩):=by
 intro k
 induction k with
 | zero=>
  intro i fs e bx hk h1 h4 h5 h23 h24 h25 hb0 hb1 hb2 hfs
  rw [evL_at (fpart Try.f15 [1,1,1,1,1,0,1,0,0]) hL]
  have hi:¬ ((i:Int) < (l.length:Int)):=by omega
  obtain ⟨ev,eo,so,co,⟨hev,hco⟩,R⟩:=RULES CC;rw [<- hev]
  simp only [fpart,part',Try.f15,Option.getD]
  simp (maxSteps:=5000000) only [SA,SB,SD,R,SF,SG,SH,seval,TG,SE,SC,UTT,ZCT,RV,List.getElem?_concat_length,ss1,List.set_cons_zero,List.set_cons_succ,Bool.not_not,strP_eql,strP_neq,h1,h4,h5,h23,h24,h25,hi]
  exact ⟨_,_,.inl rfl⟩
 | succ k ih=>
  intro i fs e bx hk h1 h4 h5 h23 h24 h25 hb0 hb1 hb2 hfs
  rw [evL_at (fpart Try.f15 [1,1,1,1,1,0,1,0,0]) hL]
  have hi:((i:Int) < (l.length:Int)):=by omega
  have hi0:¬ ((i:Int) < 0):=by omega
  have hw:=wrap_i64 (n:=(i:Int)+1) ⟨by omega,by omega⟩
  have hw1:=wrap_i64 (n:=(i:Int) - 1) ⟨by omega,by omega⟩
  have key:=fun fs e bx=>ih (i+1) fs e bx (by omega)
  have cast1:((i+1:Nat):Int)=(i:Int)+1:=by omega
  rw [cast1] at key
  have hx:=map_get (f:=dvV) (l:=l) (i:=i) (x:=l[i]'(by omega)) (List.getElem?_eq_getElem (by omega))
  have hxc:=hcl (l[i]'(by omega)) (List.getElem_mem _)
  have hyp:(i:Int) > 0->∃ d',(l.map dvV)[((i:Int) - 1).toNat]?=some (dvV d')∧¬ ((i:Int) - 1 < 0):=fun h=>⟨l[((i:Int) - 1).toNat]'(by omega),map_get (List.getElem?_eq_getElem (by omega)),by omega⟩
  generalize l[i]'(by omega)=d at *
  generalize l.map dvV=xs at *
  obtain ⟨b,hnum⟩:=op_numbers d
  have hb0':=get_app hb0
  have hb1':=get_app hb1
  have hb2':=get_app hb2
  obtain ⟨q,hlk⟩:=look_MN (hb2' (.cells 48 (dvV d).cells)) hfs d.eui
  have hv:=op_names_Valid d.rm
  generalize valB d.rm=bv at *
  obtain ⟨n,bx2,hcap,hkp⟩:=op_cap d hxc p1 es hes (bx++[.cells 48 (dvV d).cells]) (hb1' _)
  have e0:=hkp _ _ (hb0' _)
  have e1:=hkp _ _ (hb1' _)
  have e2:=hkp _ _ (hb2' _)
  have e3:=hkp bx.length _ List.getElem?_concat_length
  obtain ⟨fs',hfs',hup⟩:=upd_MN e2 hfs d.eui true
  have f0:(bx2.set p2 (.mp fs'))[0]?=some (.cells 25 [c0,.sl xs]):=by rw [List.getElem?_set_ne (by omega)];exact e0
  have f1:(bx2.set p2 (.mp fs'))[p1]?=some (.mp es):=by rw [List.getElem?_set_ne (by omega)];exact e1
  have f2:(bx2.set p2 (.mp fs'))[p2]?=some (.mp fs'):=List.getElem?_set_self (List.getElem?_eq_some_iff.1 e2).1
  obtain ⟨id,eui,vn,sl,pl,rm,cl⟩:=d
  simp only at hlk hv hup
  unfold dvV at hx hnum hlk hcap e3
  simp only [show ∀ cs,(PV.agg cs).cells=cs from fun _=>rfl] at hx hnum hlk hcap e3
  have hsp:=strs_pure cl
  generalize strs cl=ys at *
  cases b with
  | true=>
   by_cases c1:(i:Int) > 0
   · skip
     obtain ⟨dp,hy,hi1⟩:=hyp c1
     obtain ⟨did,deui,dvn,dsl,dpl,drm,dcl⟩:=dp
     unfold dvV at hy
     simp only at hy
     generalize strs dcl=zs at *
     by_cases c2:id<=did
     · skip
       obtain ⟨ev,eo,so,co,⟨hev,hco⟩,R⟩:=RULES CC;rw [<- hev]
       rw [<- hco] at hnum
       simp only [fpart,part',Try.f15,Option.getD]
       simp (maxSteps:=5000000) only [SA,SB,SD,R,SF,SG,SH,seval,TG,SE,SC,UTT,ZCT,RV,List.getElem?_concat_length,ss1,List.set_cons_zero,List.set_cons_succ,Bool.not_not,strP_eql,strP_neq,c1,c2,h1,h4,h5,h23,h24,h25,hi,hi0,hx,hb0',hb1',hb2',hnum,hsp,hy,hw1,hi1]
       exact ⟨_,_,.inr ⟨rfl,_,by simp (maxSteps:=5000000) only [SA,SB,SD,R,SF,seval];rfl⟩⟩
     · skip
       cases q with
       | true=>
        obtain ⟨ev,eo,so,co,⟨hev,hco⟩,R⟩:=RULES CC;rw [<- hev]
        rw [<- hco] at hnum
        simp only [fpart,part',Try.f15,Option.getD]
        simp (maxSteps:=5000000) only [SA,SB,SD,R,SF,SG,SH,seval,TG,SE,SC,UTT,ZCT,RV,List.getElem?_concat_length,ss1,List.set_cons_zero,List.set_cons_succ,Bool.not_not,strP_eql,strP_neq,c1,c2,h1,h4,h5,h23,h24,h25,hi,hi0,hx,hb0',hb1',hb2',hnum,hsp,hy,hw1,hi1,hlk]
        exact ⟨_,_,.inr ⟨rfl,_,by simp (maxSteps:=5000000) only [SA,SB,SD,R,SF,seval];rfl⟩⟩
       | false=>
        cases bv with
        | true=>
         by_cases n00:n=0
         · have n0:(n != 0)=false:=by simp [n00]
           obtain ⟨ev,eo,so,co,⟨hev,hco⟩,R⟩:=RULES CC;rw [<- hev]
           rw [<- hco] at hnum hv hcap
           rw [<- hev] at key
           simp only [fpart,part',Try.f15,Option.getD]
           simp (maxSteps:=5000000) only [SA,SB,SD,R,SF,SG,SH,seval,TG,SE,SC,UTT,ZCT,RV,List.getElem?_concat_length,ss1,List.set_cons_zero,List.set_cons_succ,Bool.not_not,strP_eql,strP_neq,c1,c2,n0,h1,h4,h5,h23,h24,h25,hi,hi0,hx,hb0',hb1',hb2',hnum,hsp,hy,hw1,hi1,hlk,hv,hcap,e3,hup,mupR,hw]
           refine key fs' _ _ ?_ ?_ ?_ ?_ ?_ ?_ f0 f1 f2 hfs'
           · simp (maxSteps:=5000000) only [SA,SB,SD,R,SF,seval,h1]
           · simp (maxSteps:=5000000) only [SA,SB,SD,R,SF,seval,h4]
           · simp (maxSteps:=5000000) only [SA,SB,SD,R,SF,seval,h5]
           · simp (maxSteps:=5000000) only [SA,SB,SD,R,SF,seval,h23]
           · simp (maxSteps:=5000000) only [SA,SB,SD,R,SF,seval,h24]
           · simp (maxSteps:=5000000) only [SA,SB,SD,R,SF,seval]
         · have n0:(n != 0)=true:=by simpa using n00
           obtain ⟨ev,eo,so,co,⟨hev,hco⟩,R⟩:=RULES CC;rw [<- hev]
           rw [<- hco] at hnum hv hcap
           simp only [fpart,part',Try.f15,Option.getD]
           simp (maxSteps:=5000000) only [SA,SB,SD,R,SF,SG,SH,seval,TG,SE,SC,UTT,ZCT,RV,List.getElem?_concat_length,ss1,List.set_cons_zero,List.set_cons_succ,Bool.not_not,strP_eql,strP_neq,c1,c2,n0,h1,h4,h5,h23,h24,h25,hi,hi0,hx,hb0',hb1',hb2',hnum,hsp,hy,hw1,hi1,hlk,hv,hcap]
           exact ⟨_,_,.inr ⟨rfl,n,by simp (maxSteps:=5000000) only [SA,SB,SD,R,SF,seval]⟩⟩
        | false=>
         obtain ⟨ev,eo,so,co,⟨hev,hco⟩,R⟩:=RULES CC;rw [<- hev]
         rw [<- hco] at hnum hv
         simp only [fpart,part',Try.f15,Option.getD]
         simp (maxSteps:=5000000) only [SA,SB,SD,R,SF,SG,SH,seval,TG,SE,SC,UTT,ZCT,RV,List.getElem?_concat_length,ss1,List.set_cons_zero,List.set_cons_succ,Bool.not_not,strP_eql,strP_neq,c1,c2,h1,h4,h5,h23,h24,h25,hi,hi0,hx,hb0',hb1',hb2',hnum,hsp,hy,hw1,hi1,hlk,hv]
         exact ⟨_,_,.inr ⟨rfl,_,by simp (maxSteps:=5000000) only [SA,SB,SD,R,SF,seval];rfl⟩⟩
   · skip
     cases q with
     | true=>
      obtain ⟨ev,eo,so,co,⟨hev,hco⟩,R⟩:=RULES CC;rw [<- hev]
      rw [<- hco] at hnum
      simp only [fpart,part',Try.f15,Option.getD]
      simp (maxSteps:=5000000) only [SA,SB,SD,R,SF,SG,SH,seval,TG,SE,SC,UTT,ZCT,RV,List.getElem?_concat_length,ss1,List.set_cons_zero,List.set_cons_succ,Bool.not_not,strP_eql,strP_neq,c1,h1,h4,h5,h23,h24,h25,hi,hi0,hx,hb0',hb1',hb2',hnum,hsp,hlk]
      exact ⟨_,_,.inr ⟨rfl,_,by simp (maxSteps:=5000000) only [SA,SB,SD,R,SF,seval];rfl⟩⟩
     | false=>
      cases bv with
      | true=>
       by_cases n00:n=0
       · have n0:(n != 0)=false:=by simp [n00]
         obtain ⟨ev,eo,so,co,⟨hev,hco⟩,R⟩:=RULES CC;rw [<- hev]
         rw [<- hco] at hnum hv hcap
         rw [<- hev] at key
         simp only [fpart,part',Try.f15,Option.getD]
         simp (maxSteps:=5000000) only [SA,SB,SD,R,SF,SG,SH,seval,TG,SE,SC,UTT,ZCT,RV,List.getElem?_concat_length,ss1,List.set_cons_zero,List.set_cons_succ,Bool.not_not,strP_eql,strP_neq,c1,n0,h1,h4,h5,h23,h24,h25,hi,hi0,hx,hb0',hb1',hb2',hnum,hsp,hlk,hv,hcap,e3,hup,mupR,hw]
         refine key fs' _ _ ?_ ?_ ?_ ?_ ?_ ?_ f0 f1 f2 hfs'
         · simp (maxSteps:=5000000) only [SA,SB,SD,R,SF,seval,h1]
         · simp (maxSteps:=5000000) only [SA,SB,SD,R,SF,seval,h4]
         · simp (maxSteps:=5000000) only [SA,SB,SD,R,SF,seval,h5]
         · simp (maxSteps:=5000000) only [SA,SB,SD,R,SF,seval,h23]
         · simp (maxSteps:=5000000) only [SA,SB,SD,R,SF,seval,h24]
         · simp (maxSteps:=5000000) only [SA,SB,SD,R,SF,seval]
       · have n0:(n != 0)=true:=by simpa using n00
         obtain ⟨ev,eo,so,co,⟨hev,hco⟩,R⟩:=RULES CC;rw [<- hev]
         rw [<- hco] at hnum hv hcap
         simp only [fpart,part',Try.f15,Option.getD]
         simp (maxSteps:=5000000) only [SA,SB,SD,R,SF,SG,SH,seval,TG,SE,SC,UTT,ZCT,RV,List.getElem?_concat_length,ss1,List.set_cons_zero,List.set_cons_succ,Bool.not_not,strP_eql,strP_neq,c1,n0,h1,h4,h5,h23,h24,h25,hi,hi0,hx,hb0',hb1',hb2',hnum,hsp,hlk,hv,hcap]
         exact ⟨_,_,.inr ⟨rfl,n,by simp (maxSteps:=5000000) only [SA,SB,SD,R,SF,seval]⟩⟩
      | false=>
       obtain ⟨ev,eo,so,co,⟨hev,hco⟩,R⟩:=RULES CC;rw [<- hev]
       rw [<- hco] at hnum hv
       simp only [fpart,part',Try.f15,Option.getD]
       simp (maxSteps:=5000000) only [SA,SB,SD,R,SF,SG,SH,seval,TG,SE,SC,UTT,ZCT,RV,List.getElem?_concat_length,ss1,List.set_cons_zero,List.set_cons_succ,Bool.not_not,strP_eql,strP_neq,c1,h1,h4,h5,h23,h24,h25,hi,hi0,hx,hb0',hb1',hb2',hnum,hsp,hlk,hv]
       exact ⟨_,_,.inr ⟨rfl,_,by simp (maxSteps:=5000000) only [SA,SB,SD,R,SF,seval];rfl⟩⟩
  | false=>
   obtain ⟨ev,eo,so,co,⟨hev,hco⟩,R⟩:=RULES CC;rw [<- hev]
   rw [<- hco] at hnum
   simp only [fpart,part',Try.f15,Option.getD]
   simp (maxSteps:=5000000) only [SA,SB,SD,R,SF,SG,SH,seval,TG,SE,SC,UTT,ZCT,RV,List.getElem?_concat_length,ss1,List.set_cons_zero,List.set_cons_succ,Bool.not_not,strP_eql,strP_neq,h1,h4,h5,h23,h24,h25,hi,hi0,hx,hb0',hb1',hb2',hnum,hsp]
   exact ⟨_,_,.inr ⟨rfl,_,by simp (maxSteps:=5000000) only [SA,SB,SD,R,SF,seval];rfl⟩⟩
def okHm (h:Hm):Prop:=h.cls.length<=9223372036854775807∧h.dvs.length<=9223372036854775807∧(∀ c ∈ h.cls,okCl c)∧∀ d ∈ h.dvs,d.cl.length<=9223372036854775807
theorem dvs_pure:∀ l:List Dv,pureL (l.map dvV)=true
 | []=>rfl
 | f :: r=>by simp only [List.map_cons,pureL,dvV_pure,dvs_pure r,Bool.and_self]
theorem hmV_pure (h:Hm):(hmV h).pure=true:=by
 unfold hmV
 simp only [PV.pure,pureL,clvs_pure,dvs_pure,Bool.and_self]
theorem call_device_Check (h:Hm) (hh:okHm h):∃ n bx,callL CC 15 [hmV h] []=some (.ret (.int .i64 n),bx):=by
 rw [callL_enter (fn:=Try.f15) (c:=Try.f15.body.getD .skip) rfl rfl fat_device_Check rfl ok_device_Check (Nat.le_of_ble_eq_true rfl)]
 obtain ⟨n,hall⟩:=op_All h.cls hh.1 hh.2.2.1
 obtain ⟨bx2,es,hcl,e2,hes,hkp⟩:=op_clusters h hh.1 [.cells 25 (hmV h).cells]
 have e0:=hkp 0 _ rfl
 have hlen:2 < bx2.length:=(List.getElem?_eq_some_iff.1 e2).1
 have hloop:=fun e bx=>loop_dck _ rfl h.dvs hh.2.1 hh.2.2.2 2 bx2.length (by omega) (by omega) es hes (.sl (h.cls.map clV)) h.dvs.length 0 [] e bx (by omega)
 have hll:(h.dvs.map dvV).length=h.dvs.length:=List.length_map _
 have g0:=get_app e0 (.mp [])
 have g2:=get_app e2 (.mp [])
 have g3:(bx2++[.mp []])[bx2.length]?=some (.mp []):=List.getElem?_concat_length
 obtain ⟨cls,dvs⟩:=h
 unfold hmV at *
 simp only [show ∀ cs,(PV.agg cs).cells=cs from fun _=>rfl,List.length_cons,List.length_nil,Nat.zero_add,Nat.reduceAdd] at hcl e0 e2 g0 g2 hall hll hloop ⊢
 have hq1:=clvs_pure cls
 have hq2:=dvs_pure dvs
 generalize cls.map clV=xs at *
 generalize dvs.map dvV=ys at *
 by_cases n0:n=0
 · have n1:(n != 0)=false:=by simp [n0]
   by_cases c1:(dvs.length:Int) > 20
   · skip
     obtain ⟨ev,eo,so,co,⟨hev,hco⟩,R⟩:=RULES CC;rw [<- hev]
     rw [<- hco] at hall
     simp only [fpart,part',Try.f15,Option.getD]
     simp (maxSteps:=5000000) only [SA,SB,SD,R,SF,SG,SH,seval,TG,SE,SC,UTT,ZCT,RV,List.getElem?_concat_length,ss1,List.set_cons_zero,List.set_cons_succ,Bool.not_not,strP_eql,strP_neq,hall,hq1,n1,hll,c1]
     exact ⟨_,_,rfl⟩
   · skip
     obtain ⟨ev,eo,so,co,⟨hev,hco⟩,R⟩:=RULES CC;rw [<- hev]
     rw [<- hco] at hall hcl
     rw [<- hev] at hloop
     simp only [fpart,part',Try.f15,Option.getD] at hloop ⊢
     simp (maxSteps:=5000000) only [SA,SB,SD,R,SF,SG,SH,seval,TG,SE,SC,UTT,ZCT,RV,List.getElem?_concat_length,ss1,List.set_cons_zero,List.set_cons_succ,Bool.not_not,strP_eql,strP_neq,hall,hq1,hq2,n1,hll,c1,hcl,g0]
     generalize hE:ev _ _=z
     have hP:=PDc.of hE (hloop _ _ (by simp (maxSteps:=5000000) only [SA,SB,SD,R,SF,seval] <;> rfl) (by simp (maxSteps:=5000000) only [SA,SB,SD,R,SF,seval] <;> rfl) (by simp (maxSteps:=5000000) only [SA,SB,SD,R,SF,seval] <;> rfl) (by simp (maxSteps:=5000000) only [SA,SB,SD,R,SF,seval] <;> rfl) (by simp (maxSteps:=5000000) only [SA,SB,SD,R,SF,seval] <;> rfl) (by simp (maxSteps:=5000000) only [SA,SB,SD,R,SF,seval] <;> rfl) g0 g2 g3 (fun p hp=>by cases hp))
     obtain ⟨e',ex,he | ⟨he,m,g5⟩⟩:=hP
     · subst he
       simp (maxSteps:=5000000) only [SA,SB,SD,R,SF,SG,SH,seval,TG,SE,SC,UTT,ZCT,RV,List.getElem?_concat_length,ss1,List.set_cons_zero,List.set_cons_succ,Bool.not_not,strP_eql,strP_neq,hll]
       exact ⟨_,_,rfl⟩
     · subst he
       simp (maxSteps:=5000000) only [SA,SB,SD,R,SF,SG,SH,seval,TG,SE,SC,UTT,ZCT,RV,List.getElem?_concat_length,ss1,List.set_cons_zero,List.set_cons_succ,Bool.not_not,strP_eql,strP_neq,g5]
       exact ⟨_,_,rfl⟩
 · have n1:(n != 0)=true:=by simpa using n0
   obtain ⟨ev,eo,so,co,⟨hev,hco⟩,R⟩:=RULES CC;rw [<- hev]
   rw [<- hco] at hall
   simp only [fpart,part',Try.f15,Option.getD]
   simp (maxSteps:=5000000) only [SA,SB,SD,R,SF,SG,SH,seval,TG,SE,SC,UTT,ZCT,RV,List.getElem?_concat_length,ss1,List.set_cons_zero,List.set_cons_succ,Bool.not_not,strP_eql,strP_neq,hall,hq1,n1]
   exact ⟨_,_,rfl⟩
theorem op_device_Check (h:Hm) (hh:okHm h):∃ n,∀ bx,callOp CC (callL CC) 15 [hmV h] bx=some (.ret (.int .i64 n),bx):=by
 obtain ⟨n,bx',hc⟩:=call_device_Check h hh
 exact ⟨n,fun bx=>callOp_of rfl (by simp only [SA,hmV_pure,Bool.and_true]) hc rfl⟩
end Go.HH
