/-
  What the law needs, packed: RH RI RJ RK RM RN RO RP.
-/
import Derived.Test.YthjabmlbmnadjaaK40
namespace Go.HH
open Go Go.Proofs
set_option maxRecDepth 100000
set_option maxHeartbeats 4000000
set_option linter.unusedSimpArgs false
set_option linter.unusedVariables false
theorem triggerP_lt {L:List Tk} (hT:TokOK L) {i:Nat} {a:Tg} {j:Nat} (hi:i < L.length) (h:triggerP L i=.ok a j):j < L.length:=by
 unfold triggerP at h
 split at h
 · rename_i hk
   have hi1:=isT_lt hT hi hk (by decide)
   obtain ⟨_,_,r0,h⟩:=bind_ok h
   have h0:=pathP_lt hT hi1 r0
   injection h with _ h
   exact h ▸ h0.2.1
 split at h
 · rename_i hk
   have hi1:=isT_lt hT hi hk (by decide)
   obtain ⟨_,_,r0,h⟩:=bind_ok h
   have h0:=pathP_lt hT hi1 r0
   injection h with _ h
   exact h ▸ h0.2.1
 split at h
 · rename_i hk
   have hi1:=isT_lt hT hi hk (by decide)
   obtain ⟨_,_,r0,h⟩:=bind_ok h
   have h0:=clockP_lt hT hi1 r0
   split at h
   · rename_i hk2
     have hi2:=isT_lt hT h0.2.1 hk2 (by decide)
     obtain ⟨_,_,r0,h⟩:=bind_ok h
     have h0:=daysP_lt hT hi2 r0
     injection h with _ h
     exact h ▸ h0.2.1
   · injection h with _ h
     exact h ▸ h0.2.1
 split at h
 · rename_i hk
   have hi1:=isT_lt hT hi hk (by decide)
   split at h
   · skip
     obtain ⟨_,_,r0,h⟩:=bind_ok h
     have h0:=nameP_lt hT hi1 r0
     injection h with _ h
     exact h ▸ h0.2
   · rename_i h0 hne
     injection h with _ h
     exact h ▸ hi1
 split at h
 · rename_i hk
   have hi1:=isT_lt hT hi hk (by decide)
   injection h with _ h
   exact h ▸ hi1
 obtain ⟨_,_,r0,h⟩:=bind_ok h
 obtain ⟨_,_,r1,h⟩:=bind_ok h
 have h0:=mustP_lt hT hi (by decide) r0
 have h1:=numP_lt hT h0.2 r1
 injection h with _ h
 exact h ▸ h1.2.1
theorem stepP_lt {L:List Tk} (hT:TokOK L) {n i:Nat} {a:Sp} {j:Nat} (hi:i < L.length) (h:stepP L n i=.ok a j):j < L.length:=by
 unfold stepP at h
 split at h
 · rename_i hk
   have hi1:=isT_lt hT hi hk (by decide)
   obtain ⟨_,_,r0,h⟩:=bind_ok h
   obtain ⟨_,_,r1,h⟩:=bind_ok h
   obtain ⟨_,_,r2,h⟩:=bind_ok h
   have h0:=pathP_lt hT hi1 r0
   have h1:=mustP_lt hT h0.2.1 (by decide) r1
   have h2:=wholeP_lt hT h1.2 r2
   injection h with _ h
   exact h ▸ h2.2
 split at h
 · rename_i hk
   have hi1:=isT_lt hT hi hk (by decide)
   obtain ⟨_,_,r0,h⟩:=bind_ok h
   have h0:=pathP_lt hT hi1 r0
   split at h
   · rename_i hk2
     have hi2:=isT_lt hT h0.2.1 hk2 (by decide)
     obtain ⟨_,_,r0,h⟩:=bind_ok h
     obtain ⟨_,_,r1,h⟩:=bind_ok h
     have h0:=wholeP_lt hT hi2 r0
     have h1:=mustP_lt hT h0.2 (by decide) r1
     injection h with _ h
     exact h ▸ h1.2
   · injection h with _ h
     exact h ▸ h0.2.1
 split at h
 · rename_i hk
   have hi1:=isT_lt hT hi hk (by decide)
   obtain ⟨_,_,r0,h⟩:=bind_ok h
   have h0:=nameP_lt hT hi1 r0
   injection h with _ h
   exact h ▸ h0.2
 split at h
 · rename_i hk
   have hi1:=isT_lt hT hi hk (by decide)
   obtain ⟨_,_,r0,h⟩:=bind_ok h
   have h0:=nameP_lt hT hi1 r0
   injection h with _ h
   exact h ▸ h0.2
 obtain ⟨_,_,r0,h⟩:=bind_ok h
 obtain ⟨_,_,r1,h⟩:=bind_ok h
 have h0:=mustP_lt hT hi (by decide) r0
 have h1:=oneP_lt hT h0.2 (by decide) r1
 injection h with _ h
 exact h ▸ h1.2
theorem severalP_lt {α:Type} {L:List Tk} (hT:TokOK L) {wd:List UInt8} {part:Nat->PR α} (hlt:∀ i a j,i < L.length->part i=.ok a j->j < L.length):∀ (m:Nat) (acc:List α) (i:Nat) (l:List α) (j:Nat),i < L.length->acc.length<=8->severalP L wd part m acc i=.ok l j->j < L.length∧l≠[]∧l.length<=8:=by
 intro m
 induction m with
 | zero=>intro acc i l j _ _ h;cases h
 | succ m ih=>
  intro acc i l j hi h8 h
  rw [severalP] at h
  split at h
  · split at h
    · cases h
    · obtain ⟨_,_,r0,h⟩:=bind_ok h
      obtain ⟨_,_,r1,h⟩:=bind_ok h
      obtain ⟨_,_,r2,h⟩:=bind_ok h
      have h0:=(mustP_lt hT hi (by decide) r0).2
      have h1:=hlt _ _ _ h0 r1
      have h2:=(mustP_lt hT h1 (by decide) r2).2
      exact ih _ _ _ _ h2 (by rw [List.length_append];simp only [List.length_cons,List.length_nil];omega) h
  · rename_i hn
    injection h with e1 e2
    subst e1 e2
    exact ⟨hi,fun e=>hn (Or.inl (by rw [e] <;> rfl)),h8⟩
theorem part_r1 {id:Nat} {L:List Tk} {o:Nat} {RL:PV} (hR:RL.pure=true) (hT:TokOK L) (nm:List UInt8) (pr:Int) (xV:PV) (hdu:∀ n,xV.under n=true) (et:Tr) (t0:Tk) {J:List PBox} (hJ:∀ n,(J.all fun x=>x.under n)=true) :
 PARTc 45 (triggerP L) id L RL o t0 J (fun acc:List Tg=>.cells 37 (rcs nm pr (lsV 59 (acc.map tgV)) xV et)):=by
 intro i hi acc h7
 have h:=ans_trigger (id:=id) (o:=o) hR hi hT
 cases r:triggerP L i with
 | out=>trivial
 | ok a j=>
  rw [r] at h
  exact fun bx hid hc=>op_r1_ok hR j hid hc nm pr xV hdu et t0 hJ acc h7 a h
 | bad t c=>
  rw [r] at h
  obtain ⟨i',o',h⟩:=h
  exact ⟨i',o',fun bx hid hc=>op_r1_bad hR 0 hid hc nm pr xV hdu et t0 hJ acc h7 h⟩
theorem sev_r1 {id:Nat} {L:List Tk} {o:Nat} {RL:PV} (hR:RL.pure=true) (hT:TokOK L) (nm:List UInt8) (pr:Int) (xV:PV) (hdu:∀ n,xV.under n=true) (et:Tr) (t0:Tk) {J:List PBox} (hJ:∀ n,(J.all fun x=>x.under n)=true) (wd:List UInt8) {i:Nat} (hi:i < L.length) :
 SEVc 45 wd id L RL o t0 J (fun acc:List Tg=>.cells 37 (rcs nm pr (lsV 59 (acc.map tgV)) xV et)) i (severalP L wd (triggerP L) 10 [] i):=
 sev_call hR hT hJ (fun z acc=>by show underL z (rcs nm pr (lsV 59 (acc.map tgV)) xV et)=true;exact rcs_under z nm pr _ _ et (lsV_under _ _ _ (map_under tgV tgV_under _ _)) (hdu _)) (fun i a j hi h=>triggerP_lt hT hi h) (part_r1 hR hT nm pr xV hdu et t0 hJ) hi
theorem part_r2 {id:Nat} {L:List Tk} {o:Nat} {RL:PV} (hR:RL.pure=true) (hT:TokOK L) (n:Nat) (ho:o=0) (nm:List UInt8) (pr:Int) (xV:PV) (hdu:∀ n,xV.under n=true) (et:Tr) (t0:Tk) {J:List PBox} (hJ:∀ n,(J.all fun x=>x.under n)=true) :
 PARTc 47 (stepP L n) id L RL o t0 J (fun acc:List Sp=>.cells 37 (rcs nm pr xV (lsV 41 (acc.map spV)) et)):=by
 intro i hi acc h7
 have h:=ans_step (id:=id) (o:=o) hR hi hT n ho
 cases r:stepP L n i with
 | out=>trivial
 | ok a j=>
  rw [r] at h
  exact fun bx hid hc=>op_r2_ok hR j hid hc nm pr xV hdu et t0 hJ acc h7 a h
 | bad t c=>
  rw [r] at h
  obtain ⟨i',o',h⟩:=h
  exact ⟨i',o',fun bx hid hc=>op_r2_bad hR 0 hid hc nm pr xV hdu et t0 hJ acc h7 h⟩
theorem sev_r2 {id:Nat} {L:List Tk} {o:Nat} {RL:PV} (hR:RL.pure=true) (hT:TokOK L) (n:Nat) (ho:o=0) (nm:List UInt8) (pr:Int) (xV:PV) (hdu:∀ n,xV.under n=true) (et:Tr) (t0:Tk) {J:List PBox} (hJ:∀ n,(J.all fun x=>x.under n)=true) (wd:List UInt8) {i:Nat} (hi:i < L.length) :
 SEVc 47 wd id L RL o t0 J (fun acc:List Sp=>.cells 37 (rcs nm pr xV (lsV 41 (acc.map spV)) et)) i (severalP L wd (stepP L n) 10 [] i):=
 sev_call hR hT hJ (fun z acc=>by show underL z (rcs nm pr xV (lsV 41 (acc.map spV)) et)=true;exact rcs_under z nm pr _ _ et (hdu _) (lsV_under _ _ _ (map_under spV spV_under _ _))) (fun i a j hi h=>stepP_lt hT hi h) (part_r2 hR hT n ho nm pr xV hdu et t0 hJ) hi
end Go.HH
namespace Go.HH
open Go Go.Proofs
set_option maxRecDepth 100000
set_option maxHeartbeats 4000000
set_option linter.unusedSimpArgs false
set_option linter.unusedVariables false
def TLr {β:Type} (T:Code) (id:Nat) (L:List Tk) (RL:PV) (o:Nat) (t0:Tk) (J:List PBox) (i:Nat) (R0:PBox) (RLn:β->PV) (r:PR β):Prop:=match r with
 | .ok b j=>∀ (bx:List PBox) (hid:id < bx.length) (hc:clB bx) (e:List PV),getT e 1=.bp bx.length 0->getT e 2=.bp (bx.length+1) 0->getT e 3=.bp (bx.length+2) 0->∃ e' ys',evB CC T ⟨e,(BX bx id (PSR L i o RL) (.cells 63 [.bp id 0] :: .cells 66 [.int .i64 (t0.1:Int),.str t0.2.1,.int .i64 (t0.2.2:Int)] :: R0 :: J))⟩=some (.normal,⟨e',BX bx id (PSR L j o (RLn b)) ys'⟩)
 | .bad t c=>∃ i' o',∀ (bx:List PBox) (hid:id < bx.length) (hc:clB bx) (e:List PV),getT e 1=.bp bx.length 0->getT e 2=.bp (bx.length+1) 0->getT e 3=.bp (bx.length+2) 0->∃ e' ys',evB CC T ⟨e,(BX bx id (PSR L i o RL) (.cells 63 [.bp id 0] :: .cells 66 [.int .i64 (t0.1:Int),.str t0.2.1,.int .i64 (t0.2.2:Int)] :: R0 :: J))⟩=some (.pan (fltV t c),⟨e',BX bx id (PSR L i' o' RL) ys'⟩)
 | .out=>True
theorem tl_out {β:Type} {T:Code} {id:Nat} {L:List Tk} {RL:PV} {o:Nat} {t0:Tk} {J:List PBox} {i:Nat} {R0:PBox} {RLn:β->PV}:TLr T id L RL o t0 J i R0 RLn .out:=trivial
theorem lsV_nil (t:TypeId):lsV t []=.nils:=rfl
theorem lsV_cons (t:TypeId) (x:PV) (r:List PV):lsV t (x :: r)=.osl t (x :: r):=rfl
theorem lsV_pure (t:TypeId):∀ l:List PV,pureL l=true->(lsV t l).pure=true
 | [],_=>rfl
 | x :: r,h=>h
theorem tgV_pure (t:Tg):(tgV t).pure=true:=rfl
theorem spV_pure (s:Sp):(spV s).pure=true:=spC_pure s
theorem map_pure {α:Type} (f:α->PV) (hf:∀ a,(f a).pure=true):∀ l:List α,pureL (l.map f)=true
 | []=>rfl
 | x :: r=>by rw [List.map_cons,pureL_cons,hf,map_pure f hf r];rfl
theorem tail3 (T:Code) (hL:T=fpart Try.f26 [1,1,1,1,1,1,1,1,1,1]) {id:Nat} {L:List Tk} {o:Nat} (hT:TokOK L) (RS:List PV) (hRS:pureL RS=true) (hR8:RS.length<=100) (n:Nat) (ho:o=0) (nm:List UInt8) (pr:Int) (ons:List Tg) (hon:ons≠[]) (et:Tr) (t0:Tk) {J:List PBox} (hJ:∀ n,(J.all fun x=>x.under n)=true) {i:Nat} (hi:i < L.length) :
 TLr T id L (lsV 37 RS) o t0 J i (.cells 37 (rcs nm pr (lsV 59 (ons.map tgV)) (.nils) et)) (fun dos=>lsV 37 (RS++[.agg (rcs nm pr (.sl (ons.map tgV)) (.sl (dos.map spV)) et)])) ((severalP L [100,111] (stepP L n) 10 [] i).bind fun dos i=>(mustP L 4 [125] i).bind fun _ i=>.ok dos i):=by
 have hR:=lsV_pure 37 RS hRS
 have hou:∀ n,(lsV 59 (ons.map tgV)).under n=true:=fun n=>lsV_under _ _ _ (map_under tgV tgV_under n ons)
 have hrcu:∀ (n:Nat) (l:List Sp),underL n (rcs nm pr (lsV 59 (ons.map tgV)) (lsV 41 (l.map spV)) et)=true:=fun n l=>rcs_under n nm pr _ _ et (hou n) (lsV_under _ _ _ (map_under spV spV_under n l))
 have hsev:=sev_r2 (id:=id) (o:=o) (RL:=lsV 37 RS) hR hT n ho nm pr (lsV 59 (ons.map tgV)) hou et t0 hJ [100,111] hi
 have hpre:fpart Try.f26 [1,1,1,1,1,1,1,1,1,1]=.seq (fpart Try.f26 [1,1,1,1,1,1,1,1,1,1,0]) (.seq (fpart Try.f26 [1,1,1,1,1,1,1,1,1,1,1,0]) (fpart Try.f26 [1,1,1,1,1,1,1,1,1,1,1,1])):=rfl
 rw [hpre] at hL
 cases r1:severalP L [100,111] (stepP L n) 10 [] i with
 | out=>exact tl_out
 | bad t c=>
  rw [r1] at hsev
  obtain ⟨i',o',hsev⟩:=hsev
  refine ⟨i',o',fun bx hid hc e g1 g2 g3=>?_⟩
  obtain ⟨acc',t1⟩:=hsev bx hid hc
  unfold PSR at t1
  simp only [List.map_nil,lsV_nil] at t1
  have hd:∀ k,id < bx.length+k:=fun k=>by omega
  have pbp:pureL [PV.bp id 0]=false:=rfl
  have pbp3:pureL [PV.bp (bx.length+2) 0,PV.bp bx.length 0]=false:=rfl
  rw [hL]
  unfold PSR
  obtain ⟨dr,ev,eo,so,co,⟨hev,hco,heo,hdr⟩,R⟩:=RULESB CC
  rw [<- hev]
  rw [<- hco] at t1
  simp only [opsOf,fpart,part',Try.f26,Option.getD] at ⊢
  simp only [S9,R,seval,PY,PZ,pbp,dynR,g1,g2,g3,hd,hJ,hrcu,pbp3,t1,SX,hid]
  exact ⟨_,_,rfl⟩
 | ok dos i1=>
  rw [r1] at hsev
  have hlt:=severalP_lt hT (fun i a j hi h=>stepP_lt hT hi h) 10 [] i dos i1 hi (by simp) r1
  have hi1:=hlt.1
  have hm:=ans_must (id:=id) (o:=o) (i:=i1) hR hi1 hT 4 4 rfl [125]
  dsimp only [bind_okk]
  cases r2:mustP L 4 [125] i1 with
  | out=>exact tl_out
  | bad t c=>
   rw [r2] at hm
   obtain ⟨i',o',hm⟩:=hm
   refine ⟨i',o',fun bx hid hc e g1 g2 g3=>?_⟩
   have t1:=hsev bx hid hc
   unfold PSR at t1
   simp only [List.map_nil,lsV_nil] at t1
   have t2:=badx_use hid hc hR hm
   have hd:∀ k,id < bx.length+k:=fun k=>by omega
   have pbp:pureL [PV.bp id 0]=false:=rfl
   have pbp3:pureL [PV.bp (bx.length+2) 0,PV.bp bx.length 0]=false:=rfl
   rw [hL]
   unfold PSR
   obtain ⟨dr,ev,eo,so,co,⟨hev,hco,heo,hdr⟩,R⟩:=RULESB CC
   rw [<- hev]
   rw [<- hco] at t1 t2
   simp only [opsOf,fpart,part',Try.f26,Option.getD] at ⊢
   simp only [S9,R,seval,PY,PZ,pbp,dynR,g1,g2,g3,hd,hJ,hrcu,pbp3,t1,t2,SX,hid]
   exact ⟨_,_,rfl⟩
  | ok u i2=>
   rw [r2] at hm
   dsimp only [bind_okk]
   refine fun bx hid hc e g1 g2 g3=>?_
   have t1:=hsev bx hid hc
   unfold PSR at t1
   have t2:=okc_use hid hc hR hm
   obtain ⟨x,ons,rfl⟩:=List.exists_cons_of_ne_nil hon
   obtain ⟨y,dss,rfl⟩:=List.exists_cons_of_ne_nil hlt.2.1
   cases RS with
   | nil=>
    simp only [List.map_nil,List.map_cons,List.nil_append,List.cons_append,lsV_nil,lsV_cons] at t1 t2 hrcu hou ⊢
    have hd:∀ k,id < bx.length+k:=fun k=>by omega
    have pbp:pureL [PV.bp id 0]=false:=rfl
    have pbp3:pureL [PV.bp (bx.length+2) 0,PV.bp bx.length 0]=false:=rfl
    have hdw:=fun e g1 g3=>draw_rb_nil (id:=id) (L:=L) (i:=i2) (o:=o) hid hc nm pr (tgV x :: ons.map tgV) (spV y :: dss.map spV) et t0 J e g1 g3
    have hru:∀ n,underL n (rcs nm pr (.osl 59 (tgV x :: ons.map tgV)) (.osl 41 (spV y :: dss.map spV)) et)=true:=fun n=>hrcu n (y :: dss)
    unfold PSR at hdw
    simp only [<- drawM_all no_rb] at hdw
    rw [hL]
    unfold PSR
    obtain ⟨dr,ev,eo,so,co,⟨hev,hco,heo,hdr⟩,R⟩:=RULESB CC
    rw [<- hev]
    rw [<- hco] at t1 t2
    rw [<- hdr] at hdw
    simp only [opsOf,fpart,part',Try.f26,Option.getD] at⊢hdw
    simp only [S9,R,seval,PY,PZ,pbp,dynR,g1,g2,g3,hd,hJ,hrcu,pbp3,t1,t2,hru,hdw,SX,hid]
    exact ⟨_,_,rfl⟩
   | cons a RS=>
    simp only [List.map_nil,List.map_cons,List.nil_append,List.cons_append,lsV_nil,lsV_cons] at t1 t2 hrcu hou ⊢
    have hd:∀ k,id < bx.length+k:=fun k=>by omega
    have pbp:pureL [PV.bp id 0]=false:=rfl
    have pbp3:pureL [PV.bp (bx.length+2) 0,PV.bp bx.length 0]=false:=rfl
    have hdw:=fun e g1 g3=>draw_rb_cons (id:=id) (L:=L) (i:=i2) (o:=o) hid hc nm pr (tgV x :: ons.map tgV) (spV y :: dss.map spV) et t0 J a RS (by simp only [List.length_cons] at hR8;omega) e g1 g3
    have hru:∀ n,underL n (rcs nm pr (.osl 59 (tgV x :: ons.map tgV)) (.osl 41 (spV y :: dss.map spV)) et)=true:=fun n=>hrcu n (y :: dss)
    unfold PSR at hdw
    simp only [<- drawM_all no_rb] at hdw
    rw [hL]
    unfold PSR
    obtain ⟨dr,ev,eo,so,co,⟨hev,hco,heo,hdr⟩,R⟩:=RULESB CC
    rw [<- hev]
    rw [<- hco] at t1 t2
    rw [<- hdr] at hdw
    simp only [opsOf,fpart,part',Try.f26,Option.getD] at⊢hdw
    simp only [S9,R,seval,PY,PZ,pbp,dynR,g1,g2,g3,hd,hJ,hrcu,pbp3,t1,t2,hru,hdw,SX,hid]
    exact ⟨_,_,rfl⟩
end Go.HH
namespace Go.HH
open Go Go.Proofs
set_option maxRecDepth 100000
set_option maxHeartbeats 4000000
set_option linter.unusedSimpArgs false
set_option linter.unusedVariables false
theorem rcs_mk (nm:List UInt8) (pr:Int) (on dos:PV) (k n m:Int) (s:List UInt8) (v:Vl) (q:Ky) (kids:List Tr):rcs nm pr on dos (.mk k n m s v q kids)=[.str nm,.int .i64 pr,on,.int .i64 k,.int .i64 n,.int .i64 m,.str s,.int .i64 v.1,.int .i64 v.2.1,.str v.2.2,.int .i64 q.1,.str q.2.1,.str q.2.2,.sl (trVs kids),dos]:=rfl
theorem exC_mk (k n m:Int) (s:List UInt8) (v:Vl) (q:Ky) (kids:List Tr):exC (.mk k n m s v q kids)=[.int .i64 k,.int .i64 n,.int .i64 m,.str s,.int .i64 v.1,.int .i64 v.2.1,.str v.2.2,.int .i64 q.1,.str q.2.1,.str q.2.2,.sl (trVs kids)]:=by unfold exC trV;rfl
theorem trVs_under (n:Nat) (l:List Tr):underL n (trVs l)=true:=underL_of_pure n _ (trVs_pure l)
theorem trVs_nil:trVs []=[]:=by unfold trVs;rfl
def tail2P (L:List Tk) (n i:Nat):PR (List Tg×Tr×List Sp):=(mustP L 4 [123] i).bind fun _ i=>
 (severalP L [111,110] (triggerP L) 10 [] i).bind fun on i=>
 (if isT L 1 [105,102] i then (wholeP L n (i+1)).bind fun e i=>(mustP L 4 [59] i).bind fun _ i=>.ok e i else .ok wT i).bind fun e i=>
 (severalP L [100,111] (stepP L n) 10 [] i).bind fun dos i=>(mustP L 4 [125] i).bind fun _ i=>.ok (on,e,dos) i
theorem bind_assoc_ok {α γ:Type} (r:PR α) (f:Nat->PR Unit) (g:α->γ):((r.bind fun a i=>(f i).bind fun _ i=>PR.ok a i).bind fun b j=>PR.ok (g b) j)=r.bind fun a i=>(f i).bind fun _ i=>PR.ok (g a) i:=by
 cases r with
 | ok a i=>show (((f i).bind fun _ i=>PR.ok a i).bind fun b j=>PR.ok (g b) j)=(f i).bind fun _ i=>PR.ok (g a) i;cases f i <;> rfl
 | bad t e=>rfl
 | out=>rfl
theorem tl_map {β γ:Type} {T:Code} {id:Nat} {L:List Tk} {RL:PV} {o:Nat} {t0:Tk} {J:List PBox} {i:Nat} {R0:PBox} {RLn:β->PV} {r:PR β} {g:β->γ} {RLg:γ->PV} (hg:∀ b,RLg (g b)=RLn b) (h:TLr T id L RL o t0 J i R0 RLn r):TLr T id L RL o t0 J i R0 RLg (r.bind fun b j=>.ok (g b) j):=by
 cases r with
 | out=>trivial
 | bad t c=>exact h
 | ok b j=>unfold TLr PR.bind at *;simp only [hg];exact h
theorem tail2 (T:Code) (hL:T=fpart Try.f26 [1,1,1,1,1,1,1]) {id:Nat} {L:List Tk} {o:Nat} (hT:TokOK L) (RS:List PV) (hRS:pureL RS=true) (hR8:RS.length<=100) (n:Nat) (ho:o=0) (nm:List UInt8) (pr:Int) (t0:Tk) {J:List PBox} (hJ:∀ n,(J.all fun x=>x.under n)=true) {i:Nat} (hi:i < L.length) :
 TLr T id L (lsV 37 RS) o t0 J i (.cells 37 (rcs nm pr (.nils) (.nils) wT)) (fun x:List Tg×Tr×List Sp=>lsV 37 (RS++[.agg (rcs nm pr (.sl (x.1.map tgV)) (.sl (x.2.2.map spV)) x.2.1)])) (tail2P L n i):=by
 have hR:=lsV_pure 37 RS hRS
 obtain ⟨T3,hT3⟩:∃ T3,T3=fpart Try.f26 [1,1,1,1,1,1,1,1,1,1]:=⟨_,rfl⟩
 have hpre:fpart Try.f26 [1,1,1,1,1,1,1]=.seq (fpart Try.f26 [1,1,1,1,1,1,1,0]) (.seq (fpart Try.f26 [1,1,1,1,1,1,1,1,0]) (.seq (fpart Try.f26 [1,1,1,1,1,1,1,1,1,0]) T3)):=by rw [hT3];rfl
 rw [hpre] at hL
 have hu0:∀ n,underL n (rcs nm pr .nils .nils wT)=true:=fun n=>rcs_under n nm pr _ _ wT (by simp only [SU]) (by simp only [SU])
 unfold tail2P
 have h1:=ans_must (id:=id) (o:=o) (i:=i) hR hi hT 4 4 rfl [123]
 cases r1:mustP L 4 [123] i with
 | out=>exact tl_out
 | bad t c=>
  rw [r1] at h1
  obtain ⟨i',o',h1⟩:=h1
  refine ⟨i',o',fun bx hid hc e g1 g2 g3=>?_⟩
  have t1:=badx_use hid hc hR h1
  have hrcu:=hu0
  have hd:∀ k,id < bx.length+k:=fun k=>by omega
  have pbp:pureL [PV.bp id 0]=false:=rfl
  have pbp3:pureL [PV.bp (bx.length+2) 0,PV.bp bx.length 0]=false:=rfl
  rw [hL]
  unfold PSR
  obtain ⟨dr,ev,eo,so,co,⟨hev,hco,heo,hdr⟩,R⟩:=RULESB CC
  rw [<- hev]
  rw [<- hco] at t1
  simp only [opsOf,fpart,part',Try.f26,Option.getD] at ⊢
  simp only [S9,R,seval,PY,PZ,pbp,dynR,g1,g2,g3,hd,hJ,hrcu,pbp3,t1,SX,hid]
  exact ⟨_,_,rfl⟩
 | ok u i1=>
  rw [r1] at h1
  dsimp only [bind_okk]
  have hi1:=(mustP_lt hT hi (by decide) r1).2
  have hsev:=sev_r1 (id:=id) (o:=o) (RL:=lsV 37 RS) hR hT nm pr .nils (fun n=>by simp only [SU]) wT t0 hJ [111,110] hi1
  cases r2:severalP L [111,110] (triggerP L) 10 [] i1 with
  | out=>exact tl_out
  | bad t c=>
   rw [r2] at hsev
   obtain ⟨i',o',hsev⟩:=hsev
   refine ⟨i',o',fun bx hid hc e g1 g2 g3=>?_⟩
   have t1:=okc_use hid hc hR h1
   obtain ⟨acc',t2⟩:=hsev bx hid hc
   unfold PSR at t2
   simp only [List.map_nil,lsV_nil] at t2
   have hrcu:=hu0
   have hd:∀ k,id < bx.length+k:=fun k=>by omega
   have pbp:pureL [PV.bp id 0]=false:=rfl
   have pbp3:pureL [PV.bp (bx.length+2) 0,PV.bp bx.length 0]=false:=rfl
   rw [hL]
   unfold PSR
   obtain ⟨dr,ev,eo,so,co,⟨hev,hco,heo,hdr⟩,R⟩:=RULESB CC
   rw [<- hev]
   rw [<- hco] at t1 t2
   simp only [opsOf,fpart,part',Try.f26,Option.getD] at ⊢
   simp only [S9,R,seval,PY,PZ,pbp,dynR,g1,g2,g3,hd,hJ,hrcu,pbp3,t1,t2,SX,hid]
   exact ⟨_,_,rfl⟩
  | ok ons i2=>
   rw [r2] at hsev
   dsimp only [bind_okk]
   have hlt:=severalP_lt hT (fun i a j hi h=>triggerP_lt hT hi h) 10 [] i1 ons i2 hi1 (by simp) r2
   have hi2:=hlt.1
   have hou:∀ n,(lsV 59 (ons.map tgV)).under n=true:=fun n=>lsV_under _ _ _ (map_under tgV tgV_under n ons)
   have hrc2:∀ n,underL n (rcs nm pr (lsV 59 (ons.map tgV)) .nils wT)=true:=fun n=>rcs_under n nm pr _ _ wT (hou n) (by simp only [SU])
   cases f0:isT L 1 [105,102] i2 with
   | false=>
    simp only [Bool.false_eq_true,if_false]
    dsimp only [bind_okk]
    have key:=tl_map (RLg:=(fun x:List Tg×Tr×List Sp=>lsV 37 (RS++[.agg (rcs nm pr (.sl (x.1.map tgV)) (.sl (x.2.2.map spV)) x.2.1)]))) (g:=fun dos=>(ons,wT,dos)) (fun b=>rfl) (tail3 T3 hT3 (id:=id) hT RS hRS hR8 n ho nm pr ons hlt.2.1 wT t0 hJ hi2)
    rw [bind_assoc_ok] at key
    revert key
    generalize ((severalP L [100,111] (stepP L n) 10 [] i2).bind fun dos i=>(mustP L 4 [125] i).bind fun _ i=>PR.ok (ons,wT,dos) i)=rr
    intro key
    cases rr with
    | out=>exact tl_out
    | bad t c=>
     obtain ⟨i',o',key⟩:=key
     refine ⟨i',o',fun bx hid hc e g1 g2 g3=>?_⟩
     have key:=key bx hid hc
     have hd:∀ k,id < bx.length+k:=fun k=>by omega
     have pbp:pureL [PV.bp id 0]=false:=rfl
     have pbp3:pureL [PV.bp (bx.length+2) 0,PV.bp bx.length 0]=false:=rfl
     have t1:=okc_use hid hc hR h1
     have t2:=hsev bx hid hc
     unfold PSR at t2
     simp only [List.map_nil,lsV_nil] at t2
     have hrcu:=hu0
     have q0:=okc_use hid hc hR (okc_word_f (id:=id) (o:=o) hR hi2 hT _ f0)
     rw [hL]
     unfold PSR at⊢key
     obtain ⟨dr,ev,eo,so,co,⟨hev,hco,heo,hdr⟩,R⟩:=RULESB CC
     rw [<- hev]
     rw [<- hev] at key
     rw [<- hco] at t1 t2 q0
     simp only [opsOf,fpart,part',Try.f26,Option.getD] at ⊢
     simp only [S9,R,seval,PY,PZ,pbp,dynR,g1,g2,g3,hd,hJ,hrcu,pbp3,t1,t2,q0,hrc2,SX,hid]
     refine key _ ?_ ?_ ?_
     · simp only [S7,R,seval,g1]
     · simp only [S7,R,seval,g2]
     · simp only [S7,R,seval,g3]
    | ok v j=>
     refine fun bx hid hc e g1 g2 g3=>?_
     have key:=key bx hid hc
     have hd:∀ k,id < bx.length+k:=fun k=>by omega
     have pbp:pureL [PV.bp id 0]=false:=rfl
     have pbp3:pureL [PV.bp (bx.length+2) 0,PV.bp bx.length 0]=false:=rfl
     have t1:=okc_use hid hc hR h1
     have t2:=hsev bx hid hc
     unfold PSR at t2
     simp only [List.map_nil,lsV_nil] at t2
     have hrcu:=hu0
     have q0:=okc_use hid hc hR (okc_word_f (id:=id) (o:=o) hR hi2 hT _ f0)
     rw [hL]
     unfold PSR at⊢key
     obtain ⟨dr,ev,eo,so,co,⟨hev,hco,heo,hdr⟩,R⟩:=RULESB CC
     rw [<- hev]
     rw [<- hev] at key
     rw [<- hco] at t1 t2 q0
     simp only [opsOf,fpart,part',Try.f26,Option.getD] at ⊢
     simp only [S9,R,seval,PY,PZ,pbp,dynR,g1,g2,g3,hd,hJ,hrcu,pbp3,t1,t2,q0,hrc2,SX,hid]
     refine key _ ?_ ?_ ?_
     · simp only [S7,R,seval,g1]
     · simp only [S7,R,seval,g2]
     · simp only [S7,R,seval,g3]
   | true=>
    simp only [if_true]
    have hi3:=isT_lt hT hi2 f0 (by decide)
    have h3:=ans_whole (id:=id) (i:=i2+1) hR hT hi3 n o ho
    cases r3:wholeP L n (i2+1) with
    | out=>exact tl_out
    | bad t c=>
     rw [r3] at h3
     obtain ⟨i',o',h3⟩:=h3
     refine ⟨i',o',fun bx hid hc e g1 g2 g3=>?_⟩
     have hd:∀ k,id < bx.length+k:=fun k=>by omega
     have pbp:pureL [PV.bp id 0]=false:=rfl
     have pbp3:pureL [PV.bp (bx.length+2) 0,PV.bp bx.length 0]=false:=rfl
     have t1:=okc_use hid hc hR h1
     have t2:=hsev bx hid hc
     unfold PSR at t2
     simp only [List.map_nil,lsV_nil] at t2
     have hrcu:=hu0
     have q0:=okc_use hid hc hR (okc_word_t (id:=id) (o:=o) hR hi2 hT _ f0)
     have t3:=badx_use hid hc hR h3
     rw [hL]
     unfold PSR
     obtain ⟨dr,ev,eo,so,co,⟨hev,hco,heo,hdr⟩,R⟩:=RULESB CC
     rw [<- hev]
     rw [<- hco] at t1 t2 q0 t3
     simp only [opsOf,fpart,part',Try.f26,Option.getD] at ⊢
     simp only [S9,R,seval,PY,PZ,pbp,dynR,g1,g2,g3,hd,hJ,hrcu,pbp3,t1,t2,q0,t3,hrc2,SX,hid]
     exact ⟨_,_,rfl⟩
    | ok a i3=>
     rw [r3] at h3
     dsimp only [bind_okk]
     have hi4:=(wholeP_lt hT hi3 r3).2
     have h4:=ans_must (id:=id) (o:=o) (i:=i3) hR hi4 hT 4 4 rfl [59]
     cases r4:mustP L 4 [59] i3 with
     | out=>exact tl_out
     | bad t c=>
      rw [r4] at h4
      obtain ⟨i',o',h4⟩:=h4
      refine ⟨i',o',fun bx hid hc e g1 g2 g3=>?_⟩
      have hd:∀ k,id < bx.length+k:=fun k=>by omega
      have pbp:pureL [PV.bp id 0]=false:=rfl
      have pbp3:pureL [PV.bp (bx.length+2) 0,PV.bp bx.length 0]=false:=rfl
      obtain ⟨ak,an,am,as_,av,aq,akids⟩:=a
      have t1:=okc_use hid hc hR h1
      have t2:=hsev bx hid hc
      unfold PSR at t2
      simp only [List.map_nil,lsV_nil] at t2
      have hrcu:=hu0
      have q0:=okc_use hid hc hR (okc_word_t (id:=id) (o:=o) hR hi2 hT _ f0)
      have t3:=okc_use hid hc hR h3
      rw [trV_exC] at t3
      have t4:=badx_use hid hc hR h4
      unfold wT zK at hrcu hrc2 t2 ⊢
      simp only [rcs_mk,trVs_nil,SU,hou,Bool.and_self,Bool.and_true] at hrcu hrc2
      simp only [rcs_mk,trVs_nil] at t2 ⊢
      simp only [exC_mk] at t3
      rw [hL]
      unfold PSR
      obtain ⟨dr,ev,eo,so,co,⟨hev,hco,heo,hdr⟩,R⟩:=RULESB CC
      rw [<- hev]
      rw [<- hco] at t1 t2 q0 t3 t4
      simp only [opsOf,fpart,part',Try.f26,Option.getD] at ⊢
      simp only [S9,R,seval,PY,PZ,pbp,dynR,g1,g2,g3,hd,hJ,hrcu,pbp3,t1,t2,q0,t3,t4,hou,trVs_under,trVs_nil,SX,hid]
      exact ⟨_,_,rfl⟩
     | ok u4 i4=>
      rw [r4] at h4
      dsimp only [bind_okk]
      have hi5:=(mustP_lt hT hi4 (by decide) r4).2
      have key:=tl_map (RLg:=(fun x:List Tg×Tr×List Sp=>lsV 37 (RS++[.agg (rcs nm pr (.sl (x.1.map tgV)) (.sl (x.2.2.map spV)) x.2.1)]))) (g:=fun dos=>(ons,a,dos)) (fun b=>rfl) (tail3 T3 hT3 (id:=id) hT RS hRS hR8 n ho nm pr ons hlt.2.1 a t0 hJ hi5)
      rw [bind_assoc_ok] at key
      revert key
      generalize ((severalP L [100,111] (stepP L n) 10 [] i4).bind fun dos i=>(mustP L 4 [125] i).bind fun _ i=>PR.ok (ons,a,dos) i)=rr
      intro key
      cases rr with
      | out=>exact tl_out
      | bad t c=>
       obtain ⟨ak,an,am,as_,av,aq,akids⟩:=a
       obtain ⟨i',o',key⟩:=key
       refine ⟨i',o',fun bx hid hc e g1 g2 g3=>?_⟩
       have key:=key bx hid hc
       have hd:∀ k,id < bx.length+k:=fun k=>by omega
       have pbp:pureL [PV.bp id 0]=false:=rfl
       have pbp3:pureL [PV.bp (bx.length+2) 0,PV.bp bx.length 0]=false:=rfl
       have t1:=okc_use hid hc hR h1
       have t2:=hsev bx hid hc
       unfold PSR at t2
       simp only [List.map_nil,lsV_nil] at t2
       have hrcu:=hu0
       have q0:=okc_use hid hc hR (okc_word_t (id:=id) (o:=o) hR hi2 hT _ f0)
       have t3:=okc_use hid hc hR h3
       rw [trV_exC] at t3
       have t4:=okc_use hid hc hR h4
       unfold wT zK at hrcu hrc2 t2 ⊢
       simp only [rcs_mk,trVs_nil,SU,hou,Bool.and_self,Bool.and_true] at hrcu hrc2
       simp only [rcs_mk,trVs_nil] at t2 ⊢
       simp only [exC_mk] at t3
       simp only [rcs_mk] at key
       rw [hL]
       unfold PSR at⊢key
       obtain ⟨dr,ev,eo,so,co,⟨hev,hco,heo,hdr⟩,R⟩:=RULESB CC
       rw [<- hev]
       rw [<- hev] at key
       rw [<- hco] at t1 t2 q0 t3 t4
       simp only [opsOf,fpart,part',Try.f26,Option.getD] at ⊢
       simp only [S9,R,seval,PY,PZ,pbp,dynR,g1,g2,g3,hd,hJ,hrcu,pbp3,t1,t2,q0,t3,t4,hou,trVs_under,trVs_nil,SX,hid]
       refine key _ ?_ ?_ ?_
       · simp only [S7,R,seval,g1]
       · simp only [S7,R,seval,g2]
       · simp only [S7,R,seval,g3]
      | ok v j=>
       obtain ⟨ak,an,am,as_,av,aq,akids⟩:=a
       refine fun bx hid hc e g1 g2 g3=>?_
       have key:=key bx hid hc
       have hd:∀ k,id < bx.length+k:=fun k=>by omega
       have pbp:pureL [PV.bp id 0]=false:=rfl
       have pbp3:pureL [PV.bp (bx.length+2) 0,PV.bp bx.length 0]=false:=rfl
       have t1:=okc_use hid hc hR h1
       have t2:=hsev bx hid hc
       unfold PSR at t2
       simp only [List.map_nil,lsV_nil] at t2
       have hrcu:=hu0
       have q0:=okc_use hid hc hR (okc_word_t (id:=id) (o:=o) hR hi2 hT _ f0)
       have t3:=okc_use hid hc hR h3
       rw [trV_exC] at t3
       have t4:=okc_use hid hc hR h4
       unfold wT zK at hrcu hrc2 t2 ⊢
       simp only [rcs_mk,trVs_nil,SU,hou,Bool.and_self,Bool.and_true] at hrcu hrc2
       simp only [rcs_mk,trVs_nil] at t2 ⊢
       simp only [exC_mk] at t3
       simp only [rcs_mk] at key
       rw [hL]
       unfold PSR at⊢key
       obtain ⟨dr,ev,eo,so,co,⟨hev,hco,heo,hdr⟩,R⟩:=RULESB CC
       rw [<- hev]
       rw [<- hev] at key
       rw [<- hco] at t1 t2 q0 t3 t4
       simp only [opsOf,fpart,part',Try.f26,Option.getD] at ⊢
       simp only [S9,R,seval,PY,PZ,pbp,dynR,g1,g2,g3,hd,hJ,hrcu,pbp3,t1,t2,q0,t3,t4,hou,trVs_under,trVs_nil,SX,hid]
       refine key _ ?_ ?_ ?_
       · simp only [S7,R,seval,g1]
       · simp only [S7,R,seval,g2]
       · simp only [S7,R,seval,g3]
end Go.HH
namespace Go.HH
open Go Go.Proofs
set_option maxRecDepth 100000
set_option maxHeartbeats 4000000
set_option linter.unusedSimpArgs false
set_option linter.unusedVariables false
def rlP (r:Rl):PV:=.agg (rcs r.nm r.pr (.sl (r.on.map tgV)) (.sl (r.dos.map spV)) r.ife)
def tail1P (L:List Tk) (n:Nat) (nm:List UInt8) (i:Nat):PR Rl:=(if isT L 1 [112,114,105,111,114,105,116,121] i then numP L 0 100 (i+1) else .ok 0 i).bind fun pr i=>(tail2P L n i).bind fun x i=>.ok ⟨nm,(pr:Nat),x.1,x.2.1,x.2.2⟩ i
theorem tail1 (T:Code) (hL:T=fpart Try.f26 [1,1,1,1,1,1]) {id:Nat} {L:List Tk} {o:Nat} (hT:TokOK L) (RS:List PV) (hRS:pureL RS=true) (hR8:RS.length<=100) (n:Nat) (ho:o=0) (nm:List UInt8) (t0:Tk) {J:List PBox} (hJ:∀ n,(J.all fun x=>x.under n)=true) {i:Nat} (hi:i < L.length) :
 TLr T id L (lsV 37 RS) o t0 J i (.cells 37 (rcs nm 0 (.nils) (.nils) wT)) (fun r:Rl=>lsV 37 (RS++[rlP r])) (tail1P L n nm i):=by
 have hR:=lsV_pure 37 RS hRS
 obtain ⟨T2,hT2⟩:∃ T2,T2=fpart Try.f26 [1,1,1,1,1,1,1]:=⟨_,rfl⟩
 have hpre:fpart Try.f26 [1,1,1,1,1,1]=.seq (fpart Try.f26 [1,1,1,1,1,1,0]) T2:=by rw [hT2];rfl
 rw [hpre] at hL
 have hu0:∀ n,underL n (rcs nm 0 .nils .nils wT)=true:=fun n=>rcs_under n nm 0 _ _ wT (by simp only [SU]) (by simp only [SU])
 unfold tail1P
 cases f0:isT L 1 [112,114,105,111,114,105,116,121] i with
 | false=>
  simp only [Bool.false_eq_true,if_false]
  dsimp only [bind_okk]
  have key:=tl_map (RLg:=(fun r:Rl=>lsV 37 (RS++[rlP r]))) (g:=fun x:List Tg×Tr×List Sp=>(⟨nm,(0:Nat),x.1,x.2.1,x.2.2⟩:Rl)) (fun b=>rfl) (tail2 T2 hT2 (id:=id) hT RS hRS hR8 n ho nm ((0:Nat):Int) t0 hJ hi)
  revert key
  generalize ((tail2P L n i).bind fun x i=>PR.ok (⟨nm,(0:Nat),x.1,x.2.1,x.2.2⟩:Rl) i)=rr
  intro key
  cases rr with
  | out=>exact tl_out
  | bad t c=>
   obtain ⟨i',o',key⟩:=key
   refine ⟨i',o',fun bx hid hc e g1 g2 g3=>?_⟩
   have key:=key bx hid hc
   have hd:∀ k,id < bx.length+k:=fun k=>by omega
   have pbp:pureL [PV.bp id 0]=false:=rfl
   have pbp3:pureL [PV.bp (bx.length+2) 0,PV.bp bx.length 0]=false:=rfl
   have hrcu:=hu0
   have q0:=okc_use hid hc hR (okc_word_f (id:=id) (o:=o) hR hi hT _ f0)
   rw [show ((0:Nat):Int)=0 from rfl] at key
   rw [hL]
   unfold PSR at⊢key
   obtain ⟨dr,ev,eo,so,co,⟨hev,hco,heo,hdr⟩,R⟩:=RULESB CC
   rw [<- hev]
   rw [<- hev] at key
   rw [<- hco] at q0
   simp only [opsOf,fpart,part',Try.f26,Option.getD] at ⊢
   simp only [S9,R,seval,PY,PZ,pbp,dynR,g1,g2,g3,hd,hJ,hrcu,pbp3,q0,SX,hid]
   refine key _ ?_ ?_ ?_
   · simp only [S7,R,seval,g1]
   · simp only [S7,R,seval,g2]
   · simp only [S7,R,seval,g3]
  | ok v j=>
   refine fun bx hid hc e g1 g2 g3=>?_
   have key:=key bx hid hc
   have hd:∀ k,id < bx.length+k:=fun k=>by omega
   have pbp:pureL [PV.bp id 0]=false:=rfl
   have pbp3:pureL [PV.bp (bx.length+2) 0,PV.bp bx.length 0]=false:=rfl
   have hrcu:=hu0
   have q0:=okc_use hid hc hR (okc_word_f (id:=id) (o:=o) hR hi hT _ f0)
   rw [show ((0:Nat):Int)=0 from rfl] at key
   rw [hL]
   unfold PSR at⊢key
   obtain ⟨dr,ev,eo,so,co,⟨hev,hco,heo,hdr⟩,R⟩:=RULESB CC
   rw [<- hev]
   rw [<- hev] at key
   rw [<- hco] at q0
   simp only [opsOf,fpart,part',Try.f26,Option.getD] at ⊢
   simp only [S9,R,seval,PY,PZ,pbp,dynR,g1,g2,g3,hd,hJ,hrcu,pbp3,q0,SX,hid]
   refine key _ ?_ ?_ ?_
   · simp only [S7,R,seval,g1]
   · simp only [S7,R,seval,g2]
   · simp only [S7,R,seval,g3]
 | true=>
  simp only [if_true]
  have hi1:=isT_lt hT hi f0 (by decide)
  have h1:=ans_number (id:=id) (o:=o) (i:=i+1) hR hi1 hT 0 100 0 100 rfl rfl
  cases r1:numP L 0 100 (i+1) with
  | out=>exact tl_out
  | bad t c=>
   rw [r1] at h1
   obtain ⟨i',o',h1⟩:=h1
   refine ⟨i',o',fun bx hid hc e g1 g2 g3=>?_⟩
   have hd:∀ k,id < bx.length+k:=fun k=>by omega
   have pbp:pureL [PV.bp id 0]=false:=rfl
   have pbp3:pureL [PV.bp (bx.length+2) 0,PV.bp bx.length 0]=false:=rfl
   have hrcu:=hu0
   have q0:=okc_use hid hc hR (okc_word_t (id:=id) (o:=o) hR hi hT _ f0)
   have t1:=badx_use hid hc hR h1
   rw [hL]
   unfold PSR
   obtain ⟨dr,ev,eo,so,co,⟨hev,hco,heo,hdr⟩,R⟩:=RULESB CC
   rw [<- hev]
   rw [<- hco] at q0 t1
   simp only [opsOf,fpart,part',Try.f26,Option.getD] at ⊢
   simp only [S9,R,seval,PY,PZ,pbp,dynR,g1,g2,g3,hd,hJ,hrcu,pbp3,q0,t1,SX,hid]
   exact ⟨_,_,rfl⟩
  | ok a i1=>
   rw [r1] at h1
   dsimp only [bind_okk]
   have hi2:=(numP_lt hT hi1 r1).2.1
   have key:=tl_map (RLg:=(fun r:Rl=>lsV 37 (RS++[rlP r]))) (g:=fun x:List Tg×Tr×List Sp=>(⟨nm,(a:Nat),x.1,x.2.1,x.2.2⟩:Rl)) (fun b=>rfl) (tail2 T2 hT2 (id:=id) hT RS hRS hR8 n ho nm ((a:Nat):Int) t0 hJ hi2)
   revert key
   generalize ((tail2P L n i1).bind fun x i=>PR.ok (⟨nm,(a:Nat),x.1,x.2.1,x.2.2⟩:Rl) i)=rr
   intro key
   cases rr with
   | out=>exact tl_out
   | bad t c=>
    obtain ⟨i',o',key⟩:=key
    refine ⟨i',o',fun bx hid hc e g1 g2 g3=>?_⟩
    have key:=key bx hid hc
    have hd:∀ k,id < bx.length+k:=fun k=>by omega
    have pbp:pureL [PV.bp id 0]=false:=rfl
    have pbp3:pureL [PV.bp (bx.length+2) 0,PV.bp bx.length 0]=false:=rfl
    have hrcu:=hu0
    have q0:=okc_use hid hc hR (okc_word_t (id:=id) (o:=o) hR hi hT _ f0)
    have t1:=okc_use hid hc hR h1
    unfold wT zK at hrcu ⊢
    simp only [rcs_mk,trVs_nil,SU,Bool.and_self,Bool.and_true] at hrcu
    simp only [rcs_mk,trVs_nil]
    unfold wT zK at key
    simp only [rcs_mk,trVs_nil] at key
    rw [hL]
    unfold PSR at⊢key
    obtain ⟨dr,ev,eo,so,co,⟨hev,hco,heo,hdr⟩,R⟩:=RULESB CC
    rw [<- hev]
    rw [<- hev] at key
    rw [<- hco] at q0 t1
    simp only [opsOf,fpart,part',Try.f26,Option.getD] at ⊢
    simp only [S9,R,seval,PY,PZ,pbp,dynR,g1,g2,g3,hd,hJ,hrcu,pbp3,q0,t1,trVs_under,SX,hid]
    refine key _ ?_ ?_ ?_
    · simp only [S7,R,seval,g1]
    · simp only [S7,R,seval,g2]
    · simp only [S7,R,seval,g3]
   | ok v j=>
    refine fun bx hid hc e g1 g2 g3=>?_
    have key:=key bx hid hc
    have hd:∀ k,id < bx.length+k:=fun k=>by omega
    have pbp:pureL [PV.bp id 0]=false:=rfl
    have pbp3:pureL [PV.bp (bx.length+2) 0,PV.bp bx.length 0]=false:=rfl
    have hrcu:=hu0
    have q0:=okc_use hid hc hR (okc_word_t (id:=id) (o:=o) hR hi hT _ f0)
    have t1:=okc_use hid hc hR h1
    unfold wT zK at hrcu ⊢
    simp only [rcs_mk,trVs_nil,SU,Bool.and_self,Bool.and_true] at hrcu
    simp only [rcs_mk,trVs_nil]
    unfold wT zK at key
    simp only [rcs_mk,trVs_nil] at key
    rw [hL]
    unfold PSR at⊢key
    obtain ⟨dr,ev,eo,so,co,⟨hev,hco,heo,hdr⟩,R⟩:=RULESB CC
    rw [<- hev]
    rw [<- hev] at key
    rw [<- hco] at q0 t1
    simp only [opsOf,fpart,part',Try.f26,Option.getD] at ⊢
    simp only [S9,R,seval,PY,PZ,pbp,dynR,g1,g2,g3,hd,hJ,hrcu,pbp3,q0,t1,trVs_under,SX,hid]
    refine key _ ?_ ?_ ?_
    · simp only [S7,R,seval,g1]
    · simp only [S7,R,seval,g2]
    · simp only [S7,R,seval,g3]
end Go.HH
namespace Go.HH
open Go Go.Proofs
set_option maxRecDepth 100000
set_option maxHeartbeats 4000000
set_option linter.unusedSimpArgs false
set_option linter.unusedVariables false
def rlB (r:Rl):PBox:=.cells 37 (rcs r.nm r.pr (.sl (r.on.map tgV)) (.sl (r.dos.map spV)) r.ife)
theorem set_app_len {α:Type} (J:List α) (x y:α):(J++[x]).set J.length y=J++[y]:=by rw [List.set_append_right _ _ (Nat.le_refl _),Nat.sub_self];rfl
theorem rlB_under (n:Nat) (r:Rl):(rlB r).under n=true:=by
 show underL n (rcs r.nm r.pr (.sl (r.on.map tgV)) (.sl (r.dos.map spV)) r.ife)=true
 exact rcs_under n _ _ _ _ _ (by simp only [PV.under];exact map_under tgV tgV_under n _) (by simp only [PV.under];exact map_under spV spV_under n _)
theorem all_app_under {J K:List PBox} (hJ:∀ n,(J.all fun x=>x.under n)=true) (hK:∀ n,(K.all fun x=>x.under n)=true):∀ n,((J++K).all fun x=>x.under n)=true:=fun n=>by rw [List.all_append,hJ,hK];rfl
theorem rlBs_under (rs:List Rl):∀ n,((rs.map rlB).all fun x=>x.under n)=true:=fun n=>by
 rw [List.all_eq_true]
 intro x hx
 obtain ⟨r,_,rfl⟩:=List.mem_map.1 hx
 exact rlB_under n r
def NMl (Lc:Code) (id:Nat) (L:List Tk) (RL:PV) (i o:Nat) (t0:Tk) (nm:List UInt8) (rs:List Rl) (k:Nat) (b:Bool):Prop:=∀ (bx:List PBox) (hid:id < bx.length) (hc:clB bx) (J:List PBox) (hJ:∀ n,(J.all fun x=>x.under n)=true) (e:List PV),getT e 1=.bp bx.length 0->getT e 2=.bp (bx.length+1) 0->getT e 3=.bp (bx.length+2) 0->(rs=[]∨getT e 31=.sl (rs.map rlP))->getT e 32=.int .i64 (rs.length:Int)->getT e 33=.int .i64 (k:Int) ->
 if b=true then ∃ e' ys',evB CC Lc ⟨e,(BX bx id (PSR L i o RL) (.cells 63 [.bp id 0] :: .cells 66 [.int .i64 (t0.1:Int),.str t0.2.1,.int .i64 (t0.2.2:Int)] :: .cells 37 (rcs nm 0 (.nils) (.nils) wT) :: J))⟩=some (.pan (fltV t0.2.2 9),⟨e',BX bx id (PSR L i o RL) ys'⟩)
 else ∃ e',evB CC Lc ⟨e,(BX bx id (PSR L i o RL) (.cells 63 [.bp id 0] :: .cells 66 [.int .i64 (t0.1:Int),.str t0.2.1,.int .i64 (t0.2.2:Int)] :: .cells 37 (rcs nm 0 (.nils) (.nils) wT) :: J))⟩=some (.exit 0,⟨e',(BX bx id (PSR L i o RL) (.cells 63 [.bp id 0] :: .cells 66 [.int .i64 (t0.1:Int),.str t0.2.1,.int .i64 (t0.2.2:Int)] :: .cells 37 (rcs nm 0 (.nils) (.nils) wT) :: (J++(rs.drop k).map rlB)))⟩)∧getT e' 1=.bp bx.length 0∧getT e' 2=.bp (bx.length+1) 0∧getT e' 3=.bp (bx.length+2) 0
theorem loop_names (Lc:Code) (hL:Lc=fpart Try.f26 [1,1,1,1,1,0,1,0]) {id:Nat} {L:List Tk} {RL:PV} {i o:Nat} (hR:RL.pure=true) (t0:Tk) (nm:List UInt8) (rs:List Rl) (hr8:rs.length<=100):∀ (m k:Nat),k+m=rs.length->NMl Lc id L RL i o t0 nm rs k ((rs.drop k).any fun r=>r.nm == nm):=by
 have hu0:∀ n,underL n (rcs nm 0 .nils .nils wT)=true:=fun n=>rcs_under n nm 0 _ _ wT (by simp only [SU]) (by simp only [SU])
 intro m
 induction m with
 | zero=>
  intro k hk bx hid hc J hJ e g1 g2 g3 g31 g32 g33
  have hdr:rs.drop k=[]:=List.drop_of_length_le (by omega)
  have hlt:¬ ((k:Int) < (rs.length:Int)):=by omega
  rw [hdr]
  simp only [List.any_nil,Bool.false_eq_true,if_false,List.map_nil,List.append_nil]
  generalize rs.map rlP=xs at *
  generalize rs.length=xl at *
  have hrcu:=hu0
  have hd:∀ k,id < bx.length+k:=fun k=>by omega
  have pbp:pureL [PV.bp id 0]=false:=rfl
  have pbp3:pureL [PV.bp (bx.length+2) 0,PV.bp bx.length 0]=false:=rfl
  rw [evB_at (fpart Try.f26 [1,1,1,1,1,0,1,0,0]) hL]
  unfold PSR
  obtain ⟨dr,ev,eo,so,co,⟨hev,hco,heo,hdr⟩,R⟩:=RULESB CC
  rw [<- hev]
  simp only [opsOf,fpart,part',Try.f26,Option.getD] at ⊢
  simp only [S9,R,seval,PY,PZ,pbp,dynR,g1,g2,g3,hd,hJ,hrcu,pbp3,g32,g33,hlt,SX,hid]
  exact ⟨_,rfl,by simp only [S7,R,seval,g1],by simp only [S7,R,seval,g2],by simp only [S7,R,seval,g3]⟩
 | succ m ih=>
  intro k hk bx hid hc J hJ e g1 g2 g3 g31 g32 g33
  have g31:getT e 31=.sl (rs.map rlP):=g31.resolve_left (fun h=>by rw [h] at hk;simp at hk)
  have hlt:((k:Int) < (rs.length:Int)):=by omega
  have hk0:¬ ((k:Int) < 0):=by omega
  have hdr:rs.drop k=(rs[k]'(by omega)) :: rs.drop (k+1):=List.drop_eq_getElem_cons (by omega)
  have hx:(rs.map rlP)[k]?=some (rlP (rs[k]'(by omega))):=by rw [List.getElem?_map,List.getElem?_eq_getElem (by omega)];rfl
  have hlen:(rs.map rlP).length=rs.length:=List.length_map _
  have hw:IntKind.wrap .i64 ((k:Int)+1)=((k+1:Nat):Int):=by rw [wrap_i64 ⟨by omega,by omega⟩];omega
  have hJ2:=all_app_under hJ (K:=[rlB (rs[k]'(by omega))]) (fun n=>by simp only [List.all_cons,List.all_nil,rlB_under,Bool.and_self])
  have key:=fun e=>ih (k+1) (by omega) bx hid hc (J++[rlB (rs[k]'(by omega))]) hJ2 e
  rw [List.append_assoc,List.singleton_append,<- List.map_cons,<- hdr] at key
  have hsl:=set_app_len J
  have hgl:=fun x:PBox=>List.getElem?_concat_length (l:=J) (a:=x)
  have ht:=badx_use hid hc hR (badx_fail (id:=id) (i:=i) (o:=o) (L:=L) (RL:=RL) hR t0.1 t0.2.1 t0.2.2 9)
  have hany:((rs.drop k).any fun r=>r.nm == nm)=((rs[k]'(by omega)).nm == nm || (rs.drop (k+1)).any fun r=>r.nm == nm):=by rw [hdr,List.any_cons]
  rw [hany]
  generalize ((rs.drop (k+1)).any fun r=>r.nm == nm)=b at *
  generalize rs[k]'(by omega)=x at *
  generalize (rs.drop k).map rlB=Kx at *
  generalize rs.map rlP=xs at *
  generalize rs.length=xl at *
  obtain ⟨xn,xp,xon,⟨xk,xkn,xm,xs_,xv,xq,xkids⟩,xdo⟩:=x
  unfold rlB rlP at *
  unfold wT zK at *
  simp only [rcs_mk,trVs_nil] at *
  have hs:strP BinOp.eql xn nm=some (.bool (xn == nm)):=rfl
  cases hn:xn == nm with
  | true=>
   simp only [Bool.true_or,if_true]
   have hrcu:=hu0
   have tgu:=fun n=>map_under tgV tgV_under n xon
   have spu:=fun n=>map_under spV spV_under n xdo
   have hd:∀ k,id < bx.length+k:=fun k=>by omega
   have pbp:pureL [PV.bp id 0]=false:=rfl
   have pbp3:pureL [PV.bp (bx.length+2) 0,PV.bp bx.length 0]=false:=rfl
   rw [evB_at (fpart Try.f26 [1,1,1,1,1,0,1,0,0]) hL]
   unfold PSR
   obtain ⟨dr,ev,eo,so,co,⟨hev,hco,heo,hdr⟩,R⟩:=RULESB CC
   rw [<- hev]
   rw [<- hco] at ht
   simp only [opsOf,fpart,part',Try.f26,Option.getD] at ⊢
   simp only [S9,R,seval,PY,PZ,pbp,dynR,g1,g2,g3,hd,hJ,hrcu,pbp3,g31,g32,g33,hlt,hk0,hx,hlen,hw,hsl,hgl,hs,hn,trVs_under,ht,tgu,spu,List.all_append,SX,hid]
   exact ⟨_,_,rfl⟩
  | false=>
   simp only [Bool.false_or]
   have hrcu:=hu0
   have hd:∀ k,id < bx.length+k:=fun k=>by omega
   have pbp:pureL [PV.bp id 0]=false:=rfl
   have pbp3:pureL [PV.bp (bx.length+2) 0,PV.bp bx.length 0]=false:=rfl
   rw [evB_at (fpart Try.f26 [1,1,1,1,1,0,1,0,0]) hL]
   unfold PSR at⊢key
   obtain ⟨dr,ev,eo,so,co,⟨hev,hco,heo,hdr⟩,R⟩:=RULESB CC
   rw [<- hev]
   rw [<- hev] at key
   simp only [opsOf,fpart,part',Try.f26,Option.getD] at ⊢
   simp only [S9,R,seval,PY,PZ,pbp,dynR,g1,g2,g3,hd,hJ,hrcu,pbp3,g31,g32,g33,hlt,hk0,hx,hlen,hw,hsl,hgl,hs,hn,trVs_under,SX,hid]
   refine key _ ?_ ?_ ?_ ?_ ?_ ?_
   · simp only [S7,R,seval,g1]
   · simp only [S7,R,seval,g2]
   · simp only [S7,R,seval,g3]
   · exact Or.inr (by simp only [S7,R,seval,g31])
   · simp only [S7,R,seval,g32]
   · simp only [S7,R,seval]
end Go.HH
namespace Go.HH
open Go Go.Proofs
set_option maxRecDepth 100000
set_option maxHeartbeats 4000000
set_option linter.unusedSimpArgs false
set_option linter.unusedVariables false
def TLh {β:Type} (T:Code) (id:Nat) (L:List Tk) (RL:PV) (o:Nat) (i:Nat) (RLn:β->PV) (r:PR β):Prop:=match r with
 | .ok b j=>∀ (bx:List PBox) (hid:id < bx.length) (hc:clB bx) (e:List PV),getT e 1=.bp bx.length 0->∃ e' ys',evB CC T ⟨e,BX bx id (PSR L i o RL) [.cells 63 [.bp id 0]]⟩=some (.normal,⟨e',BX bx id (PSR L j o (RLn b)) ys'⟩)
 | .bad t c=>∃ i' o',∀ (bx:List PBox) (hid:id < bx.length) (hc:clB bx) (e:List PV),getT e 1=.bp bx.length 0->∃ e' ys',evB CC T ⟨e,BX bx id (PSR L i o RL) [.cells 63 [.bp id 0]]⟩=some (.pan (fltV t c),⟨e',BX bx id (PSR L i' o' RL) ys'⟩)
 | .out=>True
theorem th_out {β:Type} {T:Code} {id:Nat} {L:List Tk} {RL:PV} {o:Nat} {i:Nat} {RLn:β->PV}:TLh T id L RL o i RLn .out:=trivial
theorem bRl (nm:List UInt8) (k n m v1 v2 q1:Int) (s v3 q2 q3:List UInt8) (ks:List PV):buildP CC 37 [(0,.str nm),(3,.agg [.int .i64 k,.int .i64 n,.int .i64 m,.str s,.int .i64 v1,.int .i64 v2,.str v3,.int .i64 q1,.str q2,.str q3,.sl ks])]=some (.agg [.str nm,.int .i64 0,.nils,.int .i64 k,.int .i64 n,.int .i64 m,.str s,.int .i64 v1,.int .i64 v2,.str v3,.int .i64 q1,.str q2,.str q3,.sl ks,.nils]):=by kernel_rfl
theorem rlP_pure (r:Rl):(rlP r).pure=true:=by
 obtain ⟨nm,pr,on,⟨k,n,m,s,v,q,kids⟩,dos⟩:=r
 have h1:=trVs_pure kids
 have h2:=map_pure tgV tgV_pure on
 have h3:=map_pure spV spV_pure dos
 unfold rlP
 rw [rcs_mk]
 simp only [PV.pure,pureL,h1,h2,h3,Bool.and_self]
def headP (L:List Tk) (n:Nat) (rs:List Rl) (i:Nat):PR Rl:=(mustP L 1 [114,117,108,101] i).bind fun _ i0=>(nameP L i0).bind fun nm i=>if (rs.any fun r=>r.nm == nm)=true then .bad (atT L i0) 9 else tail1P L n nm i
theorem head2 (T:Code) (hL:T=fpart Try.f26 [1,1]) {id:Nat} {L:List Tk} {o:Nat} (hT:TokOK L) (rs:List Rl) (hr8:rs.length<=100) (n:Nat) (ho:o=0) {i:Nat} (hi:i < L.length) :
 TLh T id L (lsV 37 (rs.map rlP)) o i (fun r=>lsV 37 ((rs++[r]).map rlP)) (headP L n rs i):=by
 have hRS:=map_pure rlP rlP_pure rs
 have hR:=lsV_pure 37 _ hRS
 obtain ⟨T1,hT1⟩:∃ T1,T1=fpart Try.f26 [1,1,1,1,1,1]:=⟨_,rfl⟩
 have hpre:fpart Try.f26 [1,1]=.seq (fpart Try.f26 [1,1,0]) (.seq (fpart Try.f26 [1,1,1,0]) (.seq (fpart Try.f26 [1,1,1,1,0]) (.seq (fpart Try.f26 [1,1,1,1,1,0]) T1))):=by rw [hT1];rfl
 rw [hpre] at hL
 have hJ:∀ n,(([]:List PBox).all fun x=>x.under n)=true:=fun _=>rfl
 have hrcu:∀ k:Nat,k<=k:=fun k=>Nat.le_refl _
 unfold headP
 have h1:=ans_must (id:=id) (o:=o) (i:=i) hR hi hT 1 1 rfl [114,117,108,101]
 cases r1:mustP L 1 [114,117,108,101] i with
 | out=>exact th_out
 | bad t c=>
  rw [r1] at h1
  obtain ⟨i',o',h1⟩:=h1
  refine ⟨i',o',fun bx hid hc e g1=>?_⟩
  have t1:=badx_use hid hc hR h1
  have g2:=g1
  have g3:=g1
  have hd:∀ k,id < bx.length+k:=fun k=>by omega
  have pbp:pureL [PV.bp id 0]=false:=rfl
  have pbp3:pureL [PV.bp (bx.length+2) 0,PV.bp bx.length 0]=false:=rfl
  rw [hL]
  unfold PSR
  obtain ⟨dr,ev,eo,so,co,⟨hev,hco,heo,hdr⟩,R⟩:=RULESB CC
  rw [<- hev]
  rw [<- hco] at t1
  simp only [opsOf,fpart,part',Try.f26,Option.getD] at ⊢
  simp only [S9,R,seval,PY,PZ,pbp,dynR,g1,g2,g3,hd,hJ,hrcu,pbp3,t1,SX,hid]
  exact ⟨_,_,rfl⟩
 | ok u i0=>
  rw [r1] at h1
  dsimp only [bind_okk]
  have hi0:=(mustP_lt hT hi (by decide) r1).2
  have h2:=ans_name (id:=id) (o:=o) (i:=i0) hR hi0 hT
  have hl:=litE 1 1
  rw [show litT 1 1=.mk 1 0 0 [] (1,1,[]) (0,[],[]) [] from rfl] at hl
  simp only [exC_mk,trVs_nil] at hl
  cases r2:nameP L i0 with
  | out=>exact th_out
  | bad t c=>
   rw [r2] at h2
   obtain ⟨i',o',h2⟩:=h2
   refine ⟨i',o',fun bx hid hc e g1=>?_⟩
   have t1:=okc_use hid hc hR h1
   have t0:=okc_use hid hc hR (okc_token (id:=id) (o:=o) hR hi0)
   have t2:=badx_use hid hc hR h2
   have g2:=g1
   have g3:=g1
   have hd:∀ k,id < bx.length+k:=fun k=>by omega
   have pbp:pureL [PV.bp id 0]=false:=rfl
   have pbp3:pureL [PV.bp (bx.length+2) 0,PV.bp bx.length 0]=false:=rfl
   rw [hL]
   unfold PSR
   obtain ⟨dr,ev,eo,so,co,⟨hev,hco,heo,hdr⟩,R⟩:=RULESB CC
   rw [<- hev]
   rw [<- hco] at t1 t0 t2
   simp only [opsOf,fpart,part',Try.f26,Option.getD] at ⊢
   simp only [S9,R,seval,PY,PZ,pbp,dynR,g1,g2,g3,hd,hJ,hrcu,pbp3,t1,t0,t2,SX,hid]
   exact ⟨_,_,rfl⟩
  | ok nm i1=>
   rw [r2] at h2
   dsimp only [bind_okk]
   have hi1:=(nameP_lt hT hi0 r2).2
   have hloop:=loop_names _ rfl (id:=id) (L:=L) (RL:=lsV 37 (rs.map rlP)) (i:=i1) (o:=o) hR (tokAt L i0) nm rs hr8 rs.length 0 (by omega)
   rw [List.drop_zero] at hloop
   have hb0:=bRl nm
   cases hb:(rs.any fun r=>r.nm == nm) with
   | true=>
    rw [hb] at hloop
    simp only [if_true]
    unfold NMl at hloop
    simp only [if_true] at hloop
    refine ⟨i1,o,fun bx hid hc e g1=>?_⟩
    cases rs with
    | nil=>cases hb
    | cons x rs=>
     have hd:∀ k,id < bx.length+k:=fun k=>by omega
     have pbp:pureL [PV.bp id 0]=false:=rfl
     have pbp3:pureL [PV.bp (bx.length+2) 0,PV.bp bx.length 0]=false:=rfl
     have t1:=okc_use hid hc hR h1
     have t0:=okc_use hid hc hR (okc_token (id:=id) (o:=o) hR hi0)
     have t2:=okc_use hid hc hR h2
     have g2:=g1
     have g3:=g1
     have hc2:=hc
     have hloop:=hloop bx hid hc [] hJ
     rw [hL]
     simp only [fpart,part',Try.f26,Option.getD] at hloop ⊢
     unfold PSR at hloop ⊢
     unfold wT zK at hloop
     simp only [rcs_mk,trVs_nil] at hloop
     simp only [List.map_nil,List.map_cons,lsV_nil,lsV_cons,List.length_nil,List.length_cons] at hloop t1 t0 t2 ⊢
     obtain ⟨dr,ev,eo,so,co,⟨hev,hco,heo,hdr⟩,R⟩:=RULESB CC
     rw [<- hev]
     rw [<- hev] at hloop
     rw [<- hco] at t1 t0 t2 hl
     simp only [S9,R,seval,PY,PZ,pbp,dynR,g1,hd,hJ,pbp3,t1,t0,t2,hl,hb0,trVs_under,SX,hid]
     generalize hE:ev _ _=z
     have hP:∃ e' ys',z=some (.pan (fltV (tokAt L i0).2.2 9),⟨e',BX bx id (PSR L i1 o (lsV 37 (rlP x :: rs.map rlP))) ys'⟩):=by
      rw [<- hE]
      refine hloop _ ?_ ?_ ?_ ?_ ?_ ?_
      · simp only [S7,R,seval,g1]
      · simp only [S7,R,seval,g1]
      · simp only [S7,R,seval,g1]
      · exact Or.inr (by simp only [S7,R,seval])
      · simp only [S7,R,seval,List.length_map];try rfl
      · simp only [S7,R,seval];try rfl
     obtain ⟨e',ys',he⟩:=hP
     subst he
     clear hE hloop
     unfold PSR atT
     simp only [S9,R,seval,PY,PZ,pbp,dynR,SX,hid]
     exact ⟨_,_,rfl⟩
   | false=>
    rw [hb] at hloop
    simp only [Bool.false_eq_true,if_false]
    unfold NMl at hloop
    simp only [Bool.false_eq_true,if_false,List.drop_zero] at hloop
    have key:TLr T1 id L (lsV 37 (rs.map rlP)) o (tokAt L i0) (rs.map rlB) i1 (.cells 37 (rcs nm 0 (.nils) (.nils) wT)) (fun r=>lsV 37 ((rs++[r]).map rlP)) (tail1P L n nm i1):=by
     simp only [List.map_append,List.map_cons,List.map_nil]
     exact tail1 T1 hT1 hT _ hRS (by rw [List.length_map];exact hr8) n ho nm (tokAt L i0) (rlBs_under rs) hi1
    revert key
    generalize tail1P L n nm i1=rr
    intro key
    generalize rs.map rlB=KB at key hloop
    unfold wT zK at key
    simp only [rcs_mk,trVs_nil] at key
    cases rr with
    | out=>exact th_out
    | bad t c=>
     obtain ⟨i',o',key⟩:=key
     refine ⟨i',o',fun bx hid hc e g1=>?_⟩
     have key:=key bx hid hc
     cases rs with
     | nil=>
      simp only [List.map_nil,List.map_cons,lsV_nil,lsV_cons] at key
      have hd:∀ k,id < bx.length+k:=fun k=>by omega
      have pbp:pureL [PV.bp id 0]=false:=rfl
      have pbp3:pureL [PV.bp (bx.length+2) 0,PV.bp bx.length 0]=false:=rfl
      have t1:=okc_use hid hc hR h1
      have t0:=okc_use hid hc hR (okc_token (id:=id) (o:=o) hR hi0)
      have t2:=okc_use hid hc hR h2
      have g2:=g1
      have g3:=g1
      have hc2:=hc
      have hloop:=hloop bx hid hc [] hJ
      rw [hL]
      simp only [fpart,part',Try.f26,Option.getD] at hloop ⊢
      unfold PSR at hloop ⊢
      unfold wT zK at hloop
      simp only [rcs_mk,trVs_nil] at hloop
      simp only [List.map_nil,List.map_cons,lsV_nil,lsV_cons,List.length_nil,List.length_cons] at hloop t1 t0 t2 ⊢
      obtain ⟨dr,ev,eo,so,co,⟨hev,hco,heo,hdr⟩,R⟩:=RULESB CC
      rw [<- hev]
      rw [<- hev] at hloop
      rw [<- hco] at t1 t0 t2 hl
      simp only [S9,R,seval,PY,PZ,pbp,dynR,g1,hd,hJ,pbp3,t1,t0,t2,hl,hb0,trVs_under,SX,hid]
      generalize hE:ev _ _=z
      have hP:∃ e',z=some (.exit 0,⟨e',BX bx id (PSR L i1 o (lsV 37 [])) (.cells 63 [.bp id 0] :: .cells 66 [.int .i64 ((tokAt L i0).1:Int),.str (tokAt L i0).2.1,.int .i64 ((tokAt L i0).2.2:Int)] :: .cells 37 [.str nm,.int .i64 0,.nils,.int .i64 1,.int .i64 0,.int .i64 0,.str [],.int .i64 1,.int .i64 1,.str [],.int .i64 0,.str [],.str [],.sl [],.nils] :: ([]++KB))⟩)∧getT e' 1=.bp bx.length 0∧getT e' 2=.bp (bx.length+1) 0∧getT e' 3=.bp (bx.length+2) 0:=by
       rw [<- hE]
       refine hloop _ ?_ ?_ ?_ ?_ ?_ ?_
       · simp only [S7,R,seval,g1]
       · simp only [S7,R,seval,g1]
       · simp only [S7,R,seval,g1]
       · exact Or.inl (by trivial)
       · simp only [S7,R,seval];try rfl
       · simp only [S7,R,seval];try rfl
      obtain ⟨e',he,k1,k2,k3⟩:=hP
      subst he
      clear hE hloop
      unfold PSR at key ⊢
      rw [<- hev] at key
      simp only [S9,R,seval,PY,PZ,pbp,dynR,SX,hid]
      exact key _ k1 k2 k3
     | cons x rs=>
      simp only [List.map_nil,List.map_cons,lsV_nil,lsV_cons] at key
      have hd:∀ k,id < bx.length+k:=fun k=>by omega
      have pbp:pureL [PV.bp id 0]=false:=rfl
      have pbp3:pureL [PV.bp (bx.length+2) 0,PV.bp bx.length 0]=false:=rfl
      have t1:=okc_use hid hc hR h1
      have t0:=okc_use hid hc hR (okc_token (id:=id) (o:=o) hR hi0)
      have t2:=okc_use hid hc hR h2
      have g2:=g1
      have g3:=g1
      have hc2:=hc
      have hloop:=hloop bx hid hc [] hJ
      rw [hL]
      simp only [fpart,part',Try.f26,Option.getD] at hloop ⊢
      unfold PSR at hloop ⊢
      unfold wT zK at hloop
      simp only [rcs_mk,trVs_nil] at hloop
      simp only [List.map_nil,List.map_cons,lsV_nil,lsV_cons,List.length_nil,List.length_cons] at hloop t1 t0 t2 ⊢
      obtain ⟨dr,ev,eo,so,co,⟨hev,hco,heo,hdr⟩,R⟩:=RULESB CC
      rw [<- hev]
      rw [<- hev] at hloop
      rw [<- hco] at t1 t0 t2 hl
      simp only [S9,R,seval,PY,PZ,pbp,dynR,g1,hd,hJ,pbp3,t1,t0,t2,hl,hb0,trVs_under,SX,hid]
      generalize hE:ev _ _=z
      have hP:∃ e',z=some (.exit 0,⟨e',BX bx id (PSR L i1 o (lsV 37 (rlP x :: rs.map rlP))) (.cells 63 [.bp id 0] :: .cells 66 [.int .i64 ((tokAt L i0).1:Int),.str (tokAt L i0).2.1,.int .i64 ((tokAt L i0).2.2:Int)] :: .cells 37 [.str nm,.int .i64 0,.nils,.int .i64 1,.int .i64 0,.int .i64 0,.str [],.int .i64 1,.int .i64 1,.str [],.int .i64 0,.str [],.str [],.sl [],.nils] :: ([]++KB))⟩)∧getT e' 1=.bp bx.length 0∧getT e' 2=.bp (bx.length+1) 0∧getT e' 3=.bp (bx.length+2) 0:=by
       rw [<- hE]
       refine hloop _ ?_ ?_ ?_ ?_ ?_ ?_
       · simp only [S7,R,seval,g1]
       · simp only [S7,R,seval,g1]
       · simp only [S7,R,seval,g1]
       · exact Or.inr (by simp only [S7,R,seval])
       · simp only [S7,R,seval,List.length_map];try rfl
       · simp only [S7,R,seval];try rfl
      obtain ⟨e',he,k1,k2,k3⟩:=hP
      subst he
      clear hE hloop
      unfold PSR at key ⊢
      rw [<- hev] at key
      simp only [S9,R,seval,PY,PZ,pbp,dynR,SX,hid]
      exact key _ k1 k2 k3
    | ok v j=>
     refine fun bx hid hc e g1=>?_
     have key:=key bx hid hc
     generalize lsV 37 ((rs++[v]).map rlP)=X at key ⊢
     cases rs with
     | nil=>
      simp only [List.map_nil,List.map_cons,lsV_nil,lsV_cons] at key
      have hd:∀ k,id < bx.length+k:=fun k=>by omega
      have pbp:pureL [PV.bp id 0]=false:=rfl
      have pbp3:pureL [PV.bp (bx.length+2) 0,PV.bp bx.length 0]=false:=rfl
      have t1:=okc_use hid hc hR h1
      have t0:=okc_use hid hc hR (okc_token (id:=id) (o:=o) hR hi0)
      have t2:=okc_use hid hc hR h2
      have g2:=g1
      have g3:=g1
      have hc2:=hc
      have hloop:=hloop bx hid hc [] hJ
      rw [hL]
      simp only [fpart,part',Try.f26,Option.getD] at hloop ⊢
      unfold PSR at hloop ⊢
      unfold wT zK at hloop
      simp only [rcs_mk,trVs_nil] at hloop
      simp only [List.map_nil,List.map_cons,lsV_nil,lsV_cons,List.length_nil,List.length_cons] at hloop t1 t0 t2 ⊢
      obtain ⟨dr,ev,eo,so,co,⟨hev,hco,heo,hdr⟩,R⟩:=RULESB CC
      rw [<- hev]
      rw [<- hev] at hloop
      rw [<- hco] at t1 t0 t2 hl
      simp only [S9,R,seval,PY,PZ,pbp,dynR,g1,hd,hJ,pbp3,t1,t0,t2,hl,hb0,trVs_under,SX,hid]
      generalize hE:ev _ _=z
      have hP:∃ e',z=some (.exit 0,⟨e',BX bx id (PSR L i1 o (lsV 37 [])) (.cells 63 [.bp id 0] :: .cells 66 [.int .i64 ((tokAt L i0).1:Int),.str (tokAt L i0).2.1,.int .i64 ((tokAt L i0).2.2:Int)] :: .cells 37 [.str nm,.int .i64 0,.nils,.int .i64 1,.int .i64 0,.int .i64 0,.str [],.int .i64 1,.int .i64 1,.str [],.int .i64 0,.str [],.str [],.sl [],.nils] :: ([]++KB))⟩)∧getT e' 1=.bp bx.length 0∧getT e' 2=.bp (bx.length+1) 0∧getT e' 3=.bp (bx.length+2) 0:=by
       rw [<- hE]
       refine hloop _ ?_ ?_ ?_ ?_ ?_ ?_
       · simp only [S7,R,seval,g1]
       · simp only [S7,R,seval,g1]
       · simp only [S7,R,seval,g1]
       · exact Or.inl (by trivial)
       · simp only [S7,R,seval];try rfl
       · simp only [S7,R,seval];try rfl
      obtain ⟨e',he,k1,k2,k3⟩:=hP
      subst he
      clear hE hloop
      unfold PSR at key ⊢
      rw [<- hev] at key
      simp only [S9,R,seval,PY,PZ,pbp,dynR,SX,hid]
      exact key _ k1 k2 k3
     | cons x rs=>
      simp only [List.map_nil,List.map_cons,lsV_nil,lsV_cons] at key
      have hd:∀ k,id < bx.length+k:=fun k=>by omega
      have pbp:pureL [PV.bp id 0]=false:=rfl
      have pbp3:pureL [PV.bp (bx.length+2) 0,PV.bp bx.length 0]=false:=rfl
      have t1:=okc_use hid hc hR h1
      have t0:=okc_use hid hc hR (okc_token (id:=id) (o:=o) hR hi0)
      have t2:=okc_use hid hc hR h2
      have g2:=g1
      have g3:=g1
      have hc2:=hc
      have hloop:=hloop bx hid hc [] hJ
      rw [hL]
      simp only [fpart,part',Try.f26,Option.getD] at hloop ⊢
      unfold PSR at hloop ⊢
      unfold wT zK at hloop
      simp only [rcs_mk,trVs_nil] at hloop
      simp only [List.map_nil,List.map_cons,lsV_nil,lsV_cons,List.length_nil,List.length_cons] at hloop t1 t0 t2 ⊢
      obtain ⟨dr,ev,eo,so,co,⟨hev,hco,heo,hdr⟩,R⟩:=RULESB CC
      rw [<- hev]
      rw [<- hev] at hloop
      rw [<- hco] at t1 t0 t2 hl
      simp only [S9,R,seval,PY,PZ,pbp,dynR,g1,hd,hJ,pbp3,t1,t0,t2,hl,hb0,trVs_under,SX,hid]
      generalize hE:ev _ _=z
      have hP:∃ e',z=some (.exit 0,⟨e',BX bx id (PSR L i1 o (lsV 37 (rlP x :: rs.map rlP))) (.cells 63 [.bp id 0] :: .cells 66 [.int .i64 ((tokAt L i0).1:Int),.str (tokAt L i0).2.1,.int .i64 ((tokAt L i0).2.2:Int)] :: .cells 37 [.str nm,.int .i64 0,.nils,.int .i64 1,.int .i64 0,.int .i64 0,.str [],.int .i64 1,.int .i64 1,.str [],.int .i64 0,.str [],.str [],.sl [],.nils] :: ([]++KB))⟩)∧getT e' 1=.bp bx.length 0∧getT e' 2=.bp (bx.length+1) 0∧getT e' 3=.bp (bx.length+2) 0:=by
       rw [<- hE]
       refine hloop _ ?_ ?_ ?_ ?_ ?_ ?_
       · simp only [S7,R,seval,g1]
       · simp only [S7,R,seval,g1]
       · simp only [S7,R,seval,g1]
       · exact Or.inr (by simp only [S7,R,seval])
       · simp only [S7,R,seval,List.length_map];try rfl
       · simp only [S7,R,seval];try rfl
      obtain ⟨e',he,k1,k2,k3⟩:=hP
      subst he
      clear hE hloop
      unfold PSR at key ⊢
      rw [<- hev] at key
      simp only [S9,R,seval,PY,PZ,pbp,dynR,SX,hid]
      exact key _ k1 k2 k3
end Go.HH
namespace Go.HH
open Go Go.Proofs
set_option maxRecDepth 100000
set_option maxHeartbeats 4000000
set_option linter.unusedSimpArgs false
set_option linter.unusedVariables false
theorem bind_asc {α β γ:Type} (r:PR α) (f:α->Nat->PR β) (g:β->Nat->PR γ):(r.bind f).bind g=r.bind fun a i=>(f a i).bind g:=by cases r <;> rfl
theorem ruleP_eq (L:List Tk) (n:Nat) (rs:List Rl) (i:Nat):ruleP L n rs i=if isT L 1 [114,117,108,101] i=true∧rs.length=40 then .bad (atT L i) 3 else headP L n rs i:=by
 unfold ruleP headP tail1P tail2P
 simp only [bind_asc,bind_okk]
def RULEc (id:Nat) (L:List Tk) (rs:List Rl) (o i:Nat) (r:PR Rl):Prop:=match r with
 | .ok v j=>∀ B,hasP L i o (lsV 37 (rs.map rlP)) id B->callOp CC (callL CC) 26 [.bp id 0] B=some (.ret (.tup []),B.set id (PSR L j o (lsV 37 ((rs++[v]).map rlP))))
 | .bad t c=>∃ i' o',BADx 26 [] id L (lsV 37 (rs.map rlP)) i o t c i' o'
 | .out=>True
theorem ans_rule {id:Nat} {L:List Tk} {o:Nat} (hT:TokOK L) (rs:List Rl) (hr8:rs.length<=40) (n:Nat) (ho:o=0) {i:Nat} (hi:i < L.length):RULEc id L rs o i (ruleP L n rs i):=by
 have hRS:=map_pure rlP rlP_pure rs
 have hR:=lsV_pure 37 _ hRS
 rw [ruleP_eq]
 obtain ⟨T,hT1⟩:∃ T,T=fpart Try.f26 [1,1]:=⟨_,rfl⟩
 have hpre:Try.f26.body.getD .skip=.seq (fpart Try.f26 [0]) (.seq (fpart Try.f26 [1,0]) T):=by rw [hT1];rfl
 have key:=head2 T hT1 (id:=id) hT rs (by omega) n ho hi
 cases hk:isT L 1 [114,117,108,101] i with
 | false=>
  rw [if_neg (by simp)]
  revert key
  generalize headP L n rs i=rr
  intro key
  cases rr with
  | out=>trivial
  | bad t c=>
   obtain ⟨i',o',key⟩:=key
   refine ⟨i',o',badx_of hR fun bx hid hc=>?_⟩
   have hd:∀ k,id < bx.length+k:=fun k=>by omega
   have pbp:pureL [PV.bp id 0]=false:=rfl
   have tis:=okc_use hid hc hR (okc_is (id:=id) (o:=o) hR hi 1 1 rfl [114,117,108,101])
   rw [hk] at tis
   have key:=key bx hid hc
   rw [callL_enterB (fn:=Try.f26) (c:=Try.f26.body.getD .skip) rfl rfl fatB_parse_parser_rule rfl noB_parse_parser_rule okB_parse_parser_rule (Nat.le_of_ble_eq_true rfl)]
   rw [hpre]
   unfold PSR at⊢key
   obtain ⟨dr,ev,eo,so,co,⟨hev,hco,heo,hdr⟩,R⟩:=RULESB CC
   rw [<- hev]
   rw [<- hev] at key
   rw [<- hco] at tis
   simp only [opsOf,fpart,part',Try.f26,Option.getD] at ⊢
   simp only [S9,R,seval,PY,PZ,pbp,dynR,hd,tis,SX,hid]
   generalize hE:ev T _=z
   have hP:∃ e' ys',z=some (.pan (fltV t c),⟨e',BX bx id (PSR L i' o' (lsV 37 (rs.map rlP))) ys'⟩):=by
    rw [<- hE]
    refine key _ ?_
    first | rfl | (simp only [S7,R,seval];done) | (simp only [S7,R,seval] <;> rfl)
   obtain ⟨e',ys',he⟩:=hP
   subst he
   clear hE key
   unfold PSR
   simp only [S9,R,seval,PY,PZ,pbp,dynR,SX,hid]
   exact ⟨_,rfl⟩
  | ok v j=>
   have hX:(lsV 37 ((rs++[v]).map rlP)).pure=true:=lsV_pure _ _ (map_pure rlP rlP_pure _)
   refine fun B hB=>op_BX (P:=PSR L i o (lsV 37 (rs.map rlP))) (by simp [pureL,PV.pure]) hB.1 hB.2 (PSR_under L _ _ hX) (by simp [CR.under,PV.under,underL]) ?_
   have hid:=(List.getElem?_eq_some_iff.1 hB.2).1
   have hc:=hB.1
   clear hX
   unfold TLh at key
   dsimp only at key
   generalize lsV 37 ((rs++[v]).map rlP)=X at key ⊢
   generalize B=bx at *
   have hd:∀ k,id < bx.length+k:=fun k=>by omega
   have pbp:pureL [PV.bp id 0]=false:=rfl
   have tis:=okc_use hid hc hR (okc_is (id:=id) (o:=o) hR hi 1 1 rfl [114,117,108,101])
   rw [hk] at tis
   have key:=key bx hid hc
   rw [callL_enterB (fn:=Try.f26) (c:=Try.f26.body.getD .skip) rfl rfl fatB_parse_parser_rule rfl noB_parse_parser_rule okB_parse_parser_rule (Nat.le_of_ble_eq_true rfl)]
   rw [hpre]
   unfold PSR at⊢key
   obtain ⟨dr,ev,eo,so,co,⟨hev,hco,heo,hdr⟩,R⟩:=RULESB CC
   rw [<- hev]
   rw [<- hev] at key
   rw [<- hco] at tis
   simp only [opsOf,fpart,part',Try.f26,Option.getD] at ⊢
   simp only [S9,R,seval,PY,PZ,pbp,dynR,hd,tis,SX,hid]
   generalize hE:ev T _=z
   have hP:∃ e' ys',z=some (.normal,⟨e',BX bx id (PSR L j o X) ys'⟩):=by
    rw [<- hE]
    refine key _ ?_
    first | rfl | (simp only [S7,R,seval];done) | (simp only [S7,R,seval] <;> rfl)
   obtain ⟨e',ys',he⟩:=hP
   subst he
   clear hE key
   unfold PSR
   simp only [S9,R,seval,PY,PZ,pbp,dynR,SX,hid]
   exact ⟨_,rfl⟩
 | true=>
  cases rs with
  | nil=>
   rw [if_neg (by simp)]
   have h40:(((0:Nat):Int) == 40)=false:=rfl
   revert key
   generalize headP L n [] i=rr
   intro key
   cases rr with
   | out=>trivial
   | bad t c=>
    obtain ⟨i',o',key⟩:=key
    refine ⟨i',o',badx_of hR fun bx hid hc=>?_⟩
    have hd:∀ k,id < bx.length+k:=fun k=>by omega
    have pbp:pureL [PV.bp id 0]=false:=rfl
    have tis:=okc_use hid hc hR (okc_is (id:=id) (o:=o) hR hi 1 1 rfl [114,117,108,101])
    rw [hk] at tis
    have key:=key bx hid hc
    try simp only [List.map_nil,lsV_nil] at tis
    try simp only [List.map_nil,lsV_nil] at ⊢
    try simp only [List.map_nil,lsV_nil] at key
    rw [callL_enterB (fn:=Try.f26) (c:=Try.f26.body.getD .skip) rfl rfl fatB_parse_parser_rule rfl noB_parse_parser_rule okB_parse_parser_rule (Nat.le_of_ble_eq_true rfl)]
    rw [hpre]
    unfold PSR at⊢key
    obtain ⟨dr,ev,eo,so,co,⟨hev,hco,heo,hdr⟩,R⟩:=RULESB CC
    rw [<- hev]
    rw [<- hev] at key
    rw [<- hco] at tis
    simp only [opsOf,fpart,part',Try.f26,Option.getD] at ⊢
    simp only [S9,R,seval,PY,PZ,pbp,dynR,hd,tis,SX,h40,hid]
    generalize hE:ev T _=z
    have hP:∃ e' ys',z=some (.pan (fltV t c),⟨e',BX bx id (PSR L i' o' .nils) ys'⟩):=by
     rw [<- hE]
     refine key _ ?_
     first | rfl | (simp only [S7,R,seval];done) | (simp only [S7,R,seval] <;> rfl)
    obtain ⟨e',ys',he⟩:=hP
    subst he
    clear hE key
    unfold PSR
    simp only [S9,R,seval,PY,PZ,pbp,dynR,SX,hid]
    exact ⟨_,rfl⟩
   | ok v j=>
    have hX:(lsV 37 (([]++[v]).map rlP)).pure=true:=lsV_pure _ _ (map_pure rlP rlP_pure _)
    refine fun B hB=>op_BX (P:=PSR L i o (lsV 37 ([].map rlP))) (by simp [pureL,PV.pure]) hB.1 hB.2 (PSR_under L _ _ hX) (by simp [CR.under,PV.under,underL]) ?_
    have hid:=(List.getElem?_eq_some_iff.1 hB.2).1
    have hc:=hB.1
    clear hX
    unfold TLh at key
    dsimp only at key
    generalize lsV 37 (([]++[v]).map rlP)=X at key ⊢
    generalize B=bx at *
    have hd:∀ k,id < bx.length+k:=fun k=>by omega
    have pbp:pureL [PV.bp id 0]=false:=rfl
    have tis:=okc_use hid hc hR (okc_is (id:=id) (o:=o) hR hi 1 1 rfl [114,117,108,101])
    rw [hk] at tis
    have key:=key bx hid hc
    try simp only [List.map_nil,lsV_nil] at tis
    try simp only [List.map_nil,lsV_nil] at ⊢
    try simp only [List.map_nil,lsV_nil] at key
    rw [callL_enterB (fn:=Try.f26) (c:=Try.f26.body.getD .skip) rfl rfl fatB_parse_parser_rule rfl noB_parse_parser_rule okB_parse_parser_rule (Nat.le_of_ble_eq_true rfl)]
    rw [hpre]
    unfold PSR at⊢key
    obtain ⟨dr,ev,eo,so,co,⟨hev,hco,heo,hdr⟩,R⟩:=RULESB CC
    rw [<- hev]
    rw [<- hev] at key
    rw [<- hco] at tis
    simp only [opsOf,fpart,part',Try.f26,Option.getD] at ⊢
    simp only [S9,R,seval,PY,PZ,pbp,dynR,hd,tis,SX,h40,hid]
    generalize hE:ev T _=z
    have hP:∃ e' ys',z=some (.normal,⟨e',BX bx id (PSR L j o X) ys'⟩):=by
     rw [<- hE]
     refine key _ ?_
     first | rfl | (simp only [S7,R,seval];done) | (simp only [S7,R,seval] <;> rfl)
    obtain ⟨e',ys',he⟩:=hP
    subst he
    clear hE key
    unfold PSR
    simp only [S9,R,seval,PY,PZ,pbp,dynR,SX,hid]
    exact ⟨_,rfl⟩
  | cons x rs=>
   by_cases h40n:(x :: rs).length=40
   · rw [if_pos ⟨rfl,h40n⟩]
     have h40:((((rs.map rlP).length+1:Nat):Int) == 40)=true:=by rw [List.length_map];simp only [List.length_cons] at h40n;rw [h40n];rfl
     refine ⟨i,o,badx_of hR fun bx hid hc=>?_⟩
     have hd:∀ k,id < bx.length+k:=fun k=>by omega
     have pbp:pureL [PV.bp id 0]=false:=rfl
     have tis:=okc_use hid hc hR (okc_is (id:=id) (o:=o) hR hi 1 1 rfl [114,117,108,101])
     rw [hk] at tis
     have hdw:=fun e g1=>draw_ra (id:=id) (L:=L) (i:=i) (o:=o) hR hid hc hi e g1
     try simp only [List.map_cons,lsV_cons] at tis
     try simp only [List.map_cons,lsV_cons] at ⊢
     try simp only [List.map_cons,lsV_cons] at hdw
     rw [callL_enterB (fn:=Try.f26) (c:=Try.f26.body.getD .skip) rfl rfl fatB_parse_parser_rule rfl noB_parse_parser_rule okB_parse_parser_rule (Nat.le_of_ble_eq_true rfl)]
     rw [hpre]
     simp only [<- drawM_all no_ra] at hdw
     unfold PSR at⊢hdw
     obtain ⟨dr,ev,eo,so,co,⟨hev,hco,heo,hdr⟩,R⟩:=RULESB CC
     rw [<- hev]
     rw [<- hdr] at hdw
     rw [<- hco] at tis
     simp only [opsOf,fpart,part',Try.f26,Option.getD] at⊢hdw
     simp only [S9,R,seval,PY,PZ,pbp,dynR,hd,tis,SX,h40,hdw,hid]
     exact ⟨_,rfl⟩
   · rw [if_neg (fun h=>h40n h.2)]
     have h40:((((rs.map rlP).length+1:Nat):Int) == 40)=false:=by rw [List.length_map];simp only [List.length_cons] at h40n;exact beq_eq_false_iff_ne.2 (by omega)
     revert key
     generalize headP L n (x :: rs) i=rr
     intro key
     cases rr with
     | out=>trivial
     | bad t c=>
      obtain ⟨i',o',key⟩:=key
      refine ⟨i',o',badx_of hR fun bx hid hc=>?_⟩
      have hd:∀ k,id < bx.length+k:=fun k=>by omega
      have pbp:pureL [PV.bp id 0]=false:=rfl
      have tis:=okc_use hid hc hR (okc_is (id:=id) (o:=o) hR hi 1 1 rfl [114,117,108,101])
      rw [hk] at tis
      have key:=key bx hid hc
      try simp only [List.map_cons,lsV_cons] at tis
      try simp only [List.map_cons,lsV_cons] at ⊢
      try simp only [List.map_cons,lsV_cons] at key
      rw [callL_enterB (fn:=Try.f26) (c:=Try.f26.body.getD .skip) rfl rfl fatB_parse_parser_rule rfl noB_parse_parser_rule okB_parse_parser_rule (Nat.le_of_ble_eq_true rfl)]
      rw [hpre]
      unfold PSR at⊢key
      obtain ⟨dr,ev,eo,so,co,⟨hev,hco,heo,hdr⟩,R⟩:=RULESB CC
      rw [<- hev]
      rw [<- hev] at key
      rw [<- hco] at tis
      simp only [opsOf,fpart,part',Try.f26,Option.getD] at ⊢
      simp only [S9,R,seval,PY,PZ,pbp,dynR,hd,tis,SX,h40,hid]
      generalize hE:ev T _=z
      have hP:∃ e' ys',z=some (.pan (fltV t c),⟨e',BX bx id (PSR L i' o' (.osl 37 (rlP x :: rs.map rlP))) ys'⟩):=by
       rw [<- hE]
       refine key _ ?_
       first | rfl | (simp only [S7,R,seval];done) | (simp only [S7,R,seval] <;> rfl)
      obtain ⟨e',ys',he⟩:=hP
      subst he
      clear hE key
      unfold PSR
      simp only [S9,R,seval,PY,PZ,pbp,dynR,SX,hid]
      exact ⟨_,rfl⟩
     | ok v j=>
      have hX:(lsV 37 (((x :: rs)++[v]).map rlP)).pure=true:=lsV_pure _ _ (map_pure rlP rlP_pure _)
      refine fun B hB=>op_BX (P:=PSR L i o (lsV 37 ((x :: rs).map rlP))) (by simp [pureL,PV.pure]) hB.1 hB.2 (PSR_under L _ _ hX) (by simp [CR.under,PV.under,underL]) ?_
      have hid:=(List.getElem?_eq_some_iff.1 hB.2).1
      have hc:=hB.1
      clear hX
      unfold TLh at key
      dsimp only at key
      generalize lsV 37 (((x :: rs)++[v]).map rlP)=X at key ⊢
      generalize B=bx at *
      have hd:∀ k,id < bx.length+k:=fun k=>by omega
      have pbp:pureL [PV.bp id 0]=false:=rfl
      have tis:=okc_use hid hc hR (okc_is (id:=id) (o:=o) hR hi 1 1 rfl [114,117,108,101])
      rw [hk] at tis
      have key:=key bx hid hc
      try simp only [List.map_cons,lsV_cons] at tis
      try simp only [List.map_cons,lsV_cons] at ⊢
      try simp only [List.map_cons,lsV_cons] at key
      rw [callL_enterB (fn:=Try.f26) (c:=Try.f26.body.getD .skip) rfl rfl fatB_parse_parser_rule rfl noB_parse_parser_rule okB_parse_parser_rule (Nat.le_of_ble_eq_true rfl)]
      rw [hpre]
      unfold PSR at⊢key
      obtain ⟨dr,ev,eo,so,co,⟨hev,hco,heo,hdr⟩,R⟩:=RULESB CC
      rw [<- hev]
      rw [<- hev] at key
      rw [<- hco] at tis
      simp only [opsOf,fpart,part',Try.f26,Option.getD] at ⊢
      simp only [S9,R,seval,PY,PZ,pbp,dynR,hd,tis,SX,h40,hid]
      generalize hE:ev T _=z
      have hP:∃ e' ys',z=some (.normal,⟨e',BX bx id (PSR L j o X) ys'⟩):=by
       rw [<- hE]
       refine key _ ?_
       first | rfl | (simp only [S7,R,seval];done) | (simp only [S7,R,seval] <;> rfl)
      obtain ⟨e',ys',he⟩:=hP
      subst he
      clear hE key
      unfold PSR
      simp only [S9,R,seval,PY,PZ,pbp,dynR,SX,hid]
      exact ⟨_,rfl⟩
end Go.HH
namespace Go.HH
open Go Go.Proofs
set_option maxRecDepth 100000
set_option maxHeartbeats 4000000
set_option linter.unusedSimpArgs false
set_option linter.unusedVariables false
theorem ok_parse_start:fnOK CC Try.f24 (Try.f24.body.getD .skip)=true:=by kernel_rfl
theorem fat_parse_start:CC.P.funcs[24]?=some Try.f24:=by kernel_rfl
theorem bFlt (t e:Int):buildP CC 61 [(0,.int .i64 t),(1,.int .i64 e)]=some (.agg [.int .i64 t,.int .i64 e]):=by kernel_rfl
theorem bPsr (xs:List PV):buildP CC 70 [(0,.sl xs)]=some (.agg [.sl xs,.int .i64 0,.int .i64 0,.nils]):=by kernel_rfl
theorem call_start_ok (s:List UInt8) (hs:s.length<=40000) (h0:(toks s).2.2=0) (bx:List PBox):callL CC 24 [.str s] bx=some (.ret (.bp bx.length 0),bx++[PSR (toks s).1 0 0 .nils]):=by
 have ht:=op_lex_Tokens s (by omega) bx
 rw [h0] at ht
 rw [callL_enter (fn:=Try.f24) (c:=Try.f24.body.getD .skip) rfl rfl fat_parse_start rfl ok_parse_start (Nat.le_of_ble_eq_true rfl)]
 unfold PSR
 generalize tkVs (toks s).1=xs at *
 obtain ⟨ev,eo,so,co,⟨hev,hco⟩,R⟩:=RULES CC;rw [<- hev]
 rw [<- hco] at ht
 simp only [fpart,part',Try.f24,Option.getD]
 simp only [S9,R,seval,PPU,ht,bPsr,nchP,dynR]
 try rfl
theorem call_start_bad (s:List UInt8) (hs:s.length<=40000) (h0:(toks s).2.2≠0) (bx:List PBox):callL CC 24 [.str s] bx=some (.pan (fltV (toks s).2.1 (toks s).2.2),bx):=by
 have ht:=op_lex_Tokens s (by omega) bx
 have hz:((toks s).2.2 != 0)=true:=by simp [bne_iff_ne,h0]
 rw [callL_enter (fn:=Try.f24) (c:=Try.f24.body.getD .skip) rfl rfl fat_parse_start rfl ok_parse_start (Nat.le_of_ble_eq_true rfl)]
 unfold fltV
 generalize tkVs (toks s).1=xs at *
 generalize (toks s).2.2=er at *
 generalize (toks s).2.1=ta at *
 obtain ⟨ev,eo,so,co,⟨hev,hco⟩,R⟩:=RULES CC;rw [<- hev]
 rw [<- hco] at ht
 simp only [fpart,part',Try.f24,Option.getD]
 simp only [S9,R,seval,PPU,ht,hz,bFlt,mkIf_s,nchP,dynR]
 try rfl
end Go.HH
