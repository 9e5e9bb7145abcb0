/-
  What the law needs, packed: WE UP WF WG.
-/
import Derived.Test.YtmiilonaehgplaaM34
namespace Go.HH
open Go Go.Proofs
set_option maxRecDepth 100000
set_option maxHeartbeats 4000000
set_option linter.unusedSimpArgs false
set_option linter.unusedVariables false
def PO0 (bx:List PBox) (res:Option (Ex×St)):Prop:=∃ e',res=some (.exit 0,⟨e',bx⟩)∧getT e' 3=.sl []
theorem PO0.of {ev:Code->St->Option (Ex×St)} {L:Code} {e:List PV} {bx bx1:List PBox} {z:Option (Ex×St)} (hE:ev L ⟨e,bx1⟩=z) (h:PO0 bx (ev L ⟨e,bx1⟩)):PO0 bx z:=hE ▸ h
theorem loop_own0 (L:Code) (hL:L=fpart Try.f25 [1,1,0,1,0]) (e:List PV) (bx:List PBox) (h3:getT e 3=.sl []) (h8:getT e 8=.int .i64 0) (h9:getT e 9=.int .i64 0):PO0 bx (evL CC L ⟨e,bx⟩):=by
 rw [evL_at (fpart Try.f25 [1,1,0,1,0,0]) hL]
 have hi:¬ ((0:Int) < 0):=by decide
 obtain ⟨fa,fb,fv,hfn⟩:=FNs
 obtain ⟨ev,eo,so,co,⟨hev,hco⟩,R⟩:=RULES CC;rw [<- hev]
 simp only [fpart,part',Try.f25,Option.getD]
 simp (maxSteps:=5000000) only [SA,SB,SD,R,SF,SG,SH,seval,TG,SE,SC,UTT,ZCT,RV,dynR,hfn,List.getElem?_concat_length,ss1,List.set_cons_zero,List.set_cons_succ,Bool.not_not,strP_eql,strP_neq,h3,h8,h9,hi]
 exact ⟨_,rfl,by simp (maxSteps:=5000000) only [SA,SB,SD,R,SF,seval,h3]⟩
theorem call_own0 (bx:List PBox):callL CC 25 [.sl []] bx=some (.ret (.sl []),bx):=by
 rw [callL_enter (fn:=Try.f25) (c:=Try.f25.body.getD .skip) rfl rfl fat_rollout_own rfl ok_rollout_own (Nat.le_of_ble_eq_true rfl)]
 have hcl:=CloneU_nil bx
 have hloop:=fun e=>loop_own0 _ rfl e bx
 obtain ⟨fa,fb,fv,hfn⟩:=FNs
 obtain ⟨ev,eo,so,co,⟨hev,hco⟩,R⟩:=RULES CC;rw [<- hev]
 rw [<- hco] at hcl
 rw [<- hev] at hloop
 simp only [fpart,part',Try.f25,Option.getD] at hloop ⊢
 simp (maxSteps:=5000000) only [SA,SB,SD,R,SF,SG,SH,seval,TG,SE,SC,UTT,ZCT,RV,dynR,hfn,List.getElem?_concat_length,ss1,List.set_cons_zero,List.set_cons_succ,Bool.not_not,strP_eql,strP_neq,hcl]
 generalize hE:ev _ _=z
 obtain ⟨e',he,g3⟩:=PO0.of hE (hloop _ (by simp (maxSteps:=5000000) only [SA,SB,SD,R,SF,seval] <;> rfl) (by simp (maxSteps:=5000000) only [SA,SB,SD,R,SF,seval] <;> rfl) (by simp (maxSteps:=5000000) only [SA,SB,SD,R,SF,seval] <;> rfl))
 subst he
 simp (maxSteps:=5000000) only [SA,SB,SD,R,SF,SG,SH,seval,TG,SE,SC,UTT,ZCT,RV,dynR,hfn,List.getElem?_concat_length,ss1,List.set_cons_zero,List.set_cons_succ,Bool.not_not,strP_eql,strP_neq,g3]
theorem op_own0 (bx:List PBox):callOp CC (callL CC) 25 [.sl []] bx=some (.ret (.sl []),bx):=by
 unfold callOp
 simp only [show CC.heap 25=true from rfl,Bool.true_or,if_true,call_own0 bx]
 simp [truncB]
theorem endQ_nil (bx:List PBox):endQ CC 0 (some (.ret (.sl []),bx))=some (.ret (.sl []),[]):=by
 unfold endQ
 have h:thawP CC bx 0 4 (.sl [])=.sl []:=thaw_pure bx 0 4 _ rfl
 simp only [h]
 rw [if_pos (by simp [PV.under,underL])]
 simp
def StartR (l:List Up) (f:Fw) (cur:List Up):Prop:=cur=l∨(stopB l=false∧∃ j:Nat,j < l.length∧(∀ m (h:m < l.length),m < j->cpB l[m] f=true)∧StR l (wv j:Nat) cur)
theorem call_Start (l:List Up) (hne:l≠[]) (hl:l.length<=1000000) (hh:∀ u ∈ l,u.hv.length<=1000000) (f:Fw) (t:Int):∃ cur,StartR l f cur∧∃ bx,callL CC 10 [.sl (ups l),fwV f,.int .i64 t] []=some (.ret (.sl (ups cur)),bx):=by
 rw [callL_enterT (fn:=Try.f10) (c:=Try.f10.body.getD .skip) rfl rfl fat_rollout_Start rfl ok_rollout_Start (Nat.le_of_ble_eq_true rfl)]
 have how:=op_own l hne hl hh [.cells 28 [.int .i64 f.vn,.int .i64 f.vr,.sl (ints f.sums)]]
 simp only [List.length_cons,List.length_nil,Nat.zero_add,List.cons_append,List.nil_append] at how
 obtain ⟨w,hw,hwa⟩:=op_Wave l hl f
 have hsto:=op_Stopped l (by omega)
 have hloop:=fun e bx=>loop_Start _ rfl l hl f w t l.length 0 l e bx (by omega) (StR.refl l w)
 have hsp:=ups_pure l
 have hend:=fun bx cur=>endQ_ups (bx:=bx) (id:=1) (l:=cur)
 have hend0:=endQ_ups (bx:=[.cells 28 [.int .i64 f.vn,.int .i64 f.vr,.sl (ints f.sums)],.cells 41 (ucells l)]) (id:=1) (l:=l) rfl
 obtain ⟨fa,fb,fv,hfn⟩:=FNs
 generalize hsb:stopB l=sb at *
 obtain ⟨vn,fvr,fs⟩:=f
 unfold fwV at *
 simp only at how hloop hend0
 have hsi:pureL (ints fs)=true:=pureL_ints fs
 generalize hxs:ups l=xs at *
 generalize ints fs=zs at *
 generalize hcs:ucells l=cs at *
 have hneg:∀ j:Nat,¬ ((wv j:Int) < 0):=fun j=>by omega
 cases sb with
 | true=>
  refine ⟨l,.inl rfl,?_⟩
  rw [hxs]
  obtain ⟨ev,eo,so,co,⟨hev,hco⟩,R⟩:=RULES CC;rw [<- hev]
  rw [<- hco] at how hwa hsto
  simp only [fpart,part',Try.f10,Option.getD]
  simp (maxSteps:=5000000) only [SA,SB,SD,R,SF,SG,SH,seval,TG,SE,SC,UTT,ZCT,RV,dynR,hfn,List.getElem?_concat_length,ss1,List.set_cons_zero,List.set_cons_succ,Bool.not_not,strP_eql,strP_neq,how,hwa,hsto,hsp,hsi]
  rw [hend0]
  exact ⟨_,rfl⟩
 | false=>
  rcases hw with rfl | ⟨j,hj,rfl,hcp⟩
  · refine ⟨l,.inl rfl,?_⟩
    rw [hxs]
    have hm:((-1:Int) < 0):=by decide
    obtain ⟨ev,eo,so,co,⟨hev,hco⟩,R⟩:=RULES CC;rw [<- hev]
    rw [<- hco] at how hwa hsto
    simp only [fpart,part',Try.f10,Option.getD]
    simp (maxSteps:=5000000) only [SA,SB,SD,R,SF,SG,SH,seval,TG,SE,SC,UTT,ZCT,RV,dynR,hfn,List.getElem?_concat_length,ss1,List.set_cons_zero,List.set_cons_succ,Bool.not_not,strP_eql,strP_neq,how,hwa,hsto,hsp,hsi,hm]
    rw [hend0]
    exact ⟨_,rfl⟩
  · have hm:=hneg j
    obtain ⟨ev,eo,so,co,⟨hev,hco⟩,R⟩:=RULES CC;rw [<- hev]
    rw [<- hco] at how hwa hsto
    rw [<- hev] at hloop
    simp only [fpart,part',Try.f10,Option.getD] at hloop ⊢
    simp (maxSteps:=5000000) only [SA,SB,SD,R,SF,SG,SH,seval,TG,SE,SC,UTT,ZCT,RV,dynR,hfn,List.getElem?_concat_length,ss1,List.set_cons_zero,List.set_cons_succ,Bool.not_not,strP_eql,strP_neq,how,hwa,hsto,hsp,hsi,hm]
    generalize hE:ev _ _=z
    obtain ⟨e',bx',cur,he,g7,hb,hr⟩:=PSt.of hE (hloop _ _ (by simp (maxSteps:=5000000) only [SA,SB,SD,R,SF,seval] <;> rfl) (by simp (maxSteps:=5000000) only [SA,SB,SD,R,SF,seval] <;> rfl) (by simp (maxSteps:=5000000) only [SA,SB,SD,R,SF,seval] <;> rfl) (by simp (maxSteps:=5000000) only [SA,SB,SD,R,SF,seval] <;> rfl) (by simp (maxSteps:=5000000) only [SA,SB,SD,R,SF,seval] <;> rfl) (by simp (maxSteps:=5000000) only [SA,SB,SD,R,SF,seval] <;> rfl) (by simp (maxSteps:=5000000) only [SA,SB,SD,R,SF,seval] <;> rfl) rfl rfl)
    subst he
    refine ⟨cur,.inr ⟨hsb,j,hj,hcp,hr⟩,?_⟩
    simp (maxSteps:=5000000) only [SA,SB,SD,R,SF,SG,SH,seval,TG,SE,SC,UTT,ZCT,RV,dynR,hfn,List.getElem?_concat_length,ss1,List.set_cons_zero,List.set_cons_succ,Bool.not_not,strP_eql,strP_neq,g7]
    rw [hend bx' cur hb]
    exact ⟨_,rfl⟩
theorem op_Start (l:List Up) (hne:l≠[]) (hl:l.length<=1000000) (hh:∀ u ∈ l,u.hv.length<=1000000) (f:Fw) (t:Int):∃ cur,StartR l f cur∧∀ bx,callOp CC (callL CC) 10 [.sl (ups l),fwV f,.int .i64 t] bx=some (.ret (.sl (ups cur)),bx):=by
 obtain ⟨cur,h1,bx',h2⟩:=call_Start l hne hl hh f t
 exact ⟨cur,h1,fun bx=>callOp_of rfl (by simp only [SA,ups_pure,fwV_pure,Bool.and_true]) h2 (ups_pure cur)⟩
end Go.HH
namespace Go.HH
open Go
set_option maxRecDepth 100000
set_option linter.unusedVariables false
theorem nodup_sub:∀ (l m:List Nat),l.Nodup->(∀ x ∈ l,x ∈ m)->l.length<=m.length
 | [],_,_,_=>Nat.zero_le _
 | x :: l,m,hn,hs=>by
  rw [List.nodup_cons] at hn
  have hx:=hs x (List.mem_cons_self ..)
  have h:=nodup_sub l (m.erase x) hn.2 (fun y hy=>(List.mem_erase_of_ne (fun e:y=x=>hn.1 (by rw [<- e];exact hy))).2 (hs y (List.mem_cons_of_mem _ hy)))
  rw [List.length_erase_of_mem hx] at h
  have:=List.length_pos_of_mem hx
  rw [List.length_cons]
  omega
theorem orderGo_ok (ops:Array Oper):∀ (k:Nat) (acc l:List Nat),acc.Nodup->(∀ x ∈ acc,x < ops.size)->l ∈ orderGo ops k acc->l.Nodup∧(∀ x ∈ l,x < ops.size)∧l.length=acc.length+k
 | 0,acc,l,h1,h2,h=>by
  simp only [orderGo,List.mem_singleton] at h
  subst h
  exact ⟨by unfold List.Nodup at h1 ⊢;rw [List.pairwise_reverse];exact h1.imp (fun h=>Ne.symm h),fun x hx=>h2 x (List.mem_reverse.1 hx),List.length_reverse ..⟩
 | k+1,acc,l,h1,h2,h=>by
  unfold orderGo at h
  rw [List.mem_flatMap] at h
  obtain ⟨i,hi,h⟩:=h
  split at h
  · rename_i hr
    have hr2:=hr
    unfold readyB at hr2
    rw [Bool.and_eq_true] at hr2
    have hn:i ∉ acc:=fun hm=>by
     have:=List.contains_iff_mem.2 hm
     rw [this] at hr2
     cases hr2.1
    obtain ⟨g1,g2,g3⟩:=orderGo_ok ops k (i :: acc) l (List.nodup_cons.2 ⟨hn,h1⟩) (fun x hx=>by
     rcases List.mem_cons.1 hx with rfl | hx
     · exact List.mem_range.1 hi
     · exact h2 x hx) h
    exact ⟨g1,g2,by rw [g3,List.length_cons];omega⟩
  · cases h
theorem orders_all (ops:Array Oper):((orders ops).all fun l=>(List.range ops.size).all fun j=>l.contains j)=true:=by
 rw [List.all_eq_true]
 intro l hl
 obtain ⟨g1,g2,g3⟩:=orderGo_ok ops ops.size [] l List.nodup_nil (fun x hx=>by cases hx) hl
 rw [List.length_nil,Nat.zero_add] at g3
 rw [List.all_eq_true]
 intro j hj
 rw [List.contains_iff_mem]
 by_cases h:j ∈ l
 · exact h
 · exfalso
   have hjr:=List.mem_range.1 hj
   have h5:=nodup_sub (j :: l) (List.range ops.size) (List.nodup_cons.2 ⟨h,g1⟩) (fun x hx=>by
    rcases List.mem_cons.1 hx with rfl | hx
    · exact hj
    · exact List.mem_range.2 (g2 x hx))
   rw [List.length_cons,List.length_range] at h5
   omega
def backB (ops:Array Oper):Bool:=(List.range ops.size).all fun i=>match ops[i]? with
 | some o=>o.after.toList.all fun e=>!Region.binds .any e || decide (e.on < i)
 | none=>false
theorem orders_ne {ops:Array Oper} (h:backB ops=true):(orders ops).isEmpty=false:=by
 have hb:=List.all_eq_true.1 h
 have go:∀ (k m:Nat),m+k=ops.size->∃ l,l ∈ orderGo ops k (List.range m).reverse:=by
  intro k
  induction k with
  | zero=>intro m hm;exact ⟨_,List.mem_singleton.2 rfl⟩
  | succ k ih=>
   intro m hm
   obtain ⟨l,hl⟩:=ih (m+1) (by omega)
   refine ⟨l,?_⟩
   unfold orderGo
   rw [List.mem_flatMap]
   refine ⟨m,List.mem_range.2 (by omega),?_⟩
   have hr:readyB ops (List.range m).reverse m=true:=by
    have h1:=hb m (List.mem_range.2 (by omega))
    unfold readyB
    rw [Bool.and_eq_true]
    refine ⟨?_,?_⟩
    · rw [Bool.not_eq_true']
      cases hc:(List.range m).reverse.contains m with
      | false=>rfl
      | true=>
       have:=List.mem_range.1 (List.mem_reverse.1 (List.contains_iff_mem.1 hc))
       omega
    · cases ho:ops[m]? with
      | none=>rw [ho] at h1;cases h1
      | some o=>
       rw [ho] at h1
       rw [List.all_eq_true] at h1 ⊢
       intro e he
       have:=h1 e he
       rw [Bool.or_eq_true] at this ⊢
       rcases this with h2 | h2
       · exact .inl h2
       · exact .inr (List.contains_iff_mem.2 (List.mem_reverse.2 (List.mem_range.2 (of_decide_eq_true h2))))
   rw [hr,if_pos rfl,show m :: (List.range m).reverse=(List.range (m+1)).reverse from by rw [List.range_succ,List.reverse_append];rfl]
   exact hl
 obtain ⟨l,hl⟩:=go ops.size 0 (Nat.zero_add _)
 unfold orders
 cases hc:orderGo ops ops.size [] with
 | nil=>rw [show (List.range 0).reverse=([]:List Nat) from rfl,hc] at hl;cases hl
 | cons a r=>rfl
end Go.HH
namespace Go.HH
open Go Go.Proofs
set_option maxRecDepth 100000
set_option maxHeartbeats 4000000
set_option linter.unusedSimpArgs false
set_option linter.unusedVariables false
def opsOf:Code->Array Oper
 | .region _ ops _=>ops
 | _=>#[]
def inU (f:Fw) (t:Int) (u:Up) (D:Nat->Bool):Up:=⟨u.dv,if D 14 then 3 else u.st,if D 20 then f.vr else u.vr,if D 17 then u.vr else u.pv,if D 23 then lim t else u.sn,u.hv⟩
theorem inU_ne (f:Fw) (t:Int) (u:Up) (D:Nat->Bool) (i:Nat) (h:i≠14∧i≠17∧i≠20∧i≠23):inU f t u (addD D i)=inU f t u D:=by
 unfold inU
 rw [addD_ne (Ne.symm h.1),addD_ne (Ne.symm h.2.1),addD_ne (Ne.symm h.2.2.1),addD_ne (Ne.symm h.2.2.2)]
def inB (l:List Up) (j:Nat) (f:Fw) (t:Int) (u:Up) (ex:List PBox) (D:Nat->Bool):List PBox:=.cells 28 [.int .i64 f.vn,.int .i64 f.vr,.sl (ints f.sums)] :: .cells 41 (ucells (l.set j (inU f t u D))) :: ex
theorem inB_ne (l:List Up) (j:Nat) (f:Fw) (t:Int) (u:Up) (ex:List PBox) (D:Nat->Bool) (i:Nat) (h:i≠14∧i≠17∧i≠20∧i≠23):inB l j f t u ex (addD D i)=inB l j f t u ex D:=by
 unfold inB;rw [inU_ne f t u D i h]
theorem inB_store {l:List Up} {j:Nat} {f:Fw} {t:Int} {u:Up} {ex:List PBox} {D:Nat->Bool} (hu:l[j]?=some u) (i k:Nat) (v:PV) (hk:k < 6) (hv:v.one=true) (h:upC (inU f t u (addD D i))=(upC (inU f t u D)).set k v) :
 storeCellsP (inB l j f t u ex D) 1 (j * 6+k) [v]=some (inB l j f t u ex (addD D i)):=by
 unfold inB
 have h1:=uc_store (bx:=.cells 28 [.int .i64 f.vn,.int .i64 f.vr,.sl (ints f.sums)] :: .cells 41 (ucells (l.set j (inU f t u D))) :: ex) (id:=1) rfl j k _ (inU f t u (addD D i)) v (List.getElem?_set_self (List.getElem?_eq_some_iff.1 hu).1) hk hv h
 rw [List.set_set] at h1
 exact h1
theorem no_in:drawOK CC (opsOf (fpart Try.f11 [1,1,1,1,1,0]))=false:=by kernel_rfl
theorem back_in:backB (opsOf (fpart Try.f11 [1,1,1,1,1,0]))=true:=by kernel_rfl
theorem size_in:(opsOf (fpart Try.f11 [1,1,1,1,1,0])).size=24:=by kernel_rfl
def inL (j:Nat) (u:Up) (f:Fw) (t:Int):List (Nat×Nat×PV):=[(0,28,.bp 1 (j * 6)),(1,29,.bp 1 (j * 6)),(2,30,.bp 1 (j * 6)),(3,31,.bp 1 (j * 6)),(4,32,.bp 1 (j * 6)),(5,33,.bp 1 (j * 6)),(6,34,.bp 1 (j * 6+2)),(7,35,.int .i64 u.vr),(8,36,.bp 0 1),(9,37,.int .i64 f.vr),(10,38,.int .i64 t),(11,39,.int .i64 (lim t)),(12,40,.bp 1 (j * 6)),(13,41,.bp 1 (j * 6+1)),(15,42,.bp 1 (j * 6)),(16,43,.bp 1 (j * 6+3)),(18,44,.bp 1 (j * 6)),(19,45,.bp 1 (j * 6+2)),(21,46,.bp 1 (j * 6)),(22,47,.bp 1 (j * 6+4))]
theorem inL_pw (j:Nat) (u:Up) (f:Fw) (t:Int):(inL j u f t).Pairwise (fun x y=>x.1≠y.1∧x.2.1≠y.2.1):=by unfold inL;simp
theorem draw_in {l:List Up} {j:Nat} {f:Fw} {t:Int} {u:Up} (ex:List PBox) (e:List PV) (hu:l[j]?=some u) (h3:getT e 3=.int .i64 t) (h5:getT e 5=.bp 0 0) (h11:getT e 11=.bp 1 (j * 6)) :
 ∃ e',drawAll CC (callL CC) (opsOf (fpart Try.f11 [1,1,1,1,1,0])) ⟨e,.cells 28 [.int .i64 f.vn,.int .i64 f.vr,.sl (ints f.sums)] :: .cells 41 (ucells l) :: ex⟩=some (.normal,⟨e',.cells 28 [.int .i64 f.vn,.int .i64 f.vr,.sl (ints f.sums)] :: .cells 41 (ucells (l.set j ⟨u.dv,3,f.vr,u.vr,lim t,u.hv⟩)) :: ex⟩)∧getT e' 9=getT e 9:=by
 refine ⟨_,drawAll_states (e0:=e) (L:=inL j u f t) (bxOf:=inB l j f t u ex) (orders_all _) (orders_ne back_in) (fun D oo op hop hD hdep hcl=>?_) (by unfold inL inB;simp only [setsD,inU,Bool.false_eq_true,if_false];rw [lset_same hu]) (r:=⟨setsD e (fun _=>true) (inL j u f t),inB l j f t u ex (fun _=>true)⟩) (fun D hD=>?_),?_⟩
 · have hj:oo < 24:=by
    have:=(Array.getElem?_eq_some_iff.1 hop).1
    rw [size_in] at this
    exact this
   have hpw:=inL_pw j u f t
   have z3:getT (setsD e D (inL j u f t)) 3=.int .i64 t:=by rw [getT_off e D 3 _ (by unfold inL;simp)];exact h3
   have z5:getT (setsD e D (inL j u f t)) 5=.bp 0 0:=by rw [getT_off e D 5 _ (by unfold inL;simp)];exact h5
   have z11:getT (setsD e D (inL j u f t)) 11=.bp 1 (j * 6):=by rw [getT_off e D 11 _ (by unfold inL;simp)];exact h11
   have hlm:=op_limit t
   by_cases e0:oo=0
   · subst e0
     simp only [opsOf,fpart,part',Try.f11,Option.getD,List.getElem?_toArray,List.getElem?_cons_succ,List.getElem?_cons_zero] at hop
     injection hop with hop
     subst hop
     refine ⟨rfl,fun al=>?_⟩
     rw [<- setsD_add e D 0 28 (.bp 1 (j * 6)) hD _ (by unfold inL;simp) hpw]
     rw [inB_ne l j f t u ex D 0 (by decide)]
     generalize inB l j f t u ex D=X at *
     generalize setsD e D (inL j u f t)=E at *
     obtain ⟨ev,eo,so,co,⟨hev,hco,heo,hso⟩,R⟩:=RULES0 CC
     rw [<- hso]
     simp (maxSteps:=5000000) only [SA,SB,SD,R,SF,SG,seval,TG,SE,SC,UTT,ZCT,RV,dynR,nchP,List.getElem?_concat_length,storeR,storeK,laid,ss1,List.set_cons_zero,List.set_cons_succ,Bool.not_not,strP_eql,strP_neq,z3,z5,z11]
     exact ⟨_,rfl⟩
   by_cases e1:oo=1
   · subst e1
     simp only [opsOf,fpart,part',Try.f11,Option.getD,List.getElem?_toArray,List.getElem?_cons_succ,List.getElem?_cons_zero] at hop
     injection hop with hop
     subst hop
     refine ⟨rfl,fun al=>?_⟩
     rw [<- setsD_add e D 1 29 (.bp 1 (j * 6)) hD _ (by unfold inL;simp) hpw]
     rw [inB_ne l j f t u ex D 1 (by decide)]
     generalize inB l j f t u ex D=X at *
     generalize setsD e D (inL j u f t)=E at *
     obtain ⟨ev,eo,so,co,⟨hev,hco,heo,hso⟩,R⟩:=RULES0 CC
     rw [<- hso]
     simp (maxSteps:=5000000) only [SA,SB,SD,R,SF,SG,seval,TG,SE,SC,UTT,ZCT,RV,dynR,nchP,List.getElem?_concat_length,storeR,storeK,laid,ss1,List.set_cons_zero,List.set_cons_succ,Bool.not_not,strP_eql,strP_neq,z3,z5,z11]
     exact ⟨_,rfl⟩
   by_cases e2:oo=2
   · subst e2
     simp only [opsOf,fpart,part',Try.f11,Option.getD,List.getElem?_toArray,List.getElem?_cons_succ,List.getElem?_cons_zero] at hop
     injection hop with hop
     subst hop
     refine ⟨rfl,fun al=>?_⟩
     rw [<- setsD_add e D 2 30 (.bp 1 (j * 6)) hD _ (by unfold inL;simp) hpw]
     rw [inB_ne l j f t u ex D 2 (by decide)]
     generalize inB l j f t u ex D=X at *
     generalize setsD e D (inL j u f t)=E at *
     obtain ⟨ev,eo,so,co,⟨hev,hco,heo,hso⟩,R⟩:=RULES0 CC
     rw [<- hso]
     simp (maxSteps:=5000000) only [SA,SB,SD,R,SF,SG,seval,TG,SE,SC,UTT,ZCT,RV,dynR,nchP,List.getElem?_concat_length,storeR,storeK,laid,ss1,List.set_cons_zero,List.set_cons_succ,Bool.not_not,strP_eql,strP_neq,z3,z5,z11]
     exact ⟨_,rfl⟩
   by_cases e3:oo=3
   · subst e3
     simp only [opsOf,fpart,part',Try.f11,Option.getD,List.getElem?_toArray,List.getElem?_cons_succ,List.getElem?_cons_zero] at hop
     injection hop with hop
     subst hop
     refine ⟨rfl,fun al=>?_⟩
     rw [<- setsD_add e D 3 31 (.bp 1 (j * 6)) hD _ (by unfold inL;simp) hpw]
     rw [inB_ne l j f t u ex D 3 (by decide)]
     generalize inB l j f t u ex D=X at *
     generalize setsD e D (inL j u f t)=E at *
     obtain ⟨ev,eo,so,co,⟨hev,hco,heo,hso⟩,R⟩:=RULES0 CC
     rw [<- hso]
     simp (maxSteps:=5000000) only [SA,SB,SD,R,SF,SG,seval,TG,SE,SC,UTT,ZCT,RV,dynR,nchP,List.getElem?_concat_length,storeR,storeK,laid,ss1,List.set_cons_zero,List.set_cons_succ,Bool.not_not,strP_eql,strP_neq,z3,z5,z11]
     exact ⟨_,rfl⟩
   by_cases e4:oo=4
   · subst e4
     simp only [opsOf,fpart,part',Try.f11,Option.getD,List.getElem?_toArray,List.getElem?_cons_succ,List.getElem?_cons_zero] at hop
     injection hop with hop
     subst hop
     refine ⟨rfl,fun al=>?_⟩
     rw [<- setsD_add e D 4 32 (.bp 1 (j * 6)) hD _ (by unfold inL;simp) hpw]
     rw [inB_ne l j f t u ex D 4 (by decide)]
     generalize inB l j f t u ex D=X at *
     generalize setsD e D (inL j u f t)=E at *
     obtain ⟨ev,eo,so,co,⟨hev,hco,heo,hso⟩,R⟩:=RULES0 CC
     rw [<- hso]
     simp (maxSteps:=5000000) only [SA,SB,SD,R,SF,SG,seval,TG,SE,SC,UTT,ZCT,RV,dynR,nchP,List.getElem?_concat_length,storeR,storeK,laid,ss1,List.set_cons_zero,List.set_cons_succ,Bool.not_not,strP_eql,strP_neq,z3,z5,z11]
     exact ⟨_,rfl⟩
   by_cases e5:oo=5
   · subst e5
     simp only [opsOf,fpart,part',Try.f11,Option.getD,List.getElem?_toArray,List.getElem?_cons_succ,List.getElem?_cons_zero] at hop
     injection hop with hop
     subst hop
     refine ⟨rfl,fun al=>?_⟩
     have d4:D 4=true:=hdep ⟨4,.data⟩ (by simp) rfl
     have z32:getT (setsD e D (inL j u f t)) 32=.bp 1 (j * 6):=getT_on e D 4 32 _ d4 _ (by unfold inL;simp) hpw
     rw [<- setsD_add e D 5 33 (.bp 1 (j * 6)) hD _ (by unfold inL;simp) hpw]
     rw [inB_ne l j f t u ex D 5 (by decide)]
     generalize inB l j f t u ex D=X at *
     generalize setsD e D (inL j u f t)=E at *
     obtain ⟨ev,eo,so,co,⟨hev,hco,heo,hso⟩,R⟩:=RULES0 CC
     rw [<- hso]
     simp (maxSteps:=5000000) only [SA,SB,SD,R,SF,SG,seval,TG,SE,SC,UTT,ZCT,RV,dynR,nchP,List.getElem?_concat_length,storeR,storeK,laid,ss1,List.set_cons_zero,List.set_cons_succ,Bool.not_not,strP_eql,strP_neq,z3,z5,z11,z32]
     exact ⟨_,rfl⟩
   by_cases e6:oo=6
   · subst e6
     simp only [opsOf,fpart,part',Try.f11,Option.getD,List.getElem?_toArray,List.getElem?_cons_succ,List.getElem?_cons_zero] at hop
     injection hop with hop
     subst hop
     refine ⟨rfl,fun al=>?_⟩
     have d5:D 5=true:=hdep ⟨5,.data⟩ (by simp) rfl
     have z33:getT (setsD e D (inL j u f t)) 33=.bp 1 (j * 6):=getT_on e D 5 33 _ d5 _ (by unfold inL;simp) hpw
     rw [<- setsD_add e D 6 34 (.bp 1 (j * 6+2)) hD _ (by unfold inL;simp) hpw]
     rw [inB_ne l j f t u ex D 6 (by decide)]
     generalize inB l j f t u ex D=X at *
     generalize setsD e D (inL j u f t)=E at *
     obtain ⟨ev,eo,so,co,⟨hev,hco,heo,hso⟩,R⟩:=RULES0 CC
     rw [<- hso]
     simp (maxSteps:=5000000) only [SA,SB,SD,R,SF,SG,seval,TG,SE,SC,UTT,ZCT,RV,dynR,nchP,List.getElem?_concat_length,storeR,storeK,laid,ss1,List.set_cons_zero,List.set_cons_succ,Bool.not_not,strP_eql,strP_neq,z3,z5,z11,z33]
     exact ⟨_,rfl⟩
   by_cases e7:oo=7
   · subst e7
     have h20:D 20=false:=by
      cases h:D 20 with
      | false=>rfl
      | true=>
       have hx:∃ o,(opsOf (fpart Try.f11 [1,1,1,1,1,0]))[20]?=some o∧(⟨7,.phase⟩:Edge) ∈ o.after.toList:=⟨_,by simp only [opsOf,fpart,part',Try.f11,Option.getD,List.getElem?_toArray,List.getElem?_cons_succ,List.getElem?_cons_zero];rfl,by simp⟩
       obtain ⟨o,ho,hm⟩:=hx
       have:=hcl 20 o ho h _ hm rfl
       rw [hD] at this
       cases this
     simp only [opsOf,fpart,part',Try.f11,Option.getD,List.getElem?_toArray,List.getElem?_cons_succ,List.getElem?_cons_zero] at hop
     injection hop with hop
     subst hop
     refine ⟨rfl,fun al=>?_⟩
     have d6:D 6=true:=hdep ⟨6,.data⟩ (by simp) rfl
     have z34:getT (setsD e D (inL j u f t)) 34=.bp 1 (j * 6+2):=getT_on e D 6 34 _ d6 _ (by unfold inL;simp) hpw
     rw [<- setsD_add e D 7 35 (.int .i64 u.vr) hD _ (by unfold inL;simp) hpw]
     rw [inB_ne l j f t u ex D 7 (by decide)]
     have hux:(l.set j (inU f t u D))[j]?=some (inU f t u D):=List.getElem?_set_self (List.getElem?_eq_some_iff.1 hu).1
     obtain ⟨rest,d0,d00,d1,d2,d3,d4,d5⟩:=uc_rd hux
     have hvr:(inU f t u D).vr=u.vr:=by unfold inU;rw [h20];rfl
     rw [hvr] at d2
     unfold inB
     generalize ucells (l.set j (inU f t u D))=cs at *
     generalize setsD e D (inL j u f t)=E at *
     obtain ⟨ev,eo,so,co,⟨hev,hco,heo,hso⟩,R⟩:=RULES0 CC
     rw [<- hso]
     simp (maxSteps:=5000000) only [SA,SB,SD,R,SF,SG,seval,TG,SE,SC,UTT,ZCT,RV,dynR,nchP,List.getElem?_concat_length,storeR,storeK,laid,ss1,List.set_cons_zero,List.set_cons_succ,Bool.not_not,strP_eql,strP_neq,z3,z5,z11,z34,d2]
     exact ⟨_,rfl⟩
   by_cases e8:oo=8
   · subst e8
     simp only [opsOf,fpart,part',Try.f11,Option.getD,List.getElem?_toArray,List.getElem?_cons_succ,List.getElem?_cons_zero] at hop
     injection hop with hop
     subst hop
     refine ⟨rfl,fun al=>?_⟩
     rw [<- setsD_add e D 8 36 (.bp 0 1) hD _ (by unfold inL;simp) hpw]
     rw [inB_ne l j f t u ex D 8 (by decide)]
     generalize inB l j f t u ex D=X at *
     generalize setsD e D (inL j u f t)=E at *
     obtain ⟨ev,eo,so,co,⟨hev,hco,heo,hso⟩,R⟩:=RULES0 CC
     rw [<- hso]
     simp (maxSteps:=5000000) only [SA,SB,SD,R,SF,SG,seval,TG,SE,SC,UTT,ZCT,RV,dynR,nchP,List.getElem?_concat_length,storeR,storeK,laid,ss1,List.set_cons_zero,List.set_cons_succ,Bool.not_not,strP_eql,strP_neq,z3,z5,z11]
     exact ⟨_,rfl⟩
   by_cases e9:oo=9
   · subst e9
     simp only [opsOf,fpart,part',Try.f11,Option.getD,List.getElem?_toArray,List.getElem?_cons_succ,List.getElem?_cons_zero] at hop
     injection hop with hop
     subst hop
     refine ⟨rfl,fun al=>?_⟩
     have d8:D 8=true:=hdep ⟨8,.data⟩ (by simp) rfl
     have z36:getT (setsD e D (inL j u f t)) 36=.bp 0 1:=getT_on e D 8 36 _ d8 _ (by unfold inL;simp) hpw
     rw [<- setsD_add e D 9 37 (.int .i64 f.vr) hD _ (by unfold inL;simp) hpw]
     rw [inB_ne l j f t u ex D 9 (by decide)]
     unfold inB
     generalize ucells (l.set j (inU f t u D))=cs at *
     generalize setsD e D (inL j u f t)=E at *
     obtain ⟨ev,eo,so,co,⟨hev,hco,heo,hso⟩,R⟩:=RULES0 CC
     rw [<- hso]
     simp (maxSteps:=5000000) only [SA,SB,SD,R,SF,SG,seval,TG,SE,SC,UTT,ZCT,RV,dynR,nchP,List.getElem?_concat_length,storeR,storeK,laid,ss1,List.set_cons_zero,List.set_cons_succ,Bool.not_not,strP_eql,strP_neq,z3,z5,z11,z36]
     exact ⟨_,rfl⟩
   by_cases e10:oo=10
   · subst e10
     simp only [opsOf,fpart,part',Try.f11,Option.getD,List.getElem?_toArray,List.getElem?_cons_succ,List.getElem?_cons_zero] at hop
     injection hop with hop
     subst hop
     refine ⟨rfl,fun al=>?_⟩
     rw [<- setsD_add e D 10 38 (.int .i64 t) hD _ (by unfold inL;simp) hpw]
     rw [inB_ne l j f t u ex D 10 (by decide)]
     generalize inB l j f t u ex D=X at *
     generalize setsD e D (inL j u f t)=E at *
     obtain ⟨ev,eo,so,co,⟨hev,hco,heo,hso⟩,R⟩:=RULES0 CC
     rw [<- hso]
     simp (maxSteps:=5000000) only [SA,SB,SD,R,SF,SG,seval,TG,SE,SC,UTT,ZCT,RV,dynR,nchP,List.getElem?_concat_length,storeR,storeK,laid,ss1,List.set_cons_zero,List.set_cons_succ,Bool.not_not,strP_eql,strP_neq,z3,z5,z11]
     exact ⟨_,rfl⟩
   by_cases e11:oo=11
   · subst e11
     simp only [opsOf,fpart,part',Try.f11,Option.getD,List.getElem?_toArray,List.getElem?_cons_succ,List.getElem?_cons_zero] at hop
     injection hop with hop
     subst hop
     refine ⟨rfl,fun al=>?_⟩
     have d10:D 10=true:=hdep ⟨10,.data⟩ (by simp) rfl
     have z38:getT (setsD e D (inL j u f t)) 38=.int .i64 t:=getT_on e D 10 38 _ d10 _ (by unfold inL;simp) hpw
     rw [<- setsD_add e D 11 39 (.int .i64 (lim t)) hD _ (by unfold inL;simp) hpw]
     rw [inB_ne l j f t u ex D 11 (by decide)]
     generalize inB l j f t u ex D=X at *
     generalize setsD e D (inL j u f t)=E at *
     obtain ⟨ev,eo,so,co,⟨hev,hco,heo,hso⟩,R⟩:=RULES0 CC
     rw [<- hco] at hlm
     rw [<- hso]
     simp (maxSteps:=5000000) only [SA,SB,SD,R,SF,SG,seval,TG,SE,SC,UTT,ZCT,RV,dynR,nchP,List.getElem?_concat_length,storeR,storeK,laid,ss1,List.set_cons_zero,List.set_cons_succ,Bool.not_not,strP_eql,strP_neq,z3,z5,z11,z38,hlm]
     exact ⟨_,rfl⟩
   by_cases e12:oo=12
   · subst e12
     simp only [opsOf,fpart,part',Try.f11,Option.getD,List.getElem?_toArray,List.getElem?_cons_succ,List.getElem?_cons_zero] at hop
     injection hop with hop
     subst hop
     refine ⟨rfl,fun al=>?_⟩
     have d0:D 0=true:=hdep ⟨0,.data⟩ (by simp) rfl
     have z28:getT (setsD e D (inL j u f t)) 28=.bp 1 (j * 6):=getT_on e D 0 28 _ d0 _ (by unfold inL;simp) hpw
     rw [<- setsD_add e D 12 40 (.bp 1 (j * 6)) hD _ (by unfold inL;simp) hpw]
     rw [inB_ne l j f t u ex D 12 (by decide)]
     generalize inB l j f t u ex D=X at *
     generalize setsD e D (inL j u f t)=E at *
     obtain ⟨ev,eo,so,co,⟨hev,hco,heo,hso⟩,R⟩:=RULES0 CC
     rw [<- hso]
     simp (maxSteps:=5000000) only [SA,SB,SD,R,SF,SG,seval,TG,SE,SC,UTT,ZCT,RV,dynR,nchP,List.getElem?_concat_length,storeR,storeK,laid,ss1,List.set_cons_zero,List.set_cons_succ,Bool.not_not,strP_eql,strP_neq,z3,z5,z11,z28]
     exact ⟨_,rfl⟩
   by_cases e13:oo=13
   · subst e13
     simp only [opsOf,fpart,part',Try.f11,Option.getD,List.getElem?_toArray,List.getElem?_cons_succ,List.getElem?_cons_zero] at hop
     injection hop with hop
     subst hop
     refine ⟨rfl,fun al=>?_⟩
     have d12:D 12=true:=hdep ⟨12,.data⟩ (by simp) rfl
     have z40:getT (setsD e D (inL j u f t)) 40=.bp 1 (j * 6):=getT_on e D 12 40 _ d12 _ (by unfold inL;simp) hpw
     rw [<- setsD_add e D 13 41 (.bp 1 (j * 6+1)) hD _ (by unfold inL;simp) hpw]
     rw [inB_ne l j f t u ex D 13 (by decide)]
     generalize inB l j f t u ex D=X at *
     generalize setsD e D (inL j u f t)=E at *
     obtain ⟨ev,eo,so,co,⟨hev,hco,heo,hso⟩,R⟩:=RULES0 CC
     rw [<- hso]
     simp (maxSteps:=5000000) only [SA,SB,SD,R,SF,SG,seval,TG,SE,SC,UTT,ZCT,RV,dynR,nchP,List.getElem?_concat_length,storeR,storeK,laid,ss1,List.set_cons_zero,List.set_cons_succ,Bool.not_not,strP_eql,strP_neq,z3,z5,z11,z40]
     exact ⟨_,rfl⟩
   by_cases e14:oo=14
   · subst e14
     simp only [opsOf,fpart,part',Try.f11,Option.getD,List.getElem?_toArray,List.getElem?_cons_succ,List.getElem?_cons_zero] at hop
     injection hop with hop
     subst hop
     refine ⟨rfl,fun al=>?_⟩
     have d13:D 13=true:=hdep ⟨13,.data⟩ (by simp) rfl
     have z41:getT (setsD e D (inL j u f t)) 41=.bp 1 (j * 6+1):=getT_on e D 13 41 _ d13 _ (by unfold inL;simp) hpw
     rw [setsD_skip e D 14 _ (by unfold inL;simp)]
     have hs:=inB_store (f:=f) (t:=t) (ex:=ex) (D:=D) hu 14 1 (.int .i64 3) (by decide) rfl (by unfold inU upC;rw [addD_self,addD_ne (show 17≠14 by decide),addD_ne (show 20≠14 by decide),addD_ne (show 23≠14 by decide)] <;> rfl)
     generalize inB l j f t u ex (addD D 14)=X2 at *
     generalize inB l j f t u ex D=X at *
     generalize setsD e D (inL j u f t)=E at *
     obtain ⟨ev,eo,so,co,⟨hev,hco,heo,hso⟩,R⟩:=RULES0 CC
     rw [<- hso]
     simp (maxSteps:=5000000) only [SA,SB,SD,R,SF,SG,seval,TG,SE,SC,UTT,ZCT,RV,dynR,nchP,List.getElem?_concat_length,storeR,storeK,laid,ss1,List.set_cons_zero,List.set_cons_succ,Bool.not_not,strP_eql,strP_neq,z3,z5,z11,z41,hs]
     exact ⟨_,rfl⟩
   by_cases e15:oo=15
   · subst e15
     simp only [opsOf,fpart,part',Try.f11,Option.getD,List.getElem?_toArray,List.getElem?_cons_succ,List.getElem?_cons_zero] at hop
     injection hop with hop
     subst hop
     refine ⟨rfl,fun al=>?_⟩
     have d1:D 1=true:=hdep ⟨1,.data⟩ (by simp) rfl
     have z29:getT (setsD e D (inL j u f t)) 29=.bp 1 (j * 6):=getT_on e D 1 29 _ d1 _ (by unfold inL;simp) hpw
     rw [<- setsD_add e D 15 42 (.bp 1 (j * 6)) hD _ (by unfold inL;simp) hpw]
     rw [inB_ne l j f t u ex D 15 (by decide)]
     generalize inB l j f t u ex D=X at *
     generalize setsD e D (inL j u f t)=E at *
     obtain ⟨ev,eo,so,co,⟨hev,hco,heo,hso⟩,R⟩:=RULES0 CC
     rw [<- hso]
     simp (maxSteps:=5000000) only [SA,SB,SD,R,SF,SG,seval,TG,SE,SC,UTT,ZCT,RV,dynR,nchP,List.getElem?_concat_length,storeR,storeK,laid,ss1,List.set_cons_zero,List.set_cons_succ,Bool.not_not,strP_eql,strP_neq,z3,z5,z11,z29]
     exact ⟨_,rfl⟩
   by_cases e16:oo=16
   · subst e16
     simp only [opsOf,fpart,part',Try.f11,Option.getD,List.getElem?_toArray,List.getElem?_cons_succ,List.getElem?_cons_zero] at hop
     injection hop with hop
     subst hop
     refine ⟨rfl,fun al=>?_⟩
     have d15:D 15=true:=hdep ⟨15,.data⟩ (by simp) rfl
     have z42:getT (setsD e D (inL j u f t)) 42=.bp 1 (j * 6):=getT_on e D 15 42 _ d15 _ (by unfold inL;simp) hpw
     rw [<- setsD_add e D 16 43 (.bp 1 (j * 6+3)) hD _ (by unfold inL;simp) hpw]
     rw [inB_ne l j f t u ex D 16 (by decide)]
     generalize inB l j f t u ex D=X at *
     generalize setsD e D (inL j u f t)=E at *
     obtain ⟨ev,eo,so,co,⟨hev,hco,heo,hso⟩,R⟩:=RULES0 CC
     rw [<- hso]
     simp (maxSteps:=5000000) only [SA,SB,SD,R,SF,SG,seval,TG,SE,SC,UTT,ZCT,RV,dynR,nchP,List.getElem?_concat_length,storeR,storeK,laid,ss1,List.set_cons_zero,List.set_cons_succ,Bool.not_not,strP_eql,strP_neq,z3,z5,z11,z42]
     exact ⟨_,rfl⟩
   by_cases e17:oo=17
   · subst e17
     simp only [opsOf,fpart,part',Try.f11,Option.getD,List.getElem?_toArray,List.getElem?_cons_succ,List.getElem?_cons_zero] at hop
     injection hop with hop
     subst hop
     refine ⟨rfl,fun al=>?_⟩
     have d16:D 16=true:=hdep ⟨16,.data⟩ (by simp) rfl
     have z43:getT (setsD e D (inL j u f t)) 43=.bp 1 (j * 6+3):=getT_on e D 16 43 _ d16 _ (by unfold inL;simp) hpw
     have d7:D 7=true:=hdep ⟨7,.data⟩ (by simp) rfl
     have z35:getT (setsD e D (inL j u f t)) 35=.int .i64 u.vr:=getT_on e D 7 35 _ d7 _ (by unfold inL;simp) hpw
     rw [setsD_skip e D 17 _ (by unfold inL;simp)]
     have hs:=inB_store (f:=f) (t:=t) (ex:=ex) (D:=D) hu 17 3 (.int .i64 u.vr) (by decide) rfl (by unfold inU upC;rw [addD_self,addD_ne (show 14≠17 by decide),addD_ne (show 20≠17 by decide),addD_ne (show 23≠17 by decide)] <;> rfl)
     generalize inB l j f t u ex (addD D 17)=X2 at *
     generalize inB l j f t u ex D=X at *
     generalize setsD e D (inL j u f t)=E at *
     obtain ⟨ev,eo,so,co,⟨hev,hco,heo,hso⟩,R⟩:=RULES0 CC
     rw [<- hso]
     simp (maxSteps:=5000000) only [SA,SB,SD,R,SF,SG,seval,TG,SE,SC,UTT,ZCT,RV,dynR,nchP,List.getElem?_concat_length,storeR,storeK,laid,ss1,List.set_cons_zero,List.set_cons_succ,Bool.not_not,strP_eql,strP_neq,z3,z5,z11,z43,z35,hs]
     exact ⟨_,rfl⟩
   by_cases e18:oo=18
   · subst e18
     simp only [opsOf,fpart,part',Try.f11,Option.getD,List.getElem?_toArray,List.getElem?_cons_succ,List.getElem?_cons_zero] at hop
     injection hop with hop
     subst hop
     refine ⟨rfl,fun al=>?_⟩
     have d2:D 2=true:=hdep ⟨2,.data⟩ (by simp) rfl
     have z30:getT (setsD e D (inL j u f t)) 30=.bp 1 (j * 6):=getT_on e D 2 30 _ d2 _ (by unfold inL;simp) hpw
     rw [<- setsD_add e D 18 44 (.bp 1 (j * 6)) hD _ (by unfold inL;simp) hpw]
     rw [inB_ne l j f t u ex D 18 (by decide)]
     generalize inB l j f t u ex D=X at *
     generalize setsD e D (inL j u f t)=E at *
     obtain ⟨ev,eo,so,co,⟨hev,hco,heo,hso⟩,R⟩:=RULES0 CC
     rw [<- hso]
     simp (maxSteps:=5000000) only [SA,SB,SD,R,SF,SG,seval,TG,SE,SC,UTT,ZCT,RV,dynR,nchP,List.getElem?_concat_length,storeR,storeK,laid,ss1,List.set_cons_zero,List.set_cons_succ,Bool.not_not,strP_eql,strP_neq,z3,z5,z11,z30]
     exact ⟨_,rfl⟩
   by_cases e19:oo=19
   · subst e19
     simp only [opsOf,fpart,part',Try.f11,Option.getD,List.getElem?_toArray,List.getElem?_cons_succ,List.getElem?_cons_zero] at hop
     injection hop with hop
     subst hop
     refine ⟨rfl,fun al=>?_⟩
     have d18:D 18=true:=hdep ⟨18,.data⟩ (by simp) rfl
     have z44:getT (setsD e D (inL j u f t)) 44=.bp 1 (j * 6):=getT_on e D 18 44 _ d18 _ (by unfold inL;simp) hpw
     rw [<- setsD_add e D 19 45 (.bp 1 (j * 6+2)) hD _ (by unfold inL;simp) hpw]
     rw [inB_ne l j f t u ex D 19 (by decide)]
     generalize inB l j f t u ex D=X at *
     generalize setsD e D (inL j u f t)=E at *
     obtain ⟨ev,eo,so,co,⟨hev,hco,heo,hso⟩,R⟩:=RULES0 CC
     rw [<- hso]
     simp (maxSteps:=5000000) only [SA,SB,SD,R,SF,SG,seval,TG,SE,SC,UTT,ZCT,RV,dynR,nchP,List.getElem?_concat_length,storeR,storeK,laid,ss1,List.set_cons_zero,List.set_cons_succ,Bool.not_not,strP_eql,strP_neq,z3,z5,z11,z44]
     exact ⟨_,rfl⟩
   by_cases e20:oo=20
   · subst e20
     simp only [opsOf,fpart,part',Try.f11,Option.getD,List.getElem?_toArray,List.getElem?_cons_succ,List.getElem?_cons_zero] at hop
     injection hop with hop
     subst hop
     refine ⟨rfl,fun al=>?_⟩
     have d19:D 19=true:=hdep ⟨19,.data⟩ (by simp) rfl
     have z45:getT (setsD e D (inL j u f t)) 45=.bp 1 (j * 6+2):=getT_on e D 19 45 _ d19 _ (by unfold inL;simp) hpw
     have d9:D 9=true:=hdep ⟨9,.data⟩ (by simp) rfl
     have z37:getT (setsD e D (inL j u f t)) 37=.int .i64 f.vr:=getT_on e D 9 37 _ d9 _ (by unfold inL;simp) hpw
     rw [setsD_skip e D 20 _ (by unfold inL;simp)]
     have hs:=inB_store (f:=f) (t:=t) (ex:=ex) (D:=D) hu 20 2 (.int .i64 f.vr) (by decide) rfl (by unfold inU upC;rw [addD_self,addD_ne (show 14≠20 by decide),addD_ne (show 17≠20 by decide),addD_ne (show 23≠20 by decide)] <;> rfl)
     generalize inB l j f t u ex (addD D 20)=X2 at *
     generalize inB l j f t u ex D=X at *
     generalize setsD e D (inL j u f t)=E at *
     obtain ⟨ev,eo,so,co,⟨hev,hco,heo,hso⟩,R⟩:=RULES0 CC
     rw [<- hso]
     simp (maxSteps:=5000000) only [SA,SB,SD,R,SF,SG,seval,TG,SE,SC,UTT,ZCT,RV,dynR,nchP,List.getElem?_concat_length,storeR,storeK,laid,ss1,List.set_cons_zero,List.set_cons_succ,Bool.not_not,strP_eql,strP_neq,z3,z5,z11,z45,z37,hs]
     exact ⟨_,rfl⟩
   by_cases e21:oo=21
   · subst e21
     simp only [opsOf,fpart,part',Try.f11,Option.getD,List.getElem?_toArray,List.getElem?_cons_succ,List.getElem?_cons_zero] at hop
     injection hop with hop
     subst hop
     refine ⟨rfl,fun al=>?_⟩
     have d3:D 3=true:=hdep ⟨3,.data⟩ (by simp) rfl
     have z31:getT (setsD e D (inL j u f t)) 31=.bp 1 (j * 6):=getT_on e D 3 31 _ d3 _ (by unfold inL;simp) hpw
     rw [<- setsD_add e D 21 46 (.bp 1 (j * 6)) hD _ (by unfold inL;simp) hpw]
     rw [inB_ne l j f t u ex D 21 (by decide)]
     generalize inB l j f t u ex D=X at *
     generalize setsD e D (inL j u f t)=E at *
     obtain ⟨ev,eo,so,co,⟨hev,hco,heo,hso⟩,R⟩:=RULES0 CC
     rw [<- hso]
     simp (maxSteps:=5000000) only [SA,SB,SD,R,SF,SG,seval,TG,SE,SC,UTT,ZCT,RV,dynR,nchP,List.getElem?_concat_length,storeR,storeK,laid,ss1,List.set_cons_zero,List.set_cons_succ,Bool.not_not,strP_eql,strP_neq,z3,z5,z11,z31]
     exact ⟨_,rfl⟩
   by_cases e22:oo=22
   · subst e22
     simp only [opsOf,fpart,part',Try.f11,Option.getD,List.getElem?_toArray,List.getElem?_cons_succ,List.getElem?_cons_zero] at hop
     injection hop with hop
     subst hop
     refine ⟨rfl,fun al=>?_⟩
     have d21:D 21=true:=hdep ⟨21,.data⟩ (by simp) rfl
     have z46:getT (setsD e D (inL j u f t)) 46=.bp 1 (j * 6):=getT_on e D 21 46 _ d21 _ (by unfold inL;simp) hpw
     rw [<- setsD_add e D 22 47 (.bp 1 (j * 6+4)) hD _ (by unfold inL;simp) hpw]
     rw [inB_ne l j f t u ex D 22 (by decide)]
     generalize inB l j f t u ex D=X at *
     generalize setsD e D (inL j u f t)=E at *
     obtain ⟨ev,eo,so,co,⟨hev,hco,heo,hso⟩,R⟩:=RULES0 CC
     rw [<- hso]
     simp (maxSteps:=5000000) only [SA,SB,SD,R,SF,SG,seval,TG,SE,SC,UTT,ZCT,RV,dynR,nchP,List.getElem?_concat_length,storeR,storeK,laid,ss1,List.set_cons_zero,List.set_cons_succ,Bool.not_not,strP_eql,strP_neq,z3,z5,z11,z46]
     exact ⟨_,rfl⟩
   by_cases e23:oo=23
   · subst e23
     simp only [opsOf,fpart,part',Try.f11,Option.getD,List.getElem?_toArray,List.getElem?_cons_succ,List.getElem?_cons_zero] at hop
     injection hop with hop
     subst hop
     refine ⟨rfl,fun al=>?_⟩
     have d22:D 22=true:=hdep ⟨22,.data⟩ (by simp) rfl
     have z47:getT (setsD e D (inL j u f t)) 47=.bp 1 (j * 6+4):=getT_on e D 22 47 _ d22 _ (by unfold inL;simp) hpw
     have d11:D 11=true:=hdep ⟨11,.data⟩ (by simp) rfl
     have z39:getT (setsD e D (inL j u f t)) 39=.int .i64 (lim t):=getT_on e D 11 39 _ d11 _ (by unfold inL;simp) hpw
     rw [setsD_skip e D 23 _ (by unfold inL;simp)]
     have hs:=inB_store (f:=f) (t:=t) (ex:=ex) (D:=D) hu 23 4 (.int .i64 (lim t)) (by decide) rfl (by unfold inU upC;rw [addD_self,addD_ne (show 14≠23 by decide),addD_ne (show 17≠23 by decide),addD_ne (show 20≠23 by decide)] <;> rfl)
     generalize inB l j f t u ex (addD D 23)=X2 at *
     generalize inB l j f t u ex D=X at *
     generalize setsD e D (inL j u f t)=E at *
     obtain ⟨ev,eo,so,co,⟨hev,hco,heo,hso⟩,R⟩:=RULES0 CC
     rw [<- hso]
     simp (maxSteps:=5000000) only [SA,SB,SD,R,SF,SG,seval,TG,SE,SC,UTT,ZCT,RV,dynR,nchP,List.getElem?_concat_length,storeR,storeK,laid,ss1,List.set_cons_zero,List.set_cons_succ,Bool.not_not,strP_eql,strP_neq,z3,z5,z11,z47,z39,hs]
     exact ⟨_,rfl⟩
   omega
 · have hsz:=size_in
   have hd:∀ j,j < 24->D j=true:=fun j hj=>hD j (by rw [hsz];exact hj)
   unfold inL inB inU
   simp only [setsD,hd 0 (by decide),hd 1 (by decide),hd 2 (by decide),hd 3 (by decide),hd 4 (by decide),hd 5 (by decide),hd 6 (by decide),hd 7 (by decide),hd 8 (by decide),hd 9 (by decide),hd 10 (by decide),hd 11 (by decide),hd 12 (by decide),hd 13 (by decide),hd 14 (by decide),hd 15 (by decide),hd 16 (by decide),hd 17 (by decide),hd 18 (by decide),hd 19 (by decide),hd 20 (by decide),hd 21 (by decide),hd 22 (by decide),hd 23 (by decide),if_true]
 · exact getT_off e _ 9 _ (by unfold inL;simp)
def ovU (u:Up) (D:Nat->Bool):Up:=⟨u.dv,if D 8 then 5 else u.st,if D 11 then u.pv else u.vr,u.pv,u.sn,u.hv⟩
theorem ovU_ne (u:Up) (D:Nat->Bool) (i:Nat) (h:i≠8∧i≠11):ovU u (addD D i)=ovU u D:=by
 unfold ovU
 rw [addD_ne (Ne.symm h.1),addD_ne (Ne.symm h.2)]
def ovB (l:List Up) (j:Nat) (u:Up) (B:List PBox) (D:Nat->Bool):List PBox:=B.set 0 (.cells 41 (ucells (l.set j (ovU u D))))
theorem ovB_ne (l:List Up) (j:Nat) (u:Up) (B:List PBox) (D:Nat->Bool) (i:Nat) (h:i≠8∧i≠11):ovB l j u B (addD D i)=ovB l j u B D:=by
 unfold ovB;rw [ovU_ne u D i h]
theorem ovB_store {l:List Up} {j:Nat} {u:Up} {B:List PBox} {c:PBox} (h0:B[0]?=some c) {D:Nat->Bool} (hu:l[j]?=some u) (i k:Nat) (v:PV) (hk:k < 6) (hv:v.one=true) (h:upC (ovU u (addD D i))=(upC (ovU u D)).set k v) :
 storeCellsP (ovB l j u B D) 0 (j * 6+k) [v]=some (ovB l j u B (addD D i)):=by
 unfold ovB
 have hb:(B.set 0 (.cells 41 (ucells (l.set j (ovU u D)))))[0]?=some (.cells 41 (ucells (l.set j (ovU u D)))):=List.getElem?_set_self (List.getElem?_eq_some_iff.1 h0).1
 have h1:=uc_store hb j k _ (ovU u (addD D i)) v (List.getElem?_set_self (List.getElem?_eq_some_iff.1 hu).1) hk hv h
 rw [List.set_set,List.set_set] at h1
 exact h1
theorem no_ov:drawOK CC (opsOf (fpart Try.f21 [1,1,0,1,0,0,1,1,0,0,1,1,0]))=false:=by kernel_rfl
theorem back_ov:backB (opsOf (fpart Try.f21 [1,1,0,1,0,0,1,1,0,0,1,1,0]))=true:=by kernel_rfl
theorem size_ov:(opsOf (fpart Try.f21 [1,1,0,1,0,0,1,1,0,0,1,1,0])).size=12:=by kernel_rfl
def ovL (j n q:Nat) (u:Up):List (Nat×Nat×PV):=[(0,29,.rs 0 n),(1,30,.int .i64 (j:Nat)),(2,31,.rs 0 n),(3,32,.int .i64 (j:Nat)),(4,33,.bp q 3),(5,34,.int .i64 u.pv),(6,35,.bp 0 (j * 6)),(7,36,.bp 0 (j * 6+1)),(9,37,.bp 0 (j * 6)),(10,38,.bp 0 (j * 6+2))]
theorem ovL_pw (j n q:Nat) (u:Up):(ovL j n q u).Pairwise (fun x y=>x.1≠y.1∧x.2.1≠y.2.1):=by unfold ovL;simp
theorem draw_ov {l:List Up} {j n q:Nat} {u:Up} (B:List PBox) (e:List PV) (hu:l[j]?=some u) (h0:B[0]?=some (.cells 41 (ucells l))) (hq0:q≠0) (hbq:B[q]?=some (.cells 41 (upC u))) (hn:(j:Int) < (n:Int)) (h5:getT e 5=.rs 0 n) (h6:getT e 6=.int .i64 (j:Nat)) (h7:getT e 7=.bp q 0) :
 ∃ e',drawAll CC (callL CC) (opsOf (fpart Try.f21 [1,1,0,1,0,0,1,1,0,0,1,1,0])) ⟨e,B⟩=some (.normal,⟨e',B.set 0 (.cells 41 (ucells (l.set j ⟨u.dv,5,u.pv,u.pv,u.sn,u.hv⟩)))⟩)∧∀ t,t < 29->getT e' t=getT e t:=by
 refine ⟨_,drawAll_states (e0:=e) (L:=ovL j n q u) (bxOf:=ovB l j u B) (orders_all _) (orders_ne back_ov) (fun D oo op hop hD hdep hcl=>?_) (by unfold ovL ovB;simp only [setsD,ovU,Bool.false_eq_true,if_false];rw [lset_same hu,set_same h0]) (r:=⟨setsD e (fun _=>true) (ovL j n q u),ovB l j u B (fun _=>true)⟩) (fun D hD=>?_),?_⟩
 · have hj:oo < 12:=by
    have:=(Array.getElem?_eq_some_iff.1 hop).1
    rw [size_ov] at this
    exact this
   have hpw:=ovL_pw j n q u
   have z5:getT (setsD e D (ovL j n q u)) 5=.rs 0 n:=by rw [getT_off e D 5 _ (by unfold ovL;simp)];exact h5
   have z6:getT (setsD e D (ovL j n q u)) 6=.int .i64 (j:Nat):=by rw [getT_off e D 6 _ (by unfold ovL;simp)];exact h6
   have z7:getT (setsD e D (ovL j n q u)) 7=.bp q 0:=by rw [getT_off e D 7 _ (by unfold ovL;simp)];exact h7
   have hi0:¬ ((j:Int) < 0):=by omega
   have hnn:j < n:=by omega
   by_cases e0:oo=0
   · subst e0
     simp only [opsOf,fpart,part',Try.f21,Option.getD,List.getElem?_toArray,List.getElem?_cons_succ,List.getElem?_cons_zero] at hop
     injection hop with hop
     subst hop
     refine ⟨rfl,fun al=>?_⟩
     rw [<- setsD_add e D 0 29 (.rs 0 n) hD _ (by unfold ovL;simp) hpw]
     rw [ovB_ne l j u B D 0 (by decide)]
     generalize ovB l j u B D=X at *
     generalize setsD e D (ovL j n q u)=E at *
     obtain ⟨ev,eo,so,co,⟨hev,hco,heo,hso⟩,R⟩:=RULES0 CC
     rw [<- hso]
     simp (maxSteps:=5000000) only [SA,SB,SD,R,SF,SG,seval,TG,SE,SC,UTT,ZCT,RV,dynR,nchP,List.getElem?_concat_length,storeR,storeK,laid,ss1,List.set_cons_zero,List.set_cons_succ,Bool.not_not,strP_eql,strP_neq,z5,z6,z7]
     exact ⟨_,rfl⟩
   by_cases e1:oo=1
   · subst e1
     simp only [opsOf,fpart,part',Try.f21,Option.getD,List.getElem?_toArray,List.getElem?_cons_succ,List.getElem?_cons_zero] at hop
     injection hop with hop
     subst hop
     refine ⟨rfl,fun al=>?_⟩
     rw [<- setsD_add e D 1 30 (.int .i64 (j:Nat)) hD _ (by unfold ovL;simp) hpw]
     rw [ovB_ne l j u B D 1 (by decide)]
     generalize ovB l j u B D=X at *
     generalize setsD e D (ovL j n q u)=E at *
     obtain ⟨ev,eo,so,co,⟨hev,hco,heo,hso⟩,R⟩:=RULES0 CC
     rw [<- hso]
     simp (maxSteps:=5000000) only [SA,SB,SD,R,SF,SG,seval,TG,SE,SC,UTT,ZCT,RV,dynR,nchP,List.getElem?_concat_length,storeR,storeK,laid,ss1,List.set_cons_zero,List.set_cons_succ,Bool.not_not,strP_eql,strP_neq,z5,z6,z7]
     exact ⟨_,rfl⟩
   by_cases e2:oo=2
   · subst e2
     simp only [opsOf,fpart,part',Try.f21,Option.getD,List.getElem?_toArray,List.getElem?_cons_succ,List.getElem?_cons_zero] at hop
     injection hop with hop
     subst hop
     refine ⟨rfl,fun al=>?_⟩
     rw [<- setsD_add e D 2 31 (.rs 0 n) hD _ (by unfold ovL;simp) hpw]
     rw [ovB_ne l j u B D 2 (by decide)]
     generalize ovB l j u B D=X at *
     generalize setsD e D (ovL j n q u)=E at *
     obtain ⟨ev,eo,so,co,⟨hev,hco,heo,hso⟩,R⟩:=RULES0 CC
     rw [<- hso]
     simp (maxSteps:=5000000) only [SA,SB,SD,R,SF,SG,seval,TG,SE,SC,UTT,ZCT,RV,dynR,nchP,List.getElem?_concat_length,storeR,storeK,laid,ss1,List.set_cons_zero,List.set_cons_succ,Bool.not_not,strP_eql,strP_neq,z5,z6,z7]
     exact ⟨_,rfl⟩
   by_cases e3:oo=3
   · subst e3
     simp only [opsOf,fpart,part',Try.f21,Option.getD,List.getElem?_toArray,List.getElem?_cons_succ,List.getElem?_cons_zero] at hop
     injection hop with hop
     subst hop
     refine ⟨rfl,fun al=>?_⟩
     rw [<- setsD_add e D 3 32 (.int .i64 (j:Nat)) hD _ (by unfold ovL;simp) hpw]
     rw [ovB_ne l j u B D 3 (by decide)]
     generalize ovB l j u B D=X at *
     generalize setsD e D (ovL j n q u)=E at *
     obtain ⟨ev,eo,so,co,⟨hev,hco,heo,hso⟩,R⟩:=RULES0 CC
     rw [<- hso]
     simp (maxSteps:=5000000) only [SA,SB,SD,R,SF,SG,seval,TG,SE,SC,UTT,ZCT,RV,dynR,nchP,List.getElem?_concat_length,storeR,storeK,laid,ss1,List.set_cons_zero,List.set_cons_succ,Bool.not_not,strP_eql,strP_neq,z5,z6,z7]
     exact ⟨_,rfl⟩
   by_cases e4:oo=4
   · subst e4
     simp only [opsOf,fpart,part',Try.f21,Option.getD,List.getElem?_toArray,List.getElem?_cons_succ,List.getElem?_cons_zero] at hop
     injection hop with hop
     subst hop
     refine ⟨rfl,fun al=>?_⟩
     rw [<- setsD_add e D 4 33 (.bp q 3) hD _ (by unfold ovL;simp) hpw]
     rw [ovB_ne l j u B D 4 (by decide)]
     generalize ovB l j u B D=X at *
     generalize setsD e D (ovL j n q u)=E at *
     obtain ⟨ev,eo,so,co,⟨hev,hco,heo,hso⟩,R⟩:=RULES0 CC
     rw [<- hso]
     simp (maxSteps:=5000000) only [SA,SB,SD,R,SF,SG,seval,TG,SE,SC,UTT,ZCT,RV,dynR,nchP,List.getElem?_concat_length,storeR,storeK,laid,ss1,List.set_cons_zero,List.set_cons_succ,Bool.not_not,strP_eql,strP_neq,z5,z6,z7]
     exact ⟨_,rfl⟩
   by_cases e5:oo=5
   · subst e5
     simp only [opsOf,fpart,part',Try.f21,Option.getD,List.getElem?_toArray,List.getElem?_cons_succ,List.getElem?_cons_zero] at hop
     injection hop with hop
     subst hop
     refine ⟨rfl,fun al=>?_⟩
     have d4:D 4=true:=hdep ⟨4,.data⟩ (by simp) rfl
     have z33:getT (setsD e D (ovL j n q u)) 33=.bp q 3:=getT_on e D 4 33 _ d4 _ (by unfold ovL;simp) hpw
     rw [<- setsD_add e D 5 34 (.int .i64 u.pv) hD _ (by unfold ovL;simp) hpw]
     rw [ovB_ne l j u B D 5 (by decide)]
     have hX:(ovB l j u B D)[q]?=some (.cells 41 (upC u)):=by unfold ovB;rw [List.getElem?_set_ne (by omega)];exact hbq
     unfold upC at hX
     generalize ovB l j u B D=X at *
     generalize setsD e D (ovL j n q u)=E at *
     obtain ⟨ev,eo,so,co,⟨hev,hco,heo,hso⟩,R⟩:=RULES0 CC
     rw [<- hso]
     simp (maxSteps:=5000000) only [SA,SB,SD,R,SF,SG,seval,TG,SE,SC,UTT,ZCT,RV,dynR,nchP,List.getElem?_concat_length,storeR,storeK,laid,ss1,List.set_cons_zero,List.set_cons_succ,Bool.not_not,strP_eql,strP_neq,z5,z6,z7,z33,hX]
     exact ⟨_,rfl⟩
   by_cases e6:oo=6
   · subst e6
     simp only [opsOf,fpart,part',Try.f21,Option.getD,List.getElem?_toArray,List.getElem?_cons_succ,List.getElem?_cons_zero] at hop
     injection hop with hop
     subst hop
     refine ⟨rfl,fun al=>?_⟩
     have d0:D 0=true:=hdep ⟨0,.data⟩ (by simp) rfl
     have z29:getT (setsD e D (ovL j n q u)) 29=.rs 0 n:=getT_on e D 0 29 _ d0 _ (by unfold ovL;simp) hpw
     have d1:D 1=true:=hdep ⟨1,.data⟩ (by simp) rfl
     have z30:getT (setsD e D (ovL j n q u)) 30=.int .i64 (j:Nat):=getT_on e D 1 30 _ d1 _ (by unfold ovL;simp) hpw
     rw [<- setsD_add e D 6 35 (.bp 0 (j * 6)) hD _ (by unfold ovL;simp) hpw]
     rw [ovB_ne l j u B D 6 (by decide)]
     generalize ovB l j u B D=X at *
     generalize setsD e D (ovL j n q u)=E at *
     obtain ⟨ev,eo,so,co,⟨hev,hco,heo,hso⟩,R⟩:=RULES0 CC
     rw [<- hso]
     simp (maxSteps:=5000000) only [SA,SB,SD,R,SF,SG,seval,TG,SE,SC,UTT,ZCT,RV,dynR,nchP,List.getElem?_concat_length,storeR,storeK,laid,ss1,List.set_cons_zero,List.set_cons_succ,Bool.not_not,strP_eql,strP_neq,z5,z6,z7,z29,z30,hi0,hn,hnn]
     exact ⟨_,rfl⟩
   by_cases e7:oo=7
   · subst e7
     simp only [opsOf,fpart,part',Try.f21,Option.getD,List.getElem?_toArray,List.getElem?_cons_succ,List.getElem?_cons_zero] at hop
     injection hop with hop
     subst hop
     refine ⟨rfl,fun al=>?_⟩
     have d6:D 6=true:=hdep ⟨6,.data⟩ (by simp) rfl
     have z35:getT (setsD e D (ovL j n q u)) 35=.bp 0 (j * 6):=getT_on e D 6 35 _ d6 _ (by unfold ovL;simp) hpw
     rw [<- setsD_add e D 7 36 (.bp 0 (j * 6+1)) hD _ (by unfold ovL;simp) hpw]
     rw [ovB_ne l j u B D 7 (by decide)]
     generalize ovB l j u B D=X at *
     generalize setsD e D (ovL j n q u)=E at *
     obtain ⟨ev,eo,so,co,⟨hev,hco,heo,hso⟩,R⟩:=RULES0 CC
     rw [<- hso]
     simp (maxSteps:=5000000) only [SA,SB,SD,R,SF,SG,seval,TG,SE,SC,UTT,ZCT,RV,dynR,nchP,List.getElem?_concat_length,storeR,storeK,laid,ss1,List.set_cons_zero,List.set_cons_succ,Bool.not_not,strP_eql,strP_neq,z5,z6,z7,z35]
     exact ⟨_,rfl⟩
   by_cases e8:oo=8
   · subst e8
     simp only [opsOf,fpart,part',Try.f21,Option.getD,List.getElem?_toArray,List.getElem?_cons_succ,List.getElem?_cons_zero] at hop
     injection hop with hop
     subst hop
     refine ⟨rfl,fun al=>?_⟩
     have d7:D 7=true:=hdep ⟨7,.data⟩ (by simp) rfl
     have z36:getT (setsD e D (ovL j n q u)) 36=.bp 0 (j * 6+1):=getT_on e D 7 36 _ d7 _ (by unfold ovL;simp) hpw
     rw [setsD_skip e D 8 _ (by unfold ovL;simp)]
     have hs:=ovB_store h0 (D:=D) hu 8 1 (.int .i64 5) (by decide) rfl (by unfold ovU upC;rw [addD_self,addD_ne (show 11≠8 by decide)] <;> rfl)
     generalize ovB l j u B (addD D 8)=X2 at *
     generalize ovB l j u B D=X at *
     generalize setsD e D (ovL j n q u)=E at *
     obtain ⟨ev,eo,so,co,⟨hev,hco,heo,hso⟩,R⟩:=RULES0 CC
     rw [<- hso]
     simp (maxSteps:=5000000) only [SA,SB,SD,R,SF,SG,seval,TG,SE,SC,UTT,ZCT,RV,dynR,nchP,List.getElem?_concat_length,storeR,storeK,laid,ss1,List.set_cons_zero,List.set_cons_succ,Bool.not_not,strP_eql,strP_neq,z5,z6,z7,z36,hs]
     exact ⟨_,rfl⟩
   by_cases e9:oo=9
   · subst e9
     simp only [opsOf,fpart,part',Try.f21,Option.getD,List.getElem?_toArray,List.getElem?_cons_succ,List.getElem?_cons_zero] at hop
     injection hop with hop
     subst hop
     refine ⟨rfl,fun al=>?_⟩
     have d2:D 2=true:=hdep ⟨2,.data⟩ (by simp) rfl
     have z31:getT (setsD e D (ovL j n q u)) 31=.rs 0 n:=getT_on e D 2 31 _ d2 _ (by unfold ovL;simp) hpw
     have d3:D 3=true:=hdep ⟨3,.data⟩ (by simp) rfl
     have z32:getT (setsD e D (ovL j n q u)) 32=.int .i64 (j:Nat):=getT_on e D 3 32 _ d3 _ (by unfold ovL;simp) hpw
     rw [<- setsD_add e D 9 37 (.bp 0 (j * 6)) hD _ (by unfold ovL;simp) hpw]
     rw [ovB_ne l j u B D 9 (by decide)]
     generalize ovB l j u B D=X at *
     generalize setsD e D (ovL j n q u)=E at *
     obtain ⟨ev,eo,so,co,⟨hev,hco,heo,hso⟩,R⟩:=RULES0 CC
     rw [<- hso]
     simp (maxSteps:=5000000) only [SA,SB,SD,R,SF,SG,seval,TG,SE,SC,UTT,ZCT,RV,dynR,nchP,List.getElem?_concat_length,storeR,storeK,laid,ss1,List.set_cons_zero,List.set_cons_succ,Bool.not_not,strP_eql,strP_neq,z5,z6,z7,z31,z32,hi0,hn,hnn]
     exact ⟨_,rfl⟩
   by_cases e10:oo=10
   · subst e10
     simp only [opsOf,fpart,part',Try.f21,Option.getD,List.getElem?_toArray,List.getElem?_cons_succ,List.getElem?_cons_zero] at hop
     injection hop with hop
     subst hop
     refine ⟨rfl,fun al=>?_⟩
     have d9:D 9=true:=hdep ⟨9,.data⟩ (by simp) rfl
     have z37:getT (setsD e D (ovL j n q u)) 37=.bp 0 (j * 6):=getT_on e D 9 37 _ d9 _ (by unfold ovL;simp) hpw
     rw [<- setsD_add e D 10 38 (.bp 0 (j * 6+2)) hD _ (by unfold ovL;simp) hpw]
     rw [ovB_ne l j u B D 10 (by decide)]
     generalize ovB l j u B D=X at *
     generalize setsD e D (ovL j n q u)=E at *
     obtain ⟨ev,eo,so,co,⟨hev,hco,heo,hso⟩,R⟩:=RULES0 CC
     rw [<- hso]
     simp (maxSteps:=5000000) only [SA,SB,SD,R,SF,SG,seval,TG,SE,SC,UTT,ZCT,RV,dynR,nchP,List.getElem?_concat_length,storeR,storeK,laid,ss1,List.set_cons_zero,List.set_cons_succ,Bool.not_not,strP_eql,strP_neq,z5,z6,z7,z37]
     exact ⟨_,rfl⟩
   by_cases e11:oo=11
   · subst e11
     simp only [opsOf,fpart,part',Try.f21,Option.getD,List.getElem?_toArray,List.getElem?_cons_succ,List.getElem?_cons_zero] at hop
     injection hop with hop
     subst hop
     refine ⟨rfl,fun al=>?_⟩
     have d10:D 10=true:=hdep ⟨10,.data⟩ (by simp) rfl
     have z38:getT (setsD e D (ovL j n q u)) 38=.bp 0 (j * 6+2):=getT_on e D 10 38 _ d10 _ (by unfold ovL;simp) hpw
     have d5:D 5=true:=hdep ⟨5,.data⟩ (by simp) rfl
     have z34:getT (setsD e D (ovL j n q u)) 34=.int .i64 u.pv:=getT_on e D 5 34 _ d5 _ (by unfold ovL;simp) hpw
     rw [setsD_skip e D 11 _ (by unfold ovL;simp)]
     have hs:=ovB_store h0 (D:=D) hu 11 2 (.int .i64 u.pv) (by decide) rfl (by unfold ovU upC;rw [addD_self,addD_ne (show 8≠11 by decide)] <;> rfl)
     generalize ovB l j u B (addD D 11)=X2 at *
     generalize ovB l j u B D=X at *
     generalize setsD e D (ovL j n q u)=E at *
     obtain ⟨ev,eo,so,co,⟨hev,hco,heo,hso⟩,R⟩:=RULES0 CC
     rw [<- hso]
     simp (maxSteps:=5000000) only [SA,SB,SD,R,SF,SG,seval,TG,SE,SC,UTT,ZCT,RV,dynR,nchP,List.getElem?_concat_length,storeR,storeK,laid,ss1,List.set_cons_zero,List.set_cons_succ,Bool.not_not,strP_eql,strP_neq,z5,z6,z7,z38,z34,hs]
     exact ⟨_,rfl⟩
   omega
 · have hsz:=size_ov
   have hd:∀ j,j < 12->D j=true:=fun j hj=>hD j (by rw [hsz];exact hj)
   unfold ovL ovB ovU
   simp only [setsD,hd 0 (by decide),hd 1 (by decide),hd 2 (by decide),hd 3 (by decide),hd 4 (by decide),hd 5 (by decide),hd 6 (by decide),hd 7 (by decide),hd 8 (by decide),hd 9 (by decide),hd 10 (by decide),hd 11 (by decide),if_true]
 · exact fun t ht=>getT_off e _ t _ (by unfold ovL;simp;omega)
end Go.HH
namespace Go.HH
open Go Go.Proofs
set_option maxRecDepth 100000
set_option maxHeartbeats 4000000
set_option linter.unusedSimpArgs false
set_option linter.unusedVariables false
theorem ok_rollout_Confirm:fnOK CC Try.f13 (Try.f13.body.getD .skip)=true:=by kernel_rfl
theorem fat_rollout_Confirm:CC.P.funcs[13]?=some Try.f13:=by kernel_rfl
def hvOK (u u':Up):Prop:=u'.hv=u.hv∨(1<=u'.hv.length∧u'.hv.length<=64)
def MvR (l cur:List Up):Prop:=cur.length=l.length∧∀ (j:Nat) (u:Up),l[j]?=some u->∃ u',cur[j]?=some u'∧(u'=u∨(u.st≠0∧u.st≠4∧u.st≠5∧u'.st≠0∧(u'.st=5->u'.vr=u'.pv)∧hvOK u u'))
theorem MvR.refl (l:List Up):MvR l l:=⟨rfl,fun j u h=>⟨u,h,.inl rfl⟩⟩
theorem MvR.set {l:List Up} {i:Nat} {u u2:Up} (hu:l[i]?=some u) (h0:u.st≠0) (h4:u.st≠4) (h5:u.st≠5) (h1:u2.st≠0) (hv:u2.st=5->u2.vr=u2.pv) (hh:hvOK u u2):MvR l (l.set i u2):=by
 refine ⟨List.length_set,fun j x hx=>?_⟩
 by_cases e:i=j
 · subst e
   rw [hu] at hx
   injection hx with hx
   subst hx
   exact ⟨u2,List.getElem?_set_self (List.getElem?_eq_some_iff.1 hu).1,.inr ⟨h0,h4,h5,h1,hv,hh⟩⟩
 · exact ⟨x,by rw [List.getElem?_set_ne e];exact hx,.inl rfl⟩
def PNm (B:List PBox) (t:Nat) (v:PV) (res:Option (Ex×St)):Prop:=∃ e',res=some (.normal,⟨e',B⟩)∧getT e' t=v
theorem PNm.of {dr:Array Oper->St->Option (Ex×St)} {O:Array Oper} {st:St} {B:List PBox} {t:Nat} {v:PV} {z:Option (Ex×St)} (hE:dr O st=z) (h:PNm B t v (dr O st)):PNm B t v z:=hE ▸ h
noncomputable def instF (l:List Up) (f:Fw) (dev t:Int):List Up:=
 if ckF f≠0 then l else if fdI l dev 2 < 0 then l else match l[(fdI l dev 2).toNat]? with
  | some u=>l.set (fdI l dev 2).toNat ⟨u.dv,3,f.vr,u.vr,lim t,u.hv⟩
  | none=>l
theorem instF_mv (l:List Up) (f:Fw) (dev t:Int):MvR l (instF l f dev t):=by
 unfold instF
 split
 · exact MvR.refl l
 · rcases fdI_or l dev 2 with h | ⟨j,u,h1,h2,h3⟩
   · rw [h,if_pos (by decide)];exact MvR.refl l
   · rw [h3,if_neg (by omega),Int.toNat_natCast,h1]
     simp only
     exact MvR.set h1 (by rw [h2];decide) (by rw [h2];decide) (by rw [h2];decide) (by simp) (by simp) (.inl rfl)
theorem okB_Install:fnOKB CC Try.f11 (Try.f11.body.getD .skip)=true:=by kernel_rfl
theorem noB_Install:fnOK CC Try.f11 (Try.f11.body.getD .skip)=false:=by kernel_rfl
theorem fat_Install:CC.P.funcs[11]?=some Try.f11:=by kernel_rfl
theorem call_Install (l:List Up) (hne:l≠[]) (hl:l.length<=1000000) (hh:∀ u ∈ l,u.hv.length<=1000000) (f:Fw) (dev t:Int):∃ bx,callL CC 11 [.sl (ups l),fwV f,.int .i64 dev,.int .i64 t] []=some (.ret (.sl (ups (instF l f dev t))),bx):=by
 rw [callL_enterTB (fn:=Try.f11) (c:=Try.f11.body.getD .skip) rfl rfl fat_Install rfl noB_Install okB_Install (Nat.le_of_ble_eq_true rfl)]
 have how:=op_own l hne hl hh [.cells 28 [.int .i64 f.vn,.int .i64 f.vr,.sl (ints f.sums)]]
 simp only [List.length_cons,List.length_nil,Nat.zero_add,List.cons_append,List.nil_append] at how
 obtain ⟨ex,hfi⟩:=op_find l hl 1 dev 2 [.cells 28 [.int .i64 f.vn,.int .i64 f.vr,.sl (ints f.sums)],.cells 41 (ucells l)] rfl
 have hck:=op_fwCheck f
 have hsp:=ups_pure l
 have hend0:=endQ_ups (bx:=[.cells 28 [.int .i64 f.vn,.int .i64 f.vr,.sl (ints f.sums)],.cells 41 (ucells l)]++ex) (id:=1) (l:=l) rfl
 have hfo:=fdI_or l dev 2
 unfold instF
 generalize ckF f=c at *
 generalize fdI l dev 2=r at *
 simp only [List.cons_append,List.nil_append] at hfi hend0
 have hsi:pureL (ints f.sums)=true:=pureL_ints f.sums
 obtain ⟨fa,fb,fv,hfn⟩:=FNs
 by_cases c0:c=0
 · rw [if_neg (fun h=>h c0)]
   have c1:(c != 0)=false:=by simp [c0]
   rcases hfo with rfl | ⟨j,u,hu,hst,rfl⟩
   · rw [if_pos (by decide)]
     have hm:((-1:Int) < 0):=by decide
     obtain ⟨vn,fvr,fs⟩:=f
     unfold fwV at *
     simp only at how hfi hend0 hsi hck ⊢
     generalize ups l=xs at *
     generalize ints fs=zs at *
     generalize ucells l=cs at *
     obtain ⟨dr,ev,eo,so,co,⟨hev,hco,heo,hdr⟩,R⟩:=RULESB CC
     rw [<- hev]
     rw [<- hco] at how hfi hck
     simp only [opsOf,fpart,part',Try.f11,Option.getD] at ⊢
     simp (maxSteps:=5000000) only [SA,SB,SD,R,SF,SG,SH,seval,TG,SE,SC,UTT,ZCT,RV,dynR,hfn,nchP,List.getElem?_concat_length,ss1,List.set_cons_zero,List.set_cons_succ,Bool.not_not,strP_eql,strP_neq,how,hfi,hck,hsp,hsi,hm,c1]
     rw [hend0]
     exact ⟨_,rfl⟩
   · rw [if_neg (by omega),Int.toNat_natCast,hu]
     simp only
     have hm:¬ ((j:Int) < 0):=by omega
     have hlt:=(List.getElem?_eq_some_iff.1 hu).1
     have hjl:(j:Int) < (l.length:Int):=by omega
     have hd:∀ e,getT e 3=.int .i64 t->getT e 5=.bp 0 0->getT e 11=.bp 1 (j * 6)->PNm (.cells 28 [.int .i64 f.vn,.int .i64 f.vr,.sl (ints f.sums)] :: .cells 41 (ucells (l.set j ⟨u.dv,3,f.vr,u.vr,lim t,u.hv⟩)) :: ex) 9 (getT e 9) (drawAll CC (callL CC) (opsOf (fpart Try.f11 [1,1,1,1,1,0])) ⟨e,.cells 28 [.int .i64 f.vn,.int .i64 f.vr,.sl (ints f.sums)] :: .cells 41 (ucells l) :: ex⟩):=fun e h3 h5 h11=>draw_in ex e hu h3 h5 h11
     simp only [<- drawM_all no_in] at hd
     have hend1:=endQ_ups (bx:=.cells 28 [.int .i64 f.vn,.int .i64 f.vr,.sl (ints f.sums)] :: .cells 41 (ucells (l.set j ⟨u.dv,3,f.vr,u.vr,lim t,u.hv⟩)) :: ex) (id:=1) (l:=l.set j ⟨u.dv,3,f.vr,u.vr,lim t,u.hv⟩) rfl
     rw [List.length_set] at hend1
     obtain ⟨vn,fvr,fs⟩:=f
     unfold fwV at *
     simp only at how hfi hend0 hsi hck hd hend1 ⊢
     generalize ups (l.set j _)=xs2 at *
     generalize ucells (l.set j _)=cs2 at *
     generalize ups l=xs at *
     generalize ints fs=zs at *
     generalize ucells l=cs at *
     obtain ⟨dr,ev,eo,so,co,⟨hev,hco,heo,hdr⟩,R⟩:=RULESB CC
     rw [<- hev]
     rw [<- hco] at how hfi hck
     rw [<- hdr] at hd
     simp only [opsOf,fpart,part',Try.f11,Option.getD] at⊢hd
     simp (maxSteps:=5000000) only [SA,SB,SD,R,SF,SG,seval,TG,SE,SC,UTT,ZCT,RV,dynR,hfn,nchP,List.getElem?_concat_length,storeR,storeK,laid,ss1,List.set_cons_zero,List.set_cons_succ,Bool.not_not,strP_eql,strP_neq,how,hfi,hck,hsp,hsi,hm,c1,hlt,hjl]
     generalize hE:dr _ _=z
     obtain ⟨e',he,g9⟩:=PNm.of hE (hd _ (by simp (maxSteps:=5000000) only [SA,SB,SD,R,SF,seval] <;> rfl) (by simp (maxSteps:=5000000) only [SA,SB,SD,R,SF,seval] <;> rfl) (by simp (maxSteps:=5000000) only [SA,SB,SD,R,SF,seval] <;> rfl))
     simp (maxSteps:=5000000) only [SA,SB,SD,R,SF,seval] at g9
     subst he
     clear hd hE
     simp (maxSteps:=5000000) only [SA,SB,SD,R,SF,SG,seval,TG,SE,SC,UTT,ZCT,RV,dynR,hfn,nchP,List.getElem?_concat_length,storeR,storeK,laid,ss1,List.set_cons_zero,List.set_cons_succ,Bool.not_not,strP_eql,strP_neq,g9]
     rw [hend1]
     exact ⟨_,rfl⟩
 · rw [if_pos c0]
   have c1:(c != 0)=true:=by simpa using c0
   obtain ⟨vn,fvr,fs⟩:=f
   unfold fwV at *
   simp only at how hfi hend0 hsi hck ⊢
   generalize ups l=xs at *
   generalize ints fs=zs at *
   generalize ucells l=cs at *
   obtain ⟨dr,ev,eo,so,co,⟨hev,hco,heo,hdr⟩,R⟩:=RULESB CC
   rw [<- hev]
   rw [<- hco] at how hfi hck
   simp only [opsOf,fpart,part',Try.f11,Option.getD] at ⊢
   simp (maxSteps:=5000000) only [SA,SB,SD,R,SF,SG,SH,seval,TG,SE,SC,UTT,ZCT,RV,dynR,hfn,nchP,List.getElem?_concat_length,ss1,List.set_cons_zero,List.set_cons_succ,Bool.not_not,strP_eql,strP_neq,how,hfi,hck,hsp,hsi,c1]
   rw [hend0]
   exact ⟨_,rfl⟩
theorem op_Install (l:List Up) (hne:l≠[]) (hl:l.length<=1000000) (hh:∀ u ∈ l,u.hv.length<=1000000) (f:Fw) (dev t:Int) (bx):callOp CC (callL CC) 11 [.sl (ups l),fwV f,.int .i64 dev,.int .i64 t] bx=some (.ret (.sl (ups (instF l f dev t))),bx):=by
 obtain ⟨bx',h2⟩:=call_Install l hne hl hh f dev t
 exact callOp_of rfl (by simp only [SA,ups_pure,fwV_pure,Bool.and_true]) h2 (ups_pure _)
theorem call_Confirm (l:List Up) (hne:l≠[]) (hl:l.length<=1000000) (hh:∀ u ∈ l,u.hv.length<=1000000) (dev:Int) (ok:Bool) (t:Int):∃ cur,MvR l cur∧∃ bx,callL CC 13 [.sl (ups l),.int .i64 dev,.bool ok,.int .i64 t] []=some (.ret (.sl (ups cur)),bx):=by
 rw [callL_enterT (fn:=Try.f13) (c:=Try.f13.body.getD .skip) rfl rfl fat_rollout_Confirm rfl ok_rollout_Confirm (Nat.le_of_ble_eq_true rfl)]
 have how:=op_own l hne hl hh []
 simp only [List.length_nil,List.nil_append] at how
 obtain ⟨ex,hfi⟩:=op_find l hl 0 dev 3 [.cells 41 (ucells l)] rfl
 have hsp:=ups_pure l
 have hend0:=endQ_ups (bx:=[.cells 41 (ucells l)]++ex) (id:=0) (l:=l) rfl
 have hfo:=fdI_or l dev 3
 generalize fdI l dev 3=r at *
 simp only [List.cons_append,List.nil_append] at hfi hend0
 obtain ⟨fa,fb,fv,hfn⟩:=FNs
 rcases hfo with rfl | ⟨j,u,hu,hst,rfl⟩
 · refine ⟨l,MvR.refl l,?_⟩
   have hm:((-1:Int) < 0):=by decide
   generalize ups l=xs at *
   generalize ucells l=cs at *
   obtain ⟨ev,eo,so,co,⟨hev,hco⟩,R⟩:=RULES CC;rw [<- hev]
   rw [<- hco] at how hfi
   simp only [fpart,part',Try.f13,Option.getD]
   simp (maxSteps:=5000000) only [SA,SB,SD,R,SF,SG,SH,seval,TG,SE,SC,UTT,ZCT,RV,dynR,hfn,nchP,List.getElem?_concat_length,ss1,List.set_cons_zero,List.set_cons_succ,Bool.not_not,strP_eql,strP_neq,how,hfi,hsp,hm]
   rw [hend0]
   exact ⟨_,rfl⟩
 · have hm:¬ ((j:Int) < 0):=by omega
   have hlt:=(List.getElem?_eq_some_iff.1 hu).1
   have hjl:(j:Int) < (l.length:Int):=by omega
   obtain ⟨rest,d0,d00,d1,d2,d3,d4,d5⟩:=uc_rd hu
   obtain ⟨dv,st,vr,pv,sn,hv⟩:=u
   simp only at hst d2 d3 d4
   subst hst
   cases ok with
   | false=>
    refine ⟨l.set j ⟨dv,5,pv,pv,sn,hv⟩,MvR.set hu (by simp) (by simp) (by simp) (by simp) (by simp) (.inl rfl),?_⟩
    have hs1:=uc_store (bx:=.cells 41 (ucells l) :: ex) (id:=0) rfl j 1 _ ⟨dv,5,vr,pv,sn,hv⟩ (.int .i64 5) hu (by decide) rfl rfl
    have hu2:(l.set j ⟨dv,5,vr,pv,sn,hv⟩)[j]?=some ⟨dv,5,vr,pv,sn,hv⟩:=List.getElem?_set_self hlt
    have hs2:=uc_store (bx:=.cells 41 (ucells (l.set j ⟨dv,5,vr,pv,sn,hv⟩)) :: ex) (id:=0) rfl j 2 _ ⟨dv,5,pv,pv,sn,hv⟩ (.int .i64 pv) hu2 (by decide) rfl rfl
    rw [List.set_set] at hs2
    simp only [List.set_cons_zero] at hs1 hs2
    have hend1:=endQ_ups (bx:=.cells 41 (ucells (l.set j ⟨dv,5,pv,pv,sn,hv⟩)) :: ex) (id:=0) (l:=l.set j ⟨dv,5,pv,pv,sn,hv⟩) rfl
    rw [List.length_set] at hend1
    generalize ups (l.set j _)=xs2 at *
    generalize ucells (l.set j ⟨dv,5,vr,pv,sn,hv⟩)=cs1 at *
    generalize ucells (l.set j ⟨dv,5,pv,pv,sn,hv⟩)=cs2 at *
    generalize bos hv=ys at *
    generalize ups l=xs at *
    generalize ucells l=cs at *
    obtain ⟨ev,eo,so,co,⟨hev,hco⟩,R⟩:=RULES CC;rw [<- hev]
    rw [<- hco] at how hfi
    simp only [fpart,part',Try.f13,Option.getD]
    simp (maxSteps:=5000000) only [SA,SB,SD,R,SF,SG,seval,TG,SE,SC,UTT,ZCT,RV,dynR,hfn,nchP,List.getElem?_concat_length,storeR,storeK,laid,ss1,List.set_cons_zero,List.set_cons_succ,Bool.not_not,strP_eql,strP_neq,how,hfi,hsp,hm,hlt,hjl,d3,hs1,hs2]
    rw [hend1]
    exact ⟨_,rfl⟩
   | true=>
    have hl1:=op_limit t
    have hl2:=op_limit sn
    by_cases c:IntKind.wrap .i64 (lim t - lim sn) ≥ 600
    · refine ⟨l.set j ⟨dv,4,vr,pv,sn,hv⟩,MvR.set hu (by simp) (by simp) (by simp) (by simp) (by simp) (.inl rfl),?_⟩
      have hs1:=uc_store (bx:=.cells 41 (ucells l) :: ex) (id:=0) rfl j 1 _ ⟨dv,4,vr,pv,sn,hv⟩ (.int .i64 4) hu (by decide) rfl rfl
      simp only [List.set_cons_zero] at hs1
      have hend1:=endQ_ups (bx:=.cells 41 (ucells (l.set j ⟨dv,4,vr,pv,sn,hv⟩)) :: ex) (id:=0) (l:=l.set j ⟨dv,4,vr,pv,sn,hv⟩) rfl
      rw [List.length_set] at hend1
      generalize ups (l.set j _)=xs2 at *
      generalize ucells (l.set j ⟨dv,4,vr,pv,sn,hv⟩)=cs1 at *
      generalize bos hv=ys at *
      generalize ups l=xs at *
      generalize ucells l=cs at *
      generalize lim t=lt at *
      generalize lim sn=ls at *
      obtain ⟨ev,eo,so,co,⟨hev,hco⟩,R⟩:=RULES CC;rw [<- hev]
      rw [<- hco] at how hfi hl1 hl2
      simp only [fpart,part',Try.f13,Option.getD]
      simp (maxSteps:=5000000) only [SA,SB,SD,R,SF,SG,seval,TG,SE,SC,UTT,ZCT,RV,dynR,hfn,nchP,List.getElem?_concat_length,storeR,storeK,laid,ss1,List.set_cons_zero,List.set_cons_succ,Bool.not_not,strP_eql,strP_neq,how,hfi,hsp,hm,hlt,hjl,d4,hs1,hl1,hl2,c]
      rw [hend1]
      exact ⟨_,rfl⟩
    · refine ⟨l,MvR.refl l,?_⟩
      generalize bos hv=ys at *
      generalize ups l=xs at *
      generalize ucells l=cs at *
      generalize lim t=lt at *
      generalize lim sn=ls at *
      obtain ⟨ev,eo,so,co,⟨hev,hco⟩,R⟩:=RULES CC;rw [<- hev]
      rw [<- hco] at how hfi hl1 hl2
      simp only [fpart,part',Try.f13,Option.getD]
      simp (maxSteps:=5000000) only [SA,SB,SD,R,SF,SG,seval,TG,SE,SC,UTT,ZCT,RV,dynR,hfn,nchP,List.getElem?_concat_length,storeR,storeK,laid,ss1,List.set_cons_zero,List.set_cons_succ,Bool.not_not,strP_eql,strP_neq,how,hfi,hsp,hm,hlt,hjl,d4,hl1,hl2,c]
      rw [hend0]
      exact ⟨_,rfl⟩
theorem op_Confirm (l:List Up) (hne:l≠[]) (hl:l.length<=1000000) (hh:∀ u ∈ l,u.hv.length<=1000000) (dev:Int) (ok:Bool) (t:Int):∃ cur,MvR l cur∧∀ bx,callOp CC (callL CC) 13 [.sl (ups l),.int .i64 dev,.bool ok,.int .i64 t] bx=some (.ret (.sl (ups cur)),bx):=by
 obtain ⟨cur,h1,bx',h2⟩:=call_Confirm l hne hl hh dev ok t
 exact ⟨cur,h1,fun bx=>callOp_of rfl (by simp only [SA,ups_pure,Bool.and_true]) h2 (ups_pure cur)⟩
end Go.HH
