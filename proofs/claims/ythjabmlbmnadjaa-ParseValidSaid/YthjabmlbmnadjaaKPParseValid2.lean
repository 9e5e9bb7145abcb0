/-
  What the law needs, packed: UT UV.
-/
import Derived.Test.YthjabmlbmnadjaaKPParseValid1
namespace Go.HH
open Go Go.Proofs
set_option maxRecDepth 100000
set_option maxHeartbeats 4000000
set_option linter.unusedSimpArgs false
set_option linter.unusedVariables false
theorem ok_L29_ParseValid:fnOK CC Try.f3 (Try.f3.body.getD .skip)=true:=by kernel_rfl
theorem fat_L29_ParseValid:CC.P.funcs[3]?=some Try.f3:=by kernel_rfl
theorem ok_L29_none:fnOK CC Try.f12 (Try.f12.body.getD .skip)=true:=by kernel_rfl
theorem fat_L29_none:CC.P.funcs[12]?=some Try.f12:=by kernel_rfl
theorem bldV0:buildP CC 29 []=some (.agg [.int .i64 0,.int .i64 0,.str []]):=by kernel_rfl
theorem bldK0:buildP CC 31 []=some (.agg [.int .i64 0,.str [],.str []]):=by kernel_rfl
theorem none_run (k n m:Int) (nm:List UInt8) (vk vn:Int) (vs:List UInt8) (dv:Int) (cl at_:List UInt8) (xs:List PV) (b1 b2 b3 b4 b5 b6 b7:Bool) (h1:(k == 0)=b1) (h2:(n == 0)=b2) (h3:(m == 0)=b3) (h4:strP .eql nm []=some (.bool b4)) (h5:eqP CC 100 29 (.agg [.int .i64 vk,.int .i64 vn,.str vs]) (.agg [.int .i64 0,.int .i64 0,.str []])=some b5) (h6:eqP CC 100 31 (.agg [.int .i64 dv,.str cl,.str at_]) (.agg [.int .i64 0,.str [],.str []])=some b6) (h7:((xs.length:Int) == 0)=b7) :
 ∃ bx,callL CC 12 [.agg [.int .i64 k,.int .i64 n,.int .i64 m,.str nm,.int .i64 vk,.int .i64 vn,.str vs,.int .i64 dv,.str cl,.str at_,.sl xs]] []=some (.ret (.bool (b1 && b2 && b3 && b4 && b5 && b6 && b7)),bx):=by
 rw [callL_enter (fn:=Try.f12) (c:=Try.f12.body.getD .skip) rfl rfl fat_L29_none rfl ok_L29_none (Nat.le_of_ble_eq_true rfl)]
 have hv:=bldV0
 have hk:=bldK0
 cases b1 with
 | false=>
  obtain ⟨ev,eo,so,co,⟨hev,hco⟩,R⟩:=RULES CC;rw [<- hev]
  simp only [fpart,part',Try.f12,Option.getD]
  simp only [S9,R,seval,ZC,nchP,List.set_cons_zero,List.set_cons_succ,h1,Bool.false_and]
  exact ⟨_,rfl⟩
 | true=>
  cases b2 with
  | false=>
   obtain ⟨ev,eo,so,co,⟨hev,hco⟩,R⟩:=RULES CC;rw [<- hev]
   simp only [fpart,part',Try.f12,Option.getD]
   simp only [S9,R,seval,ZC,nchP,List.set_cons_zero,List.set_cons_succ,h1,h2,Bool.false_and,Bool.true_and]
   exact ⟨_,rfl⟩
  | true=>
   cases b3 with
   | false=>
    obtain ⟨ev,eo,so,co,⟨hev,hco⟩,R⟩:=RULES CC;rw [<- hev]
    simp only [fpart,part',Try.f12,Option.getD]
    simp only [S9,R,seval,ZC,nchP,List.set_cons_zero,List.set_cons_succ,h1,h2,h3,Bool.false_and,Bool.true_and]
    exact ⟨_,rfl⟩
   | true=>
    cases b4 with
    | false=>
     obtain ⟨ev,eo,so,co,⟨hev,hco⟩,R⟩:=RULES CC;rw [<- hev]
     simp only [fpart,part',Try.f12,Option.getD]
     simp only [S9,R,seval,ZC,nchP,List.set_cons_zero,List.set_cons_succ,h1,h2,h3,h4,Bool.false_and,Bool.true_and]
     exact ⟨_,rfl⟩
    | true=>
     cases b5 with
     | false=>
      obtain ⟨ev,eo,so,co,⟨hev,hco⟩,R⟩:=RULES CC;rw [<- hev]
      simp only [fpart,part',Try.f12,Option.getD]
      simp only [S9,R,seval,ZC,nchP,List.set_cons_zero,List.set_cons_succ,h1,h2,h3,h4,h5,hv,hk,eqgV,eqgK,Bool.false_and,Bool.true_and]
      exact ⟨_,rfl⟩
     | true=>
      cases b6 with
      | false=>
       obtain ⟨ev,eo,so,co,⟨hev,hco⟩,R⟩:=RULES CC;rw [<- hev]
       simp only [fpart,part',Try.f12,Option.getD]
       simp only [S9,R,seval,ZC,nchP,List.set_cons_zero,List.set_cons_succ,h1,h2,h3,h4,h5,h6,hv,hk,eqgV,eqgK,Bool.false_and,Bool.true_and]
       exact ⟨_,rfl⟩
      | true=>
       obtain ⟨ev,eo,so,co,⟨hev,hco⟩,R⟩:=RULES CC;rw [<- hev]
       simp only [fpart,part',Try.f12,Option.getD]
       simp only [S9,R,seval,ZC,nchP,List.set_cons_zero,List.set_cons_succ,h1,h2,h3,h4,h5,h6,h7,hv,hk,eqgV,eqgK,Bool.true_and]
       exact ⟨_,rfl⟩
theorem op_none (t:Tr):∃ b,(t=zT->b=true)∧∀ bx,callOp CC (callL CC) 12 [.agg (exC t)] bx=some (.ret (.bool b),bx):=by
 have ht:=exC_pure t
 obtain ⟨k,n,m,nm,⟨vk,vn,vs⟩,⟨dv,cl,at_⟩,kids⟩:=t
 obtain ⟨q,hq⟩:=none_run k n m nm vk vn vs dv cl at_ (trVs kids) _ _ _ _ _ _ _ rfl rfl rfl (strP_eql nm []) (eqVP vk 0 vn 0 vs []) (eqKP dv 0 cl [] at_ []) rfl
 refine ⟨(k == 0 && n == 0 && m == 0 && nm == [] && (vk == 0 && vn == 0 && vs == []) && (dv == 0 && cl == [] && at_ == []) && ((trVs kids).length:Int) == 0),fun h=>?_,fun bx=>?_⟩
 rotate_left
 · rw [exC_mk] at ht ⊢
   exact callOp_of rfl (by simp only [pureL_cons,PV.pure,ht,pureL_nil,Bool.and_self]) hq rfl
 · injection h with e1 e2 e3 e4 e5 e6 e7
   subst e1 e2 e3 e4 e7
   injection e5 with e5 e5'
   injection e5' with e5' e5''
   injection e6 with e6 e6'
   injection e6' with e6' e6''
   subst e5 e5' e5'' e6 e6' e6''
   rw [trVs_nil]
   rfl
theorem spV_cons (x:Sp):spV x=.agg (.int .i64 x.k :: .int .i64 x.key.1 :: .str x.key.2.1 :: .str x.key.2.2 :: .str x.nm :: exC x.ex):=rfl
theorem ckE (t:Tr) (h:shT t) (bx):callOp CC (callL CC) 11 [.agg (exC t)] bx=some (.ret (.int .i64 (ckT t)),bx):=by rw [<- trV_exC];exact op_expr_Check t h bx
def PVa (ls:PV) (i:Nat) (p7:PV) (bx:List PBox) (z:Option (Ex×St)):Prop:=∃ e',z=some (.exit 2,⟨e',bx⟩)∧getT e' 3=ls∧getT e' 6=.int .i64 (i:Int)∧getT e' 7=p7
theorem loop_Va (Lc:Code) (hL:Lc=fpart Try.f3 [1,1,1,1,1,0,1,0,0,1,0,0,1,1,0,1,0]) (l:List Rl) (i:Nat) (hi:i < l.length) (hl:l.length<=40) (hd:∀ k,(h:k < i)->(l[k]'(by omega)).nm≠l[i].nm) (id:Nat) (bx:List PBox) (hx:bx[id]?=some (.cells 37 (.str l[i].nm :: rlR l[i]))):∀ (m k:Nat) (e:List PV),k+m=i->getT e 3=.sl (l.map rlP)->getT e 6=.int .i64 (i:Int)->getT e 7=.bp id 0->getT e 8=.int .i64 (k:Int) ->
 PVa (.sl (l.map rlP)) i (.bp id 0) bx (evL CC Lc ⟨e,bx⟩):=by
 intro m
 induction m with
 | zero=>
  intro k e hk e3 e6 e7 e8
  rw [evL_at (fpart Try.f3 [1,1,1,1,1,0,1,0,0,1,0,0,1,1,0,1,0,0]) hL]
  have hc:¬ ((k:Int) < (i:Int)):=by omega
  generalize l.map rlP=qa at *
  obtain ⟨ev,eo,so,co,⟨hev,hco⟩,R⟩:=RULES CC;rw [<- hev]
  simp only [fpart,part',Try.f3,Option.getD]
  simp only [S9,R,seval,ZC,nchP,List.set_cons_zero,List.set_cons_succ,e3,e6,e7,e8,hc]
  exact ⟨_,rfl,by simp only [S7,R,seval,e3],by simp only [S7,R,seval,e6],by simp only [S7,R,seval,e7]⟩
 | succ m ih=>
  intro k e hk e3 e6 e7 e8
  rw [evL_at (fpart Try.f3 [1,1,1,1,1,0,1,0,0,1,0,0,1,1,0,1,0,0]) hL]
  have hc:((k:Int) < (i:Int)):=by omega
  have hk0:¬ ((k:Int) < 0):=by omega
  have gk:=rlP_get (l:=l) (i:=k) (by omega)
  have lk:=rlR_len (l[k]'(by omega))
  have li:=rlR_len l[i]
  have hne:=hd k (by omega)
  have hw1:=wrap_i64 (n:=(k:Int)+1) ⟨by omega,by omega⟩
  have key:=fun e=>ih (k+1) e (by omega)
  have cast1:((k+1:Nat):Int)=(k:Int)+1:=by omega
  rw [cast1] at key
  have he:strP .eql (l[k]'(by omega)).nm l[i].nm=some (.bool false):=by rw [strP_eql,beq_eq_false_iff_ne.2 hne]
  generalize rlR (l[k]'(by omega))=rk at *
  generalize (l[k]'(by omega)).nm=nk at *
  generalize rlR l[i]=ri at *
  generalize l[i].nm=ni at *
  generalize l.map rlP=qa at *
  obtain ⟨ev,eo,so,co,⟨hev,hco⟩,R⟩:=RULES CC;rw [<- hev]
  rw [<- hev] at key
  simp only [fpart,part',Try.f3,Option.getD]
  simp only [S9,R,seval,ZC,nchP,List.set_cons_zero,List.set_cons_succ,e3,e6,e7,e8,hc,hk0,gk,lk,li,he,hw1,hx]
  refine key _ ?_ ?_ ?_ ?_
  all_goals first | (simp only [S7,R,seval,e3,e6,e7,e8];done) | (simp only [S7,R,seval,e3,e6,e7,e8] <;> rfl)
def PVb (ls:PV) (i:Nat) (z:Option (Ex×St)):Prop:=∃ e' bx',z=some (.exit 4,⟨e',bx'⟩)∧getT e' 3=ls∧getT e' 6=.int .i64 (i:Int)
theorem loop_Vb (Lc:Code) (hL:Lc=fpart Try.f3 [1,1,1,1,1,0,1,0,0,1,0,0,1,1,1,1,0]) (ls:PV) (i:Nat) (rcx:List PV) (hr14:rcx.length=14) (ds:List Sp) (h8:ds.length<=8) (hso:∀ x ∈ ds,stOK x) (hsh:∀ x ∈ ds,shT x.ex) (id:Nat):∀ (m k:Nat) (e:List PV) (bx:List PBox),k+m=ds.length->bx[id]?=some (.cells 37 (rcx++[.sl (ds.map spV)]))->getT e 3=ls->getT e 6=.int .i64 (i:Int)->getT e 7=.bp id 0->getT e 9=.int .i64 (k:Int) ->
 PVb ls i (evL CC Lc ⟨e,bx⟩):=by
 have hlen15:∀ v:PV,(rcx++[v]).length=15:=fun v=>by rw [List.length_append,hr14];rfl
 have hdr:∀ v:PV,(rcx++[v]).drop 14=[v]:=fun v=>by rw [<- hr14,List.drop_left]
 intro m
 induction m with
 | zero=>
  intro k e bx hk hx e3 e6 e7 e9
  rw [evL_at (fpart Try.f3 [1,1,1,1,1,0,1,0,0,1,0,0,1,1,1,1,0,0]) hL]
  have hc:¬ ((k:Int) < (ds.length:Int)):=by omega
  have hln:(ds.map spV).length=ds.length:=List.length_map ..
  generalize ds.map spV=qs at *
  obtain ⟨ev,eo,so,co,⟨hev,hco⟩,R⟩:=RULES CC;rw [<- hev]
  simp only [fpart,part',Try.f3,Option.getD]
  simp only [S9,R,seval,ZC,nchP,List.set_cons_zero,List.set_cons_succ,e3,e6,e7,e9,hc,hx,hlen15,hdr,hln]
  exact ⟨_,_,rfl,by simp only [S7,R,seval,e3],by simp only [S7,R,seval,e6]⟩
 | succ m ih=>
  intro k e bx hk hx e3 e6 e7 e9
  rw [evL_at (fpart Try.f3 [1,1,1,1,1,0,1,0,0,1,0,0,1,1,1,1,0,0]) hL]
  have hc:((k:Int) < (ds.length:Int)):=by omega
  have hk0:¬ ((k:Int) < 0):=by omega
  have hln:(ds.map spV).length=ds.length:=List.length_map ..
  have hxk:ds[k]?=some (ds[k]'(by omega)):=by simp
  have hx':(ds.map spV)[k]?=some (spV (ds[k]'(by omega))):=by rw [List.getElem?_map,hxk];rfl
  have ho:=hso _ (List.getElem_mem (h:=(by omega:k < ds.length)))
  have hs:=hsh _ (List.getElem_mem (h:=(by omega:k < ds.length)))
  generalize ds[k]'(by omega)=x at *
  have hid:id < bx.length:=(List.getElem?_eq_some_iff.1 hx).1
  have hw1:=wrap_i64 (n:=(k:Int)+1) ⟨by omega,by omega⟩
  have key:=fun e y=>ih (k+1) e (bx++[y]) (by omega) (by rw [List.getElem?_append_left hid];exact hx)
  have cast1:((k+1:Nat):Int)=(k:Int)+1:=by omega
  rw [cast1] at key
  have b1:∀ y:PBox,(bx++[y])[bx.length]?=some y:=fun y=>by rw [List.getElem?_append_right (Nat.le_refl _),Nat.sub_self];rfl
  have b2:∀ y z:PBox,(bx++[y]).set bx.length z=bx++[z]:=fun y z=>by rw [List.set_append_right _ _ (Nat.le_refl _),Nat.sub_self];rfl
  obtain ⟨bn,hbn,hnone⟩:=op_none x.ex
  have hck:=ckE x.ex hs
  rw [spV_cons] at hx'
  generalize ds.map spV=qs at *
  obtain ⟨pk,⟨dv,cl,at_⟩,pn,ex⟩:=x
  unfold stOK at ho
  simp only at ho hbn hnone hck hx'
  rcases ho with ⟨rfl,h0⟩ | ⟨rfl,h0⟩ | ⟨h0,h1⟩
  · rw [h0] at hck
    obtain ⟨ev,eo,so,co,⟨hev,hco⟩,R⟩:=RULES CC;rw [<- hev]
    rw [<- hev] at key
    rw [<- hco] at hnone hck
    simp only [fpart,part',Try.f3,Option.getD]
    simp only [S9,R,seval,ZC,nchP,List.set_cons_zero,List.set_cons_succ,SX,e3,e6,e7,e9,hc,hk0,hx,hlen15,hdr,hln,hx',hw1,b1,b2,hnone,hck,PV.pure,pureL]
    refine key _ _ ?_ ?_ ?_ ?_
    all_goals first | (simp only [S7,R,seval,e3,e6,e7,e9];done) | (simp only [S7,R,seval,e3,e6,e7,e9] <;> rfl)
  · by_cases hb:bn=true
    · subst hb
      obtain ⟨ev,eo,so,co,⟨hev,hco⟩,R⟩:=RULES CC;rw [<- hev]
      rw [<- hev] at key
      rw [<- hco] at hnone hck
      simp only [fpart,part',Try.f3,Option.getD]
      simp only [S9,R,seval,ZC,nchP,List.set_cons_zero,List.set_cons_succ,SX,e3,e6,e7,e9,hc,hk0,hx,hlen15,hdr,hln,hx',hw1,b1,b2,hnone,hck,PV.pure,pureL]
      refine key _ _ ?_ ?_ ?_ ?_
      all_goals first | (simp only [S7,R,seval,e3,e6,e7,e9];done) | (simp only [S7,R,seval,e3,e6,e7,e9] <;> rfl)
    · have h0':ckT ex=0:=h0.resolve_left (fun h=>hb (hbn h))
      rw [h0'] at hck
      obtain rfl:bn=false:=by simpa using hb
      obtain ⟨ev,eo,so,co,⟨hev,hco⟩,R⟩:=RULES CC;rw [<- hev]
      rw [<- hev] at key
      rw [<- hco] at hnone hck
      simp only [fpart,part',Try.f3,Option.getD]
      simp only [S9,R,seval,ZC,nchP,List.set_cons_zero,List.set_cons_succ,SX,e3,e6,e7,e9,hc,hk0,hx,hlen15,hdr,hln,hx',hw1,b1,b2,hnone,hck,PV.pure,pureL]
      refine key _ _ ?_ ?_ ?_ ?_
      all_goals first | (simp only [S7,R,seval,e3,e6,e7,e9];done) | (simp only [S7,R,seval,e3,e6,e7,e9] <;> rfl)
  · have hb:=hbn h1
    subst hb
    have q1:(pk == 1)=false:=beq_eq_false_iff_ne.2 (by omega)
    have q2:(pk == 2)=false:=beq_eq_false_iff_ne.2 (by omega)
    have q3:pk > 2:=h0
    obtain ⟨ev,eo,so,co,⟨hev,hco⟩,R⟩:=RULES CC;rw [<- hev]
    rw [<- hev] at key
    rw [<- hco] at hnone hck
    simp only [fpart,part',Try.f3,Option.getD]
    simp only [S9,R,seval,ZC,nchP,List.set_cons_zero,List.set_cons_succ,SX,e3,e6,e7,e9,hc,hk0,hx,hlen15,hdr,hln,hx',hw1,b1,b2,hnone,hck,q1,q2,q3,PV.pure,pureL]
    refine key _ _ ?_ ?_ ?_ ?_
    all_goals first | (simp only [S7,R,seval,e3,e6,e7,e9];done) | (simp only [S7,R,seval,e3,e6,e7,e9] <;> rfl)
def PVo (z:Option (Ex×St)):Prop:=∃ e' bx',z=some (.exit 0,⟨e',bx'⟩)
theorem loop_Vo (Lc:Code) (hL:Lc=fpart Try.f3 [1,1,1,1,1,0,1,0]) (l:List Rl) (hl:l.length<=40) (hv:∀ x ∈ l,ruOK x) (hs:∀ x ∈ l,shR x) (hp:l.Pairwise fun x y=>x.nm≠y.nm):∀ (m i:Nat) (e:List PV) (bx:List PBox),i+m=l.length->getT e 3=.sl (l.map rlP)->getT e 6=.int .i64 (i:Int)->PVo (evL CC Lc ⟨e,bx⟩):=by
 intro m
 induction m with
 | zero=>
  intro i e bx hk e3 e6
  rw [evL_at (fpart Try.f3 [1,1,1,1,1,0,1,0,0]) hL]
  have hc:¬ ((i:Int) < (l.length:Int)):=by omega
  have hln:(l.map rlP).length=l.length:=List.length_map ..
  generalize l.map rlP=qa at *
  obtain ⟨ev,eo,so,co,⟨hev,hco⟩,R⟩:=RULES CC;rw [<- hev]
  simp only [fpart,part',Try.f3,Option.getD]
  simp only [S9,R,seval,ZC,nchP,List.set_cons_zero,List.set_cons_succ,e3,e6,hc,hln]
  exact ⟨_,_,rfl⟩
 | succ m ih=>
  intro i e bx hk e3 e6
  rw [evL_at (fpart Try.f3 [1,1,1,1,1,0,1,0,0]) hL]
  have hi:i < l.length:=by omega
  have hc:((i:Int) < (l.length:Int)):=by omega
  have hi0:¬ ((i:Int) < 0):=by omega
  have hln:(l.map rlP).length=l.length:=List.length_map ..
  have hw1:=wrap_i64 (n:=(i:Int)+1) ⟨by omega,by omega⟩
  have key:=fun e bx=>ih (i+1) e bx (by omega)
  have cast1:((i+1:Nat):Int)=(i:Int)+1:=by omega
  rw [cast1] at key
  have hx:l[i]?=some l[i]:=by simp
  have hx':(l.map rlP)[i]?=some (rlP l[i]):=by rw [List.getElem?_map,hx];rfl
  obtain ⟨v1,v2,v3,v4,v5,v6,v7,v8,v9⟩:=hv _ (List.getElem_mem hi)
  obtain ⟨s1,s2,s3,s4⟩:=hs _ (List.getElem_mem hi)
  have hd:∀ k,(h:k < i)->(l[k]'(by omega)).nm≠l[i].nm:=fun k h=>List.pairwise_iff_getElem.1 hp k i (by omega) hi h
  have hA:=fun Lc hL id bx hx e=>loop_Va Lc hL l i hi hl hd id bx hx i 0 e (by omega)
  have hB:=fun Lc hL ls rcx hr id e bx=>loop_Vb Lc hL ls i rcx hr l[i].dos v7 v9 s4 id l[i].dos.length 0 e bx (by omega)
  have hr14:(rcs l[i].nm l[i].pr (.sl (l[i].on.map tgV)) (.sl (l[i].dos.map spV)) l[i].ife).dropLast.length=14:=by
   obtain ⟨k,n,m,s,v,q,kids⟩:=l[i].ife
   rfl
  have hsp:rcs l[i].nm l[i].pr (.sl (l[i].on.map tgV)) (.sl (l[i].dos.map spV)) l[i].ife=(rcs l[i].nm l[i].pr (.sl (l[i].on.map tgV)) (.sl (l[i].dos.map spV)) l[i].ife).dropLast++[.sl (l[i].dos.map spV)]:=by
   obtain ⟨k,n,m,s,v,q,kids⟩:=l[i].ife
   rfl
  have hB2:=fun Lc hL ls id e bx hx=>hB Lc hL ls _ hr14 id e bx hx
  rw [<- hsp] at hB2
  have hA2:∀ (Lc:Code),Lc=fpart Try.f3 [1,1,1,1,1,0,1,0,0,1,0,0,1,1,0,1,0]->∀ (id:Nat) (bx:List PBox),bx[id]?=some (.cells 37 (rcs l[i].nm l[i].pr (.sl (l[i].on.map tgV)) (.sl (l[i].dos.map spV)) l[i].ife))->∀ e,getT e 3=.sl (l.map rlP)->getT e 6=.int .i64 (i:Int)->getT e 7=.bp id 0->getT e 8=.int .i64 ((0:Nat):Int)->PVa (.sl (l.map rlP)) i (.bp id 0) bx (evL CC Lc ⟨e,bx⟩):=fun Lc hL id bx hx e=>hA Lc hL id bx (by
   have:=rlP_cons l[i]
   unfold rlP at this
   injection this with this
   rw [hx,this]) e
  clear hA hB hr14 hsp hd hs hv hp ih
  have hval:=op_names_Valid l[i].nm (by have:=valB_len v1;omega)
  rw [v1] at hval
  have hck:=op_expr_Check l[i].ife s3
  rw [v8] at hck
  have on8:¬ ((l[i].on.length:Int) > 8):=by omega
  have on1:¬ ((l[i].on.length:Int) < 1):=by omega
  have do8:¬ ((l[i].dos.length:Int) > 8):=by omega
  have do1:¬ ((l[i].dos.length:Int) < 1):=by omega
  have p1:¬ (l[i].pr < 0):=by omega
  have p2:¬ (l[i].pr > 100):=by omega
  have lon:(l[i].on.map tgV).length=l[i].on.length:=List.length_map ..
  have ldo:(l[i].dos.map spV).length=l[i].dos.length:=List.length_map ..
  generalize hR:l[i]=r at *
  clear hR hx
  obtain ⟨nm,pr,on,ife,dos⟩:=r
  simp only at hA2 hB2 hval hck on8 on1 do8 do1 p1 p2 lon ldo
  generalize l.map rlP=qa at *
  unfold rlP at hx'
  simp only at hx'
  generalize on.map tgV=os at *
  generalize dos.map spV=ds at *
  have hpy:=fun t=>trVs_pure t
  obtain ⟨xk,xn,xm,xnm,xv,xkey,xkids⟩:=ife
  simp only [rcs] at hx' hA2 hB2
  unfold trV at hck
  have hpy:=trVs_pure xkids
  generalize trVs xkids=ys at *
  have b1:∀ y:PBox,(bx++[y])[bx.length]?=some y:=fun y=>by rw [List.getElem?_append_right (Nat.le_refl _),Nat.sub_self];rfl
  have b2:∀ y z:PBox,(bx++[y]).set bx.length z=bx++[z]:=fun y z=>by rw [List.set_append_right _ _ (Nat.le_refl _),Nat.sub_self];rfl
  have hA3:=fun Lc hL cs (h:cs=_)=>hA2 Lc hL bx.length (bx++[.cells 37 cs]) (by rw [b1,h])
  have hB3:=fun Lc hL ls e=>hB2 Lc hL ls bx.length e (bx++[.cells 37 _]) (b1 _)
  clear hA2 hB2 s1 s2 s3 s4 v1 v2 v3 v4 v5 v6 v7 v8 v9
  obtain ⟨ev,eo,so,co,⟨hev,hco⟩,R⟩:=RULES CC;rw [<- hev]
  rw [<- hev] at key hA3 hB3
  rw [<- hco] at hval hck
  simp only [fpart,part',Try.f3,Option.getD] at hA3 hB3 ⊢
  simp only [S9,R,seval,ZC,nchP,List.set_cons_zero,List.set_cons_succ,e3,e6,hc,hi0,hln,hx',b1,b2,hval,hck,on8,on1,do8,do1,p1,p2,lon,ldo,hpy,PV.pure,pureL]
  generalize hE:ev (Code.loop _) _=z
  have hP:PVa (.sl qa) i (.bp bx.length 0) (bx++[.cells 37 [.str nm,.int .i64 pr,.sl os,.int .i64 xk,.int .i64 xn,.int .i64 xm,.str xnm,.int .i64 xv.1,.int .i64 xv.2.1,.str xv.2.2,.int .i64 xkey.1,.str xkey.2.1,.str xkey.2.2,.sl ys,.sl ds]]) z:=by
   rw [<- hE]
   refine hA3 _ rfl _ rfl _ ?_ ?_ ?_ ?_
   all_goals first | (simp only [S7,R,seval,e3,e6];done) | (simp only [S7,R,seval,e3,e6] <;> rfl)
  clear hE hA3
  obtain ⟨e',h1,h3,h6,h7⟩:=hP
  subst h1
  simp only [S9,R,seval,ZC,nchP,List.set_cons_zero,List.set_cons_succ,h3,h6,h7]
  generalize hE:ev (Code.loop _) _=z
  have hP:PVb (.sl qa) i z:=by
   rw [<- hE]
   refine hB3 _ rfl _ _ ?_ ?_ ?_ ?_
   all_goals first | (simp only [S7,R,seval,h3,h6,h7];done) | (simp only [S7,R,seval,h3,h6,h7] <;> rfl)
  clear hE hB3
  obtain ⟨e'',bx'',k1,k3,k6⟩:=hP
  subst k1
  simp only [S9,R,seval,ZC,nchP,List.set_cons_zero,List.set_cons_succ,k3,k6,hw1]
  refine key _ _ ?_ ?_
  all_goals first | (simp only [S7,R,seval,k3,k6];done) | (simp only [S7,R,seval,k3,k6] <;> rfl)
end Go.HH
namespace Go.HH
open Go Go.Proofs
set_option maxRecDepth 100000
set_option maxHeartbeats 4000000
set_option linter.unusedSimpArgs false
set_option linter.unusedVariables false
theorem law_ParseValid (s:List UInt8) (_:s.length<=maxLen):∃ bx,callL CC 3 [.str s] []=some (.ret (.bool true),bx):=by
 have haw:=op_awake
 have hlen:=len_str s
 by_cases c1:3000 < s.length
 · have c1':(s.length:Int) > 3000:=by omega
   rw [callL_enter (fn:=Try.f3) (c:=Try.f3.body.getD .skip) rfl rfl fat_L29_ParseValid rfl ok_L29_ParseValid (Nat.le_of_ble_eq_true rfl)]
   obtain ⟨ev,eo,so,co,⟨hev,hco⟩,R⟩:=RULES CC;rw [<- hev]
   rw [<- hco] at haw
   simp only [fpart,part',Try.f3,Option.getD]
   simp only [S9,R,seval,ZC,nchP,List.set_cons_zero,List.set_cons_succ,hlen,c1',haw]
   exact ⟨_,rfl⟩
 have c1':¬ (s.length:Int) > 3000:=by omega
 have x1:=op_parse_Rules s (by omega)
 obtain ⟨a1,a2,a3⟩:=rulesA_le (s:=s) (by omega)
 obtain ⟨v1,v2⟩:=rulesA_valid (s:=s)
 obtain ⟨sh1,l1⟩:=rulesA_sh (s:=s) (by omega)
 by_cases d1:(rulesA s).2.2=0
 · have hat:=a3 d1
   rw [d1,hat] at x1
   have hloop:=fun Lc hL e bx=>loop_Vo Lc hL (rulesA s).1 l1 v1 sh1 v2 (rulesA s).1.length 0 e bx (by omega)
   have hla:((rulesA s).1.map rlP).length=(rulesA s).1.length:=List.length_map ..
   have h40:¬ (((rulesA s).1.length:Int) > 40):=by omega
   clear a1 a2 a3 v1 v2 sh1
   generalize (rulesA s).1.map rlP=qa at *
   generalize (rulesA s).1.length=la at *
   have n0:((0:Nat):Int)=0:=rfl
   rw [n0] at x1
   rw [callL_enter (fn:=Try.f3) (c:=Try.f3.body.getD .skip) rfl rfl fat_L29_ParseValid rfl ok_L29_ParseValid (Nat.le_of_ble_eq_true rfl)]
   obtain ⟨ev,eo,so,co,⟨hev,hco⟩,R⟩:=RULES CC;rw [<- hev]
   rw [<- hco] at haw x1
   rw [<- hev] at hloop
   simp only [fpart,part',Try.f3,Option.getD] at hloop ⊢
   simp only [S9,R,seval,ZC,nchP,List.set_cons_zero,List.set_cons_succ,hlen,c1',haw,x1,hla,h40]
   generalize hE:ev (Code.loop _) _=z
   have hP:PVo z:=by
    rw [<- hE]
    refine hloop _ rfl _ _ ?_ ?_
    all_goals first | (simp only [S7,R,seval];done) | (simp only [S7,R,seval] <;> rfl)
   clear hE hloop
   obtain ⟨e',bx',h1⟩:=hP
   subst h1
   simp only [S9,R,seval,ZC,nchP,List.set_cons_zero,List.set_cons_succ,haw]
   exact ⟨_,rfl⟩
 · have d1':((rulesA s).2.2 != 0)=true:=bne_iff_ne.2 d1
   have hnil:=a2 d1
   rw [hnil] at x1
   have q1:((rulesA s).2.1:Int) ≥ 0:=by omega
   have q2:((rulesA s).2.1:Int)<=(s.length:Int):=by omega
   clear a1 a2 a3 v1 v2 sh1 hnil
   generalize (rulesA s).2.1=n1 at *
   generalize (rulesA s).2.2=er at *
   rw [callL_enter (fn:=Try.f3) (c:=Try.f3.body.getD .skip) rfl rfl fat_L29_ParseValid rfl ok_L29_ParseValid (Nat.le_of_ble_eq_true rfl)]
   obtain ⟨ev,eo,so,co,⟨hev,hco⟩,R⟩:=RULES CC;rw [<- hev]
   rw [<- hco] at haw x1
   simp only [fpart,part',Try.f3,Option.getD]
   simp only [S9,R,seval,ZC,nchP,List.set_cons_zero,List.set_cons_succ,hlen,c1',haw,x1,d1',q1,q2]
   exact ⟨_,rfl⟩
end Go.HH
