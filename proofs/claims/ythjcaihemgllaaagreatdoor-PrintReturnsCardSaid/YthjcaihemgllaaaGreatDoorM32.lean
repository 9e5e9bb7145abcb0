/-
  What the law needs, packed: Q2.
-/
import Derived.Test.YthjcaihemgllaaaGreatDoorM31
namespace Go.HH
open Go Go.Proofs
set_option maxRecDepth 100000
set_option linter.unusedSimpArgs false
set_option linter.unusedVariables false
theorem ok_L30_modest:fnOK CC Tryz.f13 (Tryz.f13.body.getD .skip)=true:=by kernel_rfl
theorem fat_L30_modest:CC.P.funcs[13]?=some Tryz.f13:=by kernel_rfl
mutual
theorem trV_pure (t:Tr):(trV t).pure=true:=by
 match t with
 | .mk k n m nm v key kids=>
  unfold trV
  have h:=trVs_pure kids
  simp only [PV.pure,pureL,h,Bool.and_self,Bool.true_and,Bool.and_true]
theorem trVs_pure (l:List Tr):pureL (trVs l)=true:=by
 match l with
 | []=>unfold trVs;rfl
 | t :: r=>
  unfold trVs
  rw [pureL_cons,trV_pure t,trVs_pure r]
  rfl
end
mutual
def mdT:Tr->Int->Int->Int
 | .mk k n m nm v key kids,left,levels=>if left < 1∨levels < 1∨12 < kids.length∨100 < nm.length∨100 < v.2.2.length∨100 < key.2.1.length∨100 < key.2.2.length then -1 else mdTs kids (left - 1) (levels - 1)
def mdTs:List Tr->Int->Int->Int
 | [],left,_=>left
 | t :: r,left,levels=>if mdT t left levels < 0 then -1 else mdTs r (mdT t left levels) levels
end
def MDp (t:Tr):Prop:=∀ left levels:Int,left<=1000->levels<=1000->(∃ bx,callL CC 13 [trV t,.int .i64 left,.int .i64 levels] []=some (.ret (.int .i64 (mdT t left levels)),bx))∧mdT t left levels<=1000
def PMd (res:Int) (r:Option (Ex×St)):Prop:=∃ e' bx',(0<=res∧r=some (.exit 0,⟨e',bx'⟩)∧getT e' 1=.int .i64 res)∨(res < 0∧r=some (.ret,⟨e',bx'⟩)∧getT e' 6=.int .i64 (-1))
theorem op_modest_of {t:Tr} (h:MDp t) (left levels:Int) (h1:left<=1000) (h2:levels<=1000) (bx):callOp CC (callL CC) 13 [trV t,.int .i64 left,.int .i64 levels] bx=some (.ret (.int .i64 (mdT t left levels)),bx):=by
 obtain ⟨⟨b,hb⟩,_⟩:=h left levels h1 h2
 exact callOp_of rfl (by simp only [pureL_cons,trV_pure,pure_int,pureL_nil,Bool.and_self]) hb rfl
theorem loop_modest (L:Code) (hL:L=fpart Tryz.f13 [1,1,1,0,1,0]) (levels:Int) (hlv:levels<=1000) (hlv0:1<=levels) (l:List Tr) (hl:l.length<=1000000) (hk:∀ t ∈ l,MDp t):∀ (k i:Nat) (e:List PV) (bx:List PBox) (left:Int),i+k=l.length->0<=left->left<=1000 ->
 getT e 1=.int .i64 left->getT e 2=.int .i64 levels->getT e 51=.sl (trVs l)->getT e 52=.int .i64 l.length->getT e 53=.int .i64 i->PMd (mdTs (l.drop i) left (levels - 1)) (evL CC L ⟨e,bx⟩):=by
 intro k
 induction k with
 | zero=>
  intro i e bx left hi0 hle hle' h1 h2 h51 h52 h53
  rw [evL_at (fpart Tryz.f13 [1,1,1,0,1,0,0]) hL]
  have hi:¬ ((i:Int) < (l.length:Int)):=by omega
  rw [List.drop_eq_nil_of_le (by omega)]
  unfold mdTs
  have hlen:True:=trivial
  generalize trVs l=xs at *
  obtain ⟨ev,eo,so,co,⟨hev,hco⟩,R⟩:=RULES CC;rw [<- hev]
  simp only [fpart,part',Tryz.f13,Option.getD]
  simp only [S8,R,SG,seval,UT,SC,TRf,List.getElem?_concat_length,hlen,h1,h2,h51,h52,h53,hi]
  exact ⟨_,_,.inl ⟨hle,rfl,by simp only [S7,R,seval,h1]⟩⟩
 | succ k ih=>
  intro i e bx left hi0 hle hle' h1 h2 h51 h52 h53
  rw [evL_at (fpart Tryz.f13 [1,1,1,0,1,0,0]) hL]
  have hi:((i:Int) < (l.length:Int)):=by omega
  have hi0':¬ ((i:Int) < 0):=by omega
  have hdr:l.drop i=(l[i]'(by omega)) :: l.drop (i+1):=List.drop_eq_getElem_cons (by omega)
  have hx:l[i]?=some (l[i]'(by omega)):=by simp
  have hmd:MDp (l[i]'(by omega)):=hk _ (List.getElem_mem _)
  generalize l[i]'(by omega)=x at *
  have hx':=trVs_get hx
  have hln:=trVs_length l
  have hw1:=wrap_i64 (n:=(i:Int)+1) ⟨by omega,by omega⟩
  have hw2:=wrap_i64 (n:=levels - 1) ⟨by omega,by omega⟩
  have key:=fun e bx left=>ih (i+1) e bx left (by omega)
  have cast1:((i+1:Nat):Int)=(i:Int)+1:=by omega
  rw [cast1] at key
  rw [hdr]
  unfold mdTs
  have hop:=op_modest_of hmd left (levels - 1) hle' (by omega)
  have hbd:=(hmd left (levels - 1) hle' (by omega)).2
  have hlen:True:=trivial
  generalize mdT x left (levels - 1)=res at *
  have hpx:=trV_pure x
  obtain ⟨xk,xn,xm,xnm,xv,xkey,xkids⟩:=x
  unfold trV at hx' hop hpx
  generalize trVs xkids=ys at *
  generalize trVs l=xs at *
  by_cases c1:res < 0
  · rw [if_pos c1]
    obtain ⟨ev,eo,so,co,⟨hev,hco⟩,R⟩:=RULES CC;rw [<- hev]
    rw [<- hco] at hop
    simp only [fpart,part',Tryz.f13,Option.getD]
    simp only [S8,R,SG,seval,UT,SC,TRf,List.getElem?_concat_length,hlen,h1,h2,h51,h52,h53,hi,hi0',hx',hw1,hw2,hop,c1]
    exact ⟨_,_,.inr ⟨by decide,rfl,by simp only [S7,R,seval]⟩⟩
  · rw [if_neg c1]
    obtain ⟨ev,eo,so,co,⟨hev,hco⟩,R⟩:=RULES CC;rw [<- hev]
    rw [<- hev] at key
    rw [<- hco] at hop
    simp only [fpart,part',Tryz.f13,Option.getD]
    simp only [S8,R,SG,seval,UT,SC,TRf,List.getElem?_concat_length,hlen,h1,h2,h51,h52,h53,hi,hi0',hx',hw1,hw2,hop,c1]
    refine key _ _ _ (by omega) hbd ?_ ?_ ?_ ?_ ?_
    all_goals simp only [S7,R,seval,h1,h2,h51,h52,h53]
theorem mds_ge:∀ (l:List Tr) (left levels:Int),-1<=left->-1<=mdTs l left levels
 | [],_,_,h1=>by unfold mdTs;exact h1
 | t :: r,left,levels,h1=>by
  unfold mdTs
  split
  · decide
  · exact mds_ge r _ _ (by omega)
theorem mds_le:∀ (l:List Tr) (h:∀ t ∈ l,∀ left levels:Int,left<=1000->levels<=1000->mdT t left levels<=1000) (left levels:Int),left<=1000->levels<=1000->mdTs l left levels<=1000
 | [],_,_,_,h1,_=>by unfold mdTs;exact h1
 | t :: r,h,left,levels,h1,h2=>by
  unfold mdTs
  split
  · decide
  · exact mds_le r (fun x hx=>h x (by simp [hx])) _ _ (h t (by simp) _ _ h1 h2) h2
theorem node_modest (k n m:Int) (nm:List UInt8) (v:Vl) (key:Ky) (kids:List Tr) (hk:∀ t ∈ kids,MDp t):MDp (.mk k n m nm v key kids):=by
 intro left levels hle hlv
 obtain ⟨vk,vn,vs⟩:=v
 obtain ⟨dv,cl,at_⟩:=key
 have hln:=trVs_length kids
 have hlnm:=len_str nm
 have hlvs:=len_str vs
 have hlcl:=len_str cl
 have hlat:=len_str at_
 have hlen:True:=trivial
 unfold mdT trV
 simp only
 by_cases c1:left < 1
 · rw [if_pos (by omega)]
   refine ⟨?_,by decide⟩
   rw [callL_enter (fn:=Tryz.f13) (c:=Tryz.f13.body.getD .skip) rfl rfl fat_L30_modest rfl ok_L30_modest (Nat.le_of_ble_eq_true rfl)]
   generalize trVs kids=xs at *
   obtain ⟨ev,eo,so,co,⟨hev,hco⟩,R⟩:=RULES CC;rw [<- hev]
   simp only [fpart,part',Tryz.f13,Option.getD]
   simp only [S8,R,SG,seval,UT,SC,TRf,List.getElem?_concat_length,hlen,hln,hlnm,hlvs,hlcl,hlat,c1]
   exact ⟨_,rfl⟩
 · by_cases c2:levels < 1
   · rw [if_pos (by omega)]
     refine ⟨?_,by decide⟩
     rw [callL_enter (fn:=Tryz.f13) (c:=Tryz.f13.body.getD .skip) rfl rfl fat_L30_modest rfl ok_L30_modest (Nat.le_of_ble_eq_true rfl)]
     generalize trVs kids=xs at *
     obtain ⟨ev,eo,so,co,⟨hev,hco⟩,R⟩:=RULES CC;rw [<- hev]
     simp only [fpart,part',Tryz.f13,Option.getD]
     simp only [S8,R,SG,seval,UT,SC,TRf,List.getElem?_concat_length,hlen,hln,hlnm,hlvs,hlcl,hlat,c1,c2]
     exact ⟨_,rfl⟩
   · by_cases c3:(kids.length:Int) > 12
     · rw [if_pos (by omega)]
       refine ⟨?_,by decide⟩
       rw [callL_enter (fn:=Tryz.f13) (c:=Tryz.f13.body.getD .skip) rfl rfl fat_L30_modest rfl ok_L30_modest (Nat.le_of_ble_eq_true rfl)]
       generalize trVs kids=xs at *
       obtain ⟨ev,eo,so,co,⟨hev,hco⟩,R⟩:=RULES CC;rw [<- hev]
       simp only [fpart,part',Tryz.f13,Option.getD]
       simp only [S8,R,SG,seval,UT,SC,TRf,List.getElem?_concat_length,hlen,hln,hlnm,hlvs,hlcl,hlat,c1,c2,c3]
       exact ⟨_,rfl⟩
     · by_cases c4:(nm.length:Int) > 100
       · rw [if_pos (by omega)]
         refine ⟨?_,by decide⟩
         rw [callL_enter (fn:=Tryz.f13) (c:=Tryz.f13.body.getD .skip) rfl rfl fat_L30_modest rfl ok_L30_modest (Nat.le_of_ble_eq_true rfl)]
         generalize trVs kids=xs at *
         obtain ⟨ev,eo,so,co,⟨hev,hco⟩,R⟩:=RULES CC;rw [<- hev]
         simp only [fpart,part',Tryz.f13,Option.getD]
         simp only [S8,R,SG,seval,UT,SC,TRf,List.getElem?_concat_length,hlen,hln,hlnm,hlvs,hlcl,hlat,c1,c2,c3,c4]
         exact ⟨_,rfl⟩
       · by_cases c5:(vs.length:Int) > 100
         · rw [if_pos (by omega)]
           refine ⟨?_,by decide⟩
           rw [callL_enter (fn:=Tryz.f13) (c:=Tryz.f13.body.getD .skip) rfl rfl fat_L30_modest rfl ok_L30_modest (Nat.le_of_ble_eq_true rfl)]
           generalize trVs kids=xs at *
           obtain ⟨ev,eo,so,co,⟨hev,hco⟩,R⟩:=RULES CC;rw [<- hev]
           simp only [fpart,part',Tryz.f13,Option.getD]
           simp only [S8,R,SG,seval,UT,SC,TRf,List.getElem?_concat_length,hlen,hln,hlnm,hlvs,hlcl,hlat,c1,c2,c3,c4,c5]
           exact ⟨_,rfl⟩
         · by_cases c6:(cl.length:Int) > 100
           · rw [if_pos (by omega)]
             refine ⟨?_,by decide⟩
             rw [callL_enter (fn:=Tryz.f13) (c:=Tryz.f13.body.getD .skip) rfl rfl fat_L30_modest rfl ok_L30_modest (Nat.le_of_ble_eq_true rfl)]
             generalize trVs kids=xs at *
             obtain ⟨ev,eo,so,co,⟨hev,hco⟩,R⟩:=RULES CC;rw [<- hev]
             simp only [fpart,part',Tryz.f13,Option.getD]
             simp only [S8,R,SG,seval,UT,SC,TRf,List.getElem?_concat_length,hlen,hln,hlnm,hlvs,hlcl,hlat,c1,c2,c3,c4,c5,c6]
             exact ⟨_,rfl⟩
           · by_cases c7:(at_.length:Int) > 100
             · rw [if_pos (by omega)]
               refine ⟨?_,by decide⟩
               rw [callL_enter (fn:=Tryz.f13) (c:=Tryz.f13.body.getD .skip) rfl rfl fat_L30_modest rfl ok_L30_modest (Nat.le_of_ble_eq_true rfl)]
               generalize trVs kids=xs at *
               obtain ⟨ev,eo,so,co,⟨hev,hco⟩,R⟩:=RULES CC;rw [<- hev]
               simp only [fpart,part',Tryz.f13,Option.getD]
               simp only [S8,R,SG,seval,UT,SC,TRf,List.getElem?_concat_length,hlen,hln,hlnm,hlvs,hlcl,hlat,c1,c2,c3,c4,c5,c6,c7]
               exact ⟨_,rfl⟩
             · rw [if_neg (by omega)]
               have hw:=wrap_i64 (n:=left - 1) ⟨by omega,by omega⟩
               have hl12:kids.length<=12:=by omega
               have key:=fun L hL e bx h1 h2 h51 h52 h53=>loop_modest L hL levels hlv (by omega) kids (by omega) hk kids.length 0 e bx (left - 1) (by omega) (by omega) (by omega) h1 h2 h51 h52 h53
               rw [List.drop_zero] at key
               have hge:-1<=mdTs kids (left - 1) (levels - 1):=mds_ge kids _ _ (by omega)
               have hbd:mdTs kids (left - 1) (levels - 1)<=1000:=mds_le kids (fun t ht l v a b=>(hk t ht l v a b).2) _ _ (by omega) (by omega)
               generalize mdTs kids (left - 1) (levels - 1)=res at *
               refine ⟨?_,hbd⟩
               rw [callL_enter (fn:=Tryz.f13) (c:=Tryz.f13.body.getD .skip) rfl rfl fat_L30_modest rfl ok_L30_modest (Nat.le_of_ble_eq_true rfl)]
               generalize trVs kids=xs at *
               obtain ⟨ev,eo,so,co,⟨hev,hco⟩,R⟩:=RULES CC;rw [<- hev]
               rw [<- hev] at key
               simp only [fpart,part',Tryz.f13,Option.getD]
               simp only [S8,R,SG,seval,UT,SC,TRf,List.getElem?_concat_length,hlen,hln,hlnm,hlvs,hlcl,hlat,hw,c1,c2,c3,c4,c5,c6,c7]
               generalize hE:ev (Code.loop _) _=z
               have hP:PMd res z:=by
                rw [<- hE]
                refine key _ rfl _ _ ?_ ?_ ?_ ?_ ?_
                all_goals first | (simp only [S7,R,seval];done) | (simp only [S7,R,seval] <;> rfl)
               obtain ⟨e',bx',⟨h0,he,g1⟩ | ⟨h0,he,g6⟩⟩:=hP
               · subst he
                 simp only [S8,R,seval,g1]
                 exact ⟨_,rfl⟩
               · subst he
                 have:res=-1:=by omega
                 subst this
                 simp only [S8,R,seval,g6]
                 exact ⟨_,rfl⟩
mutual
theorem call_modest (t:Tr):MDp t:=by
 match t with
 | .mk k n m nm v key kids=>exact node_modest k n m nm v key kids (calls_modest kids)
theorem calls_modest (l:List Tr):∀ t ∈ l,MDp t:=by
 match l with
 | []=>intro t ht;simp at ht
 | t :: r=>
  intro x hx
  rcases List.mem_cons.1 hx with h | h
  · rw [h];exact call_modest t
  · exact calls_modest r x h
end
theorem op_modest (t:Tr) (left levels:Int) (h1:left<=1000) (h2:levels<=1000) (bx):callOp CC (callL CC) 13 [trV t,.int .i64 left,.int .i64 levels] bx=some (.ret (.int .i64 (mdT t left levels)),bx):=op_modest_of (call_modest t) left levels h1 h2 bx
theorem ok_expr_spare:fnOK CC Tryz.f116 (Tryz.f116.body.getD .skip)=true:=by kernel_rfl
theorem fat_expr_spare:CC.P.funcs[116]?=some Tryz.f116:=by kernel_rfl
theorem buildVl0:buildP CC 24 []=some (.agg [.int .i64 0,.int .i64 0,.str []]):=by kernel_rfl
theorem buildKy0:buildP CC 26 []=some (.agg [.int .i64 0,.str [],.str []]):=by kernel_rfl
def eqKy (v w:Ky):Bool:=(v.1 == w.1) && (v.2.1 == w.2.1) && (v.2.2 == w.2.2)
theorem eqKP (a a':Int) (b b' c c':List UInt8):eqP CC 100 26 (.agg [.int .i64 a,.str b,.str c]) (.agg [.int .i64 a',.str b',.str c'])=some ((a == a') && (b == b') && (c == c')):=by
 have h:eqP CC 100 26 (.agg [.int .i64 a,.str b,.str c]) (.agg [.int .i64 a',.str b',.str c'])=and2 (a == a') (and2 (b == b') (and2 (c == c') (some true))):=by kernel_rfl
 rw [h]
 cases a == a' <;> cases b == b' <;> cases c == c' <;> rfl
theorem eqgK:CC.P.eqGuardType CC.P.depth 26=false:=by kernel_rfl
theorem eqVz:eqP CC 100 24 (.agg [.int .i64 0,.int .i64 0,.str []]) (.agg [.int .i64 0,.int .i64 0,.str []])=some true:=by rw [eqVP];rfl
theorem eqKz:eqP CC 100 26 (.agg [.int .i64 0,.str [],.str []]) (.agg [.int .i64 0,.str [],.str []])=some true:=by rw [eqKP];rfl
def spB (k:Int) (b1 b2 b3 b4 b5:Bool):Bool:=(b1 && !(k == 4 || k == 5 || k == 15)) || (b2 && !(k == 4)) || (b3 && !(k == 3)) || (b4 && !(k == 1)) || (b5 && !(k == 2))
def spT:Tr->Bool
 | .mk k n m nm v key _=>spB k (n != 0) (m != 0) (!(nm == [])) (!(eqVl v (0,0,[]))) (!(eqKy key (0,[],[])))
set_option maxHeartbeats 20000000 in
theorem call_expr_spare (t:Tr):∃ bx,callL CC 116 [trV t] []=some (.ret (.bool (spT t)),bx):=by
 obtain ⟨k,n,m,nm,⟨vk,vn,vs⟩,⟨dv,cl,at_⟩,kids⟩:=t
 unfold trV spT
 dsimp only
 obtain ⟨b1,h0,h1,h1'⟩:∃ b,(n != 0)=b∧(n != 0)=b∧(n == 0)=!b:=⟨_,rfl,rfl,by simp [bne]⟩
 obtain ⟨b2,g0,h2,h2'⟩:∃ b,(m != 0)=b∧(m != 0)=b∧(m == 0)=!b:=⟨_,rfl,rfl,by simp [bne]⟩
 obtain ⟨b3,f0,h3,h3'⟩:∃ b,(!(nm == []))=b∧strP .neq nm []=some (.bool b)∧strP .eql nm []=some (.bool (!b)):=⟨_,rfl,rfl,by rw [Bool.not_not];rfl⟩
 obtain ⟨b4,e0,h4⟩:∃ b,(!(eqVl (vk,vn,vs) (0,0,[])))=b∧eqP CC 100 24 (.agg [.int .i64 vk,.int .i64 vn,.str vs]) (.agg [.int .i64 0,.int .i64 0,.str []])=some (!b):=⟨_,rfl,by rw [eqVP,Bool.not_not];rfl⟩
 obtain ⟨b5,d0,h5⟩:∃ b,(!(eqKy (dv,cl,at_) (0,[],[])))=b∧eqP CC 100 26 (.agg [.int .i64 dv,.str cl,.str at_]) (.agg [.int .i64 0,.str [],.str []])=some (!b):=⟨_,rfl,by rw [eqKP,Bool.not_not];rfl⟩
 rw [h0,g0,f0,e0,d0]
 clear h0 g0 f0 e0 d0
 have h3z:strP .neq [] []=some (.bool false):=rfl
 have h3z':strP .eql [] []=some (.bool true):=rfl
 have hk:(k=1∨k=2∨k=3∨k=4∨k=5∨k=15)∨((k == 1)=false∧(k == 2)=false∧(k == 3)=false∧(k == 4)=false∧(k == 5)=false∧(k == 15)=false):=by
  simp only [beq_eq_false_iff_ne]
  omega
 generalize trVs kids=xs
 rw [callL_enter (fn:=Tryz.f116) (c:=Tryz.f116.body.getD .skip) rfl rfl fat_expr_spare rfl ok_expr_spare (Nat.le_of_ble_eq_true rfl)]
 obtain ⟨ev,eo,so,co,⟨hev,hco⟩,R⟩:=RULES CC;rw [<- hev]
 simp only [fpart,part',Tryz.f116,Option.getD]
 rcases hk with hk | ⟨k1,k2,k3,k4,k5,k6⟩
 · rcases hk with rfl | rfl | rfl | rfl | rfl | rfl
   all_goals cases b1 <;> cases b2 <;> cases b3 <;> cases b4 <;> cases b5
   all_goals
    simp only [S9,R,seval,TRf,buildVl0,buildKy0,eqgV,eqgK,eqVz,eqKz,List.set_cons_zero,List.set_cons_succ,h1,h1',h2,h2',h3,h3',h3z,h3z',h4,h5]
    exact ⟨_,rfl⟩
 · cases b1 <;> cases b2 <;> cases b3 <;> cases b4 <;> cases b5
   all_goals
    simp only [S9,R,seval,TRf,buildVl0,buildKy0,eqgV,eqgK,eqVz,eqKz,List.set_cons_zero,List.set_cons_succ,h1,h1',h2,h2',h3,h3',h3z,h3z',h4,h5,k1,k2,k3,k4,k5,k6,spB]
    exact ⟨_,rfl⟩
theorem op_expr_spare (t:Tr) (bx):callOp CC (callL CC) 116 [trV t] bx=some (.ret (.bool (spT t)),bx):=by
 obtain ⟨b,h⟩:=call_expr_spare t
 exact callOp_of rfl (by simp only [pureL_cons,trV_pure,pureL_nil,Bool.and_self]) h rfl
theorem ok_expr_kids:fnOK CC Tryz.f115 (Tryz.f115.body.getD .skip)=true:=by kernel_rfl
theorem fat_expr_kids:CC.P.funcs[115]?=some Tryz.f115:=by kernel_rfl
theorem ok_expr_ranges:fnOK CC Tryz.f117 (Tryz.f117.body.getD .skip)=true:=by kernel_rfl
theorem fat_expr_ranges:CC.P.funcs[117]?=some Tryz.f117:=by kernel_rfl
theorem ok_expr_node:fnOK CC Tryz.f61 (Tryz.f61.body.getD .skip)=true:=by kernel_rfl
theorem fat_expr_node:CC.P.funcs[61]?=some Tryz.f61:=by kernel_rfl
def kdB (k n:Int):Bool:=if k=6 then n == 1 else if k=7∨k=8 then decide (2<=n) && decide (n<=8) else if 9<=k∧k<=13 then n == 2 else if k=14 then n == 3 else n == 0
def rgB (k n m dv:Int):Bool:=if k=4 then decide (0<=n∧n < 1440∧0<=m∧m < 1440) else if k=5 then decide (1<=n∧n<=127) else if k=15 then decide (0<=n∧n<=4) else if k=2 then decide (1<=dv∧dv<=250) else true
def ndT:Tr->Int
 | .mk k n m nm v key kids=>if k < 1∨15 < k then 7 else if kdB k kids.length=false∨spT (.mk k n m nm v key kids)=true then 1 else if rgB k n m key.1=false then 2 else
  if k=3 then (if valB nm then 0 else 10) else if k=2 then (if valB key.2.1 && valB key.2.2 then 0 else 10) else if k=1 then (if ckV v≠0 then ckV v else if v.1=0 then 7 else 0) else 0
theorem expr_kids_6 (n:Int):∃ bx,callL CC 115 [.int .i64 6,.int .i64 n] []=some (.ret (.bool (kdB 6 n)),bx):=by
 rw [callL_enter (fn:=Tryz.f115) (c:=Tryz.f115.body.getD .skip) rfl rfl fat_expr_kids rfl ok_expr_kids (Nat.le_of_ble_eq_true rfl)]
 have hlen:True:=trivial
 rw [show kdB 6 n=(n == 1) by simp [kdB]]
 obtain ⟨ev,eo,so,co,⟨hev,hco⟩,R⟩:=RULES CC;rw [<- hev]
 simp only [fpart,part',Tryz.f115,Option.getD]
 simp only [S8,R,SG,seval,UT,SC,hlen]
 exact ⟨_,rfl⟩
theorem expr_kids_7 (n:Int):∃ bx,callL CC 115 [.int .i64 7,.int .i64 n] []=some (.ret (.bool (kdB 7 n)),bx):=by
 rw [callL_enter (fn:=Tryz.f115) (c:=Tryz.f115.body.getD .skip) rfl rfl fat_expr_kids rfl ok_expr_kids (Nat.le_of_ble_eq_true rfl)]
 have hlen:True:=trivial
 by_cases c1:n ≥ 2
 · by_cases c2:n<=8
   · rw [show kdB 7 n=true by simp [kdB];omega]
     obtain ⟨ev,eo,so,co,⟨hev,hco⟩,R⟩:=RULES CC;rw [<- hev]
     simp only [fpart,part',Tryz.f115,Option.getD]
     simp only [S8,R,SG,seval,UT,SC,hlen,c1,c2]
     exact ⟨_,rfl⟩
   · rw [show kdB 7 n=false by simp [kdB];omega]
     obtain ⟨ev,eo,so,co,⟨hev,hco⟩,R⟩:=RULES CC;rw [<- hev]
     simp only [fpart,part',Tryz.f115,Option.getD]
     simp only [S8,R,SG,seval,UT,SC,hlen,c1,c2]
     exact ⟨_,rfl⟩
 · rw [show kdB 7 n=false by simp [kdB];omega]
   obtain ⟨ev,eo,so,co,⟨hev,hco⟩,R⟩:=RULES CC;rw [<- hev]
   simp only [fpart,part',Tryz.f115,Option.getD]
   simp only [S8,R,SG,seval,UT,SC,hlen,c1]
   exact ⟨_,rfl⟩
theorem expr_kids_8 (n:Int):∃ bx,callL CC 115 [.int .i64 8,.int .i64 n] []=some (.ret (.bool (kdB 8 n)),bx):=by
 rw [callL_enter (fn:=Tryz.f115) (c:=Tryz.f115.body.getD .skip) rfl rfl fat_expr_kids rfl ok_expr_kids (Nat.le_of_ble_eq_true rfl)]
 have hlen:True:=trivial
 by_cases c1:n ≥ 2
 · by_cases c2:n<=8
   · rw [show kdB 8 n=true by simp [kdB];omega]
     obtain ⟨ev,eo,so,co,⟨hev,hco⟩,R⟩:=RULES CC;rw [<- hev]
     simp only [fpart,part',Tryz.f115,Option.getD]
     simp only [S8,R,SG,seval,UT,SC,hlen,c1,c2]
     exact ⟨_,rfl⟩
   · rw [show kdB 8 n=false by simp [kdB];omega]
     obtain ⟨ev,eo,so,co,⟨hev,hco⟩,R⟩:=RULES CC;rw [<- hev]
     simp only [fpart,part',Tryz.f115,Option.getD]
     simp only [S8,R,SG,seval,UT,SC,hlen,c1,c2]
     exact ⟨_,rfl⟩
 · rw [show kdB 8 n=false by simp [kdB];omega]
   obtain ⟨ev,eo,so,co,⟨hev,hco⟩,R⟩:=RULES CC;rw [<- hev]
   simp only [fpart,part',Tryz.f115,Option.getD]
   simp only [S8,R,SG,seval,UT,SC,hlen,c1]
   exact ⟨_,rfl⟩
theorem expr_kids_9 (n:Int):∃ bx,callL CC 115 [.int .i64 9,.int .i64 n] []=some (.ret (.bool (kdB 9 n)),bx):=by
 rw [callL_enter (fn:=Tryz.f115) (c:=Tryz.f115.body.getD .skip) rfl rfl fat_expr_kids rfl ok_expr_kids (Nat.le_of_ble_eq_true rfl)]
 have hlen:True:=trivial
 rw [show kdB 9 n=(n == 2) by simp [kdB]]
 obtain ⟨ev,eo,so,co,⟨hev,hco⟩,R⟩:=RULES CC;rw [<- hev]
 simp only [fpart,part',Tryz.f115,Option.getD]
 simp only [S8,R,SG,seval,UT,SC,hlen]
 exact ⟨_,rfl⟩
theorem expr_kids_10 (n:Int):∃ bx,callL CC 115 [.int .i64 10,.int .i64 n] []=some (.ret (.bool (kdB 10 n)),bx):=by
 rw [callL_enter (fn:=Tryz.f115) (c:=Tryz.f115.body.getD .skip) rfl rfl fat_expr_kids rfl ok_expr_kids (Nat.le_of_ble_eq_true rfl)]
 have hlen:True:=trivial
 rw [show kdB 10 n=(n == 2) by simp [kdB]]
 obtain ⟨ev,eo,so,co,⟨hev,hco⟩,R⟩:=RULES CC;rw [<- hev]
 simp only [fpart,part',Tryz.f115,Option.getD]
 simp only [S8,R,SG,seval,UT,SC,hlen]
 exact ⟨_,rfl⟩
theorem expr_kids_11 (n:Int):∃ bx,callL CC 115 [.int .i64 11,.int .i64 n] []=some (.ret (.bool (kdB 11 n)),bx):=by
 rw [callL_enter (fn:=Tryz.f115) (c:=Tryz.f115.body.getD .skip) rfl rfl fat_expr_kids rfl ok_expr_kids (Nat.le_of_ble_eq_true rfl)]
 have hlen:True:=trivial
 rw [show kdB 11 n=(n == 2) by simp [kdB]]
 obtain ⟨ev,eo,so,co,⟨hev,hco⟩,R⟩:=RULES CC;rw [<- hev]
 simp only [fpart,part',Tryz.f115,Option.getD]
 simp only [S8,R,SG,seval,UT,SC,hlen]
 exact ⟨_,rfl⟩
theorem expr_kids_12 (n:Int):∃ bx,callL CC 115 [.int .i64 12,.int .i64 n] []=some (.ret (.bool (kdB 12 n)),bx):=by
 rw [callL_enter (fn:=Tryz.f115) (c:=Tryz.f115.body.getD .skip) rfl rfl fat_expr_kids rfl ok_expr_kids (Nat.le_of_ble_eq_true rfl)]
 have hlen:True:=trivial
 rw [show kdB 12 n=(n == 2) by simp [kdB]]
 obtain ⟨ev,eo,so,co,⟨hev,hco⟩,R⟩:=RULES CC;rw [<- hev]
 simp only [fpart,part',Tryz.f115,Option.getD]
 simp only [S8,R,SG,seval,UT,SC,hlen]
 exact ⟨_,rfl⟩
theorem expr_kids_13 (n:Int):∃ bx,callL CC 115 [.int .i64 13,.int .i64 n] []=some (.ret (.bool (kdB 13 n)),bx):=by
 rw [callL_enter (fn:=Tryz.f115) (c:=Tryz.f115.body.getD .skip) rfl rfl fat_expr_kids rfl ok_expr_kids (Nat.le_of_ble_eq_true rfl)]
 have hlen:True:=trivial
 rw [show kdB 13 n=(n == 2) by simp [kdB]]
 obtain ⟨ev,eo,so,co,⟨hev,hco⟩,R⟩:=RULES CC;rw [<- hev]
 simp only [fpart,part',Tryz.f115,Option.getD]
 simp only [S8,R,SG,seval,UT,SC,hlen]
 exact ⟨_,rfl⟩
theorem expr_kids_14 (n:Int):∃ bx,callL CC 115 [.int .i64 14,.int .i64 n] []=some (.ret (.bool (kdB 14 n)),bx):=by
 rw [callL_enter (fn:=Tryz.f115) (c:=Tryz.f115.body.getD .skip) rfl rfl fat_expr_kids rfl ok_expr_kids (Nat.le_of_ble_eq_true rfl)]
 have hlen:True:=trivial
 rw [show kdB 14 n=(n == 3) by simp [kdB]]
 obtain ⟨ev,eo,so,co,⟨hev,hco⟩,R⟩:=RULES CC;rw [<- hev]
 simp only [fpart,part',Tryz.f115,Option.getD]
 simp only [S8,R,SG,seval,UT,SC,hlen]
 exact ⟨_,rfl⟩
theorem expr_kids_0 (k n:Int) (hk6:(k == 6)=false) (hk7:(k == 7)=false) (hk8:(k == 8)=false) (hk9:(k == 9)=false) (hk10:(k == 10)=false) (hk11:(k == 11)=false) (hk12:(k == 12)=false) (hk13:(k == 13)=false) (hk14:(k == 14)=false) (hd:kdB k n=(n == 0)):∃ bx,callL CC 115 [.int .i64 k,.int .i64 n] []=some (.ret (.bool (kdB k n)),bx):=by
 rw [callL_enter (fn:=Tryz.f115) (c:=Tryz.f115.body.getD .skip) rfl rfl fat_expr_kids rfl ok_expr_kids (Nat.le_of_ble_eq_true rfl)]
 have hlen:True:=trivial
 rw [hd]
 obtain ⟨ev,eo,so,co,⟨hev,hco⟩,R⟩:=RULES CC;rw [<- hev]
 simp only [fpart,part',Tryz.f115,Option.getD]
 simp only [S8,R,SG,seval,UT,SC,hlen,hk6,hk7,hk8,hk9,hk10,hk11,hk12,hk13,hk14]
 exact ⟨_,rfl⟩
theorem call_expr_kids (k n:Int):∃ bx,callL CC 115 [.int .i64 k,.int .i64 n] []=some (.ret (.bool (kdB k n)),bx):=by
 by_cases c6:k=6
 · subst c6
   exact expr_kids_6 n
 by_cases c7:k=7
 · subst c7
   exact expr_kids_7 n
 by_cases c8:k=8
 · subst c8
   exact expr_kids_8 n
 by_cases c9:k=9
 · subst c9
   exact expr_kids_9 n
 by_cases c10:k=10
 · subst c10
   exact expr_kids_10 n
 by_cases c11:k=11
 · subst c11
   exact expr_kids_11 n
 by_cases c12:k=12
 · subst c12
   exact expr_kids_12 n
 by_cases c13:k=13
 · subst c13
   exact expr_kids_13 n
 by_cases c14:k=14
 · subst c14
   exact expr_kids_14 n
 refine expr_kids_0 k n (by simpa using c6) (by simpa using c7) (by simpa using c8) (by simpa using c9) (by simpa using c10) (by simpa using c11) (by simpa using c12) (by simpa using c13) (by simpa using c14) ?_
 unfold kdB
 rw [if_neg c6,if_neg (by omega),if_neg (by omega),if_neg c14]
theorem op_expr_kids (k n:Int) (bx):callOp CC (callL CC) 115 [.int .i64 k,.int .i64 n] bx=some (.ret (.bool (kdB k n)),bx):=by
 obtain ⟨b,h⟩:=call_expr_kids k n
 exact callOp_of rfl (by simp only [SA,Bool.and_true]) h rfl
theorem expr_ranges_4 (n m:Int) (nm:List UInt8) (vk vn:Int) (vs:List UInt8) (dv:Int) (cl at_:List UInt8) (xs:List PV):∃ bx,callL CC 117 [.agg [.int .i64 4,.int .i64 n,.int .i64 m,.str nm,.int .i64 vk,.int .i64 vn,.str vs,.int .i64 dv,.str cl,.str at_,.sl xs]] []=some (.ret (.bool (rgB 4 n m dv)),bx):=by
 rw [callL_enter (fn:=Tryz.f117) (c:=Tryz.f117.body.getD .skip) rfl rfl fat_expr_ranges rfl ok_expr_ranges (Nat.le_of_ble_eq_true rfl)]
 have hlen:True:=trivial
 by_cases c0:n ≥ 0
 · by_cases c1:n < 1440
   · by_cases c2:m ≥ 0
     · by_cases c3:m < 1440
       · rw [show rgB 4 n m dv=true by simp [rgB];omega]
         obtain ⟨ev,eo,so,co,⟨hev,hco⟩,R⟩:=RULES CC;rw [<- hev]
         simp only [fpart,part',Tryz.f117,Option.getD]
         simp only [S8,R,SG,seval,UT,SC,hlen,c0,c1,c2,c3]
         exact ⟨_,rfl⟩
       · rw [show rgB 4 n m dv=false by simp [rgB];omega]
         obtain ⟨ev,eo,so,co,⟨hev,hco⟩,R⟩:=RULES CC;rw [<- hev]
         simp only [fpart,part',Tryz.f117,Option.getD]
         simp only [S8,R,SG,seval,UT,SC,hlen,c0,c1,c2,c3]
         exact ⟨_,rfl⟩
     · rw [show rgB 4 n m dv=false by simp [rgB];omega]
       obtain ⟨ev,eo,so,co,⟨hev,hco⟩,R⟩:=RULES CC;rw [<- hev]
       simp only [fpart,part',Tryz.f117,Option.getD]
       simp only [S8,R,SG,seval,UT,SC,hlen,c0,c1,c2]
       exact ⟨_,rfl⟩
   · rw [show rgB 4 n m dv=false by simp [rgB];omega]
     obtain ⟨ev,eo,so,co,⟨hev,hco⟩,R⟩:=RULES CC;rw [<- hev]
     simp only [fpart,part',Tryz.f117,Option.getD]
     simp only [S8,R,SG,seval,UT,SC,hlen,c0,c1]
     exact ⟨_,rfl⟩
 · rw [show rgB 4 n m dv=false by simp [rgB];omega]
   obtain ⟨ev,eo,so,co,⟨hev,hco⟩,R⟩:=RULES CC;rw [<- hev]
   simp only [fpart,part',Tryz.f117,Option.getD]
   simp only [S8,R,SG,seval,UT,SC,hlen,c0]
   exact ⟨_,rfl⟩
theorem expr_ranges_5 (n m:Int) (nm:List UInt8) (vk vn:Int) (vs:List UInt8) (dv:Int) (cl at_:List UInt8) (xs:List PV):∃ bx,callL CC 117 [.agg [.int .i64 5,.int .i64 n,.int .i64 m,.str nm,.int .i64 vk,.int .i64 vn,.str vs,.int .i64 dv,.str cl,.str at_,.sl xs]] []=some (.ret (.bool (rgB 5 n m dv)),bx):=by
 rw [callL_enter (fn:=Tryz.f117) (c:=Tryz.f117.body.getD .skip) rfl rfl fat_expr_ranges rfl ok_expr_ranges (Nat.le_of_ble_eq_true rfl)]
 have hlen:True:=trivial
 by_cases c0:n ≥ 1
 · by_cases c1:n<=127
   · rw [show rgB 5 n m dv=true by simp [rgB];omega]
     obtain ⟨ev,eo,so,co,⟨hev,hco⟩,R⟩:=RULES CC;rw [<- hev]
     simp only [fpart,part',Tryz.f117,Option.getD]
     simp only [S8,R,SG,seval,UT,SC,hlen,c0,c1]
     exact ⟨_,rfl⟩
   · rw [show rgB 5 n m dv=false by simp [rgB];omega]
     obtain ⟨ev,eo,so,co,⟨hev,hco⟩,R⟩:=RULES CC;rw [<- hev]
     simp only [fpart,part',Tryz.f117,Option.getD]
     simp only [S8,R,SG,seval,UT,SC,hlen,c0,c1]
     exact ⟨_,rfl⟩
 · rw [show rgB 5 n m dv=false by simp [rgB];omega]
   obtain ⟨ev,eo,so,co,⟨hev,hco⟩,R⟩:=RULES CC;rw [<- hev]
   simp only [fpart,part',Tryz.f117,Option.getD]
   simp only [S8,R,SG,seval,UT,SC,hlen,c0]
   exact ⟨_,rfl⟩
theorem expr_ranges_15 (n m:Int) (nm:List UInt8) (vk vn:Int) (vs:List UInt8) (dv:Int) (cl at_:List UInt8) (xs:List PV):∃ bx,callL CC 117 [.agg [.int .i64 15,.int .i64 n,.int .i64 m,.str nm,.int .i64 vk,.int .i64 vn,.str vs,.int .i64 dv,.str cl,.str at_,.sl xs]] []=some (.ret (.bool (rgB 15 n m dv)),bx):=by
 rw [callL_enter (fn:=Tryz.f117) (c:=Tryz.f117.body.getD .skip) rfl rfl fat_expr_ranges rfl ok_expr_ranges (Nat.le_of_ble_eq_true rfl)]
 have hlen:True:=trivial
 by_cases c0:n ≥ 0
 · by_cases c1:n<=4
   · rw [show rgB 15 n m dv=true by simp [rgB];omega]
     obtain ⟨ev,eo,so,co,⟨hev,hco⟩,R⟩:=RULES CC;rw [<- hev]
     simp only [fpart,part',Tryz.f117,Option.getD]
     simp only [S8,R,SG,seval,UT,SC,hlen,c0,c1]
     exact ⟨_,rfl⟩
   · rw [show rgB 15 n m dv=false by simp [rgB];omega]
     obtain ⟨ev,eo,so,co,⟨hev,hco⟩,R⟩:=RULES CC;rw [<- hev]
     simp only [fpart,part',Tryz.f117,Option.getD]
     simp only [S8,R,SG,seval,UT,SC,hlen,c0,c1]
     exact ⟨_,rfl⟩
 · rw [show rgB 15 n m dv=false by simp [rgB];omega]
   obtain ⟨ev,eo,so,co,⟨hev,hco⟩,R⟩:=RULES CC;rw [<- hev]
   simp only [fpart,part',Tryz.f117,Option.getD]
   simp only [S8,R,SG,seval,UT,SC,hlen,c0]
   exact ⟨_,rfl⟩
theorem expr_ranges_2 (n m:Int) (nm:List UInt8) (vk vn:Int) (vs:List UInt8) (dv:Int) (cl at_:List UInt8) (xs:List PV):∃ bx,callL CC 117 [.agg [.int .i64 2,.int .i64 n,.int .i64 m,.str nm,.int .i64 vk,.int .i64 vn,.str vs,.int .i64 dv,.str cl,.str at_,.sl xs]] []=some (.ret (.bool (rgB 2 n m dv)),bx):=by
 rw [callL_enter (fn:=Tryz.f117) (c:=Tryz.f117.body.getD .skip) rfl rfl fat_expr_ranges rfl ok_expr_ranges (Nat.le_of_ble_eq_true rfl)]
 have hlen:True:=trivial
 by_cases c0:dv ≥ 1
 · by_cases c1:dv<=250
   · rw [show rgB 2 n m dv=true by simp [rgB];omega]
     obtain ⟨ev,eo,so,co,⟨hev,hco⟩,R⟩:=RULES CC;rw [<- hev]
     simp only [fpart,part',Tryz.f117,Option.getD]
     simp only [S8,R,SG,seval,UT,SC,hlen,c0,c1]
     exact ⟨_,rfl⟩
   · rw [show rgB 2 n m dv=false by simp [rgB];omega]
     obtain ⟨ev,eo,so,co,⟨hev,hco⟩,R⟩:=RULES CC;rw [<- hev]
     simp only [fpart,part',Tryz.f117,Option.getD]
     simp only [S8,R,SG,seval,UT,SC,hlen,c0,c1]
     exact ⟨_,rfl⟩
 · rw [show rgB 2 n m dv=false by simp [rgB];omega]
   obtain ⟨ev,eo,so,co,⟨hev,hco⟩,R⟩:=RULES CC;rw [<- hev]
   simp only [fpart,part',Tryz.f117,Option.getD]
   simp only [S8,R,SG,seval,UT,SC,hlen,c0]
   exact ⟨_,rfl⟩
theorem expr_ranges_0 (k:Int) (hk4:(k == 4)=false) (hk5:(k == 5)=false) (hk15:(k == 15)=false) (hk2:(k == 2)=false) (n m:Int) (nm:List UInt8) (vk vn:Int) (vs:List UInt8) (dv:Int) (cl at_:List UInt8) (xs:List PV) (hd:rgB k n m dv=true):∃ bx,callL CC 117 [.agg [.int .i64 k,.int .i64 n,.int .i64 m,.str nm,.int .i64 vk,.int .i64 vn,.str vs,.int .i64 dv,.str cl,.str at_,.sl xs]] []=some (.ret (.bool (rgB k n m dv)),bx):=by
 rw [callL_enter (fn:=Tryz.f117) (c:=Tryz.f117.body.getD .skip) rfl rfl fat_expr_ranges rfl ok_expr_ranges (Nat.le_of_ble_eq_true rfl)]
 have hlen:True:=trivial
 rw [hd]
 obtain ⟨ev,eo,so,co,⟨hev,hco⟩,R⟩:=RULES CC;rw [<- hev]
 simp only [fpart,part',Tryz.f117,Option.getD]
 simp only [S8,R,SG,seval,UT,SC,hlen,hk4,hk5,hk15,hk2]
 exact ⟨_,rfl⟩
def rgT:Tr->Bool
 | .mk k n m nm v key kids=>rgB k n m key.1
theorem call_expr_ranges (t:Tr):∃ bx,callL CC 117 [trV t] []=some (.ret (.bool (rgT t)),bx):=by
 obtain ⟨k,n,m,nm,v,key,kids⟩:=t
 obtain ⟨vk,vn,vs⟩:=v
 obtain ⟨dv,cl,at_⟩:=key
 unfold trV rgT
 by_cases c4:k=4
 · subst c4
   exact expr_ranges_4 n m nm vk vn vs dv cl at_ (trVs kids)
 by_cases c5:k=5
 · subst c5
   exact expr_ranges_5 n m nm vk vn vs dv cl at_ (trVs kids)
 by_cases c15:k=15
 · subst c15
   exact expr_ranges_15 n m nm vk vn vs dv cl at_ (trVs kids)
 by_cases c2:k=2
 · subst c2
   exact expr_ranges_2 n m nm vk vn vs dv cl at_ (trVs kids)
 refine expr_ranges_0 k (by simpa using c4) (by simpa using c5) (by simpa using c15) (by simpa using c2) n m nm vk vn vs dv cl at_ (trVs kids) ?_
 unfold rgB
 rw [if_neg c4,if_neg c5,if_neg c15,if_neg c2]
theorem op_expr_ranges (t:Tr) (bx):callOp CC (callL CC) 117 [trV t] bx=some (.ret (.bool (rgT t)),bx):=by
 obtain ⟨b,h⟩:=call_expr_ranges t
 exact callOp_of rfl (by simp only [pureL_cons,trV_pure,pureL_nil,Bool.and_self]) h rfl
def shN:Tr->Prop
 | .mk k n m nm v key kids=>nm.length<=100∧v.2.2.length<=100∧key.2.1.length<=100∧key.2.2.length<=100
theorem call_expr_node (t:Tr) (hs:shN t):∃ bx,callL CC 61 [trV t] []=some (.ret (.int .i64 (ndT t)),bx):=by
 obtain ⟨k,n,m,nm,v,key,kids⟩:=t
 have osp:=op_expr_spare (.mk k n m nm v key kids)
 have org:=op_expr_ranges (.mk k n m nm v key kids)
 have okd:=op_expr_kids k kids.length
 have ock:=op_value_Check v
 obtain ⟨vk,vn,vs⟩:=v
 obtain ⟨dv,cl,at_⟩:=key
 obtain ⟨s1,s2,s3,s4⟩:=hs
 simp only at s1 s2 s3 s4
 have ov1:=op_names_Valid nm (by omega)
 have ov2:=op_names_Valid cl (by omega)
 have ov3:=op_names_Valid at_ (by omega)
 have hln:=trVs_length kids
 unfold trV at osp org ⊢
 unfold vlV at ock
 unfold ndT
 unfold rgT at org
 simp only at osp org ock ⊢
 rw [callL_enter (fn:=Tryz.f61) (c:=Tryz.f61.body.getD .skip) rfl rfl fat_expr_node rfl ok_expr_node (Nat.le_of_ble_eq_true rfl)]
 have hlen:True:=trivial
 generalize kdB k kids.length=b1 at *
 generalize spT (.mk k n m nm (vk,vn,vs) (dv,cl,at_) kids)=b2 at *
 generalize rgB k n m dv=b3 at *
 generalize valB nm=b4 at *
 generalize valB cl=b5 at *
 generalize valB at_=b6 at *
 generalize ckV (vk,vn,vs)=ck at *
 generalize trVs kids=xs at *
 by_cases c1:k < 1
 · rw [if_pos (by omega)]
   obtain ⟨ev,eo,so,co,⟨hev,hco⟩,R⟩:=RULES CC;rw [<- hev]
   rw [<- hco] at osp org okd ock ov1 ov2 ov3
   simp only [fpart,part',Tryz.f61,Option.getD]
   simp only [S8,R,SG,seval,UT,SC,hlen,hln,osp,org,okd,ock,ov1,ov2,ov3,c1]
   exact ⟨_,rfl⟩
 by_cases c2:k > 15
 · rw [if_pos (by omega)]
   obtain ⟨ev,eo,so,co,⟨hev,hco⟩,R⟩:=RULES CC;rw [<- hev]
   rw [<- hco] at osp org okd ock ov1 ov2 ov3
   simp only [fpart,part',Tryz.f61,Option.getD]
   simp only [S8,R,SG,seval,UT,SC,hlen,hln,osp,org,okd,ock,ov1,ov2,ov3,c1,c2]
   exact ⟨_,rfl⟩
 cases b1 with
 | false=>
  rw [if_neg (by omega),if_pos (.inl rfl)]
  obtain ⟨ev,eo,so,co,⟨hev,hco⟩,R⟩:=RULES CC;rw [<- hev]
  rw [<- hco] at osp org okd ock ov1 ov2 ov3
  simp only [fpart,part',Tryz.f61,Option.getD]
  simp only [S8,R,SG,seval,UT,SC,hlen,hln,osp,org,okd,ock,ov1,ov2,ov3,c1,c2]
  exact ⟨_,rfl⟩
 | true=>
  cases b2 with
  | true=>
   rw [if_neg (by omega),if_pos (.inr rfl)]
   obtain ⟨ev,eo,so,co,⟨hev,hco⟩,R⟩:=RULES CC;rw [<- hev]
   rw [<- hco] at osp org okd ock ov1 ov2 ov3
   simp only [fpart,part',Tryz.f61,Option.getD]
   simp only [S8,R,SG,seval,UT,SC,hlen,hln,osp,org,okd,ock,ov1,ov2,ov3,c1,c2]
   exact ⟨_,rfl⟩
  | false=>
   cases b3 with
   | false=>
    rw [if_neg (by omega),if_neg (by simp),if_pos rfl]
    obtain ⟨ev,eo,so,co,⟨hev,hco⟩,R⟩:=RULES CC;rw [<- hev]
    rw [<- hco] at osp org okd ock ov1 ov2 ov3
    simp only [fpart,part',Tryz.f61,Option.getD]
    simp only [S8,R,SG,seval,UT,SC,hlen,hln,osp,org,okd,ock,ov1,ov2,ov3,c1,c2]
    exact ⟨_,rfl⟩
   | true=>
    by_cases d3:k=3
    · subst d3
      cases b4 with
      | false=>
       rw [if_neg (by omega),if_neg (by simp),if_neg (by simp),if_pos rfl,if_neg (by simp)]
       obtain ⟨ev,eo,so,co,⟨hev,hco⟩,R⟩:=RULES CC;rw [<- hev]
       rw [<- hco] at osp org okd ock ov1 ov2 ov3
       simp only [fpart,part',Tryz.f61,Option.getD]
       simp only [S8,R,SG,seval,UT,SC,hlen,hln,osp,org,okd,ock,ov1,ov2,ov3,c1,c2]
       exact ⟨_,rfl⟩
      | true=>
       rw [if_neg (by omega),if_neg (by simp),if_neg (by simp),if_pos rfl,if_pos rfl]
       obtain ⟨ev,eo,so,co,⟨hev,hco⟩,R⟩:=RULES CC;rw [<- hev]
       rw [<- hco] at osp org okd ock ov1 ov2 ov3
       simp only [fpart,part',Tryz.f61,Option.getD]
       simp only [S8,R,SG,seval,UT,SC,hlen,hln,osp,org,okd,ock,ov1,ov2,ov3,c1,c2]
       exact ⟨_,rfl⟩
    · by_cases d2:k=2
      · subst d2
        cases b5 with
        | false=>
         rw [if_neg (by omega),if_neg (by simp),if_neg (by simp),if_neg (by omega),if_pos rfl,if_neg (by simp)]
         obtain ⟨ev,eo,so,co,⟨hev,hco⟩,R⟩:=RULES CC;rw [<- hev]
         rw [<- hco] at osp org okd ock ov1 ov2 ov3
         simp only [fpart,part',Tryz.f61,Option.getD]
         simp only [S8,R,SG,seval,UT,SC,hlen,hln,osp,org,okd,ock,ov1,ov2,ov3,c1,c2]
         exact ⟨_,rfl⟩
        | true=>
         cases b6 with
         | false=>
          rw [if_neg (by omega),if_neg (by simp),if_neg (by simp),if_neg (by omega),if_pos rfl,if_neg (by simp)]
          obtain ⟨ev,eo,so,co,⟨hev,hco⟩,R⟩:=RULES CC;rw [<- hev]
          rw [<- hco] at osp org okd ock ov1 ov2 ov3
          simp only [fpart,part',Tryz.f61,Option.getD]
          simp only [S8,R,SG,seval,UT,SC,hlen,hln,osp,org,okd,ock,ov1,ov2,ov3,c1,c2]
          exact ⟨_,rfl⟩
         | true=>
          rw [if_neg (by omega),if_neg (by simp),if_neg (by simp),if_neg (by omega),if_pos rfl,if_pos (by simp)]
          obtain ⟨ev,eo,so,co,⟨hev,hco⟩,R⟩:=RULES CC;rw [<- hev]
          rw [<- hco] at osp org okd ock ov1 ov2 ov3
          simp only [fpart,part',Tryz.f61,Option.getD]
          simp only [S8,R,SG,seval,UT,SC,hlen,hln,osp,org,okd,ock,ov1,ov2,ov3,c1,c2]
          exact ⟨_,rfl⟩
      · by_cases d1:k=1
        · subst d1
          by_cases e1:ck=0
          · subst e1
            by_cases e2:vk=0
            · subst e2
              rw [if_neg (by omega),if_neg (by simp),if_neg (by simp),if_neg (by omega),if_neg (by omega),if_pos rfl,if_neg (by simp),if_pos rfl]
              obtain ⟨ev,eo,so,co,⟨hev,hco⟩,R⟩:=RULES CC;rw [<- hev]
              rw [<- hco] at osp org okd ock ov1 ov2 ov3
              simp only [fpart,part',Tryz.f61,Option.getD]
              simp only [S8,R,SG,seval,UT,SC,hlen,hln,osp,org,okd,ock,ov1,ov2,ov3,c1,c2]
              exact ⟨_,rfl⟩
            · have e2p:(vk == 0)=false:=by simpa using e2
              rw [if_neg (by omega),if_neg (by simp),if_neg (by simp),if_neg (by omega),if_neg (by omega),if_pos rfl,if_neg (by simp),if_neg e2]
              obtain ⟨ev,eo,so,co,⟨hev,hco⟩,R⟩:=RULES CC;rw [<- hev]
              rw [<- hco] at osp org okd ock ov1 ov2 ov3
              simp only [fpart,part',Tryz.f61,Option.getD]
              simp only [S8,R,SG,seval,UT,SC,hlen,hln,osp,org,okd,ock,ov1,ov2,ov3,c1,c2,e2p]
              exact ⟨_,rfl⟩
          · have e1p:(ck != 0)=true:=by simpa using e1
            rw [if_neg (by omega),if_neg (by simp),if_neg (by simp),if_neg (by omega),if_neg (by omega),if_pos rfl,if_pos e1]
            obtain ⟨ev,eo,so,co,⟨hev,hco⟩,R⟩:=RULES CC;rw [<- hev]
            rw [<- hco] at osp org okd ock ov1 ov2 ov3
            simp only [fpart,part',Tryz.f61,Option.getD]
            simp only [S8,R,SG,seval,UT,SC,hlen,hln,osp,org,okd,ock,ov1,ov2,ov3,c1,c2,e1p]
            exact ⟨_,rfl⟩
        · have d1p:(k == 1)=false:=by simpa using d1
          have d2p:(k == 2)=false:=by simpa using d2
          have d3p:(k == 3)=false:=by simpa using d3
          rw [if_neg (by omega),if_neg (by simp),if_neg (by simp),if_neg d3,if_neg d2,if_neg d1]
          obtain ⟨ev,eo,so,co,⟨hev,hco⟩,R⟩:=RULES CC;rw [<- hev]
          rw [<- hco] at osp org okd ock ov1 ov2 ov3
          simp only [fpart,part',Tryz.f61,Option.getD]
          simp only [S8,R,SG,seval,UT,SC,hlen,hln,osp,org,okd,ock,ov1,ov2,ov3,c1,c2,d1p,d2p,d3p]
          exact ⟨_,rfl⟩
theorem op_expr_node (t:Tr) (hs:shN t) (bx):callOp CC (callL CC) 61 [trV t] bx=some (.ret (.int .i64 (ndT t)),bx):=by
 obtain ⟨b,h⟩:=call_expr_node t hs
 exact callOp_of rfl (by simp only [pureL_cons,trV_pure,pureL_nil,Bool.and_self]) h rfl
theorem ok_expr_Check:fnOK CC Tryz.f31 (Tryz.f31.body.getD .skip)=true:=by kernel_rfl
theorem fat_expr_Check:CC.P.funcs[31]?=some Tryz.f31:=by kernel_rfl
theorem ok_expr_walk:fnOK CC Tryz.f59 (Tryz.f59.body.getD .skip)=true:=by kernel_rfl
theorem fat_expr_walk:CC.P.funcs[59]?=some Tryz.f59:=by kernel_rfl
theorem ok_expr_Check_1:fnOK CC Tryz.f60 (Tryz.f60.body.getD .skip)=true:=by kernel_rfl
theorem fat_expr_Check_1:CC.P.funcs[60]?=some Tryz.f60:=by kernel_rfl
theorem ok_expr_walk_1:fnOK CC Tryz.f114 (Tryz.f114.body.getD .skip)=true:=by kernel_rfl
theorem fat_expr_walk_1:CC.P.funcs[114]?=some Tryz.f114:=by kernel_rfl
mutual
def wkT:Tr->Int->Int->Int×Int
 | .mk k n m nm v key kids,lv,b=>if 24 < lv then (b,22) else if 200<=b then (b,3) else if ndT (.mk k n m nm v key kids)≠0 then (b,ndT (.mk k n m nm v key kids)) else wkTs kids (lv+1) (b+1)
def wkTs:List Tr->Int->Int->Int×Int
 | [],_,b=>(b,0)
 | t :: r,lv,b=>if (wkT t lv b).2≠0 then wkT t lv b else wkTs r lv (wkT t lv b).1
end
mutual
def shT:Tr->Prop
 | .mk k n m nm v key kids=>(nm.length<=100∧v.2.2.length<=100∧key.2.1.length<=100∧key.2.2.length<=100∧kids.length<=12)∧shTs kids
def shTs:List Tr->Prop
 | []=>True
 | t :: r=>shT t∧shTs r
end
mutual
theorem sh_md (t:Tr) (left levels:Int) (h:0<=mdT t left levels):shT t:=by
 match t with
 | .mk k n m nm v key kids=>
  unfold mdT at h
  unfold shT
  split at h
  · omega
  · rename_i hc
    exact ⟨by omega,shs_md kids _ _ h⟩
theorem shs_md (l:List Tr) (left levels:Int) (h:0<=mdTs l left levels):shTs l:=by
 match l with
 | []=>unfold shTs;trivial
 | t :: r=>
  unfold mdTs at h
  unfold shTs
  split at h
  · omega
  · exact ⟨sh_md t left levels (by omega),shs_md r _ _ h⟩
end
theorem shN_of {t:Tr} (h:shT t):shN t:=by
 obtain ⟨k,n,m,nm,v,key,kids⟩:=t
 unfold shT at h
 exact ⟨h.1.1,h.1.2.1,h.1.2.2.1,h.1.2.2.2.1⟩
theorem FNs:(∃ a b v,CC.P.underlying 99=some (.func a b v))∧tAgg CC 99=false∧tSize CC 99=some 1∧zeroCells CC 99=some [.nilf]:=
 ⟨⟨(match Tryz.prog.underlying 99 with | some (.func a _ _)=>a | _=>#[]),(match Tryz.prog.underlying 99 with | some (.func _ b _)=>b | _=>#[]),(match Tryz.prog.underlying 99 with | some (.func _ _ v)=>v | _=>false),by kernel_rfl⟩,by kernel_rfl,by kernel_rfl,by kernel_rfl⟩
def PBx (b:PBox):Prop:=∃ t cs,b=.cells t cs∧pureL cs=true
def Vb:PBox:=.cells 99 [.fn 60 [] [.bp 2 0,.bp 1 0]]
def Sb:PBox:=.cells 99 [.fn 114 [] [.bp 4 0,.bp 5 0]]
def B6 (b0 b3:PBox) (f c:Int) (r:List PBox):List PBox:=b0 :: .cells 35 [.int .i64 f] :: .cells 3 [.int .i64 c] :: b3 :: Vb :: Sb :: r
section
variable (b0 b3:PBox) (f c:Int) (r:List PBox)
theorem B6_len:(B6 b0 b3 f c r).length=r.length+6:=rfl
theorem B6_1:(B6 b0 b3 f c r)[1]?=some (.cells 35 [.int .i64 f]):=rfl
theorem B6_2:(B6 b0 b3 f c r)[2]?=some (.cells 3 [.int .i64 c]):=rfl
theorem B6_4:(B6 b0 b3 f c r)[4]?=some Vb:=rfl
theorem B6_5:(B6 b0 b3 f c r)[5]?=some Sb:=rfl
theorem B6_app (x:PBox):B6 b0 b3 f c r++[x]=B6 b0 b3 f c (r++[x]):=rfl
theorem B6_s1 (f':Int):(B6 b0 b3 f c r).set 1 (.cells 35 [.int .i64 f'])=B6 b0 b3 f' c r:=rfl
theorem B6_s2 (c':Int):(B6 b0 b3 f c r).set 2 (.cells 3 [.int .i64 c'])=B6 b0 b3 f c' r:=rfl
theorem B6_last (x:PBox):(B6 b0 b3 f c (r++[x]))[r.length+6]?=some x:=by
 show (r++[x])[r.length]?=some x
 rw [List.getElem?_concat_length]
theorem B6_sl (x y:PBox):(B6 b0 b3 f c (r++[x])).set (r.length+6) y=B6 b0 b3 f c (r++[y]):=by
 show b0 :: .cells 35 [.int .i64 f] :: .cells 3 [.int .i64 c] :: b3 :: Vb :: Sb :: (r++[x]).set r.length y=_
 rw [List.set_append_right _ _ (Nat.le_refl _),Nat.sub_self]
 rfl
end
mutual
theorem pure_under (n:Nat) (v:PV) (h:v.pure=true):v.under n=true:=by
 match v with
 | .top=>simp [PV.pure] at h
 | .bp _ _=>simp [PV.pure] at h
 | .sl xs=>unfold PV.pure at h;unfold PV.under;exact pureL_under n xs h
 | .osl _ xs=>unfold PV.pure at h;unfold PV.under;exact pureL_under n xs h
 | .ip xs=>unfold PV.pure at h;unfold PV.under;exact pureL_under n xs h
 | .agg xs=>unfold PV.pure at h;unfold PV.under;exact pureL_under n xs h
 | .tup xs=>unfold PV.pure at h;unfold PV.under;exact pureL_under n xs h
 | .fn _ a b=>
  unfold PV.pure at h
  unfold PV.under
  rw [Bool.and_eq_true] at h ⊢
  exact ⟨pureL_under n a h.1,pureL_under n b h.2⟩
 | .iface _ v=>unfold PV.pure at h;unfold PV.under;exact pure_under n v h
 | .bool _=>simp [PV.under]
 | .int _ _=>simp [PV.under]
 | .str _=>simp [PV.under]
 | .nils=>simp [PV.under]
 | .nilp=>simp [PV.under]
 | .nilf=>simp [PV.under]
 | .nili=>simp [PV.under]
theorem pureL_under (n:Nat) (l:List PV) (h:pureL l=true):underL n l=true:=by
 match l with
 | []=>simp [underL]
 | v :: r=>
  unfold pureL at h
  unfold underL
  rw [Bool.and_eq_true] at h ⊢
  exact ⟨pure_under n v h.1,pureL_under n r h.2⟩
end
theorem PBx.under {b:PBox} (h:PBx b) (n:Nat):b.under n=true:=by
 obtain ⟨t,cs,rfl,hp⟩:=h
 exact pureL_under n cs hp
theorem PBx.tr (t:Tr):PBx (.cells 29 (trV t).cells):=by
 refine ⟨_,_,rfl,?_⟩
 have h:=trV_pure t
 obtain ⟨k,n,m,nm,v,key,kids⟩:=t
 unfold trV at h ⊢
 unfold PV.pure at h
 exact h
theorem B6_trunc {b0 b3:PBox} {f c:Int} {r ex:List PBox} (h0:PBx b0) (h3:PBx b3) (hr:∀ x ∈ r,PBx x) (b:Bool):truncB (r.length+6) (.ret (.bool b)) (B6 b0 b3 f c (r++ex))=B6 b0 b3 f c r:=by
 have ht:(B6 b0 b3 f c (r++ex)).take (r.length+6)=B6 b0 b3 f c r:=by
  show List.take (r.length+6) (b0 :: .cells 35 [.int .i64 f] :: .cells 3 [.int .i64 c] :: b3 :: Vb :: Sb :: (r++ex))=_
  simp only [List.take_succ_cons,List.take_left']
  rfl
 unfold truncB
 rw [ht,if_pos]
 rw [Bool.and_eq_true]
 refine ⟨by simp [CR.under,PV.under],?_⟩
 show (b0 :: .cells 35 [.int .i64 f] :: .cells 3 [.int .i64 c] :: b3 :: Vb :: Sb :: r).all _=true
 rw [List.all_eq_true]
 intro x hx
 rcases List.mem_cons.1 hx with rfl | hx
 · exact h0.under _
 rcases List.mem_cons.1 hx with rfl | hx
 · rfl
 rcases List.mem_cons.1 hx with rfl | hx
 · rfl
 rcases List.mem_cons.1 hx with rfl | hx
 · exact h3.under _
 rcases List.mem_cons.1 hx with rfl | hx
 · simp [Vb,PBox.under,underL,PV.under]
 rcases List.mem_cons.1 hx with rfl | hx
 · simp [Sb,PBox.under,underL,PV.under]
 exact (hr x hx).under _
theorem op_trunc {f:FuncId} {args:List PV} {b0 b3:PBox} {fo c fo' c':Int} {r ex:List PBox} {b:Bool} (hp:pureL args=false) (h0:PBx b0) (h3:PBx b3) (hr:∀ x ∈ r,PBx x)
 (h:callL CC f args (B6 b0 b3 fo c r)=some (.ret (.bool b),B6 b0 b3 fo' c' (r++ex))):callOp CC (callL CC) f args (B6 b0 b3 fo c r)=some (.ret (.bool b),B6 b0 b3 fo' c' r):=by
 unfold callOp
 rw [if_pos (by rw [hp];simp),h]
 simp only [B6_len]
 rw [B6_trunc h0 h3 hr]
def viE (t:Tr) (lv c:Int):Int:=if 24 < lv then 22 else if 200<=c then 3 else ndT t
theorem call_visit (t:Tr) (hs:shT t) (b0 b3:PBox) (f c lv:Int) (r:List PBox) (hc:0<=c) (hc':c<=200) :
 callL CC 60 [trV t,.int .i64 lv,.bp 2 0,.bp 1 0] (B6 b0 b3 f c r)=some (.ret (.bool (viE t lv c == 0)),B6 b0 b3 (viE t lv c) (c+1) (r++[.cells 29 (trV t).cells])):=by
 rw [callL_enter (fn:=Tryz.f60) (c:=Tryz.f60.body.getD .skip) rfl rfl fat_expr_Check_1 rfl ok_expr_Check_1 (Nat.le_of_ble_eq_true rfl)]
 have hnd:=op_expr_node t (shN_of hs)
 unfold viE
 generalize ndT t=nd at *
 obtain ⟨k,n,m,nm,v,key,kids⟩:=t
 unfold trV at hnd ⊢
 have hw:=wrap_i64 (n:=c+1) ⟨by omega,by omega⟩
 have hlen:True:=trivial
 generalize trVs kids=xs at *
 by_cases c1:lv > 24
 · rw [if_pos c1]
   obtain ⟨ev,eo,so,co,⟨hev,hco⟩,R⟩:=RULES CC;rw [<- hev]
   simp only [fpart,part',Tryz.f60,Option.getD]
   simp only [S9,R,seval,hlen,B6_len,B6_1,B6_2,B6_4,B6_5,B6_app,B6_s1,B6_s2,B6_last,B6_sl,dynR,hw,c1]
 · rw [if_neg c1]
   by_cases c2:200<=c
   · have c2':c+1 > 200:=by omega
     rw [if_pos c2]
     obtain ⟨ev,eo,so,co,⟨hev,hco⟩,R⟩:=RULES CC;rw [<- hev]
     simp only [fpart,part',Tryz.f60,Option.getD]
     simp only [S9,R,seval,hlen,B6_len,B6_1,B6_2,B6_4,B6_5,B6_app,B6_s1,B6_s2,B6_last,B6_sl,dynR,hw,c1,c2']
   · have c2':¬ c+1 > 200:=by omega
     rw [if_neg c2]
     obtain ⟨ev,eo,so,co,⟨hev,hco⟩,R⟩:=RULES CC;rw [<- hev]
     rw [<- hco] at hnd
     simp only [fpart,part',Tryz.f60,Option.getD]
     simp only [S9,R,seval,hlen,B6_len,B6_1,B6_2,B6_4,B6_5,B6_app,B6_s1,B6_s2,B6_last,B6_sl,dynR,hw,c1,c2',hnd]
theorem op_visit (t:Tr) (hs:shT t) {b0 b3:PBox} (f c lv:Int) {r:List PBox} (h0:PBx b0) (h3:PBx b3) (hr:∀ x ∈ r,PBx x) (hc:0<=c) (hc':c<=200) :
 callOp CC (callL CC) 60 [trV t,.int .i64 lv,.bp 2 0,.bp 1 0] (B6 b0 b3 f c r)=some (.ret (.bool (viE t lv c == 0)),B6 b0 b3 (viE t lv c) (c+1) r):=
 op_trunc (by simp only [pureL_cons,trV_pure] <;> rfl) h0 h3 hr (call_visit t hs b0 b3 f c lv r hc hc')
def STp (t:Tr):Prop:=∀ (b0 b3:PBox) (lv f c:Int) (r:List PBox),PBx b0->PBx b3->(∀ x ∈ r,PBx x)->0<=c->c<=200->1<=lv->lv<=25 ->
 ∃ c' ex,callL CC 114 [trV t,.int .i64 lv,.bp 4 0,.bp 5 0] (B6 b0 b3 f c r)=some (.ret (.bool ((wkT t lv c).2 == 0)),B6 b0 b3 (wkT t lv c).2 c' (r++ex))∧((wkT t lv c).2=0->c'=(wkT t lv c).1∧0<=c'∧c'<=200)
def PSt (b0 b3:PBox) (r:List PBox) (w:Int×Int) (res:Option (Ex×St)):Prop:=∃ e' c' ex,(w.2=0∧c'=w.1∧0<=c'∧c'<=200∧res=some (.exit 0,⟨e',B6 b0 b3 0 c' (r++ex)⟩))∨(w.2≠0∧res=some (.ret,⟨e',B6 b0 b3 w.2 c' (r++ex)⟩)∧getT e' 6=.bool false)
theorem PSt.app {b0 b3:PBox} {r:List PBox} {x:PBox} {w:Int×Int} {res:Option (Ex×St)} (h:PSt b0 b3 (r++[x]) w res):PSt b0 b3 r w res:=by
 obtain ⟨e',c',ex,h⟩:=h
 refine ⟨e',c',[x]++ex,?_⟩
 rw [<- List.append_assoc]
 exact h
theorem loop_step (L:Code) (hL:L=fpart Tryz.f114 [1,1,0,1,0]) (b0 b3:PBox) (h0:PBx b0) (h3:PBx b3) (lv:Int) (hlv:1<=lv) (hlv':lv<=24) (l:List Tr) (hl:l.length<=12) (hk:∀ t ∈ l,STp t):∀ (k i:Nat) (e:List PV) (r:List PBox) (c:Int),i+k=l.length->(∀ x ∈ r,PBx x)->0<=c->c<=200 ->
 getT e 1=.int .i64 lv->getT e 3=.bp 5 0->getT e 15=.sl (trVs l)->getT e 16=.int .i64 l.length->getT e 17=.int .i64 i->PSt b0 b3 r (wkTs (l.drop i) (lv+1) c) (evL CC L ⟨e,B6 b0 b3 0 c r⟩):=by
 intro k
 induction k with
 | zero=>
  intro i e r c hi0 hr hc hc' e1 e3 e15 e16 e17
  rw [evL_at (fpart Tryz.f114 [1,1,0,1,0,0]) hL]
  have hi:¬ ((i:Int) < (l.length:Int)):=by omega
  rw [List.drop_eq_nil_of_le (by omega)]
  unfold wkTs
  obtain ⟨⟨fa,fb,fv,hfu⟩,hfa,hfs,hfz⟩:=FNs
  have hlen:True:=trivial
  generalize trVs l=xs at *
  obtain ⟨ev,eo,so,co,⟨hev,hco⟩,R⟩:=RULES CC;rw [<- hev]
  simp only [fpart,part',Tryz.f114,Option.getD]
  simp only [S9,R,seval,hlen,B6_len,B6_1,B6_2,B6_4,B6_5,B6_app,B6_s1,B6_s2,B6_last,B6_sl,dynR,e1,e3,e15,e16,e17,hi]
  exact ⟨_,c,[],.inl ⟨rfl,rfl,hc,hc',by rw [List.append_nil]⟩⟩
 | succ k ih=>
  intro i e r c hi0 hr hc hc' e1 e3 e15 e16 e17
  rw [evL_at (fpart Tryz.f114 [1,1,0,1,0,0]) hL]
  have hi:((i:Int) < (l.length:Int)):=by omega
  have hi0':¬ ((i:Int) < 0):=by omega
  have hdr:l.drop i=(l[i]'(by omega)) :: l.drop (i+1):=List.drop_eq_getElem_cons (by omega)
  have hx:l[i]?=some (l[i]'(by omega)):=by simp
  have hst:STp (l[i]'(by omega)):=hk _ (List.getElem_mem _)
  generalize l[i]'(by omega)=x at *
  have hx':=trVs_get hx
  have hln:=trVs_length l
  have hw1:=wrap_i64 (n:=(i:Int)+1) ⟨by omega,by omega⟩
  have hw2:=wrap_i64 (n:=lv+1) ⟨by omega,by omega⟩
  have hr':∀ y ∈ r++[PBox.cells 29 (trV x).cells],PBx y:=by
   intro y hy
   rcases List.mem_append.1 hy with h | h
   · exact hr y h
   · simp at h;rw [h];exact PBx.tr x
  have key:=fun e c=>ih (i+1) e (r++[PBox.cells 29 (trV x).cells]) c (by omega) hr'
  have cast1:((i+1:Nat):Int)=(i:Int)+1:=by omega
  rw [cast1] at key
  rw [hdr]
  unfold wkTs
  obtain ⟨c',ex,hcall,hcnt⟩:=hst b0 b3 (lv+1) 0 c (r++[PBox.cells 29 (trV x).cells]) h0 h3 hr' hc hc' (by omega) (by omega)
  have hop:=op_trunc (by simp only [pureL_cons,trV_pure] <;> rfl) h0 h3 hr' hcall
  clear hcall
  generalize wkT x (lv+1) c=w at *
  obtain ⟨w1,w2⟩:=w
  simp only at hop hcnt ⊢
  have hpx:=trV_pure x
  obtain ⟨⟨fa,fb,fv,hfu⟩,hfa,hfs,hfz⟩:=FNs
  have hlen:True:=trivial
  obtain ⟨xk,xn,xm,xnm,xv,xkey,xkids⟩:=x
  unfold trV at hx' hop hpx key
  generalize trVs xkids=ys at *
  generalize trVs l=xs at *
  simp only [SA] at hop key
  by_cases c1:w2=0
  · subst c1
    obtain ⟨rfl,g0,g1⟩:=hcnt rfl
    rw [if_neg (by simp)]
    simp only [BEq.rfl] at hop
    apply PSt.app
    obtain ⟨ev,eo,so,co,⟨hev,hco⟩,R⟩:=RULES CC;rw [<- hev]
    rw [<- hev] at key
    rw [<- hco] at hop
    simp only [fpart,part',Tryz.f114,Option.getD]
    simp only [S9,R,seval,hlen,B6_len,B6_1,B6_2,B6_4,B6_5,B6_app,B6_s1,B6_s2,B6_last,B6_sl,dynR,e1,e3,e15,e16,e17,hi,hi0',hx',hw1,hw2,Sb,hop,TRf,hfu,hfa,hfs,hfz]
    refine key _ _ g0 g1 ?_ ?_ ?_ ?_ ?_
    all_goals simp only [S7,R,seval,e1,e3,e15,e16,e17]
  · rw [if_pos c1]
    have c1p:(w2 == 0)=false:=by simpa using c1
    rw [c1p] at hop
    obtain ⟨ev,eo,so,co,⟨hev,hco⟩,R⟩:=RULES CC;rw [<- hev]
    rw [<- hco] at hop
    simp only [fpart,part',Tryz.f114,Option.getD]
    simp only [S9,R,seval,hlen,B6_len,B6_1,B6_2,B6_4,B6_5,B6_app,B6_s1,B6_s2,B6_last,B6_sl,dynR,e1,e3,e15,e16,e17,hi,hi0',hx',hw1,hw2,Sb,hop,TRf,hfu,hfa,hfs,hfz]
    exact ⟨_,_,_,.inr ⟨c1,rfl,by simp only [S7,R,seval]⟩⟩
theorem node_step (t:Tr) (hs:shT t) (kids:List Tr) (hkd:(match t with | .mk _ _ _ _ _ _ l=>l)=kids) (hk:∀ t ∈ kids,STp t):STp t:=by
 intro b0 b3 lv f c r h0 h3 hr hc hc' hlv hlv'
 have hr':∀ y ∈ r++[PBox.cells 29 (trV t).cells],PBx y:=by
  intro y hy
  rcases List.mem_append.1 hy with h | h
  · exact hr y h
  · simp at h;rw [h];exact PBx.tr t
 have hvi:=op_visit t hs f c lv h0 h3 hr' hc hc'
 have hl12:kids.length<=12:=by
  obtain ⟨k,n,m,nm,v,key,l⟩:=t
  simp only at hkd
  subst hkd
  unfold shT at hs
  exact hs.1.2.2.2.2
 have hwk:wkT t lv c=if viE t lv c=0 then wkTs kids (lv+1) (c+1) else (c,viE t lv c):=by
  obtain ⟨k,n,m,nm,v,key,l⟩:=t
  simp only at hkd
  subst hkd
  unfold wkT viE
  by_cases d1:24 < lv
  · rw [if_pos d1,if_pos d1,if_neg (by decide)]
  · rw [if_neg d1,if_neg d1]
    by_cases d2:200<=c
    · rw [if_pos d2,if_pos d2,if_neg (by decide)]
    · rw [if_neg d2,if_neg d2]
      by_cases d3:ndT (.mk k n m nm v key l)=0
      · rw [if_neg (fun h=>h d3),if_pos d3]
      · rw [if_pos d3,if_neg d3]
 have hln:=trVs_length kids
 have hlv24:viE t lv c=0->lv<=24∧c < 200:=by
  intro h
  unfold viE at h
  split at h
  · omega
  · split at h
    · omega
    · omega
 rw [hwk]
 generalize viE t lv c=er at *
 obtain ⟨⟨fa,fb,fv,hfu⟩,hfa,hfs,hfz⟩:=FNs
 have hlen:True:=trivial
 by_cases c1:er=0
 · subst c1
   obtain ⟨g1,g2⟩:=hlv24 rfl
   rw [if_pos rfl]
   have key:=fun L hL e r hr e1 e3 e15 e16 e17=>loop_step L hL b0 b3 h0 h3 lv hlv g1 kids hl12 hk kids.length 0 e r (c+1) (by omega) hr (by omega) (by omega) e1 e3 e15 e16 e17
   rw [List.drop_zero] at key
   generalize wkTs kids (lv+1) (c+1)=w at *
   simp only [BEq.rfl] at hvi
   rw [callL_enter (fn:=Tryz.f114) (c:=Tryz.f114.body.getD .skip) rfl rfl fat_expr_walk_1 rfl ok_expr_walk_1 (Nat.le_of_ble_eq_true rfl)]
   obtain ⟨xk,xn,xm,xnm,xv,xkey,xkids⟩:=t
   simp only at hkd
   subst hkd
   unfold trV at hvi hr' ⊢
   generalize trVs xkids=xs at *
   simp only [SA] at hvi hr'
   obtain ⟨ev,eo,so,co,⟨hev,hco⟩,R⟩:=RULES CC;rw [<- hev]
   rw [<- hev] at key
   rw [<- hco] at hvi
   simp only [fpart,part',Tryz.f114,Option.getD]
   simp only [S9,R,seval,hlen,B6_len,B6_1,B6_2,B6_4,B6_5,B6_app,B6_s1,B6_s2,B6_last,B6_sl,dynR,hvi,Vb,hln,hfu,hfa,hfs,hfz]
   generalize hE:ev (Code.loop _) _=z
   have hP:PSt b0 b3 r w z:=by
    rw [<- hE]
    apply PSt.app
    refine key _ rfl _ _ hr' ?_ ?_ ?_ ?_ ?_
    all_goals first | (simp only [S7,R,seval];done) | (simp only [S7,R,seval] <;> rfl)
   obtain ⟨e',c',ex,⟨g3,g4,g5,g6,he⟩ | ⟨g3,he,g4⟩⟩:=hP
   · subst he
     rw [g3]
     simp only [S8,R,seval]
     exact ⟨c',ex,rfl,fun _=>⟨g4,g5,g6⟩⟩
   · subst he
     have g3p:(w.2 == 0)=false:=by simpa using g3
     rw [g3p]
     simp only [S8,R,seval,g4]
     exact ⟨c',ex,rfl,fun h=>absurd h g3⟩
 · have c1p:(er == 0)=false:=by simpa using c1
   rw [if_neg c1]
   simp only [c1p] at hvi ⊢
   rw [callL_enter (fn:=Tryz.f114) (c:=Tryz.f114.body.getD .skip) rfl rfl fat_expr_walk_1 rfl ok_expr_walk_1 (Nat.le_of_ble_eq_true rfl)]
   obtain ⟨xk,xn,xm,xnm,xv,xkey,xkids⟩:=t
   unfold trV at hvi ⊢
   generalize trVs xkids=xs at *
   simp only [SA] at hvi
   obtain ⟨ev,eo,so,co,⟨hev,hco⟩,R⟩:=RULES CC;rw [<- hev]
   rw [<- hco] at hvi
   simp only [fpart,part',Tryz.f114,Option.getD]
   simp only [S9,R,seval,hlen,B6_len,B6_1,B6_2,B6_4,B6_5,B6_app,B6_s1,B6_s2,B6_last,B6_sl,dynR,hvi,Vb,hfu,hfa,hfs,hfz]
   exact ⟨_,_,rfl,fun h=>absurd h c1⟩
mutual
theorem call_step (t:Tr) (hs:shT t):STp t:=by
 match t,hs with
 | .mk k n m nm v key kids,hs=>
  have h2:shTs kids:=by unfold shT at hs;exact hs.2
  exact node_step _ hs kids rfl (calls_step kids h2)
theorem calls_step (l:List Tr) (hs:shTs l):∀ t ∈ l,STp t:=by
 match l,hs with
 | [],_=>intro t ht;simp at ht
 | x :: r,hs=>
  intro t ht
  unfold shTs at hs
  rcases List.mem_cons.1 ht with h | h
  · rw [h];exact call_step x hs.1
  · exact calls_step r hs.2 t h
end
def ckT (t:Tr):Int:=(wkT t 1 0).2
theorem call_walk (t:Tr) (hs:shT t) (cs:List PV) (hcs:pureL cs=true):∃ bx,callL CC 59 [trV t,.fn 60 [] [.bp 2 0,.bp 1 0]] [.cells 29 cs,.cells 35 [.int .i64 0],.cells 3 [.int .i64 0]]=some (.ret (.bool (ckT t == 0)),bx) ∧
 bx.take 3=[.cells 29 cs,.cells 35 [.int .i64 (ckT t)],bx.getD 2 default]∧∃ c',bx[2]?=some (.cells 3 [.int .i64 c']):=by
 have hb3:=PBx.tr t
 obtain ⟨c',ex,hcall,_⟩:=call_step t hs (.cells 29 cs) (.cells 29 (trV t).cells) 1 0 0 [] ⟨_,_,rfl,hcs⟩ hb3 (by simp) (by decide) (by decide) (by decide) (by decide)
 have hop:=op_trunc (by simp only [pureL_cons,trV_pure] <;> rfl) ⟨_,_,rfl,hcs⟩ hb3 (by simp) hcall
 clear hcall
 unfold ckT
 generalize wkT t 1 0=w at *
 obtain ⟨⟨fa,fb,fv,hfu⟩,hfa,hfs,hfz⟩:=FNs
 have hlen:True:=trivial
 rw [callL_enter (fn:=Tryz.f59) (c:=Tryz.f59.body.getD .skip) rfl rfl fat_expr_walk rfl ok_expr_walk (Nat.le_of_ble_eq_true rfl)]
 obtain ⟨xk,xn,xm,xnm,xv,xkey,xkids⟩:=t
 unfold trV at hop ⊢
 generalize trVs xkids=xs at *
 simp only [SA] at hop
 unfold B6 Vb Sb at hop
 obtain ⟨ev,eo,so,co,⟨hev,hco⟩,R⟩:=RULES CC;rw [<- hev]
 rw [<- hco] at hop
 simp only [fpart,part',Tryz.f59,Option.getD]
 simp only [S9,R,seval,hlen,B6_len,B6_1,B6_2,B6_4,B6_5,B6_app,B6_s1,B6_s2,B6_last,B6_sl,dynR,hop,hfu,hfa,hfs,hfz,List.set_cons_zero,List.set_cons_succ]
 exact ⟨_,rfl,rfl,c',rfl⟩
theorem ZE:zeroCells CC 35=some [.int .i64 0]∧zeroCells CC 3=some [.int .i64 0]:=⟨by kernel_rfl,by kernel_rfl⟩
theorem op_walk (t:Tr) (hs:shT t) (cs:List PV) (hcs:pureL cs=true):∃ c':Int,callOp CC (callL CC) 59 [trV t,.fn 60 [] [.bp 2 0,.bp 1 0]] [.cells 29 cs,.cells 35 [.int .i64 0],.cells 3 [.int .i64 0]] =
 some (.ret (.bool (ckT t == 0)),[.cells 29 cs,.cells 35 [.int .i64 (ckT t)],.cells 3 [.int .i64 c']]):=by
 obtain ⟨bx,h1,h2,c',h3⟩:=call_walk t hs cs hcs
 refine ⟨c',?_⟩
 have h4:bx.getD 2 default=.cells 3 [.int .i64 c']:=by rw [List.getD_eq_getElem?_getD,h3];rfl
 rw [h4] at h2
 unfold callOp
 rw [if_pos (by simp only [pureL_cons,trV_pure,heapCC] <;> rfl),h1]
 simp only
 unfold truncB
 simp only [List.length_cons,List.length_nil]
 rw [h2,if_pos]
 rw [Bool.and_eq_true]
 refine ⟨by simp [CR.under,PV.under],?_⟩
 simp only [List.all_cons,List.all_nil,Bool.and_true,PBox.under,pureL_under _ _ hcs]
 simp [underL,PV.under]
theorem call_expr_Check (t:Tr) (hs:shT t):∃ bx,callL CC 31 [trV t] []=some (.ret (.int .i64 (ckT t)),bx):=by
 have hp:=trV_pure t
 have hw:=op_walk t hs (trV t).cells (by
  obtain ⟨k,n,m,nm,v,key,kids⟩:=t
  unfold trV at hp ⊢
  unfold PV.pure at hp
  exact hp)
 obtain ⟨c',hw⟩:=hw
 generalize ckT t=er at *
 obtain ⟨⟨fa,fb,fv,hfu⟩,hfa,hfs,hfz⟩:=FNs
 obtain ⟨z1,z2⟩:=ZE
 have hlen:True:=trivial
 rw [callL_enter (fn:=Tryz.f31) (c:=Tryz.f31.body.getD .skip) rfl rfl fat_expr_Check rfl ok_expr_Check (Nat.le_of_ble_eq_true rfl)]
 obtain ⟨xk,xn,xm,xnm,xv,xkey,xkids⟩:=t
 unfold trV at hw ⊢
 generalize trVs xkids=xs at *
 simp only [SA] at hw
 obtain ⟨ev,eo,so,co,⟨hev,hco⟩,R⟩:=RULES CC;rw [<- hev]
 rw [<- hco] at hw
 simp only [fpart,part',Tryz.f31,Option.getD]
 simp only [S9,R,seval,hlen,B6_len,B6_1,B6_2,B6_4,B6_5,B6_app,B6_s1,B6_s2,B6_last,B6_sl,dynR,hw,hfu,hfa,hfs,hfz,z1,z2,List.set_cons_zero,List.set_cons_succ]
 exact ⟨_,rfl⟩
theorem op_expr_Check (t:Tr) (hs:shT t) (bx):callOp CC (callL CC) 31 [trV t] bx=some (.ret (.int .i64 (ckT t)),bx):=by
 obtain ⟨b,h⟩:=call_expr_Check t hs
 exact callOp_of rfl (by simp only [pureL_cons,trV_pure,pureL_nil,Bool.and_self]) h rfl
set_option maxHeartbeats 4000000
end Go.HH
