/-
  What the law needs, packed: TD TE TF TH.
-/
import Derived.Test.YtmiilonaehgplaaM31
namespace Go.HH
open Go Go.Proofs
set_option maxRecDepth 100000
set_option maxHeartbeats 4000000
set_option linter.unusedSimpArgs false
set_option linter.unusedVariables false
theorem ok_slices_Contains_string_string:fnOK CC Try.f48 (Try.f48.body.getD .skip)=true:=by kernel_rfl
theorem fat_slices_Contains_string_string:CC.P.funcs[48]?=some Try.f48:=by kernel_rfl
theorem ok_slices_Equal_string_string:fnOK CC Try.f61 (Try.f61.body.getD .skip)=true:=by kernel_rfl
theorem fat_slices_Equal_string_string:CC.P.funcs[61]?=some Try.f61:=by kernel_rfl
theorem ok_cluster_zero:fnOK CC Try.f52 (Try.f52.body.getD .skip)=true:=by kernel_rfl
theorem fat_cluster_zero:CC.P.funcs[52]?=some Try.f52:=by kernel_rfl
theorem ok_cluster_alike:fnOK CC Try.f59 (Try.f59.body.getD .skip)=true:=by kernel_rfl
theorem fat_cluster_alike:CC.P.funcs[59]?=some Try.f59:=by kernel_rfl
theorem ok_cluster_suits:fnOK CC Try.f55 (Try.f55.body.getD .skip)=true:=by kernel_rfl
theorem fat_cluster_suits:CC.P.funcs[55]?=some Try.f55:=by kernel_rfl
theorem ok_num_Sat:fnOK CC Try.f56 (Try.f56.body.getD .skip)=true:=by kernel_rfl
theorem fat_num_Sat:CC.P.funcs[56]?=some Try.f56:=by kernel_rfl
structure Ef where
 kd:Int
 ar:List UInt8
 n:Int
def efV (f:Ef):PV:=.agg [.int .i64 f.kd,.str f.ar,.int .i64 f.n]
structure Cm where
 nm:List UInt8
 pm:At
 ef:List Ef
def cmV (c:Cm):PV:=.agg [.str c.nm,.str c.pm.nm,.int .i64 c.pm.kd,.int .i64 c.pm.mn,.int .i64 c.pm.mx,.sl (strs c.pm.en),.bool c.pm.wr,.bool c.pm.sf,.sl (c.ef.map efV)]
structure Cl where
 nm:List UInt8
 ats:List At
 cms:List Cm
 ev:List (List UInt8)
def clV (c:Cl):PV:=.agg [.str c.nm,.sl (c.ats.map attV),.sl (c.cms.map cmV),.sl (strs c.ev)]
structure Dv where
 id:Int
 eui:Int
 vn:Int
 sl:Bool
 pl:Int
 rm:List UInt8
 cl:List (List UInt8)
def dvV (d:Dv):PV:=.agg [.int .i64 d.id,.int .u64 d.eui,.int .i64 d.vn,.bool d.sl,.int .i64 d.pl,.str d.rm,.sl (strs d.cl)]
structure Hm where
 cls:List Cl
 dvs:List Dv
def hmV (h:Hm):PV:=.agg [.sl (h.cls.map clV),.sl (h.dvs.map dvV)]
noncomputable def fT0:Array Field:=match Try.prog.underlying 67 with | some (.struct f)=>f | _=>#[]
noncomputable def fT1:Array Field:=match Try.prog.underlying 64 with | some (.struct f)=>f | _=>#[]
noncomputable def fT2:Array Field:=match Try.prog.underlying 69 with | some (.struct f)=>f | _=>#[]
noncomputable def fT3:Array Field:=match Try.prog.underlying 76 with | some (.struct f)=>f | _=>#[]
noncomputable def fT4:Array Field:=match Try.prog.underlying 48 with | some (.struct f)=>f | _=>#[]
noncomputable def fT5:Array Field:=match Try.prog.underlying 25 with | some (.struct f)=>f | _=>#[]
noncomputable def fT6:Array Field:=match Try.prog.underlying 28 with | some (.struct f)=>f | _=>#[]
noncomputable def fT7:Array Field:=match Try.prog.underlying 41 with | some (.struct f)=>f | _=>#[]
noncomputable def fT8:Array Field:=match Try.prog.underlying 112 with | some (.struct f)=>f | _=>#[]
theorem UTT:CC.P.underlying 67=some (.struct fT0)∧CC.P.underlying 64=some (.struct fT1)∧CC.P.underlying 69=some (.struct fT2)∧CC.P.underlying 76=some (.struct fT3)∧CC.P.underlying 48=some (.struct fT4)∧CC.P.underlying 25=some (.struct fT5)∧CC.P.underlying 28=some (.struct fT6)∧CC.P.underlying 41=some (.struct fT7)∧CC.P.underlying 112=some (.struct fT8):=by
 repeat' apply And.intro
 all_goals kernel_rfl
theorem ZCT:zeroCells CC 67=some [.str [],.int .i64 0,.int .i64 0,.int .i64 0,.nils,.bool false,.bool false]∧zeroCells CC 64=some [.int .i64 0,.str [],.int .i64 0]∧zeroCells CC 69=some [.str [],.str [],.int .i64 0,.int .i64 0,.int .i64 0,.nils,.bool false,.bool false,.nils]∧zeroCells CC 76=some [.str [],.nils,.nils,.nils]∧zeroCells CC 48=some [.int .i64 0,.int .u64 0,.int .i64 0,.bool false,.int .i64 0,.str [],.nils]∧zeroCells CC 41=some [.int .i64 0,.int .i64 0,.int .i64 0,.int .i64 0,.int .i64 0,.nils]∧zeroCells CC 61=some [.int .i64 0,.int .i64 0]:=by
 repeat' apply And.intro
 all_goals kernel_rfl
theorem ss1 {α:Type} (a:List α) (x y:α):(a++[x]).set a.length y=a++[y]:=by simp
theorem call_Contains (l:List (List UInt8)) (hl:l.length<=9223372036854775807) (s:List UInt8):callL CC 48 [.sl (strs l),.str s] []=some (.ret (.bool (decide (ixF 0 l s ≥ 0))),[]):=by
 have hix:=op_Index l hl s
 rw [callL_enter (fn:=Try.f48) (c:=Try.f48.body.getD .skip) rfl rfl fat_slices_Contains_string_string rfl ok_slices_Contains_string_string (Nat.le_of_ble_eq_true rfl)]
 generalize strs l=xs at *
 generalize ixF 0 l s=j at *
 obtain ⟨ev,eo,so,co,⟨hev,hco⟩,R⟩:=RULES CC;rw [<- hev]
 rw [<- hco] at hix
 simp only [fpart,part',Try.f48,Option.getD]
 simp (maxSteps:=5000000) only [SA,SB,SD,R,SF,SG,SH,seval,TG,SE,SC,UTT,ZCT,List.getElem?_concat_length,ss1,List.set_cons_zero,List.set_cons_succ,Bool.not_not,strP_eql,strP_neq,hix]
theorem op_Contains (l:List (List UInt8)) (hl:l.length<=9223372036854775807) (s:List UInt8) (bx):callOp CC (callL CC) 48 [.sl (strs l),.str s] bx=some (.ret (.bool (decide (ixF 0 l s ≥ 0))),bx):=callOp_of rfl (by simp only [SA,strs_pure,Bool.and_true]) (call_Contains l hl s) rfl
theorem call_Sat (n:Int):∃ m,callL CC 56 [.int .i64 n] []=some (.ret (.int .i64 m),[]):=by
 rw [callL_enter (fn:=Try.f56) (c:=Try.f56.body.getD .skip) rfl rfl fat_num_Sat rfl ok_num_Sat (Nat.le_of_ble_eq_true rfl)]
 obtain ⟨ev,eo,so,co,⟨hev,hco⟩,R⟩:=RULES CC;rw [<- hev]
 simp only [fpart,part',Try.f56,Option.getD]
 simp (maxSteps:=5000000) only [SA,SB,SD,R,SF,SG,SH,seval,TG,SE,SC,UTT,ZCT,List.getElem?_concat_length,ss1,List.set_cons_zero,List.set_cons_succ,Bool.not_not,strP_eql,strP_neq,maxP2,minP2]
 exact ⟨_,rfl⟩
theorem op_Sat (n:Int):∃ m,∀ bx,callOp CC (callL CC) 56 [.int .i64 n] bx=some (.ret (.int .i64 m),bx):=by
 obtain ⟨m,h⟩:=call_Sat n
 exact ⟨m,fun bx=>callOp_of rfl (by simp only [SA,Bool.and_true]) h rfl⟩
def zrB (a:At):Bool:=(a.nm == []) && (a.kd == 0) && (a.mn == 0) && (a.mx == 0) && ((a.en.length:Int) == 0) && !a.wr && !a.sf
theorem call_zero (a:At):∃ bx,callL CC 52 [attV a] []=some (.ret (.bool (zrB a)),bx):=by
 rw [callL_enter (fn:=Try.f52) (c:=Try.f52.body.getD .skip) rfl rfl fat_cluster_zero rfl ok_cluster_zero (Nat.le_of_ble_eq_true rfl)]
 obtain ⟨nm,kd,mn,mx,en,wr,sf⟩:=a
 unfold attV zrB
 simp only
 have hln:=strs_length en
 have h1:strP .eql nm []=some (.bool (nm == [])):=rfl
 generalize (nm == [])=b1 at *
 generalize h2:(kd == 0)=b2 at *
 generalize h3:(mn == 0)=b3 at *
 generalize h4:(mx == 0)=b4 at *
 generalize h5:((en.length:Int) == 0)=b5 at *
 generalize strs en=xs at *
 cases b1 with
 | true=>
  cases b2 with
  | true=>
   cases b3 with
   | true=>
    cases b4 with
    | true=>
     cases b5 with
     | true=>
      cases wr with
      | true=>
       obtain ⟨ev,eo,so,co,⟨hev,hco⟩,R⟩:=RULES CC;rw [<- hev]
       simp only [fpart,part',Try.f52,Option.getD]
       simp (maxSteps:=5000000) only [SA,SB,SD,R,SF,SG,SH,seval,TG,SE,SC,UTT,ZCT,List.getElem?_concat_length,ss1,List.set_cons_zero,List.set_cons_succ,Bool.not_not,strP_eql,strP_neq,h1,h2,h3,h4,h5,hln]
       exact ⟨_,rfl⟩
      | false=>
       obtain ⟨ev,eo,so,co,⟨hev,hco⟩,R⟩:=RULES CC;rw [<- hev]
       simp only [fpart,part',Try.f52,Option.getD]
       simp (maxSteps:=5000000) only [SA,SB,SD,R,SF,SG,SH,seval,TG,SE,SC,UTT,ZCT,List.getElem?_concat_length,ss1,List.set_cons_zero,List.set_cons_succ,Bool.not_not,strP_eql,strP_neq,h1,h2,h3,h4,h5,hln]
       exact ⟨_,rfl⟩
     | false=>
      obtain ⟨ev,eo,so,co,⟨hev,hco⟩,R⟩:=RULES CC;rw [<- hev]
      simp only [fpart,part',Try.f52,Option.getD]
      simp (maxSteps:=5000000) only [SA,SB,SD,R,SF,SG,SH,seval,TG,SE,SC,UTT,ZCT,List.getElem?_concat_length,ss1,List.set_cons_zero,List.set_cons_succ,Bool.not_not,strP_eql,strP_neq,h1,h2,h3,h4,h5,hln]
      exact ⟨_,rfl⟩
    | false=>
     obtain ⟨ev,eo,so,co,⟨hev,hco⟩,R⟩:=RULES CC;rw [<- hev]
     simp only [fpart,part',Try.f52,Option.getD]
     simp (maxSteps:=5000000) only [SA,SB,SD,R,SF,SG,SH,seval,TG,SE,SC,UTT,ZCT,List.getElem?_concat_length,ss1,List.set_cons_zero,List.set_cons_succ,Bool.not_not,strP_eql,strP_neq,h1,h2,h3,h4,h5,hln]
     exact ⟨_,rfl⟩
   | false=>
    obtain ⟨ev,eo,so,co,⟨hev,hco⟩,R⟩:=RULES CC;rw [<- hev]
    simp only [fpart,part',Try.f52,Option.getD]
    simp (maxSteps:=5000000) only [SA,SB,SD,R,SF,SG,SH,seval,TG,SE,SC,UTT,ZCT,List.getElem?_concat_length,ss1,List.set_cons_zero,List.set_cons_succ,Bool.not_not,strP_eql,strP_neq,h1,h2,h3,h4,h5,hln]
    exact ⟨_,rfl⟩
  | false=>
   obtain ⟨ev,eo,so,co,⟨hev,hco⟩,R⟩:=RULES CC;rw [<- hev]
   simp only [fpart,part',Try.f52,Option.getD]
   simp (maxSteps:=5000000) only [SA,SB,SD,R,SF,SG,SH,seval,TG,SE,SC,UTT,ZCT,List.getElem?_concat_length,ss1,List.set_cons_zero,List.set_cons_succ,Bool.not_not,strP_eql,strP_neq,h1,h2,h3,h4,h5,hln]
   exact ⟨_,rfl⟩
 | false=>
  obtain ⟨ev,eo,so,co,⟨hev,hco⟩,R⟩:=RULES CC;rw [<- hev]
  simp only [fpart,part',Try.f52,Option.getD]
  simp (maxSteps:=5000000) only [SA,SB,SD,R,SF,SG,SH,seval,TG,SE,SC,UTT,ZCT,List.getElem?_concat_length,ss1,List.set_cons_zero,List.set_cons_succ,Bool.not_not,strP_eql,strP_neq,h1,h2,h3,h4,h5,hln]
  exact ⟨_,rfl⟩
theorem op_zero (a:At) (bx):callOp CC (callL CC) 52 [attV a] bx=some (.ret (.bool (zrB a)),bx):=by
 obtain ⟨b,h⟩:=call_zero a
 exact callOp_of rfl (by show ((attV a).pure && true)=true;rw [attV_pure] <;> rfl) h rfl
theorem dfV_en {a:At} (h:dfV a=0):a.en.length<=64:=by
 unfold dfV at h
 split at h
 · cases h
 · split at h
   · cases h
   · split at h
     · cases h
     · split at h
       · unfold mbV at h
         split at h
         · cases h
         · omega
       · split at h
         · cases h
         · omega
def PEq (res:Option (Ex×St)):Prop:=∃ e',(res=some (.exit 0,⟨e',[]⟩))∨(∃ b,res=some (.ret,⟨e',[]⟩)∧getT e' 4=.bool b)
theorem loop_Equal (L:Code) (hL:L=fpart Try.f61 [1,1,0,1,0]) (l m:List (List UInt8)) (hl:l.length<=9223372036854775807) (hm:m.length=l.length):∀ (k i:Nat) (e:List PV),i+k=l.length ->
 getT e 0=.sl (strs l)->getT e 1=.sl (strs m)->getT e 12=.int .i64 l.length->getT e 13=.int .i64 i->PEq (evL CC L ⟨e,[]⟩):=by
 intro k
 induction k with
 | zero=>
  intro i e hk h0 h1 h12 h13
  rw [evL_at (fpart Try.f61 [1,1,0,1,0,0]) hL]
  have hi:¬ ((i:Int) < (l.length:Int)):=by omega
  obtain ⟨ev,eo,so,co,⟨hev,hco⟩,R⟩:=RULES CC;rw [<- hev]
  simp only [fpart,part',Try.f61,Option.getD]
  simp (maxSteps:=5000000) only [SA,SB,SD,R,SF,SG,SH,seval,TG,SE,SC,UTT,ZCT,List.getElem?_concat_length,ss1,List.set_cons_zero,List.set_cons_succ,Bool.not_not,strP_eql,strP_neq,h12,h13,hi]
  exact ⟨_,.inl rfl⟩
 | succ k ih=>
  intro i e hk h0 h1 h12 h13
  rw [evL_at (fpart Try.f61 [1,1,0,1,0,0]) hL]
  have hi:((i:Int) < (l.length:Int)):=by omega
  have hi0:¬ ((i:Int) < 0):=by omega
  have hx:=strs_get (l:=l) (i:=i) (s:=l[i]'(by omega)) (List.getElem?_eq_getElem (by omega))
  have hy:=strs_get (l:=m) (i:=i) (s:=m[i]'(by omega)) (List.getElem?_eq_getElem (by omega))
  have hw:=wrap_i64 (n:=(i:Int)+1) ⟨by omega,by omega⟩
  have key:=fun e=>ih (i+1) e (by omega)
  have cast1:((i+1:Nat):Int)=(i:Int)+1:=by omega
  rw [cast1] at key
  generalize l[i]'(by omega)=x at *
  generalize m[i]'(by omega)=y at *
  have hne:strP .neq x y=some (.bool (!(x == y))):=rfl
  generalize (x == y)=b at *
  generalize strs l=xs at *
  generalize strs m=ys at *
  cases b with
  | false=>
   obtain ⟨ev,eo,so,co,⟨hev,hco⟩,R⟩:=RULES CC;rw [<- hev]
   simp only [fpart,part',Try.f61,Option.getD]
   simp (maxSteps:=5000000) only [SA,SB,SD,R,SF,SG,SH,seval,TG,SE,SC,UTT,ZCT,List.getElem?_concat_length,ss1,List.set_cons_zero,List.set_cons_succ,Bool.not_not,strP_eql,strP_neq,h0,h1,h12,h13,hi,hi0,hx,hy,hne]
   exact ⟨_,.inr ⟨_,rfl,by simp (maxSteps:=5000000) only [SA,SB,SD,R,SF,seval];rfl⟩⟩
  | true=>
   obtain ⟨ev,eo,so,co,⟨hev,hco⟩,R⟩:=RULES CC;rw [<- hev]
   rw [<- hev] at key
   simp only [fpart,part',Try.f61,Option.getD]
   simp (maxSteps:=5000000) only [SA,SB,SD,R,SF,SG,SH,seval,TG,SE,SC,UTT,ZCT,List.getElem?_concat_length,ss1,List.set_cons_zero,List.set_cons_succ,Bool.not_not,strP_eql,strP_neq,h0,h1,h12,h13,hi,hi0,hx,hy,hne,hw]
   refine key _ ?_ ?_ ?_ ?_
   · simp (maxSteps:=5000000) only [SA,SB,SD,R,SF,seval,h0]
   · simp (maxSteps:=5000000) only [SA,SB,SD,R,SF,seval,h1]
   · simp (maxSteps:=5000000) only [SA,SB,SD,R,SF,seval,h12]
   · simp (maxSteps:=5000000) only [SA,SB,SD,R,SF,seval]
theorem call_Equal (l m:List (List UInt8)) (hl:l.length<=9223372036854775807):∃ b,callL CC 61 [.sl (strs l),.sl (strs m)] []=some (.ret (.bool b),[]):=by
 rw [callL_enter (fn:=Try.f61) (c:=Try.f61.body.getD .skip) rfl rfl fat_slices_Equal_string_string rfl ok_slices_Equal_string_string (Nat.le_of_ble_eq_true rfl)]
 have hln:=strs_length l
 have hlm:=strs_length m
 by_cases c0:(l.length:Int)=m.length
 · have c:((l.length:Int) != m.length)=false:=by simpa using c0
   have hloop:=fun e=>loop_Equal _ rfl l m hl (by omega) l.length 0 e (by omega)
   generalize strs l=xs at *
   generalize strs m=ys at *
   obtain ⟨ev,eo,so,co,⟨hev,hco⟩,R⟩:=RULES CC;rw [<- hev]
   rw [<- hev] at hloop
   simp only [fpart,part',Try.f61,Option.getD] at hloop ⊢
   simp (maxSteps:=5000000) only [SA,SB,SD,R,SF,SG,SH,seval,TG,SE,SC,UTT,ZCT,List.getElem?_concat_length,ss1,List.set_cons_zero,List.set_cons_succ,Bool.not_not,strP_eql,strP_neq,hln,hlm,c]
   generalize hE:ev _ _=z
   have hP:PEq z:=by
    rw [<- hE]
    refine hloop _ ?_ ?_ ?_ ?_
    · simp (maxSteps:=5000000) only [SA,SB,SD,R,SF,seval]
    · simp (maxSteps:=5000000) only [SA,SB,SD,R,SF,seval]
    · simp (maxSteps:=5000000) only [SA,SB,SD,R,SF,seval]
    · simp (maxSteps:=5000000) only [SA,SB,SD,R,SF,seval] <;> rfl
   obtain ⟨e',he | ⟨b,he,g2⟩⟩:=hP
   · subst he
     simp (maxSteps:=5000000) only [SA,SB,SD,R,SF,SG,SH,seval,TG,SE,SC,UTT,ZCT,List.getElem?_concat_length,ss1,List.set_cons_zero,List.set_cons_succ,Bool.not_not,strP_eql,strP_neq,hln]
     exact ⟨_,rfl⟩
   · subst he
     simp (maxSteps:=5000000) only [SA,SB,SD,R,SF,SG,SH,seval,TG,SE,SC,UTT,ZCT,List.getElem?_concat_length,ss1,List.set_cons_zero,List.set_cons_succ,Bool.not_not,strP_eql,strP_neq,g2]
     exact ⟨_,rfl⟩
 · have c:((l.length:Int) != m.length)=true:=by simpa using c0
   generalize strs l=xs at *
   generalize strs m=ys at *
   obtain ⟨ev,eo,so,co,⟨hev,hco⟩,R⟩:=RULES CC;rw [<- hev]
   simp only [fpart,part',Try.f61,Option.getD]
   simp (maxSteps:=5000000) only [SA,SB,SD,R,SF,SG,SH,seval,TG,SE,SC,UTT,ZCT,List.getElem?_concat_length,ss1,List.set_cons_zero,List.set_cons_succ,Bool.not_not,strP_eql,strP_neq,hln,hlm,c]
   exact ⟨_,rfl⟩
theorem op_Equal (l m:List (List UInt8)) (hl:l.length<=9223372036854775807):∃ b,∀ bx,callOp CC (callL CC) 61 [.sl (strs l),.sl (strs m)] bx=some (.ret (.bool b),bx):=by
 obtain ⟨b,h⟩:=call_Equal l m hl
 exact ⟨b,fun bx=>callOp_of rfl (by simp only [SA,SE,strs_pure,Bool.and_true]) h rfl⟩
theorem call_alike (a p:At) (hl:a.en.length<=64):∃ b bx,callL CC 59 [attV a,attV p] []=some (.ret (.bool b),bx):=by
 rw [callL_enter (fn:=Try.f59) (c:=Try.f59.body.getD .skip) rfl rfl fat_cluster_alike rfl ok_cluster_alike (Nat.le_of_ble_eq_true rfl)]
 obtain ⟨q,heq⟩:=op_Equal a.en p.en (by omega)
 obtain ⟨nm,kd,mn,mx,en,wr,sf⟩:=a
 obtain ⟨nm',kd',mn',mx',en',wr',sf'⟩:=p
 unfold attV
 simp only at heq hl ⊢
 have hpu:=strs_pure en
 have hpu':=strs_pure en'
 generalize strs en=xs at *
 generalize strs en'=ys at *
 by_cases c0:kd=kd'
 · have c:(kd == kd')=true:=by simp [c0]
   obtain ⟨ev,eo,so,co,⟨hev,hco⟩,R⟩:=RULES CC;rw [<- hev]
   rw [<- hco] at heq
   simp only [fpart,part',Try.f59,Option.getD]
   simp (maxSteps:=5000000) only [SA,SB,SD,R,SF,SG,SH,seval,TG,SE,SC,UTT,ZCT,List.getElem?_concat_length,ss1,List.set_cons_zero,List.set_cons_succ,Bool.not_not,strP_eql,strP_neq,c,heq,hpu,hpu']
   exact ⟨_,_,rfl⟩
 · have c:(kd == kd')=false:=by simpa using c0
   obtain ⟨ev,eo,so,co,⟨hev,hco⟩,R⟩:=RULES CC;rw [<- hev]
   simp only [fpart,part',Try.f59,Option.getD]
   simp (maxSteps:=5000000) only [SA,SB,SD,R,SF,SG,SH,seval,TG,SE,SC,UTT,ZCT,List.getElem?_concat_length,ss1,List.set_cons_zero,List.set_cons_succ,Bool.not_not,strP_eql,strP_neq,c]
   exact ⟨_,_,rfl⟩
theorem op_alike (a p:At) (hl:a.en.length<=64):∃ b,∀ bx,callOp CC (callL CC) 59 [attV a,attV p] bx=some (.ret (.bool b),bx):=by
 obtain ⟨b,bx',h⟩:=call_alike a p hl
 exact ⟨b,fun bx=>callOp_of rfl (by show ((attV a).pure && ((attV p).pure && true))=true;rw [attV_pure,attV_pure] <;> rfl) h rfl⟩
theorem buildVl (k n:Int):buildP CC 112 [(0,.int .i64 k),(1,.int .i64 n)]=some (vlV (k,n,[])):=by
 unfold buildP
 kernel_rfl
theorem call_suits (f:Ef) (a p:At) (hl:a.en.length<=64):∃ b bx,callL CC 55 [efV f,attV a,attV p] []=some (.ret (.bool b),bx):=by
 rw [callL_enter (fn:=Try.f55) (c:=Try.f55.body.getD .skip) rfl rfl fat_cluster_suits rfl ok_cluster_suits (Nat.le_of_ble_eq_true rfl)]
 obtain ⟨q,hal⟩:=op_alike a p hl
 have hft:=op_value_Fits a (a.kd,f.n,[])
 generalize ftV a (a.kd,f.n,[])=ft at *
 have hbv:=buildVl a.kd f.n
 obtain ⟨nm,kd,mn,mx,en,wr,sf⟩:=a
 obtain ⟨nm',kd',mn',mx',en',wr',sf'⟩:=p
 obtain ⟨fk,fa,fn⟩:=f
 unfold attV vlV at *
 unfold efV
 simp only at *
 have hpu:=strs_pure en
 have hpu':=strs_pure en'
 generalize strs en=xs at *
 generalize strs en'=ys at *
 by_cases k10:fk=1
 · have k1:(fk == 1)=true:=by simp [k10]
   by_cases m40:kd=4
   · have m4:(kd != 4)=false:=by simp [m40]
     obtain ⟨ev,eo,so,co,⟨hev,hco⟩,R⟩:=RULES CC;rw [<- hev]
     simp only [fpart,part',Try.f55,Option.getD]
     simp (maxSteps:=5000000) only [SA,SB,SD,R,SF,SG,SH,seval,TG,SE,SC,UTT,ZCT,List.getElem?_concat_length,ss1,List.set_cons_zero,List.set_cons_succ,Bool.not_not,strP_eql,strP_neq,k1,m4]
     exact ⟨_,_,rfl⟩
   · have m4:(kd != 4)=true:=by simpa using m40
     obtain ⟨ev,eo,so,co,⟨hev,hco⟩,R⟩:=RULES CC;rw [<- hev]
     rw [<- hco] at hft
     simp only [fpart,part',Try.f55,Option.getD]
     simp (maxSteps:=5000000) only [SA,SB,SD,R,SF,SG,SH,seval,TG,SE,SC,UTT,ZCT,List.getElem?_concat_length,ss1,List.set_cons_zero,List.set_cons_succ,Bool.not_not,strP_eql,strP_neq,k1,m4,hft,hbv,hpu]
     exact ⟨_,_,rfl⟩
 · have k1:(fk == 1)=false:=by simpa using k10
   by_cases k20:fk=2
   · have k2:(fk == 2)=true:=by simp [k20]
     obtain ⟨ev,eo,so,co,⟨hev,hco⟩,R⟩:=RULES CC;rw [<- hev]
     rw [<- hco] at hal
     simp only [fpart,part',Try.f55,Option.getD]
     simp (maxSteps:=5000000) only [SA,SB,SD,R,SF,SG,SH,seval,TG,SE,SC,UTT,ZCT,List.getElem?_concat_length,ss1,List.set_cons_zero,List.set_cons_succ,Bool.not_not,strP_eql,strP_neq,k1,k2,hal,hpu,hpu']
     exact ⟨_,_,rfl⟩
   · have k2:(fk == 2)=false:=by simpa using k20
     by_cases k30:fk=3
     · have k3:(fk == 3)=true:=by simp [k30]
       obtain ⟨ev,eo,so,co,⟨hev,hco⟩,R⟩:=RULES CC;rw [<- hev]
       simp only [fpart,part',Try.f55,Option.getD]
       simp (maxSteps:=5000000) only [SA,SB,SD,R,SF,SG,SH,seval,TG,SE,SC,UTT,ZCT,List.getElem?_concat_length,ss1,List.set_cons_zero,List.set_cons_succ,Bool.not_not,strP_eql,strP_neq,k1,k2,k3]
       exact ⟨_,_,rfl⟩
     · have k3:(fk == 3)=false:=by simpa using k30
       obtain ⟨ev,eo,so,co,⟨hev,hco⟩,R⟩:=RULES CC;rw [<- hev]
       simp only [fpart,part',Try.f55,Option.getD]
       simp (maxSteps:=5000000) only [SA,SB,SD,R,SF,SG,SH,seval,TG,SE,SC,UTT,ZCT,List.getElem?_concat_length,ss1,List.set_cons_zero,List.set_cons_succ,Bool.not_not,strP_eql,strP_neq,k1,k2,k3]
       exact ⟨_,_,rfl⟩
theorem op_suits (f:Ef) (a p:At) (hl:a.en.length<=64):∃ b,∀ bx,callOp CC (callL CC) 55 [efV f,attV a,attV p] bx=some (.ret (.bool b),bx):=by
 obtain ⟨b,bx',h⟩:=call_suits f a p hl
 exact ⟨b,fun bx=>callOp_of rfl (by show ((efV f).pure && ((attV a).pure && ((attV p).pure && true)))=true;rw [attV_pure,attV_pure] <;> rfl) h rfl⟩
end Go.HH
namespace Go.HH
open Go Go.Proofs
set_option maxRecDepth 100000
set_option maxHeartbeats 4000000
set_option linter.unusedSimpArgs false
set_option linter.unusedVariables false
theorem ok_cluster_wide:fnOK CC Try.f45 (Try.f45.body.getD .skip)=true:=by kernel_rfl
theorem fat_cluster_wide:CC.P.funcs[45]?=some Try.f45:=by kernel_rfl
theorem ok_cluster_Attr:fnOK CC Try.f54 (Try.f54.body.getD .skip)=true:=by kernel_rfl
theorem fat_cluster_Attr:CC.P.funcs[54]?=some Try.f54:=by kernel_rfl
theorem ok_cluster_effect:fnOK CC Try.f53 (Try.f53.body.getD .skip)=true:=by kernel_rfl
theorem fat_cluster_effect:CC.P.funcs[53]?=some Try.f53:=by kernel_rfl
theorem ok_cluster_numbered:fnOK CC Try.f47 (Try.f47.body.getD .skip)=true:=by kernel_rfl
theorem fat_cluster_numbered:CC.P.funcs[47]?=some Try.f47:=by kernel_rfl
theorem ok_cluster_Check:fnOK CC Try.f42 (Try.f42.body.getD .skip)=true:=by kernel_rfl
theorem fat_cluster_Check:CC.P.funcs[42]?=some Try.f42:=by kernel_rfl
theorem ok_cluster_All:fnOK CC Try.f31 (Try.f31.body.getD .skip)=true:=by kernel_rfl
theorem fat_cluster_All:CC.P.funcs[31]?=some Try.f31:=by kernel_rfl
def PL (j:Nat) (keep:List Nat) (e:List PV) (bx:List PBox) (r:Nat) (Q:PV->Prop) (X:Prop) (res:Option (Ex×St)):Prop:=
 ∃ e' ex,(res=some (.exit j,⟨e',bx++ex⟩)∧(∀ t ∈ keep,getT e' t=getT e t)∧X)∨(res=some (.ret,⟨e',bx++ex⟩)∧Q (getT e' r))
theorem PL.app {j:Nat} {keep:List Nat} {e e2:List PV} {bx:List PBox} {x:PBox} {r:Nat} {Q:PV->Prop} {X Y:Prop} {res:Option (Ex×St)} (hk:∀ t ∈ keep,getT e2 t=getT e t) (hX:Y->X) (h:PL j keep e2 (bx++[x]) r Q Y res):PL j keep e bx r Q X res:=by
 obtain ⟨e',ex,h⟩:=h
 refine ⟨e',[x]++ex,?_⟩
 rw [<- List.append_assoc]
 rcases h with ⟨h1,h2,h3⟩ | h
 · exact .inl ⟨h1,fun t ht=>(h2 t ht).trans (hk t ht),hX h3⟩
 · exact .inr h
theorem PL.env {j:Nat} {keep:List Nat} {e e2:List PV} {bx:List PBox} {r:Nat} {Q:PV->Prop} {X Y:Prop} {res:Option (Ex×St)} (hk:∀ t ∈ keep,getT e2 t=getT e t) (hX:Y->X) (h:PL j keep e2 bx r Q Y res):PL j keep e bx r Q X res:=by
 obtain ⟨e',ex,h⟩:=h
 refine ⟨e',ex,?_⟩
 rcases h with ⟨h1,h2,h3⟩ | h
 · exact .inl ⟨h1,fun t ht=>(h2 t ht).trans (hk t ht),hX h3⟩
 · exact .inr h
theorem PL.exit {j:Nat} {keep:List Nat} {e e':List PV} {bx:List PBox} {r:Nat} {Q:PV->Prop} {X:Prop} (hk:∀ t ∈ keep,getT e' t=getT e t) (hX:X):PL j keep e bx r Q X (some (.exit j,⟨e',bx⟩)):=
 ⟨e',[],.inl ⟨by rw [List.append_nil],hk,hX⟩⟩
theorem PL.ret {j:Nat} {keep:List Nat} {e e':List PV} {bx:List PBox} {r:Nat} {Q:PV->Prop} {X:Prop} (h:Q (getT e' r)):PL j keep e bx r Q X (some (.ret,⟨e',bx⟩)):=
 ⟨e',[],.inr ⟨by rw [List.append_nil],h⟩⟩
theorem PL.ret1 {j:Nat} {keep:List Nat} {e e':List PV} {bx:List PBox} {x:PBox} {r:Nat} {Q:PV->Prop} {X:Prop} (h:Q (getT e' r)):PL j keep e bx r Q X (some (.ret,⟨e',bx++[x]⟩)):=
 ⟨e',[x],.inr ⟨rfl,h⟩⟩
theorem PL.of {ev:Code->St->Option (Ex×St)} {L:Code} {j:Nat} {keep:List Nat} {e:List PV} {bx:List PBox} {r:Nat} {Q:PV->Prop} {X:Prop} {z:Option (Ex×St)} (hE:ev L ⟨e,bx⟩=z) (h:PL j keep e bx r Q X (ev L ⟨e,bx⟩)):PL j keep e bx r Q X z:=hE ▸ h
def isI (p:PV):Prop:=∃ n,p=.int .i64 n
def isBl (p:PV):Prop:=∃ n,p=.bool n
theorem get_app {bx:List PBox} {p:Nat} {v:PBox} (h:bx[p]?=some v) (x:PBox):(bx++[x])[p]?=some v:=by
 rw [List.getElem?_append_left (List.getElem?_eq_some_iff.1 h).1];exact h
theorem get_apps {bx:List PBox} {p:Nat} {v:PBox} (h:bx[p]?=some v) (x:List PBox):(bx++x)[p]?=some v:=by
 rw [List.getElem?_append_left (List.getElem?_eq_some_iff.1 h).1];exact h
theorem sl_hi {t el:TypeId} {s:Nat} (ht:CC.P.underlying t=some (.slice el)) (hs:tSize CC el=some s) (xs:List PV) (i:Nat) (h:i<=xs.length):sliceP CC t (.sl xs) none (some (.int .i64 (i:Int)))=some (.sl (xs.take i)):=by
 unfold sliceP
 simp only [ht,elemsOf,hs,boundO,boundP]
 rw [if_pos (by omega)]
 simp only [Int.toNat_natCast,true_or,if_true,List.drop_zero]
theorem map_get {α:Type} {f:α->PV} {l:List α} {i:Nat} {x:α} (h:l[i]?=some x):(l.map f)[i]?=some (f x):=by rw [List.getElem?_map,h];rfl
def big (n:Nat):Prop:=n<=9223372036854775807
def okCm (c:Cm):Prop:=big c.ef.length
def okCl (c:Cl):Prop:=big c.ats.length∧big c.cms.length∧big c.ev.length∧∀ m ∈ c.cms,okCm m
theorem efV_pure (f:Ef):(efV f).pure=true:=rfl
theorem efs_pure:∀ l:List Ef,pureL (l.map efV)=true
 | []=>rfl
 | f :: r=>by simp only [List.map_cons,pureL,efV_pure,efs_pure r,Bool.and_self]
theorem atts_pure:∀ l:List At,pureL (l.map attV)=true
 | []=>rfl
 | f :: r=>by simp only [List.map_cons,pureL,attV_pure,atts_pure r,Bool.and_self]
theorem cmV_pure (c:Cm):(cmV c).pure=true:=by
 unfold cmV
 simp only [PV.pure,pureL,strs_pure,efs_pure,Bool.and_self]
theorem cms_pure:∀ l:List Cm,pureL (l.map cmV)=true
 | []=>rfl
 | f :: r=>by simp only [List.map_cons,pureL,cmV_pure,cms_pure r,Bool.and_self]
theorem clV_pure (c:Cl):(clV c).pure=true:=by
 unfold clV
 simp only [PV.pure,pureL,strs_pure,atts_pure,cms_pure,Bool.and_self]
theorem loop_wide (L:Code) (hL:L=fpart Try.f45 [1,0,1,0]) (l:List Cm) (hl:l.length<=9223372036854775807):∀ (k i:Nat) (e:List PV) (bx:List PBox),i+k=l.length ->
 getT e 6=.sl (l.map cmV)->getT e 7=.int .i64 l.length->getT e 8=.int .i64 i->PL 0 [1] e bx 2 isBl True (evL CC L ⟨e,bx⟩):=by
 intro k
 induction k with
 | zero=>
  intro i e bx hk h6 h7 h8
  rw [evL_at (fpart Try.f45 [1,0,1,0,0]) hL]
  have hi:¬ ((i:Int) < (l.length:Int)):=by omega
  obtain ⟨ev,eo,so,co,⟨hev,hco⟩,R⟩:=RULES CC;rw [<- hev]
  simp only [fpart,part',Try.f45,Option.getD]
  simp (maxSteps:=5000000) only [SA,SB,SD,R,SF,SG,SH,seval,TG,SE,SC,UTT,ZCT,List.getElem?_concat_length,ss1,List.set_cons_zero,List.set_cons_succ,Bool.not_not,strP_eql,strP_neq,h6,h7,h8,hi]
  exact PL.exit (by intro t ht;simp only [List.mem_cons,List.not_mem_nil,or_false] at ht;(repeat' (first | rcases ht with rfl | ht)) <;> (try subst ht) <;> simp (maxSteps:=5000000) only [SA,SB,SD,R,SF,seval]) trivial
 | succ k ih=>
  intro i e bx hk h6 h7 h8
  rw [evL_at (fpart Try.f45 [1,0,1,0,0]) hL]
  have hi:((i:Int) < (l.length:Int)):=by omega
  have hi0:¬ ((i:Int) < 0):=by omega
  have hw:=wrap_i64 (n:=(i:Int)+1) ⟨by omega,by omega⟩
  have key:=fun e bx=>ih (i+1) e bx (by omega)
  have cast1:((i+1:Nat):Int)=(i:Int)+1:=by omega
  rw [cast1] at key
  have hx:=map_get (f:=cmV) (l:=l) (i:=i) (x:=l[i]'(by omega)) (List.getElem?_eq_getElem (by omega))
  generalize l[i]'(by omega)=x at *
  generalize l.map cmV=xs at *
  obtain ⟨nm,pm,ef⟩:=x
  obtain ⟨pn,pk,pmn,pmx,pe,pw,ps⟩:=pm
  unfold cmV at hx
  simp only at hx
  have hle:(ef.map efV).length=ef.length:=List.length_map _
  generalize ef.map efV=ys at *
  generalize strs pe=zs at *
  by_cases c:(ef.length:Int) > 12
  · skip
    obtain ⟨ev,eo,so,co,⟨hev,hco⟩,R⟩:=RULES CC;rw [<- hev]
    simp only [fpart,part',Try.f45,Option.getD]
    simp (maxSteps:=5000000) only [SA,SB,SD,R,SF,SG,SH,seval,TG,SE,SC,UTT,ZCT,List.getElem?_concat_length,ss1,List.set_cons_zero,List.set_cons_succ,Bool.not_not,strP_eql,strP_neq,c,h6,h7,h8,hi,hi0,hx,hle]
    refine PL.ret1 ?_
    exact ⟨_,by simp (maxSteps:=5000000) only [SA,SB,SD,R,SF,seval];rfl⟩
  · skip
    obtain ⟨ev,eo,so,co,⟨hev,hco⟩,R⟩:=RULES CC;rw [<- hev]
    rw [<- hev] at key
    simp only [fpart,part',Try.f45,Option.getD]
    simp (maxSteps:=5000000) only [SA,SB,SD,R,SF,SG,SH,seval,TG,SE,SC,UTT,ZCT,List.getElem?_concat_length,ss1,List.set_cons_zero,List.set_cons_succ,Bool.not_not,strP_eql,strP_neq,c,h6,h7,h8,hi,hi0,hx,hle,hw]
    refine PL.app (by intro t ht;simp only [List.mem_cons,List.not_mem_nil,or_false] at ht;(repeat' (first | rcases ht with rfl | ht)) <;> (try subst ht) <;> simp (maxSteps:=5000000) only [SA,SB,SD,R,SF,seval]) (fun h=>h) (key _ _ ?_ ?_ ?_)
    · simp (maxSteps:=5000000) only [SA,SB,SD,R,SF,seval,h6]
    · simp (maxSteps:=5000000) only [SA,SB,SD,R,SF,seval,h7]
    · simp (maxSteps:=5000000) only [SA,SB,SD,R,SF,seval]
theorem call_wide (c:Cl) (hc:okCl c):∃ b bx,callL CC 45 [clV c] []=some (.ret (.bool b),bx):=by
 rw [callL_enter (fn:=Try.f45) (c:=Try.f45.body.getD .skip) rfl rfl fat_cluster_wide rfl ok_cluster_wide (Nat.le_of_ble_eq_true rfl)]
 have hloop:=fun e bx=>loop_wide _ rfl c.cms hc.2.1 c.cms.length 0 e bx (by omega)
 obtain ⟨nm,ats,cms,ev'⟩:=c
 unfold clV
 simp only at hloop ⊢
 have hl1:(ats.map attV).length=ats.length:=List.length_map _
 have hl2:(cms.map cmV).length=cms.length:=List.length_map _
 have hl3:=strs_length ev'
 generalize ats.map attV=xs1 at *
 generalize cms.map cmV=xs2 at *
 generalize strs ev'=xs3 at *
 generalize hd1:decide ((ats.length:Int) > 12)=d1
 generalize hd2:decide ((cms.length:Int) > 12)=d2
 generalize hd3:decide ((ev'.length:Int) > 12)=d3
 obtain ⟨ev,eo,so,co,⟨hev,hco⟩,R⟩:=RULES CC;rw [<- hev]
 rw [<- hev] at hloop
 simp only [fpart,part',Try.f45,Option.getD] at hloop ⊢
 simp (maxSteps:=5000000) only [SA,SB,SD,R,SF,SG,SH,seval,TG,SE,SC,UTT,ZCT,List.getElem?_concat_length,ss1,List.set_cons_zero,List.set_cons_succ,Bool.not_not,strP_eql,strP_neq,hl2]
 generalize hE:ev _ _=z
 have hP:=PL.of hE (hloop _ _ (by simp (maxSteps:=5000000) only [SA,SB,SD,R,SF,seval] <;> rfl) (by simp (maxSteps:=5000000) only [SA,SB,SD,R,SF,seval] <;> rfl) (by simp (maxSteps:=5000000) only [SA,SB,SD,R,SF,seval] <;> rfl))
 obtain ⟨e',ex,⟨he,hk,_⟩ | ⟨he,b,g2⟩⟩:=hP
 · subst he
   have k1:=hk 1 (by simp)
   simp (maxSteps:=5000000) only [SA,SB,SD,R,SF,seval] at k1
   cases d1 with
   | true=>
    simp (maxSteps:=5000000) only [SA,SB,SD,R,SF,SG,SH,seval,TG,SE,SC,UTT,ZCT,List.getElem?_concat_length,ss1,List.set_cons_zero,List.set_cons_succ,Bool.not_not,strP_eql,strP_neq,hl1,hl2,hl3,hd1,hd2,hd3,k1]
    exact ⟨_,_,rfl⟩
   | false=>
    cases d2 with
    | true=>
     simp (maxSteps:=5000000) only [SA,SB,SD,R,SF,SG,SH,seval,TG,SE,SC,UTT,ZCT,List.getElem?_concat_length,ss1,List.set_cons_zero,List.set_cons_succ,Bool.not_not,strP_eql,strP_neq,hl1,hl2,hl3,hd1,hd2,hd3,k1]
     exact ⟨_,_,rfl⟩
    | false=>
     simp (maxSteps:=5000000) only [SA,SB,SD,R,SF,SG,SH,seval,TG,SE,SC,UTT,ZCT,List.getElem?_concat_length,ss1,List.set_cons_zero,List.set_cons_succ,Bool.not_not,strP_eql,strP_neq,hl1,hl2,hl3,hd1,hd2,hd3,k1]
     exact ⟨_,_,rfl⟩
 · subst he
   simp (maxSteps:=5000000) only [SA,SB,SD,R,SF,SG,SH,seval,TG,SE,SC,UTT,ZCT,List.getElem?_concat_length,ss1,List.set_cons_zero,List.set_cons_succ,Bool.not_not,strP_eql,strP_neq,g2]
   exact ⟨_,_,rfl⟩
theorem op_wide (c:Cl) (hc:okCl c):∃ b,∀ bx,callOp CC (callL CC) 45 [clV c] bx=some (.ret (.bool b),bx):=by
 obtain ⟨b,bx',h⟩:=call_wide c hc
 exact ⟨b,fun bx=>callOp_of rfl (by simp only [SA,clV_pure,Bool.and_true]) h rfl⟩
end Go.HH
namespace Go.HH
open Go Go.Proofs
set_option maxRecDepth 100000
set_option maxHeartbeats 4000000
set_option linter.unusedSimpArgs false
set_option linter.unusedVariables false
theorem buildAt0:buildP CC 67 []=some (.agg [.str [],.int .i64 0,.int .i64 0,.int .i64 0,.nils,.bool false,.bool false]):=by kernel_rfl
def PAt (e:List PV) (bx:List PBox) (res:Option (Ex×St)):Prop:=
 (∃ e' ex,res=some (.exit 0,⟨e',bx++ex⟩)∧getT e' 4=getT e 4)∨(∃ e' bx' a,res=some (.ret,⟨e',bx'⟩)∧getT e' 4=.bp 1 0∧bx'[1]?=some (.cells 67 (attV a).cells)∧a.en.length<=64∧getT e' 5=.bool true)
theorem PAt.app {e e2:List PV} {bx:List PBox} {x:PBox} {res:Option (Ex×St)} (hk:getT e2 4=getT e 4) (h:PAt e2 (bx++[x]) res):PAt e bx res:=by
 rcases h with ⟨e',ex,h1,h2⟩ | h
 · exact .inl ⟨e',[x]++ex,by rw [<- List.append_assoc];exact h1,h2.trans hk⟩
 · exact .inr h
theorem PAt.of {ev:Code->St->Option (Ex×St)} {L:Code} {e:List PV} {bx:List PBox} {z:Option (Ex×St)} (hE:ev L ⟨e,bx⟩=z) (h:PAt e bx (ev L ⟨e,bx⟩)):PAt e bx z:=hE ▸ h
theorem set_self {l:List PBox} {v y:PBox} {p:Nat} (h:l[p]?=some v):(l.set p y)[p]?=some y:=List.getElem?_set_self (List.getElem?_eq_some_iff.1 h).1
theorem strs_st (l:List (List UInt8)):(strs l).all isSt=true:=by
 unfold strs;rw [List.all_map];exact List.all_eq_true.2 fun _ _=>rfl
theorem loop_Attr (L:Code) (hL:L=fpart Try.f54 [1,0,1,0]) (l:List At) (hl:l.length<=9223372036854775807) (hen:∀ a ∈ l,a.en.length<=64) (s:List UInt8):∀ (k i:Nat) (e:List PV) (bx:List PBox),i+k=l.length ->
 getT e 1=.str s->getT e 4=.bp 1 0->getT e 9=.sl (l.map attV)->getT e 10=.int .i64 l.length->getT e 11=.int .i64 i->bx[1]?=some (.cells 67 [.str [],.int .i64 0,.int .i64 0,.int .i64 0,.nils,.bool false,.bool false])->PAt e bx (evL CC L ⟨e,bx⟩):=by
 intro k
 induction k with
 | zero=>
  intro i e bx hk h1 h4 h9 h10 h11 hb
  rw [evL_at (fpart Try.f54 [1,0,1,0,0]) hL]
  have hi:¬ ((i:Int) < (l.length:Int)):=by omega
  obtain ⟨ev,eo,so,co,⟨hev,hco⟩,R⟩:=RULES CC;rw [<- hev]
  simp only [fpart,part',Try.f54,Option.getD]
  simp (maxSteps:=5000000) only [SA,SB,SD,R,SF,SG,SH,seval,TG,SE,SC,UTT,ZCT,List.getElem?_concat_length,ss1,List.set_cons_zero,List.set_cons_succ,Bool.not_not,strP_eql,strP_neq,h1,h9,h10,h11,hi]
  exact .inl ⟨_,[],by rw [List.append_nil],by simp (maxSteps:=5000000) only [SA,SB,SD,R,SF,seval]⟩
 | succ k ih=>
  intro i e bx hk h1 h4 h9 h10 h11 hb
  rw [evL_at (fpart Try.f54 [1,0,1,0,0]) hL]
  have hi:((i:Int) < (l.length:Int)):=by omega
  have hi0:¬ ((i:Int) < 0):=by omega
  have hw:=wrap_i64 (n:=(i:Int)+1) ⟨by omega,by omega⟩
  have key:=fun e bx=>ih (i+1) e bx (by omega)
  have cast1:((i+1:Nat):Int)=(i:Int)+1:=by omega
  rw [cast1] at key
  have hx:=map_get (f:=attV) (l:=l) (i:=i) (x:=l[i]'(by omega)) (List.getElem?_eq_getElem (by omega))
  have hxe:=hen (l[i]'(by omega)) (List.getElem_mem _)
  generalize l[i]'(by omega)=x at *
  generalize l.map attV=xs at *
  have hcl:=op_CloneS (strs x.en) ⟨strs_st _,by rw [strs_length];omega⟩
  have hb1:=get_app hb
  have hax:(attV x).cells=[.str x.nm,.int .i64 x.kd,.int .i64 x.mn,.int .i64 x.mx,.sl (strs x.en),.bool x.wr,.bool x.sf]:=rfl
  have hfin:∀ (e':List PV) (v y:PBox),getT e' 4=.bp 1 0->getT e' 5=.bool true->y=.cells 67 (attV x).cells->PAt e bx (some (.ret,⟨e',(bx++[v]).set 1 y⟩)):=fun e' v y g4 g5 hy=>.inr ⟨_,_,x,rfl,g4,by rw [set_self (hb1 v),hy],hxe,g5⟩
  obtain ⟨nm,kd,mn,mx,en,wr,sf⟩:=x
  unfold attV at hx
  simp only at hx hcl
  have heq:strP .eql nm s=some (.bool (nm == s)):=rfl
  generalize (nm == s)=b at *
  unfold attV at hfin
  simp only at hfin
  generalize strs en=zs at *
  cases b with
  | true=>
   obtain ⟨ev,eo,so,co,⟨hev,hco⟩,R⟩:=RULES CC;rw [<- hev]
   rw [<- hco] at hcl
   simp only [fpart,part',Try.f54,Option.getD]
   simp (maxSteps:=5000000) only [SA,SB,SD,R,SF,SG,SH,seval,TG,SE,SC,UTT,ZCT,List.getElem?_concat_length,ss1,List.set_cons_zero,List.set_cons_succ,Bool.not_not,strP_eql,strP_neq,h1,h4,h9,h10,h11,hi,hi0,hx,heq,hcl,hb1]
   exact hfin _ _ _ (by simp (maxSteps:=5000000) only [SA,SB,SD,R,SF,seval,h4]) (by simp (maxSteps:=5000000) only [SA,SB,SD,R,SF,seval]) rfl
  | false=>
   obtain ⟨ev,eo,so,co,⟨hev,hco⟩,R⟩:=RULES CC;rw [<- hev]
   rw [<- hev] at key
   simp only [fpart,part',Try.f54,Option.getD]
   simp (maxSteps:=5000000) only [SA,SB,SD,R,SF,SG,SH,seval,TG,SE,SC,UTT,ZCT,List.getElem?_concat_length,ss1,List.set_cons_zero,List.set_cons_succ,Bool.not_not,strP_eql,strP_neq,h1,h4,h9,h10,h11,hi,hi0,hx,heq,hb1,hw]
   refine PAt.app (by simp (maxSteps:=5000000) only [SA,SB,SD,R,SF,seval]) (key _ _ ?_ ?_ ?_ ?_ ?_ (hb1 _))
   · simp (maxSteps:=5000000) only [SA,SB,SD,R,SF,seval,h1]
   · simp (maxSteps:=5000000) only [SA,SB,SD,R,SF,seval,h4]
   · simp (maxSteps:=5000000) only [SA,SB,SD,R,SF,seval,h9]
   · simp (maxSteps:=5000000) only [SA,SB,SD,R,SF,seval,h10]
   · simp (maxSteps:=5000000) only [SA,SB,SD,R,SF,seval]
theorem call_Attr (c:Cl) (hl:c.ats.length<=9223372036854775807) (hen:∀ a ∈ c.ats,a.en.length<=64) (s:List UInt8):∃ a b,a.en.length<=64∧∃ bx,callL CC 54 [clV c,.str s] []=some (.ret (.tup [attV a,.bool b]),bx):=by
 rw [callL_enter (fn:=Try.f54) (c:=Try.f54.body.getD .skip) rfl rfl fat_cluster_Attr rfl ok_cluster_Attr (Nat.le_of_ble_eq_true rfl)]
 have hloop:=fun e bx=>loop_Attr _ rfl c.ats hl hen s c.ats.length 0 e bx (by omega)
 have hz:=buildAt0
 obtain ⟨nm,ats,cms,ev'⟩:=c
 unfold clV
 simp only at hloop hl hen ⊢
 have hl1:(ats.map attV).length=ats.length:=List.length_map _
 generalize ats.map attV=xs1 at *
 generalize cms.map cmV=xs2 at *
 generalize strs ev'=xs3 at *
 obtain ⟨ev,eo,so,co,⟨hev,hco⟩,R⟩:=RULES CC;rw [<- hev]
 rw [<- hev] at hloop
 simp only [fpart,part',Try.f54,Option.getD] at hloop ⊢
 simp (maxSteps:=5000000) only [SA,SB,SD,R,SF,SG,SH,seval,TG,SE,SC,UTT,ZCT,List.getElem?_concat_length,ss1,List.set_cons_zero,List.set_cons_succ,Bool.not_not,strP_eql,strP_neq,hl1]
 generalize hE:ev _ _=z
 have hP:=PAt.of hE (hloop _ _ (by simp (maxSteps:=5000000) only [SA,SB,SD,R,SF,seval] <;> rfl) (by simp (maxSteps:=5000000) only [SA,SB,SD,R,SF,seval] <;> rfl) (by simp (maxSteps:=5000000) only [SA,SB,SD,R,SF,seval] <;> rfl) (by simp (maxSteps:=5000000) only [SA,SB,SD,R,SF,seval] <;> rfl) (by simp (maxSteps:=5000000) only [SA,SB,SD,R,SF,seval] <;> rfl) rfl)
 rcases hP with ⟨e',ex,he,hk⟩ | ⟨e',bx',a,he,g4,g1,hen',g5⟩
 · subst he
   simp (maxSteps:=5000000) only [SA,SB,SD,R,SF,seval] at hk
   refine ⟨⟨[],0,0,0,[],false,false⟩,false,by simp,?_⟩
   simp (maxSteps:=5000000) only [SA,SB,SD,R,SF,SG,SH,seval,TG,SE,SC,UTT,ZCT,List.getElem?_concat_length,ss1,List.set_cons_zero,List.set_cons_succ,Bool.not_not,strP_eql,strP_neq,hk,hz]
   exact ⟨_,rfl⟩
 · subst he
   refine ⟨a,true,hen',?_⟩
   obtain ⟨nm,kd,mn,mx,en,wr,sf⟩:=a
   unfold attV at *
   simp only at *
   generalize strs en=zs at *
   simp only [show ∀ cs,(PV.agg cs).cells=cs from fun _=>rfl] at g1
   simp (maxSteps:=5000000) only [SA,SB,SD,R,SF,SG,SH,seval,TG,SE,SC,UTT,ZCT,List.getElem?_concat_length,ss1,List.set_cons_zero,List.set_cons_succ,Bool.not_not,strP_eql,strP_neq,g4,g1,g5]
   exact ⟨_,rfl⟩
theorem op_Attr (c:Cl) (hl:c.ats.length<=9223372036854775807) (hen:∀ a ∈ c.ats,a.en.length<=64) (s:List UInt8):∃ a b,a.en.length<=64∧∀ bx,callOp CC (callL CC) 54 [clV c,.str s] bx=some (.ret (.tup [attV a,.bool b]),bx):=by
 obtain ⟨a,b,hen',bx',h⟩:=call_Attr c hl hen s
 exact ⟨a,b,hen',fun bx=>callOp_of rfl (by simp only [SA,clV_pure,Bool.and_true]) h (by simp only [PV.pure,pureL,attV_pure,Bool.and_self])⟩
theorem call_effect (c:Cl) (hl:c.ats.length<=9223372036854775807) (hen:∀ a ∈ c.ats,a.en.length<=64) (p:At) (f:Ef):∃ n bx,callL CC 53 [clV c,attV p,efV f] []=some (.ret (.int .i64 n),bx):=by
 rw [callL_enter (fn:=Try.f53) (c:=Try.f53.body.getD .skip) rfl rfl fat_cluster_effect rfl ok_cluster_effect (Nat.le_of_ble_eq_true rfl)]
 obtain ⟨a,found,hae,hat⟩:=op_Attr c hl hen f.ar
 obtain ⟨q,hsu⟩:=op_suits f a p hae
 obtain ⟨sat,hsat⟩:=op_Sat f.n
 obtain ⟨nm,ats,cms,ev'⟩:=c
 obtain ⟨anm,akd,amn,amx,aen,awr,asf⟩:=a
 obtain ⟨pnm,pkd,pmn,pmx,pen,pwr,psf⟩:=p
 obtain ⟨fk,fa,fn⟩:=f
 unfold clV attV efV at *
 simp only at *
 have hp1:=atts_pure ats
 unfold attV at hp1
 have hp2:=cms_pure cms
 have hp3:=strs_pure ev'
 have hp4:=strs_pure aen
 have hp5:=strs_pure pen
 generalize List.map _ ats=xs1 at *
 generalize cms.map cmV=xs2 at *
 generalize strs ev'=xs3 at *
 generalize strs aen=ys at *
 generalize strs pen=zs at *
 by_cases c1:fk < 1
 · skip
   obtain ⟨ev,eo,so,co,⟨hev,hco⟩,R⟩:=RULES CC;rw [<- hev]
   simp only [fpart,part',Try.f53,Option.getD]
   simp (maxSteps:=5000000) only [SA,SB,SD,R,SF,SG,SH,seval,TG,SE,SC,UTT,ZCT,List.getElem?_concat_length,ss1,List.set_cons_zero,List.set_cons_succ,Bool.not_not,strP_eql,strP_neq,c1,hp1,hp2,hp3,hp4,hp5]
   exact ⟨_,_,rfl⟩
 · skip
   by_cases c2:fk > 4
   · skip
     obtain ⟨ev,eo,so,co,⟨hev,hco⟩,R⟩:=RULES CC;rw [<- hev]
     simp only [fpart,part',Try.f53,Option.getD]
     simp (maxSteps:=5000000) only [SA,SB,SD,R,SF,SG,SH,seval,TG,SE,SC,UTT,ZCT,List.getElem?_concat_length,ss1,List.set_cons_zero,List.set_cons_succ,Bool.not_not,strP_eql,strP_neq,c1,c2,hp1,hp2,hp3,hp4,hp5]
     exact ⟨_,_,rfl⟩
   · skip
     cases found with
     | true=>
      cases awr with
      | true=>
       cases q with
       | true=>
        by_cases k30:fk=3
        · have k3:(fk == 3)=true:=by simp [k30]
          subst k30
          by_cases s00:sat=fn
          · have s0:(sat != fn)=false:=by simp [s00]
            by_cases n00:fn=0
            · have n0:(fn != 0)=false:=by simp [n00]
              obtain ⟨ev,eo,so,co,⟨hev,hco⟩,R⟩:=RULES CC;rw [<- hev]
              rw [<- hco] at hat hsu hsat
              simp only [fpart,part',Try.f53,Option.getD]
              simp (maxSteps:=5000000) only [SA,SB,SD,R,SF,SG,SH,seval,TG,SE,SC,UTT,ZCT,List.getElem?_concat_length,ss1,List.set_cons_zero,List.set_cons_succ,Bool.not_not,strP_eql,strP_neq,c1,c2,k3,s0,n0,hp1,hp2,hp3,hp4,hp5,hat,hsu,hsat]
              exact ⟨_,_,rfl⟩
            · have n0:(fn != 0)=true:=by simpa using n00
              obtain ⟨ev,eo,so,co,⟨hev,hco⟩,R⟩:=RULES CC;rw [<- hev]
              rw [<- hco] at hat hsu hsat
              simp only [fpart,part',Try.f53,Option.getD]
              simp (maxSteps:=5000000) only [SA,SB,SD,R,SF,SG,SH,seval,TG,SE,SC,UTT,ZCT,List.getElem?_concat_length,ss1,List.set_cons_zero,List.set_cons_succ,Bool.not_not,strP_eql,strP_neq,c1,c2,k3,s0,n0,hp1,hp2,hp3,hp4,hp5,hat,hsu,hsat]
              exact ⟨_,_,rfl⟩
          · have s0:(sat != fn)=true:=by simpa using s00
            obtain ⟨ev,eo,so,co,⟨hev,hco⟩,R⟩:=RULES CC;rw [<- hev]
            rw [<- hco] at hat hsu hsat
            simp only [fpart,part',Try.f53,Option.getD]
            simp (maxSteps:=5000000) only [SA,SB,SD,R,SF,SG,SH,seval,TG,SE,SC,UTT,ZCT,List.getElem?_concat_length,ss1,List.set_cons_zero,List.set_cons_succ,Bool.not_not,strP_eql,strP_neq,c1,c2,k3,s0,hp1,hp2,hp3,hp4,hp5,hat,hsu,hsat]
            exact ⟨_,_,rfl⟩
        · have k3:(fk == 3)=false:=by simpa using k30
          by_cases k20:fk=2
          · have k2:(fk == 2)=true:=by simp [k20]
            by_cases n00:fn=0
            · have n0:(fn != 0)=false:=by simp [n00]
              obtain ⟨ev,eo,so,co,⟨hev,hco⟩,R⟩:=RULES CC;rw [<- hev]
              rw [<- hco] at hat hsu
              simp only [fpart,part',Try.f53,Option.getD]
              simp (maxSteps:=5000000) only [SA,SB,SD,R,SF,SG,SH,seval,TG,SE,SC,UTT,ZCT,List.getElem?_concat_length,ss1,List.set_cons_zero,List.set_cons_succ,Bool.not_not,strP_eql,strP_neq,c1,c2,k3,k2,n0,hp1,hp2,hp3,hp4,hp5,hat,hsu]
              exact ⟨_,_,rfl⟩
            · have n0:(fn != 0)=true:=by simpa using n00
              obtain ⟨ev,eo,so,co,⟨hev,hco⟩,R⟩:=RULES CC;rw [<- hev]
              rw [<- hco] at hat hsu
              simp only [fpart,part',Try.f53,Option.getD]
              simp (maxSteps:=5000000) only [SA,SB,SD,R,SF,SG,SH,seval,TG,SE,SC,UTT,ZCT,List.getElem?_concat_length,ss1,List.set_cons_zero,List.set_cons_succ,Bool.not_not,strP_eql,strP_neq,c1,c2,k3,k2,n0,hp1,hp2,hp3,hp4,hp5,hat,hsu]
              exact ⟨_,_,rfl⟩
          · have k2:(fk == 2)=false:=by simpa using k20
            by_cases k40:fk=4
            · have k4:(fk == 4)=true:=by simp [k40]
              by_cases n00:fn=0
              · have n0:(fn != 0)=false:=by simp [n00]
                obtain ⟨ev,eo,so,co,⟨hev,hco⟩,R⟩:=RULES CC;rw [<- hev]
                rw [<- hco] at hat hsu
                simp only [fpart,part',Try.f53,Option.getD]
                simp (maxSteps:=5000000) only [SA,SB,SD,R,SF,SG,SH,seval,TG,SE,SC,UTT,ZCT,List.getElem?_concat_length,ss1,List.set_cons_zero,List.set_cons_succ,Bool.not_not,strP_eql,strP_neq,c1,c2,k3,k2,k4,n0,hp1,hp2,hp3,hp4,hp5,hat,hsu]
                exact ⟨_,_,rfl⟩
              · have n0:(fn != 0)=true:=by simpa using n00
                obtain ⟨ev,eo,so,co,⟨hev,hco⟩,R⟩:=RULES CC;rw [<- hev]
                rw [<- hco] at hat hsu
                simp only [fpart,part',Try.f53,Option.getD]
                simp (maxSteps:=5000000) only [SA,SB,SD,R,SF,SG,SH,seval,TG,SE,SC,UTT,ZCT,List.getElem?_concat_length,ss1,List.set_cons_zero,List.set_cons_succ,Bool.not_not,strP_eql,strP_neq,c1,c2,k3,k2,k4,n0,hp1,hp2,hp3,hp4,hp5,hat,hsu]
                exact ⟨_,_,rfl⟩
            · have k4:(fk == 4)=false:=by simpa using k40
              obtain ⟨ev,eo,so,co,⟨hev,hco⟩,R⟩:=RULES CC;rw [<- hev]
              rw [<- hco] at hat hsu
              simp only [fpart,part',Try.f53,Option.getD]
              simp (maxSteps:=5000000) only [SA,SB,SD,R,SF,SG,SH,seval,TG,SE,SC,UTT,ZCT,List.getElem?_concat_length,ss1,List.set_cons_zero,List.set_cons_succ,Bool.not_not,strP_eql,strP_neq,c1,c2,k3,k2,k4,hp1,hp2,hp3,hp4,hp5,hat,hsu]
              exact ⟨_,_,rfl⟩
       | false=>
        obtain ⟨ev,eo,so,co,⟨hev,hco⟩,R⟩:=RULES CC;rw [<- hev]
        rw [<- hco] at hat hsu
        simp only [fpart,part',Try.f53,Option.getD]
        simp (maxSteps:=5000000) only [SA,SB,SD,R,SF,SG,SH,seval,TG,SE,SC,UTT,ZCT,List.getElem?_concat_length,ss1,List.set_cons_zero,List.set_cons_succ,Bool.not_not,strP_eql,strP_neq,c1,c2,hp1,hp2,hp3,hp4,hp5,hat,hsu]
        exact ⟨_,_,rfl⟩
      | false=>
       obtain ⟨ev,eo,so,co,⟨hev,hco⟩,R⟩:=RULES CC;rw [<- hev]
       rw [<- hco] at hat
       simp only [fpart,part',Try.f53,Option.getD]
       simp (maxSteps:=5000000) only [SA,SB,SD,R,SF,SG,SH,seval,TG,SE,SC,UTT,ZCT,List.getElem?_concat_length,ss1,List.set_cons_zero,List.set_cons_succ,Bool.not_not,strP_eql,strP_neq,c1,c2,hp1,hp2,hp3,hp4,hp5,hat]
       exact ⟨_,_,rfl⟩
     | false=>
      obtain ⟨ev,eo,so,co,⟨hev,hco⟩,R⟩:=RULES CC;rw [<- hev]
      rw [<- hco] at hat
      simp only [fpart,part',Try.f53,Option.getD]
      simp (maxSteps:=5000000) only [SA,SB,SD,R,SF,SG,SH,seval,TG,SE,SC,UTT,ZCT,List.getElem?_concat_length,ss1,List.set_cons_zero,List.set_cons_succ,Bool.not_not,strP_eql,strP_neq,c1,c2,hp1,hp2,hp3,hp4,hp5,hat]
      exact ⟨_,_,rfl⟩
theorem op_effect (c:Cl) (hl:c.ats.length<=9223372036854775807) (hen:∀ a ∈ c.ats,a.en.length<=64) (p:At) (f:Ef):∃ n,∀ bx,callOp CC (callL CC) 53 [clV c,attV p,efV f] bx=some (.ret (.int .i64 n),bx):=by
 obtain ⟨n,bx',h⟩:=call_effect c hl hen p f
 exact ⟨n,fun bx=>callOp_of rfl (by simp only [SA,clV_pure,attV_pure,efV_pure,Bool.and_true]) h rfl⟩
end Go.HH
namespace Go.HH
open Go Go.Proofs
set_option maxRecDepth 100000
set_option maxHeartbeats 4000000
set_option linter.unusedSimpArgs false
set_option linter.unusedVariables false
theorem loop_nb0 (L:Code) (hL:L=fpart Try.f47 [1,1,1,0,1,0]) (l:List Cm) (hl:l.length<=9223372036854775807) (p:Nat) (s:List UInt8) (rest:List PV):∀ (k i:Nat) (e:List PV) (bx:List PBox),i+k=l.length ->
 getT e 5=.bp p 0->getT e 24=.sl (l.map cmV)->getT e 25=.int .i64 l.length->getT e 26=.int .i64 i->bx[p]?=some (.cells 69 (.str s :: rest))->PL 0 [2,5] e bx 4 isI True (evL CC L ⟨e,bx⟩):=by
 intro k
 induction k with
 | zero=>
  intro i e bx hk ht h1 h2 h3 hb
  rw [evL_at (fpart Try.f47 [1,1,1,0,1,0,0]) hL]
  have hi:¬ ((i:Int) < (l.length:Int)):=by omega
  obtain ⟨ev,eo,so,co,⟨hev,hco⟩,R⟩:=RULES CC;rw [<- hev]
  simp only [fpart,part',Try.f47,Option.getD]
  simp (maxSteps:=5000000) only [SA,SB,SD,R,SF,SG,SH,seval,TG,SE,SC,UTT,ZCT,List.getElem?_concat_length,ss1,List.set_cons_zero,List.set_cons_succ,Bool.not_not,strP_eql,strP_neq,ht,h1,h2,h3,hi]
  exact PL.exit (by intro t ht;simp only [List.mem_cons,List.not_mem_nil,or_false] at ht;(repeat' (first | rcases ht with rfl | ht)) <;> (try subst ht) <;> simp (maxSteps:=5000000) only [SA,SB,SD,R,SF,seval]) trivial
 | succ k ih=>
  intro i e bx hk ht h1 h2 h3 hb
  rw [evL_at (fpart Try.f47 [1,1,1,0,1,0,0]) hL]
  have hi:((i:Int) < (l.length:Int)):=by omega
  have hi0:¬ ((i:Int) < 0):=by omega
  have hw:=wrap_i64 (n:=(i:Int)+1) ⟨by omega,by omega⟩
  have key:=fun e bx=>ih (i+1) e bx (by omega)
  have cast1:((i+1:Nat):Int)=(i:Int)+1:=by omega
  rw [cast1] at key
  have hx:=map_get (f:=cmV) (l:=l) (i:=i) (x:=l[i]'(by omega)) (List.getElem?_eq_getElem (by omega))
  generalize l[i]'(by omega)=x at *
  generalize l.map cmV=xs at *
  have hb1:=get_app hb
  obtain ⟨nm,pm,ef⟩:=x
  obtain ⟨pn,pk,pmn,pmx,pe,pw,ps⟩:=pm
  unfold cmV at hx
  simp only at hx
  generalize ef.map efV=ys at *
  generalize strs pe=zs at *
  have heq:strP .eql nm s=some (.bool (nm == s)):=rfl
  generalize (nm == s)=b at *
  cases b with
  | true=>
   obtain ⟨ev,eo,so,co,⟨hev,hco⟩,R⟩:=RULES CC;rw [<- hev]
   simp only [fpart,part',Try.f47,Option.getD]
   simp (maxSteps:=5000000) only [SA,SB,SD,R,SF,SG,SH,seval,TG,SE,SC,UTT,ZCT,List.getElem?_concat_length,ss1,List.set_cons_zero,List.set_cons_succ,Bool.not_not,strP_eql,strP_neq,ht,h1,h2,h3,hi,hi0,hx,heq,hb1]
   refine PL.ret1 ?_
   exact ⟨_,by simp (maxSteps:=5000000) only [SA,SB,SD,R,SF,seval];rfl⟩
  | false=>
   obtain ⟨ev,eo,so,co,⟨hev,hco⟩,R⟩:=RULES CC;rw [<- hev]
   rw [<- hev] at key
   simp only [fpart,part',Try.f47,Option.getD]
   simp (maxSteps:=5000000) only [SA,SB,SD,R,SF,SG,SH,seval,TG,SE,SC,UTT,ZCT,List.getElem?_concat_length,ss1,List.set_cons_zero,List.set_cons_succ,Bool.not_not,strP_eql,strP_neq,ht,h1,h2,h3,hi,hi0,hx,heq,hb1,hw]
   refine PL.app (by intro t ht;simp only [List.mem_cons,List.not_mem_nil,or_false] at ht;(repeat' (first | rcases ht with rfl | ht)) <;> (try subst ht) <;> simp (maxSteps:=5000000) only [SA,SB,SD,R,SF,seval]) (fun h=>h) (key _ _ ?_ ?_ ?_ ?_ (hb1 _))
   · simp (maxSteps:=5000000) only [SA,SB,SD,R,SF,seval,ht]
   · simp (maxSteps:=5000000) only [SA,SB,SD,R,SF,seval,h1]
   · simp (maxSteps:=5000000) only [SA,SB,SD,R,SF,seval,h2]
   · simp (maxSteps:=5000000) only [SA,SB,SD,R,SF,seval]
theorem loop_nb2 (L:Code) (hL:L=fpart Try.f47 [1,1,1,1,1,0,1,0]) (c:Cl) (hc:c.ats.length<=9223372036854775807) (hen:∀ a ∈ c.ats,a.en.length<=64) (m:Cm) (hl:m.ef.length<=9223372036854775807):∀ (k i:Nat) (e:List PV) (bx:List PBox),i+k=m.ef.length ->
 getT e 2=.bp 0 0->getT e 5=.bp 1 0->getT e 51=.sl (m.ef.map efV)->getT e 52=.int .i64 m.ef.length->getT e 53=.int .i64 i->bx[0]?=some (.cells 76 (clV c).cells)->bx[1]?=some (.cells 69 (cmV m).cells)->PL 2 [2,5] e bx 4 isI True (evL CC L ⟨e,bx⟩):=by
 intro k
 induction k with
 | zero=>
  intro i e bx hk ht2 ht5 h1 h2 h3 hb0 hb1
  rw [evL_at (fpart Try.f47 [1,1,1,1,1,0,1,0,0]) hL]
  have hi:¬ ((i:Int) < (m.ef.length:Int)):=by omega
  obtain ⟨ev,eo,so,co,⟨hev,hco⟩,R⟩:=RULES CC;rw [<- hev]
  simp only [fpart,part',Try.f47,Option.getD]
  simp (maxSteps:=5000000) only [SA,SB,SD,R,SF,SG,SH,seval,TG,SE,SC,UTT,ZCT,List.getElem?_concat_length,ss1,List.set_cons_zero,List.set_cons_succ,Bool.not_not,strP_eql,strP_neq,ht2,ht5,h1,h2,h3,hi]
  exact PL.exit (by intro t ht;simp only [List.mem_cons,List.not_mem_nil,or_false] at ht;(repeat' (first | rcases ht with rfl | ht)) <;> (try subst ht) <;> simp (maxSteps:=5000000) only [SA,SB,SD,R,SF,seval]) trivial
 | succ k ih=>
  intro i e bx hk ht2 ht5 h1 h2 h3 hb0 hb1
  rw [evL_at (fpart Try.f47 [1,1,1,1,1,0,1,0,0]) hL]
  have hi:((i:Int) < (m.ef.length:Int)):=by omega
  have hi0:¬ ((i:Int) < 0):=by omega
  have hw:=wrap_i64 (n:=(i:Int)+1) ⟨by omega,by omega⟩
  have key:=fun e bx=>ih (i+1) e bx (by omega)
  have cast1:((i+1:Nat):Int)=(i:Int)+1:=by omega
  rw [cast1] at key
  have hx:=map_get (f:=efV) (l:=m.ef) (i:=i) (x:=m.ef[i]'(by omega)) (List.getElem?_eq_getElem (by omega))
  generalize m.ef[i]'(by omega)=x at *
  have hb0':=get_app hb0
  have hb1':=get_app hb1
  obtain ⟨n,hef⟩:=op_effect c hc hen m.pm x
  generalize hys:m.ef.map efV=ys at *
  obtain ⟨fk,fa,fn⟩:=x
  obtain ⟨nm,ats,cms,ev'⟩:=c
  obtain ⟨cn,pm,efs⟩:=m
  obtain ⟨pn,pk,pmn,pmx,pe,pw,ps⟩:=pm
  simp only at hys
  unfold clV at *
  unfold cmV attV efV at *
  simp only [show ∀ cs,(PV.agg cs).cells=cs from fun _=>rfl] at *
  have hq1:=atts_pure ats
  unfold attV at hq1
  have hq2:=cms_pure cms
  unfold cmV at hq2
  have hq3:=strs_pure ev'
  have hq4:=strs_pure pe
  generalize List.map _ ats=xs1 at *
  generalize List.map _ cms=xs2 at *
  generalize strs ev'=xs3 at *
  generalize strs pe=xs4 at *
  generalize List.map _ efs=xs5 at *
  by_cases n00:n=0
  · have n0:(n != 0)=false:=by simp [n00]
    obtain ⟨ev,eo,so,co,⟨hev,hco⟩,R⟩:=RULES CC;rw [<- hev]
    rw [<- hco] at hef
    rw [<- hev] at key
    simp only [fpart,part',Try.f47,Option.getD]
    simp (maxSteps:=5000000) only [SA,SB,SD,R,SF,SG,SH,seval,TG,SE,SC,UTT,ZCT,List.getElem?_concat_length,ss1,List.set_cons_zero,List.set_cons_succ,Bool.not_not,strP_eql,strP_neq,n0,ht2,ht5,h1,h2,h3,hi,hi0,hx,hb0',hb1',hef,hq1,hq2,hq3,hq4,hw]
    refine PL.app (by intro t ht;simp only [List.mem_cons,List.not_mem_nil,or_false] at ht;(repeat' (first | rcases ht with rfl | ht)) <;> (try subst ht) <;> simp (maxSteps:=5000000) only [SA,SB,SD,R,SF,seval]) (fun h=>h) (key _ _ ?_ ?_ ?_ ?_ ?_ (hb0' _) (hb1' _))
    · simp (maxSteps:=5000000) only [SA,SB,SD,R,SF,seval,ht2]
    · simp (maxSteps:=5000000) only [SA,SB,SD,R,SF,seval,ht5]
    · simp (maxSteps:=5000000) only [SA,SB,SD,R,SF,seval,h1]
    · simp (maxSteps:=5000000) only [SA,SB,SD,R,SF,seval,h2]
    · simp (maxSteps:=5000000) only [SA,SB,SD,R,SF,seval]
  · have n0:(n != 0)=true:=by simpa using n00
    obtain ⟨ev,eo,so,co,⟨hev,hco⟩,R⟩:=RULES CC;rw [<- hev]
    rw [<- hco] at hef
    simp only [fpart,part',Try.f47,Option.getD]
    simp (maxSteps:=5000000) only [SA,SB,SD,R,SF,SG,SH,seval,TG,SE,SC,UTT,ZCT,List.getElem?_concat_length,ss1,List.set_cons_zero,List.set_cons_succ,Bool.not_not,strP_eql,strP_neq,n0,ht2,ht5,h1,h2,h3,hi,hi0,hx,hb0',hb1',hef,hq1,hq2,hq3,hq4]
    refine PL.ret1 ?_
    exact ⟨_,by simp (maxSteps:=5000000) only [SA,SB,SD,R,SF,seval];rfl⟩
theorem call_numbered (c:Cl) (hc:okCl c) (hen:∀ a ∈ c.ats,a.en.length<=64) (i:Nat) (hi:i < c.cms.length):∃ n bx,callL CC 47 [clV c,.int .i64 i] []=some (.ret (.int .i64 n),bx):=by
 rw [callL_enter (fn:=Try.f47) (c:=Try.f47.body.getD .skip) rfl rfl fat_cluster_numbered rfl ok_cluster_numbered (Nat.le_of_ble_eq_true rfl)]
 have hx:=map_get (f:=cmV) (l:=c.cms) (i:=i) (x:=c.cms[i]'hi) (List.getElem?_eq_getElem hi)
 have hm:=hc.2.2.2 (c.cms[i]'hi) (List.getElem_mem _)
 generalize c.cms[i]'hi=m at *
 have hi0:¬ ((i:Int) < 0):=by omega
 have hv:=op_names_Valid m.nm
 have hz:=op_zero m.pm
 have hd:=op_value_Def m.pm
 have hsl:=sl_hi (t:=74) (el:=69) (s:=9) (by kernel_rfl) (by kernel_rfl) (c.cms.map cmV) i (by rw [List.length_map];omega)
 rw [<- List.map_take] at hsl
 have hl0:(c.cms.take i).length<=9223372036854775807:=by rw [List.length_take];have:=hc.2.1;unfold big at this;omega
 have hll:((c.cms.take i).map cmV).length=(c.cms.take i).length:=List.length_map _
 generalize c.cms.take i=l0 at *
 have loop2:=fun e bx=>loop_nb2 _ rfl c hc.1 hen m hm m.ef.length 0 e bx (by omega)
 have hle:(m.ef.map efV).length=m.ef.length:=List.length_map _
 obtain ⟨cn,pm,efs⟩:=m
 obtain ⟨pn,pk,pmn,pmx,pe,pw,ps⟩:=pm
 have loop0:=fun e bx=>loop_nb0 _ rfl l0 hl0 1 cn [.str pn,.int .i64 pk,.int .i64 pmn,.int .i64 pmx,.sl (strs pe),.bool pw,.bool ps,.sl (efs.map efV)] l0.length 0 e bx (by omega)
 simp only at loop2 hle hv hz hd
 generalize valB cn=bv at *
 generalize zrB _=bz at *
 generalize dfV _=dv at *
 generalize l0.map cmV=xl0 at *
 generalize hxef:efs.map efV=xef at *
 obtain ⟨nm,ats,cms,ev'⟩:=c
 simp only at hx hsl
 generalize hxs2:cms.map cmV=xs2 at *
 unfold clV at *
 simp only [show ∀ cs,(PV.agg cs).cells=cs from fun _=>rfl] at loop2
 simp only [hxs2] at loop2 ⊢
 unfold cmV at hx loop2
 unfold attV at hz hd
 simp only [show ∀ cs,(PV.agg cs).cells=cs from fun _=>rfl] at loop2
 simp only [hxef] at hx loop2
 have hp4:=strs_pure pe
 generalize ats.map attV=xs1 at *
 generalize strs ev'=xs3 at *
 generalize strs pe=zs at *
 obtain ⟨ev,eo,so,co,⟨hev,hco⟩,R⟩:=RULES CC;rw [<- hev]
 rw [<- hco] at hv hz hd
 rw [<- hev] at loop0 loop2
 simp only [fpart,part',Try.f47,Option.getD] at loop0 loop2 ⊢
 cases bv with
 | false=>
  simp (maxSteps:=5000000) only [SA,SB,SD,R,SF,SG,SH,seval,TG,SE,SC,UTT,ZCT,List.getElem?_concat_length,ss1,List.set_cons_zero,List.set_cons_succ,Bool.not_not,strP_eql,strP_neq,hx,hi0,hv]
  exact ⟨_,_,rfl⟩
 | true=>
  simp (maxSteps:=5000000) only [SA,SB,SD,R,SF,SG,SH,seval,TG,SE,SC,UTT,ZCT,List.getElem?_concat_length,ss1,List.set_cons_zero,List.set_cons_succ,Bool.not_not,strP_eql,strP_neq,hx,hi0,hv,hsl,hll]
  generalize hE:ev _ _=z
  have hP:=PL.of hE (loop0 _ _ (by simp (maxSteps:=5000000) only [SA,SB,SD,R,SF,seval] <;> rfl) (by simp (maxSteps:=5000000) only [SA,SB,SD,R,SF,seval] <;> rfl) (by simp (maxSteps:=5000000) only [SA,SB,SD,R,SF,seval] <;> rfl) (by simp (maxSteps:=5000000) only [SA,SB,SD,R,SF,seval] <;> rfl) rfl)
  obtain ⟨e',ex,⟨he,hk,_⟩ | ⟨he,n,g2⟩⟩:=hP
  · subst he
    have k2:=hk 2 (by simp)
    have k5:=hk 5 (by simp)
    simp (maxSteps:=5000000) only [SA,SB,SD,R,SF,seval] at k2 k5
    by_cases q0:pk=0
    · have q1:(pk == 0)=true:=by simp [q0]
      cases bz with
      | false=>
       simp (maxSteps:=5000000) only [SA,SB,SD,R,SF,SG,SH,seval,TG,SE,SC,UTT,ZCT,List.getElem?_concat_length,ss1,List.set_cons_zero,List.set_cons_succ,Bool.not_not,strP_eql,strP_neq,k2,k5,q1,hz,hp4]
       exact ⟨_,_,rfl⟩
      | true=>
       simp (maxSteps:=5000000) only [SA,SB,SD,R,SF,SG,SH,seval,TG,SE,SC,UTT,ZCT,List.getElem?_concat_length,ss1,List.set_cons_zero,List.set_cons_succ,Bool.not_not,strP_eql,strP_neq,k2,k5,q1,hz,hp4,hle]
       generalize hE2:ev _ _=z2
       have hP2:=PL.of hE2 (loop2 _ _ (by simp (maxSteps:=5000000) only [SA,SB,SD,R,SF,seval,k2]) (by simp (maxSteps:=5000000) only [SA,SB,SD,R,SF,seval,k5]) (by simp (maxSteps:=5000000) only [SA,SB,SD,R,SF,seval] <;> rfl) (by simp (maxSteps:=5000000) only [SA,SB,SD,R,SF,seval] <;> rfl) (by simp (maxSteps:=5000000) only [SA,SB,SD,R,SF,seval] <;> rfl) rfl rfl)
       obtain ⟨e2,ex2,⟨he2,hk2,_⟩ | ⟨he2,n,g2⟩⟩:=hP2
       · subst he2
         simp (maxSteps:=5000000) only [SA,SB,SD,R,SF,SG,SH,seval,TG,SE,SC,UTT,ZCT,List.getElem?_concat_length,ss1,List.set_cons_zero,List.set_cons_succ,Bool.not_not,strP_eql,strP_neq,k2]
         exact ⟨_,_,rfl⟩
       · subst he2
         simp (maxSteps:=5000000) only [SA,SB,SD,R,SF,SG,SH,seval,TG,SE,SC,UTT,ZCT,List.getElem?_concat_length,ss1,List.set_cons_zero,List.set_cons_succ,Bool.not_not,strP_eql,strP_neq,g2]
         exact ⟨_,_,rfl⟩
    · have q1:(pk == 0)=false:=by simpa using q0
      by_cases d0:dv=0
      · have d1:(dv != 0)=false:=by simp [d0]
        simp (maxSteps:=5000000) only [SA,SB,SD,R,SF,SG,SH,seval,TG,SE,SC,UTT,ZCT,List.getElem?_concat_length,ss1,List.set_cons_zero,List.set_cons_succ,Bool.not_not,strP_eql,strP_neq,k2,k5,q1,hd,hp4,d1,hle]
        generalize hE2:ev _ _=z2
        have hP2:=PL.of hE2 (loop2 _ _ (by simp (maxSteps:=5000000) only [SA,SB,SD,R,SF,seval,k2]) (by simp (maxSteps:=5000000) only [SA,SB,SD,R,SF,seval,k5]) (by simp (maxSteps:=5000000) only [SA,SB,SD,R,SF,seval] <;> rfl) (by simp (maxSteps:=5000000) only [SA,SB,SD,R,SF,seval] <;> rfl) (by simp (maxSteps:=5000000) only [SA,SB,SD,R,SF,seval] <;> rfl) rfl rfl)
        obtain ⟨e2,ex2,⟨he2,hk2,_⟩ | ⟨he2,n,g2⟩⟩:=hP2
        · subst he2
          simp (maxSteps:=5000000) only [SA,SB,SD,R,SF,SG,SH,seval,TG,SE,SC,UTT,ZCT,List.getElem?_concat_length,ss1,List.set_cons_zero,List.set_cons_succ,Bool.not_not,strP_eql,strP_neq,k2]
          exact ⟨_,_,rfl⟩
        · subst he2
          simp (maxSteps:=5000000) only [SA,SB,SD,R,SF,SG,SH,seval,TG,SE,SC,UTT,ZCT,List.getElem?_concat_length,ss1,List.set_cons_zero,List.set_cons_succ,Bool.not_not,strP_eql,strP_neq,g2]
          exact ⟨_,_,rfl⟩
      · have d1:(dv != 0)=true:=by simpa using d0
        simp (maxSteps:=5000000) only [SA,SB,SD,R,SF,SG,SH,seval,TG,SE,SC,UTT,ZCT,List.getElem?_concat_length,ss1,List.set_cons_zero,List.set_cons_succ,Bool.not_not,strP_eql,strP_neq,k2,k5,q1,hd,hp4,d1]
        exact ⟨_,_,rfl⟩
  · subst he
    simp (maxSteps:=5000000) only [SA,SB,SD,R,SF,SG,SH,seval,TG,SE,SC,UTT,ZCT,List.getElem?_concat_length,ss1,List.set_cons_zero,List.set_cons_succ,Bool.not_not,strP_eql,strP_neq,g2]
    exact ⟨_,_,rfl⟩
theorem op_numbered (c:Cl) (hc:okCl c) (hen:∀ a ∈ c.ats,a.en.length<=64) (i:Nat) (hi:i < c.cms.length):∃ n,∀ bx,callOp CC (callL CC) 47 [clV c,.int .i64 i] bx=some (.ret (.int .i64 n),bx):=by
 obtain ⟨n,bx',h⟩:=call_numbered c hc hen i hi
 exact ⟨n,fun bx=>callOp_of rfl (by simp only [SA,clV_pure,Bool.and_true]) h rfl⟩
end Go.HH
