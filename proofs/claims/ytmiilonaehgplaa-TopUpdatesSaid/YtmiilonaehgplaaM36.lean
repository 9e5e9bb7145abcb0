/-
  What the law needs, packed: WI WJ WK WL WH.
-/
import Derived.Test.YtmiilonaehgplaaM35
namespace Go.HH
open Go Go.Proofs
set_option maxRecDepth 100000
set_option maxHeartbeats 4000000
set_option linter.unusedSimpArgs false
set_option linter.unusedVariables false
theorem flat_bos:∀ l:List Bool,flat (bos l)=bos l
 | []=>rfl
 | b :: r=>by
  show (PV.bool b).cells++flat (bos r)=_
  rw [flat_bos r];rfl
theorem bos_ro (l:List Bool):(bos l).map PV.ro=bos l:=by
 unfold bos;rw [List.map_map];rfl
theorem bos_one (l:List Bool):(bos l).all PV.one=true:=by
 unfold bos;rw [List.all_map];exact List.all_eq_true.2 fun _ _=>rfl
theorem bos_cells (l:List Bool):((bos l).all fun v=>v.cells.length == 1)=true:=by
 unfold bos;rw [List.all_map];exact List.all_eq_true.2 fun _ _=>rfl
theorem uBs:CC.P.underlying 39=some (.slice 4):=by kernel_rfl
theorem tsB:tSize CC 4=some 1:=by kernel_rfl
theorem taB:tAgg CC 4=false:=by kernel_rfl
theorem tzB:tZero CC 4=some (.bool false):=by kernel_rfl
theorem ifB:∃ i,CC.P.info? 4=some i∧i.size=1∧i.bytes<=1000000:=by
 have h:(match CC.P.info? 4 with | some i=>i.size == 1 && decide (i.bytes<=1000000) | none=>false)=true:=by kernel_rfl
 split at h
 · rename_i i e
   rw [Bool.and_eq_true] at h
   exact ⟨i,e,by simpa using h.1,of_decide_eq_true h.2⟩
 · cases h
theorem mk_bo (n:Nat) (h:n<=1000000):makeSliceP CC 39 (.int .i64 (n:Int)) (.int .i64 (n:Int))=some (.osl 4 (bos (List.replicate n false))):=by
 obtain ⟨i,hi,hs,hb⟩:=ifB
 unfold makeSliceP
 simp only
 rw [if_pos ⟨by trivial,by omega,by omega⟩,uBs]
 simp only [hi]
 rw [if_pos hb,Int.toNat_natCast]
 unfold buildSliceP
 rw [uBs]
 simp only [hi,tzB,hs]
 rw [if_neg]
 · simp only [List.foldlM_nil]
   show some (PV.osl _ _)=_
   unfold bos
   rw [List.map_replicate]
 · rintro (h1 | h1 | h1 | h1)
   · cases h1
   · omega
   · exact h1 rfl
   · cases h1
def cpy (a b:List Bool):List Bool:=a.take (min b.length a.length)++b.drop (min b.length a.length)
theorem cpy_len (a b:List Bool):(cpy a b).length=b.length:=by
 unfold cpy
 rw [List.length_append,List.length_take,List.length_drop]
 omega
theorem bos_app (a b:List Bool):bos a++bos b=bos (a++b):=by unfold bos;rw [List.map_append]
theorem bos_take (a:List Bool) (n:Nat):(bos a).take n=bos (a.take n):=by unfold bos;rw [List.map_take]
theorem bos_drop (a:List Bool) (n:Nat):(bos a).drop n=bos (a.drop n):=by unfold bos;rw [List.map_drop]
def RowB (v:PV) (h:List Bool) (bx:List PBox):Prop:=v=.sl (bos h)∨∃ id,v=.rs id h.length∧bx[id]?=some (.cells 4 (bos h))
theorem RowB.app {v:PV} {h:List Bool} {bx:List PBox} (k:RowB v h bx) (ex:List PBox):RowB v h (bx++ex):=by
 rcases k with k | ⟨id,k1,k2⟩
 · exact .inl k
 · exact .inr ⟨id,k1,get_apps k2 ex⟩
theorem srcP_row {v:PV} {h:List Bool} {bx:List PBox} (k:RowB v h bx):srcP 1 bx v=some (h.length,bos h):=by
 rcases k with rfl | ⟨id,rfl,k2⟩
 · show (if ((bos h).all fun v=>v.cells.length == 1)=true then some ((bos h).length,flat (bos h)) else none)=_
   rw [if_pos (bos_cells h),flat_bos,bos_length]
 · show (match boxCells bx id with | some cs=>_ | none=>none)=_
   unfold boxCells
   rw [k2]
   simp only
   rw [if_pos (by rw [bos_length];omega),List.take_of_length_le (by rw [bos_length];omega)]
theorem copy_bo {bx:List PBox} {p d x y:Nat} {v:PV} {a b:List Bool} (hb:bx[p]?=some (.cells 4 (bos b))) (k:RowB v a bx) (e:List PV) (hx:(getT e x).ro=.rs p b.length) (hy:(getT e y).ro=v) :
 copyOn CC ⟨e,bx⟩ [] (.tmp x) (.tmp y) 39 (some d)=some (.next ⟨setT e d (.int .i64 (min a.length b.length:Nat)),bx.set p (.cells 4 (bos (cpy a b)))⟩ []):=by
 unfold copyOn
 simp only [uBs,tsB,opd_tmp,hx,hy,srcP_row k,List.isEmpty_nil,if_true]
 have hst:storeCellsP bx p 0 (((bos a).take (min a.length b.length * 1)).map PV.ro)=some (bx.set p (.cells 4 (bos (cpy a b)))):=by
  rw [Nat.mul_one,bos_take,bos_ro]
  unfold storeCellsP
  rw [hb]
  simp only
  rw [if_pos ⟨by rw [bos_length,bos_length,List.length_take];omega,bos_one _⟩]
  unfold lay
  rw [bos_drop,List.take_zero,List.nil_append,bos_app]
  congr 4
  unfold cpy
  rw [bos_length,Nat.zero_add,List.length_take,Nat.min_comm a.length b.length,Nat.min_eq_left (Nat.min_le_right _ _)]
 rw [hst]
 rfl
def PCb (bx:List PBox) (res:Option (Ex×St)):Prop:=∃ e',res=some (.exit 0,⟨e',bx⟩)∨(res=some (.ret,⟨e',bx⟩)∧isI (getT e' 4))
theorem PCb.of {ev:Code->St->Option (Ex×St)} {L:Code} {e:List PV} {bx bx1:List PBox} {z:Option (Ex×St)} (hE:ev L ⟨e,bx1⟩=z) (h:PCb bx (ev L ⟨e,bx1⟩)):PCb bx z:=hE ▸ h
theorem loop_ixb (L:Code) (hL:L=fpart Try.f41 [1,0,1,0]) (l:List Bool) (hl:l.length<=1000000) (id:Nat) (w:Bool) (bx:List PBox) (hb:bx[id]?=some (.cells 4 (bos l))):∀ (k i:Nat) (e:List PV),i+k=l.length ->
 getT e 0=.rs id l.length->getT e 1=.bool w->getT e 7=.int .i64 l.length->getT e 8=.int .i64 i->PCb bx (evL CC L ⟨e,bx⟩):=by
 intro k
 induction k with
 | zero=>
  intro i e hk h0 h1 h7 h8
  rw [evL_at (fpart Try.f41 [1,0,1,0,0]) hL]
  have hi:¬ ((i:Int) < (l.length:Int)):=by omega
  obtain ⟨fa,fb,fv,hfn⟩:=FNs
  obtain ⟨ev,eo,so,co,⟨hev,hco⟩,R⟩:=RULES CC;rw [<- hev]
  simp only [fpart,part',Try.f41,Option.getD]
  simp (maxSteps:=5000000) only [SA,SB,SD,R,SF,SG,SH,seval,TG,SE,SC,UTT,ZCT,RV,dynR,hfn,nchP,List.getElem?_concat_length,ss1,List.set_cons_zero,List.set_cons_succ,Bool.not_not,strP_eql,strP_neq,h0,h1,h7,h8,hi]
  exact ⟨_,.inl rfl⟩
 | succ k ih=>
  intro i e hk h0 h1 h7 h8
  rw [evL_at (fpart Try.f41 [1,0,1,0,0]) hL]
  have hi:((i:Int) < (l.length:Int)):=by omega
  have hil:i < l.length:=by omega
  have hi0:¬ ((i:Int) < 0):=by omega
  have hw:=wrap_i64 (n:=(i:Int)+1) ⟨by omega,by omega⟩
  have key:=fun e=>ih (i+1) e (by omega)
  have cast1:((i+1:Nat):Int)=(i:Int)+1:=by omega
  rw [cast1] at key
  have hd:(bos l).drop i=.bool (l[i]'(by omega)) :: (bos l).drop (i+1):=by
   rw [List.drop_eq_getElem_cons (by rw [bos_length];omega)]
   congr 1
   exact List.getElem_map _
  generalize l[i]'(by omega)=x at *
  generalize (bos l).drop (i+1)=rest at *
  generalize bos l=cs at *
  obtain ⟨fa,fb,fv,hfn⟩:=FNs
  generalize hbx:(w == x)=b at *
  cases b with
  | true=>
   obtain ⟨ev,eo,so,co,⟨hev,hco⟩,R⟩:=RULES CC;rw [<- hev]
   simp only [fpart,part',Try.f41,Option.getD]
   simp (maxSteps:=5000000) only [SA,SB,SD,R,SF,SG,SH,seval,TG,SE,SC,UTT,ZCT,RV,dynR,hfn,nchP,List.getElem?_concat_length,ss1,List.set_cons_zero,List.set_cons_succ,Bool.not_not,strP_eql,strP_neq,h0,h1,h7,h8,hi,hi0,hil,hb,hd,hbx,Nat.mul_one]
   exact ⟨_,.inr ⟨rfl,_,by simp (maxSteps:=5000000) only [SA,SB,SD,R,SF,seval,h8];rfl⟩⟩
  | false=>
   obtain ⟨ev,eo,so,co,⟨hev,hco⟩,R⟩:=RULES CC;rw [<- hev]
   rw [<- hev] at key
   simp only [fpart,part',Try.f41,Option.getD]
   simp (maxSteps:=5000000) only [SA,SB,SD,R,SF,SG,SH,seval,TG,SE,SC,UTT,ZCT,RV,dynR,hfn,nchP,List.getElem?_concat_length,ss1,List.set_cons_zero,List.set_cons_succ,Bool.not_not,strP_eql,strP_neq,h0,h1,h7,h8,hi,hi0,hil,hb,hd,hbx,hw,Nat.mul_one]
   refine key _ ?_ ?_ ?_ ?_
   all_goals simp (maxSteps:=5000000) only [SA,SB,SD,R,SF,seval,h0,h1,h7,h8]
theorem call_ixb (l:List Bool) (hl:l.length<=1000000) (id:Nat) (w:Bool) (bx:List PBox) (hb:bx[id]?=some (.cells 4 (bos l))):∃ n,callL CC 41 [.rs id l.length,.bool w] bx=some (.ret (.int .i64 n),bx):=by
 rw [callL_enter (fn:=Try.f41) (c:=Try.f41.body.getD .skip) rfl rfl fat_slices_Index_bool_bool rfl ok_slices_Index_bool_bool (Nat.le_of_ble_eq_true rfl)]
 have hloop:=fun e=>loop_ixb _ rfl l hl id w bx hb l.length 0 e (by omega)
 obtain ⟨fa,fb,fv,hfn⟩:=FNs
 obtain ⟨ev,eo,so,co,⟨hev,hco⟩,R⟩:=RULES CC;rw [<- hev]
 rw [<- hev] at hloop
 simp only [fpart,part',Try.f41,Option.getD] at hloop ⊢
 simp (maxSteps:=5000000) only [SA,SB,SD,R,SF,SG,SH,seval,TG,SE,SC,UTT,ZCT,RV,dynR,hfn,nchP,List.getElem?_concat_length,ss1,List.set_cons_zero,List.set_cons_succ,Bool.not_not,strP_eql,strP_neq,hl]
 generalize hE:ev _ _=z
 obtain ⟨e',he | ⟨he,n,g4⟩⟩:=PCb.of hE (hloop _ (by simp (maxSteps:=5000000) only [SA,SB,SD,R,SF,seval] <;> rfl) (by simp (maxSteps:=5000000) only [SA,SB,SD,R,SF,seval] <;> rfl) (by simp (maxSteps:=5000000) only [SA,SB,SD,R,SF,seval] <;> rfl) (by simp (maxSteps:=5000000) only [SA,SB,SD,R,SF,seval] <;> rfl))
 · subst he
   simp (maxSteps:=5000000) only [SA,SB,SD,R,SF,SG,SH,seval,TG,SE,SC,UTT,ZCT,RV,dynR,hfn,nchP,List.getElem?_concat_length,ss1,List.set_cons_zero,List.set_cons_succ,Bool.not_not,strP_eql,strP_neq,hl]
   exact ⟨_,rfl⟩
 · subst he
   simp (maxSteps:=5000000) only [SA,SB,SD,R,SF,SG,SH,seval,TG,SE,SC,UTT,ZCT,RV,dynR,hfn,nchP,List.getElem?_concat_length,ss1,List.set_cons_zero,List.set_cons_succ,Bool.not_not,strP_eql,strP_neq,g4]
   exact ⟨_,rfl⟩
theorem op_ixb (l:List Bool) (hl:l.length<=1000000) (id:Nat) (w:Bool) (bx:List PBox) (hb:bx[id]?=some (.cells 4 (bos l))):∃ n ex,callOp CC (callL CC) 41 [.rs id l.length,.bool w] bx=some (.ret (.int .i64 n),bx++ex):=by
 obtain ⟨n,h⟩:=call_ixb l hl id w bx hb
 have h':callL CC 41 [.rs id l.length,.bool w] bx=some (.ret (.int .i64 n),bx++[]):=by rw [List.append_nil];exact h
 obtain ⟨ex,h2⟩:=callOp_pre (by simp [pureL,PV.pure]) h'
 exact ⟨n,ex,h2⟩
theorem call_cob (l:List Bool) (hl:l.length<=1000000) (id:Nat) (w:Bool) (bx:List PBox) (hb:bx[id]?=some (.cells 4 (bos l))):∃ b ex,callL CC 30 [.rs id l.length,.bool w] bx=some (.ret (.bool b),bx++ex):=by
 rw [callL_enter (fn:=Try.f30) (c:=Try.f30.body.getD .skip) rfl rfl fat_slices_Contains_bool_bool rfl ok_slices_Contains_bool_bool (Nat.le_of_ble_eq_true rfl)]
 obtain ⟨n,ex,hix⟩:=op_ixb l hl id w bx hb
 obtain ⟨fa,fb,fv,hfn⟩:=FNs
 obtain ⟨ev,eo,so,co,⟨hev,hco⟩,R⟩:=RULES CC;rw [<- hev]
 rw [<- hco] at hix
 simp only [fpart,part',Try.f30,Option.getD]
 simp (maxSteps:=5000000) only [SA,SB,SD,R,SF,SG,SH,seval,TG,SE,SC,UTT,ZCT,RV,dynR,hfn,nchP,List.getElem?_concat_length,ss1,List.set_cons_zero,List.set_cons_succ,Bool.not_not,strP_eql,strP_neq,hix]
 exact ⟨_,_,rfl⟩
theorem op_cob (l:List Bool) (hl:l.length<=1000000) (id:Nat) (w:Bool) (bx:List PBox) (hb:bx[id]?=some (.cells 4 (bos l))):∃ b ex,callOp CC (callL CC) 30 [.rs id l.length,.bool w] bx=some (.ret (.bool b),bx++ex):=by
 obtain ⟨b,ex,h⟩:=call_cob l hl id w bx hb
 obtain ⟨ex',h2⟩:=callOp_pre (by simp [pureL,PV.pure]) h
 exact ⟨b,ex',h2⟩
def Pre (bx B:List PBox):Prop:=bx.length<=B.length∧B.take bx.length=bx
theorem Pre.refl (bx:List PBox):Pre bx bx:=⟨Nat.le_refl _,List.take_length⟩
theorem Pre.app {bx B:List PBox} (h:Pre bx B) (ex:List PBox):Pre bx (B++ex):=⟨by rw [List.length_append];have:=h.1;omega,by rw [List.take_append_of_le_length h.1];exact h.2⟩
theorem Pre.set {bx B:List PBox} (h:Pre bx B) {i:Nat} (hi:bx.length<=i) (v:PBox):Pre bx (B.set i v):=⟨by rw [List.length_set];exact h.1,by rw [List.take_set_of_le hi];exact h.2⟩
theorem Pre.get {bx B:List PBox} (h:Pre bx B) {q:Nat} {v:PBox} (hq:bx[q]?=some v):B[q]?=some v:=by
 have hl:=(List.getElem?_eq_some_iff.1 hq).1
 rw [<- h.2,List.getElem?_take_of_lt hl] at hq
 exact hq
theorem map_lay (f:PV->PV) (cs:List PV) (off:Nat) (vs:List PV):(lay cs off vs).map f=lay (cs.map f) off (vs.map f):=by
 unfold lay
 simp only [List.map_append,List.map_take,List.map_drop,List.length_map]
theorem lay_len (cs:List PV) (off:Nat) (v:PV) (h:off < cs.length):(lay cs off [v]).length=cs.length:=by
 unfold lay
 simp only [List.length_append,List.length_take,List.length_drop,List.length_singleton]
 omega
theorem rows_bo (l:List Bool):rowsOf false 1 l.length (bos l)=bos l:=by
 unfold rowsOf
 apply List.ext_getElem
 · simp [bos_length]
 · intro i h1 h2
   rw [List.getElem_map,List.getElem_range,if_neg (by simp),List.getD_eq_getElem?_getD,List.getElem?_eq_getElem h2]
   rfl
theorem thaw_bo {bx:List PBox} {n p k:Nat} {h:List Bool} (hn:n<=p) (hb:bx[p]?=some (.cells 4 (bos h))):thawP CC bx n (k+1) (.rs p h.length)=.sl (bos h):=by
 show (if p < n then _ else _)=_
 rw [if_neg (by omega),hb]
 have hm:(bos h).map (thawP CC bx n k)=bos h:=by
  have:=thaw_pure bx n (k+1) (.sl (bos h)) (bos_pure h)
  simpa [thawP] using this
 simp only [tsB,taB,hm]
 rw [if_pos ⟨by rw [bos_length];omega,by decide,.inr ⟨by first | trivial | rfl,by exact bos_one h⟩⟩,rows_bo]
theorem thaw_row {bx:List PBox} {n id:Nat} {cs:List PV} {l:List Up} (hn:n<=id) (hb:bx[id]?=some (.cells 41 cs)) (hl:l.length * 6<=cs.length) (hm:cs.map (thawP CC bx n 3)=ucells l):thawP CC bx n 4 (.rs id l.length)=.sl (ups l):=by
 show (if id < n then _ else _)=_
 rw [if_neg (by omega),hb]
 simp only [tsU,taU,hm]
 rw [if_pos ⟨hl,by decide,.inl (by first | trivial | rfl)⟩,rows_uc]
theorem endQ_row {bx B:List PBox} {id:Nat} {cs:List PV} {l:List Up} (hp:Pre bx B) (hu:bx.all (·.under bx.length)=true) (hn:bx.length<=id) (hb:B[id]?=some (.cells 41 cs)) (hl:l.length * 6<=cs.length) (hm:cs.map (thawP CC B bx.length 3)=ucells l) :
 endQ CC bx.length (some (.ret (.rs id l.length),B))=some (.ret (.sl (ups l)),bx):=by
 unfold endQ
 simp only [thaw_row hn hb hl hm,hp.2]
 rw [if_pos (by rw [under_pure _ _ (show (PV.sl (ups l)).pure=true from ups_pure l),hu] <;> rfl)]
end Go.HH
namespace Go.HH
open Go Go.Proofs
set_option maxRecDepth 100000
set_option maxHeartbeats 4000000
set_option linter.unusedSimpArgs false
set_option linter.unusedVariables false
theorem ok_rollout_Have:fnOK CC Try.f12 (Try.f12.body.getD .skip)=true:=by kernel_rfl
theorem fat_rollout_Have:CC.P.funcs[12]?=some Try.f12:=by kernel_rfl
theorem st_row {bx:List PBox} {id off:Nat} {t:TypeId} {cs:List PV} {v:PV} (hb:bx[id]?=some (.cells t cs)) (ho:off < cs.length) (hv:v.one=true):storeCellsP bx id off [v]=some (bx.set id (.cells t (lay cs off [v]))):=by
 unfold storeCellsP
 rw [hb]
 simp only
 rw [if_pos ⟨by rw [List.length_singleton];omega,by simp [hv]⟩]
theorem thaw_uc (B:List PBox) (n:Nat) (l:List Up):(ucells l).map (thawP CC B n 3)=ucells l:=by
 have:=thaw_pure B n 4 (.sl (ucells l)) (ucells_pure l)
 simpa [thawP] using this
theorem newSl_bo (e:List PV) (bx:List PBox) (n d:Nat):newSl CC ⟨e,bx⟩ (.osl 4 (bos (List.replicate n false))) (some d)=⟨setT e d (.rs bx.length n),bx++[PBox.cells 4 (bos (List.replicate n false))]⟩:=by
 unfold newSl
 simp only [RWB,beq_self_eq_true,if_true,flat_bos,bos_length,List.length_replicate]
 rfl
theorem call_Have (l:List Up) (hne:l≠[]) (hl:l.length<=1000000) (hh:∀ u ∈ l,u.hv.length<=1000000) (f:Fw) (dev:Int) (v:PV) (h:List Bool) (bx:List PBox) (hr:RowB v h bx) (hu:bx.all (·.under bx.length)=true):∃ cur,MvR l cur∧callL CC 12 [.sl (ups l),fwV f,.int .i64 dev,v] bx=some (.ret (.sl (ups cur)),bx):=by
 rw [callL_enterT (fn:=Try.f12) (c:=Try.f12.body.getD .skip) rfl rfl fat_rollout_Have rfl ok_rollout_Have (Nat.le_of_ble_eq_true rfl)]
 have hvs:v.shutV=v:=by rcases hr with rfl | ⟨_,rfl,_⟩ <;> rfl
 have hvr:v.ro=v:=by rcases hr with rfl | ⟨_,rfl,_⟩ <;> rfl
 have hvm:∀ b t d al,mvAl b v t d al=killT al d:=by rcases hr with rfl | ⟨_,rfl,_⟩ <;> intro b t d al <;> cases d <;> rfl
 have how:=op_own l hne hl hh (bx++[PBox.cells 28 [.int .i64 f.vn,.int .i64 f.vr,.sl (ints f.sums)]])
 have hid:bx.length<=(bx++[PBox.cells 28 [.int .i64 f.vn,.int .i64 f.vr,.sl (ints f.sums)]]).length:=by rw [List.length_append];omega
 have hb2:(bx++[PBox.cells 28 [.int .i64 f.vn,.int .i64 f.vr,.sl (ints f.sums)]]++[PBox.cells 41 (ucells l)])[(bx++[PBox.cells 28 [.int .i64 f.vn,.int .i64 f.vr,.sl (ints f.sums)]]).length]?=some (PBox.cells 41 (ucells l)):=List.getElem?_concat_length
 have hp2:Pre bx (bx++[PBox.cells 28 [.int .i64 f.vn,.int .i64 f.vr,.sl (ints f.sums)]]++[PBox.cells 41 (ucells l)]):=((Pre.refl bx).app _).app _
 have hf2:(bx++[PBox.cells 28 [.int .i64 f.vn,.int .i64 f.vr,.sl (ints f.sums)]]++[PBox.cells 41 (ucells l)])[bx.length]?=some (PBox.cells 28 [.int .i64 f.vn,.int .i64 f.vr,.sl (ints f.sums)]):=get_app List.getElem?_concat_length _
 have hlt2:(bx++[PBox.cells 28 [.int .i64 f.vn,.int .i64 f.vr,.sl (ints f.sums)]]).length < (bx++[PBox.cells 28 [.int .i64 f.vn,.int .i64 f.vr,.sl (ints f.sums)]]++[PBox.cells 41 (ucells l)]).length:=by simp
 generalize (bx++[PBox.cells 28 [.int .i64 f.vn,.int .i64 f.vr,.sl (ints f.sums)]]).length=id at *
 generalize hB2:bx++[PBox.cells 28 [.int .i64 f.vn,.int .i64 f.vr,.sl (ints f.sums)]]++[PBox.cells 41 (ucells l)]=B2 at *
 obtain ⟨ex,hfi⟩:=op_find l hl id dev 1 B2 hb2
 have hb3:=get_apps hb2 ex
 have hf3:=get_apps hf2 ex
 have hp3:=hp2.app ex
 have hr3:RowB v h (B2++ex):=by
  rcases hr with k | ⟨i,k1,k2⟩
  · exact .inl k
  · exact .inr ⟨i,k1,hp3.get k2⟩
 have hlt3:id < (B2++ex).length:=by rw [List.length_append];omega
 have hck:=op_fwCheck f
 have hsp:=ups_pure l
 have hsi:pureL (ints f.sums)=true:=pureL_ints f.sums
 have hln:(ints f.sums).length=f.sums.length:=List.length_map _
 have hend0:=endQ_row (l:=l) hp3 hu hid hb3 (by rw [uc_len];omega) (thaw_uc _ _ l)
 generalize hB3:B2++ex=B3 at *
 have hfo:=fdI_or l dev 1
 generalize fdI l dev 1=r at *
 have hok:=fun h=>@ckF_ok f h
 generalize ckF f=c at *
 obtain ⟨fa,fb,fv,hfn⟩:=FNs
 by_cases c0:c=0
 · have c1:(c != 0)=false:=by simp [c0]
   obtain ⟨_,hm1,hm64⟩:=hok c0
   rcases hfo with rfl | ⟨j,u,hju,hst,rfl⟩
   · refine ⟨l,MvR.refl l,?_⟩
     have hm:((-1:Int) < 0):=by decide
     obtain ⟨vn,fvr,fs⟩:=f
     unfold fwV at *
     simp only at how hfi hf3 hsi hck ⊢
     generalize ups l=xs at *
     generalize ints fs=zs at *
     obtain ⟨ev,eo,so,co,⟨hev,hco⟩,R⟩:=RULES CC;rw [<- hev]
     rw [<- hco] at how hfi hck
     simp only [fpart,part',Try.f12,Option.getD]
     simp (maxSteps:=5000000) only [SA,SB,SD,R,SF,SG,SH,seval,TG,SE,SC,UTT,ZCT,RV,dynR,hfn,nchP,List.getElem?_concat_length,ss1,List.set_cons_zero,List.set_cons_succ,Bool.not_not,strP_eql,strP_neq,how,hfi,hck,hsp,hsi,hm,c1,hf3,hvs,hvr]
     exact hend0
   · have hm:¬ ((j:Int) < 0):=by omega
     have hlt:=(List.getElem?_eq_some_iff.1 hju).1
     have hjl:(j:Int) < (l.length:Int):=by omega
     have hmk:=mk_bo f.sums.length (by omega)
     have hns:=fun e d=>newSl_bo e B3 f.sums.length d
     have hb4:(B3++[PBox.cells 4 (bos (List.replicate f.sums.length false))])[B3.length]?=some (PBox.cells 4 (bos (List.replicate f.sums.length false))):=List.getElem?_concat_length
     have hcp:=fun e hx hy=>copy_bo (x:=29) (y:=30) (d:=31) hb4 (hr3.app _) e hx hy
     rw [ss1] at hcp
     have hcl:(cpy h (List.replicate f.sums.length false)).length=f.sums.length:=by rw [cpy_len,List.length_replicate]
     rw [List.length_replicate] at hcp
     generalize cpy h (List.replicate f.sums.length false)=nh at *
     have hb5:(B3++[PBox.cells 4 (bos nh)])[id]?=some (PBox.cells 41 (ucells l)):=get_app hb3 _
     have hr5:(B3++[PBox.cells 4 (bos nh)])[B3.length]?=some (PBox.cells 4 (bos nh)):=List.getElem?_concat_length
     have hp5:=hp3.app [PBox.cells 4 (bos nh)]
     have hs6:=st_row (off:=j * 6+5) (v:=.rs B3.length f.sums.length) hb5 (by rw [uc_len];omega) rfl
     have hb6:((B3++[PBox.cells 4 (bos nh)]).set id (PBox.cells 41 (lay (ucells l) (j * 6+5) [.rs B3.length f.sums.length])))[id]?=some (PBox.cells 41 (lay (ucells l) (j * 6+5) [.rs B3.length f.sums.length])):=List.getElem?_set_self (List.getElem?_eq_some_iff.1 hb5).1
     have hr6:((B3++[PBox.cells 4 (bos nh)]).set id (PBox.cells 41 (lay (ucells l) (j * 6+5) [.rs B3.length f.sums.length])))[B3.length]?=some (PBox.cells 4 (bos nh)):=by rw [List.getElem?_set_ne (by omega)];exact hr5
     have hp6:=hp5.set hid (PBox.cells 41 (lay (ucells l) (j * 6+5) [.rs B3.length f.sums.length]))
     generalize hB6:(B3++[PBox.cells 4 (bos nh)]).set id (PBox.cells 41 (lay (ucells l) (j * 6+5) [.rs B3.length f.sums.length]))=B6 at *
     obtain ⟨b,ex2,hco2⟩:=op_cob nh (by omega) B3.length false B6 hr6
     rw [hcl] at hco2
     have hb7:=get_apps hb6 ex2
     have hr7:=get_apps hr6 ex2
     have hp7:=hp6.app ex2
     have hs8:=st_row (off:=j * 6+1) (v:=.int .i64 2) hb7 (by rw [lay_len _ _ _ (by rw [uc_len];omega),uc_len];omega) rfl
     have hb8:((B6++ex2).set id (PBox.cells 41 (lay (lay (ucells l) (j * 6+5) [.rs B3.length f.sums.length]) (j * 6+1) [.int .i64 2])))[id]?=some (PBox.cells 41 (lay (lay (ucells l) (j * 6+5) [.rs B3.length f.sums.length]) (j * 6+1) [.int .i64 2])):=List.getElem?_set_self (List.getElem?_eq_some_iff.1 hb7).1
     have hr8:((B6++ex2).set id (PBox.cells 41 (lay (lay (ucells l) (j * 6+5) [.rs B3.length f.sums.length]) (j * 6+1) [.int .i64 2])))[B3.length]?=some (PBox.cells 4 (bos nh)):=by rw [List.getElem?_set_ne (by omega)];exact hr7
     have hp8:=hp7.set hid (PBox.cells 41 (lay (lay (ucells l) (j * 6+5) [.rs B3.length f.sums.length]) (j * 6+1) [.int .i64 2]))
     have hnp:bx.length<=B3.length:=hp3.1
     have hl5:lay (ucells l) (j * 6+5) [.sl (bos nh)]=ucells (l.set j { u with hv:=nh }):=uc_lay l j 5 u { u with hv:=nh } _ hju (by decide) rfl
     have hju2:(l.set j { u with hv:=nh })[j]?=some { u with hv:=nh }:=List.getElem?_set_self hlt
     have hl1:lay (ucells (l.set j { u with hv:=nh })) (j * 6+1) [.int .i64 2]=ucells (l.set j { u with hv:=nh,st:=2 }):=by
      rw [uc_lay _ j 1 { u with hv:=nh } { u with hv:=nh,st:=2 } _ hju2 (by decide) rfl,List.set_set]
     have hm7:(lay (ucells l) (j * 6+5) [.rs B3.length f.sums.length]).map (thawP CC (B6++ex2) bx.length 3)=ucells (l.set j { u with hv:=nh }):=by
      rw [map_lay,thaw_uc,List.map_cons,List.map_nil,<- hcl,thaw_bo hnp hr7,hl5]
     have hm8:(lay (lay (ucells l) (j * 6+5) [.rs B3.length f.sums.length]) (j * 6+1) [.int .i64 2]).map (thawP CC ((B6++ex2).set id (PBox.cells 41 (lay (lay (ucells l) (j * 6+5) [.rs B3.length f.sums.length]) (j * 6+1) [.int .i64 2]))) bx.length 3)=ucells (l.set j { u with hv:=nh,st:=2 }):=by
      generalize (B6++ex2).set id _=B8 at *
      rw [map_lay,map_lay,thaw_uc,List.map_cons,List.map_nil,<- hcl,thaw_bo hnp hr8,hl5]
      exact hl1
     have hlen:(lay (ucells l) (j * 6+5) [.rs B3.length f.sums.length]).length=l.length * 6:=by rw [lay_len _ _ _ (by rw [uc_len];omega),uc_len]
     have hend7:=endQ_row (l:=l.set j { u with hv:=nh }) hp7 hu hid hb7 (by rw [List.length_set,hlen];omega) hm7
     have hend8:=endQ_row (l:=l.set j { u with hv:=nh,st:=2 }) hp8 hu hid hb8 (by rw [List.length_set,lay_len _ _ _ (by rw [hlen];omega),hlen];omega) hm8
     rw [List.length_set] at hend7 hend8
     have hv1:hvOK u { u with hv:=nh }:=.inr ⟨by show 1<=nh.length;omega,by show nh.length<=64;omega⟩
     have hv2:hvOK u { u with hv:=nh,st:=2 }:=.inr ⟨by show 1<=nh.length;omega,by show nh.length<=64;omega⟩
     have mv1:MvR l (l.set j { u with hv:=nh }):=MvR.set hju (by rw [hst];decide) (by rw [hst];decide) (by rw [hst];decide) (by show u.st≠0;rw [hst];decide) (fun h=>by have h:u.st=5:=h;rw [hst] at h;cases h) hv1
     have mv2:MvR l (l.set j { u with hv:=nh,st:=2 }):=MvR.set hju (by rw [hst];decide) (by rw [hst];decide) (by rw [hst];decide) (by simp) (by simp) hv2
     clear hm7 hm8 hl1 hl5 hju2
     generalize l.set j { u with hv:=nh }=la at *
     generalize l.set j { u with hv:=nh,st:=2 }=lb at *
     generalize hB8:(B6++ex2).set id (PBox.cells 41 (lay (lay (ucells l) (j * 6+5) [.rs B3.length f.sums.length]) (j * 6+1) [.int .i64 2]))=B8 at *
     obtain ⟨vn,fvr,fs⟩:=f
     unfold fwV at *
     simp only at how hfi hf3 hsi hck hln hmk hns hcp hs6 hco2 hend7 hend8 ⊢
     generalize ups l=xs at *
     generalize ints fs=zs at *
     generalize lay (ucells l) (j * 6+5) [PV.rs B3.length fs.length]=cs1 at *
     generalize ucells l=cs at *
     cases b with
     | true=>
      refine ⟨la,mv1,?_⟩
      obtain ⟨ev,eo,so,co,⟨hev,hco⟩,R⟩:=RULES CC;rw [<- hev]
      rw [<- hco] at how hfi hck hco2
      simp only [fpart,part',Try.f12,Option.getD]
      simp (maxSteps:=5000000) only [SA,SB,SD,R,SF,SG,seval,TG,SE,SC,UTT,ZCT,RV,dynR,hfn,nchP,List.getElem?_concat_length,storeR,storeK,laid,ss1,List.set_cons_zero,List.set_cons_succ,Bool.not_not,strP_eql,strP_neq,how,hfi,hck,hsp,hsi,hm,c1,hlt,hjl,hf3,hln,hmk,hns,mkSl,copyP,hcp,hs6,hco2,hvs,hvr,hvm]
      exact hend7
     | false=>
      refine ⟨lb,mv2,?_⟩
      obtain ⟨ev,eo,so,co,⟨hev,hco⟩,R⟩:=RULES CC;rw [<- hev]
      rw [<- hco] at how hfi hck hco2
      simp only [fpart,part',Try.f12,Option.getD]
      simp (maxSteps:=5000000) only [SA,SB,SD,R,SF,SG,seval,TG,SE,SC,UTT,ZCT,RV,dynR,hfn,nchP,List.getElem?_concat_length,storeR,storeK,laid,ss1,List.set_cons_zero,List.set_cons_succ,Bool.not_not,strP_eql,strP_neq,how,hfi,hck,hsp,hsi,hm,c1,hlt,hjl,hf3,hln,hmk,hns,mkSl,copyP,hcp,hs6,hco2,hvs,hvr,hvm,hs8]
      exact hend8
 · have c1:(c != 0)=true:=by simpa using c0
   refine ⟨l,MvR.refl l,?_⟩
   obtain ⟨vn,fvr,fs⟩:=f
   unfold fwV at *
   simp only at how hfi hf3 hsi hck ⊢
   generalize ups l=xs at *
   generalize ints fs=zs at *
   obtain ⟨ev,eo,so,co,⟨hev,hco⟩,R⟩:=RULES CC;rw [<- hev]
   rw [<- hco] at how hfi hck
   simp only [fpart,part',Try.f12,Option.getD]
   simp (maxSteps:=5000000) only [SA,SB,SD,R,SF,SG,SH,seval,TG,SE,SC,UTT,ZCT,RV,dynR,hfn,nchP,List.getElem?_concat_length,ss1,List.set_cons_zero,List.set_cons_succ,Bool.not_not,strP_eql,strP_neq,how,hfi,hck,hsp,hsi,c1,hf3,hvs,hvr]
   exact hend0
end Go.HH
namespace Go.HH
open Go Go.Proofs
set_option maxRecDepth 100000
set_option maxHeartbeats 4000000
set_option linter.unusedSimpArgs false
set_option linter.unusedVariables false
theorem ok_rollout_Send:fnOK CC Try.f20 (Try.f20.body.getD .skip)=true:=by kernel_rfl
theorem fat_rollout_Send:CC.P.funcs[20]?=some Try.f20:=by kernel_rfl
theorem op_Have (l:List Up) (hne:l≠[]) (hl:l.length<=1000000) (hh:∀ u ∈ l,u.hv.length<=1000000) (f:Fw) (dev:Int) (v:PV) (h:List Bool) (bx:List PBox) (hr:RowB v h bx) (hu:bx.all (·.under bx.length)=true):∃ cur,MvR l cur∧callOp CC (callL CC) 12 [.sl (ups l),fwV f,.int .i64 dev,v] bx=some (.ret (.sl (ups cur)),bx):=by
 rcases hr with rfl | ⟨id,rfl,k2⟩
 · obtain ⟨cur,h1,h2⟩:=call_Have l hne hl hh f dev (.sl (bos h)) h [] (.inl rfl) rfl
   exact ⟨cur,h1,callOp_of rfl (by simp only [pureL,PV.pure,ups_pure,bos_pure,fwV_pure,Bool.and_self]) h2 (ups_pure cur)⟩
 · obtain ⟨cur,h1,h2⟩:=call_Have l hne hl hh f dev (.rs id h.length) h bx (.inr ⟨id,rfl,k2⟩) hu
   refine ⟨cur,h1,?_⟩
   unfold callOp
   have hp:pureL [.sl (ups l),fwV f,.int .i64 dev,.rs id h.length]=false:=by simp [pureL,PV.pure]
   simp only [hp,Bool.not_false,Bool.or_true,if_true,h2]
   unfold truncB
   split
   · rw [List.take_length]
   · rfl
noncomputable def IPt:TypeInfo:=(Try.prog.info? 61).getD default
theorem bsPt (a b:Int):buildSliceP CC 54 1 [(0,.agg [.int .i64 a,.int .i64 b])]=some (.osl 61 [.agg [.int .i64 a,.int .i64 b]]):=by
 have hu:CC.P.underlying 54=some (.slice 61):=by kernel_rfl
 have hz:tZero CC 61=some (.agg [.int .i64 0,.int .i64 0]):=by kernel_rfl
 have hi:CC.P.info? 61=some IPt:=by kernel_rfl
 have hs:IPt.size=2:=by kernel_rfl
 have ht:tAgg CC 61=true:=by kernel_rfl
 unfold buildSliceP
 simp only [hu,hz,hi,hs,ht,List.foldlM_cons,List.foldlM_nil]
 rfl
theorem buPt (a b:Int):buildP CC 61 [(0,.int .i64 a),(1,.int .i64 b)]=some (.agg [.int .i64 a,.int .i64 b]):=by kernel_rfl
theorem apPt (st:St) (al:List (Nat×Loc)) (s x:Operand) (d:Option Tmp):appendOn CC st al s x 54 54 d=match appendAt CC st al 61 s,elemsOf (opd CC st.env x) with
 | some (l,xs),some ys=>appK 16 2 61 st al l xs ys d
 | _,_=>none:=appendOn_eq (i:=IPt) (by kernel_rfl) (by kernel_rfl) (by kernel_rfl) (z:=(IPt.zero).getD default) (by kernel_rfl) (by kernel_rfl) (by rw [show IPt.size=2 from by kernel_rfl];decide) (by kernel_rfl) (by kernel_rfl)
theorem pts_app (a b:List (Int×Int)):pts (a++b)=pts a++pts b:=by unfold pts;rw [List.map_append]
theorem pts_length (a:List (Int×Int)):(pts a).length=a.length:=List.length_map _
theorem pts_pure:∀ l:List (Int×Int),pureL (pts l)=true
 | []=>rfl
 | f :: r=>by show ((PV.agg [.int .i64 f.1,.int .i64 f.2]).pure && pureL (pts r))=true;rw [pts_pure r];rfl
def PSi (keep:List Nat) (e:List PV) (bx:List PBox) (n:Nat) (j:Nat) (res:Option (Ex×St)):Prop:=∃ e' ex ps',res=some (.exit j,⟨e',bx++ex⟩)∧(∀ t ∈ keep,getT e' t=getT e t)∧getT e' 5=.osl 61 (pts ps')∧ps'.length<=n
theorem PSi.of {ev:Code->St->Option (Ex×St)} {L:Code} {keep:List Nat} {e:List PV} {bx:List PBox} {n j:Nat} {z:Option (Ex×St)} (hE:ev L ⟨e,bx⟩=z) (h:PSi keep e bx n j (ev L ⟨e,bx⟩)):PSi keep e bx n j z:=hE ▸ h
theorem PSi.app {keep:List Nat} {e e2:List PV} {bx ex:List PBox} {n m j:Nat} {res:Option (Ex×St)} (hk:∀ t ∈ keep,getT e2 t=getT e t) (hn:m<=n) (h:PSi keep e2 (bx++ex) m j res):PSi keep e bx n j res:=by
 obtain ⟨e',ex',ps',h1,h2,h3,h4⟩:=h
 exact ⟨e',ex++ex',ps',by rw [<- List.append_assoc];exact h1,fun t ht=>(h2 t ht).trans (hk t ht),h3,by omega⟩
theorem PSi.env {keep:List Nat} {e e2:List PV} {bx:List PBox} {n j:Nat} {res:Option (Ex×St)} (hk:∀ t ∈ keep,getT e2 t=getT e t) (h:PSi keep e2 bx n j res):PSi keep e bx n j res:=by
 obtain ⟨e',ex',ps',h1,h2,h3,h4⟩:=h
 exact ⟨e',ex',ps',h1,fun t ht=>(h2 t ht).trans (hk t ht),h3,h4⟩
theorem loop_Sn2 (L:Code) (hL:L=fpart Try.f20 [1,1,1,0,1,0,0,1,1,0,0,1,1,1,0]) (m:Nat) (hm:m<=1000) (ps:List (Int×Int)) (hps:ps.length<=100000) (p:Nat) (u:Up):∀ (k i:Nat) (e:List PV) (bx:List PBox),i+k=m ->
 getT e 5=.osl 61 (pts ps)->getT e 7=.bp p 0->getT e 23=.int .i64 m->getT e 24=.int .i64 i->bx[p]?=some (.cells 41 (upC u))->PSi [3,12,13,14] e bx (ps.length+1) 2 (evL CC L ⟨e,bx⟩):=by
 intro k
 induction k with
 | zero=>
  intro i e bx hk h5 h7 h23 h24 hb
  rw [evL_at (fpart Try.f20 [1,1,1,0,1,0,0,1,1,0,0,1,1,1,0,0]) hL]
  have hi:¬ ((i:Int) < (m:Int)):=by omega
  obtain ⟨fa,fb,fv,hfn⟩:=FNs
  obtain ⟨ev,eo,so,co,⟨hev,hco⟩,R⟩:=RULES CC;rw [<- hev]
  simp only [fpart,part',Try.f20,Option.getD]
  simp (maxSteps:=5000000) only [SA,SB,SD,R,SF,SG,SH,seval,TG,SE,SC,UTT,ZCT,RV,dynR,hfn,nchP,List.getElem?_concat_length,ss1,List.set_cons_zero,List.set_cons_succ,Bool.not_not,strP_eql,strP_neq,h5,h7,h23,h24,hi]
  exact ⟨_,[],ps,by rw [List.append_nil],(by intro t ht;simp only [List.mem_cons,List.not_mem_nil,or_false] at ht;(repeat' (first | rcases ht with rfl | ht)) <;> (try subst ht) <;> simp (maxSteps:=5000000) only [SA,SB,SD,R,SF,seval]),by simp (maxSteps:=5000000) only [SA,SB,SD,R,SF,seval,h5],by omega⟩
 | succ k ih=>
  intro i e bx hk h5 h7 h23 h24 hb
  rw [evL_at (fpart Try.f20 [1,1,1,0,1,0,0,1,1,0,0,1,1,1,0,0]) hL]
  have hi:((i:Int) < (m:Int)):=by omega
  have hi0:¬ ((i:Int) < 0):=by omega
  have hw:=wrap_i64 (n:=(i:Int)+1) ⟨by omega,by omega⟩
  have key:=fun e bx=>ih (i+1) e bx (by omega)
  have cast1:((i+1:Nat):Int)=(i:Int)+1:=by omega
  rw [cast1] at key
  have hbs:=bsPt u.dv i
  have hbu:=buPt u.dv i
  have hap:=fun st al l d=>appK_ok (bytes:=16) (size:=2) (e:=61) (st:=st) (al:=al) (l:=l) (d:=d) (xs:=pts ps) (ys:=[.agg [.int .i64 u.dv,.int .i64 i]]) (by simp only [List.length_cons,List.length_nil,pts_length];omega) (by decide) rfl
  have hfin:∀ e',(∀ t ∈ [3,12,13,14],getT e' t=getT e t)->getT e' 5=.osl 61 (pts ps++[.agg [.int .i64 u.dv,.int .i64 i]])->PSi [3,12,13,14] e bx (ps.length+1) 2 (some (.exit 2,⟨e',bx⟩)):=fun e' hk h=>⟨e',[],ps++[(u.dv,(i:Int))],by rw [List.append_nil],hk,by rw [h,pts_app];rfl,by simp⟩
  have hkeep:=hb
  obtain ⟨dv,st,vr,pv,sn,hv⟩:=u
  unfold upC at hb
  simp only at hb hbs hbu hap hfin
  have hln:=bos_length hv
  obtain ⟨fa,fb,fv,hfn⟩:=FNs
  by_cases c:(i:Int) ≥ (hv.length:Int)
  · generalize bos hv=ys at *
    generalize pts ps=xs at *
    obtain ⟨ev,eo,so,co,⟨hev,hco⟩,R⟩:=RULES CC;rw [<- hev]
    simp only [fpart,part',Try.f20,Option.getD]
    simp (maxSteps:=5000000) only [SA,SB,SD,R,SF,SG,SH,seval,TG,SE,SC,UTT,ZCT,RV,dynR,hfn,nchP,List.getElem?_concat_length,ss1,List.set_cons_zero,List.set_cons_succ,Bool.not_not,strP_eql,strP_neq,h5,h7,h23,h24,hi,hi0,hb,hln,c,hbs,hbu,apPt,hap]
    exact hfin _ (by intro t ht;simp only [List.mem_cons,List.not_mem_nil,or_false] at ht;(repeat' (first | rcases ht with rfl | ht)) <;> (try subst ht) <;> simp (maxSteps:=5000000) only [SA,SB,SD,R,SF,seval]) (by simp (maxSteps:=5000000) only [SA,SB,SD,R,SF,seval])
  · have hx:(bos hv)[i]?=some (.bool (hv[i]'(by omega))):=map_get (f:=PV.bool) (List.getElem?_eq_getElem (by omega))
    generalize hv[i]'(by omega)=b at *
    generalize bos hv=ys at *
    cases b with
    | true=>
     obtain ⟨ev,eo,so,co,⟨hev,hco⟩,R⟩:=RULES CC;rw [<- hev]
     rw [<- hev] at key
     simp only [fpart,part',Try.f20,Option.getD]
     simp (maxSteps:=5000000) only [SA,SB,SD,R,SF,SG,SH,seval,TG,SE,SC,UTT,ZCT,RV,dynR,hfn,nchP,List.getElem?_concat_length,ss1,List.set_cons_zero,List.set_cons_succ,Bool.not_not,strP_eql,strP_neq,h5,h7,h23,h24,hi,hi0,hb,hln,c,hx,hw]
     refine PSi.env (by intro t ht;simp only [List.mem_cons,List.not_mem_nil,or_false] at ht;(repeat' (first | rcases ht with rfl | ht)) <;> (try subst ht) <;> simp (maxSteps:=5000000) only [SA,SB,SD,R,SF,seval]) (key _ _ ?_ ?_ ?_ ?_ hkeep)
     · simp (maxSteps:=5000000) only [SA,SB,SD,R,SF,seval,h5]
     · simp (maxSteps:=5000000) only [SA,SB,SD,R,SF,seval,h7]
     · simp (maxSteps:=5000000) only [SA,SB,SD,R,SF,seval,h23]
     · simp (maxSteps:=5000000) only [SA,SB,SD,R,SF,seval]
    | false=>
     generalize pts ps=xs at *
     obtain ⟨ev,eo,so,co,⟨hev,hco⟩,R⟩:=RULES CC;rw [<- hev]
     simp only [fpart,part',Try.f20,Option.getD]
     simp (maxSteps:=5000000) only [SA,SB,SD,R,SF,SG,SH,seval,TG,SE,SC,UTT,ZCT,RV,dynR,hfn,nchP,List.getElem?_concat_length,ss1,List.set_cons_zero,List.set_cons_succ,Bool.not_not,strP_eql,strP_neq,h5,h7,h23,h24,hi,hi0,hb,hln,c,hx,hbs,hbu,apPt,hap]
     exact hfin _ (by intro t ht;simp only [List.mem_cons,List.not_mem_nil,or_false] at ht;(repeat' (first | rcases ht with rfl | ht)) <;> (try subst ht) <;> simp (maxSteps:=5000000) only [SA,SB,SD,R,SF,seval]) (by simp (maxSteps:=5000000) only [SA,SB,SD,R,SF,seval])
theorem loop_Sn (L:Code) (hL:L=fpart Try.f20 [1,1,1,0,1,0]) (l:List Up) (hl:l.length<=10000) (f:Fw) (hf:f.sums.length<=64):∀ (k i:Nat) (ps:List (Int×Int)) (e:List PV) (bx:List PBox),i+k=l.length->ps.length<=i ->
 getT e 3=.bp 0 0->getT e 5=.osl 61 (pts ps)->getT e 12=.sl (ups l)->getT e 13=.int .i64 l.length->getT e 14=.int .i64 i->bx[0]?=some (.cells 28 [.int .i64 f.vn,.int .i64 f.vr,.sl (ints f.sums)])->PSi [] e bx l.length 0 (evL CC L ⟨e,bx⟩):=by
 intro k
 induction k with
 | zero=>
  intro i ps e bx hk hps h3 h5 h12 h13 h14 hb
  rw [evL_at (fpart Try.f20 [1,1,1,0,1,0,0]) hL]
  have hi:¬ ((i:Int) < (l.length:Int)):=by omega
  have hpl:ps.length<=l.length:=by omega
  obtain ⟨fa,fb,fv,hfn⟩:=FNs
  obtain ⟨ev,eo,so,co,⟨hev,hco⟩,R⟩:=RULES CC;rw [<- hev]
  simp only [fpart,part',Try.f20,Option.getD]
  simp (maxSteps:=5000000) only [SA,SB,SD,R,SF,SG,SH,seval,TG,SE,SC,UTT,ZCT,RV,dynR,hfn,nchP,List.getElem?_concat_length,ss1,List.set_cons_zero,List.set_cons_succ,Bool.not_not,strP_eql,strP_neq,h3,h5,h12,h13,h14,hi]
  exact ⟨_,[],ps,by rw [List.append_nil],by simp,by simp (maxSteps:=5000000) only [SA,SB,SD,R,SF,seval,h5],hpl⟩
 | succ k ih=>
  intro i ps e bx hk hps h3 h5 h12 h13 h14 hb
  rw [evL_at (fpart Try.f20 [1,1,1,0,1,0,0]) hL]
  have hi:((i:Int) < (l.length:Int)):=by omega
  have hi0:¬ ((i:Int) < 0):=by omega
  have hw:=wrap_i64 (n:=(i:Int)+1) ⟨by omega,by omega⟩
  have key0:=ih (i+1) ps
  have key:=fun ps' e bx=>ih (i+1) ps' e bx (by omega)
  have cast1:((i+1:Nat):Int)=(i:Int)+1:=by omega
  rw [cast1] at key
  have hx:=ups_get (l:=l) (i:=i) (u:=l[i]'(by omega)) (List.getElem?_eq_getElem (by omega))
  generalize l[i]'(by omega)=x at *
  have hb1:=get_app hb
  have loop2:=fun e bx=>loop_Sn2 _ rfl f.sums.length (by omega) ps (by omega) bx.length x f.sums.length 0 e (bx++[.cells 41 (upC x)]) (by omega)
  have hln:(ints f.sums).length=f.sums.length:=List.length_map _
  have hps1:ps.length<=i+1:=by omega
  have hle:∀ q,q<=ps.length+1->q<=i+1:=fun q h=>by omega
  obtain ⟨fa,fb,fv,hfn⟩:=FNs
  obtain ⟨dv,st,vr,pv,sn,hv⟩:=x
  obtain ⟨vn,fvr,fs⟩:=f
  unfold upV upC at hx
  unfold upC at loop2
  simp only at hx hb hb1 loop2 hln key
  clear ih key0
  generalize bos hv=ys at *
  generalize ups l=xs at *
  generalize ints fs=zs at *
  by_cases s0:st=1
  · have s1:(st != 1)=false:=by simp [s0]
    obtain ⟨ev,eo,so,co,⟨hev,hco⟩,R⟩:=RULES CC;rw [<- hev]
    rw [<- hev] at key loop2
    simp only [fpart,part',Try.f20,Option.getD] at loop2 ⊢
    simp (maxSteps:=5000000) only [SA,SB,SD,R,SF,SG,SH,seval,TG,SE,SC,UTT,ZCT,RV,dynR,hfn,nchP,List.getElem?_concat_length,ss1,List.set_cons_zero,List.set_cons_succ,Bool.not_not,strP_eql,strP_neq,h3,h5,h12,h13,h14,hi,hi0,hx,hb,hb1,s1,hln]
    generalize hE:ev _ _=z
    obtain ⟨e',ex,ps',he,hkp,g5,hp'⟩:=PSi.of hE (loop2 _ bx (by simp (maxSteps:=5000000) only [SA,SB,SD,R,SF,seval,h5]) (by simp (maxSteps:=5000000) only [SA,SB,SD,R,SF,seval] <;> rfl) (by simp (maxSteps:=5000000) only [SA,SB,SD,R,SF,seval] <;> rfl) (by simp (maxSteps:=5000000) only [SA,SB,SD,R,SF,seval] <;> rfl) List.getElem?_concat_length)
    subst he
    have k3:=hkp 3 (by simp)
    have k12:=hkp 12 (by simp)
    have k13:=hkp 13 (by simp)
    have k14:=hkp 14 (by simp)
    simp (maxSteps:=5000000) only [SA,SB,SD,R,SF,seval,h3,h12,h13,h14] at k3 k12 k13 k14
    simp (maxSteps:=5000000) only [SA,SB,SD,R,SF,SG,SH,seval,TG,SE,SC,UTT,ZCT,RV,dynR,hfn,nchP,List.getElem?_concat_length,ss1,List.set_cons_zero,List.set_cons_succ,Bool.not_not,strP_eql,strP_neq,g5,k3,k12,k13,k14,hw]
    refine PSi.app (ex:=[_]) (e2:=e) (by simp) (Nat.le_refl _) (PSi.app (by simp) (Nat.le_refl _) (key ps' _ _ (hle _ hp') ?_ ?_ ?_ ?_ ?_ (get_apps (hb1 _) ex)))
    · simp (maxSteps:=5000000) only [SA,SB,SD,R,SF,seval,k3]
    · simp (maxSteps:=5000000) only [SA,SB,SD,R,SF,seval,g5]
    · simp (maxSteps:=5000000) only [SA,SB,SD,R,SF,seval,k12]
    · simp (maxSteps:=5000000) only [SA,SB,SD,R,SF,seval,k13]
    · simp (maxSteps:=5000000) only [SA,SB,SD,R,SF,seval]
  · have s1:(st != 1)=true:=by simpa using s0
    obtain ⟨ev,eo,so,co,⟨hev,hco⟩,R⟩:=RULES CC;rw [<- hev]
    rw [<- hev] at key
    simp only [fpart,part',Try.f20,Option.getD]
    simp (maxSteps:=5000000) only [SA,SB,SD,R,SF,SG,SH,seval,TG,SE,SC,UTT,ZCT,RV,dynR,hfn,nchP,List.getElem?_concat_length,ss1,List.set_cons_zero,List.set_cons_succ,Bool.not_not,strP_eql,strP_neq,h3,h5,h12,h13,h14,hi,hi0,hx,hb,hb1,s1,hw]
    refine PSi.app (by simp) (Nat.le_refl _) (key ps _ _ hps1 ?_ ?_ ?_ ?_ ?_ (hb1 _))
    · simp (maxSteps:=5000000) only [SA,SB,SD,R,SF,seval,h3]
    · simp (maxSteps:=5000000) only [SA,SB,SD,R,SF,seval,h5]
    · simp (maxSteps:=5000000) only [SA,SB,SD,R,SF,seval,h12]
    · simp (maxSteps:=5000000) only [SA,SB,SD,R,SF,seval,h13]
    · simp (maxSteps:=5000000) only [SA,SB,SD,R,SF,seval]
theorem call_Send (l:List Up) (hl:l.length<=10000) (f:Fw):∃ ps:List (Int×Int),ps.length<=l.length∧∃ bx,callL CC 20 [.sl (ups l),fwV f] []=some (.ret (.sl (pts ps)),bx):=by
 rw [callL_enter (fn:=Try.f20) (c:=Try.f20.body.getD .skip) rfl rfl fat_rollout_Send rfl ok_rollout_Send (Nat.le_of_ble_eq_true rfl)]
 have hck:=op_fwCheck f
 have hok:=fun h=>(@ckF_ok f h).2.2
 have hloop:=fun hf e bx=>loop_Sn _ rfl l hl f hf l.length 0 [] e bx (by omega) (Nat.zero_le _)
 have hln:=ups_length l
 have hsi:pureL (ints f.sums)=true:=pureL_ints f.sums
 generalize ups l=xs at *
 generalize ckF f=c at *
 obtain ⟨fa,fb,fv,hfn⟩:=FNs
 obtain ⟨vn,fvr,fs⟩:=f
 unfold fwV at *
 simp only at hloop hok hsi
 generalize ints fs=zs at *
 by_cases c0:c=0
 · have c1:(c != 0)=false:=by simp [c0]
   have hloop:=hloop (hok c0)
   obtain ⟨ev,eo,so,co,⟨hev,hco⟩,R⟩:=RULES CC;rw [<- hev]
   rw [<- hco] at hck
   rw [<- hev] at hloop
   simp only [fpart,part',Try.f20,Option.getD] at hloop ⊢
   simp (maxSteps:=5000000) only [SA,SB,SD,R,SF,SG,SH,seval,TG,SE,SC,UTT,ZCT,RV,dynR,hfn,nchP,List.getElem?_concat_length,ss1,List.set_cons_zero,List.set_cons_succ,Bool.not_not,strP_eql,strP_neq,hln,hck,hsi,c1]
   generalize hE:ev _ _=z
   obtain ⟨e',ex,ps',he,hkp,g5,hp'⟩:=PSi.of hE (hloop _ _ (by simp (maxSteps:=5000000) only [SA,SB,SD,R,SF,seval] <;> rfl) (by simp (maxSteps:=5000000) only [SA,SB,SD,R,SF,seval] <;> rfl) (by simp (maxSteps:=5000000) only [SA,SB,SD,R,SF,seval] <;> rfl) (by simp (maxSteps:=5000000) only [SA,SB,SD,R,SF,seval] <;> rfl) (by simp (maxSteps:=5000000) only [SA,SB,SD,R,SF,seval] <;> rfl) rfl)
   subst he
   refine ⟨ps',hp',?_⟩
   simp (maxSteps:=5000000) only [SA,SB,SD,R,SF,SG,SH,seval,TG,SE,SC,UTT,ZCT,RV,dynR,hfn,nchP,List.getElem?_concat_length,ss1,List.set_cons_zero,List.set_cons_succ,Bool.not_not,strP_eql,strP_neq,g5]
   exact ⟨_,rfl⟩
 · have c1:(c != 0)=true:=by simpa using c0
   refine ⟨[],Nat.zero_le _,?_⟩
   unfold pts
   rw [List.map_nil]
   obtain ⟨ev,eo,so,co,⟨hev,hco⟩,R⟩:=RULES CC;rw [<- hev]
   rw [<- hco] at hck
   simp only [fpart,part',Try.f20,Option.getD]
   simp (maxSteps:=5000000) only [SA,SB,SD,R,SF,SG,SH,seval,TG,SE,SC,UTT,ZCT,RV,dynR,hfn,nchP,List.getElem?_concat_length,ss1,List.set_cons_zero,List.set_cons_succ,Bool.not_not,strP_eql,strP_neq,hln,hck,hsi,c1]
   exact ⟨_,rfl⟩
theorem op_Send (l:List Up) (hl:l.length<=10000) (f:Fw):∃ ps:List (Int×Int),ps.length<=l.length∧∀ bx,callOp CC (callL CC) 20 [.sl (ups l),fwV f] bx=some (.ret (.sl (pts ps)),bx):=by
 obtain ⟨ps,h1,bx',h2⟩:=call_Send l hl f
 exact ⟨ps,h1,fun bx=>callOp_of rfl (by simp only [SA,ups_pure,fwV_pure,Bool.and_true]) h2 (by show pureL (pts ps)=true;exact pts_pure ps)⟩
end Go.HH
namespace Go.HH
open Go Go.Proofs
set_option maxRecDepth 100000
set_option maxHeartbeats 4000000
set_option linter.unusedSimpArgs false
set_option linter.unusedVariables false
theorem no_us:drawOK CC (opsOf (fpart Try.f7 [1,1,1,0,1,0,1,1,1,0,1,0,1,0,0,1,0,0,1,0,0,1,0,0,1,1,1]))=false:=by kernel_rfl
theorem back_us:backB (opsOf (fpart Try.f7 [1,1,1,0,1,0,1,1,1,0,1,0,1,0,0,1,0,0,1,0,0,1,0,0,1,1,1]))=true:=by kernel_rfl
theorem size_us:(opsOf (fpart Try.f7 [1,1,1,0,1,0,1,1,1,0,1,0,1,0,0,1,0,0,1,0,0,1,0,0,1,1,1])).size=10:=by kernel_rfl
def usL (cur cur2:List Up) (f:Fw) (ps:List (Int×Int)) (i:Nat) (a b:Int) (v:PV):List (Nat×Nat×PV):=[(0,94,.sl (ups cur)),(1,95,fwV f),(2,96,.sl (pts ps)),(3,97,.int .i64 (i:Nat)),(4,98,.ip [.int .i64 a,.int .i64 b]),(5,99,.ip [.int .i64 a,.int .i64 b]),(6,100,.int .i64 a),(7,101,v),(8,102,.sl (ups cur2))]
theorem usL_pw (cur cur2:List Up) (f:Fw) (ps:List (Int×Int)) (i:Nat) (a b:Int) (v:PV):(usL cur cur2 f ps i a b v).Pairwise (fun x y=>x.1≠y.1∧x.2.1≠y.2.1):=by unfold usL;simp
theorem setsD_nolast (e:List PV) (D:Nat->Bool) (j d:Nat) (v:PV) (L:List (Nat×Nat×PV)) (h:D j=false):setsD e D ((j,d,v) :: L)=setsD e D L:=by
 show (if D j then _ else _)=_
 rw [h];rfl
theorem setsD_last (e:List PV) (D:Nat->Bool) (j d:Nat) (v:PV) (L:List (Nat×Nat×PV)) (h:D j=true):setsD e D ((j,d,v) :: L)=setT (setsD e D L) d v:=by
 show (if D j then _ else _)=_
 rw [h];rfl
def PUs (cur:List Up) (B:List PBox) (e:List PV) (res:Option (Ex×St)):Prop:=∃ e' cur2,MvR cur cur2∧res=some (.normal,⟨e',B⟩)∧getT e' 0=.sl (ups cur2)∧∀ t,t≠0->t < 94->getT e' t=getT e t
theorem PUs.of {dr:Array Oper->St->Option (Ex×St)} {O:Array Oper} {st:St} {cur:List Up} {B:List PBox} {e:List PV} {z:Option (Ex×St)} (hE:dr O st=z) (h:PUs cur B e (dr O st)):PUs cur B e z:=hE ▸ h
theorem draw_us {cur:List Up} {f:Fw} {ps:List (Int×Int)} {i:Nat} {a b:Int} {v:PV} {h:List Bool} (B:List PBox) (e:List PV) (hne:cur≠[]) (hl:cur.length<=1000000) (hh:∀ u ∈ cur,u.hv.length<=1000000) (hr:RowB v h B) (hu:B.all (·.under B.length)=true)
 (hp:ps[i]?=some (a,b)) (hb:B[0]?=some (.cells 28 [.int .i64 f.vn,.int .i64 f.vr,.sl (ints f.sums)])) (h0:getT e 0=.sl (ups cur)) (h5:getT e 5=.bp 0 0) (h10:getT e 10=.sl (pts ps)) (h11:getT e 11=.int .i64 (i:Nat)) (h13:getT e 13=v) :
 PUs cur B e (drawAll CC (callL CC) (opsOf (fpart Try.f7 [1,1,1,0,1,0,1,1,1,0,1,0,1,0,0,1,0,0,1,0,0,1,0,0,1,1,1])) ⟨e,B⟩):=by
 have hvs:v.shutV=v:=by rcases hr with rfl | ⟨_,rfl,_⟩ <;> rfl
 have hvr:v.ro=v:=by rcases hr with rfl | ⟨_,rfl,_⟩ <;> rfl
 have hvm:∀ b t d al,mvAl b v t d al=killT al d:=by rcases hr with rfl | ⟨_,rfl,_⟩ <;> intro b t d al <;> cases d <;> rfl
 obtain ⟨cur2,hmv,hhv⟩:=op_Have cur hne hl hh f a v h B hr hu
 have hpx:(pts ps)[i]?=some (.agg [.int .i64 a,.int .i64 b]):=map_get (f:=fun p:Int×Int=>PV.agg [.int .i64 p.1,.int .i64 p.2]) hp
 have hi0:¬ ((i:Int) < 0):=by omega
 have h9f:∀ D:Nat->Bool,(∀ j o,(opsOf (fpart Try.f7 [1,1,1,0,1,0,1,1,1,0,1,0,1,0,0,1,0,0,1,0,0,1,0,0,1,1,1]))[j]?=some o->D j=true->∀ e ∈ o.after.toList,Region.binds .any e=true->D e.on=true)->∀ j,j < 9->D j=false->D 9=false:=by
  intro D hcl j hj hD
  cases h:D 9 with
  | false=>rfl
  | true=>
   have hx:∃ o,(opsOf (fpart Try.f7 [1,1,1,0,1,0,1,1,1,0,1,0,1,0,0,1,0,0,1,0,0,1,0,0,1,1,1]))[9]?=some o∧∀ j,j < 9->(⟨j,.phase⟩:Edge) ∈ o.after.toList:=⟨_,by simp only [opsOf,fpart,part',Try.f7,Option.getD,List.getElem?_toArray,List.getElem?_cons_succ,List.getElem?_cons_zero];rfl,fun j hj=>by
    have:j=0∨j=1∨j=2∨j=3∨j=4∨j=5∨j=6∨j=7∨j=8:=by omega
    rcases this with rfl | rfl | rfl | rfl | rfl | rfl | rfl | rfl | rfl <;> simp⟩
   obtain ⟨o,ho,hm⟩:=hx
   have:=hcl 9 o ho h _ (hm j hj) rfl
   rw [hD] at this
   cases this
 refine ⟨_,cur2,hmv,drawAll_states (e0:=e) (L:=(9,0,.sl (ups cur2)) :: usL cur cur2 f ps i a b v) (bxOf:=fun _=>B) (orders_all _) (orders_ne back_us) (fun D oo op hop hD hdep hcl=>?_) (by unfold usL;simp [setsD]) (r:=⟨setsD e (fun _=>true) ((9,0,.sl (ups cur2)) :: usL cur cur2 f ps i a b v),B⟩) (fun D hD=>?_),?_,?_⟩
 · have hj:oo < 10:=by
    have:=(Array.getElem?_eq_some_iff.1 hop).1
    rw [size_us] at this
    exact this
   have hpw:=usL_pw cur cur2 f ps i a b v
   have z0:getT (setsD e D (usL cur cur2 f ps i a b v)) 0=.sl (ups cur):=by rw [getT_off e D 0 _ (by unfold usL;simp)];exact h0
   have z5:getT (setsD e D (usL cur cur2 f ps i a b v)) 5=.bp 0 0:=by rw [getT_off e D 5 _ (by unfold usL;simp)];exact h5
   have z10:getT (setsD e D (usL cur cur2 f ps i a b v)) 10=.sl (pts ps):=by rw [getT_off e D 10 _ (by unfold usL;simp)];exact h10
   have z11:getT (setsD e D (usL cur cur2 f ps i a b v)) 11=.int .i64 (i:Nat):=by rw [getT_off e D 11 _ (by unfold usL;simp)];exact h11
   have z13:getT (setsD e D (usL cur cur2 f ps i a b v)) 13=v:=by rw [getT_off e D 13 _ (by unfold usL;simp)];exact h13
   by_cases e0:oo=0
   · subst e0
     have h9:=h9f D hcl 0 (by decide) hD
     simp only [opsOf,fpart,part',Try.f7,Option.getD,List.getElem?_toArray,List.getElem?_cons_succ,List.getElem?_cons_zero] at hop
     injection hop with hop
     subst hop
     refine ⟨rfl,fun al=>?_⟩
     rw [setsD_nolast e D 9 0 _ _ h9,setsD_nolast e (addD D 0) 9 0 _ _ (by rw [addD_ne (by decide)];exact h9)]
     rw [<- setsD_add e D 0 94 (.sl (ups cur)) hD _ (by unfold usL;simp) hpw]
     generalize setsD e D (usL cur cur2 f ps i a b v)=E at *
     have hsp:=ups_pure cur
     have hfp:=fwV_pure f
     have hpn:v.pure=false∨v.pure=true:=by cases v.pure <;> simp
     unfold fwV at *
     generalize ups cur=xs at *
     generalize ups cur2=xs2 at *
     generalize pts ps=ys at *
     generalize ints f.sums=zs at *
     obtain ⟨ev,eo,so,co,⟨hev,hco,heo,hso⟩,R⟩:=RULES0 CC
     rw [<- hco] at hhv
     rw [<- hso]
     simp (maxSteps:=5000000) only [SA,SB,SD,R,SF,SG,SH,seval,TG,SE,SC,UTT,ZCT,RV,dynR,nchP,List.getElem?_concat_length,ss1,List.set_cons_zero,List.set_cons_succ,Bool.not_not,strP_eql,strP_neq,z0,z5,z10,z11,z13,hvs,hvr,hvm,hi0]
     exact ⟨_,rfl⟩
   by_cases e1:oo=1
   · subst e1
     have h9:=h9f D hcl 1 (by decide) hD
     simp only [opsOf,fpart,part',Try.f7,Option.getD,List.getElem?_toArray,List.getElem?_cons_succ,List.getElem?_cons_zero] at hop
     injection hop with hop
     subst hop
     refine ⟨rfl,fun al=>?_⟩
     rw [setsD_nolast e D 9 0 _ _ h9,setsD_nolast e (addD D 1) 9 0 _ _ (by rw [addD_ne (by decide)];exact h9)]
     rw [<- setsD_add e D 1 95 (fwV f) hD _ (by unfold usL;simp) hpw]
     generalize setsD e D (usL cur cur2 f ps i a b v)=E at *
     have hsp:=ups_pure cur
     have hfp:=fwV_pure f
     have hpn:v.pure=false∨v.pure=true:=by cases v.pure <;> simp
     unfold fwV at *
     generalize ups cur=xs at *
     generalize ups cur2=xs2 at *
     generalize pts ps=ys at *
     generalize ints f.sums=zs at *
     obtain ⟨ev,eo,so,co,⟨hev,hco,heo,hso⟩,R⟩:=RULES0 CC
     rw [<- hco] at hhv
     rw [<- hso]
     simp (maxSteps:=5000000) only [SA,SB,SD,R,SF,SG,SH,seval,TG,SE,SC,UTT,ZCT,RV,dynR,nchP,List.getElem?_concat_length,ss1,List.set_cons_zero,List.set_cons_succ,Bool.not_not,strP_eql,strP_neq,z0,z5,z10,z11,z13,hvs,hvr,hvm,hi0,hb]
     exact ⟨_,rfl⟩
   by_cases e2:oo=2
   · subst e2
     have h9:=h9f D hcl 2 (by decide) hD
     simp only [opsOf,fpart,part',Try.f7,Option.getD,List.getElem?_toArray,List.getElem?_cons_succ,List.getElem?_cons_zero] at hop
     injection hop with hop
     subst hop
     refine ⟨rfl,fun al=>?_⟩
     rw [setsD_nolast e D 9 0 _ _ h9,setsD_nolast e (addD D 2) 9 0 _ _ (by rw [addD_ne (by decide)];exact h9)]
     rw [<- setsD_add e D 2 96 (.sl (pts ps)) hD _ (by unfold usL;simp) hpw]
     generalize setsD e D (usL cur cur2 f ps i a b v)=E at *
     have hsp:=ups_pure cur
     have hfp:=fwV_pure f
     have hpn:v.pure=false∨v.pure=true:=by cases v.pure <;> simp
     unfold fwV at *
     generalize ups cur=xs at *
     generalize ups cur2=xs2 at *
     generalize pts ps=ys at *
     generalize ints f.sums=zs at *
     obtain ⟨ev,eo,so,co,⟨hev,hco,heo,hso⟩,R⟩:=RULES0 CC
     rw [<- hco] at hhv
     rw [<- hso]
     simp (maxSteps:=5000000) only [SA,SB,SD,R,SF,SG,SH,seval,TG,SE,SC,UTT,ZCT,RV,dynR,nchP,List.getElem?_concat_length,ss1,List.set_cons_zero,List.set_cons_succ,Bool.not_not,strP_eql,strP_neq,z0,z5,z10,z11,z13,hvs,hvr,hvm,hi0]
     exact ⟨_,rfl⟩
   by_cases e3:oo=3
   · subst e3
     have h9:=h9f D hcl 3 (by decide) hD
     simp only [opsOf,fpart,part',Try.f7,Option.getD,List.getElem?_toArray,List.getElem?_cons_succ,List.getElem?_cons_zero] at hop
     injection hop with hop
     subst hop
     refine ⟨rfl,fun al=>?_⟩
     rw [setsD_nolast e D 9 0 _ _ h9,setsD_nolast e (addD D 3) 9 0 _ _ (by rw [addD_ne (by decide)];exact h9)]
     rw [<- setsD_add e D 3 97 (.int .i64 (i:Nat)) hD _ (by unfold usL;simp) hpw]
     generalize setsD e D (usL cur cur2 f ps i a b v)=E at *
     have hsp:=ups_pure cur
     have hfp:=fwV_pure f
     have hpn:v.pure=false∨v.pure=true:=by cases v.pure <;> simp
     unfold fwV at *
     generalize ups cur=xs at *
     generalize ups cur2=xs2 at *
     generalize pts ps=ys at *
     generalize ints f.sums=zs at *
     obtain ⟨ev,eo,so,co,⟨hev,hco,heo,hso⟩,R⟩:=RULES0 CC
     rw [<- hco] at hhv
     rw [<- hso]
     simp (maxSteps:=5000000) only [SA,SB,SD,R,SF,SG,SH,seval,TG,SE,SC,UTT,ZCT,RV,dynR,nchP,List.getElem?_concat_length,ss1,List.set_cons_zero,List.set_cons_succ,Bool.not_not,strP_eql,strP_neq,z0,z5,z10,z11,z13,hvs,hvr,hvm,hi0]
     exact ⟨_,rfl⟩
   by_cases e4:oo=4
   · subst e4
     have h9:=h9f D hcl 4 (by decide) hD
     simp only [opsOf,fpart,part',Try.f7,Option.getD,List.getElem?_toArray,List.getElem?_cons_succ,List.getElem?_cons_zero] at hop
     injection hop with hop
     subst hop
     refine ⟨rfl,fun al=>?_⟩
     have d2:D 2=true:=hdep ⟨2,.data⟩ (by simp) rfl
     have z96:getT (setsD e D (usL cur cur2 f ps i a b v)) 96=.sl (pts ps):=getT_on e D 2 96 _ d2 _ (by unfold usL;simp) hpw
     have d3:D 3=true:=hdep ⟨3,.data⟩ (by simp) rfl
     have z97:getT (setsD e D (usL cur cur2 f ps i a b v)) 97=.int .i64 (i:Nat):=getT_on e D 3 97 _ d3 _ (by unfold usL;simp) hpw
     rw [setsD_nolast e D 9 0 _ _ h9,setsD_nolast e (addD D 4) 9 0 _ _ (by rw [addD_ne (by decide)];exact h9)]
     rw [<- setsD_add e D 4 98 (.ip [.int .i64 a,.int .i64 b]) hD _ (by unfold usL;simp) hpw]
     generalize setsD e D (usL cur cur2 f ps i a b v)=E at *
     have hsp:=ups_pure cur
     have hfp:=fwV_pure f
     have hpn:v.pure=false∨v.pure=true:=by cases v.pure <;> simp
     unfold fwV at *
     generalize ups cur=xs at *
     generalize ups cur2=xs2 at *
     generalize pts ps=ys at *
     generalize ints f.sums=zs at *
     obtain ⟨ev,eo,so,co,⟨hev,hco,heo,hso⟩,R⟩:=RULES0 CC
     rw [<- hco] at hhv
     rw [<- hso]
     simp (maxSteps:=5000000) only [SA,SB,SD,R,SF,SG,SH,seval,TG,SE,SC,UTT,ZCT,RV,dynR,nchP,List.getElem?_concat_length,ss1,List.set_cons_zero,List.set_cons_succ,Bool.not_not,strP_eql,strP_neq,z0,z5,z10,z11,z13,z96,z97,hvs,hvr,hvm,hi0,hpx]
     exact ⟨_,rfl⟩
   by_cases e5:oo=5
   · subst e5
     have h9:=h9f D hcl 5 (by decide) hD
     simp only [opsOf,fpart,part',Try.f7,Option.getD,List.getElem?_toArray,List.getElem?_cons_succ,List.getElem?_cons_zero] at hop
     injection hop with hop
     subst hop
     refine ⟨rfl,fun al=>?_⟩
     have d4:D 4=true:=hdep ⟨4,.data⟩ (by simp) rfl
     have z98:getT (setsD e D (usL cur cur2 f ps i a b v)) 98=.ip [.int .i64 a,.int .i64 b]:=getT_on e D 4 98 _ d4 _ (by unfold usL;simp) hpw
     rw [setsD_nolast e D 9 0 _ _ h9,setsD_nolast e (addD D 5) 9 0 _ _ (by rw [addD_ne (by decide)];exact h9)]
     rw [<- setsD_add e D 5 99 (.ip [.int .i64 a,.int .i64 b]) hD _ (by unfold usL;simp) hpw]
     generalize setsD e D (usL cur cur2 f ps i a b v)=E at *
     have hsp:=ups_pure cur
     have hfp:=fwV_pure f
     have hpn:v.pure=false∨v.pure=true:=by cases v.pure <;> simp
     unfold fwV at *
     generalize ups cur=xs at *
     generalize ups cur2=xs2 at *
     generalize pts ps=ys at *
     generalize ints f.sums=zs at *
     obtain ⟨ev,eo,so,co,⟨hev,hco,heo,hso⟩,R⟩:=RULES0 CC
     rw [<- hco] at hhv
     rw [<- hso]
     simp (maxSteps:=5000000) only [SA,SB,SD,R,SF,SG,SH,seval,TG,SE,SC,UTT,ZCT,RV,dynR,nchP,List.getElem?_concat_length,ss1,List.set_cons_zero,List.set_cons_succ,Bool.not_not,strP_eql,strP_neq,z0,z5,z10,z11,z13,z98,hvs,hvr,hvm,hi0]
     exact ⟨_,rfl⟩
   by_cases e6:oo=6
   · subst e6
     have h9:=h9f D hcl 6 (by decide) hD
     simp only [opsOf,fpart,part',Try.f7,Option.getD,List.getElem?_toArray,List.getElem?_cons_succ,List.getElem?_cons_zero] at hop
     injection hop with hop
     subst hop
     refine ⟨rfl,fun al=>?_⟩
     have d5:D 5=true:=hdep ⟨5,.data⟩ (by simp) rfl
     have z99:getT (setsD e D (usL cur cur2 f ps i a b v)) 99=.ip [.int .i64 a,.int .i64 b]:=getT_on e D 5 99 _ d5 _ (by unfold usL;simp) hpw
     rw [setsD_nolast e D 9 0 _ _ h9,setsD_nolast e (addD D 6) 9 0 _ _ (by rw [addD_ne (by decide)];exact h9)]
     rw [<- setsD_add e D 6 100 (.int .i64 a) hD _ (by unfold usL;simp) hpw]
     generalize setsD e D (usL cur cur2 f ps i a b v)=E at *
     have hsp:=ups_pure cur
     have hfp:=fwV_pure f
     have hpn:v.pure=false∨v.pure=true:=by cases v.pure <;> simp
     unfold fwV at *
     generalize ups cur=xs at *
     generalize ups cur2=xs2 at *
     generalize pts ps=ys at *
     generalize ints f.sums=zs at *
     obtain ⟨ev,eo,so,co,⟨hev,hco,heo,hso⟩,R⟩:=RULES0 CC
     rw [<- hco] at hhv
     rw [<- hso]
     simp (maxSteps:=5000000) only [SA,SB,SD,R,SF,SG,SH,seval,TG,SE,SC,UTT,ZCT,RV,dynR,nchP,List.getElem?_concat_length,ss1,List.set_cons_zero,List.set_cons_succ,Bool.not_not,strP_eql,strP_neq,z0,z5,z10,z11,z13,z99,hvs,hvr,hvm,hi0]
     exact ⟨_,rfl⟩
   by_cases e7:oo=7
   · subst e7
     have h9:=h9f D hcl 7 (by decide) hD
     simp only [opsOf,fpart,part',Try.f7,Option.getD,List.getElem?_toArray,List.getElem?_cons_succ,List.getElem?_cons_zero] at hop
     injection hop with hop
     subst hop
     refine ⟨rfl,fun al=>?_⟩
     rw [setsD_nolast e D 9 0 _ _ h9,setsD_nolast e (addD D 7) 9 0 _ _ (by rw [addD_ne (by decide)];exact h9)]
     rw [<- setsD_add e D 7 101 (v) hD _ (by unfold usL;simp) hpw]
     generalize setsD e D (usL cur cur2 f ps i a b v)=E at *
     have hsp:=ups_pure cur
     have hfp:=fwV_pure f
     have hpn:v.pure=false∨v.pure=true:=by cases v.pure <;> simp
     unfold fwV at *
     generalize ups cur=xs at *
     generalize ups cur2=xs2 at *
     generalize pts ps=ys at *
     generalize ints f.sums=zs at *
     obtain ⟨ev,eo,so,co,⟨hev,hco,heo,hso⟩,R⟩:=RULES0 CC
     rw [<- hco] at hhv
     rw [<- hso]
     simp (maxSteps:=5000000) only [SA,SB,SD,R,SF,SG,SH,seval,TG,SE,SC,UTT,ZCT,RV,dynR,nchP,List.getElem?_concat_length,ss1,List.set_cons_zero,List.set_cons_succ,Bool.not_not,strP_eql,strP_neq,z0,z5,z10,z11,z13,hvs,hvr,hvm,hi0]
     exact ⟨_,rfl⟩
   by_cases e8:oo=8
   · subst e8
     have h9:=h9f D hcl 8 (by decide) hD
     simp only [opsOf,fpart,part',Try.f7,Option.getD,List.getElem?_toArray,List.getElem?_cons_succ,List.getElem?_cons_zero] at hop
     injection hop with hop
     subst hop
     refine ⟨rfl,fun al=>?_⟩
     have d0:D 0=true:=hdep ⟨0,.data⟩ (by simp) rfl
     have z94:getT (setsD e D (usL cur cur2 f ps i a b v)) 94=.sl (ups cur):=getT_on e D 0 94 _ d0 _ (by unfold usL;simp) hpw
     have d1:D 1=true:=hdep ⟨1,.data⟩ (by simp) rfl
     have z95:getT (setsD e D (usL cur cur2 f ps i a b v)) 95=fwV f:=getT_on e D 1 95 _ d1 _ (by unfold usL;simp) hpw
     have d6:D 6=true:=hdep ⟨6,.data⟩ (by simp) rfl
     have z100:getT (setsD e D (usL cur cur2 f ps i a b v)) 100=.int .i64 a:=getT_on e D 6 100 _ d6 _ (by unfold usL;simp) hpw
     have d7:D 7=true:=hdep ⟨7,.data⟩ (by simp) rfl
     have z101:getT (setsD e D (usL cur cur2 f ps i a b v)) 101=v:=getT_on e D 7 101 _ d7 _ (by unfold usL;simp) hpw
     rw [setsD_nolast e D 9 0 _ _ h9,setsD_nolast e (addD D 8) 9 0 _ _ (by rw [addD_ne (by decide)];exact h9)]
     rw [<- setsD_add e D 8 102 (.sl (ups cur2)) hD _ (by unfold usL;simp) hpw]
     generalize setsD e D (usL cur cur2 f ps i a b v)=E at *
     have hsp:=ups_pure cur
     have hfp:=fwV_pure f
     have hpn:v.pure=false∨v.pure=true:=by cases v.pure <;> simp
     unfold fwV at *
     generalize ups cur=xs at *
     generalize ups cur2=xs2 at *
     generalize pts ps=ys at *
     generalize ints f.sums=zs at *
     obtain ⟨ev,eo,so,co,⟨hev,hco,heo,hso⟩,R⟩:=RULES0 CC
     rw [<- hco] at hhv
     rw [<- hso]
     simp (maxSteps:=5000000) only [SA,SB,SD,R,SF,SG,SH,seval,TG,SE,SC,UTT,ZCT,RV,dynR,nchP,List.getElem?_concat_length,ss1,List.set_cons_zero,List.set_cons_succ,Bool.not_not,strP_eql,strP_neq,z0,z5,z10,z11,z13,z94,z95,z100,z101,hvs,hvr,hvm,hi0,hhv]
     exact ⟨_,rfl⟩
   by_cases e9:oo=9
   · subst e9
     simp only [opsOf,fpart,part',Try.f7,Option.getD,List.getElem?_toArray,List.getElem?_cons_succ,List.getElem?_cons_zero] at hop
     injection hop with hop
     subst hop
     refine ⟨rfl,fun al=>?_⟩
     have d8:D 8=true:=hdep ⟨8,.data⟩ (by simp) rfl
     have z102:getT (setsD e D (usL cur cur2 f ps i a b v)) 102=.sl (ups cur2):=getT_on e D 8 102 _ d8 _ (by unfold usL;simp) hpw
     rw [setsD_nolast e D 9 0 _ _ hD,setsD_last e (addD D 9) 9 0 _ _ addD_self,setsD_skip e D 9 _ (by unfold usL;simp)]
     generalize setsD e D (usL cur cur2 f ps i a b v)=E at *
     have hsp:=ups_pure cur
     have hfp:=fwV_pure f
     have hpn:v.pure=false∨v.pure=true:=by cases v.pure <;> simp
     unfold fwV at *
     generalize ups cur=xs at *
     generalize ups cur2=xs2 at *
     generalize pts ps=ys at *
     generalize ints f.sums=zs at *
     obtain ⟨ev,eo,so,co,⟨hev,hco,heo,hso⟩,R⟩:=RULES0 CC
     rw [<- hco] at hhv
     rw [<- hso]
     simp (maxSteps:=5000000) only [SA,SB,SD,R,SF,SG,SH,seval,TG,SE,SC,UTT,ZCT,RV,dynR,nchP,List.getElem?_concat_length,ss1,List.set_cons_zero,List.set_cons_succ,Bool.not_not,strP_eql,strP_neq,z0,z5,z10,z11,z13,z102,hvs,hvr,hvm,hi0]
     exact ⟨_,rfl⟩
   omega
 · have hsz:=size_us
   have hd:∀ j,j < 10->D j=true:=fun j hj=>hD j (by rw [hsz];exact hj)
   unfold usL
   simp only [setsD,hd 0 (by decide),hd 1 (by decide),hd 2 (by decide),hd 3 (by decide),hd 4 (by decide),hd 5 (by decide),hd 6 (by decide),hd 7 (by decide),hd 8 (by decide),hd 9 (by decide),if_true]
 · rw [setsD_last _ _ _ _ _ _ rfl,getT_setT,if_pos rfl]
 · intro t ht h94
   rw [setsD_last _ _ _ _ _ _ rfl,getT_setT,if_neg (by omega)]
   exact getT_off e _ t _ (by unfold usL;simp;omega)
end Go.HH
namespace Go.HH
open Go Go.Proofs
set_option maxRecDepth 100000
set_option maxHeartbeats 4000000
set_option linter.unusedSimpArgs false
set_option linter.unusedVariables false
theorem okB_Overdue:fnOKB CC Try.f21 (Try.f21.body.getD .skip)=true:=by kernel_rfl
theorem noB_Overdue:fnOK CC Try.f21 (Try.f21.body.getD .skip)=false:=by kernel_rfl
theorem fat_Overdue:CC.P.funcs[21]?=some Try.f21:=by kernel_rfl
theorem evB_at {L:Code} (b:Code) (h:L=.loop b) (st:St):evB CC L st=thenE (evB CC b st) (evB CC L):=by
 subst h
 exact evLB_loop true b st
theorem ok_ov1:drawOK CC (opsOf (fpart Try.f21 [1,1,0,1,0,0,1,1,0,0,1,0]))=true:=by kernel_rfl
theorem MvR.set2 {l cur:List Up} {i:Nat} {x u2:Up} (h:MvR l cur) (hx:cur[i]?=some x) (h0:x.st≠0) (h4:x.st≠4) (h5:x.st≠5) (h1:u2.st≠0) (hv:u2.st=5->u2.vr=u2.pv) (hh:u2.hv=x.hv):MvR l (cur.set i u2):=by
 refine ⟨by rw [List.length_set];exact h.1,fun j u hu=>?_⟩
 obtain ⟨u',hu',hr⟩:=h.2 j u hu
 by_cases e:i=j
 · subst e
   rw [hx] at hu'
   injection hu' with hu'
   subst hu'
   refine ⟨u2,List.getElem?_set_self (List.getElem?_eq_some_iff.1 hx).1,.inr ?_⟩
   rcases hr with rfl | ⟨q0,q4,q5,_,_,q6⟩
   · exact ⟨h0,h4,h5,h1,hv,.inl hh⟩
   · refine ⟨q0,q4,q5,h1,hv,?_⟩
     unfold hvOK at *
     rw [hh]
     exact q6
 · exact ⟨u',by rw [List.getElem?_set_ne e];exact hu',hr⟩
def POv (l:List Up) (res:Option (Ex×St)):Prop:=∃ e' bx' cur,res=some (.exit 0,⟨e',bx'⟩)∧getT e' 5=.rs 0 cur.length∧bx'[0]?=some (.cells 41 (ucells cur))∧MvR l cur
theorem POv.of {ev:Code->St->Option (Ex×St)} {L:Code} {e:List PV} {l:List Up} {bx1:List PBox} {z:Option (Ex×St)} (hE:ev L ⟨e,bx1⟩=z) (h:POv l (ev L ⟨e,bx1⟩)):POv l z:=hE ▸ h
def PNk (B:List PBox) (e:List PV) (res:Option (Ex×St)):Prop:=∃ e',res=some (.normal,⟨e',B⟩)∧∀ t,t < 29->getT e' t=getT e t
theorem PNk.of {dr:Array Oper->St->Option (Ex×St)} {O:Array Oper} {st:St} {B:List PBox} {e:List PV} {z:Option (Ex×St)} (hE:dr O st=z) (h:PNk B e (dr O st)):PNk B e z:=hE ▸ h
theorem loop_Ov (L:Code) (hL:L=fpart Try.f21 [1,1,0,1,0]) (l:List Up) (hl:l.length<=1000000) (t:Int):∀ (k i:Nat) (cur:List Up) (e:List PV) (bx:List PBox),i+k=l.length->MvR l cur ->
 getT e 1=.int .i64 t->getT e 5=.rs 0 cur.length->getT e 10=.rs 0 cur.length->getT e 11=.int .i64 cur.length->getT e 12=.int .i64 i->bx[0]?=some (.cells 41 (ucells cur))->POv l (evB CC L ⟨e,bx⟩):=by
 intro k
 induction k with
 | zero=>
  intro i cur e bx hk hs h1 h5 h10 h11 h12 hb
  rw [evB_at (fpart Try.f21 [1,1,0,1,0,0]) hL]
  have hi:¬ ((i:Int) < (cur.length:Int)):=by have:=hs.1;omega
  obtain ⟨fa,fb,fv,hfn⟩:=FNs
  obtain ⟨dr,ev,eo,so,co,⟨hev,hco,heo,hdr⟩,R⟩:=RULESB CC
  rw [<- hev]
  simp only [fpart,part',Try.f21,Option.getD]
  simp (maxSteps:=5000000) only [SA,SB,SD,R,SF,SG,SH,seval,TG,SE,SC,UTT,ZCT,RV,dynR,hfn,nchP,List.getElem?_concat_length,ss1,List.set_cons_zero,List.set_cons_succ,Bool.not_not,strP_eql,strP_neq,h1,h5,h10,h11,h12,hi]
  exact ⟨_,_,cur,rfl,by simp (maxSteps:=5000000) only [SA,SB,SD,R,SF,seval,h5],hb,hs⟩
 | succ k ih=>
  intro i cur e bx hk hs h1 h5 h10 h11 h12 hb
  rw [evB_at (fpart Try.f21 [1,1,0,1,0,0]) hL]
  have hcl:=hs.1
  have hi:((i:Int) < (cur.length:Int)):=by omega
  have hil:i < cur.length:=by omega
  have hi0:¬ ((i:Int) < 0):=by omega
  have hw:=wrap_i64 (n:=(i:Int)+1) ⟨by omega,by omega⟩
  have key:=fun cur e bx=>ih (i+1) cur e bx (by omega)
  have cast1:((i+1:Nat):Int)=(i:Int)+1:=by omega
  rw [cast1] at key
  have hx:cur[i]?=some (cur[i]'(by omega)):=List.getElem?_eq_getElem (by omega)
  generalize cur[i]'(by omega)=x at *
  obtain ⟨rest,d0,d00,d1,d2,d3,d4,d5⟩:=uc_rd hx
  have h6:=len6 rest
  have hl1:=op_limit t
  have hl2:=op_limit x.sn
  have hbl:bx.length≠0:=fun h=>by rw [List.eq_nil_of_length_eq_zero h] at hb;cases hb
  have hb1:=get_app hb
  have hd:∀ e,getT e 5=.rs 0 cur.length->getT e 6=.int .i64 (i:Nat)->getT e 7=.bp bx.length 0->PNk ((bx++[PBox.cells 41 (upC x)]).set 0 (.cells 41 (ucells (cur.set i ⟨x.dv,5,x.pv,x.pv,x.sn,x.hv⟩)))) e (drawAll CC (callL CC) (opsOf (fpart Try.f21 [1,1,0,1,0,0,1,1,0,0,1,1,0])) ⟨e,bx++[.cells 41 (upC x)]⟩):=fun e g5 g6 g7=>draw_ov _ e hx (hb1 _) hbl List.getElem?_concat_length hi g5 g6 g7
  simp only [<- drawM_all no_ov] at hd
  have hd1:=fun st=>drawM_calm (call:=callL CC) (st:=st) ok_ov1
  have hset:x.st=3->MvR l (cur.set i ⟨x.dv,5,x.pv,x.pv,x.sn,x.hv⟩):=fun h=>hs.set2 hx (by rw [h];decide) (by rw [h];decide) (by rw [h];decide) (by simp) (by simp) rfl
  have hg0:((bx++[PBox.cells 41 (upC x)]).set 0 (.cells 41 (ucells (cur.set i ⟨x.dv,5,x.pv,x.pv,x.sn,x.hv⟩))))[0]?=some (.cells 41 (ucells (cur.set i ⟨x.dv,5,x.pv,x.pv,x.sn,x.hv⟩))):=List.getElem?_set_self (List.getElem?_eq_some_iff.1 (hb1 _)).1
  have hlen2:(cur.set i ⟨x.dv,5,x.pv,x.pv,x.sn,x.hv⟩).length=cur.length:=List.length_set
  have key1:=key cur
  have key2:=key (cur.set i ⟨x.dv,5,x.pv,x.pv,x.sn,x.hv⟩)
  rw [hlen2] at key2
  clear ih key
  generalize cur.set i ⟨x.dv,5,x.pv,x.pv,x.sn,x.hv⟩=cur2 at *
  obtain ⟨fa,fb,fv,hfn⟩:=FNs
  obtain ⟨dv,st,vr,pv,sn,hv⟩:=x
  unfold upC at *
  simp only at *
  generalize bos hv=ys at *
  generalize ucells cur=cs at *
  generalize ucells cur2=cs2 at *
  generalize lim t=lt at *
  generalize lim sn=ls at *
  by_cases s0:st=3
  · have s1:(st == 3)=true:=by simp [s0]
    by_cases c:IntKind.wrap .i64 (lt - ls) > 1200
    · skip
      obtain ⟨dr,ev,eo,so,co,⟨hev,hco,heo,hdr⟩,R⟩:=RULESB CC
      rw [<- hev]
      rw [<- hdr,<- heo] at hd1
      rw [<- hco] at hl1 hl2
      rw [<- hdr] at hd
      rw [<- hev] at key2
      simp only [opsOf,fpart,part',Try.f21,Option.getD] at⊢hd1 hd
      simp (maxSteps:=5000000) only [SA,SB,SD,R,SF,SG,seval,TG,SE,SC,UTT,ZCT,RV,dynR,hfn,nchP,List.getElem?_concat_length,storeR,storeK,laid,ss1,List.set_cons_zero,List.set_cons_succ,Bool.not_not,strP_eql,strP_neq,h1,h5,h10,h11,h12,hi,hi0,hil,hb,hb1,d0,h6,hd1,s1,c,hl1,hl2]
      generalize hE:dr _ _=z
      obtain ⟨e',he,gk⟩:=PNk.of hE (hd _ (by simp (maxSteps:=5000000) only [SA,SB,SD,R,SF,seval,h5]) (by simp (maxSteps:=5000000) only [SA,SB,SD,R,SF,seval] <;> rfl) (by simp (maxSteps:=5000000) only [SA,SB,SD,R,SF,seval] <;> rfl))
      have g1:=gk 1 (by decide)
      have g5:=gk 5 (by decide)
      have g10:=gk 10 (by decide)
      have g11:=gk 11 (by decide)
      have g12:=gk 12 (by decide)
      simp (maxSteps:=5000000) only [SA,SB,SD,R,SF,seval,h1,h5,h10,h11,h12] at g1 g5 g10 g11 g12
      subst he
      clear hd hE gk
      simp (maxSteps:=5000000) only [SA,SB,SD,R,SF,SG,seval,TG,SE,SC,UTT,ZCT,RV,dynR,hfn,nchP,List.getElem?_concat_length,storeR,storeK,laid,ss1,List.set_cons_zero,List.set_cons_succ,Bool.not_not,strP_eql,strP_neq,g1,g5,g10,g11,g12,hw]
      refine key2 _ _ (hset s0) ?_ ?_ ?_ ?_ ?_ hg0
      all_goals simp (maxSteps:=5000000) only [SA,SB,SD,R,SF,seval,g1,g5,g10,g11,g12]
    · skip
      obtain ⟨dr,ev,eo,so,co,⟨hev,hco,heo,hdr⟩,R⟩:=RULESB CC
      rw [<- hev]
      rw [<- hdr,<- heo] at hd1
      rw [<- hco] at hl1 hl2
      rw [<- hev] at key1
      simp only [opsOf,fpart,part',Try.f21,Option.getD] at⊢hd1
      simp (maxSteps:=5000000) only [SA,SB,SD,R,SF,SG,seval,TG,SE,SC,UTT,ZCT,RV,dynR,hfn,nchP,List.getElem?_concat_length,storeR,storeK,laid,ss1,List.set_cons_zero,List.set_cons_succ,Bool.not_not,strP_eql,strP_neq,h1,h5,h10,h11,h12,hi,hi0,hil,hb,hb1,d0,h6,hd1,s1,c,hl1,hl2,hw]
      refine key1 _ _ hs ?_ ?_ ?_ ?_ ?_ (hb1 _)
      all_goals simp (maxSteps:=5000000) only [SA,SB,SD,R,SF,seval,h1,h5,h10,h11,h12]
  · have s1:(st == 3)=false:=by simpa using s0
    obtain ⟨dr,ev,eo,so,co,⟨hev,hco,heo,hdr⟩,R⟩:=RULESB CC
    rw [<- hev]
    rw [<- hdr,<- heo] at hd1
    rw [<- hev] at key1
    simp only [opsOf,fpart,part',Try.f21,Option.getD] at⊢hd1
    simp (maxSteps:=5000000) only [SA,SB,SD,R,SF,SG,seval,TG,SE,SC,UTT,ZCT,RV,dynR,hfn,nchP,List.getElem?_concat_length,storeR,storeK,laid,ss1,List.set_cons_zero,List.set_cons_succ,Bool.not_not,strP_eql,strP_neq,h1,h5,h10,h11,h12,hi,hi0,hil,hb,hb1,d0,h6,hd1,s1,hw]
    refine key1 _ _ hs ?_ ?_ ?_ ?_ ?_ (hb1 _)
    all_goals simp (maxSteps:=5000000) only [SA,SB,SD,R,SF,seval,h1,h5,h10,h11,h12]
theorem call_Overdue (l:List Up) (hne:l≠[]) (hl:l.length<=1000000) (hh:∀ u ∈ l,u.hv.length<=1000000) (t:Int):∃ cur,MvR l cur∧∃ bx,callL CC 21 [.sl (ups l),.int .i64 t] []=some (.ret (.sl (ups cur)),bx):=by
 rw [callL_enterTB (fn:=Try.f21) (c:=Try.f21.body.getD .skip) rfl rfl fat_Overdue rfl noB_Overdue okB_Overdue (Nat.le_of_ble_eq_true rfl)]
 have how:=op_own l hne hl hh []
 simp only [List.length_nil,List.nil_append] at how
 have hsp:=ups_pure l
 have hloop:=fun e bx=>loop_Ov _ rfl l hl t l.length 0 l e bx (by omega) (MvR.refl l)
 have hend:=fun bx cur=>endQ_ups (bx:=bx) (id:=0) (l:=cur)
 obtain ⟨fa,fb,fv,hfn⟩:=FNs
 generalize ups l=xs at *
 generalize hcs:ucells l=cs at *
 obtain ⟨dr,ev,eo,so,co,⟨hev,hco,heo,hdr⟩,R⟩:=RULESB CC
 rw [<- hev]
 rw [<- hco] at how
 rw [<- hev] at hloop
 simp only [fpart,part',Try.f21,Option.getD] at hloop ⊢
 simp (maxSteps:=5000000) only [SA,SB,SD,R,SF,SG,SH,seval,TG,SE,SC,UTT,ZCT,RV,dynR,hfn,nchP,List.getElem?_concat_length,ss1,List.set_cons_zero,List.set_cons_succ,Bool.not_not,strP_eql,strP_neq,how,hsp]
 generalize hE:ev _ _=z
 obtain ⟨e',bx',cur,he,g5,hb,hr⟩:=POv.of hE (hloop _ _ (by simp (maxSteps:=5000000) only [SA,SB,SD,R,SF,seval] <;> rfl) (by simp (maxSteps:=5000000) only [SA,SB,SD,R,SF,seval] <;> rfl) (by simp (maxSteps:=5000000) only [SA,SB,SD,R,SF,seval] <;> rfl) (by simp (maxSteps:=5000000) only [SA,SB,SD,R,SF,seval] <;> rfl) (by simp (maxSteps:=5000000) only [SA,SB,SD,R,SF,seval] <;> rfl) rfl)
 subst he
 refine ⟨cur,hr,?_⟩
 simp (maxSteps:=5000000) only [SA,SB,SD,R,SF,SG,SH,seval,TG,SE,SC,UTT,ZCT,RV,dynR,hfn,nchP,List.getElem?_concat_length,ss1,List.set_cons_zero,List.set_cons_succ,Bool.not_not,strP_eql,strP_neq,g5]
 rw [hend bx' cur hb]
 exact ⟨_,rfl⟩
theorem op_Overdue (l:List Up) (hne:l≠[]) (hl:l.length<=1000000) (hh:∀ u ∈ l,u.hv.length<=1000000) (t:Int):∃ cur,MvR l cur∧∀ bx,callOp CC (callL CC) 21 [.sl (ups l),.int .i64 t] bx=some (.ret (.sl (ups cur)),bx):=by
 obtain ⟨cur,h1,bx',h2⟩:=call_Overdue l hne hl hh t
 exact ⟨cur,h1,fun bx=>callOp_of rfl (by simp only [SA,ups_pure,Bool.and_true]) h2 (ups_pure cur)⟩
end Go.HH
