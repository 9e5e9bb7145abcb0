/-
  What the law needs, packed: Run.
-/
import Derived.Test.YtmiilonaehgplaaM26
namespace Go.HH
open Go
def part':List Nat->Code->Code
 | [],c=>c
 | 0 :: p,.seq a _=>part' p a
 | _ :: p,.seq _ b=>part' p b
 | 0 :: p,.cond _ a _=>part' p a
 | _ :: p,.cond _ _ b=>part' p b
 | _ :: p,.block _ b=>part' p b
 | _ :: p,.loop b=>part' p b
 | _,c=>c
def fpart (fn:Func) (p:List Nat):Code:=part' p (fn.body.getD .skip)
theorem evL_at {C:Cfg} {L:Code} (b:Code) (h:L=.loop b) (st:St):evL C L st=thenE (evL C b st) (evL C L):=by
 subst h
 exact evL_loop b st
section
variable {C:Cfg}
theorem thenE_normal (st:St) (k:St->Option (Ex×St)):thenE (some (.normal,st)) k=k st:=rfl
theorem thenE_ret (st:St) (k:St->Option (Ex×St)):thenE (some (.ret,st)) k=some (.ret,st):=rfl
theorem thenE_exit (i:Nat) (st:St) (k:St->Option (Ex×St)):thenE (some (.exit i,st)) k=some (.exit i,st):=rfl
theorem thenE_ite (c:Prop) [Decidable c] (a b:Option (Ex×St)) (k:St->Option (Ex×St)):thenE (if c then a else b) k=if c then thenE a k else thenE b k:=by split <;> rfl
theorem catchE_normal (i:Nat) (st:St):catchE i (some (.normal,st))=some (.normal,st):=rfl
theorem catchE_ret (i:Nat) (st:St):catchE i (some (.ret,st))=some (.ret,st):=rfl
theorem catchE_exit (i j:Nat) (st:St):catchE i (some (.exit j,st))=if j=i then some (.normal,st) else some (.exit j,st):=rfl
theorem catchE_ite (c:Prop) [Decidable c] (a b:Option (Ex×St)) (i:Nat):catchE i (if c then a else b)=if c then catchE i a else catchE i b:=by split <;> rfl
theorem finB_ret (rs:List ResultVar) (st:St):finB C rs (some (.ret,st))=match resultsP C st rs with
 | some vs=>some (.ret (oneOr vs),st.bx)
 | none=>none:=rfl
theorem finB_normal (rs:List ResultVar) (st:St):finB C rs (some (.normal,st))=match resultsP C st rs with
 | some vs=>some (.ret (oneOr vs),st.bx)
 | none=>none:=rfl
theorem finB_ite (c:Prop) [Decidable c] (rs:List ResultVar) (a b:Option (Ex×St)):finB C rs (if c then a else b)=if c then finB C rs a else finB C rs b:=by split <;> rfl
theorem getT_zero (x:PV) (r:List PV):getT (x :: r) 0=x:=rfl
theorem getT_succ (x:PV) (r:List PV) (n:Nat):getT (x :: r) (n+1)=getT r n:=rfl
theorem callOp_of {f:FuncId} {args:List PV} {bx bx':List PBox} {v:PV} (hh:C.heap f=false) (hp:pureL args=true) (h:callL C f args []=some (.ret v,bx')) (hv:v.pure=true) :
 callOp C (callL C) f args bx=some (.ret v,bx):=by
 unfold callOp
 simp only [hh,hp,Bool.not_true,Bool.or_self,Bool.false_eq_true,if_false,h,hv,if_true]
end
def ints (l:List Int):List PV:=l.map (.int .i64)
theorem pureL_ints (l:List Int):pureL (ints l)=true:=by
 induction l with
 | nil=>rfl
 | cons x r ih=>simpa [ints,pureL,PV.pure] using ih
theorem ints_length (l:List Int):(ints l).length=l.length:=by simp [ints]
theorem ints_append (a b:List Int):ints a++ints b=ints (a++b):=by simp [ints]
theorem ints_get (l:List Int) (i:Nat):(ints l)[i]?=(l[i]?).map (.int .i64):=by simp [ints]
theorem ints_take (l:List Int) (n:Nat):(ints l).take n=ints (l.take n):=by simp [ints]
theorem ints_drop (l:List Int) (n:Nat):(ints l).drop n=ints (l.drop n):=by simp [ints]
theorem ints_cells (l:List Int):∀ x ∈ ints l,x.cells.length=1:=by simp [ints,PV.cells]
theorem ints_all (l:List Int) (s:Nat) (h:s=1):((ints l).all fun y=>y.cells.length == s)=true:=by
 subst h
 rw [List.all_eq_true]
 intro x hx
 simpa using ints_cells l x hx
abbrev inI (n:Int):Prop:=-9223372036854775808<=n∧n<=9223372036854775807
theorem wrap_i64 {n:Int} (h:inI n):IntKind.wrap .i64 n=n:=by
 obtain ⟨h1,h2⟩:=h
 simp [IntKind.wrap,IntKind.bits,IntKind.signed]
 omega
theorem killT_nil (d:Option Tmp):killT [] d=[]:=by cases d <;> rfl
theorem killT_none (al:List (Nat×Loc)):killT al none=al:=rfl
theorem killT_tmp (t s d:Nat) (r:List (Nat×Loc)):killT ((t,.tmp s) :: r) (some d)=if t=d∨s=d then killT r (some d) else (t,.tmp s) :: killT r (some d):=by
 unfold killT
 simp only [List.filter_cons]
 by_cases h1:t=d <;> by_cases h2:s=d <;> simp [h1,h2]
theorem find_cons (t d:Nat) (l:Loc) (r:List (Nat×Loc)):List.find? (fun p=>p.1 == d) ((t,l) :: r)=if t=d then some (t,l) else List.find? (fun p=>p.1 == d) r:=by
 rw [List.find?_cons]
 by_cases h:t=d
 · simp [h]
 · have h':(t == d)=false:=by simpa using h
   rw [if_neg h]
   simp only [h']
theorem pure_sl (xs:List PV):(PV.sl xs).pure=pureL xs:=by simp [PV.pure]
theorem pure_int (k n):(PV.int k n).pure=true:=by simp [PV.pure]
theorem pure_bool (b):(PV.bool b).pure=true:=by simp [PV.pure]
theorem pure_str (b):(PV.str b).pure=true:=by simp [PV.pure]
theorem pureL_nil:pureL []=true:=by simp [pureL]
theorem pureL_cons (v r):pureL (v :: r)=(v.pure && pureL r):=by simp [pureL]
theorem maxP2 (k:IntKind) (a b:Int):maxP [.int k a,.int k b]=some (.int k (max a b)):=by
 simp only [maxP,List.foldlM_cons,List.foldlM_nil,if_true,Option.bind_eq_bind,Option.bind_some,pure]
 congr 2
 by_cases h:b > a
 · rw [if_pos h,Int.max_def,if_pos (by omega)]
 · rw [if_neg h,Int.max_def];split <;> omega
theorem minP2 (k:IntKind) (a b:Int):minP [.int k a,.int k b]=some (.int k (min a b)):=by
 simp only [minP,List.foldlM_cons,List.foldlM_nil,if_true,Option.bind_eq_bind,Option.bind_some,pure]
 congr 2
 by_cases h:b < a
 · rw [if_pos h,Int.min_def];split <;> omega
 · rw [if_neg h,Int.min_def,if_pos (by omega)]
def appK (bytes size:Nat) (e:TypeId) (st:St) (al:List (Nat×Loc)) (l:Option Loc) (xs ys:List PV) (d:Option Tmp):Option OpR:=
 if sizeCap < (xs.length+ys.length) * bytes∨sizeCap < xs.length+ys.length∨(ys.all fun y=>y.cells.length == size)=false then none
 else some (.next ((letGo st l xs).put d (.osl e (xs++ys))) (killT al d))
theorem appendOn_eq {C:Cfg} {st:St} {al:List (Nat×Loc)} {s x:Operand} {t0 t1:TypeId} {d:Option Tmp} {e:TypeId} {i:TypeInfo} {z:Value} {bytes size:Nat} (h0:C.P.underlying t0=some (.slice e)) (h1:C.P.underlying t1=some (.slice e))
 (hi:C.P.info? e=some i) (hz:i.zero=some z) (hs:z.cells.size=i.size) (hn:i.size≠0) (hb:i.bytes=bytes) (hS:i.size=size) (hr:C.rows e=false:=by rfl) :
 appendOn C st al s x t0 t1 d=match appendAt C st al e s,elemsOf (opd C st.env x) with
  | some (l,xs),some ys=>appK bytes size e st al l xs ys d
  | _,_=>none:=by
 subst hb hS
 unfold appendOn newElems appK
 simp only [h0,h1,hi,hz,hn,hr,Bool.false_and,if_false,Option.isNone_some,Bool.false_eq_true,false_or,Option.map_some,hs,ne_eq,not_true_eq_false,or_false]
 cases appendAt C st al e s <;> cases elemsOf (opd C st.env x) <;> rfl
def appKR (bytes size:Nat) (e:TypeId) (st:St) (al:List (Nat×Loc)) (l:Option Loc) (xs ys:List PV) (d:Option Tmp):Option OpR:=
 if sizeCap < (xs.length+ys.length) * bytes∨sizeCap < xs.length+ys.length∨(ys.all fun y=>y.cells.length == size)=false then none
 else if (xs.isEmpty && !ys.isEmpty)=true then some (.next ((St.mk (letGo st l xs).env ((letGo st l xs).bx++[.cells e ((flat ys).map PV.ro)])).put d (.rs (letGo st l xs).bx.length ys.length)) (killT al d))
 else some (.next ((letGo st l xs).put d (.osl e (xs++ys))) (killT al d))
theorem appendOn_eqR {C:Cfg} {st:St} {al:List (Nat×Loc)} {s x:Operand} {t0 t1:TypeId} {d:Option Tmp} {e:TypeId} {i:TypeInfo} {z:Value} {bytes size:Nat} (h0:C.P.underlying t0=some (.slice e)) (h1:C.P.underlying t1=some (.slice e))
 (hi:C.P.info? e=some i) (hz:i.zero=some z) (hs:z.cells.size=i.size) (hn:i.size≠0) (hb:i.bytes=bytes) (hS:i.size=size) (hr:C.rows e=true:=by rfl) :
 appendOn C st al s x t0 t1 d=match appendAt C st al e s,elemsOf (opd C st.env x) with
  | some (l,xs),some ys=>appKR bytes size e st al l xs ys d
  | _,_=>none:=by
 subst hb hS
 unfold appendOn newElems appKR
 simp only [h0,h1,hi,hz,hn,hr,Bool.true_and,Option.isNone_some,Bool.false_eq_true,false_or,Option.map_some,hs,ne_eq,not_true_eq_false,or_false]
 cases appendAt C st al e s <;> cases elemsOf (opd C st.env x) <;> rfl
theorem appKR_ok {bytes size:Nat} {e:TypeId} {st:St} {al:List (Nat×Loc)} {l:Option Loc} {ys:List PV} {d:Option Tmp} (h:ys.length<=1000000) (hne:ys.isEmpty=false) (hb:bytes<=10000000) (hy:(ys.all fun y=>y.cells.length == size)=true) :
 appKR bytes size e st al l [] ys d=some (.next ((St.mk (letGo st l []).env ((letGo st l []).bx++[.cells e ((flat ys).map PV.ro)])).put d (.rs (letGo st l []).bx.length ys.length)) (killT al d)):=by
 unfold appKR
 rw [if_neg,if_pos (by rw [hne] <;> rfl)]
 rintro (h1 | h1 | h1)
 · have:(([]:List PV).length+ys.length) * bytes<=1000000 * 10000000:=Nat.mul_le_mul (by simpa using h) hb
   unfold sizeCap at h1
   omega
 · unfold sizeCap at h1
   simp at h1
   omega
 · rw [hy] at h1;cases h1
theorem appK_ok {bytes size:Nat} {e:TypeId} {st:St} {al:List (Nat×Loc)} {l:Option Loc} {xs ys:List PV} {d:Option Tmp} (h:xs.length+ys.length<=1000000) (hb:bytes<=10000000) (hy:(ys.all fun y=>y.cells.length == size)=true) :
 appK bytes size e st al l xs ys d=some (.next ((letGo st l xs).put d (.osl e (xs++ys))) (killT al d)):=by
 unfold appK
 rw [if_neg]
 rintro (h1 | h1 | h1)
 · have:(xs.length+ys.length) * bytes<=1000000 * 10000000:=Nat.mul_le_mul h hb
   unfold sizeCap at h1
   omega
 · unfold sizeCap at h1
   omega
 · rw [hy] at h1;cases h1
theorem SA:(∀ (C:Cfg) (a b:Code) (st:St),evL C (.seq a b) st=thenE (evL C a st) (evL C b)) ∧
 (∀ (C:Cfg) i (ops:Array Oper) draw (st:St),evL C (.region i ops draw) st=evOps C (callL C) draw ops ops.toList [] st) ∧
 (∀ (C:Cfg) (st:St),evL C .ret st=some (.ret,st))∧(∀ (C:Cfg) (st:St),evL C .skip st=some (.normal,st))∧(∀ (C:Cfg) i (st:St),evL C (.exit i) st=some (.exit i,st)) ∧
 (∀ (C:Cfg) i b (st:St),evL C (.block i b) st=catchE i (evL C b st)) ∧
 (∀ (st:St) (k:St->Option (Ex×St)),thenE (some (.normal,st)) k=k st)∧(∀ (st:St) (k:St->Option (Ex×St)),thenE (some (.ret,st)) k=some (.ret,st)) ∧
 (∀ i (st:St) (k:St->Option (Ex×St)),thenE (some (.exit i,st)) k=some (.exit i,st)) ∧
 (∀ i (st:St),catchE i (some (.normal,st))=some (.normal,st))∧(∀ i (st:St),catchE i (some (.ret,st))=some (.ret,st)) ∧
 (∀ i j (st:St),catchE i (some (.exit j,st))=if j=i then some (.normal,st) else some (.exit j,st)) ∧
 (∀ (e:List PV) d t v,getT (setT e d v) t=if t=d then v else getT e t)∧(∀ x r,getT (x :: r) 0=x)∧(∀ x r n,getT (x :: r) (n+1)=getT r n) ∧
 (∀ (t d:Nat) (l:Loc) (r:List (Nat×Loc)),List.find? (fun p=>p.1 == d) ((t,l) :: r)=if t=d then some (t,l) else List.find? (fun p=>p.1 == d) r) ∧
 (∀ d,killT [] d=[])∧(∀ al,killT al none=al)∧(∀ t s d r,killT ((t,.tmp s) :: r) (some d)=if t=d∨s=d then killT r (some d) else (t,.tmp s) :: killT r (some d)) ∧
 (∀ l:List Int,(ints l).length=l.length)∧(∀ (l:List Int) (i:Nat),(ints l)[i]?=(l[i]?).map (.int .i64)) ∧
 (∀ l:List Int,pureL (ints l)=true)∧(∀ xs,(PV.sl xs).pure=pureL xs)∧(∀ k n,(PV.int k n).pure=true)∧(∀ b,(PV.bool b).pure=true)∧(∀ b,(PV.str b).pure=true)∧pureL []=true∧(∀ v r,pureL (v :: r)=(v.pure && pureL r)) ∧
 (∀ a b:List Int,ints a++ints b=ints (a++b))∧(∀ (l:List Int) (n:Nat),(ints l).take n=ints (l.take n))∧(∀ (l:List Int) (n:Nat),(ints l).drop n=ints (l.drop n)) ∧
 (∀ l:List Int,((ints l).all fun y=>y.cells.length == 1)=true)∧(∀ (l:List Int) n,ints l++[PV.int .i64 n]=ints (l++[n])) ∧
 (∀ k n,(PV.int k n).cells=[.int k n])∧(∀ b,(PV.bool b).cells=[.bool b])∧(∀ b,(PV.str b).cells=[.str b])∧(∀ cs,(PV.agg cs).cells=cs)∧(∀ cs,(PV.sl cs).cells=[.sl cs]) ∧
 (∀ k n,(PV.int k n).one=true)∧(∀ b,(PV.bool b).one=true)∧(∀ b,(PV.str b).one=true)∧(∀ cs,(PV.sl cs).one=true)∧(∀ e cs,(PV.osl e cs).one=true):=
 ⟨fun _=>evL_seq,fun _=>evL_region,fun _=>evL_ret,fun _=>evL_skip,fun _=>evL_exit,fun _=>evL_block,thenE_normal,thenE_ret,thenE_exit,catchE_normal,catchE_ret,catchE_exit,getT_setT,getT_zero,getT_succ,
  find_cons,killT_nil,killT_none,killT_tmp,ints_length,ints_get,pureL_ints,pure_sl,pure_int,pure_bool,pure_str,pureL_nil,pureL_cons,ints_append,ints_take,ints_drop,fun l=>ints_all l 1 rfl,fun l n=>by simp [ints],
  fun _ _=>rfl,fun _=>rfl,fun _=>rfl,fun _=>rfl,fun _=>rfl,fun _ _=>rfl,fun _=>rfl,fun _=>rfl,fun _=>rfl,fun _ _=>rfl⟩
end Go.HH
