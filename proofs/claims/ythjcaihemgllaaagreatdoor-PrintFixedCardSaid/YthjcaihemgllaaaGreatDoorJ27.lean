/-
  What the law needs, packed: Run.
-/
import Derived.Test.YthjcaihemgllaaaGreatDoorJ26
open List renaming find?->Aa0
open Bool renaming false_eq_true->Aa1
open Go.IntKind renaming wrap->Aa2
namespace Go.HH
open Go
def Ac:List Nat->Code->Code
 | [],c=>c
 | 0 :: p,.seq a _=>Ac p a
 | _ :: p,.seq _ b=>Ac p b
 | 0 :: p,.cond _ a _=>Ac p a
 | _ :: p,.cond _ _ b=>Ac p b
 | _ :: p,.block _ b=>Ac p b
 | _ :: p,.loop b=>Ac p b
 | _,c=>c
def Ab (fn:Func) (p:List Nat):Code:=Ac p (fn.body.getD .skip)
theorem A3 {C:Cfg} {L:Code} (b:Code) (h:L=.loop b) (st:St):Co C L st=Ea (Co C b st) (Co C L):=by
 subst h;exact il b st
section
variable {C:Cfg}
theorem VW (st:St) (k:St->Option (Ex×St)):Ea (some (.normal,st)) k=k st:=rfl
theorem eP (st:St) (k:St->Option (Ex×St)):Ea (some (.ret,st)) k=some (.ret,st):=rfl
theorem Z5 (i:Nat) (st:St) (k:St->Option (Ex×St)):Ea (some (.exit i,st)) k=some (.exit i,st):=rfl
theorem US (c:Prop) [Decidable c] (a b:Option (Ex×St)) (k:St->Option (Ex×St)):Ea (if c then a else b) k=if c then Ea a k else Ea b k:=by split <;> rfl
theorem Th (i:Nat) (st:St):EM i (some (.normal,st))=some (.normal,st):=rfl
theorem Z6 (i:Nat) (st:St):EM i (some (.ret,st))=some (.ret,st):=rfl
theorem XW (i j:Nat) (st:St):EM i (some (.exit j,st))=if j=i then some (.normal,st) else some (.exit j,st):=rfl
theorem Q4 (c:Prop) [Decidable c] (a b:Option (Ex×St)) (i:Nat):EM i (if c then a else b)=if c then EM i a else EM i b:=by split <;> rfl
theorem XX (rs:List ResultVar) (st:St):CM C rs (some (.ret,st))=match Cn C st rs with
 | some vs=>some (.ret (Ii vs),st.bx)
 | none=>none:=rfl
theorem O9 (rs:List ResultVar) (st:St):CM C rs (some (.normal,st))=match Cn C st rs with
 | some vs=>some (.ret (Ii vs),st.bx)
 | none=>none:=rfl
theorem XY (c:Prop) [Decidable c] (rs:List ResultVar) (a b:Option (Ex×St)):CM C rs (if c then a else b)=if c then CM C rs a else CM C rs b:=by split <;> rfl
theorem eR (x:PV) (r:List PV):getT (x :: r) 0=x:=rfl
theorem eS (x:PV) (r:List PV) (n:Nat):getT (x :: r) (n+1)=getT r n:=rfl
theorem Aq {f:FuncId} {args:List PV} {bx bx':List PBox} {v:PV} (hh:C.heap f=false) (hp:Al args=true) (h:Ad C f args []=some (.ret v,bx')) (hv:v.pure=true) :
 Ai C (Ad C) f args bx=some (.ret v,bx):=by
 unfold Ai;simp only [hh,hp,Bool.not_true,Bool.or_self,Aa1,if_false,h,hv,if_true]
end
def ints (l:List Int):List PV:=l.map (.int .i64)
theorem Z7 (l:List Int):Al (ints l)=true:=by
 induction l with
 | nil=>rfl
 | cons x r ih=>simpa [ints,Al,PV.pure] using ih
theorem XZ (l:List Int):(ints l).length=l.length:=by simp [ints]
theorem X0 (a b:List Int):ints a++ints b=ints (a++b):=by simp [ints]
theorem iF (l:List Int) (i:Nat):(ints l)[i]?=(l[i]?).map (.int .i64):=by simp [ints]
theorem eT (l:List Int) (n:Nat):(ints l).take n=ints (l.take n):=by simp [ints]
theorem eU (l:List Int) (n:Nat):(ints l).drop n=ints (l.drop n):=by simp [ints]
theorem Z8 (l:List Int):∀ x ∈ ints l,x.cells.length=1:=by simp [ints,PV.cells]
theorem iG (l:List Int) (s:Nat) (h:s=1):((ints l).all fun y=>y.cells.length == s)=true:=by
 subst h;rw [List.all_eq_true];intro x hx;simpa using Z8 l x hx
abbrev Dx (n:Int):Prop:=-9223372036854775808<=n/\n<=9223372036854775807
theorem wrap_i64 {n:Int} (h:Dx n):Aa2 .i64 n=n:=by
 obtain ⟨h1,h2⟩:=h;simp [Aa2,IntKind.bits,IntKind.signed];omega
theorem UU (d:Option Tmp):Ak [] d=[]:=by cases d <;> rfl
theorem Z9 (al:List (Nat×Loc)):Ak al none=al:=rfl
theorem eV (t s d:Nat) (r:List (Nat×Loc)):Ak ((t,.tmp s) :: r) (some d)=if t=d\/s=d then Ak r (some d) else (t,.tmp s) :: Ak r (some d):=by
 unfold Ak;simp only [List.filter_cons];by_cases h1:t=d <;> by_cases h2:s=d <;> simp [h1,h2]
theorem eW (t d:Nat) (l:Loc) (r:List (Nat×Loc)):Aa0 (fun p=>p.1 == d) ((t,l) :: r)=if t=d then some (t,l) else Aa0 (fun p=>p.1 == d) r:=by
 rw [List.find?_cons];by_cases h:t=d
 · simp [h]
 · have h':(t == d)=false:=by simpa using h
   rw [if_neg h];simp only [h']
theorem ct (xs:List PV):(PV.sl xs).pure=Al xs:=by simp [PV.pure]
theorem MG (k n):(PV.int k n).pure=true:=by simp [PV.pure]
theorem eX (b):(PV.bool b).pure=true:=by simp [PV.pure]
theorem Q5 (b):(PV.str b).pure=true:=by simp [PV.pure]
theorem Bu:Al []=true:=by simp [Al]
theorem AO (v r):Al (v :: r)=(v.pure && Al r):=by simp [Al]
def MH (bytes size:Nat) (e:TypeId) (st:St) (al:List (Nat×Loc)) (l:Option Loc) (xs ys:List PV) (d:Option Tmp):Option OpR:=
 if Gc < (xs.length+ys.length) * bytes\/Gc < xs.length+ys.length\/(ys.all fun y=>y.cells.length == size)=false then none
 else some (.next ((Mx st l xs).put d (.osl e (xs++ys))) (Ak al d))
theorem EV {C:Cfg} {st:St} {al:List (Nat×Loc)} {s x:Operand} {t0 t1:TypeId} {d:Option Tmp} {e:TypeId} {i:TypeInfo} {z:Value} {bytes size:Nat} (h0:C.P.underlying t0=some (.slice e)) (h1:C.P.underlying t1=some (.slice e))
 (hi:C.P.info? e=some i) (hz:i.zero=some z) (hs:z.cells.size=i.size) (hn:i.size≠0) (hb:i.bytes=bytes) (hS:i.size=size) :
 DT C st al s x t0 t1 d=match CZ C st al e s,CJ (opd C st.env x) with
  | some (l,xs),some ys=>MH bytes size e st al l xs ys d
  | _,_=>none:=by
 subst hb hS;unfold DT J' MH;simp only [h0,h1,hi,hz,hn,Option.isNone_some,Aa1,false_or,Option.map_some,hs,ne_eq,not_true_eq_false,or_false];cases CZ C st al e s <;> cases CJ (opd C st.env x) <;> rfl
theorem GK {bytes size:Nat} {e:TypeId} {st:St} {al:List (Nat×Loc)} {l:Option Loc} {xs ys:List PV} {d:Option Tmp} (h:xs.length+ys.length<=1000000) (hb:bytes<=10000000) (hy:(ys.all fun y=>y.cells.length == size)=true) :
 MH bytes size e st al l xs ys d=some (.next ((Mx st l xs).put d (.osl e (xs++ys))) (Ak al d)):=by
 unfold MH;rw [if_neg]
 rintro (h1 | h1 | h1)
 · have:(xs.length+ys.length) * bytes<=1000000 * 10000000:=Nat.mul_le_mul h hb
   unfold Gc at h1;omega
 · unfold Gc at h1
   omega
 · rw [hy] at h1;cases h1
theorem SA:(∀ (C:Cfg) (a b:Code) (st:St),Co C (.seq a b) st=Ea (Co C a st) (Co C b)) /\
 (∀ (C:Cfg) i (ops:Array Oper) draw (st:St),Co C (.region i ops draw) st=evOps C (Ad C) draw ops ops.toList [] st) /\
 (∀ (C:Cfg) (st:St),Co C .ret st=some (.ret,st))/\(∀ (C:Cfg) (st:St),Co C .skip st=some (.normal,st))/\(∀ (C:Cfg) i (st:St),Co C (.exit i) st=some (.exit i,st)) /\
 (∀ (C:Cfg) i b (st:St),Co C (.block i b) st=EM i (Co C b st)) /\
 (∀ (st:St) (k:St->Option (Ex×St)),Ea (some (.normal,st)) k=k st)/\(∀ (st:St) (k:St->Option (Ex×St)),Ea (some (.ret,st)) k=some (.ret,st)) /\
 (∀ i (st:St) (k:St->Option (Ex×St)),Ea (some (.exit i,st)) k=some (.exit i,st)) /\
 (∀ i (st:St),EM i (some (.normal,st))=some (.normal,st))/\(∀ i (st:St),EM i (some (.ret,st))=some (.ret,st)) /\
 (∀ i j (st:St),EM i (some (.exit j,st))=if j=i then some (.normal,st) else some (.exit j,st)) /\
 (∀ (e:List PV) d t v,getT (setT e d v) t=if t=d then v else getT e t)/\(∀ x r,getT (x :: r) 0=x)/\(∀ x r n,getT (x :: r) (n+1)=getT r n) /\
 (∀ (t d:Nat) (l:Loc) (r:List (Nat×Loc)),Aa0 (fun p=>p.1 == d) ((t,l) :: r)=if t=d then some (t,l) else Aa0 (fun p=>p.1 == d) r) /\
 (∀ d,Ak [] d=[])/\(∀ al,Ak al none=al)/\(∀ t s d r,Ak ((t,.tmp s) :: r) (some d)=if t=d\/s=d then Ak r (some d) else (t,.tmp s) :: Ak r (some d)) /\
 (∀ l:List Int,(ints l).length=l.length)/\(∀ (l:List Int) (i:Nat),(ints l)[i]?=(l[i]?).map (.int .i64)) /\
 (∀ l:List Int,Al (ints l)=true)/\(∀ xs,(PV.sl xs).pure=Al xs)/\(∀ k n,(PV.int k n).pure=true)/\(∀ b,(PV.bool b).pure=true)/\(∀ b,(PV.str b).pure=true)/\Al []=true/\(∀ v r,Al (v :: r)=(v.pure && Al r)) /\
 (∀ a b:List Int,ints a++ints b=ints (a++b))/\(∀ (l:List Int) (n:Nat),(ints l).take n=ints (l.take n))/\(∀ (l:List Int) (n:Nat),(ints l).drop n=ints (l.drop n)) /\
 (∀ l:List Int,((ints l).all fun y=>y.cells.length == 1)=true)/\(∀ (l:List Int) n,ints l++[PV.int .i64 n]=ints (l++[n])) /\
 (∀ k n,(PV.int k n).cells=[.int k n])/\(∀ b,(PV.bool b).cells=[.bool b])/\(∀ b,(PV.str b).cells=[.str b])/\(∀ cs,(PV.agg cs).cells=cs)/\(∀ cs,(PV.sl cs).cells=[.sl cs]) /\
 (∀ k n,(PV.int k n).one=true)/\(∀ b,(PV.bool b).one=true)/\(∀ b,(PV.str b).one=true)/\(∀ cs,(PV.sl cs).one=true)/\(∀ e cs,(PV.osl e cs).one=true):=
 ⟨fun _=>cg,fun _=>QQ,fun _=>cf,fun _=>XH,fun _=>XI,fun _=>UK,VW,eP,Z5,Th,Z6,XW,Dc,eR,eS,
  eW,UU,Z9,eV,XZ,iF,Z7,ct,MG,eX,Q5,Bu,AO,X0,eT,eU,fun l=>iG l 1 rfl,fun l n=>by simp [ints],
  fun _ _=>rfl,fun _=>rfl,fun _=>rfl,fun _=>rfl,fun _=>rfl,fun _ _=>rfl,fun _=>rfl,fun _=>rfl,fun _=>rfl,fun _ _=>rfl⟩
end Go.HH
