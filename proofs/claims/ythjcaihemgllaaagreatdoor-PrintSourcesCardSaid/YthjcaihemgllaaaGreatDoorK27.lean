/-
  What the law needs, packed: Run.
-/
import Derived.Test.YthjcaihemgllaaaGreatDoorK26
open List renaming find?->Aau
open Bool renaming false_eq_true->Aav
open Go.IntKind renaming wrap->Aaw
namespace Go.HH
open Go
def Ac:List Nat->Code->Code
 | [],c=>c
 | 0 :: p,.seq a _=>Ac p a
 | _ :: p,.seq _ b=>Ac p b
 | 0 :: p,.cond _ a _=>Ac p a
 | _ :: p,.cond _ _ b=>Ac p b
 | _ :: p,.block _ b=>Ac p b
 | _ :: p,.loop b=>Ac p b
 | _,c=>c
def Aa (fn:Func) (p:List Nat):Code:=Ac p (fn.body.getD .skip)
theorem AX {C:Cfg} {L:Code} (b:Code) (h:L=.loop b) (st:St):Cf C L st=D9 (Cf C b st) (Cf C L):=by
 subst h;exact iP b st
section
variable {C:Cfg}
theorem V9 (st:St) (k:St->Option (Ex×St)):D9 (some (.normal,st)) k=k st:=rfl
theorem ft (st:St) (k:St->Option (Ex×St)):D9 (some (.ret,st)) k=some (.ret,st):=rfl
theorem aE (i:Nat) (st:St) (k:St->Option (Ex×St)):D9 (some (.exit i,st)) k=some (.exit i,st):=rfl
theorem U7 (c:Prop) [Decidable c] (a b:Option (Ex×St)) (k:St->Option (Ex×St)):D9 (if c then a else b) k=if c then D9 a k else D9 b k:=by split <;> rfl
theorem Tv (i:Nat) (st:St):EM i (some (.normal,st))=some (.normal,st):=rfl
theorem aF (i:Nat) (st:St):EM i (some (.ret,st))=some (.ret,st):=rfl
theorem Ya (i j:Nat) (st:St):EM i (some (.exit j,st))=if j=i then some (.normal,st) else some (.exit j,st):=rfl
theorem Rg (c:Prop) [Decidable c] (a b:Option (Ex×St)) (i:Nat):EM i (if c then a else b)=if c then EM i a else EM i b:=by split <;> rfl
theorem Yb (rs:List ResultVar) (st:St):CD C rs (some (.ret,st))=match Cp C st rs with
 | some vs=>some (.ret (Iq vs),st.bx)
 | none=>none:=rfl
theorem Pj (rs:List ResultVar) (st:St):CD C rs (some (.normal,st))=match Cp C st rs with
 | some vs=>some (.ret (Iq vs),st.bx)
 | none=>none:=rfl
theorem Yc (c:Prop) [Decidable c] (rs:List ResultVar) (a b:Option (Ex×St)):CD C rs (if c then a else b)=if c then CD C rs a else CD C rs b:=by split <;> rfl
theorem fu (x:PV) (r:List PV):getT (x :: r) 0=x:=rfl
theorem fw (x:PV) (r:List PV) (n:Nat):getT (x :: r) (n+1)=getT r n:=rfl
theorem Ao {f:FuncId} {args:List PV} {bx bx':List PBox} {v:PV} (hh:C.heap f=false) (hp:Ak args=true) (h:Ad C f args []=some (.ret v,bx')) (hv:v.pure=true) :
 Ai C (Ad C) f args bx=some (.ret v,bx):=by
 unfold Ai;simp only [hh,hp,Bool.not_true,Bool.or_self,Aav,if_false,h,hv,if_true]
end
def ints (l:List Int):List PV:=l.map (.int .i64)
theorem aG (l:List Int):Ak (ints l)=true:=by
 induction l with
 | nil=>rfl
 | cons x r ih=>simpa [ints,Ak,PV.pure] using ih
theorem Yd (l:List Int):(ints l).length=l.length:=by simp [ints]
theorem Ye (a b:List Int):ints a++ints b=ints (a++b):=by simp [ints]
theorem je (l:List Int) (i:Nat):(ints l)[i]?=(l[i]?).map (.int .i64):=by simp [ints]
theorem fx (l:List Int) (n:Nat):(ints l).take n=ints (l.take n):=by simp [ints]
theorem fy (l:List Int) (n:Nat):(ints l).drop n=ints (l.drop n):=by simp [ints]
theorem aH (l:List Int):∀ x ∈ ints l,x.cells.length=1:=by simp [ints,PV.cells]
theorem jf (l:List Int) (s:Nat) (h:s=1):((ints l).all fun y=>y.cells.length == s)=true:=by
 subst h;rw [List.all_eq_true];intro x hx;simpa using aH l x hx
abbrev GY (n:Int):Prop:=-9223372036854775808<=n/\n<=9223372036854775807
theorem wrap_i64 {n:Int} (h:GY n):Aaw .i64 n=n:=by
 obtain ⟨h1,h2⟩:=h;simp [Aaw,IntKind.bits,IntKind.signed];omega
theorem U8 (d:Option Tmp):Aj [] d=[]:=by cases d <;> rfl
theorem aI (al:List (Nat×Loc)):Aj al none=al:=rfl
theorem fz (t s d:Nat) (r:List (Nat×Loc)):Aj ((t,.tmp s) :: r) (some d)=if t=d\/s=d then Aj r (some d) else (t,.tmp s) :: Aj r (some d):=by
 unfold Aj;simp only [List.filter_cons];by_cases h1:t=d <;> by_cases h2:s=d <;> simp [h1,h2]
theorem fA (t d:Nat) (l:Loc) (r:List (Nat×Loc)):Aau (fun p=>p.1 == d) ((t,l) :: r)=if t=d then some (t,l) else Aau (fun p=>p.1 == d) r:=by
 rw [List.find?_cons];by_cases h:t=d
 · simp [h]
 · have h':(t == d)=false:=by simpa using h
   rw [if_neg h];simp only [h']
theorem cX (xs:List PV):(PV.sl xs).pure=Ak xs:=by simp [PV.pure]
theorem Kp (k n):(PV.int k n).pure=true:=by simp [PV.pure]
theorem fB (b):(PV.bool b).pure=true:=by simp [PV.pure]
theorem Rh (b):(PV.str b).pure=true:=by simp [PV.pure]
theorem Bk:Ak []=true:=by simp [Ak]
theorem AK (v r):Ak (v :: r)=(v.pure && Ak r):=by simp [Ak]
def MK (bytes size:Nat) (e:TypeId) (st:St) (al:List (Nat×Loc)) (l:Option Loc) (xs ys:List PV) (d:Option Tmp):Option OpR:=
 if Gc < (xs.length+ys.length) * bytes\/Gc < xs.length+ys.length\/(ys.all fun y=>y.cells.length == size)=false then none
 else some (.next ((MB st l xs).put d (.osl e (xs++ys))) (Aj al d))
theorem EV {C:Cfg} {st:St} {al:List (Nat×Loc)} {s x:Operand} {t0 t1:TypeId} {d:Option Tmp} {e:TypeId} {i:TypeInfo} {z:Value} {bytes size:Nat} (h0:C.P.underlying t0=some (.slice e)) (h1:C.P.underlying t1=some (.slice e))
 (hi:C.P.info? e=some i) (hz:i.zero=some z) (hs:z.cells.size=i.size) (hn:i.size≠0) (hb:i.bytes=bytes) (hS:i.size=size) :
 DT C st al s x t0 t1 d=match CY C st al e s,CK (opd C st.env x) with
  | some (l,xs),some ys=>MK bytes size e st al l xs ys d
  | _,_=>none:=by
 subst hb hS;unfold DT Kh MK;simp only [h0,h1,hi,hz,hn,Option.isNone_some,Aav,false_or,Option.map_some,hs,ne_eq,not_true_eq_false,or_false];cases CY C st al e s <;> cases CK (opd C st.env x) <;> rfl
theorem GL {bytes size:Nat} {e:TypeId} {st:St} {al:List (Nat×Loc)} {l:Option Loc} {xs ys:List PV} {d:Option Tmp} (h:xs.length+ys.length<=1000000) (hb:bytes<=10000000) (hy:(ys.all fun y=>y.cells.length == size)=true) :
 MK bytes size e st al l xs ys d=some (.next ((MB st l xs).put d (.osl e (xs++ys))) (Aj al d)):=by
 unfold MK;rw [if_neg]
 rintro (h1 | h1 | h1)
 · have:(xs.length+ys.length) * bytes<=1000000 * 10000000:=Nat.mul_le_mul h hb
   unfold Gc at h1;omega
 · unfold Gc at h1
   omega
 · rw [hy] at h1;cases h1
theorem SA:(∀ (C:Cfg) (a b:Code) (st:St),Cf C (.seq a b) st=D9 (Cf C a st) (Cf C b)) /\
 (∀ (C:Cfg) i (ops:Array Oper) draw (st:St),Cf C (.region i ops draw) st=evOps C (Ad C) draw ops ops.toList [] st) /\
 (∀ (C:Cfg) (st:St),Cf C .ret st=some (.ret,st))/\(∀ (C:Cfg) (st:St),Cf C .skip st=some (.normal,st))/\(∀ (C:Cfg) i (st:St),Cf C (.exit i) st=some (.exit i,st)) /\
 (∀ (C:Cfg) i b (st:St),Cf C (.block i b) st=EM i (Cf C b st)) /\
 (∀ (st:St) (k:St->Option (Ex×St)),D9 (some (.normal,st)) k=k st)/\(∀ (st:St) (k:St->Option (Ex×St)),D9 (some (.ret,st)) k=some (.ret,st)) /\
 (∀ i (st:St) (k:St->Option (Ex×St)),D9 (some (.exit i,st)) k=some (.exit i,st)) /\
 (∀ i (st:St),EM i (some (.normal,st))=some (.normal,st))/\(∀ i (st:St),EM i (some (.ret,st))=some (.ret,st)) /\
 (∀ i j (st:St),EM i (some (.exit j,st))=if j=i then some (.normal,st) else some (.exit j,st)) /\
 (∀ (e:List PV) d t v,getT (setT e d v) t=if t=d then v else getT e t)/\(∀ x r,getT (x :: r) 0=x)/\(∀ x r n,getT (x :: r) (n+1)=getT r n) /\
 (∀ (t d:Nat) (l:Loc) (r:List (Nat×Loc)),Aau (fun p=>p.1 == d) ((t,l) :: r)=if t=d then some (t,l) else Aau (fun p=>p.1 == d) r) /\
 (∀ d,Aj [] d=[])/\(∀ al,Aj al none=al)/\(∀ t s d r,Aj ((t,.tmp s) :: r) (some d)=if t=d\/s=d then Aj r (some d) else (t,.tmp s) :: Aj r (some d)) /\
 (∀ l:List Int,(ints l).length=l.length)/\(∀ (l:List Int) (i:Nat),(ints l)[i]?=(l[i]?).map (.int .i64)) /\
 (∀ l:List Int,Ak (ints l)=true)/\(∀ xs,(PV.sl xs).pure=Ak xs)/\(∀ k n,(PV.int k n).pure=true)/\(∀ b,(PV.bool b).pure=true)/\(∀ b,(PV.str b).pure=true)/\Ak []=true/\(∀ v r,Ak (v :: r)=(v.pure && Ak r)) /\
 (∀ a b:List Int,ints a++ints b=ints (a++b))/\(∀ (l:List Int) (n:Nat),(ints l).take n=ints (l.take n))/\(∀ (l:List Int) (n:Nat),(ints l).drop n=ints (l.drop n)) /\
 (∀ l:List Int,((ints l).all fun y=>y.cells.length == 1)=true)/\(∀ (l:List Int) n,ints l++[PV.int .i64 n]=ints (l++[n])) /\
 (∀ k n,(PV.int k n).cells=[.int k n])/\(∀ b,(PV.bool b).cells=[.bool b])/\(∀ b,(PV.str b).cells=[.str b])/\(∀ cs,(PV.agg cs).cells=cs)/\(∀ cs,(PV.sl cs).cells=[.sl cs]) /\
 (∀ k n,(PV.int k n).one=true)/\(∀ b,(PV.bool b).one=true)/\(∀ b,(PV.str b).one=true)/\(∀ cs,(PV.sl cs).one=true)/\(∀ e cs,(PV.osl e cs).one=true):=
 ⟨fun _=>cT,fun _=>Q2,fun _=>cS,fun _=>XW,fun _=>XX,fun _=>UZ,V9,ft,aE,Tv,aF,Ya,Dc,fu,fw,
  fA,U8,aI,fz,Yd,je,aG,cX,Kp,fB,Rh,Bk,AK,Ye,fx,fy,fun l=>jf l 1 rfl,fun l n=>by simp [ints],
  fun _ _=>rfl,fun _=>rfl,fun _=>rfl,fun _=>rfl,fun _=>rfl,fun _ _=>rfl,fun _=>rfl,fun _=>rfl,fun _=>rfl,fun _ _=>rfl⟩
end Go.HH
