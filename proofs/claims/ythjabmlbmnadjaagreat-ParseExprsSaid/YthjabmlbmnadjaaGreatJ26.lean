/-
  What the law needs, packed: Run.
-/
import Derived.Test.YthjabmlbmnadjaaGreatJ25
open List renaming find?->yW
open Bool renaming false_eq_true->yX
open Go.IntKind renaming wrap->yY
namespace Go.HH
open Go
def Ac:List Nat->Code->Code
 | [],c=>c
 | 0 :: p,.seq a _=>Ac p a
 | _ :: p,.seq _ b=>Ac p b
 | 0 :: p,.cond _ a _=>Ac p a
 | _ :: p,.cond _ _ b=>Ac p b
 | _ :: p,.block _ b=>Ac p b
 | _ :: p,.loop b=>Ac p b
 | _,c=>c
def Aa (fn:Func) (p:List Nat):Code:=Ac p (fn.body.getD .skip)
theorem A0 {C:Cfg} {L:Code} (b:Code) (h:L=.loop b) (st:St):Cp C L st=EX (Cp C b st) (Cp C L):=by
 subst h;exact jc b st
section
variable {C:Cfg}
theorem W4 (st:St) (k:St->Option (Ex×St)):EX (some (.normal,st)) k=k st:=rfl
theorem fU (st:St) (k:St->Option (Ex×St)):EX (some (.ret,st)) k=some (.ret,st):=rfl
theorem bW (i:Nat) (st:St) (k:St->Option (Ex×St)):EX (some (.exit i,st)) k=some (.exit i,st):=rfl
theorem Wc (c:Prop) [Decidable c] (a b:Option (Ex×St)) (k:St->Option (Ex×St)):EX (if c then a else b) k=if c then EX a k else EX b k:=by split <;> rfl
theorem Us (i:Nat) (st:St):FD i (some (.normal,st))=some (.normal,st):=rfl
theorem bX (i:Nat) (st:St):FD i (some (.ret,st))=some (.ret,st):=rfl
theorem Y7 (i j:Nat) (st:St):FD i (some (.exit j,st))=if j=i then some (.normal,st) else some (.exit j,st):=rfl
theorem Sd (c:Prop) [Decidable c] (a b:Option (Ex×St)) (i:Nat):FD i (if c then a else b)=if c then FD i a else FD i b:=by split <;> rfl
theorem Y8 (rs:List ResultVar) (st:St):CB C rs (some (.ret,st))=match CU C st rs with
 | some vs=>some (.ret (Je vs),st.bx)
 | none=>none:=rfl
theorem Qo (rs:List ResultVar) (st:St):CB C rs (some (.normal,st))=match CU C st rs with
 | some vs=>some (.ret (Je vs),st.bx)
 | none=>none:=rfl
theorem Y9 (c:Prop) [Decidable c] (rs:List ResultVar) (a b:Option (Ex×St)):CB C rs (if c then a else b)=if c then CB C rs a else CB C rs b:=by split <;> rfl
theorem fV (x:PV) (r:List PV):getT (x :: r) 0=x:=rfl
theorem fW (x:PV) (r:List PV) (n:Nat):getT (x :: r) (n+1)=getT r n:=rfl
theorem Ax {f:FuncId} {args:List PV} {bx bx':List PBox} {v:PV} (hh:C.heap f=false) (hp:Aq args=true) (h:Ae C f args []=some (.ret v,bx')) (hv:v.pure=true) :
 Ak C (Ae C) f args bx=some (.ret v,bx):=by
 unfold Ak;simp only [hh,hp,Bool.not_true,Bool.or_self,yX,if_false,h,hv,if_true]
end
def ints (l:List Int):List PV:=l.map (.int .i64)
theorem bY (l:List Int):Aq (ints l)=true:=by
 induction l with
 | nil=>rfl
 | cons x r ih=>simpa [ints,Aq,PV.pure] using ih
theorem Y' (l:List Int):(ints l).length=l.length:=by simp [ints]
theorem Za (a b:List Int):ints a++ints b=ints (a++b):=by simp [ints]
theorem jr (l:List Int) (i:Nat):(ints l)[i]?=(l[i]?).map (.int .i64):=by simp [ints]
theorem fX (l:List Int) (n:Nat):(ints l).take n=ints (l.take n):=by simp [ints]
theorem fY (l:List Int) (n:Nat):(ints l).drop n=ints (l.drop n):=by simp [ints]
theorem bZ (l:List Int):∀ x ∈ ints l,x.cells.length=1:=by simp [ints,PV.cells]
theorem js (l:List Int) (s:Nat) (h:s=1):((ints l).all fun y=>y.cells.length == s)=true:=by
 subst h;rw [List.all_eq_true];intro x hx;simpa using bZ l x hx
abbrev yG (n:Int):Prop:=-9223372036854775808<=n/\n<=9223372036854775807
theorem wrap_i64 {n:Int} (h:yG n):yY .i64 n=n:=by
 obtain ⟨h1,h2⟩:=h;simp [yY,IntKind.bits,IntKind.signed];omega
theorem Wd (d:Option Tmp):Ap [] d=[]:=by cases d <;> rfl
theorem b7 (al:List (Nat×Loc)):Ap al none=al:=rfl
theorem fZ (t s d:Nat) (r:List (Nat×Loc)):Ap ((t,.tmp s) :: r) (some d)=if t=d\/s=d then Ap r (some d) else (t,.tmp s) :: Ap r (some d):=by
 unfold Ap;simp only [List.filter_cons];by_cases h1:t=d <;> by_cases h2:s=d <;> simp [h1,h2]
theorem gb (t d:Nat) (l:Loc) (r:List (Nat×Loc)):yW (fun p=>p.1 == d) ((t,l) :: r)=if t=d then some (t,l) else yW (fun p=>p.1 == d) r:=by
 rw [List.find?_cons];by_cases h:t=d
 · simp [h]
 · have h':(t == d)=false:=by simpa using h
   rw [if_neg h];simp only [h']
theorem mU (xs:List PV):(PV.sl xs).pure=Aq xs:=by simp [PV.pure]
theorem Se (k n):(PV.int k n).pure=true:=by simp [PV.pure]
theorem gd (b):(PV.bool b).pure=true:=by simp [PV.pure]
theorem jt (b):(PV.str b).pure=true:=by simp [PV.pure]
theorem CZ:Aq []=true:=by simp [Aq]
theorem BE (v r):Aq (v :: r)=(v.pure && Aq r):=by simp [Aq]
def Sf (bytes size:Nat) (e:TypeId) (st:St) (al:List (Nat×Loc)) (l:Option Loc) (xs ys:List PV) (d:Option Tmp):Option OpR:=
 if It < (xs.length+ys.length) * bytes\/It < xs.length+ys.length\/(ys.all fun y=>y.cells.length == size)=false then none
 else some (.next ((Qd st l xs).put d (.osl e (xs++ys))) (Ap al d))
theorem EZ {C:Cfg} {st:St} {al:List (Nat×Loc)} {s x:Operand} {t0 t1:TypeId} {d:Option Tmp} {e:TypeId} {i:TypeInfo} {z:Value} {bytes size:Nat} (h0:C.P.underlying t0=some (.slice e)) (h1:C.P.underlying t1=some (.slice e))
 (hi:C.P.info? e=some i) (hz:i.zero=some z) (hs:z.cells.size=i.size) (hn:i.size≠0) (hb:i.bytes=bytes) (hS:i.size=size) :
 EW C st al s x t0 t1 d=match DV C st al e s,Di (opd C st.env x) with
  | some (l,xs),some ys=>Sf bytes size e st al l xs ys d
  | _,_=>none:=by
 subst hb hS;unfold EW N9 Sf;simp only [h0,h1,hi,hz,hn,Option.isNone_some,yX,false_or,Option.map_some,hs,ne_eq,not_true_eq_false,or_false];cases DV C st al e s <;> cases Di (opd C st.env x) <;> rfl
theorem D7 {bytes size:Nat} {e:TypeId} {st:St} {al:List (Nat×Loc)} {l:Option Loc} {xs ys:List PV} {d:Option Tmp} (h:xs.length+ys.length<=1000000) (hb:bytes<=10000000) (hy:(ys.all fun y=>y.cells.length == size)=true) :
 Sf bytes size e st al l xs ys d=some (.next ((Qd st l xs).put d (.osl e (xs++ys))) (Ap al d)):=by
 unfold Sf;rw [if_neg]
 rintro (h1 | h1 | h1)
 · have:(xs.length+ys.length) * bytes<=1000000 * 10000000:=Nat.mul_le_mul h hb
   unfold It at h1;omega
 · unfold It at h1
   omega
 · rw [hy] at h1;cases h1
theorem SA:(∀ (C:Cfg) (a b:Code) (st:St),Cp C (.seq a b) st=EX (Cp C a st) (Cp C b)) /\
 (∀ (C:Cfg) i (ops:Array Oper) draw (st:St),Cp C (.region i ops draw) st=evOps C (Ae C) draw ops ops.toList [] st) /\
 (∀ (C:Cfg) (st:St),Cp C .ret st=some (.ret,st))/\(∀ (C:Cfg) (st:St),Cp C .skip st=some (.normal,st))/\(∀ (C:Cfg) i (st:St),Cp C (.exit i) st=some (.exit i,st)) /\
 (∀ (C:Cfg) i b (st:St),Cp C (.block i b) st=FD i (Cp C b st)) /\
 (∀ (st:St) (k:St->Option (Ex×St)),EX (some (.normal,st)) k=k st)/\(∀ (st:St) (k:St->Option (Ex×St)),EX (some (.ret,st)) k=some (.ret,st)) /\
 (∀ i (st:St) (k:St->Option (Ex×St)),EX (some (.exit i,st)) k=some (.exit i,st)) /\
 (∀ i (st:St),FD i (some (.normal,st))=some (.normal,st))/\(∀ i (st:St),FD i (some (.ret,st))=some (.ret,st)) /\
 (∀ i j (st:St),FD i (some (.exit j,st))=if j=i then some (.normal,st) else some (.exit j,st)) /\
 (∀ (e:List PV) d t v,getT (setT e d v) t=if t=d then v else getT e t)/\(∀ x r,getT (x :: r) 0=x)/\(∀ x r n,getT (x :: r) (n+1)=getT r n) /\
 (∀ (t d:Nat) (l:Loc) (r:List (Nat×Loc)),yW (fun p=>p.1 == d) ((t,l) :: r)=if t=d then some (t,l) else yW (fun p=>p.1 == d) r) /\
 (∀ d,Ap [] d=[])/\(∀ al,Ap al none=al)/\(∀ t s d r,Ap ((t,.tmp s) :: r) (some d)=if t=d\/s=d then Ap r (some d) else (t,.tmp s) :: Ap r (some d)) /\
 (∀ l:List Int,(ints l).length=l.length)/\(∀ (l:List Int) (i:Nat),(ints l)[i]?=(l[i]?).map (.int .i64)) /\
 (∀ l:List Int,Aq (ints l)=true)/\(∀ xs,(PV.sl xs).pure=Aq xs)/\(∀ k n,(PV.int k n).pure=true)/\(∀ b,(PV.bool b).pure=true)/\(∀ b,(PV.str b).pure=true)/\Aq []=true/\(∀ v r,Aq (v :: r)=(v.pure && Aq r)) /\
 (∀ a b:List Int,ints a++ints b=ints (a++b))/\(∀ (l:List Int) (n:Nat),(ints l).take n=ints (l.take n))/\(∀ (l:List Int) (n:Nat),(ints l).drop n=ints (l.drop n)) /\
 (∀ l:List Int,((ints l).all fun y=>y.cells.length == 1)=true)/\(∀ (l:List Int) n,ints l++[PV.int .i64 n]=ints (l++[n])) /\
 (∀ k n,(PV.int k n).cells=[.int k n])/\(∀ b,(PV.bool b).cells=[.bool b])/\(∀ b,(PV.str b).cells=[.str b])/\(∀ cs,(PV.agg cs).cells=cs)/\(∀ cs,(PV.sl cs).cells=[.sl cs]) /\
 (∀ k n,(PV.int k n).one=true)/\(∀ b,(PV.bool b).one=true)/\(∀ b,(PV.str b).one=true)/\(∀ cs,(PV.sl cs).one=true)/\(∀ e cs,(PV.osl e cs).one=true):=
 ⟨fun _=>dT,fun _=>RX,fun _=>dS,fun _=>YR,fun _=>YS,fun _=>V4,W4,fU,bW,Us,bX,Y7,Eb,fV,fW,
  gb,Wd,b7,fZ,Y',jr,bY,mU,Se,gd,jt,CZ,BE,Za,fX,fY,fun l=>js l 1 rfl,fun l n=>by simp [ints],
  fun _ _=>rfl,fun _=>rfl,fun _=>rfl,fun _=>rfl,fun _=>rfl,fun _ _=>rfl,fun _=>rfl,fun _=>rfl,fun _=>rfl,fun _ _=>rfl⟩
end Go.HH
