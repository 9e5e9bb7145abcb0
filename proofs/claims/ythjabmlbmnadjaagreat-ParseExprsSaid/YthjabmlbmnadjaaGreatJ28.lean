/-
  What the law needs, packed: Rules.
-/
import Derived.Test.YthjabmlbmnadjaaGreatJ27
open List renaming getElem?_cons_zero->yW,nil_append->yX,getElem?_cons_succ->yY,drop_succ_cons->yZ,append_nil->y1,drop_zero->y2,filter_nil->y8,getElem?_append_right->y9,getElem?_toArray->za,take_succ_cons->ze,length_cons->zj,cons_append->zk,length_nil->zm,head?_cons->zn,take_zero->zq,take_nil->zr,map_cons->zt,getD_nil->zu,drop_nil->zw,all_cons->zx,map_nil->zB,all_nil->zC
open Bool renaming and_self->y0,not_false->y3,not_true->y5,false_eq_true->zg,true_and->zy,and_true->zA,or_self->zD
open Nat renaming le_refl->y4,sub_self->y',zero_add->zE
open Option renaming bind_some->y6,isSome_some->zd,bind_none->zf,map_some->zh,map_none->zi
open Go.Utf8 renaming decode->y7
open Int renaming toNat_natCast->zl
open Go.Operand renaming tmp->zo
namespace Go.HH
open Go
def Dm (v:Option PV) (d:Option Tmp) (al:List (Nat×Loc)) (st:St):Option OpR:=
 match v with
 | some v=>some (.next (st.put d v) al)
 | none=>none
theorem gf (v:PV) (d:Option Tmp) (al:List (Nat×Loc)) (st:St):Dm (some v) d al st=some (.next (st.put d v) al):=rfl
def We (c:PV) (a b:PV):Option PV:=match c with
 | .bool t=>some (if t then a else b)
 | _=>none
theorem b8 (a b:PV):We (.bool true) a b=some a:=rfl
theorem Zc (a b:PV):We (.bool false) a b=some b:=rfl
def Ni (v:PV) (want:Bool):Option Bool:=match v with
 | .bool b=>some (b == want)
 | .tup _=>some false
 | _=>none
theorem Zd (w:Bool):Ni (.bool true) w=some w:=by cases w <;> rfl
theorem W5 (w:Bool):Ni (.bool false) w=some (!w):=by cases w <;> rfl
theorem b9 (w:Bool):Ni und w=some false:=rfl
def mV (r:Option OpR) (k:List (Nat×Loc)->St->Option (Ex×St)):Option (Ex×St):=match r with
 | none=>none
 | some (.next st' al')=>k al' st'
 | some (.pan v st')=>some (.pan v,st')
theorem ju (st:St) (al:List (Nat×Loc)) (k:List (Nat×Loc)->St->Option (Ex×St)):mV (some (.next st al)) k=k al st:=rfl
def Wf (w:Option Bool) (f:St->Option OpR) (k:List (Nat×Loc)->St->Option (Ex×St)) (al:List (Nat×Loc)) (dst:Option Tmp) (st:St):Option (Ex×St):=match w with
 | none=>none
 | some false=>k (Ap al dst) (st.put dst und)
 | some true=>mV (f st) k
theorem ca (f:St->Option OpR) (k:List (Nat×Loc)->St->Option (Ex×St)) (al:List (Nat×Loc)) (dst:Option Tmp) (st:St):Wf (some true) f k al dst st=mV (f st) k:=rfl
theorem Ze (f:St->Option OpR) (k:List (Nat×Loc)->St->Option (Ex×St)) (al:List (Nat×Loc)) (dst:Option Tmp) (st:St):Wf (some false) f k al dst st=k (Ap al dst) (st.put dst und):=rfl
def Oh (v:PV) (f g:St->Option (Ex×St)) (st:St):Option (Ex×St):=match v with
 | .bool t=>if t then f st else g st
 | _=>none
theorem cb (f g:St->Option (Ex×St)) (st:St):Oh (.bool true) f g st=f st:=rfl
theorem Zf (f g:St->Option (Ex×St)) (st:St):Oh (.bool false) f g st=g st:=rfl
def L8 (ops:Array Oper) (j:Nat) (e:List PV) (w:Bool):Option Bool:=match (ops[j]?).bind (·.dst) with
 | some d=>Ni (getT e d) w
 | none=>none
def cc (v:PV) (i:Nat):Option PV:=match v with
 | .tup vs=>vs[i]?.map PV.ro
 | _=>none
theorem jv (vs:List PV) (i:Nat):cc (.tup vs) i=vs[i]?.map PV.ro:=rfl
def Sg (C:Cfg) (ty:TypeId):PV:=match C.P.underlying ty with
 | some (.slice e)=>if (C.P.info? e).isSome then .osl e [] else .nils
 | _=>.nils
def Ld (C:Cfg) (draw:Bool) (al:List (Nat×Loc)) (d:Option Tmp) (t:TypeId) (v:PV) (st:St):Option OpR:=
 match HO C st.bx t v with
 | some x=>some (.next (st.put d x) (match (if draw then none else match C.P.underlying t with
  | some (.slice _)=>match v with
   | .bp id off=>match FZ st (.box id off) with
    | .osl _ _=>some (Loc.box id off)
    | _=>none
   | _=>none
  | _=>none),d with
  | some l,some d=>if l=.tmp d then Ap al (some d) else (d,l) :: Ap al (some d)
  | _,d=>Ap al d))
 | none=>none
theorem jw (C:Cfg) (draw:Bool) (al:List (Nat×Loc)) (d:Option Tmp) (t:TypeId) (cs:List PV) (st:St):Ld C draw al d t (.ip cs) st=Dm (readCells C t cs) d (Ap al d) st:=by
 unfold Ld Dm
 show (match readCells C t cs with
  | some x=>_
  | none=>none)=_
 cases readCells C t cs with
 | none=>rfl
 | some x=>
  simp only
  have h:(match C.P.underlying t with
   | some (.slice _)=>(none:Option Loc)
   | _=>none)=none:=by split <;> rfl
  rw [h];cases draw <;> cases d <;> rfl
theorem jx (C:Cfg) (draw:Bool) (al:List (Nat×Loc)) (d:Option Tmp) (t:TypeId) (id off:Nat) (st:St) (hn:A5 C t=true):Ld C draw al d t (.bp id off) st=Dm ((Bg st.bx id).bind fun cs=>readCells C t (cs.drop off)) d (Ap al d) st:=by
 unfold Ld Dm HO;simp only;unfold A5 at hn;cases Bg st.bx id with
 | none=>rfl
 | some cs=>
  simp only [y6];cases readCells C t (cs.drop off) with
  | none=>rfl
  | some x=>
   simp only;cases hu:C.P.underlying t with
   | none=>cases draw <;> cases d <;> rfl
   | some k=>
    rw [hu] at hn;cases k <;> first | exact Bool.noConfusion hn | (cases draw <;> cases d <;> rfl)
def dX (C:Cfg) (e:List PV) (t:Option TypeId) (x:Option Operand):Option PV:=match t,x with
 | some t,some x=>Uo C t (opd C e x)
 | _,_=>none
def EP (C:Cfg) (r:Option (CR×List PBox)) (k:FuncId) (vs:List PV) (d:Option Tmp) (al:List (Nat×Loc)) (st:St):Option OpR:=match r with
 | some (.ret v,bx)=>some (.next ((St.mk st.env bx).put d v) (Ap (Eo C k vs al) d))
 | some (.pan v,bx)=>some (.pan v { st with bx })
 | none=>none
def C8 (v:PV):Option PV:=match v with
 | .ip cs=>some (.ip cs)
 | .bp id off=>some (.bp id off)
 | .fn f a b=>some (.fn f a b)
 | _=>none
def IV (C:Cfg) (t:TypeId) (a:PV) (v:PV) (d:Option Tmp) (al:List (Nat×Loc)) (st:St):Option OpR:=match a with
 | .bp id off=>
  if tSize C t=some (laid v).length then
   match CP st.bx id off (laid v) with
   | some bx=>some (.next ((St.mk st.env bx).put d und) (Ap (al.filter fun p=>(match p.2 with | .box i _=>i != id | .tmp _=>true)) d))
   | none=>none
  else none
 | _=>none
def Nj (r:Option (CR×List PBox)) (m:Nat) (d:Option Tmp) (al:List (Nat×Loc)) (st:St):Option OpR:=match r with
 | some (.ret v,bx)=>if decide (bx.length=m) && (v.under m && bx.all (·.under m)) then some (.next ((St.mk st.env (bx++st.bx.drop m)).put d v) (Ap al d)) else none
 | some (.pan v,bx)=>if decide (bx.length=m) && (v.under m && bx.all (·.under m)) then some (.pan v { st with bx:=bx++st.bx.drop m }) else none
 | none=>none
def H2 (C:Cfg) (co:FuncId->List PV->List PBox->Option (CR×List PBox)) (tys:Array TypeId) (k:FuncId) (vs:List PV) (d:Option Tmp) (al:List (Nat×Loc)) (st:St):Option OpR:=match JJ C (.func k) tys k vs al st.bx with
 | some m=>Nj (co k vs (st.bx.take m)) m d al st
 | none=>EP C (co k vs st.bx) k vs d al st
theorem gg (C:Cfg) (co:FuncId->List PV->List PBox->Option (CR×List PBox)) (tys:Array TypeId) (k:FuncId) (vs:List PV) (d:Option Tmp) (al:List (Nat×Loc)) (st:St) (h:tys.toList.any (Bh C)=false):H2 C co tys k vs d al st=EP C (co k vs st.bx) k vs d al st:=by
 unfold H2 JJ fJ;rw [h,Bool.and_false];rfl
theorem cd (C:Cfg) (co:FuncId->List PV->List PBox->Option (CR×List PBox)) (tys:Array TypeId) (k:FuncId) (vs:List PV) (d:Option Tmp) (al:List (Nat×Loc)) (st:St) (h:Dl al=none):H2 C co tys k vs d al st=EP C (co k vs st.bx) k vs d al st:=by
 unfold H2 JJ cutAt;rw [h];cases (YJ (.func k) && fJ C tys) <;> rfl
theorem Pl (C:Cfg) (co:FuncId->List PV->List PBox->Option (CR×List PBox)) (tys:Array TypeId) (k:FuncId) (vs:List PV) (d:Option Tmp) (al:List (Nat×Loc)) (st:St) (m:Nat) (ht:tys.toList.any (Bh C)=true) (h:Dl al=some m) (h1:(C.heap k || !(Aq vs))=true) (h2:Au m vs=true) (h3:(st.bx.take m).all (·.under m)=true):H2 C co tys k vs d al st=Nj (co k vs (st.bx.take m)) m d al st:=by
 unfold H2 JJ cutAt fJ;rw [h,ht];simp only [h1,h2,h3,YJ,y0,if_true]
theorem Sh (v:PV) (bx:List PBox) (m:Nat) (d:Option Tmp) (al:List (Nat×Loc)) (e:List PV) (b0:List PBox) (h1:bx.length=m) (h2:v.under m=true) (h3:bx.all (·.under m)=true):Nj (some (.ret v,bx)) m d al ⟨e,b0⟩=some (.next ((St.mk e (bx++b0.drop m)).put d v) (Ap al d)):=by
 unfold Nj;simp only [h1,h2,h3,decide_true,y0,if_true]
theorem cf (v:PV) (bx:List PBox) (m:Nat) (d:Option Tmp) (al:List (Nat×Loc)) (e:List PV) (b0:List PBox) (h1:bx.length=m) (h2:v.under m=true) (h3:bx.all (·.under m)=true):Nj (some (.pan v,bx)) m d al ⟨e,b0⟩=some (.pan v ⟨e,bx++b0.drop m⟩):=by
 unfold Nj;simp only [h1,h2,h3,decide_true,y0,if_true]
def mW (i:Nat):Option Nat->Nat
 | none=>i
 | some m=>min i m
theorem cg (d i o:Nat) (r:List (Nat×Loc)):Dl ((d,.box i o) :: r)=some (mW i (Dl r)):=by
 show (match Dl r with
  | some m=>some (min i m)
  | none=>some i)=_
 cases Dl r <;> rfl
def Al (C:Cfg) (co:FuncId->List PV->List PBox->Option (CR×List PBox)) (f:PV) (vs:List PV) (d:Option Tmp) (al:List (Nat×Loc)) (st:St):Option OpR:=match f with
 | .fn k first captured=>EP C (co k (first.map PV.shutV++vs++captured.map PV.shutV) st.bx) k (first.map PV.shutV++vs++captured.map PV.shutV) d al st
 | _=>none
def qa (v:PV) (st:St):Option OpR:=match v with
 | .iface t v=>some (.pan (.iface t v) st)
 | _=>none
def Gn (_:Bool) (v:PV) (t:Nat) (d:Option Tmp) (al:List (Nat×Loc)):List (Nat×Loc):=
 match (match v with
  | .osl _ _=>some (Loc.tmp t)
  | _=>none),d with
 | some l,some d=>if l=.tmp d then Ap al (some d) else (d,l) :: Ap al (some d)
 | _,d=>Ap al d
theorem jy (e:TypeId) (xs:List PV) (t d:Nat) (al:List (Nat×Loc)) (b:Bool):Gn b (.osl e xs) t (some d) al=if t=d then Ap al (some d) else (d,.tmp t) :: Ap al (some d):=by
 by_cases h:t=d <;> simp [Gn,h]
theorem mX (xs:List PV) (t:Nat) (d:Option Tmp) (al:List (Nat×Loc)) (b:Bool):Gn b (.sl xs) t d al=Ap al d:=by cases b <;> cases d <;> rfl
theorem jz (k n) (t:Nat) (d:Option Tmp) (al:List (Nat×Loc)) (b:Bool):Gn b (.int k n) t d al=Ap al d:=by cases b <;> cases d <;> rfl
theorem gh (n) (t:Nat) (d:Option Tmp) (al:List (Nat×Loc)) (b:Bool):Gn b (.bool n) t d al=Ap al d:=by cases b <;> cases d <;> rfl
theorem jA (n) (t:Nat) (d:Option Tmp) (al:List (Nat×Loc)) (b:Bool):Gn b (.str n) t d al=Ap al d:=by cases b <;> cases d <;> rfl
theorem jB (n) (t:Nat) (d:Option Tmp) (al:List (Nat×Loc)) (b:Bool):Gn b (.agg n) t d al=Ap al d:=by cases b <;> cases d <;> rfl
theorem jC (n) (t:Nat) (d:Option Tmp) (al:List (Nat×Loc)) (b:Bool):Gn b (.tup n) t d al=Ap al d:=by cases b <;> cases d <;> rfl
theorem mY (i n) (t:Nat) (d:Option Tmp) (al:List (Nat×Loc)) (b:Bool):Gn b (.bp i n) t d al=Ap al d:=by cases b <;> cases d <;> rfl
theorem mZ (n) (t:Nat) (d:Option Tmp) (al:List (Nat×Loc)) (b:Bool):Gn b (.ip n) t d al=Ap al d:=by cases b <;> cases d <;> rfl
def Hh (v:PV) (i:Nat) (d:Option Tmp) (al:List (Nat×Loc)) (st:St):Option OpR:=
 match v with
 | .osl e xs=>some (.next ((St.mk (setT st.env i (.sl xs)) st.bx).put d (.osl e xs)) (Ap (Ap al (some i)) d))
 | v=>some (.next (st.put d v) (Ap (Ap al (some i)) d))
theorem jD (e xs) (i:Nat) (d:Option Tmp) (al:List (Nat×Loc)) (st:St):Hh (.osl e xs) i d al st=some (.next ((St.mk (setT st.env i (.sl xs)) st.bx).put d (.osl e xs)) (Ap (Ap al (some i)) d)):=rfl
theorem m5 (xs) (i:Nat) (d:Option Tmp) (al:List (Nat×Loc)) (st:St):Hh (.sl xs) i d al st=some (.next (st.put d (.sl xs)) (Ap (Ap al (some i)) d)):=rfl
theorem jE (k n) (i:Nat) (d:Option Tmp) (al:List (Nat×Loc)) (st:St):Hh (.int k n) i d al st=some (.next (st.put d (.int k n)) (Ap (Ap al (some i)) d)):=rfl
theorem gi (n) (i:Nat) (d:Option Tmp) (al:List (Nat×Loc)) (st:St):Hh (.bool n) i d al st=some (.next (st.put d (.bool n)) (Ap (Ap al (some i)) d)):=rfl
theorem jF (n) (i:Nat) (d:Option Tmp) (al:List (Nat×Loc)) (st:St):Hh (.str n) i d al st=some (.next (st.put d (.str n)) (Ap (Ap al (some i)) d)):=rfl
theorem jG (n) (i:Nat) (d:Option Tmp) (al:List (Nat×Loc)) (st:St):Hh (.agg n) i d al st=some (.next (st.put d (.agg n)) (Ap (Ap al (some i)) d)):=rfl
def zeroCells (C:Cfg) (t:TypeId):Option (List PV):=match tZero C t with
 | some z=>if (z.cells.map PV.ro).all PV.one then some (z.cells.map PV.ro) else none
 | none=>none
def W6 (t:TypeId) (r:Option (List PV)) (d:Option Tmp) (al:List (Nat×Loc)) (st:St):Option OpR:=match r with
 | some cs=>some (.next ((St.mk st.env (st.bx++[.cells t cs])).put d (.bp st.bx.length 0)) (Ap al d))
 | none=>none
theorem Zg (t:TypeId) (cs:List PV) (d:Option Tmp) (al:List (Nat×Loc)) (st:St):W6 t (some cs) d al st=some (.next ((St.mk st.env (st.bx++[.cells t cs])).put d (.bp st.bx.length 0)) (Ap al d)):=rfl
def Nk (C:Cfg) (t:TypeId) (a:PV) (v:PV) (i:Nat) (d:Option Tmp) (al:List (Nat×Loc)) (st:St):Option OpR:=match a with
 | .bp id off=>
  let e1:=match v with
   | .osl _ xs=>setT st.env i (.sl xs)
   | _=>st.env
  if tSize C t=some (laid v).length then
   match CP st.bx id off (laid v) with
   | some bx=>some (.next ((St.mk e1 bx).put d und) (Ap (al.filter fun p=>(match p.2 with | .box i _=>i != id | .tmp k=>(match (zo i) with | .tmp j=>k != j | _=>true))) d))
   | none=>none
  else none
 | _=>none
def Si (r:Option (List PBox)) (d:Option Tmp) (e:List PV):Option OpR:=match r with
 | some bx=>some (.next ((St.mk e bx).put d und) [])
 | none=>none
theorem Zh (bx:List PBox) (d:Option Tmp) (e:List PV):Si (some bx) d e=some (.next ((St.mk e bx).put d und) []):=rfl
theorem cj (C:Cfg) (t:TypeId) (id off:Nat) (cs:List PV) (i:Nat) (d:Option Tmp) (st:St) (h:tSize C t=some cs.length) :
 Nk C t (.bp id off) (.agg cs) i d [] st=Si (CP st.bx id off (cs.map PV.ro)) d st.env:=by
 have hl:(laid (.agg cs))=cs.map PV.ro:=rfl;unfold Nk Si;simp only [hl,List.length_map,h,if_true,y8,Wd]
theorem Ut (bx:List PBox) (t:TypeId) (cs:List PV):Bg (bx++[.cells t cs]) bx.length=some cs:=by
 unfold Bg;rw [y9 (y4 _),y'];rfl
theorem QJ (bx:List PBox) (t:TypeId) (cs:List PV) (off:Nat) (vs:List PV) (h:off+vs.length<=cs.length) (ho:vs.all PV.one=true):CP (bx++[.cells t cs]) bx.length off vs=some (bx++[.cells t (lay cs off vs)]):=by
 unfold CP;rw [y9 (y4 _),y'];simp only [yW];rw [if_pos ⟨h,ho⟩,List.set_append_right _ _ (y4 _),y'];rfl
theorem jH (e:List PV) (bx:List PBox) (d:Nat) (v:PV):(St.mk e bx).put (some d) v=⟨setT e d v,bx⟩:=rfl
theorem jI (e:List PV) (bx:List PBox) (v:PV):(St.mk e bx).put none v=⟨e,bx⟩:=rfl
theorem Ji {x r:Option (Ex×St)} {P:List PV->Option (Ex×St)} {Q:List PV->Prop} (hE:x=r) (h:∃ e',x=P e'/\Q e'):∃ e',r=P e'/\Q e':=by
 subst hE;exact h
theorem m6 (C:Cfg) (e:List PV) (t:Nat):opd C e (.tmp t)=(getT e t).ro:=rfl
theorem m7 (C:Cfg) (e:List PV) (k n):opd C e (.const (.int k n))=.int k n:=rfl
theorem jJ (C:Cfg) (e:List PV) (n):opd C e (.const (.bool n))=.bool n:=rfl
theorem m8 (C:Cfg) (e:List PV) (n):opd C e (.const (.string n))=.str n.data.toList:=rfl
theorem m9 (C:Cfg) (e:List PV):opd C e (.const (.slice none 0 0))=.nils:=rfl
theorem na (C:Cfg) (e:List PV) (t:Nat):raw C e (.tmp t)=getT e t:=rfl
theorem Zi (C:Cfg) (v:PV) (bx:List PBox) (k:FuncId) (vs:List PV) (d:Option Tmp) (al:List (Nat×Loc)) (e:List PV) (b0:List PBox):EP C (some (.ret v,bx)) k vs d al ⟨e,b0⟩=some (.next ((St.mk e bx).put d v) (Ap (Eo C k vs al) d)):=rfl
theorem gj (C:Cfg) (k:FuncId) (vs:List PV) (al:List (Nat×Loc)) (h:C.heap k=false) (hp:Aq vs=true):Eo C k vs al=al:=by
 unfold Eo;rw [h,hp];rfl
theorem SB:(∀ v d al st,Dm (some v) d al st=some (.next (st.put d v) al))/\(∀ a b,We (.bool true) a b=some a)/\(∀ a b,We (.bool false) a b=some b) /\
 (∀ w,Ni (.bool true) w=some w)/\(∀ w,Ni (.bool false) w=some (!w))/\(∀ w,Ni (.tup []) w=some false) /\
 (∀ st al (k:List (Nat×Loc)->St->Option (Ex×St)),mV (some (.next st al)) k=k al st) /\
 (∀ f (k:List (Nat×Loc)->St->Option (Ex×St)) al dst st,Wf (some true) f k al dst st=mV (f st) k)/\(∀ f (k:List (Nat×Loc)->St->Option (Ex×St)) al dst st,Wf (some false) f k al dst st=k (Ap al dst) (st.put dst und)) /\
 (∀ f g st,Oh (.bool true) f g st=f st)/\(∀ f g st,Oh (.bool false) f g st=g st)/\(∀ vs i,cc (.tup vs) i=vs[i]?.map PV.ro) /\
 (∀ C draw al d t cs st,Ld C draw al d t (.ip cs) st=Dm (readCells C t cs) d (Ap al d) st) /\
 (∀ C draw al d t id off st,A5 C t=true->Ld C draw al d t (.bp id off) st=Dm ((Bg st.bx id).bind fun cs=>readCells C t (cs.drop off)) d (Ap al d) st) /\
 (∀ e xs t d al b,Gn b (.osl e xs) t (some d) al=if t=d then Ap al (some d) else (d,.tmp t) :: Ap al (some d)) /\
 (∀ xs t d al b,Gn b (.sl xs) t d al=Ap al d)/\(∀ k n t d al b,Gn b (.int k n) t d al=Ap al d)/\(∀ n t d al b,Gn b (.bool n) t d al=Ap al d)/\(∀ n t d al b,Gn b (.str n) t d al=Ap al d) /\
 (∀ n t d al b,Gn b (.agg n) t d al=Ap al d)/\(∀ n t d al b,Gn b (.tup n) t d al=Ap al d)/\(∀ i n t d al b,Gn b (.bp i n) t d al=Ap al d)/\(∀ n t d al b,Gn b (.ip n) t d al=Ap al d) /\
 (∀ e xs i d al st,Hh (.osl e xs) i d al st=some (.next ((St.mk (setT st.env i (.sl xs)) st.bx).put d (.osl e xs)) (Ap (Ap al (some i)) d))) /\
 (∀ xs i d al st,Hh (.sl xs) i d al st=some (.next (st.put d (.sl xs)) (Ap (Ap al (some i)) d)))/\(∀ k n i d al st,Hh (.int k n) i d al st=some (.next (st.put d (.int k n)) (Ap (Ap al (some i)) d))) /\
 (∀ n i d al st,Hh (.bool n) i d al st=some (.next (st.put d (.bool n)) (Ap (Ap al (some i)) d)))/\(∀ n i d al st,Hh (.str n) i d al st=some (.next (st.put d (.str n)) (Ap (Ap al (some i)) d))) /\
 (∀ n i d al st,Hh (.agg n) i d al st=some (.next (st.put d (.agg n)) (Ap (Ap al (some i)) d))) /\
 (∀ e bx d v,(St.mk e bx).put (some d) v=⟨setT e d v,bx⟩)/\(∀ e bx v,(St.mk e bx).put none v=⟨e,bx⟩) /\
 (∀ C e t,opd C e (.tmp t)=(getT e t).ro)/\(∀ C e k n,opd C e (.const (.int k n))=.int k n)/\(∀ C e n,opd C e (.const (.bool n))=.bool n)/\(∀ C e n,opd C e (.const (.string n))=.str n.data.toList) /\
 (∀ C e,opd C e (.const (.slice none 0 0))=.nils)/\(∀ C e t,raw C e (.tmp t)=getT e t) /\
 (∀ C v bx k vs d al e b0,EP C (some (.ret v,bx)) k vs d al ⟨e,b0⟩=some (.next ((St.mk e bx).put d v) (Ap (Eo C k vs al) d))) /\
 (∀ C k vs al,C.heap k=false->Aq vs=true->Eo C k vs al=al) /\
 (∀ C co tys k vs d al st,tys.toList.any (Bh C)=false->H2 C co tys k vs d al st=EP C (co k vs st.bx) k vs d al st) /\
 (∀ C co tys k vs d al st,Dl al=none->H2 C co tys k vs d al st=EP C (co k vs st.bx) k vs d al st) /\
 (∀ C,([]:List TypeId).any (Bh C)=false)/\(∀ C t r,(t :: r).any (Bh C)=(Bh C t || r.any (Bh C)))/\(∀ l:List TypeId,l.toArray.toList=l)/\(∀ b,(false || b)=b)/\(∀ b,(true || b)=true) /\
 Dl []=none/\(∀ d t r,Dl ((d,.tmp t) :: r)=Dl r)/\(∀ d i o r,Dl ((d,.box i o) :: r)=some (mW i (Dl r)))/\(∀ i,mW i none=i)/\(∀ i m,mW i (some m)=min i m) /\
 (∀ C v bx k vs d al e b0,EP C (some (.pan v,bx)) k vs d al ⟨e,b0⟩=some (.pan v ⟨e,bx⟩))/\(∀ v st (k:List (Nat×Loc)->St->Option (Ex×St)),mV (some (.pan v st)) k=some (.pan v,st)) /\
 (∀ v st (k:St->Option (Ex×St)),EX (some (.pan v,st)) k=some (.pan v,st))/\(∀ i v st,FD i (some (.pan v,st))=some (.pan v,st))/\(∀ C rs v st,CB C rs (some (.pan v,st))=some (.pan v,st.bx))/\(∀ t v st,qa (.iface t v) st=some (.pan (.iface t v) st)) /\
 (∀ k n,(PV.int k n).ro=.int k n)/\(∀ b,(PV.bool b).ro=.bool b)/\(∀ b,(PV.str b).ro=.str b)/\(∀ b,(PV.sl b).ro=.sl b)/\(∀ e b,(PV.osl e b).ro=.sl b)/\(∀ b,(PV.agg b).ro=.agg b)/\(∀ b,(PV.tup b).ro=.tup b)/\(∀ b,(PV.ip b).ro=.ip b)/\(∀ i b,(PV.bp i b).ro=.bp i b)/\PV.nils.ro=.nils /\
 (∀ k n,(PV.int k n).shutV=.int k n)/\(∀ b,(PV.bool b).shutV=.bool b)/\(∀ b,(PV.str b).shutV=.str b)/\(∀ b,(PV.sl b).shutV=.sl b)/\(∀ b,(PV.agg b).shutV=.agg (b.map PV.seal1))/\PV.nils.shutV=.sl [] /\
 (∀ k n,(PV.int k n).seal1=.int k n)/\(∀ b,(PV.bool b).seal1=.bool b)/\(∀ b,(PV.str b).seal1=.str b)/\(∀ b,(PV.sl b).seal1=.sl b):=
 ⟨gf,b8,Zc,Zd,W5,b9,ju,ca,Ze,cb,Zf,jv,jw,jx,jy,mX,jz,gh,jA,jB,jC,mY,mZ,
  jD,m5,jE,gi,jF,jG,jH,jI,m6,m7,jJ,m8,m9,na,Zi,gj,gg,cd,fun _=>rfl,fun _ _ _=>rfl,fun _=>rfl,fun _=>rfl,fun _=>rfl,rfl,fun _ _ _=>rfl,cg,fun _=>rfl,fun _ _=>rfl,fun _ _ _ _ _ _ _ _ _=>rfl,fun _ _ _=>rfl,fun _ _ _=>rfl,fun _ _ _=>rfl,fun _ _ _ _=>rfl,fun _ _ _=>rfl,
  fun _ _=>rfl,fun _=>rfl,fun _=>rfl,fun _=>rfl,fun _ _=>rfl,fun _=>rfl,fun _=>rfl,fun _=>rfl,fun _ _=>rfl,rfl,
  fun _ _=>rfl,fun _=>rfl,fun _=>rfl,fun _=>rfl,fun _=>rfl,rfl,fun _ _=>rfl,fun _=>rfl,fun _=>rfl,fun _=>rfl⟩
theorem SD:(type_of% @Wc)/\(type_of% @Sd)/\(type_of% @Y9)/\(type_of% @Y8)/\(type_of% @Qo)/\(type_of% @zt.{0,0})/\(type_of% @zB.{0,0})/\(type_of% @zu.{0})/\(type_of% @zg)/\(type_of% @if_false.{1})/\(type_of% @y6.{0,0})/\(type_of% @if_true.{1})/\(type_of% @zn.{0})/\(type_of% @zh.{0,0})/\(type_of% @za.{0})/\(type_of% @yW.{0})/\(type_of% @yY.{0})/\(type_of% @or_self)/\(type_of% @or_false)/\(type_of% @false_or)/\(type_of% @or_true)/\(type_of% @true_or)/\(type_of% @and_true)/\(type_of% @true_and)/\(type_of% @ne_eq.{1})/\(type_of% @not_false_eq_true)/\(type_of% @not_true_eq_false)/\(type_of% @decide_true)/\(type_of% @decide_false)/\(type_of% @y5)/\(type_of% @y3)/\(type_of% @beq_self_eq_true.{0})/\(type_of% @zj.{0})/\(type_of% @zm.{0})/\(type_of% @bne_self_eq_false.{0})/\(type_of% @beq_true)/\(type_of% @beq_false)/\(type_of% @zf.{0,0})/\(type_of% @zi.{0,0})/\(type_of% @zl)/\(type_of% @y1.{0})/\(type_of% @yX.{0})/\(type_of% @zD)/\(type_of% @y0)/\(type_of% @zA)/\(type_of% @zy)/\(type_of% @Loc.tmp.injEq)/\(type_of% @D7)/\(type_of% @zd.{0})/\(type_of% @zx.{0})/\(type_of% @zC.{0})/\(type_of% @y2.{0})/\(type_of% @yZ.{0}):=
 ⟨@Wc,@Sd,@Y9,@Y8,@Qo,@zt,@zB,@zu,@zg,@if_false,@y6,@if_true,@zn,@zh,@za,@yW,@yY,@or_self,@or_false,@false_or,@or_true,@true_or,@and_true,@true_and,@ne_eq,@not_false_eq_true,@not_true_eq_false,@decide_true,@decide_false,@y5,@y3,@beq_self_eq_true,@zj,@zm,@bne_self_eq_false,@beq_true,@beq_false,@zf,@zi,@zl,@y1,@yX,@zD,@y0,@zA,@zy,@Loc.tmp.injEq,@D7,@zd,@zx,@zC,@y2,@yZ⟩
theorem C0 (t i o d:Nat) (r:List (Nat×Loc)):Ap ((t,.box i o) :: r) (some d)=if t=d then Ap r (some d) else (t,.box i o) :: Ap r (some d):=by
 unfold Ap;simp only [List.filter_cons];by_cases h1:t=d <;> simp [h1]
theorem SE:(∀ (C:Cfg) (e:List PV) (f:FuncId),opd C e (.func f)=.fn f [] [])/\(∀ (C:Cfg) (e:List PV),opd C e (.const (.pointer none))=.nilp)/\(∀ (C:Cfg) (e:List PV),opd C e (.const .nilIface)=.nili)/\(∀ (C:Cfg) (e:List PV),opd C e (.const .nilFunc)=.nilf) /\
 (∀ i o,(PV.bp i o).shutV=.bp i o) /\
 (∀ i o,(PV.bp i o).seal1=.bp i o) /\
 (∀ i o,(PV.bp i o).cells=[.bp i o]) /\
 (∀ i o,(PV.bp i o).one=true) /\
 (∀ i o k d al st,Hh (PV.bp i o) k d al st=some (.next (st.put d (.bp i o)) (Ap (Ap al (some k)) d))) /\
 PV.nilp.shutV=.nilp /\
 PV.nilp.seal1=.nilp /\
 PV.nilp.ro=.nilp /\
 PV.nilp.cells=[.nilp] /\
 PV.nilp.one=true /\
 (∀ k d al st,Hh PV.nilp k d al st=some (.next (st.put d .nilp) (Ap (Ap al (some k)) d))) /\
 PV.nili.shutV=.nili /\
 PV.nili.seal1=.nili /\
 PV.nili.ro=.nili /\
 PV.nili.cells=[.nili] /\
 PV.nili.one=true /\
 (∀ k d al st,Hh PV.nili k d al st=some (.next (st.put d .nili) (Ap (Ap al (some k)) d))) /\
 PV.nilf.shutV=.nilf /\
 PV.nilf.seal1=.nilf /\
 PV.nilf.ro=.nilf /\
 PV.nilf.cells=[.nilf] /\
 PV.nilf.one=true /\
 (∀ k d al st,Hh PV.nilf k d al st=some (.next (st.put d .nilf) (Ap (Ap al (some k)) d))) /\
 (∀ f a c,(PV.fn f a c).shutV=.fn f a c) /\
 (∀ f a c,(PV.fn f a c).seal1=.fn f a c) /\
 (∀ f a c,(PV.fn f a c).ro=.fn f a c) /\
 (∀ f a c,(PV.fn f a c).cells=[.fn f a c]) /\
 (∀ f a c,(PV.fn f a c).one=true) /\
 (∀ f a c k d al st,Hh (PV.fn f a c) k d al st=some (.next (st.put d (.fn f a c)) (Ap (Ap al (some k)) d))) /\
 (∀ t v,(PV.iface t v).shutV=.iface t v) /\
 (∀ t v,(PV.iface t v).seal1=.iface t v) /\
 (∀ t v,(PV.iface t v).ro=.iface t v) /\
 (∀ t v,(PV.iface t v).cells=[.iface t v]) /\
 (∀ t v,(PV.iface t v).one=true) /\
 (∀ t v k d al st,Hh (PV.iface t v) k d al st=some (.next (st.put d (.iface t v)) (Ap (Ap al (some k)) d))) /\
 (∀ cs,(PV.ip cs).shutV=.ip cs) /\
 (∀ cs,(PV.ip cs).seal1=.ip cs) /\
 (∀ cs,(PV.ip cs).cells=[.ip cs]) /\
 (∀ cs,(PV.ip cs).one=true) /\
 (∀ cs k d al st,Hh (PV.ip cs) k d al st=some (.next (st.put d (.ip cs)) (Ap (Ap al (some k)) d))) /\
 (∀ k d al g,Gn g PV.nilp k d al=Ap al d) /\
 (∀ k d al g,Gn g PV.nili k d al=Ap al d) /\
 (∀ k d al g,Gn g PV.nilf k d al=Ap al d) /\
 (∀ f a c k d al g,Gn g (PV.fn f a c) k d al=Ap al d) /\
 (∀ t v k d al g,Gn g (PV.iface t v) k d al=Ap al d) /\
 (∀ k d al g,Gn g .nils k d al=Ap al d) /\
 (∀ k d al st,Hh .nils k d al st=some (.next (st.put d .nils) (Ap (Ap al (some k)) d))) /\
 (∀ vs k d al st,Hh (.tup vs) k d al st=some (.next (st.put d (.tup vs)) (Ap (Ap al (some k)) d))) /\
 PV.nils.cells=[.nils] /\
 PV.nils.one=true /\
 PV.nils.seal1=.sl [] /\
 (∀ e xs,(PV.osl e xs).cells=[.osl e xs]) /\
 (∀ e xs,(PV.osl e xs).shutV=.sl xs) /\
 (∀ e xs,(PV.osl e xs).seal1=.sl xs) /\
 (∀ i o,(PV.bp i o).pure=false) /\
 PV.nilp.pure=true /\
 PV.nili.pure=true /\
 PV.nilf.pure=true /\
 PV.nils.pure=true /\
 (∀ cs,(PV.agg cs).pure=Aq cs) /\
 (∀ cs,(PV.tup cs).pure=Aq cs) /\
 (∀ cs,(PV.ip cs).pure=Aq cs) /\
 (∀ t v,(PV.iface t v).pure=v.pure) /\
 (∀ e xs,(PV.osl e xs).pure=Aq xs) /\
 (∀ f a c,(PV.fn f a c).pure=(Aq a && Aq c)) /\
 (∀ t i o d (r:List (Nat×Loc)),Ap ((t,.box i o) :: r) (some d)=if t=d then Ap r (some d) else (t,.box i o) :: Ap r (some d)) /\
 (∀ C k vs,Eo C k vs []=[]):=
 ⟨fun _ _ _=>rfl,fun _ _=>rfl,fun _ _=>rfl,fun _ _=>rfl,fun _ _=>rfl,fun _ _=>rfl,fun _ _=>rfl,fun _ _=>rfl,fun _ _ _ _ _ _=>rfl,rfl,rfl,rfl,rfl,rfl,fun _ _ _ _=>rfl,rfl,rfl,rfl,rfl,rfl,fun _ _ _ _=>rfl,rfl,rfl,rfl,rfl,rfl,fun _ _ _ _=>rfl,fun _ _ _=>rfl,fun _ _ _=>rfl,fun _ _ _=>rfl,fun _ _ _=>rfl,fun _ _ _=>rfl,fun _ _ _ _ _ _ _=>rfl,fun _ _=>rfl,fun _ _=>rfl,fun _ _=>rfl,fun _ _=>rfl,fun _ _=>rfl,fun _ _ _ _ _ _=>rfl,fun _=>rfl,fun _=>rfl,fun _=>rfl,fun _=>rfl,fun _ _ _ _ _=>rfl,fun _ d _ g=>by cases g <;> cases d <;> rfl,fun _ d _ g=>by cases g <;> cases d <;> rfl,fun _ d _ g=>by cases g <;> cases d <;> rfl,fun _ _ _ _ d _ g=>by cases g <;> cases d <;> rfl,fun _ _ _ d _ g=>by cases g <;> cases d <;> rfl,fun _ d _ g=>by cases g <;> cases d <;> rfl,fun _ _ _ _=>rfl,fun _ _ _ _ _=>rfl,rfl,rfl,rfl,fun _ _=>rfl,fun _ _=>rfl,fun _ _=>rfl,fun _ _=>by simp [PV.pure],by simp [PV.pure],by simp [PV.pure],by simp [PV.pure],by simp [PV.pure],fun _=>by simp [PV.pure],fun _=>by simp [PV.pure],fun _=>by simp [PV.pure],fun _ _=>by simp [PV.pure],fun _ _=>by simp [PV.pure],fun _ _ _=>by simp [PV.pure],fun t i o d r=>C0 t i o d r,fun C k vs=>by unfold Eo;split <;> rfl⟩
theorem SC:(∀ t cs d al st,W6 t (some cs) d al st=some (.next ((St.mk st.env (st.bx++[.cells t cs])).put d (.bp st.bx.length 0)) (Ap al d))) /\
 (∀ bx d e,Si (some bx) d e=some (.next ((St.mk e bx).put d und) [])) /\
 (∀ (bx:List PBox) t cs,Bg (bx++[.cells t cs]) bx.length=some cs) /\
 (∀ C t id off cs i d st,tSize C t=some cs.length->Nk C t (.bp id off) (.agg cs) i d [] st=Si (CP st.bx id off (cs.map PV.ro)) d st.env) /\
 (∀ (bx:List PBox) t cs off vs,off+vs.length<=cs.length->vs.all PV.one=true->CP (bx++[.cells t cs]) bx.length off vs=some (bx++[.cells t (lay cs off vs)])):=
 ⟨Zg,Zh,Ut,cj,QJ⟩
def cp (u:Option TypeDesc) (v:PV) (d:Option Tmp) (al:List (Nat×Loc)) (st:St):Option OpR:=match u,v with
 | some .string,.str s=>some (.next ((St.mk st.env (st.bx++[.iter s 0])).put d (.bp st.bx.length 0)) (Ap al d))
 | _,_=>none
def Kt (v:PV) (d:Option Tmp) (al:List (Nat×Loc)) (st:St):Option OpR:=match v with
 | .bp id 0=>match st.bx[id]? with
  | some (.iter s pos)=>
   if pos < s.length then
    some (.next ((St.mk st.env (st.bx.set id (.iter s (pos+(y7 ⟨s.toArray⟩ pos).2)))).put d (.tup [.bool true,.int .i64 pos,.int .i32 (y7 ⟨s.toArray⟩ pos).1])) (Ap al d))
   else some (.next (st.put d (.tup [.bool false])) (Ap al d))
  | _=>none
 | _=>none
section
variable (C:Cfg)
theorem nb {c:C4} {draw:Bool} {al:List (Nat×Loc)} {dst ty pos after g} {op:Op} {st:St} (h:BR C c draw al ⟨dst,op,ty,pos,after,g⟩ st=match Cv C st.bx st.env op with
 | some v=>some (.next (st.put dst v) (Hf C draw st op dst al))
 | none=>none) (hn:Hf C draw st op dst al=Ap al dst):BR C c draw al ⟨dst,op,ty,pos,after,g⟩ st=Dm (Cv C st.bx st.env op) dst (Ap al dst) st:=by
 rw [h,hn];unfold Dm;cases Cv C st.bx st.env op <;> rfl
abbrev yl (ev:Code->St->Option (Ex×St)) (eo:Bool->Array Oper->List Oper->List (Nat×Loc)->St->Option (Ex×St)) (so:Bool->List (Nat×Loc)->Oper->St->Option OpR) (co:FuncId->List PV->List PBox->Option (CR×List PBox)):Prop:=
 (∀ draw ops al st,eo draw ops [] al st=some (.normal,st)) /\
 (∀ draw ops dst op ty pos after rest al st,eo draw ops (⟨dst,op,ty,pos,after,none⟩:: rest) al st=mV (so draw al ⟨dst,op,ty,pos,after,none⟩ st) (eo draw ops rest)) /\
 (∀ draw ops dst op ty pos after j w rest al st,eo draw ops (⟨dst,op,ty,pos,after,some (j,w)⟩:: rest) al st=Wf (L8 ops j st.env w) (so draw al ⟨dst,op,ty,pos,after,some (j,w)⟩) (eo draw ops rest) al dst st) /\
 (∀ draw al dst t ty pos after g st,so draw al ⟨dst,.move (.tmp t),ty,pos,after,g⟩ st=Dm (some (getT st.env t).ro) dst (Gn draw (getT st.env t) t dst al) st) /\
 (∀ draw al dst v ty pos after g st,so draw al ⟨dst,.move (.const v),ty,pos,after,g⟩ st=Dm (some (opd C st.env (.const v))) dst (Ap al dst) st) /\
 (∀ al dst i ty pos after g st,so false al ⟨dst,.assign (.tmp i),ty,pos,after,g⟩ st=Hh (getT st.env i) i dst al st) /\
 (∀ al dst k n ty pos after g st,so false al ⟨dst,.assign (.const (.int k n)),ty,pos,after,g⟩ st=Dm (some (.int k n)) dst (Ap al dst) st) /\
 (∀ al dst b ty pos after g st,so false al ⟨dst,.assign (.const (.bool b)),ty,pos,after,g⟩ st=Dm (some (.bool b)) dst (Ap al dst) st) /\
 (∀ al dst ty pos after g st,so false al ⟨dst,.assign (.const (.slice none 0 0)),ty,pos,after,g⟩ st=Dm (some (Sg C ty)) dst (Ap al dst) st) /\
 (∀ al dst x ty pos after g st,A5 C ty=true->so true al ⟨dst,.assign x,ty,pos,after,g⟩ st=Dm (some (opd C st.env x)) dst (Ap al dst) st) /\
 (∀ al dst i ty pos after g st,A5 C ty=false->so true al ⟨dst,.assign (.tmp i),ty,pos,after,g⟩ st=Hh (getT st.env i) i dst al st) /\
 (∀ al dst ty pos after g st,A5 C ty=false->so true al ⟨dst,.assign (.const (.slice none 0 0)),ty,pos,after,g⟩ st=Dm (some (Sg C ty)) dst (Ap al dst) st) /\
 (∀ draw al dst c a b ty pos after g st,so draw al ⟨dst,.pick c a b,ty,pos,after,g⟩ st=Dm (We (opd C st.env c) (opd C st.env a) (opd C st.env b)) dst (Ap al dst) st) /\
 (∀ draw al dst bop t x y ty2 ty pos after g st,so draw al ⟨dst,.binOp bop t x y ty2,ty,pos,after,g⟩ st=Dm (EU C bop t (opd C st.env x) (opd C st.env y)) dst (Ap al dst) st) /\
 (∀ draw al dst uop t x ty pos after g st,so draw al ⟨dst,.unOp uop t x,ty,pos,after,g⟩ st=Dm (N8 uop (opd C st.env x)) dst (Ap al dst) st) /\
 (∀ draw al dst s d x ty pos after g st,so draw al ⟨dst,.convert s d x,ty,pos,after,g⟩ st=Dm (GV C s d (opd C st.env x)) dst (Ap al dst) st) /\
 (∀ draw al dst t x i ty pos after g st,so draw al ⟨dst,.indexAddr t x i,ty,pos,after,g⟩ st=Dm (FC C t (opd C st.env x) (opd C st.env i)) dst (Ap al dst) st) /\
 (∀ draw al dst t x i ty pos after g st,so draw al ⟨dst,.index t x i,ty,pos,after,g⟩ st=Dm (EK C t (opd C st.env x) (opd C st.env i)) dst (Ap al dst) st) /\
 (∀ draw al dst t x lo hi ty pos after g st,so draw al ⟨dst,.slice t x lo hi none,ty,pos,after,g⟩ st=Dm (HQ C t (opd C st.env x) (lo.map (opd C st.env)) (hi.map (opd C st.env))) dst (Ap al dst) st) /\
 (∀ draw al dst x i ty pos after g st,so draw al ⟨dst,.extract x i,ty,pos,after,g⟩ st=Dm (cc (opd C st.env x) i) dst (Ap al dst) st) /\
 (∀ draw al dst args tys ty pos after g st,so draw al ⟨dst,.call { callee:=.builtin .len,args,argTypes:=tys },ty,pos,after,g⟩ st=Dm (dX C st.env tys[0]? args[0]?) dst (Ap al dst) st) /\
 (∀ draw al dst args tys ty pos after g st,so draw al ⟨dst,.call { callee:=.builtin .max,args,argTypes:=tys },ty,pos,after,g⟩ st=Dm (mK (args.toList.map (opd C st.env))) dst (Ap al dst) st) /\
 (∀ draw al dst args tys ty pos after g st,so draw al ⟨dst,.call { callee:=.builtin .min,args,argTypes:=tys },ty,pos,after,g⟩ st=Dm (mL (args.toList.map (opd C st.env))) dst (Ap al dst) st) /\
 (∀ draw al dst args tys ty pos after g st,so draw al ⟨dst,.call { callee:=.builtin .append,args,argTypes:=tys },ty,pos,after,g⟩ st=L1 C st al args tys dst) /\
 (∀ al dst k args tys ty pos after g st,so false al ⟨dst,.call { callee:=.value (.func k),args,argTypes:=tys },ty,pos,after,g⟩ st =
  H2 C co tys k (args.toList.map (fun x=>(opd C st.env x).shutV)) dst al st) /\
 (∀ al dst k args tys ty pos after g st,C.heap k=false->Aq (args.toList.map (fun x=>(opd C st.env x).shutV))=true->so true al ⟨dst,.call { callee:=.value (.func k),args,argTypes:=tys },ty,pos,after,g⟩ st =
  EP C (co k (args.toList.map (fun x=>(opd C st.env x).shutV)) st.bx) k (args.toList.map (fun x=>(opd C st.env x).shutV)) dst al st) /\
 (∀ draw al dst t len parts ty pos after g st,so draw al ⟨dst,.buildSlice t len parts,ty,pos,after,g⟩ st=Dm (AW C t len (parts.toList.map fun p=>(p.1,opd C st.env p.2))) dst (Ap al dst) st) /\
 (∀ draw al dst t l c ty pos after g st,so draw al ⟨dst,.makeSlice t l c,ty,pos,after,g⟩ st=Dm (Gy C t (opd C st.env l) (opd C st.env c)) dst (Ap al dst) st) /\
 (∀ draw al dst t a ty pos after g st,so draw al ⟨dst,.load t a,ty,pos,after,g⟩ st=Ld C draw al dst t (opd C st.env a) st) /\
 (∀ draw al dst t ty pos after g st,so draw al ⟨dst,.alloc t,ty,pos,after,g⟩ st=W6 t (zeroCells C t) dst al st) /\
 (∀ draw al dst t a i ty pos after g st,so draw al ⟨dst,.store t a (.tmp i),ty,pos,after,g⟩ st=Nk C t (opd C st.env a) (getT st.env i) i dst al st) /\
 (∀ draw al dst t x ty pos after g st,((opd C st.env x).cells.map PV.ro).all PV.one=true->so draw al ⟨dst,.box t x,ty,pos,after,g⟩ st =
  some (.next ((St.mk st.env (st.bx++[.cells t ((opd C st.env x).cells.map PV.ro)])).put dst (.bp st.bx.length 0)) (Ap al dst))) /\
 (∀ al dst s ty pos after g st,so false al ⟨dst,.assign (.const (.string s)),ty,pos,after,g⟩ st=Dm (some (.str s.data.toList)) dst (Ap al dst) st) /\
 (∀ al dst cs ty pos after g st,so false al ⟨dst,.assign (.const (.agg cs)),ty,pos,after,g⟩ st=Dm (some (cval (.agg cs)).ro) dst (Ap al dst) st) /\
 (∀ al dst ty pos after g st,so false al ⟨dst,.assign (.const (.pointer none)),ty,pos,after,g⟩ st=Dm (some .nilp) dst (Ap al dst) st) /\
 (∀ al dst ty pos after g st,so false al ⟨dst,.assign (.const .nilIface),ty,pos,after,g⟩ st=Dm (some .nili) dst (Ap al dst) st) /\
 (∀ al dst ty pos after g st,so false al ⟨dst,.assign (.const .nilFunc),ty,pos,after,g⟩ st=Dm (some .nilf) dst (Ap al dst) st) /\
 (∀ al dst f ty pos after g st,so false al ⟨dst,.assign (.func f),ty,pos,after,g⟩ st=Dm (some (.fn f [] [])) dst (Ap al dst) st) /\
 (∀ draw al dst s x f ty pos after g st,so draw al ⟨dst,.fieldAddr s x f,ty,pos,after,g⟩ st=Dm (AH C s f (opd C st.env x)) dst (Ap al dst) st) /\
 (∀ draw al dst s x f ty pos after g st,so draw al ⟨dst,.field s x f,ty,pos,after,g⟩ st=Dm (Bu C s f (opd C st.env x)) dst (Ap al dst) st) /\
 (∀ draw al dst t parts ty pos after g st,so draw al ⟨dst,.build t parts,ty,pos,after,g⟩ st=Dm (Bp C t (parts.toList.map fun p=>(p.1,(opd C st.env p.2).shutV))) dst (Ap al dst) st) /\
 (∀ draw al dst x ty pos after g st,so draw al ⟨dst,.nilCheck x,ty,pos,after,g⟩ st=Dm (C8 (opd C st.env x)) dst (Ap al dst) st) /\
 (∀ draw al dst f first captured ty pos after g st,so draw al ⟨dst,.makeFunc (.func f) first captured,ty,pos,after,g⟩ st=Dm (some (.fn f (first.toList.map fun x=>(opd C st.env x).shutV) (captured.toList.map fun x=>(opd C st.env x).shutV))) dst (Ap al dst) st) /\
 (∀ draw al dst k args tys ty pos after g st,so draw al ⟨dst,.call { callee:=.value (.tmp k),args,argTypes:=tys },ty,pos,after,g⟩ st =
  Al C co (opd C st.env (.tmp k)) (args.toList.map (fun x=>(opd C st.env x).shutV)) dst al st) /\
 (∀ draw al dst x ty pos after g st,so draw al ⟨dst,.panic x,ty,pos,after,g⟩ st=qa (opd C st.env x) st) /\
 (∀ draw al dst t a k n ty pos after g st,so draw al ⟨dst,.store t a (.const (.int k n)),ty,pos,after,g⟩ st=IV C t (opd C st.env a) (.int k n) dst al st) /\
 (∀ draw al dst t a b ty pos after g st,so draw al ⟨dst,.store t a (.const (.bool b)),ty,pos,after,g⟩ st=IV C t (opd C st.env a) (.bool b) dst al st) /\
 (∀ draw al dst t a s ty pos after g st,so draw al ⟨dst,.store t a (.const (.string s)),ty,pos,after,g⟩ st=IV C t (opd C st.env a) (.str s.data.toList) dst al st) /\
 (∀ draw al dst t a cs ty pos after g st,so draw al ⟨dst,.store t a (.const (.agg cs)),ty,pos,after,g⟩ st=IV C t (opd C st.env a) (cval (.agg cs)).ro dst al st) /\
 (∀ draw al dst t x ty pos after g st,so draw al ⟨dst,.range t x,ty,pos,after,g⟩ st=cp (C.P.underlying t) (opd C st.env x) dst al st) /\
 (∀ draw al dst x ty pos after g st,so draw al ⟨dst,.next x true,ty,pos,after,g⟩ st=Kt (opd C st.env x) dst al st) /\
 (∀ draw al dst t x ty pos after g st,so draw al ⟨dst,.makeInterface t x,ty,pos,after,g⟩ st=Dm (mkIf (C.P.underlying t) t (opd C st.env x).shutV) dst (Ap al dst) st)
abbrev sD (ev:Code->St->Option (Ex×St)) (eo:Bool->Array Oper->List Oper->List (Nat×Loc)->St->Option (Ex×St)) (so:Bool->List (Nat×Loc)->Oper->St->Option OpR)
 (co:FuncId->List PV->List PBox->Option (CR×List PBox)):Prop:=(∀ a b st,ev (.seq a b) st=EX (ev a st) (ev b))/\(∀ i ops draw st,ev (.region i ops draw) st=eo draw ops ops.toList [] st)/\(∀ st,ev .ret st=some (.ret,st))/\(∀ st,ev .skip st=some (.normal,st)) /\
 (∀ i st,ev (.exit i) st=some (.exit i,st))/\(∀ i b st,ev (.block i b) st=FD i (ev b st)) /\
 (∀ o a b st,ev (.cond o a b) st=Oh (opd C st.env o) (ev a) (ev b) st) /\
 yl C ev eo so co
abbrev wA (dr:Array Oper->St->Option (Ex×St)) (ev:Code->St->Option (Ex×St)) (eo:Bool->Array Oper->List Oper->List (Nat×Loc)->St->Option (Ex×St)) (so:Bool->List (Nat×Loc)->Oper->St->Option OpR)
 (co:FuncId->List PV->List PBox->Option (CR×List PBox)):Prop:=(∀ a b st,ev (.seq a b) st=EX (ev a st) (ev b))/\((∀ i ops st,ev (.region i ops false) st=eo false ops ops.toList [] st)/\(∀ i ops st,ev (.region i ops true) st=dr ops st))/\(∀ st,ev .ret st=some (.ret,st))/\(∀ st,ev .skip st=some (.normal,st)) /\
 (∀ i st,ev (.exit i) st=some (.exit i,st))/\(∀ i b st,ev (.block i b) st=FD i (ev b st)) /\
 (∀ o a b st,ev (.cond o a b) st=Oh (opd C st.env o) (ev a) (ev b) st) /\
 yl C ev eo so co
theorem Nl:∃ (ev:Code->St->Option (Ex×St)) (eo:Bool->Array Oper->List Oper->List (Nat×Loc)->St->Option (Ex×St)) (so:Bool->List (Nat×Loc)->Oper->St->Option OpR)
 (co:FuncId->List PV->List PBox->Option (CR×List PBox)),(ev=Cp C/\co=Ak C (Ae C)/\eo=evOps C (Ae C)/\so=BR C (Ae C)) /\
 sD C ev eo so co:=by
 have nt:∀ (draw:Bool) (st:St) (op:Op) (dst:Option Tmp) (al:List (Nat×Loc)),origin C st op=none->Hf C draw st op dst al=Ap al dst:=by
  intro draw st op dst al h
  have hD:F0 op st.env dst=[]:=by
   unfold F0;split
   · rename_i t d
     split
     · rename_i x xs hx
       unfold origin at h;simp only [hx] at h;cases h
     · rfl
   · rfl
  unfold Hf;rw [hD];rw [h];cases draw <;> cases dst <;> rfl
 have pr:∀ (draw:Bool) (al:List (Nat×Loc)) dst ty pos after g (op:Op) (st:St),(BR C (Ae C) draw al ⟨dst,op,ty,pos,after,g⟩ st=match Cv C st.bx st.env op with
  | some v=>some (.next (st.put dst v) (Hf C draw st op dst al))
  | none=>none)->origin C st op=none->BR C (Ae C) draw al ⟨dst,op,ty,pos,after,g⟩ st=Dm (Cv C st.bx st.env op) dst (Ap al dst) st:=
  fun draw al dst ty pos after g op st h ho=>nb C h (nt _ _ _ _ _ ho)
 refine ⟨Cp C,evOps C (Ae C),BR C (Ae C),Ak C (Ae C),⟨rfl,rfl,rfl,rfl⟩,dT,RX,dS,YR,YS,V4,?_,fun _ _ _ _=>rfl,?_,?_,
  ?_,?_,?_,?_,?_,?_,?_,?_,?_,?_,?_,?_,?_,?_,?_,?_,?_,?_,?_,?_,fun _ _ _ _ _ _ _ _ _ _=>rfl,?_,?_,?_,?_,?_,?_,?_,?_,
  fun _ _ _ _ _ _ _ _=>rfl,fun _ _ _ _ _ _ _ _=>rfl,fun _ _ _ _ _ _ _=>rfl,fun _ _ _ _ _ _ _=>rfl,fun _ _ _ _ _ _ _=>rfl,fun _ _ _ _ _ _ _ _=>rfl,?_,?_,?_,?_,?_,?_,?_,?_,?_,?_,?_,?_,?_,?_⟩
 · intro o a b st
   rw [jb];unfold Oh;cases opd C st.env o <;> rfl
 · intro draw ops dst op ty pos after rest al st
   show (match BR C (Ae C) draw al ⟨dst,op,ty,pos,after,none⟩ st with
    | none=>none
    | some (.next st' al')=>evOps C (Ae C) draw ops rest al' st'
    | some (.pan v st')=>some (.pan v,st'))=_
   unfold mV;cases BR C (Ae C) draw al ⟨dst,op,ty,pos,after,none⟩ st with
   | none=>rfl
   | some r=>cases r <;> rfl
 · intro draw ops dst op ty pos after j w rest al st
   have hw:Is ops st.env ⟨dst,op,ty,pos,after,some (j,w)⟩=L8 ops j st.env w:=by
    unfold L8 Is;simp only;cases (ops[j]?).bind (·.dst) <;> rfl
   rw [evOps,hw];unfold Wf mV;cases L8 ops j st.env w with
   | none=>rfl
   | some b=>cases b with
    | false=>rfl
    | true=>
     simp only;cases BR C (Ae C) draw al ⟨dst,op,ty,pos,after,some (j,w)⟩ st with
     | none=>rfl
     | some r=>cases r <;> rfl
 · intro draw al dst t ty pos after g st
   show some (OpR.next (st.put dst (getT st.env t).ro) (Hf C draw st (.move (.tmp t)) dst al))=some (OpR.next (st.put dst (getT st.env t).ro) (Gn draw (getT st.env t) t dst al));unfold Hf Gn F0
   rw [show origin C st (.move (.tmp t))=(match getT st.env t with
    | .osl _ _=>some (Loc.tmp t)
    | _=>none) from rfl]
   cases draw with
   | false=>generalize getT st.env t=v;cases v <;> cases dst <;> rfl
   | true=>
    cases dst with
    | none=>generalize getT st.env t=v;cases v <;> rfl
    | some d=>
     by_cases h:t=d
     · subst h
       cases hv:getT st.env t <;> simp [hv]
     · cases hv:getT st.env t <;> simp [hv,h]
 · intro draw al dst v ty pos after g st
   exact pr draw al dst ty pos after g (.move (.const v)) st rfl rfl
 · intro al dst i ty pos after g st
   show some (OpR.next ((EV C st (.tmp i) ty).2.put dst (EV C st (.tmp i) ty).1) (Ap (Ap al (some i)) dst))=_
   rw [show EV C st (.tmp i) ty=(match getT st.env i with
    | .osl e xs=>(.osl e xs,{ st with env:=setT st.env i (.sl xs) })
    | v=>(v,st)) from rfl]
   unfold Hh;generalize getT st.env i=v;cases v <;> rfl
 · intro al dst k n ty pos after g st;rfl
 · intro al dst b ty pos after g st;rfl
 · intro al dst ty pos after g st
   show some (OpR.next ((EV C st (.const (.slice none 0 0)) ty).2.put dst (EV C st (.const (.slice none 0 0)) ty).1) (Ap al dst))=_;unfold EV Sg Dm;simp only;split <;> (try split) <;> simp_all
 · intro al dst x ty pos after g st h
   show (if true && A5 C ty then _ else _)=_;rw [h];rfl
 · intro al dst i ty pos after g st h
   show (if true && A5 C ty then _ else some (OpR.next ((EV C st (.tmp i) ty).2.put dst (EV C st (.tmp i) ty).1) (Ap (Ap al (some i)) dst)))=_;rw [h,if_neg (by decide)]
   rw [show EV C st (.tmp i) ty=(match getT st.env i with
    | .osl e xs=>(.osl e xs,{ st with env:=setT st.env i (.sl xs) })
    | v=>(v,st)) from rfl]
   unfold Hh;generalize getT st.env i=v;cases v <;> rfl
 · intro al dst ty pos after g st h
   show (if true && A5 C ty then _ else some (OpR.next ((EV C st (.const (.slice none 0 0)) ty).2.put dst (EV C st (.const (.slice none 0 0)) ty).1) (Ap al dst)))=_;rw [h,if_neg (by decide)];unfold EV Sg Dm;simp only;split <;> (try split) <;> simp_all
 · intro draw al dst c a b ty pos after g st
   rw [pr draw al dst ty pos after g (.pick c a b) st rfl rfl]
   show Dm (match opd C st.env c with
    | .bool t=>some (if t then opd C st.env a else opd C st.env b)
    | _=>none) dst (Ap al dst) st=_
   unfold We;cases opd C st.env c <;> rfl
 · intro draw al dst bop t x y ty2 ty pos after g st;exact pr draw al dst ty pos after g _ st rfl rfl
 · intro draw al dst uop t x ty pos after g st;exact pr draw al dst ty pos after g _ st rfl rfl
 · intro draw al dst s d x ty pos after g st;exact pr draw al dst ty pos after g _ st rfl rfl
 · intro draw al dst t x i ty pos after g st;exact pr draw al dst ty pos after g _ st rfl rfl
 · intro draw al dst t x i ty pos after g st;exact pr draw al dst ty pos after g _ st rfl rfl
 · intro draw al dst t x lo hi ty pos after g st;exact pr draw al dst ty pos after g _ st rfl rfl
 · intro draw al dst x i ty pos after g st
   rw [pr draw al dst ty pos after g (.extract x i) st rfl rfl]
   show Dm (match opd C st.env x with
    | .tup vs=>vs[i]?.map PV.ro
    | _=>none) dst (Ap al dst) st=_
   unfold cc;cases opd C st.env x <;> rfl
 · intro draw al dst args tys ty pos after g st
   rw [pr draw al dst ty pos after g _ st rfl rfl]
   show Dm (match tys[0]?,args[0]? with
    | some t,some x=>Uo C t (opd C st.env x)
    | _,_=>none) dst (Ap al dst) st=_
   unfold dX;cases tys[0]? <;> cases args[0]? <;> rfl
 · intro draw al dst args tys ty pos after g st;exact pr draw al dst ty pos after g _ st rfl rfl
 · intro draw al dst args tys ty pos after g st;exact pr draw al dst ty pos after g _ st rfl rfl
 · intro al dst k args tys ty pos after g st
   show (if (false && WQ (.func k)) && (C.heap k || !(Aq (args.toList.map fun x=>(opd C st.env x).shutV))) then none else match JJ C (.func k) tys k (([]:List PV)++args.toList.map (fun x=>(opd C st.env x).shutV)++[]) al st.bx with
    | some m=>match Ak C (Ae C) k (([]:List PV)++args.toList.map (fun x=>(opd C st.env x).shutV)++[]) (st.bx.take m) with
     | some (.ret v,bx)=>if decide (bx.length=m) && (v.under m && bx.all (·.under m)) then some (OpR.next ((St.mk st.env (bx++st.bx.drop m)).put dst v) (Ap al dst)) else none
     | some (.pan v,bx)=>if decide (bx.length=m) && (v.under m && bx.all (·.under m)) then some (OpR.pan v { st with bx:=bx++st.bx.drop m }) else none
     | none=>none
    | none=>match Ak C (Ae C) k (([]:List PV)++args.toList.map (fun x=>(opd C st.env x).shutV)++[]) st.bx with
     | some (.ret v,bx)=>some (OpR.next ((St.mk st.env bx).put dst v) (Ap (Eo C k (([]:List PV)++args.toList.map (fun x=>(opd C st.env x).shutV)++[]) al) dst))
     | some (.pan v,bx)=>some (OpR.pan v { st with bx })
     | none=>none)=_
   rw [y1,yX];unfold H2;cases JJ C (.func k) tys k (args.toList.map fun x=>(opd C st.env x).shutV) al st.bx with
   | some m=>
    simp only;unfold Nj;cases Ak C (Ae C) k (args.toList.map fun x=>(opd C st.env x).shutV) (st.bx.take m) with
    | none=>rfl
    | some r=>obtain ⟨r,b⟩:=r;cases r <;> rfl
   | none=>
    simp only;unfold EP;cases Ak C (Ae C) k (args.toList.map fun x=>(opd C st.env x).shutV) st.bx with
    | none=>rfl
    | some r=>obtain ⟨r,b⟩:=r;cases r <;> rfl
 · intro al dst k args tys ty pos after g st hh hp
   show (if (true && WQ (.func k)) && (C.heap k || !(Aq (([]:List PV)++args.toList.map (fun x=>(opd C st.env x).shutV)++[]))) then none else match JJ C (.func k) tys k (([]:List PV)++args.toList.map (fun x=>(opd C st.env x).shutV)++[]) al st.bx with
    | some m=>match Ak C (Ae C) k (([]:List PV)++args.toList.map (fun x=>(opd C st.env x).shutV)++[]) (st.bx.take m) with
     | some (.ret v,bx)=>if decide (bx.length=m) && (v.under m && bx.all (·.under m)) then some (OpR.next ((St.mk st.env (bx++st.bx.drop m)).put dst v) (Ap al dst)) else none
     | some (.pan v,bx)=>if decide (bx.length=m) && (v.under m && bx.all (·.under m)) then some (OpR.pan v { st with bx:=bx++st.bx.drop m }) else none
     | none=>none
    | none=>match Ak C (Ae C) k (([]:List PV)++args.toList.map (fun x=>(opd C st.env x).shutV)++[]) st.bx with
     | some (.ret v,bx)=>some (OpR.next ((St.mk st.env bx).put dst v) (Ap (Eo C k (([]:List PV)++args.toList.map (fun x=>(opd C st.env x).shutV)++[]) al) dst))
     | some (.pan v,bx)=>some (OpR.pan v { st with bx })
     | none=>none)=_
   rw [y1,yX,hh,hp]
   have Cz:JJ C (.func k) tys k (args.toList.map fun x=>(opd C st.env x).shutV) al st.bx=none:=by
    unfold JJ cutAt;rw [hh,hp];cases (YJ (.func k) && fJ C tys) <;> cases Dl al <;> rfl
   rw [Cz];unfold EP;cases Ak C (Ae C) k (args.toList.map fun x=>(opd C st.env x).shutV) st.bx with
   | none=>rfl
   | some r=>obtain ⟨r,b⟩:=r;cases r <;> rfl
 · intro draw al dst t len parts ty pos after g st
   show (match AW C t len (parts.toList.map fun p=>(p.1,opd C st.env p.2)) with
    | some v=>some (OpR.next (st.put dst v) (Ap al dst))
    | none=>none)=_
   unfold Dm;cases AW C t len (parts.toList.map fun p=>(p.1,opd C st.env p.2)) <;> rfl
 · intro draw al dst t l c ty pos after g st
   show (match Gy C t (opd C st.env l) (opd C st.env c) with
    | some v=>some (OpR.next (st.put dst v) (Ap al dst))
    | none=>none)=_
   unfold Dm;cases Gy C t (opd C st.env l) (opd C st.env c) <;> rfl
 · intro draw al dst t a ty pos after g st
   show (match HO C st.bx t (opd C st.env a) with
    | some v=>some (OpR.next (st.put dst v) (Hf C draw st (.load t a) dst al))
    | none=>none)=_
   unfold Ld;cases HO C st.bx t (opd C st.env a) with
   | none=>rfl
   | some x=>cases draw <;> cases dst <;> rfl
 · intro draw al dst t ty pos after g st
   show (match tZero C t with
    | some z=>if (z.cells.map PV.ro).all PV.one then some (OpR.next ((St.mk st.env (st.bx++[PBox.cells t (z.cells.map PV.ro)])).put dst (PV.bp st.bx.length 0)) (Ap al dst)) else none
    | none=>none)=_
   unfold W6 zeroCells;cases tZero C t with
   | none=>rfl
   | some z=>
    simp only;split <;> rfl
 · intro draw al dst t a i ty pos after g st
   show (match opd C st.env a with
    | .bp id off=>
     if tSize C t=some (laid (EV C st (.tmp i) t).1).length then
      match CP (EV C st (.tmp i) t).2.bx id off (laid (EV C st (.tmp i) t).1) with
      | some bx=>some (OpR.next ((St.mk (EV C st (.tmp i) t).2.env bx).put dst und) (Ap (al.filter fun p=>(match p.2 with | .box i _=>i != id | .tmp k=>(match (zo i) with | .tmp j=>k != j | _=>true))) dst))
      | none=>none
     else none
    | _=>none)=_
   rw [show EV C st (.tmp i) t=(match getT st.env i with
    | .osl e xs=>(.osl e xs,{ st with env:=setT st.env i (.sl xs) })
    | v=>(v,st)) from rfl]
   unfold Nk;generalize getT st.env i=v;generalize opd C st.env a=p;cases p <;> cases v <;> rfl
 · intro draw al dst t x ty pos after g st h
   show (if ((opd C st.env x).cells.map PV.ro).all PV.one then _ else none)=_;rw [if_pos h]
 · intro draw al dst s x f ty pos after g st;exact pr draw al dst ty pos after g _ st rfl rfl
 · intro draw al dst s x f ty pos after g st;exact pr draw al dst ty pos after g _ st rfl rfl
 · intro draw al dst t parts ty pos after g st;exact pr draw al dst ty pos after g _ st rfl rfl
 · intro draw al dst x ty pos after g st
   rw [pr draw al dst ty pos after g (.nilCheck x) st rfl rfl]
   show Dm (match opd C st.env x with
    | .ip cs=>some (.ip cs)
    | .bp id off=>some (.bp id off)
    | .fn f a b=>some (.fn f a b)
    | _=>none) dst (Ap al dst) st=_
   unfold C8;cases opd C st.env x <;> rfl
 · intro draw al dst f first captured ty pos after g st;exact pr draw al dst ty pos after g _ st rfl rfl
 · intro draw al dst k args tys ty pos after g st
   have xU:∀ (x:Bool) (y z:Option OpR),(if (draw && WQ (.tmp k)) && x then y else z)=z:=fun x y z=>by simp [WQ]
   show (match (match opd C st.env (.tmp k) with
    | .fn k first captured=>some (k,first.map PV.shutV++args.toList.map (fun x=>(opd C st.env x).shutV)++captured.map PV.shutV)
    | _=>none) with
    | some (k2,vs)=>if (draw && WQ (.tmp k)) && (C.heap k2 || !(Aq vs)) then none else (match JJ C (.tmp k) tys k2 vs al st.bx with
    | some m=>match Ak C (Ae C) k2 vs (st.bx.take m) with
     | some (.ret v,bx)=>if decide (bx.length=m) && (v.under m && bx.all (·.under m)) then some (OpR.next ((St.mk st.env (bx++st.bx.drop m)).put dst v) (Ap al dst)) else none
     | some (.pan v,bx)=>if decide (bx.length=m) && (v.under m && bx.all (·.under m)) then some (OpR.pan v { st with bx:=bx++st.bx.drop m }) else none
     | none=>none
    | none=>match Ak C (Ae C) k2 vs st.bx with
     | some (.ret v,bx)=>some (OpR.next ((St.mk st.env bx).put dst v) (Ap (Eo C k2 vs al) dst))
     | some (.pan v,bx)=>some (OpR.pan v { st with bx })
     | none=>none)
    | none=>none)=_
   unfold Al;cases opd C st.env (.tmp k) with
   | fn f a b=>
    simp only [xU];have Cz:∀ k2 vs,JJ C (.tmp k) tys k2 vs al st.bx=none:=fun k2 vs=>by unfold JJ;rfl
    rw [Cz];unfold EP;cases Ak C (Ae C) f _ st.bx with
    | none=>rfl
    | some r=>obtain ⟨r,b⟩:=r;cases r <;> rfl
   | _=>rfl
 · intro draw al dst x ty pos after g st
   show (match opd C st.env x with
    | .iface t v=>some (OpR.pan (.iface t v) st)
    | _=>none)=_
   unfold qa;cases opd C st.env x <;> rfl
 · intro draw al dst t a k n ty pos after g st
   show (match opd C st.env a with | .bp id off=>_ | _=>none)=_;unfold IV;cases opd C st.env a <;> rfl
 · intro draw al dst t a b ty pos after g st
   show (match opd C st.env a with | .bp id off=>_ | _=>none)=_;unfold IV;cases opd C st.env a <;> rfl
 · intro draw al dst t a s ty pos after g st
   show (match opd C st.env a with | .bp id off=>_ | _=>none)=_;unfold IV;cases opd C st.env a <;> rfl
 · intro draw al dst t a cs ty pos after g st
   show (match opd C st.env a with | .bp id off=>_ | _=>none)=_;unfold IV;cases opd C st.env a <;> rfl
 · intro draw al dst t x ty pos after g st
   show (match C.P.underlying t,opd C st.env x with
    | some .string,.str s=>some (OpR.next ((St.mk st.env (st.bx++[PBox.iter s 0])).put dst (.bp st.bx.length 0)) (Ap al dst))
    | _,_=>none)=_
   unfold cp;rfl
 · intro draw al dst x ty pos after g st
   show (match opd C st.env x with
    | .bp id 0=>match st.bx[id]? with
     | some (PBox.iter s pos)=>
      if pos < s.length then
       some (OpR.next ((St.mk st.env (st.bx.set id (PBox.iter s (pos+(y7 ⟨s.toArray⟩ pos).2)))).put dst (.tup [.bool true,.int .i64 pos,.int .i32 (y7 ⟨s.toArray⟩ pos).1])) (Ap al dst))
      else some (OpR.next (st.put dst (.tup [.bool false])) (Ap al dst))
     | _=>none
    | _=>none)=_
   unfold Kt;rfl
 · intro draw al dst t x ty pos after g st;exact pr draw al dst ty pos after g _ st rfl rfl
theorem Zj:∃ (ev:Code->St->Option (Ex×St)) (eo:Bool->Array Oper->List Oper->List (Nat×Loc)->St->Option (Ex×St)) (so:Bool->List (Nat×Loc)->Oper->St->Option OpR)
 (co:FuncId->List PV->List PBox->Option (CR×List PBox)),(ev=Cp C/\co=Ak C (Ae C)) /\
 sD C ev eo so co:=by
 obtain ⟨ev,eo,so,co,⟨h1,h2,_⟩,r⟩:=Nl C;exact ⟨ev,eo,so,co,⟨h1,h2⟩,r⟩
theorem Pm:∃ (dr:Array Oper->St->Option (Ex×St)) (ev:Code->St->Option (Ex×St)) (eo:Bool->Array Oper->List Oper->List (Nat×Loc)->St->Option (Ex×St)) (so:Bool->List (Nat×Loc)->Oper->St->Option OpR)
 (co:FuncId->List PV->List PBox->Option (CR×List PBox)),(ev=Hg C/\co=Ak C (Ae C)/\eo=evOps C (Ae C)/\dr=GX C (Ae C)) /\
 wA C dr ev eo so co:=by
 obtain ⟨ev,eo,so,co,⟨h1,h2,h3,_⟩,r1,r2,r3,r4,r5,r6,r7,r⟩:=Nl C;refine ⟨GX C (Ae C),Hg C,eo,so,co,⟨rfl,h2,h3,rfl⟩,K8 true,⟨fun i ops st=>?_,fun i ops st=>K7 true i ops true st⟩,YQ true,V0 true,V1 true,HV true,?_,r⟩
 · rw [h3]
   exact K7 true i ops false st
 · intro o a b st
   have hx:=V2 (C:=C) true o a b st;show Hg C (.cond o a b) st=Oh (opd C st.env o) (Hg C a) (Hg C b) st;unfold Hg;rw [hx];unfold Oh;cases opd C st.env o <;> rfl
end
theorem SF:(type_of% @L8.eq_def)/\(type_of% @EU.eq_1)/\(type_of% @EU.eq_2)/\(type_of% @EU.eq_3)/\(type_of% @EU.eq_4)/\(type_of% @EU.eq_5)/\(type_of% @EU.eq_6)/\(type_of% @EU.eq_7)/\(type_of% @EU.eq_8)/\(type_of% @EU.eq_9)/\(type_of% @EU.eq_10)/\(type_of% @EU.eq_11)/\(type_of% @EU.eq_12)/\(type_of% @EU.eq_13)/\(type_of% @EU.eq_14)/\(type_of% @EU.eq_15)/\(type_of% @ET.eq_1)/\(type_of% @ET.eq_2)/\(type_of% @ET.eq_3)/\(type_of% @ET.eq_4)/\(type_of% @ET.eq_5)/\(type_of% @ET.eq_6)/\(type_of% @ET.eq_7)/\(type_of% @ET.eq_8)/\(type_of% @ET.eq_9)/\(type_of% @ET.eq_10)/\(type_of% @ET.eq_11)/\(type_of% @ET.eq_12)/\(type_of% @ET.eq_13)/\(type_of% @ET.eq_14)/\(type_of% @FC.eq_def)/\(type_of% @Di.eq_def)/\(type_of% @readCells.eq_def)/\(type_of% @Uo.eq_def)/\(type_of% @dX.eq_def)/\(type_of% @CU.eq_1)/\(type_of% @CU.eq_2)/\(type_of% @Iu.eq_1)/\(type_of% @Iu.eq_2)/\(type_of% @Je.eq_1)/\(type_of% @Je.eq_2)/\(type_of% @L1.eq_def)/\(type_of% @DV.eq_def)/\(type_of% @Qd.eq_1)/\(type_of% @Qd.eq_2)/\(type_of% @Gx.eq_1)/\(type_of% @Gx.eq_2)/\(type_of% @FZ.eq_1)/\(type_of% @FZ.eq_2)/\(type_of% @Bg.eq_def)/\(type_of% @und.eq_def)/\(type_of% @zE):=
 ⟨@L8.eq_def,@EU.eq_1,@EU.eq_2,@EU.eq_3,@EU.eq_4,@EU.eq_5,@EU.eq_6,@EU.eq_7,@EU.eq_8,@EU.eq_9,@EU.eq_10,@EU.eq_11,@EU.eq_12,@EU.eq_13,@EU.eq_14,@EU.eq_15,@ET.eq_1,@ET.eq_2,@ET.eq_3,@ET.eq_4,@ET.eq_5,@ET.eq_6,@ET.eq_7,@ET.eq_8,@ET.eq_9,@ET.eq_10,@ET.eq_11,@ET.eq_12,@ET.eq_13,@ET.eq_14,@FC.eq_def,@Di.eq_def,@readCells.eq_def,@Uo.eq_def,@dX.eq_def,@CU.eq_1,@CU.eq_2,@Iu.eq_1,@Iu.eq_2,@Je.eq_1,@Je.eq_2,@L1.eq_def,@DV.eq_def,@Qd.eq_1,@Qd.eq_2,@Gx.eq_1,@Gx.eq_2,@FZ.eq_1,@FZ.eq_2,@Bg.eq_def,@und.eq_def,@zE⟩
theorem SG:(type_of% @N8.eq_def)/\(type_of% @cc.eq_def)/\(type_of% @Ld.eq_def)/\(type_of% @HO.eq_def)/\(type_of% @lay.eq_def)/\(type_of% @ze.{0})/\(type_of% @zq.{0})/\(type_of% @zr.{0})/\(type_of% @yZ.{0})/\(type_of% @y2.{0})/\(type_of% @zw.{0})/\(type_of% @y8.{0})/\(type_of% @zk.{0})/\(type_of% @yW.{0})/\(type_of% @yY.{0})/\(type_of% @yX.{0})/\(type_of% @y4)/\(type_of% @y5)/\(type_of% @y3):=
 ⟨@N8.eq_def,@cc.eq_def,@Ld.eq_def,@HO.eq_def,@lay.eq_def,@ze,@zq,@zr,@yZ,@y2,@zw,@y8,@zk,@yW,@yY,@yX,@y4,@y5,@y3⟩
theorem SH:(type_of% @Nk.eq_def)/\(type_of% @IV.eq_def)/\(type_of% @CP.eq_def)/\(type_of% @laid.eq_def)/\(type_of% @RT.eq_def)/\(type_of% @Eo.eq_def):=
 ⟨@Nk.eq_def,@IV.eq_def,@CP.eq_def,@laid.eq_def,@RT.eq_def,@Eo.eq_def⟩
end Go.HH
