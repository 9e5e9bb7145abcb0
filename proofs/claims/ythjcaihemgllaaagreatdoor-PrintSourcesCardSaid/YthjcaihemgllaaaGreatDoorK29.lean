/-
  What the law needs, packed: Rules.
-/
import Derived.Test.YthjcaihemgllaaaGreatDoorK28
open List renaming getElem?_cons_zero->Aau,nil_append->Aav,getElem?_cons_succ->Aaw,drop_succ_cons->Aax,append_nil->Aaz,drop_zero->Ab0,filter_nil->Ab6,getElem?_append_right->Ab7,getElem?_toArray->Ab9,take_succ_cons->Abb,length_cons->Abg,cons_append->Abh,length_nil->Abj,head?_cons->Abk,take_zero->Abm,take_nil->Abn,map_cons->Abo,getD_nil->Abp,drop_nil->Abq,all_cons->Abr,map_nil->Abu,all_nil->Abv
open Bool renaming and_self->Aay,not_false->Ab1,not_true->Ab3,false_eq_true->Abd,true_and->Abs,and_true->Abt,or_self->Abw
open Nat renaming le_refl->Ab2,sub_self->Ab8,zero_add->Abx
open Option renaming bind_some->Ab4,isSome_some->Aba,bind_none->Abc,map_some->Abe,map_none->Abf
open Go.Utf8 renaming decode->Ab5
open Int renaming toNat_natCast->Abi
open Go.Operand renaming tmp->Abl
namespace Go.HH
open Go
def CI (v:Option PV) (d:Option Tmp) (al:List (Nat×Loc)) (st:St):Option OpR:=
 match v with
 | some v=>some (.next (st.put d v) al)
 | none=>none
theorem fC (v:PV) (d:Option Tmp) (al:List (Nat×Loc)) (st:St):CI (some v) d al st=some (.next (st.put d v) al):=rfl
def U9 (c:PV) (a b:PV):Option PV:=match c with
 | .bool t=>some (if t then a else b)
 | _=>none
theorem aK (a b:PV):U9 (.bool true) a b=some a:=rfl
theorem Yg (a b:PV):U9 (.bool false) a b=some b:=rfl
def L8 (v:PV) (want:Bool):Option Bool:=match v with
 | .bool b=>some (b == want)
 | .tup _=>some false
 | _=>none
theorem Yh (w:Bool):L8 (.bool true) w=some w:=by cases w <;> rfl
theorem V' (w:Bool):L8 (.bool false) w=some (!w):=by cases w <;> rfl
theorem aL (w:Bool):L8 und w=some false:=rfl
def nZ (r:Option OpR) (k:List (Nat×Loc)->St->Option (Ex×St)):Option (Ex×St):=match r with
 | none=>none
 | some (.next st' al')=>k al' st'
 | some (.pan v st')=>some (.pan v,st')
theorem jh (st:St) (al:List (Nat×Loc)) (k:List (Nat×Loc)->St->Option (Ex×St)):nZ (some (.next st al)) k=k al st:=rfl
def U' (w:Option Bool) (f:St->Option OpR) (k:List (Nat×Loc)->St->Option (Ex×St)) (al:List (Nat×Loc)) (dst:Option Tmp) (st:St):Option (Ex×St):=match w with
 | none=>none
 | some false=>k (Aj al dst) (st.put dst und)
 | some true=>nZ (f st) k
theorem aM (f:St->Option OpR) (k:List (Nat×Loc)->St->Option (Ex×St)) (al:List (Nat×Loc)) (dst:Option Tmp) (st:St):U' (some true) f k al dst st=nZ (f st) k:=rfl
theorem Yi (f:St->Option OpR) (k:List (Nat×Loc)->St->Option (Ex×St)) (al:List (Nat×Loc)) (dst:Option Tmp) (st:St):U' (some false) f k al dst st=k (Aj al dst) (st.put dst und):=rfl
def MM (v:PV) (f g:St->Option (Ex×St)) (st:St):Option (Ex×St):=match v with
 | .bool t=>if t then f st else g st
 | _=>none
theorem aN (f g:St->Option (Ex×St)) (st:St):MM (.bool true) f g st=f st:=rfl
theorem Yj (f g:St->Option (Ex×St)) (st:St):MM (.bool false) f g st=g st:=rfl
def Li (ops:Array Oper) (j:Nat) (e:List PV) (w:Bool):Option Bool:=match (ops[j]?).bind (·.dst) with
 | some d=>L8 (getT e d) w
 | none=>none
def aO (v:PV) (i:Nat):Option PV:=match v with
 | .tup vs=>vs[i]?.map PV.ro
 | _=>none
theorem ji (vs:List PV) (i:Nat):aO (.tup vs) i=vs[i]?.map PV.ro:=rfl
def Rj (C:Cfg) (ty:TypeId):PV:=match C.P.underlying ty with
 | some (.slice e)=>if (C.P.info? e).isSome then .osl e [] else .nils
 | _=>.nils
def Kq (C:Cfg) (draw:Bool) (al:List (Nat×Loc)) (d:Option Tmp) (t:TypeId) (v:PV) (st:St):Option OpR:=
 match G2 C st.bx t v with
 | some x=>some (.next (st.put d x) (match (if draw then none else match C.P.underlying t with
  | some (.slice _)=>match v with
   | .bp id off=>match E9 st (.box id off) with
    | .osl _ _=>some (Loc.box id off)
    | _=>none
   | _=>none
  | _=>none),d with
  | some l,some d=>if l=.tmp d then Aj al (some d) else (d,l) :: Aj al (some d)
  | _,d=>Aj al d))
 | none=>none
theorem jj (C:Cfg) (draw:Bool) (al:List (Nat×Loc)) (d:Option Tmp) (t:TypeId) (cs:List PV) (st:St):Kq C draw al d t (.ip cs) st=CI (readCells C t cs) d (Aj al d) st:=by
 unfold Kq CI
 show (match readCells C t cs with
  | some x=>_
  | none=>none)=_
 cases readCells C t cs with
 | none=>rfl
 | some x=>
  simp only
  have h:(match C.P.underlying t with
   | some (.slice _)=>(none:Option Loc)
   | _=>none)=none:=by split <;> rfl
  rw [h];cases draw <;> cases d <;> rfl
theorem jk (C:Cfg) (draw:Bool) (al:List (Nat×Loc)) (d:Option Tmp) (t:TypeId) (id off:Nat) (st:St) (hn:AN C t=true):Kq C draw al d t (.bp id off) st=CI ((A0 st.bx id).bind fun cs=>readCells C t (cs.drop off)) d (Aj al d) st:=by
 unfold Kq CI G2;simp only;unfold AN at hn;cases A0 st.bx id with
 | none=>rfl
 | some cs=>
  simp only [Ab4];cases readCells C t (cs.drop off) with
  | none=>rfl
  | some x=>
   simp only;cases hu:C.P.underlying t with
   | none=>cases draw <;> cases d <;> rfl
   | some k=>
    rw [hu] at hn;cases k <;> first | exact Bool.noConfusion hn | (cases draw <;> cases d <;> rfl)
def cY (C:Cfg) (e:List PV) (t:Option TypeId) (x:Option Operand):Option PV:=match t,x with
 | some t,some x=>Tq C t (opd C e x)
 | _,_=>none
def Ek (C:Cfg) (r:Option (CR×List PBox)) (k:FuncId) (vs:List PV) (d:Option Tmp) (al:List (Nat×Loc)) (st:St):Option OpR:=match r with
 | some (.ret v,bx)=>some (.next ((St.mk st.env bx).put d v) (Aj (Dp C k vs al) d))
 | some (.pan v,bx)=>some (.pan v { st with bx })
 | none=>none
def CZ (v:PV):Option PV:=match v with
 | .ip cs=>some (.ip cs)
 | .bp id off=>some (.bp id off)
 | .fn f a b=>some (.fn f a b)
 | _=>none
def HX (C:Cfg) (t:TypeId) (a:PV) (v:PV) (d:Option Tmp) (al:List (Nat×Loc)) (st:St):Option OpR:=match a with
 | .bp id off=>
  if tSize C t=some (laid v).length then
   match BK st.bx id off (laid v) with
   | some bx=>some (.next ((St.mk st.env bx).put d und) (Aj (al.filter fun p=>(match p.2 with | .box i _=>i != id | .tmp _=>true)) d))
   | none=>none
  else none
 | _=>none
def L9 (r:Option (CR×List PBox)) (m:Nat) (d:Option Tmp) (al:List (Nat×Loc)) (st:St):Option OpR:=match r with
 | some (.ret v,bx)=>if decide (bx.length=m) && (v.under m && bx.all (·.under m)) then some (.next ((St.mk st.env (bx++st.bx.drop m)).put d v) (Aj al d)) else none
 | some (.pan v,bx)=>if decide (bx.length=m) && (v.under m && bx.all (·.under m)) then some (.pan v { st with bx:=bx++st.bx.drop m }) else none
 | none=>none
def JJ (C:Cfg) (co:FuncId->List PV->List PBox->Option (CR×List PBox)) (tys:Array TypeId) (k:FuncId) (vs:List PV) (d:Option Tmp) (al:List (Nat×Loc)) (st:St):Option OpR:=match JS C (.func k) tys k vs al st.bx with
 | some m=>L9 (co k vs (st.bx.take m)) m d al st
 | none=>Ek C (co k vs st.bx) k vs d al st
theorem fD (C:Cfg) (co:FuncId->List PV->List PBox->Option (CR×List PBox)) (tys:Array TypeId) (k:FuncId) (vs:List PV) (d:Option Tmp) (al:List (Nat×Loc)) (st:St) (h:tys.toList.any (AP C)=false):JJ C co tys k vs d al st=Ek C (co k vs st.bx) k vs d al st:=by
 unfold JJ JS iL;rw [h,Bool.and_false];rfl
theorem aP (C:Cfg) (co:FuncId->List PV->List PBox->Option (CR×List PBox)) (tys:Array TypeId) (k:FuncId) (vs:List PV) (d:Option Tmp) (al:List (Nat×Loc)) (st:St) (h:CL al=none):JJ C co tys k vs d al st=Ek C (co k vs st.bx) k vs d al st:=by
 unfold JJ JS cutAt;rw [h];cases (cP (.func k) && iL C tys) <;> rfl
theorem Va (C:Cfg) (co:FuncId->List PV->List PBox->Option (CR×List PBox)) (tys:Array TypeId) (k:FuncId) (vs:List PV) (d:Option Tmp) (al:List (Nat×Loc)) (st:St) (m:Nat) (ht:tys.toList.any (AP C)=true) (h:CL al=some m) (h1:(C.heap k || !(Ak vs))=true) (h2:Ar m vs=true) (h3:(st.bx.take m).all (·.under m)=true):JJ C co tys k vs d al st=L9 (co k vs (st.bx.take m)) m d al st:=by
 unfold JJ JS cutAt iL;rw [h,ht];simp only [h1,h2,h3,cP,Aay,if_true]
theorem aQ (v:PV) (bx:List PBox) (m:Nat) (d:Option Tmp) (al:List (Nat×Loc)) (e:List PV) (b0:List PBox) (h1:bx.length=m) (h2:v.under m=true) (h3:bx.all (·.under m)=true):L9 (some (.ret v,bx)) m d al ⟨e,b0⟩=some (.next ((St.mk e (bx++b0.drop m)).put d v) (Aj al d)):=by
 unfold L9;simp only [h1,h2,h3,decide_true,Aay,if_true]
theorem aR (v:PV) (bx:List PBox) (m:Nat) (d:Option Tmp) (al:List (Nat×Loc)) (e:List PV) (b0:List PBox) (h1:bx.length=m) (h2:v.under m=true) (h3:bx.all (·.under m)=true):L9 (some (.pan v,bx)) m d al ⟨e,b0⟩=some (.pan v ⟨e,bx++b0.drop m⟩):=by
 unfold L9;simp only [h1,h2,h3,decide_true,Aay,if_true]
def n3 (i:Nat):Option Nat->Nat
 | none=>i
 | some m=>min i m
theorem aS (d i o:Nat) (r:List (Nat×Loc)):CL ((d,.box i o) :: r)=some (n3 i (CL r)):=by
 show (match CL r with
  | some m=>some (min i m)
  | none=>some i)=_
 cases CL r <;> rfl
def Aw (C:Cfg) (co:FuncId->List PV->List PBox->Option (CR×List PBox)) (f:PV) (vs:List PV) (d:Option Tmp) (al:List (Nat×Loc)) (st:St):Option OpR:=match f with
 | .fn k first captured=>Ek C (co k (first.map PV.shutV++vs++captured.map PV.shutV) st.bx) k (first.map PV.shutV++vs++captured.map PV.shutV) d al st
 | _=>none
def sh (v:PV) (st:St):Option OpR:=match v with
 | .iface t v=>some (.pan (.iface t v) st)
 | _=>none
def FH (_:Bool) (v:PV) (t:Nat) (d:Option Tmp) (al:List (Nat×Loc)):List (Nat×Loc):=
 match (match v with
  | .osl _ _=>some (Loc.tmp t)
  | _=>none),d with
 | some l,some d=>if l=.tmp d then Aj al (some d) else (d,l) :: Aj al (some d)
 | _,d=>Aj al d
theorem jl (e:TypeId) (xs:List PV) (t d:Nat) (al:List (Nat×Loc)) (b:Bool):FH b (.osl e xs) t (some d) al=if t=d then Aj al (some d) else (d,.tmp t) :: Aj al (some d):=by
 by_cases h:t=d <;> simp [FH,h]
theorem n4 (xs:List PV) (t:Nat) (d:Option Tmp) (al:List (Nat×Loc)) (b:Bool):FH b (.sl xs) t d al=Aj al d:=by cases b <;> cases d <;> rfl
theorem jm (k n) (t:Nat) (d:Option Tmp) (al:List (Nat×Loc)) (b:Bool):FH b (.int k n) t d al=Aj al d:=by cases b <;> cases d <;> rfl
theorem fE (n) (t:Nat) (d:Option Tmp) (al:List (Nat×Loc)) (b:Bool):FH b (.bool n) t d al=Aj al d:=by cases b <;> cases d <;> rfl
theorem jn (n) (t:Nat) (d:Option Tmp) (al:List (Nat×Loc)) (b:Bool):FH b (.str n) t d al=Aj al d:=by cases b <;> cases d <;> rfl
theorem jo (n) (t:Nat) (d:Option Tmp) (al:List (Nat×Loc)) (b:Bool):FH b (.agg n) t d al=Aj al d:=by cases b <;> cases d <;> rfl
theorem jq (n) (t:Nat) (d:Option Tmp) (al:List (Nat×Loc)) (b:Bool):FH b (.tup n) t d al=Aj al d:=by cases b <;> cases d <;> rfl
theorem n5 (i n) (t:Nat) (d:Option Tmp) (al:List (Nat×Loc)) (b:Bool):FH b (.bp i n) t d al=Aj al d:=by cases b <;> cases d <;> rfl
theorem n6 (n) (t:Nat) (d:Option Tmp) (al:List (Nat×Loc)) (b:Bool):FH b (.ip n) t d al=Aj al d:=by cases b <;> cases d <;> rfl
def Gw (v:PV) (i:Nat) (d:Option Tmp) (al:List (Nat×Loc)) (st:St):Option OpR:=
 match v with
 | .osl e xs=>some (.next ((St.mk (setT st.env i (.sl xs)) st.bx).put d (.osl e xs)) (Aj (Aj al (some i)) d))
 | v=>some (.next (st.put d v) (Aj (Aj al (some i)) d))
theorem jr (e xs) (i:Nat) (d:Option Tmp) (al:List (Nat×Loc)) (st:St):Gw (.osl e xs) i d al st=some (.next ((St.mk (setT st.env i (.sl xs)) st.bx).put d (.osl e xs)) (Aj (Aj al (some i)) d)):=rfl
theorem n7 (xs) (i:Nat) (d:Option Tmp) (al:List (Nat×Loc)) (st:St):Gw (.sl xs) i d al st=some (.next (st.put d (.sl xs)) (Aj (Aj al (some i)) d)):=rfl
theorem js (k n) (i:Nat) (d:Option Tmp) (al:List (Nat×Loc)) (st:St):Gw (.int k n) i d al st=some (.next (st.put d (.int k n)) (Aj (Aj al (some i)) d)):=rfl
theorem fF (n) (i:Nat) (d:Option Tmp) (al:List (Nat×Loc)) (st:St):Gw (.bool n) i d al st=some (.next (st.put d (.bool n)) (Aj (Aj al (some i)) d)):=rfl
theorem jt (n) (i:Nat) (d:Option Tmp) (al:List (Nat×Loc)) (st:St):Gw (.str n) i d al st=some (.next (st.put d (.str n)) (Aj (Aj al (some i)) d)):=rfl
theorem ju (n) (i:Nat) (d:Option Tmp) (al:List (Nat×Loc)) (st:St):Gw (.agg n) i d al st=some (.next (st.put d (.agg n)) (Aj (Aj al (some i)) d)):=rfl
def zeroCells (C:Cfg) (t:TypeId):Option (List PV):=match tZero C t with
 | some z=>if (z.cells.map PV.ro).all PV.one then some (z.cells.map PV.ro) else none
 | none=>none
def Wa (t:TypeId) (r:Option (List PV)) (d:Option Tmp) (al:List (Nat×Loc)) (st:St):Option OpR:=match r with
 | some cs=>some (.next ((St.mk st.env (st.bx++[.cells t cs])).put d (.bp st.bx.length 0)) (Aj al d))
 | none=>none
theorem Yk (t:TypeId) (cs:List PV) (d:Option Tmp) (al:List (Nat×Loc)) (st:St):Wa t (some cs) d al st=some (.next ((St.mk st.env (st.bx++[.cells t cs])).put d (.bp st.bx.length 0)) (Aj al d)):=rfl
def Jc (C:Cfg) (t:TypeId) (a:PV) (v:PV) (i:Nat) (d:Option Tmp) (al:List (Nat×Loc)) (st:St):Option OpR:=match a with
 | .bp id off=>
  let e1:=match v with
   | .osl _ xs=>setT st.env i (.sl xs)
   | _=>st.env
  if tSize C t=some (laid v).length then
   match BK st.bx id off (laid v) with
   | some bx=>some (.next ((St.mk e1 bx).put d und) (Aj (al.filter fun p=>(match p.2 with | .box i _=>i != id | .tmp k=>(match (Abl i) with | .tmp j=>k != j | _=>true))) d))
   | none=>none
  else none
 | _=>none
def Rk (r:Option (List PBox)) (d:Option Tmp) (e:List PV):Option OpR:=match r with
 | some bx=>some (.next ((St.mk e bx).put d und) [])
 | none=>none
theorem Yl (bx:List PBox) (d:Option Tmp) (e:List PV):Rk (some bx) d e=some (.next ((St.mk e bx).put d und) []):=rfl
theorem aT (C:Cfg) (t:TypeId) (id off:Nat) (cs:List PV) (i:Nat) (d:Option Tmp) (st:St) (h:tSize C t=some cs.length) :
 Jc C t (.bp id off) (.agg cs) i d [] st=Rk (BK st.bx id off (cs.map PV.ro)) d st.env:=by
 have hl:(laid (.agg cs))=cs.map PV.ro:=rfl;unfold Jc Rk;simp only [hl,List.length_map,h,if_true,Ab6,U8]
theorem Tw (bx:List PBox) (t:TypeId) (cs:List PV):A0 (bx++[.cells t cs]) bx.length=some cs:=by
 unfold A0;rw [Ab7 (Ab2 _),Ab8];rfl
theorem PD (bx:List PBox) (t:TypeId) (cs:List PV) (off:Nat) (vs:List PV) (h:off+vs.length<=cs.length) (ho:vs.all PV.one=true):BK (bx++[.cells t cs]) bx.length off vs=some (bx++[.cells t (lay cs off vs)]):=by
 unfold BK;rw [Ab7 (Ab2 _),Ab8];simp only [Aau];rw [if_pos ⟨h,ho⟩,List.set_append_right _ _ (Ab2 _),Ab8];rfl
theorem jv (e:List PV) (bx:List PBox) (d:Nat) (v:PV):(St.mk e bx).put (some d) v=⟨setT e d v,bx⟩:=rfl
theorem jw (e:List PV) (bx:List PBox) (v:PV):(St.mk e bx).put none v=⟨e,bx⟩:=rfl
theorem MN {x r:Option (Ex×St)} {P:List PV->Option (Ex×St)} {Q:List PV->Prop} (hE:x=r) (h:∃ e',x=P e'/\Q e'):∃ e',r=P e'/\Q e':=by
 subst hE;exact h
theorem n8 (C:Cfg) (e:List PV) (t:Nat):opd C e (.tmp t)=(getT e t).ro:=rfl
theorem n9 (C:Cfg) (e:List PV) (k n):opd C e (.const (.int k n))=.int k n:=rfl
theorem jx (C:Cfg) (e:List PV) (n):opd C e (.const (.bool n))=.bool n:=rfl
theorem oa (C:Cfg) (e:List PV) (n):opd C e (.const (.string n))=.str n.data.toList:=rfl
theorem ob (C:Cfg) (e:List PV):opd C e (.const (.slice none 0 0))=.nils:=rfl
theorem oc (C:Cfg) (e:List PV) (t:Nat):raw C e (.tmp t)=getT e t:=rfl
theorem Ym (C:Cfg) (v:PV) (bx:List PBox) (k:FuncId) (vs:List PV) (d:Option Tmp) (al:List (Nat×Loc)) (e:List PV) (b0:List PBox):Ek C (some (.ret v,bx)) k vs d al ⟨e,b0⟩=some (.next ((St.mk e bx).put d v) (Aj (Dp C k vs al) d)):=rfl
theorem fG (C:Cfg) (k:FuncId) (vs:List PV) (al:List (Nat×Loc)) (h:C.heap k=false) (hp:Ak vs=true):Dp C k vs al=al:=by
 unfold Dp;rw [h,hp];rfl
theorem SB:(∀ v d al st,CI (some v) d al st=some (.next (st.put d v) al))/\(∀ a b,U9 (.bool true) a b=some a)/\(∀ a b,U9 (.bool false) a b=some b) /\
 (∀ w,L8 (.bool true) w=some w)/\(∀ w,L8 (.bool false) w=some (!w))/\(∀ w,L8 (.tup []) w=some false) /\
 (∀ st al (k:List (Nat×Loc)->St->Option (Ex×St)),nZ (some (.next st al)) k=k al st) /\
 (∀ f (k:List (Nat×Loc)->St->Option (Ex×St)) al dst st,U' (some true) f k al dst st=nZ (f st) k)/\(∀ f (k:List (Nat×Loc)->St->Option (Ex×St)) al dst st,U' (some false) f k al dst st=k (Aj al dst) (st.put dst und)) /\
 (∀ f g st,MM (.bool true) f g st=f st)/\(∀ f g st,MM (.bool false) f g st=g st)/\(∀ vs i,aO (.tup vs) i=vs[i]?.map PV.ro) /\
 (∀ C draw al d t cs st,Kq C draw al d t (.ip cs) st=CI (readCells C t cs) d (Aj al d) st) /\
 (∀ C draw al d t id off st,AN C t=true->Kq C draw al d t (.bp id off) st=CI ((A0 st.bx id).bind fun cs=>readCells C t (cs.drop off)) d (Aj al d) st) /\
 (∀ e xs t d al b,FH b (.osl e xs) t (some d) al=if t=d then Aj al (some d) else (d,.tmp t) :: Aj al (some d)) /\
 (∀ xs t d al b,FH b (.sl xs) t d al=Aj al d)/\(∀ k n t d al b,FH b (.int k n) t d al=Aj al d)/\(∀ n t d al b,FH b (.bool n) t d al=Aj al d)/\(∀ n t d al b,FH b (.str n) t d al=Aj al d) /\
 (∀ n t d al b,FH b (.agg n) t d al=Aj al d)/\(∀ n t d al b,FH b (.tup n) t d al=Aj al d)/\(∀ i n t d al b,FH b (.bp i n) t d al=Aj al d)/\(∀ n t d al b,FH b (.ip n) t d al=Aj al d) /\
 (∀ e xs i d al st,Gw (.osl e xs) i d al st=some (.next ((St.mk (setT st.env i (.sl xs)) st.bx).put d (.osl e xs)) (Aj (Aj al (some i)) d))) /\
 (∀ xs i d al st,Gw (.sl xs) i d al st=some (.next (st.put d (.sl xs)) (Aj (Aj al (some i)) d)))/\(∀ k n i d al st,Gw (.int k n) i d al st=some (.next (st.put d (.int k n)) (Aj (Aj al (some i)) d))) /\
 (∀ n i d al st,Gw (.bool n) i d al st=some (.next (st.put d (.bool n)) (Aj (Aj al (some i)) d)))/\(∀ n i d al st,Gw (.str n) i d al st=some (.next (st.put d (.str n)) (Aj (Aj al (some i)) d))) /\
 (∀ n i d al st,Gw (.agg n) i d al st=some (.next (st.put d (.agg n)) (Aj (Aj al (some i)) d))) /\
 (∀ e bx d v,(St.mk e bx).put (some d) v=⟨setT e d v,bx⟩)/\(∀ e bx v,(St.mk e bx).put none v=⟨e,bx⟩) /\
 (∀ C e t,opd C e (.tmp t)=(getT e t).ro)/\(∀ C e k n,opd C e (.const (.int k n))=.int k n)/\(∀ C e n,opd C e (.const (.bool n))=.bool n)/\(∀ C e n,opd C e (.const (.string n))=.str n.data.toList) /\
 (∀ C e,opd C e (.const (.slice none 0 0))=.nils)/\(∀ C e t,raw C e (.tmp t)=getT e t) /\
 (∀ C v bx k vs d al e b0,Ek C (some (.ret v,bx)) k vs d al ⟨e,b0⟩=some (.next ((St.mk e bx).put d v) (Aj (Dp C k vs al) d))) /\
 (∀ C k vs al,C.heap k=false->Ak vs=true->Dp C k vs al=al) /\
 (∀ C co tys k vs d al st,tys.toList.any (AP C)=false->JJ C co tys k vs d al st=Ek C (co k vs st.bx) k vs d al st) /\
 (∀ C co tys k vs d al st,CL al=none->JJ C co tys k vs d al st=Ek C (co k vs st.bx) k vs d al st) /\
 (∀ C,([]:List TypeId).any (AP C)=false)/\(∀ C t r,(t :: r).any (AP C)=(AP C t || r.any (AP C)))/\(∀ l:List TypeId,l.toArray.toList=l)/\(∀ b,(false || b)=b)/\(∀ b,(true || b)=true) /\
 CL []=none/\(∀ d t r,CL ((d,.tmp t) :: r)=CL r)/\(∀ d i o r,CL ((d,.box i o) :: r)=some (n3 i (CL r)))/\(∀ i,n3 i none=i)/\(∀ i m,n3 i (some m)=min i m) /\
 (∀ C v bx k vs d al e b0,Ek C (some (.pan v,bx)) k vs d al ⟨e,b0⟩=some (.pan v ⟨e,bx⟩))/\(∀ v st (k:List (Nat×Loc)->St->Option (Ex×St)),nZ (some (.pan v st)) k=some (.pan v,st)) /\
 (∀ v st (k:St->Option (Ex×St)),D9 (some (.pan v,st)) k=some (.pan v,st))/\(∀ i v st,EM i (some (.pan v,st))=some (.pan v,st))/\(∀ C rs v st,CD C rs (some (.pan v,st))=some (.pan v,st.bx))/\(∀ t v st,sh (.iface t v) st=some (.pan (.iface t v) st)) /\
 (∀ k n,(PV.int k n).ro=.int k n)/\(∀ b,(PV.bool b).ro=.bool b)/\(∀ b,(PV.str b).ro=.str b)/\(∀ b,(PV.sl b).ro=.sl b)/\(∀ e b,(PV.osl e b).ro=.sl b)/\(∀ b,(PV.agg b).ro=.agg b)/\(∀ b,(PV.tup b).ro=.tup b)/\(∀ b,(PV.ip b).ro=.ip b)/\(∀ i b,(PV.bp i b).ro=.bp i b)/\PV.nils.ro=.nils /\
 (∀ k n,(PV.int k n).shutV=.int k n)/\(∀ b,(PV.bool b).shutV=.bool b)/\(∀ b,(PV.str b).shutV=.str b)/\(∀ b,(PV.sl b).shutV=.sl b)/\(∀ b,(PV.agg b).shutV=.agg (b.map PV.seal1))/\PV.nils.shutV=.sl [] /\
 (∀ k n,(PV.int k n).seal1=.int k n)/\(∀ b,(PV.bool b).seal1=.bool b)/\(∀ b,(PV.str b).seal1=.str b)/\(∀ b,(PV.sl b).seal1=.sl b):=
 ⟨fC,aK,Yg,Yh,V',aL,jh,aM,Yi,aN,Yj,ji,jj,jk,jl,n4,jm,fE,jn,jo,jq,n5,n6,
  jr,n7,js,fF,jt,ju,jv,jw,n8,n9,jx,oa,ob,oc,Ym,fG,fD,aP,fun _=>rfl,fun _ _ _=>rfl,fun _=>rfl,fun _=>rfl,fun _=>rfl,rfl,fun _ _ _=>rfl,aS,fun _=>rfl,fun _ _=>rfl,fun _ _ _ _ _ _ _ _ _=>rfl,fun _ _ _=>rfl,fun _ _ _=>rfl,fun _ _ _=>rfl,fun _ _ _ _=>rfl,fun _ _ _=>rfl,
  fun _ _=>rfl,fun _=>rfl,fun _=>rfl,fun _=>rfl,fun _ _=>rfl,fun _=>rfl,fun _=>rfl,fun _=>rfl,fun _ _=>rfl,rfl,
  fun _ _=>rfl,fun _=>rfl,fun _=>rfl,fun _=>rfl,fun _=>rfl,rfl,fun _ _=>rfl,fun _=>rfl,fun _=>rfl,fun _=>rfl⟩
theorem SD:(type_of% @U7)/\(type_of% @Rg)/\(type_of% @Yc)/\(type_of% @Yb)/\(type_of% @Pj)/\(type_of% @Abo.{0,0})/\(type_of% @Abu.{0,0})/\(type_of% @Abp.{0})/\(type_of% @Abd)/\(type_of% @if_false.{1})/\(type_of% @Ab4.{0,0})/\(type_of% @if_true.{1})/\(type_of% @Abk.{0})/\(type_of% @Abe.{0,0})/\(type_of% @Ab9.{0})/\(type_of% @Aau.{0})/\(type_of% @Aaw.{0})/\(type_of% @or_self)/\(type_of% @or_false)/\(type_of% @false_or)/\(type_of% @or_true)/\(type_of% @true_or)/\(type_of% @and_true)/\(type_of% @true_and)/\(type_of% @ne_eq.{1})/\(type_of% @not_false_eq_true)/\(type_of% @not_true_eq_false)/\(type_of% @decide_true)/\(type_of% @decide_false)/\(type_of% @Ab3)/\(type_of% @Ab1)/\(type_of% @beq_self_eq_true.{0})/\(type_of% @Abg.{0})/\(type_of% @Abj.{0})/\(type_of% @bne_self_eq_false.{0})/\(type_of% @beq_true)/\(type_of% @beq_false)/\(type_of% @Abc.{0,0})/\(type_of% @Abf.{0,0})/\(type_of% @Abi)/\(type_of% @Aaz.{0})/\(type_of% @Aav.{0})/\(type_of% @Abw)/\(type_of% @Aay)/\(type_of% @Abt)/\(type_of% @Abs)/\(type_of% @Loc.tmp.injEq)/\(type_of% @GL)/\(type_of% @Aba.{0})/\(type_of% @Abr.{0})/\(type_of% @Abv.{0})/\(type_of% @Ab0.{0})/\(type_of% @Aax.{0}):=
 ⟨@U7,@Rg,@Yc,@Yb,@Pj,@Abo,@Abu,@Abp,@Abd,@if_false,@Ab4,@if_true,@Abk,@Abe,@Ab9,@Aau,@Aaw,@or_self,@or_false,@false_or,@or_true,@true_or,@and_true,@true_and,@ne_eq,@not_false_eq_true,@not_true_eq_false,@decide_true,@decide_false,@Ab3,@Ab1,@beq_self_eq_true,@Abg,@Abj,@bne_self_eq_false,@beq_true,@beq_false,@Abc,@Abf,@Abi,@Aaz,@Aav,@Abw,@Aay,@Abt,@Abs,@Loc.tmp.injEq,@GL,@Aba,@Abr,@Abv,@Ab0,@Aax⟩
theorem F5 (t i o d:Nat) (r:List (Nat×Loc)):Aj ((t,.box i o) :: r) (some d)=if t=d then Aj r (some d) else (t,.box i o) :: Aj r (some d):=by
 unfold Aj;simp only [List.filter_cons];by_cases h1:t=d <;> simp [h1]
theorem SE:(∀ (C:Cfg) (e:List PV) (f:FuncId),opd C e (.func f)=.fn f [] [])/\(∀ (C:Cfg) (e:List PV),opd C e (.const (.pointer none))=.nilp)/\(∀ (C:Cfg) (e:List PV),opd C e (.const .nilIface)=.nili)/\(∀ (C:Cfg) (e:List PV),opd C e (.const .nilFunc)=.nilf) /\
 (∀ i o,(PV.bp i o).shutV=.bp i o) /\
 (∀ i o,(PV.bp i o).seal1=.bp i o) /\
 (∀ i o,(PV.bp i o).cells=[.bp i o]) /\
 (∀ i o,(PV.bp i o).one=true) /\
 (∀ i o k d al st,Gw (PV.bp i o) k d al st=some (.next (st.put d (.bp i o)) (Aj (Aj al (some k)) d))) /\
 PV.nilp.shutV=.nilp /\
 PV.nilp.seal1=.nilp /\
 PV.nilp.ro=.nilp /\
 PV.nilp.cells=[.nilp] /\
 PV.nilp.one=true /\
 (∀ k d al st,Gw PV.nilp k d al st=some (.next (st.put d .nilp) (Aj (Aj al (some k)) d))) /\
 PV.nili.shutV=.nili /\
 PV.nili.seal1=.nili /\
 PV.nili.ro=.nili /\
 PV.nili.cells=[.nili] /\
 PV.nili.one=true /\
 (∀ k d al st,Gw PV.nili k d al st=some (.next (st.put d .nili) (Aj (Aj al (some k)) d))) /\
 PV.nilf.shutV=.nilf /\
 PV.nilf.seal1=.nilf /\
 PV.nilf.ro=.nilf /\
 PV.nilf.cells=[.nilf] /\
 PV.nilf.one=true /\
 (∀ k d al st,Gw PV.nilf k d al st=some (.next (st.put d .nilf) (Aj (Aj al (some k)) d))) /\
 (∀ f a c,(PV.fn f a c).shutV=.fn f a c) /\
 (∀ f a c,(PV.fn f a c).seal1=.fn f a c) /\
 (∀ f a c,(PV.fn f a c).ro=.fn f a c) /\
 (∀ f a c,(PV.fn f a c).cells=[.fn f a c]) /\
 (∀ f a c,(PV.fn f a c).one=true) /\
 (∀ f a c k d al st,Gw (PV.fn f a c) k d al st=some (.next (st.put d (.fn f a c)) (Aj (Aj al (some k)) d))) /\
 (∀ t v,(PV.iface t v).shutV=.iface t v) /\
 (∀ t v,(PV.iface t v).seal1=.iface t v) /\
 (∀ t v,(PV.iface t v).ro=.iface t v) /\
 (∀ t v,(PV.iface t v).cells=[.iface t v]) /\
 (∀ t v,(PV.iface t v).one=true) /\
 (∀ t v k d al st,Gw (PV.iface t v) k d al st=some (.next (st.put d (.iface t v)) (Aj (Aj al (some k)) d))) /\
 (∀ cs,(PV.ip cs).shutV=.ip cs) /\
 (∀ cs,(PV.ip cs).seal1=.ip cs) /\
 (∀ cs,(PV.ip cs).cells=[.ip cs]) /\
 (∀ cs,(PV.ip cs).one=true) /\
 (∀ cs k d al st,Gw (PV.ip cs) k d al st=some (.next (st.put d (.ip cs)) (Aj (Aj al (some k)) d))) /\
 (∀ k d al g,FH g PV.nilp k d al=Aj al d) /\
 (∀ k d al g,FH g PV.nili k d al=Aj al d) /\
 (∀ k d al g,FH g PV.nilf k d al=Aj al d) /\
 (∀ f a c k d al g,FH g (PV.fn f a c) k d al=Aj al d) /\
 (∀ t v k d al g,FH g (PV.iface t v) k d al=Aj al d) /\
 (∀ k d al g,FH g .nils k d al=Aj al d) /\
 (∀ k d al st,Gw .nils k d al st=some (.next (st.put d .nils) (Aj (Aj al (some k)) d))) /\
 (∀ vs k d al st,Gw (.tup vs) k d al st=some (.next (st.put d (.tup vs)) (Aj (Aj al (some k)) d))) /\
 PV.nils.cells=[.nils] /\
 PV.nils.one=true /\
 PV.nils.seal1=.sl [] /\
 (∀ e xs,(PV.osl e xs).cells=[.osl e xs]) /\
 (∀ e xs,(PV.osl e xs).shutV=.sl xs) /\
 (∀ e xs,(PV.osl e xs).seal1=.sl xs) /\
 (∀ i o,(PV.bp i o).pure=false) /\
 PV.nilp.pure=true /\
 PV.nili.pure=true /\
 PV.nilf.pure=true /\
 PV.nils.pure=true /\
 (∀ cs,(PV.agg cs).pure=Ak cs) /\
 (∀ cs,(PV.tup cs).pure=Ak cs) /\
 (∀ cs,(PV.ip cs).pure=Ak cs) /\
 (∀ t v,(PV.iface t v).pure=v.pure) /\
 (∀ e xs,(PV.osl e xs).pure=Ak xs) /\
 (∀ f a c,(PV.fn f a c).pure=(Ak a && Ak c)) /\
 (∀ t i o d (r:List (Nat×Loc)),Aj ((t,.box i o) :: r) (some d)=if t=d then Aj r (some d) else (t,.box i o) :: Aj r (some d)) /\
 (∀ C k vs,Dp C k vs []=[]):=
 ⟨fun _ _ _=>rfl,fun _ _=>rfl,fun _ _=>rfl,fun _ _=>rfl,fun _ _=>rfl,fun _ _=>rfl,fun _ _=>rfl,fun _ _=>rfl,fun _ _ _ _ _ _=>rfl,rfl,rfl,rfl,rfl,rfl,fun _ _ _ _=>rfl,rfl,rfl,rfl,rfl,rfl,fun _ _ _ _=>rfl,rfl,rfl,rfl,rfl,rfl,fun _ _ _ _=>rfl,fun _ _ _=>rfl,fun _ _ _=>rfl,fun _ _ _=>rfl,fun _ _ _=>rfl,fun _ _ _=>rfl,fun _ _ _ _ _ _ _=>rfl,fun _ _=>rfl,fun _ _=>rfl,fun _ _=>rfl,fun _ _=>rfl,fun _ _=>rfl,fun _ _ _ _ _ _=>rfl,fun _=>rfl,fun _=>rfl,fun _=>rfl,fun _=>rfl,fun _ _ _ _ _=>rfl,fun _ d _ g=>by cases g <;> cases d <;> rfl,fun _ d _ g=>by cases g <;> cases d <;> rfl,fun _ d _ g=>by cases g <;> cases d <;> rfl,fun _ _ _ _ d _ g=>by cases g <;> cases d <;> rfl,fun _ _ _ d _ g=>by cases g <;> cases d <;> rfl,fun _ d _ g=>by cases g <;> cases d <;> rfl,fun _ _ _ _=>rfl,fun _ _ _ _ _=>rfl,rfl,rfl,rfl,fun _ _=>rfl,fun _ _=>rfl,fun _ _=>rfl,fun _ _=>by simp [PV.pure],by simp [PV.pure],by simp [PV.pure],by simp [PV.pure],by simp [PV.pure],fun _=>by simp [PV.pure],fun _=>by simp [PV.pure],fun _=>by simp [PV.pure],fun _ _=>by simp [PV.pure],fun _ _=>by simp [PV.pure],fun _ _ _=>by simp [PV.pure],fun t i o d r=>F5 t i o d r,fun C k vs=>by unfold Dp;split <;> rfl⟩
theorem SC:(∀ t cs d al st,Wa t (some cs) d al st=some (.next ((St.mk st.env (st.bx++[.cells t cs])).put d (.bp st.bx.length 0)) (Aj al d))) /\
 (∀ bx d e,Rk (some bx) d e=some (.next ((St.mk e bx).put d und) [])) /\
 (∀ (bx:List PBox) t cs,A0 (bx++[.cells t cs]) bx.length=some cs) /\
 (∀ C t id off cs i d st,tSize C t=some cs.length->Jc C t (.bp id off) (.agg cs) i d [] st=Rk (BK st.bx id off (cs.map PV.ro)) d st.env) /\
 (∀ (bx:List PBox) t cs off vs,off+vs.length<=cs.length->vs.all PV.one=true->BK (bx++[.cells t cs]) bx.length off vs=some (bx++[.cells t (lay cs off vs)])):=
 ⟨Yk,Yl,Tw,aT,PD⟩
def aU (u:Option TypeDesc) (v:PV) (d:Option Tmp) (al:List (Nat×Loc)) (st:St):Option OpR:=match u,v with
 | some .string,.str s=>some (.next ((St.mk st.env (st.bx++[.iter s 0])).put d (.bp st.bx.length 0)) (Aj al d))
 | _,_=>none
def JK (v:PV) (d:Option Tmp) (al:List (Nat×Loc)) (st:St):Option OpR:=match v with
 | .bp id 0=>match st.bx[id]? with
  | some (.iter s pos)=>
   if pos < s.length then
    some (.next ((St.mk st.env (st.bx.set id (.iter s (pos+(Ab5 ⟨s.toArray⟩ pos).2)))).put d (.tup [.bool true,.int .i64 pos,.int .i32 (Ab5 ⟨s.toArray⟩ pos).1])) (Aj al d))
   else some (.next (st.put d (.tup [.bool false])) (Aj al d))
  | _=>none
 | _=>none
section
variable (C:Cfg)
theorem od {c:Cn} {draw:Bool} {al:List (Nat×Loc)} {dst ty pos after g} {op:Op} {st:St} (h:Bq C c draw al ⟨dst,op,ty,pos,after,g⟩ st=match BZ C st.bx st.env op with
 | some v=>some (.next (st.put dst v) (Gv C draw st op dst al))
 | none=>none) (hn:Gv C draw st op dst al=Aj al dst):Bq C c draw al ⟨dst,op,ty,pos,after,g⟩ st=CI (BZ C st.bx st.env op) dst (Aj al dst) st:=by
 rw [h,hn];unfold CI;cases BZ C st.bx st.env op <;> rfl
abbrev RSH (ev:Code->St->Option (Ex×St)) (eo:Bool->Array Oper->List Oper->List (Nat×Loc)->St->Option (Ex×St)) (so:Bool->List (Nat×Loc)->Oper->St->Option OpR) (co:FuncId->List PV->List PBox->Option (CR×List PBox)):Prop:=
 (∀ draw ops al st,eo draw ops [] al st=some (.normal,st)) /\
 (∀ draw ops dst op ty pos after rest al st,eo draw ops (⟨dst,op,ty,pos,after,none⟩:: rest) al st=nZ (so draw al ⟨dst,op,ty,pos,after,none⟩ st) (eo draw ops rest)) /\
 (∀ draw ops dst op ty pos after j w rest al st,eo draw ops (⟨dst,op,ty,pos,after,some (j,w)⟩:: rest) al st=U' (Li ops j st.env w) (so draw al ⟨dst,op,ty,pos,after,some (j,w)⟩) (eo draw ops rest) al dst st) /\
 (∀ draw al dst t ty pos after g st,so draw al ⟨dst,.move (.tmp t),ty,pos,after,g⟩ st=CI (some (getT st.env t).ro) dst (FH draw (getT st.env t) t dst al) st) /\
 (∀ draw al dst v ty pos after g st,so draw al ⟨dst,.move (.const v),ty,pos,after,g⟩ st=CI (some (opd C st.env (.const v))) dst (Aj al dst) st) /\
 (∀ al dst i ty pos after g st,so false al ⟨dst,.assign (.tmp i),ty,pos,after,g⟩ st=Gw (getT st.env i) i dst al st) /\
 (∀ al dst k n ty pos after g st,so false al ⟨dst,.assign (.const (.int k n)),ty,pos,after,g⟩ st=CI (some (.int k n)) dst (Aj al dst) st) /\
 (∀ al dst b ty pos after g st,so false al ⟨dst,.assign (.const (.bool b)),ty,pos,after,g⟩ st=CI (some (.bool b)) dst (Aj al dst) st) /\
 (∀ al dst ty pos after g st,so false al ⟨dst,.assign (.const (.slice none 0 0)),ty,pos,after,g⟩ st=CI (some (Rj C ty)) dst (Aj al dst) st) /\
 (∀ al dst x ty pos after g st,AN C ty=true->so true al ⟨dst,.assign x,ty,pos,after,g⟩ st=CI (some (opd C st.env x)) dst (Aj al dst) st) /\
 (∀ al dst i ty pos after g st,AN C ty=false->so true al ⟨dst,.assign (.tmp i),ty,pos,after,g⟩ st=Gw (getT st.env i) i dst al st) /\
 (∀ al dst ty pos after g st,AN C ty=false->so true al ⟨dst,.assign (.const (.slice none 0 0)),ty,pos,after,g⟩ st=CI (some (Rj C ty)) dst (Aj al dst) st) /\
 (∀ draw al dst c a b ty pos after g st,so draw al ⟨dst,.pick c a b,ty,pos,after,g⟩ st=CI (U9 (opd C st.env c) (opd C st.env a) (opd C st.env b)) dst (Aj al dst) st) /\
 (∀ draw al dst bop t x y ty2 ty pos after g st,so draw al ⟨dst,.binOp bop t x y ty2,ty,pos,after,g⟩ st=CI (D6 C bop t (opd C st.env x) (opd C st.env y)) dst (Aj al dst) st) /\
 (∀ draw al dst uop t x ty pos after g st,so draw al ⟨dst,.unOp uop t x,ty,pos,after,g⟩ st=CI (nQ uop (opd C st.env x)) dst (Aj al dst) st) /\
 (∀ draw al dst s d x ty pos after g st,so draw al ⟨dst,.convert s d x,ty,pos,after,g⟩ st=CI (Gh C s d (opd C st.env x)) dst (Aj al dst) st) /\
 (∀ draw al dst t x i ty pos after g st,so draw al ⟨dst,.indexAddr t x i,ty,pos,after,g⟩ st=CI (EL C t (opd C st.env x) (opd C st.env i)) dst (Aj al dst) st) /\
 (∀ draw al dst t x i ty pos after g st,so draw al ⟨dst,.index t x i,ty,pos,after,g⟩ st=CI (Dy C t (opd C st.env x) (opd C st.env i)) dst (Aj al dst) st) /\
 (∀ draw al dst t x lo hi ty pos after g st,so draw al ⟨dst,.slice t x lo hi none,ty,pos,after,g⟩ st=CI (FW C t (opd C st.env x) (lo.map (opd C st.env)) (hi.map (opd C st.env))) dst (Aj al dst) st) /\
 (∀ draw al dst x i ty pos after g st,so draw al ⟨dst,.extract x i,ty,pos,after,g⟩ st=CI (aO (opd C st.env x) i) dst (Aj al dst) st) /\
 (∀ draw al dst args tys ty pos after g st,so draw al ⟨dst,.call { callee:=.builtin .len,args,argTypes:=tys },ty,pos,after,g⟩ st=CI (cY C st.env tys[0]? args[0]?) dst (Aj al dst) st) /\
 (∀ draw al dst args tys ty pos after g st,so draw al ⟨dst,.call { callee:=.builtin .max,args,argTypes:=tys },ty,pos,after,g⟩ st=CI (nR (args.toList.map (opd C st.env))) dst (Aj al dst) st) /\
 (∀ draw al dst args tys ty pos after g st,so draw al ⟨dst,.call { callee:=.builtin .min,args,argTypes:=tys },ty,pos,after,g⟩ st=CI (nS (args.toList.map (opd C st.env))) dst (Aj al dst) st) /\
 (∀ draw al dst args tys ty pos after g st,so draw al ⟨dst,.call { callee:=.builtin .append,args,argTypes:=tys },ty,pos,after,g⟩ st=La C st al args tys dst) /\
 (∀ al dst k args tys ty pos after g st,so false al ⟨dst,.call { callee:=.value (.func k),args,argTypes:=tys },ty,pos,after,g⟩ st =
  JJ C co tys k (args.toList.map (fun x=>(opd C st.env x).shutV)) dst al st) /\
 (∀ al dst k args tys ty pos after g st,C.heap k=false->Ak (args.toList.map (fun x=>(opd C st.env x).shutV))=true->so true al ⟨dst,.call { callee:=.value (.func k),args,argTypes:=tys },ty,pos,after,g⟩ st =
  Ek C (co k (args.toList.map (fun x=>(opd C st.env x).shutV)) st.bx) k (args.toList.map (fun x=>(opd C st.env x).shutV)) dst al st) /\
 (∀ draw al dst t len parts ty pos after g st,so draw al ⟨dst,.buildSlice t len parts,ty,pos,after,g⟩ st=CI (AZ C t len (parts.toList.map fun p=>(p.1,opd C st.env p.2))) dst (Aj al dst) st) /\
 (∀ draw al dst t l c ty pos after g st,so draw al ⟨dst,.makeSlice t l c,ty,pos,after,g⟩ st=CI (FY C t (opd C st.env l) (opd C st.env c)) dst (Aj al dst) st) /\
 (∀ draw al dst t a ty pos after g st,so draw al ⟨dst,.load t a,ty,pos,after,g⟩ st=Kq C draw al dst t (opd C st.env a) st) /\
 (∀ draw al dst t ty pos after g st,so draw al ⟨dst,.alloc t,ty,pos,after,g⟩ st=Wa t (zeroCells C t) dst al st) /\
 (∀ draw al dst t a i ty pos after g st,so draw al ⟨dst,.store t a (.tmp i),ty,pos,after,g⟩ st=Jc C t (opd C st.env a) (getT st.env i) i dst al st) /\
 (∀ draw al dst t x ty pos after g st,((opd C st.env x).cells.map PV.ro).all PV.one=true->so draw al ⟨dst,.box t x,ty,pos,after,g⟩ st =
  some (.next ((St.mk st.env (st.bx++[.cells t ((opd C st.env x).cells.map PV.ro)])).put dst (.bp st.bx.length 0)) (Aj al dst))) /\
 (∀ al dst s ty pos after g st,so false al ⟨dst,.assign (.const (.string s)),ty,pos,after,g⟩ st=CI (some (.str s.data.toList)) dst (Aj al dst) st) /\
 (∀ al dst cs ty pos after g st,so false al ⟨dst,.assign (.const (.agg cs)),ty,pos,after,g⟩ st=CI (some (cval (.agg cs)).ro) dst (Aj al dst) st) /\
 (∀ al dst ty pos after g st,so false al ⟨dst,.assign (.const (.pointer none)),ty,pos,after,g⟩ st=CI (some .nilp) dst (Aj al dst) st) /\
 (∀ al dst ty pos after g st,so false al ⟨dst,.assign (.const .nilIface),ty,pos,after,g⟩ st=CI (some .nili) dst (Aj al dst) st) /\
 (∀ al dst ty pos after g st,so false al ⟨dst,.assign (.const .nilFunc),ty,pos,after,g⟩ st=CI (some .nilf) dst (Aj al dst) st) /\
 (∀ al dst f ty pos after g st,so false al ⟨dst,.assign (.func f),ty,pos,after,g⟩ st=CI (some (.fn f [] [])) dst (Aj al dst) st) /\
 (∀ draw al dst s x f ty pos after g st,so draw al ⟨dst,.fieldAddr s x f,ty,pos,after,g⟩ st=CI (AG C s f (opd C st.env x)) dst (Aj al dst) st) /\
 (∀ draw al dst s x f ty pos after g st,so draw al ⟨dst,.field s x f,ty,pos,after,g⟩ st=CI (Bj C s f (opd C st.env x)) dst (Aj al dst) st) /\
 (∀ draw al dst t parts ty pos after g st,so draw al ⟨dst,.build t parts,ty,pos,after,g⟩ st=CI (A' C t (parts.toList.map fun p=>(p.1,(opd C st.env p.2).shutV))) dst (Aj al dst) st) /\
 (∀ draw al dst x ty pos after g st,so draw al ⟨dst,.nilCheck x,ty,pos,after,g⟩ st=CI (CZ (opd C st.env x)) dst (Aj al dst) st) /\
 (∀ draw al dst f first captured ty pos after g st,so draw al ⟨dst,.makeFunc (.func f) first captured,ty,pos,after,g⟩ st=CI (some (.fn f (first.toList.map fun x=>(opd C st.env x).shutV) (captured.toList.map fun x=>(opd C st.env x).shutV))) dst (Aj al dst) st) /\
 (∀ draw al dst k args tys ty pos after g st,so draw al ⟨dst,.call { callee:=.value (.tmp k),args,argTypes:=tys },ty,pos,after,g⟩ st =
  Aw C co (opd C st.env (.tmp k)) (args.toList.map (fun x=>(opd C st.env x).shutV)) dst al st) /\
 (∀ draw al dst x ty pos after g st,so draw al ⟨dst,.panic x,ty,pos,after,g⟩ st=sh (opd C st.env x) st) /\
 (∀ draw al dst t a k n ty pos after g st,so draw al ⟨dst,.store t a (.const (.int k n)),ty,pos,after,g⟩ st=HX C t (opd C st.env a) (.int k n) dst al st) /\
 (∀ draw al dst t a b ty pos after g st,so draw al ⟨dst,.store t a (.const (.bool b)),ty,pos,after,g⟩ st=HX C t (opd C st.env a) (.bool b) dst al st) /\
 (∀ draw al dst t a s ty pos after g st,so draw al ⟨dst,.store t a (.const (.string s)),ty,pos,after,g⟩ st=HX C t (opd C st.env a) (.str s.data.toList) dst al st) /\
 (∀ draw al dst t a cs ty pos after g st,so draw al ⟨dst,.store t a (.const (.agg cs)),ty,pos,after,g⟩ st=HX C t (opd C st.env a) (cval (.agg cs)).ro dst al st) /\
 (∀ draw al dst t x ty pos after g st,so draw al ⟨dst,.range t x,ty,pos,after,g⟩ st=aU (C.P.underlying t) (opd C st.env x) dst al st) /\
 (∀ draw al dst x ty pos after g st,so draw al ⟨dst,.next x true,ty,pos,after,g⟩ st=JK (opd C st.env x) dst al st) /\
 (∀ draw al dst t x ty pos after g st,so draw al ⟨dst,.makeInterface t x,ty,pos,after,g⟩ st=CI (mkIf (C.P.underlying t) t (opd C st.env x).shutV) dst (Aj al dst) st)
abbrev vJ (ev:Code->St->Option (Ex×St)) (eo:Bool->Array Oper->List Oper->List (Nat×Loc)->St->Option (Ex×St)) (so:Bool->List (Nat×Loc)->Oper->St->Option OpR)
 (co:FuncId->List PV->List PBox->Option (CR×List PBox)):Prop:=(∀ a b st,ev (.seq a b) st=D9 (ev a st) (ev b))/\(∀ i ops draw st,ev (.region i ops draw) st=eo draw ops ops.toList [] st)/\(∀ st,ev .ret st=some (.ret,st))/\(∀ st,ev .skip st=some (.normal,st)) /\
 (∀ i st,ev (.exit i) st=some (.exit i,st))/\(∀ i b st,ev (.block i b) st=EM i (ev b st)) /\
 (∀ o a b st,ev (.cond o a b) st=MM (opd C st.env o) (ev a) (ev b) st) /\
 RSH C ev eo so co
abbrev zI (dr:Array Oper->St->Option (Ex×St)) (ev:Code->St->Option (Ex×St)) (eo:Bool->Array Oper->List Oper->List (Nat×Loc)->St->Option (Ex×St)) (so:Bool->List (Nat×Loc)->Oper->St->Option OpR)
 (co:FuncId->List PV->List PBox->Option (CR×List PBox)):Prop:=(∀ a b st,ev (.seq a b) st=D9 (ev a st) (ev b))/\((∀ i ops st,ev (.region i ops false) st=eo false ops ops.toList [] st)/\(∀ i ops st,ev (.region i ops true) st=dr ops st))/\(∀ st,ev .ret st=some (.ret,st))/\(∀ st,ev .skip st=some (.normal,st)) /\
 (∀ i st,ev (.exit i) st=some (.exit i,st))/\(∀ i b st,ev (.block i b) st=EM i (ev b st)) /\
 (∀ o a b st,ev (.cond o a b) st=MM (opd C st.env o) (ev a) (ev b) st) /\
 RSH C ev eo so co
theorem L':∃ (ev:Code->St->Option (Ex×St)) (eo:Bool->Array Oper->List Oper->List (Nat×Loc)->St->Option (Ex×St)) (so:Bool->List (Nat×Loc)->Oper->St->Option OpR)
 (co:FuncId->List PV->List PBox->Option (CR×List PBox)),(ev=Cf C/\co=Ai C (Ad C)/\eo=evOps C (Ad C)/\so=Bq C (Ad C)) /\
 vJ C ev eo so co:=by
 have nt:∀ (draw:Bool) (st:St) (op:Op) (dst:Option Tmp) (al:List (Nat×Loc)),origin C st op=none->Gv C draw st op dst al=Aj al dst:=by
  intro draw st op dst al h
  have hD:E' op st.env dst=[]:=by
   unfold E';split
   · rename_i t d
     split
     · rename_i x xs hx
       unfold origin at h;simp only [hx] at h;cases h
     · rfl
   · rfl
  unfold Gv;rw [hD];rw [h];cases draw <;> cases dst <;> rfl
 have pr:∀ (draw:Bool) (al:List (Nat×Loc)) dst ty pos after g (op:Op) (st:St),(Bq C (Ad C) draw al ⟨dst,op,ty,pos,after,g⟩ st=match BZ C st.bx st.env op with
  | some v=>some (.next (st.put dst v) (Gv C draw st op dst al))
  | none=>none)->origin C st op=none->Bq C (Ad C) draw al ⟨dst,op,ty,pos,after,g⟩ st=CI (BZ C st.bx st.env op) dst (Aj al dst) st:=
  fun draw al dst ty pos after g op st h ho=>od C h (nt _ _ _ _ _ ho)
 refine ⟨Cf C,evOps C (Ad C),Bq C (Ad C),Ai C (Ad C),⟨rfl,rfl,rfl,rfl⟩,cT,Q2,cS,XW,XX,UZ,?_,fun _ _ _ _=>rfl,?_,?_,
  ?_,?_,?_,?_,?_,?_,?_,?_,?_,?_,?_,?_,?_,?_,?_,?_,?_,?_,?_,?_,fun _ _ _ _ _ _ _ _ _ _=>rfl,?_,?_,?_,?_,?_,?_,?_,?_,
  fun _ _ _ _ _ _ _ _=>rfl,fun _ _ _ _ _ _ _ _=>rfl,fun _ _ _ _ _ _ _=>rfl,fun _ _ _ _ _ _ _=>rfl,fun _ _ _ _ _ _ _=>rfl,fun _ _ _ _ _ _ _ _=>rfl,?_,?_,?_,?_,?_,?_,?_,?_,?_,?_,?_,?_,?_,?_⟩
 · intro o a b st
   rw [iO];unfold MM;cases opd C st.env o <;> rfl
 · intro draw ops dst op ty pos after rest al st
   show (match Bq C (Ad C) draw al ⟨dst,op,ty,pos,after,none⟩ st with
    | none=>none
    | some (.next st' al')=>evOps C (Ad C) draw ops rest al' st'
    | some (.pan v st')=>some (.pan v,st'))=_
   unfold nZ;cases Bq C (Ad C) draw al ⟨dst,op,ty,pos,after,none⟩ st with
   | none=>rfl
   | some r=>cases r <;> rfl
 · intro draw ops dst op ty pos after j w rest al st
   have hw:GB ops st.env ⟨dst,op,ty,pos,after,some (j,w)⟩=Li ops j st.env w:=by
    unfold Li GB;simp only;cases (ops[j]?).bind (·.dst) <;> rfl
   rw [evOps,hw];unfold U' nZ;cases Li ops j st.env w with
   | none=>rfl
   | some b=>cases b with
    | false=>rfl
    | true=>
     simp only;cases Bq C (Ad C) draw al ⟨dst,op,ty,pos,after,some (j,w)⟩ st with
     | none=>rfl
     | some r=>cases r <;> rfl
 · intro draw al dst t ty pos after g st
   show some (OpR.next (st.put dst (getT st.env t).ro) (Gv C draw st (.move (.tmp t)) dst al))=some (OpR.next (st.put dst (getT st.env t).ro) (FH draw (getT st.env t) t dst al));unfold Gv FH E'
   rw [show origin C st (.move (.tmp t))=(match getT st.env t with
    | .osl _ _=>some (Loc.tmp t)
    | _=>none) from rfl]
   cases draw with
   | false=>generalize getT st.env t=v;cases v <;> cases dst <;> rfl
   | true=>
    cases dst with
    | none=>generalize getT st.env t=v;cases v <;> rfl
    | some d=>
     by_cases h:t=d
     · subst h
       cases hv:getT st.env t <;> simp [hv]
     · cases hv:getT st.env t <;> simp [hv,h]
 · intro draw al dst v ty pos after g st
   exact pr draw al dst ty pos after g (.move (.const v)) st rfl rfl
 · intro al dst i ty pos after g st
   show some (OpR.next ((D8 C st (.tmp i) ty).2.put dst (D8 C st (.tmp i) ty).1) (Aj (Aj al (some i)) dst))=_
   rw [show D8 C st (.tmp i) ty=(match getT st.env i with
    | .osl e xs=>(.osl e xs,{ st with env:=setT st.env i (.sl xs) })
    | v=>(v,st)) from rfl]
   unfold Gw;generalize getT st.env i=v;cases v <;> rfl
 · intro al dst k n ty pos after g st;rfl
 · intro al dst b ty pos after g st;rfl
 · intro al dst ty pos after g st
   show some (OpR.next ((D8 C st (.const (.slice none 0 0)) ty).2.put dst (D8 C st (.const (.slice none 0 0)) ty).1) (Aj al dst))=_;unfold D8 Rj CI;simp only;split <;> (try split) <;> simp_all
 · intro al dst x ty pos after g st h
   show (if true && AN C ty then _ else _)=_;rw [h];rfl
 · intro al dst i ty pos after g st h
   show (if true && AN C ty then _ else some (OpR.next ((D8 C st (.tmp i) ty).2.put dst (D8 C st (.tmp i) ty).1) (Aj (Aj al (some i)) dst)))=_;rw [h,if_neg (by decide)]
   rw [show D8 C st (.tmp i) ty=(match getT st.env i with
    | .osl e xs=>(.osl e xs,{ st with env:=setT st.env i (.sl xs) })
    | v=>(v,st)) from rfl]
   unfold Gw;generalize getT st.env i=v;cases v <;> rfl
 · intro al dst ty pos after g st h
   show (if true && AN C ty then _ else some (OpR.next ((D8 C st (.const (.slice none 0 0)) ty).2.put dst (D8 C st (.const (.slice none 0 0)) ty).1) (Aj al dst)))=_;rw [h,if_neg (by decide)];unfold D8 Rj CI;simp only;split <;> (try split) <;> simp_all
 · intro draw al dst c a b ty pos after g st
   rw [pr draw al dst ty pos after g (.pick c a b) st rfl rfl]
   show CI (match opd C st.env c with
    | .bool t=>some (if t then opd C st.env a else opd C st.env b)
    | _=>none) dst (Aj al dst) st=_
   unfold U9;cases opd C st.env c <;> rfl
 · intro draw al dst bop t x y ty2 ty pos after g st;exact pr draw al dst ty pos after g _ st rfl rfl
 · intro draw al dst uop t x ty pos after g st;exact pr draw al dst ty pos after g _ st rfl rfl
 · intro draw al dst s d x ty pos after g st;exact pr draw al dst ty pos after g _ st rfl rfl
 · intro draw al dst t x i ty pos after g st;exact pr draw al dst ty pos after g _ st rfl rfl
 · intro draw al dst t x i ty pos after g st;exact pr draw al dst ty pos after g _ st rfl rfl
 · intro draw al dst t x lo hi ty pos after g st;exact pr draw al dst ty pos after g _ st rfl rfl
 · intro draw al dst x i ty pos after g st
   rw [pr draw al dst ty pos after g (.extract x i) st rfl rfl]
   show CI (match opd C st.env x with
    | .tup vs=>vs[i]?.map PV.ro
    | _=>none) dst (Aj al dst) st=_
   unfold aO;cases opd C st.env x <;> rfl
 · intro draw al dst args tys ty pos after g st
   rw [pr draw al dst ty pos after g _ st rfl rfl]
   show CI (match tys[0]?,args[0]? with
    | some t,some x=>Tq C t (opd C st.env x)
    | _,_=>none) dst (Aj al dst) st=_
   unfold cY;cases tys[0]? <;> cases args[0]? <;> rfl
 · intro draw al dst args tys ty pos after g st;exact pr draw al dst ty pos after g _ st rfl rfl
 · intro draw al dst args tys ty pos after g st;exact pr draw al dst ty pos after g _ st rfl rfl
 · intro al dst k args tys ty pos after g st
   show (if (false && VV (.func k)) && (C.heap k || !(Ak (args.toList.map fun x=>(opd C st.env x).shutV))) then none else match JS C (.func k) tys k (([]:List PV)++args.toList.map (fun x=>(opd C st.env x).shutV)++[]) al st.bx with
    | some m=>match Ai C (Ad C) k (([]:List PV)++args.toList.map (fun x=>(opd C st.env x).shutV)++[]) (st.bx.take m) with
     | some (.ret v,bx)=>if decide (bx.length=m) && (v.under m && bx.all (·.under m)) then some (OpR.next ((St.mk st.env (bx++st.bx.drop m)).put dst v) (Aj al dst)) else none
     | some (.pan v,bx)=>if decide (bx.length=m) && (v.under m && bx.all (·.under m)) then some (OpR.pan v { st with bx:=bx++st.bx.drop m }) else none
     | none=>none
    | none=>match Ai C (Ad C) k (([]:List PV)++args.toList.map (fun x=>(opd C st.env x).shutV)++[]) st.bx with
     | some (.ret v,bx)=>some (OpR.next ((St.mk st.env bx).put dst v) (Aj (Dp C k (([]:List PV)++args.toList.map (fun x=>(opd C st.env x).shutV)++[]) al) dst))
     | some (.pan v,bx)=>some (OpR.pan v { st with bx })
     | none=>none)=_
   rw [Aaz,Aav];unfold JJ;cases JS C (.func k) tys k (args.toList.map fun x=>(opd C st.env x).shutV) al st.bx with
   | some m=>
    simp only;unfold L9;cases Ai C (Ad C) k (args.toList.map fun x=>(opd C st.env x).shutV) (st.bx.take m) with
    | none=>rfl
    | some r=>obtain ⟨r,b⟩:=r;cases r <;> rfl
   | none=>
    simp only;unfold Ek;cases Ai C (Ad C) k (args.toList.map fun x=>(opd C st.env x).shutV) st.bx with
    | none=>rfl
    | some r=>obtain ⟨r,b⟩:=r;cases r <;> rfl
 · intro al dst k args tys ty pos after g st hh hp
   show (if (true && VV (.func k)) && (C.heap k || !(Ak (([]:List PV)++args.toList.map (fun x=>(opd C st.env x).shutV)++[]))) then none else match JS C (.func k) tys k (([]:List PV)++args.toList.map (fun x=>(opd C st.env x).shutV)++[]) al st.bx with
    | some m=>match Ai C (Ad C) k (([]:List PV)++args.toList.map (fun x=>(opd C st.env x).shutV)++[]) (st.bx.take m) with
     | some (.ret v,bx)=>if decide (bx.length=m) && (v.under m && bx.all (·.under m)) then some (OpR.next ((St.mk st.env (bx++st.bx.drop m)).put dst v) (Aj al dst)) else none
     | some (.pan v,bx)=>if decide (bx.length=m) && (v.under m && bx.all (·.under m)) then some (OpR.pan v { st with bx:=bx++st.bx.drop m }) else none
     | none=>none
    | none=>match Ai C (Ad C) k (([]:List PV)++args.toList.map (fun x=>(opd C st.env x).shutV)++[]) st.bx with
     | some (.ret v,bx)=>some (OpR.next ((St.mk st.env bx).put dst v) (Aj (Dp C k (([]:List PV)++args.toList.map (fun x=>(opd C st.env x).shutV)++[]) al) dst))
     | some (.pan v,bx)=>some (OpR.pan v { st with bx })
     | none=>none)=_
   rw [Aaz,Aav,hh,hp]
   have Cr:JS C (.func k) tys k (args.toList.map fun x=>(opd C st.env x).shutV) al st.bx=none:=by
    unfold JS cutAt;rw [hh,hp];cases (cP (.func k) && iL C tys) <;> cases CL al <;> rfl
   rw [Cr];unfold Ek;cases Ai C (Ad C) k (args.toList.map fun x=>(opd C st.env x).shutV) st.bx with
   | none=>rfl
   | some r=>obtain ⟨r,b⟩:=r;cases r <;> rfl
 · intro draw al dst t len parts ty pos after g st
   show (match AZ C t len (parts.toList.map fun p=>(p.1,opd C st.env p.2)) with
    | some v=>some (OpR.next (st.put dst v) (Aj al dst))
    | none=>none)=_
   unfold CI;cases AZ C t len (parts.toList.map fun p=>(p.1,opd C st.env p.2)) <;> rfl
 · intro draw al dst t l c ty pos after g st
   show (match FY C t (opd C st.env l) (opd C st.env c) with
    | some v=>some (OpR.next (st.put dst v) (Aj al dst))
    | none=>none)=_
   unfold CI;cases FY C t (opd C st.env l) (opd C st.env c) <;> rfl
 · intro draw al dst t a ty pos after g st
   show (match G2 C st.bx t (opd C st.env a) with
    | some v=>some (OpR.next (st.put dst v) (Gv C draw st (.load t a) dst al))
    | none=>none)=_
   unfold Kq;cases G2 C st.bx t (opd C st.env a) with
   | none=>rfl
   | some x=>cases draw <;> cases dst <;> rfl
 · intro draw al dst t ty pos after g st
   show (match tZero C t with
    | some z=>if (z.cells.map PV.ro).all PV.one then some (OpR.next ((St.mk st.env (st.bx++[PBox.cells t (z.cells.map PV.ro)])).put dst (PV.bp st.bx.length 0)) (Aj al dst)) else none
    | none=>none)=_
   unfold Wa zeroCells;cases tZero C t with
   | none=>rfl
   | some z=>
    simp only;split <;> rfl
 · intro draw al dst t a i ty pos after g st
   show (match opd C st.env a with
    | .bp id off=>
     if tSize C t=some (laid (D8 C st (.tmp i) t).1).length then
      match BK (D8 C st (.tmp i) t).2.bx id off (laid (D8 C st (.tmp i) t).1) with
      | some bx=>some (OpR.next ((St.mk (D8 C st (.tmp i) t).2.env bx).put dst und) (Aj (al.filter fun p=>(match p.2 with | .box i _=>i != id | .tmp k=>(match (Abl i) with | .tmp j=>k != j | _=>true))) dst))
      | none=>none
     else none
    | _=>none)=_
   rw [show D8 C st (.tmp i) t=(match getT st.env i with
    | .osl e xs=>(.osl e xs,{ st with env:=setT st.env i (.sl xs) })
    | v=>(v,st)) from rfl]
   unfold Jc;generalize getT st.env i=v;generalize opd C st.env a=p;cases p <;> cases v <;> rfl
 · intro draw al dst t x ty pos after g st h
   show (if ((opd C st.env x).cells.map PV.ro).all PV.one then _ else none)=_;rw [if_pos h]
 · intro draw al dst s x f ty pos after g st;exact pr draw al dst ty pos after g _ st rfl rfl
 · intro draw al dst s x f ty pos after g st;exact pr draw al dst ty pos after g _ st rfl rfl
 · intro draw al dst t parts ty pos after g st;exact pr draw al dst ty pos after g _ st rfl rfl
 · intro draw al dst x ty pos after g st
   rw [pr draw al dst ty pos after g (.nilCheck x) st rfl rfl]
   show CI (match opd C st.env x with
    | .ip cs=>some (.ip cs)
    | .bp id off=>some (.bp id off)
    | .fn f a b=>some (.fn f a b)
    | _=>none) dst (Aj al dst) st=_
   unfold CZ;cases opd C st.env x <;> rfl
 · intro draw al dst f first captured ty pos after g st;exact pr draw al dst ty pos after g _ st rfl rfl
 · intro draw al dst k args tys ty pos after g st
   have qI:∀ (x:Bool) (y z:Option OpR),(if (draw && VV (.tmp k)) && x then y else z)=z:=fun x y z=>by simp [VV]
   show (match (match opd C st.env (.tmp k) with
    | .fn k first captured=>some (k,first.map PV.shutV++args.toList.map (fun x=>(opd C st.env x).shutV)++captured.map PV.shutV)
    | _=>none) with
    | some (k2,vs)=>if (draw && VV (.tmp k)) && (C.heap k2 || !(Ak vs)) then none else (match JS C (.tmp k) tys k2 vs al st.bx with
    | some m=>match Ai C (Ad C) k2 vs (st.bx.take m) with
     | some (.ret v,bx)=>if decide (bx.length=m) && (v.under m && bx.all (·.under m)) then some (OpR.next ((St.mk st.env (bx++st.bx.drop m)).put dst v) (Aj al dst)) else none
     | some (.pan v,bx)=>if decide (bx.length=m) && (v.under m && bx.all (·.under m)) then some (OpR.pan v { st with bx:=bx++st.bx.drop m }) else none
     | none=>none
    | none=>match Ai C (Ad C) k2 vs st.bx with
     | some (.ret v,bx)=>some (OpR.next ((St.mk st.env bx).put dst v) (Aj (Dp C k2 vs al) dst))
     | some (.pan v,bx)=>some (OpR.pan v { st with bx })
     | none=>none)
    | none=>none)=_
   unfold Aw;cases opd C st.env (.tmp k) with
   | fn f a b=>
    simp only [qI];have Cr:∀ k2 vs,JS C (.tmp k) tys k2 vs al st.bx=none:=fun k2 vs=>by unfold JS;rfl
    rw [Cr];unfold Ek;cases Ai C (Ad C) f _ st.bx with
    | none=>rfl
    | some r=>obtain ⟨r,b⟩:=r;cases r <;> rfl
   | _=>rfl
 · intro draw al dst x ty pos after g st
   show (match opd C st.env x with
    | .iface t v=>some (OpR.pan (.iface t v) st)
    | _=>none)=_
   unfold sh;cases opd C st.env x <;> rfl
 · intro draw al dst t a k n ty pos after g st
   show (match opd C st.env a with | .bp id off=>_ | _=>none)=_;unfold HX;cases opd C st.env a <;> rfl
 · intro draw al dst t a b ty pos after g st
   show (match opd C st.env a with | .bp id off=>_ | _=>none)=_;unfold HX;cases opd C st.env a <;> rfl
 · intro draw al dst t a s ty pos after g st
   show (match opd C st.env a with | .bp id off=>_ | _=>none)=_;unfold HX;cases opd C st.env a <;> rfl
 · intro draw al dst t a cs ty pos after g st
   show (match opd C st.env a with | .bp id off=>_ | _=>none)=_;unfold HX;cases opd C st.env a <;> rfl
 · intro draw al dst t x ty pos after g st
   show (match C.P.underlying t,opd C st.env x with
    | some .string,.str s=>some (OpR.next ((St.mk st.env (st.bx++[PBox.iter s 0])).put dst (.bp st.bx.length 0)) (Aj al dst))
    | _,_=>none)=_
   unfold aU;rfl
 · intro draw al dst x ty pos after g st
   show (match opd C st.env x with
    | .bp id 0=>match st.bx[id]? with
     | some (PBox.iter s pos)=>
      if pos < s.length then
       some (OpR.next ((St.mk st.env (st.bx.set id (PBox.iter s (pos+(Ab5 ⟨s.toArray⟩ pos).2)))).put dst (.tup [.bool true,.int .i64 pos,.int .i32 (Ab5 ⟨s.toArray⟩ pos).1])) (Aj al dst))
      else some (OpR.next (st.put dst (.tup [.bool false])) (Aj al dst))
     | _=>none
    | _=>none)=_
   unfold JK;rfl
 · intro draw al dst t x ty pos after g st;exact pr draw al dst ty pos after g _ st rfl rfl
theorem Yn:∃ (ev:Code->St->Option (Ex×St)) (eo:Bool->Array Oper->List Oper->List (Nat×Loc)->St->Option (Ex×St)) (so:Bool->List (Nat×Loc)->Oper->St->Option OpR)
 (co:FuncId->List PV->List PBox->Option (CR×List PBox)),(ev=Cf C/\co=Ai C (Ad C)) /\
 vJ C ev eo so co:=by
 obtain ⟨ev,eo,so,co,⟨h1,h2,_⟩,r⟩:=L' C;exact ⟨ev,eo,so,co,⟨h1,h2⟩,r⟩
theorem N0:∃ (dr:Array Oper->St->Option (Ex×St)) (ev:Code->St->Option (Ex×St)) (eo:Bool->Array Oper->List Oper->List (Nat×Loc)->St->Option (Ex×St)) (so:Bool->List (Nat×Loc)->Oper->St->Option OpR)
 (co:FuncId->List PV->List PBox->Option (CR×List PBox)),(ev=Lp C/\co=Ai C (Ad C)/\eo=evOps C (Ad C)/\dr=G4 C (Ad C)) /\
 zI C dr ev eo so co:=by
 obtain ⟨ev,eo,so,co,⟨h1,h2,h3,_⟩,r1,r2,r3,r4,r5,r6,r7,r⟩:=L' C;refine ⟨G4 C (Ad C),Lp C,eo,so,co,⟨rfl,h2,h3,rfl⟩,XV true,⟨fun i ops st=>?_,fun i ops st=>Kl true i ops true st⟩,XU true,UU true,UW true,Q1 true,?_,r⟩
 · rw [h3]
   exact Kl true i ops false st
 · intro o a b st
   have hx:=UX (C:=C) true o a b st;show Lp C (.cond o a b) st=MM (opd C st.env o) (Lp C a) (Lp C b) st;unfold Lp;rw [hx];unfold MM;cases opd C st.env o <;> rfl
end
theorem SF:(type_of% @Li.eq_def)/\(type_of% @D6.eq_1)/\(type_of% @D6.eq_2)/\(type_of% @D6.eq_3)/\(type_of% @D6.eq_4)/\(type_of% @D6.eq_5)/\(type_of% @D6.eq_6)/\(type_of% @D6.eq_7)/\(type_of% @D6.eq_8)/\(type_of% @D6.eq_9)/\(type_of% @D6.eq_10)/\(type_of% @D6.eq_11)/\(type_of% @D6.eq_12)/\(type_of% @D6.eq_13)/\(type_of% @D6.eq_14)/\(type_of% @D6.eq_15)/\(type_of% @D5.eq_1)/\(type_of% @D5.eq_2)/\(type_of% @D5.eq_3)/\(type_of% @D5.eq_4)/\(type_of% @D5.eq_5)/\(type_of% @D5.eq_6)/\(type_of% @D5.eq_7)/\(type_of% @D5.eq_8)/\(type_of% @D5.eq_9)/\(type_of% @D5.eq_10)/\(type_of% @D5.eq_11)/\(type_of% @D5.eq_12)/\(type_of% @D5.eq_13)/\(type_of% @D5.eq_14)/\(type_of% @EL.eq_def)/\(type_of% @CK.eq_def)/\(type_of% @readCells.eq_def)/\(type_of% @Tq.eq_def)/\(type_of% @cY.eq_def)/\(type_of% @Cp.eq_1)/\(type_of% @Cp.eq_2)/\(type_of% @HD.eq_1)/\(type_of% @HD.eq_2)/\(type_of% @Iq.eq_1)/\(type_of% @Iq.eq_2)/\(type_of% @La.eq_def)/\(type_of% @CY.eq_def)/\(type_of% @MB.eq_1)/\(type_of% @MB.eq_2)/\(type_of% @FX.eq_1)/\(type_of% @FX.eq_2)/\(type_of% @E9.eq_1)/\(type_of% @E9.eq_2)/\(type_of% @A0.eq_def)/\(type_of% @und.eq_def)/\(type_of% @Abx):=
 ⟨@Li.eq_def,@D6.eq_1,@D6.eq_2,@D6.eq_3,@D6.eq_4,@D6.eq_5,@D6.eq_6,@D6.eq_7,@D6.eq_8,@D6.eq_9,@D6.eq_10,@D6.eq_11,@D6.eq_12,@D6.eq_13,@D6.eq_14,@D6.eq_15,@D5.eq_1,@D5.eq_2,@D5.eq_3,@D5.eq_4,@D5.eq_5,@D5.eq_6,@D5.eq_7,@D5.eq_8,@D5.eq_9,@D5.eq_10,@D5.eq_11,@D5.eq_12,@D5.eq_13,@D5.eq_14,@EL.eq_def,@CK.eq_def,@readCells.eq_def,@Tq.eq_def,@cY.eq_def,@Cp.eq_1,@Cp.eq_2,@HD.eq_1,@HD.eq_2,@Iq.eq_1,@Iq.eq_2,@La.eq_def,@CY.eq_def,@MB.eq_1,@MB.eq_2,@FX.eq_1,@FX.eq_2,@E9.eq_1,@E9.eq_2,@A0.eq_def,@und.eq_def,@Abx⟩
theorem SG:(type_of% @nQ.eq_def)/\(type_of% @aO.eq_def)/\(type_of% @Kq.eq_def)/\(type_of% @G2.eq_def)/\(type_of% @lay.eq_def)/\(type_of% @Abb.{0})/\(type_of% @Abm.{0})/\(type_of% @Abn.{0})/\(type_of% @Aax.{0})/\(type_of% @Ab0.{0})/\(type_of% @Abq.{0})/\(type_of% @Ab6.{0})/\(type_of% @Abh.{0})/\(type_of% @Aau.{0})/\(type_of% @Aaw.{0})/\(type_of% @Aav.{0})/\(type_of% @Ab2)/\(type_of% @Ab3)/\(type_of% @Ab1):=
 ⟨@nQ.eq_def,@aO.eq_def,@Kq.eq_def,@G2.eq_def,@lay.eq_def,@Abb,@Abm,@Abn,@Aax,@Ab0,@Abq,@Ab6,@Abh,@Aau,@Aaw,@Aav,@Ab2,@Ab3,@Ab1⟩
theorem SH:(type_of% @Jc.eq_def)/\(type_of% @HX.eq_def)/\(type_of% @BK.eq_def)/\(type_of% @laid.eq_def)/\(type_of% @QY.eq_def)/\(type_of% @Dp.eq_def):=
 ⟨@Jc.eq_def,@HX.eq_def,@BK.eq_def,@laid.eq_def,@QY.eq_def,@Dp.eq_def⟩
end Go.HH
