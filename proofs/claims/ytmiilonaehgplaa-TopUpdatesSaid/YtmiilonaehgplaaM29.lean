/-
  What the law needs, packed: Rules.
-/
import Derived.Test.YtmiilonaehgplaaM28
namespace Go.HH
open Go
def putP (v:Option PV) (d:Option Tmp) (al:List (Nat×Loc)) (st:St):Option OpR:=
 match v with
 | some v=>some (.next (st.put d v) al)
 | none=>none
theorem putP_some (v:PV) (d:Option Tmp) (al:List (Nat×Loc)) (st:St):putP (some v) d al st=some (.next (st.put d v) al):=rfl
def pickP (c:PV) (a b:PV):Option PV:=match c with
 | .bool t=>some (if t then a else b)
 | _=>none
theorem pickP_true (a b:PV):pickP (.bool true) a b=some a:=rfl
theorem pickP_false (a b:PV):pickP (.bool false) a b=some b:=rfl
def guardP (v:PV) (want:Bool):Option Bool:=match v with
 | .bool b=>some (b == want)
 | .tup _=>some false
 | _=>none
theorem guardP_true (w:Bool):guardP (.bool true) w=some w:=by cases w <;> rfl
theorem guardP_false (w:Bool):guardP (.bool false) w=some (!w):=by cases w <;> rfl
theorem guardP_und (w:Bool):guardP und w=some false:=rfl
def goE (r:Option OpR) (k:List (Nat×Loc)->St->Option (Ex×St)):Option (Ex×St):=match r with
 | none=>none
 | some (.next st' al')=>k al' st'
 | some (.pan v st')=>some (.pan v,st')
theorem goE_next (st:St) (al:List (Nat×Loc)) (k:List (Nat×Loc)->St->Option (Ex×St)):goE (some (.next st al)) k=k al st:=rfl
def wantE (w:Option Bool) (f:St->Option OpR) (k:List (Nat×Loc)->St->Option (Ex×St)) (al:List (Nat×Loc)) (dst:Option Tmp) (st:St):Option (Ex×St):=match w with
 | none=>none
 | some false=>k (killT al dst) (st.put dst und)
 | some true=>goE (f st) k
theorem wantE_true (f:St->Option OpR) (k:List (Nat×Loc)->St->Option (Ex×St)) (al:List (Nat×Loc)) (dst:Option Tmp) (st:St):wantE (some true) f k al dst st=goE (f st) k:=rfl
theorem wantE_false (f:St->Option OpR) (k:List (Nat×Loc)->St->Option (Ex×St)) (al:List (Nat×Loc)) (dst:Option Tmp) (st:St):wantE (some false) f k al dst st=k (killT al dst) (st.put dst und):=rfl
def condE (v:PV) (f g:St->Option (Ex×St)) (st:St):Option (Ex×St):=match v with
 | .bool t=>if t then f st else g st
 | _=>none
theorem condE_true (f g:St->Option (Ex×St)) (st:St):condE (.bool true) f g st=f st:=rfl
theorem condE_false (f g:St->Option (Ex×St)) (st:St):condE (.bool false) f g st=g st:=rfl
def guardAt (ops:Array Oper) (j:Nat) (e:List PV) (w:Bool):Option Bool:=match (ops[j]?).bind (·.dst) with
 | some d=>guardP (getT e d) w
 | none=>none
def extP (v:PV) (i:Nat):Option PV:=match v with
 | .tup vs=>vs[i]?.map PV.ro
 | _=>none
theorem extP_tup (vs:List PV) (i:Nat):extP (.tup vs) i=vs[i]?.map PV.ro:=rfl
def nilV (C:Cfg) (ty:TypeId):PV:=match C.P.underlying ty with
 | some (.slice e)=>if (C.P.info? e).isSome then .osl e [] else .nils
 | _=>.nils
def loadR (C:Cfg) (draw:Bool) (al:List (Nat×Loc)) (d:Option Tmp) (t:TypeId) (v:PV) (st:St):Option OpR:=
 match loadP C st.bx t v with
 | some x=>some (.next (st.put d x) (match (if draw then none else match C.P.underlying t with
  | some (.slice _)=>match v with
   | .bp id off=>match locVal st (.box id off) with
    | .osl _ _=>some (Loc.box id off)
    | _=>none
   | _=>none
  | _=>none),d with
  | some l,some d=>if l=.tmp d then killT al (some d) else (d,l) :: killT al (some d)
  | _,d=>killT al d))
 | none=>none
theorem loadR_ip (C:Cfg) (draw:Bool) (al:List (Nat×Loc)) (d:Option Tmp) (t:TypeId) (cs:List PV) (st:St):loadR C draw al d t (.ip cs) st=putP (readCells C t cs) d (killT al d) st:=by
 unfold loadR putP
 show (match readCells C t cs with
  | some x=>_
  | none=>none)=_
 cases readCells C t cs with
 | none=>rfl
 | some x=>
  simp only
  have h:(match C.P.underlying t with
   | some (.slice _)=>(none:Option Loc)
   | _=>none)=none:=by split <;> rfl
  rw [h]
  cases draw <;> cases d <;> rfl
theorem loadR_bp (C:Cfg) (draw:Bool) (al:List (Nat×Loc)) (d:Option Tmp) (t:TypeId) (id off:Nat) (st:St) (hn:notSlice C t=true):loadR C draw al d t (.bp id off) st=putP ((boxCells st.bx id).bind fun cs=>readCells C t (cs.drop off)) d (killT al d) st:=by
 unfold loadR putP loadP
 simp only
 unfold notSlice at hn
 cases boxCells st.bx id with
 | none=>rfl
 | some cs=>
  simp only [Option.bind_some]
  cases readCells C t (cs.drop off) with
  | none=>rfl
  | some x=>
   simp only
   cases hu:C.P.underlying t with
   | none=>cases draw <;> cases d <;> rfl
   | some k=>
    rw [hu] at hn
    cases k <;> first | exact Bool.noConfusion hn | (cases draw <;> cases d <;> rfl)
def lenAt (C:Cfg) (e:List PV) (t:Option TypeId) (x:Option Operand):Option PV:=match t,x with
 | some t,some x=>lenP C t (opd C e x)
 | _,_=>none
def callRes (C:Cfg) (r:Option (CR×List PBox)) (k:FuncId) (vs:List PV) (d:Option Tmp) (al:List (Nat×Loc)) (st:St):Option OpR:=match r with
 | some (.ret v,bx)=>some (.next ((St.mk st.env bx).put d v) (killT (callAl C k vs al) d))
 | some (.pan v,bx)=>some (.pan v { st with bx })
 | none=>none
def nchP (v:PV):Option PV:=match v with
 | .ip cs=>some (.ip cs)
 | .bp id off=>some (.bp id off)
 | .fn f a b=>some (.fn f a b)
 | _=>none
def storeK (C:Cfg) (t:TypeId) (a:PV) (v:PV) (d:Option Tmp) (al:List (Nat×Loc)) (st:St):Option OpR:=match a with
 | .bp id off=>
  if tSize C t=some (laid v).length then
   match storeCellsP st.bx id off (laid v) with
   | some bx=>some (.next ((St.mk st.env bx).put d und) (killT (al.filter fun p=>(match p.2 with | .box i _=>i != id | .tmp _=>true)) d))
   | none=>none
  else none
 | _=>none
def cutRes (r:Option (CR×List PBox)) (m:Nat) (d:Option Tmp) (al:List (Nat×Loc)) (st:St):Option OpR:=match r with
 | some (.ret v,bx)=>if decide (bx.length=m) && (v.under m && bx.all (·.under m)) then some (.next ((St.mk st.env (bx++st.bx.drop m)).put d v) (killT al d)) else none
 | some (.pan v,bx)=>if decide (bx.length=m) && (v.under m && bx.all (·.under m)) then some (.pan v { st with bx:=bx++st.bx.drop m }) else none
 | none=>none
def callC (C:Cfg) (co:FuncId->List PV->List PBox->Option (CR×List PBox)) (tys:Array TypeId) (k:FuncId) (vs:List PV) (d:Option Tmp) (al:List (Nat×Loc)) (st:St):Option OpR:=match cutO C (.func k) tys k vs al st.bx with
 | some m=>cutRes (co k vs (st.bx.take m)) m d al st
 | none=>callRes C (co k vs st.bx) k vs d al st
theorem callC_nop (C:Cfg) (co:FuncId->List PV->List PBox->Option (CR×List PBox)) (tys:Array TypeId) (k:FuncId) (vs:List PV) (d:Option Tmp) (al:List (Nat×Loc)) (st:St) (h:tys.toList.any (ptrT C)=false):callC C co tys k vs d al st=callRes C (co k vs st.bx) k vs d al st:=by
 unfold callC cutO ptrA
 rw [h,Bool.and_false]
 rfl
theorem callC_none (C:Cfg) (co:FuncId->List PV->List PBox->Option (CR×List PBox)) (tys:Array TypeId) (k:FuncId) (vs:List PV) (d:Option Tmp) (al:List (Nat×Loc)) (st:St) (h:boxMin al=none):callC C co tys k vs d al st=callRes C (co k vs st.bx) k vs d al st:=by
 unfold callC cutO cutAt
 rw [h]
 cases (isFnO (.func k) && ptrA C tys) <;> rfl
def minO (i:Nat):Option Nat->Nat
 | none=>i
 | some m=>min i m
theorem boxMin_box (d i o:Nat) (r:List (Nat×Loc)):boxMin ((d,.box i o) :: r)=some (minO i (boxMin r)):=by
 show (match boxMin r with
  | some m=>some (min i m)
  | none=>some i)=_
 cases boxMin r <;> rfl
def dynR (C:Cfg) (co:FuncId->List PV->List PBox->Option (CR×List PBox)) (f:PV) (vs:List PV) (d:Option Tmp) (al:List (Nat×Loc)) (st:St):Option OpR:=match f with
 | .fn k first captured=>callRes C (co k (first.map PV.shutV++vs++captured.map PV.shutV) st.bx) k (first.map PV.shutV++vs++captured.map PV.shutV) d al st
 | _=>none
def panR (v:PV) (st:St):Option OpR:=match v with
 | .iface t v=>some (.pan (.iface t v) st)
 | _=>none
def mvAl (_:Bool) (v:PV) (t:Nat) (d:Option Tmp) (al:List (Nat×Loc)):List (Nat×Loc):=
 match (match v with
  | .osl _ _=>some (Loc.tmp t)
  | _=>none),d with
 | some l,some d=>if l=.tmp d then killT al (some d) else (d,l) :: killT al (some d)
 | _,d=>killT al d
theorem mvAl_osl (e:TypeId) (xs:List PV) (t d:Nat) (al:List (Nat×Loc)) (b:Bool):mvAl b (.osl e xs) t (some d) al=if t=d then killT al (some d) else (d,.tmp t) :: killT al (some d):=by
 by_cases h:t=d <;> simp [mvAl,h]
theorem mvAl_sl (xs:List PV) (t:Nat) (d:Option Tmp) (al:List (Nat×Loc)) (b:Bool):mvAl b (.sl xs) t d al=killT al d:=by cases b <;> cases d <;> rfl
theorem mvAl_int (k n) (t:Nat) (d:Option Tmp) (al:List (Nat×Loc)) (b:Bool):mvAl b (.int k n) t d al=killT al d:=by cases b <;> cases d <;> rfl
theorem mvAl_bool (n) (t:Nat) (d:Option Tmp) (al:List (Nat×Loc)) (b:Bool):mvAl b (.bool n) t d al=killT al d:=by cases b <;> cases d <;> rfl
theorem mvAl_str (n) (t:Nat) (d:Option Tmp) (al:List (Nat×Loc)) (b:Bool):mvAl b (.str n) t d al=killT al d:=by cases b <;> cases d <;> rfl
theorem mvAl_agg (n) (t:Nat) (d:Option Tmp) (al:List (Nat×Loc)) (b:Bool):mvAl b (.agg n) t d al=killT al d:=by cases b <;> cases d <;> rfl
theorem mvAl_tup (n) (t:Nat) (d:Option Tmp) (al:List (Nat×Loc)) (b:Bool):mvAl b (.tup n) t d al=killT al d:=by cases b <;> cases d <;> rfl
theorem mvAl_bp (i n) (t:Nat) (d:Option Tmp) (al:List (Nat×Loc)) (b:Bool):mvAl b (.bp i n) t d al=killT al d:=by cases b <;> cases d <;> rfl
theorem mvAl_ip (n) (t:Nat) (d:Option Tmp) (al:List (Nat×Loc)) (b:Bool):mvAl b (.ip n) t d al=killT al d:=by cases b <;> cases d <;> rfl
def asgT (v:PV) (i:Nat) (d:Option Tmp) (al:List (Nat×Loc)) (st:St):Option OpR:=
 match v with
 | .osl e xs=>some (.next ((St.mk (setT st.env i (.sl xs)) st.bx).put d (.osl e xs)) (killT (killT al (some i)) d))
 | v=>some (.next (st.put d v) (killT (killT al (some i)) d))
theorem asgT_osl (e xs) (i:Nat) (d:Option Tmp) (al:List (Nat×Loc)) (st:St):asgT (.osl e xs) i d al st=some (.next ((St.mk (setT st.env i (.sl xs)) st.bx).put d (.osl e xs)) (killT (killT al (some i)) d)):=rfl
theorem asgT_sl (xs) (i:Nat) (d:Option Tmp) (al:List (Nat×Loc)) (st:St):asgT (.sl xs) i d al st=some (.next (st.put d (.sl xs)) (killT (killT al (some i)) d)):=rfl
theorem asgT_int (k n) (i:Nat) (d:Option Tmp) (al:List (Nat×Loc)) (st:St):asgT (.int k n) i d al st=some (.next (st.put d (.int k n)) (killT (killT al (some i)) d)):=rfl
theorem asgT_bool (n) (i:Nat) (d:Option Tmp) (al:List (Nat×Loc)) (st:St):asgT (.bool n) i d al st=some (.next (st.put d (.bool n)) (killT (killT al (some i)) d)):=rfl
theorem asgT_str (n) (i:Nat) (d:Option Tmp) (al:List (Nat×Loc)) (st:St):asgT (.str n) i d al st=some (.next (st.put d (.str n)) (killT (killT al (some i)) d)):=rfl
theorem asgT_agg (n) (i:Nat) (d:Option Tmp) (al:List (Nat×Loc)) (st:St):asgT (.agg n) i d al st=some (.next (st.put d (.agg n)) (killT (killT al (some i)) d)):=rfl
def zeroCells (C:Cfg) (t:TypeId):Option (List PV):=match tZero C t with
 | some z=>if (z.cells.map PV.ro).all PV.one then some (z.cells.map PV.ro) else none
 | none=>none
def allocR (t:TypeId) (r:Option (List PV)) (d:Option Tmp) (al:List (Nat×Loc)) (st:St):Option OpR:=match r with
 | some cs=>some (.next ((St.mk st.env (st.bx++[.cells t cs])).put d (.bp st.bx.length 0)) (killT al d))
 | none=>none
theorem allocR_some (t:TypeId) (cs:List PV) (d:Option Tmp) (al:List (Nat×Loc)) (st:St):allocR t (some cs) d al st=some (.next ((St.mk st.env (st.bx++[.cells t cs])).put d (.bp st.bx.length 0)) (killT al d)):=rfl
def storeR (C:Cfg) (t:TypeId) (a:PV) (v:PV) (i:Nat) (d:Option Tmp) (al:List (Nat×Loc)) (st:St):Option OpR:=match a with
 | .bp id off=>
  let e1:=match v with
   | .osl _ xs=>setT st.env i (.sl xs)
   | _=>st.env
  if tSize C t=some (laid v).length then
   match storeCellsP st.bx id off (laid v) with
   | some bx=>some (.next ((St.mk e1 bx).put d und) (killT (al.filter fun p=>(match p.2 with | .box i _=>i != id | .tmp k=>(match (Operand.tmp i) with | .tmp j=>k != j | _=>true))) d))
   | none=>none
  else none
 | _=>none
def storeE (r:Option (List PBox)) (d:Option Tmp) (e:List PV):Option OpR:=match r with
 | some bx=>some (.next ((St.mk e bx).put d und) [])
 | none=>none
theorem storeE_some (bx:List PBox) (d:Option Tmp) (e:List PV):storeE (some bx) d e=some (.next ((St.mk e bx).put d und) []):=rfl
theorem storeR_agg (C:Cfg) (t:TypeId) (id off:Nat) (cs:List PV) (i:Nat) (d:Option Tmp) (st:St) (h:tSize C t=some cs.length) :
 storeR C t (.bp id off) (.agg cs) i d [] st=storeE (storeCellsP st.bx id off (cs.map PV.ro)) d st.env:=by
 have hl:(laid (.agg cs))=cs.map PV.ro:=rfl
 unfold storeR storeE
 simp only [hl,List.length_map,h,if_true,List.filter_nil,killT_nil]
theorem boxCells_last (bx:List PBox) (t:TypeId) (cs:List PV):boxCells (bx++[.cells t cs]) bx.length=some cs:=by
 unfold boxCells
 rw [List.getElem?_append_right (Nat.le_refl _),Nat.sub_self]
 rfl
theorem storeCells_last (bx:List PBox) (t:TypeId) (cs:List PV) (off:Nat) (vs:List PV) (h:off+vs.length<=cs.length) (ho:vs.all PV.one=true):storeCellsP (bx++[.cells t cs]) bx.length off vs=some (bx++[.cells t (lay cs off vs)]):=by
 unfold storeCellsP
 rw [List.getElem?_append_right (Nat.le_refl _),Nat.sub_self]
 simp only [List.getElem?_cons_zero]
 rw [if_pos ⟨h,ho⟩,List.set_append_right _ _ (Nat.le_refl _),Nat.sub_self]
 rfl
theorem put_some (e:List PV) (bx:List PBox) (d:Nat) (v:PV):(St.mk e bx).put (some d) v=⟨setT e d v,bx⟩:=rfl
theorem put_none (e:List PV) (bx:List PBox) (v:PV):(St.mk e bx).put none v=⟨e,bx⟩:=rfl
theorem opd_tmp (C:Cfg) (e:List PV) (t:Nat):opd C e (.tmp t)=(getT e t).ro:=rfl
theorem opd_int (C:Cfg) (e:List PV) (k n):opd C e (.const (.int k n))=.int k n:=rfl
theorem opd_bool (C:Cfg) (e:List PV) (n):opd C e (.const (.bool n))=.bool n:=rfl
theorem opd_str (C:Cfg) (e:List PV) (n):opd C e (.const (.string n))=.str n.data.toList:=rfl
theorem opd_nil (C:Cfg) (e:List PV):opd C e (.const (.slice none 0 0))=.nils:=rfl
theorem raw_tmp (C:Cfg) (e:List PV) (t:Nat):raw C e (.tmp t)=getT e t:=rfl
theorem callRes_ret (C:Cfg) (v:PV) (bx:List PBox) (k:FuncId) (vs:List PV) (d:Option Tmp) (al:List (Nat×Loc)) (e:List PV) (b0:List PBox):callRes C (some (.ret v,bx)) k vs d al ⟨e,b0⟩=some (.next ((St.mk e bx).put d v) (killT (callAl C k vs al) d)):=rfl
theorem callAl_ok (C:Cfg) (k:FuncId) (vs:List PV) (al:List (Nat×Loc)) (h:C.heap k=false) (hp:pureL vs=true):callAl C k vs al=al:=by
 unfold callAl
 rw [h,hp]
 rfl
theorem SB:(∀ v d al st,putP (some v) d al st=some (.next (st.put d v) al))∧(∀ a b,pickP (.bool true) a b=some a)∧(∀ a b,pickP (.bool false) a b=some b) ∧
 (∀ w,guardP (.bool true) w=some w)∧(∀ w,guardP (.bool false) w=some (!w))∧(∀ w,guardP (.tup []) w=some false) ∧
 (∀ st al (k:List (Nat×Loc)->St->Option (Ex×St)),goE (some (.next st al)) k=k al st) ∧
 (∀ f (k:List (Nat×Loc)->St->Option (Ex×St)) al dst st,wantE (some true) f k al dst st=goE (f st) k)∧(∀ f (k:List (Nat×Loc)->St->Option (Ex×St)) al dst st,wantE (some false) f k al dst st=k (killT al dst) (st.put dst und)) ∧
 (∀ f g st,condE (.bool true) f g st=f st)∧(∀ f g st,condE (.bool false) f g st=g st)∧(∀ vs i,extP (.tup vs) i=vs[i]?.map PV.ro) ∧
 (∀ C draw al d t cs st,loadR C draw al d t (.ip cs) st=putP (readCells C t cs) d (killT al d) st) ∧
 (∀ C draw al d t id off st,notSlice C t=true->loadR C draw al d t (.bp id off) st=putP ((boxCells st.bx id).bind fun cs=>readCells C t (cs.drop off)) d (killT al d) st) ∧
 (∀ e xs t d al b,mvAl b (.osl e xs) t (some d) al=if t=d then killT al (some d) else (d,.tmp t) :: killT al (some d)) ∧
 (∀ xs t d al b,mvAl b (.sl xs) t d al=killT al d)∧(∀ k n t d al b,mvAl b (.int k n) t d al=killT al d)∧(∀ n t d al b,mvAl b (.bool n) t d al=killT al d)∧(∀ n t d al b,mvAl b (.str n) t d al=killT al d) ∧
 (∀ n t d al b,mvAl b (.agg n) t d al=killT al d)∧(∀ n t d al b,mvAl b (.tup n) t d al=killT al d)∧(∀ i n t d al b,mvAl b (.bp i n) t d al=killT al d)∧(∀ n t d al b,mvAl b (.ip n) t d al=killT al d) ∧
 (∀ e xs i d al st,asgT (.osl e xs) i d al st=some (.next ((St.mk (setT st.env i (.sl xs)) st.bx).put d (.osl e xs)) (killT (killT al (some i)) d))) ∧
 (∀ xs i d al st,asgT (.sl xs) i d al st=some (.next (st.put d (.sl xs)) (killT (killT al (some i)) d)))∧(∀ k n i d al st,asgT (.int k n) i d al st=some (.next (st.put d (.int k n)) (killT (killT al (some i)) d))) ∧
 (∀ n i d al st,asgT (.bool n) i d al st=some (.next (st.put d (.bool n)) (killT (killT al (some i)) d)))∧(∀ n i d al st,asgT (.str n) i d al st=some (.next (st.put d (.str n)) (killT (killT al (some i)) d))) ∧
 (∀ n i d al st,asgT (.agg n) i d al st=some (.next (st.put d (.agg n)) (killT (killT al (some i)) d))) ∧
 (∀ e bx d v,(St.mk e bx).put (some d) v=⟨setT e d v,bx⟩)∧(∀ e bx v,(St.mk e bx).put none v=⟨e,bx⟩) ∧
 (∀ C e t,opd C e (.tmp t)=(getT e t).ro)∧(∀ C e k n,opd C e (.const (.int k n))=.int k n)∧(∀ C e n,opd C e (.const (.bool n))=.bool n)∧(∀ C e n,opd C e (.const (.string n))=.str n.data.toList) ∧
 (∀ C e,opd C e (.const (.slice none 0 0))=.nils)∧(∀ C e t,raw C e (.tmp t)=getT e t) ∧
 (∀ C v bx k vs d al e b0,callRes C (some (.ret v,bx)) k vs d al ⟨e,b0⟩=some (.next ((St.mk e bx).put d v) (killT (callAl C k vs al) d))) ∧
 (∀ C k vs al,C.heap k=false->pureL vs=true->callAl C k vs al=al) ∧
 (∀ C co tys k vs d al st,tys.toList.any (ptrT C)=false->callC C co tys k vs d al st=callRes C (co k vs st.bx) k vs d al st) ∧
 (∀ C co tys k vs d al st,boxMin al=none->callC C co tys k vs d al st=callRes C (co k vs st.bx) k vs d al st) ∧
 (∀ C,([]:List TypeId).any (ptrT C)=false)∧(∀ C t r,(t :: r).any (ptrT C)=(ptrT C t || r.any (ptrT C)))∧(∀ l:List TypeId,l.toArray.toList=l)∧(∀ b,(false || b)=b)∧(∀ b,(true || b)=true) ∧
 boxMin []=none∧(∀ d t r,boxMin ((d,.tmp t) :: r)=boxMin r)∧(∀ d i o r,boxMin ((d,.box i o) :: r)=some (minO i (boxMin r)))∧(∀ i,minO i none=i)∧(∀ i m,minO i (some m)=min i m) ∧
 (∀ C v bx k vs d al e b0,callRes C (some (.pan v,bx)) k vs d al ⟨e,b0⟩=some (.pan v ⟨e,bx⟩))∧(∀ v st (k:List (Nat×Loc)->St->Option (Ex×St)),goE (some (.pan v st)) k=some (.pan v,st)) ∧
 (∀ v st (k:St->Option (Ex×St)),thenE (some (.pan v,st)) k=some (.pan v,st))∧(∀ i v st,catchE i (some (.pan v,st))=some (.pan v,st))∧(∀ C rs v st,finB C rs (some (.pan v,st))=some (.pan v,st.bx))∧(∀ t v st,panR (.iface t v) st=some (.pan (.iface t v) st)) ∧
 (∀ k n,(PV.int k n).ro=.int k n)∧(∀ b,(PV.bool b).ro=.bool b)∧(∀ b,(PV.str b).ro=.str b)∧(∀ b,(PV.sl b).ro=.sl b)∧(∀ e b,(PV.osl e b).ro=.sl b)∧(∀ b,(PV.agg b).ro=.agg b)∧(∀ b,(PV.tup b).ro=.tup b)∧(∀ b,(PV.ip b).ro=.ip b)∧(∀ i b,(PV.bp i b).ro=.bp i b)∧PV.nils.ro=.nils ∧
 (∀ k n,(PV.int k n).shutV=.int k n)∧(∀ b,(PV.bool b).shutV=.bool b)∧(∀ b,(PV.str b).shutV=.str b)∧(∀ b,(PV.sl b).shutV=.sl b)∧(∀ b,(PV.agg b).shutV=.agg (b.map PV.seal1))∧PV.nils.shutV=.sl [] ∧
 (∀ k n,(PV.int k n).seal1=.int k n)∧(∀ b,(PV.bool b).seal1=.bool b)∧(∀ b,(PV.str b).seal1=.str b)∧(∀ b,(PV.sl b).seal1=.sl b):=
 ⟨putP_some,pickP_true,pickP_false,guardP_true,guardP_false,guardP_und,goE_next,wantE_true,wantE_false,condE_true,condE_false,extP_tup,loadR_ip,loadR_bp,mvAl_osl,mvAl_sl,mvAl_int,mvAl_bool,mvAl_str,mvAl_agg,mvAl_tup,mvAl_bp,mvAl_ip,
  asgT_osl,asgT_sl,asgT_int,asgT_bool,asgT_str,asgT_agg,put_some,put_none,opd_tmp,opd_int,opd_bool,opd_str,opd_nil,raw_tmp,callRes_ret,callAl_ok,callC_nop,callC_none,fun _=>rfl,fun _ _ _=>rfl,fun _=>rfl,fun _=>rfl,fun _=>rfl,rfl,fun _ _ _=>rfl,boxMin_box,fun _=>rfl,fun _ _=>rfl,fun _ _ _ _ _ _ _ _ _=>rfl,fun _ _ _=>rfl,fun _ _ _=>rfl,fun _ _ _=>rfl,fun _ _ _ _=>rfl,fun _ _ _=>rfl,
  fun _ _=>rfl,fun _=>rfl,fun _=>rfl,fun _=>rfl,fun _ _=>rfl,fun _=>rfl,fun _=>rfl,fun _=>rfl,fun _ _=>rfl,rfl,
  fun _ _=>rfl,fun _=>rfl,fun _=>rfl,fun _=>rfl,fun _=>rfl,rfl,fun _ _=>rfl,fun _=>rfl,fun _=>rfl,fun _=>rfl⟩
theorem SD:(type_of% @thenE_ite)∧(type_of% @catchE_ite)∧(type_of% @finB_ite)∧(type_of% @finB_ret)∧(type_of% @finB_normal)∧(type_of% @List.map_cons.{0,0})∧(type_of% @List.map_nil.{0,0})∧(type_of% @List.getD_nil.{0})∧(type_of% @Bool.false_eq_true)∧(type_of% @if_false.{1})∧(type_of% @Option.bind_some.{0,0})∧(type_of% @if_true.{1})∧(type_of% @List.head?_cons.{0})∧(type_of% @Option.map_some.{0,0})∧(type_of% @List.getElem?_toArray.{0})∧(type_of% @List.getElem?_cons_zero.{0})∧(type_of% @List.getElem?_cons_succ.{0})∧(type_of% @or_self)∧(type_of% @or_false)∧(type_of% @false_or)∧(type_of% @or_true)∧(type_of% @true_or)∧(type_of% @and_true)∧(type_of% @true_and)∧(type_of% @ne_eq.{1})∧(type_of% @not_false_eq_true)∧(type_of% @not_true_eq_false)∧(type_of% @decide_true)∧(type_of% @decide_false)∧(type_of% @Bool.not_true)∧(type_of% @Bool.not_false)∧(type_of% @beq_self_eq_true.{0})∧(type_of% @List.length_cons.{0})∧(type_of% @List.length_nil.{0})∧(type_of% @bne_self_eq_false.{0})∧(type_of% @beq_true)∧(type_of% @beq_false)∧(type_of% @Option.bind_none.{0,0})∧(type_of% @Option.map_none.{0,0})∧(type_of% @Int.toNat_natCast)∧(type_of% @List.append_nil.{0})∧(type_of% @List.nil_append.{0})∧(type_of% @Bool.or_self)∧(type_of% @Bool.and_self)∧(type_of% @Bool.and_true)∧(type_of% @Bool.true_and)∧(type_of% @Loc.tmp.injEq)∧(type_of% @appK_ok)∧(type_of% @Option.isSome_some.{0})∧(type_of% @List.all_cons.{0})∧(type_of% @List.all_nil.{0})∧(type_of% @List.drop_zero.{0})∧(type_of% @List.drop_succ_cons.{0}):=
 ⟨@thenE_ite,@catchE_ite,@finB_ite,@finB_ret,@finB_normal,@List.map_cons,@List.map_nil,@List.getD_nil,@Bool.false_eq_true,@if_false,@Option.bind_some,@if_true,@List.head?_cons,@Option.map_some,@List.getElem?_toArray,@List.getElem?_cons_zero,@List.getElem?_cons_succ,@or_self,@or_false,@false_or,@or_true,@true_or,@and_true,@true_and,@ne_eq,@not_false_eq_true,@not_true_eq_false,@decide_true,@decide_false,@Bool.not_true,@Bool.not_false,@beq_self_eq_true,@List.length_cons,@List.length_nil,@bne_self_eq_false,@beq_true,@beq_false,@Option.bind_none,@Option.map_none,@Int.toNat_natCast,@List.append_nil,@List.nil_append,@Bool.or_self,@Bool.and_self,@Bool.and_true,@Bool.true_and,@Loc.tmp.injEq,@appK_ok,@Option.isSome_some,@List.all_cons,@List.all_nil,@List.drop_zero,@List.drop_succ_cons⟩
theorem killT_box (t i o d:Nat) (r:List (Nat×Loc)):killT ((t,.box i o) :: r) (some d)=if t=d then killT r (some d) else (t,.box i o) :: killT r (some d):=by
 unfold killT
 simp only [List.filter_cons]
 by_cases h1:t=d <;> simp [h1]
theorem SE:(∀ (C:Cfg) (e:List PV) (f:FuncId),opd C e (.func f)=.fn f [] [])∧(∀ (C:Cfg) (e:List PV),opd C e (.const (.pointer none))=.nilp)∧(∀ (C:Cfg) (e:List PV),opd C e (.const .nilIface)=.nili)∧(∀ (C:Cfg) (e:List PV),opd C e (.const .nilFunc)=.nilf) ∧
 (∀ i o,(PV.bp i o).shutV=.bp i o) ∧
 (∀ i o,(PV.bp i o).seal1=.bp i o) ∧
 (∀ i o,(PV.bp i o).cells=[.bp i o]) ∧
 (∀ i o,(PV.bp i o).one=true) ∧
 (∀ i o k d al st,asgT (PV.bp i o) k d al st=some (.next (st.put d (.bp i o)) (killT (killT al (some k)) d))) ∧
 PV.nilp.shutV=.nilp ∧
 PV.nilp.seal1=.nilp ∧
 PV.nilp.ro=.nilp ∧
 PV.nilp.cells=[.nilp] ∧
 PV.nilp.one=true ∧
 (∀ k d al st,asgT PV.nilp k d al st=some (.next (st.put d .nilp) (killT (killT al (some k)) d))) ∧
 PV.nili.shutV=.nili ∧
 PV.nili.seal1=.nili ∧
 PV.nili.ro=.nili ∧
 PV.nili.cells=[.nili] ∧
 PV.nili.one=true ∧
 (∀ k d al st,asgT PV.nili k d al st=some (.next (st.put d .nili) (killT (killT al (some k)) d))) ∧
 PV.nilf.shutV=.nilf ∧
 PV.nilf.seal1=.nilf ∧
 PV.nilf.ro=.nilf ∧
 PV.nilf.cells=[.nilf] ∧
 PV.nilf.one=true ∧
 (∀ k d al st,asgT PV.nilf k d al st=some (.next (st.put d .nilf) (killT (killT al (some k)) d))) ∧
 (∀ f a c,(PV.fn f a c).shutV=.fn f a c) ∧
 (∀ f a c,(PV.fn f a c).seal1=.fn f a c) ∧
 (∀ f a c,(PV.fn f a c).ro=.fn f a c) ∧
 (∀ f a c,(PV.fn f a c).cells=[.fn f a c]) ∧
 (∀ f a c,(PV.fn f a c).one=true) ∧
 (∀ f a c k d al st,asgT (PV.fn f a c) k d al st=some (.next (st.put d (.fn f a c)) (killT (killT al (some k)) d))) ∧
 (∀ t v,(PV.iface t v).shutV=.iface t v) ∧
 (∀ t v,(PV.iface t v).seal1=.iface t v) ∧
 (∀ t v,(PV.iface t v).ro=.iface t v) ∧
 (∀ t v,(PV.iface t v).cells=[.iface t v]) ∧
 (∀ t v,(PV.iface t v).one=true) ∧
 (∀ t v k d al st,asgT (PV.iface t v) k d al st=some (.next (st.put d (.iface t v)) (killT (killT al (some k)) d))) ∧
 (∀ cs,(PV.ip cs).shutV=.ip cs) ∧
 (∀ cs,(PV.ip cs).seal1=.ip cs) ∧
 (∀ cs,(PV.ip cs).cells=[.ip cs]) ∧
 (∀ cs,(PV.ip cs).one=true) ∧
 (∀ cs k d al st,asgT (PV.ip cs) k d al st=some (.next (st.put d (.ip cs)) (killT (killT al (some k)) d))) ∧
 (∀ k d al g,mvAl g PV.nilp k d al=killT al d) ∧
 (∀ k d al g,mvAl g PV.nili k d al=killT al d) ∧
 (∀ k d al g,mvAl g PV.nilf k d al=killT al d) ∧
 (∀ f a c k d al g,mvAl g (PV.fn f a c) k d al=killT al d) ∧
 (∀ t v k d al g,mvAl g (PV.iface t v) k d al=killT al d) ∧
 (∀ k d al g,mvAl g .nils k d al=killT al d) ∧
 (∀ k d al st,asgT .nils k d al st=some (.next (st.put d .nils) (killT (killT al (some k)) d))) ∧
 (∀ vs k d al st,asgT (.tup vs) k d al st=some (.next (st.put d (.tup vs)) (killT (killT al (some k)) d))) ∧
 PV.nils.cells=[.nils] ∧
 PV.nils.one=true ∧
 PV.nils.seal1=.sl [] ∧
 (∀ e xs,(PV.osl e xs).cells=[.osl e xs]) ∧
 (∀ e xs,(PV.osl e xs).shutV=.sl xs) ∧
 (∀ e xs,(PV.osl e xs).seal1=.sl xs) ∧
 (∀ i o,(PV.bp i o).pure=false) ∧
 PV.nilp.pure=true ∧
 PV.nili.pure=true ∧
 PV.nilf.pure=true ∧
 PV.nils.pure=true ∧
 (∀ cs,(PV.agg cs).pure=pureL cs) ∧
 (∀ cs,(PV.tup cs).pure=pureL cs) ∧
 (∀ cs,(PV.ip cs).pure=pureL cs) ∧
 (∀ t v,(PV.iface t v).pure=v.pure) ∧
 (∀ e xs,(PV.osl e xs).pure=pureL xs) ∧
 (∀ f a c,(PV.fn f a c).pure=(pureL a && pureL c)) ∧
 (∀ t i o d (r:List (Nat×Loc)),killT ((t,.box i o) :: r) (some d)=if t=d then killT r (some d) else (t,.box i o) :: killT r (some d)) ∧
 (∀ C k vs,callAl C k vs []=[]):=
 ⟨fun _ _ _=>rfl,fun _ _=>rfl,fun _ _=>rfl,fun _ _=>rfl,fun _ _=>rfl,fun _ _=>rfl,fun _ _=>rfl,fun _ _=>rfl,fun _ _ _ _ _ _=>rfl,rfl,rfl,rfl,rfl,rfl,fun _ _ _ _=>rfl,rfl,rfl,rfl,rfl,rfl,fun _ _ _ _=>rfl,rfl,rfl,rfl,rfl,rfl,fun _ _ _ _=>rfl,fun _ _ _=>rfl,fun _ _ _=>rfl,fun _ _ _=>rfl,fun _ _ _=>rfl,fun _ _ _=>rfl,fun _ _ _ _ _ _ _=>rfl,fun _ _=>rfl,fun _ _=>rfl,fun _ _=>rfl,fun _ _=>rfl,fun _ _=>rfl,fun _ _ _ _ _ _=>rfl,fun _=>rfl,fun _=>rfl,fun _=>rfl,fun _=>rfl,fun _ _ _ _ _=>rfl,fun _ d _ g=>by cases g <;> cases d <;> rfl,fun _ d _ g=>by cases g <;> cases d <;> rfl,fun _ d _ g=>by cases g <;> cases d <;> rfl,fun _ _ _ _ d _ g=>by cases g <;> cases d <;> rfl,fun _ _ _ d _ g=>by cases g <;> cases d <;> rfl,fun _ d _ g=>by cases g <;> cases d <;> rfl,fun _ _ _ _=>rfl,fun _ _ _ _ _=>rfl,rfl,rfl,rfl,fun _ _=>rfl,fun _ _=>rfl,fun _ _=>rfl,fun _ _=>by simp [PV.pure],by simp [PV.pure],by simp [PV.pure],by simp [PV.pure],by simp [PV.pure],fun _=>by simp [PV.pure],fun _=>by simp [PV.pure],fun _=>by simp [PV.pure],fun _ _=>by simp [PV.pure],fun _ _=>by simp [PV.pure],fun _ _ _=>by simp [PV.pure],fun t i o d r=>killT_box t i o d r,fun C k vs=>by unfold callAl;split <;> rfl⟩
theorem SC:(∀ t cs d al st,allocR t (some cs) d al st=some (.next ((St.mk st.env (st.bx++[.cells t cs])).put d (.bp st.bx.length 0)) (killT al d))) ∧
 (∀ bx d e,storeE (some bx) d e=some (.next ((St.mk e bx).put d und) [])) ∧
 (∀ (bx:List PBox) t cs,boxCells (bx++[.cells t cs]) bx.length=some cs) ∧
 (∀ C t id off cs i d st,tSize C t=some cs.length->storeR C t (.bp id off) (.agg cs) i d [] st=storeE (storeCellsP st.bx id off (cs.map PV.ro)) d st.env) ∧
 (∀ (bx:List PBox) t cs off vs,off+vs.length<=cs.length->vs.all PV.one=true->storeCellsP (bx++[.cells t cs]) bx.length off vs=some (bx++[.cells t (lay cs off vs)])):=
 ⟨allocR_some,storeE_some,boxCells_last,storeR_agg,storeCells_last⟩
def rangeR (u:Option TypeDesc) (v:PV) (d:Option Tmp) (al:List (Nat×Loc)) (st:St):Option OpR:=match u,v with
 | some .string,.str s=>some (.next ((St.mk st.env (st.bx++[.iter s 0])).put d (.bp st.bx.length 0)) (killT al d))
 | _,_=>none
def nextR (v:PV) (d:Option Tmp) (al:List (Nat×Loc)) (st:St):Option OpR:=match v with
 | .bp id 0=>match st.bx[id]? with
  | some (.iter s pos)=>
   if pos < s.length then
    some (.next ((St.mk st.env (st.bx.set id (.iter s (pos+(Utf8.decode ⟨s.toArray⟩ pos).2)))).put d (.tup [.bool true,.int .i64 pos,.int .i32 (Utf8.decode ⟨s.toArray⟩ pos).1])) (killT al d))
   else some (.next (st.put d (.tup [.bool false])) (killT al d))
  | _=>none
 | _=>none
section
variable (C:Cfg)
theorem so_pure {c:CallT} {draw:Bool} {al:List (Nat×Loc)} {dst ty pos after g} {op:Op} {st:St} (h:stepOp C c draw al ⟨dst,op,ty,pos,after,g⟩ st=match pureOp C st.bx st.env op with
 | some v=>some (.next (st.put dst v) (noteAl C draw st op dst al))
 | none=>none) (hn:noteAl C draw st op dst al=killT al dst):stepOp C c draw al ⟨dst,op,ty,pos,after,g⟩ st=putP (pureOp C st.bx st.env op) dst (killT al dst) st:=by
 rw [h,hn]
 unfold putP
 cases pureOp C st.bx st.env op <;> rfl
def mkSl (p:Option PV) (d:Option Tmp) (al:List (Nat×Loc)) (st:St):Option OpR:=match p with
 | some v=>some (.next (newSl C st v d) al)
 | none=>none
def mupR (r:Option (List PBox)) (d:Option Tmp) (al:List (Nat×Loc)) (st:St):Option OpR:=match r with
 | some bx=>some (.next ((St.mk st.env bx).put d und) (killT (al.filter fun p=>match p.2 with | .box _ _=>false | _=>true) d))
 | none=>none
abbrev RSH (ev:Code->St->Option (Ex×St)) (eo:Bool->Array Oper->List Oper->List (Nat×Loc)->St->Option (Ex×St)) (so:Bool->List (Nat×Loc)->Oper->St->Option OpR) (co:FuncId->List PV->List PBox->Option (CR×List PBox)):Prop:=
 (∀ draw ops al st,eo draw ops [] al st=some (.normal,st)) ∧
 (∀ draw ops dst op ty pos after rest al st,eo draw ops (⟨dst,op,ty,pos,after,none⟩:: rest) al st=goE (so draw al ⟨dst,op,ty,pos,after,none⟩ st) (eo draw ops rest)) ∧
 (∀ draw ops dst op ty pos after j w rest al st,eo draw ops (⟨dst,op,ty,pos,after,some (j,w)⟩:: rest) al st=wantE (guardAt ops j st.env w) (so draw al ⟨dst,op,ty,pos,after,some (j,w)⟩) (eo draw ops rest) al dst st) ∧
 (∀ draw al dst t ty pos after g st,so draw al ⟨dst,.move (.tmp t),ty,pos,after,g⟩ st=putP (some (getT st.env t).ro) dst (mvAl draw (getT st.env t) t dst al) st) ∧
 (∀ draw al dst v ty pos after g st,so draw al ⟨dst,.move (.const v),ty,pos,after,g⟩ st=putP (some (opd C st.env (.const v))) dst (killT al dst) st) ∧
 (∀ al dst i ty pos after g st,so false al ⟨dst,.assign (.tmp i),ty,pos,after,g⟩ st=asgT (getT st.env i) i dst al st) ∧
 (∀ al dst k n ty pos after g st,so false al ⟨dst,.assign (.const (.int k n)),ty,pos,after,g⟩ st=putP (some (.int k n)) dst (killT al dst) st) ∧
 (∀ al dst b ty pos after g st,so false al ⟨dst,.assign (.const (.bool b)),ty,pos,after,g⟩ st=putP (some (.bool b)) dst (killT al dst) st) ∧
 (∀ al dst ty pos after g st,so false al ⟨dst,.assign (.const (.slice none 0 0)),ty,pos,after,g⟩ st=putP (some (nilV C ty)) dst (killT al dst) st) ∧
 (∀ al dst x ty pos after g st,notSlice C ty=true->so true al ⟨dst,.assign x,ty,pos,after,g⟩ st=putP (some (opd C st.env x)) dst (killT al dst) st) ∧
 (∀ al dst i ty pos after g st,notSlice C ty=false->so true al ⟨dst,.assign (.tmp i),ty,pos,after,g⟩ st=asgT (getT st.env i) i dst al st) ∧
 (∀ al dst ty pos after g st,notSlice C ty=false->so true al ⟨dst,.assign (.const (.slice none 0 0)),ty,pos,after,g⟩ st=putP (some (nilV C ty)) dst (killT al dst) st) ∧
 (∀ draw al dst c a b ty pos after g st,so draw al ⟨dst,.pick c a b,ty,pos,after,g⟩ st=putP (pickP (opd C st.env c) (opd C st.env a) (opd C st.env b)) dst (killT al dst) st) ∧
 (∀ draw al dst bop t x y ty2 ty pos after g st,so draw al ⟨dst,.binOp bop t x y ty2,ty,pos,after,g⟩ st=putP (binP C bop t (opd C st.env x) (opd C st.env y)) dst (killT al dst) st) ∧
 (∀ draw al dst uop t x ty pos after g st,so draw al ⟨dst,.unOp uop t x,ty,pos,after,g⟩ st=putP (unP uop (opd C st.env x)) dst (killT al dst) st) ∧
 (∀ draw al dst s d x ty pos after g st,so draw al ⟨dst,.convert s d x,ty,pos,after,g⟩ st=putP (convP C s d (opd C st.env x)) dst (killT al dst) st) ∧
 (∀ draw al dst t x i ty pos after g st,so draw al ⟨dst,.indexAddr t x i,ty,pos,after,g⟩ st=putP (indexAddrP C t (opd C st.env x) (opd C st.env i)) dst (killT al dst) st) ∧
 (∀ draw al dst t x i ty pos after g st,so draw al ⟨dst,.index t x i,ty,pos,after,g⟩ st=putP (indexV C t (opd C st.env x) (opd C st.env i)) dst (killT al dst) st) ∧
 (∀ draw al dst t x lo hi ty pos after g st,so draw al ⟨dst,.slice t x lo hi none,ty,pos,after,g⟩ st=putP (sliceP C t (opd C st.env x) (lo.map (opd C st.env)) (hi.map (opd C st.env))) dst (killT al dst) st) ∧
 (∀ draw al dst x i ty pos after g st,so draw al ⟨dst,.extract x i,ty,pos,after,g⟩ st=putP (extP (opd C st.env x) i) dst (killT al dst) st) ∧
 (∀ draw al dst args tys ty pos after g st,so draw al ⟨dst,.call { callee:=.builtin .len,args,argTypes:=tys },ty,pos,after,g⟩ st=putP (lenAt C st.env tys[0]? args[0]?) dst (killT al dst) st) ∧
 (∀ draw al dst args tys ty pos after g st,so draw al ⟨dst,.call { callee:=.builtin .max,args,argTypes:=tys },ty,pos,after,g⟩ st=putP (maxP (args.toList.map (opd C st.env))) dst (killT al dst) st) ∧
 (∀ draw al dst args tys ty pos after g st,so draw al ⟨dst,.call { callee:=.builtin .min,args,argTypes:=tys },ty,pos,after,g⟩ st=putP (minP (args.toList.map (opd C st.env))) dst (killT al dst) st) ∧
 (∀ draw al dst args tys ty pos after g st,so draw al ⟨dst,.call { callee:=.builtin .append,args,argTypes:=tys },ty,pos,after,g⟩ st=appendP C st al args tys dst) ∧
 (∀ al dst k args tys ty pos after g st,so false al ⟨dst,.call { callee:=.value (.func k),args,argTypes:=tys },ty,pos,after,g⟩ st =
  callC C co tys k (args.toList.map (fun x=>(opd C st.env x).shutV)) dst al st) ∧
 (∀ al dst k args tys ty pos after g st,C.heap k=false->pureL (args.toList.map (fun x=>(opd C st.env x).shutV))=true->so true al ⟨dst,.call { callee:=.value (.func k),args,argTypes:=tys },ty,pos,after,g⟩ st =
  callRes C (co k (args.toList.map (fun x=>(opd C st.env x).shutV)) st.bx) k (args.toList.map (fun x=>(opd C st.env x).shutV)) dst al st) ∧
 (∀ draw al dst t len parts ty pos after g st,so draw al ⟨dst,.buildSlice t len parts,ty,pos,after,g⟩ st=putP (buildSliceP C t len (parts.toList.map fun p=>(p.1,opd C st.env p.2))) dst (killT al dst) st) ∧
 (∀ draw al dst t l c ty pos after g st,so draw al ⟨dst,.makeSlice t l c,ty,pos,after,g⟩ st=mkSl C (makeSliceP C t (opd C st.env l) (opd C st.env c)) dst (killT al dst) st) ∧
 (∀ draw al dst args tys ty pos after g st,so draw al ⟨dst,.call { callee:=.builtin .copy,args,argTypes:=tys },ty,pos,after,g⟩ st=copyP C st al args tys dst) ∧
 (∀ draw al dst t ty pos after g st,so draw al ⟨dst,.makeMap t none,ty,pos,after,g⟩ st=some (.next ((St.mk st.env (st.bx++[.mp []])).put dst (.mv st.bx.length)) (killT al dst))) ∧
 (∀ draw al dst t x i ok ty pos after g st,so draw al ⟨dst,.lookup t x i ok,ty,pos,after,g⟩ st=putP (lookupP C st.bx t (opd C st.env x) (opd C st.env i) ok) dst (killT al dst) st) ∧
 (∀ draw al dst t m k v ty pos after g st,so draw al ⟨dst,.mapUpdate t m k v,ty,pos,after,g⟩ st=mupR (updateP C st.bx t (opd C st.env m) (opd C st.env k).shutV (opd C st.env v).shutV) dst al st) ∧
 (∀ al dst ty pos after g st,so false al ⟨dst,.assign (.const (.map none)),ty,pos,after,g⟩ st=putP (some .top) dst (killT al dst) st) ∧
 (∀ draw al dst t a ty pos after g st,so draw al ⟨dst,.load t a,ty,pos,after,g⟩ st=loadR C draw al dst t (opd C st.env a) st) ∧
 (∀ draw al dst t ty pos after g st,so draw al ⟨dst,.alloc t,ty,pos,after,g⟩ st=allocR t (zeroCells C t) dst al st) ∧
 (∀ draw al dst t a i ty pos after g st,so draw al ⟨dst,.store t a (.tmp i),ty,pos,after,g⟩ st=storeR C t (opd C st.env a) (getT st.env i) i dst al st) ∧
 (∀ draw al dst t x ty pos after g st,((opd C st.env x).cells.map PV.ro).all PV.one=true->so draw al ⟨dst,.box t x,ty,pos,after,g⟩ st =
  some (.next ((St.mk st.env (st.bx++[.cells t ((opd C st.env x).cells.map PV.ro)])).put dst (.bp st.bx.length 0)) (killT al dst))) ∧
 (∀ al dst s ty pos after g st,so false al ⟨dst,.assign (.const (.string s)),ty,pos,after,g⟩ st=putP (some (.str s.data.toList)) dst (killT al dst) st) ∧
 (∀ al dst cs ty pos after g st,so false al ⟨dst,.assign (.const (.agg cs)),ty,pos,after,g⟩ st=putP (some (cval (.agg cs)).ro) dst (killT al dst) st) ∧
 (∀ al dst ty pos after g st,so false al ⟨dst,.assign (.const (.pointer none)),ty,pos,after,g⟩ st=putP (some .nilp) dst (killT al dst) st) ∧
 (∀ al dst ty pos after g st,so false al ⟨dst,.assign (.const .nilIface),ty,pos,after,g⟩ st=putP (some .nili) dst (killT al dst) st) ∧
 (∀ al dst ty pos after g st,so false al ⟨dst,.assign (.const .nilFunc),ty,pos,after,g⟩ st=putP (some .nilf) dst (killT al dst) st) ∧
 (∀ al dst f ty pos after g st,so false al ⟨dst,.assign (.func f),ty,pos,after,g⟩ st=putP (some (.fn f [] [])) dst (killT al dst) st) ∧
 (∀ draw al dst s x f ty pos after g st,so draw al ⟨dst,.fieldAddr s x f,ty,pos,after,g⟩ st=putP (fieldP C s f (opd C st.env x)) dst (killT al dst) st) ∧
 (∀ draw al dst s x f ty pos after g st,so draw al ⟨dst,.field s x f,ty,pos,after,g⟩ st=putP (fieldV C s f (opd C st.env x)) dst (killT al dst) st) ∧
 (∀ draw al dst t parts ty pos after g st,so draw al ⟨dst,.build t parts,ty,pos,after,g⟩ st=putP (buildP C t (parts.toList.map fun p=>(p.1,(opd C st.env p.2).shutV))) dst (killT al dst) st) ∧
 (∀ draw al dst x ty pos after g st,so draw al ⟨dst,.nilCheck x,ty,pos,after,g⟩ st=putP (nchP (opd C st.env x)) dst (killT al dst) st) ∧
 (∀ draw al dst f first captured ty pos after g st,so draw al ⟨dst,.makeFunc (.func f) first captured,ty,pos,after,g⟩ st=putP (some (.fn f (first.toList.map fun x=>(opd C st.env x).shutV) (captured.toList.map fun x=>(opd C st.env x).shutV))) dst (killT al dst) st) ∧
 (∀ draw al dst k args tys ty pos after g st,so draw al ⟨dst,.call { callee:=.value (.tmp k),args,argTypes:=tys },ty,pos,after,g⟩ st =
  dynR C co (opd C st.env (.tmp k)) (args.toList.map (fun x=>(opd C st.env x).shutV)) dst al st) ∧
 (∀ draw al dst x ty pos after g st,so draw al ⟨dst,.panic x,ty,pos,after,g⟩ st=panR (opd C st.env x) st) ∧
 (∀ draw al dst t a k n ty pos after g st,so draw al ⟨dst,.store t a (.const (.int k n)),ty,pos,after,g⟩ st=storeK C t (opd C st.env a) (.int k n) dst al st) ∧
 (∀ draw al dst t a b ty pos after g st,so draw al ⟨dst,.store t a (.const (.bool b)),ty,pos,after,g⟩ st=storeK C t (opd C st.env a) (.bool b) dst al st) ∧
 (∀ draw al dst t a s ty pos after g st,so draw al ⟨dst,.store t a (.const (.string s)),ty,pos,after,g⟩ st=storeK C t (opd C st.env a) (.str s.data.toList) dst al st) ∧
 (∀ draw al dst t a cs ty pos after g st,so draw al ⟨dst,.store t a (.const (.agg cs)),ty,pos,after,g⟩ st=storeK C t (opd C st.env a) (cval (.agg cs)).ro dst al st) ∧
 (∀ draw al dst t x ty pos after g st,so draw al ⟨dst,.range t x,ty,pos,after,g⟩ st=rangeR (C.P.underlying t) (opd C st.env x) dst al st) ∧
 (∀ draw al dst x ty pos after g st,so draw al ⟨dst,.next x true,ty,pos,after,g⟩ st=nextR (opd C st.env x) dst al st) ∧
 (∀ draw al dst t x ty pos after g st,so draw al ⟨dst,.makeInterface t x,ty,pos,after,g⟩ st=putP (mkIf (C.P.underlying t) t (opd C st.env x).shutV) dst (killT al dst) st)
abbrev RSL (ev:Code->St->Option (Ex×St)) (eo:Bool->Array Oper->List Oper->List (Nat×Loc)->St->Option (Ex×St)) (so:Bool->List (Nat×Loc)->Oper->St->Option OpR)
 (co:FuncId->List PV->List PBox->Option (CR×List PBox)):Prop:=(∀ a b st,ev (.seq a b) st=thenE (ev a st) (ev b))∧(∀ i ops draw st,ev (.region i ops draw) st=eo draw ops ops.toList [] st)∧(∀ st,ev .ret st=some (.ret,st))∧(∀ st,ev .skip st=some (.normal,st)) ∧
 (∀ i st,ev (.exit i) st=some (.exit i,st))∧(∀ i b st,ev (.block i b) st=catchE i (ev b st)) ∧
 (∀ o a b st,ev (.cond o a b) st=condE (opd C st.env o) (ev a) (ev b) st) ∧
 RSH C ev eo so co
abbrev RSB (dr:Array Oper->St->Option (Ex×St)) (ev:Code->St->Option (Ex×St)) (eo:Bool->Array Oper->List Oper->List (Nat×Loc)->St->Option (Ex×St)) (so:Bool->List (Nat×Loc)->Oper->St->Option OpR)
 (co:FuncId->List PV->List PBox->Option (CR×List PBox)):Prop:=(∀ a b st,ev (.seq a b) st=thenE (ev a st) (ev b))∧((∀ i ops st,ev (.region i ops false) st=eo false ops ops.toList [] st)∧(∀ i ops st,ev (.region i ops true) st=dr ops st))∧(∀ st,ev .ret st=some (.ret,st))∧(∀ st,ev .skip st=some (.normal,st)) ∧
 (∀ i st,ev (.exit i) st=some (.exit i,st))∧(∀ i b st,ev (.block i b) st=catchE i (ev b st)) ∧
 (∀ o a b st,ev (.cond o a b) st=condE (opd C st.env o) (ev a) (ev b) st) ∧
 RSH C ev eo so co
theorem RULES0:∃ (ev:Code->St->Option (Ex×St)) (eo:Bool->Array Oper->List Oper->List (Nat×Loc)->St->Option (Ex×St)) (so:Bool->List (Nat×Loc)->Oper->St->Option OpR)
 (co:FuncId->List PV->List PBox->Option (CR×List PBox)),(ev=evL C∧co=callOp C (callL C)∧eo=evOps C (callL C)∧so=stepOp C (callL C)) ∧
 RSL C ev eo so co:=by
 have nt:∀ (draw:Bool) (st:St) (op:Op) (dst:Option Tmp) (al:List (Nat×Loc)),origin C st op=none->noteAl C draw st op dst al=killT al dst:=by
  intro draw st op dst al h
  have hD:noteD op st.env dst=[]:=by
   unfold noteD
   split
   · rename_i t d
     split
     · rename_i x xs hx
       unfold origin at h
       simp only [hx] at h
       cases h
     · rfl
   · rfl
  unfold noteAl
  rw [hD]
  rw [h]
  cases draw <;> cases dst <;> rfl
 have pr:∀ (draw:Bool) (al:List (Nat×Loc)) dst ty pos after g (op:Op) (st:St),(stepOp C (callL C) draw al ⟨dst,op,ty,pos,after,g⟩ st=match pureOp C st.bx st.env op with
  | some v=>some (.next (st.put dst v) (noteAl C draw st op dst al))
  | none=>none)->origin C st op=none->stepOp C (callL C) draw al ⟨dst,op,ty,pos,after,g⟩ st=putP (pureOp C st.bx st.env op) dst (killT al dst) st:=
  fun draw al dst ty pos after g op st h ho=>so_pure C h (nt _ _ _ _ _ ho)
 refine ⟨evL C,evOps C (callL C),stepOp C (callL C),callOp C (callL C),⟨rfl,rfl,rfl,rfl⟩,evL_seq,evL_region,evL_ret,evL_skip,evL_exit,evL_block,?_,fun _ _ _ _=>rfl,?_,?_,
  ?_,?_,?_,?_,?_,?_,?_,?_,?_,?_,?_,?_,?_,?_,?_,?_,?_,?_,?_,?_,fun _ _ _ _ _ _ _ _ _ _=>rfl,?_,?_,?_,?_,fun _ _ _ _ _ _ _ _ _ _=>rfl,fun _ _ _ _ _ _ _ _ _=>rfl,?_,?_,fun _ _ _ _ _ _ _=>rfl,?_,?_,?_,?_,
  fun _ _ _ _ _ _ _ _=>rfl,fun _ _ _ _ _ _ _ _=>rfl,fun _ _ _ _ _ _ _=>rfl,fun _ _ _ _ _ _ _=>rfl,fun _ _ _ _ _ _ _=>rfl,fun _ _ _ _ _ _ _ _=>rfl,?_,?_,?_,?_,?_,?_,?_,?_,?_,?_,?_,?_,?_,?_⟩
 · intro o a b st
   rw [evL_cond]
   unfold condE
   cases opd C st.env o <;> rfl
 · intro draw ops dst op ty pos after rest al st
   show (match stepOp C (callL C) draw al ⟨dst,op,ty,pos,after,none⟩ st with
    | none=>none
    | some (.next st' al')=>evOps C (callL C) draw ops rest al' st'
    | some (.pan v st')=>some (.pan v,st'))=_
   unfold goE
   cases stepOp C (callL C) draw al ⟨dst,op,ty,pos,after,none⟩ st with
   | none=>rfl
   | some r=>cases r <;> rfl
 · intro draw ops dst op ty pos after j w rest al st
   have hw:wantP ops st.env ⟨dst,op,ty,pos,after,some (j,w)⟩=guardAt ops j st.env w:=by
    unfold guardAt wantP
    simp only
    cases (ops[j]?).bind (·.dst) <;> rfl
   rw [evOps,hw]
   unfold wantE goE
   cases guardAt ops j st.env w with
   | none=>rfl
   | some b=>cases b with
    | false=>rfl
    | true=>
     simp only
     cases stepOp C (callL C) draw al ⟨dst,op,ty,pos,after,some (j,w)⟩ st with
     | none=>rfl
     | some r=>cases r <;> rfl
 · intro draw al dst t ty pos after g st
   show some (OpR.next (st.put dst (getT st.env t).ro) (noteAl C draw st (.move (.tmp t)) dst al))=some (OpR.next (st.put dst (getT st.env t).ro) (mvAl draw (getT st.env t) t dst al))
   unfold noteAl mvAl noteD
   rw [show origin C st (.move (.tmp t))=(match getT st.env t with
    | .osl _ _=>some (Loc.tmp t)
    | _=>none) from rfl]
   cases draw with
   | false=>generalize getT st.env t=v;cases v <;> cases dst <;> rfl
   | true=>
    cases dst with
    | none=>generalize getT st.env t=v;cases v <;> rfl
    | some d=>
     by_cases h:t=d
     · subst h
       cases hv:getT st.env t <;> simp [hv]
     · cases hv:getT st.env t <;> simp [hv,h]
 · intro draw al dst v ty pos after g st
   exact pr draw al dst ty pos after g (.move (.const v)) st rfl rfl
 · intro al dst i ty pos after g st
   show some (OpR.next ((takeT C st (.tmp i) ty).2.put dst (takeT C st (.tmp i) ty).1) (killT (killT al (some i)) dst))=_
   rw [show takeT C st (.tmp i) ty=(match getT st.env i with
    | .osl e xs=>(.osl e xs,{ st with env:=setT st.env i (.sl xs) })
    | v=>(v,st)) from rfl]
   unfold asgT
   generalize getT st.env i=v
   cases v <;> rfl
 · intro al dst k n ty pos after g st;rfl
 · intro al dst b ty pos after g st;rfl
 · intro al dst ty pos after g st
   show some (OpR.next ((takeT C st (.const (.slice none 0 0)) ty).2.put dst (takeT C st (.const (.slice none 0 0)) ty).1) (killT al dst))=_
   unfold takeT nilV putP
   simp only
   split <;> (try split) <;> simp_all
 · intro al dst x ty pos after g st h
   show (if true && notSlice C ty then _ else _)=_
   rw [h]
   rfl
 · intro al dst i ty pos after g st h
   show (if true && notSlice C ty then _ else some (OpR.next ((takeT C st (.tmp i) ty).2.put dst (takeT C st (.tmp i) ty).1) (killT (killT al (some i)) dst)))=_
   rw [h,if_neg (by decide)]
   rw [show takeT C st (.tmp i) ty=(match getT st.env i with
    | .osl e xs=>(.osl e xs,{ st with env:=setT st.env i (.sl xs) })
    | v=>(v,st)) from rfl]
   unfold asgT
   generalize getT st.env i=v
   cases v <;> rfl
 · intro al dst ty pos after g st h
   show (if true && notSlice C ty then _ else some (OpR.next ((takeT C st (.const (.slice none 0 0)) ty).2.put dst (takeT C st (.const (.slice none 0 0)) ty).1) (killT al dst)))=_
   rw [h,if_neg (by decide)]
   unfold takeT nilV putP
   simp only
   split <;> (try split) <;> simp_all
 · intro draw al dst c a b ty pos after g st
   rw [pr draw al dst ty pos after g (.pick c a b) st rfl rfl]
   show putP (match opd C st.env c with
    | .bool t=>some (if t then opd C st.env a else opd C st.env b)
    | _=>none) dst (killT al dst) st=_
   unfold pickP
   cases opd C st.env c <;> rfl
 · intro draw al dst bop t x y ty2 ty pos after g st;exact pr draw al dst ty pos after g _ st rfl rfl
 · intro draw al dst uop t x ty pos after g st;exact pr draw al dst ty pos after g _ st rfl rfl
 · intro draw al dst s d x ty pos after g st;exact pr draw al dst ty pos after g _ st rfl rfl
 · intro draw al dst t x i ty pos after g st;exact pr draw al dst ty pos after g _ st rfl rfl
 · intro draw al dst t x i ty pos after g st;exact pr draw al dst ty pos after g _ st rfl rfl
 · intro draw al dst t x lo hi ty pos after g st;exact pr draw al dst ty pos after g _ st rfl rfl
 · intro draw al dst x i ty pos after g st
   rw [pr draw al dst ty pos after g (.extract x i) st rfl rfl]
   show putP (match opd C st.env x with
    | .tup vs=>vs[i]?.map PV.ro
    | _=>none) dst (killT al dst) st=_
   unfold extP
   cases opd C st.env x <;> rfl
 · intro draw al dst args tys ty pos after g st
   rw [pr draw al dst ty pos after g _ st rfl rfl]
   show putP (match tys[0]?,args[0]? with
    | some t,some x=>lenP C t (opd C st.env x)
    | _,_=>none) dst (killT al dst) st=_
   unfold lenAt
   cases tys[0]? <;> cases args[0]? <;> rfl
 · intro draw al dst args tys ty pos after g st;exact pr draw al dst ty pos after g _ st rfl rfl
 · intro draw al dst args tys ty pos after g st;exact pr draw al dst ty pos after g _ st rfl rfl
 · intro al dst k args tys ty pos after g st
   show (if (false && isFn (.func k)) && (C.heap k || !(pureL (args.toList.map fun x=>(opd C st.env x).shutV))) then none else match cutO C (.func k) tys k (([]:List PV)++args.toList.map (fun x=>(opd C st.env x).shutV)++[]) al st.bx with
    | some m=>match callOp C (callL C) k (([]:List PV)++args.toList.map (fun x=>(opd C st.env x).shutV)++[]) (st.bx.take m) with
     | some (.ret v,bx)=>if decide (bx.length=m) && (v.under m && bx.all (·.under m)) then some (OpR.next ((St.mk st.env (bx++st.bx.drop m)).put dst v) (killT al dst)) else none
     | some (.pan v,bx)=>if decide (bx.length=m) && (v.under m && bx.all (·.under m)) then some (OpR.pan v { st with bx:=bx++st.bx.drop m }) else none
     | none=>none
    | none=>match callOp C (callL C) k (([]:List PV)++args.toList.map (fun x=>(opd C st.env x).shutV)++[]) st.bx with
     | some (.ret v,bx)=>some (OpR.next ((St.mk st.env bx).put dst v) (killT (callAl C k (([]:List PV)++args.toList.map (fun x=>(opd C st.env x).shutV)++[]) al) dst))
     | some (.pan v,bx)=>some (OpR.pan v { st with bx })
     | none=>none)=_
   rw [List.append_nil,List.nil_append]
   unfold callC
   cases cutO C (.func k) tys k (args.toList.map fun x=>(opd C st.env x).shutV) al st.bx with
   | some m=>
    simp only
    unfold cutRes
    cases callOp C (callL C) k (args.toList.map fun x=>(opd C st.env x).shutV) (st.bx.take m) with
    | none=>rfl
    | some r=>obtain ⟨r,b⟩:=r;cases r <;> rfl
   | none=>
    simp only
    unfold callRes
    cases callOp C (callL C) k (args.toList.map fun x=>(opd C st.env x).shutV) st.bx with
    | none=>rfl
    | some r=>obtain ⟨r,b⟩:=r;cases r <;> rfl
 · intro al dst k args tys ty pos after g st hh hp
   show (if (true && isFn (.func k)) && (C.heap k || !(pureL (([]:List PV)++args.toList.map (fun x=>(opd C st.env x).shutV)++[]))) then none else match cutO C (.func k) tys k (([]:List PV)++args.toList.map (fun x=>(opd C st.env x).shutV)++[]) al st.bx with
    | some m=>match callOp C (callL C) k (([]:List PV)++args.toList.map (fun x=>(opd C st.env x).shutV)++[]) (st.bx.take m) with
     | some (.ret v,bx)=>if decide (bx.length=m) && (v.under m && bx.all (·.under m)) then some (OpR.next ((St.mk st.env (bx++st.bx.drop m)).put dst v) (killT al dst)) else none
     | some (.pan v,bx)=>if decide (bx.length=m) && (v.under m && bx.all (·.under m)) then some (OpR.pan v { st with bx:=bx++st.bx.drop m }) else none
     | none=>none
    | none=>match callOp C (callL C) k (([]:List PV)++args.toList.map (fun x=>(opd C st.env x).shutV)++[]) st.bx with
     | some (.ret v,bx)=>some (OpR.next ((St.mk st.env bx).put dst v) (killT (callAl C k (([]:List PV)++args.toList.map (fun x=>(opd C st.env x).shutV)++[]) al) dst))
     | some (.pan v,bx)=>some (OpR.pan v { st with bx })
     | none=>none)=_
   rw [List.append_nil,List.nil_append,hh,hp]
   have hcut:cutO C (.func k) tys k (args.toList.map fun x=>(opd C st.env x).shutV) al st.bx=none:=by
    unfold cutO cutAt
    rw [hh,hp]
    cases (isFnO (.func k) && ptrA C tys) <;> cases boxMin al <;> rfl
   rw [hcut]
   unfold callRes
   cases callOp C (callL C) k (args.toList.map fun x=>(opd C st.env x).shutV) st.bx with
   | none=>rfl
   | some r=>obtain ⟨r,b⟩:=r;cases r <;> rfl
 · intro draw al dst t len parts ty pos after g st
   show (match buildSliceP C t len (parts.toList.map fun p=>(p.1,opd C st.env p.2)) with
    | some v=>some (OpR.next (st.put dst v) (killT al dst))
    | none=>none)=_
   unfold putP
   cases buildSliceP C t len (parts.toList.map fun p=>(p.1,opd C st.env p.2)) <;> rfl
 · intro draw al dst t l c ty pos after g st
   show (match makeSliceP C t (opd C st.env l) (opd C st.env c) with
    | some v=>some (OpR.next (newSl C st v dst) (killT al dst))
    | none=>none)=_
   unfold mkSl
   cases makeSliceP C t (opd C st.env l) (opd C st.env c) <;> rfl
 · intro draw al dst t x i ok ty pos after g st
   show (match lookupP C st.bx t (opd C st.env x) (opd C st.env i) ok with
    | some v=>some (OpR.next (st.put dst v) (killT al dst))
    | none=>none)=_
   unfold putP
   cases lookupP C st.bx t (opd C st.env x) (opd C st.env i) ok <;> rfl
 · intro draw al dst t m k v ty pos after g st
   show (match updateP C st.bx t (opd C st.env m) (opd C st.env k).shutV (opd C st.env v).shutV with
    | some bx=>some (OpR.next ((St.mk st.env bx).put dst und) (killT (al.filter fun p=>match p.2 with | .box _ _=>false | _=>true) dst))
    | none=>none)=_
   unfold mupR
   cases updateP C st.bx t (opd C st.env m) (opd C st.env k).shutV (opd C st.env v).shutV <;> rfl
 · intro draw al dst t a ty pos after g st
   show (match loadP C st.bx t (opd C st.env a) with
    | some v=>some (OpR.next (st.put dst v) (noteAl C draw st (.load t a) dst al))
    | none=>none)=_
   unfold loadR
   cases loadP C st.bx t (opd C st.env a) with
   | none=>rfl
   | some x=>cases draw <;> cases dst <;> rfl
 · intro draw al dst t ty pos after g st
   show (match tZero C t with
    | some z=>if (z.cells.map PV.ro).all PV.one then some (OpR.next ((St.mk st.env (st.bx++[PBox.cells t (z.cells.map PV.ro)])).put dst (PV.bp st.bx.length 0)) (killT al dst)) else none
    | none=>none)=_
   unfold allocR zeroCells
   cases tZero C t with
   | none=>rfl
   | some z=>
    simp only
    split <;> rfl
 · intro draw al dst t a i ty pos after g st
   show (match opd C st.env a with
    | .bp id off=>
     if tSize C t=some (laid (takeT C st (.tmp i) t).1).length then
      match storeCellsP (takeT C st (.tmp i) t).2.bx id off (laid (takeT C st (.tmp i) t).1) with
      | some bx=>some (OpR.next ((St.mk (takeT C st (.tmp i) t).2.env bx).put dst und) (killT (al.filter fun p=>(match p.2 with | .box i _=>i != id | .tmp k=>(match (Operand.tmp i) with | .tmp j=>k != j | _=>true))) dst))
      | none=>none
     else none
    | _=>none)=_
   rw [show takeT C st (.tmp i) t=(match getT st.env i with
    | .osl e xs=>(.osl e xs,{ st with env:=setT st.env i (.sl xs) })
    | v=>(v,st)) from rfl]
   unfold storeR
   generalize getT st.env i=v
   generalize opd C st.env a=p
   cases p <;> cases v <;> rfl
 · intro draw al dst t x ty pos after g st h
   show (if ((opd C st.env x).cells.map PV.ro).all PV.one then _ else none)=_
   rw [if_pos h]
 · intro draw al dst s x f ty pos after g st;exact pr draw al dst ty pos after g _ st rfl rfl
 · intro draw al dst s x f ty pos after g st;exact pr draw al dst ty pos after g _ st rfl rfl
 · intro draw al dst t parts ty pos after g st;exact pr draw al dst ty pos after g _ st rfl rfl
 · intro draw al dst x ty pos after g st
   rw [pr draw al dst ty pos after g (.nilCheck x) st rfl rfl]
   show putP (match opd C st.env x with
    | .ip cs=>some (.ip cs)
    | .bp id off=>some (.bp id off)
    | .fn f a b=>some (.fn f a b)
    | _=>none) dst (killT al dst) st=_
   unfold nchP
   cases opd C st.env x <;> rfl
 · intro draw al dst f first captured ty pos after g st;exact pr draw al dst ty pos after g _ st rfl rfl
 · intro draw al dst k args tys ty pos after g st
   have hif:∀ (x:Bool) (y z:Option OpR),(if (draw && isFn (.tmp k)) && x then y else z)=z:=fun x y z=>by simp [isFn]
   show (match (match opd C st.env (.tmp k) with
    | .fn k first captured=>some (k,first.map PV.shutV++args.toList.map (fun x=>(opd C st.env x).shutV)++captured.map PV.shutV)
    | _=>none) with
    | some (k2,vs)=>if (draw && isFn (.tmp k)) && (C.heap k2 || !(pureL vs)) then none else (match cutO C (.tmp k) tys k2 vs al st.bx with
    | some m=>match callOp C (callL C) k2 vs (st.bx.take m) with
     | some (.ret v,bx)=>if decide (bx.length=m) && (v.under m && bx.all (·.under m)) then some (OpR.next ((St.mk st.env (bx++st.bx.drop m)).put dst v) (killT al dst)) else none
     | some (.pan v,bx)=>if decide (bx.length=m) && (v.under m && bx.all (·.under m)) then some (OpR.pan v { st with bx:=bx++st.bx.drop m }) else none
     | none=>none
    | none=>match callOp C (callL C) k2 vs st.bx with
     | some (.ret v,bx)=>some (OpR.next ((St.mk st.env bx).put dst v) (killT (callAl C k2 vs al) dst))
     | some (.pan v,bx)=>some (OpR.pan v { st with bx })
     | none=>none)
    | none=>none)=_
   unfold dynR
   cases opd C st.env (.tmp k) with
   | fn f a b=>
    simp only [hif]
    have hcut:∀ k2 vs,cutO C (.tmp k) tys k2 vs al st.bx=none:=fun k2 vs=>by unfold cutO;rfl
    rw [hcut]
    unfold callRes
    cases callOp C (callL C) f _ st.bx with
    | none=>rfl
    | some r=>obtain ⟨r,b⟩:=r;cases r <;> rfl
   | _=>rfl
 · intro draw al dst x ty pos after g st
   show (match opd C st.env x with
    | .iface t v=>some (OpR.pan (.iface t v) st)
    | _=>none)=_
   unfold panR
   cases opd C st.env x <;> rfl
 · intro draw al dst t a k n ty pos after g st
   show (match opd C st.env a with | .bp id off=>_ | _=>none)=_
   unfold storeK
   cases opd C st.env a <;> rfl
 · intro draw al dst t a b ty pos after g st
   show (match opd C st.env a with | .bp id off=>_ | _=>none)=_
   unfold storeK
   cases opd C st.env a <;> rfl
 · intro draw al dst t a s ty pos after g st
   show (match opd C st.env a with | .bp id off=>_ | _=>none)=_
   unfold storeK
   cases opd C st.env a <;> rfl
 · intro draw al dst t a cs ty pos after g st
   show (match opd C st.env a with | .bp id off=>_ | _=>none)=_
   unfold storeK
   cases opd C st.env a <;> rfl
 · intro draw al dst t x ty pos after g st
   show (match C.P.underlying t,opd C st.env x with
    | some .string,.str s=>some (OpR.next ((St.mk st.env (st.bx++[PBox.iter s 0])).put dst (.bp st.bx.length 0)) (killT al dst))
    | _,_=>none)=_
   unfold rangeR
   rfl
 · intro draw al dst x ty pos after g st
   show (match opd C st.env x with
    | .bp id 0=>match st.bx[id]? with
     | some (PBox.iter s pos)=>
      if pos < s.length then
       some (OpR.next ((St.mk st.env (st.bx.set id (PBox.iter s (pos+(Utf8.decode ⟨s.toArray⟩ pos).2)))).put dst (.tup [.bool true,.int .i64 pos,.int .i32 (Utf8.decode ⟨s.toArray⟩ pos).1])) (killT al dst))
      else some (OpR.next (st.put dst (.tup [.bool false])) (killT al dst))
     | _=>none
    | _=>none)=_
   unfold nextR
   rfl
 · intro draw al dst t x ty pos after g st;exact pr draw al dst ty pos after g _ st rfl rfl
theorem RULES:∃ (ev:Code->St->Option (Ex×St)) (eo:Bool->Array Oper->List Oper->List (Nat×Loc)->St->Option (Ex×St)) (so:Bool->List (Nat×Loc)->Oper->St->Option OpR)
 (co:FuncId->List PV->List PBox->Option (CR×List PBox)),(ev=evL C∧co=callOp C (callL C)) ∧
 RSL C ev eo so co:=by
 obtain ⟨ev,eo,so,co,⟨h1,h2,_⟩,r⟩:=RULES0 C
 exact ⟨ev,eo,so,co,⟨h1,h2⟩,r⟩
theorem RULESB:∃ (dr:Array Oper->St->Option (Ex×St)) (ev:Code->St->Option (Ex×St)) (eo:Bool->Array Oper->List Oper->List (Nat×Loc)->St->Option (Ex×St)) (so:Bool->List (Nat×Loc)->Oper->St->Option OpR)
 (co:FuncId->List PV->List PBox->Option (CR×List PBox)),(ev=evB C∧co=callOp C (callL C)∧eo=evOps C (callL C)∧dr=drawM C (callL C)) ∧
 RSB C dr ev eo so co:=by
 obtain ⟨ev,eo,so,co,⟨h1,h2,h3,_⟩,r1,r2,r3,r4,r5,r6,r7,r⟩:=RULES0 C
 refine ⟨drawM C (callL C),evB C,eo,so,co,⟨rfl,h2,h3,rfl⟩,evLB_seq true,⟨fun i ops st=>?_,fun i ops st=>evLB_region true i ops true st⟩,evLB_ret true,evLB_skip true,evLB_exit true,evLB_block true,?_,r⟩
 · rw [h3]
   exact evLB_region true i ops false st
 · intro o a b st
   have hx:=evLB_cond (C:=C) true o a b st
   show evB C (.cond o a b) st=condE (opd C st.env o) (evB C a) (evB C b) st
   unfold evB
   rw [hx]
   unfold condE
   cases opd C st.env o <;> rfl
end
theorem SF:(type_of% @guardAt.eq_def)∧(type_of% @binP.eq_1)∧(type_of% @binP.eq_2)∧(type_of% @binP.eq_3)∧(type_of% @binP.eq_4)∧(type_of% @binP.eq_5)∧(type_of% @binP.eq_6)∧(type_of% @binP.eq_7)∧(type_of% @binP.eq_8)∧(type_of% @binP.eq_9)∧(type_of% @binP.eq_10)∧(type_of% @binP.eq_11)∧(type_of% @binP.eq_12)∧(type_of% @binP.eq_13)∧(type_of% @binP.eq_14)∧(type_of% @binP.eq_15)∧(type_of% @intP.eq_1)∧(type_of% @intP.eq_2)∧(type_of% @intP.eq_3)∧(type_of% @intP.eq_4)∧(type_of% @intP.eq_5)∧(type_of% @intP.eq_6)∧(type_of% @intP.eq_7)∧(type_of% @intP.eq_8)∧(type_of% @intP.eq_9)∧(type_of% @intP.eq_10)∧(type_of% @intP.eq_11)∧(type_of% @intP.eq_12)∧(type_of% @intP.eq_13)∧(type_of% @intP.eq_14)∧(type_of% @indexAddrP.eq_def)∧(type_of% @elemsOf.eq_def)∧(type_of% @readCells.eq_def)∧(type_of% @lenP.eq_def)∧(type_of% @lenAt.eq_def)∧(type_of% @resultsP.eq_1)∧(type_of% @resultsP.eq_2)∧(type_of% @resultP.eq_1)∧(type_of% @resultP.eq_2)∧(type_of% @oneOr.eq_1)∧(type_of% @oneOr.eq_2)∧(type_of% @appendP.eq_def)∧(type_of% @appendAt.eq_def)∧(type_of% @letGo.eq_1)∧(type_of% @letGo.eq_2)∧(type_of% @setLoc.eq_1)∧(type_of% @setLoc.eq_2)∧(type_of% @locVal.eq_1)∧(type_of% @locVal.eq_2)∧(type_of% @boxCells.eq_def)∧(type_of% @und.eq_def)∧(type_of% @Nat.zero_add):=
 ⟨@guardAt.eq_def,@binP.eq_1,@binP.eq_2,@binP.eq_3,@binP.eq_4,@binP.eq_5,@binP.eq_6,@binP.eq_7,@binP.eq_8,@binP.eq_9,@binP.eq_10,@binP.eq_11,@binP.eq_12,@binP.eq_13,@binP.eq_14,@binP.eq_15,@intP.eq_1,@intP.eq_2,@intP.eq_3,@intP.eq_4,@intP.eq_5,@intP.eq_6,@intP.eq_7,@intP.eq_8,@intP.eq_9,@intP.eq_10,@intP.eq_11,@intP.eq_12,@intP.eq_13,@intP.eq_14,@indexAddrP.eq_def,@elemsOf.eq_def,@readCells.eq_def,@lenP.eq_def,@lenAt.eq_def,@resultsP.eq_1,@resultsP.eq_2,@resultP.eq_1,@resultP.eq_2,@oneOr.eq_1,@oneOr.eq_2,@appendP.eq_def,@appendAt.eq_def,@letGo.eq_1,@letGo.eq_2,@setLoc.eq_1,@setLoc.eq_2,@locVal.eq_1,@locVal.eq_2,@boxCells.eq_def,@und.eq_def,@Nat.zero_add⟩
theorem SG:(type_of% @unP.eq_def)∧(type_of% @extP.eq_def)∧(type_of% @loadR.eq_def)∧(type_of% @loadP.eq_def)∧(type_of% @lay.eq_def)∧(type_of% @List.take_succ_cons.{0})∧(type_of% @List.take_zero.{0})∧(type_of% @List.take_nil.{0})∧(type_of% @List.drop_succ_cons.{0})∧(type_of% @List.drop_zero.{0})∧(type_of% @List.drop_nil.{0})∧(type_of% @List.filter_nil.{0})∧(type_of% @List.cons_append.{0})∧(type_of% @List.getElem?_cons_zero.{0})∧(type_of% @List.getElem?_cons_succ.{0})∧(type_of% @List.nil_append.{0})∧(type_of% @Nat.le_refl)∧(type_of% @Bool.not_true)∧(type_of% @Bool.not_false):=
 ⟨@unP.eq_def,@extP.eq_def,@loadR.eq_def,@loadP.eq_def,@lay.eq_def,@List.take_succ_cons,@List.take_zero,@List.take_nil,@List.drop_succ_cons,@List.drop_zero,@List.drop_nil,@List.filter_nil,@List.cons_append,@List.getElem?_cons_zero,@List.getElem?_cons_succ,@List.nil_append,@Nat.le_refl,@Bool.not_true,@Bool.not_false⟩
theorem SH:(type_of% @storeR.eq_def)∧(type_of% @storeK.eq_def)∧(type_of% @storeCellsP.eq_def)∧(type_of% @laid.eq_def)∧(type_of% @setBox.eq_def)∧(type_of% @callAl.eq_def):=
 ⟨@storeR.eq_def,@storeK.eq_def,@storeCellsP.eq_def,@laid.eq_def,@setBox.eq_def,@callAl.eq_def⟩
end Go.HH
