/-
  What the law needs, packed: Rules.
-/
import Derived.Test.YthjcaihemgllaaaGreatDoorJ28
open List renaming getElem?_cons_zero->Aa0,nil_append->Aa1,getElem?_cons_succ->Aa2,drop_succ_cons->Aa3,append_nil->Aa5,drop_zero->Aa6,filter_nil->Aac,getElem?_append_right->Aad,getElem?_toArray->Aaf,take_succ_cons->Aah,length_cons->Aam,cons_append->Aan,length_nil->Aap,head?_cons->Aaq,take_zero->Aas,take_nil->Aat,map_cons->Aau,getD_nil->Aav,drop_nil->Aaw,all_cons->Aax,map_nil->Ab0,all_nil->Ab1
open Bool renaming and_self->Aa4,not_false->Aa7,not_true->Aa9,false_eq_true->Aaj,true_and->Aay,and_true->Aaz,or_self->Ab2
open Nat renaming le_refl->Aa8,sub_self->Aae,zero_add->Ab3
open Option renaming bind_some->Aaa,isSome_some->Aag,bind_none->Aai,map_some->Aak,map_none->Aal
open Go.Utf8 renaming decode->Aab
open Int renaming toNat_natCast->Aao
open Go.Operand renaming tmp->Aar
namespace Go.HH
open Go
def CG (v:Option PV) (d:Option Tmp) (al:List (Nat×Loc)) (st:St):Option OpR:=
 match v with
 | some v=>some (.next (st.put d v) al)
 | none=>none
theorem eY (v:PV) (d:Option Tmp) (al:List (Nat×Loc)) (st:St):CG (some v) d al st=some (.next (st.put d v) al):=rfl
def UW (c:PV) (a b:PV):Option PV:=match c with
 | .bool t=>some (if t then a else b)
 | _=>none
theorem Z' (a b:PV):UW (.bool true) a b=some a:=rfl
theorem X1 (a b:PV):UW (.bool false) a b=some b:=rfl
def LZ (v:PV) (want:Bool):Option Bool:=match v with
 | .bool b=>some (b == want)
 | .tup _=>some false
 | _=>none
theorem X2 (w:Bool):LZ (.bool true) w=some w:=by cases w <;> rfl
theorem VX (w:Bool):LZ (.bool false) w=some (!w):=by cases w <;> rfl
theorem aa (w:Bool):LZ und w=some false:=rfl
def ns (r:Option OpR) (k:List (Nat×Loc)->St->Option (Ex×St)):Option (Ex×St):=match r with
 | none=>none
 | some (.next st' al')=>k al' st'
 | some (.pan v st')=>some (.pan v,st')
theorem iI (st:St) (al:List (Nat×Loc)) (k:List (Nat×Loc)->St->Option (Ex×St)):ns (some (.next st al)) k=k al st:=rfl
def UX (w:Option Bool) (f:St->Option OpR) (k:List (Nat×Loc)->St->Option (Ex×St)) (al:List (Nat×Loc)) (dst:Option Tmp) (st:St):Option (Ex×St):=match w with
 | none=>none
 | some false=>k (Ak al dst) (st.put dst und)
 | some true=>ns (f st) k
theorem ab (f:St->Option OpR) (k:List (Nat×Loc)->St->Option (Ex×St)) (al:List (Nat×Loc)) (dst:Option Tmp) (st:St):UX (some true) f k al dst st=ns (f st) k:=rfl
theorem X3 (f:St->Option OpR) (k:List (Nat×Loc)->St->Option (Ex×St)) (al:List (Nat×Loc)) (dst:Option Tmp) (st:St):UX (some false) f k al dst st=k (Ak al dst) (st.put dst und):=rfl
def MI (v:PV) (f g:St->Option (Ex×St)) (st:St):Option (Ex×St):=match v with
 | .bool t=>if t then f st else g st
 | _=>none
theorem ae (f g:St->Option (Ex×St)) (st:St):MI (.bool true) f g st=f st:=rfl
theorem X4 (f g:St->Option (Ex×St)) (st:St):MI (.bool false) f g st=g st:=rfl
def La (ops:Array Oper) (j:Nat) (e:List PV) (w:Bool):Option Bool:=match (ops[j]?).bind (·.dst) with
 | some d=>LZ (getT e d) w
 | none=>none
def ah (v:PV) (i:Nat):Option PV:=match v with
 | .tup vs=>vs[i]?.map PV.ro
 | _=>none
theorem iJ (vs:List PV) (i:Nat):ah (.tup vs) i=vs[i]?.map PV.ro:=rfl
def Q6 (C:Cfg) (ty:TypeId):PV:=match C.P.underlying ty with
 | some (.slice e)=>if (C.P.info? e).isSome then .osl e [] else .nils
 | _=>.nils
def Kg (C:Cfg) (draw:Bool) (al:List (Nat×Loc)) (d:Option Tmp) (t:TypeId) (v:PV) (st:St):Option OpR:=
 match GV C st.bx t v with
 | some x=>some (.next (st.put d x) (match (if draw then none else match C.P.underlying t with
  | some (.slice _)=>match v with
   | .bp id off=>match Fb st (.box id off) with
    | .osl _ _=>some (Loc.box id off)
    | _=>none
   | _=>none
  | _=>none),d with
  | some l,some d=>if l=.tmp d then Ak al (some d) else (d,l) :: Ak al (some d)
  | _,d=>Ak al d))
 | none=>none
theorem iK (C:Cfg) (draw:Bool) (al:List (Nat×Loc)) (d:Option Tmp) (t:TypeId) (cs:List PV) (st:St):Kg C draw al d t (.ip cs) st=CG (readCells C t cs) d (Ak al d) st:=by
 unfold Kg CG
 show (match readCells C t cs with
  | some x=>_
  | none=>none)=_
 cases readCells C t cs with
 | none=>rfl
 | some x=>
  simp only
  have h:(match C.P.underlying t with
   | some (.slice _)=>(none:Option Loc)
   | _=>none)=none:=by split <;> rfl
  rw [h];cases draw <;> cases d <;> rfl
theorem iL (C:Cfg) (draw:Bool) (al:List (Nat×Loc)) (d:Option Tmp) (t:TypeId) (id off:Nat) (st:St) (hn:AN C t=true):Kg C draw al d t (.bp id off) st=CG ((A0 st.bx id).bind fun cs=>readCells C t (cs.drop off)) d (Ak al d) st:=by
 unfold Kg CG GV;simp only;unfold AN at hn;cases A0 st.bx id with
 | none=>rfl
 | some cs=>
  simp only [Aaa];cases readCells C t (cs.drop off) with
  | none=>rfl
  | some x=>
   simp only;cases hu:C.P.underlying t with
   | none=>cases draw <;> cases d <;> rfl
   | some k=>
    rw [hu] at hn;cases k <;> first | exact Bool.noConfusion hn | (cases draw <;> cases d <;> rfl)
def cu (C:Cfg) (e:List PV) (t:Option TypeId) (x:Option Operand):Option PV:=match t,x with
 | some t,some x=>Tc C t (opd C e x)
 | _,_=>none
def Ei (C:Cfg) (r:Option (CR×List PBox)) (k:FuncId) (vs:List PV) (d:Option Tmp) (al:List (Nat×Loc)) (st:St):Option OpR:=match r with
 | some (.ret v,bx)=>some (.next ((St.mk st.env bx).put d v) (Ak (Dr C k vs al) d))
 | some (.pan v,bx)=>some (.pan v { st with bx })
 | none=>none
def CX (v:PV):Option PV:=match v with
 | .ip cs=>some (.ip cs)
 | .bp id off=>some (.bp id off)
 | .fn f a b=>some (.fn f a b)
 | _=>none
def HT (C:Cfg) (t:TypeId) (a:PV) (v:PV) (d:Option Tmp) (al:List (Nat×Loc)) (st:St):Option OpR:=match a with
 | .bp id off=>
  if tSize C t=some (laid v).length then
   match BK st.bx id off (laid v) with
   | some bx=>some (.next ((St.mk st.env bx).put d und) (Ak (al.filter fun p=>(match p.2 with | .box i _=>i != id | .tmp _=>true)) d))
   | none=>none
  else none
 | _=>none
def L0 (r:Option (CR×List PBox)) (m:Nat) (d:Option Tmp) (al:List (Nat×Loc)) (st:St):Option OpR:=match r with
 | some (.ret v,bx)=>if decide (bx.length=m) && (v.under m && bx.all (·.under m)) then some (.next ((St.mk st.env (bx++st.bx.drop m)).put d v) (Ak al d)) else none
 | some (.pan v,bx)=>if decide (bx.length=m) && (v.under m && bx.all (·.under m)) then some (.pan v { st with bx:=bx++st.bx.drop m }) else none
 | none=>none
def JB (C:Cfg) (co:FuncId->List PV->List PBox->Option (CR×List PBox)) (tys:Array TypeId) (k:FuncId) (vs:List PV) (d:Option Tmp) (al:List (Nat×Loc)) (st:St):Option OpR:=match JK C (.func k) tys k vs al st.bx with
 | some m=>L0 (co k vs (st.bx.take m)) m d al st
 | none=>Ei C (co k vs st.bx) k vs d al st
theorem eZ (C:Cfg) (co:FuncId->List PV->List PBox->Option (CR×List PBox)) (tys:Array TypeId) (k:FuncId) (vs:List PV) (d:Option Tmp) (al:List (Nat×Loc)) (st:St) (h:tys.toList.any (AP C)=false):JB C co tys k vs d al st=Ei C (co k vs st.bx) k vs d al st:=by
 unfold JB JK ic;rw [h,Bool.and_false];rfl
theorem ai (C:Cfg) (co:FuncId->List PV->List PBox->Option (CR×List PBox)) (tys:Array TypeId) (k:FuncId) (vs:List PV) (d:Option Tmp) (al:List (Nat×Loc)) (st:St) (h:CK al=none):JB C co tys k vs d al st=Ei C (co k vs st.bx) k vs d al st:=by
 unfold JB JK cutAt;rw [h];cases (cb (.func k) && ic C tys) <;> rfl
theorem UY (C:Cfg) (co:FuncId->List PV->List PBox->Option (CR×List PBox)) (tys:Array TypeId) (k:FuncId) (vs:List PV) (d:Option Tmp) (al:List (Nat×Loc)) (st:St) (m:Nat) (ht:tys.toList.any (AP C)=true) (h:CK al=some m) (h1:(C.heap k || !(Al vs))=true) (h2:Ar m vs=true) (h3:(st.bx.take m).all (·.under m)=true):JB C co tys k vs d al st=L0 (co k vs (st.bx.take m)) m d al st:=by
 unfold JB JK cutAt ic;rw [h,ht];simp only [h1,h2,h3,cb,Aa4,if_true]
theorem aj (v:PV) (bx:List PBox) (m:Nat) (d:Option Tmp) (al:List (Nat×Loc)) (e:List PV) (b0:List PBox) (h1:bx.length=m) (h2:v.under m=true) (h3:bx.all (·.under m)=true):L0 (some (.ret v,bx)) m d al ⟨e,b0⟩=some (.next ((St.mk e (bx++b0.drop m)).put d v) (Ak al d)):=by
 unfold L0;simp only [h1,h2,h3,decide_true,Aa4,if_true]
theorem ao (v:PV) (bx:List PBox) (m:Nat) (d:Option Tmp) (al:List (Nat×Loc)) (e:List PV) (b0:List PBox) (h1:bx.length=m) (h2:v.under m=true) (h3:bx.all (·.under m)=true):L0 (some (.pan v,bx)) m d al ⟨e,b0⟩=some (.pan v ⟨e,bx++b0.drop m⟩):=by
 unfold L0;simp only [h1,h2,h3,decide_true,Aa4,if_true]
def nu (i:Nat):Option Nat->Nat
 | none=>i
 | some m=>min i m
theorem ar (d i o:Nat) (r:List (Nat×Loc)):CK ((d,.box i o) :: r)=some (nu i (CK r)):=by
 show (match CK r with
  | some m=>some (min i m)
  | none=>some i)=_
 cases CK r <;> rfl
def Az (C:Cfg) (co:FuncId->List PV->List PBox->Option (CR×List PBox)) (f:PV) (vs:List PV) (d:Option Tmp) (al:List (Nat×Loc)) (st:St):Option OpR:=match f with
 | .fn k first captured=>Ei C (co k (first.map PV.shutV++vs++captured.map PV.shutV) st.bx) k (first.map PV.shutV++vs++captured.map PV.shutV) d al st
 | _=>none
def rB (v:PV) (st:St):Option OpR:=match v with
 | .iface t v=>some (.pan (.iface t v) st)
 | _=>none
def FH (_:Bool) (v:PV) (t:Nat) (d:Option Tmp) (al:List (Nat×Loc)):List (Nat×Loc):=
 match (match v with
  | .osl _ _=>some (Loc.tmp t)
  | _=>none),d with
 | some l,some d=>if l=.tmp d then Ak al (some d) else (d,l) :: Ak al (some d)
 | _,d=>Ak al d
theorem iM (e:TypeId) (xs:List PV) (t d:Nat) (al:List (Nat×Loc)) (b:Bool):FH b (.osl e xs) t (some d) al=if t=d then Ak al (some d) else (d,.tmp t) :: Ak al (some d):=by
 by_cases h:t=d <;> simp [FH,h]
theorem nv (xs:List PV) (t:Nat) (d:Option Tmp) (al:List (Nat×Loc)) (b:Bool):FH b (.sl xs) t d al=Ak al d:=by cases b <;> cases d <;> rfl
theorem iN (k n) (t:Nat) (d:Option Tmp) (al:List (Nat×Loc)) (b:Bool):FH b (.int k n) t d al=Ak al d:=by cases b <;> cases d <;> rfl
theorem fc (n) (t:Nat) (d:Option Tmp) (al:List (Nat×Loc)) (b:Bool):FH b (.bool n) t d al=Ak al d:=by cases b <;> cases d <;> rfl
theorem iO (n) (t:Nat) (d:Option Tmp) (al:List (Nat×Loc)) (b:Bool):FH b (.str n) t d al=Ak al d:=by cases b <;> cases d <;> rfl
theorem iP (n) (t:Nat) (d:Option Tmp) (al:List (Nat×Loc)) (b:Bool):FH b (.agg n) t d al=Ak al d:=by cases b <;> cases d <;> rfl
theorem iQ (n) (t:Nat) (d:Option Tmp) (al:List (Nat×Loc)) (b:Bool):FH b (.tup n) t d al=Ak al d:=by cases b <;> cases d <;> rfl
theorem nw (i n) (t:Nat) (d:Option Tmp) (al:List (Nat×Loc)) (b:Bool):FH b (.bp i n) t d al=Ak al d:=by cases b <;> cases d <;> rfl
theorem nz (n) (t:Nat) (d:Option Tmp) (al:List (Nat×Loc)) (b:Bool):FH b (.ip n) t d al=Ak al d:=by cases b <;> cases d <;> rfl
def Gw (v:PV) (i:Nat) (d:Option Tmp) (al:List (Nat×Loc)) (st:St):Option OpR:=
 match v with
 | .osl e xs=>some (.next ((St.mk (setT st.env i (.sl xs)) st.bx).put d (.osl e xs)) (Ak (Ak al (some i)) d))
 | v=>some (.next (st.put d v) (Ak (Ak al (some i)) d))
theorem iR (e xs) (i:Nat) (d:Option Tmp) (al:List (Nat×Loc)) (st:St):Gw (.osl e xs) i d al st=some (.next ((St.mk (setT st.env i (.sl xs)) st.bx).put d (.osl e xs)) (Ak (Ak al (some i)) d)):=rfl
theorem nA (xs) (i:Nat) (d:Option Tmp) (al:List (Nat×Loc)) (st:St):Gw (.sl xs) i d al st=some (.next (st.put d (.sl xs)) (Ak (Ak al (some i)) d)):=rfl
theorem iS (k n) (i:Nat) (d:Option Tmp) (al:List (Nat×Loc)) (st:St):Gw (.int k n) i d al st=some (.next (st.put d (.int k n)) (Ak (Ak al (some i)) d)):=rfl
theorem ff (n) (i:Nat) (d:Option Tmp) (al:List (Nat×Loc)) (st:St):Gw (.bool n) i d al st=some (.next (st.put d (.bool n)) (Ak (Ak al (some i)) d)):=rfl
theorem iT (n) (i:Nat) (d:Option Tmp) (al:List (Nat×Loc)) (st:St):Gw (.str n) i d al st=some (.next (st.put d (.str n)) (Ak (Ak al (some i)) d)):=rfl
theorem iU (n) (i:Nat) (d:Option Tmp) (al:List (Nat×Loc)) (st:St):Gw (.agg n) i d al st=some (.next (st.put d (.agg n)) (Ak (Ak al (some i)) d)):=rfl
def zeroCells (C:Cfg) (t:TypeId):Option (List PV):=match tZero C t with
 | some z=>if (z.cells.map PV.ro).all PV.one then some (z.cells.map PV.ro) else none
 | none=>none
def VY (t:TypeId) (r:Option (List PV)) (d:Option Tmp) (al:List (Nat×Loc)) (st:St):Option OpR:=match r with
 | some cs=>some (.next ((St.mk st.env (st.bx++[.cells t cs])).put d (.bp st.bx.length 0)) (Ak al d))
 | none=>none
theorem X5 (t:TypeId) (cs:List PV) (d:Option Tmp) (al:List (Nat×Loc)) (st:St):VY t (some cs) d al st=some (.next ((St.mk st.env (st.bx++[.cells t cs])).put d (.bp st.bx.length 0)) (Ak al d)):=rfl
def I4 (C:Cfg) (t:TypeId) (a:PV) (v:PV) (i:Nat) (d:Option Tmp) (al:List (Nat×Loc)) (st:St):Option OpR:=match a with
 | .bp id off=>
  let e1:=match v with
   | .osl _ xs=>setT st.env i (.sl xs)
   | _=>st.env
  if tSize C t=some (laid v).length then
   match BK st.bx id off (laid v) with
   | some bx=>some (.next ((St.mk e1 bx).put d und) (Ak (al.filter fun p=>(match p.2 with | .box i _=>i != id | .tmp k=>(match (Aar i) with | .tmp j=>k != j | _=>true))) d))
   | none=>none
  else none
 | _=>none
def Q7 (r:Option (List PBox)) (d:Option Tmp) (e:List PV):Option OpR:=match r with
 | some bx=>some (.next ((St.mk e bx).put d und) [])
 | none=>none
theorem X6 (bx:List PBox) (d:Option Tmp) (e:List PV):Q7 (some bx) d e=some (.next ((St.mk e bx).put d und) []):=rfl
theorem au (C:Cfg) (t:TypeId) (id off:Nat) (cs:List PV) (i:Nat) (d:Option Tmp) (st:St) (h:tSize C t=some cs.length) :
 I4 C t (.bp id off) (.agg cs) i d [] st=Q7 (BK st.bx id off (cs.map PV.ro)) d st.env:=by
 have hl:(laid (.agg cs))=cs.map PV.ro:=rfl;unfold I4 Q7;simp only [hl,List.length_map,h,if_true,Aac,UU]
theorem Ti (bx:List PBox) (t:TypeId) (cs:List PV):A0 (bx++[.cells t cs]) bx.length=some cs:=by
 unfold A0;rw [Aad (Aa8 _),Aae];rfl
theorem Pq (bx:List PBox) (t:TypeId) (cs:List PV) (off:Nat) (vs:List PV) (h:off+vs.length<=cs.length) (ho:vs.all PV.one=true):BK (bx++[.cells t cs]) bx.length off vs=some (bx++[.cells t (lay cs off vs)]):=by
 unfold BK;rw [Aad (Aa8 _),Aae];simp only [Aa0];rw [if_pos ⟨h,ho⟩,List.set_append_right _ _ (Aa8 _),Aae];rfl
theorem iV (e:List PV) (bx:List PBox) (d:Nat) (v:PV):(St.mk e bx).put (some d) v=⟨setT e d v,bx⟩:=rfl
theorem iW (e:List PV) (bx:List PBox) (v:PV):(St.mk e bx).put none v=⟨e,bx⟩:=rfl
theorem MJ {x r:Option (Ex×St)} {P:List PV->Option (Ex×St)} {Q:List PV->Prop} (hE:x=r) (h:∃ e',x=P e'/\Q e'):∃ e',r=P e'/\Q e':=by
 subst hE;exact h
theorem nB (C:Cfg) (e:List PV) (t:Nat):opd C e (.tmp t)=(getT e t).ro:=rfl
theorem nC (C:Cfg) (e:List PV) (k n):opd C e (.const (.int k n))=.int k n:=rfl
theorem iX (C:Cfg) (e:List PV) (n):opd C e (.const (.bool n))=.bool n:=rfl
theorem nD (C:Cfg) (e:List PV) (n):opd C e (.const (.string n))=.str n.data.toList:=rfl
theorem nE (C:Cfg) (e:List PV):opd C e (.const (.slice none 0 0))=.nils:=rfl
theorem nF (C:Cfg) (e:List PV) (t:Nat):raw C e (.tmp t)=getT e t:=rfl
theorem X7 (C:Cfg) (v:PV) (bx:List PBox) (k:FuncId) (vs:List PV) (d:Option Tmp) (al:List (Nat×Loc)) (e:List PV) (b0:List PBox):Ei C (some (.ret v,bx)) k vs d al ⟨e,b0⟩=some (.next ((St.mk e bx).put d v) (Ak (Dr C k vs al) d)):=rfl
theorem fg (C:Cfg) (k:FuncId) (vs:List PV) (al:List (Nat×Loc)) (h:C.heap k=false) (hp:Al vs=true):Dr C k vs al=al:=by
 unfold Dr;rw [h,hp];rfl
theorem SB:(∀ v d al st,CG (some v) d al st=some (.next (st.put d v) al))/\(∀ a b,UW (.bool true) a b=some a)/\(∀ a b,UW (.bool false) a b=some b) /\
 (∀ w,LZ (.bool true) w=some w)/\(∀ w,LZ (.bool false) w=some (!w))/\(∀ w,LZ (.tup []) w=some false) /\
 (∀ st al (k:List (Nat×Loc)->St->Option (Ex×St)),ns (some (.next st al)) k=k al st) /\
 (∀ f (k:List (Nat×Loc)->St->Option (Ex×St)) al dst st,UX (some true) f k al dst st=ns (f st) k)/\(∀ f (k:List (Nat×Loc)->St->Option (Ex×St)) al dst st,UX (some false) f k al dst st=k (Ak al dst) (st.put dst und)) /\
 (∀ f g st,MI (.bool true) f g st=f st)/\(∀ f g st,MI (.bool false) f g st=g st)/\(∀ vs i,ah (.tup vs) i=vs[i]?.map PV.ro) /\
 (∀ C draw al d t cs st,Kg C draw al d t (.ip cs) st=CG (readCells C t cs) d (Ak al d) st) /\
 (∀ C draw al d t id off st,AN C t=true->Kg C draw al d t (.bp id off) st=CG ((A0 st.bx id).bind fun cs=>readCells C t (cs.drop off)) d (Ak al d) st) /\
 (∀ e xs t d al b,FH b (.osl e xs) t (some d) al=if t=d then Ak al (some d) else (d,.tmp t) :: Ak al (some d)) /\
 (∀ xs t d al b,FH b (.sl xs) t d al=Ak al d)/\(∀ k n t d al b,FH b (.int k n) t d al=Ak al d)/\(∀ n t d al b,FH b (.bool n) t d al=Ak al d)/\(∀ n t d al b,FH b (.str n) t d al=Ak al d) /\
 (∀ n t d al b,FH b (.agg n) t d al=Ak al d)/\(∀ n t d al b,FH b (.tup n) t d al=Ak al d)/\(∀ i n t d al b,FH b (.bp i n) t d al=Ak al d)/\(∀ n t d al b,FH b (.ip n) t d al=Ak al d) /\
 (∀ e xs i d al st,Gw (.osl e xs) i d al st=some (.next ((St.mk (setT st.env i (.sl xs)) st.bx).put d (.osl e xs)) (Ak (Ak al (some i)) d))) /\
 (∀ xs i d al st,Gw (.sl xs) i d al st=some (.next (st.put d (.sl xs)) (Ak (Ak al (some i)) d)))/\(∀ k n i d al st,Gw (.int k n) i d al st=some (.next (st.put d (.int k n)) (Ak (Ak al (some i)) d))) /\
 (∀ n i d al st,Gw (.bool n) i d al st=some (.next (st.put d (.bool n)) (Ak (Ak al (some i)) d)))/\(∀ n i d al st,Gw (.str n) i d al st=some (.next (st.put d (.str n)) (Ak (Ak al (some i)) d))) /\
 (∀ n i d al st,Gw (.agg n) i d al st=some (.next (st.put d (.agg n)) (Ak (Ak al (some i)) d))) /\
 (∀ e bx d v,(St.mk e bx).put (some d) v=⟨setT e d v,bx⟩)/\(∀ e bx v,(St.mk e bx).put none v=⟨e,bx⟩) /\
 (∀ C e t,opd C e (.tmp t)=(getT e t).ro)/\(∀ C e k n,opd C e (.const (.int k n))=.int k n)/\(∀ C e n,opd C e (.const (.bool n))=.bool n)/\(∀ C e n,opd C e (.const (.string n))=.str n.data.toList) /\
 (∀ C e,opd C e (.const (.slice none 0 0))=.nils)/\(∀ C e t,raw C e (.tmp t)=getT e t) /\
 (∀ C v bx k vs d al e b0,Ei C (some (.ret v,bx)) k vs d al ⟨e,b0⟩=some (.next ((St.mk e bx).put d v) (Ak (Dr C k vs al) d))) /\
 (∀ C k vs al,C.heap k=false->Al vs=true->Dr C k vs al=al) /\
 (∀ C co tys k vs d al st,tys.toList.any (AP C)=false->JB C co tys k vs d al st=Ei C (co k vs st.bx) k vs d al st) /\
 (∀ C co tys k vs d al st,CK al=none->JB C co tys k vs d al st=Ei C (co k vs st.bx) k vs d al st) /\
 (∀ C,([]:List TypeId).any (AP C)=false)/\(∀ C t r,(t :: r).any (AP C)=(AP C t || r.any (AP C)))/\(∀ l:List TypeId,l.toArray.toList=l)/\(∀ b,(false || b)=b)/\(∀ b,(true || b)=true) /\
 CK []=none/\(∀ d t r,CK ((d,.tmp t) :: r)=CK r)/\(∀ d i o r,CK ((d,.box i o) :: r)=some (nu i (CK r)))/\(∀ i,nu i none=i)/\(∀ i m,nu i (some m)=min i m) /\
 (∀ C v bx k vs d al e b0,Ei C (some (.pan v,bx)) k vs d al ⟨e,b0⟩=some (.pan v ⟨e,bx⟩))/\(∀ v st (k:List (Nat×Loc)->St->Option (Ex×St)),ns (some (.pan v st)) k=some (.pan v,st)) /\
 (∀ v st (k:St->Option (Ex×St)),Ea (some (.pan v,st)) k=some (.pan v,st))/\(∀ i v st,EM i (some (.pan v,st))=some (.pan v,st))/\(∀ C rs v st,CM C rs (some (.pan v,st))=some (.pan v,st.bx))/\(∀ t v st,rB (.iface t v) st=some (.pan (.iface t v) st)) /\
 (∀ k n,(PV.int k n).ro=.int k n)/\(∀ b,(PV.bool b).ro=.bool b)/\(∀ b,(PV.str b).ro=.str b)/\(∀ b,(PV.sl b).ro=.sl b)/\(∀ e b,(PV.osl e b).ro=.sl b)/\(∀ b,(PV.agg b).ro=.agg b)/\(∀ b,(PV.tup b).ro=.tup b)/\(∀ b,(PV.ip b).ro=.ip b)/\(∀ i b,(PV.bp i b).ro=.bp i b)/\PV.nils.ro=.nils /\
 (∀ k n,(PV.int k n).shutV=.int k n)/\(∀ b,(PV.bool b).shutV=.bool b)/\(∀ b,(PV.str b).shutV=.str b)/\(∀ b,(PV.sl b).shutV=.sl b)/\(∀ b,(PV.agg b).shutV=.agg (b.map PV.seal1))/\PV.nils.shutV=.sl [] /\
 (∀ k n,(PV.int k n).seal1=.int k n)/\(∀ b,(PV.bool b).seal1=.bool b)/\(∀ b,(PV.str b).seal1=.str b)/\(∀ b,(PV.sl b).seal1=.sl b):=
 ⟨eY,Z',X1,X2,VX,aa,iI,ab,X3,ae,X4,iJ,iK,iL,iM,nv,iN,fc,iO,iP,iQ,nw,nz,
  iR,nA,iS,ff,iT,iU,iV,iW,nB,nC,iX,nD,nE,nF,X7,fg,eZ,ai,fun _=>rfl,fun _ _ _=>rfl,fun _=>rfl,fun _=>rfl,fun _=>rfl,rfl,fun _ _ _=>rfl,ar,fun _=>rfl,fun _ _=>rfl,fun _ _ _ _ _ _ _ _ _=>rfl,fun _ _ _=>rfl,fun _ _ _=>rfl,fun _ _ _=>rfl,fun _ _ _ _=>rfl,fun _ _ _=>rfl,
  fun _ _=>rfl,fun _=>rfl,fun _=>rfl,fun _=>rfl,fun _ _=>rfl,fun _=>rfl,fun _=>rfl,fun _=>rfl,fun _ _=>rfl,rfl,
  fun _ _=>rfl,fun _=>rfl,fun _=>rfl,fun _=>rfl,fun _=>rfl,rfl,fun _ _=>rfl,fun _=>rfl,fun _=>rfl,fun _=>rfl⟩
theorem SD:(type_of% @US)/\(type_of% @Q4)/\(type_of% @XY)/\(type_of% @XX)/\(type_of% @O9)/\(type_of% @Aau.{0,0})/\(type_of% @Ab0.{0,0})/\(type_of% @Aav.{0})/\(type_of% @Aaj)/\(type_of% @if_false.{1})/\(type_of% @Aaa.{0,0})/\(type_of% @if_true.{1})/\(type_of% @Aaq.{0})/\(type_of% @Aak.{0,0})/\(type_of% @Aaf.{0})/\(type_of% @Aa0.{0})/\(type_of% @Aa2.{0})/\(type_of% @or_self)/\(type_of% @or_false)/\(type_of% @false_or)/\(type_of% @or_true)/\(type_of% @true_or)/\(type_of% @and_true)/\(type_of% @true_and)/\(type_of% @ne_eq.{1})/\(type_of% @not_false_eq_true)/\(type_of% @not_true_eq_false)/\(type_of% @decide_true)/\(type_of% @decide_false)/\(type_of% @Aa9)/\(type_of% @Aa7)/\(type_of% @beq_self_eq_true.{0})/\(type_of% @Aam.{0})/\(type_of% @Aap.{0})/\(type_of% @bne_self_eq_false.{0})/\(type_of% @beq_true)/\(type_of% @beq_false)/\(type_of% @Aai.{0,0})/\(type_of% @Aal.{0,0})/\(type_of% @Aao)/\(type_of% @Aa5.{0})/\(type_of% @Aa1.{0})/\(type_of% @Ab2)/\(type_of% @Aa4)/\(type_of% @Aaz)/\(type_of% @Aay)/\(type_of% @Loc.tmp.injEq)/\(type_of% @GK)/\(type_of% @Aag.{0})/\(type_of% @Aax.{0})/\(type_of% @Ab1.{0})/\(type_of% @Aa6.{0})/\(type_of% @Aa3.{0}):=
 ⟨@US,@Q4,@XY,@XX,@O9,@Aau,@Ab0,@Aav,@Aaj,@if_false,@Aaa,@if_true,@Aaq,@Aak,@Aaf,@Aa0,@Aa2,@or_self,@or_false,@false_or,@or_true,@true_or,@and_true,@true_and,@ne_eq,@not_false_eq_true,@not_true_eq_false,@decide_true,@decide_false,@Aa9,@Aa7,@beq_self_eq_true,@Aam,@Aap,@bne_self_eq_false,@beq_true,@beq_false,@Aai,@Aal,@Aao,@Aa5,@Aa1,@Ab2,@Aa4,@Aaz,@Aay,@Loc.tmp.injEq,@GK,@Aag,@Aax,@Ab1,@Aa6,@Aa3⟩
theorem F4 (t i o d:Nat) (r:List (Nat×Loc)):Ak ((t,.box i o) :: r) (some d)=if t=d then Ak r (some d) else (t,.box i o) :: Ak r (some d):=by
 unfold Ak;simp only [List.filter_cons];by_cases h1:t=d <;> simp [h1]
theorem SE:(∀ (C:Cfg) (e:List PV) (f:FuncId),opd C e (.func f)=.fn f [] [])/\(∀ (C:Cfg) (e:List PV),opd C e (.const (.pointer none))=.nilp)/\(∀ (C:Cfg) (e:List PV),opd C e (.const .nilIface)=.nili)/\(∀ (C:Cfg) (e:List PV),opd C e (.const .nilFunc)=.nilf) /\
 (∀ i o,(PV.bp i o).shutV=.bp i o) /\
 (∀ i o,(PV.bp i o).seal1=.bp i o) /\
 (∀ i o,(PV.bp i o).cells=[.bp i o]) /\
 (∀ i o,(PV.bp i o).one=true) /\
 (∀ i o k d al st,Gw (PV.bp i o) k d al st=some (.next (st.put d (.bp i o)) (Ak (Ak al (some k)) d))) /\
 PV.nilp.shutV=.nilp /\
 PV.nilp.seal1=.nilp /\
 PV.nilp.ro=.nilp /\
 PV.nilp.cells=[.nilp] /\
 PV.nilp.one=true /\
 (∀ k d al st,Gw PV.nilp k d al st=some (.next (st.put d .nilp) (Ak (Ak al (some k)) d))) /\
 PV.nili.shutV=.nili /\
 PV.nili.seal1=.nili /\
 PV.nili.ro=.nili /\
 PV.nili.cells=[.nili] /\
 PV.nili.one=true /\
 (∀ k d al st,Gw PV.nili k d al st=some (.next (st.put d .nili) (Ak (Ak al (some k)) d))) /\
 PV.nilf.shutV=.nilf /\
 PV.nilf.seal1=.nilf /\
 PV.nilf.ro=.nilf /\
 PV.nilf.cells=[.nilf] /\
 PV.nilf.one=true /\
 (∀ k d al st,Gw PV.nilf k d al st=some (.next (st.put d .nilf) (Ak (Ak al (some k)) d))) /\
 (∀ f a c,(PV.fn f a c).shutV=.fn f a c) /\
 (∀ f a c,(PV.fn f a c).seal1=.fn f a c) /\
 (∀ f a c,(PV.fn f a c).ro=.fn f a c) /\
 (∀ f a c,(PV.fn f a c).cells=[.fn f a c]) /\
 (∀ f a c,(PV.fn f a c).one=true) /\
 (∀ f a c k d al st,Gw (PV.fn f a c) k d al st=some (.next (st.put d (.fn f a c)) (Ak (Ak al (some k)) d))) /\
 (∀ t v,(PV.iface t v).shutV=.iface t v) /\
 (∀ t v,(PV.iface t v).seal1=.iface t v) /\
 (∀ t v,(PV.iface t v).ro=.iface t v) /\
 (∀ t v,(PV.iface t v).cells=[.iface t v]) /\
 (∀ t v,(PV.iface t v).one=true) /\
 (∀ t v k d al st,Gw (PV.iface t v) k d al st=some (.next (st.put d (.iface t v)) (Ak (Ak al (some k)) d))) /\
 (∀ cs,(PV.ip cs).shutV=.ip cs) /\
 (∀ cs,(PV.ip cs).seal1=.ip cs) /\
 (∀ cs,(PV.ip cs).cells=[.ip cs]) /\
 (∀ cs,(PV.ip cs).one=true) /\
 (∀ cs k d al st,Gw (PV.ip cs) k d al st=some (.next (st.put d (.ip cs)) (Ak (Ak al (some k)) d))) /\
 (∀ k d al g,FH g PV.nilp k d al=Ak al d) /\
 (∀ k d al g,FH g PV.nili k d al=Ak al d) /\
 (∀ k d al g,FH g PV.nilf k d al=Ak al d) /\
 (∀ f a c k d al g,FH g (PV.fn f a c) k d al=Ak al d) /\
 (∀ t v k d al g,FH g (PV.iface t v) k d al=Ak al d) /\
 (∀ k d al g,FH g .nils k d al=Ak al d) /\
 (∀ k d al st,Gw .nils k d al st=some (.next (st.put d .nils) (Ak (Ak al (some k)) d))) /\
 (∀ vs k d al st,Gw (.tup vs) k d al st=some (.next (st.put d (.tup vs)) (Ak (Ak al (some k)) d))) /\
 PV.nils.cells=[.nils] /\
 PV.nils.one=true /\
 PV.nils.seal1=.sl [] /\
 (∀ e xs,(PV.osl e xs).cells=[.osl e xs]) /\
 (∀ e xs,(PV.osl e xs).shutV=.sl xs) /\
 (∀ e xs,(PV.osl e xs).seal1=.sl xs) /\
 (∀ i o,(PV.bp i o).pure=false) /\
 PV.nilp.pure=true /\
 PV.nili.pure=true /\
 PV.nilf.pure=true /\
 PV.nils.pure=true /\
 (∀ cs,(PV.agg cs).pure=Al cs) /\
 (∀ cs,(PV.tup cs).pure=Al cs) /\
 (∀ cs,(PV.ip cs).pure=Al cs) /\
 (∀ t v,(PV.iface t v).pure=v.pure) /\
 (∀ e xs,(PV.osl e xs).pure=Al xs) /\
 (∀ f a c,(PV.fn f a c).pure=(Al a && Al c)) /\
 (∀ t i o d (r:List (Nat×Loc)),Ak ((t,.box i o) :: r) (some d)=if t=d then Ak r (some d) else (t,.box i o) :: Ak r (some d)) /\
 (∀ C k vs,Dr C k vs []=[]):=
 ⟨fun _ _ _=>rfl,fun _ _=>rfl,fun _ _=>rfl,fun _ _=>rfl,fun _ _=>rfl,fun _ _=>rfl,fun _ _=>rfl,fun _ _=>rfl,fun _ _ _ _ _ _=>rfl,rfl,rfl,rfl,rfl,rfl,fun _ _ _ _=>rfl,rfl,rfl,rfl,rfl,rfl,fun _ _ _ _=>rfl,rfl,rfl,rfl,rfl,rfl,fun _ _ _ _=>rfl,fun _ _ _=>rfl,fun _ _ _=>rfl,fun _ _ _=>rfl,fun _ _ _=>rfl,fun _ _ _=>rfl,fun _ _ _ _ _ _ _=>rfl,fun _ _=>rfl,fun _ _=>rfl,fun _ _=>rfl,fun _ _=>rfl,fun _ _=>rfl,fun _ _ _ _ _ _=>rfl,fun _=>rfl,fun _=>rfl,fun _=>rfl,fun _=>rfl,fun _ _ _ _ _=>rfl,fun _ d _ g=>by cases g <;> cases d <;> rfl,fun _ d _ g=>by cases g <;> cases d <;> rfl,fun _ d _ g=>by cases g <;> cases d <;> rfl,fun _ _ _ _ d _ g=>by cases g <;> cases d <;> rfl,fun _ _ _ d _ g=>by cases g <;> cases d <;> rfl,fun _ d _ g=>by cases g <;> cases d <;> rfl,fun _ _ _ _=>rfl,fun _ _ _ _ _=>rfl,rfl,rfl,rfl,fun _ _=>rfl,fun _ _=>rfl,fun _ _=>rfl,fun _ _=>by simp [PV.pure],by simp [PV.pure],by simp [PV.pure],by simp [PV.pure],by simp [PV.pure],fun _=>by simp [PV.pure],fun _=>by simp [PV.pure],fun _=>by simp [PV.pure],fun _ _=>by simp [PV.pure],fun _ _=>by simp [PV.pure],fun _ _ _=>by simp [PV.pure],fun t i o d r=>F4 t i o d r,fun C k vs=>by unfold Dr;split <;> rfl⟩
theorem SC:(∀ t cs d al st,VY t (some cs) d al st=some (.next ((St.mk st.env (st.bx++[.cells t cs])).put d (.bp st.bx.length 0)) (Ak al d))) /\
 (∀ bx d e,Q7 (some bx) d e=some (.next ((St.mk e bx).put d und) [])) /\
 (∀ (bx:List PBox) t cs,A0 (bx++[.cells t cs]) bx.length=some cs) /\
 (∀ C t id off cs i d st,tSize C t=some cs.length->I4 C t (.bp id off) (.agg cs) i d [] st=Q7 (BK st.bx id off (cs.map PV.ro)) d st.env) /\
 (∀ (bx:List PBox) t cs off vs,off+vs.length<=cs.length->vs.all PV.one=true->BK (bx++[.cells t cs]) bx.length off vs=some (bx++[.cells t (lay cs off vs)])):=
 ⟨X5,X6,Ti,au,Pq⟩
def aw (u:Option TypeDesc) (v:PV) (d:Option Tmp) (al:List (Nat×Loc)) (st:St):Option OpR:=match u,v with
 | some .string,.str s=>some (.next ((St.mk st.env (st.bx++[.iter s 0])).put d (.bp st.bx.length 0)) (Ak al d))
 | _,_=>none
def JC (v:PV) (d:Option Tmp) (al:List (Nat×Loc)) (st:St):Option OpR:=match v with
 | .bp id 0=>match st.bx[id]? with
  | some (.iter s pos)=>
   if pos < s.length then
    some (.next ((St.mk st.env (st.bx.set id (.iter s (pos+(Aab ⟨s.toArray⟩ pos).2)))).put d (.tup [.bool true,.int .i64 pos,.int .i32 (Aab ⟨s.toArray⟩ pos).1])) (Ak al d))
   else some (.next (st.put d (.tup [.bool false])) (Ak al d))
  | _=>none
 | _=>none
section
variable (C:Cfg)
theorem nG {c:Cl} {draw:Bool} {al:List (Nat×Loc)} {dst ty pos after g} {op:Op} {st:St} (h:Bp C c draw al ⟨dst,op,ty,pos,after,g⟩ st=match B1 C st.bx st.env op with
 | some v=>some (.next (st.put dst v) (Gv C draw st op dst al))
 | none=>none) (hn:Gv C draw st op dst al=Ak al dst):Bp C c draw al ⟨dst,op,ty,pos,after,g⟩ st=CG (B1 C st.bx st.env op) dst (Ak al dst) st:=by
 rw [h,hn];unfold CG;cases B1 C st.bx st.env op <;> rfl
abbrev RSH (ev:Code->St->Option (Ex×St)) (eo:Bool->Array Oper->List Oper->List (Nat×Loc)->St->Option (Ex×St)) (so:Bool->List (Nat×Loc)->Oper->St->Option OpR) (co:FuncId->List PV->List PBox->Option (CR×List PBox)):Prop:=
 (∀ draw ops al st,eo draw ops [] al st=some (.normal,st)) /\
 (∀ draw ops dst op ty pos after rest al st,eo draw ops (⟨dst,op,ty,pos,after,none⟩:: rest) al st=ns (so draw al ⟨dst,op,ty,pos,after,none⟩ st) (eo draw ops rest)) /\
 (∀ draw ops dst op ty pos after j w rest al st,eo draw ops (⟨dst,op,ty,pos,after,some (j,w)⟩:: rest) al st=UX (La ops j st.env w) (so draw al ⟨dst,op,ty,pos,after,some (j,w)⟩) (eo draw ops rest) al dst st) /\
 (∀ draw al dst t ty pos after g st,so draw al ⟨dst,.move (.tmp t),ty,pos,after,g⟩ st=CG (some (getT st.env t).ro) dst (FH draw (getT st.env t) t dst al) st) /\
 (∀ draw al dst v ty pos after g st,so draw al ⟨dst,.move (.const v),ty,pos,after,g⟩ st=CG (some (opd C st.env (.const v))) dst (Ak al dst) st) /\
 (∀ al dst i ty pos after g st,so false al ⟨dst,.assign (.tmp i),ty,pos,after,g⟩ st=Gw (getT st.env i) i dst al st) /\
 (∀ al dst k n ty pos after g st,so false al ⟨dst,.assign (.const (.int k n)),ty,pos,after,g⟩ st=CG (some (.int k n)) dst (Ak al dst) st) /\
 (∀ al dst b ty pos after g st,so false al ⟨dst,.assign (.const (.bool b)),ty,pos,after,g⟩ st=CG (some (.bool b)) dst (Ak al dst) st) /\
 (∀ al dst ty pos after g st,so false al ⟨dst,.assign (.const (.slice none 0 0)),ty,pos,after,g⟩ st=CG (some (Q6 C ty)) dst (Ak al dst) st) /\
 (∀ al dst x ty pos after g st,AN C ty=true->so true al ⟨dst,.assign x,ty,pos,after,g⟩ st=CG (some (opd C st.env x)) dst (Ak al dst) st) /\
 (∀ al dst i ty pos after g st,AN C ty=false->so true al ⟨dst,.assign (.tmp i),ty,pos,after,g⟩ st=Gw (getT st.env i) i dst al st) /\
 (∀ al dst ty pos after g st,AN C ty=false->so true al ⟨dst,.assign (.const (.slice none 0 0)),ty,pos,after,g⟩ st=CG (some (Q6 C ty)) dst (Ak al dst) st) /\
 (∀ draw al dst c a b ty pos after g st,so draw al ⟨dst,.pick c a b,ty,pos,after,g⟩ st=CG (UW (opd C st.env c) (opd C st.env a) (opd C st.env b)) dst (Ak al dst) st) /\
 (∀ draw al dst bop t x y ty2 ty pos after g st,so draw al ⟨dst,.binOp bop t x y ty2,ty,pos,after,g⟩ st=CG (D7 C bop t (opd C st.env x) (opd C st.env y)) dst (Ak al dst) st) /\
 (∀ draw al dst uop t x ty pos after g st,so draw al ⟨dst,.unOp uop t x,ty,pos,after,g⟩ st=CG (nc uop (opd C st.env x)) dst (Ak al dst) st) /\
 (∀ draw al dst s d x ty pos after g st,so draw al ⟨dst,.convert s d x,ty,pos,after,g⟩ st=CG (Gh C s d (opd C st.env x)) dst (Ak al dst) st) /\
 (∀ draw al dst t x i ty pos after g st,so draw al ⟨dst,.indexAddr t x i,ty,pos,after,g⟩ st=CG (EL C t (opd C st.env x) (opd C st.env i)) dst (Ak al dst) st) /\
 (∀ draw al dst t x i ty pos after g st,so draw al ⟨dst,.index t x i,ty,pos,after,g⟩ st=CG (DA C t (opd C st.env x) (opd C st.env i)) dst (Ak al dst) st) /\
 (∀ draw al dst t x lo hi ty pos after g st,so draw al ⟨dst,.slice t x lo hi none,ty,pos,after,g⟩ st=CG (FV C t (opd C st.env x) (lo.map (opd C st.env)) (hi.map (opd C st.env))) dst (Ak al dst) st) /\
 (∀ draw al dst x i ty pos after g st,so draw al ⟨dst,.extract x i,ty,pos,after,g⟩ st=CG (ah (opd C st.env x) i) dst (Ak al dst) st) /\
 (∀ draw al dst args tys ty pos after g st,so draw al ⟨dst,.call { callee:=.builtin .len,args,argTypes:=tys },ty,pos,after,g⟩ st=CG (cu C st.env tys[0]? args[0]?) dst (Ak al dst) st) /\
 (∀ draw al dst args tys ty pos after g st,so draw al ⟨dst,.call { callee:=.builtin .max,args,argTypes:=tys },ty,pos,after,g⟩ st=CG (nf (args.toList.map (opd C st.env))) dst (Ak al dst) st) /\
 (∀ draw al dst args tys ty pos after g st,so draw al ⟨dst,.call { callee:=.builtin .min,args,argTypes:=tys },ty,pos,after,g⟩ st=CG (ng (args.toList.map (opd C st.env))) dst (Ak al dst) st) /\
 (∀ draw al dst args tys ty pos after g st,so draw al ⟨dst,.call { callee:=.builtin .append,args,argTypes:=tys },ty,pos,after,g⟩ st=K3 C st al args tys dst) /\
 (∀ al dst k args tys ty pos after g st,so false al ⟨dst,.call { callee:=.value (.func k),args,argTypes:=tys },ty,pos,after,g⟩ st =
  JB C co tys k (args.toList.map (fun x=>(opd C st.env x).shutV)) dst al st) /\
 (∀ al dst k args tys ty pos after g st,C.heap k=false->Al (args.toList.map (fun x=>(opd C st.env x).shutV))=true->so true al ⟨dst,.call { callee:=.value (.func k),args,argTypes:=tys },ty,pos,after,g⟩ st =
  Ei C (co k (args.toList.map (fun x=>(opd C st.env x).shutV)) st.bx) k (args.toList.map (fun x=>(opd C st.env x).shutV)) dst al st) /\
 (∀ draw al dst t len parts ty pos after g st,so draw al ⟨dst,.buildSlice t len parts,ty,pos,after,g⟩ st=CG (AZ C t len (parts.toList.map fun p=>(p.1,opd C st.env p.2))) dst (Ak al dst) st) /\
 (∀ draw al dst t l c ty pos after g st,so draw al ⟨dst,.makeSlice t l c,ty,pos,after,g⟩ st=CG (FX C t (opd C st.env l) (opd C st.env c)) dst (Ak al dst) st) /\
 (∀ draw al dst t a ty pos after g st,so draw al ⟨dst,.load t a,ty,pos,after,g⟩ st=Kg C draw al dst t (opd C st.env a) st) /\
 (∀ draw al dst t ty pos after g st,so draw al ⟨dst,.alloc t,ty,pos,after,g⟩ st=VY t (zeroCells C t) dst al st) /\
 (∀ draw al dst t a i ty pos after g st,so draw al ⟨dst,.store t a (.tmp i),ty,pos,after,g⟩ st=I4 C t (opd C st.env a) (getT st.env i) i dst al st) /\
 (∀ draw al dst t x ty pos after g st,((opd C st.env x).cells.map PV.ro).all PV.one=true->so draw al ⟨dst,.box t x,ty,pos,after,g⟩ st =
  some (.next ((St.mk st.env (st.bx++[.cells t ((opd C st.env x).cells.map PV.ro)])).put dst (.bp st.bx.length 0)) (Ak al dst))) /\
 (∀ al dst s ty pos after g st,so false al ⟨dst,.assign (.const (.string s)),ty,pos,after,g⟩ st=CG (some (.str s.data.toList)) dst (Ak al dst) st) /\
 (∀ al dst cs ty pos after g st,so false al ⟨dst,.assign (.const (.agg cs)),ty,pos,after,g⟩ st=CG (some (cval (.agg cs)).ro) dst (Ak al dst) st) /\
 (∀ al dst ty pos after g st,so false al ⟨dst,.assign (.const (.pointer none)),ty,pos,after,g⟩ st=CG (some .nilp) dst (Ak al dst) st) /\
 (∀ al dst ty pos after g st,so false al ⟨dst,.assign (.const .nilIface),ty,pos,after,g⟩ st=CG (some .nili) dst (Ak al dst) st) /\
 (∀ al dst ty pos after g st,so false al ⟨dst,.assign (.const .nilFunc),ty,pos,after,g⟩ st=CG (some .nilf) dst (Ak al dst) st) /\
 (∀ al dst f ty pos after g st,so false al ⟨dst,.assign (.func f),ty,pos,after,g⟩ st=CG (some (.fn f [] [])) dst (Ak al dst) st) /\
 (∀ draw al dst s x f ty pos after g st,so draw al ⟨dst,.fieldAddr s x f,ty,pos,after,g⟩ st=CG (AG C s f (opd C st.env x)) dst (Ak al dst) st) /\
 (∀ draw al dst s x f ty pos after g st,so draw al ⟨dst,.field s x f,ty,pos,after,g⟩ st=CG (Bi C s f (opd C st.env x)) dst (Ak al dst) st) /\
 (∀ draw al dst t parts ty pos after g st,so draw al ⟨dst,.build t parts,ty,pos,after,g⟩ st=CG (A9 C t (parts.toList.map fun p=>(p.1,(opd C st.env p.2).shutV))) dst (Ak al dst) st) /\
 (∀ draw al dst x ty pos after g st,so draw al ⟨dst,.nilCheck x,ty,pos,after,g⟩ st=CG (CX (opd C st.env x)) dst (Ak al dst) st) /\
 (∀ draw al dst f first captured ty pos after g st,so draw al ⟨dst,.makeFunc (.func f) first captured,ty,pos,after,g⟩ st=CG (some (.fn f (first.toList.map fun x=>(opd C st.env x).shutV) (captured.toList.map fun x=>(opd C st.env x).shutV))) dst (Ak al dst) st) /\
 (∀ draw al dst k args tys ty pos after g st,so draw al ⟨dst,.call { callee:=.value (.tmp k),args,argTypes:=tys },ty,pos,after,g⟩ st =
  Az C co (opd C st.env (.tmp k)) (args.toList.map (fun x=>(opd C st.env x).shutV)) dst al st) /\
 (∀ draw al dst x ty pos after g st,so draw al ⟨dst,.panic x,ty,pos,after,g⟩ st=rB (opd C st.env x) st) /\
 (∀ draw al dst t a k n ty pos after g st,so draw al ⟨dst,.store t a (.const (.int k n)),ty,pos,after,g⟩ st=HT C t (opd C st.env a) (.int k n) dst al st) /\
 (∀ draw al dst t a b ty pos after g st,so draw al ⟨dst,.store t a (.const (.bool b)),ty,pos,after,g⟩ st=HT C t (opd C st.env a) (.bool b) dst al st) /\
 (∀ draw al dst t a s ty pos after g st,so draw al ⟨dst,.store t a (.const (.string s)),ty,pos,after,g⟩ st=HT C t (opd C st.env a) (.str s.data.toList) dst al st) /\
 (∀ draw al dst t a cs ty pos after g st,so draw al ⟨dst,.store t a (.const (.agg cs)),ty,pos,after,g⟩ st=HT C t (opd C st.env a) (cval (.agg cs)).ro dst al st) /\
 (∀ draw al dst t x ty pos after g st,so draw al ⟨dst,.range t x,ty,pos,after,g⟩ st=aw (C.P.underlying t) (opd C st.env x) dst al st) /\
 (∀ draw al dst x ty pos after g st,so draw al ⟨dst,.next x true,ty,pos,after,g⟩ st=JC (opd C st.env x) dst al st) /\
 (∀ draw al dst t x ty pos after g st,so draw al ⟨dst,.makeInterface t x,ty,pos,after,g⟩ st=CG (mkIf (C.P.underlying t) t (opd C st.env x).shutV) dst (Ak al dst) st)
abbrev uU (ev:Code->St->Option (Ex×St)) (eo:Bool->Array Oper->List Oper->List (Nat×Loc)->St->Option (Ex×St)) (so:Bool->List (Nat×Loc)->Oper->St->Option OpR)
 (co:FuncId->List PV->List PBox->Option (CR×List PBox)):Prop:=(∀ a b st,ev (.seq a b) st=Ea (ev a st) (ev b))/\(∀ i ops draw st,ev (.region i ops draw) st=eo draw ops ops.toList [] st)/\(∀ st,ev .ret st=some (.ret,st))/\(∀ st,ev .skip st=some (.normal,st)) /\
 (∀ i st,ev (.exit i) st=some (.exit i,st))/\(∀ i b st,ev (.block i b) st=EM i (ev b st)) /\
 (∀ o a b st,ev (.cond o a b) st=MI (opd C st.env o) (ev a) (ev b) st) /\
 RSH C ev eo so co
abbrev y7 (dr:Array Oper->St->Option (Ex×St)) (ev:Code->St->Option (Ex×St)) (eo:Bool->Array Oper->List Oper->List (Nat×Loc)->St->Option (Ex×St)) (so:Bool->List (Nat×Loc)->Oper->St->Option OpR)
 (co:FuncId->List PV->List PBox->Option (CR×List PBox)):Prop:=(∀ a b st,ev (.seq a b) st=Ea (ev a st) (ev b))/\((∀ i ops st,ev (.region i ops false) st=eo false ops ops.toList [] st)/\(∀ i ops st,ev (.region i ops true) st=dr ops st))/\(∀ st,ev .ret st=some (.ret,st))/\(∀ st,ev .skip st=some (.normal,st)) /\
 (∀ i st,ev (.exit i) st=some (.exit i,st))/\(∀ i b st,ev (.block i b) st=EM i (ev b st)) /\
 (∀ o a b st,ev (.cond o a b) st=MI (opd C st.env o) (ev a) (ev b) st) /\
 RSH C ev eo so co
theorem L1:∃ (ev:Code->St->Option (Ex×St)) (eo:Bool->Array Oper->List Oper->List (Nat×Loc)->St->Option (Ex×St)) (so:Bool->List (Nat×Loc)->Oper->St->Option OpR)
 (co:FuncId->List PV->List PBox->Option (CR×List PBox)),(ev=Co C/\co=Ai C (Ad C)/\eo=evOps C (Ad C)/\so=Bp C (Ad C)) /\
 uU C ev eo so co:=by
 have nt:∀ (draw:Bool) (st:St) (op:Op) (dst:Option Tmp) (al:List (Nat×Loc)),origin C st op=none->Gv C draw st op dst al=Ak al dst:=by
  intro draw st op dst al h
  have hD:Fc op st.env dst=[]:=by
   unfold Fc;split
   · rename_i t d
     split
     · rename_i x xs hx
       unfold origin at h;simp only [hx] at h;cases h
     · rfl
   · rfl
  unfold Gv;rw [hD];rw [h];cases draw <;> cases dst <;> rfl
 have pr:∀ (draw:Bool) (al:List (Nat×Loc)) dst ty pos after g (op:Op) (st:St),(Bp C (Ad C) draw al ⟨dst,op,ty,pos,after,g⟩ st=match B1 C st.bx st.env op with
  | some v=>some (.next (st.put dst v) (Gv C draw st op dst al))
  | none=>none)->origin C st op=none->Bp C (Ad C) draw al ⟨dst,op,ty,pos,after,g⟩ st=CG (B1 C st.bx st.env op) dst (Ak al dst) st:=
  fun draw al dst ty pos after g op st h ho=>nG C h (nt _ _ _ _ _ ho)
 refine ⟨Co C,evOps C (Ad C),Bp C (Ad C),Ai C (Ad C),⟨rfl,rfl,rfl,rfl⟩,cg,QQ,cf,XH,XI,UK,?_,fun _ _ _ _=>rfl,?_,?_,
  ?_,?_,?_,?_,?_,?_,?_,?_,?_,?_,?_,?_,?_,?_,?_,?_,?_,?_,?_,?_,fun _ _ _ _ _ _ _ _ _ _=>rfl,?_,?_,?_,?_,?_,?_,?_,?_,
  fun _ _ _ _ _ _ _ _=>rfl,fun _ _ _ _ _ _ _ _=>rfl,fun _ _ _ _ _ _ _=>rfl,fun _ _ _ _ _ _ _=>rfl,fun _ _ _ _ _ _ _=>rfl,fun _ _ _ _ _ _ _ _=>rfl,?_,?_,?_,?_,?_,?_,?_,?_,?_,?_,?_,?_,?_,?_⟩
 · intro o a b st
   rw [ik];unfold MI;cases opd C st.env o <;> rfl
 · intro draw ops dst op ty pos after rest al st
   show (match Bp C (Ad C) draw al ⟨dst,op,ty,pos,after,none⟩ st with
    | none=>none
    | some (.next st' al')=>evOps C (Ad C) draw ops rest al' st'
    | some (.pan v st')=>some (.pan v,st'))=_
   unfold ns;cases Bp C (Ad C) draw al ⟨dst,op,ty,pos,after,none⟩ st with
   | none=>rfl
   | some r=>cases r <;> rfl
 · intro draw ops dst op ty pos after j w rest al st
   have hw:GA ops st.env ⟨dst,op,ty,pos,after,some (j,w)⟩=La ops j st.env w:=by
    unfold La GA;simp only;cases (ops[j]?).bind (·.dst) <;> rfl
   rw [evOps,hw];unfold UX ns;cases La ops j st.env w with
   | none=>rfl
   | some b=>cases b with
    | false=>rfl
    | true=>
     simp only;cases Bp C (Ad C) draw al ⟨dst,op,ty,pos,after,some (j,w)⟩ st with
     | none=>rfl
     | some r=>cases r <;> rfl
 · intro draw al dst t ty pos after g st
   show some (OpR.next (st.put dst (getT st.env t).ro) (Gv C draw st (.move (.tmp t)) dst al))=some (OpR.next (st.put dst (getT st.env t).ro) (FH draw (getT st.env t) t dst al));unfold Gv FH Fc
   rw [show origin C st (.move (.tmp t))=(match getT st.env t with
    | .osl _ _=>some (Loc.tmp t)
    | _=>none) from rfl]
   cases draw with
   | false=>generalize getT st.env t=v;cases v <;> cases dst <;> rfl
   | true=>
    cases dst with
    | none=>generalize getT st.env t=v;cases v <;> rfl
    | some d=>
     by_cases h:t=d
     · subst h
       cases hv:getT st.env t <;> simp [hv]
     · cases hv:getT st.env t <;> simp [hv,h]
 · intro draw al dst v ty pos after g st
   exact pr draw al dst ty pos after g (.move (.const v)) st rfl rfl
 · intro al dst i ty pos after g st
   show some (OpR.next ((D9 C st (.tmp i) ty).2.put dst (D9 C st (.tmp i) ty).1) (Ak (Ak al (some i)) dst))=_
   rw [show D9 C st (.tmp i) ty=(match getT st.env i with
    | .osl e xs=>(.osl e xs,{ st with env:=setT st.env i (.sl xs) })
    | v=>(v,st)) from rfl]
   unfold Gw;generalize getT st.env i=v;cases v <;> rfl
 · intro al dst k n ty pos after g st;rfl
 · intro al dst b ty pos after g st;rfl
 · intro al dst ty pos after g st
   show some (OpR.next ((D9 C st (.const (.slice none 0 0)) ty).2.put dst (D9 C st (.const (.slice none 0 0)) ty).1) (Ak al dst))=_;unfold D9 Q6 CG;simp only;split <;> (try split) <;> simp_all
 · intro al dst x ty pos after g st h
   show (if true && AN C ty then _ else _)=_;rw [h];rfl
 · intro al dst i ty pos after g st h
   show (if true && AN C ty then _ else some (OpR.next ((D9 C st (.tmp i) ty).2.put dst (D9 C st (.tmp i) ty).1) (Ak (Ak al (some i)) dst)))=_;rw [h,if_neg (by decide)]
   rw [show D9 C st (.tmp i) ty=(match getT st.env i with
    | .osl e xs=>(.osl e xs,{ st with env:=setT st.env i (.sl xs) })
    | v=>(v,st)) from rfl]
   unfold Gw;generalize getT st.env i=v;cases v <;> rfl
 · intro al dst ty pos after g st h
   show (if true && AN C ty then _ else some (OpR.next ((D9 C st (.const (.slice none 0 0)) ty).2.put dst (D9 C st (.const (.slice none 0 0)) ty).1) (Ak al dst)))=_;rw [h,if_neg (by decide)];unfold D9 Q6 CG;simp only;split <;> (try split) <;> simp_all
 · intro draw al dst c a b ty pos after g st
   rw [pr draw al dst ty pos after g (.pick c a b) st rfl rfl]
   show CG (match opd C st.env c with
    | .bool t=>some (if t then opd C st.env a else opd C st.env b)
    | _=>none) dst (Ak al dst) st=_
   unfold UW;cases opd C st.env c <;> rfl
 · intro draw al dst bop t x y ty2 ty pos after g st;exact pr draw al dst ty pos after g _ st rfl rfl
 · intro draw al dst uop t x ty pos after g st;exact pr draw al dst ty pos after g _ st rfl rfl
 · intro draw al dst s d x ty pos after g st;exact pr draw al dst ty pos after g _ st rfl rfl
 · intro draw al dst t x i ty pos after g st;exact pr draw al dst ty pos after g _ st rfl rfl
 · intro draw al dst t x i ty pos after g st;exact pr draw al dst ty pos after g _ st rfl rfl
 · intro draw al dst t x lo hi ty pos after g st;exact pr draw al dst ty pos after g _ st rfl rfl
 · intro draw al dst x i ty pos after g st
   rw [pr draw al dst ty pos after g (.extract x i) st rfl rfl]
   show CG (match opd C st.env x with
    | .tup vs=>vs[i]?.map PV.ro
    | _=>none) dst (Ak al dst) st=_
   unfold ah;cases opd C st.env x <;> rfl
 · intro draw al dst args tys ty pos after g st
   rw [pr draw al dst ty pos after g _ st rfl rfl]
   show CG (match tys[0]?,args[0]? with
    | some t,some x=>Tc C t (opd C st.env x)
    | _,_=>none) dst (Ak al dst) st=_
   unfold cu;cases tys[0]? <;> cases args[0]? <;> rfl
 · intro draw al dst args tys ty pos after g st;exact pr draw al dst ty pos after g _ st rfl rfl
 · intro draw al dst args tys ty pos after g st;exact pr draw al dst ty pos after g _ st rfl rfl
 · intro al dst k args tys ty pos after g st
   show (if (false && VI (.func k)) && (C.heap k || !(Al (args.toList.map fun x=>(opd C st.env x).shutV))) then none else match JK C (.func k) tys k (([]:List PV)++args.toList.map (fun x=>(opd C st.env x).shutV)++[]) al st.bx with
    | some m=>match Ai C (Ad C) k (([]:List PV)++args.toList.map (fun x=>(opd C st.env x).shutV)++[]) (st.bx.take m) with
     | some (.ret v,bx)=>if decide (bx.length=m) && (v.under m && bx.all (·.under m)) then some (OpR.next ((St.mk st.env (bx++st.bx.drop m)).put dst v) (Ak al dst)) else none
     | some (.pan v,bx)=>if decide (bx.length=m) && (v.under m && bx.all (·.under m)) then some (OpR.pan v { st with bx:=bx++st.bx.drop m }) else none
     | none=>none
    | none=>match Ai C (Ad C) k (([]:List PV)++args.toList.map (fun x=>(opd C st.env x).shutV)++[]) st.bx with
     | some (.ret v,bx)=>some (OpR.next ((St.mk st.env bx).put dst v) (Ak (Dr C k (([]:List PV)++args.toList.map (fun x=>(opd C st.env x).shutV)++[]) al) dst))
     | some (.pan v,bx)=>some (OpR.pan v { st with bx })
     | none=>none)=_
   rw [Aa5,Aa1];unfold JB;cases JK C (.func k) tys k (args.toList.map fun x=>(opd C st.env x).shutV) al st.bx with
   | some m=>
    simp only;unfold L0;cases Ai C (Ad C) k (args.toList.map fun x=>(opd C st.env x).shutV) (st.bx.take m) with
    | none=>rfl
    | some r=>obtain ⟨r,b⟩:=r;cases r <;> rfl
   | none=>
    simp only;unfold Ei;cases Ai C (Ad C) k (args.toList.map fun x=>(opd C st.env x).shutV) st.bx with
    | none=>rfl
    | some r=>obtain ⟨r,b⟩:=r;cases r <;> rfl
 · intro al dst k args tys ty pos after g st hh hp
   show (if (true && VI (.func k)) && (C.heap k || !(Al (([]:List PV)++args.toList.map (fun x=>(opd C st.env x).shutV)++[]))) then none else match JK C (.func k) tys k (([]:List PV)++args.toList.map (fun x=>(opd C st.env x).shutV)++[]) al st.bx with
    | some m=>match Ai C (Ad C) k (([]:List PV)++args.toList.map (fun x=>(opd C st.env x).shutV)++[]) (st.bx.take m) with
     | some (.ret v,bx)=>if decide (bx.length=m) && (v.under m && bx.all (·.under m)) then some (OpR.next ((St.mk st.env (bx++st.bx.drop m)).put dst v) (Ak al dst)) else none
     | some (.pan v,bx)=>if decide (bx.length=m) && (v.under m && bx.all (·.under m)) then some (OpR.pan v { st with bx:=bx++st.bx.drop m }) else none
     | none=>none
    | none=>match Ai C (Ad C) k (([]:List PV)++args.toList.map (fun x=>(opd C st.env x).shutV)++[]) st.bx with
     | some (.ret v,bx)=>some (OpR.next ((St.mk st.env bx).put dst v) (Ak (Dr C k (([]:List PV)++args.toList.map (fun x=>(opd C st.env x).shutV)++[]) al) dst))
     | some (.pan v,bx)=>some (OpR.pan v { st with bx })
     | none=>none)=_
   rw [Aa5,Aa1,hh,hp]
   have Cq:JK C (.func k) tys k (args.toList.map fun x=>(opd C st.env x).shutV) al st.bx=none:=by
    unfold JK cutAt;rw [hh,hp];cases (cb (.func k) && ic C tys) <;> cases CK al <;> rfl
   rw [Cq];unfold Ei;cases Ai C (Ad C) k (args.toList.map fun x=>(opd C st.env x).shutV) st.bx with
   | none=>rfl
   | some r=>obtain ⟨r,b⟩:=r;cases r <;> rfl
 · intro draw al dst t len parts ty pos after g st
   show (match AZ C t len (parts.toList.map fun p=>(p.1,opd C st.env p.2)) with
    | some v=>some (OpR.next (st.put dst v) (Ak al dst))
    | none=>none)=_
   unfold CG;cases AZ C t len (parts.toList.map fun p=>(p.1,opd C st.env p.2)) <;> rfl
 · intro draw al dst t l c ty pos after g st
   show (match FX C t (opd C st.env l) (opd C st.env c) with
    | some v=>some (OpR.next (st.put dst v) (Ak al dst))
    | none=>none)=_
   unfold CG;cases FX C t (opd C st.env l) (opd C st.env c) <;> rfl
 · intro draw al dst t a ty pos after g st
   show (match GV C st.bx t (opd C st.env a) with
    | some v=>some (OpR.next (st.put dst v) (Gv C draw st (.load t a) dst al))
    | none=>none)=_
   unfold Kg;cases GV C st.bx t (opd C st.env a) with
   | none=>rfl
   | some x=>cases draw <;> cases dst <;> rfl
 · intro draw al dst t ty pos after g st
   show (match tZero C t with
    | some z=>if (z.cells.map PV.ro).all PV.one then some (OpR.next ((St.mk st.env (st.bx++[PBox.cells t (z.cells.map PV.ro)])).put dst (PV.bp st.bx.length 0)) (Ak al dst)) else none
    | none=>none)=_
   unfold VY zeroCells;cases tZero C t with
   | none=>rfl
   | some z=>
    simp only;split <;> rfl
 · intro draw al dst t a i ty pos after g st
   show (match opd C st.env a with
    | .bp id off=>
     if tSize C t=some (laid (D9 C st (.tmp i) t).1).length then
      match BK (D9 C st (.tmp i) t).2.bx id off (laid (D9 C st (.tmp i) t).1) with
      | some bx=>some (OpR.next ((St.mk (D9 C st (.tmp i) t).2.env bx).put dst und) (Ak (al.filter fun p=>(match p.2 with | .box i _=>i != id | .tmp k=>(match (Aar i) with | .tmp j=>k != j | _=>true))) dst))
      | none=>none
     else none
    | _=>none)=_
   rw [show D9 C st (.tmp i) t=(match getT st.env i with
    | .osl e xs=>(.osl e xs,{ st with env:=setT st.env i (.sl xs) })
    | v=>(v,st)) from rfl]
   unfold I4;generalize getT st.env i=v;generalize opd C st.env a=p;cases p <;> cases v <;> rfl
 · intro draw al dst t x ty pos after g st h
   show (if ((opd C st.env x).cells.map PV.ro).all PV.one then _ else none)=_;rw [if_pos h]
 · intro draw al dst s x f ty pos after g st;exact pr draw al dst ty pos after g _ st rfl rfl
 · intro draw al dst s x f ty pos after g st;exact pr draw al dst ty pos after g _ st rfl rfl
 · intro draw al dst t parts ty pos after g st;exact pr draw al dst ty pos after g _ st rfl rfl
 · intro draw al dst x ty pos after g st
   rw [pr draw al dst ty pos after g (.nilCheck x) st rfl rfl]
   show CG (match opd C st.env x with
    | .ip cs=>some (.ip cs)
    | .bp id off=>some (.bp id off)
    | .fn f a b=>some (.fn f a b)
    | _=>none) dst (Ak al dst) st=_
   unfold CX;cases opd C st.env x <;> rfl
 · intro draw al dst f first captured ty pos after g st;exact pr draw al dst ty pos after g _ st rfl rfl
 · intro draw al dst k args tys ty pos after g st
   have pQ:∀ (x:Bool) (y z:Option OpR),(if (draw && VI (.tmp k)) && x then y else z)=z:=fun x y z=>by simp [VI]
   show (match (match opd C st.env (.tmp k) with
    | .fn k first captured=>some (k,first.map PV.shutV++args.toList.map (fun x=>(opd C st.env x).shutV)++captured.map PV.shutV)
    | _=>none) with
    | some (k2,vs)=>if (draw && VI (.tmp k)) && (C.heap k2 || !(Al vs)) then none else (match JK C (.tmp k) tys k2 vs al st.bx with
    | some m=>match Ai C (Ad C) k2 vs (st.bx.take m) with
     | some (.ret v,bx)=>if decide (bx.length=m) && (v.under m && bx.all (·.under m)) then some (OpR.next ((St.mk st.env (bx++st.bx.drop m)).put dst v) (Ak al dst)) else none
     | some (.pan v,bx)=>if decide (bx.length=m) && (v.under m && bx.all (·.under m)) then some (OpR.pan v { st with bx:=bx++st.bx.drop m }) else none
     | none=>none
    | none=>match Ai C (Ad C) k2 vs st.bx with
     | some (.ret v,bx)=>some (OpR.next ((St.mk st.env bx).put dst v) (Ak (Dr C k2 vs al) dst))
     | some (.pan v,bx)=>some (OpR.pan v { st with bx })
     | none=>none)
    | none=>none)=_
   unfold Az;cases opd C st.env (.tmp k) with
   | fn f a b=>
    simp only [pQ];have Cq:∀ k2 vs,JK C (.tmp k) tys k2 vs al st.bx=none:=fun k2 vs=>by unfold JK;rfl
    rw [Cq];unfold Ei;cases Ai C (Ad C) f _ st.bx with
    | none=>rfl
    | some r=>obtain ⟨r,b⟩:=r;cases r <;> rfl
   | _=>rfl
 · intro draw al dst x ty pos after g st
   show (match opd C st.env x with
    | .iface t v=>some (OpR.pan (.iface t v) st)
    | _=>none)=_
   unfold rB;cases opd C st.env x <;> rfl
 · intro draw al dst t a k n ty pos after g st
   show (match opd C st.env a with | .bp id off=>_ | _=>none)=_;unfold HT;cases opd C st.env a <;> rfl
 · intro draw al dst t a b ty pos after g st
   show (match opd C st.env a with | .bp id off=>_ | _=>none)=_;unfold HT;cases opd C st.env a <;> rfl
 · intro draw al dst t a s ty pos after g st
   show (match opd C st.env a with | .bp id off=>_ | _=>none)=_;unfold HT;cases opd C st.env a <;> rfl
 · intro draw al dst t a cs ty pos after g st
   show (match opd C st.env a with | .bp id off=>_ | _=>none)=_;unfold HT;cases opd C st.env a <;> rfl
 · intro draw al dst t x ty pos after g st
   show (match C.P.underlying t,opd C st.env x with
    | some .string,.str s=>some (OpR.next ((St.mk st.env (st.bx++[PBox.iter s 0])).put dst (.bp st.bx.length 0)) (Ak al dst))
    | _,_=>none)=_
   unfold aw;rfl
 · intro draw al dst x ty pos after g st
   show (match opd C st.env x with
    | .bp id 0=>match st.bx[id]? with
     | some (PBox.iter s pos)=>
      if pos < s.length then
       some (OpR.next ((St.mk st.env (st.bx.set id (PBox.iter s (pos+(Aab ⟨s.toArray⟩ pos).2)))).put dst (.tup [.bool true,.int .i64 pos,.int .i32 (Aab ⟨s.toArray⟩ pos).1])) (Ak al dst))
      else some (OpR.next (st.put dst (.tup [.bool false])) (Ak al dst))
     | _=>none
    | _=>none)=_
   unfold JC;rfl
 · intro draw al dst t x ty pos after g st;exact pr draw al dst ty pos after g _ st rfl rfl
theorem X8:∃ (ev:Code->St->Option (Ex×St)) (eo:Bool->Array Oper->List Oper->List (Nat×Loc)->St->Option (Ex×St)) (so:Bool->List (Nat×Loc)->Oper->St->Option OpR)
 (co:FuncId->List PV->List PBox->Option (CR×List PBox)),(ev=Co C/\co=Ai C (Ad C)) /\
 uU C ev eo so co:=by
 obtain ⟨ev,eo,so,co,⟨h1,h2,_⟩,r⟩:=L1 C;exact ⟨ev,eo,so,co,⟨h1,h2⟩,r⟩
theorem NQ:∃ (dr:Array Oper->St->Option (Ex×St)) (ev:Code->St->Option (Ex×St)) (eo:Bool->Array Oper->List Oper->List (Nat×Loc)->St->Option (Ex×St)) (so:Bool->List (Nat×Loc)->Oper->St->Option OpR)
 (co:FuncId->List PV->List PBox->Option (CR×List PBox)),(ev=Lh C/\co=Ai C (Ad C)/\eo=evOps C (Ad C)/\dr=GY C (Ad C)) /\
 y7 C dr ev eo so co:=by
 obtain ⟨ev,eo,so,co,⟨h1,h2,h3,_⟩,r1,r2,r3,r4,r5,r6,r7,r⟩:=L1 C;refine ⟨GY C (Ad C),Lh C,eo,so,co,⟨rfl,h2,h3,rfl⟩,XG true,⟨fun i ops st=>?_,fun i ops st=>Kd true i ops true st⟩,XF true,UG true,UH true,QP true,?_,r⟩
 · rw [h3]
   exact Kd true i ops false st
 · intro o a b st
   have hx:=UI (C:=C) true o a b st;show Lh C (.cond o a b) st=MI (opd C st.env o) (Lh C a) (Lh C b) st;unfold Lh;rw [hx];unfold MI;cases opd C st.env o <;> rfl
end
theorem SF:(type_of% @La.eq_def)/\(type_of% @D7.eq_1)/\(type_of% @D7.eq_2)/\(type_of% @D7.eq_3)/\(type_of% @D7.eq_4)/\(type_of% @D7.eq_5)/\(type_of% @D7.eq_6)/\(type_of% @D7.eq_7)/\(type_of% @D7.eq_8)/\(type_of% @D7.eq_9)/\(type_of% @D7.eq_10)/\(type_of% @D7.eq_11)/\(type_of% @D7.eq_12)/\(type_of% @D7.eq_13)/\(type_of% @D7.eq_14)/\(type_of% @D7.eq_15)/\(type_of% @D6.eq_1)/\(type_of% @D6.eq_2)/\(type_of% @D6.eq_3)/\(type_of% @D6.eq_4)/\(type_of% @D6.eq_5)/\(type_of% @D6.eq_6)/\(type_of% @D6.eq_7)/\(type_of% @D6.eq_8)/\(type_of% @D6.eq_9)/\(type_of% @D6.eq_10)/\(type_of% @D6.eq_11)/\(type_of% @D6.eq_12)/\(type_of% @D6.eq_13)/\(type_of% @D6.eq_14)/\(type_of% @EL.eq_def)/\(type_of% @CJ.eq_def)/\(type_of% @readCells.eq_def)/\(type_of% @Tc.eq_def)/\(type_of% @cu.eq_def)/\(type_of% @Cn.eq_1)/\(type_of% @Cn.eq_2)/\(type_of% @Hz.eq_1)/\(type_of% @Hz.eq_2)/\(type_of% @Ii.eq_1)/\(type_of% @Ii.eq_2)/\(type_of% @K3.eq_def)/\(type_of% @CZ.eq_def)/\(type_of% @Mx.eq_1)/\(type_of% @Mx.eq_2)/\(type_of% @FW.eq_1)/\(type_of% @FW.eq_2)/\(type_of% @Fb.eq_1)/\(type_of% @Fb.eq_2)/\(type_of% @A0.eq_def)/\(type_of% @und.eq_def)/\(type_of% @Ab3):=
 ⟨@La.eq_def,@D7.eq_1,@D7.eq_2,@D7.eq_3,@D7.eq_4,@D7.eq_5,@D7.eq_6,@D7.eq_7,@D7.eq_8,@D7.eq_9,@D7.eq_10,@D7.eq_11,@D7.eq_12,@D7.eq_13,@D7.eq_14,@D7.eq_15,@D6.eq_1,@D6.eq_2,@D6.eq_3,@D6.eq_4,@D6.eq_5,@D6.eq_6,@D6.eq_7,@D6.eq_8,@D6.eq_9,@D6.eq_10,@D6.eq_11,@D6.eq_12,@D6.eq_13,@D6.eq_14,@EL.eq_def,@CJ.eq_def,@readCells.eq_def,@Tc.eq_def,@cu.eq_def,@Cn.eq_1,@Cn.eq_2,@Hz.eq_1,@Hz.eq_2,@Ii.eq_1,@Ii.eq_2,@K3.eq_def,@CZ.eq_def,@Mx.eq_1,@Mx.eq_2,@FW.eq_1,@FW.eq_2,@Fb.eq_1,@Fb.eq_2,@A0.eq_def,@und.eq_def,@Ab3⟩
theorem SG:(type_of% @nc.eq_def)/\(type_of% @ah.eq_def)/\(type_of% @Kg.eq_def)/\(type_of% @GV.eq_def)/\(type_of% @lay.eq_def)/\(type_of% @Aah.{0})/\(type_of% @Aas.{0})/\(type_of% @Aat.{0})/\(type_of% @Aa3.{0})/\(type_of% @Aa6.{0})/\(type_of% @Aaw.{0})/\(type_of% @Aac.{0})/\(type_of% @Aan.{0})/\(type_of% @Aa0.{0})/\(type_of% @Aa2.{0})/\(type_of% @Aa1.{0})/\(type_of% @Aa8)/\(type_of% @Aa9)/\(type_of% @Aa7):=
 ⟨@nc.eq_def,@ah.eq_def,@Kg.eq_def,@GV.eq_def,@lay.eq_def,@Aah,@Aas,@Aat,@Aa3,@Aa6,@Aaw,@Aac,@Aan,@Aa0,@Aa2,@Aa1,@Aa8,@Aa9,@Aa7⟩
theorem SH:(type_of% @I4.eq_def)/\(type_of% @HT.eq_def)/\(type_of% @BK.eq_def)/\(type_of% @laid.eq_def)/\(type_of% @QM.eq_def)/\(type_of% @Dr.eq_def):=
 ⟨@I4.eq_def,@HT.eq_def,@BK.eq_def,@laid.eq_def,@QM.eq_def,@Dr.eq_def⟩
end Go.HH
