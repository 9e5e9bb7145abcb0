/-
  What the law needs, packed: Pure.
-/
import Derived.Laws.Strings
import Derived.Laws.StructEq
import Derived.Test.YthjcaihemgllaaaGreatDoorK5
open Go.Result renaming andThen_ok->Aau
open Go.Sem renaming run_bind->Aav,run_pure->Aax
open Option renaming map_some->Aaw
open Go.Op renaming maxDepth->Aay,equal->Ab0,equalIn->Ab2,unary->Ab4,eqFields->Ab5
open UInt8 renaming ofNat->Aaz
open List renaming eq_nil_of_length_eq_zero->Ab1
open Array renaming getElem_extract->Ab3
open Go.Conv renaming bytesToString->Ab6
open ByteArray renaming ext->Ab7
namespace Go.HH
open Go Go.RowKit
section
variable {C:Cfg} {D:List Deferred} {B:Nat} {T:Nat->Prop} {S:AJ} {M:List Nat} {n:Nat} {st:St} {a:Act} {w:World}
theorem Le {t:TypeId} {cs:List PV} {off:Nat} {p:PV} (h:BG C t cs off=some p) {vs:Array Value} (l:vs.size=cs.length)
 (h1:∀ i (h:i < vs.size),(vs[i]).oneCell'=true) (hr:∀ i (h:i < cs.length) (h':i < vs.size),Rep S M cs[i] vs[i]) :
 ∃ v,(part t vs off).run C.P w=.ok v w/\Rep S M p v:=by
 unfold BG readCells at h;cases hd:C.P.underlying t with
 | none=>simp [hd] at h
 | some d=>
  simp only [hd] at h;unfold part;simp only [Aav,L5 hd,Aau];split at h
  · rename_i ht
    rw [if_pos ht];cases hz:tSize C t with
    | none=>simp [hz] at h
    | some k=>
     obtain ⟨i,hi,rfl⟩:=DO hz;simp only [hz] at h;split at h
     · rename_i hle
       injection h with h
       subst h;simp only [List.length_drop] at hle;refine ⟨.agg (vs.extract off (off+i.size)),?_,?_⟩
       · simp only [Aav,Ct hi,Aau,Aax]
       · refine .agg _ _ (by simp;omega) (fun j hj=>?_) (fun j hj ir=>?_)
         · simp only [Ab3];exact h1 _ _
         · simp only [List.getElem_map,List.getElem_take,List.getElem_drop,Ab3]
           exact (hr _ _ _).ro
     · cases h
  · rename_i ht
    rw [if_neg ht];cases G1:cs.drop off with
    | nil=>simp [G1] at h
    | cons c r=>
     simp only [G1,List.head?_cons,Aaw,Option.some.injEq] at h;subst h
     have BC:off < cs.length:=by
      by_cases hx:off < cs.length
      · exact hx
      · rw [List.drop_eq_nil_of_le (by omega)] at G1;cases G1
     have hc:cs[off]=c:=by
      have:=List.drop_eq_getElem_cons BC;rw [G1] at this;injection this with this _;exact this.symm
     have hv:vs[off]?=some (vs[off]'(by omega)):=by simp [l,BC]
     refine ⟨vs[off]'(by omega),by simp [hv],?_⟩;have:=hr off BC (by omega);rw [hc] at this;exact this.ro
theorem iQ {op:BinOp} {k:IntKind} {x y:Int} {p:PV} (t:TypeId) (Bb:¬ (op=.shl\/op=.shr)) (h:D5 op k x y=some p) :
 ∃ v,(binOp op t (.int k x) (.int k y)).run C.P w=.ok v w/\Rep S M p v:=by
 cases op
 case shl=>simp at Bb
 case shr=>simp at Bb
 case quo=>
  simp only [D5] at h;split at h
  · cases h
  · rename_i hy
    injection h with h
    subst h;exact ⟨_,by simp only [binOp,Op.intDiv,ne_eq,not_true_eq_false,if_false,if_neg hy,Aax],.int _ _⟩
 case rem=>
  simp only [D5] at h;split at h
  · cases h
  · rename_i hy
    injection h with h
    subst h;exact ⟨_,by simp only [binOp,Op.intDiv,ne_eq,not_true_eq_false,if_false,if_neg hy,Aax],.int _ _⟩
 all_goals (simp only [D5,LI,Aaw,Option.some.injEq] at h;subst h)
 case add | sub | mul=>exact ⟨_,by simp only [binOp,ne_eq,not_true_eq_false,if_false];rfl,.int _ _⟩
 case and | or | xor | andNot=>exact ⟨_,by simp only [binOp,ne_eq,not_true_eq_false,if_false];rfl,.int _ _⟩
 all_goals exact ⟨_,by simp only [binOp,ne_eq,not_true_eq_false,if_false];rfl,.bool _⟩
theorem ab {op:BinOp} {k k':IntKind} {x y:Int} {p:PV} (t:TypeId) (Bb:op=.shl\/op=.shr) (h:Kg op k x y=some p) :
 ∃ v,(binOp op t (.int k x) (.int k' y)).run C.P w=.ok v w/\Rep S M p v:=by
 unfold Kg at h;split at h
 · cases h
 · rename_i hy
   rcases Bb with rfl | rfl <;> simp only [Option.some.injEq] at h <;> subst h
   · exact ⟨_,by simp only [binOp,Op.shift,if_neg hy];rfl,.int _ _⟩
   · exact ⟨_,by simp only [binOp,Op.shift,if_neg hy];rfl,.int _ _⟩
theorem VZ (x y:List UInt8):(⟨x.toArray⟩:ByteArray)++⟨y.toArray⟩=⟨(x++y).toArray⟩:=by
 apply Ab7;simp
theorem I8 (x:List UInt8):(⟨x.toArray⟩:ByteArray).toList=x:=by
 rw [ByteArray.toList_eq]
theorem iR {op:BinOp} {x y:List UInt8} {p:PV} (t:TypeId) (h:ED op x y=some p) :
 ∃ v,(binOp op t (.string ⟨x.toArray⟩) (.string ⟨y.toArray⟩)).run C.P w=.ok v w/\Rep S M p v:=by
 cases op <;> simp only [ED,Option.some.injEq,reduceCtorEq] at h
 case add=>
  split at h
  · rename_i hl
    injection h with h
    subst h;refine ⟨_,?_,.str _⟩
    have I4:¬ ((((⟨x.toArray⟩:ByteArray).size+(⟨y.toArray⟩:ByteArray).size:Nat):Int) > IntKind.i64.max):=by
     unfold Z6 at hl;simp [ByteArray.size,IntKind.max,IntKind.signed,IntKind.bits];omega
    simp only [binOp,Op.stringOp,if_neg I4,Aax];rw [VZ]
  · cases h
 all_goals (subst h;exact ⟨_,by simp only [binOp,Op.stringOp,I8,Aax],.bool _⟩)
theorem HV {d dd:Nat} (ih:∀ (t:TypeId) (x y:PV) (vx vy:Value) (r:Bool),Mx C d t x y=some r->Rep S M x vx->Rep S M y vy->(Ab2 dd t vx vy).run C.P w=.ok r w)
 {xs ys:List PV} {ux uy:Array Value} (lx:ux.size=xs.length) (vP:∀ i (h:i < ux.size),(ux[i]).oneCell'=true) (vQ:∀ i (h:i < xs.length) (h':i < ux.size),Rep S M xs[i] ux[i])
 (ly:uy.size=ys.length) (vR:∀ i (h:i < uy.size),(uy[i]).oneCell'=true) (vS:∀ i (h:i < ys.length) (h':i < uy.size),Rep S M ys[i] uy[i]) (r:Bool) :
 ∀ fs:List Field,GV C (Mx C d) xs ys fs=some r->(Ab5 dd ux uy fs).run C.P w=.ok r w
 | [],h=>by simp only [GV,Option.some.injEq] at h;subst h;simp [Ab5]
 | f :: fs,h=>by
  unfold GV at h;unfold Ab5;split at h
  · rename_i hn
    rw [if_pos hn];split at h
    · rename_i p q hp hq
      obtain ⟨v,hv,rv⟩:=Le (w:=w) hp lx vP vQ;obtain ⟨u,hu,ru⟩:=Le (w:=w) hq ly vR vS;simp only [Aav,hv,hu,Aau];split at h
      · rename_i he
        rw [ih _ _ _ _ _ _ he rv ru];simpa using HV ih lx vP vQ ly vR vS r fs h
      · rename_i he
        rw [ih _ _ _ _ _ _ h rv ru];have hr:r=false:=by cases r <;> simp_all
        subst hr;simp
    · cases h
  · rename_i hn
    rw [if_neg hn];exact HV ih lx vP vQ ly vR vS r fs h
theorem V0:∀ (d dd:Nat) (t:TypeId) (x y:PV) (vx vy:Value) (r:Bool),d<=dd->Mx C d t x y=some r->Rep S M x vx->Rep S M y vy ->
 (Ab2 dd t vx vy).run C.P w=.ok r w
 | 0,_,_,_,_,_,_,_,_,h,_,_=>by simp [Mx] at h
 | d+1,dd,t,x,y,vx,vy,r,hd,h,hx,hy=>by
  obtain ⟨dd,rfl⟩:∃ k,dd=k+1:=⟨dd - 1,by omega⟩;unfold Mx at h;split at h
  · rename_i ht;rw [hx.bool_inv,hy.bool_inv];injection h with h;subst h;exact run_equalIn_bool' w dd t _ _ ht
  · rename_i ht
    rw [hx.int_inv,hy.int_inv];split at h
    · rename_i hk;injection h with h;subst h;subst hk;exact run_equalIn_int w dd t _ _ _ _ ht
    · cases h
  · rename_i ht;rw [hx.str_inv,hy.str_inv];injection h with h;subst h
    rw [run_equalIn_string w dd t _ _ ht,I8,I8]
  · rename_i fields xs ys ht
    obtain ⟨ux,rfl,lx,vP,vQ⟩:=hx.agg_inv;obtain ⟨uy,rfl,ly,vR,vS⟩:=hy.agg_inv;split at h
    · cases h
    · rename_i EC
      have hf:C.P.fieldsOf t=fields:=by simp [Program.fieldsOf,ht]
      rw [run_equalIn_struct w dd t ux uy (by rw [hf];exact ht) (by simpa using EC),hf];exact HV (fun t x y vx vy r he ha hb=>V0 d dd t x y vx vy r (by omega) he ha hb) lx vP vQ ly vR vS r _ h
  · cases h
theorem Lf (d:Nat) {t e:TypeId} (ht:C.P.underlying t=some (.pointer e)) (ad:Option Addr):(Ab2 (d+1) t (.pointer ad) (.pointer none)).run C.P w=.ok ad.isNone w:=by
 unfold Ab2;simp only [Aav,AH ht,Aau];cases ad <;> rfl
theorem iS {op:BinOp} {t:TypeId} {x y:PV} {vx vy:Value} {p:PV} (xo yo:Operand) (h:D6 C op t x y=some p) (hx:Rep S M x vx) (hy:Rep S M y vy) :
 ∃ v,(do eqGuard op t xo yo vx vy;binOp op t vx vy:Sem Value).run C.P w=.ok v w/\Rep S M p v:=by
 have noGuard:∀ v u:Value,(∀ z,v≠.agg z)->v≠.nilIface->(eqGuard op t xo yo v u).run C.P w=.ok () w:=by
  intro v u h1 h2;cases op <;> simp [eqGuard] <;> (split <;> simp_all)
 unfold D6 at h;split at h
 · rename_i k a k' b
   rw [hx.int_inv,hy.int_inv];rw [Aav,noGuard _ _ (by simp) (by simp),Aau];split at h
   · rename_i Bb;exact ab t Bb h
   · rename_i Bb
     split at h
     · rename_i hk;subst hk;exact iQ t Bb h
     · cases h
 · rw [hx.str_inv,hy.str_inv,Aav,noGuard _ _ (by simp) (by simp),Aau]
   exact iR t h
 · rename_i b b'
   rw [hx.bool_inv,hy.bool_inv,Aav,noGuard _ _ (by simp) (by simp),Aau];split at h
   · rename_i ht;injection h with h;subst h
     exact ⟨_,by simp [binOp,Ab0,Aay,run_equalIn_bool' w 9999 t _ _ ht],.bool _⟩
   · rename_i ht;injection h with h;subst h
     exact ⟨_,by simp [binOp,Ab0,Aay,run_equalIn_bool' w 9999 t _ _ ht],.bool _⟩
   · cases h
 · rename_i xs ys
   obtain ⟨ux,rfl,lx,vP,vQ⟩:=hx.agg_inv;obtain ⟨uy,rfl,ly,vR,vS⟩:=hy.agg_inv;split at h
   · cases h
   · rename_i hg
     rw [Aav,run_eqGuard_agg w op t xo yo ux uy (by simpa using hg),Aau];split at h
     · cases he:Mx C 100 t (.agg xs) (.agg ys) with
       | none=>simp [he] at h
       | some r=>
        simp only [he,Aaw,Option.some.injEq] at h;subst h;rw [run_eql_struct,V0 100 10000 t _ _ _ _ r (by omega) he hx hy];exact ⟨_,rfl,.bool _⟩
     · cases he:Mx C 100 t (.agg xs) (.agg ys) with
       | none=>simp [he] at h
       | some r=>
        simp only [he,Aaw,Option.some.injEq] at h;subst h;rw [run_neq_struct,V0 100 10000 t _ _ _ _ r (by omega) he hx hy];exact ⟨_,rfl,.bool _⟩
     · cases h
 · obtain ⟨b,hm,rfl⟩:=hx.bp_inv
   rw [hy.nilp_inv,Aav,noGuard _ _ (by simp) (by simp),Aau];split at h
   · rename_i ht;injection h with h;subst h
     exact ⟨_,by simp only [binOp,Ab0,Aay,Aav,Lf 9999 ht,Aau];rfl,.bool _⟩
   · rename_i ht;injection h with h;subst h
     exact ⟨_,by simp only [binOp,Ab0,Aay,Aav,Lf 9999 ht,Aau];rfl,.bool _⟩
   · cases h
 · rw [hx.nilp_inv,hy.nilp_inv,Aav,noGuard _ _ (by simp) (by simp),Aau]
   split at h
   · rename_i ht;injection h with h;subst h
     exact ⟨_,by simp only [binOp,Ab0,Aay,Aav,Lf 9999 ht,Aau];rfl,.bool _⟩
   · rename_i ht;injection h with h;subst h
     exact ⟨_,by simp only [binOp,Ab0,Aay,Aav,Lf 9999 ht,Aau];rfl,.bool _⟩
   · cases h
 · cases h
theorem nV {op:UnOp} {x:PV} {vx:Value} {p:PV} (h:nQ op x=some p) (hx:Rep S M x vx):∃ v,(Ab4 op vx).run C.P w=.ok v w/\Rep S M p v:=by
 unfold nQ at h;split at h
 · rw [hx.int_inv]
   split at h
   · injection h with h;subst h;exact ⟨_,by simp only [Ab4,Op.intArith];rfl,.int _ _⟩
   · simp only [LI,Aaw,Option.some.injEq] at h;subst h;exact ⟨_,by simp only [Ab4,Op.intBits];rfl,.int _ _⟩
   · cases h
 · rw [hx.bool_inv]
   split at h
   · injection h with h;subst h;exact ⟨_,by simp only [Ab4];rfl,.bool _⟩
   · cases h
 · cases h
theorem O':∀ (xs:List PV) (bs:List UInt8),bytesOf xs=some bs->flat xs=xs/\bs.length=xs.length /\
 ∀ i (h:i < xs.length) (h':i < bs.length),∃ m:Int,xs[i]=.int .u8 m/\bs[i]=Aaz m.toNat
 | [],bs,h=>by simp only [bytesOf,Option.some.injEq] at h;subst h;exact ⟨rfl,rfl,fun i h=>by simp at h⟩
 | x :: r,bs,h=>by
  unfold bytesOf at h;split at h
  · simp_all
  · rename_i k r' hx
    injection hx with rN rO
    subst rN;subst rO;cases hr:bytesOf r with
    | none=>simp [hr] at h
    | some b'=>
     simp only [hr,Aaw,Option.some.injEq] at h;subst h;obtain ⟨h1,h2,h3⟩:=O' r b' hr;refine ⟨?_,by simp [h2],fun i hi Dm=>?_⟩
     · simp only [flat,List.flatMap_cons,PV.cells]
       simp only [flat] at h1;rw [h1];rfl
     · cases i with
       | zero=>exact ⟨k,rfl,rfl⟩
       | succ i=>simpa using h3 i (by simpa using hi) (by simpa using Dm)
  · cases h
theorem ae (l:List UInt8) (b:UInt8):(⟨l.toArray⟩:ByteArray).push b=⟨(l++[b]).toArray⟩:=by
 apply Ab7;simp [ByteArray.push]
theorem Pa:∀ (vs:List Value) (bs acc:List UInt8),vs.length=bs.length->(∀ i (h:i < vs.length) (h':i < bs.length),∃ m:Int,vs[i]=.int .u8 m/\bs[i]=Aaz m.toNat) ->
 (forIn vs (⟨acc.toArray⟩:ByteArray) fun c s=>(do
  let .int .u8 m:=c | stuck "bytesToString: byte expected"
  pure (ForInStep.yield (s.push (Aaz m.toNat))):Sem (ForInStep ByteArray))).run C.P w=.ok ⟨(acc++bs).toArray⟩ w
 | [],bs,acc,hl,_=>by
  have:bs=[]:=Ab1 hl.symm;subst this;simp
 | v :: r,bs,acc,hl,h=>by
  cases bs with
  | nil=>simp at hl
  | cons b bs=>
   obtain ⟨m,hm,hb⟩:=h 0 (by simp) (by simp);simp only [List.getElem_cons_zero] at hm hb;subst hm;subst hb
   have ih:=Pa r bs (acc++[Aaz m.toNat]) (by simpa using hl) (fun i hi Dm=>by
    have:=h (i+1) (by simpa using hi) (by simpa using Dm);simp only [List.getElem_cons_succ] at this;exact this)
   simp only [List.forIn_cons,Aav,Aax,Aau,ae];rw [ih];simp
theorem fg {s d:TypeId} {x:PV} {vx:Value} {p:PV} (h:Gh C s d x=some p) (hx:Rep S M x vx) (hS:∀ b o v,S b o=some v->w.cell? ⟨b,o,none⟩=some v) :
 ∃ v,(convert s d vx).run C.P w=.ok v w/\Rep S M p v:=by
 unfold Gh at h;split at h
 · rename_i ds k k' m hs hd
   injection h with h;subst h
   rw [hx.int_inv];refine ⟨_,?_,.int _ _⟩;simp only [convert,Aav,AH hs,AH hd,Aau];cases ds <;> rfl
 · rename_i ds b hs hd
   injection h with h;subst h
   rw [hx.str_inv];refine ⟨_,?_,.str _⟩;simp only [convert,Aav,AH hs,AH hd,Aau];cases ds <;> rfl
 · rename_i hs hd hnot
   split at h
   · rename_i xs he rP
     cases hb:bytesOf xs with
     | none=>simp [hb] at h
     | some bs=>
      simp only [hb,Aaw,Option.some.injEq] at h;subst h;obtain ⟨ad,cap,hv,Kc,CU⟩:=hx.elems_inv rP;obtain ⟨hf,hlen,XK⟩:=O' xs bs hb;rw [hv];refine ⟨_,?_,.str bs⟩;simp only [convert,Aav,AH hs,AH hd,AH he,Aau];rcases CU with rfl | ⟨b,o,rfl,_,f,h1,h2,h3⟩
      · have:bs=[]:=Ab1 (by simpa using hlen)
        subst this;cases ad with
        | none=>rfl
        | some ad=>simp [Ab6,loadCells,loadCellsFrom];rfl
      · rw [hf] at h1 h2 h3
        have hl:=run_loadCells (P:=C.P) w ⟨b,o,none⟩ xs.length f (fun j hj=>by rw [DU];exact hS _ _ _ (h1 j hj));simp only [Ab6,Aav,hl,Aau]
        have key:=Pa (C:=C) (w:=w) ((List.range xs.length).map f) bs [] (by simp [hlen]) (fun i hi Dm=>by
         simp only [List.length_map,List.length_range] at hi;obtain ⟨m,hm,hb⟩:=XK i hi Dm;refine ⟨m,?_,hb⟩;have:=h3 i hi;rw [hm] at this;simpa using this.int_inv)
        simp only [List.nil_append] at key;have e0:ByteArray.empty=(⟨([]:List UInt8).toArray⟩:ByteArray):=rfl;rw [<- Array.forIn_toList];simp only [e0]
        first | rw [key] | (erw [key])
        rfl
   · cases h
 · cases h
end
end Go.HH
