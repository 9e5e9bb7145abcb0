/-
  What the law needs, packed: Pure.
-/
import Derived.Laws.Strings
import Derived.Laws.StructEq
import Derived.Test.YthjcaihemgllaaaGreatDoorJ5
open Go.Result renaming andThen_ok->Aa0
open Go.Sem renaming run_bind->Aa1,run_pure->Aa3
open Option renaming map_some->Aa2
open Go.Op renaming maxDepth->Aa4,equal->Aa6,equalIn->Aa8,unary->Aaa,eqFields->Aab
open UInt8 renaming ofNat->Aa5
open List renaming eq_nil_of_length_eq_zero->Aa7
open Array renaming getElem_extract->Aa9
open Go.Conv renaming bytesToString->Aac
open ByteArray renaming ext->Aad
namespace Go.HH
open Go Go.RowKit
section
variable {C:Cfg} {D:List Deferred} {B:Nat} {T:Nat->Prop} {S:AI} {M:List Nat} {n:Nat} {st:St} {a:Act} {w:World}
theorem K6 {t:TypeId} {cs:List PV} {off:Nat} {p:PV} (h:BG C t cs off=some p) {vs:Array Value} (l:vs.size=cs.length)
 (h1:∀ i (h:i < vs.size),(vs[i]).oneCell'=true) (hr:∀ i (h:i < cs.length) (h':i < vs.size),Rep S M cs[i] vs[i]) :
 ∃ v,(part t vs off).run C.P w=.ok v w/\Rep S M p v:=by
 unfold BG readCells at h;cases hd:C.P.underlying t with
 | none=>simp [hd] at h
 | some d=>
  simp only [hd] at h;unfold part;simp only [Aa1,LW hd,Aa0];split at h
  · rename_i ht
    rw [if_pos ht];cases hz:tSize C t with
    | none=>simp [hz] at h
    | some k=>
     obtain ⟨i,hi,rfl⟩:=DP hz;simp only [hz] at h;split at h
     · rename_i hle
       injection h with h
       subst h;simp only [List.length_drop] at hle;refine ⟨.agg (vs.extract off (off+i.size)),?_,?_⟩
       · simp only [Aa1,Cs hi,Aa0,Aa3]
       · refine .agg _ _ (by simp;omega) (fun j hj=>?_) (fun j hj gT=>?_)
         · simp only [Aa9];exact h1 _ _
         · simp only [List.getElem_map,List.getElem_take,List.getElem_drop,Aa9]
           exact (hr _ _ _).ro
     · cases h
  · rename_i ht
    rw [if_neg ht];cases IU:cs.drop off with
    | nil=>simp [IU] at h
    | cons c r=>
     simp only [IU,List.head?_cons,Aa2,Option.some.injEq] at h;subst h
     have Bz:off < cs.length:=by
      by_cases hx:off < cs.length
      · exact hx
      · rw [List.drop_eq_nil_of_le (by omega)] at IU;cases IU
     have hc:cs[off]=c:=by
      have:=List.drop_eq_getElem_cons Bz;rw [IU] at this;injection this with this _;exact this.symm
     have hv:vs[off]?=some (vs[off]'(by omega)):=by simp [l,Bz]
     refine ⟨vs[off]'(by omega),by simp [hv],?_⟩;have:=hr off Bz (by omega);rw [hc] at this;exact this.ro
theorem im {op:BinOp} {k:IntKind} {x y:Int} {p:PV} (t:TypeId) (Bc:¬ (op=.shl\/op=.shr)) (h:D6 op k x y=some p) :
 ∃ v,(binOp op t (.int k x) (.int k y)).run C.P w=.ok v w/\Rep S M p v:=by
 cases op
 case shl=>simp at Bc
 case shr=>simp at Bc
 case quo=>
  simp only [D6] at h;split at h
  · cases h
  · rename_i hy
    injection h with h
    subst h;exact ⟨_,by simp only [binOp,Op.intDiv,ne_eq,not_true_eq_false,if_false,if_neg hy,Aa3],.int _ _⟩
 case rem=>
  simp only [D6] at h;split at h
  · cases h
  · rename_i hy
    injection h with h
    subst h;exact ⟨_,by simp only [binOp,Op.intDiv,ne_eq,not_true_eq_false,if_false,if_neg hy,Aa3],.int _ _⟩
 all_goals (simp only [D6,LA,Aa2,Option.some.injEq] at h;subst h)
 case add | sub | mul=>exact ⟨_,by simp only [binOp,ne_eq,not_true_eq_false,if_false];rfl,.int _ _⟩
 case and | or | xor | andNot=>exact ⟨_,by simp only [binOp,ne_eq,not_true_eq_false,if_false];rfl,.int _ _⟩
 all_goals exact ⟨_,by simp only [binOp,ne_eq,not_true_eq_false,if_false];rfl,.bool _⟩
theorem ZP {op:BinOp} {k k':IntKind} {x y:Int} {p:PV} (t:TypeId) (Bc:op=.shl\/op=.shr) (h:J9 op k x y=some p) :
 ∃ v,(binOp op t (.int k x) (.int k' y)).run C.P w=.ok v w/\Rep S M p v:=by
 unfold J9 at h;split at h
 · cases h
 · rename_i hy
   rcases Bc with rfl | rfl <;> simp only [Option.some.injEq] at h <;> subst h
   · exact ⟨_,by simp only [binOp,Op.shift,if_neg hy];rfl,.int _ _⟩
   · exact ⟨_,by simp only [binOp,Op.shift,if_neg hy];rfl,.int _ _⟩
theorem VM (x y:List UInt8):(⟨x.toArray⟩:ByteArray)++⟨y.toArray⟩=⟨(x++y).toArray⟩:=by
 apply Aad;simp
theorem IY (x:List UInt8):(⟨x.toArray⟩:ByteArray).toList=x:=by
 rw [ByteArray.toList_eq]
theorem iq {op:BinOp} {x y:List UInt8} {p:PV} (t:TypeId) (h:EB op x y=some p) :
 ∃ v,(binOp op t (.string ⟨x.toArray⟩) (.string ⟨y.toArray⟩)).run C.P w=.ok v w/\Rep S M p v:=by
 cases op <;> simp only [EB,Option.some.injEq,reduceCtorEq] at h
 case add=>
  split at h
  · rename_i hl
    injection h with h
    subst h;refine ⟨_,?_,.str _⟩
    have IV:¬ ((((⟨x.toArray⟩:ByteArray).size+(⟨y.toArray⟩:ByteArray).size:Nat):Int) > IntKind.i64.max):=by
     unfold ZJ at hl;simp [ByteArray.size,IntKind.max,IntKind.signed,IntKind.bits];omega
    simp only [binOp,Op.stringOp,if_neg IV,Aa3];rw [VM]
  · cases h
 all_goals (subst h;exact ⟨_,by simp only [binOp,Op.stringOp,IY,Aa3],.bool _⟩)
theorem HR {d dd:Nat} (ih:∀ (t:TypeId) (x y:PV) (vx vy:Value) (r:Bool),Mu C d t x y=some r->Rep S M x vx->Rep S M y vy->(Aa8 dd t vx vy).run C.P w=.ok r w)
 {xs ys:List PV} {ux uy:Array Value} (lx:ux.size=xs.length) (uZ:∀ i (h:i < ux.size),(ux[i]).oneCell'=true) (u6:∀ i (h:i < xs.length) (h':i < ux.size),Rep S M xs[i] ux[i])
 (ly:uy.size=ys.length) (u7:∀ i (h:i < uy.size),(uy[i]).oneCell'=true) (vb:∀ i (h:i < ys.length) (h':i < uy.size),Rep S M ys[i] uy[i]) (r:Bool) :
 ∀ fs:List Field,GO C (Mu C d) xs ys fs=some r->(Aab dd ux uy fs).run C.P w=.ok r w
 | [],h=>by simp only [GO,Option.some.injEq] at h;subst h;simp [Aab]
 | f :: fs,h=>by
  unfold GO at h;unfold Aab;split at h
  · rename_i hn
    rw [if_pos hn];split at h
    · rename_i p q hp hq
      obtain ⟨v,hv,rv⟩:=K6 (w:=w) hp lx uZ u6;obtain ⟨u,hu,ru⟩:=K6 (w:=w) hq ly u7 vb;simp only [Aa1,hv,hu,Aa0];split at h
      · rename_i he
        rw [ih _ _ _ _ _ _ he rv ru];simpa using HR ih lx uZ u6 ly u7 vb r fs h
      · rename_i he
        rw [ih _ _ _ _ _ _ h rv ru];have hr:r=false:=by cases r <;> simp_all
        subst hr;simp
    · cases h
  · rename_i hn
    rw [if_neg hn];exact HR ih lx uZ u6 ly u7 vb r fs h
theorem VN:∀ (d dd:Nat) (t:TypeId) (x y:PV) (vx vy:Value) (r:Bool),d<=dd->Mu C d t x y=some r->Rep S M x vx->Rep S M y vy ->
 (Aa8 dd t vx vy).run C.P w=.ok r w
 | 0,_,_,_,_,_,_,_,_,h,_,_=>by simp [Mu] at h
 | d+1,dd,t,x,y,vx,vy,r,hd,h,hx,hy=>by
  obtain ⟨dd,rfl⟩:∃ k,dd=k+1:=⟨dd - 1,by omega⟩;unfold Mu at h;split at h
  · rename_i ht;rw [hx.bool_inv,hy.bool_inv];injection h with h;subst h;exact run_equalIn_bool' w dd t _ _ ht
  · rename_i ht
    rw [hx.int_inv,hy.int_inv];split at h
    · rename_i hk;injection h with h;subst h;subst hk;exact run_equalIn_int w dd t _ _ _ _ ht
    · cases h
  · rename_i ht;rw [hx.str_inv,hy.str_inv];injection h with h;subst h
    rw [run_equalIn_string w dd t _ _ ht,IY,IY]
  · rename_i fields xs ys ht
    obtain ⟨ux,rfl,lx,uZ,u6⟩:=hx.agg_inv;obtain ⟨uy,rfl,ly,u7,vb⟩:=hy.agg_inv;split at h
    · cases h
    · rename_i Ez
      have hf:C.P.fieldsOf t=fields:=by simp [Program.fieldsOf,ht]
      rw [run_equalIn_struct w dd t ux uy (by rw [hf];exact ht) (by simpa using Ez),hf];exact HR (fun t x y vx vy r he ha hb=>VN d dd t x y vx vy r (by omega) he ha hb) lx uZ u6 ly u7 vb r _ h
  · cases h
theorem K7 (d:Nat) {t e:TypeId} (ht:C.P.underlying t=some (.pointer e)) (ad:Option Addr):(Aa8 (d+1) t (.pointer ad) (.pointer none)).run C.P w=.ok ad.isNone w:=by
 unfold Aa8;simp only [Aa1,AH ht,Aa0];cases ad <;> rfl
theorem ir {op:BinOp} {t:TypeId} {x y:PV} {vx vy:Value} {p:PV} (xo yo:Operand) (h:D7 C op t x y=some p) (hx:Rep S M x vx) (hy:Rep S M y vy) :
 ∃ v,(do eqGuard op t xo yo vx vy;binOp op t vx vy:Sem Value).run C.P w=.ok v w/\Rep S M p v:=by
 have noGuard:∀ v u:Value,(∀ z,v≠.agg z)->v≠.nilIface->(eqGuard op t xo yo v u).run C.P w=.ok () w:=by
  intro v u h1 h2;cases op <;> simp [eqGuard] <;> (split <;> simp_all)
 unfold D7 at h;split at h
 · rename_i k a k' b
   rw [hx.int_inv,hy.int_inv];rw [Aa1,noGuard _ _ (by simp) (by simp),Aa0];split at h
   · rename_i Bc;exact ZP t Bc h
   · rename_i Bc
     split at h
     · rename_i hk;subst hk;exact im t Bc h
     · cases h
 · rw [hx.str_inv,hy.str_inv,Aa1,noGuard _ _ (by simp) (by simp),Aa0]
   exact iq t h
 · rename_i b b'
   rw [hx.bool_inv,hy.bool_inv,Aa1,noGuard _ _ (by simp) (by simp),Aa0];split at h
   · rename_i ht;injection h with h;subst h
     exact ⟨_,by simp [binOp,Aa6,Aa4,run_equalIn_bool' w 9999 t _ _ ht],.bool _⟩
   · rename_i ht;injection h with h;subst h
     exact ⟨_,by simp [binOp,Aa6,Aa4,run_equalIn_bool' w 9999 t _ _ ht],.bool _⟩
   · cases h
 · rename_i xs ys
   obtain ⟨ux,rfl,lx,uZ,u6⟩:=hx.agg_inv;obtain ⟨uy,rfl,ly,u7,vb⟩:=hy.agg_inv;split at h
   · cases h
   · rename_i hg
     rw [Aa1,run_eqGuard_agg w op t xo yo ux uy (by simpa using hg),Aa0];split at h
     · cases he:Mu C 100 t (.agg xs) (.agg ys) with
       | none=>simp [he] at h
       | some r=>
        simp only [he,Aa2,Option.some.injEq] at h;subst h;rw [run_eql_struct,VN 100 10000 t _ _ _ _ r (by omega) he hx hy];exact ⟨_,rfl,.bool _⟩
     · cases he:Mu C 100 t (.agg xs) (.agg ys) with
       | none=>simp [he] at h
       | some r=>
        simp only [he,Aa2,Option.some.injEq] at h;subst h;rw [run_neq_struct,VN 100 10000 t _ _ _ _ r (by omega) he hx hy];exact ⟨_,rfl,.bool _⟩
     · cases h
 · obtain ⟨b,hm,rfl⟩:=hx.bp_inv
   rw [hy.nilp_inv,Aa1,noGuard _ _ (by simp) (by simp),Aa0];split at h
   · rename_i ht;injection h with h;subst h
     exact ⟨_,by simp only [binOp,Aa6,Aa4,Aa1,K7 9999 ht,Aa0];rfl,.bool _⟩
   · rename_i ht;injection h with h;subst h
     exact ⟨_,by simp only [binOp,Aa6,Aa4,Aa1,K7 9999 ht,Aa0];rfl,.bool _⟩
   · cases h
 · rw [hx.nilp_inv,hy.nilp_inv,Aa1,noGuard _ _ (by simp) (by simp),Aa0]
   split at h
   · rename_i ht;injection h with h;subst h
     exact ⟨_,by simp only [binOp,Aa6,Aa4,Aa1,K7 9999 ht,Aa0];rfl,.bool _⟩
   · rename_i ht;injection h with h;subst h
     exact ⟨_,by simp only [binOp,Aa6,Aa4,Aa1,K7 9999 ht,Aa0];rfl,.bool _⟩
   · cases h
 · cases h
theorem nj {op:UnOp} {x:PV} {vx:Value} {p:PV} (h:nc op x=some p) (hx:Rep S M x vx):∃ v,(Aaa op vx).run C.P w=.ok v w/\Rep S M p v:=by
 unfold nc at h;split at h
 · rw [hx.int_inv]
   split at h
   · injection h with h;subst h;exact ⟨_,by simp only [Aaa,Op.intArith];rfl,.int _ _⟩
   · simp only [LA,Aa2,Option.some.injEq] at h;subst h;exact ⟨_,by simp only [Aaa,Op.intBits];rfl,.int _ _⟩
   · cases h
 · rw [hx.bool_inv]
   split at h
   · injection h with h;subst h;exact ⟨_,by simp only [Aaa];rfl,.bool _⟩
   · cases h
 · cases h
theorem OZ:∀ (xs:List PV) (bs:List UInt8),bytesOf xs=some bs->flat xs=xs/\bs.length=xs.length /\
 ∀ i (h:i < xs.length) (h':i < bs.length),∃ m:Int,xs[i]=.int .u8 m/\bs[i]=Aa5 m.toNat
 | [],bs,h=>by simp only [bytesOf,Option.some.injEq] at h;subst h;exact ⟨rfl,rfl,fun i h=>by simp at h⟩
 | x :: r,bs,h=>by
  unfold bytesOf at h;split at h
  · simp_all
  · rename_i k r' hx
    injection hx with qZ q8
    subst qZ;subst q8;cases hr:bytesOf r with
    | none=>simp [hr] at h
    | some b'=>
     simp only [hr,Aa2,Option.some.injEq] at h;subst h;obtain ⟨h1,h2,h3⟩:=OZ r b' hr;refine ⟨?_,by simp [h2],fun i hi Dp=>?_⟩
     · simp only [flat,List.flatMap_cons,PV.cells]
       simp only [flat] at h1;rw [h1];rfl
     · cases i with
       | zero=>exact ⟨k,rfl,rfl⟩
       | succ i=>simpa using h3 i (by simpa using hi) (by simpa using Dp)
  · cases h
theorem ZQ (l:List UInt8) (b:UInt8):(⟨l.toArray⟩:ByteArray).push b=⟨(l++[b]).toArray⟩:=by
 apply Aad;simp [ByteArray.push]
theorem O0:∀ (vs:List Value) (bs acc:List UInt8),vs.length=bs.length->(∀ i (h:i < vs.length) (h':i < bs.length),∃ m:Int,vs[i]=.int .u8 m/\bs[i]=Aa5 m.toNat) ->
 (forIn vs (⟨acc.toArray⟩:ByteArray) fun c s=>(do
  let .int .u8 m:=c | stuck "bytesToString: byte expected"
  pure (ForInStep.yield (s.push (Aa5 m.toNat))):Sem (ForInStep ByteArray))).run C.P w=.ok ⟨(acc++bs).toArray⟩ w
 | [],bs,acc,hl,_=>by
  have:bs=[]:=Aa7 hl.symm;subst this;simp
 | v :: r,bs,acc,hl,h=>by
  cases bs with
  | nil=>simp at hl
  | cons b bs=>
   obtain ⟨m,hm,hb⟩:=h 0 (by simp) (by simp);simp only [List.getElem_cons_zero] at hm hb;subst hm;subst hb
   have ih:=O0 r bs (acc++[Aa5 m.toNat]) (by simpa using hl) (fun i hi Dp=>by
    have:=h (i+1) (by simpa using hi) (by simpa using Dp);simp only [List.getElem_cons_succ] at this;exact this)
   simp only [List.forIn_cons,Aa1,Aa3,Aa0,ZQ];rw [ih];simp
theorem eG {s d:TypeId} {x:PV} {vx:Value} {p:PV} (h:Gh C s d x=some p) (hx:Rep S M x vx) (hS:∀ b o v,S b o=some v->w.cell? ⟨b,o,none⟩=some v) :
 ∃ v,(convert s d vx).run C.P w=.ok v w/\Rep S M p v:=by
 unfold Gh at h;split at h
 · rename_i ds k k' m hs hd
   injection h with h;subst h
   rw [hx.int_inv];refine ⟨_,?_,.int _ _⟩;simp only [convert,Aa1,AH hs,AH hd,Aa0];cases ds <;> rfl
 · rename_i ds b hs hd
   injection h with h;subst h
   rw [hx.str_inv];refine ⟨_,?_,.str _⟩;simp only [convert,Aa1,AH hs,AH hd,Aa0];cases ds <;> rfl
 · rename_i hs hd hnot
   split at h
   · rename_i xs he q9
     cases hb:bytesOf xs with
     | none=>simp [hb] at h
     | some bs=>
      simp only [hb,Aa2,Option.some.injEq] at h;subst h;obtain ⟨ad,cap,hv,J5,CU⟩:=hx.elems_inv q9;obtain ⟨hf,hlen,Xu⟩:=OZ xs bs hb;rw [hv];refine ⟨_,?_,.str bs⟩;simp only [convert,Aa1,AH hs,AH hd,AH he,Aa0];rcases CU with rfl | ⟨b,o,rfl,_,f,h1,h2,h3⟩
      · have:bs=[]:=Aa7 (by simpa using hlen)
        subst this;cases ad with
        | none=>rfl
        | some ad=>simp [Aac,loadCells,loadCellsFrom];rfl
      · rw [hf] at h1 h2 h3
        have hl:=run_loadCells (P:=C.P) w ⟨b,o,none⟩ xs.length f (fun j hj=>by rw [DU];exact hS _ _ _ (h1 j hj));simp only [Aac,Aa1,hl,Aa0]
        have key:=O0 (C:=C) (w:=w) ((List.range xs.length).map f) bs [] (by simp [hlen]) (fun i hi Dp=>by
         simp only [List.length_map,List.length_range] at hi;obtain ⟨m,hm,hb⟩:=Xu i hi Dp;refine ⟨m,?_,hb⟩;have:=h3 i hi;rw [hm] at this;simpa using this.int_inv)
        simp only [List.nil_append] at key;have e0:ByteArray.empty=(⟨([]:List UInt8).toArray⟩:ByteArray):=rfl;rw [<- Array.forIn_toList];simp only [e0]
        first | rw [key] | (erw [key])
        rfl
   · cases h
 · cases h
end
end Go.HH
