/-
  What the law needs, packed: Pure.
-/
import Derived.Laws.Strings
import Derived.Laws.StructEq
import Derived.Test.YtmiilonaehgplaaM5
namespace Go.HH
open Go Go.RowKit
section
variable {C:Cfg} {D:List Deferred} {B:Nat} {T:Nat->Prop} {S:Store} {M:List Nat} {n:Nat} {st:St} {a:Act} {w:World}
theorem partP_run {t:TypeId} {cs:List PV} {off:Nat} {p:PV} (h:partP C t cs off=some p) {vs:Array Value} (l:vs.size=cs.length)
 (h1:∀ i (h:i < vs.size),(vs[i]).oneCell'=true) (hr:∀ i (h:i < cs.length) (h':i < vs.size),Rep S M cs[i] vs[i]) :
 ∃ v,(part t vs off).run C.P w=.ok v w∧Rep S M p v:=by
 unfold partP readCells at h
 cases hd:C.P.underlying t with
 | none=>simp [hd] at h
 | some d=>
  simp only [hd] at h
  unfold part
  simp only [Sem.run_bind,run_isAgg' hd,Result.andThen_ok]
  split at h
  · rename_i ht
    rw [if_pos ht]
    cases hz:tSize C t with
    | none=>simp [hz] at h
    | some k=>
     obtain ⟨i,hi,rfl⟩:=tSize_some hz
     simp only [hz] at h
     split at h
     · rename_i hle
       injection h with h
       subst h
       simp only [List.length_drop] at hle
       refine ⟨.agg (vs.extract off (off+i.size)),?_,?_⟩
       · simp only [Sem.run_bind,run_sizeOf' hi,Result.andThen_ok,Sem.run_pure]
       · refine .agg _ _ (by simp;omega) (fun j hj=>?_) (fun j hj hj'=>?_)
         · simp only [Array.getElem_extract];exact h1 _ _
         · simp only [List.getElem_map,List.getElem_take,List.getElem_drop,Array.getElem_extract]
           exact (hr _ _ _).ro
     · cases h
  · rename_i ht
    rw [if_neg ht]
    cases hdr:cs.drop off with
    | nil=>simp [hdr] at h
    | cons c r=>
     simp only [hdr,List.head?_cons,Option.map_some,Option.some.injEq] at h
     subst h
     have hlt:off < cs.length:=by
      by_cases hx:off < cs.length
      · exact hx
      · rw [List.drop_eq_nil_of_le (by omega)] at hdr;cases hdr
     have hc:cs[off]=c:=by
      have:=List.drop_eq_getElem_cons hlt
      rw [hdr] at this;injection this with this _;exact this.symm
     have hv:vs[off]?=some (vs[off]'(by omega)):=by simp [l,hlt]
     refine ⟨vs[off]'(by omega),by simp [hv],?_⟩
     have:=hr off hlt (by omega)
     rw [hc] at this
     exact this.ro
theorem intP_run {op:BinOp} {k:IntKind} {x y:Int} {p:PV} (t:TypeId) (hop:¬ (op=.shl∨op=.shr)) (h:intP op k x y=some p) :
 ∃ v,(binOp op t (.int k x) (.int k y)).run C.P w=.ok v w∧Rep S M p v:=by
 cases op
 case shl=>simp at hop
 case shr=>simp at hop
 case quo=>
  simp only [intP] at h
  split at h
  · cases h
  · rename_i hy
    injection h with h
    subst h
    exact ⟨_,by simp only [binOp,Op.intDiv,ne_eq,not_true_eq_false,if_false,if_neg hy,Sem.run_pure],.int _ _⟩
 case rem=>
  simp only [intP] at h
  split at h
  · cases h
  · rename_i hy
    injection h with h
    subst h
    exact ⟨_,by simp only [binOp,Op.intDiv,ne_eq,not_true_eq_false,if_false,if_neg hy,Sem.run_pure],.int _ _⟩
 all_goals (simp only [intP,bitsP,Option.map_some,Option.some.injEq] at h;subst h)
 case add | sub | mul=>exact ⟨_,by simp only [binOp,ne_eq,not_true_eq_false,if_false];rfl,.int _ _⟩
 case and | or | xor | andNot=>exact ⟨_,by simp only [binOp,ne_eq,not_true_eq_false,if_false];rfl,.int _ _⟩
 all_goals exact ⟨_,by simp only [binOp,ne_eq,not_true_eq_false,if_false];rfl,.bool _⟩
theorem shiftP_run {op:BinOp} {k k':IntKind} {x y:Int} {p:PV} (t:TypeId) (hop:op=.shl∨op=.shr) (h:shiftP op k x y=some p) :
 ∃ v,(binOp op t (.int k x) (.int k' y)).run C.P w=.ok v w∧Rep S M p v:=by
 unfold shiftP at h
 split at h
 · cases h
 · rename_i hy
   rcases hop with rfl | rfl <;> simp only [Option.some.injEq] at h <;> subst h
   · exact ⟨_,by simp only [binOp,Op.shift,if_neg hy];rfl,.int _ _⟩
   · exact ⟨_,by simp only [binOp,Op.shift,if_neg hy];rfl,.int _ _⟩
theorem bytes_append (x y:List UInt8):(⟨x.toArray⟩:ByteArray)++⟨y.toArray⟩=⟨(x++y).toArray⟩:=by
 apply ByteArray.ext
 simp
theorem bytes_toList (x:List UInt8):(⟨x.toArray⟩:ByteArray).toList=x:=by
 rw [ByteArray.toList_eq]
theorem strP_run {op:BinOp} {x y:List UInt8} {p:PV} (t:TypeId) (h:strP op x y=some p) :
 ∃ v,(binOp op t (.string ⟨x.toArray⟩) (.string ⟨y.toArray⟩)).run C.P w=.ok v w∧Rep S M p v:=by
 cases op <;> simp only [strP,Option.some.injEq,reduceCtorEq] at h
 case add=>
  split at h
  · rename_i hl
    injection h with h
    subst h
    refine ⟨_,?_,.str _⟩
    have hsz:¬ ((((⟨x.toArray⟩:ByteArray).size+(⟨y.toArray⟩:ByteArray).size:Nat):Int) > IntKind.i64.max):=by
     unfold maxStr at hl
     simp [ByteArray.size,IntKind.max,IntKind.signed,IntKind.bits];omega
    simp only [binOp,Op.stringOp,if_neg hsz,Sem.run_pure]
    rw [bytes_append]
  · cases h
 all_goals (subst h;exact ⟨_,by simp only [binOp,Op.stringOp,bytes_toList,Sem.run_pure],.bool _⟩)
theorem eqFieldsP_run {d dd:Nat} (ih:∀ (t:TypeId) (x y:PV) (vx vy:Value) (r:Bool),eqP C d t x y=some r->Rep S M x vx->Rep S M y vy->(Op.equalIn dd t vx vy).run C.P w=.ok r w)
 {xs ys:List PV} {ux uy:Array Value} (lx:ux.size=xs.length) (h1x:∀ i (h:i < ux.size),(ux[i]).oneCell'=true) (hrx:∀ i (h:i < xs.length) (h':i < ux.size),Rep S M xs[i] ux[i])
 (ly:uy.size=ys.length) (h1y:∀ i (h:i < uy.size),(uy[i]).oneCell'=true) (hry:∀ i (h:i < ys.length) (h':i < uy.size),Rep S M ys[i] uy[i]) (r:Bool) :
 ∀ fs:List Field,eqFieldsP C (eqP C d) xs ys fs=some r->(Op.eqFields dd ux uy fs).run C.P w=.ok r w
 | [],h=>by simp only [eqFieldsP,Option.some.injEq] at h;subst h;simp [Op.eqFields]
 | f :: fs,h=>by
  unfold eqFieldsP at h
  unfold Op.eqFields
  split at h
  · rename_i hn
    rw [if_pos hn]
    split at h
    · rename_i p q hp hq
      obtain ⟨v,hv,rv⟩:=partP_run (w:=w) hp lx h1x hrx
      obtain ⟨u,hu,ru⟩:=partP_run (w:=w) hq ly h1y hry
      simp only [Sem.run_bind,hv,hu,Result.andThen_ok]
      split at h
      · rename_i he
        rw [ih _ _ _ _ _ _ he rv ru]
        simpa using eqFieldsP_run ih lx h1x hrx ly h1y hry r fs h
      · rename_i he
        rw [ih _ _ _ _ _ _ h rv ru]
        have hr:r=false:=by cases r <;> simp_all
        subst hr
        simp
    · cases h
  · rename_i hn
    rw [if_neg hn]
    exact eqFieldsP_run ih lx h1x hrx ly h1y hry r fs h
theorem eqP_run:∀ (d dd:Nat) (t:TypeId) (x y:PV) (vx vy:Value) (r:Bool),d<=dd->eqP C d t x y=some r->Rep S M x vx->Rep S M y vy ->
 (Op.equalIn dd t vx vy).run C.P w=.ok r w
 | 0,_,_,_,_,_,_,_,_,h,_,_=>by simp [eqP] at h
 | d+1,dd,t,x,y,vx,vy,r,hd,h,hx,hy=>by
  obtain ⟨dd,rfl⟩:∃ k,dd=k+1:=⟨dd - 1,by omega⟩
  unfold eqP at h
  split at h
  · rename_i ht;rw [hx.bool_inv,hy.bool_inv];injection h with h;subst h;exact run_equalIn_bool' w dd t _ _ ht
  · rename_i ht
    rw [hx.int_inv,hy.int_inv]
    split at h
    · rename_i hk;injection h with h;subst h;subst hk;exact run_equalIn_int w dd t _ _ _ _ ht
    · cases h
  · rename_i ht;rw [hx.str_inv,hy.str_inv];injection h with h;subst h
    rw [run_equalIn_string w dd t _ _ ht,bytes_toList,bytes_toList]
  · rename_i fields xs ys ht
    obtain ⟨ux,rfl,lx,h1x,hrx⟩:=hx.agg_inv
    obtain ⟨uy,rfl,ly,h1y,hry⟩:=hy.agg_inv
    split at h
    · cases h
    · rename_i hst
      have hf:C.P.fieldsOf t=fields:=by simp [Program.fieldsOf,ht]
      rw [run_equalIn_struct w dd t ux uy (by rw [hf];exact ht) (by simpa using hst),hf]
      exact eqFieldsP_run (fun t x y vx vy r he ha hb=>eqP_run d dd t x y vx vy r (by omega) he ha hb) lx h1x hrx ly h1y hry r _ h
  · cases h
theorem eqlPtrNil (d:Nat) {t e:TypeId} (ht:C.P.underlying t=some (.pointer e)) (ad:Option Addr):(Op.equalIn (d+1) t (.pointer ad) (.pointer none)).run C.P w=.ok ad.isNone w:=by
 unfold Op.equalIn
 simp only [Sem.run_bind,run_underlying' ht,Result.andThen_ok]
 cases ad <;> rfl
theorem binP_run {op:BinOp} {t:TypeId} {x y:PV} {vx vy:Value} {p:PV} (xo yo:Operand) (h:binP C op t x y=some p) (hx:Rep S M x vx) (hy:Rep S M y vy) :
 ∃ v,(do eqGuard op t xo yo vx vy;binOp op t vx vy:Sem Value).run C.P w=.ok v w∧Rep S M p v:=by
 have noGuard:∀ v u:Value,(∀ z,v≠.agg z)->v≠.nilIface->(eqGuard op t xo yo v u).run C.P w=.ok () w:=by
  intro v u h1 h2
  cases op <;> simp [eqGuard] <;> (split <;> simp_all)
 unfold binP at h
 split at h
 · rename_i k a k' b
   rw [hx.int_inv,hy.int_inv]
   rw [Sem.run_bind,noGuard _ _ (by simp) (by simp),Result.andThen_ok]
   split at h
   · rename_i hop;exact shiftP_run t hop h
   · rename_i hop
     split at h
     · rename_i hk;subst hk;exact intP_run t hop h
     · cases h
 · rw [hx.str_inv,hy.str_inv,Sem.run_bind,noGuard _ _ (by simp) (by simp),Result.andThen_ok]
   exact strP_run t h
 · rename_i b b'
   rw [hx.bool_inv,hy.bool_inv,Sem.run_bind,noGuard _ _ (by simp) (by simp),Result.andThen_ok]
   split at h
   · rename_i ht;injection h with h;subst h
     exact ⟨_,by simp [binOp,Op.equal,Op.maxDepth,run_equalIn_bool' w 9999 t _ _ ht],.bool _⟩
   · rename_i ht;injection h with h;subst h
     exact ⟨_,by simp [binOp,Op.equal,Op.maxDepth,run_equalIn_bool' w 9999 t _ _ ht],.bool _⟩
   · cases h
 · rename_i xs ys
   obtain ⟨ux,rfl,lx,h1x,hrx⟩:=hx.agg_inv
   obtain ⟨uy,rfl,ly,h1y,hry⟩:=hy.agg_inv
   split at h
   · cases h
   · rename_i hg
     rw [Sem.run_bind,run_eqGuard_agg w op t xo yo ux uy (by simpa using hg),Result.andThen_ok]
     split at h
     · cases he:eqP C 100 t (.agg xs) (.agg ys) with
       | none=>simp [he] at h
       | some r=>
        simp only [he,Option.map_some,Option.some.injEq] at h
        subst h
        rw [run_eql_struct,eqP_run 100 10000 t _ _ _ _ r (by omega) he hx hy]
        exact ⟨_,rfl,.bool _⟩
     · cases he:eqP C 100 t (.agg xs) (.agg ys) with
       | none=>simp [he] at h
       | some r=>
        simp only [he,Option.map_some,Option.some.injEq] at h
        subst h
        rw [run_neq_struct,eqP_run 100 10000 t _ _ _ _ r (by omega) he hx hy]
        exact ⟨_,rfl,.bool _⟩
     · cases h
 · obtain ⟨b,hm,rfl⟩:=hx.bp_inv
   rw [hy.nilp_inv,Sem.run_bind,noGuard _ _ (by simp) (by simp),Result.andThen_ok]
   split at h
   · rename_i ht;injection h with h;subst h
     exact ⟨_,by simp only [binOp,Op.equal,Op.maxDepth,Sem.run_bind,eqlPtrNil 9999 ht,Result.andThen_ok];rfl,.bool _⟩
   · rename_i ht;injection h with h;subst h
     exact ⟨_,by simp only [binOp,Op.equal,Op.maxDepth,Sem.run_bind,eqlPtrNil 9999 ht,Result.andThen_ok];rfl,.bool _⟩
   · cases h
 · rw [hx.nilp_inv,hy.nilp_inv,Sem.run_bind,noGuard _ _ (by simp) (by simp),Result.andThen_ok]
   split at h
   · rename_i ht;injection h with h;subst h
     exact ⟨_,by simp only [binOp,Op.equal,Op.maxDepth,Sem.run_bind,eqlPtrNil 9999 ht,Result.andThen_ok];rfl,.bool _⟩
   · rename_i ht;injection h with h;subst h
     exact ⟨_,by simp only [binOp,Op.equal,Op.maxDepth,Sem.run_bind,eqlPtrNil 9999 ht,Result.andThen_ok];rfl,.bool _⟩
   · cases h
 · cases h
theorem unP_run {op:UnOp} {x:PV} {vx:Value} {p:PV} (h:unP op x=some p) (hx:Rep S M x vx):∃ v,(Op.unary op vx).run C.P w=.ok v w∧Rep S M p v:=by
 unfold unP at h
 split at h
 · rw [hx.int_inv]
   split at h
   · injection h with h;subst h;exact ⟨_,by simp only [Op.unary,Op.intArith];rfl,.int _ _⟩
   · simp only [bitsP,Option.map_some,Option.some.injEq] at h;subst h;exact ⟨_,by simp only [Op.unary,Op.intBits];rfl,.int _ _⟩
   · cases h
 · rw [hx.bool_inv]
   split at h
   · injection h with h;subst h;exact ⟨_,by simp only [Op.unary];rfl,.bool _⟩
   · cases h
 · cases h
theorem bytesOf_run:∀ (xs:List PV) (bs:List UInt8),bytesOf xs=some bs->flat xs=xs∧bs.length=xs.length ∧
 ∀ i (h:i < xs.length) (h':i < bs.length),∃ m:Int,xs[i]=.int .u8 m∧bs[i]=UInt8.ofNat m.toNat
 | [],bs,h=>by simp only [bytesOf,Option.some.injEq] at h;subst h;exact ⟨rfl,rfl,fun i h=>by simp at h⟩
 | x :: r,bs,h=>by
  unfold bytesOf at h
  split at h
  · simp_all
  · rename_i k r' hx
    injection hx with hx1 hx2
    subst hx1
    subst hx2
    cases hr:bytesOf r with
    | none=>simp [hr] at h
    | some b'=>
     simp only [hr,Option.map_some,Option.some.injEq] at h
     subst h
     obtain ⟨h1,h2,h3⟩:=bytesOf_run r b' hr
     refine ⟨?_,by simp [h2],fun i hi hi'=>?_⟩
     · simp only [flat,List.flatMap_cons,PV.cells]
       simp only [flat] at h1
       rw [h1];rfl
     · cases i with
       | zero=>exact ⟨k,rfl,rfl⟩
       | succ i=>simpa using h3 i (by simpa using hi) (by simpa using hi')
  · cases h
theorem push_bytes (l:List UInt8) (b:UInt8):(⟨l.toArray⟩:ByteArray).push b=⟨(l++[b]).toArray⟩:=by
 apply ByteArray.ext
 simp [ByteArray.push]
theorem forIn_bytes:∀ (vs:List Value) (bs acc:List UInt8),vs.length=bs.length->(∀ i (h:i < vs.length) (h':i < bs.length),∃ m:Int,vs[i]=.int .u8 m∧bs[i]=UInt8.ofNat m.toNat) ->
 (forIn vs (⟨acc.toArray⟩:ByteArray) fun c s=>(do
  let .int .u8 m:=c | stuck "bytesToString: byte expected"
  pure (ForInStep.yield (s.push (UInt8.ofNat m.toNat))):Sem (ForInStep ByteArray))).run C.P w=.ok ⟨(acc++bs).toArray⟩ w
 | [],bs,acc,hl,_=>by
  have:bs=[]:=List.eq_nil_of_length_eq_zero hl.symm
  subst this
  simp
 | v :: r,bs,acc,hl,h=>by
  cases bs with
  | nil=>simp at hl
  | cons b bs=>
   obtain ⟨m,hm,hb⟩:=h 0 (by simp) (by simp)
   simp only [List.getElem_cons_zero] at hm hb
   subst hm
   subst hb
   have ih:=forIn_bytes r bs (acc++[UInt8.ofNat m.toNat]) (by simpa using hl) (fun i hi hi'=>by
    have:=h (i+1) (by simpa using hi) (by simpa using hi')
    simp only [List.getElem_cons_succ] at this
    exact this)
   simp only [List.forIn_cons,Sem.run_bind,Sem.run_pure,Result.andThen_ok,push_bytes]
   rw [ih]
   simp
theorem convP_run {s d:TypeId} {x:PV} {vx:Value} {p:PV} (h:convP C s d x=some p) (hx:Rep S M x vx) (hS:∀ b o v,S b o=some v->w.cell? ⟨b,o,none⟩=some v) :
 ∃ v,(convert s d vx).run C.P w=.ok v w∧Rep S M p v:=by
 unfold convP at h
 split at h
 · rename_i ds k k' m hs hd
   injection h with h;subst h
   rw [hx.int_inv]
   refine ⟨_,?_,.int _ _⟩
   simp only [convert,Sem.run_bind,run_underlying' hs,run_underlying' hd,Result.andThen_ok]
   cases ds <;> rfl
 · rename_i ds b hs hd
   injection h with h;subst h
   rw [hx.str_inv]
   refine ⟨_,?_,.str _⟩
   simp only [convert,Sem.run_bind,run_underlying' hs,run_underlying' hd,Result.andThen_ok]
   cases ds <;> rfl
 · rename_i hs hd hnot
   split at h
   · rename_i xs he hel
     cases hb:bytesOf xs with
     | none=>simp [hb] at h
     | some bs=>
      simp only [hb,Option.map_some,Option.some.injEq] at h
      subst h
      obtain ⟨ad,cap,hv,hcap,hcells⟩:=hx.elems_inv hel
      obtain ⟨hf,hlen,hbs⟩:=bytesOf_run xs bs hb
      rw [hv]
      refine ⟨_,?_,.str bs⟩
      simp only [convert,Sem.run_bind,run_underlying' hs,run_underlying' hd,run_underlying' he,Result.andThen_ok]
      rcases hcells with rfl | ⟨b,o,rfl,_,f,h1,h2,h3⟩
      · have:bs=[]:=List.eq_nil_of_length_eq_zero (by simpa using hlen)
        subst this
        cases ad with
        | none=>rfl
        | some ad=>simp [Conv.bytesToString,loadCells,loadCellsFrom];rfl
      · rw [hf] at h1 h2 h3
        have hl:=run_loadCells (P:=C.P) w ⟨b,o,none⟩ xs.length f (fun j hj=>by rw [add_none];exact hS _ _ _ (h1 j hj))
        simp only [Conv.bytesToString,Sem.run_bind,hl,Result.andThen_ok]
        have key:=forIn_bytes (C:=C) (w:=w) ((List.range xs.length).map f) bs [] (by simp [hlen]) (fun i hi hi'=>by
         simp only [List.length_map,List.length_range] at hi
         obtain ⟨m,hm,hb⟩:=hbs i hi hi'
         refine ⟨m,?_,hb⟩
         have:=h3 i hi
         rw [hm] at this
         simpa using this.int_inv)
        simp only [List.nil_append] at key
        have e0:ByteArray.empty=(⟨([]:List UInt8).toArray⟩:ByteArray):=rfl
        rw [<- Array.forIn_toList]
        simp only [e0]
        first | rw [key] | (erw [key])
        rfl
   · cases h
 · cases h
end
end Go.HH
