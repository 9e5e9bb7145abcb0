/-
  What the law needs, packed: Pure.
-/
import Derived.Laws.Strings
import Derived.Laws.StructEq
import Derived.Test.YthjabmlbmnadjaaGreatJ5
open Go.Result renaming andThen_ok->yW
open Go.Sem renaming run_bind->yX,run_pure->yZ
open Option renaming map_some->yY
open Go.Op renaming maxDepth->y0,equal->y2,equalIn->y4,unary->y6,eqFields->y7,stringOp->y',intDiv->za
open UInt8 renaming ofNat->y1
open List renaming eq_nil_of_length_eq_zero->y3
open Array renaming getElem_extract->y5
open Go.Conv renaming bytesToString->y8
open ByteArray renaming ext->y9,size->zf,push->zg,empty->zh
open ForInStep renaming yield->zd
open Go.ByteArray renaming toList_eq->ze
namespace Go.HH
open Go Go.RowKit
section
variable {C:Cfg} {D:List Deferred} {B:Nat} {T:Nat->Prop} {S:AY} {M:List Nat} {n:Nat} {st:St} {a:Act} {w:World}
theorem L3 {t:TypeId} {cs:List PV} {off:Nat} {p:PV} (h:BV C t cs off=some p) {vs:Array Value} (l:vs.size=cs.length)
 (h1:∀ i (h:i < vs.size),(vs[i]).oneCell'=true) (hr:∀ i (h:i < cs.length) (h':i < vs.size),Rep S M cs[i] vs[i]) :
 ∃ v,(part t vs off).run C.P w=.ok v w/\Rep S M p v:=by
 unfold BV readCells at h;cases hd:C.P.underlying t with
 | none=>simp [hd] at h
 | some d=>
  simp only [hd] at h;unfold part;simp only [yX,Nf hd,yW];split at h
  · rename_i ht
    rw [if_pos ht];cases hz:tSize C t with
    | none=>simp [hz] at h
    | some k=>
     obtain ⟨i,hi,rfl⟩:=Er hz;simp only [hz] at h;split at h
     · rename_i hle
       injection h with h
       subst h;simp only [List.length_drop] at hle;refine ⟨.agg (vs.extract off (off+i.size)),?_,?_⟩
       · simp only [yX,C7 hi,yW,yZ]
       · refine .agg _ _ (by simp;omega) (fun j hj=>?_) (fun j hj Ul=>?_)
         · simp only [y5];exact h1 _ _
         · simp only [List.getElem_map,List.getElem_take,List.getElem_drop,y5]
           exact (hr _ _ _).ro
     · cases h
  · rename_i ht
    rw [if_neg ht];cases KE:cs.drop off with
    | nil=>simp [KE] at h
    | cons c r=>
     simp only [KE,List.head?_cons,yY,Option.some.injEq] at h;subst h
     have Bq:off < cs.length:=by
      by_cases hx:off < cs.length
      · exact hx
      · rw [List.drop_eq_nil_of_le (by omega)] at KE;cases KE
     have hc:cs[off]=c:=by
      have:=List.drop_eq_getElem_cons Bq;rw [KE] at this;injection this with this _;exact this.symm
     have hv:vs[off]?=some (vs[off]'(by omega)):=by simp [l,Bq]
     refine ⟨vs[off]'(by omega),by simp [hv],?_⟩;have:=hr off Bq (by omega);rw [hc] at this;exact this.ro
theorem jd {op:BinOp} {k:IntKind} {x y:Int} {p:PV} (t:TypeId) (A1:¬ (op=.shl\/op=.shr)) (h:ET op k x y=some p) :
 ∃ v,(binOp op t (.int k x) (.int k y)).run C.P w=.ok v w/\Rep S M p v:=by
 cases op
 case shl=>simp at A1
 case shr=>simp at A1
 case quo=>
  simp only [ET] at h;split at h
  · cases h
  · rename_i hy
    injection h with h
    subst h;exact ⟨_,by simp only [binOp,za,ne_eq,not_true_eq_false,if_false,if_neg hy,yZ],.int _ _⟩
 case rem=>
  simp only [ET] at h;split at h
  · cases h
  · rename_i hy
    injection h with h
    subst h;exact ⟨_,by simp only [binOp,za,ne_eq,not_true_eq_false,if_false,if_neg hy,yZ],.int _ _⟩
 all_goals (simp only [ET,Kq,yY,Option.some.injEq] at h;subst h)
 case add | sub | mul=>exact ⟨_,by simp only [binOp,ne_eq,not_true_eq_false,if_false];rfl,.int _ _⟩
 case and | or | xor | andNot=>exact ⟨_,by simp only [binOp,ne_eq,not_true_eq_false,if_false];rfl,.int _ _⟩
 all_goals exact ⟨_,by simp only [binOp,ne_eq,not_true_eq_false,if_false];rfl,.bool _⟩
theorem bG {op:BinOp} {k k':IntKind} {x y:Int} {p:PV} (t:TypeId) (A1:op=.shl\/op=.shr) (h:JH op k x y=some p) :
 ∃ v,(binOp op t (.int k x) (.int k' y)).run C.P w=.ok v w/\Rep S M p v:=by
 unfold JH at h;split at h
 · cases h
 · rename_i hy
   rcases A1 with rfl | rfl <;> simp only [Option.some.injEq] at h <;> subst h
   · exact ⟨_,by simp only [binOp,Op.shift,if_neg hy];rfl,.int _ _⟩
   · exact ⟨_,by simp only [binOp,Op.shift,if_neg hy];rfl,.int _ _⟩
theorem WU (x y:List UInt8):(⟨x.toArray⟩:ByteArray)++⟨y.toArray⟩=⟨(x++y).toArray⟩:=by
 apply y9;simp
theorem JL (x:List UInt8):(⟨x.toArray⟩:ByteArray).toList=x:=by
 rw [ze]
theorem je {op:BinOp} {x y:List UInt8} {p:PV} (t:TypeId) (h:HP op x y=some p) :
 ∃ v,(binOp op t (.string ⟨x.toArray⟩) (.string ⟨y.toArray⟩)).run C.P w=.ok v w/\Rep S M p v:=by
 cases op <;> simp only [HP,Option.some.injEq,reduceCtorEq] at h
 case add=>
  split at h
  · rename_i hl
    injection h with h
    subst h;refine ⟨_,?_,.str _⟩
    have JE:¬ ((((⟨x.toArray⟩:ByteArray).size+(⟨y.toArray⟩:ByteArray).size:Nat):Int) > IntKind.i64.max):=by
     unfold iY at hl;simp [zf,IntKind.max,IntKind.signed,IntKind.bits];omega
    simp only [binOp,y',if_neg JE,yZ];rw [WU]
  · cases h
 all_goals (subst h;exact ⟨_,by simp only [binOp,y',JL,yZ],.bool _⟩)
theorem IQ {d dd:Nat} (ih:∀ (t:TypeId) (x y:PV) (vx vy:Value) (r:Bool),QG C d t x y=some r->Rep S M x vx->Rep S M y vy->(y4 dd t vx vy).run C.P w=.ok r w)
 {xs ys:List PV} {ux uy:Array Value} (lx:ux.size=xs.length) (sM:∀ i (h:i < ux.size),(ux[i]).oneCell'=true) (sN:∀ i (h:i < xs.length) (h':i < ux.size),Rep S M xs[i] ux[i])
 (ly:uy.size=ys.length) (sO:∀ i (h:i < uy.size),(uy[i]).oneCell'=true) (sP:∀ i (h:i < ys.length) (h':i < uy.size),Rep S M ys[i] uy[i]) (r:Bool) :
 ∀ fs:List Field,HD C (QG C d) xs ys fs=some r->(y7 dd ux uy fs).run C.P w=.ok r w
 | [],h=>by simp only [HD,Option.some.injEq] at h;subst h;simp [y7]
 | f :: fs,h=>by
  unfold HD at h;unfold y7;split at h
  · rename_i hn
    rw [if_pos hn];split at h
    · rename_i p q hp hq
      obtain ⟨v,hv,rv⟩:=L3 (w:=w) hp lx sM sN;obtain ⟨u,hu,ru⟩:=L3 (w:=w) hq ly sO sP;simp only [yX,hv,hu,yW];split at h
      · rename_i he
        rw [ih _ _ _ _ _ _ he rv ru];simpa using IQ ih lx sM sN ly sO sP r fs h
      · rename_i he
        rw [ih _ _ _ _ _ _ h rv ru];have hr:r=false:=by cases r <;> simp_all
        subst hr;simp
    · cases h
  · rename_i hn
    rw [if_neg hn];exact IQ ih lx sM sN ly sO sP r fs h
theorem WV:∀ (d dd:Nat) (t:TypeId) (x y:PV) (vx vy:Value) (r:Bool),d<=dd->QG C d t x y=some r->Rep S M x vx->Rep S M y vy ->
 (y4 dd t vx vy).run C.P w=.ok r w
 | 0,_,_,_,_,_,_,_,_,h,_,_=>by simp [QG] at h
 | d+1,dd,t,x,y,vx,vy,r,hd,h,hx,hy=>by
  obtain ⟨dd,rfl⟩:∃ k,dd=k+1:=⟨dd - 1,by omega⟩;unfold QG at h;split at h
  · rename_i ht;rw [hx.bool_inv,hy.bool_inv];injection h with h;subst h;exact run_equalIn_bool' w dd t _ _ ht
  · rename_i ht
    rw [hx.int_inv,hy.int_inv];split at h
    · rename_i hk;injection h with h;subst h;subst hk;exact run_equalIn_int w dd t _ _ _ _ ht
    · cases h
  · rename_i ht;rw [hx.str_inv,hy.str_inv];injection h with h;subst h
    rw [run_equalIn_string w dd t _ _ ht,JL,JL]
  · rename_i fields xs ys ht
    obtain ⟨ux,rfl,lx,sM,sN⟩:=hx.agg_inv;obtain ⟨uy,rfl,ly,sO,sP⟩:=hy.agg_inv;split at h
    · cases h
    · rename_i Fq
      have hf:C.P.fieldsOf t=fields:=by simp [Program.fieldsOf,ht]
      rw [run_equalIn_struct w dd t ux uy (by rw [hf];exact ht) (by simpa using Fq),hf];exact IQ (fun t x y vx vy r he ha hb=>WV d dd t x y vx vy r (by omega) he ha hb) lx sM sN ly sO sP r _ h
  · cases h
theorem L4 (d:Nat) {t e:TypeId} (ht:C.P.underlying t=some (.pointer e)) (ad:Option Addr):(y4 (d+1) t (.pointer ad) (.pointer none)).run C.P w=.ok ad.isNone w:=by
 unfold y4;simp only [yX,AS ht,yW];cases ad <;> rfl
theorem jf {op:BinOp} {t:TypeId} {x y:PV} {vx vy:Value} {p:PV} (xo yo:Operand) (h:EU C op t x y=some p) (hx:Rep S M x vx) (hy:Rep S M y vy) :
 ∃ v,(do eqGuard op t xo yo vx vy;binOp op t vx vy:Sem Value).run C.P w=.ok v w/\Rep S M p v:=by
 have noGuard:∀ v u:Value,(∀ z,v≠.agg z)->v≠.nilIface->(eqGuard op t xo yo v u).run C.P w=.ok () w:=by
  intro v u h1 h2;cases op <;> simp [eqGuard] <;> (split <;> simp_all)
 unfold EU at h;split at h
 · rename_i k a k' b
   rw [hx.int_inv,hy.int_inv];rw [yX,noGuard _ _ (by simp) (by simp),yW];split at h
   · rename_i A1;exact bG t A1 h
   · rename_i A1
     split at h
     · rename_i hk;subst hk;exact jd t A1 h
     · cases h
 · rw [hx.str_inv,hy.str_inv,yX,noGuard _ _ (by simp) (by simp),yW]
   exact je t h
 · rename_i b b'
   rw [hx.bool_inv,hy.bool_inv,yX,noGuard _ _ (by simp) (by simp),yW];split at h
   · rename_i ht;injection h with h;subst h
     exact ⟨_,by simp [binOp,y2,y0,run_equalIn_bool' w 9999 t _ _ ht],.bool _⟩
   · rename_i ht;injection h with h;subst h
     exact ⟨_,by simp [binOp,y2,y0,run_equalIn_bool' w 9999 t _ _ ht],.bool _⟩
   · cases h
 · rename_i xs ys
   obtain ⟨ux,rfl,lx,sM,sN⟩:=hx.agg_inv;obtain ⟨uy,rfl,ly,sO,sP⟩:=hy.agg_inv;split at h
   · cases h
   · rename_i hg
     rw [yX,run_eqGuard_agg w op t xo yo ux uy (by simpa using hg),yW];split at h
     · cases he:QG C 100 t (.agg xs) (.agg ys) with
       | none=>simp [he] at h
       | some r=>
        simp only [he,yY,Option.some.injEq] at h;subst h;rw [run_eql_struct,WV 100 10000 t _ _ _ _ r (by omega) he hx hy];exact ⟨_,rfl,.bool _⟩
     · cases he:QG C 100 t (.agg xs) (.agg ys) with
       | none=>simp [he] at h
       | some r=>
        simp only [he,yY,Option.some.injEq] at h;subst h;rw [run_neq_struct,WV 100 10000 t _ _ _ _ r (by omega) he hx hy];exact ⟨_,rfl,.bool _⟩
     · cases h
 · obtain ⟨b,hm,rfl⟩:=hx.bp_inv
   rw [hy.nilp_inv,yX,noGuard _ _ (by simp) (by simp),yW];split at h
   · rename_i ht;injection h with h;subst h
     exact ⟨_,by simp only [binOp,y2,y0,yX,L4 9999 ht,yW];rfl,.bool _⟩
   · rename_i ht;injection h with h;subst h
     exact ⟨_,by simp only [binOp,y2,y0,yX,L4 9999 ht,yW];rfl,.bool _⟩
   · cases h
 · rw [hx.nilp_inv,hy.nilp_inv,yX,noGuard _ _ (by simp) (by simp),yW]
   split at h
   · rename_i ht;injection h with h;subst h
     exact ⟨_,by simp only [binOp,y2,y0,yX,L4 9999 ht,yW];rfl,.bool _⟩
   · rename_i ht;injection h with h;subst h
     exact ⟨_,by simp only [binOp,y2,y0,yX,L4 9999 ht,yW];rfl,.bool _⟩
   · cases h
 · cases h
theorem mN {op:UnOp} {x:PV} {vx:Value} {p:PV} (h:N8 op x=some p) (hx:Rep S M x vx):∃ v,(y6 op vx).run C.P w=.ok v w/\Rep S M p v:=by
 unfold N8 at h;split at h
 · rw [hx.int_inv]
   split at h
   · injection h with h;subst h;exact ⟨_,by simp only [y6,Op.intArith];rfl,.int _ _⟩
   · simp only [Kq,yY,Option.some.injEq] at h;subst h;exact ⟨_,by simp only [y6,Op.intBits];rfl,.int _ _⟩
   · cases h
 · rw [hx.bool_inv]
   split at h
   · injection h with h;subst h;exact ⟨_,by simp only [y6];rfl,.bool _⟩
   · cases h
 · cases h
theorem Qf:∀ (xs:List PV) (bs:List UInt8),bytesOf xs=some bs->flat xs=xs/\bs.length=xs.length /\
 ∀ i (h:i < xs.length) (h':i < bs.length),∃ m:Int,xs[i]=.int .u8 m/\bs[i]=y1 m.toNat
 | [],bs,h=>by simp only [bytesOf,Option.some.injEq] at h;subst h;exact ⟨rfl,rfl,fun i h=>by simp at h⟩
 | x :: r,bs,h=>by
  unfold bytesOf at h;split at h
  · simp_all
  · rename_i k r' hx
    injection hx with pR pS
    subst pR;subst pS;cases hr:bytesOf r with
    | none=>simp [hr] at h
    | some b'=>
     simp only [hr,yY,Option.some.injEq] at h;subst h;obtain ⟨h1,h2,h3⟩:=Qf r b' hr;refine ⟨?_,by simp [h2],fun i hi Ey=>?_⟩
     · simp only [flat,List.flatMap_cons,PV.cells]
       simp only [flat] at h1;rw [h1];rfl
     · cases i with
       | zero=>exact ⟨k,rfl,rfl⟩
       | succ i=>simpa using h3 i (by simpa using hi) (by simpa using Ey)
  · cases h
theorem bH (l:List UInt8) (b:UInt8):(⟨l.toArray⟩:ByteArray).push b=⟨(l++[b]).toArray⟩:=by
 apply y9;simp [zg]
theorem Qg:∀ (vs:List Value) (bs acc:List UInt8),vs.length=bs.length->(∀ i (h:i < vs.length) (h':i < bs.length),∃ m:Int,vs[i]=.int .u8 m/\bs[i]=y1 m.toNat) ->
 (forIn vs (⟨acc.toArray⟩:ByteArray) fun c s=>(do
  let .int .u8 m:=c | stuck "bytesToString: byte expected"
  pure (zd (s.push (y1 m.toNat))):Sem (ForInStep ByteArray))).run C.P w=.ok ⟨(acc++bs).toArray⟩ w
 | [],bs,acc,hl,_=>by
  have:bs=[]:=y3 hl.symm;subst this;simp
 | v :: r,bs,acc,hl,h=>by
  cases bs with
  | nil=>simp at hl
  | cons b bs=>
   obtain ⟨m,hm,hb⟩:=h 0 (by simp) (by simp);simp only [List.getElem_cons_zero] at hm hb;subst hm;subst hb
   have ih:=Qg r bs (acc++[y1 m.toNat]) (by simpa using hl) (fun i hi Ey=>by
    have:=h (i+1) (by simpa using hi) (by simpa using Ey);simp only [List.getElem_cons_succ] at this;exact this)
   simp only [List.forIn_cons,yX,yZ,yW,bH];rw [ih];simp
theorem fM {s d:TypeId} {x:PV} {vx:Value} {p:PV} (h:GV C s d x=some p) (hx:Rep S M x vx) (hS:∀ b o v,S b o=some v->w.cell? ⟨b,o,none⟩=some v) :
 ∃ v,(convert s d vx).run C.P w=.ok v w/\Rep S M p v:=by
 unfold GV at h;split at h
 · rename_i ds k k' m hs hd
   injection h with h;subst h
   rw [hx.int_inv];refine ⟨_,?_,.int _ _⟩;simp only [convert,yX,AS hs,AS hd,yW];cases ds <;> rfl
 · rename_i ds b hs hd
   injection h with h;subst h
   rw [hx.str_inv];refine ⟨_,?_,.str _⟩;simp only [convert,yX,AS hs,AS hd,yW];cases ds <;> rfl
 · rename_i hs hd hnot
   split at h
   · rename_i xs he pT
     cases hb:bytesOf xs with
     | none=>simp [hb] at h
     | some bs=>
      simp only [hb,yY,Option.some.injEq] at h;subst h;obtain ⟨ad,cap,hv,K4,Dz⟩:=hx.elems_inv pT;obtain ⟨hf,hlen,FB⟩:=Qf xs bs hb;rw [hv];refine ⟨_,?_,.str bs⟩;simp only [convert,yX,AS hs,AS hd,AS he,yW];rcases Dz with rfl | ⟨b,o,rfl,_,f,h1,h2,h3⟩
      · have:bs=[]:=y3 (by simpa using hlen)
        subst this;cases ad with
        | none=>rfl
        | some ad=>simp [y8,loadCells,loadCellsFrom];rfl
      · rw [hf] at h1 h2 h3
        have hl:=run_loadCells (P:=C.P) w ⟨b,o,none⟩ xs.length f (fun j hj=>by rw [EC];exact hS _ _ _ (h1 j hj));simp only [y8,yX,hl,yW]
        have key:=Qg (C:=C) (w:=w) ((List.range xs.length).map f) bs [] (by simp [hlen]) (fun i hi Ey=>by
         simp only [List.length_map,List.length_range] at hi;obtain ⟨m,hm,hb⟩:=FB i hi Ey;refine ⟨m,?_,hb⟩;have:=h3 i hi;rw [hm] at this;simpa using this.int_inv)
        simp only [List.nil_append] at key;have e0:zh=(⟨([]:List UInt8).toArray⟩:ByteArray):=rfl;rw [<- Array.forIn_toList];simp only [e0]
        first | rw [key] | (erw [key])
        rfl
   · cases h
 · cases h
end
end Go.HH
