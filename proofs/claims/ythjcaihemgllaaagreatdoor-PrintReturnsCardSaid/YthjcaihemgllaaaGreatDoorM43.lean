/-
  What the law needs, packed: BB HB C1 L0P.
-/
import Derived.Shelf.Strings.Builder1
import Derived.Lib.LaidTab
import Derived.Test.YthjcaihemgllaaaGreatDoorRows
import Derived.ProofKit
import Derived.LaidMore
import Derived.OpenShut
import Derived.Stop.Joined
import Derived.Test.YthjcaihemgllaaaGreatDoorM42
namespace Go.HH
open Go Go.Proofs Go.Shelf Go.RowKit Go.Lib
variable {P:Program} {ρ:Ren}
set_option maxHeartbeats 2000000 in
set_option maxRecDepth 100000 in
theorem bstr_row (L:Lays.n169 P ρ) (X:Builder.Extra P ρ) (b g cap:Nat) (p:Value) (cur:Array Value) (fr:Nat×Nat) (l:List UInt8) (w:World) (h0:l≠[]) (hnc:l.length<=cap) (hcm:cap<=maxLen) (hcs:cur.size=cap)
 (hbk:w.heap[b]?=some (.cells #[p,.slice (some ⟨g,0,none⟩) l.length cap] (ρ.t 72) (0,0))) (hg:w.heap[g]?=some (.cells cur (ρ.t 5) fr))
 (hat:∀ j x,l[j]?=some x->w.cell? ⟨g,j,none⟩=some (.int .u8 x.toNat)) :
 Calls P (ρ.f 169) #[.pointer (some ⟨b,0,none⟩)] w fun e w'=>e=.returned (.string ⟨l.toArray⟩)∧w'=w.drew.freeze ⟨g,0,none⟩ l.length:=by
 have hl0:l.length≠0:=by simpa using h0
 have c1:w.drew.cell? ⟨b,1,none⟩=some (.slice (some ⟨g,0,none⟩) l.length cap):=by
  have:w.drew.heap[b]?=some (.cells #[p,.slice (some ⟨g,0,none⟩) l.length cap] (ρ.t 72) (0,0)):=hbk
  rw [Lib.cell_of_heap this];rfl
 have hSD:(Builtin.unsafeSliceData_ #[(ρ.t 37)] (ρ.t 127) #[.slice (some ⟨g,0,none⟩) l.length cap]).run P w.drew=.ok (.pointer (some ⟨g,0,none⟩)) w.drew:=
  Lib.run_unsafeSliceData_row _ _ _ _ _ _ (by omega)
 have hUS:(Builtin.unsafeString_ #[(ρ.t 127),(ρ.t 3)] (ρ.t 9) #[.pointer (some ⟨g,0,none⟩),.int .i64 l.length]).run P w.drew=.ok (.string ⟨l.toArray⟩) (w.drew.freeze ⟨g,0,none⟩ l.length):=by
  refine Lib.run_unsafeString_row w.drew (ρ.t 127) (ρ.t 3) (ρ.t 9) (ρ.t 5) L.t127 X.cellsByte g cur.size (by have hg':w.drew.heap[g]?=some (.cells cur (ρ.t 5) fr):=hg;simp [World.shape?,hg']) l h0 (by omega) (by unfold maxLen at hcm;omega) ?_
  intro j x hx
  have:=hat j x hx
  rw [show (⟨g,0,none⟩:Addr).add j=⟨g,j,none⟩ from by unfold Addr.add;split <;> simp_all]
  exact this
 have mixed:=L.mixed
 have t72:=L.t72;have a72:=L.a72;have z72:=L.z72;have v72:=L.v72;have u72:=run_underlying L.t72
 have t70:=L.t70;have a70:=L.a70;have z70:=L.z70;have v70:=L.v70;have u70:=run_underlying L.t70
 have t37:=L.t37;have a37:=L.a37;have z37:=L.z37;have v37:=L.v37;have u37:=run_underlying L.t37
 have t127:=L.t127;have a127:=L.a127;have z127:=L.z127;have v127:=L.v127;have u127:=run_underlying L.t127
 have t3:=L.t3;have a3:=L.a3;have z3:=L.z3;have v3:=L.v3;have u3:=run_underlying L.t3
 have t9:=L.t9;have a9:=L.a9;have z9:=L.z9;have v9:=L.v9;have u9:=run_underlying L.t9
 have t5:=X.t5;have a5:=X.a5;have z5:=X.z5;have v5:=X.v5;have u5:=run_underlying X.t5
 go_enter L.f169,Body.n169_ntmps ρ
 go_wp2
 go_region_o
 all_goals (go_wp2;go_ret;exact ⟨rfl,rfl⟩)
set_option maxHeartbeats 2000000 in
set_option maxRecDepth 100000 in
theorem bstr_nil (L:Lays.n169 P ρ) (X:Builder.Extra P ρ) (b:Nat) (p:Value) (w:World) (hbk:w.heap[b]?=some (.cells #[p,.slice none 0 0] (ρ.t 72) (0,0))) :
 Calls P (ρ.f 169) #[.pointer (some ⟨b,0,none⟩)] w fun e w'=>e=.returned (.string ⟨#[]⟩)∧w'=w.drew:=by
 have hUS:=Any.unsafeString_none L X
 have c1:w.drew.cell? ⟨b,1,none⟩=some (.slice none 0 0):=by
  have:w.drew.heap[b]?=some (.cells #[p,.slice none 0 0] (ρ.t 72) (0,0)):=hbk
  rw [Lib.cell_of_heap this];rfl
 have hSD:(Builtin.unsafeSliceData_ #[(ρ.t 37)] (ρ.t 127) #[.slice none 0 0]).run P w.drew=.ok (.pointer none) w.drew:=rfl
 have mixed:=L.mixed
 have t72:=L.t72;have a72:=L.a72;have z72:=L.z72;have v72:=L.v72;have u72:=run_underlying L.t72
 have t70:=L.t70;have a70:=L.a70;have z70:=L.z70;have v70:=L.v70;have u70:=run_underlying L.t70
 have t37:=L.t37;have a37:=L.a37;have z37:=L.z37;have v37:=L.v37;have u37:=run_underlying L.t37
 have t127:=L.t127;have a127:=L.a127;have z127:=L.z127;have v127:=L.v127;have u127:=run_underlying L.t127
 have t3:=L.t3;have a3:=L.a3;have z3:=L.z3;have v3:=L.v3;have u3:=run_underlying L.t3
 have t9:=L.t9;have a9:=L.a9;have z9:=L.z9;have v9:=L.v9;have u9:=run_underlying L.t9
 have t5:=X.t5;have a5:=X.a5;have z5:=X.z5;have v5:=X.v5;have u5:=run_underlying X.t5
 go_enter L.f169,Body.n169_ntmps ρ
 go_wp2
 go_region_o
 all_goals (go_wp2;go_ret;exact ⟨rfl,rfl⟩)
theorem sizeBld:(Tryz.prog.info? 153).map (·.size)=some 2:=by kernel_rfl
theorem liesBld:liesAt Tryz.prog Tryz.prog.depth 153 (2 / Tryz.prog.cellsOf 153) 0 153 1=true:=by kernel_rfl
set_option maxHeartbeats 2000000 in
set_option maxRecDepth 100000 in
theorem cc_used (b:Nat) (w:World) (h0:w.cell? ⟨b,0,none⟩=some (.pointer (some ⟨b,0,none⟩))) :
 Calls Tryz.prog 166 #[.pointer (some ⟨b,0,none⟩)] w fun e w'=>e=.returned (.tuple #[])∧w'=w:=by
 obtain ⟨j,hj,_⟩:=Option.map_eq_some_iff.1 sizeBld
 have mixed:Tryz.prog.follows .mixedOrders=true:=by kernel_rfl
 have t0:=Tryz.underlying153;have a0:=Tryz.isAgg153;have z0:=Tryz.sizeOf153;have v0:=Tryz.zeroValue153;have u0:=run_underlying Tryz.underlying153
 have t1:=Tryz.underlying151;have a1:=Tryz.isAgg151;have z1:=Tryz.sizeOf151;have v1:=Tryz.zeroValue151;have u1:=run_underlying Tryz.underlying151
 have t2:=Tryz.underlying9;have a2:=Tryz.isAgg9;have z2:=Tryz.sizeOf9;have v2:=Tryz.zeroValue9;have u2:=run_underlying Tryz.underlying9
 have t3:=Tryz.underlying4;have a3:=Tryz.isAgg4;have z3:=Tryz.sizeOf4;have v3:=Tryz.zeroValue4;have u3:=run_underlying Tryz.underlying4
 have t4:=Tryz.underlying175;have a4:=Tryz.isAgg175;have z4:=Tryz.sizeOf175;have v4:=Tryz.zeroValue175;have u4:=run_underlying Tryz.underlying175
 go_enter Tryz.func166,Tryz.ntmps166
 go_wp2
 rw [Lib.run_neq_ptr_same w _ Tryz.underlying151 hj]
 go_wp2
 go_end0
 exact ⟨rfl,rfl⟩
set_option maxHeartbeats 2000000 in
set_option maxRecDepth 100000 in
theorem cc_fresh (b:Nat) (w:World) (h0:w.cell? ⟨b,0,none⟩=some (.pointer none)) (hsh:w.shape? b=some (153,2)) (hfz:w.frozen? ⟨b,0,none⟩=false) :
 Calls Tryz.prog 166 #[.pointer (some ⟨b,0,none⟩)] w fun e w'=>e=.returned (.tuple #[])∧w'=w.setCell ⟨b,0,none⟩ (.pointer (some ⟨b,0,none⟩)):=by
 obtain ⟨j,hj,hjs⟩:=Option.map_eq_some_iff.1 sizeBld
 have mixed:Tryz.prog.follows .mixedOrders=true:=by kernel_rfl
 have t0:=Tryz.underlying153;have a0:=Tryz.isAgg153;have z0:=Tryz.sizeOf153;have v0:=Tryz.zeroValue153;have u0:=run_underlying Tryz.underlying153
 have t1:=Tryz.underlying151;have a1:=Tryz.isAgg151;have z1:=Tryz.sizeOf151;have v1:=Tryz.zeroValue151;have u1:=run_underlying Tryz.underlying151
 have t2:=Tryz.underlying9;have a2:=Tryz.isAgg9;have z2:=Tryz.sizeOf9;have v2:=Tryz.zeroValue9;have u2:=run_underlying Tryz.underlying9
 have t3:=Tryz.underlying4;have a3:=Tryz.isAgg4;have z3:=Tryz.sizeOf4;have v3:=Tryz.zeroValue4;have u3:=run_underlying Tryz.underlying4
 have t4:=Tryz.underlying175;have a4:=Tryz.isAgg175;have z4:=Tryz.sizeOf175;have v4:=Tryz.zeroValue175;have u4:=run_underlying Tryz.underlying175
 go_enter Tryz.func166,Tryz.ntmps166
 go_wp2
 rw [Lib.run_to_unsafe w ⟨b,0,none⟩ Tryz.underlying151 Tryz.underlying175 hj (by rw [hjs];decide) hsh (Nat.zero_lt_succ 1)]
 simp only [Result.andThen]
 rw [Oper.upon_value]
 go_wp2
 rw [run_callFunc_extern Tryz.func176 (by kernel_rfl) (by kernel_rfl) (by kernel_rfl) (e:=Extern.AbiNoEscape.same) (by kernel_rfl)]
 rw [Lib.run_noEscape]
 simp only [Result.andThen]
 rw [Oper.upon_value]
 go_wp2
 rw [Lib.run_from_unsafe w ⟨b,0,none⟩ Tryz.underlying175 Tryz.underlying151 hj hsh liesBld]
 simp only [Result.andThen]
 rw [Oper.upon_value]
 go_wp2
 go_end0
 exact ⟨rfl,rfl⟩
end Go.HH
namespace Go.HH
open Go Go.Proofs Go.RowKit
set_option maxRecDepth 100000
theorem ccP_inv {args:List PV} {bx bx':List PBox} {p:Bool} {v:PV} (h:ccP args bx=some (p,v,bx')):∃ id q,args=[.bp id 0]∧p=false∧v=.tup [] ∧
 ((bx[id]?=some (.cells 153 [.nilp,q])∧bx'=bx.set id (.cells 153 [.bp id 0,q]))∨(bx[id]?=some (.cells 153 [.bp id 0,q])∧bx'=bx)):=by
 unfold ccP at h
 split at h
 · rename_i id
   split at h
   · rename_i t q hb
     split at h
     · rename_i ht
       subst ht
       injection h with h
       injection h with h1 h
       injection h with h2 h3
       exact ⟨id,q,rfl,h1.symm,h2.symm,.inl ⟨hb,h3.symm⟩⟩
     · cases h
   · rename_i t id' q hb
     split at h
     · rename_i ht
       obtain ⟨ht1,ht2⟩:=ht
       subst ht1 ht2
       injection h with h
       injection h with h1 h
       injection h with h2 h3
       exact ⟨_,q,rfl,h1.symm,h2.symm,.inr ⟨hb,h3.symm⟩⟩
     · cases h
   · cases h
 · cases h
theorem bstrP_inv {args:List PV} {bx bx':List PBox} {p:Bool} {v:PV} (h:bstrP args bx=some (p,v,bx')):∃ id q,args=[.bp id 0]∧p=false ∧
 ((bx[id]?=some (.cells 153 [q,.nils])∧v=.str []∧bx'=bx) ∨
  (∃ xs l,bx[id]?=some (.cells 153 [q,.osl 5 xs])∧xs≠[]∧xs.all byteV=true∧bytesOf xs=some l∧v=.str l∧bx'=bx.set id (.cells 153 [q,.sl xs]))):=by
 unfold bstrP at h
 split at h
 · rename_i id
   split at h
   · rename_i t q hb
     split at h
     · rename_i ht
       subst ht
       injection h with h
       injection h with h1 h
       injection h with h2 h3
       exact ⟨id,q,rfl,h1.symm,.inl ⟨hb,h2.symm,h3.symm⟩⟩
     · cases h
   · rename_i t q e xs hb
     split at h
     · rename_i ht
       obtain ⟨ht1,ht2,ht3,ht4⟩:=ht
       subst ht1 ht2
       obtain ⟨l,hl,h⟩:=Option.map_eq_some_iff.1 h
       injection h with h1 h
       injection h with h2 h3
       exact ⟨id,q,rfl,h1.symm,.inr ⟨xs,l,hb,(fun e=>by subst e;cases ht3),ht4,hl,h2.symm,h3.symm⟩⟩
     · cases h
   · cases h
 · cases h
theorem bytes_at:∀ (xs:List PV) (l:List UInt8),xs.all byteV=true->bytesOf xs=some l->xs=l.map fun b=>PV.int .u8 (b.toNat:Int)
 | [],l,_,h=>by injection h with h;subst h;rfl
 | v :: r,l,ha,h=>by
  simp only [List.all_cons,Bool.and_eq_true] at ha
  obtain ⟨hv,hr⟩:=ha
  unfold byteV at hv
  split at hv
  · rename_i n
    simp only [Bool.and_eq_true,decide_eq_true_eq] at hv
    unfold bytesOf at h
    obtain ⟨l',hl',rfl⟩:=Option.map_eq_some_iff.1 h
    have ih:=bytes_at r l' hr hl'
    rw [List.map_cons,<- ih]
    congr 2
    rw [UInt8.toNat_ofNat']
    omega
  · cases hv
theorem flat_bytes (l:List UInt8):flat (l.map fun b=>PV.int .u8 (b.toNat:Int))=l.map fun b=>PV.int .u8 (b.toNat:Int):=by
 induction l with
 | nil=>rfl
 | cons b r ih=>
  show PV.cells (PV.int .u8 (b.toNat:Int))++flat (r.map fun b=>PV.int .u8 (b.toNat:Int))=_
  rw [ih]
  rfl
theorem freeze_cell (w:World) (g n:Nat) (a:Addr):(w.drew.freeze ⟨g,0,none⟩ n).cell? a=w.cell? a:=by
 unfold World.freeze
 split
 · rfl
 · unfold World.cell?
   simp only [Array.getElem?_modify]
   by_cases h:g=a.block
   · rw [if_pos h]
     show (match Option.map _ (w.heap[a.block]?) with | some (Obj.cells c _ _)=>_ | _=>none)=_
     cases w.heap[a.block]? with
     | none=>rfl
     | some o=>
      cases o with
      | cells c e f=>obtain ⟨lo,hi⟩:=f;rfl
      | _=>rfl
   · rw [if_neg h]
     rfl
theorem freeze_other (w:World) (g n k:Nat) (h:k≠g):(w.drew.freeze ⟨g,0,none⟩ n).heap[k]?=w.heap[k]?:=by
 unfold World.freeze
 split
 · rfl
 · simp only
   rw [Array.getElem?_modify,if_neg (fun e=>h e.symm)]
   rfl
theorem freeze_size (w:World) (g n:Nat):(w.drew.freeze ⟨g,0,none⟩ n).heap.size=w.heap.size:=by
 unfold World.freeze
 split
 · rfl
 · simp only [Array.size_modify]
   rfl
theorem setCell_heap {w:World} {b:Nat} {c:Array Value} {t:TypeId} {f:Nat×Nat} (h:w.heap[b]?=some (.cells c t f)) (v:Value):(w.setCell ⟨b,0,none⟩ v).heap[b]?=some (.cells (c.setIfInBounds 0 v) t f):=by
 simp [World.setCell,Array.getElem?_modify,h]
theorem setCell_heap_other {w:World} {b k:Nat} (v:Value) (h:k≠b):(w.setCell ⟨b,0,none⟩ v).heap[k]?=w.heap[k]?:=by
 simp only [World.setCell,Array.getElem?_modify]
 rw [if_neg (fun e=>h e.symm)]
theorem two_of {c:Array Value} (h:c.size=2):∃ p q,c=#[p,q]:=⟨c[0],c[1],by apply Array.ext;simp [h];intro i h1 h2;match i with | 0=>rfl | 1=>rfl | n+2=>omega⟩
theorem repL_one' {S:Store} {M:List Nat} {p:PV} {vs:List Value} (h:RepL S M [p] vs):∃ v,vs=[v]∧Rep S M p v:=by
 match vs,h with
 | [v],h=>exact ⟨v,rfl,h.2 0 (by simp) (by simp)⟩
 | [],h=>have:=h.1;cases this
 | _ :: _ :: _,h=>have:=h.1;simp at this
theorem hb_cc (args:List PV) (bx:List PBox) (p:Bool) (v:PV) (bx':List PBox) (h:ccP args bx=some (p,v,bx')) :
 HasBody CC.P 166∧((∀ p ∈ args,∀ t xs,p≠.osl t xs) ->
  ∀ (B:Nat) (T:Nat->Prop) (S:Store) (M:List Nat) (vs:List Value) (w:World),HSim CC B T S M bx w->RepL S M args vs ->
   Calls CC.P 166 vs.toArray w fun e w'=>∃ S' M',HSim CC B T S' M' bx' w'∧Grows B T S w S' w'∧M <+: M'∧Outcome S' M' (if p then .pan v else .ret v) e):=by
 obtain ⟨id,q,rfl,rfl,rfl,hcase⟩:=ccP_inv h
 refine ⟨⟨Tryz.f166,_,Tryz.func166,by kernel_rfl,rfl⟩,fun hno B T S M vs w hs hrep=>?_⟩
 obtain ⟨u,rfl,hu⟩:=repL_one' hrep
 obtain ⟨b,hm,rfl⟩:=hu.bp_inv
 have hbx:∃ p0,bx[id]?=some (.cells 153 [p0,q]):=by
  rcases hcase with ⟨h1,_⟩ | ⟨h1,_⟩
  · exact ⟨_,h1⟩
  · exact ⟨_,h1⟩
 rcases hcase with ⟨hb,rfl⟩ | ⟨hb,rfl⟩
 · obtain ⟨b',c,hm',hh,hl,h1,hr⟩:=BoxAt.getT hs hb
   rw [hm] at hm'
   injection hm' with hm'
   subst hm'
   obtain ⟨c0,c1,rfl⟩:=two_of hl
   have r0:=hr 0 (by simp) (by simp)
   have r1:=hr 1 (by simp) (by simp)
   simp only [List.getElem_cons_zero,List.getElem_cons_succ,List.getElem_toArray] at r0 r1
   have e0:c0=.pointer none:=by cases r0;rfl
   subst e0
   refine (cc_fresh b w (by rw [cell_of_heap hh] <;> rfl) (by simp [World.shape?,hh]) (by simp [World.frozen?,hh])).mono ?_
   rintro e w' ⟨rfl,rfl⟩
   have hid:id < bx.length:=(List.getElem?_eq_some_iff.1 hb).1
   have hh':=setCell_heap hh (.pointer (some ⟨b,0,none⟩))
   have hbox:BoxAt S M (w.setCell ⟨b,0,none⟩ (.pointer (some ⟨b,0,none⟩))) (.cells 153 [.bp id 0,q]) b:=by
    refine .cells _ _ b _ hh' rfl (fun i hi=>?_) (fun i hi hi'=>?_)
    · match i,hi with
      | 0,_=>rfl
      | 1,hi=>exact h1 1 (by simp)
    · match i,hi with
      | 0,_=>exact .bp id 0 b hm
      | 1,_=>exact r1
   obtain ⟨g1,g2⟩:=Sim.setBoxObj hs hm hid hbox rfl rfl rfl (by simp [World.setCell]) (fun k hk=>setCell_heap_other _ hk) (fun t cs off e xs v hx hc hv=>by
    injection hx with _ hx
    subst hx
    match off,hc with
    | 0,hc=>cases hc
    | 1,hc=>
     left
     injection hc with hc
     subst hc
     refine ⟨_,b,by unfold boxCells;rw [hb],rfl,hm,?_⟩
     rw [cell_of_heap hh'] at hv
     rw [cell_of_heap hh]
     exact hv
    | n+2,hc=>cases hc)
   exact ⟨S,M,g1,g2,List.prefix_refl _,show Outcome S M (.ret (.tup [])) _ from ⟨fun t xs h=>(by cases h),_,rfl,.tup _ _ rfl (fun i h=>by simp at h)⟩⟩
 · obtain ⟨b',c,hm',hh,hl,h1,hr⟩:=BoxAt.getT hs hb
   rw [hm] at hm'
   injection hm' with hm'
   subst hm'
   obtain ⟨c0,c1,rfl⟩:=two_of hl
   have r0:=hr 0 (by simp) (by simp)
   simp only [List.getElem_cons_zero,List.getElem_toArray] at r0
   obtain ⟨b2,hm2,e0⟩:=r0.bp_inv
   rw [hm] at hm2
   injection hm2 with hm2
   subst hm2
   subst e0
   refine (cc_used b w (by rw [cell_of_heap hh] <;> rfl)).mono ?_
   rintro e w' ⟨rfl,rfl⟩
   exact ⟨S,M,hs,Grows.refl _ _ _ _,List.prefix_refl _,show Outcome S M (.ret (.tup [])) _ from ⟨fun t xs h=>(by cases h),_,rfl,.tup _ _ rfl (fun i h=>by simp at h)⟩⟩
theorem infoByte:∃ i,Tryz.prog.info? 5=some i∧i.size=1:=⟨(Tryz.prog.info? 5).getD default,by kernel_rfl,by kernel_rfl⟩
theorem hb_str (args:List PV) (bx:List PBox) (p:Bool) (v:PV) (bx':List PBox) (h:bstrP args bx=some (p,v,bx')) :
 HasBody CC.P 157∧((∀ p ∈ args,∀ t xs,p≠.osl t xs) ->
  ∀ (B:Nat) (T:Nat->Prop) (S:Store) (M:List Nat) (vs:List Value) (w:World),HSim CC B T S M bx w->RepL S M args vs ->
   Calls CC.P 157 vs.toArray w fun e w'=>∃ S' M',HSim CC B T S' M' bx' w'∧Grows B T S w S' w'∧M <+: M'∧Outcome S' M' (if p then .pan v else .ret v) e):=by
 obtain ⟨id,q,rfl,rfl,hcase⟩:=bstrP_inv h
 refine ⟨⟨Tryz.f157,_,Tryz.func157,by kernel_rfl,rfl⟩,fun hno B T S M vs w hs hrep=>?_⟩
 obtain ⟨u,rfl,hu⟩:=repL_one' hrep
 obtain ⟨b,hm,rfl⟩:=hu.bp_inv
 rcases hcase with ⟨hb,rfl,rfl⟩ | ⟨xs,l,hb,hne,hall,hby,rfl,rfl⟩
 · obtain ⟨b',c,hm',hh,hl,h1,hr⟩:=BoxAt.getT hs hb
   rw [hm] at hm'
   injection hm' with hm'
   subst hm'
   obtain ⟨c0,c1,rfl⟩:=two_of hl
   have r1:=hr 1 (by simp) (by simp)
   simp only [List.getElem_cons_zero,List.getElem_cons_succ,List.getElem_toArray] at r1
   have e1:c1=.slice none 0 0:=r1.nils_inv
   subst e1
   refine (bstr_nil Tryz.lays169 Tryz.Builder_Extra_169 b c0 w hh).mono ?_
   rintro e w' ⟨rfl,rfl⟩
   refine ⟨S,M,?_,?_,List.prefix_refl _,show Outcome S M (.ret (.str [])) _ from ⟨fun t xs h=>(by cases h),_,rfl,.str []⟩⟩
   · exact (Sim.touch hs none (fun k h=>by cases h) (fun _ _ _ _ _ _ _ h=>by cases h) (fun k h=>by cases h) (S':=S) (w':=w.drew) rfl rfl rfl (Nat.le_refl _) (fun _ _ _=>rfl) (Store.le.refl _) (fun _ _ _ _=>rfl) (fun b o v h=>hs.holds b o v h)).1
   · exact (Sim.touch hs none (fun k h=>by cases h) (fun _ _ _ _ _ _ _ h=>by cases h) (fun k h=>by cases h) (S':=S) (w':=w.drew) rfl rfl rfl (Nat.le_refl _) (fun _ _ _=>rfl) (Store.le.refl _) (fun _ _ _ _=>rfl) (fun b o v h=>hs.holds b o v h)).2
 · obtain ⟨b',c,hm',hh,hl,h1,hr⟩:=BoxAt.getT hs hb
   rw [hm] at hm'
   injection hm' with hm'
   subst hm'
   obtain ⟨c0,c1,rfl⟩:=two_of hl
   have r1:=hr 1 (by simp) (by simp)
   simp only [List.getElem_cons_zero,List.getElem_cons_succ,List.getElem_toArray] at r1
   have hbc:boxCells bx id=some [q,.osl 5 xs]:=by unfold boxCells;rw [hb]
   have hloc:LocAt ⟨[],bx⟩ M ⟨#[],[]⟩ w (.box id 1) (.osl 5 xs) c1:=⟨_,b,hbc,rfl,hm,by rw [cell_of_heap hh];rfl⟩
   obtain ⟨⟨i,vals,hi,hrow,hxs,hgM⟩,hBT⟩:=hs.own _ _ _ _ hloc
   obtain ⟨i',hi',hi1⟩:=infoByte
   have hii:i=i':=Option.some.inj (hi.symm.trans hi')
   subst hii
   rw [hi1] at hrow
   have hxl:=bytes_at xs l hall hby
   have hlen:xs.length=l.length:=by rw [hxl];simp
   have hl0:l≠[]:=fun e=>hne (by rw [hxl,e] <;> rfl)
   have hrs:Rep S M (.sl xs) c1:=by cases r1 with | osl _ _ _ h=>exact h
   rcases hrow.2 with ⟨hz,hz2⟩ | ⟨g,cap,cur,hv,_,hg,hnc,hcm,hcs,htake⟩
   · exfalso
     have:l.length=0:=by omega
     exact hl0 (List.length_eq_zero_iff.1 this)
   · subst hv
     have hat:∀ j x,l[j]?=some x->w.cell? ⟨g,j,none⟩=some (.int .u8 x.toNat):=by
      intro j x hj
      have hjl:j < l.length:=(List.getElem?_eq_some_iff.1 hj).1
      have hfl:flat xs=xs:=by rw [hxl];exact flat_bytes l
      generalize hval:Value.slice (some ⟨g,0,none⟩) xs.length cap=sv at hrs
      cases hrs with
      | slE=>exact absurd rfl hne
      | sl _ b0 o0 cap0 f0 hc hz hsS h1' hr'=>
       injection hval with hv1 hv2 hv3
       injection hv1 with hv1
       injection hv1 with hv4 hv5 hv6
       subst hv4
       subst hv5
       have hj':j < (flat xs).length:=by rw [hfl,hlen];exact hjl
       have a1:=hsS j hj'
       have a2:=hr' j hj'
       have a3:(flat xs)[j]?=some (.int .u8 (x.toNat:Int)):=by
        rw [hfl,hxl,List.getElem?_map,hj]
        rfl
       rw [List.getElem?_eq_getElem hj'] at a3
       injection a3 with a3
       rw [a3] at a2
       rw [Nat.zero_add] at a1
       have a4:=hs.holds _ _ _ a1
       generalize f0 j=fv at a2 a4
       cases a2 with
       | int=>exact a4
     rw [hlen] at hh hnc
     refine (bstr_row Tryz.lays169 Tryz.Builder_Extra_169 b g cap c0 cur (0,0) l w hl0 hnc hcm (by omega) hh hg hat).mono ?_
     rintro e w' ⟨rfl,rfl⟩
     have hval:locVal ⟨[],bx⟩ (.box id 1)=.osl 5 xs:=by unfold locVal;simp only [hbc];rfl
     obtain ⟨k1,k2⟩:=Sim.roLoc hs (.box id 1) hval
     have hst:setLoc ⟨[],bx⟩ (.box id 1) (.sl xs)=⟨[],bx.set id (.cells 153 [q,.sl xs])⟩:=by
      unfold setLoc setBox
      simp only [hb]
      rfl
     rw [hst] at k1 k2
     have hown:(Value.slice (some ⟨g,0,none⟩) xs.length cap).ownBlock=some g:=rfl
     have tt:=Sim.touch k1 (some g) (fun k h=>by injection h with h;subst h;exact (hgM g hown).1)
      (fun l' e' xs' v' k hl' hv' hgk=>by
       injection hgk with hgk
       subst hgk
       obtain ⟨m1,m2⟩:=k2 l' e' xs' v' hl'
       exact m2 (hs.apart _ _ _ _ _ _ _ _ g m1 hloc hv' hown))
      (fun k h=>by injection h with h;subst h;exact hBT g hown)
      (S':=S) (w':=w.drew.freeze ⟨g,0,none⟩ l.length) (by unfold World.freeze;split <;> rfl) (by unfold World.freeze;split <;> rfl) (by unfold World.freeze;split <;> rfl)
      (by rw [freeze_size];exact Nat.le_refl _) (fun k _ hk=>freeze_other w g l.length k (fun e=>hk (by rw [e]))) (Store.le.refl _) (fun _ _ _ _=>rfl)
      (fun b o v h=>by rw [freeze_cell];exact hs.holds b o v h)
     exact ⟨S,M,tt.1,tt.2,List.prefix_refl _,show Outcome S M (.ret (.str l)) _ from ⟨fun t xs h=>(by cases h),_,rfl,.str l⟩⟩
theorem hprimSound:HPrimSound CC:=by
 intro f g hg
 have hg':(if f=166 then some ccP else if f=157 then some bstrP else none)=some g:=hg
 split at hg'
 · rename_i h
   subst h
   injection hg' with hg'
   subst hg'
   exact hb_cc
 · split at hg'
   · rename_i h
     subst h
     injection hg' with hg'
     subst hg'
     exact hb_str
   · cases hg'
end Go.HH
namespace Go.HH
open Go Go.Proofs Go.RowKit
open Go.Sort
set_option maxRecDepth 100000
theorem gPow:Tryz.prog.globalNamed "internal/strconv.uint64pow10"=some 1:=by kernel_rfl
theorem pow10_rep {S:Store} {w:World} (h:Rep S [] (.ip pow10P) (.pointer (some ⟨1,0,none⟩))) (hS:∀ b o v,S b o=some v->w.cell? ⟨b,o,none⟩=some v) :
 ∀ i z,Lib.pow10Tab[i]?=some z->w.cell? ⟨1,i,none⟩=some (.int .u64 z):=by
 intro i z hi
 cases h with
 | ip _ _ _ f hs _ hr=>
  have hl:i < pow10P.length:=by
   have:=(List.getElem?_eq_some_iff.1 hi).1
   simpa [pow10P] using this
  have h1:=hs i hl
  have h2:=hr i hl
  have h3:pow10P[i]=.int .u64 z:=by
   have hlt:=(List.getElem?_eq_some_iff.1 hi).1
   have:Lib.pow10Tab[i]=z:=(List.getElem?_eq_some_iff.1 hi).2
   simp [pow10P,this]
  rw [h3] at h2
  rw [Nat.zero_add] at h1
  have:=hS _ _ _ h1
  generalize f i=v at h2 this
  cases h2 with
  | int k n=>exact this
theorem tab_of {S:Store} {w:World} (h:Rep S [] (.ip pow10P) (.pointer (some ⟨1,0,none⟩))) (hS:∀ b o v,S b o=some v->w.cell? ⟨b,o,none⟩=some v)
 (hw:∃ c e f,w.heap[1]?=some (.cells c e f)∧c.size=pow10P.length):Lib.TabIs Tryz.prog w "internal/strconv.uint64pow10" .u64 Lib.pow10Tab:=by
 obtain ⟨c,e,f,h1,h2⟩:=hw
 unfold Lib.TabIs World.var?
 rw [gPow]
 simp only [Option.bind_some,h1]
 congr 1
 apply Array.ext
 · rw [h2];simp [pow10P]
 · intro i hi hi'
   simp at hi'
   have h3:=pow10_rep h hS i (Lib.pow10Tab[i]) (List.getElem?_eq_getElem hi')
   rw [cell_of_heap h1] at h3
   rw [Array.getElem?_eq_getElem hi] at h3
   injection h3 with h3
   rw [h3]
   simp
theorem kept_grow {S:Store} {w:World} (k:Nat) (os:Array Obj) (hS:∀ b o v,S b o=some v->w.cell? ⟨b,o,none⟩=some v):Kept S w S (grow (w.drewN k) os):=by
 have hb:∀ j,j < w.heap.size->(grow (w.drewN k) os).heap[j]?=w.heap[j]?:=fun j hj=>by
  show (w.heap++os)[j]?=_
  rw [Array.getElem?_append_left hj]
 refine ⟨rfl,rfl,rfl,by show w.heap.size<=(w.heap++os).size;simp,hb,Store.le.refl _,fun _ _ _=>rfl,fun b o v hv=>?_⟩
 have h1:=hS b o v hv
 rw [World.cell?_of_block (a:=⟨b,o,none⟩) (hb b (block_lt h1))]
 exact h1
theorem itoaP_inv {args:List PV} {r:PV} (h:itoaP args=some r):∃ n,args=[.int .i64 n]∧inI n∧r=.str (Lib.itoa n):=by
 unfold itoaP at h
 split at h
 · split at h
   · rename_i n _ hn
     injection h with h
     exact ⟨_,rfl,hn,h.symm⟩
   · cases h
 · cases h
def PrimOK (f:FuncId) (g:List PV->Option PV):Prop:=HasBody CC.P f∧∀ (args:List PV) (r:PV),g args=some r->(∀ t xs,r≠.osl t xs) ∧
 ∀ (S:Store) (vs:List Value) (w:World),(∀ b o v,S b o=some v->w.cell? ⟨b,o,none⟩=some v) ->
  (∀ g cs,CC.glob g=some cs->Rep S [] (.ip cs) (.pointer (some ⟨g,0,none⟩)))->(∀ g cs,CC.glob g=some cs->∃ c e f,w.heap[g]?=some (.cells c e f)∧c.size=cs.length)->RepL S [] args vs ->
  Calls CC.P f vs.toArray w fun e w'=>∃ S',Kept S w S' w'∧∃ v,e=.returned v∧Rep S' [] r v
theorem kept_same {S:Store} {w:World} (hS:∀ b o v,S b o=some v->w.cell? ⟨b,o,none⟩=some v):Kept S w S w:=⟨rfl,rfl,rfl,Nat.le_refl _,fun _ _=>rfl,Store.le.refl _,fun _ _ _=>rfl,hS⟩
theorem repL_one {S:Store} {p:PV} {vs:List Value} (h:RepL S [] [p] vs):∃ v,vs=[v]∧Rep S [] p v:=by
 match vs,h with
 | [v],h=>exact ⟨v,rfl,h.2 0 (by simp) (by simp)⟩
 | [],h=>have:=h.1;cases this
 | _ :: _ :: _,h=>have:=h.1;simp at this
theorem repL_two {S:Store} {p q:PV} {vs:List Value} (h:RepL S [] [p,q] vs):∃ v u,vs=[v,u]∧Rep S [] p v∧Rep S [] q u:=by
 match vs,h with
 | [v,u],h=>exact ⟨v,u,rfl,h.2 0 (by simp) (by simp),h.2 1 (by simp) (by simp)⟩
 | [],h=>have:=h.1;cases this
 | [_],h=>have:=h.1;simp at this
 | _ :: _ :: _ :: _,h=>have:=h.1;simp at this
theorem prim_Itoa:PrimOK 125 itoaP:=by
 refine ⟨⟨Tryz.f125,_,Tryz.func125,by kernel_rfl,rfl⟩,fun args r hr=>?_⟩
 obtain ⟨n,rfl,hn,rfl⟩:=itoaP_inv hr
 refine ⟨fun t xs h=>(by cases h),fun S vs w hS hgl hgw hrep=>?_⟩
 obtain ⟨v,rfl,h0⟩:=repL_one hrep
 cases h0 with
 | int=>
  refine (Tryz.strconv_Itoa n hn.1 hn.2 w (tab_of (hgl _ pow10P rfl) hS (hgw _ pow10P rfl))).mono ?_
  rintro e w' ⟨rfl,k,os,rfl⟩
  exact ⟨S,kept_grow k os hS,_,rfl,.str _⟩
theorem ixbP_inv {args:List PV} {r:PV} (h:ixbP args=some r):∃ s c,args=[.str s,.int .u8 c]∧r=.int .i64 (Lib.indexByte s c.toNat.toUInt8):=by
 unfold ixbP at h
 split at h
 · injection h with h
   exact ⟨_,_,rfl,h.symm⟩
 · cases h
theorem prim_IndexByte:PrimOK 136 ixbP:=by
 refine ⟨⟨Tryz.f136,_,Tryz.func136,by kernel_rfl,rfl⟩,fun args r hr=>?_⟩
 obtain ⟨s,c,rfl,rfl⟩:=ixbP_inv hr
 refine ⟨fun t xs h=>(by cases h),fun S vs w hS hgl hgw hrep=>?_⟩
 obtain ⟨v,u,rfl,h0,h1⟩:=repL_two hrep
 cases h0 with
 | str=>
  cases h1 with
  | int=>
   refine (Tryz.strings_IndexByte ⟨s.toArray⟩ c w).mono ?_
   rintro e w' ⟨rfl,rfl⟩
   exact ⟨S,kept_same hS,_,rfl,.int _ _⟩
theorem primSound:PrimSound CC:=by
 intro f g hg
 show PrimOK f g
 have hg':primCC f=some g:=hg
 unfold primCC at hg'
 split at hg'
 · rename_i h
   subst h
   injection hg' with hg'
   subst hg'
   exact prim_Itoa
 split at hg'
 · rename_i h
   subst h
   injection hg' with hg'
   subst hg'
   exact prim_IndexByte
 cases hg'
theorem glob_of {W:World} {c:Array Value} {e:TypeId} {f:Nat×Nat} (hh:W.heap[1]?=some (.cells c e f)) (hc:c.toList=Lib.pow10Tab.map fun z=>Value.int .u64 z) :
 (∃ c e f,W.heap[1]?=some (.cells c e f)∧c.size=pow10P.length)∧Rep (storeOf W) [] (.ip pow10P) (.pointer (some ⟨1,0,none⟩)):=by
 have hsz:c.size=pow10P.length:=by
  have:=congrArg List.length hc
  simpa [pow10P] using this
 have hat:∀ i,i < pow10P.length->W.cell? ⟨1,i,none⟩=some (.int .u64 (Lib.pow10Tab.getD i 0)):=fun i hi=>by
  rw [cell_of_heap hh]
  have hi':i < Lib.pow10Tab.length:=by simpa [pow10P] using hi
  have:c.toList[i]?=some (Value.int .u64 (Lib.pow10Tab.getD i 0)):=by
   rw [hc,List.getElem?_map,List.getElem?_eq_getElem hi',List.getD_eq_getElem?_getD,List.getElem?_eq_getElem hi']
   rfl
  simpa using this
 refine ⟨⟨c,e,f,hh,hsz⟩,.ip _ _ _ (fun i=>.int .u64 (Lib.pow10Tab.getD i 0)) (fun i hi=>?_) (fun i hi=>rfl) (fun i hi=>?_)⟩
 · rw [Nat.zero_add];exact hat i hi
 · have hi':i < Lib.pow10Tab.length:=by simpa [pow10P] using hi
   have h1:pow10P[i]?=some (.int .u64 (Lib.pow10Tab.getD i 0)):=by
    show (Lib.pow10Tab.map (PV.int .u64))[i]?=_
    rw [List.getElem?_map,List.getD_eq_getElem?_getD,List.getElem?_eq_getElem hi']
    rfl
   rw [List.getElem?_eq_getElem hi] at h1
   injection h1 with h1
   rw [h1]
   exact .int _ _
end Go.HH
namespace Go.Proofs.YthjcaihemgllaaaGreatDoor
open Go.ChangeShapes Go.WideShapes Go.ChangeAt Go.RowKit Go.HH
set_option linter.unusedVariables false
set_option maxRecDepth 100000
def laidL:List (String×DataW Unit):=[("math/bits.deBruijn32tab",Rows.laid_math_bits_deBruijn32tab),("math/bits.deBruijn64tab",Rows.laid_math_bits_deBruijn64tab),("internal/strconv.uint64pow10",Rows.laid_internal_strconv_uint64pow10)]
theorem door_met (os:Os) (args:Array Value):laidMetH Tryz.prog laidL ((World.doorLaid Tryz.prog 400 os).forCall (fun _ _=>0) ⟨#[],args,[]⟩).memory:=
 laidMetH_of_parts3 (fuel:=8) (laidMet_of_run' 8 (by kernel_rfl) (by kernel_rfl)) (by kernel_rfl) (by kernel_rfl)
theorem of_laid {W:World} (h:laidMetH Tryz.prog laidL W):(∃ c e f,W.heap[1]?=some (.cells c e f)∧c.size=pow10P.length)∧Rep (storeOf W) [] (.ip pow10P) (.pointer (some ⟨1,0,none⟩)):=by
 rw [MakeChecks.laidMetH_plain _ _ _ (by kernel_rfl)] at h
 obtain ⟨ps,⟨g0,t0,cs0,f0,p0,q0,hg0,ht0,hv0,hd0,⟨g1,t1,cs1,f1,p1,q1,hg1,ht1,hv1,hd1,⟨g2,t2,cs2,f2,p2,q2,hg2,ht2,hv2,hd2,_,_⟩,_⟩,_⟩,_,_⟩:=h
 obtain rfl:=Option.some.inj (gPow.symm.trans hg2)
 have hty:(Tryz.prog.globals[1]?).map (·.type)=some 178:=by kernel_rfl
 obtain rfl:=Option.some.inj (hty.symm.trans ht2)
 have hdat:(Rows.laid_internal_strconv_uint64pow10:DataW Unit)=Lib.tabData .u64 Lib.pow10Tab:=by kernel_rfl
 have hcs:=Lib.cells_of_tab (k:=.u64) (zs:=Lib.pow10Tab) (n:=20) Tryz.underlying178 Tryz.underlying170 (by kernel_rfl) (by kernel_rfl) (by rw [<- hdat];exact hd2)
 have hheap:∃ c e f,W.heap[1]?=some (.cells c e f)∧c.toList=Lib.pow10Tab.map fun z=>Value.int .u64 z:=by
  unfold World.var? at hv2
  rw [gPow] at hv2
  simp only [Option.bind_some] at hv2
  split at hv2
  · rename_i c e f hh
    injection hv2 with hv2
    exact ⟨c,e,f,hh,by rw [hv2];exact hcs⟩
  · cases hv2
 obtain ⟨c,e,f,hh,hc⟩:=hheap
 exact glob_of hh hc
end Go.Proofs.YthjcaihemgllaaaGreatDoor
