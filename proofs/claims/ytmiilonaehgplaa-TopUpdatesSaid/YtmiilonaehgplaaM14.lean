/-
  What the law needs, packed: Read.
-/
import Derived.ChangeShapes
import Derived.WideShapes
import Derived.OpenShut
import Derived.Test.YtmiilonaehgplaaM13
namespace Go.HH
open Go Go.RowKit Go.ChangeShapes Go.WideShapes
def plain1 (P:Program) (ts:List TypeId) (t:TypeId):Bool:=
 match P.underlying t with
 | some .bool | some (.int _) | some .string=>true
 | some (.slice e)=>ts.contains e && P.cellsOf e != 0
 | some (.struct fs)=>fs.toList.all (fun f=>ts.contains f.type) && (fs.toList.foldl (fun a f=>a.bind fun k=>if k=f.offset then some (k+P.cellsOf f.type) else none) (some 0) == some (P.cellsOf t))
 | some (.array n e)=>ts.contains e && P.cellsOf t == n * P.cellsOf e
 | _=>false
def plainIn (P:Program) (ts:List TypeId):Bool:=ts.all (plain1 P ts)
def aggT (P:Program) (t:TypeId):Bool:=match P.underlying t with
 | some (.struct _) | some (.array ..)=>true
 | _=>false
def mkV (P:Program) (t:TypeId) (cs:List PV):PV:=if aggT P t then .agg cs else cs.headD und
def HasT (P:Program):Nat->TypeId->List PV->Prop
 | 0,_,_=>False
 | n+1,t,pcs=>match P.underlying t with
  | some .bool=>∃ b,pcs=[.bool b]
  | some (.int k)=>∃ i,pcs=[.int k i]∧(Lit.int k i).wf=true
  | some .string=>∃ s:List UInt8,pcs=[.str s]∧s.length<=maxLen
  | some (.slice e)=>∃ xs:List PV,pcs=[.sl xs]∧xs.length<=maxLen∧∀ x ∈ xs,∃ cs,x=mkV P e cs∧cs.length=P.cellsOf e∧HasT P n e cs
  | some (.struct fs)=>∀ f ∈ fs.toList,HasT P n f.type ((pcs.drop f.offset).take (P.cellsOf f.type))
  | some (.array k e)=>∀ i,i < k->HasT P n e ((pcs.drop (i * P.cellsOf e)).take (P.cellsOf e))
  | _=>False
def HasV (P:Program) (t:TypeId) (v:PV):Prop:=∃ n cs,v=mkV P t cs∧(aggT P t=true->cs.length=P.cellsOf t)∧HasT P n t cs
def storeOf (w:World):Store:=fun b o=>w.cell? ⟨b,o,none⟩
def Cells2 (w:World) (pcs:List PV) (cs:List Value):Prop:=
 pcs.length=cs.length∧∀ i (h:i < pcs.length) (h':i < cs.length),(cs[i]).oneCell'=true∧Rep (storeOf w) [] pcs[i] cs[i]
theorem flat_get {xs:List PV} {sz:Nat} (h:∀ x ∈ xs,x.cells.length=sz) {i j:Nat} (hi:i < xs.length) (hj:j < sz):(flat xs)[i * sz+j]?=(xs[i]).cells[j]?:=by
 rw [<- List.getElem?_drop,flat_take_drop xs i sz h (Nat.le_of_lt hi),List.drop_eq_getElem_cons hi]
 have:(xs[i]).cells.length=sz:=h _ (List.getElem_mem hi)
 simp only [flat,List.flatMap_cons]
 rw [List.getElem?_append_left (by omega)]
theorem HasT.one {P:Program} {n:Nat} {t:TypeId} {cs:List PV} (h:HasT P n t cs) (ha:aggT P t=false):∃ v,cs=[v]∧v.cells=[v]:=by
 cases n with
 | zero=>exact h.elim
 | succ n=>
  unfold HasT at h
  unfold aggT at ha
  split at h
  · obtain ⟨b,rfl⟩:=h;exact ⟨_,rfl,rfl⟩
  · obtain ⟨b,rfl,_⟩:=h;exact ⟨_,rfl,rfl⟩
  · obtain ⟨b,rfl,_⟩:=h;exact ⟨_,rfl,rfl⟩
  · obtain ⟨b,rfl,_⟩:=h;exact ⟨_,rfl,rfl⟩
  · rename_i hu;rw [hu] at ha;simp at ha
  · rename_i hu;rw [hu] at ha;simp at ha
  · exact h.elim
theorem HasT.mkV_cells {P:Program} {n:Nat} {t:TypeId} {cs:List PV} (h:HasT P n t cs):(mkV P t cs).cells=cs:=by
 unfold mkV
 split
 · rfl
 · rename_i ha
   obtain ⟨v,rfl,hv⟩:=h.one (by simpa using ha)
   exact hv
theorem Cells2.one {w:World} {p:PV} {v:Value} (h1:v.oneCell'=true) (h:Rep (storeOf w) [] p v):Cells2 w [p] [v]:=
 ⟨rfl,fun i hi _=>by
  have:i=0:=by simpa using hi
  subst this
  exact ⟨h1,h⟩⟩
theorem Cells2.append {w:World} {p q:List PV} {a b:List Value} (h:Cells2 w p a) (k:Cells2 w q b):Cells2 w (p++q) (a++b):=by
 refine ⟨by simp [h.1,k.1],fun i hi hi'=>?_⟩
 have hl:=h.1
 by_cases hc:i < p.length
 · rw [List.getElem_append_left hc,List.getElem_append_left (by omega)]
   exact h.2 i hc (by omega)
 · rw [List.getElem_append_right (by omega),List.getElem_append_right (by omega)]
   have:=h.2
   have hk:=k.2 (i - p.length) (by simp at hi;omega) (by simp at hi';omega)
   simpa only [hl] using hk
theorem parts_cells {α:Type} (off sz:α->Nat) {w:World} {cs:List Value} (Q:α->List PV->Prop):∀ (ps:List α) (k m:Nat),
 (ps.foldl (fun a p=>a.bind fun k=>if k=off p then some (k+sz p) else none) (some k)=some m)->m<=cs.length ->
 (∀ p ∈ ps,∃ q,Cells2 w q ((cs.drop (off p)).take (sz p))∧Q p q)->k<=m ∧
 ∃ pcs:List PV,Cells2 w pcs ((cs.drop k).take (m - k))∧∀ p ∈ ps,k<=off p∧off p+sz p<=m∧Q p ((pcs.drop (off p - k)).take (sz p))
 | [],k,m,hf,_,_=>by
  simp at hf
  subst hf
  exact ⟨Nat.le_refl _,[],⟨by simp,fun i hi=>by simp at hi⟩,fun p hp=>by simp at hp⟩
 | x :: ps,k,m,hf,hm,hq=>by
  simp only [List.foldl_cons,Option.bind_some] at hf
  by_cases hk:k=off x
  · rw [if_pos hk] at hf
    obtain ⟨q,hq1,hq2⟩:=hq x (by simp)
    obtain ⟨hle,pcs,hp1,hp2⟩:=parts_cells off sz Q ps (k+sz x) m hf hm (fun p hp=>hq p (by simp [hp]))
    have hql:q.length=sz x:=by
     have:=hq1.1
     simp at this
     omega
    refine ⟨by omega,q++pcs,?_,?_⟩
    · rw [<- hk] at hq1
      have:=Cells2.append hq1 hp1
      have he:(cs.drop k).take (m - k)=(cs.drop k).take (sz x)++(cs.drop (k+sz x)).take (m - (k+sz x)):=by
       have e1:m - k=sz x+(m - (k+sz x)):=by omega
       rw [e1,List.take_add,List.drop_drop]
      rw [he]
      exact this
    · intro p hp
      rcases List.mem_cons.1 hp with rfl | hp
      · refine ⟨by omega,by omega,?_⟩
        rw [<- hk]
        simp only [Nat.sub_self,List.drop_zero]
        rw [List.take_append_of_le_length (by omega),List.take_of_length_le (by omega)]
        exact hq2
      · obtain ⟨a,b,c⟩:=hp2 p hp
        refine ⟨by omega,b,?_⟩
        have:off p - k=q.length+(off p - (k+sz x)):=by omega
        rw [this,List.drop_append]
        have e2:q.drop (q.length+(off p - (k+sz x)))=[]:=List.drop_eq_nil_of_le (by omega)
        rw [e2,List.nil_append]
        have e3:q.length+(off p - (k+sz x)) - q.length=off p - (k+sz x):=by omega
        rw [e3]
        exact c
  · rw [if_neg hk] at hf
    have:∀ (l:List α),l.foldl (fun (a:Option Nat) p=>a.bind fun k=>if k=off p then some (k+sz p) else none) none=none:=by
     intro l
     induction l with
     | nil=>rfl
     | cons x r ih=>simpa using ih
    rw [this] at hf
    cases hf
theorem range_fold (z:Nat):∀ (n k:Nat),(List.range' k n).foldl (fun (a:Option Nat) i=>a.bind fun m=>if m=i * z then some (m+z) else none) (some (k * z))=some ((k+n) * z)
 | 0,k=>by simp
 | n+1,k=>by
  rw [List.range'_succ,List.foldl_cons]
  simp only [Option.bind_some,if_true]
  have:=range_fold z n (k+1)
  rw [Nat.succ_mul] at this
  rw [this]
  congr 2
  omega
theorem cs_all_take {cs:List Value} {m:Nat} (h:cs.length=m):(cs.drop 0).take (m - 0)=cs:=by
 simp [<- h]
theorem read_pure {H:Type} {enc:TypeId×Value->H} {P:Program} {w:World} {spare:Nat->Bool} {held:Bool} {ts:List TypeId} (hts:plainIn P ts=true):∀ (fuel:Nat) (t:TypeId) (cs:List Value) (r:DataW H×List MemPlace),t ∈ ts ->
 DataW.trod enc P w 0 spare held fuel t cs=some r->∃ pcs,Cells2 w pcs cs∧HasT P fuel t pcs
 | 0,_,_,_,_,h=>by simp [DataW.trod] at h
 | n+1,t,cs,r,ht,h=>by
  have IH:=fun (t:TypeId) (cs:List Value) (r) (ht:t ∈ ts) h=>read_pure (enc:=enc) (w:=w) (spare:=spare) (held:=held) hts n t cs r ht h
  have hpl:plain1 P ts t=true:=by
   unfold plainIn at hts
   rw [List.all_eq_true] at hts
   exact hts t ht
  unfold plain1 at hpl
  unfold HasT
  split at hpl
  · rename_i hu
    obtain ⟨b,rfl,_⟩:=DataW.trod_bool hu h
    exact ⟨_,.one rfl (.bool _),_,rfl⟩
  · rename_i k hu
    obtain ⟨b,rfl,_,hw⟩:=DataW.trod_int hu h
    exact ⟨_,.one rfl (.int _ _),_,rfl,hw⟩
  · rename_i hu
    obtain ⟨s,rfl,_,hw⟩:=DataW.trod_string hu h
    refine ⟨_,.one rfl ?_,s.data.toList,rfl,?_⟩
    · have:=Rep.str (S:=storeOf w) (M:=[]) s.data.toList
      simpa using this
    · rw [Array.length_toList];exact hw
  · rename_i e hu
    simp only [Bool.and_eq_true,List.contains_iff_mem,bne_iff_ne] at hpl
    rcases DataW.trod_slice hu h with ⟨rfl,_⟩ | ⟨a,len,cap,elems,rest,m,hm,rfl,_,_,hlc,hcap,hel,hall,_,_⟩
    · exact ⟨_,.one rfl (.slE none 0),[],rfl,by simp,fun x hx=>by simp at hx⟩
    · obtain rfl:n=m:=by omega
      have key:∀ i,∃ q:List PV,i < len->∃ csi,w.cells? 0 (a.add (i * P.cellsOf e)) (P.cellsOf e)=some csi∧Cells2 w q csi∧HasT P n e q:=by
       intro i
       by_cases hi:i < len
       · have:=hall i hi
         rw [List.getElem?_eq_getElem (by omega)] at this
         obtain ⟨csi,h1,h2⟩:=Option.bind_eq_some_iff.1 this
         obtain ⟨q,hq,hT⟩:=IH e csi _ hpl.1 h2
         exact ⟨q,fun _=>⟨csi,h1,hq,hT⟩⟩
       · exact ⟨[],fun h=>absurd h hi⟩
      have ⟨g,hg⟩:=Classical.axiomOfChoice key
      cases Nat.eq_zero_or_pos len with
      | inl h0=>
       subst h0
       exact ⟨_,.one rfl (.slE (some a) cap),[],rfl,by simp,fun x hx=>by simp at hx⟩
      | inr h0=>
       have hc0:0 < P.cellsOf e:=by omega
       have hspot:a.spot=none:=by
        obtain ⟨c0,h1,h2,_⟩:=hg 0 h0
        obtain ⟨_,hl,hc⟩:=World.cells?_some h1
        have h3:=hc 0 hc0
        rw [List.getElem?_eq_getElem (by omega)] at h3
        have:=World.cell?_spot h3
        simpa [Addr.add] using this
       obtain ⟨b,off,spot⟩:=a
       simp only at hspot
       subst hspot
       have add_plain:∀ k j,(⟨b,off,none⟩:Addr).add k=⟨b,off+k,none⟩∧((⟨b,off,none⟩:Addr).add k).add j=⟨b,off+k+j,none⟩:=by
        intro k j
        constructor
        · unfold Addr.add;split <;> simp_all
        · unfold Addr.add;split <;> split <;> simp_all
       have hcells:∀ i,i < len->(mkV P e (g i)).cells=g i:=fun i hi=>by
        obtain ⟨_,_,_,hT⟩:=hg i hi
        exact hT.mkV_cells
       have hgl:∀ i,i < len->(g i).length=P.cellsOf e:=fun i hi=>by
        obtain ⟨c,h1,h2,_⟩:=hg i hi
        rw [h2.1]
        exact (World.cells?_some h1).2.1
       let xs:=(List.range len).map fun i=>mkV P e (g i)
       have hxl:xs.length=len:=by simp [xs]
       have hsz:∀ x ∈ xs,x.cells.length=P.cellsOf e:=by
        intro x hx
        simp only [xs,List.mem_map,List.mem_range] at hx
        obtain ⟨i,hi,rfl⟩:=hx
        rw [hcells i hi,hgl i hi]
       have hcellAt:∀ i,i < len->∀ j,j < P.cellsOf e->∃ v,w.cell? ⟨b,off+(i * P.cellsOf e+j),none⟩=some v∧v.oneCell'=true∧∃ p,(flat xs)[i * P.cellsOf e+j]?=some p∧Rep (storeOf w) [] p v:=by
        intro i hi j hj
        obtain ⟨csi,h1,h2,hT⟩:=hg i hi
        obtain ⟨_,hl,hc⟩:=World.cells?_some h1
        have h3:=hc j hj
        rw [(add_plain _ _).2,List.getElem?_eq_getElem (by omega)] at h3
        have h4:=h2.2 j (by rw [hgl i hi];exact hj) (by omega)
        refine ⟨_,by rw [<- Nat.add_assoc];exact h3,h4.1,(g i)[j]'(by rw [hgl i hi];exact hj),?_,h4.2⟩
        rw [flat_get hsz (by omega) hj]
        simp only [xs,List.getElem_map,List.getElem_range,hcells i hi]
        rw [List.getElem?_eq_getElem]
       have hfl:(flat xs).length=len * P.cellsOf e:=by rw [flat_length hsz,hxl]
       have hdiv:∀ i,i < (flat xs).length->i / P.cellsOf e < len∧i % P.cellsOf e < P.cellsOf e∧i / P.cellsOf e * P.cellsOf e+i % P.cellsOf e=i:=by
        intro i hi
        rw [hfl] at hi
        exact ⟨by rw [Nat.div_lt_iff_lt_mul hc0];exact hi,Nat.mod_lt _ hc0,by rw [Nat.mul_comm];exact Nat.div_add_mod i _⟩
       refine ⟨[.sl xs],.one rfl ?_,xs,rfl,by omega,?_⟩
       · have hrep:=Rep.sl (S:=storeOf w) (M:=[]) xs b off cap (fun i=>(w.cell? ⟨b,off+i,none⟩).getD undef) (by omega) ⟨_,hsz⟩ ?_ ?_ ?_
         · rw [hxl] at hrep;exact hrep
         · intro i hi
           obtain ⟨d1,d2,d3⟩:=hdiv i hi
           obtain ⟨v,hv,_⟩:=hcellAt _ d1 _ d2
           rw [d3] at hv
           simp only [storeOf,hv,Option.getD_some]
         · intro i hi
           obtain ⟨d1,d2,d3⟩:=hdiv i hi
           obtain ⟨v,hv,h1,_⟩:=hcellAt _ d1 _ d2
           rw [d3] at hv
           simp only [hv,Option.getD_some,h1]
         · intro i hi
           obtain ⟨d1,d2,d3⟩:=hdiv i hi
           obtain ⟨v,hv,h1,p,hp,hr⟩:=hcellAt _ d1 _ d2
           rw [d3] at hv hp
           rw [List.getElem?_eq_getElem hi] at hp
           injection hp with hp
           simp only [hv,Option.getD_some,hp]
           exact hr
       · intro x hx
         simp only [xs,List.mem_map,List.mem_range] at hx
         obtain ⟨i,hi,rfl⟩:=hx
         obtain ⟨_,_,_,hT⟩:=hg i hi
         exact ⟨_,rfl,hgl i hi,hT⟩
  · rename_i fs hu
    simp only [Bool.and_eq_true,List.all_eq_true,List.contains_iff_mem,beq_iff_eq] at hpl
    obtain ⟨xs,m,hm,_,hl,hxl,hall⟩:=DataW.trod_struct hu h
    obtain rfl:n=m:=by omega
    have:=(parts_cells (fun f:Field=>f.offset) (fun f=>P.cellsOf f.type) (w:=w) (cs:=cs) (fun f q=>HasT P n f.type q) fs.toList 0 (P.cellsOf t) hpl.2 (by omega) ?_).2
    · obtain ⟨pcs,h1,h2⟩:=this
      rw [cs_all_take hl] at h1
      exact ⟨pcs,h1,fun f hf=>(h2 f hf).2.2⟩
    · intro f hf
      obtain ⟨i,hi,hfi⟩:=List.getElem_of_mem hf
      have hr:=hall i f (by rw [<- hfi];simp at hi;simp [hi])
      rw [List.getElem?_eq_getElem (by simp at hi;omega)] at hr
      exact IH f.type _ _ (hpl.1 f hf) hr
  · rename_i k e hu
    simp only [Bool.and_eq_true,List.contains_iff_mem,beq_iff_eq] at hpl
    obtain ⟨xs,m,hm,_,hl,hxl,hall⟩:=DataW.trod_array hu h
    obtain rfl:n=m:=by omega
    have hfold:=range_fold (P.cellsOf e) k 0
    simp only [Nat.zero_mul,Nat.zero_add] at hfold
    have:=(parts_cells (fun i:Nat=>i * P.cellsOf e) (fun _=>P.cellsOf e) (w:=w) (cs:=cs) (fun _ q=>HasT P n e q) (List.range' 0 k) 0 (P.cellsOf t) (by rw [hpl.2];exact hfold) (by omega) ?_).2
    · obtain ⟨pcs,h1,h2⟩:=this
      rw [cs_all_take hl] at h1
      exact ⟨pcs,h1,fun i hi=>(h2 i (by simp [hi])).2.2⟩
    · intro i hi
      have hi:i < k:=by simpa using hi
      have hr:=hall i hi
      rw [List.getElem?_eq_getElem (by omega)] at hr
      exact IH e _ _ hpl.1 hr
  · cases hpl
end Go.HH
