/-
  What the law needs, packed: UL UM UQ UR US.
-/
import Derived.Test.YthjabmlbmnadjaaK44
namespace Go.HH
open Go Go.Proofs
set_option maxRecDepth 100000
set_option linter.unusedSimpArgs false
set_option linter.unusedVariables false
theorem tk_lt (s:List UInt8):∀ (d i:Nat) (acc:List Tk),s.length - i<=d->i<=s.length->((tk s i acc).2.2≠0->(tk s i acc).2.1 < s.length∧(tk s i acc).1=[])∧∀ x ∈ (tk s i acc).1,x ∈ acc∨x.2.2 < s.length∨x.1=0:=by
 have hend:∀ i acc,i<=s.length->¬ i < s.length->((tk s i acc).2.2≠0->(tk s i acc).2.1 < s.length∧(tk s i acc).1=[])∧∀ x ∈ (tk s i acc).1,x ∈ acc∨x.2.2 < s.length∨x.1=0:=fun i acc h hc=>by
  rw [tk_eq _ h,if_neg hc]
  refine ⟨fun h=>absurd rfl h,fun x hx=>?_⟩
  rcases List.mem_append.1 hx with hx | hx
  · exact .inl hx
  · rw [List.mem_singleton] at hx
    subst hx
    exact .inr (.inr rfl)
 intro d
 induction d with
 | zero=>intro i acc h hl;exact hend i acc hl (by omega)
 | succ d ih=>
  intro i acc h hl
  by_cases c:i < s.length
  · rw [tk_eq _ hl,if_pos c]
    split
    · exact ⟨fun _=>⟨c,rfl⟩,fun x hx=>by cases hx⟩
    · cases ho:oneL s i with
      | inr e=>exact ⟨fun _=>⟨c,rfl⟩,fun x hx=>by cases hx⟩
      | inl y=>
       obtain ⟨x,k⟩:=y
       have hbd:=oneL_bd c ho
       have hle:=sk_le hbd.2
       obtain ⟨g1,g2⟩:=oneL_at ho
       obtain ⟨f1,f2⟩:=ih (sk s k) (acc++[x]) (by omega) hle.2
       refine ⟨f1,fun z hz=>?_⟩
       rcases f2 z hz with hz | hz
       · rcases List.mem_append.1 hz with hz | hz
         · exact .inl hz
         · rw [List.mem_singleton] at hz
           subst hz
           exact .inr (.inl (by omega))
       · exact .inr hz
  · exact hend i acc hl c
theorem toks_lt (s:List UInt8) (hs:s.length<=20000):((toks s).2.2≠0->(toks s).2.1 < s.length∧(toks s).1=[])∧∀ x ∈ (toks s).1,x.2.2 < s.length∨x.1=0:=by
 rw [toks_eq hs]
 have hle:=sk_le (s:=s) (i:=0) (by omega)
 obtain ⟨h1,h2⟩:=tk_lt s s.length (sk s 0) [] (by omega) hle.2
 exact ⟨h1,fun x hx=>(h2 x hx).resolve_left (fun h=>by cases h)⟩
def comW:List UInt8:=[35,32,114,117,108,101,32,123]++[10]
def shF (n t:Nat):Nat:=if t=n then t+10 else t+9
theorem toks_nil:toks []=([(0,[],0)],0,0):=by kernel_rfl
theorem com_toks (u:List UInt8) (hu:u.length<=3900):toks (comW++u)=moR 9 [] (toks u):=by
 have hl:(comW++u).length=9+u.length:=by rw [List.length_append];rfl
 have h9:sk (comW++u) 9=9+sk u 0:=sk_suf comW u u.length 0 (by omega) (by omega)
 have h8:sk (comW++u) 8=9+sk u 0:=by
  rw [sk_eq (by omega),if_pos (by omega),show atL (comW++u) 8=10 from rfl,if_pos (by decide)]
  exact h9
 have hr:runL nl (comW++u) 0=8:=rfl
 have h0:sk (comW++u) 0=9+sk u 0:=by
  rw [sk_eq (by omega),if_pos (by omega),show atL (comW++u) 0=35 from rfl,show atL (comW++u) (0+1)=32 from rfl,if_neg (by decide),if_pos (by decide),hr]
  exact h8
 have h2:=toks_suf comW u [] (by simp;omega)
 rw [toks_eq (by omega),h0,toks_eq (s:=u) (by omega)]
 exact h2
theorem lay_toks {s:List UInt8} (hs:s.length<=3000):((toks s).2.2≠0->toks (comW++joinL s [])=([],9+(toks s).2.1,(toks s).2.2))∧((toks s).2.2=0->toks (comW++joinL s [])=(mvT (shF s.length) (toks s).1,0,0)):=by
 have hj:=joinL_length s []
 rw [List.length_nil] at hj
 obtain ⟨h1,h2⟩:=toks_join s [] (by omega) (by simp;omega)
 have hc:=com_toks (joinL s []) (by omega)
 refine ⟨fun h=>?_,fun h=>?_⟩
 · rw [hc,h1 ⟨h,.inr rfl⟩]
   unfold moR
   rw [if_neg h]
 · obtain ⟨r,g1,g2,g3⟩:=toks_shape s (by omega) h
   obtain ⟨r',f1,f2,f3⟩:=h2 h
   have hr:r'=r:=by
    rw [g1] at f1
    exact (app_end (Prod.mk.inj f1).1).symm
   subst hr
   have hlt:=(toks_lt s (by omega)).2
   rw [hc,f3,toks_nil,g1]
   rw [g1] at hlt
   have hgood:=chain_good g2
   have e:(r'.map (moK 9))=r'.map fun t=>(t.1,t.2.1,shF s.length t.2.2):=by
    apply List.map_congr_left
    intro x hx
    have hne:x.1≠0:=by rcases hgood x hx with h | h | h | h <;> (rw [h.1];decide)
    have hx2:x.2.2 < s.length:=(hlt x (List.mem_append_left _ hx)).resolve_right hne
    unfold moK shF
    rw [if_neg (by omega),Nat.add_comm]
   unfold moR mvT
   rw [if_pos rfl]
   simp only [List.map_append,List.map_cons,List.map_nil,List.nil_append,if_true,moK]
   rw [e,show shF s.length s.length=9+(s.length+1+0) from by unfold shF;rw [if_pos rfl];omega]
theorem fuN_mv (f:Nat->Nat) (L:List Tk):fuN (mvT f L)=fuN L:=by unfold fuN;rw [mv_len]
def movedP (n e:Int) (m m':Nat) (len:Nat):Prop:=(e=0->m=0∧m'=0)∧(e≠0->m'=m+9∨m=len∧m'=m+10)
theorem shF_or (n t:Nat):shF n t=t+9∨t=n∧shF n t=t+10:=by
 unfold shF
 split
 · exact .inr ⟨by assumption,rfl⟩
 · exact .inl rfl
theorem lay_rules {s:List UInt8} (hs:s.length<=3000):∃ m',rulesA (comW++joinL s [])=((rulesA s).1,m',(rulesA s).2.2)∧movedP 0 (rulesA s).2.2 (rulesA s).2.1 m' s.length∧((rulesA s).2.2≠0->(rulesA s).1=[]):=by
 obtain ⟨h1,h2⟩:=lay_toks hs
 by_cases h0:(toks s).2.2=0
 · have ht:=h2 h0
   have hT:=toks_TokOK s (by omega) h0
   unfold rulesA
   rw [ht,if_pos rfl,if_pos h0]
   simp only
   rw [fuN_mv,rulesP_mb hT 42 [] 0 hT.pos]
   have hz:=rulesP_nz (L:=(toks s).1) (n:=fuN (toks s).1) 42 [] 0
   cases hr:rulesP (toks s).1 (fuN (toks s).1) 42 [] 0 with
   | ok l j=>exact ⟨0,rfl,⟨fun _=>⟨rfl,rfl⟩,fun h=>absurd rfl h⟩,fun h=>absurd rfl h⟩
   | bad t c=>exact ⟨shF s.length t,rfl,⟨fun h=>absurd h (hz t c hr),fun _=>shF_or _ _⟩,fun _=>rfl⟩
   | out=>exact ⟨0,rfl,⟨fun _=>⟨rfl,rfl⟩,fun h=>absurd rfl h⟩,fun h=>absurd rfl h⟩
 · have ht:=h1 h0
   unfold rulesA
   rw [ht,if_neg h0,if_neg h0]
   exact ⟨9+(toks s).2.1,rfl,⟨fun h=>absurd h h0,fun _=>.inl (Nat.add_comm _ _)⟩,fun _=>rfl⟩
theorem lay_expr {s:List UInt8} (hs:s.length<=3000):∃ m',exprA (comW++joinL s [])=((exprA s).1,m',(exprA s).2.2)∧movedP 0 (exprA s).2.2 (exprA s).2.1 m' s.length:=by
 obtain ⟨h1,h2⟩:=lay_toks hs
 by_cases h0:(toks s).2.2=0
 · have ht:=h2 h0
   have hT:=toks_TokOK s (by omega) h0
   unfold exprA
   rw [ht,if_pos rfl,if_pos h0]
   simp only
   have hb:((wholeP (mvT (shF s.length) (toks s).1) (fuN (mvT (shF s.length) (toks s).1)) 0).bind fun a i=>(oneP (mvT (shF s.length) (toks s).1) 0 i).bind fun _ j=>PR.ok a j)=((wholeP (toks s).1 (fuN (toks s).1) 0).bind fun a i=>(oneP (toks s).1 0 i).bind fun _ j=>PR.ok a j).mapB (shF s.length):=by
    rw [fuN_mv]
    refine bind_mb (wholeP_mb hT hT.pos) fun a i r=>?_
    have hi:=wholeP_lt hT hT.pos r
    unfold oneP
    rw [mv_kind,mv_at hi.2]
    split <;> rfl
   rw [hb]
   have hz:nz ((wholeP (toks s).1 (fuN (toks s).1) 0).bind fun a i=>(oneP (toks s).1 0 i).bind fun _ j=>PR.ok a j):=bind_nz wholeP_nz fun _ _=>bind_nz oneP_nz fun _ _=>ok_nz _ _
   cases hr:(wholeP (toks s).1 (fuN (toks s).1) 0).bind fun a i=>(oneP (toks s).1 0 i).bind fun _ j=>PR.ok a j with
   | ok l j=>exact ⟨0,rfl,⟨fun _=>⟨rfl,rfl⟩,fun h=>absurd rfl h⟩⟩
   | bad t c=>exact ⟨shF s.length t,rfl,⟨fun h=>absurd h (hz t c hr),fun _=>shF_or _ _⟩⟩
   | out=>exact ⟨0,rfl,⟨fun _=>⟨rfl,rfl⟩,fun h=>absurd rfl h⟩⟩
 · have ht:=h1 h0
   unfold exprA
   rw [ht,if_neg h0,if_neg h0]
   exact ⟨9+(toks s).2.1,rfl,⟨fun h=>absurd h h0,fun _=>.inl (Nat.add_comm _ _)⟩⟩
end Go.HH
namespace Go.HH
open Go Go.Proofs
set_option maxRecDepth 100000
set_option maxHeartbeats 4000000
set_option linter.unusedSimpArgs false
set_option linter.unusedVariables false
theorem ok_L29_ParseLayout:fnOK CC Try.f4 (Try.f4.body.getD .skip)=true:=by kernel_rfl
theorem fat_L29_ParseLayout:CC.P.funcs[4]?=some Try.f4:=by kernel_rfl
theorem ok_L29_shifted:fnOK CC Try.f16 (Try.f16.body.getD .skip)=true:=by kernel_rfl
theorem fat_L29_shifted:CC.P.funcs[16]?=some Try.f16:=by kernel_rfl
theorem op_shifted (m m' len:Nat) (e:Int) (hm:m<=100000) (h:movedP 0 e m m' len) (bx):callOp CC (callL CC) 16 [.int .i64 (m:Int),.int .i64 (m':Int),.int .i64 e,.int .i64 (len:Int)] bx=some (.ret (.bool true),bx):=by
 suffices hh:∃ b,callL CC 16 [.int .i64 (m:Int),.int .i64 (m':Int),.int .i64 e,.int .i64 (len:Int)] []=some (.ret (.bool true),b) by
  obtain ⟨b,hh⟩:=hh
  exact callOp_of rfl (by simp only [SA,Bool.and_true]) hh rfl
 have w9:=wrap_i64 (n:=(m:Int)+9) ⟨by omega,by omega⟩
 have w10:=wrap_i64 (n:=(m:Int)+10) ⟨by omega,by omega⟩
 rw [callL_enter (fn:=Try.f16) (c:=Try.f16.body.getD .skip) rfl rfl fat_L29_shifted rfl ok_L29_shifted (Nat.le_of_ble_eq_true rfl)]
 by_cases c:e=0
 · have c':(e == 0)=true:=beq_iff_eq.2 c
   obtain ⟨ev,eo,so,co,⟨hev,hco⟩,R⟩:=RULES CC;rw [<- hev]
   simp only [fpart,part',Try.f16,Option.getD]
   simp (maxSteps:=5000000) only [SA,SB,SD,R,guardAt,binP,intP,indexAddrP,elemsOf,readCells,lenP,lenAt,resultsP,resultP,oneOr,reduceCtorEq,reduceIte,Nat.reduceEqDiff,Nat.reduceAdd,Nat.zero_add,Nat.reduceMul,Nat.reduceLT,Nat.reduceLeDiff,Int.reduceLT,Int.reduceNeg,Int.reduceLE,appendP,appendAt,letGo,setLoc,locVal,Int.reduceToNat,boxCells,und,TG,SE,SC,UT,ZC,unP,extP,loadR,loadP,lay,storeR,storeK,storeCellsP,laid,setBox,callAl,nchP,List.set_cons_zero,List.set_cons_succ,List.take_succ_cons,List.take_zero,List.take_nil,List.drop_succ_cons,List.drop_zero,List.drop_nil,List.filter_nil,List.cons_append,List.getElem?_cons_zero,List.getElem?_cons_succ,List.nil_append,Nat.le_refl,Int.reduceBEq,Int.reduceBNe,Int.reduceGT,Int.reduceGE,Int.reduceEq,Bool.not_true,Bool.not_false,c',w9,w10]
   exact ⟨_,rfl⟩
 · have c':(e == 0)=false:=beq_eq_false_iff_ne.2 c
   rcases h.2 c with h1 | ⟨h1,h2⟩
   · have d:((m':Int) == (m:Int)+9)=true:=beq_iff_eq.2 (by omega)
     obtain ⟨ev,eo,so,co,⟨hev,hco⟩,R⟩:=RULES CC;rw [<- hev]
     simp only [fpart,part',Try.f16,Option.getD]
     simp (maxSteps:=5000000) only [SA,SB,SD,R,guardAt,binP,intP,indexAddrP,elemsOf,readCells,lenP,lenAt,resultsP,resultP,oneOr,reduceCtorEq,reduceIte,Nat.reduceEqDiff,Nat.reduceAdd,Nat.zero_add,Nat.reduceMul,Nat.reduceLT,Nat.reduceLeDiff,Int.reduceLT,Int.reduceNeg,Int.reduceLE,appendP,appendAt,letGo,setLoc,locVal,Int.reduceToNat,boxCells,und,TG,SE,SC,UT,ZC,unP,extP,loadR,loadP,lay,storeR,storeK,storeCellsP,laid,setBox,callAl,nchP,List.set_cons_zero,List.set_cons_succ,List.take_succ_cons,List.take_zero,List.take_nil,List.drop_succ_cons,List.drop_zero,List.drop_nil,List.filter_nil,List.cons_append,List.getElem?_cons_zero,List.getElem?_cons_succ,List.nil_append,Nat.le_refl,Int.reduceBEq,Int.reduceBNe,Int.reduceGT,Int.reduceGE,Int.reduceEq,Bool.not_true,Bool.not_false,c',w9,w10,d]
     exact ⟨_,rfl⟩
   · have d:((m':Int) == (m:Int)+9)=false:=beq_eq_false_iff_ne.2 (by omega)
     have d2:((m:Int) == (len:Int))=true:=beq_iff_eq.2 (by omega)
     have d3:((m':Int) == (m:Int)+10)=true:=beq_iff_eq.2 (by omega)
     obtain ⟨ev,eo,so,co,⟨hev,hco⟩,R⟩:=RULES CC;rw [<- hev]
     simp only [fpart,part',Try.f16,Option.getD]
     simp (maxSteps:=5000000) only [SA,SB,SD,R,guardAt,binP,intP,indexAddrP,elemsOf,readCells,lenP,lenAt,resultsP,resultP,oneOr,reduceCtorEq,reduceIte,Nat.reduceEqDiff,Nat.reduceAdd,Nat.zero_add,Nat.reduceMul,Nat.reduceLT,Nat.reduceLeDiff,Int.reduceLT,Int.reduceNeg,Int.reduceLE,appendP,appendAt,letGo,setLoc,locVal,Int.reduceToNat,boxCells,und,TG,SE,SC,UT,ZC,unP,extP,loadR,loadP,lay,storeR,storeK,storeCellsP,laid,setBox,callAl,nchP,List.set_cons_zero,List.set_cons_succ,List.take_succ_cons,List.take_zero,List.take_nil,List.drop_succ_cons,List.drop_zero,List.drop_nil,List.filter_nil,List.cons_append,List.getElem?_cons_zero,List.getElem?_cons_succ,List.nil_append,Nat.le_refl,Int.reduceBEq,Int.reduceBNe,Int.reduceGT,Int.reduceGE,Int.reduceEq,Bool.not_true,Bool.not_false,c',w9,w10,d,d2,d3]
     exact ⟨_,rfl⟩
theorem layW (s:List UInt8):comW++joinL s []=35 :: 32 :: 114 :: 117 :: 108 :: 101 :: 32 :: 123 :: 10 :: (s++[10]):=rfl
theorem rulesA_at {s:List UInt8} (hs:s.length<=3900):(rulesA s).2.1<=20000∧((rulesA s).2.2=0->(rulesA s).2.1=0):=by
 unfold rulesA
 have h1:=(toks_at s (by omega)).1
 by_cases h0:(toks s).2.2=0
 · rw [if_pos h0]
   have hT:=toks_TokOK s hs h0
   have hz:=rulesP_nz (L:=(toks s).1) (n:=fuN (toks s).1) 42 [] 0
   have hm:=rulesP_mb (f:=fun t=>min t 20000) hT (n:=fuN (toks s).1) 42 [] 0 hT.pos
   have he:mvT (fun t=>min t 20000) (toks s).1=(toks s).1:=by
    unfold mvT
    have:∀ t ∈ (toks s).1,((t.1,t.2.1,min t.2.2 20000):Tk)=t:=fun t ht=>by
     have:=((toks_at s (by omega)).2 t ht).1
     rw [Nat.min_eq_left (by omega)]
    rw [List.map_congr_left this,List.map_id']
   rw [he] at hm
   cases hr:rulesP (toks s).1 (fuN (toks s).1) 42 [] 0 with
   | ok l j=>exact ⟨Nat.zero_le _,fun _=>rfl⟩
   | bad t c=>
    rw [hr] at hm
    injection hm with hm _
    have hm:t=min t 20000:=hm
    refine ⟨?_,fun h=>absurd h (hz t c hr)⟩
    simp only
    omega
   | out=>exact ⟨Nat.zero_le _,fun _=>rfl⟩
 · rw [if_neg h0]
   exact ⟨by simp only;omega,fun h=>absurd h h0⟩
theorem exprA_at {s:List UInt8} (hs:s.length<=3900):(exprA s).2.1<=20000:=by
 unfold exprA
 have h1:=(toks_at s (by omega)).1
 by_cases h0:(toks s).2.2=0
 · rw [if_pos h0]
   have hT:=toks_TokOK s hs h0
   have hm:((wholeP (mvT (fun t=>min t 20000) (toks s).1) (fuN (toks s).1) 0).bind fun a i=>(oneP (mvT (fun t=>min t 20000) (toks s).1) 0 i).bind fun _ j=>PR.ok a j)=((wholeP (toks s).1 (fuN (toks s).1) 0).bind fun a i=>(oneP (toks s).1 0 i).bind fun _ j=>PR.ok a j).mapB (fun t=>min t 20000):=by
    refine bind_mb (wholeP_mb hT hT.pos) fun a i r=>?_
    have hi:=wholeP_lt hT hT.pos r
    unfold oneP
    rw [mv_kind,mv_at hi.2]
    split <;> rfl
   have he:mvT (fun t=>min t 20000) (toks s).1=(toks s).1:=by
    unfold mvT
    have:∀ t ∈ (toks s).1,((t.1,t.2.1,min t.2.2 20000):Tk)=t:=fun t ht=>by
     have:=((toks_at s (by omega)).2 t ht).1
     rw [Nat.min_eq_left (by omega)]
    rw [List.map_congr_left this,List.map_id']
   rw [he] at hm
   cases hr:(wholeP (toks s).1 (fuN (toks s).1) 0).bind fun a i=>(oneP (toks s).1 0 i).bind fun _ j=>PR.ok a j with
   | ok l j=>exact Nat.zero_le _
   | bad t c=>
    rw [hr] at hm
    injection hm with hm _
    have hm:t=min t 20000:=hm
    simp only
    omega
   | out=>exact Nat.zero_le _
 · rw [if_neg h0]
   simp only;omega
theorem stepP_sh {L:List Tk} (hT:TokOK L) {n i:Nat} {a:Sp} {j:Nat} (h:stepP L n i=.ok a j):shT a.ex:=by
 have hw:∀ {n i:Nat} {a:Tr} {j:Nat},wholeP L n i=.ok a j->shT a:=fun {n i a j} h=>by
  unfold wholeP at h
  obtain ⟨e,k,r,h⟩:=bind_ok h
  split at h
  · injection h with h _
    subst h
    exact sh_pz hT _ .expr _ _ _ _ trivial r
  · cases h
 unfold stepP at h
 split at h
 · obtain ⟨_,_,_,h⟩:=bind_ok h
   obtain ⟨_,_,_,h⟩:=bind_ok h
   obtain ⟨e,_,r,h⟩:=bind_ok h
   injection h with h _
   subst h
   exact hw r
 split at h
 · obtain ⟨_,_,_,h⟩:=bind_ok h
   split at h
   · obtain ⟨e,_,r,h⟩:=bind_ok h
     obtain ⟨_,_,_,h⟩:=bind_ok h
     injection h with h _
     subst h
     exact hw r
   · injection h with h _
     subst h
     exact sh_zT
 split at h
 · obtain ⟨_,_,_,h⟩:=bind_ok h
   injection h with h _
   subst h
   exact sh_zT
 split at h
 · obtain ⟨_,_,_,h⟩:=bind_ok h
   injection h with h _
   subst h
   exact sh_zT
 · obtain ⟨_,_,_,h⟩:=bind_ok h
   obtain ⟨_,_,_,h⟩:=bind_ok h
   injection h with h _
   subst h
   exact sh_zT
theorem severalP_all {α:Type} {L:List Tk} {w:List UInt8} {part:Nat->PR α} (P:α->Prop) (hp:∀ i a j,part i=.ok a j->P a):∀ (m:Nat) (acc:List α) (i:Nat) (l:List α) (j:Nat),(∀ x ∈ acc,P x)->acc.length<=8->severalP L w part m acc i=.ok l j->(∀ x ∈ l,P x)∧l.length<=8
 | 0,_,_,_,_,_,_,h=>by cases h
 | m+1,acc,i,l,j,ha,h8,h=>by
  rw [severalP] at h
  split at h
  · split at h
    · cases h
    · rename_i hne
      obtain ⟨_,_,_,h⟩:=bind_ok h
      obtain ⟨a,_,r,h⟩:=bind_ok h
      obtain ⟨_,_,_,h⟩:=bind_ok h
      refine severalP_all P hp m _ _ _ _ (fun x hx=>?_) (by rw [List.length_append,List.length_singleton];omega) h
      rcases List.mem_append.1 hx with hx | hx
      · exact ha x hx
      · rw [List.mem_singleton] at hx
        subst hx
        exact hp _ _ _ r
  · injection h with h _
    subst h
    exact ⟨ha,h8⟩
theorem sh_wT:shT wT:=sh_lit 1 1
theorem ruleP_sh {L:List Tk} (hT:TokOK L) {n:Nat} {rs:List Rl} {i:Nat} {r:Rl} {j:Nat} (h:ruleP L n rs i=.ok r j):shR r:=by
 unfold ruleP at h
 split at h
 · cases h
 obtain ⟨_,_,_,h⟩:=bind_ok h
 obtain ⟨_,_,_,h⟩:=bind_ok h
 split at h
 · cases h
 obtain ⟨_,_,_,h⟩:=bind_ok h
 obtain ⟨_,_,_,h⟩:=bind_ok h
 obtain ⟨on,_,r1,h⟩:=bind_ok h
 obtain ⟨e,_,r2,h⟩:=bind_ok h
 obtain ⟨dos,_,r3,h⟩:=bind_ok h
 obtain ⟨_,_,_,h⟩:=bind_ok h
 injection h with h _
 subst h
 have h1:=severalP_all (fun _=>True) (fun _ _ _ _=>trivial) _ _ _ _ _ (fun x hx=>by cases hx) (by simp) r1
 have h3:=severalP_all (fun x:Sp=>shT x.ex) (fun _ _ _ h=>stepP_sh hT h) _ _ _ _ _ (fun x hx=>by cases hx) (by simp) r3
 refine ⟨by simp only;omega,by simp only;omega,?_,h3.1⟩
 split at r2
 · obtain ⟨a,_,r4,r2⟩:=bind_ok r2
   obtain ⟨_,_,_,r2⟩:=bind_ok r2
   injection r2 with r2 _
   subst r2
   unfold wholeP at r4
   obtain ⟨_,_,r5,r4⟩:=bind_ok r4
   split at r4
   · injection r4 with r4 _
     subst r4
     exact sh_pz hT _ .expr _ _ _ _ trivial r5
   · cases r4
 · injection r2 with r2 _
   subst r2
   exact sh_wT
theorem rulesP_sh {L:List Tk} (hT:TokOK L) {n:Nat}:∀ (m:Nat) (rs:List Rl) (i:Nat) (l:List Rl) (j:Nat),i < L.length->rs.length<=40->(∀ x ∈ rs,shR x)->rulesP L n m rs i=.ok l j->(∀ x ∈ l,shR x)∧l.length<=40
 | 0,_,_,_,_,_,_,_,h=>by cases h
 | m+1,rs,i,l,j,hi,h4,hs,h=>by
  rw [rulesP] at h
  split at h
  · injection h with h _
    subst h
    exact ⟨hs,h4⟩
  · obtain ⟨r,k,hr,h⟩:=bind_ok h
    have hlt:=ruleP_lt hT hi hr
    refine rulesP_sh hT m _ _ _ _ hlt.1 (by rw [List.length_append,List.length_singleton];omega) (fun x hx=>?_) h
    rcases List.mem_append.1 hx with hx | hx
    · exact hs x hx
    · rw [List.mem_singleton] at hx
      subst hx
      exact ruleP_sh hT hr
theorem rulesA_sh {s:List UInt8} (hs:s.length<=3900):(∀ x ∈ (rulesA s).1,shR x)∧(rulesA s).1.length<=40:=by
 have hn:(∀ x ∈ ([]:List Rl),shR x)∧([]:List Rl).length<=40:=⟨fun x hx=>(by cases hx),by decide⟩
 unfold rulesA
 by_cases h0:(toks s).2.2=0
 · rw [if_pos h0]
   have hT:=toks_TokOK s hs h0
   cases hr:rulesP (toks s).1 (fuN (toks s).1) 42 [] 0 with
   | ok l j=>exact rulesP_sh hT _ _ _ _ _ hT.pos (by decide) (fun x hx=>by cases hx) hr
   | bad t c=>exact hn
   | out=>exact hn
 · rw [if_neg h0]
   exact hn
theorem law_ParseLayout (s:List UInt8) (_:s.length<=maxLen):∃ bx,callL CC 4 [.str s] []=some (.ret (.bool true),bx):=by
 have haw:=op_awake
 have hlen:=len_str s
 by_cases c1:3000 < s.length
 · have c1':(s.length:Int) > 3000:=by omega
   rw [callL_enter (fn:=Try.f4) (c:=Try.f4.body.getD .skip) rfl rfl fat_L29_ParseLayout rfl ok_L29_ParseLayout (Nat.le_of_ble_eq_true rfl)]
   obtain ⟨ev,eo,so,co,⟨hev,hco⟩,R⟩:=RULES CC;rw [<- hev]
   rw [<- hco] at haw
   simp only [fpart,part',Try.f4,Option.getD]
   simp (maxSteps:=5000000) only [SA,SB,SD,R,guardAt,binP,intP,indexAddrP,elemsOf,readCells,lenP,lenAt,resultsP,resultP,oneOr,reduceCtorEq,reduceIte,Nat.reduceEqDiff,Nat.reduceAdd,Nat.zero_add,Nat.reduceMul,Nat.reduceLT,Nat.reduceLeDiff,Int.reduceLT,Int.reduceNeg,Int.reduceLE,appendP,appendAt,letGo,setLoc,locVal,Int.reduceToNat,boxCells,und,TG,SE,SC,UT,ZC,unP,extP,loadR,loadP,lay,storeR,storeK,storeCellsP,laid,setBox,callAl,nchP,List.set_cons_zero,List.set_cons_succ,List.take_succ_cons,List.take_zero,List.take_nil,List.drop_succ_cons,List.drop_zero,List.drop_nil,List.filter_nil,List.cons_append,List.getElem?_cons_zero,List.getElem?_cons_succ,List.nil_append,Nat.le_refl,Int.reduceBEq,Int.reduceBNe,Int.reduceGT,Int.reduceGE,Int.reduceEq,Bool.not_true,Bool.not_false,hlen,c1',haw]
   exact ⟨_,rfl⟩
 · have c1':¬ (s.length:Int) > 3000:=by omega
   have x1:=op_parse_Rules s (by omega)
   have y1:=exE s (by omega)
   have hTl:(comW++joinL s []).length<=3900:=by rw [layW];simp;omega
   have x2:=op_parse_Rules (comW++joinL s []) hTl
   have y2:=exE (comW++joinL s []) hTl
   obtain ⟨m',hr,hm,hnil⟩:=lay_rules (s:=s) (by omega)
   obtain ⟨k',he,hk⟩:=lay_expr (s:=s) (by omega)
   rw [hr] at x2
   rw [he] at y2
   rw [layW] at x2 y2
   simp only at x2 y2
   have hsh:=rulesA_sh (s:=s) (by omega)
   have sm:=op_R29_Same (rulesA s).1 (by omega) hsh.1
   have sn:=smE (exprA s).1 (exA_sh (by omega))
   have hp:pureL ((rulesA s).1.map rlP)=true:=map_pure rlP rlP_pure _
   have b1:=(rulesA_at (s:=s) (by omega)).1
   have b2:=exprA_at (s:=s) (by omega)
   have s1:=op_shifted _ m' s.length _ (by omega) hm
   have s2:=op_shifted _ k' s.length _ (by omega) hk
   have m1:9+s.length<=maxStr:=by unfold maxStr;omega
   have m2:s.length+1+1+1+1+1+1+1+1+1+1<=maxStr:=by unfold maxStr;omega
   have n1:((rulesA s).2.2 != (rulesA s).2.2)=false:=by simp
   have n2:((exprA s).2.2 != (exprA s).2.2)=false:=by simp
   have z1:(rulesA s).2.2=0->(((rulesA s).2.1:Int) != 0)=false∧((m':Int) != 0)=false:=fun h=>by
    obtain ⟨e1,e2⟩:=hm.1 h
    rw [e1,e2]
    exact ⟨rfl,rfl⟩
   have z2:(exprA s).2.2=0->(((exprA s).2.1:Int) != 0)=false∧((k':Int) != 0)=false:=fun h=>by
    obtain ⟨e1,e2⟩:=hk.1 h
    rw [e1,e2]
    exact ⟨rfl,rfl⟩
   clear hr he hm hk hnil hsh
   generalize (rulesA s).1.map rlP=xs at *
   generalize (rulesA s).2.1=at1 at *
   generalize (rulesA s).2.2=er1 at *
   generalize (exprA s).1=ex at *
   generalize (exprA s).2.1=at2 at *
   generalize (exprA s).2.2=er2 at *
   rw [callL_enter (fn:=Try.f4) (c:=Try.f4.body.getD .skip) rfl rfl fat_L29_ParseLayout rfl ok_L29_ParseLayout (Nat.le_of_ble_eq_true rfl)]
   by_cases d1:er1=0
   · obtain ⟨z1,z1'⟩:=z1 d1
     subst d1
     by_cases d2:er2=0
     · obtain ⟨z2,z2'⟩:=z2 d2
       subst d2
       obtain ⟨ev,eo,so,co,⟨hev,hco⟩,R⟩:=RULES CC;rw [<- hev]
       rw [<- hco] at haw x1 x2 y1 y2 sm sn s1 s2
       simp only [fpart,part',Try.f4,Option.getD]
       simp (maxSteps:=5000000) only [SA,SB,SD,R,guardAt,binP,intP,indexAddrP,elemsOf,readCells,lenP,lenAt,resultsP,resultP,oneOr,reduceCtorEq,reduceIte,Nat.reduceEqDiff,Nat.reduceAdd,Nat.zero_add,Nat.reduceMul,Nat.reduceLT,Nat.reduceLeDiff,Int.reduceLT,Int.reduceNeg,Int.reduceLE,appendP,appendAt,letGo,setLoc,locVal,Int.reduceToNat,boxCells,und,TG,SE,SC,UT,ZC,unP,extP,loadR,loadP,lay,storeR,storeK,storeCellsP,laid,setBox,callAl,nchP,List.set_cons_zero,List.set_cons_succ,List.take_succ_cons,List.take_zero,List.take_nil,List.drop_succ_cons,List.drop_zero,List.drop_nil,List.filter_nil,List.cons_append,List.getElem?_cons_zero,List.getElem?_cons_succ,List.nil_append,Nat.le_refl,Int.reduceBEq,Int.reduceBNe,Int.reduceGT,Int.reduceGE,Int.reduceEq,Bool.not_true,Bool.not_false,SX,hlen,c1',haw,x1,x2,y1,y2,sm,sn,s1,s2,hp,PV.pure,pureL,strP,m1,m2,n1,n2,z1,z1',z2,z2']
       exact ⟨_,rfl⟩
     · have d2':(er2 == 0)=false:=beq_eq_false_iff_ne.2 d2
       obtain ⟨ev,eo,so,co,⟨hev,hco⟩,R⟩:=RULES CC;rw [<- hev]
       rw [<- hco] at haw x1 x2 y1 y2 sm sn s1 s2
       simp only [fpart,part',Try.f4,Option.getD]
       simp (maxSteps:=5000000) only [SA,SB,SD,R,guardAt,binP,intP,indexAddrP,elemsOf,readCells,lenP,lenAt,resultsP,resultP,oneOr,reduceCtorEq,reduceIte,Nat.reduceEqDiff,Nat.reduceAdd,Nat.zero_add,Nat.reduceMul,Nat.reduceLT,Nat.reduceLeDiff,Int.reduceLT,Int.reduceNeg,Int.reduceLE,appendP,appendAt,letGo,setLoc,locVal,Int.reduceToNat,boxCells,und,TG,SE,SC,UT,ZC,unP,extP,loadR,loadP,lay,storeR,storeK,storeCellsP,laid,setBox,callAl,nchP,List.set_cons_zero,List.set_cons_succ,List.take_succ_cons,List.take_zero,List.take_nil,List.drop_succ_cons,List.drop_zero,List.drop_nil,List.filter_nil,List.cons_append,List.getElem?_cons_zero,List.getElem?_cons_succ,List.nil_append,Nat.le_refl,Int.reduceBEq,Int.reduceBNe,Int.reduceGT,Int.reduceGE,Int.reduceEq,Bool.not_true,Bool.not_false,SX,hlen,c1',haw,x1,x2,y1,y2,sm,sn,s1,s2,hp,PV.pure,pureL,strP,m1,m2,n1,n2,z1,z1',d2']
       exact ⟨_,rfl⟩
   · have d1':(er1 == 0)=false:=beq_eq_false_iff_ne.2 d1
     by_cases d2:er2=0
     · obtain ⟨z2,z2'⟩:=z2 d2
       subst d2
       obtain ⟨ev,eo,so,co,⟨hev,hco⟩,R⟩:=RULES CC;rw [<- hev]
       rw [<- hco] at haw x1 x2 y1 y2 sm sn s1 s2
       simp only [fpart,part',Try.f4,Option.getD]
       simp (maxSteps:=5000000) only [SA,SB,SD,R,guardAt,binP,intP,indexAddrP,elemsOf,readCells,lenP,lenAt,resultsP,resultP,oneOr,reduceCtorEq,reduceIte,Nat.reduceEqDiff,Nat.reduceAdd,Nat.zero_add,Nat.reduceMul,Nat.reduceLT,Nat.reduceLeDiff,Int.reduceLT,Int.reduceNeg,Int.reduceLE,appendP,appendAt,letGo,setLoc,locVal,Int.reduceToNat,boxCells,und,TG,SE,SC,UT,ZC,unP,extP,loadR,loadP,lay,storeR,storeK,storeCellsP,laid,setBox,callAl,nchP,List.set_cons_zero,List.set_cons_succ,List.take_succ_cons,List.take_zero,List.take_nil,List.drop_succ_cons,List.drop_zero,List.drop_nil,List.filter_nil,List.cons_append,List.getElem?_cons_zero,List.getElem?_cons_succ,List.nil_append,Nat.le_refl,Int.reduceBEq,Int.reduceBNe,Int.reduceGT,Int.reduceGE,Int.reduceEq,Bool.not_true,Bool.not_false,SX,hlen,c1',haw,x1,x2,y1,y2,sm,sn,s1,s2,hp,PV.pure,pureL,strP,m1,m2,n1,n2,d1',z2,z2']
       exact ⟨_,rfl⟩
     · have d2':(er2 == 0)=false:=beq_eq_false_iff_ne.2 d2
       obtain ⟨ev,eo,so,co,⟨hev,hco⟩,R⟩:=RULES CC;rw [<- hev]
       rw [<- hco] at haw x1 x2 y1 y2 sm sn s1 s2
       simp only [fpart,part',Try.f4,Option.getD]
       simp (maxSteps:=5000000) only [SA,SB,SD,R,guardAt,binP,intP,indexAddrP,elemsOf,readCells,lenP,lenAt,resultsP,resultP,oneOr,reduceCtorEq,reduceIte,Nat.reduceEqDiff,Nat.reduceAdd,Nat.zero_add,Nat.reduceMul,Nat.reduceLT,Nat.reduceLeDiff,Int.reduceLT,Int.reduceNeg,Int.reduceLE,appendP,appendAt,letGo,setLoc,locVal,Int.reduceToNat,boxCells,und,TG,SE,SC,UT,ZC,unP,extP,loadR,loadP,lay,storeR,storeK,storeCellsP,laid,setBox,callAl,nchP,List.set_cons_zero,List.set_cons_succ,List.take_succ_cons,List.take_zero,List.take_nil,List.drop_succ_cons,List.drop_zero,List.drop_nil,List.filter_nil,List.cons_append,List.getElem?_cons_zero,List.getElem?_cons_succ,List.nil_append,Nat.le_refl,Int.reduceBEq,Int.reduceBNe,Int.reduceGT,Int.reduceGE,Int.reduceEq,Bool.not_true,Bool.not_false,SX,hlen,c1',haw,x1,x2,y1,y2,sm,sn,s1,s2,hp,PV.pure,pureL,strP,m1,m2,n1,n2,d1',d2']
       exact ⟨_,rfl⟩
end Go.HH
namespace Go.HH
open Go Go.Proofs
set_option maxRecDepth 100000
set_option linter.unusedSimpArgs false
set_option linter.unusedVariables false
section
variable {L M:List Tk} {s:Nat}
theorem wholeP_mv (hT:TokOK L) (hLM:L.length<=M.length) {n n' i:Nat} (hn:n<=n') (hi:i < L.length) {a:Tr} {j:Nat} (hE:edgeL L M s j) (h:wholeP L n i=.ok a j):wholeP M n' (i+s)=.ok a (j+s):=by
 unfold wholeP at h ⊢
 obtain ⟨e,k,r,h⟩:=bind_ok h
 split at h
 · rename_i hc
   injection h with ha hj
   subst ha hj
   have:=pz_mv hT hLM (d:=0) _ _ _ _ _ _ _ hn hi hE (.inl rfl) r
   refine bind_to this ?_
   rw [if_pos hc]
 · cases h
theorem triggerP_ge (hT:TokOK L) {i:Nat} {a:Tg} {j:Nat} (hi:i < L.length) (h:triggerP L i=.ok a j):i < j:=by
 unfold triggerP at h
 split at h
 · rename_i hk
   obtain ⟨_,_,r,h⟩:=bind_ok h
   injection h with _ h
   have:=pathP_lt hT (isT_lt hT hi hk (by decide)) r
   omega
 split at h
 · rename_i hk
   obtain ⟨_,_,r,h⟩:=bind_ok h
   injection h with _ h
   have:=pathP_lt hT (isT_lt hT hi hk (by decide)) r
   omega
 split at h
 · rename_i hk
   obtain ⟨_,_,r,h⟩:=bind_ok h
   have h1:=clockP_lt hT (isT_lt hT hi hk (by decide)) r
   split at h
   · rename_i hk2
     obtain ⟨_,_,r2,h⟩:=bind_ok h
     injection h with _ h
     have:=daysP_lt hT (isT_lt hT h1.2.1 hk2 (by decide)) r2
     omega
   · injection h with _ h
     omega
 split at h
 · rename_i hk
   split at h
   · obtain ⟨_,_,r,h⟩:=bind_ok h
     injection h with _ h
     have:=nameP_lt hT (isT_lt hT hi hk (by decide)) r
     omega
   · injection h with _ h
     omega
 split at h
 · injection h with _ h
   omega
 · obtain ⟨_,_,r,h⟩:=bind_ok h
   obtain ⟨_,_,r2,h⟩:=bind_ok h
   injection h with _ h
   have h1:=mustP_lt hT hi (by decide) r
   have:=numP_lt hT h1.2 r2
   omega
theorem triggerP_mv (hT:TokOK L) (hLM:L.length<=M.length) {i:Nat} (hi:i < L.length) {a:Tg} {j:Nat} (hE:edgeL L M s j) (h:triggerP L i=.ok a j):triggerP M (i+s)=.ok a (j+s):=by
 have hg:=triggerP_ge hT hi h
 have eT:∀ w,isT M 1 w (i+s)=isT L 1 w i:=fun w=>ed_isT (hE i (by omega)) (by decide) (Or.inl (by decide))
 unfold triggerP at h ⊢
 rw [eT,eT,eT,eT,eT,show i+s+1=i+1+s from by omega]
 split at h
 · rename_i hk
   rw [if_pos hk]
   obtain ⟨_,_,r,h⟩:=bind_ok h
   injection h with ha hj
   subst ha hj
   exact bind_to (pathP_mv hT (isT_lt hT hi hk (by decide)) hE r) rfl
 rename_i hk1
 rw [if_neg hk1]
 split at h
 · rename_i hk
   rw [if_pos hk]
   obtain ⟨_,_,r,h⟩:=bind_ok h
   injection h with ha hj
   subst ha hj
   exact bind_to (pathP_mv hT (isT_lt hT hi hk (by decide)) hE r) rfl
 rename_i hk2
 rw [if_neg hk2]
 split at h
 · rename_i hk
   rw [if_pos hk]
   obtain ⟨_,i1,r,h⟩:=bind_ok h
   have h0:=isT_lt hT hi hk (by decide)
   have h1:=clockP_lt hT h0 r
   split at h
   · rename_i hk2
     obtain ⟨_,_,r2,h⟩:=bind_ok h
     injection h with ha hj
     subst ha hj
     have h2:=isT_lt hT h1.2.1 hk2 (by decide)
     have h3:=daysP_lt hT h2 r2
     refine bind_to (clockP_mv hT h0 (hE.mono (by omega)) r) ?_
     rw [ed_true (hE i1 (by omega)) (by decide) hk2,if_pos rfl,show i1+s+1=i1+1+s from by omega]
     exact bind_to (daysP_mv hT hLM h2 hE r2) rfl
   · rename_i hk2
     injection h with ha hj
     subst ha hj
     refine bind_to (clockP_mv hT h0 hE r) ?_
     rw [ed_isT (hE i1 (by omega)) (by decide) (Or.inl (by decide)),if_neg hk2]
 rename_i hk3
 rw [if_neg hk3]
 split at h
 · rename_i hk
   rw [if_pos hk]
   have h0:=isT_lt hT hi hk (by decide)
   split at h
   · rename_i hk2
     obtain ⟨_,_,r,h⟩:=bind_ok h
     injection h with ha hj
     subst ha hj
     have h1:=nameP_lt hT h0 r
     rw [if_pos ((ed_kind (hE (i+1) (by omega)) (by decide) (by decide)).2 hk2)]
     exact bind_to (nameP_mv (hE.mono (by omega)) r) rfl
   · rename_i hk2
     injection h with ha hj
     subst ha hj
     rw [if_neg (fun x=>hk2 ((ed_kind (hE (i+1) (by omega)) (by decide) (by decide)).1 x))]
 rename_i hk4
 rw [if_neg hk4]
 split at h
 · rename_i hk
   rw [if_pos hk]
   injection h with ha hj
   subst ha hj
   rfl
 rename_i hk5
 rw [if_neg hk5]
 obtain ⟨_,_,r,h⟩:=bind_ok h
 obtain ⟨_,_,r2,h⟩:=bind_ok h
 injection h with ha hj
 subst ha hj
 have h1:=mustP_lt hT hi (by decide) r
 have h2:=numP_lt hT h1.2 r2
 exact bind_to (mustP_mv (hE.mono (by omega)) (by decide) r) (bind_to (numP_mv (hE.mono (by omega)) r2) rfl)
theorem oneP_mv {k i:Nat} {a:Tk} {j:Nat} (hE:edgeL L M s i) (hk:k≠0) (h:oneP L k i=.ok a j):∃ b,oneP M k (i+s)=.ok b (j+s)∧b.2.1=a.2.1:=by
 unfold oneP at h ⊢
 split at h
 · rename_i hh
   obtain ⟨h1,h2⟩:=ed_same (hE i (Nat.le_refl _)) (by rw [hh];exact hk)
   injection h with ha hj
   subst ha hj
   rw [if_pos (h1.trans hh),show i+s+1=i+1+s from by omega]
   exact ⟨_,rfl,h2⟩
 · cases h
theorem stepP_ge (hT:TokOK L) {n i:Nat} {a:Sp} {j:Nat} (hi:i < L.length) (h:stepP L n i=.ok a j):i < j:=by
 unfold stepP at h
 split at h
 · rename_i hk
   obtain ⟨_,_,r,h⟩:=bind_ok h
   obtain ⟨_,_,r2,h⟩:=bind_ok h
   obtain ⟨_,_,r3,h⟩:=bind_ok h
   injection h with _ h
   have h1:=pathP_lt hT (isT_lt hT hi hk (by decide)) r
   have h2:=mustP_lt hT h1.2.1 (by decide) r2
   have:=wholeP_lt hT h2.2 r3
   omega
 split at h
 · rename_i hk
   obtain ⟨_,_,r,h⟩:=bind_ok h
   have h1:=pathP_lt hT (isT_lt hT hi hk (by decide)) r
   split at h
   · rename_i hk2
     obtain ⟨_,_,r2,h⟩:=bind_ok h
     obtain ⟨_,_,r3,h⟩:=bind_ok h
     injection h with _ h
     have h2:=wholeP_lt hT (isT_lt hT h1.2.1 hk2 (by decide)) r2
     have:=mustP_lt hT h2.2 (by decide) r3
     omega
   · injection h with _ h
     omega
 split at h
 · rename_i hk
   obtain ⟨_,_,r,h⟩:=bind_ok h
   injection h with _ h
   have:=nameP_lt hT (isT_lt hT hi hk (by decide)) r
   omega
 split at h
 · rename_i hk
   obtain ⟨_,_,r,h⟩:=bind_ok h
   injection h with _ h
   have:=nameP_lt hT (isT_lt hT hi hk (by decide)) r
   omega
 · obtain ⟨_,_,r,h⟩:=bind_ok h
   obtain ⟨_,_,r2,h⟩:=bind_ok h
   injection h with _ h
   have h1:=mustP_lt hT hi (by decide) r
   have:=oneP_lt hT h1.2 (by decide) r2
   omega
theorem stepP_mv (hT:TokOK L) (hLM:L.length<=M.length) {n n' i:Nat} (hn:n<=n') (hi:i < L.length) {a:Sp} {j:Nat} (hE:edgeL L M s j) (h:stepP L n i=.ok a j):stepP M n' (i+s)=.ok a (j+s):=by
 have hg:=stepP_ge hT hi h
 have eT:∀ w,isT M 1 w (i+s)=isT L 1 w i:=fun w=>ed_isT (hE i (by omega)) (by decide) (Or.inl (by decide))
 unfold stepP at h ⊢
 rw [eT,eT,eT,eT,show i+s+1=i+1+s from by omega]
 split at h
 · rename_i hk
   rw [if_pos hk]
   obtain ⟨_,_,r,h⟩:=bind_ok h
   obtain ⟨_,_,r2,h⟩:=bind_ok h
   obtain ⟨_,_,r3,h⟩:=bind_ok h
   injection h with ha hj
   subst ha hj
   have h0:=isT_lt hT hi hk (by decide)
   have h1:=pathP_lt hT h0 r
   have h2:=mustP_lt hT h1.2.1 (by decide) r2
   have h3:=wholeP_lt hT h2.2 r3
   exact bind_to (pathP_mv hT h0 (hE.mono (by omega)) r) (bind_to (mustP_mv (hE.mono (by omega)) (by decide) r2) (bind_to (wholeP_mv hT hLM hn h2.2 hE r3) rfl))
 rename_i hk1
 rw [if_neg hk1]
 split at h
 · rename_i hk
   rw [if_pos hk]
   obtain ⟨_,i1,r,h⟩:=bind_ok h
   have h0:=isT_lt hT hi hk (by decide)
   have h1:=pathP_lt hT h0 r
   split at h
   · rename_i hk2
     obtain ⟨_,_,r2,h⟩:=bind_ok h
     obtain ⟨_,_,r3,h⟩:=bind_ok h
     injection h with ha hj
     subst ha hj
     have h00:=isT_lt hT h1.2.1 hk2 (by decide)
     have h2:=wholeP_lt hT h00 r2
     have h3:=mustP_lt hT h2.2 (by decide) r3
     refine bind_to (pathP_mv hT h0 (hE.mono (by omega)) r) ?_
     rw [ed_true (hE i1 (by omega)) (by decide) hk2,if_pos rfl,show i1+s+1=i1+1+s from by omega]
     exact bind_to (wholeP_mv hT hLM hn h00 (hE.mono (by omega)) r2) (bind_to (mustP_mv (hE.mono (by omega)) (by decide) r3) rfl)
   · rename_i hk2
     injection h with ha hj
     subst ha hj
     refine bind_to (pathP_mv hT h0 hE r) ?_
     rw [ed_isT (hE i1 (by omega)) (by decide) (Or.inr (by decide)),if_neg hk2]
 rename_i hk2
 rw [if_neg hk2]
 split at h
 · rename_i hk
   rw [if_pos hk]
   obtain ⟨_,_,r,h⟩:=bind_ok h
   injection h with ha hj
   subst ha hj
   have h1:=nameP_lt hT (isT_lt hT hi hk (by decide)) r
   exact bind_to (nameP_mv (hE.mono (by omega)) r) rfl
 rename_i hk3
 rw [if_neg hk3]
 split at h
 · rename_i hk
   rw [if_pos hk]
   obtain ⟨_,_,r,h⟩:=bind_ok h
   injection h with ha hj
   subst ha hj
   have h1:=nameP_lt hT (isT_lt hT hi hk (by decide)) r
   exact bind_to (nameP_mv (hE.mono (by omega)) r) rfl
 rename_i hk4
 rw [if_neg hk4]
 obtain ⟨_,_,r,h⟩:=bind_ok h
 obtain ⟨t,_,r2,h⟩:=bind_ok h
 injection h with ha hj
 subst ha hj
 have h1:=mustP_lt hT hi (by decide) r
 have h2:=oneP_lt hT h1.2 (by decide) r2
 obtain ⟨b,hb,ht⟩:=oneP_mv (M:=M) (s:=s) (hE.mono (by omega)) (by decide) r2
 refine bind_to (mustP_mv (hE.mono (by omega)) (by decide) r) (bind_to hb ?_)
 rw [ht]
theorem severalP_mv {α:Type} (hT:TokOK L) (Hs:∀ k,k+1 < L.length->edgeT (tokAt L k) (tokAt M (k+s))) {w:List UInt8} {part part':Nat->PR α} (hp:∀ i a j,i < L.length->j+1 < L.length->part i=.ok a j->part' (i+s)=.ok a (j+s)) (hlt:∀ i a j,i < L.length->part i=.ok a j->j < L.length):∀ (m:Nat) (acc:List α) (i:Nat) (l:List α) (j:Nat),i < L.length->j+1 < L.length->severalP L w part m acc i=.ok l j->severalP M w part' m acc (i+s)=.ok l (j+s)
 | 0,_,_,_,_,_,_,h=>by cases h
 | m+1,acc,i,l,j,hi,hj,h=>by
  have hE:∀ k,k+1 < L.length->edgeL L M s k:=fun k hk k' hk'=>Hs k' (by omega)
  rw [severalP] at h ⊢
  split at h
  · rename_i hc
    split at h
    · cases h
    · rename_i h8
      obtain ⟨_,i1,r1,h⟩:=bind_ok h
      obtain ⟨a,i2,r2,h⟩:=bind_ok h
      obtain ⟨_,i3,r3,h⟩:=bind_ok h
      have h1:=mustP_lt hT hi (by decide) r1
      have h2:=hlt _ _ _ h1.2 r2
      have h3:=mustP_lt hT h2 (by decide) r3
      rw [ed_isT (Hs i (by omega)) (by decide) (Or.inl (by decide)),if_pos hc,if_neg h8]
      exact bind_to (mustP_mv (hE i (by omega)) (by decide) r1) (bind_to (hp _ _ _ h1.2 (by omega) r2) (bind_to (mustP_mv (hE i2 (by omega)) (by decide) r3) (severalP_mv hT Hs hp hlt m _ _ _ _ h3.2 hj h)))
  · rename_i hc
    injection h with ha hj2
    subst ha hj2
    rw [ed_isT (Hs i hj) (by decide) (Or.inl (by decide)),if_neg hc]
theorem ruleP_mv (hT:TokOK L) (hLM:L.length<=M.length) (Hs:∀ k,k+1 < L.length->edgeT (tokAt L k) (tokAt M (k+s))) {n n':Nat} (hn:n<=n') {rs:List Rl} {i:Nat} {r:Rl} {j:Nat} (hi:i < L.length) (h:ruleP L n rs i=.ok r j):(∀ x ∈ rs,x.nm≠r.nm)∧∀ rs2:List Rl,rs2.length≠40->(∀ x ∈ rs2,x.nm≠r.nm)->ruleP M n' rs2 (i+s)=.ok r (j+s):=by
 have hE:∀ k,k+1 < L.length->edgeL L M s k:=fun k hk k' hk'=>Hs k' (by omega)
 have hjl:=ruleP_lt hT hi h
 unfold ruleP at h
 split at h
 · cases h
 obtain ⟨_,i0,r0,h⟩:=bind_ok h
 obtain ⟨nm,i1,r1,h⟩:=bind_ok h
 split at h
 · cases h
 rename_i hany
 obtain ⟨pr,i2,r2,h⟩:=bind_ok h
 obtain ⟨_,i3,r3,h⟩:=bind_ok h
 obtain ⟨on,i4,r4,h⟩:=bind_ok h
 obtain ⟨e,i5,r5,h⟩:=bind_ok h
 obtain ⟨dos,i6,r6,h⟩:=bind_ok h
 obtain ⟨_,i7,r7,h⟩:=bind_ok h
 injection h with ha hj
 subst ha hj
 simp only
 refine ⟨fun x hx hxn=>hany (List.any_eq_true.2 ⟨x,hx,beq_iff_eq.2 hxn⟩),fun rs2 h40 hnm=>?_⟩
 have h0:=mustP_lt hT hi (by decide) r0
 have h1:=nameP_lt hT h0.2 r1
 have h2:i1<=i2∧i2 < L.length:=by
  split at r2
  · rename_i hk
    have hk0:=isT_lt hT h1.2 hk (by decide)
    have:=numP_lt hT hk0 r2
    omega
  · injection r2 with _ r2
    omega
 have h3:=mustP_lt hT h2.2 (by decide) r3
 have h4:=severalP_lt hT (fun i a j hi h=>triggerP_lt hT hi h) _ _ _ _ _ h3.2 (by simp) r4
 have h5:i5 < L.length:=by
  split at r5
  · rename_i hk
    obtain ⟨_,_,q1,r5⟩:=bind_ok r5
    obtain ⟨_,_,q2,r5⟩:=bind_ok r5
    injection r5 with _ r5
    have:=wholeP_lt hT (isT_lt hT h4.1 hk (by decide)) q1
    have:=mustP_lt hT this.2 (by decide) q2
    omega
  · injection r5 with _ r5
    omega
 have h6:=severalP_lt hT (fun i a j hi h=>stepP_lt hT hi h) _ _ _ _ _ h5 (by simp) r6
 have h7:=mustP_lt hT h6.1 (by decide) r7
 -- 'do' stands at i5
 have h51:i5+1 < L.length:=by
  rw [severalP] at r6
  rw [if_pos (.inl rfl),if_neg (by decide)] at r6
  obtain ⟨_,_,q1,_⟩:=bind_ok r6
  have:=mustP_lt hT h5 (by decide) q1
  omega
 have h41:i4+1 < L.length:=by
  split at r5
  · rename_i hk
    have:=isT_lt hT h4.1 hk (by decide)
    omega
  · injection r5 with _ r5
    omega
 have h21:i1+1 < L.length:=by omega
 unfold ruleP
 rw [if_neg (fun x=>h40 x.2)]
 refine bind_to (mustP_mv (hE i (by omega)) (by decide) r0) (bind_to (nameP_mv (hE i0 (by omega)) r1) ?_)
 rw [if_neg (fun x=>by
  obtain ⟨y,hy,hyn⟩:=List.any_eq_true.1 x
  exact hnm y hy (beq_iff_eq.1 hyn))]
 have q2:(if isT M 1 [112,114,105,111,114,105,116,121] (i1+s) then numP M 0 100 (i1+s+1) else .ok 0 (i1+s))=.ok pr (i2+s):=by
  rw [ed_isT (Hs i1 h21) (by decide) (Or.inl (by decide)),show i1+s+1=i1+1+s from by omega]
  split at r2
  · rename_i hk
    rw [if_pos hk]
    have hk0:=isT_lt hT h1.2 hk (by decide)
    have:=numP_lt hT hk0 r2
    exact numP_mv (hE (i1+1) (by omega)) r2
  · rename_i hk
    injection r2 with ra rj
    subst ra rj
    rw [if_neg hk]
 refine bind_to q2 (bind_to (mustP_mv (hE i2 (by omega)) (by decide) r3) ?_)
 refine bind_to (severalP_mv hT Hs (fun i a j hi hj h=>triggerP_mv hT hLM hi (hE j hj) h) (fun i a j hi h=>triggerP_lt hT hi h) _ _ _ _ _ h3.2 h41 r4) ?_
 have q5:(if isT M 1 [105,102] (i4+s) then (wholeP M n' (i4+s+1)).bind fun e i=>(mustP M 4 [59] i).bind fun _ i=>.ok e i else .ok wT (i4+s))=.ok e (i5+s):=by
  rw [ed_isT (Hs i4 h41) (by decide) (Or.inl (by decide)),show i4+s+1=i4+1+s from by omega]
  split at r5
  · rename_i hk
    rw [if_pos hk]
    obtain ⟨_,j1,q1,r5⟩:=bind_ok r5
    obtain ⟨_,_,q2,r5⟩:=bind_ok r5
    injection r5 with ra rj
    subst ra rj
    have k0:=isT_lt hT h4.1 hk (by decide)
    have k1:=wholeP_lt hT k0 q1
    have k2:=mustP_lt hT k1.2 (by decide) q2
    exact bind_to (wholeP_mv hT hLM hn k0 (hE j1 (by omega)) q1) (bind_to (mustP_mv (hE j1 (by omega)) (by decide) q2) rfl)
  · rename_i hk
    injection r5 with ra rj
    subst ra rj
    rw [if_neg hk]
 refine bind_to q5 ?_
 refine bind_to (severalP_mv hT Hs (fun i a j hi hj h=>stepP_mv hT hLM hn hi (hE j hj) h) (fun i a j hi h=>stepP_lt hT hi h) _ _ _ _ _ h5 (by omega) r6) ?_
 exact bind_to (mustP_mv (hE i6 (by omega)) (by decide) r7) rfl
theorem rulesP_mv (hT:TokOK L) (hLM:L.length<=M.length) (Hs:∀ k,k+1 < L.length->edgeT (tokAt L k) (tokAt M (k+s))) {n n':Nat} (hn:n<=n'):∀ (m:Nat) (rs:List Rl) (i:Nat) (out:List Rl) (j:Nat),i < L.length->rs.length<=40->rulesP L n m rs i=.ok out j ->
 ∃ l,out=rs++l∧j < L.length∧(tokAt L j).1=0∧(∀ x ∈ rs,∀ y ∈ l,x.nm≠y.nm)∧∀ (rs2:List Rl) (k:Nat),rs2.length+l.length<=40->(∀ x ∈ rs2,∀ y ∈ l,x.nm≠y.nm)->rulesP M n' (l.length+k) rs2 (i+s)=rulesP M n' k (rs2++l) (j+s)
 | 0,_,_,_,_,_,_,h=>by cases h
 | m+1,rs,i,out,j,hi,h4,h=>by
  rw [rulesP] at h
  split at h
  · rename_i hk
    injection h with ha hj
    subst ha hj
    exact ⟨[],(List.append_nil _).symm,hi,hk,fun x _ y hy=>(by cases hy),fun rs2 k _ _=>by rw [List.length_nil,Nat.zero_add,List.append_nil]⟩
  · rename_i hk
    obtain ⟨r,i1,hr,h⟩:=bind_ok h
    have hlt:=ruleP_lt hT hi hr
    obtain ⟨g1,g2⟩:=ruleP_mv hT hLM Hs hn hi hr
    obtain ⟨l,e1,e2,e3,e4,e5⟩:=rulesP_mv hT hLM Hs hn m _ _ _ _ hlt.1 (by rw [List.length_append,List.length_singleton];omega) h
    have hi1:=next_lt hT hi hk
    refine ⟨r :: l,by rw [e1,List.append_assoc];rfl,e2,e3,fun x hx y hy=>?_,fun rs2 k hl hnm=>?_⟩
    · rcases List.mem_cons.1 hy with rfl | hy
      · exact g1 x hx
      · exact e4 x (List.mem_append_left _ hx) y hy
    · rw [List.length_cons] at hl
      rw [show (r :: l).length+k=(l.length+k)+1 from by rw [List.length_cons];omega,rulesP]
      have hs:=ed_same (Hs i hi1) hk
      rw [if_neg (by rw [hs.1];exact hk)]
      refine bind_to (g2 rs2 (by omega) (fun x hx=>hnm x hx r (List.mem_cons_self ..))) ?_
      rw [e5 (rs2++[r]) k (by rw [List.length_append,List.length_singleton];omega) (fun x hx y hy=>?_),List.append_assoc]
      · rfl
      · rcases List.mem_append.1 hx with hx | hx
        · exact hnm x hx y (List.mem_cons_of_mem _ hy)
        · rw [List.mem_singleton] at hx
          subst hx
          exact e4 x (List.mem_append_right _ (List.mem_singleton.2 rfl)) y hy
end
theorem rulesA_ok {s:List UInt8} (hs:s.length<=3900) (h:(rulesA s).2.2=0):∃ r,toks s=(r++[(0,[],s.length)],0,0)∧r.length<=s.length∧TokOK (r++[(0,[],s.length)])∧∃ j,rulesP (r++[(0,[],s.length)]) (fuN (r++[(0,[],s.length)])) 42 [] 0=.ok (rulesA s).1 j:=by
 by_cases h0:(toks s).2.2=0
 · obtain ⟨r,h1,h2,h3⟩:=toks_shape s hs h0
   have hT:=TokOK_of hs h1 h2 h3
   refine ⟨r,h1,h3,hT,?_⟩
   unfold rulesA at h ⊢
   rw [if_pos h0] at h ⊢
   rw [h1] at h ⊢
   simp only at h ⊢
   cases hr:rulesP (r++[(0,[],s.length)]) (fuN (r++[(0,[],s.length)])) 42 [] 0 with
   | out=>exact absurd hr (rulesP_out hT 42 [] 0 hT.pos (by simp) (by simp))
   | bad t c=>
    rw [hr] at h
    exact absurd h (rulesP_nz _ _ _ t c hr)
   | ok l j=>exact ⟨j,rfl⟩
 · unfold rulesA at h
   rw [if_neg h0] at h
   exact absurd h h0
theorem join_law {s t:List UInt8} (hs:s.length<=1500) (ht:t.length<=1500) (h:(rulesA s).2.2=0) (h':(rulesA t).2.2=0) (hl:(rulesA s).1.length+(rulesA t).1.length<=40) (hn:∀ x ∈ (rulesA s).1,∀ y ∈ (rulesA t).1,x.nm≠y.nm):rulesA (joinL s t)=((rulesA s).1++(rulesA t).1,0,0):=by
 obtain ⟨r,r1,r2,hT,jr,r4⟩:=rulesA_ok (by omega) h
 obtain ⟨q,q1,q2,hU,jq,q4⟩:=rulesA_ok (by omega) h'
 obtain ⟨_,g⟩:=toks_join s t (by omega) (by omega)
 obtain ⟨r',g1,g2,g3⟩:=g (by rw [r1])
 have hr:r'=r:=by
  rw [r1] at g1
  exact (app_end (Prod.mk.inj g1).1).symm
 subst hr
 rw [q1] at g3
 have g4:toks (joinL s t)=(r'++(q++[(0,[],t.length)]).map (moK (s.length+1)),0,0):=g3
 generalize (rulesA s).1=a at *
 generalize (rulesA t).1=b at *
 have hL1:(r'++[(0,[],s.length)]).length=r'.length+1:=by rw [List.length_append];rfl
 have hL2:(q++[(0,[],t.length)]).length=q.length+1:=by rw [List.length_append];rfl
 have hM:(r'++(q++[(0,[],t.length)]).map (moK (s.length+1))).length=r'.length+q.length+1:=by rw [List.length_append,List.length_map,hL2];omega
 have H1:∀ k,k+1 < (r'++[(0,[],s.length)]).length->edgeT (tokAt (r'++[(0,[],s.length)]) k) (tokAt (r'++(q++[(0,[],t.length)]).map (moK (s.length+1))) (k+0)):=fun k hk=>by
  rw [Nat.add_zero,tokAt_app0 (by omega),tokAt_app0 (by omega)]
  exact .inl ⟨rfl,rfl⟩
 have H2':∀ k,k < (q++[(0,[],t.length)]).length->edgeT (tokAt (q++[(0,[],t.length)]) k) (tokAt (r'++(q++[(0,[],t.length)]).map (moK (s.length+1))) (k+r'.length)):=fun k hk=>by
  rw [Nat.add_comm k,tokAt_app]
  obtain ⟨e1,e2⟩:=tokAt_mo (r:=q++[(0,[],t.length)]) (n:=s.length+1) hk
  exact .inl ⟨e1.symm,e2.symm⟩
 have H3:∀ k,k < (q++[(0,[],t.length)]).length->(tokAt (r'++(q++[(0,[],t.length)]).map (moK (s.length+1))) (k+r'.length)).1=(tokAt (q++[(0,[],t.length)]) k).1:=fun k hk=>by
  rw [Nat.add_comm k,tokAt_app]
  exact (tokAt_mo (r:=q++[(0,[],t.length)]) (n:=s.length+1) hk).1
 generalize r'++(q++[(0,[],t.length)]).map (moK (s.length+1))=M at *
 have f1:fuN (r'++[(0,[],s.length)])<=fuN M:=by unfold fuN;rw [hL1,hM];omega
 have f2:fuN (q++[(0,[],t.length)])<=fuN M:=by unfold fuN;rw [hL2,hM];omega
 obtain ⟨l1,a1,a2,a3,_,a5⟩:=rulesP_mv hT (by rw [hL1,hM];omega) H1 f1 _ _ _ _ _ hT.pos (by simp) r4
 obtain ⟨l2,b1,b2,b3,_,b5⟩:=rulesP_mv hU (by rw [hL2,hM];omega) (fun k hk=>H2' k (by omega)) f2 _ _ _ _ _ hU.pos (by simp) q4
 rw [List.nil_append] at a1 b1
 subst a1 b1
 have ja:jr=r'.length:=by
  have:¬ jr+1 < (r'++[(0,[],s.length)]).length:=fun h5=>hT.inner jr h5 a3
  omega
 have jb:jq=q.length:=by
  have:¬ jq+1 < (q++[(0,[],t.length)]).length:=fun h5=>hU.inner jq h5 b3
  omega
 have c1:=a5 [] (b.length+(42 - a.length - b.length)) (by simp;omega) (fun x hx=>by cases hx)
 have c2:=b5 a (42 - a.length - b.length) hl hn
 rw [List.nil_append,ja,Nat.add_zero,Nat.add_zero,show a.length+(b.length+(42 - a.length - b.length))=42 from by omega] at c1
 rw [Nat.zero_add] at c2
 have hend:(tokAt M (jq+r'.length)).1=0:=by rw [H3 jq (by omega)];exact b3
 obtain ⟨k3,hk3⟩:∃ k3,42 - a.length - b.length=k3+1:=⟨42 - a.length - b.length - 1,by omega⟩
 have c3:rulesP M (fuN M) (k3+1) (a++b) (jq+r'.length)=.ok (a++b) (jq+r'.length):=by rw [rulesP,if_pos hend]
 rw [hk3] at c2
 unfold rulesA
 rw [g4]
 simp only
 rw [if_pos trivial,c1,hk3,c2,c3]
end Go.HH
namespace Go.HH
open Go Go.Proofs
set_option maxRecDepth 100000
set_option maxHeartbeats 4000000
set_option linter.unusedSimpArgs false
set_option linter.unusedVariables false
theorem ok_L29_ParseJoin:fnOK CC Try.f5 (Try.f5.body.getD .skip)=true:=by kernel_rfl
theorem fat_L29_ParseJoin:CC.P.funcs[5]?=some Try.f5:=by kernel_rfl
def rlR (r:Rl):List PV:=(rcs r.nm r.pr (.sl (r.on.map tgV)) (.sl (r.dos.map spV)) r.ife).tail
theorem rlP_cons (r:Rl):rlP r=.agg (.str r.nm :: rlR r):=by
 obtain ⟨nm,pr,on,⟨k,n,m,s,v,q,kids⟩,dos⟩:=r
 rfl
theorem rlR_len (r:Rl):(rlR r).length=14:=by
 obtain ⟨nm,pr,on,⟨k,n,m,s,v,q,kids⟩,dos⟩:=r
 rfl
theorem rlP_get {l:List Rl} {i:Nat} (h:i < l.length):(l.map rlP)[i]?=some (.agg (.str l[i].nm :: rlR l[i])):=by rw [List.getElem?_map,List.getElem?_eq_getElem h,<- rlP_cons];rfl
theorem rls_all (l:List Rl):((l.map rlP).all fun y=>y.cells.length == 15)=true:=by
 rw [List.all_eq_true]
 intro y hy
 obtain ⟨r,_,rfl⟩:=List.mem_map.1 hy
 rw [rlP_cons]
 show ((PV.str r.nm :: rlR r).length == 15)=true
 rw [List.length_cons,rlR_len]
 rfl
def PJo (qa qb:List PV) (S T:List UInt8) (C:Prop) (x:Nat) (v11:PV) (bx:List PBox) (z:Option (Ex×St)):Prop:=(∃ e',z=some (.ret,⟨e',bx⟩)∧getT e' 4=.bool true)∨(∃ e',z=some (.exit x,⟨e',bx⟩)∧getT e' 0=.str S∧getT e' 1=.str T∧getT e' 5=.sl qa∧getT e' 8=.sl qb∧(x=2->getT e' 11=v11)∧C)
theorem loop_Jin (Lc:Code) (hL:Lc=fpart Try.f5 [1,1,1,1,1,0,1,0,0,1,0,0,1,0]) (S T:List UInt8) (a b:List Rl) (ha:a.length<=40) (hb:b.length<=40) (i:Nat) (hi:i < a.length):∀ (m k:Nat) (e:List PV) (bx:List PBox),k+m=b.length->getT e 0=.str S->getT e 1=.str T->getT e 5=.sl (a.map rlP)->getT e 8=.sl (b.map rlP)->getT e 11=.int .i64 (i:Int)->getT e 12=.int .i64 (k:Int) ->
 PJo (a.map rlP) (b.map rlP) S T (∀ y ∈ b.drop k,a[i].nm≠y.nm) 2 (.int .i64 (i:Int)) bx (evL CC Lc ⟨e,bx⟩):=by
 intro m
 induction m with
 | zero=>
  intro k e bx hk e0 e1 e5 e8 e11 e12
  rw [evL_at (fpart Try.f5 [1,1,1,1,1,0,1,0,0,1,0,0,1,0,0]) hL]
  have hc:¬ ((k:Int) < (b.length:Int)):=by omega
  have hlb:(b.map rlP).length=b.length:=List.length_map ..
  have hC:∀ y ∈ b.drop k,a[i].nm≠y.nm:=by
   rw [List.drop_eq_nil_of_le (by omega)]
   exact fun y hy=>by cases hy
  generalize (∀ y ∈ b.drop k,a[i].nm≠y.nm)=C at *
  generalize a.map rlP=qa at *
  generalize b.map rlP=qb at *
  obtain ⟨ev,eo,so,co,⟨hev,hco⟩,R⟩:=RULES CC;rw [<- hev]
  simp only [fpart,part',Try.f5,Option.getD]
  simp only [S9,R,seval,ZC,nchP,List.set_cons_zero,List.set_cons_succ,e0,e1,e5,e8,e11,e12,hlb,hc]
  exact .inr ⟨_,rfl,by simp only [S7,R,seval,e0],by simp only [S7,R,seval,e1],by simp only [S7,R,seval,e5],by simp only [S7,R,seval,e8],fun _=>by simp only [S7,R,seval,e11],hC⟩
 | succ m ih=>
  intro k e bx hk e0 e1 e5 e8 e11 e12
  rw [evL_at (fpart Try.f5 [1,1,1,1,1,0,1,0,0,1,0,0,1,0,0]) hL]
  have hkb:k < b.length:=by omega
  have hc:((k:Int) < (b.length:Int)):=by omega
  have hi0:¬ ((i:Int) < 0):=by omega
  have hk0:¬ ((k:Int) < 0):=by omega
  have hlb:(b.map rlP).length=b.length:=List.length_map ..
  have ga:=rlP_get hi
  have gb:=rlP_get hkb
  have la:=rlR_len a[i]
  have lb:=rlR_len b[k]
  have haw:=op_awake
  have hw1:=wrap_i64 (n:=(k:Int)+1) ⟨by omega,by omega⟩
  have key:=fun e=>ih (k+1) e bx (by omega)
  have cast1:((k+1:Nat):Int)=(k:Int)+1:=by omega
  rw [cast1] at key
  have hdr:b.drop k=b[k] :: b.drop (k+1):=List.drop_eq_getElem_cons hkb
  rw [hdr]
  generalize rlR a[i]=ra at *
  generalize rlR b[k]=rb at *
  have he:strP .eql a[i].nm b[k].nm=some (.bool (a[i].nm == b[k].nm)):=rfl
  by_cases hn:a[i].nm=b[k].nm
  · rw [beq_iff_eq.2 hn] at he
    clear key ih
    generalize (∀ y ∈ b[k] :: b.drop (k+1),a[i].nm≠y.nm)=C at *
    generalize a[i].nm=na at *
    generalize b[k].nm=nb at *
    generalize a.map rlP=qa at *
    generalize b.map rlP=qb at *
    obtain ⟨ev,eo,so,co,⟨hev,hco⟩,R⟩:=RULES CC;rw [<- hev]
    rw [<- hco] at haw
    simp only [fpart,part',Try.f5,Option.getD]
    simp only [S9,R,seval,ZC,nchP,List.set_cons_zero,List.set_cons_succ,e0,e1,e5,e8,e11,e12,hlb,hc,hi0,hk0,ga,gb,la,lb,he,haw]
    exact .inl ⟨_,rfl,by simp only [S7,R,seval]⟩
  · rw [beq_eq_false_iff_ne.2 hn] at he
    have hC:(∀ y ∈ b.drop (k+1),a[i].nm≠y.nm)->∀ y ∈ b[k] :: b.drop (k+1),a[i].nm≠y.nm:=fun h y hy=>by
     rcases List.mem_cons.1 hy with rfl | hy
     · exact hn
     · exact h y hy
    generalize (∀ y ∈ b[k] :: b.drop (k+1),a[i].nm≠y.nm)=C at *
    generalize (∀ y ∈ b.drop (k+1),a[i].nm≠y.nm)=D at *
    generalize a[i].nm=na at *
    generalize b[k].nm=nb at *
    generalize a.map rlP=qa at *
    generalize b.map rlP=qb at *
    obtain ⟨ev,eo,so,co,⟨hev,hco⟩,R⟩:=RULES CC;rw [<- hev]
    rw [<- hev] at key
    simp only [fpart,part',Try.f5,Option.getD]
    simp only [S9,R,seval,ZC,nchP,List.set_cons_zero,List.set_cons_succ,e0,e1,e5,e8,e11,e12,hlb,hc,hi0,hk0,ga,gb,la,lb,he,hw1]
    generalize hE:ev Lc _=z
    have hP:PJo qa qb S T D 2 (.int .i64 (i:Int)) bx z:=by
     rw [<- hE]
     refine key _ ?_ ?_ ?_ ?_ ?_ ?_
     all_goals first | (simp only [S7,R,seval,e0,e1,e5,e8,e11,e12];done) | (simp only [S7,R,seval,e0,e1,e5,e8,e11,e12] <;> rfl)
    rcases hP with h | ⟨e',h1,h2,h3,h4,h5,h6,h7⟩
    · exact .inl h
    · exact .inr ⟨e',h1,h2,h3,h4,h5,h6,hC h7⟩
theorem loop_Jout (Lc:Code) (hL:Lc=fpart Try.f5 [1,1,1,1,1,0,1,0]) (S T:List UInt8) (a b:List Rl) (ha:a.length<=40) (hb:b.length<=40):∀ (m i:Nat) (e:List PV) (bx:List PBox),i+m=a.length->getT e 0=.str S->getT e 1=.str T->getT e 5=.sl (a.map rlP)->getT e 8=.sl (b.map rlP)->getT e 11=.int .i64 (i:Int) ->
 PJo (a.map rlP) (b.map rlP) S T (∀ x ∈ a.drop i,∀ y ∈ b,x.nm≠y.nm) 0 (.int .i64 0) bx (evL CC Lc ⟨e,bx⟩):=by
 intro m
 induction m with
 | zero=>
  intro i e bx hk e0 e1 e5 e8 e11
  rw [evL_at (fpart Try.f5 [1,1,1,1,1,0,1,0,0]) hL]
  have hc:¬ ((i:Int) < (a.length:Int)):=by omega
  have hla:(a.map rlP).length=a.length:=List.length_map ..
  have hC:∀ x ∈ a.drop i,∀ y ∈ b,x.nm≠y.nm:=by
   rw [List.drop_eq_nil_of_le (by omega)]
   exact fun y hy=>by cases hy
  generalize (∀ x ∈ a.drop i,∀ y ∈ b,x.nm≠y.nm)=C at *
  generalize a.map rlP=qa at *
  generalize b.map rlP=qb at *
  obtain ⟨ev,eo,so,co,⟨hev,hco⟩,R⟩:=RULES CC;rw [<- hev]
  simp only [fpart,part',Try.f5,Option.getD]
  simp only [S9,R,seval,ZC,nchP,List.set_cons_zero,List.set_cons_succ,e0,e1,e5,e8,e11,hla,hc]
  exact .inr ⟨_,rfl,by simp only [S7,R,seval,e0],by simp only [S7,R,seval,e1],by simp only [S7,R,seval,e5],by simp only [S7,R,seval,e8],fun h=>(by cases h),hC⟩
 | succ m ih=>
  intro i e bx hk e0 e1 e5 e8 e11
  rw [evL_at (fpart Try.f5 [1,1,1,1,1,0,1,0,0]) hL]
  have hia:i < a.length:=by omega
  have hc:((i:Int) < (a.length:Int)):=by omega
  have hla:(a.map rlP).length=a.length:=List.length_map ..
  have hw1:=wrap_i64 (n:=(i:Int)+1) ⟨by omega,by omega⟩
  have key:=fun e=>ih (i+1) e bx (by omega)
  have cast1:((i+1:Nat):Int)=(i:Int)+1:=by omega
  rw [cast1] at key
  have hin:=fun Lc hL e=>loop_Jin Lc hL S T a b ha hb i hia b.length 0 e bx (by omega)
  have hdr:a.drop i=a[i] :: a.drop (i+1):=List.drop_eq_getElem_cons hia
  rw [hdr]
  rw [List.drop_zero] at hin
  have hC:(∀ y ∈ b,a[i].nm≠y.nm)->(∀ x ∈ a.drop (i+1),∀ y ∈ b,x.nm≠y.nm)->∀ x ∈ a[i] :: a.drop (i+1),∀ y ∈ b,x.nm≠y.nm:=fun h1 h2 x hx=>by
   rcases List.mem_cons.1 hx with rfl | hx
   · exact h1
   · exact h2 x hx
  generalize (∀ x ∈ a[i] :: a.drop (i+1),∀ y ∈ b,x.nm≠y.nm)=C at *
  generalize (∀ x ∈ a.drop (i+1),∀ y ∈ b,x.nm≠y.nm)=D at *
  generalize (∀ y ∈ b,a[i].nm≠y.nm)=G at *
  generalize a.map rlP=qa at *
  generalize b.map rlP=qb at *
  obtain ⟨ev,eo,so,co,⟨hev,hco⟩,R⟩:=RULES CC;rw [<- hev]
  rw [<- hev] at key hin
  simp only [fpart,part',Try.f5,Option.getD] at hin ⊢
  simp only [S9,R,seval,ZC,nchP,List.set_cons_zero,List.set_cons_succ,e0,e1,e5,e8,e11,hla,hc]
  generalize hE:ev (Code.loop _) _=z
  have hP:PJo qa qb S T G 2 (.int .i64 (i:Int)) bx z:=by
   rw [<- hE]
   refine hin _ rfl _ ?_ ?_ ?_ ?_ ?_ ?_
   all_goals first | (simp only [S7,R,seval,e0,e1,e5,e8,e11];done) | (simp only [S7,R,seval,e0,e1,e5,e8,e11] <;> rfl)
  clear hE hin
  rcases hP with ⟨e',h1,h2⟩ | ⟨e',h1,h2,h3,h4,h5,h6,h7⟩
  · subst h1
    simp only [S9,R,seval,ZC,nchP,List.set_cons_zero,List.set_cons_succ,h2]
    exact .inl ⟨_,rfl,h2⟩
  · subst h1
    have h6:=h6 rfl
    simp only [S9,R,seval,ZC,nchP,List.set_cons_zero,List.set_cons_succ,h2,h3,h4,h5,h6,hw1]
    generalize hE:ev Lc _=z
    have hP:PJo qa qb S T D 0 (.int .i64 0) bx z:=by
     rw [<- hE]
     refine key _ ?_ ?_ ?_ ?_ ?_
     all_goals first | (simp only [S7,R,seval,h2,h3,h4,h5,h6];done) | (simp only [S7,R,seval,h2,h3,h4,h5,h6] <;> rfl)
    rcases hP with h | ⟨e',g1,g2,g3,g4,g5,g6,g7⟩
    · exact .inl h
    · exact .inr ⟨e',g1,g2,g3,g4,g5,g6,hC h7 g7⟩
theorem bsR0:buildSliceP CC 23 0 []=some (.osl 37 []):=by kernel_rfl
theorem law_ParseJoin (s:List UInt8) (_:s.length<=maxLen) (t:List UInt8) (_:t.length<=maxLen):∃ bx,callL CC 5 [.str s,.str t] []=some (.ret (.bool true),bx):=by
 have haw:=op_awake
 have hlen:=len_str s
 have hlent:=len_str t
 by_cases c1:1500 < s.length
 · have c1':(s.length:Int) > 1500:=by omega
   rw [callL_enter (fn:=Try.f5) (c:=Try.f5.body.getD .skip) rfl rfl fat_L29_ParseJoin rfl ok_L29_ParseJoin (Nat.le_of_ble_eq_true rfl)]
   obtain ⟨ev,eo,so,co,⟨hev,hco⟩,R⟩:=RULES CC;rw [<- hev]
   rw [<- hco] at haw
   simp only [fpart,part',Try.f5,Option.getD]
   simp only [S9,R,seval,ZC,nchP,List.set_cons_zero,List.set_cons_succ,hlen,hlent,c1',haw]
   exact ⟨_,rfl⟩
 have c1':¬ (s.length:Int) > 1500:=by omega
 by_cases c2:1500 < t.length
 · have c2':(t.length:Int) > 1500:=by omega
   rw [callL_enter (fn:=Try.f5) (c:=Try.f5.body.getD .skip) rfl rfl fat_L29_ParseJoin rfl ok_L29_ParseJoin (Nat.le_of_ble_eq_true rfl)]
   obtain ⟨ev,eo,so,co,⟨hev,hco⟩,R⟩:=RULES CC;rw [<- hev]
   rw [<- hco] at haw
   simp only [fpart,part',Try.f5,Option.getD]
   simp only [S9,R,seval,ZC,nchP,List.set_cons_zero,List.set_cons_succ,hlen,hlent,c1',c2',haw]
   exact ⟨_,rfl⟩
 have c2':¬ (t.length:Int) > 1500:=by omega
 have x1:=op_parse_Rules s (by omega)
 have x2:=op_parse_Rules t (by omega)
 have hj:=joinL_length s t
 have x3:=op_parse_Rules (joinL s t) (by omega)
 obtain ⟨sh1,l1⟩:=rulesA_sh (s:=s) (by omega)
 obtain ⟨sh2,l2⟩:=rulesA_sh (s:=t) (by omega)
 by_cases d1:(rulesA s).2.2=0
 · by_cases d2:(rulesA t).2.2=0
   · by_cases d3:(rulesA s).1.length+(rulesA t).1.length<=40
     · have hjl:=join_law (s:=s) (t:=t) (by omega) (by omega) d1 d2 d3
       rw [d1] at x1
       rw [d2] at x2
       have sm:=op_R29_Same ((rulesA s).1++(rulesA t).1) (by rw [List.length_append];omega) (fun x hx=>by
        rcases List.mem_append.1 hx with hx | hx
        · exact sh1 x hx
        · exact sh2 x hx)
       clear sh1 sh2
       generalize (rulesA s).1=a at *
       generalize (rulesA t).1=b at *
       generalize (rulesA s).2.1=n1 at *
       generalize (rulesA t).2.1=n2 at *
       have d3':¬ ((a.length:Int)+(b.length:Int) > 40):=by omega
       have hw:=wrap_i64 (n:=(a.length:Int)+(b.length:Int)) ⟨by omega,by omega⟩
       have hloop:=fun Lc hL e bx=>loop_Jout Lc hL s t a b l1 l2 a.length 0 e bx (by omega)
       rw [List.drop_zero] at hloop
       have hla:(a.map rlP).length=a.length:=List.length_map ..
       have hlb:(b.map rlP).length=b.length:=List.length_map ..
       have pa:pureL (a.map rlP)=true:=map_pure rlP rlP_pure a
       have pb:pureL (b.map rlP)=true:=map_pure rlP rlP_pure b
       have pab:pureL ((a++b).map rlP)=true:=map_pure rlP rlP_pure (a++b)
       have ca:=rls_all a
       have cb:=rls_all b
       have hap1:=fun st al l d=>appK_ok (bytes:=208) (size:=15) (e:=37) (st:=st) (al:=al) (l:=l) (d:=d) (xs:=[]) (ys:=a.map rlP) (by rw [hla];simp only [List.length_nil];omega) (by decide) ca
       have hap2:=fun st al l d=>appK_ok (bytes:=208) (size:=15) (e:=37) (st:=st) (al:=al) (l:=l) (d:=d) (xs:=a.map rlP) (ys:=b.map rlP) (by rw [hla,hlb];omega) (by decide) cb
       have hbR:=apR _ bytesR
       have hb0:=bsR0
       rw [joinL_eq] at x3 hjl
       rw [List.map_append] at sm pab
       have m1:s.length+1<=maxStr:=by unfold maxStr;omega
       have m2:s.length+1+t.length<=maxStr:=by unfold maxStr;omega
       have m3:(s++[10]).length+t.length<=maxStr:=by rw [List.length_append];exact m2
       generalize hx:(∀ x ∈ a,∀ y ∈ b,x.nm≠y.nm)=C at *
       have hjr:C->callOp CC (callL CC) 9 [.str (s++[10]++t)]=fun bx=>some (.ret (.tup [.sl (a.map rlP++b.map rlP),.int .i64 0,.int .i64 0]),bx):=fun h=>by
        funext bx
        have:=x3 bx
        rw [hjl h] at this
        rw [List.map_append] at this
        exact this
       clear x3 hjl
       generalize a.map rlP=qa at *
       generalize b.map rlP=qb at *
       rw [callL_enter (fn:=Try.f5) (c:=Try.f5.body.getD .skip) rfl rfl fat_L29_ParseJoin rfl ok_L29_ParseJoin (Nat.le_of_ble_eq_true rfl)]
       obtain ⟨ev,eo,so,co,⟨hev,hco⟩,R⟩:=RULES CC;rw [<- hev]
       rw [<- hco] at haw x1 x2 sm hjr
       rw [<- hev] at hloop
       simp only [fpart,part',Try.f5,Option.getD] at hloop ⊢
       simp only [S9,R,seval,ZC,nchP,List.set_cons_zero,List.set_cons_succ,hlen,hlent,c1',c2',haw,x1,x2,hla,hlb,hw,d3']
       generalize hE:ev (Code.loop _) _=z
       have hP:PJo qa qb s t C 0 (.int .i64 0) [] z:=by
        rw [<- hE]
        refine hloop _ rfl _ _ ?_ ?_ ?_ ?_ ?_
        all_goals first | (simp only [S7,R,seval];done) | (simp only [S7,R,seval] <;> rfl)
       clear hE hloop
       rcases hP with ⟨e',h1,h2⟩ | ⟨e',h1,h2,h3,h4,h5,h6,h7⟩
       · subst h1
         simp only [S9,R,seval,ZC,nchP,List.set_cons_zero,List.set_cons_succ,h2]
         exact ⟨_,rfl⟩
       · subst h1
         have x3:=hjr h7
         simp only [S9,R,seval,ZC,nchP,List.set_cons_zero,List.set_cons_succ,h2,h3,h4,h5,strP,m1,m2,m3,x3,haw,hb0,hbR,hap1,hap2,sm,pab,pa,pb,PV.pure,pureL]
         exact ⟨_,rfl⟩
     · have d3':((rulesA s).1.length:Int)+((rulesA t).1.length:Int) > 40:=by omega
       have hw:=wrap_i64 (n:=((rulesA s).1.length:Int)+((rulesA t).1.length:Int)) ⟨by omega,by omega⟩
       rw [d1] at x1
       rw [d2] at x2
       have hla:((rulesA s).1.map rlP).length=(rulesA s).1.length:=List.length_map ..
       have hlb:((rulesA t).1.map rlP).length=(rulesA t).1.length:=List.length_map ..
       clear sh1 sh2 x3
       generalize (rulesA s).1.map rlP=qa at *
       generalize (rulesA t).1.map rlP=qb at *
       generalize (rulesA s).1.length=la at *
       generalize (rulesA t).1.length=lb at *
       generalize (rulesA s).2.1=n1 at *
       generalize (rulesA t).2.1=n2 at *
       rw [callL_enter (fn:=Try.f5) (c:=Try.f5.body.getD .skip) rfl rfl fat_L29_ParseJoin rfl ok_L29_ParseJoin (Nat.le_of_ble_eq_true rfl)]
       obtain ⟨ev,eo,so,co,⟨hev,hco⟩,R⟩:=RULES CC;rw [<- hev]
       rw [<- hco] at haw x1 x2
       simp only [fpart,part',Try.f5,Option.getD]
       simp only [S9,R,seval,ZC,nchP,List.set_cons_zero,List.set_cons_succ,hlen,hlent,c1',c2',haw,x1,x2,hla,hlb,hw,d3']
       exact ⟨_,rfl⟩
   · have d2':((rulesA t).2.2 != 0)=true:=bne_iff_ne.2 d2
     rw [d1] at x1
     clear sh1 sh2 x3
     generalize (rulesA s).1.map rlP=qa at *
     generalize (rulesA t).1.map rlP=qb at *
     generalize (rulesA s).2.1=n1 at *
     generalize (rulesA t).2.1=n2 at *
     generalize (rulesA t).2.2=er at *
     rw [callL_enter (fn:=Try.f5) (c:=Try.f5.body.getD .skip) rfl rfl fat_L29_ParseJoin rfl ok_L29_ParseJoin (Nat.le_of_ble_eq_true rfl)]
     obtain ⟨ev,eo,so,co,⟨hev,hco⟩,R⟩:=RULES CC;rw [<- hev]
     rw [<- hco] at haw x1 x2
     simp only [fpart,part',Try.f5,Option.getD]
     simp only [S9,R,seval,ZC,nchP,List.set_cons_zero,List.set_cons_succ,hlen,hlent,c1',c2',haw,x1,x2,d2']
     exact ⟨_,rfl⟩
 · have d1':((rulesA s).2.2 != 0)=true:=bne_iff_ne.2 d1
   clear sh1 sh2 x3
   generalize (rulesA s).1.map rlP=qa at *
   generalize (rulesA t).1.map rlP=qb at *
   generalize (rulesA s).2.1=n1 at *
   generalize (rulesA t).2.1=n2 at *
   generalize (rulesA s).2.2=er at *
   generalize (rulesA t).2.2=er2 at *
   rw [callL_enter (fn:=Try.f5) (c:=Try.f5.body.getD .skip) rfl rfl fat_L29_ParseJoin rfl ok_L29_ParseJoin (Nat.le_of_ble_eq_true rfl)]
   obtain ⟨ev,eo,so,co,⟨hev,hco⟩,R⟩:=RULES CC;rw [<- hev]
   rw [<- hco] at haw x1 x2
   simp only [fpart,part',Try.f5,Option.getD]
   simp only [S9,R,seval,ZC,nchP,List.set_cons_zero,List.set_cons_succ,hlen,hlent,c1',c2',haw,x1,x2,d1']
   exact ⟨_,rfl⟩
end Go.HH
namespace Go.HH
open Go Go.Proofs
set_option maxRecDepth 100000
set_option linter.unusedSimpArgs false
set_option linter.unusedVariables false
def stOK (x:Sp):Prop:=(x.k=1∧ckT x.ex=0)∨(x.k=2∧(x.ex=zT∨ckT x.ex=0))∨(2 < x.k∧x.ex=zT)
def ruOK (r:Rl):Prop:=valB r.nm=true∧0<=r.pr∧r.pr<=100∧1<=r.on.length∧r.on.length<=8∧1<=r.dos.length∧r.dos.length<=8∧ckT r.ife=0∧∀ x ∈ r.dos,stOK x
theorem wholeP_ck {L:List Tk} {n i:Nat} {a:Tr} {j:Nat} (h:wholeP L n i=.ok a j):ckT a=0:=by
 unfold wholeP at h
 obtain ⟨e,k,r,h⟩:=bind_ok h
 split at h
 · rename_i hc
   injection h with h _
   subst h
   exact hc
 · cases h
theorem stepP_ok {L:List Tk} {n i:Nat} {a:Sp} {j:Nat} (h:stepP L n i=.ok a j):stOK a:=by
 unfold stepP at h
 split at h
 · obtain ⟨_,_,_,h⟩:=bind_ok h
   obtain ⟨_,_,_,h⟩:=bind_ok h
   obtain ⟨e,_,r,h⟩:=bind_ok h
   injection h with h _
   subst h
   exact .inl ⟨rfl,wholeP_ck r⟩
 split at h
 · obtain ⟨_,_,_,h⟩:=bind_ok h
   split at h
   · obtain ⟨e,_,r,h⟩:=bind_ok h
     obtain ⟨_,_,_,h⟩:=bind_ok h
     injection h with h _
     subst h
     exact .inr (.inl ⟨rfl,.inr (wholeP_ck r)⟩)
   · injection h with h _
     subst h
     exact .inr (.inl ⟨rfl,.inl rfl⟩)
 split at h
 · obtain ⟨_,_,_,h⟩:=bind_ok h
   injection h with h _
   subst h
   exact .inr (.inr ⟨(by decide:(2:Int) < 3),rfl⟩)
 split at h
 · obtain ⟨_,_,_,h⟩:=bind_ok h
   injection h with h _
   subst h
   exact .inr (.inr ⟨(by decide:(2:Int) < 4),rfl⟩)
 · obtain ⟨_,_,_,h⟩:=bind_ok h
   obtain ⟨_,_,_,h⟩:=bind_ok h
   injection h with h _
   subst h
   exact .inr (.inr ⟨(by decide:(2:Int) < 5),rfl⟩)
theorem severalP_ok {α:Type} {L:List Tk} {w:List UInt8} {part:Nat->PR α} (P:α->Prop) (hp:∀ i a j,part i=.ok a j->P a):∀ (m:Nat) (acc:List α) (i:Nat) (l:List α) (j:Nat),(∀ x ∈ acc,P x)->acc.length<=8->severalP L w part m acc i=.ok l j->(∀ x ∈ l,P x)∧l.length<=8∧1<=l.length
 | 0,_,_,_,_,_,_,h=>by cases h
 | m+1,acc,i,l,j,ha,h8,h=>by
  rw [severalP] at h
  split at h
  · split at h
    · cases h
    · rename_i hne
      obtain ⟨_,_,_,h⟩:=bind_ok h
      obtain ⟨a,_,r,h⟩:=bind_ok h
      obtain ⟨_,_,_,h⟩:=bind_ok h
      refine severalP_ok P hp m _ _ _ _ (fun x hx=>?_) (by rw [List.length_append,List.length_singleton];omega) h
      rcases List.mem_append.1 hx with hx | hx
      · exact ha x hx
      · rw [List.mem_singleton] at hx
        subst hx
        exact hp _ _ _ r
  · rename_i hc
    injection h with h _
    subst h
    exact ⟨ha,h8,by
     have:¬ acc.length=0:=fun h0=>hc (.inl h0)
     omega⟩
theorem ck_wT:ckT wT=0:=by kernel_rfl
theorem ruleP_ok {L:List Tk} {n:Nat} {rs:List Rl} {i:Nat} {r:Rl} {j:Nat} (h:ruleP L n rs i=.ok r j):ruOK r∧∀ x ∈ rs,x.nm≠r.nm:=by
 unfold ruleP at h
 split at h
 · cases h
 obtain ⟨_,_,_,h⟩:=bind_ok h
 obtain ⟨nm,_,r1,h⟩:=bind_ok h
 split at h
 · cases h
 rename_i hany
 obtain ⟨pr,_,r2,h⟩:=bind_ok h
 obtain ⟨_,_,_,h⟩:=bind_ok h
 obtain ⟨on,_,r3,h⟩:=bind_ok h
 obtain ⟨e,_,r4,h⟩:=bind_ok h
 obtain ⟨dos,_,r5,h⟩:=bind_ok h
 obtain ⟨_,_,_,h⟩:=bind_ok h
 injection h with h _
 subst h
 have h3:=severalP_ok (fun _=>True) (fun _ _ _ _=>trivial) _ _ _ _ _ (fun x hx=>by cases hx) (by simp) r3
 have h5:=severalP_ok stOK (fun _ _ _ h=>stepP_ok h) _ _ _ _ _ (fun x hx=>by cases hx) (by simp) r5
 have hpr:pr<=100:=by
  split at r2
  · unfold numP at r2
    split at r2
    · split at r2
      · cases r2
      · injection r2 with r2 _
        omega
    · cases r2
  · injection r2 with r2 _
    omega
 have hck:ckT e=0:=by
  split at r4
  · obtain ⟨a,_,r6,r4⟩:=bind_ok r4
    obtain ⟨_,_,_,r4⟩:=bind_ok r4
    injection r4 with r4 _
    subst r4
    exact wholeP_ck r6
  · injection r4 with r4 _
    subst r4
    exact ck_wT
 refine ⟨⟨nameP_val r1,by simp only;omega,by simp only;omega,h3.2.2,h3.2.1,h5.2.2,h5.2.1,hck,h5.1⟩,fun x hx hxn=>hany (List.any_eq_true.2 ⟨x,hx,beq_iff_eq.2 hxn⟩)⟩
theorem rulesP_ok {L:List Tk} {n:Nat}:∀ (m:Nat) (rs:List Rl) (i:Nat) (l:List Rl) (j:Nat),(∀ x ∈ rs,ruOK x)->rs.Pairwise (fun x y=>x.nm≠y.nm)->rulesP L n m rs i=.ok l j->(∀ x ∈ l,ruOK x)∧l.Pairwise (fun x y=>x.nm≠y.nm)
 | 0,_,_,_,_,_,_,h=>by cases h
 | m+1,rs,i,l,j,h1,h2,h=>by
  rw [rulesP] at h
  split at h
  · injection h with h _
    subst h
    exact ⟨h1,h2⟩
  · obtain ⟨r,k,hr,h⟩:=bind_ok h
    obtain ⟨g1,g2⟩:=ruleP_ok hr
    refine rulesP_ok m _ _ _ _ (fun x hx=>?_) ?_ h
    · rcases List.mem_append.1 hx with hx | hx
      · exact h1 x hx
      · rw [List.mem_singleton] at hx
        subst hx
        exact g1
    · rw [List.pairwise_append]
      refine ⟨h2,List.pairwise_singleton _ _,fun x hx y hy=>?_⟩
      rw [List.mem_singleton] at hy
      subst hy
      exact g2 x hx
theorem rulesA_valid {s:List UInt8}:(∀ x ∈ (rulesA s).1,ruOK x)∧(rulesA s).1.Pairwise (fun x y=>x.nm≠y.nm):=by
 have hn:(∀ x ∈ ([]:List Rl),ruOK x)∧([]:List Rl).Pairwise (fun x y=>x.nm≠y.nm):=⟨fun x hx=>(by cases hx),List.Pairwise.nil⟩
 unfold rulesA
 by_cases h0:(toks s).2.2=0
 · rw [if_pos h0]
   cases hr:rulesP (toks s).1 (fuN (toks s).1) 42 [] 0 with
   | ok l j=>exact rulesP_ok _ _ _ _ _ (fun x hx=>(by cases hx)) List.Pairwise.nil hr
   | bad t c=>exact hn
   | out=>exact hn
 · rw [if_neg h0]
   exact hn
theorem rulesA_le {s:List UInt8} (hs:s.length<=3900):(rulesA s).2.1<=s.length∧((rulesA s).2.2≠0->(rulesA s).1=[])∧((rulesA s).2.2=0->(rulesA s).2.1=0):=by
 unfold rulesA
 have h1:=(toks_at s (by omega)).1
 by_cases h0:(toks s).2.2=0
 · rw [if_pos h0]
   have hT:=toks_TokOK s hs h0
   have hz:=rulesP_nz (L:=(toks s).1) (n:=fuN (toks s).1) 42 [] 0
   have hm:=rulesP_mb (f:=fun t=>min t s.length) hT (n:=fuN (toks s).1) 42 [] 0 hT.pos
   have he:mvT (fun t=>min t s.length) (toks s).1=(toks s).1:=by
    unfold mvT
    have:∀ t ∈ (toks s).1,((t.1,t.2.1,min t.2.2 s.length):Tk)=t:=fun t ht=>by
     have:=((toks_at s (by omega)).2 t ht).1
     rw [Nat.min_eq_left (by omega)]
    rw [List.map_congr_left this,List.map_id']
   rw [he] at hm
   cases hr:rulesP (toks s).1 (fuN (toks s).1) 42 [] 0 with
   | ok l j=>exact ⟨Nat.zero_le _,fun h=>absurd rfl h,fun _=>rfl⟩
   | bad t c=>
    rw [hr] at hm
    injection hm with hm _
    have hm:t=min t s.length:=hm
    exact ⟨by simp only;omega,fun _=>rfl,fun h=>absurd h (hz t c hr)⟩
   | out=>exact ⟨Nat.zero_le _,fun h=>absurd rfl h,fun _=>rfl⟩
 · rw [if_neg h0]
   exact ⟨h1,fun _=>rfl,fun h=>absurd h h0⟩
end Go.HH
