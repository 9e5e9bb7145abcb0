/-
  What the law needs, packed: UL UM.
-/
import Derived.Test.YthjabmlbmnadjaaK44
namespace Go.HH
open Go Go.Proofs
set_option maxRecDepth 100000
set_option linter.unusedSimpArgs false
set_option linter.unusedVariables false
theorem tk_lt (s:List UInt8):∀ (d i:Nat) (acc:List Tk),s.length - i<=d->i<=s.length->((tk s i acc).2.2≠0->(tk s i acc).2.1 < s.length∧(tk s i acc).1=[])∧∀ x ∈ (tk s i acc).1,x ∈ acc∨x.2.2 < s.length∨x.1=0:=by
 have hend:∀ i acc,i<=s.length->¬ i < s.length->((tk s i acc).2.2≠0->(tk s i acc).2.1 < s.length∧(tk s i acc).1=[])∧∀ x ∈ (tk s i acc).1,x ∈ acc∨x.2.2 < s.length∨x.1=0:=fun i acc h hc=>by
  rw [tk_eq _ h,if_neg hc]
  refine ⟨fun h=>absurd rfl h,fun x hx=>?_⟩
  rcases List.mem_append.1 hx with hx | hx
  · exact .inl hx
  · rw [List.mem_singleton] at hx
    subst hx
    exact .inr (.inr rfl)
 intro d
 induction d with
 | zero=>intro i acc h hl;exact hend i acc hl (by omega)
 | succ d ih=>
  intro i acc h hl
  by_cases c:i < s.length
  · rw [tk_eq _ hl,if_pos c]
    split
    · exact ⟨fun _=>⟨c,rfl⟩,fun x hx=>by cases hx⟩
    · cases ho:oneL s i with
      | inr e=>exact ⟨fun _=>⟨c,rfl⟩,fun x hx=>by cases hx⟩
      | inl y=>
       obtain ⟨x,k⟩:=y
       have hbd:=oneL_bd c ho
       have hle:=sk_le hbd.2
       obtain ⟨g1,g2⟩:=oneL_at ho
       obtain ⟨f1,f2⟩:=ih (sk s k) (acc++[x]) (by omega) hle.2
       refine ⟨f1,fun z hz=>?_⟩
       rcases f2 z hz with hz | hz
       · rcases List.mem_append.1 hz with hz | hz
         · exact .inl hz
         · rw [List.mem_singleton] at hz
           subst hz
           exact .inr (.inl (by omega))
       · exact .inr hz
  · exact hend i acc hl c
theorem toks_lt (s:List UInt8) (hs:s.length<=20000):((toks s).2.2≠0->(toks s).2.1 < s.length∧(toks s).1=[])∧∀ x ∈ (toks s).1,x.2.2 < s.length∨x.1=0:=by
 rw [toks_eq hs]
 have hle:=sk_le (s:=s) (i:=0) (by omega)
 obtain ⟨h1,h2⟩:=tk_lt s s.length (sk s 0) [] (by omega) hle.2
 exact ⟨h1,fun x hx=>(h2 x hx).resolve_left (fun h=>by cases h)⟩
def comW:List UInt8:=[35,32,114,117,108,101,32,123]++[10]
def shF (n t:Nat):Nat:=if t=n then t+10 else t+9
theorem toks_nil:toks []=([(0,[],0)],0,0):=by kernel_rfl
theorem com_toks (u:List UInt8) (hu:u.length<=3900):toks (comW++u)=moR 9 [] (toks u):=by
 have hl:(comW++u).length=9+u.length:=by rw [List.length_append];rfl
 have h9:sk (comW++u) 9=9+sk u 0:=sk_suf comW u u.length 0 (by omega) (by omega)
 have h8:sk (comW++u) 8=9+sk u 0:=by
  rw [sk_eq (by omega),if_pos (by omega),show atL (comW++u) 8=10 from rfl,if_pos (by decide)]
  exact h9
 have hr:runL nl (comW++u) 0=8:=rfl
 have h0:sk (comW++u) 0=9+sk u 0:=by
  rw [sk_eq (by omega),if_pos (by omega),show atL (comW++u) 0=35 from rfl,show atL (comW++u) (0+1)=32 from rfl,if_neg (by decide),if_pos (by decide),hr]
  exact h8
 have h2:=toks_suf comW u [] (by simp;omega)
 rw [toks_eq (by omega),h0,toks_eq (s:=u) (by omega)]
 exact h2
theorem lay_toks {s:List UInt8} (hs:s.length<=3000):((toks s).2.2≠0->toks (comW++joinL s [])=([],9+(toks s).2.1,(toks s).2.2))∧((toks s).2.2=0->toks (comW++joinL s [])=(mvT (shF s.length) (toks s).1,0,0)):=by
 have hj:=joinL_length s []
 rw [List.length_nil] at hj
 obtain ⟨h1,h2⟩:=toks_join s [] (by omega) (by simp;omega)
 have hc:=com_toks (joinL s []) (by omega)
 refine ⟨fun h=>?_,fun h=>?_⟩
 · rw [hc,h1 ⟨h,.inr rfl⟩]
   unfold moR
   rw [if_neg h]
 · obtain ⟨r,g1,g2,g3⟩:=toks_shape s (by omega) h
   obtain ⟨r',f1,f2,f3⟩:=h2 h
   have hr:r'=r:=by
    rw [g1] at f1
    exact (app_end (Prod.mk.inj f1).1).symm
   subst hr
   have hlt:=(toks_lt s (by omega)).2
   rw [hc,f3,toks_nil,g1]
   rw [g1] at hlt
   have hgood:=chain_good g2
   have e:(r'.map (moK 9))=r'.map fun t=>(t.1,t.2.1,shF s.length t.2.2):=by
    apply List.map_congr_left
    intro x hx
    have hne:x.1≠0:=by rcases hgood x hx with h | h | h | h <;> (rw [h.1];decide)
    have hx2:x.2.2 < s.length:=(hlt x (List.mem_append_left _ hx)).resolve_right hne
    unfold moK shF
    rw [if_neg (by omega),Nat.add_comm]
   unfold moR mvT
   rw [if_pos rfl]
   simp only [List.map_append,List.map_cons,List.map_nil,List.nil_append,if_true,moK]
   rw [e,show shF s.length s.length=9+(s.length+1+0) from by unfold shF;rw [if_pos rfl];omega]
theorem fuN_mv (f:Nat->Nat) (L:List Tk):fuN (mvT f L)=fuN L:=by unfold fuN;rw [mv_len]
def movedP (n e:Int) (m m':Nat) (len:Nat):Prop:=(e=0->m=0∧m'=0)∧(e≠0->m'=m+9∨m=len∧m'=m+10)
theorem shF_or (n t:Nat):shF n t=t+9∨t=n∧shF n t=t+10:=by
 unfold shF
 split
 · exact .inr ⟨by assumption,rfl⟩
 · exact .inl rfl
theorem lay_rules {s:List UInt8} (hs:s.length<=3000):∃ m',rulesA (comW++joinL s [])=((rulesA s).1,m',(rulesA s).2.2)∧movedP 0 (rulesA s).2.2 (rulesA s).2.1 m' s.length∧((rulesA s).2.2≠0->(rulesA s).1=[]):=by
 obtain ⟨h1,h2⟩:=lay_toks hs
 by_cases h0:(toks s).2.2=0
 · have ht:=h2 h0
   have hT:=toks_TokOK s (by omega) h0
   unfold rulesA
   rw [ht,if_pos rfl,if_pos h0]
   simp only
   rw [fuN_mv,rulesP_mb hT 42 [] 0 hT.pos]
   have hz:=rulesP_nz (L:=(toks s).1) (n:=fuN (toks s).1) 42 [] 0
   cases hr:rulesP (toks s).1 (fuN (toks s).1) 42 [] 0 with
   | ok l j=>exact ⟨0,rfl,⟨fun _=>⟨rfl,rfl⟩,fun h=>absurd rfl h⟩,fun h=>absurd rfl h⟩
   | bad t c=>exact ⟨shF s.length t,rfl,⟨fun h=>absurd h (hz t c hr),fun _=>shF_or _ _⟩,fun _=>rfl⟩
   | out=>exact ⟨0,rfl,⟨fun _=>⟨rfl,rfl⟩,fun h=>absurd rfl h⟩,fun h=>absurd rfl h⟩
 · have ht:=h1 h0
   unfold rulesA
   rw [ht,if_neg h0,if_neg h0]
   exact ⟨9+(toks s).2.1,rfl,⟨fun h=>absurd h h0,fun _=>.inl (Nat.add_comm _ _)⟩,fun _=>rfl⟩
theorem lay_expr {s:List UInt8} (hs:s.length<=3000):∃ m',exprA (comW++joinL s [])=((exprA s).1,m',(exprA s).2.2)∧movedP 0 (exprA s).2.2 (exprA s).2.1 m' s.length:=by
 obtain ⟨h1,h2⟩:=lay_toks hs
 by_cases h0:(toks s).2.2=0
 · have ht:=h2 h0
   have hT:=toks_TokOK s (by omega) h0
   unfold exprA
   rw [ht,if_pos rfl,if_pos h0]
   simp only
   have hb:((wholeP (mvT (shF s.length) (toks s).1) (fuN (mvT (shF s.length) (toks s).1)) 0).bind fun a i=>(oneP (mvT (shF s.length) (toks s).1) 0 i).bind fun _ j=>PR.ok a j)=((wholeP (toks s).1 (fuN (toks s).1) 0).bind fun a i=>(oneP (toks s).1 0 i).bind fun _ j=>PR.ok a j).mapB (shF s.length):=by
    rw [fuN_mv]
    refine bind_mb (wholeP_mb hT hT.pos) fun a i r=>?_
    have hi:=wholeP_lt hT hT.pos r
    unfold oneP
    rw [mv_kind,mv_at hi.2]
    split <;> rfl
   rw [hb]
   have hz:nz ((wholeP (toks s).1 (fuN (toks s).1) 0).bind fun a i=>(oneP (toks s).1 0 i).bind fun _ j=>PR.ok a j):=bind_nz wholeP_nz fun _ _=>bind_nz oneP_nz fun _ _=>ok_nz _ _
   cases hr:(wholeP (toks s).1 (fuN (toks s).1) 0).bind fun a i=>(oneP (toks s).1 0 i).bind fun _ j=>PR.ok a j with
   | ok l j=>exact ⟨0,rfl,⟨fun _=>⟨rfl,rfl⟩,fun h=>absurd rfl h⟩⟩
   | bad t c=>exact ⟨shF s.length t,rfl,⟨fun h=>absurd h (hz t c hr),fun _=>shF_or _ _⟩⟩
   | out=>exact ⟨0,rfl,⟨fun _=>⟨rfl,rfl⟩,fun h=>absurd rfl h⟩⟩
 · have ht:=h1 h0
   unfold exprA
   rw [ht,if_neg h0,if_neg h0]
   exact ⟨9+(toks s).2.1,rfl,⟨fun h=>absurd h h0,fun _=>.inl (Nat.add_comm _ _)⟩⟩
end Go.HH
namespace Go.HH
open Go Go.Proofs
set_option maxRecDepth 100000
set_option maxHeartbeats 4000000
set_option linter.unusedSimpArgs false
set_option linter.unusedVariables false
theorem ok_L29_ParseLayout:fnOK CC Try.f4 (Try.f4.body.getD .skip)=true:=by kernel_rfl
theorem fat_L29_ParseLayout:CC.P.funcs[4]?=some Try.f4:=by kernel_rfl
theorem ok_L29_shifted:fnOK CC Try.f16 (Try.f16.body.getD .skip)=true:=by kernel_rfl
theorem fat_L29_shifted:CC.P.funcs[16]?=some Try.f16:=by kernel_rfl
theorem op_shifted (m m' len:Nat) (e:Int) (hm:m<=100000) (h:movedP 0 e m m' len) (bx):callOp CC (callL CC) 16 [.int .i64 (m:Int),.int .i64 (m':Int),.int .i64 e,.int .i64 (len:Int)] bx=some (.ret (.bool true),bx):=by
 suffices hh:∃ b,callL CC 16 [.int .i64 (m:Int),.int .i64 (m':Int),.int .i64 e,.int .i64 (len:Int)] []=some (.ret (.bool true),b) by
  obtain ⟨b,hh⟩:=hh
  exact callOp_of rfl (by simp only [SA,Bool.and_true]) hh rfl
 have w9:=wrap_i64 (n:=(m:Int)+9) ⟨by omega,by omega⟩
 have w10:=wrap_i64 (n:=(m:Int)+10) ⟨by omega,by omega⟩
 rw [callL_enter (fn:=Try.f16) (c:=Try.f16.body.getD .skip) rfl rfl fat_L29_shifted rfl ok_L29_shifted (Nat.le_of_ble_eq_true rfl)]
 by_cases c:e=0
 · have c':(e == 0)=true:=beq_iff_eq.2 c
   obtain ⟨ev,eo,so,co,⟨hev,hco⟩,R⟩:=RULES CC;rw [<- hev]
   simp only [fpart,part',Try.f16,Option.getD]
   simp (maxSteps:=5000000) only [SA,SB,SD,R,guardAt,binP,intP,indexAddrP,elemsOf,readCells,lenP,lenAt,resultsP,resultP,oneOr,reduceCtorEq,reduceIte,Nat.reduceEqDiff,Nat.reduceAdd,Nat.zero_add,Nat.reduceMul,Nat.reduceLT,Nat.reduceLeDiff,Int.reduceLT,Int.reduceNeg,Int.reduceLE,appendP,appendAt,letGo,setLoc,locVal,Int.reduceToNat,boxCells,und,TG,SE,SC,UT,ZC,unP,extP,loadR,loadP,lay,storeR,storeK,storeCellsP,laid,setBox,callAl,nchP,List.set_cons_zero,List.set_cons_succ,List.take_succ_cons,List.take_zero,List.take_nil,List.drop_succ_cons,List.drop_zero,List.drop_nil,List.filter_nil,List.cons_append,List.getElem?_cons_zero,List.getElem?_cons_succ,List.nil_append,Nat.le_refl,Int.reduceBEq,Int.reduceBNe,Int.reduceGT,Int.reduceGE,Int.reduceEq,Bool.not_true,Bool.not_false,c',w9,w10]
   exact ⟨_,rfl⟩
 · have c':(e == 0)=false:=beq_eq_false_iff_ne.2 c
   rcases h.2 c with h1 | ⟨h1,h2⟩
   · have d:((m':Int) == (m:Int)+9)=true:=beq_iff_eq.2 (by omega)
     obtain ⟨ev,eo,so,co,⟨hev,hco⟩,R⟩:=RULES CC;rw [<- hev]
     simp only [fpart,part',Try.f16,Option.getD]
     simp (maxSteps:=5000000) only [SA,SB,SD,R,guardAt,binP,intP,indexAddrP,elemsOf,readCells,lenP,lenAt,resultsP,resultP,oneOr,reduceCtorEq,reduceIte,Nat.reduceEqDiff,Nat.reduceAdd,Nat.zero_add,Nat.reduceMul,Nat.reduceLT,Nat.reduceLeDiff,Int.reduceLT,Int.reduceNeg,Int.reduceLE,appendP,appendAt,letGo,setLoc,locVal,Int.reduceToNat,boxCells,und,TG,SE,SC,UT,ZC,unP,extP,loadR,loadP,lay,storeR,storeK,storeCellsP,laid,setBox,callAl,nchP,List.set_cons_zero,List.set_cons_succ,List.take_succ_cons,List.take_zero,List.take_nil,List.drop_succ_cons,List.drop_zero,List.drop_nil,List.filter_nil,List.cons_append,List.getElem?_cons_zero,List.getElem?_cons_succ,List.nil_append,Nat.le_refl,Int.reduceBEq,Int.reduceBNe,Int.reduceGT,Int.reduceGE,Int.reduceEq,Bool.not_true,Bool.not_false,c',w9,w10,d]
     exact ⟨_,rfl⟩
   · have d:((m':Int) == (m:Int)+9)=false:=beq_eq_false_iff_ne.2 (by omega)
     have d2:((m:Int) == (len:Int))=true:=beq_iff_eq.2 (by omega)
     have d3:((m':Int) == (m:Int)+10)=true:=beq_iff_eq.2 (by omega)
     obtain ⟨ev,eo,so,co,⟨hev,hco⟩,R⟩:=RULES CC;rw [<- hev]
     simp only [fpart,part',Try.f16,Option.getD]
     simp (maxSteps:=5000000) only [SA,SB,SD,R,guardAt,binP,intP,indexAddrP,elemsOf,readCells,lenP,lenAt,resultsP,resultP,oneOr,reduceCtorEq,reduceIte,Nat.reduceEqDiff,Nat.reduceAdd,Nat.zero_add,Nat.reduceMul,Nat.reduceLT,Nat.reduceLeDiff,Int.reduceLT,Int.reduceNeg,Int.reduceLE,appendP,appendAt,letGo,setLoc,locVal,Int.reduceToNat,boxCells,und,TG,SE,SC,UT,ZC,unP,extP,loadR,loadP,lay,storeR,storeK,storeCellsP,laid,setBox,callAl,nchP,List.set_cons_zero,List.set_cons_succ,List.take_succ_cons,List.take_zero,List.take_nil,List.drop_succ_cons,List.drop_zero,List.drop_nil,List.filter_nil,List.cons_append,List.getElem?_cons_zero,List.getElem?_cons_succ,List.nil_append,Nat.le_refl,Int.reduceBEq,Int.reduceBNe,Int.reduceGT,Int.reduceGE,Int.reduceEq,Bool.not_true,Bool.not_false,c',w9,w10,d,d2,d3]
     exact ⟨_,rfl⟩
theorem layW (s:List UInt8):comW++joinL s []=35 :: 32 :: 114 :: 117 :: 108 :: 101 :: 32 :: 123 :: 10 :: (s++[10]):=rfl
theorem rulesA_at {s:List UInt8} (hs:s.length<=3900):(rulesA s).2.1<=20000∧((rulesA s).2.2=0->(rulesA s).2.1=0):=by
 unfold rulesA
 have h1:=(toks_at s (by omega)).1
 by_cases h0:(toks s).2.2=0
 · rw [if_pos h0]
   have hT:=toks_TokOK s hs h0
   have hz:=rulesP_nz (L:=(toks s).1) (n:=fuN (toks s).1) 42 [] 0
   have hm:=rulesP_mb (f:=fun t=>min t 20000) hT (n:=fuN (toks s).1) 42 [] 0 hT.pos
   have he:mvT (fun t=>min t 20000) (toks s).1=(toks s).1:=by
    unfold mvT
    have:∀ t ∈ (toks s).1,((t.1,t.2.1,min t.2.2 20000):Tk)=t:=fun t ht=>by
     have:=((toks_at s (by omega)).2 t ht).1
     rw [Nat.min_eq_left (by omega)]
    rw [List.map_congr_left this,List.map_id']
   rw [he] at hm
   cases hr:rulesP (toks s).1 (fuN (toks s).1) 42 [] 0 with
   | ok l j=>exact ⟨Nat.zero_le _,fun _=>rfl⟩
   | bad t c=>
    rw [hr] at hm
    injection hm with hm _
    have hm:t=min t 20000:=hm
    refine ⟨?_,fun h=>absurd h (hz t c hr)⟩
    simp only
    omega
   | out=>exact ⟨Nat.zero_le _,fun _=>rfl⟩
 · rw [if_neg h0]
   exact ⟨by simp only;omega,fun h=>absurd h h0⟩
theorem exprA_at {s:List UInt8} (hs:s.length<=3900):(exprA s).2.1<=20000:=by
 unfold exprA
 have h1:=(toks_at s (by omega)).1
 by_cases h0:(toks s).2.2=0
 · rw [if_pos h0]
   have hT:=toks_TokOK s hs h0
   have hm:((wholeP (mvT (fun t=>min t 20000) (toks s).1) (fuN (toks s).1) 0).bind fun a i=>(oneP (mvT (fun t=>min t 20000) (toks s).1) 0 i).bind fun _ j=>PR.ok a j)=((wholeP (toks s).1 (fuN (toks s).1) 0).bind fun a i=>(oneP (toks s).1 0 i).bind fun _ j=>PR.ok a j).mapB (fun t=>min t 20000):=by
    refine bind_mb (wholeP_mb hT hT.pos) fun a i r=>?_
    have hi:=wholeP_lt hT hT.pos r
    unfold oneP
    rw [mv_kind,mv_at hi.2]
    split <;> rfl
   have he:mvT (fun t=>min t 20000) (toks s).1=(toks s).1:=by
    unfold mvT
    have:∀ t ∈ (toks s).1,((t.1,t.2.1,min t.2.2 20000):Tk)=t:=fun t ht=>by
     have:=((toks_at s (by omega)).2 t ht).1
     rw [Nat.min_eq_left (by omega)]
    rw [List.map_congr_left this,List.map_id']
   rw [he] at hm
   cases hr:(wholeP (toks s).1 (fuN (toks s).1) 0).bind fun a i=>(oneP (toks s).1 0 i).bind fun _ j=>PR.ok a j with
   | ok l j=>exact Nat.zero_le _
   | bad t c=>
    rw [hr] at hm
    injection hm with hm _
    have hm:t=min t 20000:=hm
    simp only
    omega
   | out=>exact Nat.zero_le _
 · rw [if_neg h0]
   simp only;omega
theorem stepP_sh {L:List Tk} (hT:TokOK L) {n i:Nat} {a:Sp} {j:Nat} (h:stepP L n i=.ok a j):shT a.ex:=by
 have hw:∀ {n i:Nat} {a:Tr} {j:Nat},wholeP L n i=.ok a j->shT a:=fun {n i a j} h=>by
  unfold wholeP at h
  obtain ⟨e,k,r,h⟩:=bind_ok h
  split at h
  · injection h with h _
    subst h
    exact sh_pz hT _ .expr _ _ _ _ trivial r
  · cases h
 unfold stepP at h
 split at h
 · obtain ⟨_,_,_,h⟩:=bind_ok h
   obtain ⟨_,_,_,h⟩:=bind_ok h
   obtain ⟨e,_,r,h⟩:=bind_ok h
   injection h with h _
   subst h
   exact hw r
 split at h
 · obtain ⟨_,_,_,h⟩:=bind_ok h
   split at h
   · obtain ⟨e,_,r,h⟩:=bind_ok h
     obtain ⟨_,_,_,h⟩:=bind_ok h
     injection h with h _
     subst h
     exact hw r
   · injection h with h _
     subst h
     exact sh_zT
 split at h
 · obtain ⟨_,_,_,h⟩:=bind_ok h
   injection h with h _
   subst h
   exact sh_zT
 split at h
 · obtain ⟨_,_,_,h⟩:=bind_ok h
   injection h with h _
   subst h
   exact sh_zT
 · obtain ⟨_,_,_,h⟩:=bind_ok h
   obtain ⟨_,_,_,h⟩:=bind_ok h
   injection h with h _
   subst h
   exact sh_zT
theorem severalP_all {α:Type} {L:List Tk} {w:List UInt8} {part:Nat->PR α} (P:α->Prop) (hp:∀ i a j,part i=.ok a j->P a):∀ (m:Nat) (acc:List α) (i:Nat) (l:List α) (j:Nat),(∀ x ∈ acc,P x)->acc.length<=8->severalP L w part m acc i=.ok l j->(∀ x ∈ l,P x)∧l.length<=8
 | 0,_,_,_,_,_,_,h=>by cases h
 | m+1,acc,i,l,j,ha,h8,h=>by
  rw [severalP] at h
  split at h
  · split at h
    · cases h
    · rename_i hne
      obtain ⟨_,_,_,h⟩:=bind_ok h
      obtain ⟨a,_,r,h⟩:=bind_ok h
      obtain ⟨_,_,_,h⟩:=bind_ok h
      refine severalP_all P hp m _ _ _ _ (fun x hx=>?_) (by rw [List.length_append,List.length_singleton];omega) h
      rcases List.mem_append.1 hx with hx | hx
      · exact ha x hx
      · rw [List.mem_singleton] at hx
        subst hx
        exact hp _ _ _ r
  · injection h with h _
    subst h
    exact ⟨ha,h8⟩
theorem sh_wT:shT wT:=sh_lit 1 1
theorem ruleP_sh {L:List Tk} (hT:TokOK L) {n:Nat} {rs:List Rl} {i:Nat} {r:Rl} {j:Nat} (h:ruleP L n rs i=.ok r j):shR r:=by
 unfold ruleP at h
 split at h
 · cases h
 obtain ⟨_,_,_,h⟩:=bind_ok h
 obtain ⟨_,_,_,h⟩:=bind_ok h
 split at h
 · cases h
 obtain ⟨_,_,_,h⟩:=bind_ok h
 obtain ⟨_,_,_,h⟩:=bind_ok h
 obtain ⟨on,_,r1,h⟩:=bind_ok h
 obtain ⟨e,_,r2,h⟩:=bind_ok h
 obtain ⟨dos,_,r3,h⟩:=bind_ok h
 obtain ⟨_,_,_,h⟩:=bind_ok h
 injection h with h _
 subst h
 have h1:=severalP_all (fun _=>True) (fun _ _ _ _=>trivial) _ _ _ _ _ (fun x hx=>by cases hx) (by simp) r1
 have h3:=severalP_all (fun x:Sp=>shT x.ex) (fun _ _ _ h=>stepP_sh hT h) _ _ _ _ _ (fun x hx=>by cases hx) (by simp) r3
 refine ⟨by simp only;omega,by simp only;omega,?_,h3.1⟩
 split at r2
 · obtain ⟨a,_,r4,r2⟩:=bind_ok r2
   obtain ⟨_,_,_,r2⟩:=bind_ok r2
   injection r2 with r2 _
   subst r2
   unfold wholeP at r4
   obtain ⟨_,_,r5,r4⟩:=bind_ok r4
   split at r4
   · injection r4 with r4 _
     subst r4
     exact sh_pz hT _ .expr _ _ _ _ trivial r5
   · cases r4
 · injection r2 with r2 _
   subst r2
   exact sh_wT
theorem rulesP_sh {L:List Tk} (hT:TokOK L) {n:Nat}:∀ (m:Nat) (rs:List Rl) (i:Nat) (l:List Rl) (j:Nat),i < L.length->rs.length<=40->(∀ x ∈ rs,shR x)->rulesP L n m rs i=.ok l j->(∀ x ∈ l,shR x)∧l.length<=40
 | 0,_,_,_,_,_,_,_,h=>by cases h
 | m+1,rs,i,l,j,hi,h4,hs,h=>by
  rw [rulesP] at h
  split at h
  · injection h with h _
    subst h
    exact ⟨hs,h4⟩
  · obtain ⟨r,k,hr,h⟩:=bind_ok h
    have hlt:=ruleP_lt hT hi hr
    refine rulesP_sh hT m _ _ _ _ hlt.1 (by rw [List.length_append,List.length_singleton];omega) (fun x hx=>?_) h
    rcases List.mem_append.1 hx with hx | hx
    · exact hs x hx
    · rw [List.mem_singleton] at hx
      subst hx
      exact ruleP_sh hT hr
theorem rulesA_sh {s:List UInt8} (hs:s.length<=3900):(∀ x ∈ (rulesA s).1,shR x)∧(rulesA s).1.length<=40:=by
 have hn:(∀ x ∈ ([]:List Rl),shR x)∧([]:List Rl).length<=40:=⟨fun x hx=>(by cases hx),by decide⟩
 unfold rulesA
 by_cases h0:(toks s).2.2=0
 · rw [if_pos h0]
   have hT:=toks_TokOK s hs h0
   cases hr:rulesP (toks s).1 (fuN (toks s).1) 42 [] 0 with
   | ok l j=>exact rulesP_sh hT _ _ _ _ _ hT.pos (by decide) (fun x hx=>by cases hx) hr
   | bad t c=>exact hn
   | out=>exact hn
 · rw [if_neg h0]
   exact hn
theorem law_ParseLayout (s:List UInt8) (_:s.length<=maxLen):∃ bx,callL CC 4 [.str s] []=some (.ret (.bool true),bx):=by
 have haw:=op_awake
 have hlen:=len_str s
 by_cases c1:3000 < s.length
 · have c1':(s.length:Int) > 3000:=by omega
   rw [callL_enter (fn:=Try.f4) (c:=Try.f4.body.getD .skip) rfl rfl fat_L29_ParseLayout rfl ok_L29_ParseLayout (Nat.le_of_ble_eq_true rfl)]
   obtain ⟨ev,eo,so,co,⟨hev,hco⟩,R⟩:=RULES CC;rw [<- hev]
   rw [<- hco] at haw
   simp only [fpart,part',Try.f4,Option.getD]
   simp (maxSteps:=5000000) only [SA,SB,SD,R,guardAt,binP,intP,indexAddrP,elemsOf,readCells,lenP,lenAt,resultsP,resultP,oneOr,reduceCtorEq,reduceIte,Nat.reduceEqDiff,Nat.reduceAdd,Nat.zero_add,Nat.reduceMul,Nat.reduceLT,Nat.reduceLeDiff,Int.reduceLT,Int.reduceNeg,Int.reduceLE,appendP,appendAt,letGo,setLoc,locVal,Int.reduceToNat,boxCells,und,TG,SE,SC,UT,ZC,unP,extP,loadR,loadP,lay,storeR,storeK,storeCellsP,laid,setBox,callAl,nchP,List.set_cons_zero,List.set_cons_succ,List.take_succ_cons,List.take_zero,List.take_nil,List.drop_succ_cons,List.drop_zero,List.drop_nil,List.filter_nil,List.cons_append,List.getElem?_cons_zero,List.getElem?_cons_succ,List.nil_append,Nat.le_refl,Int.reduceBEq,Int.reduceBNe,Int.reduceGT,Int.reduceGE,Int.reduceEq,Bool.not_true,Bool.not_false,hlen,c1',haw]
   exact ⟨_,rfl⟩
 · have c1':¬ (s.length:Int) > 3000:=by omega
   have x1:=op_parse_Rules s (by omega)
   have y1:=exE s (by omega)
   have hTl:(comW++joinL s []).length<=3900:=by rw [layW];simp;omega
   have x2:=op_parse_Rules (comW++joinL s []) hTl
   have y2:=exE (comW++joinL s []) hTl
   obtain ⟨m',hr,hm,hnil⟩:=lay_rules (s:=s) (by omega)
   obtain ⟨k',he,hk⟩:=lay_expr (s:=s) (by omega)
   rw [hr] at x2
   rw [he] at y2
   rw [layW] at x2 y2
   simp only at x2 y2
   have hsh:=rulesA_sh (s:=s) (by omega)
   have sm:=op_R29_Same (rulesA s).1 (by omega) hsh.1
   have sn:=smE (exprA s).1 (exA_sh (by omega))
   have hp:pureL ((rulesA s).1.map rlP)=true:=map_pure rlP rlP_pure _
   have b1:=(rulesA_at (s:=s) (by omega)).1
   have b2:=exprA_at (s:=s) (by omega)
   have s1:=op_shifted _ m' s.length _ (by omega) hm
   have s2:=op_shifted _ k' s.length _ (by omega) hk
   have m1:9+s.length<=maxStr:=by unfold maxStr;omega
   have m2:s.length+1+1+1+1+1+1+1+1+1+1<=maxStr:=by unfold maxStr;omega
   have n1:((rulesA s).2.2 != (rulesA s).2.2)=false:=by simp
   have n2:((exprA s).2.2 != (exprA s).2.2)=false:=by simp
   have z1:(rulesA s).2.2=0->(((rulesA s).2.1:Int) != 0)=false∧((m':Int) != 0)=false:=fun h=>by
    obtain ⟨e1,e2⟩:=hm.1 h
    rw [e1,e2]
    exact ⟨rfl,rfl⟩
   have z2:(exprA s).2.2=0->(((exprA s).2.1:Int) != 0)=false∧((k':Int) != 0)=false:=fun h=>by
    obtain ⟨e1,e2⟩:=hk.1 h
    rw [e1,e2]
    exact ⟨rfl,rfl⟩
   clear hr he hm hk hnil hsh
   generalize (rulesA s).1.map rlP=xs at *
   generalize (rulesA s).2.1=at1 at *
   generalize (rulesA s).2.2=er1 at *
   generalize (exprA s).1=ex at *
   generalize (exprA s).2.1=at2 at *
   generalize (exprA s).2.2=er2 at *
   rw [callL_enter (fn:=Try.f4) (c:=Try.f4.body.getD .skip) rfl rfl fat_L29_ParseLayout rfl ok_L29_ParseLayout (Nat.le_of_ble_eq_true rfl)]
   by_cases d1:er1=0
   · obtain ⟨z1,z1'⟩:=z1 d1
     subst d1
     by_cases d2:er2=0
     · obtain ⟨z2,z2'⟩:=z2 d2
       subst d2
       obtain ⟨ev,eo,so,co,⟨hev,hco⟩,R⟩:=RULES CC;rw [<- hev]
       rw [<- hco] at haw x1 x2 y1 y2 sm sn s1 s2
       simp only [fpart,part',Try.f4,Option.getD]
       simp (maxSteps:=5000000) only [SA,SB,SD,R,guardAt,binP,intP,indexAddrP,elemsOf,readCells,lenP,lenAt,resultsP,resultP,oneOr,reduceCtorEq,reduceIte,Nat.reduceEqDiff,Nat.reduceAdd,Nat.zero_add,Nat.reduceMul,Nat.reduceLT,Nat.reduceLeDiff,Int.reduceLT,Int.reduceNeg,Int.reduceLE,appendP,appendAt,letGo,setLoc,locVal,Int.reduceToNat,boxCells,und,TG,SE,SC,UT,ZC,unP,extP,loadR,loadP,lay,storeR,storeK,storeCellsP,laid,setBox,callAl,nchP,List.set_cons_zero,List.set_cons_succ,List.take_succ_cons,List.take_zero,List.take_nil,List.drop_succ_cons,List.drop_zero,List.drop_nil,List.filter_nil,List.cons_append,List.getElem?_cons_zero,List.getElem?_cons_succ,List.nil_append,Nat.le_refl,Int.reduceBEq,Int.reduceBNe,Int.reduceGT,Int.reduceGE,Int.reduceEq,Bool.not_true,Bool.not_false,SX,hlen,c1',haw,x1,x2,y1,y2,sm,sn,s1,s2,hp,PV.pure,pureL,strP,m1,m2,n1,n2,z1,z1',z2,z2']
       exact ⟨_,rfl⟩
     · have d2':(er2 == 0)=false:=beq_eq_false_iff_ne.2 d2
       obtain ⟨ev,eo,so,co,⟨hev,hco⟩,R⟩:=RULES CC;rw [<- hev]
       rw [<- hco] at haw x1 x2 y1 y2 sm sn s1 s2
       simp only [fpart,part',Try.f4,Option.getD]
       simp (maxSteps:=5000000) only [SA,SB,SD,R,guardAt,binP,intP,indexAddrP,elemsOf,readCells,lenP,lenAt,resultsP,resultP,oneOr,reduceCtorEq,reduceIte,Nat.reduceEqDiff,Nat.reduceAdd,Nat.zero_add,Nat.reduceMul,Nat.reduceLT,Nat.reduceLeDiff,Int.reduceLT,Int.reduceNeg,Int.reduceLE,appendP,appendAt,letGo,setLoc,locVal,Int.reduceToNat,boxCells,und,TG,SE,SC,UT,ZC,unP,extP,loadR,loadP,lay,storeR,storeK,storeCellsP,laid,setBox,callAl,nchP,List.set_cons_zero,List.set_cons_succ,List.take_succ_cons,List.take_zero,List.take_nil,List.drop_succ_cons,List.drop_zero,List.drop_nil,List.filter_nil,List.cons_append,List.getElem?_cons_zero,List.getElem?_cons_succ,List.nil_append,Nat.le_refl,Int.reduceBEq,Int.reduceBNe,Int.reduceGT,Int.reduceGE,Int.reduceEq,Bool.not_true,Bool.not_false,SX,hlen,c1',haw,x1,x2,y1,y2,sm,sn,s1,s2,hp,PV.pure,pureL,strP,m1,m2,n1,n2,z1,z1',d2']
       exact ⟨_,rfl⟩
   · have d1':(er1 == 0)=false:=beq_eq_false_iff_ne.2 d1
     by_cases d2:er2=0
     · obtain ⟨z2,z2'⟩:=z2 d2
       subst d2
       obtain ⟨ev,eo,so,co,⟨hev,hco⟩,R⟩:=RULES CC;rw [<- hev]
       rw [<- hco] at haw x1 x2 y1 y2 sm sn s1 s2
       simp only [fpart,part',Try.f4,Option.getD]
       simp (maxSteps:=5000000) only [SA,SB,SD,R,guardAt,binP,intP,indexAddrP,elemsOf,readCells,lenP,lenAt,resultsP,resultP,oneOr,reduceCtorEq,reduceIte,Nat.reduceEqDiff,Nat.reduceAdd,Nat.zero_add,Nat.reduceMul,Nat.reduceLT,Nat.reduceLeDiff,Int.reduceLT,Int.reduceNeg,Int.reduceLE,appendP,appendAt,letGo,setLoc,locVal,Int.reduceToNat,boxCells,und,TG,SE,SC,UT,ZC,unP,extP,loadR,loadP,lay,storeR,storeK,storeCellsP,laid,setBox,callAl,nchP,List.set_cons_zero,List.set_cons_succ,List.take_succ_cons,List.take_zero,List.take_nil,List.drop_succ_cons,List.drop_zero,List.drop_nil,List.filter_nil,List.cons_append,List.getElem?_cons_zero,List.getElem?_cons_succ,List.nil_append,Nat.le_refl,Int.reduceBEq,Int.reduceBNe,Int.reduceGT,Int.reduceGE,Int.reduceEq,Bool.not_true,Bool.not_false,SX,hlen,c1',haw,x1,x2,y1,y2,sm,sn,s1,s2,hp,PV.pure,pureL,strP,m1,m2,n1,n2,d1',z2,z2']
       exact ⟨_,rfl⟩
     · have d2':(er2 == 0)=false:=beq_eq_false_iff_ne.2 d2
       obtain ⟨ev,eo,so,co,⟨hev,hco⟩,R⟩:=RULES CC;rw [<- hev]
       rw [<- hco] at haw x1 x2 y1 y2 sm sn s1 s2
       simp only [fpart,part',Try.f4,Option.getD]
       simp (maxSteps:=5000000) only [SA,SB,SD,R,guardAt,binP,intP,indexAddrP,elemsOf,readCells,lenP,lenAt,resultsP,resultP,oneOr,reduceCtorEq,reduceIte,Nat.reduceEqDiff,Nat.reduceAdd,Nat.zero_add,Nat.reduceMul,Nat.reduceLT,Nat.reduceLeDiff,Int.reduceLT,Int.reduceNeg,Int.reduceLE,appendP,appendAt,letGo,setLoc,locVal,Int.reduceToNat,boxCells,und,TG,SE,SC,UT,ZC,unP,extP,loadR,loadP,lay,storeR,storeK,storeCellsP,laid,setBox,callAl,nchP,List.set_cons_zero,List.set_cons_succ,List.take_succ_cons,List.take_zero,List.take_nil,List.drop_succ_cons,List.drop_zero,List.drop_nil,List.filter_nil,List.cons_append,List.getElem?_cons_zero,List.getElem?_cons_succ,List.nil_append,Nat.le_refl,Int.reduceBEq,Int.reduceBNe,Int.reduceGT,Int.reduceGE,Int.reduceEq,Bool.not_true,Bool.not_false,SX,hlen,c1',haw,x1,x2,y1,y2,sm,sn,s1,s2,hp,PV.pure,pureL,strP,m1,m2,n1,n2,d1',d2']
       exact ⟨_,rfl⟩
end Go.HH
