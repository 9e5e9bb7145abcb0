/-
  What the law needs, packed: UD UE UF UG UH UN UI UJ Shelf C1.
-/
import Derived.Shelf.Strings.Builder1
import Derived.Shelf.Small.Strs
import Derived.Shelf.Strings.Search1
import Derived.Test.YthjabmlbmnadjaaProg
import Derived.Lib.LaidTab
import Derived.Test.YthjabmlbmnadjaaK43
namespace Go.HH
open Go Go.Proofs
set_option maxRecDepth 100000
set_option linter.unusedSimpArgs false
set_option linter.unusedVariables false
theorem cutlen (s:List UInt8) (i k:Nat):((s.take k).drop i).length≤s.length:=by
  rw [List.length_drop,List.length_take];omega
theorem oneL_at {s:List UInt8} {i:Nat} {t:Tk} {k:Nat} (ho:oneL s i=.inl (t,k)):t.2.2=i∧(t.1=3∨t.2.1.length≤s.length):=by
  unfold oneL at ho
  simp only at ho
  split at ho
  · injection ho with ho
    injection ho with h1 h2
    subst h1
    exact ⟨rfl,.inr (cutlen s _ _)⟩
  · split at ho
    · split at ho
      · injection ho with ho
        injection ho with h1 h2
        subst h1
        exact ⟨rfl,.inr (cutlen s _ _)⟩
      · cases ho
    · split at ho
      · split at ho
        · injection ho with ho
          injection ho with h1 h2
          subst h1
          exact ⟨rfl,.inl rfl⟩
        · cases ho
      · split at ho
        · cases ho
        · injection ho with ho
          injection ho with h1 h2
          subst h1
          exact ⟨rfl,.inr (cutlen s _ _)⟩
theorem tk_at (s:List UInt8):∀ (d i:Nat) (acc:List Tk),s.length - i≤d→i≤s.length→(tk s i acc).2.1≤s.length∧∀ x ∈ (tk s i acc).1,x ∈ acc∨(x.2.2≤s.length∧(x.1=3∨x.2.1.length≤s.length)):=by
  have hend:∀ i acc,i≤s.length→¬ i < s.length→(tk s i acc).2.1≤s.length∧∀ x ∈ (tk s i acc).1,x ∈ acc∨(x.2.2≤s.length∧(x.1=3∨x.2.1.length≤s.length)):=fun i acc h hc=>by
    rw [tk_eq _ h,if_neg hc]
    refine ⟨Nat.zero_le _,fun x hx=>?_⟩
    rcases List.mem_append.1 hx with hx | hx
    · exact .inl hx
    · rw [List.mem_singleton] at hx
      subst hx
      exact .inr ⟨Nat.le_refl _,.inr (Nat.zero_le _)⟩
  intro d
  induction d with
  | zero=>intro i acc h hl;exact hend i acc hl (by omega)
  | succ d ih=>
    intro i acc h hl
    by_cases c:i < s.length
    · rw [tk_eq _ hl,if_pos c]
      split
      · exact ⟨hl,fun x hx=>by cases hx⟩
      · cases ho:oneL s i with
        | inr e=>exact ⟨hl,fun x hx=>by cases hx⟩
        | inl y=>
          obtain ⟨x,k⟩:=y
          have hbd:=oneL_bd c ho
          have hle:=sk_le hbd.2
          obtain ⟨g1,g2⟩:=oneL_at ho
          obtain ⟨f1,f2⟩:=ih (sk s k) (acc++[x]) (by omega) hle.2
          refine ⟨f1,fun z hz=>?_⟩
          rcases f2 z hz with hz | hz
          · rcases List.mem_append.1 hz with hz | hz
            · exact .inl hz
            · rw [List.mem_singleton] at hz
              subst hz
              exact .inr ⟨by omega,g2⟩
          · exact .inr hz
    · exact hend i acc hl c
theorem toks_at (s:List UInt8) (hs:s.length≤20000):(toks s).2.1≤s.length∧∀ x ∈ (toks s).1,x.2.2≤s.length∧(x.1=3∨x.2.1.length≤s.length):=by
  rw [toks_eq hs]
  have hle:=sk_le (s:=s) (i:=0) (by omega)
  obtain ⟨h1,h2⟩:=tk_at s s.length (sk s 0) [] (by omega) hle.2
  exact ⟨h1,fun x hx=>(h2 x hx).resolve_left (fun h=>by cases h)⟩
theorem chain_good:∀ {r:List Tk},chainT r→∀ x ∈ r,goodT x
  | [],_,_,h=>by cases h
  | y :: r,hc,x,h=>by
    rcases List.mem_cons.1 h with rfl | h
    · exact hc.1
    · exact chain_good hc.2.2 x h
theorem numR_amt:∀ (w:List UInt8) (n:Nat),n≤1099511627776→(numR w n).isSome=true→amtN w n≤1099511627776
  | [],n,h,_=>h
  | c :: r,n,h,hs=>by
    unfold numR at hs
    split at hs
    · cases hs
    · rename_i h1
      exact numR_amt r (10 * n+(c.toNat - 48)) (by omega) hs
theorem tokAt_mem {L:List Tk} (i:Nat):tokAt L i ∈ L∨tokAt L i=(0,[],0):=by
  unfold tokAt
  rw [List.getD_eq_getElem?_getD]
  cases h:L[i]? with
  | none=>exact .inr rfl
  | some x=>exact .inl (List.mem_of_getElem? h)
theorem toks_shape (s:List UInt8) (hs:s.length≤3900) (h0:(toks s).2.2=0):∃ r,toks s=(r++[(0,[],s.length)],0,0)∧chainT r∧r.length≤s.length:=by
  have hle:=sk_le (s:=s) (i:=0) (by omega)
  rw [toks_eq (by omega)] at h0 ⊢
  obtain ⟨r,g1,g2,g3,g4,_⟩:=toks_good s s.length (sk s 0) [] (by omega) hle.2 (sk_idem s _ 0 (Nat.le_refl _) (by omega)) h0
  rw [List.nil_append] at g1
  exact ⟨r,g1,g2,by omega⟩
theorem TokOK_of {s:List UInt8} (hs:s.length≤3900) {r:List Tk} (h:toks s=(r++[(0,[],s.length)],0,0)) (hc:chainT r) (hr:r.length≤s.length):TokOK (r++[(0,[],s.length)]):=by
  have hat:=(toks_at s (by omega)).2
  rw [h] at hat
  have hlen:(r++[(0,[],s.length)]).length=r.length+1:=by rw [List.length_append];rfl
  have hg:=chain_good hc
  have hgood:∀ x ∈ r++[(0,[],s.length)],x.1=0∧x.2.1=[]∨goodT x:=fun x hx=>by
    rcases List.mem_append.1 hx with hx | hx
    · exact .inr (hg x hx)
    · rw [List.mem_singleton] at hx
      subst hx
      exact .inl ⟨rfl,rfl⟩
  have hall:∀ i,tokAt (r++[(0,[],s.length)]) i=(0,[],0)∨(tokAt (r++[(0,[],s.length)]) i ∈ r++[(0,[],s.length)]):=fun i=>(tokAt_mem i).symm
  refine ⟨by omega,by omega,?_,fun i hi=>?_,fun i=>?_,fun i=>?_,fun i h3=>?_,fun i h2=>?_⟩
  · rw [hlen]
    unfold tokAt
    rw [List.getD_eq_getElem?_getD,List.getElem?_append_right (by omega),show r.length+1 - 1 - r.length=0 from by omega]
    rfl
  · have hi2:i < r.length:=by omega
    have:tokAt (r++[(0,[],s.length)]) i ∈ r:=by
      unfold tokAt
      rw [List.getD_eq_getElem?_getD,List.getElem?_append_left hi2,List.getElem?_eq_getElem hi2]
      exact List.getElem_mem hi2
    rcases hg _ this with h | h | h | h <;> (rw [h.1];decide)
  · unfold atT
    rcases hall i with h | h
    · rw [h];exact Nat.zero_le _
    · have:=(hat _ h).1;omega
  · rcases hall i with h | h
    · rw [h];exact Nat.zero_le _
    · rcases (hat _ h).2 with h3 | h3
      · rcases hgood _ h with h4 | h4 | h4 | h4 | h4
        · rw [h4.2];exact Nat.zero_le _
        · rw [h4.1] at h3;cases h3
        · rw [h4.1] at h3;cases h3
        · omega
        · rw [h4.1] at h3;cases h3
      · omega
  · rcases hall i with h | h
    · rw [h] at h3;cases h3
    · rcases hgood _ h with h4 | h4 | h4 | h4 | h4
      · rw [h4.1] at h3;cases h3
      · rw [h4.1] at h3;cases h3
      · rw [h4.1] at h3;cases h3
      · exact h4.2
      · rw [h4.1] at h3;cases h3
  · rcases hall i with h | h
    · rw [h] at h2;cases h2
    · rcases hgood _ h with h4 | h4 | h4 | h4 | h4
      · rw [h4.1] at h2;cases h2
      · rw [h4.1] at h2;cases h2
      · refine ⟨fun b hb=>?_,numR_amt _ 0 (by omega) h4.2.2.2⟩
        have:=h4.2.2.1 b hb
        unfold dg at this
        simpa using this
      · rw [h4.1] at h2;cases h2
      · rw [h4.1] at h2;cases h2
theorem toks_TokOK (s:List UInt8) (hs:s.length≤3900) (h0:(toks s).2.2=0):TokOK (toks s).1:=by
  obtain ⟨r,h1,h2,h3⟩:=toks_shape s hs h0
  have:=TokOK_of hs h1 h2 h3
  rw [h1]
  exact this
theorem exC_agg (t:Tr):PV.agg (exC t)=trV t:=by
  cases t with
  | mk k n m s v q kids=>rw [exC_mk];unfold trV;rfl
theorem op_parse_Expr (s:List UInt8) (hs:s.length≤3900) (bx:List PBox):callOp CC (callL CC) 14 [.str s] bx=some (.ret (.tup [trV (exprA s).1,.int .i64 ((exprA s).2.1:Int),.int .i64 (exprA s).2.2]),bx):=by
  have h:callL CC 14 [.str s] []=some (.ret (.tup [trV (exprA s).1,.int .i64 ((exprA s).2.1:Int),.int .i64 (exprA s).2.2]),[]):=by
    unfold exprA
    by_cases h0:(toks s).2.2=0
    · rw [if_pos h0]
      have hT:=toks_TokOK s hs h0
      have hw:=wholeP_out hT hT.pos
      cases hr:wholeP (toks s).1 (fuN (toks s).1) 0 with
      | out=>exact absurd hr hw
      | bad t c=>
        rw [call_Expr_bad s (by omega) h0 hT _ hr,exC_agg]
        rfl
      | ok a i=>
        simp only [PR.bind]
        cases h2:oneP (toks s).1 0 i with
        | out=>exact absurd h2 oneP_out
        | bad t c=>
          rw [call_Expr_bad2 s (by omega) h0 hT _ hr h2,exC_agg]
        | ok tk j=>
          rw [call_Expr_ok2 s (by omega) h0 hT _ hr h2,exC_agg]
          rfl
    · rw [if_neg h0,call_Expr_lex s (by omega) h0,exC_agg]
  refine callOp_of rfl (by simp only [SA,Bool.and_true]) h ?_
  simp only [PV.pure,pureL,trV_pure,Bool.and_true]
theorem op_parse_Rules (s:List UInt8) (hs:s.length≤3900) (bx:List PBox):callOp CC (callL CC) 9 [.str s] bx=some (.ret (.tup [.sl ((rulesA s).1.map rlP),.int .i64 ((rulesA s).2.1:Int),.int .i64 (rulesA s).2.2]),bx):=by
  have h:callL CC 9 [.str s] []=some (.ret (.tup [.sl ((rulesA s).1.map rlP),.int .i64 ((rulesA s).2.1:Int),.int .i64 (rulesA s).2.2]),[]):=by
    unfold rulesA
    by_cases h0:(toks s).2.2=0
    · rw [if_pos h0]
      have hT:=toks_TokOK s hs h0
      have hw:=rulesP_out hT 42 [] 0 hT.pos (by simp) (by simp)
      cases hr:rulesP (toks s).1 (fuN (toks s).1) 42 [] 0 with
      | out=>exact absurd hr hw
      | bad t c=>
        rw [call_Rules_bad s (by omega) h0 hT _ _ hr]
        rfl
      | ok l j=>
        cases l with
        | nil=>
          rw [call_Rules_nil s (by omega) h0 hT _ _ hr]
          rfl
        | cons x rs=>
          rw [call_Rules_cons s (by omega) h0 hT _ _ hr]
          rfl
    · rw [if_neg h0,call_Rules_lex s (by omega) h0]
      rfl
  refine callOp_of rfl (by simp only [SA,Bool.and_true]) h ?_
  simp only [PV.pure,pureL,map_pure rlP rlP_pure,Bool.and_true]
end Go.HH
namespace Go.HH
open Go Go.Proofs
set_option maxRecDepth 100000
set_option maxHeartbeats 4000000
set_option linter.unusedSimpArgs false
set_option linter.unusedVariables false
theorem ok_R28_Same:fnOK CC Try.f15 (Try.f15.body.getD .skip)=true:=by kernel_rfl
theorem fat_R28_Same:CC.P.funcs[15]?=some Try.f15:=by kernel_rfl
def RSm (t:Tr):Prop:=∃ bx,callL CC 15 [trV t,trV t] []=some (.ret (.bool true),bx)
theorem op_Sm {t:Tr} (h:RSm t) (bx):callOp CC (callL CC) 15 [trV t,trV t] bx=some (.ret (.bool true),bx):=by
  obtain ⟨q,hq⟩:=h
  exact callOp_of rfl (by simp only [pureL_cons,trV_pure,pureL_nil,Bool.and_self]) hq rfl
theorem loop_Sm (L:Code) (hL:L=fpart Try.f15 [1,1,0,1,0]) (a0 a1 a2 a3 a4 a5 a6 a7 a8 a9:PV) (l:List Tr) (hl:l.length≤12) (hk:∀ t ∈ l,RSm t):∀ (k i:Nat) (e:List PV),i+k=l.length→getT e 2=.bp 0 0→getT e 3=.bp 1 0→getT e 5=.int .i64 i→∃ e' bx',evL CC L ⟨e,[.cells 34 [a0,a1,a2,a3,a4,a5,a6,a7,a8,a9,.sl (trVs l)],.cells 34 [a0,a1,a2,a3,a4,a5,a6,a7,a8,a9,.sl (trVs l)]]⟩=some (.exit 0,⟨e',bx'⟩):=by
  intro k
  induction k with
  | zero=>
    intro i e hi0 e2 e3 e5
    rw [evL_at (fpart Try.f15 [1,1,0,1,0,0]) hL]
    have hi:¬ ((i:Int) < (l.length:Int)):=by omega
    have hln:=trVs_length l
    generalize trVs l=xs at *
    obtain ⟨ev,eo,so,co,⟨hev,hco⟩,R⟩:=RULES CC;rw [← hev]
    simp only [fpart,part',Try.f15,Option.getD]
    simp only [S9,R,seval,nchP,dynR,eqgV,eqgK,Bool.not_not,e2,e3,e5,hln,hi]
    exact ⟨_,_,rfl⟩
  | succ k ih=>
    intro i e hi0 e2 e3 e5
    rw [evL_at (fpart Try.f15 [1,1,0,1,0,0]) hL]
    have hi:((i:Int) < (l.length:Int)):=by omega
    have hi0':¬ ((i:Int) < 0):=by omega
    have hx:l[i]?=some (l[i]'(by omega)):=by simp
    have hst:RSm (l[i]'(by omega)):=hk _ (List.getElem_mem _)
    generalize l[i]'(by omega)=x at *
    have hx':=trVs_get hx
    have hln:=trVs_length l
    have hw1:=wrap_i64 (n:=(i:Int)+1) ⟨by omega,by omega⟩
    have key:=fun e=>ih (i+1) e (by omega)
    have cast1:((i+1:Nat):Int)=(i:Int)+1:=by omega
    rw [cast1] at key
    have hop:=op_Sm hst
    obtain ⟨xk,xn,xm,xnm,xv,xkey,xkids⟩:=x
    unfold trV at hx' hop
    have hpy:=trVs_pure xkids
    generalize trVs xkids=ys at *
    generalize trVs l=xs at *
    obtain ⟨ev,eo,so,co,⟨hev,hco⟩,R⟩:=RULES CC;rw [← hev]
    rw [← hev] at key
    rw [← hco] at hop
    simp only [fpart,part',Try.f15,Option.getD]
    simp only [S9,R,seval,nchP,dynR,eqgV,eqgK,Bool.not_not,e2,e3,e5,hln,hi,hi0',hx',hw1,hop,hpy,PV.pure,pureL]
    refine key _ ?_ ?_ ?_
    all_goals simp only [S7,R,seval,e2,e3,e5]
theorem node_Sm (k n m:Int) (nm:List UInt8) (v:Vl) (key:Ky) (kids:List Tr) (hl12:kids.length≤12) (hk:∀ t ∈ kids,RSm t):RSm (.mk k n m nm v key kids):=by
  obtain ⟨vk,vn,vs⟩:=v
  obtain ⟨dv,cl,at_⟩:=key
  have h1:∀ z:Int,(z != z)=false:=fun z=>by simp
  have h4:strP .neq nm nm=some (.bool false):=by rw [strP_neq];simp
  have h5:eqP CC 100 29 (.agg [.int .i64 vk,.int .i64 vn,.str vs]) (.agg [.int .i64 vk,.int .i64 vn,.str vs])=some true:=by rw [eqVP];simp
  have h6:eqP CC 100 31 (.agg [.int .i64 dv,.str cl,.str at_]) (.agg [.int .i64 dv,.str cl,.str at_])=some true:=by rw [eqKP];simp
  have hln:=trVs_length kids
  have hloop:=fun L hL a0 a1 a2 a3 a4 a5 a6 a7 a8 a9 e=>loop_Sm L hL a0 a1 a2 a3 a4 a5 a6 a7 a8 a9 kids hl12 hk kids.length 0 e (by omega)
  unfold RSm trV
  generalize trVs kids=xs at *
  rw [callL_enter (fn:=Try.f15) (c:=Try.f15.body.getD .skip) rfl rfl fat_R28_Same rfl ok_R28_Same (Nat.le_of_ble_eq_true rfl)]
  obtain ⟨ev,eo,so,co,⟨hev,hco⟩,R⟩:=RULES CC;rw [← hev]
  rw [← hev] at hloop
  simp only [fpart,part',Try.f15,Option.getD]
  simp only [S9,R,seval,nchP,dynR,eqgV,eqgK,Bool.not_not,h1,h4,h5,h6]
  generalize hE:ev (Code.loop _) _=z
  have hP:∃ e' bx',z=some (.exit 0,⟨e',bx'⟩):=by
    rw [← hE]
    refine hloop _ rfl _ _ _ _ _ _ _ _ _ _ _ ?_ ?_ ?_
    all_goals first | (simp only [S7,R,seval];done) | (simp only [S7,R,seval] <;> rfl)
  obtain ⟨e',bx',he⟩:=hP
  subst he
  simp only [S8,R,seval]
  exact ⟨_,rfl⟩
mutual
theorem call_Sm (t:Tr) (hs:shT t):RSm t:=by
  match t,hs with
  | .mk k n m nm v key kids,hs=>
    have h2:shTs kids:=by unfold shT at hs;exact hs.2
    exact node_Sm k n m nm v key kids (by unfold shT at hs;exact hs.1.2.2.2.2) (calls_Sm kids h2)
theorem calls_Sm (l:List Tr) (hs:shTs l):∀ t ∈ l,RSm t:=by
  match l,hs with
  | [],_=>intro t ht;simp at ht
  | x :: r,hs=>
    intro t ht
    unfold shTs at hs
    rcases List.mem_cons.1 ht with h | h
    · rw [h];exact call_Sm x hs.1
    · exact calls_Sm r hs.2 t h
end
theorem op_Same_refl (t:Tr) (hs:shT t) (bx):callOp CC (callL CC) 15 [trV t,trV t] bx=some (.ret (.bool true),bx):=op_Sm (call_Sm t hs) bx
end Go.HH
namespace Go.HH
open Go Go.Proofs
set_option maxRecDepth 100000
set_option maxHeartbeats 4000000
set_option linter.unusedSimpArgs false
set_option linter.unusedVariables false
theorem ok_R29_SameTrigger:fnOK CC Try.f31 (Try.f31.body.getD .skip)=true:=by kernel_rfl
theorem fat_R29_SameTrigger:CC.P.funcs[31]?=some Try.f31:=by kernel_rfl
theorem ok_R29_SameStep:fnOK CC Try.f32 (Try.f32.body.getD .skip)=true:=by kernel_rfl
theorem fat_R29_SameStep:CC.P.funcs[32]?=some Try.f32:=by kernel_rfl
theorem ok_R29_Same:fnOK CC Try.f13 (Try.f13.body.getD .skip)=true:=by kernel_rfl
theorem fat_R29_Same:CC.P.funcs[13]?=some Try.f13:=by kernel_rfl
def andO (x:Option Bool) (y:Option Bool):Option Bool:=match x with
  | some true=>y
  | o=>o
theorem andO_t (y:Option Bool):andO (some true) y=y:=rfl
theorem eqgT:CC.P.eqGuardType CC.P.depth 59=false:=by kernel_rfl
theorem eqTP (k d1 d2 n m k' d1' d2' n' m':Int) (a1 b1 a2 b2 s a1' b1' a2' b2' s':List UInt8):eqP CC 100 59 (.agg [.int .i64 k,.int .i64 d1,.str a1,.str b1,.int .i64 d2,.str a2,.str b2,.str s,.int .i64 n,.int .i64 m]) (.agg [.int .i64 k',.int .i64 d1',.str a1',.str b1',.int .i64 d2',.str a2',.str b2',.str s',.int .i64 n',.int .i64 m'])
    = andO (some (k == k')) (andO (andO (some (d1 == d1')) (andO (some (a1 == a1')) (andO (some (b1 == b1')) (some true)))) (andO (andO (some (d2 == d2')) (andO (some (a2 == a2')) (andO (some (b2 == b2')) (some true)))) (andO (some (s == s')) (andO (some (n == n')) (andO (some (m == m')) (some true)))))):=by kernel_rfl
theorem eqT_refl (t:Tg):eqP CC 100 59 (tgV t) (tgV t)=some true:=by
  unfold tgV
  rw [eqTP]
  simp only [beq_self_eq_true,andO_t]
theorem loop_STg (L:Code) (hL:L=fpart Try.f31 [1,1,0,1,0]) (l:List Tg) (hl:l.length≤100):∀ (k i:Nat) (e:List PV) (bx:List PBox),i+k=l.length→getT e 0=.sl (l.map tgV)→getT e 1=.sl (l.map tgV)→getT e 5=.int .i64 i→∃ e' bx',evL CC L ⟨e,bx⟩=some (.exit 0,⟨e',bx'⟩):=by
  intro k
  induction k with
  | zero=>
    intro i e bx hi0 e0 e1 e5
    rw [evL_at (fpart Try.f31 [1,1,0,1,0,0]) hL]
    have hi:¬ ((i:Int) < (l.length:Int)):=by omega
    have hln:(l.map tgV).length=l.length:=List.length_map ..
    generalize l.map tgV=xs at *
    obtain ⟨ev,eo,so,co,⟨hev,hco⟩,R⟩:=RULES CC;rw [← hev]
    simp only [fpart,part',Try.f31,Option.getD]
    simp only [S9,R,seval,nchP,dynR,eqgV,eqgK,eqgT,Bool.not_not,e0,e1,e5,hln,hi]
    exact ⟨_,_,rfl⟩
  | succ k ih=>
    intro i e bx hi0 e0 e1 e5
    rw [evL_at (fpart Try.f31 [1,1,0,1,0,0]) hL]
    have hi:((i:Int) < (l.length:Int)):=by omega
    have hi0':¬ ((i:Int) < 0):=by omega
    have hx:l[i]?=some (l[i]'(by omega)):=by simp
    have hx':(l.map tgV)[i]?=some (tgV (l[i]'(by omega))):=by rw [List.getElem?_map,hx];rfl
    have heq:=eqT_refl (l[i]'(by omega))
    generalize l[i]'(by omega)=x at *
    have hln:(l.map tgV).length=l.length:=List.length_map ..
    have hw1:=wrap_i64 (n:=(i:Int)+1) ⟨by omega,by omega⟩
    have key:=fun e bx=>ih (i+1) e bx (by omega)
    have cast1:((i+1:Nat):Int)=(i:Int)+1:=by omega
    rw [cast1] at key
    generalize l.map tgV=xs at *
    unfold tgV at hx' heq
    obtain ⟨ev,eo,so,co,⟨hev,hco⟩,R⟩:=RULES CC;rw [← hev]
    rw [← hev] at key
    simp only [fpart,part',Try.f31,Option.getD]
    simp only [S9,R,seval,nchP,dynR,eqgV,eqgK,eqgT,Bool.not_not,e0,e1,e5,hln,hi,hi0',hx',hw1,heq]
    refine key _ _ ?_ ?_ ?_
    all_goals simp only [S7,R,seval,e0,e1,e5]
theorem call_STg (l:List Tg) (hl:l.length≤100):∃ bx,callL CC 31 [.sl (l.map tgV),.sl (l.map tgV)] []=some (.ret (.bool true),bx):=by
  have hloop:=fun L hL e bx=>loop_STg L hL l hl l.length 0 e bx (by omega)
  generalize l.map tgV=xs at *
  have h7:((xs.length:Int) != (xs.length:Int))=false:=by simp
  rw [callL_enter (fn:=Try.f31) (c:=Try.f31.body.getD .skip) rfl rfl fat_R29_SameTrigger rfl ok_R29_SameTrigger (Nat.le_of_ble_eq_true rfl)]
  obtain ⟨ev,eo,so,co,⟨hev,hco⟩,R⟩:=RULES CC;rw [← hev]
  rw [← hev] at hloop
  simp only [fpart,part',Try.f31,Option.getD]
  simp only [S9,R,seval,nchP,dynR,eqgV,eqgK,eqgT,Bool.not_not,h7]
  generalize hE:ev (Code.loop _) _=z
  have hP:∃ e' bx',z=some (.exit 0,⟨e',bx'⟩):=by
    rw [← hE]
    refine hloop _ rfl _ _ ?_ ?_ ?_
    all_goals first | (simp only [S7,R,seval];done) | (simp only [S7,R,seval] <;> rfl)
  obtain ⟨e',bx',he⟩:=hP
  subst he
  simp only [S8,R,seval]
  exact ⟨_,rfl⟩
theorem op_STg (l:List Tg) (hl:l.length≤100) (bx):callOp CC (callL CC) 31 [.sl (l.map tgV),.sl (l.map tgV)] bx=some (.ret (.bool true),bx):=by
  obtain ⟨q,hq⟩:=call_STg l hl
  have hp:pureL (l.map tgV)=true:=map_pure tgV tgV_pure l
  exact callOp_of rfl (by simp only [pureL_cons,PV.pure,hp,pureL_nil,Bool.and_self]) hq rfl
theorem loop_SSp (L:Code) (hL:L=fpart Try.f32 [1,1,0,1,0]) (l:List Sp) (hl:l.length≤100) (hs:∀ x ∈ l,shT x.ex):∀ (k i:Nat) (e:List PV) (bx:List PBox),i+k=l.length→getT e 0=.sl (l.map spV)→getT e 1=.sl (l.map spV)→getT e 5=.int .i64 i→∃ e' bx',evL CC L ⟨e,bx⟩=some (.exit 0,⟨e',bx'⟩):=by
  intro k
  induction k with
  | zero=>
    intro i e bx hi0 e0 e1 e5
    rw [evL_at (fpart Try.f32 [1,1,0,1,0,0]) hL]
    have hi:¬ ((i:Int) < (l.length:Int)):=by omega
    have hln:(l.map spV).length=l.length:=List.length_map ..
    generalize l.map spV=xs at *
    obtain ⟨ev,eo,so,co,⟨hev,hco⟩,R⟩:=RULES CC;rw [← hev]
    simp only [fpart,part',Try.f32,Option.getD]
    simp only [S9,R,seval,nchP,dynR,eqgV,eqgK,eqgT,Bool.not_not,e0,e1,e5,hln,hi]
    exact ⟨_,_,rfl⟩
  | succ k ih=>
    intro i e bx hi0 e0 e1 e5
    rw [evL_at (fpart Try.f32 [1,1,0,1,0,0]) hL]
    have hi:((i:Int) < (l.length:Int)):=by omega
    have hi0':¬ ((i:Int) < 0):=by omega
    have hx:l[i]?=some (l[i]'(by omega)):=by simp
    have hx':(l.map spV)[i]?=some (spV (l[i]'(by omega))):=by rw [List.getElem?_map,hx];rfl
    have hop:=op_Same_refl (l[i]'(by omega)).ex (hs _ (List.getElem_mem _))
    generalize l[i]'(by omega)=x at *
    have hln:(l.map spV).length=l.length:=List.length_map ..
    have hw1:=wrap_i64 (n:=(i:Int)+1) ⟨by omega,by omega⟩
    have key:=fun e bx=>ih (i+1) e bx (by omega)
    have cast1:((i+1:Nat):Int)=(i:Int)+1:=by omega
    rw [cast1] at key
    obtain ⟨pk,⟨dv,cl,at_⟩,pn,xk,xn,xm,xnm,xv,xkey,xkids⟩:=x
    have h1:∀ z:Int,(z != z)=false:=fun z=>by simp
    have h4:strP .neq pn pn=some (.bool false):=by rw [strP_neq];simp
    have h6:eqP CC 100 31 (.agg [.int .i64 dv,.str cl,.str at_]) (.agg [.int .i64 dv,.str cl,.str at_])=some true:=by rw [eqKP];simp
    generalize l.map spV=xs at *
    unfold spV spC at hx'
    rw [exC_mk] at hx'
    unfold trV at hop
    have hpy:=trVs_pure xkids
    generalize trVs xkids=ys at *
    simp only [List.cons_append,List.nil_append] at hx' hop
    obtain ⟨ev,eo,so,co,⟨hev,hco⟩,R⟩:=RULES CC;rw [← hev]
    rw [← hev] at key
    rw [← hco] at hop
    simp only [fpart,part',Try.f32,Option.getD]
    simp only [S9,R,seval,nchP,dynR,eqgV,eqgK,eqgT,Bool.not_not,e0,e1,e5,hln,hi,hi0',hx',hw1,h1,h4,h6,hop,hpy,PV.pure,pureL]
    refine key _ _ ?_ ?_ ?_
    all_goals simp only [S7,R,seval,e0,e1,e5]
theorem call_SSp (l:List Sp) (hl:l.length≤100) (hs:∀ x ∈ l,shT x.ex):∃ bx,callL CC 32 [.sl (l.map spV),.sl (l.map spV)] []=some (.ret (.bool true),bx):=by
  have hloop:=fun L hL e bx=>loop_SSp L hL l hl hs l.length 0 e bx (by omega)
  generalize l.map spV=xs at *
  have h7:((xs.length:Int) != (xs.length:Int))=false:=by simp
  rw [callL_enter (fn:=Try.f32) (c:=Try.f32.body.getD .skip) rfl rfl fat_R29_SameStep rfl ok_R29_SameStep (Nat.le_of_ble_eq_true rfl)]
  obtain ⟨ev,eo,so,co,⟨hev,hco⟩,R⟩:=RULES CC;rw [← hev]
  rw [← hev] at hloop
  simp only [fpart,part',Try.f32,Option.getD]
  simp only [S9,R,seval,nchP,dynR,eqgV,eqgK,eqgT,Bool.not_not,h7]
  generalize hE:ev (Code.loop _) _=z
  have hP:∃ e' bx',z=some (.exit 0,⟨e',bx'⟩):=by
    rw [← hE]
    refine hloop _ rfl _ _ ?_ ?_ ?_
    all_goals first | (simp only [S7,R,seval];done) | (simp only [S7,R,seval] <;> rfl)
  obtain ⟨e',bx',he⟩:=hP
  subst he
  simp only [S8,R,seval]
  exact ⟨_,rfl⟩
theorem op_SSp (l:List Sp) (hl:l.length≤100) (hs:∀ x ∈ l,shT x.ex) (bx):callOp CC (callL CC) 32 [.sl (l.map spV),.sl (l.map spV)] bx=some (.ret (.bool true),bx):=by
  obtain ⟨q,hq⟩:=call_SSp l hl hs
  have hp:pureL (l.map spV)=true:=map_pure spV spV_pure l
  exact callOp_of rfl (by simp only [pureL_cons,PV.pure,hp,pureL_nil,Bool.and_self]) hq rfl
def shR (r:Rl):Prop:=r.on.length≤100∧r.dos.length≤100∧shT r.ife∧∀ x ∈ r.dos,shT x.ex
theorem loop_SRl (L:Code) (hL:L=fpart Try.f13 [1,1,0,1,0]) (l:List Rl) (hl:l.length≤100) (hs:∀ x ∈ l,shR x):∀ (k i:Nat) (e:List PV) (bx:List PBox),i+k=l.length→getT e 0=.sl (l.map rlP)→getT e 1=.sl (l.map rlP)→getT e 5=.int .i64 i→∃ e' bx',evL CC L ⟨e,bx⟩=some (.exit 0,⟨e',bx'⟩):=by
  intro k
  induction k with
  | zero=>
    intro i e bx hi0 e0 e1 e5
    rw [evL_at (fpart Try.f13 [1,1,0,1,0,0]) hL]
    have hi:¬ ((i:Int) < (l.length:Int)):=by omega
    have hln:(l.map rlP).length=l.length:=List.length_map ..
    generalize l.map rlP=xs at *
    obtain ⟨ev,eo,so,co,⟨hev,hco⟩,R⟩:=RULES CC;rw [← hev]
    simp only [fpart,part',Try.f13,Option.getD]
    simp only [S9,R,seval,nchP,dynR,eqgV,eqgK,eqgT,Bool.not_not,e0,e1,e5,hln,hi]
    exact ⟨_,_,rfl⟩
  | succ k ih=>
    intro i e bx hi0 e0 e1 e5
    rw [evL_at (fpart Try.f13 [1,1,0,1,0,0]) hL]
    have hi:((i:Int) < (l.length:Int)):=by omega
    have hi0':¬ ((i:Int) < 0):=by omega
    have hx:l[i]?=some (l[i]'(by omega)):=by simp
    have hx':(l.map rlP)[i]?=some (rlP (l[i]'(by omega))):=by rw [List.getElem?_map,hx];rfl
    have hsh:=hs _ (List.getElem_mem (h:=(by omega:i < l.length)))
    generalize l[i]'(by omega)=x at *
    have hln:(l.map rlP).length=l.length:=List.length_map ..
    have hw1:=wrap_i64 (n:=(i:Int)+1) ⟨by omega,by omega⟩
    have key:=fun e bx=>ih (i+1) e bx (by omega)
    have cast1:((i+1:Nat):Int)=(i:Int)+1:=by omega
    rw [cast1] at key
    obtain ⟨nm,pr,on,ife,dos⟩:=x
    obtain ⟨s1,s2,s3,s4⟩:=hsh
    simp only at s1 s2 s3 s4
    have hop:=op_Same_refl ife s3
    have hop1:=op_STg on s1
    have hop2:=op_SSp dos s2 s4
    have hp1:pureL (on.map tgV)=true:=map_pure tgV tgV_pure on
    have hp2:pureL (dos.map spV)=true:=map_pure spV spV_pure dos
    obtain ⟨xk,xn,xm,xnm,xv,xkey,xkids⟩:=ife
    have h1:∀ z:Int,(z != z)=false:=fun z=>by simp
    have h4:strP .neq nm nm=some (.bool false):=by rw [strP_neq];simp
    generalize l.map rlP=xs at *
    simp only [rlP,rcs] at hx'
    unfold trV at hop
    have hpy:=trVs_pure xkids
    generalize trVs xkids=ys at *
    generalize on.map tgV=os at *
    generalize dos.map spV=ds at *
    obtain ⟨ev,eo,so,co,⟨hev,hco⟩,R⟩:=RULES CC;rw [← hev]
    rw [← hev] at key
    rw [← hco] at hop hop1 hop2
    simp only [fpart,part',Try.f13,Option.getD]
    simp only [List.append_eq,List.cons_append,List.nil_append]
    simp only [S9,R,seval,nchP,dynR,eqgV,eqgK,eqgT,Bool.not_not,e0,e1,e5,hln,hi,hi0',hx',hw1,h1,h4,hop,hop1,hop2,hpy,hp1,hp2,PV.pure,pureL]
    refine key _ _ ?_ ?_ ?_
    all_goals simp only [S7,R,seval,e0,e1,e5]
theorem call_SRl (l:List Rl) (hl:l.length≤100) (hs:∀ x ∈ l,shR x):∃ bx,callL CC 13 [.sl (l.map rlP),.sl (l.map rlP)] []=some (.ret (.bool true),bx):=by
  have hloop:=fun L hL e bx=>loop_SRl L hL l hl hs l.length 0 e bx (by omega)
  generalize l.map rlP=xs at *
  have h7:((xs.length:Int) != (xs.length:Int))=false:=by simp
  rw [callL_enter (fn:=Try.f13) (c:=Try.f13.body.getD .skip) rfl rfl fat_R29_Same rfl ok_R29_Same (Nat.le_of_ble_eq_true rfl)]
  obtain ⟨ev,eo,so,co,⟨hev,hco⟩,R⟩:=RULES CC;rw [← hev]
  rw [← hev] at hloop
  simp only [fpart,part',Try.f13,Option.getD]
  simp only [S9,R,seval,nchP,dynR,eqgV,eqgK,eqgT,Bool.not_not,h7]
  generalize hE:ev (Code.loop _) _=z
  have hP:∃ e' bx',z=some (.exit 0,⟨e',bx'⟩):=by
    rw [← hE]
    refine hloop _ rfl _ _ ?_ ?_ ?_
    all_goals first | (simp only [S7,R,seval];done) | (simp only [S7,R,seval] <;> rfl)
  obtain ⟨e',bx',he⟩:=hP
  subst he
  simp only [S8,R,seval]
  exact ⟨_,rfl⟩
theorem op_R29_Same (l:List Rl) (hl:l.length≤100) (hs:∀ x ∈ l,shR x) (bx):callOp CC (callL CC) 13 [.sl (l.map rlP),.sl (l.map rlP)] bx=some (.ret (.bool true),bx):=by
  obtain ⟨q,hq⟩:=call_SRl l hl hs
  have hp:pureL (l.map rlP)=true:=map_pure rlP rlP_pure l
  exact callOp_of rfl (by simp only [pureL_cons,PV.pure,hp,pureL_nil,Bool.and_self]) hq rfl
end Go.HH
namespace Go.HH
open Go Go.Proofs
set_option maxRecDepth 100000
set_option maxHeartbeats 4000000
set_option linter.unusedSimpArgs false
set_option linter.unusedVariables false
theorem ok_L29_lit:fnOK CC Try.f22 (Try.f22.body.getD .skip)=true:=by kernel_rfl
theorem fat_L29_lit:CC.P.funcs[22]?=some Try.f22:=by kernel_rfl
theorem ok_L29_num:fnOK CC Try.f21 (Try.f21.body.getD .skip)=true:=by kernel_rfl
theorem fat_L29_num:CC.P.funcs[21]?=some Try.f21:=by kernel_rfl
theorem ok_L29_node:fnOK CC Try.f19 (Try.f19.body.getD .skip)=true:=by kernel_rfl
theorem fat_L29_node:CC.P.funcs[19]?=some Try.f19:=by kernel_rfl
theorem ok_L29_not:fnOK CC Try.f20 (Try.f20.body.getD .skip)=true:=by kernel_rfl
theorem fat_L29_not:CC.P.funcs[20]?=some Try.f20:=by kernel_rfl
theorem op_lawlit (k n:Int) (bx):callOp CC (callL CC) 22 [.int .i64 k,.int .i64 n] bx=some (.ret (.agg (exC (litT k n))),bx):=by
  suffices h:∃ b,callL CC 22 [.int .i64 k,.int .i64 n] []=some (.ret (.agg (exC (litT k n))),b) by
    obtain ⟨b,h⟩:=h
    exact callOp_of rfl (by simp only [SA,Bool.and_true]) h (by rw [← trV_exC];exact trV_pure _)
  rw [← trV_exC]
  rw [callL_enter (fn:=Try.f22) (c:=Try.f22.body.getD .skip) rfl rfl fat_L29_lit rfl ok_L29_lit (Nat.le_of_ble_eq_true rfl)]
  unfold litT trV trVs zK
  obtain ⟨ev,eo,so,co,⟨hev,hco⟩,R⟩:=RULES CC;rw [← hev]
  simp only [fpart,part',Try.f22,Option.getD]
  simp only [S9,R,seval,ZC,nchP,List.set_cons_zero,List.set_cons_succ,buildVl2,buildLit]
  exact ⟨_,rfl⟩
theorem op_lawnum (n:Int) (bx):callOp CC (callL CC) 21 [.int .i64 n] bx=some (.ret (.agg (exC (litT 2 n))),bx):=by
  suffices h:∃ b,callL CC 21 [.int .i64 n] []=some (.ret (.agg (exC (litT 2 n))),b) by
    obtain ⟨b,h⟩:=h
    exact callOp_of rfl (by simp only [SA,Bool.and_true]) h (by rw [← trV_exC];exact trV_pure _)
  have hl:=op_lawlit 2 n
  rw [callL_enter (fn:=Try.f21) (c:=Try.f21.body.getD .skip) rfl rfl fat_L29_num rfl ok_L29_num (Nat.le_of_ble_eq_true rfl)]
  obtain ⟨ev,eo,so,co,⟨hev,hco⟩,R⟩:=RULES CC;rw [← hev]
  rw [← hco] at hl
  simp only [fpart,part',Try.f21,Option.getD]
  simp only [S9,R,seval,ZC,nchP,List.set_cons_zero,List.set_cons_succ,hl,SX]
  exact ⟨_,rfl⟩
theorem exC_nod (k:Int) (l:List Tr):exC (nodT k l)=[.int .i64 k,.int .i64 0,.int .i64 0,.str [],.int .i64 0,.int .i64 0,.str [],.int .i64 0,.str [],.str [],.sl (trVs l)]:=by unfold exC nodT trV zV zK;rfl
theorem op_lawnode (k:Int) (a b:Tr) (bx):callOp CC (callL CC) 19 [.int .i64 k,.agg (exC a),.agg (exC b)] bx=some (.ret (.agg (exC (nodT k [a,b]))),bx):=by
  suffices h:∃ q,callL CC 19 [.int .i64 k,.agg (exC a),.agg (exC b)] []=some (.ret (.agg (exC (nodT k [a,b]))),q) by
    obtain ⟨q,h⟩:=h
    exact callOp_of rfl (by simp only [SA,SE,PV.pure,exC_pure,Bool.and_true]) h (by rw [← trV_exC];exact trV_pure _)
  rw [exC_nod,trVs_exC]
  have hb:=bsE2 a b
  rw [callL_enter (fn:=Try.f19) (c:=Try.f19.body.getD .skip) rfl rfl fat_L29_node rfl ok_L29_node (Nat.le_of_ble_eq_true rfl)]
  obtain ⟨ev,eo,so,co,⟨hev,hco⟩,R⟩:=RULES CC;rw [← hev]
  simp only [fpart,part',Try.f19,Option.getD]
  simp only [S9,R,seval,ZC,nchP,List.set_cons_zero,List.set_cons_succ,SX,hb,buildNod]
  exact ⟨_,rfl⟩
theorem op_lawnot (a:Tr) (bx):callOp CC (callL CC) 20 [.agg (exC a)] bx=some (.ret (.agg (exC (nodT 6 [a]))),bx):=by
  suffices h:∃ q,callL CC 20 [.agg (exC a)] []=some (.ret (.agg (exC (nodT 6 [a]))),q) by
    obtain ⟨q,h⟩:=h
    exact callOp_of rfl (by simp only [SA,SE,PV.pure,exC_pure,Bool.and_true]) h (by rw [← trV_exC];exact trV_pure _)
  rw [exC_nod,trVs_exC]
  have hb:=bsE1 a
  rw [callL_enter (fn:=Try.f20) (c:=Try.f20.body.getD .skip) rfl rfl fat_L29_not rfl ok_L29_not (Nat.le_of_ble_eq_true rfl)]
  obtain ⟨ev,eo,so,co,⟨hev,hco⟩,R⟩:=RULES CC;rw [← hev]
  simp only [fpart,part',Try.f20,Option.getD]
  simp only [S9,R,seval,ZC,nchP,List.set_cons_zero,List.set_cons_succ,SX,hb,buildNod]
  exact ⟨_,rfl⟩
theorem okB_aw:fnOKB CC Try.f8 (Try.f8.body.getD .skip)=true:=by kernel_rfl
theorem noB_aw:fnOK CC Try.f8 (Try.f8.body.getD .skip)=false:=by kernel_rfl
theorem fat_aw:CC.P.funcs[8]?=some Try.f8:=by kernel_rfl
theorem draw_no_aw:drawOK CC (opsOf (fpart Try.f8 [1,1,1,1,1,1,1,0]))=false:=by kernel_rfl
theorem ords_aw:((orders (opsOf (fpart Try.f8 [1,1,1,1,1,1,1,0]))).all fun l=>(List.range (opsOf (fpart Try.f8 [1,1,1,1,1,1,1,0])).size).all fun j=>l.contains j)=true:=by kernel_rfl
theorem ordn_aw:(orders (opsOf (fpart Try.f8 [1,1,1,1,1,1,1,0]))).isEmpty=false:=by kernel_rfl
theorem size_aw:(opsOf (fpart Try.f8 [1,1,1,1,1,1,1,0])).size=10:=by kernel_rfl
def awK:List PV:=[.int .i64 3,.str [111,110,111,102,102],.str [111,110]]
def awG:PV:=.agg [.int .i64 3,.int .i64 0,.str [],.str [],.int .i64 0,.str [],.str [],.str [],.int .i64 1350,.int .i64 127]
def awL (n:Int):List PV:=[.int .i64 1,.int .i64 0,.int .i64 0,.str [],.int .i64 1,.int .i64 n,.str [],.int .i64 0,.str [],.str [],.sl []]
def awS:List PV:=[.int .i64 1,.int .i64 3,.str [111,110,111,102,102],.str [111,110],.str [],.int .i64 1,.int .i64 0,.int .i64 0,.str [],.int .i64 1,.int .i64 0,.str [],.int .i64 0,.str [],.str [],.sl []]
def awR:List PV:=[.str [110,105,103,104,116],.int .i64 0,.sl [awG],.int .i64 1,.int .i64 0,.int .i64 0,.str [],.int .i64 1,.int .i64 1,.str [],.int .i64 0,.str [],.str [],.sl [],.sl [.agg awS]]
def awZ:List PV:=[.str [],.int .i64 0,.nils,.int .i64 0,.int .i64 0,.int .i64 0,.str [],.int .i64 0,.int .i64 0,.str [],.int .i64 0,.str [],.str [],.nils,.nils]
theorem awB0:buildP CC 59 [(0,.int .i64 3),(4,.int .i64 1350),(5,.int .i64 127)]=some awG:=by kernel_rfl
theorem awB1:buildSliceP CC 27 1 [(0,awG)]=some (.osl 59 [awG]):=by kernel_rfl
theorem awB5:buildP CC 41 [(0,.int .i64 1),(1,.agg awK),(3,.agg (awL 0))]=some (.agg awS):=by kernel_rfl
theorem awB6:buildSliceP CC 35 1 [(0,.agg awS)]=some (.osl 41 [.agg awS]):=by kernel_rfl
theorem awB7:buildP CC 37 [(0,.str [110,105,103,104,116]),(2,.sl [awG]),(3,.agg (awL 1)),(4,.sl [.agg awS])]=some (.agg awR):=by kernel_rfl
theorem awLm (n:Int):(awL n).map PV.seal1=awL n:=rfl
theorem awL_ex (n:Int):exC (litT 1 n)=awL n:=by unfold exC litT trV trVs zK awL;rfl
def awLs:List (Nat×Nat×PV):=[(0,47,awG),(1,48,.osl 59 [awG]),(2,49,.agg (awL 1)),(3,50,.agg awK),(4,51,.agg (awL 0)),(5,52,.agg awS),(6,53,.osl 41 [.agg awS]),(7,54,.agg awR),(8,15,.bp 5 0)]
def awBx (b0 b1 b2 b3:PBox) (D:Nat→Bool):List PBox:=[b0,b1,b2,b3,.cells 31 awK]++(if D 9 then [.cells 37 awR] else if D 8 then [.cells 37 awZ] else [])
theorem awLs_pw:awLs.Pairwise (fun x y=>x.1≠y.1∧x.2.1≠y.2.1):=by unfold awLs;simp
theorem awBx_get (b0 b1 b2 b3:PBox) (D:Nat→Bool):(awBx b0 b1 b2 b3 D)[4]?=some (.cells 31 awK):=rfl
theorem draw_aw (b0 b1 b2 b3:PBox) (e:List PV) (h14:getT e 14=.bp 4 0) :
    ∃ e',drawAll CC (callL CC) (opsOf (fpart Try.f8 [1,1,1,1,1,1,1,0])) ⟨e,[b0,b1,b2,b3,.cells 31 awK]⟩=some (.normal,⟨e',[b0,b1,b2,b3,.cells 31 awK,.cells 37 awR]⟩)∧getT e' 15=.bp 5 0∧∀ t,(∀ x ∈ awLs,x.2.1≠t)→getT e' t=getT e t:=by
  refine ⟨_,drawAll_states (e0:=e) (L:=awLs) (bxOf:=awBx b0 b1 b2 b3) ords_aw ordn_aw (fun D j op hop hD hdep hcl=>?_) (by unfold awBx awLs;simp [setsD]) (r:=⟨setsD e (fun _=>true) awLs,[b0,b1,b2,b3,.cells 31 awK,.cells 37 awR]⟩) (fun D hD=>?_),?_,fun t ht=>getT_off e _ t _ ht⟩
  · have hcl9:D 9=true→D 8=true:=fun h=>hcl 9 _ rfl h ⟨8,.data⟩ (by simp [opsOf,fpart,part',Try.f8]) rfl
    have hj:j < 10:=by
      have:=(Array.getElem?_eq_some_iff.1 hop).1
      rw [size_aw] at this
      exact this
    have hpw:=awLs_pw
    have z14:getT (setsD e D awLs) 14=.bp 4 0:=by rw [getT_off e D 14 _ (by unfold awLs;simp)];exact h14
    have hget:=awBx_get b0 b1 b2 b3 D
    have hl0:=op_lawlit 1 0
    have hl1:=op_lawlit 1 1
    rw [awL_ex] at hl0 hl1
    have hlenB:D 8=false→D 9=false→(awBx b0 b1 b2 b3 D).length=5:=fun a b=>by unfold awBx;rw [a,b];rfl
    by_cases e0:j=0
    · subst e0
      simp only [opsOf,fpart,part',Try.f8,Option.getD,List.getElem?_toArray,List.getElem?_cons_succ,List.getElem?_cons_zero] at hop
      injection hop with hop
      subst hop
      refine ⟨rfl,fun al=>?_⟩
      rw [← setsD_add e D 0 47 (awG) hD _ (by unfold awLs;simp) hpw]
      have hb:awBx b0 b1 b2 b3 (addD D 0)=awBx b0 b1 b2 b3 D:=by unfold awBx;rw [addD_ne (by decide),addD_ne (by decide)]
      rw [hb]
      generalize awBx b0 b1 b2 b3 D=Bx at *
      generalize setsD e D awLs=E at *
      obtain ⟨ev,eo,so,co,⟨hev,hco,heo,hso⟩,R⟩:=RULES0 CC
      rw [← hso]
      simp only [S9,R,seval,ZC,nchP,List.set_cons_zero,List.set_cons_succ,awB0]
      exact ⟨_,rfl⟩
    by_cases e1:j=1
    · subst e1
      simp only [opsOf,fpart,part',Try.f8,Option.getD,List.getElem?_toArray,List.getElem?_cons_succ,List.getElem?_cons_zero] at hop
      injection hop with hop
      subst hop
      refine ⟨rfl,fun al=>?_⟩
      have d0:D 0=true:=hdep ⟨0,.data⟩ (by simp) rfl
      have z47:getT (setsD e D awLs) 47=awG:=getT_on e D 0 47 _ d0 _ (by unfold awLs;simp) hpw
      rw [← setsD_add e D 1 48 (.osl 59 [awG]) hD _ (by unfold awLs;simp) hpw]
      have hb:awBx b0 b1 b2 b3 (addD D 1)=awBx b0 b1 b2 b3 D:=by unfold awBx;rw [addD_ne (by decide),addD_ne (by decide)]
      rw [hb]
      generalize awBx b0 b1 b2 b3 D=Bx at *
      generalize setsD e D awLs=E at *
      obtain ⟨ev,eo,so,co,⟨hev,hco,heo,hso⟩,R⟩:=RULES0 CC
      rw [← hso]
      simp only [S9,R,seval,ZC,nchP,List.set_cons_zero,List.set_cons_succ,z47,awB1]
      exact ⟨_,rfl⟩
    by_cases e2:j=2
    · subst e2
      simp only [opsOf,fpart,part',Try.f8,Option.getD,List.getElem?_toArray,List.getElem?_cons_succ,List.getElem?_cons_zero] at hop
      injection hop with hop
      subst hop
      refine ⟨rfl,fun al=>?_⟩
      rw [← setsD_add e D 2 49 (.agg (awL 1)) hD _ (by unfold awLs;simp) hpw]
      have hb:awBx b0 b1 b2 b3 (addD D 2)=awBx b0 b1 b2 b3 D:=by unfold awBx;rw [addD_ne (by decide),addD_ne (by decide)]
      rw [hb]
      generalize awBx b0 b1 b2 b3 D=Bx at *
      generalize setsD e D awLs=E at *
      obtain ⟨ev,eo,so,co,⟨hev,hco,heo,hso⟩,R⟩:=RULES0 CC
      rw [← hso]
      rw [← hco] at hl0 hl1
      simp only [S9,R,seval,ZC,nchP,List.set_cons_zero,List.set_cons_succ,hl1]
      exact ⟨_,rfl⟩
    by_cases e3:j=3
    · subst e3
      simp only [opsOf,fpart,part',Try.f8,Option.getD,List.getElem?_toArray,List.getElem?_cons_succ,List.getElem?_cons_zero] at hop
      injection hop with hop
      subst hop
      refine ⟨rfl,fun al=>?_⟩
      rw [← setsD_add e D 3 50 (.agg awK) hD _ (by unfold awLs;simp) hpw]
      have hb:awBx b0 b1 b2 b3 (addD D 3)=awBx b0 b1 b2 b3 D:=by unfold awBx;rw [addD_ne (by decide),addD_ne (by decide)]
      rw [hb]
      generalize awBx b0 b1 b2 b3 D=Bx at *
      generalize setsD e D awLs=E at *
      unfold awK at hget ⊢
      obtain ⟨ev,eo,so,co,⟨hev,hco,heo,hso⟩,R⟩:=RULES0 CC
      rw [← hso]
      simp only [S9,R,seval,ZC,nchP,List.set_cons_zero,List.set_cons_succ,z14,hget]
      exact ⟨_,rfl⟩
    by_cases e4:j=4
    · subst e4
      simp only [opsOf,fpart,part',Try.f8,Option.getD,List.getElem?_toArray,List.getElem?_cons_succ,List.getElem?_cons_zero] at hop
      injection hop with hop
      subst hop
      refine ⟨rfl,fun al=>?_⟩
      rw [← setsD_add e D 4 51 (.agg (awL 0)) hD _ (by unfold awLs;simp) hpw]
      have hb:awBx b0 b1 b2 b3 (addD D 4)=awBx b0 b1 b2 b3 D:=by unfold awBx;rw [addD_ne (by decide),addD_ne (by decide)]
      rw [hb]
      generalize awBx b0 b1 b2 b3 D=Bx at *
      generalize setsD e D awLs=E at *
      obtain ⟨ev,eo,so,co,⟨hev,hco,heo,hso⟩,R⟩:=RULES0 CC
      rw [← hso]
      rw [← hco] at hl0 hl1
      simp only [S9,R,seval,ZC,nchP,List.set_cons_zero,List.set_cons_succ,hl0]
      exact ⟨_,rfl⟩
    by_cases e5:j=5
    · subst e5
      simp only [opsOf,fpart,part',Try.f8,Option.getD,List.getElem?_toArray,List.getElem?_cons_succ,List.getElem?_cons_zero] at hop
      injection hop with hop
      subst hop
      refine ⟨rfl,fun al=>?_⟩
      have d3:D 3=true:=hdep ⟨3,.data⟩ (by simp) rfl
      have z50:getT (setsD e D awLs) 50=.agg awK:=getT_on e D 3 50 _ d3 _ (by unfold awLs;simp) hpw
      have d4:D 4=true:=hdep ⟨4,.data⟩ (by simp) rfl
      have z51:getT (setsD e D awLs) 51=.agg (awL 0):=getT_on e D 4 51 _ d4 _ (by unfold awLs;simp) hpw
      rw [← setsD_add e D 5 52 (.agg awS) hD _ (by unfold awLs;simp) hpw]
      have hb:awBx b0 b1 b2 b3 (addD D 5)=awBx b0 b1 b2 b3 D:=by unfold awBx;rw [addD_ne (by decide),addD_ne (by decide)]
      rw [hb]
      generalize awBx b0 b1 b2 b3 D=Bx at *
      generalize setsD e D awLs=E at *
      obtain ⟨ev,eo,so,co,⟨hev,hco,heo,hso⟩,R⟩:=RULES0 CC
      rw [← hso]
      simp only [S9,R,seval,ZC,nchP,List.set_cons_zero,List.set_cons_succ,z50,z51,awB5]
      exact ⟨_,rfl⟩
    by_cases e6:j=6
    · subst e6
      simp only [opsOf,fpart,part',Try.f8,Option.getD,List.getElem?_toArray,List.getElem?_cons_succ,List.getElem?_cons_zero] at hop
      injection hop with hop
      subst hop
      refine ⟨rfl,fun al=>?_⟩
      have d5:D 5=true:=hdep ⟨5,.data⟩ (by simp) rfl
      have z52:getT (setsD e D awLs) 52=.agg awS:=getT_on e D 5 52 _ d5 _ (by unfold awLs;simp) hpw
      rw [← setsD_add e D 6 53 (.osl 41 [.agg awS]) hD _ (by unfold awLs;simp) hpw]
      have hb:awBx b0 b1 b2 b3 (addD D 6)=awBx b0 b1 b2 b3 D:=by unfold awBx;rw [addD_ne (by decide),addD_ne (by decide)]
      rw [hb]
      generalize awBx b0 b1 b2 b3 D=Bx at *
      generalize setsD e D awLs=E at *
      obtain ⟨ev,eo,so,co,⟨hev,hco,heo,hso⟩,R⟩:=RULES0 CC
      rw [← hso]
      simp only [S9,R,seval,ZC,nchP,List.set_cons_zero,List.set_cons_succ,z52,awB6]
      exact ⟨_,rfl⟩
    by_cases e7:j=7
    · subst e7
      simp only [opsOf,fpart,part',Try.f8,Option.getD,List.getElem?_toArray,List.getElem?_cons_succ,List.getElem?_cons_zero] at hop
      injection hop with hop
      subst hop
      refine ⟨rfl,fun al=>?_⟩
      have d1:D 1=true:=hdep ⟨1,.data⟩ (by simp) rfl
      have z48:getT (setsD e D awLs) 48=.osl 59 [awG]:=getT_on e D 1 48 _ d1 _ (by unfold awLs;simp) hpw
      have d2:D 2=true:=hdep ⟨2,.data⟩ (by simp) rfl
      have z49:getT (setsD e D awLs) 49=.agg (awL 1):=getT_on e D 2 49 _ d2 _ (by unfold awLs;simp) hpw
      have d6:D 6=true:=hdep ⟨6,.data⟩ (by simp) rfl
      have z53:getT (setsD e D awLs) 53=.osl 41 [.agg awS]:=getT_on e D 6 53 _ d6 _ (by unfold awLs;simp) hpw
      rw [← setsD_add e D 7 54 (.agg awR) hD _ (by unfold awLs;simp) hpw]
      have hb:awBx b0 b1 b2 b3 (addD D 7)=awBx b0 b1 b2 b3 D:=by unfold awBx;rw [addD_ne (by decide),addD_ne (by decide)]
      rw [hb]
      generalize awBx b0 b1 b2 b3 D=Bx at *
      generalize setsD e D awLs=E at *
      obtain ⟨ev,eo,so,co,⟨hev,hco,heo,hso⟩,R⟩:=RULES0 CC
      rw [← hso]
      simp only [S9,R,seval,ZC,nchP,List.set_cons_zero,List.set_cons_succ,z48,z49,z53,awB7,awLm]
      exact ⟨_,rfl⟩
    by_cases e8:j=8
    · subst e8
      simp only [opsOf,fpart,part',Try.f8,Option.getD,List.getElem?_toArray,List.getElem?_cons_succ,List.getElem?_cons_zero] at hop
      injection hop with hop
      subst hop
      refine ⟨rfl,fun al=>?_⟩
      rw [← setsD_add e D 8 15 (.bp 5 0) hD _ (by unfold awLs;simp) hpw]
      have d9:D 9=false:=by
        cases h9:D 9 with
        | false=>rfl
        | true=>exact absurd (hcl9 h9) (by rw [hD];decide)
      have hl:=hlenB hD d9
      have hb:awBx b0 b1 b2 b3 (addD D 8)=awBx b0 b1 b2 b3 D++[.cells 37 awZ]:=by unfold awBx;rw [addD_ne (by decide),addD_self,d9,hD];rfl
      rw [hb]
      generalize awBx b0 b1 b2 b3 D=Bx at *
      generalize setsD e D awLs=E at *
      unfold awZ
      obtain ⟨ev,eo,so,co,⟨hev,hco,heo,hso⟩,R⟩:=RULES0 CC
      rw [← hso]
      simp only [S9,R,seval,ZC,nchP,List.set_cons_zero,List.set_cons_succ,hl]
      exact ⟨_,rfl⟩
    by_cases e9:j=9
    · subst e9
      simp only [opsOf,fpart,part',Try.f8,Option.getD,List.getElem?_toArray,List.getElem?_cons_succ,List.getElem?_cons_zero] at hop
      injection hop with hop
      subst hop
      refine ⟨rfl,fun al=>?_⟩
      have d7:D 7=true:=hdep ⟨7,.data⟩ (by simp) rfl
      have z54:getT (setsD e D awLs) 54=.agg awR:=getT_on e D 7 54 _ d7 _ (by unfold awLs;simp) hpw
      have d8:D 8=true:=hdep ⟨8,.data⟩ (by simp) rfl
      have z15:getT (setsD e D awLs) 15=.bp 5 0:=getT_on e D 8 15 _ d8 _ (by unfold awLs;simp) hpw
      rw [setsD_skip e D 9 _ (by unfold awLs;simp)]
      have hb:awBx b0 b1 b2 b3 (addD D 9)=[b0,b1,b2,b3,.cells 31 awK,.cells 37 awR]:=by unfold awBx;rw [addD_self];rfl
      have hb0:awBx b0 b1 b2 b3 D=[b0,b1,b2,b3,.cells 31 awK,.cells 37 awZ]:=by unfold awBx;rw [hD,d8];rfl
      rw [hb,hb0]
      generalize setsD e D awLs=E at *
      unfold awR at z54 ⊢
      unfold awZ
      obtain ⟨ev,eo,so,co,⟨hev,hco,heo,hso⟩,R⟩:=RULES0 CC
      rw [← hso]
      simp only [S9,R,seval,ZC,nchP,List.set_cons_zero,List.set_cons_succ,z54,z15]
      exact ⟨_,rfl⟩
    omega
  · have hsz:=size_aw
    have hd:∀ j,j < 10→D j=true:=fun j hj=>hD j (by rw [hsz];exact hj)
    unfold awLs awBx
    simp only [setsD,hd 0 (by decide),hd 1 (by decide),hd 2 (by decide),hd 3 (by decide),hd 4 (by decide),hd 5 (by decide),hd 6 (by decide),hd 7 (by decide),hd 8 (by decide),hd 9 (by decide),if_true]
    rfl
  · exact getT_on e _ 8 15 _ rfl _ (by unfold awLs;simp) awLs_pw
end Go.HH
namespace Go.HH
open Go Go.Proofs
set_option maxRecDepth 100000
set_option maxHeartbeats 4000000
set_option linter.unusedSimpArgs false
set_option linter.unusedVariables false
def awS1:List UInt8:=[49,32,43,32,50,32,42,32,51,32,61,61,32,55,32,97,110,100,32,110,111,116,32,102,97,108,115,101]
def awS2:List UInt8:=[45,45,51]
def awS3:List UInt8:=[49,32,60,32,50,32,60,32,51]
def awS4:List UInt8:=[114,117,108,101,32,110,105,103,104,116,32,123,32,111,110,32,116,105,109,101,32,50,50,58,51,48,59,32,100,111,32,115,101,116,32,51,46,111,110,111,102,102,46,111,110,32,61,32,102,97,108,115,101,59,32,125]
def awT1:Tr:=nodT 7 [nodT 9 [nodT 11 [litT 2 1,nodT 13 [litT 2 2,litT 2 3]],litT 2 7],nodT 6 [litT 1 0]]
def awT2:Tr:=nodT 12 [litT 2 0,litT 2 (-3)]
def awRl:Rl:=⟨[110,105,103,104,116],0,[⟨3,zK,zK,[],1350,127⟩],wT,[⟨1,(3,[111,110,111,102,102],[111,110]),[],litT 1 0⟩]⟩
theorem exA1:exprA awS1=(awT1,0,0):=by kernel_rfl
theorem exA2:exprA awS2=(awT2,0,0):=by kernel_rfl
theorem exA3:exprA awS3=(zT,6,12):=by kernel_rfl
theorem exA4:rulesA awS4=([awRl],0,0):=by kernel_rfl
theorem rlA:rlP awRl=.agg awR:=by
  unfold rlP awRl awR wT litT
  simp only [rcs,List.map_cons,List.map_nil]
  unfold tgV spV spC
  simp only [exC_mk,trVs_nil,zK,zV]
  rfl
theorem op_aw1 (bx):callOp CC (callL CC) 14 [.str awS1] bx=some (.ret (.tup [.agg (exC awT1),.int .i64 0,.int .i64 0]),bx):=by
  have:=op_parse_Expr awS1 (by decide) bx
  rw [exA1,trV_exC] at this
  exact this
theorem op_aw2 (bx):callOp CC (callL CC) 14 [.str awS2] bx=some (.ret (.tup [.agg (exC awT2),.int .i64 0,.int .i64 0]),bx):=by
  have:=op_parse_Expr awS2 (by decide) bx
  rw [exA2,trV_exC] at this
  exact this
theorem op_aw3 (bx):callOp CC (callL CC) 14 [.str awS3] bx=some (.ret (.tup [.agg (exC zT),.int .i64 6,.int .i64 12]),bx):=by
  have:=op_parse_Expr awS3 (by decide) bx
  rw [exA3,trV_exC] at this
  exact this
theorem op_aw4 (bx):callOp CC (callL CC) 9 [.str awS4] bx=some (.ret (.tup [.sl [.agg awR],.int .i64 0,.int .i64 0]),bx):=by
  have:=op_parse_Rules awS4 (by decide) bx
  rw [exA4] at this
  simp only [List.map_cons,List.map_nil,rlA] at this
  exact this
theorem sh_awT1:shT awT1:=by
  have h:∀ k n,shT (litT k n):=sh_lit
  exact sh_n2 (sh_n2 (sh_n2 (h _ _) (sh_n2 (h _ _) (h _ _))) (h _ _)) (sh_n1 (h _ _))
theorem sh_awT2:shT awT2:=sh_n2 (sh_lit _ _) (sh_lit _ _)
theorem sm_aw1 (bx):callOp CC (callL CC) 15 [.agg (exC awT1),.agg (exC awT1)] bx=some (.ret (.bool true),bx):=by rw [← trV_exC];exact op_Same_refl _ sh_awT1 bx
theorem sm_aw2 (bx):callOp CC (callL CC) 15 [.agg (exC awT2),.agg (exC awT2)] bx=some (.ret (.bool true),bx):=by rw [← trV_exC];exact op_Same_refl _ sh_awT2 bx
theorem sm_aw4 (bx):callOp CC (callL CC) 13 [.sl [.agg awR],.sl [.agg awR]] bx=some (.ret (.bool true),bx):=by
  have:=op_R29_Same [awRl] (by decide) (fun x hx=>by
    rw [List.mem_singleton] at hx
    subst hx
    exact ⟨by decide,by decide,sh_lit 1 1,fun y hy=>by
      have:y=⟨1,(3,[111,110,111,102,102],[111,110]),[],litT 1 0⟩:=List.mem_singleton.1 hy
      rw [this]
      exact sh_lit 1 0⟩) bx
  simp only [List.map_cons,List.map_nil,rlA] at this
  exact this
theorem awRb:buildSliceP CC 23 1 [(0,.agg awR)]=some (.osl 37 [.agg awR]):=by kernel_rfl
theorem awRp:pureL awR=true:=by kernel_rfl
theorem awKz:buildP CC 31 [(0,.int .i64 3),(1,.str [111,110,111,102,102]),(2,.str [111,110])]=some (.agg awK):=by kernel_rfl
theorem awRl_len:awR.length=15∧awR.take 15=awR∧awR.drop 15=[]∧awR.map PV.ro=awR∧awR.map PV.seal1=awR∧awR.all PV.one=true:=⟨rfl,rfl,rfl,rfl,rfl,rfl⟩
theorem awKl:awK.length=3∧awK.take 3=awK∧awK.drop 3=[]∧awK.map PV.ro=awK∧awK.map PV.seal1=awK∧awK.all PV.one=true:=⟨rfl,rfl,rfl,rfl,rfl,rfl⟩
theorem draw_ok_aw:drawOK CC (opsOf (fpart Try.f8 [1,1,1,1,1,1,1,1,0]))=true:=by kernel_rfl
theorem call_awake:∃ bx,callL CC 8 [] []=some (.ret (.bool true),bx):=by
  have x1:=op_aw1
  have x2:=op_aw2
  have x3:=op_aw3
  have x4:=op_aw4
  have m1:=sm_aw1
  have m2:=sm_aw2
  have m4:=sm_aw4
  unfold awS1 at x1
  unfold awS2 at x2
  unfold awS3 at x3
  unfold awS4 at x4
  have n1:=op_lawnum 1
  have n2:=op_lawnum 2
  have n3:=op_lawnum 3
  have n7:=op_lawnum 7
  have n0:=op_lawnum 0
  have nm:=op_lawnum (-3)
  have l0:=op_lawlit 1 0
  have nt:=op_lawnot
  have nd:=op_lawnode
  have hb:=awRb
  have hp:=awRp
  have hk:=awKz
  have hl:=awRl_len
  have hkl:=awKl
  have ht1:nodT 7 [nodT 9 [nodT 11 [litT 2 1,nodT 13 [litT 2 2,litT 2 3]],litT 2 7],nodT 6 [litT 1 0]]=awT1:=rfl
  have ht2:nodT 12 [litT 2 0,litT 2 (-3)]=awT2:=rfl
  rw [callL_enterB (fn:=Try.f8) (c:=Try.f8.body.getD .skip) rfl rfl fat_aw rfl noB_aw okB_aw (Nat.le_of_ble_eq_true rfl)]
  have hd:=fun b0 b1 b2 b3 e h=>draw_aw b0 b1 b2 b3 e h
  simp only [← drawM_all draw_no_aw] at hd
  have hd2:=fun st=>drawM_calm (call:=callL CC) (st:=st) draw_ok_aw
  generalize awT1=u1 at *
  generalize awT2=u2 at *
  generalize awR=rr at *
  generalize awK=kk at *
  obtain ⟨dr,ev,eo,so,co,⟨hev,hco,heo,hdr⟩,R⟩:=RULESB CC
  rw [← hev]
  rw [← hco] at x1 x2 x3 x4 m1 m2 m4 n1 n2 n3 n7 n0 nm l0 nt nd
  rw [← hdr] at hd
  rw [← hdr,← heo] at hd2
  simp only [opsOf,fpart,part',Try.f8,Option.getD] at hd hd2 ⊢
  simp only [S9,R,seval,ZC,nchP,List.set_cons_zero,List.set_cons_succ,SX,x1,x2,x3,x4,n1,n2,n3,n7,l0,nt,nd,ht1,hk,hkl]
  have hd3:∀ e,getT e 14=.bp 4 0→getT e 3=.int .i64 0→getT e 1=.bp 0 0→getT e 4=.bp 1 0→getT e 7=.int .i64 0→getT e 5=.bp 2 0→getT e 9=.int .i64 6→getT e 10=.int .i64 12→getT e 13=.int .i64 0→getT e 11=.sl [.agg rr]→∃ e',dr _ ⟨e,[.cells 34 (exC u1),.cells 34 (exC u1),.cells 34 (exC u2),.cells 34 (exC zT),.cells 31 kk]⟩=some (.normal,⟨e',[.cells 34 (exC u1),.cells 34 (exC u1),.cells 34 (exC u2),.cells 34 (exC zT),.cells 31 kk,.cells 37 rr]⟩)∧getT e' 15=.bp 5 0∧getT e' 3=.int .i64 0∧getT e' 1=.bp 0 0∧getT e' 4=.bp 1 0∧getT e' 7=.int .i64 0∧getT e' 5=.bp 2 0∧getT e' 9=.int .i64 6∧getT e' 10=.int .i64 12∧getT e' 13=.int .i64 0∧getT e' 11=.sl [.agg rr]:=fun e h14 k3 k1 k4 k7 k5 k9 k10 k13 k11=>by
    obtain ⟨e',h1,h2,h3⟩:=hd (.cells 34 (exC u1)) (.cells 34 (exC u1)) (.cells 34 (exC u2)) (.cells 34 (exC zT)) e h14
    exact ⟨e',h1,h2,(h3 3 (by unfold awLs;simp)).trans k3,(h3 1 (by unfold awLs;simp)).trans k1,(h3 4 (by unfold awLs;simp)).trans k4,(h3 7 (by unfold awLs;simp)).trans k7,(h3 5 (by unfold awLs;simp)).trans k5,(h3 9 (by unfold awLs;simp)).trans k9,(h3 10 (by unfold awLs;simp)).trans k10,(h3 13 (by unfold awLs;simp)).trans k13,(h3 11 (by unfold awLs;simp)).trans k11⟩
  clear hd
  generalize hE:dr _ _=z
  have hP:∃ e',z=some (.normal,⟨e',[.cells 34 (exC u1),.cells 34 (exC u1),.cells 34 (exC u2),.cells 34 (exC zT),.cells 31 kk,.cells 37 rr]⟩)∧getT e' 15=.bp 5 0∧getT e' 3=.int .i64 0∧getT e' 1=.bp 0 0∧getT e' 4=.bp 1 0∧getT e' 7=.int .i64 0∧getT e' 5=.bp 2 0∧getT e' 9=.int .i64 6∧getT e' 10=.int .i64 12∧getT e' 13=.int .i64 0∧getT e' 11=.sl [.agg rr]:=by
    rw [← hE]
    refine hd3 _ ?_ ?_ ?_ ?_ ?_ ?_ ?_ ?_ ?_ ?_
    all_goals first | (simp only [S7,R,seval];done) | (simp only [S7,R,seval] <;> rfl)
  obtain ⟨e',he,g15,g3,g1,g4,g7,g5,g9,g10,g13,g11⟩:=hP
  subst he
  clear hE hd3
  simp only [S9,R,seval,ZC,nchP,List.set_cons_zero,List.set_cons_succ,SX,hd2,m1,m2,m4,n0,nm,nd,ht2,hb,hp,hl,hkl,PV.pure,pureL,g15,g3,g1,g4,g7,g5,g9,g10,g13,g11]
  exact ⟨_,rfl⟩
theorem op_awake (bx):callOp CC (callL CC) 8 [] bx=some (.ret (.bool true),bx):=by
  obtain ⟨b,h⟩:=call_awake
  exact callOp_of rfl rfl h rfl
end Go.HH
namespace Go.HH
open Go Go.Proofs
set_option maxRecDepth 100000
set_option linter.unusedVariables false
def nz {α:Type} (r:PR α):Prop:=∀ t e,r=.bad t e→e≠0
theorem ok_nz {α:Type} (a:α) (i:Nat):nz (PR.ok a i):=fun t e h=>by cases h
theorem out_nz {α:Type}:nz (PR.out:PR α):=fun t e h=>by cases h
theorem bad_nz {α:Type} {t:Nat} {e:Int} (h:e≠0):nz (PR.bad t e:PR α):=fun t' e' h'=>by
  injection h' with _ h'
  exact h' ▸ h
theorem bind_nz {α β:Type} {r:PR α} {f:α→Nat→PR β} (h:nz r) (h2:∀ a i,nz (f a i)):nz (r.bind f):=by
  cases r with
  | ok a i=>exact h2 a i
  | bad t e=>exact fun t' e' h'=>by injection h' with _ h';exact h' ▸ h t e rfl
  | out=>exact out_nz
section
variable {L:List Tk}
theorem mustP_nz {k:Nat} {w:List UInt8} {i:Nat}:nz (mustP L k w i):=by unfold mustP;split <;> first | exact ok_nz _ _ | exact bad_nz (by decide)
theorem nameP_nz {i:Nat}:nz (nameP L i):=by
  unfold nameP
  split
  · split <;> first | exact ok_nz _ _ | exact bad_nz (by decide)
  · exact bad_nz (by decide)
theorem numP_nz {lo hi i:Nat}:nz (numP L lo hi i):=by
  unfold numP
  split
  · split <;> first | exact ok_nz _ _ | exact bad_nz (by decide)
  · exact bad_nz (by decide)
theorem twoP_nz {hi i:Nat}:nz (twoP L hi i):=by
  unfold twoP
  split
  · exact bad_nz (by decide)
  · exact numP_nz
theorem pathP_nz {i:Nat}:nz (pathP L i):=bind_nz numP_nz fun _ _=>bind_nz mustP_nz fun _ _=>bind_nz nameP_nz fun _ _=>bind_nz mustP_nz fun _ _=>bind_nz nameP_nz fun _ _=>ok_nz _ _
theorem clockP_nz {i:Nat}:nz (clockP L i):=bind_nz twoP_nz fun _ _=>bind_nz mustP_nz fun _ _=>bind_nz twoP_nz fun _ _=>ok_nz _ _
theorem dayP_nz {i:Nat}:nz (dayP L i):=by unfold dayP;split <;> first | exact ok_nz _ _ | exact bad_nz (by decide)
theorem daysL_nz:∀ (n m i:Nat),nz (daysL L n m i)
  | 0,_,_=>out_nz
  | n+1,m,i=>by
    rw [daysL]
    refine bind_nz dayP_nz fun k j=>?_
    split
    · exact daysL_nz n _ _
    · exact ok_nz _ _
theorem daysP_nz {i:Nat}:nz (daysP L i):=daysL_nz _ _ _
theorem condP_nz {i:Nat}:nz (condP L i):=by
  unfold condP
  repeat' first | exact ok_nz _ _ | exact bad_nz (by decide) | exact nameP_nz | exact mustP_nz | exact clockP_nz | exact daysP_nz | (refine bind_nz ?_ fun _ _=>?_) | split
theorem pz_nz:∀ (n:Nat) (nt:NT) (o i:Nat),nz (pz L n nt o i):=by
  intro n
  induction n with
  | zero=>intro nt o i;exact out_nz
  | succ n ih=>
    intro nt o i
    cases nt <;> rw [pz] <;> repeat' first | exact ok_nz _ _ | exact bad_nz (by decide) | exact ih _ _ _ | exact numP_nz | exact mustP_nz | exact pathP_nz | exact condP_nz | (refine bind_nz ?_ fun _ _=>?_) | split
end
end Go.HH
namespace Go.HH
open Go Go.Proofs
set_option maxRecDepth 100000
set_option linter.unusedSimpArgs false
set_option linter.unusedVariables false
theorem isT_zero {L:List Tk} {i k:Nat} {w:List UInt8} (h:(tokAt L i).1=0) (hk:k≠0):isT L k w i=false:=by
  unfold isT
  rw [h,show ((0:Nat) == k)=false from beq_eq_false_iff_ne.2 (Ne.symm hk),Bool.false_and]
theorem isT_kne {L:List Tk} {i k k':Nat} {w:List UInt8} (h:(tokAt L i).1=k') (hk:k≠k'):isT L k w i=false:=by
  unfold isT
  rw [h,show (k' == k)=false from beq_eq_false_iff_ne.2 (Ne.symm hk),Bool.false_and]
theorem isT_tne {L:List Tk} {i k:Nat} {w w':List UInt8} (h:(tokAt L i).2.1=w') (hk:(w' == w)=false):isT L k w i=false:=by
  unfold isT
  rw [h,hk,Bool.and_false]
theorem isT_is {L:List Tk} {i k:Nat} {w:List UInt8} (h:(tokAt L i).1=k) (h2:(tokAt L i).2.1=w):isT L k w i=true:=by
  unfold isT
  rw [h,h2,beq_self_eq_true,beq_self_eq_true];rfl
theorem pick_none {L:List Tk} {k i:Nat}:∀ (l:List (List UInt8)) (n:Nat),(∀ w,isT L k w i=false)→pickW L k i l n=none
  | [],_,_=>rfl
  | w :: l,n,h=>by unfold pickW;rw [h w,if_neg (by decide)];exact pick_none l _ h
theorem up_sum {M:List Tk} {n o i:Nat} {e:Tr} {j:Nat} (h:pz M n .prim o i=.ok e j) (h1:isT M 4 [45] i=false) (h2:isT M 4 [42] j=false) (h3:isT M 4 [43] j=false) (h4:isT M 4 [45] j=false):pz M (n+3) .sum o i=.ok e j:=by
  have a1:pz M (n+1) .un o i=.ok e j:=by rw [pz,h1,if_neg (by decide)];exact h
  have a2:pz M (n+2) .prod o i=.ok e j:=by
    rw [pz]
    refine bind_to a1 ?_
    rw [pz,h2,if_neg (by decide)]
  rw [pz]
  refine bind_to a2 ?_
  rw [pz,h3,h4,if_neg (by decide),if_neg (by decide)]
theorem up_expr {M:List Tk} {n o i:Nat} {e:Tr} {j:Nat} (h:pz M n .cmp o i=.ok e j) (h1:(tokAt M i).1=4) (h2:(tokAt M j).1=0):pz M (n+4) .expr o i=.ok e j:=by
  have w1:∀ w,isT M 1 w i=false:=fun w=>isT_kne h1 (by decide)
  have w2:∀ w,isT M 1 w j=false:=fun w=>isT_zero h2 (by decide)
  have a1:pz M (n+1) .not o i=.ok e j:=by rw [pz,w1,if_neg (by decide)];exact h
  have a2:pz M (n+2) (.chain false) o i=.ok e j:=by
    rw [pz]
    refine bind_to a1 ?_
    rw [pz,w2,if_neg (by decide)]
    rfl
  have a3:pz M (n+3) (.chain true) o i=.ok e j:=by
    rw [pz]
    refine bind_to a2 ?_
    rw [pz,w2,if_neg (by decide)]
    rfl
  rw [pz,w1,if_neg (by decide)]
  exact a3
theorem up_paren {M:List Tk} {n o i:Nat} {e:Tr} {j:Nat} (h:pz M n .expr (o+1) (i+1)=.ok e j) (ho:o < 100) (h1:(tokAt M i).1=4) (h1':(tokAt M i).2.1=[40]) (h2:isT M 4 [41] j=true):pz M (n+1) .prim o i=.ok e (j+1):=by
  have hp:plainB M i=false:=by unfold plainB;rw [h1];rfl
  rw [pz,hp,if_neg (by decide),if_neg (by rw [h1];decide),if_neg (by rw [h1];decide),isT_tne h1' (by decide),if_neg (by decide),isT_is h1 h1',if_pos rfl,if_pos ho]
  refine bind_to h ?_
  unfold mustP
  rw [h2]
  rfl
theorem toks_open (u:List UInt8) (hu:u.length≤3900) (h0:(toks u).2.2=0):toks (40 :: u)=((4,[40],0) :: (toks u).1.map (moK 1),0,0):=by
  have h1:sk (40 :: u) 0=0:=by
    rw [sk_eq (Nat.zero_le _),if_pos (by simp)]
    rw [show atL (40 :: u) 0=40 from rfl,if_neg (by decide),if_neg (fun h=>absurd h.1 (by decide))]
  have hol:opLen (40 :: u) 0=1:=by
    unfold opLen
    rw [show atL (40 :: u) 0=40 from rfl,if_neg (fun h=>absurd h.2 (by decide)),if_pos (by decide)]
  have ho:oneL (40 :: u) 0=.inl ((4,[40],0),1):=by
    unfold oneL
    simp only
    rw [hol,show atL (40 :: u) 0=40 from rfl,if_neg (by decide),if_neg (by decide),if_neg (by decide),if_neg (by decide)]
    rfl
  have h2:=toks_suf [40] u [(4,[40],0)] (by simp;omega)
  have h3:sk (40 :: u) 1=1+sk u 0:=sk_suf [40] u u.length 0 (by omega) (by omega)
  rw [toks_eq (by simp;omega),h1,tk_eq _ (Nat.zero_le _),if_pos (by simp),if_neg (by decide),ho]
  simp only
  rw [h3,List.nil_append]
  have h4:tk (40 :: u) (1+sk u 0) [(4,[40],0)]=moR 1 [(4,[40],0)] (tk u (sk u 0) []):=h2
  rw [h4,← toks_eq (by omega)]
  unfold moR
  rw [if_pos h0]
  rfl
theorem toks_close:toks [41]=([(4,[41],0),(0,[],1)],0,0):=by kernel_rfl
theorem app_end {r r':List Tk} {x y:Tk} (h:r++[x]=r'++[y]):r=r':=(List.append_inj' h rfl).1
theorem exprA_ok {s:List UInt8} (hs:s.length≤3900) (h:(exprA s).2.2=0):∃ r,toks s=(r++[(0,[],s.length)],0,0)∧chainT r∧r.length≤s.length∧TokOK (r++[(0,[],s.length)])∧pz (r++[(0,[],s.length)]) (fuN (r++[(0,[],s.length)])) .expr 0 0=.ok (exprA s).1 r.length∧ckT (exprA s).1=0:=by
  by_cases h0:(toks s).2.2=0
  · obtain ⟨r,h1,h2,h3⟩:=toks_shape s hs h0
    have hT:=TokOK_of hs h1 h2 h3
    have hlen:(r++[(0,[],s.length)]).length=r.length+1:=by rw [List.length_append];rfl
    refine ⟨r,h1,h2,h3,hT,?_⟩
    unfold exprA at h ⊢
    rw [if_pos h0] at h ⊢
    rw [h1] at h ⊢
    simp only at h ⊢
    unfold wholeP at h ⊢
    cases hr:pz (r++[(0,[],s.length)]) (fuN (r++[(0,[],s.length)])) .expr 0 0 with
    | out=>exact absurd hr (pz_out hT _ _ _ _ hT.pos (by unfold fuN;have:rkN .expr=10:=rfl;omega))
    | bad t c=>
      rw [hr] at h
      exact absurd h (pz_nz _ _ _ _ _ _ hr)
    | ok a j=>
      rw [hr] at h
      simp only [PR.bind] at h ⊢
      by_cases hc:ckT a=0
      · rw [if_pos hc] at h ⊢
        simp only at h ⊢
        have hj:=pz_lt hT _ _ _ _ _ _ hT.pos hr
        unfold oneP at h ⊢
        by_cases hk:(tokAt (r++[(0,[],s.length)]) j).1=0
        · rw [if_pos hk]
          refine ⟨?_,hc⟩
          have:¬ j+1 < (r++[(0,[],s.length)]).length:=fun h5=>hT.inner j h5 hk
          have:j=r.length:=by omega
          rw [this]
        · rw [if_neg hk] at h
          exact absurd (show (12:Int)=0 from h) (by decide)
      · rw [if_neg hc] at h
        exact absurd h hc
  · unfold exprA at h
    rw [if_neg h0] at h
    exact absurd h h0
theorem tokAt_app {r t:List Tk} (k:Nat):tokAt (r++t) (r.length+k)=tokAt t k:=by
  unfold tokAt
  rw [List.getD_eq_getElem?_getD,List.getD_eq_getElem?_getD,List.getElem?_append_right (by omega),show r.length+k - r.length=k from by omega]
theorem tokAt_app0 {r t:List Tk} {k:Nat} (h:k < r.length):tokAt (r++t) k=tokAt r k:=by
  unfold tokAt
  rw [List.getD_eq_getElem?_getD,List.getD_eq_getElem?_getD,List.getElem?_append_left h]
theorem tokAt_mo {r:List Tk} {n k:Nat} (h:k < r.length):(tokAt (r.map (moK n)) k).1=(tokAt r k).1∧(tokAt (r.map (moK n)) k).2.1=(tokAt r k).2.1:=by
  unfold tokAt
  rw [List.getD_eq_getElem?_getD,List.getD_eq_getElem?_getD,List.getElem?_map,List.getElem?_eq_getElem h]
  exact ⟨rfl,rfl⟩
theorem tokAt_cons (x:Tk) (t:List Tk) (k:Nat):tokAt (x :: t) (k+1)=tokAt t k:=rfl
theorem edge_in {r A B:List Tk} {n m:Nat} {x y:Tk} (hx:x.1=0) (hy:y.1=4∧y.2.1=[41]):edgeL (r++[x]) (A++(r.map (moK n)++(y :: B))) A.length r.length:=fun k hk=>by
  rw [show k+A.length=A.length+k from Nat.add_comm _ _,tokAt_app]
  by_cases h:k < r.length
  · rw [tokAt_app0 h,tokAt_app0 (by rw [List.length_map];exact h)]
    obtain ⟨h1,h2⟩:=tokAt_mo (n:=n) h
    exact .inl ⟨h1.symm,h2.symm⟩
  · have:k=r.length+0:=by omega
    rw [this,tokAt_app,show r.length+0=(r.map (moK n)).length+0 from by rw [List.length_map],tokAt_app]
    exact .inr ⟨hx,hy⟩
theorem parens_toks {s:List UInt8} (hs:s.length≤100) {r:List Tk} (h:toks s=(r++[(0,[],s.length)],0,0)):toks (40 :: joinL s [41])=((4,[40],0) :: (r.map (moK 1)++[(4,[41],1+(s.length+1)),(0,[],1+(s.length+2))]),0,0):=by
  obtain ⟨_,h2⟩:=toks_join s [41] (by omega) (by simp;omega)
  obtain ⟨r',g1,g2,g3⟩:=h2 (by rw [h])
  have hr:r'=r:=by
    rw [h] at g1
    exact (app_end (Prod.mk.inj g1).1).symm
  subst hr
  rw [toks_close] at g3
  have hj:=joinL_length s [41]
  rw [toks_open _ (by rw [hj];simp;omega) (by rw [g3] <;> rfl),g3]
  unfold moR
  rw [if_pos rfl]
  simp only [List.map_append,List.map_cons,List.map_nil,moK]
  try simp
theorem parens_law {s:List UInt8} (hs:s.length≤100) (h:(exprA s).2.2=0):exprA (40 :: joinL s [41])=((exprA s).1,0,0):=by
  obtain ⟨r,h1,h2,h3,hT,h4,h5⟩:=exprA_ok (by omega) h
  have ht:=parens_toks hs h1
  generalize (exprA s).1=a at *
  have hE:=edge_in (r:=r) (A:=[(4,[40],0)]) (B:=[(0,[],1+(s.length+2))]) (n:=1) (m:=0) (x:=(0,[],s.length)) (y:=(4,[41],1+(s.length+1))) rfl ⟨rfl,rfl⟩
  have hlen:(r++[(0,[],s.length)]).length=r.length+1:=by rw [List.length_append];rfl
  have hM:((4,[40],0) :: (r.map (moK 1)++[(4,[41],1+(s.length+1)),(0,[],1+(s.length+2))])).length=r.length+3:=by simp
  have hc:tokAt ((4,[40],0) :: (r.map (moK 1)++[(4,[41],1+(s.length+1)),(0,[],1+(s.length+2))])) (r.length+1)=(4,[41],1+(s.length+1)):=by
    rw [tokAt_cons]
    have:=tokAt_app (r:=r.map (moK 1)) (t:=[(4,[41],1+(s.length+1)),(0,[],1+(s.length+2))]) 0
    rw [List.length_map] at this
    exact this
  have he:tokAt ((4,[40],0) :: (r.map (moK 1)++[(4,[41],1+(s.length+1)),(0,[],1+(s.length+2))])) (r.length+2)=(0,[],1+(s.length+2)):=by
    rw [tokAt_cons]
    have:=tokAt_app (r:=r.map (moK 1)) (t:=[(4,[41],1+(s.length+1)),(0,[],1+(s.length+2))]) 1
    rw [List.length_map] at this
    exact this
  have hf:fuN (r++[(0,[],s.length)])≤fuN ((4,[40],0) :: (r.map (moK 1)++[(4,[41],1+(s.length+1)),(0,[],1+(s.length+2))])) - 9:=by unfold fuN;rw [hlen,hM];omega
  have hf9:fuN ((4,[40],0) :: (r.map (moK 1)++[(4,[41],1+(s.length+1)),(0,[],1+(s.length+2))])) - 9+1+3+1+4=fuN ((4,[40],0) :: (r.map (moK 1)++[(4,[41],1+(s.length+1)),(0,[],1+(s.length+2))])):=by unfold fuN;rw [hM];omega
  have hE':edgeL (r++[(0,[],s.length)]) ((4,[40],0) :: (r.map (moK 1)++[(4,[41],1+(s.length+1)),(0,[],1+(s.length+2))])) 1 r.length:=hE
  have h0:tokAt ((4,[40],0) :: (r.map (moK 1)++[(4,[41],1+(s.length+1)),(0,[],1+(s.length+2))])) 0=(4,[40],0):=rfl
  clear hE
  generalize (4,[40],0) :: (r.map (moK 1)++[(4,[41],1+(s.length+1)),(0,[],1+(s.length+2))])=M at *
  have h6:=pz_mv hT (by rw [hlen,hM];omega) (d:=1) _ _ _ _ _ _ _ hf hT.pos hE' (by omega) h4
  have q1:isT M 4 [41] (r.length+1)=true:=isT_is (by rw [hc]) (by rw [hc])
  have h7:=up_paren (M:=M) (o:=0) (i:=0) h6 (by decide) (by rw [h0]) (by rw [h0]) q1
  have q2:(tokAt M (r.length+1+1)).1=0:=by rw [he]
  have q3:∀ w,isT M 4 w (r.length+1+1)=false:=fun w=>isT_zero q2 (by decide)
  have h8:=up_sum h7 (isT_tne (by rw [h0]) (by decide)) (q3 _) (q3 _) (q3 _)
  have h9:pz M (fuN M - 9+1+3+1) .cmp 0 0=.ok a (r.length+1+1):=by
    rw [pz]
    refine bind_to h8 ?_
    rw [pick_none _ _ q3]
  have h10:=up_expr h9 (by rw [h0]) q2
  rw [hf9] at h10
  unfold exprA wholeP
  rw [ht]
  simp only
  rw [if_pos trivial,h10]
  simp only [PR.bind]
  rw [if_pos h5]
  simp only
  unfold oneP
  rw [if_pos q2]
end Go.HH
namespace Go.HH
open Go Go.Proofs
set_option maxRecDepth 100000
set_option maxHeartbeats 4000000
set_option linter.unusedSimpArgs false
set_option linter.unusedVariables false
theorem ok_L29_ParseParens:fnOK CC Try.f6 (Try.f6.body.getD .skip)=true:=by kernel_rfl
theorem fat_L29_ParseParens:CC.P.funcs[6]?=some Try.f6:=by kernel_rfl
theorem exE (s:List UInt8) (hs:s.length≤3900) (bx:List PBox):callOp CC (callL CC) 14 [.str s] bx=some (.ret (.tup [.agg (exC (exprA s).1),.int .i64 ((exprA s).2.1:Int),.int .i64 (exprA s).2.2]),bx):=by
  rw [← trV_exC]
  exact op_parse_Expr s hs bx
theorem sh_zT:shT zT:=by unfold zT;exact sh_leaf (by simp) (by simp [zV]) (by simp [zK]) (by simp [zK])
theorem exA_sh {s:List UInt8} (hs:s.length≤3900):shT (exprA s).1:=by
  unfold exprA
  by_cases h0:(toks s).2.2=0
  · rw [if_pos h0]
    have hT:=toks_TokOK s hs h0
    unfold wholeP
    cases hr:pz (toks s).1 (fuN (toks s).1) .expr 0 0 with
    | out=>exact sh_zT
    | bad t c=>exact sh_zT
    | ok a i=>
      simp only [PR.bind]
      split
      · rename_i a' i' h
        have:a'=a:=by
          split at h
          · rename_i a2 i2 h2
            split at h2
            · split at h
              · injection h with h _
                injection h2 with h2 _
                rw [← h,← h2]
              · cases h
              · cases h
            · cases h2
          · cases h
          · cases h
        rw [this]
        exact sh_pz hT _ .expr _ _ a _ trivial hr
      · exact sh_zT
      · exact sh_zT
  · rw [if_neg h0]
    exact sh_zT
theorem smE (t:Tr) (h:shT t) (bx):callOp CC (callL CC) 15 [.agg (exC t),.agg (exC t)] bx=some (.ret (.bool true),bx):=by rw [← trV_exC];exact op_Same_refl t h bx
theorem law_ParseParens (s:List UInt8) (_:s.length≤maxLen):∃ bx,callL CC 6 [.str s] []=some (.ret (.bool true),bx):=by
  have haw:=op_awake
  rw [callL_enter (fn:=Try.f6) (c:=Try.f6.body.getD .skip) rfl rfl fat_L29_ParseParens rfl ok_L29_ParseParens (Nat.le_of_ble_eq_true rfl)]
  have hlen:=len_str s
  by_cases c1:100 < s.length
  · have c1':(s.length:Int) > 100:=by omega
    obtain ⟨ev,eo,so,co,⟨hev,hco⟩,R⟩:=RULES CC;rw [← hev]
    rw [← hco] at haw
    simp only [fpart,part',Try.f6,Option.getD]
    simp only [S9,R,seval,ZC,nchP,List.set_cons_zero,List.set_cons_succ,hlen,c1',haw]
    exact ⟨_,rfl⟩
  · have c1':¬ (s.length:Int) > 100:=by omega
    have x1:=exE s (by omega)
    have hsh:=exA_sh (s:=s) (by omega)
    by_cases c2:(exprA s).2.2=0
    · have hp:=parens_law (s:=s) (by omega) c2
      have x2:=exE (40 :: (s++[10,41])) (by simp;omega)
      rw [show (40 :: (s++[10,41]):List UInt8)=40 :: joinL s [41] from rfl,hp] at x2
      rw [show (40 :: joinL s [41]:List UInt8)=40 :: (s++[10,41]) from rfl] at x2
      rw [c2] at x1
      clear hp
      have sm:=smE _ hsh
      clear hsh
      generalize (exprA s).1=a at *
      generalize (exprA s).2.1=n at *
      simp only at x2
      have n0:((0:Nat):Int)=0:=rfl
      have m1:1+s.length≤maxStr:=by unfold maxStr;omega
      have m2:s.length+1+2≤maxStr:=by unfold maxStr;omega
      rw [n0] at x2
      obtain ⟨ev,eo,so,co,⟨hev,hco⟩,R⟩:=RULES CC;rw [← hev]
      rw [← hco] at haw x1 x2 sm
      simp only [fpart,part',Try.f6,Option.getD]
      simp only [S9,R,seval,ZC,nchP,List.set_cons_zero,List.set_cons_succ,SX,hlen,c1',haw,x1,x2,sm,PV.pure,pureL,strP,m1,m2]
      exact ⟨_,rfl⟩
    · have c2':((exprA s).2.2 != 0)=true:=bne_iff_ne.2 c2
      generalize (exprA s).1=a at *
      generalize (exprA s).2.1=n at *
      generalize (exprA s).2.2=er at *
      obtain ⟨ev,eo,so,co,⟨hev,hco⟩,R⟩:=RULES CC;rw [← hev]
      rw [← hco] at haw x1
      simp only [fpart,part',Try.f6,Option.getD]
      simp only [S9,R,seval,ZC,nchP,List.set_cons_zero,List.set_cons_succ,SX,hlen,c1',haw,x1,c2']
      exact ⟨_,rfl⟩
end Go.HH
namespace Go.Proofs
open Go.Shelf
def Try.lays169_ren:Go.Shelf.Ren:=⟨fun | 169=>90 | n=>n,fun | 70=>115 | 9=>9 | 0=>0 | 72=>118 | 37=>116 | 127=>127 | 3=>3 | 5=>5 | n=>n,fun | n=>n⟩
theorem Try.lays169:Go.Proofs.Lays.n169 Try.prog Try.lays169_ren:={
  mixed:=by kernel_rfl
  f169:=Try.func90.trans (congrArg some (by kernel_rfl))
  t0:=Try.underlying0
  a0:=Try.isAgg0
  z0:=Try.sizeOf0
  v0:=Try.zeroValue0
  t3:=Try.underlying3
  a3:=Try.isAgg3
  z3:=Try.sizeOf3
  v3:=Try.zeroValue3
  t9:=Try.underlying9
  a9:=Try.isAgg9
  z9:=Try.sizeOf9
  v9:=Try.zeroValue9
  t37:=Try.underlying116
  a37:=Try.isAgg116
  z37:=Try.sizeOf116
  v37:=Try.zeroValue116
  t70:=Try.underlying115
  a70:=Try.isAgg115
  z70:=Try.sizeOf115
  v70:=Try.zeroValue115
  t72:=Try.underlying118
  a72:=Try.isAgg118
  z72:=Try.sizeOf118
  v72:=Try.zeroValue118
  t127:=Try.underlying127
  a127:=Try.isAgg127
  z127:=Try.sizeOf127
  v127:=Try.zeroValue127 }
theorem Try.Builder_Extra_169:Builder.Extra Try.prog Try.lays169_ren:={
  sizeBuilder:=by kernel_rfl
  liesBuilder:=by kernel_rfl
  t5:=Try.underlying5
  a5:=Try.isAgg5
  z5:=Try.sizeOf5
  v5:=Try.zeroValue5
  infoByte:=by kernel_rfl
  cellsByte:=by kernel_rfl
  sizeByte:=by kernel_rfl
  neB5:=by decide }
def Try.lays137_ren:Go.Shelf.Ren:=⟨fun | 137=>83 | 217=>86 | 266=>91 | n=>n,fun | 9=>9 | 5=>5 | 3=>3 | n=>n,fun | n=>n⟩
theorem Try.lays137:Go.Proofs.Lays.n137 Try.prog Try.lays137_ren:={
  mixed:=by kernel_rfl
  f137:=Try.func83.trans (congrArg some (by kernel_rfl))
  f217:=Try.func86.trans (congrArg some (by kernel_rfl))
  f266:=Try.func91.trans (congrArg some (by kernel_rfl))
  t3:=Try.underlying3
  a3:=Try.isAgg3
  z3:=Try.sizeOf3
  v3:=Try.zeroValue3
  t5:=Try.underlying5
  a5:=Try.isAgg5
  z5:=Try.sizeOf5
  v5:=Try.zeroValue5
  t9:=Try.underlying9
  a9:=Try.isAgg9
  z9:=Try.sizeOf9
  v9:=Try.zeroValue9 }
open Go.RowKit in
theorem Try.strings_IndexByte (s:ByteArray) (c:Int) (w:World) :
    Calls Try.prog 83 #[.string s,.int .u8 c] w fun e w'=>e=.returned (.int .i64 (Lib.indexByte s.data.toList c.toNat.toUInt8))∧w'=w:=Any.strings_IndexByte Try.lays137 s c w
end Go.Proofs
namespace Go.HH
open Go Go.Proofs Go.RowKit
set_option maxRecDepth 100000
def PrimOK (f:FuncId) (g:List PV→Option PV):Prop:=HasBody CC.P f∧∀ (args:List PV) (r:PV),g args=some r→(∀ t xs,r≠.osl t xs) ∧
    ∀ (S:Store) (vs:List Value) (w:World),(∀ b o v,S b o=some v→w.cell? ⟨b,o,none⟩=some v) →
      (∀ g cs,CC.glob g=some cs→Rep S [] (.ip cs) (.pointer (some ⟨g,0,none⟩)))→(∀ g cs,CC.glob g=some cs→∃ c e f,w.heap[g]?=some (.cells c e f)∧c.size=cs.length)→RepL S [] args vs →
      Calls CC.P f vs.toArray w fun e w'=>∃ S',Kept S w S' w'∧∃ v,e=.returned v∧Rep S' [] r v
theorem kept_same {S:Store} {w:World} (hS:∀ b o v,S b o=some v→w.cell? ⟨b,o,none⟩=some v):Kept S w S w:=⟨rfl,rfl,rfl,Nat.le_refl _,fun _ _=>rfl,Store.le.refl _,fun _ _ _=>rfl,hS⟩
theorem repL_two {S:Store} {p q:PV} {vs:List Value} (h:RepL S [] [p,q] vs):∃ v u,vs=[v,u]∧Rep S [] p v∧Rep S [] q u:=by
  match vs,h with
  | [v,u],h=>exact ⟨v,u,rfl,h.2 0 (by simp) (by simp),h.2 1 (by simp) (by simp)⟩
  | [],h=>have:=h.1;cases this
  | [_],h=>have:=h.1;simp at this
  | _ :: _ :: _ :: _,h=>have:=h.1;simp at this
theorem ixbP_inv {args:List PV} {r:PV} (h:ixbP args=some r):∃ s c,args=[.str s,.int .u8 c]∧r=.int .i64 (Lib.indexByte s c.toNat.toUInt8):=by
  unfold ixbP at h
  split at h
  · injection h with h
    exact ⟨_,_,rfl,h.symm⟩
  · cases h
theorem prim_IndexByte:PrimOK 83 ixbP:=by
  refine ⟨⟨Try.f83,_,Try.func83,by kernel_rfl,rfl⟩,fun args r hr=>?_⟩
  obtain ⟨s,c,rfl,rfl⟩:=ixbP_inv hr
  refine ⟨fun t xs h=>(by cases h),fun S vs w hS hgl hgw hrep=>?_⟩
  obtain ⟨v,u,rfl,h0,h1⟩:=repL_two hrep
  cases h0 with
  | str=>
    cases h1 with
    | int=>
      refine (Try.strings_IndexByte ⟨s.toArray⟩ c w).mono ?_
      rintro e w' ⟨rfl,rfl⟩
      exact ⟨S,kept_same hS,_,rfl,.int _ _⟩
theorem primSound:PrimSound CC:=by
  intro f g hg
  show PrimOK f g
  have hg':primCC f=some g:=hg
  unfold primCC at hg'
  split at hg'
  · rename_i h
    subst h
    injection hg' with hg'
    subst hg'
    exact prim_IndexByte
  cases hg'
end Go.HH
