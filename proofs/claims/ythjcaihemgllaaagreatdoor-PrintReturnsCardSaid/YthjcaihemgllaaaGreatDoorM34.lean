/-
  What the law needs, packed: Q4.
-/
import Derived.Test.YthjcaihemgllaaaGreatDoorM33
namespace Go.HH
open Go Go.Proofs
set_option maxRecDepth 100000
set_option linter.unusedSimpArgs false
set_option linter.unusedVariables false
theorem ok_lex_at:fnOK CC Tryz.f90 (Tryz.f90.body.getD .skip)=true:=by kernel_rfl
theorem fat_lex_at:CC.P.funcs[90]?=some Tryz.f90:=by kernel_rfl
theorem ok_lex_run:fnOK CC Tryz.f92 (Tryz.f92.body.getD .skip)=true:=by kernel_rfl
theorem fat_lex_run:CC.P.funcs[92]?=some Tryz.f92:=by kernel_rfl
theorem ok_lex_skip:fnOK CC Tryz.f45 (Tryz.f45.body.getD .skip)=true:=by kernel_rfl
theorem fat_lex_skip:CC.P.funcs[45]?=some Tryz.f45:=by kernel_rfl
theorem ok_lex_number:fnOK CC Tryz.f96 (Tryz.f96.body.getD .skip)=true:=by kernel_rfl
theorem fat_lex_number:CC.P.funcs[96]?=some Tryz.f96:=by kernel_rfl
theorem opd_func (C:Cfg) (e:List PV) (f:FuncId):opd C e (.func f)=.fn f [] []:=rfl
noncomputable def chkB (f:FuncId) (g:Nat->Bool) (n:Nat):Bool:=match callF CC 50 f [.int .i32 n] [] with
 | some (.ret (.bool b),[])=>b == g n
 | _=>false
theorem of_chkB {f:FuncId} {g:Nat->Bool} (h:(List.range 256).all (chkB f g)=true) (n:Nat) (hn:n < 256) (bx) (hh:CC.heap f=false:=by rfl):callOp CC (callL CC) f [.int .i32 (n:Int)] bx=some (.ret (.bool (g n)),bx):=by
 have:=List.all_eq_true.1 h n (List.mem_range.2 hn)
 unfold chkB at this
 split at this
 · rename_i b hs
   have e:b=g n:=by simpa using this
   subst e
   exact callOp_of hh (by simp only [SA,Bool.and_true]) (callL_iff.2 ⟨50,hs⟩) rfl
 · cases this
def dg (n:Nat):Bool:=decide (48<=n) && decide (n<=57)
def sm (n:Nat):Bool:=decide (97<=n) && decide (n<=122)
def pt (n:Nat):Bool:=sm n || dg n || n == 95 || n == 45
def nl (n:Nat):Bool:=n != 10
theorem all_dg:(List.range 256).all (chkB 91 dg)=true:=by kernel_rfl
theorem all_sm:(List.range 256).all (chkB 94 sm)=true:=by kernel_rfl
theorem all_pt:(List.range 256).all (chkB 95 pt)=true:=by kernel_rfl
theorem all_nl:(List.range 256).all (chkB 93 nl)=true:=by kernel_rfl
theorem op_lex_digit (n:Nat) (hn:n < 256) (bx):callOp CC (callL CC) 91 [.int .i32 (n:Int)] bx=some (.ret (.bool (dg n)),bx):=of_chkB all_dg n hn bx
theorem op_lex_small (n:Nat) (hn:n < 256) (bx):callOp CC (callL CC) 94 [.int .i32 (n:Int)] bx=some (.ret (.bool (sm n)),bx):=of_chkB all_sm n hn bx
theorem call_lex_at (s:List UInt8) (i:Nat):callL CC 90 [.str s,.int .i64 (i:Int)] []=some (.ret (.int .i32 (atL s i:Int)),[]):=by
 rw [callL_enter (fn:=Tryz.f90) (c:=Tryz.f90.body.getD .skip) rfl rfl fat_lex_at rfl ok_lex_at (Nat.le_of_ble_eq_true rfl)]
 have hlen:=len_str s
 by_cases c1:(i:Int) ≥ (s.length:Int)
 · have e:atL s i=0:=by unfold atL;rw [List.getElem?_eq_none (by omega)]
   rw [e]
   obtain ⟨ev,eo,so,co,⟨hev,hco⟩,R⟩:=RULES CC;rw [<- hev]
   simp only [fpart,part',Tryz.f90,Option.getD]
   simp only [S7,R,seval,TG,hlen,c1]
   try rfl
 · have hx:s[i]?=some (s[i]'(by omega)):=by simp
   have e:=atL_get hx
   have hix:=ix_str s i _ hx
   have h256:=UInt8.toNat_lt (s[i]'(by omega))
   have hcv:=conv_u8_r ((s[i]'(by omega)).toNat:Int) ⟨by omega,by omega⟩
   rw [e]
   generalize s[i]'(by omega)=c at *
   obtain ⟨ev,eo,so,co,⟨hev,hco⟩,R⟩:=RULES CC;rw [<- hev]
   simp only [fpart,part',Tryz.f90,Option.getD]
   simp only [S7,R,seval,TG,hlen,c1,hix,hcv]
theorem op_lex_at (s:List UInt8) (i:Nat) (bx):callOp CC (callL CC) 90 [.str s,.int .i64 (i:Int)] bx=some (.ret (.int .i32 (atL s i:Int)),bx):=callOp_of rfl (by simp only [SA,Bool.and_true]) (call_lex_at s i) rfl
def runL (p:Nat->Bool) (s:List UInt8) (i:Nat):Nat:=i+((s.drop i).takeWhile fun c=>p c.toNat).length
theorem runL_step {p:Nat->Bool} {s:List UInt8} {i:Nat} {c:UInt8} (h:s[i]?=some c):runL p s i=if p c.toNat then runL p s (i+1) else i:=by
 have hi:i < s.length:=(List.getElem?_eq_some_iff.1 h).1
 have hc:s[i]=c:=(List.getElem?_eq_some_iff.1 h).2
 unfold runL
 rw [List.drop_eq_getElem_cons hi,List.takeWhile_cons,hc]
 split
 · rw [List.length_cons];omega
 · simp
theorem runL_end {p:Nat->Bool} {s:List UInt8} {i:Nat} (h:s.length<=i):runL p s i=i:=by
 unfold runL
 rw [List.drop_eq_nil_of_le h]
 rfl
theorem runL_le {p:Nat->Bool} {s:List UInt8} {i:Nat} (h:i<=s.length):i<=runL p s i∧runL p s i<=s.length:=by
 unfold runL
 have:((s.drop i).takeWhile fun c=>p c.toNat).length<=(s.drop i).length:=List.Sublist.length_le (List.takeWhile_sublist _)
 rw [List.length_drop] at this
 omega
theorem loop_lex_run (L:Code) (hL:L=fpart Tryz.f92 [1,0,0]) (s:List UInt8) (hs:s.length<=900000) (f:FuncId) (p:Nat->Bool) (hf:∀ (n:Nat),n < 256->∀ bx,callOp CC (callL CC) f [.int .i32 (n:Int)] bx=some (.ret (.bool (p n)),bx)):∀ (k i:Nat) (e:List PV),i+k=s.length->getT e 0=.str s->getT e 1=.int .i64 i->getT e 2=.fn f [] [] ->
 ∃ e',evL CC L ⟨e,[]⟩=some (.exit 0,⟨e',[]⟩)∧getT e' 1=.int .i64 (runL p s i:Nat):=by
 intro k
 induction k with
 | zero=>
  intro i e hk h0 h1 h2
  rw [evL_at (fpart Tryz.f92 [1,0,0,0]) hL]
  have hi:¬ (i:Int) < (s.length:Int):=by omega
  have hlen:=len_str s
  have hr:=runL_end (p:=p) (s:=s) (i:=i) (by omega)
  obtain ⟨ev,eo,so,co,⟨hev,hco⟩,R⟩:=RULES CC;rw [<- hev]
  simp only [fpart,part',Tryz.f92,Option.getD]
  simp only [S8,R,seval,h0,h1,h2,hlen,hi]
  exact ⟨_,rfl,by simp only [S7,R,seval,h1,hr]⟩
 | succ k ih=>
  intro i e hk h0 h1 h2
  rw [evL_at (fpart Tryz.f92 [1,0,0,0]) hL]
  have hi:(i:Int) < (s.length:Int):=by omega
  have hlen:=len_str s
  have hx:s[i]?=some (s[i]'(by omega)):=by simp
  have hix:=ix_str s i _ hx
  have hst:=runL_step (p:=p) hx
  have h256:=UInt8.toNat_lt (s[i]'(by omega))
  have hcv:=conv_u8_r ((s[i]'(by omega)).toNat:Int) ⟨by omega,by omega⟩
  have hfo:=hf (s[i]'(by omega)).toNat h256
  have hw:=wrap_i64 (n:=(i:Int)+1) ⟨by omega,by omega⟩
  generalize s[i]'(by omega)=c at *
  rw [hst]
  obtain ⟨ev,eo,so,co,⟨hev,hco⟩,R⟩:=RULES CC;rw [<- hev]
  rw [<- hev] at ih
  rw [<- hco] at hfo
  simp only [fpart,part',Tryz.f92,Option.getD]
  cases hp:p c.toNat with
  | false=>
   rw [hp] at hfo
   simp only [S8,R,seval,dynR,h0,h1,h2,hlen,hi,hix,hcv,hfo]
   exact ⟨_,rfl,by simp only [S7,R,seval,h1]⟩
  | true=>
   rw [hp] at hfo
   simp only [S8,R,seval,dynR,h0,h1,h2,hlen,hi,hix,hcv,hfo,hw]
   exact ih (i+1) _ (by omega) (by simp only [S7,R,seval,h0]) (by simp only [S7,R,seval] <;> rfl) (by simp only [S7,R,seval,h2])
theorem call_lex_run (s:List UInt8) (hs:s.length<=900000) (f:FuncId) (p:Nat->Bool) (hf:∀ (n:Nat),n < 256->∀ bx,callOp CC (callL CC) f [.int .i32 (n:Int)] bx=some (.ret (.bool (p n)),bx)) (i:Nat) (hi:i<=s.length) :
 callL CC 92 [.str s,.int .i64 (i:Int),.fn f [] []] []=some (.ret (.int .i64 (runL p s i:Nat)),[]):=by
 rw [callL_enter (fn:=Tryz.f92) (c:=Tryz.f92.body.getD .skip) rfl rfl fat_lex_run rfl ok_lex_run (Nat.le_of_ble_eq_true rfl)]
 have hloop:=loop_lex_run _ rfl s hs f p hf (s.length - i) i
 obtain ⟨ev,eo,so,co,⟨hev,hco⟩,R⟩:=RULES CC;rw [<- hev]
 rw [<- hev] at hloop
 simp only [fpart,part',Tryz.f92,Option.getD] at hloop ⊢
 simp only [S8,R,seval]
 generalize hE:ev _ _=r
 obtain ⟨e',he,g1⟩:=useLoop' hE (hloop _ (by omega) (by simp only [S7,R,seval]) (by simp only [S7,R,seval]) (by simp only [S7,R,seval]))
 subst he
 simp only [S8,R,seval,g1]
theorem op_lex_run_part (s:List UInt8) (hs:s.length<=900000) (i:Nat) (hi:i<=s.length) (bx):callOp CC (callL CC) 92 [.str s,.int .i64 (i:Int),.fn 95 [] []] bx=some (.ret (.int .i64 (runL pt s i:Nat)),bx):=
 callOp_of rfl (by simp only [SA,SE,Bool.and_true]) (call_lex_run s hs _ pt (of_chkB all_pt) i hi) rfl
theorem op_lex_run_digit (s:List UInt8) (hs:s.length<=900000) (i:Nat) (hi:i<=s.length) (bx):callOp CC (callL CC) 92 [.str s,.int .i64 (i:Int),.fn 91 [] []] bx=some (.ret (.int .i64 (runL dg s i:Nat)),bx):=
 callOp_of rfl (by simp only [SA,SE,Bool.and_true]) (call_lex_run s hs _ dg (of_chkB all_dg) i hi) rfl
theorem op_lex_run_nl (s:List UInt8) (hs:s.length<=900000) (i:Nat) (hi:i<=s.length) (bx):callOp CC (callL CC) 92 [.str s,.int .i64 (i:Int),.fn 93 [] []] bx=some (.ret (.int .i64 (runL nl s i:Nat)),bx):=
 callOp_of rfl (by simp only [SA,SE,Bool.and_true]) (call_lex_run s hs _ nl (of_chkB all_nl) i hi) rfl
def skipL:Nat->List UInt8->Nat->Nat
 | 0,_,i=>i
 | m+1,s,i=>if i < s.length then
  (if atL s i=32∨atL s i=9∨atL s i=10 then skipL m s (i+1)
   else if atL s i=35∧dg (atL s (i+1))=false then skipL m s (runL nl s i) else i) else i
def PSk (v:Nat) (r:Option (Ex×St)):Prop:=∃ e',(r=some (.exit 0,⟨e',[]⟩)∧getT e' 1=.int .i64 (v:Int))∨(r=some (.ret,⟨e',[]⟩)∧getT e' 4=.int .i64 (v:Int))
theorem loop_lex_skip (L:Code) (hL:L=fpart Tryz.f45 [1,0,0]) (s:List UInt8) (hs:s.length<=900000):∀ (m i:Nat) (e:List PV),s.length - i < m->i<=s.length->getT e 0=.str s->getT e 1=.int .i64 i ->
 PSk (skipL m s i) (evL CC L ⟨e,[]⟩):=by
 intro m
 induction m with
 | zero=>intro i e hm;omega
 | succ m ih=>
  intro i e hm hi h0 h1
  rw [evL_at (fpart Tryz.f45 [1,0,0,0]) hL]
  have hlen:=len_str s
  have hsk:skipL (m+1) s i=if i < s.length then
   (if atL s i=32∨atL s i=9∨atL s i=10 then skipL m s (i+1)
    else if atL s i=35∧dg (atL s (i+1))=false then skipL m s (runL nl s i) else i) else i:=rfl
  rw [hsk]
  have hat:=op_lex_at s i
  have hat1:=op_lex_at s (i+1)
  have hdg:=op_lex_digit (atL s (i+1)) (atL_lt s (i+1))
  have hrun:=op_lex_run_nl s hs i hi
  have hw:=wrap_i64 (n:=(i:Int)+1) ⟨by omega,by omega⟩
  have h32:(((atL s i:Nat):Int) == 32)=decide (atL s i=32):=by rw [Bool.eq_iff_iff];simp;omega
  have h9:(((atL s i:Nat):Int) == 9)=decide (atL s i=9):=by rw [Bool.eq_iff_iff];simp;omega
  have h10:(((atL s i:Nat):Int) == 10)=decide (atL s i=10):=by rw [Bool.eq_iff_iff];simp;omega
  have h35:(((atL s i:Nat):Int) == 35)=decide (atL s i=35):=by rw [Bool.eq_iff_iff];simp;omega
  have hrl:atL s i=35->i < s.length->i < runL nl s i∧runL nl s i<=s.length:=fun h hl=>by
   have hx:s[i]?=some s[i]:=by simp
   have h2:=runL_step (p:=nl) hx
   rw [atL_get hx] at h
   rw [h] at h2
   have h3:nl 35=true:=rfl
   rw [h3,if_pos rfl] at h2
   have:=runL_le (p:=nl) (s:=s) (i:=i+1) (by omega)
   omega
  have key1:=fun e=>ih (i+1) e
  have key2:=fun e=>ih (runL nl s i) e
  by_cases hlt:i < s.length
  · have hil:(i:Int) < (s.length:Int):=by omega
    rw [if_pos hlt]
    have k1:=fun e=>key1 e (by omega) (by omega)
    have cast1:((i+1:Nat):Int)=(i:Int)+1:=by omega
    rw [cast1] at hat1
    by_cases c1:atL s i=32∨atL s i=9∨atL s i=10
    · rw [if_pos c1]
      obtain ⟨ev,eo,so,co,⟨hev,hco⟩,R⟩:=RULES CC;rw [<- hev]
      rw [<- hev] at k1
      rw [<- hco] at hat
      simp only [fpart,part',Tryz.f45,Option.getD]
      by_cases d1:atL s i=32
      · rw [decide_eq_true d1] at h32
        simp only [S8,R,seval,h0,h1,hlen,hil,hat,h32,hw]
        exact k1 _ (by simp only [S7,R,seval,h0]) (by simp only [S7,R,seval] <;> rfl)
      · by_cases d2:atL s i=9
        · rw [decide_eq_false d1] at h32
          rw [decide_eq_true d2] at h9
          simp only [S8,R,seval,h0,h1,hlen,hil,hat,h32,h9,hw]
          exact k1 _ (by simp only [S7,R,seval,h0]) (by simp only [S7,R,seval] <;> rfl)
        · have d3:atL s i=10:=by omega
          rw [decide_eq_false d1] at h32
          rw [decide_eq_false d2] at h9
          rw [decide_eq_true d3] at h10
          simp only [S8,R,seval,h0,h1,hlen,hil,hat,h32,h9,h10,hw]
          exact k1 _ (by simp only [S7,R,seval,h0]) (by simp only [S7,R,seval] <;> rfl)
    · rw [if_neg c1]
      have d1:¬ atL s i=32:=by omega
      have d2:¬ atL s i=9:=by omega
      have d3:¬ atL s i=10:=by omega
      rw [decide_eq_false d1] at h32
      rw [decide_eq_false d2] at h9
      rw [decide_eq_false d3] at h10
      by_cases c2:atL s i=35
      · rw [decide_eq_true c2] at h35
        have hr:=hrl c2 hlt
        have k2:=fun e=>key2 e (by omega) (by omega)
        cases hd:dg (atL s (i+1)) with
        | true=>
         rw [hd] at hdg
         rw [if_neg (fun h=>by cases h.2)]
         obtain ⟨ev,eo,so,co,⟨hev,hco⟩,R⟩:=RULES CC;rw [<- hev]
         rw [<- hco] at hat hat1 hdg
         simp only [fpart,part',Tryz.f45,Option.getD]
         simp only [S8,R,seval,unP,h0,h1,hlen,hil,hat,h32,h9,h10,h35,hw,hat1,hdg]
         exact ⟨_,.inr ⟨rfl,by simp only [S7,R,seval,h1]⟩⟩
        | false=>
         rw [hd] at hdg
         rw [if_pos ⟨c2,rfl⟩]
         generalize runL nl s i=rr at *
         obtain ⟨ev,eo,so,co,⟨hev,hco⟩,R⟩:=RULES CC;rw [<- hev]
         rw [<- hev] at k2
         rw [<- hco] at hat hat1 hdg hrun
         simp only [fpart,part',Tryz.f45,Option.getD]
         simp only [S8,R,seval,unP,h0,h1,hlen,hil,hat,h32,h9,h10,h35,hw,hat1,hdg,hrun,opd_func]
         exact k2 _ (by simp only [S7,R,seval,h0]) (by simp only [S7,R,seval])
      · rw [if_neg (fun h=>c2 h.1)]
        rw [decide_eq_false c2] at h35
        obtain ⟨ev,eo,so,co,⟨hev,hco⟩,R⟩:=RULES CC;rw [<- hev]
        rw [<- hco] at hat
        simp only [fpart,part',Tryz.f45,Option.getD]
        simp only [S8,R,seval,h0,h1,hlen,hil,hat,h32,h9,h10,h35]
        exact ⟨_,.inr ⟨rfl,by simp only [S7,R,seval,h1]⟩⟩
  · have hil:¬ (i:Int) < (s.length:Int):=by omega
    rw [if_neg hlt]
    obtain ⟨ev,eo,so,co,⟨hev,hco⟩,R⟩:=RULES CC;rw [<- hev]
    simp only [fpart,part',Tryz.f45,Option.getD]
    simp only [S8,R,seval,h0,h1,hlen,hil]
    exact ⟨_,.inl ⟨rfl,by simp only [S7,R,seval,h1]⟩⟩
theorem call_lex_skip (s:List UInt8) (hs:s.length<=900000) (i:Nat) (hi:i<=s.length):callL CC 45 [.str s,.int .i64 (i:Int)] []=some (.ret (.int .i64 (skipL (s.length+1) s i:Nat)),[]):=by
 rw [callL_enter (fn:=Tryz.f45) (c:=Tryz.f45.body.getD .skip) rfl rfl fat_lex_skip rfl ok_lex_skip (Nat.le_of_ble_eq_true rfl)]
 have hloop:=loop_lex_skip _ rfl s hs (s.length+1) i
 obtain ⟨ev,eo,so,co,⟨hev,hco⟩,R⟩:=RULES CC;rw [<- hev]
 rw [<- hev] at hloop
 simp only [fpart,part',Tryz.f45,Option.getD] at hloop ⊢
 simp only [S8,R,seval]
 generalize hE:ev _ _=r
 have hP:PSk (skipL (s.length+1) s i) r:=by
  rw [<- hE]
  exact hloop _ (by omega) hi (by simp only [S7,R,seval]) (by simp only [S7,R,seval])
 obtain ⟨e',⟨he,g1⟩ | ⟨he,g4⟩⟩:=hP
 · subst he
   simp only [S8,R,seval,g1]
 · subst he
   simp only [S8,R,seval,g4]
theorem op_lex_skip (s:List UInt8) (hs:s.length<=900000) (i:Nat) (hi:i<=s.length) (bx):callOp CC (callL CC) 45 [.str s,.int .i64 (i:Int)] bx=some (.ret (.int .i64 (skipL (s.length+1) s i:Nat)),bx):=callOp_of rfl (by simp only [SA,Bool.and_true]) (call_lex_skip s hs i hi) rfl
theorem ok_lex_quoted:fnOK CC Tryz.f97 (Tryz.f97.body.getD .skip)=true:=by kernel_rfl
theorem fat_lex_quoted:CC.P.funcs[97]?=some Tryz.f97:=by kernel_rfl
theorem ok_lex_operator:fnOK CC Tryz.f98 (Tryz.f98.body.getD .skip)=true:=by kernel_rfl
theorem fat_lex_operator:CC.P.funcs[98]?=some Tryz.f98:=by kernel_rfl
theorem runL_all {p:Nat->Bool} {s:List UInt8}:∀ (m i:Nat),s.length - i<=m->∀ k,i<=k->k < runL p s i->∃ c,s[k]?=some c∧p c.toNat=true:=by
 intro m
 induction m with
 | zero=>
  intro i hm k h1 h2
  rw [runL_end (by omega)] at h2
  omega
 | succ m ih=>
  intro i hm k h1 h2
  by_cases hi:i < s.length
  · have hx:s[i]?=some s[i]:=by simp
    rw [runL_step hx] at h2
    split at h2
    · rename_i hp
      rcases Nat.eq_or_lt_of_le h1 with e | e
      · subst e;exact ⟨_,hx,hp⟩
      · exact ih (i+1) (by omega) k (by omega) h2
    · omega
  · rw [runL_end (by omega)] at h2
    omega
def numR:List UInt8->Nat->Option Nat
 | [],n=>some n
 | c :: r,n=>if 10 * n+(c.toNat - 48) > 1099511627776 then none else numR r (10 * n+(c.toNat - 48))
def PNum (i e0:Nat) (o:Option Nat) (r:Option (Ex×St)):Prop:=match o with
 | some _=>∃ e,r=some (.exit 0,⟨e,[]⟩)∧getT e 6=.int .i64 (e0:Int)
 | none=>∃ e,r=some (.ret,⟨e,[]⟩)∧getT e 4=.int .i64 (i:Int)∧getT e 5=.int .i64 2
theorem loop_lex_number (L:Code) (hL:L=fpart Tryz.f96 [1,1,1,0,1,0]) (s:List UInt8) (hs:s.length<=900000) (i e0:Nat) (he0:e0<=s.length) (hall:∀ k,i<=k->k < e0->∃ c,s[k]?=some c∧dg c.toNat=true):∀ (j k n:Nat) (e:List PV),k+j=e0->i<=k->n<=1099511627776->getT e 0=.str s->getT e 1=.int .i64 i->getT e 6=.int .i64 e0->getT e 7=.int .i64 n->getT e 8=.int .i64 k ->
 PNum i e0 (numR ((s.drop k).take j) n) (evL CC L ⟨e,[]⟩):=by
 intro j
 induction j with
 | zero=>
  intro k n e hk hik hn h0 h1 h6 h7 h8
  rw [evL_at (fpart Tryz.f96 [1,1,1,0,1,0,0]) hL]
  have hi:¬ (k:Int) < (e0:Int):=by omega
  obtain ⟨ev,eo,so,co,⟨hev,hco⟩,R⟩:=RULES CC;rw [<- hev]
  rw [List.take_zero]
  simp only [fpart,part',Tryz.f96,Option.getD]
  simp only [S7,R,seval,TG,h6,h8,hi]
  exact ⟨_,rfl,by simp only [S7,R,seval,h6]⟩
 | succ j ih=>
  intro k n e hk hik hn h0 h1 h6 h7 h8
  rw [evL_at (fpart Tryz.f96 [1,1,1,0,1,0,0]) hL]
  have hi:(k:Int) < (e0:Int):=by omega
  obtain ⟨c,hx,hd⟩:=hall k hik (by omega)
  have hkl:k < s.length:=(List.getElem?_eq_some_iff.1 hx).1
  have hck:s[k]=c:=(List.getElem?_eq_some_iff.1 hx).2
  have hdr:(s.drop k).take (j+1)=c :: (s.drop (k+1)).take j:=by rw [List.drop_eq_getElem_cons hkl,List.take_succ_cons,hck]
  have hix:=ix_str s k c hx
  unfold dg at hd
  simp only [Bool.and_eq_true,decide_eq_true_eq] at hd
  have w2:IntKind.wrap .u8 ((c.toNat:Int) - 48)=(c.toNat:Int) - 48:=by simp [IntKind.wrap,IntKind.bits,IntKind.signed];omega
  have w3:=conv_u8_i ((c.toNat:Int) - 48) ⟨by omega,by omega⟩
  have w1:=wrap_i64 (n:=10 * (n:Int)) ⟨by omega,by omega⟩
  have w4:=wrap_i64 (n:=10 * (n:Int)+((c.toNat:Int) - 48)) ⟨by omega,by omega⟩
  have hw:=wrap_i64 (n:=(k:Int)+1) ⟨by omega,by omega⟩
  have hcast:((10 * n+(c.toNat - 48):Nat):Int)=10 * (n:Int)+((c.toNat:Int) - 48):=by omega
  have hnr:numR (c :: (s.drop (k+1)).take j) n=if 10 * n+(c.toNat - 48) > 1099511627776 then none else numR ((s.drop (k+1)).take j) (10 * n+(c.toNat - 48)):=rfl
  have key:=fun (h:¬ 10 * n+(c.toNat - 48) > 1099511627776) e=>ih (k+1) (10 * n+(c.toNat - 48)) e (by omega) (by omega) (by omega)
  rw [hdr,hnr]
  by_cases c1:10 * n+(c.toNat - 48) > 1099511627776
  · have c1':10 * (n:Int)+((c.toNat:Int) - 48) > 1099511627776:=by omega
    rw [if_pos c1]
    obtain ⟨ev,eo,so,co,⟨hev,hco⟩,R⟩:=RULES CC;rw [<- hev]
    simp only [fpart,part',Tryz.f96,Option.getD]
    simp only [S7,R,seval,TG,h0,h1,h6,h7,h8,hi,hix,w1,w2,w3,w4,c1']
    exact ⟨_,rfl,by simp only [S7,R,seval],by simp only [S7,R,seval]⟩
  · have c1':¬ 10 * (n:Int)+((c.toNat:Int) - 48) > 1099511627776:=by omega
    rw [if_neg c1]
    have key:=key c1
    rw [hcast] at key
    obtain ⟨ev,eo,so,co,⟨hev,hco⟩,R⟩:=RULES CC;rw [<- hev]
    rw [<- hev] at key
    simp only [fpart,part',Tryz.f96,Option.getD]
    simp only [S7,R,seval,TG,h0,h1,h6,h7,h8,hi,hix,w1,w2,w3,w4,c1',hw]
    exact key _ (by simp only [S7,R,seval,h0]) (by simp only [S7,R,seval,h1]) (by simp only [S7,R,seval,h6]) (by simp only [S7,R,seval]) (by simp only [S7,R,seval] <;> rfl)
def numL (s:List UInt8) (i:Nat):Option Nat:=(numR ((s.drop i).take (runL dg s i - i)) 0).map fun _=>runL dg s i
theorem call_lex_number (s:List UInt8) (hs:s.length<=900000) (i:Nat) (hi:i<=s.length):callL CC 96 [.str s,.int .i64 (i:Int)] []=some (.ret (match numL s i with
 | some k=>.tup [.int .i64 (k:Int),.int .i64 0]
 | none=>.tup [.int .i64 (i:Int),.int .i64 2]),[]):=by
 rw [callL_enter (fn:=Tryz.f96) (c:=Tryz.f96.body.getD .skip) rfl rfl fat_lex_number rfl ok_lex_number (Nat.le_of_ble_eq_true rfl)]
 have hrl:=runL_le (p:=dg) hi
 have hrun:=op_lex_run_digit s hs i hi
 have hloop:=fun e=>loop_lex_number _ rfl s hs i (runL dg s i) hrl.2 (runL_all (s.length) i (by omega)) (runL dg s i - i) i 0 e (by omega) (by omega) (by omega)
 unfold numL
 generalize runL dg s i=e0 at *
 obtain ⟨ev,eo,so,co,⟨hev,hco⟩,R⟩:=RULES CC;rw [<- hev]
 rw [<- hev] at hloop
 rw [<- hco] at hrun
 simp only [fpart,part',Tryz.f96,Option.getD] at hloop ⊢
 simp only [S8,R,seval,opd_func,hrun]
 generalize hE:ev _ ⟨_,_⟩=r
 have hP:PNum i e0 (numR ((s.drop i).take (e0 - i)) 0) r:=by
  rw [<- hE]
  exact hloop _ (by simp only [S7,R,seval]) (by simp only [S7,R,seval]) (by simp only [S7,R,seval]) (by simp only [S7,R,seval] <;> rfl) (by simp only [S7,R,seval])
 clear hE hloop
 cases hn:numR ((s.drop i).take (e0 - i)) 0 with
 | some v=>
  rw [hn] at hP
  obtain ⟨e',he,g6⟩:=hP
  subst he
  simp only [S8,R,seval,g6]
 | none=>
  rw [hn] at hP
  obtain ⟨e',he,g4,g5⟩:=hP
  subst he
  simp only [S8,R,seval,g4,g5]
theorem op_lex_number (s:List UInt8) (hs:s.length<=900000) (i:Nat) (hi:i<=s.length) (bx):callOp CC (callL CC) 96 [.str s,.int .i64 (i:Int)] bx=some (.ret (match numL s i with
 | some k=>.tup [.int .i64 (k:Int),.int .i64 0]
 | none=>.tup [.int .i64 (i:Int),.int .i64 2]),bx):=callOp_of rfl (by simp only [SA,Bool.and_true]) (call_lex_number s hs i hi) (by cases numL s i <;> rfl)
def endQ:Nat->List UInt8->Nat->Nat
 | 0,_,e=>e
 | m+1,s,e=>if e < s.length∧atL s e≠34 then endQ m s (if atL s e=92 then e+2 else e+1) else e
theorem endQ_ge:∀ (m:Nat) (s:List UInt8) (e:Nat),e<=endQ m s e
 | 0,_,e=>Nat.le_refl _
 | m+1,s,e=>by
  unfold endQ
  split
  · split
    · have:=endQ_ge m s (e+2);omega
    · have:=endQ_ge m s (e+1);omega
  · exact Nat.le_refl _
theorem loop_lex_quoted (L:Code) (hL:L=fpart Tryz.f97 [1,1,0,0]) (s:List UInt8) (hs:s.length<=900000) (v1:PV):∀ (m x:Nat) (e:List PV),s.length+1 - x < m->x<=s.length+1->getT e 0=.str s->getT e 1=v1->getT e 7=.int .i64 x ->
 ∃ e',evL CC L ⟨e,[]⟩=some (.exit 0,⟨e',[]⟩)∧getT e' 0=.str s∧getT e' 1=v1∧getT e' 7=.int .i64 (endQ m s x:Nat):=by
 intro m
 induction m with
 | zero=>intro x e hm;omega
 | succ m ih=>
  intro x e hm hxl h0 h1 h7
  rw [evL_at (fpart Tryz.f97 [1,1,0,0,0]) hL]
  have hlen:=len_str s
  have hq:endQ (m+1) s x=if x < s.length∧atL s x≠34 then endQ m s (if atL s x=92 then x+2 else x+1) else x:=rfl
  rw [hq]
  have k1:=fun e=>ih (x+1) e
  have k2:=fun e=>ih (x+2) e
  by_cases hlt:x < s.length
  · have hil:(x:Int) < (s.length:Int):=by omega
    have hx:s[x]?=some (s[x]'(by omega)):=by simp
    have hix:=ix_str s x _ hx
    have hat:=atL_get hx
    rw [hat]
    generalize s[x]'(by omega)=c at *
    have w1:=wrap_i64 (n:=(x:Int)+1) ⟨by omega,by omega⟩
    have w2:=wrap_i64 (n:=(x:Int)+1+1) ⟨by omega,by omega⟩
    by_cases c1:c.toNat=34
    · have c1':((c.toNat:Int) != 34)=false:=by simp [c1]
      rw [if_neg (fun h=>h.2 c1)]
      obtain ⟨ev,eo,so,co,⟨hev,hco⟩,R⟩:=RULES CC;rw [<- hev]
      simp only [fpart,part',Tryz.f97,Option.getD]
      simp only [S8,R,seval,h0,h1,h7,hlen,hil,hix,c1']
      exact ⟨_,rfl,by simp only [S7,R,seval,h0],by simp only [S7,R,seval,h1],by simp only [S7,R,seval,h7]⟩
    · have c1':((c.toNat:Int) != 34)=true:=by simp;omega
      rw [if_pos ⟨hlt,c1⟩]
      by_cases c2:c.toNat=92
      · have c2':((c.toNat:Int) == 92)=true:=by simp [c2]
        rw [if_pos c2]
        have k2:=fun e=>k2 e (by omega) (by omega)
        have hc2:((x+2:Nat):Int)=(x:Int)+1+1:=by omega
        rw [hc2] at k2
        obtain ⟨ev,eo,so,co,⟨hev,hco⟩,R⟩:=RULES CC;rw [<- hev]
        rw [<- hev] at k2
        simp only [fpart,part',Tryz.f97,Option.getD]
        simp only [S8,R,seval,h0,h1,h7,hlen,hil,hix,c1',c2',w1,w2]
        exact k2 _ (by simp only [S7,R,seval,h0]) (by simp only [S7,R,seval,h1]) (by simp only [S7,R,seval])
      · have c2':((c.toNat:Int) == 92)=false:=by simp;omega
        rw [if_neg c2]
        have k1:=fun e=>k1 e (by omega) (by omega)
        obtain ⟨ev,eo,so,co,⟨hev,hco⟩,R⟩:=RULES CC;rw [<- hev]
        rw [<- hev] at k1
        simp only [fpart,part',Tryz.f97,Option.getD]
        simp only [S8,R,seval,h0,h1,h7,hlen,hil,hix,c1',c2',w1]
        exact k1 _ (by simp only [S7,R,seval,h0]) (by simp only [S7,R,seval,h1]) (by simp only [S7,R,seval] <;> rfl)
  · have hil:¬ (x:Int) < (s.length:Int):=by omega
    rw [if_neg (fun h=>hlt h.1)]
    obtain ⟨ev,eo,so,co,⟨hev,hco⟩,R⟩:=RULES CC;rw [<- hev]
    simp only [fpart,part',Tryz.f97,Option.getD]
    simp only [S8,R,seval,h0,h1,h7,hlen,hil]
    exact ⟨_,rfl,by simp only [S7,R,seval,h0],by simp only [S7,R,seval,h1],by simp only [S7,R,seval,h7]⟩
def strL (s:List UInt8) (i:Nat):Option (List UInt8×Nat):=
 let e:=endQ (s.length+1) s (i+1)
 if s.length<=e then none else if (unq ((s.take (e+1)).drop i)).2≠0 then none else some ((unq ((s.take (e+1)).drop i)).1,e+1)
theorem call_lex_quoted (s:List UInt8) (hs:s.length<=900000) (i:Nat) (hi:i<=s.length):callL CC 97 [.str s,.int .i64 (i:Int)] []=some (.ret (match strL s i with
 | some (t,k)=>.tup [.str t,.int .i64 (k:Int),.int .i64 0]
 | none=>.tup [.str [],.int .i64 (i:Int),.int .i64 4]),[]):=by
 rw [callL_enter (fn:=Tryz.f97) (c:=Tryz.f97.body.getD .skip) rfl rfl fat_lex_quoted rfl ok_lex_quoted (Nat.le_of_ble_eq_true rfl)]
 have hlen:=len_str s
 have hloop:=loop_lex_quoted _ rfl s hs (.int .i64 i) (s.length+1) (i+1)
 have hge:=endQ_ge (s.length+1) s (i+1)
 have w1:=wrap_i64 (n:=(i:Int)+1) ⟨by omega,by omega⟩
 unfold strL
 simp only
 generalize endQ (s.length+1) s (i+1)=x at *
 have w2:=fun (h:x < s.length)=>wrap_i64 (n:=(x:Int)+1) ⟨by omega,by omega⟩
 have hsl:=fun (h:x < s.length)=>sl_str s i ((x:Int)+1) (by omega) (by omega) (by omega)
 have hto:((x:Int)+1).toNat=x+1:=by omega
 have hun:=op_names_Unquote ((s.take (x+1)).drop i) (by rw [List.length_drop,List.length_take];omega)
 have hc1:((i+1:Nat):Int)=(i:Int)+1:=by omega
 by_cases c1:s.length<=x
 · have c1':(x:Int) ≥ (s.length:Int):=by omega
   rw [if_pos c1]
   obtain ⟨ev,eo,so,co,⟨hev,hco⟩,R⟩:=RULES CC;rw [<- hev]
   rw [<- hev] at hloop
   simp only [fpart,part',Tryz.f97,Option.getD] at hloop ⊢
   simp only [S8,R,seval,w1]
   generalize hE:ev _ ⟨_,_⟩=r
   obtain ⟨e',he,g0,g1,g7⟩:=useLoop' hE (hloop _ (by omega) (by omega) (by simp only [S7,R,seval]) (by simp only [S7,R,seval]) (by simp only [S7,R,seval,hc1]))
   subst he
   simp only [S8,R,seval,g0,g1,g7,hlen,c1']
 · have c1':¬ (x:Int) ≥ (s.length:Int):=by omega
   rw [if_neg c1]
   have w2:=w2 (by omega)
   have hsl:=hsl (by omega)
   rw [hto,Int.toNat_natCast] at hsl
   generalize (s.take (x+1)).drop i=q at *
   by_cases c2:(unq q).2=0
   · have c2':((0:Int) != 0)=false:=rfl
     rw [if_neg (fun h=>h c2)]
     rw [c2] at hun
     obtain ⟨ev,eo,so,co,⟨hev,hco⟩,R⟩:=RULES CC;rw [<- hev]
     rw [<- hev] at hloop
     rw [<- hco] at hun
     simp only [fpart,part',Tryz.f97,Option.getD] at hloop ⊢
     simp only [S8,R,seval,w1]
     generalize hE:ev _ ⟨_,_⟩=r
     obtain ⟨e',he,g0,g1,g7⟩:=useLoop' hE (hloop _ (by omega) (by omega) (by simp only [S7,R,seval]) (by simp only [S7,R,seval]) (by simp only [S7,R,seval,hc1]))
     subst he
     simp only [S8,R,seval,g0,g1,g7,hlen,c1',w2,hsl,hun,c2']
     try rfl
   · have c2':((unq q).2 != 0)=true:=by simpa using c2
     rw [if_pos c2]
     obtain ⟨ev,eo,so,co,⟨hev,hco⟩,R⟩:=RULES CC;rw [<- hev]
     rw [<- hev] at hloop
     rw [<- hco] at hun
     simp only [fpart,part',Tryz.f97,Option.getD] at hloop ⊢
     simp only [S8,R,seval,w1]
     generalize hE:ev _ ⟨_,_⟩=r
     obtain ⟨e',he,g0,g1,g7⟩:=useLoop' hE (hloop _ (by omega) (by omega) (by simp only [S7,R,seval]) (by simp only [S7,R,seval]) (by simp only [S7,R,seval,hc1]))
     subst he
     simp only [S8,R,seval,g0,g1,g7,hlen,c1',w2,hsl,hun,c2']
theorem op_lex_quoted (s:List UInt8) (hs:s.length<=900000) (i:Nat) (hi:i<=s.length) (bx):callOp CC (callL CC) 97 [.str s,.int .i64 (i:Int)] bx=some (.ret (match strL s i with
 | some (t,k)=>.tup [.str t,.int .i64 (k:Int),.int .i64 0]
 | none=>.tup [.str [],.int .i64 (i:Int),.int .i64 4]),bx):=callOp_of rfl (by simp only [SA,Bool.and_true]) (call_lex_quoted s hs i hi) (by cases strL s i <;> rfl)
theorem ok_lex_one:fnOK CC Tryz.f46 (Tryz.f46.body.getD .skip)=true:=by kernel_rfl
theorem fat_lex_one:CC.P.funcs[46]?=some Tryz.f46:=by kernel_rfl
def op2 (c:Nat):Bool:=decide (Lib.indexByte [61,33,60,62] c.toUInt8 ≥ 0)
def op1 (c:Nat):Bool:=decide (Lib.indexByte [35,43,45,42,40,41,123,125,91,93,44,59,58,46,60,62,61] c.toUInt8 ≥ 0)
def opLen (s:List UInt8) (i:Nat):Nat:=if atL s (i+1)=61∧op2 (atL s i)=true then 2 else if op1 (atL s i)=true then 1 else 0
theorem call_lex_operator (s:List UInt8) (hs:s.length<=900000) (i:Nat) (hi:i < s.length):callL CC 98 [.str s,.int .i64 (i:Int)] []=some (.ret (.int .i64 ((i+opLen s i:Nat):Int)),[]):=by
 rw [callL_enter (fn:=Tryz.f98) (c:=Tryz.f98.body.getD .skip) rfl rfl fat_lex_operator rfl ok_lex_operator (Nat.le_of_ble_eq_true rfl)]
 have hat:=op_lex_at s i
 have hat1:=op_lex_at s (i+1)
 have h256:=atL_lt s i
 have hcv:=conv_r_u8 (atL s i:Int) ⟨by omega,by omega⟩
 have w1:=wrap_i64 (n:=(i:Int)+1) ⟨by omega,by omega⟩
 have w2:=wrap_i64 (n:=(i:Int)+2) ⟨by omega,by omega⟩
 have cast1:((i+1:Nat):Int)=(i:Int)+1:=by omega
 rw [cast1] at hat1
 have h61:(((atL s (i+1):Nat):Int) == 61)=decide (atL s (i+1)=61):=by rw [Bool.eq_iff_iff];simp;omega
 unfold opLen op1 op2
 generalize atL s i=c at *
 generalize atL s (i+1)=d at *
 have hx:=op_strings_IndexByte
 obtain ⟨ev,eo,so,co,⟨hev,hco⟩,R⟩:=RULES CC;rw [<- hev]
 rw [<- hco] at hat hat1 hx
 have hx1:=hx [61,33,60,62] (c:Int)
 have hx2:=hx [35,43,45,42,40,41,123,125,91,93,44,59,58,46,60,62,61] (c:Int)
 rw [Int.toNat_natCast] at hx1 hx2
 clear hx
 generalize Lib.indexByte [61,33,60,62] c.toUInt8=x1 at *
 generalize Lib.indexByte [35,43,45,42,40,41,123,125,91,93,44,59,58,46,60,62,61] c.toUInt8=x2 at *
 simp only [fpart,part',Tryz.f98,Option.getD]
 by_cases c1:d=61
 · rw [decide_eq_true c1] at h61
   by_cases c2:x1 ≥ 0
   · rw [if_pos ⟨c1,decide_eq_true c2⟩]
     simp only [S8,R,seval,hat,hat1,hcv,h61,hx1,hx2,w1,w2,c2]
     try rfl
   · rw [if_neg (fun h=>c2 (of_decide_eq_true h.2))]
     by_cases c3:x2 ≥ 0
     · rw [if_pos (decide_eq_true c3)]
       simp only [S8,R,seval,hat,hat1,hcv,h61,hx1,hx2,w1,w2,c2,c3]
       try rfl
     · rw [if_neg (fun h=>c3 (of_decide_eq_true h))]
       simp only [S8,R,seval,hat,hat1,hcv,h61,hx1,hx2,w1,w2,c2,c3]
       try rfl
 · rw [decide_eq_false c1] at h61
   rw [if_neg (fun h=>c1 h.1)]
   by_cases c3:x2 ≥ 0
   · rw [if_pos (decide_eq_true c3)]
     simp only [S8,R,seval,hat,hat1,hcv,h61,hx1,hx2,w1,w2,c3]
     try rfl
   · rw [if_neg (fun h=>c3 (of_decide_eq_true h))]
     simp only [S8,R,seval,hat,hat1,hcv,h61,hx1,hx2,w1,w2,c3]
     try rfl
theorem op_lex_operator (s:List UInt8) (hs:s.length<=900000) (i:Nat) (hi:i < s.length) (bx):callOp CC (callL CC) 98 [.str s,.int .i64 (i:Int)] bx=some (.ret (.int .i64 ((i+opLen s i:Nat):Int)),bx):=callOp_of rfl (by simp only [SA,Bool.and_true]) (call_lex_operator s hs i hi) rfl
abbrev Tk:=Nat×List UInt8×Nat
def tkV (t:Tk):PV:=.agg [.int .i64 (t.1:Int),.str t.2.1,.int .i64 (t.2.2:Int)]
def oneL (s:List UInt8) (i:Nat):Tk×Nat ⊕ Int:=
 let c:=atL s i
 if sm c then .inl ((1,(s.take (runL pt s i)).drop i,i),runL pt s i)
 else if dg c then (match numL s i with
  | some k=>.inl ((2,(s.take k).drop i,i),k)
  | none=>.inr 2)
 else if c=34 then (match strL s i with
  | some (t,k)=>.inl ((3,t,i),k)
  | none=>.inr 4)
 else if opLen s i=0 then .inr 12
 else .inl ((4,(s.take (i+opLen s i)).drop i,i),i+opLen s i)
theorem opLen_le {s:List UInt8} {i:Nat} (hi:i < s.length):i+opLen s i<=s.length:=by
 unfold opLen
 split
 · rename_i h
   have:i+1 < s.length:=by
    rcases Nat.lt_or_ge (i+1) s.length with h' | h'
    · exact h'
    · exfalso
      have:atL s (i+1)=0:=by unfold atL;rw [List.getElem?_eq_none h']
      omega
   omega
 · split <;> omega
theorem TKf:zeroCells CC 80=some [.int .i64 0,.str [],.int .i64 0]:=by kernel_rfl
theorem buildTk (n:Int):buildP CC 80 [(2,.int .i64 n)]=some (.agg [.int .i64 0,.str [],.int .i64 n]):=by
 have h:=(by kernel_rfl:CC.P.underlying 80=some (.struct ((match Tryz.prog.underlying 80 with | some (.struct f)=>f | _=>#[]))))
 have hz:tZero CC 80=some (.agg [.int .i64 0,.str [],.int .i64 0]):=by kernel_rfl
 have hp:((match Tryz.prog.underlying 80 with | some (.struct f)=>f | _=>#[]):Array Field).toList.mapM (fun f=>(tSize CC f.type).map fun s=>(f.offset,s))=some [(0,1),(1,1),(2,1)]:=by kernel_rfl
 unfold buildP
 rw [h,hz]
 simp only [hp]
 rfl
theorem TKu:∃ u,CC.P.underlying 80=some u:=⟨.struct ((match Tryz.prog.underlying 80 with | some (.struct f)=>f | _=>#[])),by kernel_rfl⟩
theorem call_lex_one (s:List UInt8) (hs:s.length<=900000) (i:Nat) (hi:i < s.length):∃ bx v,callL CC 46 [.str s,.int .i64 (i:Int)] []=some (.ret (.tup v),bx) ∧
 (match oneL s i with
  | .inl (t,k)=>v=[tkV t,.int .i64 (k:Int),.int .i64 0]
  | .inr c=>∃ n:Int,v=[.agg [.int .i64 n,.str [],.int .i64 (i:Int)],.int .i64 (i:Int),.int .i64 c]):=by
 rw [callL_enter (fn:=Tryz.f46) (c:=Tryz.f46.body.getD .skip) rfl rfl fat_lex_one rfl ok_lex_one (Nat.le_of_ble_eq_true rfl)]
 have hat:=op_lex_at s i
 have h256:=atL_lt s i
 have hsm:=op_lex_small (atL s i) h256
 have hdg:=op_lex_digit (atL s i) h256
 have hrun:=op_lex_run_part s hs i (by omega)
 have hnum:=op_lex_number s hs i (by omega)
 have hquo:=op_lex_quoted s hs i (by omega)
 have hop:=op_lex_operator s hs i hi
 have h34:(((atL s i:Nat):Int) == 34)=decide (atL s i=34):=by rw [Bool.eq_iff_iff];simp;omega
 have hrl:=runL_le (p:=pt) (s:=s) (i:=i) (by omega)
 have hsl1:=sl_str s i (runL pt s i) (by omega) (by omega) (by omega)
 rw [Int.toNat_natCast,Int.toNat_natCast] at hsl1
 have hdl:=runL_le (p:=dg) (s:=s) (i:=i) (by omega)
 have hsl2:=sl_str s i (runL dg s i) (by omega) (by omega) (by omega)
 rw [Int.toNat_natCast,Int.toNat_natCast] at hsl2
 have hol:=opLen_le hi
 have hsl3:=sl_str s i ((i+opLen s i:Nat):Int) (by omega) (by omega) (by omega)
 rw [Int.toNat_natCast,Int.toNat_natCast] at hsl3
 have hb:=buildTk (i:Int)
 obtain ⟨tu,htu⟩:=TKu
 have h20:((2:Int) != 0)=true:=rfl
 have h40:((4:Int) != 0)=true:=rfl
 have hnl:∀ k,numL s i=some k->k=runL dg s i:=fun k h=>by
  unfold numL at h
  obtain ⟨_,_,h2⟩:=Option.map_eq_some_iff.1 h
  exact h2.symm
 unfold oneL
 simp only
 generalize atL s i=c at *
 generalize runL pt s i=rp at *
 generalize runL dg s i=rd' at *
 cases hc1:sm c with
 | true=>
  rw [hc1] at hsm
  rw [if_pos rfl]
  generalize (s.take rp).drop i=tx at *
  obtain ⟨ev,eo,so,co,⟨hev,hco⟩,R⟩:=RULES CC;rw [<- hev]
  rw [<- hco] at hat hsm hrun
  simp only [fpart,part',Tryz.f46,Option.getD]
  simp only [S9,R,seval,TKf,h20,h40,hb,hat,hsm,hrun,hsl1,List.set_cons_zero,List.set_cons_succ]
  exact ⟨_,_,rfl,rfl⟩
 | false=>
  rw [hc1] at hsm
  rw [if_neg (by simp)]
  cases hc2:dg c with
  | true=>
   rw [hc2] at hdg
   rw [if_pos rfl]
   cases hn:numL s i with
   | some k=>
    rw [hn] at hnum
    obtain rfl:=hnl k hn
    dsimp only
    generalize (s.take k).drop i=tx at *
    obtain ⟨ev,eo,so,co,⟨hev,hco⟩,R⟩:=RULES CC;rw [<- hev]
    rw [<- hco] at hat hsm hdg hnum
    simp only [fpart,part',Tryz.f46,Option.getD]
    simp only [S9,R,seval,TKf,h20,h40,hb,hat,hsm,hdg,hnum,hsl2,List.set_cons_zero,List.set_cons_succ]
    exact ⟨_,_,rfl,rfl⟩
   | none=>
    rw [hn] at hnum
    obtain ⟨ev,eo,so,co,⟨hev,hco⟩,R⟩:=RULES CC;rw [<- hev]
    rw [<- hco] at hat hsm hdg hnum
    simp only [fpart,part',Tryz.f46,Option.getD]
    simp only [S9,R,seval,TKf,h20,h40,hb,hat,hsm,hdg,hnum,hsl2,List.set_cons_zero,List.set_cons_succ]
    exact ⟨_,_,rfl,0,rfl⟩
  | false=>
   rw [hc2] at hdg
   rw [if_neg (by simp)]
   by_cases hc3:c=34
   · rw [if_pos hc3]
     rw [decide_eq_true hc3] at h34
     cases hn:strL s i with
     | some x=>
      rw [hn] at hquo
      obtain ⟨tx,k⟩:=x
      obtain ⟨ev,eo,so,co,⟨hev,hco⟩,R⟩:=RULES CC;rw [<- hev]
      rw [<- hco] at hat hsm hdg hquo
      simp only [fpart,part',Tryz.f46,Option.getD]
      simp only [S9,R,seval,TKf,h20,h40,hb,hat,hsm,hdg,h34,hquo,List.set_cons_zero,List.set_cons_succ]
      exact ⟨_,_,rfl,rfl⟩
     | none=>
      rw [hn] at hquo
      obtain ⟨ev,eo,so,co,⟨hev,hco⟩,R⟩:=RULES CC;rw [<- hev]
      rw [<- hco] at hat hsm hdg hquo
      simp only [fpart,part',Tryz.f46,Option.getD]
      simp only [S9,R,seval,TKf,h20,h40,hb,hat,hsm,hdg,h34,hquo,List.set_cons_zero,List.set_cons_succ]
      exact ⟨_,_,rfl,0,rfl⟩
   · rw [if_neg hc3]
     rw [decide_eq_false hc3] at h34
     by_cases hc4:opLen s i=0
     · rw [if_pos hc4]
       have heq:(((i+opLen s i:Nat):Int) == (i:Int))=true:=by rw [hc4];simp
       generalize ((i+opLen s i:Nat):Int)=k at *
       obtain ⟨ev,eo,so,co,⟨hev,hco⟩,R⟩:=RULES CC;rw [<- hev]
       rw [<- hco] at hat hsm hdg hop
       simp only [fpart,part',Tryz.f46,Option.getD]
       simp only [S9,R,seval,TKf,h20,h40,hb,hat,hsm,hdg,h34,hop,heq,List.set_cons_zero,List.set_cons_succ]
       exact ⟨_,_,rfl,4,rfl⟩
     · rw [if_neg hc4]
       dsimp only
       have heq:(((i+opLen s i:Nat):Int) == (i:Int))=false:=by rw [beq_eq_false_iff_ne];omega
       generalize ((i+opLen s i:Nat):Int)=k at *
       generalize (s.take (i+opLen s i)).drop i=tx at *
       obtain ⟨ev,eo,so,co,⟨hev,hco⟩,R⟩:=RULES CC;rw [<- hev]
       rw [<- hco] at hat hsm hdg hop
       simp only [fpart,part',Tryz.f46,Option.getD]
       simp only [S9,R,seval,TKf,h20,h40,hb,hat,hsm,hdg,h34,hop,heq,hsl3,List.set_cons_zero,List.set_cons_succ]
       exact ⟨_,_,rfl,rfl⟩
theorem ok_lex_Tokens:fnOK CC Tryz.f21 (Tryz.f21.body.getD .skip)=true:=by kernel_rfl
theorem fat_lex_Tokens:CC.P.funcs[21]?=some Tryz.f21:=by kernel_rfl
theorem skipL_ge:∀ (m:Nat) (s:List UInt8) (i:Nat),i<=s.length->i<=skipL m s i∧skipL m s i<=s.length
 | 0,_,i,h=>⟨Nat.le_refl _,h⟩
 | m+1,s,i,h=>by
  unfold skipL
  split
  · split
    · have:=skipL_ge m s (i+1) (by omega);omega
    · split
      · have h1:=runL_le (p:=nl) (s:=s) (i:=i) h
        have:=skipL_ge m s (runL nl s i) h1.2
        omega
      · omega
  · omega
theorem atL_some {s:List UInt8} {i:Nat} (h:i < s.length):atL s i=(s[i]).toNat:=atL_get (by simp)
theorem runL_gt {p:Nat->Bool} {s:List UInt8} {i:Nat} (h:i < s.length) (hp:p (atL s i)=true):i < runL p s i:=by
 have hx:s[i]?=some s[i]:=by simp
 have h2:=runL_step (p:=p) hx
 rw [atL_some h] at hp
 rw [hp,if_pos rfl] at h2
 have:=runL_le (p:=p) (s:=s) (i:=i+1) (by omega)
 omega
theorem oneL_bd {s:List UInt8} {i:Nat} {t:Tk} {k:Nat} (h:i < s.length) (ho:oneL s i=.inl (t,k)):i < k∧k<=s.length:=by
 unfold oneL at ho
 simp only at ho
 split at ho
 · rename_i hc
   have hp:pt (atL s i)=true:=by unfold pt;rw [hc];rfl
   have h1:=runL_gt h hp
   have h2:=runL_le (p:=pt) (s:=s) (i:=i) (by omega)
   injection ho with ho
   injection ho with _ ho
   omega
 · split at ho
   · rename_i hc
     have h1:=runL_gt h hc
     have h2:=runL_le (p:=dg) (s:=s) (i:=i) (by omega)
     unfold numL at ho
     split at ho
     · rename_i k' hk
       obtain ⟨_,_,hk⟩:=Option.map_eq_some_iff.1 hk
       injection ho with ho
       injection ho with _ ho
       omega
     · cases ho
   · split at ho
     · split at ho
       · rename_i t' k' hk
         unfold strL at hk
         simp only at hk
         split at hk
         · cases hk
         · split at hk
           · cases hk
           · have h1:=endQ_ge (s.length+1) s (i+1)
             injection hk with hk
             injection hk with _ hk
             injection ho with ho
             injection ho with _ ho
             omega
       · cases ho
     · split at ho
       · cases ho
       · have:=opLen_le h
         injection ho with ho
         injection ho with _ ho
         omega
theorem oneL_err {s:List UInt8} {i:Nat} {c:Int} (ho:oneL s i=.inr c):c=2∨c=4∨c=12:=by
 unfold oneL at ho
 simp only at ho
 split at ho
 · cases ho
 · split at ho
   · split at ho
     · cases ho
     · injection ho with ho;omega
   · split at ho
     · split at ho
       · cases ho
       · injection ho with ho;omega
     · split at ho
       · injection ho with ho;omega
       · cases ho
theorem op_lex_one_ok (s:List UInt8) (hs:s.length<=900000) (i:Nat) (hi:i < s.length) (t:Tk) (k:Nat) (ho:oneL s i=.inl (t,k)) (bx):callOp CC (callL CC) 46 [.str s,.int .i64 (i:Int)] bx=some (.ret (.tup [tkV t,.int .i64 k,.int .i64 0]),bx):=by
 obtain ⟨b,v,h,hv⟩:=call_lex_one s hs i hi
 rw [ho] at hv
 simp only at hv
 subst hv
 exact callOp_of rfl (by simp only [SA,Bool.and_true]) h rfl
theorem op_lex_one_err (s:List UInt8) (hs:s.length<=900000) (i:Nat) (hi:i < s.length) (c:Int) (ho:oneL s i=.inr c):∃ n:Int,∀ bx,callOp CC (callL CC) 46 [.str s,.int .i64 (i:Int)] bx=some (.ret (.tup [.agg [.int .i64 n,.str [],.int .i64 (i:Int)],.int .i64 (i:Int),.int .i64 c]),bx):=by
 obtain ⟨b,v,h,hv⟩:=call_lex_one s hs i hi
 rw [ho] at hv
 simp only at hv
 obtain ⟨u,hv⟩:=hv
 subst hv
 exact ⟨u,fun bx=>callOp_of rfl (by simp only [SA,Bool.and_true]) h rfl⟩
def toksL:Nat->List UInt8->Nat->List Tk->List Tk×Nat×Int
 | 0,_,i,_=>([],i,0)
 | m+1,s,i,acc=>if i < s.length then
  (if acc.length=4000 then ([],i,3) else match oneL s i with
   | .inr c=>([],i,c)
   | .inl (t,k)=>toksL m s (skipL (s.length+1) s k) (acc++[t]))
  else (acc++[(0,[],s.length)],0,0)
def toks (s:List UInt8):List Tk×Nat×Int:=if 20000 < s.length then ([],0,3) else toksL (s.length+1) s (skipL (s.length+1) s 0) []
noncomputable def ITk:TypeInfo:=(Tryz.prog.info? 80).getD default
def tkVs (l:List Tk):List PV:=l.map tkV
theorem bsTk (a b c:PV) (ha:a.one=true) (hb:b.one=true) (hc:c.one=true) (h:sealNew true 3 (.agg [a,b,c])=some (.agg [a,b,c])):buildSliceP CC 45 1 [(0,.agg [a,b,c])]=some (.osl 80 [.agg [a,b,c]]):=by
 have hz:tZero CC 80=some (.agg [.int .i64 0,.str [],.int .i64 0]):=by kernel_rfl
 have hi:CC.P.info? 80=some ITk:=by kernel_rfl
 have hs:ITk.size=3:=by kernel_rfl
 have hu:CC.P.underlying 45=some (.slice 80):=by kernel_rfl
 have ht:tAgg CC 80=true:=by kernel_rfl
 unfold buildSliceP
 simp only [hu,hz,hi,hs,ht,List.foldlM_cons,List.foldlM_nil,h]
 rfl
theorem bsTk' (t:Tk):buildSliceP CC 45 1 [(0,tkV t)]=some (.osl 80 (tkVs [t])):=bsTk _ _ _ rfl rfl rfl rfl
theorem apTk (st:St) (al:List (Nat×Loc)) (s x:Operand) (d:Option Tmp):appendOn CC st al s x 45 45 d=match appendAt CC st al 80 s,elemsOf (opd CC st.env x) with
 | some (l,xs),some ys=>appK 32 3 80 st al l xs ys d
 | _,_=>none:=appendOn_eq (i:=ITk) (by kernel_rfl) (by kernel_rfl) (by kernel_rfl) (z:=(ITk.zero).getD default) (by kernel_rfl) (by kernel_rfl) (by rw [show ITk.size=3 from by kernel_rfl];decide) (by kernel_rfl) (by kernel_rfl)
theorem okTk (t:Tk):((tkVs [t]).all fun y=>y.cells.length == 3)=true:=rfl
theorem TKs:∃ f,CC.P.underlying 80=some (.struct f):=⟨(match Tryz.prog.underlying 80 with | some (.struct f)=>f | _=>#[]),by kernel_rfl⟩
theorem buildTk2 (n:Int):buildP CC 80 [(0,.int .i64 0),(2,.int .i64 n)]=some (.agg [.int .i64 0,.str [],.int .i64 n]):=by
 have h:=(by kernel_rfl:CC.P.underlying 80=some (.struct ((match Tryz.prog.underlying 80 with | some (.struct f)=>f | _=>#[]))))
 have hz:tZero CC 80=some (.agg [.int .i64 0,.str [],.int .i64 0]):=by kernel_rfl
 have hp:((match Tryz.prog.underlying 80 with | some (.struct f)=>f | _=>#[]):Array Field).toList.mapM (fun f=>(tSize CC f.type).map fun s=>(f.offset,s))=some [(0,1),(1,1),(2,1)]:=by kernel_rfl
 unfold buildP
 rw [h,hz]
 simp only [hp]
 rfl
def PTk (s:List UInt8) (v:List Tk×Nat×Int) (r:Option (Ex×St)):Prop:=
 ∃ e' bx',(r=some (.exit 0,⟨e',bx'⟩)∧v.2=(0,0)∧∃ acc,acc.length<=4000∧v.1=acc++[(0,[],s.length)]∧getT e' 5=.osl 80 (tkVs acc)∧getT e' 0=.str s) ∨
  (r=some (.ret,⟨e',bx'⟩)∧v.1=[]∧getT e' 2=.osl 80 []∧getT e' 3=.int .i64 (v.2.1:Int)∧getT e' 4=.int .i64 v.2.2)
theorem loop_lex_Tokens (L:Code) (hL:L=fpart Tryz.f21 [1,1,1,0,1,0]) (s:List UInt8) (hs:s.length<=900000):∀ (m i:Nat) (acc:List Tk) (e:List PV) (bx:List PBox),s.length - i < m->i<=s.length->acc.length<=4000->getT e 0=.str s->getT e 5=.osl 80 (tkVs acc)->getT e 6=.int .i64 i ->
 PTk s (toksL m s i acc) (evL CC L ⟨e,bx⟩):=by
 intro m
 induction m with
 | zero=>intro i acc e bx hm;omega
 | succ m ih=>
  intro i acc e bx hm hi ha h0 h5 h6
  rw [evL_at (fpart Tryz.f21 [1,1,1,0,1,0,0]) hL]
  have hlen:=len_str s
  have htk:toksL (m+1) s i acc=if i < s.length then
   (if acc.length=4000 then ([],i,3) else match oneL s i with
    | .inr c=>([],i,c)
    | .inl (t,k)=>toksL m s (skipL (s.length+1) s k) (acc++[t]))
   else (acc++[(0,[],s.length)],0,0):=rfl
  rw [htk]
  obtain ⟨tu,htu⟩:=TKs
  have hgl:∀ (bx:List PBox) (b:PBox),(bx++[b])[bx.length]?=some b:=fun bx b=>by simp
  have hla:∀ (e:List PV) (o:Operand),True:=fun _ _=>trivial
  by_cases hlt:i < s.length
  · have hil:(i:Int) < (s.length:Int):=by omega
    rw [if_pos hlt]
    have hl0:(tkVs acc).length=acc.length:=by unfold tkVs;rw [List.length_map]
    by_cases c1:acc.length=4000
    · rw [if_pos c1]
      have hl:((((tkVs acc).length:Nat):Int) == 4000)=true:=by rw [hl0,c1];rfl
      generalize tkVs acc=xs at *
      obtain ⟨ev,eo,so,co,⟨hev,hco⟩,R⟩:=RULES CC;rw [<- hev]
      simp only [fpart,part',Tryz.f21,Option.getD]
      simp only [S8,R,seval,h0,h5,h6,hlen,hil,hl]
      exact ⟨_,_,Or.inr ⟨rfl,rfl,by simp only [S7,R,seval],by simp only [S7,R,seval],by simp only [S7,R,seval]⟩⟩
    · rw [if_neg c1]
      have hl:((((tkVs acc).length:Nat):Int) == 4000)=false:=by rw [hl0,beq_eq_false_iff_ne];omega
      cases ho:oneL s i with
      | inr c=>
       obtain ⟨u,hone⟩:=op_lex_one_err s hs i hlt c ho
       have hc0:(c != 0)=true:=by
        have:=oneL_err ho
        rw [bne_iff_ne];omega
       generalize tkVs acc=xs at *
       obtain ⟨ev,eo,so,co,⟨hev,hco⟩,R⟩:=RULES CC;rw [<- hev]
       rw [<- hco] at hone
       simp only [fpart,part',Tryz.f21,Option.getD]
       simp only [S8,R,SG,seval,UT,SC,TKf,h0,h5,h6,hlen,hil,hl,hone,hc0,List.append_assoc,hgl]
       exact ⟨_,_,Or.inr ⟨rfl,rfl,by simp only [S7,R,seval],by simp only [S7,R,seval],by simp only [S7,R,seval]⟩⟩
      | inl x=>
       obtain ⟨tk,k⟩:=x
       dsimp only
       have hone:=op_lex_one_ok s hs i hlt tk k ho
       have hbd:=oneL_bd hlt ho
       have hsk:=op_lex_skip s hs k hbd.2
       have hge:=skipL_ge (s.length+1) s k hbd.2
       have hih:=fun e bx=>ih (skipL (s.length+1) s k) (acc++[tk]) e bx (by omega) hge.2 (by rw [List.length_append,List.length_singleton];omega)
       have hc0:((0:Int) != 0)=false:=rfl
       have hbs:=bsTk' tk
       have hok:=okTk tk
       have hap:tkVs (acc++[tk])=tkVs acc++tkVs [tk]:=by simp only [tkVs,List.map_append]
       rw [hap] at hih
       have hl1:(tkVs [tk]).length=1:=rfl
       have hc:(tkVs acc).length+(tkVs [tk]).length<=1000000:=by omega
       generalize toksL m s (skipL (s.length+1) s k) (acc++[tk])=v at *
       generalize tkVs acc=xs at *
       generalize tkVs [tk]=ys at *
       generalize skipL (s.length+1) s k=k' at *
       unfold tkV at hone hbs
       obtain ⟨ev,eo,so,co,⟨hev,hco⟩,R⟩:=RULES CC;rw [<- hev]
       rw [<- hco] at hone hsk
       rw [<- hev] at hih
       simp only [fpart,part',Tryz.f21,Option.getD]
       simp only [S8,R,SG,seval,UT,SC,TKf,h0,h5,h6,hlen,hil,hl,hone,hsk,hbs,apTk,hok,hc,hc0,List.append_assoc,hgl]
       refine hih _ _ ?_ ?_ ?_
       · simp only [S7,R,seval,h0]
       · simp only [S7,R,seval]
       · simp only [S7,R,seval]
  · rw [if_neg hlt]
    have hil:¬ (i:Int) < (s.length:Int):=by omega
    obtain ⟨ev,eo,so,co,⟨hev,hco⟩,R⟩:=RULES CC;rw [<- hev]
    simp only [fpart,part',Tryz.f21,Option.getD]
    simp only [S8,R,seval,h0,h5,h6,hlen,hil]
    exact ⟨_,_,Or.inl ⟨rfl,rfl,_,ha,rfl,by simp only [S7,R,seval,h5],by simp only [S7,R,seval,h0]⟩⟩
theorem call_lex_Tokens (s:List UInt8) (hs:s.length<=900000):∃ bx,callL CC 21 [.str s] []=some (.ret (.tup [.sl (tkVs (toks s).1),.int .i64 ((toks s).2.1:Nat),.int .i64 (toks s).2.2]),bx):=by
 rw [callL_enter (fn:=Tryz.f21) (c:=Tryz.f21.body.getD .skip) rfl rfl fat_lex_Tokens rfl ok_lex_Tokens (Nat.le_of_ble_eq_true rfl)]
 have hlen:=len_str s
 have hsk:=op_lex_skip s hs 0 (by omega)
 have hge:=skipL_ge (s.length+1) s 0 (by omega)
 have hloop:=loop_lex_Tokens _ rfl s hs (s.length+1) (skipL (s.length+1) s 0) []
 have hbs:buildSliceP CC 45 1 [(0,.agg [.int .i64 0,.str [],.int .i64 (s.length:Int)])]=some (.osl 80 (tkVs [(0,[],s.length)])):=bsTk' (0,[],s.length)
 have hok:=okTk (0,[],s.length)
 have hb:=buildTk2 (s.length:Int)
 have cast0:((0:Nat):Int)=0:=rfl
 rw [cast0] at hsk
 unfold toks
 by_cases c1:20000 < s.length
 · rw [if_pos c1]
   have c1':(s.length:Int) > 20000:=by omega
   obtain ⟨ev,eo,so,co,⟨hev,hco⟩,R⟩:=RULES CC;rw [<- hev]
   simp only [fpart,part',Tryz.f21,Option.getD]
   simp only [S8,R,seval,hlen,c1']
   exact ⟨_,rfl⟩
 · rw [if_neg c1]
   have c1':¬ (s.length:Int) > 20000:=by omega
   have hl2:=fun e bx=>hloop e bx (by omega) hge.2 (by simp)
   have hap:∀ acc,tkVs (acc++[(0,[],s.length)])=tkVs acc++tkVs [(0,[],s.length)]:=fun acc=>by simp only [tkVs,List.map_append]
   have hln:∀ acc,acc.length<=4000->(tkVs acc).length+(tkVs [(0,[],s.length)]).length<=1000000:=fun acc h=>by unfold tkVs;rw [List.length_map];simp;omega
   generalize toksL (s.length+1) s (skipL (s.length+1) s 0) []=v at *
   generalize skipL (s.length+1) s 0=k' at *
   generalize tkVs [(0,[],s.length)]=ys at *
   obtain ⟨ev,eo,so,co,⟨hev,hco⟩,R⟩:=RULES CC;rw [<- hev]
   rw [<- hco] at hsk
   rw [<- hev] at hl2
   simp only [fpart,part',Tryz.f21,Option.getD] at hl2 ⊢
   simp only [S8,R,seval,hlen,c1',hsk]
   generalize hE:ev _ _=r
   have hP:PTk s v r:=hE ▸ hl2 _ _ (by simp only [S7,R,seval]) (by simp only [S7,R,seval] <;> rfl) (by simp only [S7,R,seval])
   obtain ⟨e',bx',⟨g1,g2,acc,g3,g4,g5,g6⟩ | ⟨g1,g2,g3,g4,g5⟩⟩:=hP
   · subst g1
     have hc:=hln acc g3
     rw [g4,hap,g2]
     simp only [S8,R,seval,g5,g6,hlen,hb,hbs,apTk,hok,hc]
     exact ⟨_,rfl⟩
   · subst g1
     rw [g2]
     simp only [S8,R,seval,g3,g4,g5]
     exact ⟨_,rfl⟩
theorem pureTkL:∀ l:List Tk,pureL (tkVs l)=true
 | []=>rfl
 | t :: r=>by
  have h:=pureTkL r
  show ((tkV t).pure && pureL (tkVs r))=true
  rw [h];rfl
theorem pureTks (l:List Tk) (a c:Int):(PV.tup [.sl (tkVs l),.int .i64 a,.int .i64 c]).pure=true:=by
 simp only [SA,SE,pureTkL,Bool.and_true]
theorem skipL_fuel (s:List UInt8):∀ (m m' i:Nat),i<=s.length->s.length - i < m->s.length - i < m'->skipL m s i=skipL m' s i
 | 0,_,_,_,h,_=>by omega
 | m+1,0,_,_,_,h=>by omega
 | m+1,m'+1,i,hi,h,h'=>by
  unfold skipL
  split
  · rename_i hl
    split
    · exact skipL_fuel s m m' (i+1) (by omega) (by omega) (by omega)
    · split
      · rename_i h35
        have hp:nl (atL s i)=true:=by rw [h35.1];rfl
        have h1:=runL_gt hl hp
        have h2:=runL_le (p:=nl) (s:=s) (i:=i) hi
        exact skipL_fuel s m m' (runL nl s i) h2.2 (by omega) (by omega)
      · rfl
  · rfl
def sk (s:List UInt8) (i:Nat):Nat:=skipL (s.length+1) s i
theorem sk_eq {s:List UInt8} {i:Nat} (hi:i<=s.length):sk s i=if i < s.length then
 (if atL s i=32∨atL s i=9∨atL s i=10 then sk s (i+1)
  else if atL s i=35∧dg (atL s (i+1))=false then sk s (runL nl s i) else i) else i:=by
 have h:sk s i=skipL (s.length+1+1) s i:=skipL_fuel s _ _ i hi (by omega) (by omega)
 rw [h]
 rfl
theorem sk_le {s:List UInt8} {i:Nat} (hi:i<=s.length):i<=sk s i∧sk s i<=s.length:=skipL_ge _ s i hi
theorem toksL_fuel (s:List UInt8):∀ (m m' i:Nat) (acc:List Tk),i<=s.length->s.length - i < m->s.length - i < m'->toksL m s i acc=toksL m' s i acc
 | 0,_,_,_,_,h,_=>by omega
 | m+1,0,_,_,_,_,h=>by omega
 | m+1,m'+1,i,acc,hi,h,h'=>by
  unfold toksL
  split
  · rename_i hl
    split
    · rfl
    · cases ho:oneL s i with
      | inr c=>rfl
      | inl x=>
       obtain ⟨tk,k⟩:=x
       have hbd:=oneL_bd hl ho
       have hge:=skipL_ge (s.length+1) s k hbd.2
       exact toksL_fuel s m m' _ _ hge.2 (by omega) (by omega)
  · rfl
def tk (s:List UInt8) (i:Nat) (acc:List Tk):List Tk×Nat×Int:=toksL (s.length+1) s i acc
theorem tk_eq {s:List UInt8} {i:Nat} (acc:List Tk) (hi:i<=s.length):tk s i acc=if i < s.length then
 (if acc.length=4000 then ([],i,3) else match oneL s i with
  | .inr c=>([],i,c)
  | .inl (t,k)=>tk s (sk s k) (acc++[t]))
 else (acc++[(0,[],s.length)],0,0):=by
 have h:tk s i acc=toksL (s.length+1+1) s i acc:=toksL_fuel s _ _ i acc hi (by omega) (by omega)
 rw [h]
 rfl
theorem endQ_fuel (s:List UInt8):∀ (m m' i:Nat),s.length - i < m->s.length - i < m'->endQ m s i=endQ m' s i
 | 0,_,_,h,_=>by omega
 | m+1,0,_,_,h=>by omega
 | m+1,m'+1,i,h,h'=>by
  unfold endQ
  split
  · split
    · exact endQ_fuel s m m' (i+2) (by omega) (by omega)
    · exact endQ_fuel s m m' (i+1) (by omega) (by omega)
  · rfl
def eQ (s:List UInt8) (i:Nat):Nat:=endQ (s.length+1) s i
theorem eQ_eq {s:List UInt8} {i:Nat}:eQ s i=if i < s.length∧atL s i≠34 then eQ s (if atL s i=92 then i+2 else i+1) else i:=by
 have h:eQ s i=endQ (s.length+1+1) s i:=endQ_fuel s _ _ i (by omega) (by omega)
 rw [h]
 rfl
def wordW (w:List UInt8):Prop:=∃ c r,w=c :: r∧sm c.toNat=true∧∀ b ∈ r,pt b.toNat=true
def numW (w:List UInt8):Prop:=w≠[]∧(∀ b ∈ w,dg b.toNat=true)∧(numR w 0).isSome=true
def opW (w:List UInt8):Prop:=∃ c,(w=[c]∧op1 c.toNat=true)∨(w=[c,61]∧op2 c.toNat=true)
def goodT (x:Tk):Prop:=(x.1=1∧wordW x.2.1)∨(x.1=2∧numW x.2.1)∨(x.1=3∧x.2.1.length<=60)∨(x.1=4∧opW x.2.1)
def formT (x:Tk):List UInt8:=if x.1=3 then quoteL x.2.1 else x.2.1
def hashB (x:Tk):Bool:=x.1 == 4 && x.2.1 == [35]
def layE:List Tk->Bool->List UInt8
 | [],b=>if b then [32] else []
 | x :: r,b=>(if b then [32] else [])++(formT x++layE r (!hashB x))
def chainT:List Tk->Prop
 | []=>True
 | x :: r=>goodT x∧(hashB x=true->∃ y r',r=y :: r'∧y.1=2)∧chainT r
theorem unq_ok {s:List UInt8} (h:(unq s).2=0):s=quoteL (unq s).1∧(unq s).1.length<=60:=by
 by_cases hq:∃ t,s=quoteL t
 · obtain ⟨t,rfl⟩:=hq
   rw [unq_quote] at h ⊢
   split at h
   · cases h
   · rename_i hc
     rw [if_neg hc]
     exact ⟨rfl,Nat.le_of_not_lt hc⟩
 · rw [unq_else s (fun t e=>hq ⟨t,e⟩)] at h
   cases h
theorem layE_cons (x:Tk) (r:List Tk) (b:Bool):layE (x :: r) b=(if b then [32] else [])++(formT x++layE r (!hashB x)):=rfl
theorem dg_ne:∀ n:_root_.Fin 256,dg n.val=true->sm n.val=false∧n.val≠61∧n.val≠32∧n.val≠9∧n.val≠10∧n.val≠35:=by decide +kernel
theorem sk_stop {s:List UInt8} {i:Nat} (hi:i < s.length) (h:sk s i=i):atL s i≠32∧atL s i≠9∧atL s i≠10∧(atL s i=35->dg (atL s (i+1))=true):=by
 rw [sk_eq (by omega),if_pos hi] at h
 by_cases c1:atL s i=32∨atL s i=9∨atL s i=10
 · rw [if_pos c1] at h
   have:=sk_le (s:=s) (i:=i+1) (by omega)
   omega
 · refine ⟨by omega,by omega,by omega,fun c2=>?_⟩
   rw [if_neg c1] at h
   cases hd:dg (atL s (i+1)) with
   | true=>rfl
   | false=>
    exfalso
    rw [if_pos ⟨c2,hd⟩] at h
    have h1:=runL_gt (p:=nl) hi (by rw [c2] <;> rfl)
    have h2:=runL_le (p:=nl) (s:=s) (i:=i) (by omega)
    have:=sk_le h2.2
    omega
theorem sk_idem (s:List UInt8):∀ (d i:Nat),s.length - i<=d->i<=s.length->sk s (sk s i)=sk s i:=by
 intro d
 induction d with
 | zero=>
  intro i h hl
  rw [show i=s.length from by omega,sk_eq (Nat.le_refl _),if_neg (by omega),sk_eq (Nat.le_refl _),if_neg (by omega)]
 | succ d ih=>
  intro i h hl
  by_cases c:i < s.length
  · have e:=sk_eq (s:=s) (i:=i) hl
    rw [if_pos c] at e
    by_cases c1:atL s i=32∨atL s i=9∨atL s i=10
    · rw [if_pos c1] at e
      rw [e]
      exact ih (i+1) (by omega) (by omega)
    · rw [if_neg c1] at e
      by_cases c2:atL s i=35∧dg (atL s (i+1))=false
      · rw [if_pos c2] at e
        have h1:=runL_gt (p:=nl) c (by rw [c2.1] <;> rfl)
        have h2:=runL_le (p:=nl) (s:=s) (i:=i) (by omega)
        rw [e]
        exact ih _ (by omega) h2.2
      · rw [if_neg c2] at e
        rw [e,e]
  · rw [show i=s.length from by omega,sk_eq (Nat.le_refl _),if_neg (by omega),sk_eq (Nat.le_refl _),if_neg (by omega)]
theorem runL_all2 {p:Nat->Bool} {s:List UInt8} {i:Nat}:∀ b ∈ (s.take (runL p s i)).drop i,p b.toNat=true:=by
 have h:(s.take (runL p s i)).drop i=(s.drop i).takeWhile fun c=>p c.toNat:=by
  unfold runL
  rw [List.drop_take,Nat.add_sub_cancel_left]
  generalize s.drop i=x
  induction x with
  | nil=>rfl
  | cons c x ih=>
   rw [List.takeWhile_cons]
   split
   · rw [List.length_cons,List.take_succ_cons,ih]
   · rfl
 rw [h]
 intro b hb
 have:=List.all_takeWhile (p:=fun c:UInt8=>p c.toNat) (l:=s.drop i)
 exact List.all_eq_true.1 this b hb
theorem slice_cons {s:List UInt8} {i k:Nat} (hi:i < k) (hk:k<=s.length):∃ c r,(s.take k).drop i=c :: r∧c.toNat=atL s i∧r.length=k - i - 1:=by
 have hl:i < (s.take k).length:=by rw [List.length_take];omega
 refine ⟨(s.take k)[i],(s.take k).drop (i+1),List.drop_eq_getElem_cons hl,?_,?_⟩
 · rw [List.getElem_take,atL_some (by omega)]
 · rw [List.length_drop,List.length_take];omega
theorem one_good {s:List UInt8} {i k:Nat} {x:Tk} (hi:i < s.length) (h:oneL s i=.inl (x,k)):goodT x∧(formT x).length=k - i∧(hashB x=true->atL s i=35∧k=i+1)∧(dg (atL s i)=true->x.1=2):=by
 have hbd:=oneL_bd hi h
 have hsl:((s.take k).drop i).length=k - i:=by rw [List.length_drop,List.length_take];omega
 obtain ⟨c,r,hc1,hc2,hc3⟩:=slice_cons hbd.1 hbd.2
 have oneL_def:oneL s i=if sm (atL s i) then .inl ((1,(s.take (runL pt s i)).drop i,i),runL pt s i)
  else if dg (atL s i) then (match numL s i with
   | some k=>.inl ((2,(s.take k).drop i,i),k)
   | none=>.inr 2)
  else if atL s i=34 then (match strL s i with
   | some (u,k)=>.inl ((3,u,i),k)
   | none=>.inr 4)
  else if opLen s i=0 then .inr 12
  else .inl ((4,(s.take (i+opLen s i)).drop i,i),i+opLen s i):=rfl
 rw [oneL_def] at h
 by_cases c1:sm (atL s i)=true
 · rw [if_pos c1] at h
   injection h with h
   injection h with h1 h2
   subst h1
   have ha:=runL_all2 (p:=pt) (s:=s) (i:=i)
   rw [h2] at ha ⊢
   refine ⟨.inl ⟨rfl,c,r,hc1,by rw [hc2];exact c1,fun b hb=>ha b (by rw [hc1];simp [hb])⟩,hsl,(fun hh=>by simp [hashB] at hh),fun hd=>?_⟩
   have:=(dg_ne ⟨atL s i,atL_lt s i⟩ hd).1
   simp only at this
   rw [c1] at this
   cases this
 · rw [if_neg c1] at h
   by_cases c2:dg (atL s i)=true
   · rw [if_pos c2] at h
     cases hn:numL s i with
     | none=>rw [hn] at h;cases h
     | some k'=>
      rw [hn] at h
      injection h with h
      injection h with h1 h2
      subst h1
      rw [h2] at hn ⊢
      unfold numL at hn
      obtain ⟨v,hv,hk⟩:=Option.map_eq_some_iff.1 hn
      have ha:=runL_all2 (p:=dg) (s:=s) (i:=i)
      rw [hk] at ha hv
      rw [<- List.drop_take] at hv
      exact ⟨.inr (.inl ⟨rfl,by show (s.take k).drop i≠[];rw [hc1];simp,ha,by show (numR ((s.take k).drop i) 0).isSome=true;rw [hv];rfl⟩),hsl,(fun hh=>by simp [hashB] at hh),fun _=>rfl⟩
   · rw [if_neg c2] at h
     by_cases c3:atL s i=34
     · rw [if_pos c3] at h
       cases hn:strL s i with
       | none=>rw [hn] at h;cases h
       | some y=>
        obtain ⟨u,k'⟩:=y
        rw [hn] at h
        injection h with h
        injection h with h1 h2
        subst h1
        have h2:k'=k:=h2
        subst h2
        unfold strL at hn
        simp only at hn
        split at hn
        · cases hn
        · split at hn
          · cases hn
          · rename_i hu
            injection hn with hn
            injection hn with h3 h4
            have h5:=unq_ok (Decidable.byContradiction hu)
            rw [h4] at h5 h3
            rw [h3] at h5
            refine ⟨.inr (.inr (.inl ⟨rfl,h5.2⟩)),?_,(fun hh=>by simp [hashB] at hh),fun hd=>by rw [c3] at hd;cases hd⟩
            show (quoteL u).length=_
            rw [<- h5.1]
            exact hsl
     · rw [if_neg c3] at h
       by_cases c4:opLen s i=0
       · rw [if_pos c4] at h;cases h
       · rw [if_neg c4] at h
         injection h with h
         injection h with h1 h2
         subst h1
         rw [h2]
         have hop:opW ((s.take k).drop i):=by
          rw [hc1]
          refine ⟨c,?_⟩
          unfold opLen at h2 c4
          by_cases d1:atL s (i+1)=61∧op2 (atL s i)=true
          · rw [if_pos d1] at h2
            right
            match r,hc3 with
            | [b],_=>
             refine ⟨?_,by rw [hc2];exact d1.2⟩
             have h5:s[i+1]?=some b:=by
              have h6:((s.take k).drop i)[1]?=some b:=by rw [hc1];rfl
              rw [List.getElem?_drop,List.getElem?_take_of_lt (by omega)] at h6
              exact h6
             have h7:=atL_get h5
             have:b=61:=by rw [<- UInt8.toNat_inj,<- h7];exact d1.1
             rw [this]
            | [],h=>simp at h;omega
            | _ :: _ :: _,h=>simp at h;omega
          · rw [if_neg d1] at h2 c4
            by_cases d2:op1 (atL s i)=true
            · rw [if_pos d2] at h2
              left
              match r,hc3 with
              | [],_=>exact ⟨rfl,by rw [hc2];exact d2⟩
              | _ :: _,h=>simp at h;omega
            · rw [if_neg d2] at c4
              exact absurd rfl c4
         refine ⟨.inr (.inr (.inr ⟨rfl,hop⟩)),hsl,fun hh=>?_,fun hd=>absurd hd c2⟩
         have hh:((s.take k).drop i == [35])=true:=hh
         have hh:=beq_iff_eq.1 hh
         rw [hc1] at hh
         injection hh with e1 e2
         subst e1 e2
         exact ⟨by rw [<- hc2];rfl,by simp at hc3;omega⟩
theorem toks_good (s:List UInt8):∀ (d i:Nat) (acc:List Tk),s.length - i<=d->i<=s.length->sk s i=i->(tk s i acc).2.2=0 ->
 ∃ r,tk s i acc=(acc++r++[(0,[],s.length)],0,0)∧chainT r∧(∀ b,(layE r b).length<=1+2 * (s.length - i))∧r.length<=s.length - i∧(i < s.length->dg (atL s i)=true->∃ y r',r=y :: r'∧y.1=2):=by
 have hend:∀ i acc,i=s.length->∃ r,tk s i acc=(acc++r++[(0,[],s.length)],0,0)∧chainT r∧(∀ b,(layE r b).length<=1+2 * (s.length - i))∧r.length<=s.length - i∧(i < s.length->dg (atL s i)=true->∃ y r',r=y :: r'∧y.1=2):=fun i acc hi=>by
  refine ⟨[],?_,trivial,fun b=>?_,Nat.zero_le _,fun h=>by omega⟩
  · rw [tk_eq _ (by omega),if_neg (by omega),List.append_nil]
  · cases b <;> simp [layE]
 intro d
 induction d with
 | zero=>intro i acc h hl _ _;exact hend i acc (by omega)
 | succ d ih=>
  intro i acc h hl hs h0
  by_cases c:i < s.length
  · rw [tk_eq _ hl,if_pos c] at h0 ⊢
    by_cases c1:acc.length=4000
    · rw [if_pos c1] at h0;cases h0
    · rw [if_neg c1] at h0 ⊢
      cases ho:oneL s i with
      | inr e=>
       have he:=oneL_err ho
       rw [ho] at h0
       simp only at h0
       omega
      | inl y=>
       obtain ⟨x,k⟩:=y
       rw [ho] at h0
       simp only at h0 ⊢
       have hbd:=oneL_bd c ho
       have hle:=sk_le hbd.2
       obtain ⟨g1,g2,g3,g4⟩:=one_good c ho
       obtain ⟨r,f1,f2,f3,f4,f5⟩:=ih (sk s k) (acc++[x]) (by omega) hle.2 (sk_idem s _ k (Nat.le_refl _) hbd.2) h0
       refine ⟨x :: r,?_,⟨g1,fun hh=>?_,f2⟩,fun b=>?_,?_,fun _ hd=>⟨x,r,rfl,g4 hd⟩⟩
       · rw [f1];simp
       · obtain ⟨h35,hk1⟩:=g3 hh
         have hdg:=(sk_stop c hs).2.2.2 h35
         have hlt:k < s.length:=by
          rcases Nat.lt_or_ge k s.length with h' | h'
          · exact h'
          · have h0:atL s k=0:=by unfold atL;rw [List.getElem?_eq_none h']
            rw [<- hk1,h0] at hdg;cases hdg
         rw [<- hk1] at hdg
         have n1:=dg_ne ⟨atL s k,atL_lt s k⟩ hdg
         simp only at n1
         have hsk:sk s k=k:=by rw [sk_eq (by omega),if_pos hlt,if_neg (by omega),if_neg (by omega)]
         rw [hsk] at f5
         exact f5 hlt hdg
       · have h3:=f3 (!hashB x)
         rw [layE_cons,List.length_append,List.length_append,g2]
         have:(if b then [32] else []:List UInt8).length<=1:=by cases b <;> simp
         omega
       · rw [List.length_cons];omega
  · exact hend i acc (by omega)
theorem toksL_len:∀ (m:Nat) (s:List UInt8) (i:Nat) (acc:List Tk),acc.length<=4000->(toksL m s i acc).1.length<=4001
 | 0,_,_,_,_=>by unfold toksL;simp
 | m+1,s,i,acc,h=>by
  unfold toksL
  split
  · split
    · simp
    · split
      · simp
      · exact toksL_len m _ _ _ (by rw [List.length_append,List.length_singleton];omega)
  · simp only [List.length_append,List.length_singleton];omega
theorem toks_len (s:List UInt8):(toks s).1.length<=4001:=by
 unfold toks
 split
 · simp
 · exact toksL_len _ _ _ _ (by simp)
theorem op_lex_Tokens (s:List UInt8) (hs:s.length<=900000) (bx):callOp CC (callL CC) 21 [.str s] bx=some (.ret (.tup [.sl (tkVs (toks s).1),.int .i64 ((toks s).2.1:Nat),.int .i64 (toks s).2.2]),bx):=by
 obtain ⟨b0,hT⟩:=call_lex_Tokens s (by omega)
 exact callOp_of rfl (by simp only [SA,Bool.and_true]) hT (pureTks _ _ _)
end Go.HH
