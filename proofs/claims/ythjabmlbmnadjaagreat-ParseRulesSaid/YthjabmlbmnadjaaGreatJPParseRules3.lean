/-
  What the law needs, packed: HJ HI.
-/
import Derived.Test.YthjabmlbmnadjaaGreatJPParseRules2
open Go.Proofs.Tryz renaming f7->yW,f3->yY
open Option renaming getD->yX
open List renaming length_singleton->yZ,set_cons_zero->y0,set_cons_succ->y1,mem_singleton->y2,length_append->y3,mem_append->y4
namespace Go.HH
open Go Go.Proofs
set_option maxRecDepth 100000
set_option maxHeartbeats 4000000
set_option linter.unusedSimpArgs false
set_option linter.unusedVariables false
theorem lV {L:List Tk} (hT:TokOK L) {n i:Nat} {a:Sp} {j:Nat} (h:FQ L n i=.ok a j):Fi a.ex:=by
 have hw:∀ {n i:Nat} {a:Tr} {j:Nat},Db L n i=.ok a j->Fi a:=fun {n i a j} h=>by
  unfold Db at h;obtain ⟨e,k,r,h⟩:=Ao h;split at h
  · injection h with h _
    subst h;exact Z3 hT _ .expr _ _ _ _ trivial r
  · cases h
 unfold FQ at h;split at h
 · obtain ⟨_,_,_,h⟩:=Ao h
   obtain ⟨_,_,_,h⟩:=Ao h;obtain ⟨e,_,r,h⟩:=Ao h;injection h with h _
   subst h;exact hw r
 split at h
 · obtain ⟨_,_,_,h⟩:=Ao h
   split at h
   · obtain ⟨e,_,r,h⟩:=Ao h
     obtain ⟨_,_,_,h⟩:=Ao h;injection h with h _
     subst h;exact hw r
   · injection h with h _
     subst h;exact O6
 split at h
 · obtain ⟨_,_,_,h⟩:=Ao h
   injection h with h _
   subst h;exact O6
 split at h
 · obtain ⟨_,_,_,h⟩:=Ao h
   injection h with h _
   subst h;exact O6
 · obtain ⟨_,_,_,h⟩:=Ao h
   obtain ⟨_,_,_,h⟩:=Ao h;injection h with h _
   subst h;exact O6
theorem Kn {α:Type} {L:List Tk} {w:List UInt8} {part:Nat->PR α} (P:α->Prop) (hp:∀ i a j,part i=.ok a j->P a):∀ (m:Nat) (acc:List α) (i:Nat) (l:List α) (j:Nat),(∀ x ∈ acc,P x)->acc.length<=8->BU L w part m acc i=.ok l j->(∀ x ∈ l,P x)/\l.length<=8
 | 0,_,_,_,_,_,_,h=>by cases h
 | m+1,acc,i,l,j,ha,h8,h=>by
  rw [BU] at h;split at h
  · split at h
    · cases h
    · rename_i DZ
      obtain ⟨_,_,_,h⟩:=Ao h;obtain ⟨a,_,r,h⟩:=Ao h;obtain ⟨_,_,_,h⟩:=Ao h;refine Kn P hp m _ _ _ _ (fun x hx=>?_) (by rw [y3,yZ];omega) h;rcases y4.1 hx with hx | hx
      · exact ha x hx
      · rw [y2] at hx
        subst hx;exact hp _ _ _ r
  · injection h with h _
    subst h;exact ⟨ha,h8⟩
theorem u7:Fi wT:=Hm 1 1
theorem lW {L:List Tk} (hT:TokOK L) {n:Nat} {rs:List Rl} {i:Nat} {r:Rl} {j:Nat} (h:Jr L n rs i=.ok r j):pK r:=by
 unfold Jr at h;split at h
 · cases h
 obtain ⟨_,_,_,h⟩:=Ao h;obtain ⟨_,_,_,h⟩:=Ao h;split at h
 · cases h
 obtain ⟨_,_,_,h⟩:=Ao h;obtain ⟨_,_,_,h⟩:=Ao h;obtain ⟨on,_,r1,h⟩:=Ao h;obtain ⟨e,_,r2,h⟩:=Ao h;obtain ⟨dos,_,r3,h⟩:=Ao h;obtain ⟨_,_,_,h⟩:=Ao h;injection h with h _
 subst h;have h1:=Kn (fun _=>True) (fun _ _ _ _=>trivial) _ _ _ _ _ (fun x hx=>by cases hx) (by simp) r1;have h3:=Kn (fun x:Sp=>Fi x.ex) (fun _ _ _ h=>lV hT h) _ _ _ _ _ (fun x hx=>by cases hx) (by simp) r3;refine ⟨by simp only;omega,by simp only;omega,?_,h3.1⟩;split at r2
 · obtain ⟨a,_,r4,r2⟩:=Ao r2
   obtain ⟨_,_,_,r2⟩:=Ao r2;injection r2 with r2 _
   subst r2;unfold Db at r4;obtain ⟨_,_,r5,r4⟩:=Ao r4;split at r4
   · injection r4 with r4 _
     subst r4;exact Z3 hT _ .expr _ _ _ _ trivial r5
   · cases r4
 · injection r2 with r2 _
   subst r2;exact u7
theorem WJ {L:List Tk} (hT:TokOK L) {n:Nat}:∀ (m:Nat) (rs:List Rl) (i:Nat) (l:List Rl) (j:Nat),i < L.length->rs.length<=40->(∀ x ∈ rs,pK x)->E6 L n m rs i=.ok l j->(∀ x ∈ l,pK x)/\l.length<=40
 | 0,_,_,_,_,_,_,_,h=>by cases h
 | m+1,rs,i,l,j,hi,h4,hs,h=>by
  rw [E6] at h;split at h
  · injection h with h _
    subst h;exact ⟨hs,h4⟩
  · obtain ⟨r,k,hr,h⟩:=Ao h
    have Bq:=OS hT hi hr;refine WJ hT m _ _ _ _ Bq.1 (by rw [y3,yZ];omega) (fun x hx=>?_) h;rcases y4.1 hx with hx | hx
    · exact hs x hx
    · rw [y2] at hx
      subst hx;exact lW hT hr
theorem WK {s:List UInt8} (hs:s.length<=3900):(∀ x ∈ (DR s).1,pK x)/\(DR s).1.length<=40:=by
 have hn:(∀ x ∈ ([]:List Rl),pK x)/\([]:List Rl).length<=40:=⟨fun x hx=>(by cases hx),by decide⟩;unfold DR;by_cases h0:(Bd s).2.2=0
 · rw [if_pos h0]
   have hT:=GJ s hs h0;cases hr:E6 (Bd s).1 (Ww (Bd s).1) 42 [] 0 with
   | ok l j=>exact WJ hT _ _ _ _ _ hT.pos (by decide) (fun x hx=>by cases hx) hr
   | bad t c=>exact hn
   | out=>exact hn
 · rw [if_neg h0]
   exact hn
theorem O7:Bk CC yY (yY.body.getD .skip)=true:=by kernel_rfl
theorem N0:CC.P.funcs[3]?=some yY:=by kernel_rfl
def xE (d:List Rl×RS):List Rl:=if d.2.c=0 then d.1 else []
def vb (d:List Rl×RS):PV:=if d.2.c=0 then .sl (d.1.map CW) else .osl 52 []
theorem yT (T:Code) (hL:T=Aa yW [1,1,1,1,1,1]) {L:List Tk} (d:List Rl×RS) (Nm:PV) (e:List PV) (h8:getT e 8=.bp 0 0) (h9:getT e 9=.osl 52 (d.1.map CW)) :
 ∃ e',Hg CC T ⟨e,[Be L d.2 0 Nm]⟩=some (.ret,⟨e',[Be L d.2 0 Nm]⟩)/\getT e' 2=vb d/\getT e' 3=.int .i64 (if d.2.c=0 then 0 else (d.2.t:Int))/\getT e' 4=.int .i64 d.2.c:=by
 obtain ⟨rs,s⟩:=d;have hd:=fun e h8=>oP (L:=L) (s:=s) (Nm:=Nm) e h8;simp only [<- AP uY] at hd;rw [hL];unfold vb;simp only at h9 |-;by_cases c0:s.c=0
 · have K5:(s.c != 0)=false:=by rw [c0];rfl
   simp only [c0,if_true];rw [c0] at K5;generalize rs.map CW=xs at *;unfold Be;rw [c0];rw [<- B5];simp only [opsOf,Aa,Ac,yW,yX] at |-;simp only [S9,AT,seval,PY,Bv,ZC,Al,h8,h9,K5];exact ⟨_,rfl,by simp only [S7,AT,seval,h9],by simp only [S7,AT,seval],by simp only [S7,AT,seval]⟩
 · have K5:(s.c != 0)=true:=bne_iff_ne.2 c0
   simp only [c0,if_false];unfold Be at hd |-;rw [<- B5];rw [<- Fm] at hd;simp only [opsOf,Aa,Ac,yW,yX] at|-hd;simp only [S9,AT,seval,PY,Bv,ZC,Al,h8,K5];generalize hE:Zk _ _=z
   have hP:∃ e',z=some (.normal,⟨e',[.cells 69 [.sl (A2 L),.int .i64 (s.i:Int),.int .i64 s.c,.int .i64 (s.t:Int),.int .i64 ((0:Nat):Int),Nm]]⟩)/\getT e' 2=.osl 52 []/\getT e' 3=.int .i64 (s.t:Int)/\getT e' 4=.int .i64 s.c:=by
    rw [<- hE];refine hd _ ?_;simp only [S7,AT,seval,h8]
   obtain ⟨e',he,g2,g3,g4⟩:=hP;subst he;clear hE hd;simp only [S9,AT,seval,PY,Bv,ZC,Al,SX];exact ⟨_,rfl,g2,g3,g4⟩
theorem xF (l:List PV):Bp CC 69 [(0,.sl l)]=some (.agg [.sl l,.int .i64 0,.int .i64 0,.int .i64 0,.int .i64 0,.nils]):=by kernel_rfl
theorem N1 (s:List UInt8) (hs:s.length<=40000) (h0:(Bd s).2.2≠0):∃ bx,Ae CC 7 [.str s] []=some (.ret (.tup [.sl [],.int .i64 ((Bd s).2.1:Nat),.int .i64 (Bd s).2.2]),bx):=by
 have ht:=GP s hs;have hn:((Bd s).2.2 != 0)=true:=bne_iff_ne.2 h0;generalize Bd s=T at *;rw [WI rfl];rw [<- B5];rw [<- Cu] at ht;simp only [opsOf,Aa,Ac,yW,yX];simp only [S9,AT,seval,PY,Bv,ZC,Al,ht,hn];exact ⟨_,rfl⟩
theorem T9 (s:List UInt8) (hs:s.length<=40000) (h0:(Bd s).2.2=0) (hT:TokOK (Bd s).1) (n m:Nat) (hn:12 * (Bd s).1.length+10<=n) (RR:n<=1000000) (hm:m<=60) {d:List Rl×RS} (hd:Km (Bd s).1 n 0 m [] [] ⟨0,0,0⟩=some d):∃ bx,Ae CC 7 [.str s] []=some (.ret (.tup [.sl ((xE d).map CW),.int .i64 (if d.2.c=0 then 0 else (d.2.t:Int)),.int .i64 d.2.c]),bx):=by
 have ht:=GP s hs;have hP:=xF;rw [h0] at ht;have DZ:((0:Int) != 0)=false:=rfl;generalize (Bd s).1=L at *;generalize (Bd s).2.1=at0 at *;obtain ⟨Lc,p8⟩:∃ Lc,Lc=Aa yW [1,1,1,1,1,0,0]:=⟨_,rfl⟩;obtain ⟨T6,p7⟩:∃ T6,T6=Aa yW [1,1,1,1,1,1]:=⟨_,rfl⟩;have CY:yW.body.getD .skip=.seq (Aa yW [0]) (.seq (Aa yW [1,0]) (.seq (Aa yW [1,1,0]) (.seq (Aa yW [1,1,1,0]) (.seq (Aa yW [1,1,1,1,0]) (.seq (.block 0 Lc) T6))))):=by rw [p7,p8];rfl
 have iA:=fun e=>u6 Lc p8 hT hn RR m [] [] ⟨0,0,0⟩ e (fun _=>hT.pos) (by simp only [List.length_nil];omega) rfl;rw [hd] at iA;have dJ:=fun e Nm=>yT T6 p7 (L:=L) d Nm e;rw [WI rfl];rw [CY];have VU:((0:Nat):Int)=0:=rfl
 have key:∀ e,getT e 8=.bp 0 0->getT e 9=.osl 52 []->∃ e' ns,Hg CC (.seq (.block 0 Lc) T6) ⟨e,[Be L ⟨0,0,0⟩ 0 .nils]⟩=some (.ret,⟨e',[Be L d.2 0 (TZ ns)]⟩)/\getT e' 2=vb d/\getT e' 3=.int .i64 (if d.2.c=0 then 0 else (d.2.t:Int))/\getT e' 4=.int .i64 d.2.c:=fun e k8 k9=>by
  obtain ⟨e1,ns,he,q8,q9⟩:=iA e k8 k9;obtain ⟨e2,h2,g2,g3,g4⟩:=dJ e1 (TZ ns) q8 q9;refine ⟨e2,ns,?_,g2,g3,g4⟩;unfold Hg at *;rw [K8,HV];have he:Ht CC true Lc ⟨e,[Be L ⟨0,0,0⟩ 0 .nils]⟩=some (.exit 0,⟨e1,[Be L d.2 0 (TZ ns)]⟩):=he;rw [he];exact h2
 clear iA dJ hd hT hn RR hm;generalize Code.seq (.block 0 Lc) T6=TT at *;unfold Be at key;simp only [VU] at key;rw [<- B5] at key |-;rw [<- Cu] at ht;simp only [opsOf,Aa,Ac,yW,yX];simp only [S9,AT,seval,PY,Bv,ZC,Al,ht,hP,DZ];generalize hE:Rw TT _=z
 have hQ:∃ e' ns,z=some (.ret,⟨e',[.cells 69 [.sl (A2 L),.int .i64 (d.2.i:Int),.int .i64 d.2.c,.int .i64 (d.2.t:Int),.int .i64 0,TZ ns]]⟩)/\getT e' 2=vb d/\getT e' 3=.int .i64 (if d.2.c=0 then 0 else (d.2.t:Int))/\getT e' 4=.int .i64 d.2.c:=by
  rw [<- hE];refine key _ ?_ ?_
  all_goals simp only [S7,AT,seval]
 obtain ⟨e',ns,he,g2,g3,g4⟩:=hQ;subst he;clear hE key;unfold vb at g2;unfold xE;by_cases c0:d.2.c=0
 · simp only [c0,if_true] at g2 g3 g4 |-
   generalize d.1.map CW=xs at *;simp only [S9,AT,seval,PY,Bv,ZC,Al,g2,g3,g4];exact ⟨_,rfl⟩
 · simp only [c0,if_false] at g2 g3 g4 |-
   simp only [S9,AT,seval,PY,Bv,ZC,Al,g2,g3,g4];exact ⟨_,rfl⟩
theorem oR (s:List UInt8) (hs:s.length<=3900) (bx):Ak CC (Ae CC) 7 [.str s] bx=some (.ret (.tup [.sl ((DR s).1.map CW),.int .i64 ((DR s).2.1:Int),.int .i64 (DR s).2.2]),bx):=by
 have vE:∀ (l:List Rl) (a b:Int),(PV.tup [.sl (l.map CW),.int .i64 a,.int .i64 b]).pure=true:=fun l a b=>by simp only [PV.pure,Aq,map_pure CW Ej,Bool.and_self]
 have h:∃ bx',Ae CC 7 [.str s] []=some (.ret (.tup [.sl ((DR s).1.map CW),.int .i64 ((DR s).2.1:Int),.int .i64 (DR s).2.2]),bx'):=by
  unfold DR;by_cases h0:(Bd s).2.2=0
  · rw [if_pos h0]
    have hT:=GJ s hs h0;have hf:Ww (Bd s).1=12 * (Bd s).1.length+10:=rfl;have hlen:=hT.len;have w0:=rB hT (n:=Ww (Bd s).1) (by omega) 42 [] 0 0 (by simp) hT.pos;have BD:=fun d hd=>T9 s (by omega) h0 hT (Ww (Bd s).1) 43 (by omega) (by omega) (by omega) (d:=d) hd;have hw:=TM hT 42 [] 0 hT.pos (by simp) (by simp);cases hr:E6 (Bd s).1 (Ww (Bd s).1) 42 [] 0 with
    | out=>exact absurd hr hw
    | bad t c=>
     rw [hr] at w0;obtain ⟨⟨a,i2,h⟩,he⟩:=w0;obtain ⟨b0,hc⟩:=BD _ h;unfold xE at hc;simp only [if_neg he] at hc;exact ⟨b0,hc⟩
    | ok a i=>
     rw [hr] at w0;obtain ⟨b0,hc⟩:=BD _ w0;exact ⟨b0,hc⟩
  · rw [if_neg h0]
    exact N1 s (by omega) h0
 obtain ⟨b0,h⟩:=h;exact Ax rfl (by simp only [SA,Bool.and_true]) h (vE _ _ _)
theorem Ua (s:List UInt8) (_:s.length<=maxLen):∃ bx,Ae CC 3 [.str s] []=some (.ret (.bool true),bx):=by
 have pe:=ax;rw [Ah (fn:=yY) (c:=yY.body.getD .skip) rfl rfl N0 rfl O7 (Nat.le_of_ble_eq_true rfl)];have hlen:=AX s;by_cases c1:3000 < s.length
 · have c1':(s.length:Int) > 3000:=by omega
   rw [<- Am];rw [<- AK] at pe;simp only [Aa,Ac,yY,yX];simp only [S9,Ag,seval,ZC,C8,y0,y1,hlen,c1',pe];exact ⟨_,rfl⟩
 · have c1':¬ (s.length:Int) > 3000:=by omega
   have x1:=LK s (by omega);have x2:=oR s (by omega);have sm:=Qy (DR s).1 (by have:=(WK (s:=s) (by omega)).2;omega) (WK (s:=s) (by omega)).1;generalize (DR s).1.map CW=a at *;generalize (DR s).2.1=n at *;generalize (DR s).2.2=er at *;rw [<- Am];rw [<- AK] at pe x1 x2 sm;simp only [Aa,Ac,yY,yX];simp only [S9,Ag,seval,ZC,C8,y0,y1,SX,hlen,c1',pe,x1,x2,sm,PV.pure,Aq];exact ⟨_,rfl⟩
end Go.HH
