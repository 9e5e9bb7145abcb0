/-
  What the law needs, packed: UZ.
-/
import Derived.Test.YthjabmlbmnadjaaKPParseCompares1
namespace Go.HH
open Go Go.Proofs
set_option maxRecDepth 100000
set_option maxHeartbeats 4000000
set_option linter.unusedSimpArgs false
set_option linter.unusedVariables false
theorem law_ParseCompares (s:List UInt8) (_:s.length<=maxLen) (t:List UInt8) (_:t.length<=maxLen):∃ bx,callL CC 7 [.str s,.str t] []=some (.ret (.bool true),bx):=by
 have haw:=op_awake
 have hlen:=len_str s
 have hlent:=len_str t
 rw [callL_enterB (fn:=Try.f7) (c:=Try.f7.body.getD .skip) rfl rfl fat_pc rfl noB_pc okB_pc (Nat.le_of_ble_eq_true rfl)]
 have hd1:=fun st=>drawM_calm (call:=callL CC) (st:=st) draw_ok_p1
 by_cases c1:100 < s.length
 · have c1':(s.length:Int) > 100:=by omega
   obtain ⟨dr,ev,eo,so,co,⟨hev,hco,heo,hdr⟩,R⟩:=RULESB CC
   rw [<- hev]
   rw [<- hdr,<- heo] at hd1
   rw [<- hco] at haw
   simp only [opsOf,fpart,part',Try.f7,Option.getD] at hd1 ⊢
   simp only [S9,R,seval,ZC,nchP,List.set_cons_zero,List.set_cons_succ,hlen,hlent,c1',haw]
   exact ⟨_,rfl⟩
 have c1':¬ (s.length:Int) > 100:=by omega
 by_cases c2:100 < t.length
 · have c2':(t.length:Int) > 100:=by omega
   obtain ⟨dr,ev,eo,so,co,⟨hev,hco,heo,hdr⟩,R⟩:=RULESB CC
   rw [<- hev]
   rw [<- hdr,<- heo] at hd1
   rw [<- hco] at haw
   simp only [opsOf,fpart,part',Try.f7,Option.getD] at hd1 ⊢
   simp only [S9,R,seval,ZC,nchP,List.set_cons_zero,List.set_cons_succ,hlen,hlent,c1',c2',haw]
   exact ⟨_,rfl⟩
 have c2':¬ (t.length:Int) > 100:=by omega
 have x1:=exE s (by omega)
 have x2:=exE t (by omega)
 by_cases d1:(exprA s).2.2=0
 rotate_left
 · have d1':((exprA s).2.2 != 0)=true:=bne_iff_ne.2 d1
   generalize (exprA s).1=a at *
   generalize (exprA t).1=b at *
   generalize (exprA s).2.1=n1 at *
   generalize (exprA t).2.1=n2 at *
   generalize (exprA s).2.2=r1 at *
   generalize (exprA t).2.2=r2 at *
   obtain ⟨dr,ev,eo,so,co,⟨hev,hco,heo,hdr⟩,R⟩:=RULESB CC
   rw [<- hev]
   rw [<- hdr,<- heo] at hd1
   rw [<- hco] at haw x1 x2
   simp only [opsOf,fpart,part',Try.f7,Option.getD] at hd1 ⊢
   simp only [S9,R,seval,ZC,nchP,List.set_cons_zero,List.set_cons_succ,SX,hd1,hlen,hlent,c1',c2',haw,x1,x2,d1']
   exact ⟨_,rfl⟩
 by_cases d2:(exprA t).2.2=0
 rotate_left
 · have d2':((exprA t).2.2 != 0)=true:=bne_iff_ne.2 d2
   rw [d1] at x1
   generalize (exprA s).1=a at *
   generalize (exprA t).1=b at *
   generalize (exprA s).2.1=n1 at *
   generalize (exprA t).2.1=n2 at *
   generalize (exprA t).2.2=r2 at *
   obtain ⟨dr,ev,eo,so,co,⟨hev,hco,heo,hdr⟩,R⟩:=RULESB CC
   rw [<- hev]
   rw [<- hdr,<- heo] at hd1
   rw [<- hco] at haw x1 x2
   simp only [opsOf,fpart,part',Try.f7,Option.getD] at hd1 ⊢
   simp only [S9,R,seval,ZC,nchP,List.set_cons_zero,List.set_cons_succ,SX,hd1,hlen,hlent,c1',c2',haw,x1,x2,d2']
   exact ⟨_,rfl⟩
 have sa:=exA_sh (s:=s) (by omega)
 have sb:=exA_sh (s:=t) (by omega)
 have ka:ckT (exprA s).1=0:=by obtain ⟨_,_,_,_,_,_,h⟩:=exprA_ok (by omega) d1;exact h
 have kb:ckT (exprA t).1=0:=by obtain ⟨_,_,_,_,_,_,h⟩:=exprA_ok (by omega) d2;exact h
 obtain ⟨za,ya,_⟩:=ck_of ka
 obtain ⟨zb,yb,_⟩:=ck_of kb
 have s1:=szE _ sa (by omega)
 have s2:=szE _ sb (by omega)
 have p1:=dpE _ sa (by omega)
 have p2:=dpE _ sb (by omega)
 have hw:=wrap_i64 (n:=((szT (exprA s).1:Nat):Int)+((szT (exprA t).1:Nat):Int)) ⟨by omega,by omega⟩
 rw [d1] at x1
 rw [d2] at x2
 by_cases q1:szT (exprA s).1+szT (exprA t).1<=100
 rotate_left
 · have q1':((szT (exprA s).1:Nat):Int)+((szT (exprA t).1:Nat):Int) > 100:=by omega
   generalize (exprA s).1=a at *
   generalize (exprA t).1=b at *
   generalize (exprA s).2.1=n1 at *
   generalize (exprA t).2.1=n2 at *
   obtain ⟨dr,ev,eo,so,co,⟨hev,hco,heo,hdr⟩,R⟩:=RULESB CC
   rw [<- hev]
   rw [<- hdr,<- heo] at hd1
   rw [<- hco] at haw x1 x2 s1 s2 p1 p2
   simp only [opsOf,fpart,part',Try.f7,Option.getD] at hd1 ⊢
   simp only [S9,R,seval,ZC,nchP,List.set_cons_zero,List.set_cons_succ,SX,hd1,hlen,hlent,c1',c2',haw,x1,x2,s1,s2,p1,p2,hw,q1',PV.pure,pureL]
   exact ⟨_,rfl⟩
 have q1':¬ ((szT (exprA s).1:Nat):Int)+((szT (exprA t).1:Nat):Int) > 100:=by omega
 by_cases q2:dpT (exprA s).1<=20
 rotate_left
 · have q2':((dpT (exprA s).1:Nat):Int) > 20:=by omega
   generalize (exprA s).1=a at *
   generalize (exprA t).1=b at *
   generalize (exprA s).2.1=n1 at *
   generalize (exprA t).2.1=n2 at *
   obtain ⟨dr,ev,eo,so,co,⟨hev,hco,heo,hdr⟩,R⟩:=RULESB CC
   rw [<- hev]
   rw [<- hdr,<- heo] at hd1
   rw [<- hco] at haw x1 x2 s1 s2 p1 p2
   simp only [opsOf,fpart,part',Try.f7,Option.getD] at hd1 ⊢
   simp only [S9,R,seval,ZC,nchP,List.set_cons_zero,List.set_cons_succ,SX,hd1,hlen,hlent,c1',c2',haw,x1,x2,s1,s2,p1,p2,hw,q1',q2',PV.pure,pureL]
   exact ⟨_,rfl⟩
 have q2':¬ ((dpT (exprA s).1:Nat):Int) > 20:=by omega
 by_cases q3:dpT (exprA t).1<=20
 rotate_left
 · have q3':((dpT (exprA t).1:Nat):Int) > 20:=by omega
   generalize (exprA s).1=a at *
   generalize (exprA t).1=b at *
   generalize (exprA s).2.1=n1 at *
   generalize (exprA t).2.1=n2 at *
   obtain ⟨dr,ev,eo,so,co,⟨hev,hco,heo,hdr⟩,R⟩:=RULESB CC
   rw [<- hev]
   rw [<- hdr,<- heo] at hd1
   rw [<- hco] at haw x1 x2 s1 s2 p1 p2
   simp only [opsOf,fpart,part',Try.f7,Option.getD] at hd1 ⊢
   simp only [S9,R,seval,ZC,nchP,List.set_cons_zero,List.set_cons_succ,SX,hd1,hlen,hlent,c1',c2',haw,x1,x2,s1,s2,p1,p2,hw,q1',q2',q3',PV.pure,pureL]
   exact ⟨_,rfl⟩
 have q3':¬ ((dpT (exprA t).1:Nat):Int) > 20:=by omega
 have hloop:=fun Lc hL e bx=>loop_PC Lc hL (s:=s) (t:=t) (by omega) (by omega) d1 d2 q1 q2 q3 sa sb 6 0 e bx (by omega)
 have hd:=fun B2 e h5 h8=>draw_pc (exprA s).1 (exprA t).1 B2 e h5 h8
 simp only [<- drawM_all draw_no_pc] at hd
 have hb:=pcS_build
 have hz:=pcS_zero
 have hf:=pcS_f
 generalize (exprA s).1=a at *
 generalize (exprA t).1=b at *
 generalize (exprA s).2.1=n1 at *
 generalize (exprA t).2.1=n2 at *
 generalize pcS=ps at *
 have hpn:∀ x ∈ pcL a b,x.2.1≠0∧x.2.1≠1∧x.2.1≠11:=by unfold pcL;simp
 obtain ⟨dr,ev,eo,so,co,⟨hev,hco,heo,hdr⟩,R⟩:=RULESB CC
 rw [<- hev] at hloop ⊢
 rw [<- hdr,<- heo] at hd1
 rw [<- hdr] at hd
 rw [<- hco] at haw x1 x2 s1 s2 p1 p2
 simp only [opsOf,fpart,part',Try.f7,Option.getD] at hd1 hd hloop ⊢
 have hd3:∀ e,getT e 5=.bp 0 0->getT e 8=.bp 1 0->getT e 0=.str s->getT e 1=.str t->getT e 11=.bp 2 0->∃ e',dr _ ⟨e,[.cells 34 (exC a),.cells 34 (exC b),.cells 50 ps]⟩=some (.normal,⟨e',[.cells 34 (exC a),.cells 34 (exC b),.cells 50 ps,.cells 53 (pcC a b)]⟩)∧getT e' 12=.bp 3 0∧getT e' 0=.str s∧getT e' 1=.str t∧getT e' 11=.bp 2 0:=fun e h5 h8 h0 h1 h11=>by
  obtain ⟨e',g1,g2,g3⟩:=hd (.cells 50 ps) e h5 h8
  exact ⟨e',g1,g2,(g3 0 fun x hx=>(hpn x hx).1).trans h0,(g3 1 fun x hx=>(hpn x hx).2.1).trans h1,(g3 11 fun x hx=>(hpn x hx).2.2).trans h11⟩
 clear hd
 simp only [S9,R,seval,ZC,nchP,List.set_cons_zero,List.set_cons_succ,SX,hd1,hlen,hlent,c1',c2',haw,x1,x2,s1,s2,p1,p2,hw,q1',q2',q3',hb,hz,hf,PV.pure,pureL]
 generalize hE:dr _ _=z
 have hP:∃ e',z=some (.normal,⟨e',[.cells 34 (exC a),.cells 34 (exC b),.cells 50 ps,.cells 53 (pcC a b)]⟩)∧getT e' 12=.bp 3 0∧getT e' 0=.str s∧getT e' 1=.str t∧getT e' 11=.bp 2 0:=by
  rw [<- hE]
  refine hd3 _ ?_ ?_ ?_ ?_ ?_
  all_goals first | (simp only [S7,R,seval];done) | (simp only [S7,R,seval] <;> rfl)
 clear hE hd3
 obtain ⟨e',h1,g12,g0,g1,g11⟩:=hP
 subst h1
 simp only [S9,R,seval,ZC,nchP,List.set_cons_zero,List.set_cons_succ,g12,g0,g1,g11]
 generalize hE:ev (Code.loop _) _=z
 have hP:PCo z:=by
  rw [<- hE]
  refine hloop _ rfl _ _ rfl rfl ?_ ?_ ?_ ?_ ?_
  all_goals first | (simp only [S7,R,seval,g12,g0,g1,g11];done) | (simp only [S7,R,seval,g12,g0,g1,g11] <;> rfl)
 clear hE hloop
 obtain ⟨e'',bx'',h2⟩:=hP
 subst h2
 simp only [S9,R,seval,ZC,nchP,List.set_cons_zero,List.set_cons_succ,haw]
 exact ⟨_,rfl⟩
end Go.HH
