/-
  What the law needs, packed: Q4 PA.
-/
import Derived.Test.YthjcaihemgllaaaGreatDoorJ35
open Option renaming getD->Aa0,map_eq_some_iff->Aai
open Nat renaming le_of_ble_eq_true->Aa1,le_refl->Aae,lt_or_ge->Ab1
open Bool renaming and_true->Aa2,eq_iff_iff->Aac
open Int renaming toNat_natCast->Aa3
open List renaming set_cons_zero->Aa4,set_cons_succ->Aa5,getElem?_eq_some_iff->Aa9,length_append->Aad,drop_eq_getElem_cons->Aag,length_take->Aaj,length_drop->Aak,length_singleton->Aal,getElem?_eq_none->Aam,range->Aao,length_cons->Aar,take_succ_cons->Aas,takeWhile_cons->Aat,append_assoc->Aau,all_eq_true->Aav,map_append->Aax,length_map->Aay,drop_take->Ab0
open Go.Proofs.Tryz renaming f21->Aa6,f97->Aa7,f45->Aa8,f96->Aaa,f46->Aab,f92->Aaf,prog->Aah,f90->Aan,f98->Aaq
open Go.Lib renaming indexByte->Aap
open UInt8 renaming toNat_lt->Aaw
open Go.IntKind renaming wrap->Aaz
open List.Sublist renaming length_le->Ab2
namespace Go.HH
open Go Go.Proofs
set_option maxRecDepth 100000
set_option linter.unusedSimpArgs false
set_option linter.unusedVariables false
theorem fA:Be CC Aan (Aan.body.getD .skip)=true:=by kernel_rfl
theorem aG:CC.P.funcs[90]?=some Aan:=by kernel_rfl
theorem aH:Be CC Aaf (Aaf.body.getD .skip)=true:=by kernel_rfl
theorem Yj:CC.P.funcs[92]?=some Aaf:=by kernel_rfl
theorem Yk:Be CC Aa8 (Aa8.body.getD .skip)=true:=by kernel_rfl
theorem Wd:CC.P.funcs[45]?=some Aa8:=by kernel_rfl
theorem TH:Be CC Aaa (Aaa.body.getD .skip)=true:=by kernel_rfl
theorem Ry:CC.P.funcs[96]?=some Aaa:=by kernel_rfl
theorem Yl (C:Cfg) (e:List PV) (f:FuncId):opd C e (.func f)=.fn f [] []:=rfl
noncomputable def fB (f:FuncId) (g:Nat->Bool) (n:Nat):Bool:=match Ff CC 50 f [.int .i32 n] [] with
 | some (.ret (.bool b),[])=>b == g n
 | _=>false
theorem MT {f:FuncId} {g:Nat->Bool} (h:(Aao 256).all (fB f g)=true) (n:Nat) (hn:n < 256) (bx) (hh:CC.heap f=false:=by rfl):Ai CC (Ad CC) f [.int .i32 (n:Int)] bx=some (.ret (.bool (g n)),bx):=by
 have:=Aav.1 h n (List.mem_range.2 hn);unfold fB at this;split at this
 · rename_i b hs
   have e:b=g n:=by simpa using this
   subst e;exact Aq hh (by simp only [SA,Aa2]) (ES.2 ⟨50,hs⟩) rfl
 · cases this
def dg (n:Nat):Bool:=decide (48<=n) && decide (n<=57)
def sm (n:Nat):Bool:=decide (97<=n) && decide (n<=122)
def pt (n:Nat):Bool:=sm n || dg n || n == 95 || n == 45
def nl (n:Nat):Bool:=n != 10
theorem jk:(Aao 256).all (fB 91 dg)=true:=by kernel_rfl
theorem rN:(Aao 256).all (fB 94 sm)=true:=by kernel_rfl
theorem rO:(Aao 256).all (fB 95 pt)=true:=by kernel_rfl
theorem rP:(Aao 256).all (fB 93 nl)=true:=by kernel_rfl
theorem MU (n:Nat) (hn:n < 256) (bx):Ai CC (Ad CC) 91 [.int .i32 (n:Int)] bx=some (.ret (.bool (dg n)),bx):=MT jk n hn bx
theorem We (n:Nat) (hn:n < 256) (bx):Ai CC (Ad CC) 94 [.int .i32 (n:Int)] bx=some (.ret (.bool (sm n)),bx):=MT rN n hn bx
theorem Ym (s:List UInt8) (i:Nat):Ad CC 90 [.str s,.int .i64 (i:Int)] []=some (.ret (.int .i32 (Ca s i:Int)),[]):=by
 rw [Ah (fn:=Aan) (c:=Aan.body.getD .skip) rfl rfl aG rfl fA (Aa1 rfl)];have hlen:=Bk s;by_cases c1:(i:Int) ≥ (s.length:Int)
 · have e:Ca s i=0:=by unfold Ca;rw [Aam (by omega)]
   rw [e];rw [<- An];simp only [Ab,Ac,Aan,Aa0];simp only [S7,Ag,seval,TG,hlen,c1]
   try rfl
 · have hx:s[i]?=some (s[i]'(by omega)):=by simp
   have e:=MS hx;have Qp:=Ki s i _ hx;have bZ:=Aaw (s[i]'(by omega));have ZH:=U8 ((s[i]'(by omega)).toNat:Int) ⟨by omega,by omega⟩;rw [e];generalize s[i]'(by omega)=c at *;rw [<- An];simp only [Ab,Ac,Aan,Aa0];simp only [S7,Ag,seval,TG,hlen,c1,Qp,ZH]
theorem Iq (s:List UInt8) (i:Nat) (bx):Ai CC (Ad CC) 90 [.str s,.int .i64 (i:Int)] bx=some (.ret (.int .i32 (Ca s i:Int)),bx):=Aq rfl (by simp only [SA,Aa2]) (Ym s i) rfl
def C6 (p:Nat->Bool) (s:List UInt8) (i:Nat):Nat:=i+((s.drop i).takeWhile fun c=>p c.toNat).length
theorem Lb {p:Nat->Bool} {s:List UInt8} {i:Nat} {c:UInt8} (h:s[i]?=some c):C6 p s i=if p c.toNat then C6 p s (i+1) else i:=by
 have hi:i < s.length:=(Aa9.1 h).1;have hc:s[i]=c:=(Aa9.1 h).2;unfold C6;rw [Aag hi,Aat,hc];split
 · rw [Aar];omega
 · simp
theorem Rz {p:Nat->Bool} {s:List UInt8} {i:Nat} (h:s.length<=i):C6 p s i=i:=by
 unfold C6;rw [List.drop_eq_nil_of_le h];rfl
theorem Fm {p:Nat->Bool} {s:List UInt8} {i:Nat} (h:i<=s.length):i<=C6 p s i/\C6 p s i<=s.length:=by
 unfold C6;have:((s.drop i).takeWhile fun c=>p c.toNat).length<=(s.drop i).length:=Ab2 (List.takeWhile_sublist _);rw [Aak] at this;omega
theorem Wf (L:Code) (hL:L=Ab Aaf [1,0,0]) (s:List UInt8) (hs:s.length<=900000) (f:FuncId) (p:Nat->Bool) (hf:∀ (n:Nat),n < 256->∀ bx,Ai CC (Ad CC) f [.int .i32 (n:Int)] bx=some (.ret (.bool (p n)),bx)):∀ (k i:Nat) (e:List PV),i+k=s.length->getT e 0=.str s->getT e 1=.int .i64 i->getT e 2=.fn f [] [] ->
 ∃ e',Co CC L ⟨e,[]⟩=some (.exit 0,⟨e',[]⟩)/\getT e' 1=.int .i64 (C6 p s i:Nat):=by
 intro k
 induction k with
 | zero=>
  intro i e hk h0 h1 h2;rw [A3 (Ab Aaf [1,0,0,0]) hL];have hi:¬ (i:Int) < (s.length:Int):=by omega
  have hlen:=Bk s;have hr:=Rz (p:=p) (s:=s) (i:=i) (by omega);rw [<- An];simp only [Ab,Ac,Aaf,Aa0];simp only [S8,Ag,seval,h0,h1,h2,hlen,hi];exact ⟨_,rfl,by simp only [S7,Ag,seval,h1,hr]⟩
 | succ k ih=>
  intro i e hk h0 h1 h2;rw [A3 (Ab Aaf [1,0,0,0]) hL];have hi:(i:Int) < (s.length:Int):=by omega
  have hlen:=Bk s;have hx:s[i]?=some (s[i]'(by omega)):=by simp
  have Qp:=Ki s i _ hx;have Ez:=Lb (p:=p) hx;have bZ:=Aaw (s[i]'(by omega));have ZH:=U8 ((s[i]'(by omega)).toNat:Int) ⟨by omega,by omega⟩;have ya:=hf (s[i]'(by omega)).toNat bZ;have hw:=wrap_i64 (n:=(i:Int)+1) ⟨by omega,by omega⟩;generalize s[i]'(by omega)=c at *;rw [Ez];rw [<- An];rw [<- An] at ih;rw [<- AL] at ya;simp only [Ab,Ac,Aaf,Aa0];cases hp:p c.toNat with
  | false=>
   rw [hp] at ya;simp only [S8,Ag,seval,Az,h0,h1,h2,hlen,hi,Qp,ZH,ya];exact ⟨_,rfl,by simp only [S7,Ag,seval,h1]⟩
  | true=>
   rw [hp] at ya;simp only [S8,Ag,seval,Az,h0,h1,h2,hlen,hi,Qp,ZH,ya,hw];exact ih (i+1) _ (by omega) (by simp only [S7,Ag,seval,h0]) (by simp only [S7,Ag,seval] <;> rfl) (by simp only [S7,Ag,seval,h2])
theorem I9 (s:List UInt8) (hs:s.length<=900000) (f:FuncId) (p:Nat->Bool) (hf:∀ (n:Nat),n < 256->∀ bx,Ai CC (Ad CC) f [.int .i32 (n:Int)] bx=some (.ret (.bool (p n)),bx)) (i:Nat) (hi:i<=s.length) :
 Ad CC 92 [.str s,.int .i64 (i:Int),.fn f [] []] []=some (.ret (.int .i64 (C6 p s i:Nat)),[]):=by
 rw [Ah (fn:=Aaf) (c:=Aaf.body.getD .skip) rfl rfl Yj rfl aH (Aa1 rfl)];have Af:=Wf _ rfl s hs f p hf (s.length - i) i;rw [<- An];rw [<- An] at Af;simp only [Ab,Ac,Aaf,Aa0] at Af |-;simp only [S8,Ag,seval];generalize hE:Hp _ _=r;obtain ⟨e',he,g1⟩:=MJ hE (Af _ (by omega) (by simp only [S7,Ag,seval]) (by simp only [S7,Ag,seval]) (by simp only [S7,Ag,seval]));subst he;simp only [S8,Ag,seval,g1]
theorem PF (s:List UInt8) (hs:s.length<=900000) (i:Nat) (hi:i<=s.length) (bx):Ai CC (Ad CC) 92 [.str s,.int .i64 (i:Int),.fn 95 [] []] bx=some (.ret (.int .i64 (C6 pt s i:Nat)),bx):=
 Aq rfl (by simp only [SA,SE,Aa2]) (I9 s hs _ pt (MT rO) i hi) rfl
theorem Oa (s:List UInt8) (hs:s.length<=900000) (i:Nat) (hi:i<=s.length) (bx):Ai CC (Ad CC) 92 [.str s,.int .i64 (i:Int),.fn 91 [] []] bx=some (.ret (.int .i64 (C6 dg s i:Nat)),bx):=
 Aq rfl (by simp only [SA,SE,Aa2]) (I9 s hs _ dg (MT jk) i hi) rfl
theorem TJ (s:List UInt8) (hs:s.length<=900000) (i:Nat) (hi:i<=s.length) (bx):Ai CC (Ad CC) 92 [.str s,.int .i64 (i:Int),.fn 93 [] []] bx=some (.ret (.int .i64 (C6 nl s i:Nat)),bx):=
 Aq rfl (by simp only [SA,SE,Aa2]) (I9 s hs _ nl (MT rP) i hi) rfl
def DE:Nat->List UInt8->Nat->Nat
 | 0,_,i=>i
 | m+1,s,i=>if i < s.length then
  (if Ca s i=32\/Ca s i=9\/Ca s i=10 then DE m s (i+1)
   else if Ca s i=35/\dg (Ca s (i+1))=false then DE m s (C6 nl s i) else i) else i
def PSk (v:Nat) (r:Option (Ex×St)):Prop:=∃ e',(r=some (.exit 0,⟨e',[]⟩)/\getT e' 1=.int .i64 (v:Int))\/(r=some (.ret,⟨e',[]⟩)/\getT e' 4=.int .i64 (v:Int))
theorem TL (L:Code) (hL:L=Ab Aa8 [1,0,0]) (s:List UInt8) (hs:s.length<=900000):∀ (m i:Nat) (e:List PV),s.length - i < m->i<=s.length->getT e 0=.str s->getT e 1=.int .i64 i ->
 PSk (DE m s i) (Co CC L ⟨e,[]⟩):=by
 intro m
 induction m with
 | zero=>intro i e hm;omega
 | succ m ih=>
  intro i e hm hi h0 h1;rw [A3 (Ab Aa8 [1,0,0,0]) hL];have hlen:=Bk s
  have mZ:DE (m+1) s i=if i < s.length then
   (if Ca s i=32\/Ca s i=9\/Ca s i=10 then DE m s (i+1)
    else if Ca s i=35/\dg (Ca s (i+1))=false then DE m s (C6 nl s i) else i) else i:=rfl
  rw [mZ];have Ho:=Iq s i;have OX:=Iq s (i+1);have NL:=MU (Ca s (i+1)) (Ru s (i+1));have BW:=TJ s hs i hi;have hw:=wrap_i64 (n:=(i:Int)+1) ⟨by omega,by omega⟩;have na:(((Ca s i:Nat):Int) == 32)=decide (Ca s i=32):=by rw [Aac];simp;omega
  have h9:(((Ca s i:Nat):Int) == 9)=decide (Ca s i=9):=by rw [Aac];simp;omega
  have Xo:(((Ca s i:Nat):Int) == 10)=decide (Ca s i=10):=by rw [Aac];simp;omega
  have mB:(((Ca s i:Nat):Int) == 35)=decide (Ca s i=35):=by rw [Aac];simp;omega
  have yS:Ca s i=35->i < s.length->i < C6 nl s i/\C6 nl s i<=s.length:=fun h hl=>by
   have hx:s[i]?=some s[i]:=by simp
   have h2:=Lb (p:=nl) hx;rw [MS hx] at h;rw [h] at h2;have h3:nl 35=true:=rfl;rw [h3,if_pos rfl] at h2;have:=Fm (p:=nl) (s:=s) (i:=i+1) (by omega);omega
  have key1:=fun e=>ih (i+1) e;have key2:=fun e=>ih (C6 nl s i) e;by_cases Bz:i < s.length
  · have OW:(i:Int) < (s.length:Int):=by omega
    rw [if_pos Bz];have k1:=fun e=>key1 e (by omega) (by omega);have cast1:((i+1:Nat):Int)=(i:Int)+1:=by omega
    rw [cast1] at OX;by_cases c1:Ca s i=32\/Ca s i=9\/Ca s i=10
    · rw [if_pos c1]
      rw [<- An];rw [<- An] at k1;rw [<- AL] at Ho;simp only [Ab,Ac,Aa8,Aa0];by_cases d1:Ca s i=32
      · rw [decide_eq_true d1] at na
        simp only [S8,Ag,seval,h0,h1,hlen,OW,Ho,na,hw];exact k1 _ (by simp only [S7,Ag,seval,h0]) (by simp only [S7,Ag,seval] <;> rfl)
      · by_cases d2:Ca s i=9
        · rw [decide_eq_false d1] at na
          rw [decide_eq_true d2] at h9;simp only [S8,Ag,seval,h0,h1,hlen,OW,Ho,na,h9,hw];exact k1 _ (by simp only [S7,Ag,seval,h0]) (by simp only [S7,Ag,seval] <;> rfl)
        · have d3:Ca s i=10:=by omega
          rw [decide_eq_false d1] at na;rw [decide_eq_false d2] at h9;rw [decide_eq_true d3] at Xo;simp only [S8,Ag,seval,h0,h1,hlen,OW,Ho,na,h9,Xo,hw];exact k1 _ (by simp only [S7,Ag,seval,h0]) (by simp only [S7,Ag,seval] <;> rfl)
    · rw [if_neg c1]
      have d1:¬ Ca s i=32:=by omega
      have d2:¬ Ca s i=9:=by omega
      have d3:¬ Ca s i=10:=by omega
      rw [decide_eq_false d1] at na;rw [decide_eq_false d2] at h9;rw [decide_eq_false d3] at Xo;by_cases c2:Ca s i=35
      · rw [decide_eq_true c2] at mB
        have hr:=yS c2 Bz;have k2:=fun e=>key2 e (by omega) (by omega);cases hd:dg (Ca s (i+1)) with
        | true=>
         rw [hd] at NL;rw [if_neg (fun h=>by cases h.2)];rw [<- An];rw [<- AL] at Ho OX NL;simp only [Ab,Ac,Aa8,Aa0];simp only [S8,Ag,seval,nc,h0,h1,hlen,OW,Ho,na,h9,Xo,mB,hw,OX,NL];exact ⟨_,.inr ⟨rfl,by simp only [S7,Ag,seval,h1]⟩⟩
        | false=>
         rw [hd] at NL;rw [if_pos ⟨c2,rfl⟩];generalize C6 nl s i=rr at *;rw [<- An];rw [<- An] at k2;rw [<- AL] at Ho OX NL BW;simp only [Ab,Ac,Aa8,Aa0];simp only [S8,Ag,seval,nc,h0,h1,hlen,OW,Ho,na,h9,Xo,mB,hw,OX,NL,BW,Yl];exact k2 _ (by simp only [S7,Ag,seval,h0]) (by simp only [S7,Ag,seval])
      · rw [if_neg (fun h=>c2 h.1)]
        rw [decide_eq_false c2] at mB;rw [<- An];rw [<- AL] at Ho;simp only [Ab,Ac,Aa8,Aa0];simp only [S8,Ag,seval,h0,h1,hlen,OW,Ho,na,h9,Xo,mB];exact ⟨_,.inr ⟨rfl,by simp only [S7,Ag,seval,h1]⟩⟩
  · have OW:¬ (i:Int) < (s.length:Int):=by omega
    rw [if_neg Bz];rw [<- An];simp only [Ab,Ac,Aa8,Aa0];simp only [S8,Ag,seval,h0,h1,hlen,OW];exact ⟨_,.inl ⟨rfl,by simp only [S7,Ag,seval,h1]⟩⟩
theorem TM (s:List UInt8) (hs:s.length<=900000) (i:Nat) (hi:i<=s.length):Ad CC 45 [.str s,.int .i64 (i:Int)] []=some (.ret (.int .i64 (DE (s.length+1) s i:Nat)),[]):=by
 rw [Ah (fn:=Aa8) (c:=Aa8.body.getD .skip) rfl rfl Wd rfl Yk (Aa1 rfl)];have Af:=TL _ rfl s hs (s.length+1) i;rw [<- An];rw [<- An] at Af;simp only [Ab,Ac,Aa8,Aa0] at Af |-;simp only [S8,Ag,seval];generalize hE:Hp _ _=r
 have hP:PSk (DE (s.length+1) s i) r:=by
  rw [<- hE];exact Af _ (by omega) hi (by simp only [S7,Ag,seval]) (by simp only [S7,Ag,seval])
 obtain ⟨e',⟨he,g1⟩ | ⟨he,g4⟩⟩:=hP
 · subst he
   simp only [S8,Ag,seval,g1]
 · subst he
   simp only [S8,Ag,seval,g4]
theorem Pd (s:List UInt8) (hs:s.length<=900000) (i:Nat) (hi:i<=s.length) (bx):Ai CC (Ad CC) 45 [.str s,.int .i64 (i:Int)] bx=some (.ret (.int .i64 (DE (s.length+1) s i:Nat)),bx):=Aq rfl (by simp only [SA,Aa2]) (TM s hs i hi) rfl
theorem TN:Be CC Aa7 (Aa7.body.getD .skip)=true:=by kernel_rfl
theorem RA:CC.P.funcs[97]?=some Aa7:=by kernel_rfl
theorem PG:Be CC Aaq (Aaq.body.getD .skip)=true:=by kernel_rfl
theorem Ob:CC.P.funcs[98]?=some Aaq:=by kernel_rfl
theorem jl {p:Nat->Bool} {s:List UInt8}:∀ (m i:Nat),s.length - i<=m->∀ k,i<=k->k < C6 p s i->∃ c,s[k]?=some c/\p c.toNat=true:=by
 intro m
 induction m with
 | zero=>
  intro i hm k h1 h2;rw [Rz (by omega)] at h2;omega
 | succ m ih=>
  intro i hm k h1 h2;by_cases hi:i < s.length
  · have hx:s[i]?=some s[i]:=by simp
    rw [Lb hx] at h2;split at h2
    · rename_i hp
      rcases Nat.eq_or_lt_of_le h1 with e | e
      · subst e;exact ⟨_,hx,hp⟩
      · exact ih (i+1) (by omega) k (by omega) h2
    · omega
  · rw [Rz (by omega)] at h2
    omega
def RC:List UInt8->Nat->Option Nat
 | [],n=>some n
 | c :: r,n=>if 10 * n+(c.toNat - 48) > 1099511627776 then none else RC r (10 * n+(c.toNat - 48))
def wg (i e0:Nat) (o:Option Nat) (r:Option (Ex×St)):Prop:=match o with
 | some _=>∃ e,r=some (.exit 0,⟨e,[]⟩)/\getT e 6=.int .i64 (e0:Int)
 | none=>∃ e,r=some (.ret,⟨e,[]⟩)/\getT e 4=.int .i64 (i:Int)/\getT e 5=.int .i64 2
theorem PH (L:Code) (hL:L=Ab Aaa [1,1,1,0,1,0]) (s:List UInt8) (hs:s.length<=900000) (i e0:Nat) (he0:e0<=s.length) (D1:∀ k,i<=k->k < e0->∃ c,s[k]?=some c/\dg c.toNat=true):∀ (j k n:Nat) (e:List PV),k+j=e0->i<=k->n<=1099511627776->getT e 0=.str s->getT e 1=.int .i64 i->getT e 6=.int .i64 e0->getT e 7=.int .i64 n->getT e 8=.int .i64 k ->
 wg i e0 (RC ((s.drop k).take j) n) (Co CC L ⟨e,[]⟩):=by
 intro j
 induction j with
 | zero=>
  intro k n e hk eb hn h0 h1 h6 h7 h8;rw [A3 (Ab Aaa [1,1,1,0,1,0,0]) hL];have hi:¬ (k:Int) < (e0:Int):=by omega
  rw [<- An];rw [List.take_zero];simp only [Ab,Ac,Aaa,Aa0];simp only [S7,Ag,seval,TG,h6,h8,hi];exact ⟨_,rfl,by simp only [S7,Ag,seval,h6]⟩
 | succ j ih=>
  intro k n e hk eb hn h0 h1 h6 h7 h8;rw [A3 (Ab Aaa [1,1,1,0,1,0,0]) hL];have hi:(k:Int) < (e0:Int):=by omega
  obtain ⟨c,hx,hd⟩:=D1 k eb (by omega);have hkl:k < s.length:=(Aa9.1 hx).1;have rn:s[k]=c:=(Aa9.1 hx).2;have IU:(s.drop k).take (j+1)=c :: (s.drop (k+1)).take j:=by rw [Aag hkl,Aas,rn]
  have Qp:=Ki s k c hx;unfold dg at hd;simp only [Bool.and_eq_true,decide_eq_true_eq] at hd;have w2:Aaz .u8 ((c.toNat:Int) - 48)=(c.toNat:Int) - 48:=by simp [Aaz,IntKind.bits,IntKind.signed];omega
  have w3:=U7 ((c.toNat:Int) - 48) ⟨by omega,by omega⟩;have w1:=wrap_i64 (n:=10 * (n:Int)) ⟨by omega,by omega⟩;have w4:=wrap_i64 (n:=10 * (n:Int)+((c.toNat:Int) - 48)) ⟨by omega,by omega⟩;have hw:=wrap_i64 (n:=(k:Int)+1) ⟨by omega,by omega⟩;have mC:((10 * n+(c.toNat - 48):Nat):Int)=10 * (n:Int)+((c.toNat:Int) - 48):=by omega
  have hnr:RC (c :: (s.drop (k+1)).take j) n=if 10 * n+(c.toNat - 48) > 1099511627776 then none else RC ((s.drop (k+1)).take j) (10 * n+(c.toNat - 48)):=rfl
  have key:=fun (h:¬ 10 * n+(c.toNat - 48) > 1099511627776) e=>ih (k+1) (10 * n+(c.toNat - 48)) e (by omega) (by omega) (by omega);rw [IU,hnr];by_cases c1:10 * n+(c.toNat - 48) > 1099511627776
  · have c1':10 * (n:Int)+((c.toNat:Int) - 48) > 1099511627776:=by omega
    rw [if_pos c1];rw [<- An];simp only [Ab,Ac,Aaa,Aa0];simp only [S7,Ag,seval,TG,h0,h1,h6,h7,h8,hi,Qp,w1,w2,w3,w4,c1'];exact ⟨_,rfl,by simp only [S7,Ag,seval],by simp only [S7,Ag,seval]⟩
  · have c1':¬ 10 * (n:Int)+((c.toNat:Int) - 48) > 1099511627776:=by omega
    rw [if_neg c1];have key:=key c1;rw [mC] at key;rw [<- An];rw [<- An] at key;simp only [Ab,Ac,Aaa,Aa0];simp only [S7,Ag,seval,TG,h0,h1,h6,h7,h8,hi,Qp,w1,w2,w3,w4,c1',hw];exact key _ (by simp only [S7,Ag,seval,h0]) (by simp only [S7,Ag,seval,h1]) (by simp only [S7,Ag,seval,h6]) (by simp only [S7,Ag,seval]) (by simp only [S7,Ag,seval] <;> rfl)
def L7 (s:List UInt8) (i:Nat):Option Nat:=(RC ((s.drop i).take (C6 dg s i - i)) 0).map fun _=>C6 dg s i
theorem PI (s:List UInt8) (hs:s.length<=900000) (i:Nat) (hi:i<=s.length):Ad CC 96 [.str s,.int .i64 (i:Int)] []=some (.ret (match L7 s i with
 | some k=>.tup [.int .i64 (k:Int),.int .i64 0]
 | none=>.tup [.int .i64 (i:Int),.int .i64 2]),[]):=by
 rw [Ah (fn:=Aaa) (c:=Aaa.body.getD .skip) rfl rfl Ry rfl TH (Aa1 rfl)];have yS:=Fm (p:=dg) hi;have BW:=Oa s hs i hi;have Af:=fun e=>PH _ rfl s hs i (C6 dg s i) yS.2 (jl (s.length) i (by omega)) (C6 dg s i - i) i 0 e (by omega) (by omega) (by omega);unfold L7;generalize C6 dg s i=e0 at *;rw [<- An];rw [<- An] at Af;rw [<- AL] at BW;simp only [Ab,Ac,Aaa,Aa0] at Af |-;simp only [S8,Ag,seval,Yl,BW];generalize hE:Hp _ ⟨_,_⟩=r
 have hP:wg i e0 (RC ((s.drop i).take (e0 - i)) 0) r:=by
  rw [<- hE];exact Af _ (by simp only [S7,Ag,seval]) (by simp only [S7,Ag,seval]) (by simp only [S7,Ag,seval]) (by simp only [S7,Ag,seval] <;> rfl) (by simp only [S7,Ag,seval])
 clear hE Af;cases hn:RC ((s.drop i).take (e0 - i)) 0 with
 | some v=>
  rw [hn] at hP;obtain ⟨e',he,g6⟩:=hP;subst he;simp only [S8,Ag,seval,g6]
 | none=>
  rw [hn] at hP;obtain ⟨e',he,g4,g5⟩:=hP;subst he;simp only [S8,Ag,seval,g4,g5]
theorem TO (s:List UInt8) (hs:s.length<=900000) (i:Nat) (hi:i<=s.length) (bx):Ai CC (Ad CC) 96 [.str s,.int .i64 (i:Int)] bx=some (.ret (match L7 s i with
 | some k=>.tup [.int .i64 (k:Int),.int .i64 0]
 | none=>.tup [.int .i64 (i:Int),.int .i64 2]),bx):=Aq rfl (by simp only [SA,Aa2]) (PI s hs i hi) (by cases L7 s i <;> rfl)
def Oc:Nat->List UInt8->Nat->Nat
 | 0,_,e=>e
 | m+1,s,e=>if e < s.length/\Ca s e≠34 then Oc m s (if Ca s e=92 then e+2 else e+1) else e
theorem Qu:∀ (m:Nat) (s:List UInt8) (e:Nat),e<=Oc m s e
 | 0,_,e=>Aae _
 | m+1,s,e=>by
  unfold Oc;split
  · split
    · have:=Qu m s (e+2);omega
    · have:=Qu m s (e+1);omega
  · exact Aae _
theorem PJ (L:Code) (hL:L=Ab Aa7 [1,1,0,0]) (s:List UInt8) (hs:s.length<=900000) (v1:PV):∀ (m x:Nat) (e:List PV),s.length+1 - x < m->x<=s.length+1->getT e 0=.str s->getT e 1=v1->getT e 7=.int .i64 x ->
 ∃ e',Co CC L ⟨e,[]⟩=some (.exit 0,⟨e',[]⟩)/\getT e' 0=.str s/\getT e' 1=v1/\getT e' 7=.int .i64 (Oc m s x:Nat):=by
 intro m
 induction m with
 | zero=>intro x e hm;omega
 | succ m ih=>
  intro x e hm Xv h0 h1 h7;rw [A3 (Ab Aa7 [1,1,0,0,0]) hL];have hlen:=Bk s;have hq:Oc (m+1) s x=if x < s.length/\Ca s x≠34 then Oc m s (if Ca s x=92 then x+2 else x+1) else x:=rfl
  rw [hq];have k1:=fun e=>ih (x+1) e;have k2:=fun e=>ih (x+2) e;by_cases Bz:x < s.length
  · have OW:(x:Int) < (s.length:Int):=by omega
    have hx:s[x]?=some (s[x]'(by omega)):=by simp
    have Qp:=Ki s x _ hx;have Ho:=MS hx;rw [Ho];generalize s[x]'(by omega)=c at *;have w1:=wrap_i64 (n:=(x:Int)+1) ⟨by omega,by omega⟩;have w2:=wrap_i64 (n:=(x:Int)+1+1) ⟨by omega,by omega⟩;by_cases c1:c.toNat=34
    · have c1':((c.toNat:Int) != 34)=false:=by simp [c1]
      rw [if_neg (fun h=>h.2 c1)];rw [<- An];simp only [Ab,Ac,Aa7,Aa0];simp only [S8,Ag,seval,h0,h1,h7,hlen,OW,Qp,c1'];exact ⟨_,rfl,by simp only [S7,Ag,seval,h0],by simp only [S7,Ag,seval,h1],by simp only [S7,Ag,seval,h7]⟩
    · have c1':((c.toNat:Int) != 34)=true:=by simp;omega
      rw [if_pos ⟨Bz,c1⟩];by_cases c2:c.toNat=92
      · have c2':((c.toNat:Int) == 92)=true:=by simp [c2]
        rw [if_pos c2];have k2:=fun e=>k2 e (by omega) (by omega);have SY:((x+2:Nat):Int)=(x:Int)+1+1:=by omega
        rw [SY] at k2;rw [<- An];rw [<- An] at k2;simp only [Ab,Ac,Aa7,Aa0];simp only [S8,Ag,seval,h0,h1,h7,hlen,OW,Qp,c1',c2',w1,w2];exact k2 _ (by simp only [S7,Ag,seval,h0]) (by simp only [S7,Ag,seval,h1]) (by simp only [S7,Ag,seval])
      · have c2':((c.toNat:Int) == 92)=false:=by simp;omega
        rw [if_neg c2];have k1:=fun e=>k1 e (by omega) (by omega);rw [<- An];rw [<- An] at k1;simp only [Ab,Ac,Aa7,Aa0];simp only [S8,Ag,seval,h0,h1,h7,hlen,OW,Qp,c1',c2',w1];exact k1 _ (by simp only [S7,Ag,seval,h0]) (by simp only [S7,Ag,seval,h1]) (by simp only [S7,Ag,seval] <;> rfl)
  · have OW:¬ (x:Int) < (s.length:Int):=by omega
    rw [if_neg (fun h=>Bz h.1)];rw [<- An];simp only [Ab,Ac,Aa7,Aa0];simp only [S8,Ag,seval,h0,h1,h7,hlen,OW];exact ⟨_,rfl,by simp only [S7,Ag,seval,h0],by simp only [S7,Ag,seval,h1],by simp only [S7,Ag,seval,h7]⟩
def Od (s:List UInt8) (i:Nat):Option (List UInt8×Nat):=
 let e:=Oc (s.length+1) s (i+1)
 if s.length<=e then none else if (Xr ((s.take (e+1)).drop i)).2≠0 then none else some ((Xr ((s.take (e+1)).drop i)).1,e+1)
theorem PK (s:List UInt8) (hs:s.length<=900000) (i:Nat) (hi:i<=s.length):Ad CC 97 [.str s,.int .i64 (i:Int)] []=some (.ret (match Od s i with
 | some (t,k)=>.tup [.str t,.int .i64 (k:Int),.int .i64 0]
 | none=>.tup [.str [],.int .i64 (i:Int),.int .i64 4]),[]):=by
 rw [Ah (fn:=Aa7) (c:=Aa7.body.getD .skip) rfl rfl RA rfl TN (Aa1 rfl)];have hlen:=Bk s;have Af:=PJ _ rfl s hs (.int .i64 i) (s.length+1) (i+1);have QJ:=Qu (s.length+1) s (i+1);have w1:=wrap_i64 (n:=(i:Int)+1) ⟨by omega,by omega⟩;unfold Od;simp only;generalize Oc (s.length+1) s (i+1)=x at *;have w2:=fun (h:x < s.length)=>wrap_i64 (n:=(x:Int)+1) ⟨by omega,by omega⟩;have Mr:=fun (h:x < s.length)=>V1 s i ((x:Int)+1) (by omega) (by omega) (by omega);have hto:((x:Int)+1).toNat=x+1:=by omega
 have gX:=N6 ((s.take (x+1)).drop i) (by rw [Aak,Aaj];omega);have Qm:((i+1:Nat):Int)=(i:Int)+1:=by omega
 by_cases c1:s.length<=x
 · have c1':(x:Int) ≥ (s.length:Int):=by omega
   rw [if_pos c1];rw [<- An];rw [<- An] at Af;simp only [Ab,Ac,Aa7,Aa0] at Af |-;simp only [S8,Ag,seval,w1];generalize hE:Hp _ ⟨_,_⟩=r;obtain ⟨e',he,g0,g1,g7⟩:=MJ hE (Af _ (by omega) (by omega) (by simp only [S7,Ag,seval]) (by simp only [S7,Ag,seval]) (by simp only [S7,Ag,seval,Qm]));subst he;simp only [S8,Ag,seval,g0,g1,g7,hlen,c1']
 · have c1':¬ (x:Int) ≥ (s.length:Int):=by omega
   rw [if_neg c1];have w2:=w2 (by omega);have Mr:=Mr (by omega);rw [hto,Aa3] at Mr;generalize (s.take (x+1)).drop i=q at *;by_cases c2:(Xr q).2=0
   · have c2':((0:Int) != 0)=false:=rfl
     rw [if_neg (fun h=>h c2)];rw [c2] at gX;rw [<- An];rw [<- An] at Af;rw [<- AL] at gX;simp only [Ab,Ac,Aa7,Aa0] at Af |-;simp only [S8,Ag,seval,w1];generalize hE:Hp _ ⟨_,_⟩=r;obtain ⟨e',he,g0,g1,g7⟩:=MJ hE (Af _ (by omega) (by omega) (by simp only [S7,Ag,seval]) (by simp only [S7,Ag,seval]) (by simp only [S7,Ag,seval,Qm]));subst he;simp only [S8,Ag,seval,g0,g1,g7,hlen,c1',w2,Mr,gX,c2']
     try rfl
   · have c2':((Xr q).2 != 0)=true:=by simpa using c2
     rw [if_pos c2];rw [<- An];rw [<- An] at Af;rw [<- AL] at gX;simp only [Ab,Ac,Aa7,Aa0] at Af |-;simp only [S8,Ag,seval,w1];generalize hE:Hp _ ⟨_,_⟩=r;obtain ⟨e',he,g0,g1,g7⟩:=MJ hE (Af _ (by omega) (by omega) (by simp only [S7,Ag,seval]) (by simp only [S7,Ag,seval]) (by simp only [S7,Ag,seval,Qm]));subst he;simp only [S8,Ag,seval,g0,g1,g7,hlen,c1',w2,Mr,gX,c2']
theorem TP (s:List UInt8) (hs:s.length<=900000) (i:Nat) (hi:i<=s.length) (bx):Ai CC (Ad CC) 97 [.str s,.int .i64 (i:Int)] bx=some (.ret (match Od s i with
 | some (t,k)=>.tup [.str t,.int .i64 (k:Int),.int .i64 0]
 | none=>.tup [.str [],.int .i64 (i:Int),.int .i64 4]),bx):=Aq rfl (by simp only [SA,Aa2]) (PK s hs i hi) (by cases Od s i <;> rfl)
theorem aI:Be CC Aab (Aab.body.getD .skip)=true:=by kernel_rfl
theorem Yn:CC.P.funcs[46]?=some Aab:=by kernel_rfl
def qj (c:Nat):Bool:=decide (Aap [61,33,60,62] c.toUInt8 ≥ 0)
def ql (c:Nat):Bool:=decide (Aap [35,43,45,42,40,41,123,125,91,93,44,59,58,46,60,62,61] c.toUInt8 ≥ 0)
def DF (s:List UInt8) (i:Nat):Nat:=if Ca s (i+1)=61/\qj (Ca s i)=true then 2 else if ql (Ca s i)=true then 1 else 0
theorem MV (s:List UInt8) (hs:s.length<=900000) (i:Nat) (hi:i < s.length):Ad CC 98 [.str s,.int .i64 (i:Int)] []=some (.ret (.int .i64 ((i+DF s i:Nat):Int)),[]):=by
 rw [Ah (fn:=Aaq) (c:=Aaq.body.getD .skip) rfl rfl Ob rfl PG (Aa1 rfl)];have Ho:=Iq s i;have OX:=Iq s (i+1);have bZ:=Ru s i;have ZH:=fx (Ca s i:Int) ⟨by omega,by omega⟩;have w1:=wrap_i64 (n:=(i:Int)+1) ⟨by omega,by omega⟩;have w2:=wrap_i64 (n:=(i:Int)+2) ⟨by omega,by omega⟩;have cast1:((i+1:Nat):Int)=(i:Int)+1:=by omega
 rw [cast1] at OX;have pW:(((Ca s (i+1):Nat):Int) == 61)=decide (Ca s (i+1)=61):=by rw [Aac];simp;omega
 unfold DF ql qj;generalize Ca s i=c at *;generalize Ca s (i+1)=d at *;have hx:=Kh;rw [<- An];rw [<- AL] at Ho OX hx;have qZ:=hx [61,33,60,62] (c:Int);have q8:=hx [35,43,45,42,40,41,123,125,91,93,44,59,58,46,60,62,61] (c:Int);rw [Aa3] at qZ q8;clear hx;generalize Aap [61,33,60,62] c.toUInt8=x1 at *;generalize Aap [35,43,45,42,40,41,123,125,91,93,44,59,58,46,60,62,61] c.toUInt8=x2 at *;simp only [Ab,Ac,Aaq,Aa0];by_cases c1:d=61
 · rw [decide_eq_true c1] at pW
   by_cases c2:x1 ≥ 0
   · rw [if_pos ⟨c1,decide_eq_true c2⟩]
     simp only [S8,Ag,seval,Ho,OX,ZH,pW,qZ,q8,w1,w2,c2]
     try rfl
   · rw [if_neg (fun h=>c2 (of_decide_eq_true h.2))]
     by_cases c3:x2 ≥ 0
     · rw [if_pos (decide_eq_true c3)]
       simp only [S8,Ag,seval,Ho,OX,ZH,pW,qZ,q8,w1,w2,c2,c3]
       try rfl
     · rw [if_neg (fun h=>c3 (of_decide_eq_true h))]
       simp only [S8,Ag,seval,Ho,OX,ZH,pW,qZ,q8,w1,w2,c2,c3]
       try rfl
 · rw [decide_eq_false c1] at pW
   rw [if_neg (fun h=>c1 h.1)];by_cases c3:x2 ≥ 0
   · rw [if_pos (decide_eq_true c3)]
     simp only [S8,Ag,seval,Ho,OX,ZH,pW,qZ,q8,w1,w2,c3]
     try rfl
   · rw [if_neg (fun h=>c3 (of_decide_eq_true h))]
     simp only [S8,Ag,seval,Ho,OX,ZH,pW,qZ,q8,w1,w2,c3]
     try rfl
theorem PL (s:List UInt8) (hs:s.length<=900000) (i:Nat) (hi:i < s.length) (bx):Ai CC (Ad CC) 98 [.str s,.int .i64 (i:Int)] bx=some (.ret (.int .i64 ((i+DF s i:Nat):Int)),bx):=Aq rfl (by simp only [SA,Aa2]) (MV s hs i hi) rfl
abbrev Tk:=Nat×List UInt8×Nat
def Oe (t:Tk):PV:=.agg [.int .i64 (t.1:Int),.str t.2.1,.int .i64 (t.2.2:Int)]
def FJ (s:List UInt8) (i:Nat):Tk×Nat ⊕ Int:=
 let c:=Ca s i
 if sm c then .inl ((1,(s.take (C6 pt s i)).drop i,i),C6 pt s i)
 else if dg c then (match L7 s i with
  | some k=>.inl ((2,(s.take k).drop i,i),k)
  | none=>.inr 2)
 else if c=34 then (match Od s i with
  | some (t,k)=>.inl ((3,t,i),k)
  | none=>.inr 4)
 else if DF s i=0 then .inr 12
 else .inl ((4,(s.take (i+DF s i)).drop i,i),i+DF s i)
theorem Yo {s:List UInt8} {i:Nat} (hi:i < s.length):i+DF s i<=s.length:=by
 unfold DF;split
 · rename_i h
   have:i+1 < s.length:=by
    rcases Ab1 (i+1) s.length with h' | h'
    · exact h'
    · exfalso
      have:Ca s (i+1)=0:=by unfold Ca;rw [Aam h']
      omega
   omega
 · split <;> omega
theorem nP:zeroCells CC 80=some [.int .i64 0,.str [],.int .i64 0]:=by kernel_rfl
theorem nQ (n:Int):A9 CC 80 [(2,.int .i64 n)]=some (.agg [.int .i64 0,.str [],.int .i64 n]):=by
 have h:=(by kernel_rfl:CC.P.underlying 80=some (.struct ((match Aah.underlying 80 with | some (.struct f)=>f | _=>#[]))));have hz:tZero CC 80=some (.agg [.int .i64 0,.str [],.int .i64 0]):=by kernel_rfl
 have hp:((match Aah.underlying 80 with | some (.struct f)=>f | _=>#[]):Array Field).toList.mapM (fun f=>(tSize CC f.type).map fun s=>(f.offset,s))=some [(0,1),(1,1),(2,1)]:=by kernel_rfl
 unfold A9;rw [h,hz];simp only [hp];rfl
theorem TKu:∃ u,CC.P.underlying 80=some u:=⟨.struct ((match Aah.underlying 80 with | some (.struct f)=>f | _=>#[])),by kernel_rfl⟩
theorem MW (s:List UInt8) (hs:s.length<=900000) (i:Nat) (hi:i < s.length):∃ bx v,Ad CC 46 [.str s,.int .i64 (i:Int)] []=some (.ret (.tup v),bx) /\
 (match FJ s i with
  | .inl (t,k)=>v=[Oe t,.int .i64 (k:Int),.int .i64 0]
  | .inr c=>∃ n:Int,v=[.agg [.int .i64 n,.str [],.int .i64 (i:Int)],.int .i64 (i:Int),.int .i64 c]):=by
 rw [Ah (fn:=Aab) (c:=Aab.body.getD .skip) rfl rfl Yn rfl aI (Aa1 rfl)];have Ho:=Iq s i;have bZ:=Ru s i;have Ux:=We (Ca s i) bZ;have NL:=MU (Ca s i) bZ;have BW:=PF s hs i (by omega);have gY:=TO s hs i (by omega);have gZ:=TP s hs i (by omega);have Bc:=PL s hs i hi;have pU:(((Ca s i:Nat):Int) == 34)=decide (Ca s i=34):=by rw [Aac];simp;omega
 have yS:=Fm (p:=pt) (s:=s) (i:=i) (by omega);have hsl1:=V1 s i (C6 pt s i) (by omega) (by omega) (by omega);rw [Aa3,Aa3] at hsl1;have yN:=Fm (p:=dg) (s:=s) (i:=i) (by omega);have uF:=V1 s i (C6 dg s i) (by omega) (by omega) (by omega);rw [Aa3,Aa3] at uF;have yT:=Yo hi;have hsl3:=V1 s i ((i+DF s i:Nat):Int) (by omega) (by omega) (by omega);rw [Aa3,Aa3] at hsl3;have hb:=nQ (i:Int);obtain ⟨tu,htu⟩:=TKu;have uG:((2:Int) != 0)=true:=rfl;have VH:((4:Int) != 0)=true:=rfl
 have pT:∀ k,L7 s i=some k->k=C6 dg s i:=fun k h=>by
  unfold L7 at h;obtain ⟨_,_,h2⟩:=Aai.1 h;exact h2.symm
 unfold FJ;simp only;generalize Ca s i=c at *;generalize C6 pt s i=rp at *;generalize C6 dg s i=rd' at *;cases Qm:sm c with
 | true=>
  rw [Qm] at Ux;rw [if_pos rfl];generalize (s.take rp).drop i=tx at *;rw [<- An];rw [<- AL] at Ho Ux BW;simp only [Ab,Ac,Aab,Aa0];simp only [S9,Ag,seval,nP,uG,VH,hb,Ho,Ux,BW,hsl1,Aa4,Aa5];exact ⟨_,_,rfl,rfl⟩
 | false=>
  rw [Qm] at Ux;rw [if_neg (by simp)];cases SY:dg c with
  | true=>
   rw [SY] at NL;rw [if_pos rfl];cases hn:L7 s i with
   | some k=>
    rw [hn] at gY;obtain rfl:=pT k hn;dsimp only;generalize (s.take k).drop i=tx at *;rw [<- An];rw [<- AL] at Ho Ux NL gY;simp only [Ab,Ac,Aab,Aa0];simp only [S9,Ag,seval,nP,uG,VH,hb,Ho,Ux,NL,gY,uF,Aa4,Aa5];exact ⟨_,_,rfl,rfl⟩
   | none=>
    rw [hn] at gY;rw [<- An];rw [<- AL] at Ho Ux NL gY;simp only [Ab,Ac,Aab,Aa0];simp only [S9,Ag,seval,nP,uG,VH,hb,Ho,Ux,NL,gY,uF,Aa4,Aa5];exact ⟨_,_,rfl,0,rfl⟩
  | false=>
   rw [SY] at NL;rw [if_neg (by simp)];by_cases rq:c=34
   · rw [if_pos rq]
     rw [decide_eq_true rq] at pU;cases hn:Od s i with
     | some x=>
      rw [hn] at gZ;obtain ⟨tx,k⟩:=x;rw [<- An];rw [<- AL] at Ho Ux NL gZ;simp only [Ab,Ac,Aab,Aa0];simp only [S9,Ag,seval,nP,uG,VH,hb,Ho,Ux,NL,pU,gZ,Aa4,Aa5];exact ⟨_,_,rfl,rfl⟩
     | none=>
      rw [hn] at gZ;rw [<- An];rw [<- AL] at Ho Ux NL gZ;simp only [Ab,Ac,Aab,Aa0];simp only [S9,Ag,seval,nP,uG,VH,hb,Ho,Ux,NL,pU,gZ,Aa4,Aa5];exact ⟨_,_,rfl,0,rfl⟩
   · rw [if_neg rq]
     rw [decide_eq_false rq] at pU;by_cases hc4:DF s i=0
     · rw [if_pos hc4]
       have heq:(((i+DF s i:Nat):Int) == (i:Int))=true:=by rw [hc4];simp
       generalize ((i+DF s i:Nat):Int)=k at *;rw [<- An];rw [<- AL] at Ho Ux NL Bc;simp only [Ab,Ac,Aab,Aa0];simp only [S9,Ag,seval,nP,uG,VH,hb,Ho,Ux,NL,pU,Bc,heq,Aa4,Aa5];exact ⟨_,_,rfl,4,rfl⟩
     · rw [if_neg hc4]
       dsimp only;have heq:(((i+DF s i:Nat):Int) == (i:Int))=false:=by rw [beq_eq_false_iff_ne];omega
       generalize ((i+DF s i:Nat):Int)=k at *;generalize (s.take (i+DF s i)).drop i=tx at *;rw [<- An];rw [<- AL] at Ho Ux NL Bc;simp only [Ab,Ac,Aab,Aa0];simp only [S9,Ag,seval,nP,uG,VH,hb,Ho,Ux,NL,pU,Bc,heq,hsl3,Aa4,Aa5];exact ⟨_,_,rfl,rfl⟩
theorem TQ:Be CC Aa6 (Aa6.body.getD .skip)=true:=by kernel_rfl
theorem RD:CC.P.funcs[21]?=some Aa6:=by kernel_rfl
theorem Ir {x:List PV} {b:List PBox} (h:x.length.ble Aa6.ntmps=true):Ad CC 21 x b=CM CC Aa6.results.toList (Co CC (Aa6.body.getD .skip) ⟨x,b⟩):=Ah (fn:=Aa6) (c:=Aa6.body.getD .skip) rfl rfl RD rfl TQ (Aa1 h)
theorem Is:∀ (m:Nat) (s:List UInt8) (i:Nat),i<=s.length->i<=DE m s i/\DE m s i<=s.length
 | 0,_,i,h=>⟨Aae _,h⟩
 | m+1,s,i,h=>by
  unfold DE;split
  · split
    · have:=Is m s (i+1) (by omega);omega
    · split
      · have h1:=Fm (p:=nl) (s:=s) (i:=i) h
        have:=Is m s (C6 nl s i) h1.2;omega
      · omega
  · omega
theorem Yp {s:List UInt8} {i:Nat} (h:i < s.length):Ca s i=(s[i]).toNat:=MS (by simp)
theorem MX {p:Nat->Bool} {s:List UInt8} {i:Nat} (h:i < s.length) (hp:p (Ca s i)=true):i < C6 p s i:=by
 have hx:s[i]?=some s[i]:=by simp
 have h2:=Lb (p:=p) hx;rw [Yp h] at hp;rw [hp,if_pos rfl] at h2;have:=Fm (p:=p) (s:=s) (i:=i+1) (by omega);omega
theorem MY {s:List UInt8} {i:Nat} {t:Tk} {k:Nat} (h:i < s.length) (ho:FJ s i=.inl (t,k)):i < k/\k<=s.length:=by
 unfold FJ at ho;simp only at ho;split at ho
 · rename_i hc
   have hp:pt (Ca s i)=true:=by unfold pt;rw [hc];rfl
   have h1:=MX h hp;have h2:=Fm (p:=pt) (s:=s) (i:=i) (by omega);injection ho with ho
   injection ho with _ ho
   omega
 · split at ho
   · rename_i hc
     have h1:=MX h hc;have h2:=Fm (p:=dg) (s:=s) (i:=i) (by omega);unfold L7 at ho;split at ho
     · rename_i k' hk
       obtain ⟨_,_,hk⟩:=Aai.1 hk;injection ho with ho
       injection ho with _ ho
       omega
     · cases ho
   · split at ho
     · split at ho
       · rename_i t' k' hk
         unfold Od at hk;simp only at hk;split at hk
         · cases hk
         · split at hk
           · cases hk
           · have h1:=Qu (s.length+1) s (i+1)
             injection hk with hk
             injection hk with _ hk
             injection ho with ho
             injection ho with _ ho
             omega
       · cases ho
     · split at ho
       · cases ho
       · have:=Yo h
         injection ho with ho
         injection ho with _ ho
         omega
theorem RE {s:List UInt8} {i:Nat} {c:Int} (ho:FJ s i=.inr c):c=2\/c=4\/c=12:=by
 unfold FJ at ho;simp only at ho;split at ho
 · cases ho
 · split at ho
   · split at ho
     · cases ho
     · injection ho with ho;omega
   · split at ho
     · split at ho
       · cases ho
       · injection ho with ho;omega
     · split at ho
       · injection ho with ho;omega
       · cases ho
theorem TR (s:List UInt8) (hs:s.length<=900000) (i:Nat) (hi:i < s.length) (t:Tk) (k:Nat) (ho:FJ s i=.inl (t,k)) (bx):Ai CC (Ad CC) 46 [.str s,.int .i64 (i:Int)] bx=some (.ret (.tup [Oe t,.int .i64 k,.int .i64 0]),bx):=by
 obtain ⟨b,v,h,hv⟩:=MW s hs i hi;rw [ho] at hv;simp only at hv;subst hv;exact Aq rfl (by simp only [SA,Aa2]) h rfl
theorem RF (s:List UInt8) (hs:s.length<=900000) (i:Nat) (hi:i < s.length) (c:Int) (ho:FJ s i=.inr c):∃ n:Int,∀ bx,Ai CC (Ad CC) 46 [.str s,.int .i64 (i:Int)] bx=some (.ret (.tup [.agg [.int .i64 n,.str [],.int .i64 (i:Int)],.int .i64 (i:Int),.int .i64 c]),bx):=by
 obtain ⟨b,v,h,hv⟩:=MW s hs i hi;rw [ho] at hv;simp only at hv;obtain ⟨u,hv⟩:=hv;subst hv;exact ⟨u,fun bx=>Aq rfl (by simp only [SA,Aa2]) h rfl⟩
def GD:Nat->List UInt8->Nat->List Tk->List Tk×Nat×Int
 | 0,_,i,_=>([],i,0)
 | m+1,s,i,acc=>if i < s.length then
  (if acc.length=4000 then ([],i,3) else match FJ s i with
   | .inr c=>([],i,c)
   | .inl (t,k)=>GD m s (DE (s.length+1) s k) (acc++[t]))
  else (acc++[(0,[],s.length)],0,0)
def BD (s:List UInt8):List Tk×Nat×Int:=if 20000 < s.length then ([],0,3) else GD (s.length+1) s (DE (s.length+1) s 0) []
noncomputable def wh:TypeInfo:=(Aah.info? 80).getD default
def Bj (l:List Tk):List PV:=l.map Oe
theorem za (a b c:PV) (ha:a.one=true) (hb:b.one=true) (hc:c.one=true) (h:Gd true 3 (.agg [a,b,c])=some (.agg [a,b,c])):AZ CC 45 1 [(0,.agg [a,b,c])]=some (.osl 80 [.agg [a,b,c]]):=by
 have hz:tZero CC 80=some (.agg [.int .i64 0,.str [],.int .i64 0]):=by kernel_rfl
 have hi:CC.P.info? 80=some wh:=by kernel_rfl
 have hs:wh.size=3:=by kernel_rfl
 have hu:CC.P.underlying 45=some (.slice 80):=by kernel_rfl
 have ht:tAgg CC 80=true:=by kernel_rfl
 unfold AZ;simp only [hu,hz,hi,hs,ht,List.foldlM_cons,List.foldlM_nil,h];rfl
theorem qo (t:Tk):AZ CC 45 1 [(0,Oe t)]=some (.osl 80 (Bj [t])):=za _ _ _ rfl rfl rfl rfl
theorem wi (st:St) (al:List (Nat×Loc)) (s x:Operand) (d:Option Tmp):DT CC st al s x 45 45 d=match CZ CC st al 80 s,CJ (opd CC st.env x) with
 | some (l,xs),some ys=>MH 32 3 80 st al l xs ys d
 | _,_=>none:=EV (i:=wh) (by kernel_rfl) (by kernel_rfl) (by kernel_rfl) (z:=(wh.zero).getD default) (by kernel_rfl) (by kernel_rfl) (by rw [show wh.size=3 from by kernel_rfl];decide) (by kernel_rfl) (by kernel_rfl)
theorem wj (t:Tk):((Bj [t]).all fun y=>y.cells.length == 3)=true:=rfl
theorem TKs:∃ f,CC.P.underlying 80=some (.struct f):=⟨(match Aah.underlying 80 with | some (.struct f)=>f | _=>#[]),by kernel_rfl⟩
theorem jm (n:Int):A9 CC 80 [(0,.int .i64 0),(2,.int .i64 n)]=some (.agg [.int .i64 0,.str [],.int .i64 n]):=by
 have h:=(by kernel_rfl:CC.P.underlying 80=some (.struct ((match Aah.underlying 80 with | some (.struct f)=>f | _=>#[]))));have hz:tZero CC 80=some (.agg [.int .i64 0,.str [],.int .i64 0]):=by kernel_rfl
 have hp:((match Aah.underlying 80 with | some (.struct f)=>f | _=>#[]):Array Field).toList.mapM (fun f=>(tSize CC f.type).map fun s=>(f.offset,s))=some [(0,1),(1,1),(2,1)]:=by kernel_rfl
 unfold A9;rw [h,hz];simp only [hp];rfl
def PTk (s:List UInt8) (v:List Tk×Nat×Int) (r:Option (Ex×St)):Prop:=
 ∃ e' bx',(r=some (.exit 0,⟨e',bx'⟩)/\v.2=(0,0)/\∃ acc,acc.length<=4000/\v.1=acc++[(0,[],s.length)]/\getT e' 5=.osl 80 (Bj acc)/\getT e' 0=.str s) \/
  (r=some (.ret,⟨e',bx'⟩)/\v.1=[]/\getT e' 2=.osl 80 []/\getT e' 3=.int .i64 (v.2.1:Int)/\getT e' 4=.int .i64 v.2.2)
theorem PM (L:Code) (hL:L=Ab Aa6 [1,1,1,0,1,0]) (s:List UInt8) (hs:s.length<=900000):∀ (m i:Nat) (acc:List Tk) (e:List PV) (bx:List PBox),s.length - i < m->i<=s.length->acc.length<=4000->getT e 0=.str s->getT e 5=.osl 80 (Bj acc)->getT e 6=.int .i64 i ->
 PTk s (GD m s i acc) (Co CC L ⟨e,bx⟩):=by
 intro m
 induction m with
 | zero=>intro i acc e bx hm;omega
 | succ m ih=>
  intro i acc e bx hm hi ha h0 h5 h6;rw [A3 (Ab Aa6 [1,1,1,0,1,0,0]) hL];have hlen:=Bk s
  have QL:GD (m+1) s i acc=if i < s.length then
   (if acc.length=4000 then ([],i,3) else match FJ s i with
    | .inr c=>([],i,c)
    | .inl (t,k)=>GD m s (DE (s.length+1) s k) (acc++[t]))
   else (acc++[(0,[],s.length)],0,0):=rfl
  rw [QL];obtain ⟨tu,htu⟩:=TKs;have gV:∀ (bx:List PBox) (b:PBox),(bx++[b])[bx.length]?=some b:=fun bx b=>by simp
  have ry:∀ (e:List PV) (o:Operand),True:=fun _ _=>trivial;by_cases Bz:i < s.length
  · have OW:(i:Int) < (s.length:Int):=by omega
    rw [if_pos Bz];have Zh:(Bj acc).length=acc.length:=by unfold Bj;rw [Aay]
    by_cases c1:acc.length=4000
    · rw [if_pos c1]
      have hl:((((Bj acc).length:Nat):Int) == 4000)=true:=by rw [Zh,c1];rfl
      generalize Bj acc=xs at *;rw [<- An];simp only [Ab,Ac,Aa6,Aa0];simp only [S8,Ag,seval,h0,h5,h6,hlen,OW,hl];exact ⟨_,_,Or.inr ⟨rfl,rfl,by simp only [S7,Ag,seval],by simp only [S7,Ag,seval],by simp only [S7,Ag,seval]⟩⟩
    · rw [if_neg c1]
      have hl:((((Bj acc).length:Nat):Int) == 4000)=false:=by rw [Zh,beq_eq_false_iff_ne];omega
      cases ho:FJ s i with
      | inr c=>
       obtain ⟨u,Qn⟩:=RF s hs i Bz c ho
       have Xh:(c != 0)=true:=by
        have:=RE ho;rw [bne_iff_ne];omega
       generalize Bj acc=xs at *;rw [<- An];rw [<- AL] at Qn;simp only [Ab,Ac,Aa6,Aa0];simp only [S8,Ag,SG,seval,UT,SC,nP,h0,h5,h6,hlen,OW,hl,Qn,Xh,Aau,gV];exact ⟨_,_,Or.inr ⟨rfl,rfl,by simp only [S7,Ag,seval],by simp only [S7,Ag,seval],by simp only [S7,Ag,seval]⟩⟩
      | inl x=>
       obtain ⟨tk,k⟩:=x;dsimp only;have Qn:=TR s hs i Bz tk k ho;have hC:=MY Bz ho;have mZ:=Pd s hs k hC.2;have QJ:=Is (s.length+1) s k hC.2;have hih:=fun e bx=>ih (DE (s.length+1) s k) (acc++[tk]) e bx (by omega) QJ.2 (by rw [Aad,Aal];omega);have Xh:((0:Int) != 0)=false:=rfl;have Xu:=qo tk;have EA:=wj tk;have b9:Bj (acc++[tk])=Bj acc++Bj [tk]:=by simp only [Bj,Aax]
       rw [b9] at hih;have bQ:(Bj [tk]).length=1:=rfl;have hc:(Bj acc).length+(Bj [tk]).length<=1000000:=by omega
       generalize GD m s (DE (s.length+1) s k) (acc++[tk])=v at *;generalize Bj acc=xs at *;generalize Bj [tk]=ys at *;generalize DE (s.length+1) s k=k' at *;unfold Oe at Qn Xu;rw [<- An];rw [<- AL] at Qn mZ;rw [<- An] at hih;simp only [Ab,Ac,Aa6,Aa0];simp only [S8,Ag,SG,seval,UT,SC,nP,h0,h5,h6,hlen,OW,hl,Qn,mZ,Xu,wi,EA,hc,Xh,Aau,gV];refine hih _ _ ?_ ?_ ?_
       · simp only [S7,Ag,seval,h0]
       · simp only [S7,Ag,seval]
       · simp only [S7,Ag,seval]
  · rw [if_neg Bz]
    have OW:¬ (i:Int) < (s.length:Int):=by omega
    rw [<- An];simp only [Ab,Ac,Aa6,Aa0];simp only [S8,Ag,seval,h0,h5,h6,hlen,OW];exact ⟨_,_,Or.inl ⟨rfl,rfl,_,ha,rfl,by simp only [S7,Ag,seval,h5],by simp only [S7,Ag,seval,h0]⟩⟩
theorem PN (s:List UInt8) (hs:s.length<=900000):∃ bx,Ad CC 21 [.str s] []=some (.ret (.tup [.sl (Bj (BD s).1),.int .i64 ((BD s).2.1:Nat),.int .i64 (BD s).2.2]),bx):=by
 rw [Ir rfl];have hlen:=Bk s;have mZ:=Pd s hs 0 (by omega);have QJ:=Is (s.length+1) s 0 (by omega);have Af:=PM _ rfl s hs (s.length+1) (DE (s.length+1) s 0) [];have Xu:AZ CC 45 1 [(0,.agg [.int .i64 0,.str [],.int .i64 (s.length:Int)])]=some (.osl 80 (Bj [(0,[],s.length)])):=qo (0,[],s.length);have EA:=wj (0,[],s.length);have hb:=jm (s.length:Int);have cast0:((0:Nat):Int)=0:=rfl;rw [cast0] at mZ;unfold BD;by_cases c1:20000 < s.length
 · rw [if_pos c1]
   have c1':(s.length:Int) > 20000:=by omega
   rw [<- An];simp only [Ab,Ac,Aa6,Aa0];simp only [S8,Ag,seval,hlen,c1'];exact ⟨_,rfl⟩
 · rw [if_neg c1]
   have c1':¬ (s.length:Int) > 20000:=by omega
   have HP:=fun e bx=>Af e bx (by omega) QJ.2 (by simp);have b9:∀ acc,Bj (acc++[(0,[],s.length)])=Bj acc++Bj [(0,[],s.length)]:=fun acc=>by simp only [Bj,Aax]
   have Lz:∀ acc,acc.length<=4000->(Bj acc).length+(Bj [(0,[],s.length)]).length<=1000000:=fun acc h=>by unfold Bj;rw [Aay];simp;omega
   generalize GD (s.length+1) s (DE (s.length+1) s 0) []=v at *;generalize DE (s.length+1) s 0=k' at *;generalize Bj [(0,[],s.length)]=ys at *;rw [<- An];rw [<- AL] at mZ;rw [<- An] at HP;simp only [Ab,Ac,Aa6,Aa0] at HP |-;simp only [S8,Ag,seval,hlen,c1',mZ];generalize hE:Hp _ _=r;have hP:PTk s v r:=hE ▸ HP _ _ (by simp only [S7,Ag,seval]) (by simp only [S7,Ag,seval] <;> rfl) (by simp only [S7,Ag,seval]);obtain ⟨e',bx',⟨g1,g2,acc,g3,g4,g5,g6⟩ | ⟨g1,g2,g3,g4,g5⟩⟩:=hP
   · subst g1
     have hc:=Lz acc g3;rw [g4,b9,g2];simp only [S8,Ag,seval,g5,g6,hlen,hb,Xu,wi,EA,hc];exact ⟨_,rfl⟩
   · subst g1
     rw [g2];simp only [S8,Ag,seval,g3,g4,g5];exact ⟨_,rfl⟩
theorem cE:∀ l:List Tk,Al (Bj l)=true
 | []=>rfl
 | t :: r=>by
  have h:=cE r;show ((Oe t).pure && Al (Bj r))=true;rw [h];rfl
theorem nR (l:List Tk) (a c:Int):(PV.tup [.sl (Bj l),.int .i64 a,.int .i64 c]).pure=true:=by
 simp only [SA,SE,cE,Aa2]
theorem L8 (s:List UInt8):∀ (m m' i:Nat),i<=s.length->s.length - i < m->s.length - i < m'->DE m s i=DE m' s i
 | 0,_,_,_,h,_=>by omega
 | m+1,0,_,_,_,h=>by omega
 | m+1,m'+1,i,hi,h,h'=>by
  unfold DE;split
  · rename_i hl
    split
    · exact L8 s m m' (i+1) (by omega) (by omega) (by omega)
    · split
      · rename_i mB
        have hp:nl (Ca s i)=true:=by rw [mB.1];rfl
        have h1:=MX hl hp;have h2:=Fm (p:=nl) (s:=s) (i:=i) hi;exact L8 s m m' (C6 nl s i) h2.2 (by omega) (by omega)
      · rfl
  · rfl
def sk (s:List UInt8) (i:Nat):Nat:=DE (s.length+1) s i
theorem LM {s:List UInt8} {i:Nat} (hi:i<=s.length):sk s i=if i < s.length then
 (if Ca s i=32\/Ca s i=9\/Ca s i=10 then sk s (i+1)
  else if Ca s i=35/\dg (Ca s (i+1))=false then sk s (C6 nl s i) else i) else i:=by
 have h:sk s i=DE (s.length+1+1) s i:=L8 s _ _ i hi (by omega) (by omega);rw [h];rfl
theorem Va {s:List UInt8} {i:Nat} (hi:i<=s.length):i<=sk s i/\sk s i<=s.length:=Is _ s i hi
theorem RG (s:List UInt8):∀ (m m' i:Nat) (acc:List Tk),i<=s.length->s.length - i < m->s.length - i < m'->GD m s i acc=GD m' s i acc
 | 0,_,_,_,_,h,_=>by omega
 | m+1,0,_,_,_,_,h=>by omega
 | m+1,m'+1,i,acc,hi,h,h'=>by
  unfold GD;split
  · rename_i hl
    split
    · rfl
    · cases ho:FJ s i with
      | inr c=>rfl
      | inl x=>
       obtain ⟨tk,k⟩:=x;have hC:=MY hl ho;have QJ:=Is (s.length+1) s k hC.2;exact RG s m m' _ _ QJ.2 (by omega) (by omega)
  · rfl
def tk (s:List UInt8) (i:Nat) (acc:List Tk):List Tk×Nat×Int:=GD (s.length+1) s i acc
theorem RH {s:List UInt8} {i:Nat} (acc:List Tk) (hi:i<=s.length):tk s i acc=if i < s.length then
 (if acc.length=4000 then ([],i,3) else match FJ s i with
  | .inr c=>([],i,c)
  | .inl (t,k)=>tk s (sk s k) (acc++[t]))
 else (acc++[(0,[],s.length)],0,0):=by
 have h:tk s i acc=GD (s.length+1+1) s i acc:=RG s _ _ i acc hi (by omega) (by omega);rw [h];rfl
theorem Of (s:List UInt8):∀ (m m' i:Nat),s.length - i < m->s.length - i < m'->Oc m s i=Oc m' s i
 | 0,_,_,h,_=>by omega
 | m+1,0,_,_,h=>by omega
 | m+1,m'+1,i,h,h'=>by
  unfold Oc;split
  · split
    · exact Of s m m' (i+2) (by omega) (by omega)
    · exact Of s m m' (i+1) (by omega) (by omega)
  · rfl
def eQ (s:List UInt8) (i:Nat):Nat:=Oc (s.length+1) s i
theorem Vc {s:List UInt8} {i:Nat}:eQ s i=if i < s.length/\Ca s i≠34 then eQ s (if Ca s i=92 then i+2 else i+1) else i:=by
 have h:eQ s i=Oc (s.length+1+1) s i:=Of s _ _ i (by omega) (by omega);rw [h];rfl
def wk (w:List UInt8):Prop:=∃ c r,w=c :: r/\sm c.toNat=true/\∀ b ∈ r,pt b.toNat=true
def zb (w:List UInt8):Prop:=w≠[]/\(∀ b ∈ w,dg b.toNat=true)/\(RC w 0).isSome=true
def opW (w:List UInt8):Prop:=∃ c,(w=[c]/\ql c.toNat=true)\/(w=[c,61]/\qj c.toNat=true)
def cF (x:Tk):Prop:=(x.1=1/\wk x.2.1)\/(x.1=2/\zb x.2.1)\/(x.1=3/\x.2.1.length<=60)\/(x.1=4/\opW x.2.1)
def jn (x:Tk):List UInt8:=if x.1=3 then BC x.2.1 else x.2.1
def Pe (x:Tk):Bool:=x.1 == 4 && x.2.1 == [35]
def fC:List Tk->Bool->List UInt8
 | [],b=>if b then [32] else []
 | x :: r,b=>(if b then [32] else [])++(jn x++fC r (!Pe x))
def Og:List Tk->Prop
 | []=>True
 | x :: r=>cF x/\(Pe x=true->∃ y r',r=y :: r'/\y.1=2)/\Og r
theorem rQ {s:List UInt8} (h:(Xr s).2=0):s=BC (Xr s).1/\(Xr s).1.length<=60:=by
 by_cases hq:∃ t,s=BC t
 · obtain ⟨t,rfl⟩:=hq
   rw [U9] at h |-;split at h
   · cases h
   · rename_i hc
     rw [if_neg hc];exact ⟨rfl,Nat.le_of_not_lt hc⟩
 · rw [ji s (fun t e=>hq ⟨t,e⟩)] at h
   cases h
theorem fD (x:Tk) (r:List Tk) (b:Bool):fC (x :: r) b=(if b then [32] else [])++(jn x++fC r (!Pe x)):=rfl
theorem jo:∀ n:_root_.Fin 256,dg n.val=true->sm n.val=false/\n.val≠61/\n.val≠32/\n.val≠9/\n.val≠10/\n.val≠35:=by decide +kernel
theorem nS {s:List UInt8} {i:Nat} (hi:i < s.length) (h:sk s i=i):Ca s i≠32/\Ca s i≠9/\Ca s i≠10/\(Ca s i=35->dg (Ca s (i+1))=true):=by
 rw [LM (by omega),if_pos hi] at h;by_cases c1:Ca s i=32\/Ca s i=9\/Ca s i=10
 · rw [if_pos c1] at h
   have:=Va (s:=s) (i:=i+1) (by omega);omega
 · refine ⟨by omega,by omega,by omega,fun c2=>?_⟩
   rw [if_neg c1] at h;cases hd:dg (Ca s (i+1)) with
   | true=>rfl
   | false=>
    exfalso;rw [if_pos ⟨c2,hd⟩] at h;have h1:=MX (p:=nl) hi (by rw [c2] <;> rfl);have h2:=Fm (p:=nl) (s:=s) (i:=i) (by omega);have:=Va h2.2;omega
theorem cG (s:List UInt8):∀ (d i:Nat),s.length - i<=d->i<=s.length->sk s (sk s i)=sk s i:=by
 intro d
 induction d with
 | zero=>
  intro i h hl;rw [show i=s.length from by omega,LM (Aae _),if_neg (by omega),LM (Aae _),if_neg (by omega)]
 | succ d ih=>
  intro i h hl;by_cases c:i < s.length
  · have e:=LM (s:=s) (i:=i) hl
    rw [if_pos c] at e;by_cases c1:Ca s i=32\/Ca s i=9\/Ca s i=10
    · rw [if_pos c1] at e
      rw [e];exact ih (i+1) (by omega) (by omega)
    · rw [if_neg c1] at e
      by_cases c2:Ca s i=35/\dg (Ca s (i+1))=false
      · rw [if_pos c2] at e
        have h1:=MX (p:=nl) c (by rw [c2.1] <;> rfl);have h2:=Fm (p:=nl) (s:=s) (i:=i) (by omega);rw [e];exact ih _ (by omega) h2.2
      · rw [if_neg c2] at e
        rw [e,e]
  · rw [show i=s.length from by omega,LM (Aae _),if_neg (by omega),LM (Aae _),if_neg (by omega)]
theorem Vd {p:Nat->Bool} {s:List UInt8} {i:Nat}:∀ b ∈ (s.take (C6 p s i)).drop i,p b.toNat=true:=by
 have h:(s.take (C6 p s i)).drop i=(s.drop i).takeWhile fun c=>p c.toNat:=by
  unfold C6;rw [Ab0,Nat.add_sub_cancel_left];generalize s.drop i=x
  induction x with
  | nil=>rfl
  | cons c x ih=>
   rw [Aat];split
   · rw [Aar,Aas,ih]
   · rfl
 rw [h];intro b hb;have:=List.all_takeWhile (p:=fun c:UInt8=>p c.toNat) (l:=s.drop i);exact Aav.1 this b hb
theorem aJ {s:List UInt8} {i k:Nat} (hi:i < k) (hk:k<=s.length):∃ c r,(s.take k).drop i=c :: r/\c.toNat=Ca s i/\r.length=k - i - 1:=by
 have hl:i < (s.take k).length:=by rw [Aaj];omega
 refine ⟨(s.take k)[i],(s.take k).drop (i+1),Aag hl,?_,?_⟩
 · rw [List.getElem_take,Yp (by omega)]
 · rw [Aak,Aaj];omega
theorem jq {s:List UInt8} {i k:Nat} {x:Tk} (hi:i < s.length) (h:FJ s i=.inl (x,k)):cF x/\(jn x).length=k - i/\(Pe x=true->Ca s i=35/\k=i+1)/\(dg (Ca s i)=true->x.1=2):=by
 have hC:=MY hi h;have Mr:((s.take k).drop i).length=k - i:=by rw [Aak,Aaj];omega
 obtain ⟨c,r,Qm,SY,rq⟩:=aJ hC.1 hC.2
 have Gn:FJ s i=if sm (Ca s i) then .inl ((1,(s.take (C6 pt s i)).drop i,i),C6 pt s i)
  else if dg (Ca s i) then (match L7 s i with
   | some k=>.inl ((2,(s.take k).drop i,i),k)
   | none=>.inr 2)
  else if Ca s i=34 then (match Od s i with
   | some (u,k)=>.inl ((3,u,i),k)
   | none=>.inr 4)
  else if DF s i=0 then .inr 12
  else .inl ((4,(s.take (i+DF s i)).drop i,i),i+DF s i):=rfl
 rw [Gn] at h;by_cases c1:sm (Ca s i)=true
 · rw [if_pos c1] at h
   injection h with h
   injection h with h1 h2
   subst h1;have ha:=Vd (p:=pt) (s:=s) (i:=i);rw [h2] at ha |-;refine ⟨.inl ⟨rfl,c,r,Qm,by rw [SY];exact c1,fun b hb=>ha b (by rw [Qm];simp [hb])⟩,Mr,(fun hh=>by simp [Pe] at hh),fun hd=>?_⟩;have:=(jo ⟨Ca s i,Ru s i⟩ hd).1;simp only at this;rw [c1] at this;cases this
 · rw [if_neg c1] at h
   by_cases c2:dg (Ca s i)=true
   · rw [if_pos c2] at h
     cases hn:L7 s i with
     | none=>rw [hn] at h;cases h
     | some k'=>
      rw [hn] at h;injection h with h
      injection h with h1 h2
      subst h1;rw [h2] at hn |-;unfold L7 at hn;obtain ⟨v,hv,hk⟩:=Aai.1 hn;have ha:=Vd (p:=dg) (s:=s) (i:=i);rw [hk] at ha hv;rw [<- Ab0] at hv;exact ⟨.inr (.inl ⟨rfl,by show (s.take k).drop i≠[];rw [Qm];simp,ha,by show (RC ((s.take k).drop i) 0).isSome=true;rw [hv];rfl⟩),Mr,(fun hh=>by simp [Pe] at hh),fun _=>rfl⟩
   · rw [if_neg c2] at h
     by_cases c3:Ca s i=34
     · rw [if_pos c3] at h
       cases hn:Od s i with
       | none=>rw [hn] at h;cases h
       | some y=>
        obtain ⟨u,k'⟩:=y;rw [hn] at h;injection h with h
        injection h with h1 h2
        subst h1;have h2:k'=k:=h2;subst h2;unfold Od at hn;simp only at hn;split at hn
        · cases hn
        · split at hn
          · cases hn
          · rename_i hu
            injection hn with hn
            injection hn with h3 h4
            have h5:=rQ (Decidable.byContradiction hu);rw [h4] at h5 h3;rw [h3] at h5;refine ⟨.inr (.inr (.inl ⟨rfl,h5.2⟩)),?_,(fun hh=>by simp [Pe] at hh),fun hd=>by rw [c3] at hd;cases hd⟩;show (BC u).length=_;rw [<- h5.1];exact Mr
     · rw [if_neg c3] at h
       by_cases c4:DF s i=0
       · rw [if_pos c4] at h;cases h
       · rw [if_neg c4] at h
         injection h with h
         injection h with h1 h2
         subst h1;rw [h2]
         have Bc:opW ((s.take k).drop i):=by
          rw [Qm];refine ⟨c,?_⟩;unfold DF at h2 c4;by_cases d1:Ca s (i+1)=61/\qj (Ca s i)=true
          · rw [if_pos d1] at h2
            right
            match r,rq with
            | [b],_=>
             refine ⟨?_,by rw [SY];exact d1.2⟩
             have h5:s[i+1]?=some b:=by
              have h6:((s.take k).drop i)[1]?=some b:=by rw [Qm];rfl
              rw [List.getElem?_drop,List.getElem?_take_of_lt (by omega)] at h6;exact h6
             have h7:=MS h5;have:b=61:=by rw [<- UInt8.toNat_inj,<- h7];exact d1.1
             rw [this]
            | [],h=>simp at h;omega
            | _ :: _ :: _,h=>simp at h;omega
          · rw [if_neg d1] at h2 c4
            by_cases d2:ql (Ca s i)=true
            · rw [if_pos d2] at h2
              left
              match r,rq with
              | [],_=>exact ⟨rfl,by rw [SY];exact d2⟩
              | _ :: _,h=>simp at h;omega
            · rw [if_neg d2] at c4
              exact absurd rfl c4
         refine ⟨.inr (.inr (.inr ⟨rfl,Bc⟩)),Mr,fun hh=>?_,fun hd=>absurd hd c2⟩;have hh:((s.take k).drop i == [35])=true:=hh;have hh:=beq_iff_eq.1 hh;rw [Qm] at hh;injection hh with e1 e2
         subst e1 e2;exact ⟨by rw [<- SY];rfl,by simp at rq;omega⟩
theorem fE (s:List UInt8):∀ (d i:Nat) (acc:List Tk),s.length - i<=d->i<=s.length->sk s i=i->(tk s i acc).2.2=0 ->
 ∃ r,tk s i acc=(acc++r++[(0,[],s.length)],0,0)/\Og r/\(∀ b,(fC r b).length<=1+2 * (s.length - i))/\r.length<=s.length - i/\(i < s.length->dg (Ca s i)=true->∃ y r',r=y :: r'/\y.1=2):=by
 have mD:∀ i acc,i=s.length->∃ r,tk s i acc=(acc++r++[(0,[],s.length)],0,0)/\Og r/\(∀ b,(fC r b).length<=1+2 * (s.length - i))/\r.length<=s.length - i/\(i < s.length->dg (Ca s i)=true->∃ y r',r=y :: r'/\y.1=2):=fun i acc hi=>by
  refine ⟨[],?_,trivial,fun b=>?_,Nat.zero_le _,fun h=>by omega⟩
  · rw [RH _ (by omega),if_neg (by omega),List.append_nil]
  · cases b <;> simp [fC]
 intro d
 induction d with
 | zero=>intro i acc h hl _ _;exact mD i acc (by omega)
 | succ d ih=>
  intro i acc h hl hs h0;by_cases c:i < s.length
  · rw [RH _ hl,if_pos c] at h0 |-
    by_cases c1:acc.length=4000
    · rw [if_pos c1] at h0;cases h0
    · rw [if_neg c1] at h0 |-
      cases ho:FJ s i with
      | inr e=>
       have he:=RE ho;rw [ho] at h0;simp only at h0;omega
      | inl y=>
       obtain ⟨x,k⟩:=y;rw [ho] at h0;simp only at h0 |-;have hC:=MY c ho;have hle:=Va hC.2;obtain ⟨g1,g2,g3,g4⟩:=jq c ho;obtain ⟨r,f1,f2,f3,f4,f5⟩:=ih (sk s k) (acc++[x]) (by omega) hle.2 (cG s _ k (Aae _) hC.2) h0;refine ⟨x :: r,?_,⟨g1,fun hh=>?_,f2⟩,fun b=>?_,?_,fun _ hd=>⟨x,r,rfl,g4 hd⟩⟩
       · rw [f1];simp
       · obtain ⟨mB,mA⟩:=g3 hh
         have NL:=(nS c hs).2.2.2 mB
         have Bz:k < s.length:=by
          rcases Ab1 k s.length with h' | h'
          · exact h'
          · have h0:Ca s k=0:=by unfold Ca;rw [Aam h']
            rw [<- mA,h0] at NL;cases NL
         rw [<- mA] at NL;have n1:=jo ⟨Ca s k,Ru s k⟩ NL;simp only at n1;have mZ:sk s k=k:=by rw [LM (by omega),if_pos Bz,if_neg (by omega),if_neg (by omega)]
         rw [mZ] at f5;exact f5 Bz NL
       · have h3:=f3 (!Pe x)
         rw [fD,Aad,Aad,g2];have:(if b then [32] else []:List UInt8).length<=1:=by cases b <;> simp
         omega
       · rw [Aar];omega
  · exact mD i acc (by omega)
theorem Ve:∀ (m:Nat) (s:List UInt8) (i:Nat) (acc:List Tk),acc.length<=4000->(GD m s i acc).1.length<=4001
 | 0,_,_,_,_=>by unfold GD;simp
 | m+1,s,i,acc,h=>by
  unfold GD;split
  · split
    · simp
    · split
      · simp
      · exact Ve m _ _ _ (by rw [Aad,Aal];omega)
  · simp only [Aad,Aal];omega
theorem jr (s:List UInt8):(BD s).1.length<=4001:=by
 unfold BD;split
 · simp
 · exact Ve _ _ _ _ (by simp)
theorem HX (s:List UInt8) (hs:s.length<=900000) (bx):Ai CC (Ad CC) 21 [.str s] bx=some (.ret (.tup [.sl (Bj (BD s).1),.int .i64 ((BD s).2.1:Nat),.int .i64 (BD s).2.2]),bx):=by
 obtain ⟨b0,hT⟩:=PN s (by omega);exact Aq rfl (by simp only [SA,Aa2]) hT (nR _ _ _)
inductive PR (α:Type) where
 | ok (a:α) (i:Nat)
 | bad (t:Nat) (e:Int)
 | out
def PR.bind {α β:Type} (r:PR α) (f:α->Nat->PR β):PR β:=match r with
 | .ok a i=>f a i
 | .bad t e=>.bad t e
 | .out=>.out
def tokAt (L:List Tk) (i:Nat):Tk:=L.getD i (0,[],0)
def atT (L:List Tk) (i:Nat):Nat:=(tokAt L i).2.2
def Br (L:List Tk) (k:Nat) (w:List UInt8) (i:Nat):Bool:=(tokAt L i).1 == k && (tokAt L i).2.1 == w
def Bs (L:List Tk) (k:Nat) (w:List UInt8) (i:Nat):PR Unit:=if Br L k w i then .ok () (i+1) else .bad (atT L i) 12
def Oh (L:List Tk) (k:Nat) (i:Nat):PR Tk:=if (tokAt L i).1=k then .ok (tokAt L i) (i+1) else .bad (atT L i) 12
def DG (L:List Tk) (i:Nat):PR (List UInt8):=if (tokAt L i).1=1 then (if BQ (tokAt L i).2.1 then .ok (tokAt L i).2.1 (i+1) else .bad (atT L i) 10) else .bad (atT L i) 12
def amtN (w:List UInt8) (n:Nat):Nat:=w.foldl (fun n b=>10 * n+(b.toNat - 48)) n
def Hq (L:List Tk) (lo hi:Nat) (i:Nat):PR Nat:=
 if (tokAt L i).1=2 then (if amtN (tokAt L i).2.1 0 < lo\/hi < amtN (tokAt L i).2.1 0 then .bad (atT L i) 2 else .ok (amtN (tokAt L i).2.1 0) (i+1)) else .bad (atT L i) 12
def PO (L:List Tk) (hi:Nat) (i:Nat):PR Nat:=if (tokAt L i).1=2/\(tokAt L i).2.1.length≠2 then .bad (atT L i) 12 else Hq L 0 hi i
def Eb (L:List Tk) (i:Nat):PR Ky:=(Hq L 1 250 i).bind fun d i=>(Bs L 4 [46] i).bind fun _ i=>(DG L i).bind fun a i=>(Bs L 4 [46] i).bind fun _ i=>(DG L i).bind fun b i=>.ok ((d:Int),a,b) i
def Fo (L:List Tk) (i:Nat):PR Nat:=(PO L 23 i).bind fun h i=>(Bs L 4 [58] i).bind fun _ i=>(PO L 59 i).bind fun m i=>.ok (60 * h+m) i
def C0 (L:List Tk) (k:Nat) (i:Nat):List (List UInt8)->Nat->Option Nat
 | [],_=>none
 | w :: r,n=>if Br L k w i then some n else C0 L k i r (n+1)
def Cw:List (List UInt8):=[[109,111,110],[116,117,101],[119,101,100],[116,104,117],[102,114,105],[115,97,116],[115,117,110]]
def C7:List (List UInt8):=[[103,117,101,115,116],[99,104,105,108,100],[97,100,117,108,116],[111,119,110,101,114]]
def GF:List (List UInt8):=[[61,61],[33,61],[60],[62,61],[62],[60,61]]
def PS (L:List Tk) (i:Nat):PR Nat:=match C0 L 1 i Cw 0 with
 | some k=>.ok k (i+1)
 | none=>.bad (atT L i) 12
def Hb (L:List Tk):Nat->Nat->Nat->PR Nat
 | 0,_,_=>.out
 | n+1,m,i=>(PS L i).bind fun k i=>if Br L 4 [44] i then Hb L n (m ||| 2 ^ k) (i+1) else .ok (m ||| 2 ^ k) i
def Kq (L:List Tk) (i:Nat):PR Nat:=Hb L (L.length+1) 0 i
def zK:Ky:=(0,[],[])
def zV:Vl:=(0,0,[])
def Bd (k:Int) (kids:List Tr):Tr:=.mk k 0 0 [] zV zK kids
def El (k n:Int):Tr:=.mk 1 0 0 [] (k,n,[]) zK []
def zT:Tr:=.mk 0 0 0 [] zV zK []
def Cx (L:List Tk) (i:Nat):Bool:=(tokAt L i).1 == 2 && !Br L 4 [46] (i+1)
def Fp (L:List Tk) (i:Nat):PR Tr:=
 if Br L 1 [116,114,117,101] i then .ok (El 1 1) (i+1) else
 if Br L 1 [102,97,108,115,101] i then .ok (El 1 0) (i+1) else
 if Br L 1 [109,111,100,101] i then (Bs L 1 [105,115] (i+1)).bind fun _ i=>(DG L i).bind fun s i=>.ok (.mk 3 0 0 s zV zK []) i else
 if Br L 1 [116,105,109,101] i then (Fo L (i+1)).bind fun n i=>(Bs L 1 [116,111] i).bind fun _ i=>(Fo L i).bind fun m i=>.ok (.mk 4 n m [] zV zK []) i else
 if Br L 1 [100,97,121,115] i then (Kq L (i+1)).bind fun n i=>.ok (.mk 5 n 0 [] zV zK []) i else
 if Br L 1 [104,111,109,101] i then (match C0 L 1 (i+1) C7 0 with
  | some k=>.ok (.mk 15 ((k+1:Nat):Int) 0 [] zV zK []) (i+2)
  | none=>.ok (.mk 15 0 0 [] zV zK []) (i+1)) else .bad (atT L i) 12
def PT:Nat->Tr->Tr->Tr
 | 0,a,b=>Bd 9 [a,b]
 | 1,a,b=>Bd 6 [Bd 9 [a,b]]
 | 2,a,b=>Bd 10 [a,b]
 | 3,a,b=>Bd 6 [Bd 10 [a,b]]
 | 4,a,b=>Bd 10 [b,a]
 | _,a,b=>Bd 6 [Bd 10 [b,a]]
inductive NT where
 | expr | chain (b:Bool) | chainL (b:Bool) (acc:List Tr) | not | cmp | sum | sumL (e:Tr) | prod | prodL (e:Tr) | un | prim
def Eo:Bool->NT
 | true=>.chain false
 | false=>.not
def MZ:Bool->List UInt8
 | true=>[111,114]
 | false=>[97,110,100]
def js (b:Bool):List Tr->Tr
 | [a]=>a
 | l=>Bd (if b then 8 else 7) l
def pz (L:List Tk):Nat->NT->Nat->Nat->PR Tr
 | 0,_,_,_=>.out
 | n+1,.expr,o,i=>if Br L 1 [105,102] i then
  (if o < 100 then (pz L n .expr (o+1) (i+1)).bind fun c i=>(Bs L 1 [116,104,101,110] i).bind fun _ i=>(pz L n .expr (o+1) i).bind fun a i=>(Bs L 1 [101,108,115,101] i).bind fun _ i=>(pz L n .expr (o+1) i).bind fun b i=>.ok (Bd 14 [c,a,b]) i
  else .bad (atT L i) 22) else pz L n (.chain true) o i
 | n+1,.chain b,o,i=>(pz L n (Eo b) o i).bind fun a i=>pz L n (.chainL b [a]) o i
 | n+1,.chainL b acc,o,i=>if Br L 1 (MZ b) i then (if acc.length=8 then .bad (atT L i) 3 else (pz L n (Eo b) o (i+1)).bind fun a i=>pz L n (.chainL b (acc++[a])) o i) else .ok (js b acc) i
 | n+1,.not,o,i=>if Br L 1 [110,111,116] i then (if o < 100 then (pz L n .not (o+1) (i+1)).bind fun e i=>.ok (Bd 6 [e]) i else .bad (atT L i) 22) else pz L n .cmp o i
 | n+1,.cmp,o,i=>(pz L n .sum o i).bind fun a i=>match C0 L 4 i GF 0 with
  | some k=>(pz L n .sum o (i+1)).bind fun b i=>.ok (PT k a b) i
  | none=>.ok a i
 | n+1,.sum,o,i=>(pz L n .prod o i).bind fun e i=>pz L n (.sumL e) o i
 | n+1,.sumL e,o,i=>if Br L 4 [43] i then (pz L n .prod o (i+1)).bind fun f i=>pz L n (.sumL (Bd 11 [e,f])) o i else
  if Br L 4 [45] i then (pz L n .prod o (i+1)).bind fun f i=>pz L n (.sumL (Bd 12 [e,f])) o i else .ok e i
 | n+1,.prod,o,i=>(pz L n .un o i).bind fun e i=>pz L n (.prodL e) o i
 | n+1,.prodL e,o,i=>if Br L 4 [42] i then (pz L n .un o (i+1)).bind fun f i=>pz L n (.prodL (Bd 13 [e,f])) o i else .ok e i
 | n+1,.un,o,i=>if Br L 4 [45] i then
  (if Cx L (i+1) then .ok (El 2 (-(amtN (tokAt L (i+1)).2.1 0:Int))) (i+2) else
  if o < 100 then (pz L n .un (o+1) (i+1)).bind fun e i=>.ok (Bd 12 [El 2 0,e]) i else .bad (atT L i) 22) else pz L n .prim o i
 | n+1,.prim,o,i=>if Cx L i then .ok (El 2 (amtN (tokAt L i).2.1 0:Int)) (i+1) else
  if (tokAt L i).1=2 then (Eb L i).bind fun k i=>.ok (.mk 2 0 0 [] zV k []) i else
  if (tokAt L i).1=3 then .ok (.mk 1 0 0 [] (4,0,(tokAt L i).2.1) zK []) (i+1) else
  if Br L 4 [35] i then (Hq L 0 63 (i+1)).bind fun n i=>.ok (El 3 n) i else
  if Br L 4 [40] i then (if o < 100 then (pz L n .expr (o+1) (i+1)).bind fun e i=>(Bs L 4 [41] i).bind fun _ i=>.ok e i else .bad (atT L i) 22) else Fp L i
def D0 (L:List Tk) (n i:Nat):PR Tr:=(pz L n .expr 0 i).bind fun e j=>if Km e=0 then .ok e j else .bad (atT L i) (Km e)
end Go.HH
