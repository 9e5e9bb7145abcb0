/-
  What the law needs, packed: Q4 PA.
-/
import Derived.Test.YthjcaihemgllaaaGreatDoorK35
open Option renaming getD->Aau,map_eq_some_iff->Abc
open Nat renaming le_of_ble_eq_true->Aav,le_refl->Ab8,lt_or_ge->Abv
open Bool renaming and_true->Aaw,eq_iff_iff->Ab6
open Int renaming toNat_natCast->Aax
open List renaming set_cons_zero->Aay,set_cons_succ->Aaz,getElem?_eq_some_iff->Ab3,length_append->Ab7,drop_eq_getElem_cons->Aba,length_take->Abd,length_drop->Abe,length_singleton->Abf,getElem?_eq_none->Abg,range->Abi,length_cons->Abl,take_succ_cons->Abm,takeWhile_cons->Abn,append_assoc->Abo,all_eq_true->Abp,map_append->Abr,length_map->Abs,drop_take->Abu
open Go.Proofs.Tryz renaming f21->Ab0,f97->Ab1,f45->Ab2,f96->Ab4,f46->Ab5,f92->Ab9,prog->Abb,f90->Abh,f98->Abk
open Go.Lib renaming indexByte->Abj
open UInt8 renaming toNat_lt->Abq
open Go.IntKind renaming wrap->Abt
open List.Sublist renaming length_le->Abw
namespace Go.HH
open Go Go.Proofs
set_option maxRecDepth 100000
set_option linter.unusedSimpArgs false
set_option linter.unusedVariables false
theorem fZ:Be CC Abh (Abh.body.getD .skip)=true:=by kernel_rfl
theorem bf:CC.P.funcs[90]?=some Abh:=by kernel_rfl
theorem bg:Be CC Ab9 (Ab9.body.getD .skip)=true:=by kernel_rfl
theorem YC:CC.P.funcs[92]?=some Ab9:=by kernel_rfl
theorem YD:Be CC Ab2 (Ab2.body.getD .skip)=true:=by kernel_rfl
theorem Wt:CC.P.funcs[45]?=some Ab2:=by kernel_rfl
theorem TW:Be CC Ab4 (Ab4.body.getD .skip)=true:=by kernel_rfl
theorem RN:CC.P.funcs[96]?=some Ab4:=by kernel_rfl
theorem YE (C:Cfg) (e:List PV) (f:FuncId):opd C e (.func f)=.fn f [] []:=rfl
noncomputable def gb (f:FuncId) (g:Nat->Bool) (n:Nat):Bool:=match Fb CC 50 f [.int .i32 n] [] with
 | some (.ret (.bool b),[])=>b == g n
 | _=>false
theorem M5 {f:FuncId} {g:Nat->Bool} (h:(Abi 256).all (gb f g)=true) (n:Nat) (hn:n < 256) (bx) (hh:CC.heap f=false:=by rfl):Ai CC (Ad CC) f [.int .i32 (n:Int)] bx=some (.ret (.bool (g n)),bx):=by
 have:=Abp.1 h n (List.mem_range.2 hn);unfold gb at this;split at this
 · rename_i b hs
   have e:b=g n:=by simpa using this
   subst e;exact Ao hh (by simp only [SA,Aaw]) (ES.2 ⟨50,hs⟩) rfl
 · cases this
def dg (n:Nat):Bool:=decide (48<=n) && decide (n<=57)
def sm (n:Nat):Bool:=decide (97<=n) && decide (n<=122)
def pt (n:Nat):Bool:=sm n || dg n || n == 95 || n == 45
def nl (n:Nat):Bool:=n != 10
theorem jO:(Abi 256).all (gb 91 dg)=true:=by kernel_rfl
theorem sD:(Abi 256).all (gb 94 sm)=true:=by kernel_rfl
theorem sE:(Abi 256).all (gb 95 pt)=true:=by kernel_rfl
theorem sG:(Abi 256).all (gb 93 nl)=true:=by kernel_rfl
theorem M6 (n:Nat) (hn:n < 256) (bx):Ai CC (Ad CC) 91 [.int .i32 (n:Int)] bx=some (.ret (.bool (dg n)),bx):=M5 jO n hn bx
theorem Wu (n:Nat) (hn:n < 256) (bx):Ai CC (Ad CC) 94 [.int .i32 (n:Int)] bx=some (.ret (.bool (sm n)),bx):=M5 sD n hn bx
theorem YF (s:List UInt8) (i:Nat):Ad CC 90 [.str s,.int .i64 (i:Int)] []=some (.ret (.int .i32 (Cb s i:Int)),[]):=by
 rw [Ah (fn:=Abh) (c:=Abh.body.getD .skip) rfl rfl bf rfl fZ (Aav rfl)];have hlen:=A7 s;by_cases c1:(i:Int) ≥ (s.length:Int)
 · have e:Cb s i=0:=by unfold Cb;rw [Abg (by omega)]
   rw [e];rw [<- Al];simp only [Aa,Ac,Abh,Aau];simp only [S7,Af,seval,TG,hlen,c1]
   try rfl
 · have hx:s[i]?=some (s[i]'(by omega)):=by simp
   have e:=M4 hx;have QB:=Ks s i _ hx;have cL:=Abq (s[i]'(by omega));have Z3:=Vn ((s[i]'(by omega)).toNat:Int) ⟨by omega,by omega⟩;rw [e];generalize s[i]'(by omega)=c at *;rw [<- Al];simp only [Aa,Ac,Abh,Aau];simp only [S7,Af,seval,TG,hlen,c1,QB,Z3]
theorem Ix (s:List UInt8) (i:Nat) (bx):Ai CC (Ad CC) 90 [.str s,.int .i64 (i:Int)] bx=some (.ret (.int .i32 (Cb s i:Int)),bx):=Ao rfl (by simp only [SA,Aaw]) (YF s i) rfl
def C6 (p:Nat->Bool) (s:List UInt8) (i:Nat):Nat:=i+((s.drop i).takeWhile fun c=>p c.toNat).length
theorem Lj {p:Nat->Bool} {s:List UInt8} {i:Nat} {c:UInt8} (h:s[i]?=some c):C6 p s i=if p c.toNat then C6 p s (i+1) else i:=by
 have hi:i < s.length:=(Ab3.1 h).1;have hc:s[i]=c:=(Ab3.1 h).2;unfold C6;rw [Aba hi,Abn,hc];split
 · rw [Abl];omega
 · simp
theorem RO {p:Nat->Bool} {s:List UInt8} {i:Nat} (h:s.length<=i):C6 p s i=i:=by
 unfold C6;rw [List.drop_eq_nil_of_le h];rfl
theorem Fm {p:Nat->Bool} {s:List UInt8} {i:Nat} (h:i<=s.length):i<=C6 p s i/\C6 p s i<=s.length:=by
 unfold C6;have:((s.drop i).takeWhile fun c=>p c.toNat).length<=(s.drop i).length:=Abw (List.takeWhile_sublist _);rw [Abe] at this;omega
theorem Wv (L:Code) (hL:L=Aa Ab9 [1,0,0]) (s:List UInt8) (hs:s.length<=900000) (f:FuncId) (p:Nat->Bool) (hf:∀ (n:Nat),n < 256->∀ bx,Ai CC (Ad CC) f [.int .i32 (n:Int)] bx=some (.ret (.bool (p n)),bx)):∀ (k i:Nat) (e:List PV),i+k=s.length->getT e 0=.str s->getT e 1=.int .i64 i->getT e 2=.fn f [] [] ->
 ∃ e',Cf CC L ⟨e,[]⟩=some (.exit 0,⟨e',[]⟩)/\getT e' 1=.int .i64 (C6 p s i:Nat):=by
 intro k
 induction k with
 | zero=>
  intro i e hk h0 h1 h2;rw [AX (Aa Ab9 [1,0,0,0]) hL];have hi:¬ (i:Int) < (s.length:Int):=by omega
  have hlen:=A7 s;have hr:=RO (p:=p) (s:=s) (i:=i) (by omega);rw [<- Al];simp only [Aa,Ac,Ab9,Aau];simp only [S8,Af,seval,h0,h1,h2,hlen,hi];exact ⟨_,rfl,by simp only [S7,Af,seval,h1,hr]⟩
 | succ k ih=>
  intro i e hk h0 h1 h2;rw [AX (Aa Ab9 [1,0,0,0]) hL];have hi:(i:Int) < (s.length:Int):=by omega
  have hlen:=A7 s;have hx:s[i]?=some (s[i]'(by omega)):=by simp
  have QB:=Ks s i _ hx;have EC:=Lj (p:=p) hx;have cL:=Abq (s[i]'(by omega));have Z3:=Vn ((s[i]'(by omega)).toNat:Int) ⟨by omega,by omega⟩;have yP:=hf (s[i]'(by omega)).toNat cL;have hw:=wrap_i64 (n:=(i:Int)+1) ⟨by omega,by omega⟩;generalize s[i]'(by omega)=c at *;rw [EC];rw [<- Al];rw [<- Al] at ih;rw [<- AI] at yP;simp only [Aa,Ac,Ab9,Aau];cases hp:p c.toNat with
  | false=>
   rw [hp] at yP;simp only [S8,Af,seval,Aw,h0,h1,h2,hlen,hi,QB,Z3,yP];exact ⟨_,rfl,by simp only [S7,Af,seval,h1]⟩
  | true=>
   rw [hp] at yP;simp only [S8,Af,seval,Aw,h0,h1,h2,hlen,hi,QB,Z3,yP,hw];exact ih (i+1) _ (by omega) (by simp only [S7,Af,seval,h0]) (by simp only [S7,Af,seval] <;> rfl) (by simp only [S7,Af,seval,h2])
theorem Jh (s:List UInt8) (hs:s.length<=900000) (f:FuncId) (p:Nat->Bool) (hf:∀ (n:Nat),n < 256->∀ bx,Ai CC (Ad CC) f [.int .i32 (n:Int)] bx=some (.ret (.bool (p n)),bx)) (i:Nat) (hi:i<=s.length) :
 Ad CC 92 [.str s,.int .i64 (i:Int),.fn f [] []] []=some (.ret (.int .i64 (C6 p s i:Nat)),[]):=by
 rw [Ah (fn:=Ab9) (c:=Ab9.body.getD .skip) rfl rfl YC rfl bg (Aav rfl)];have Ag:=Wv _ rfl s hs f p hf (s.length - i) i;rw [<- Al];rw [<- Al] at Ag;simp only [Aa,Ac,Ab9,Aau] at Ag |-;simp only [S8,Af,seval];generalize hE:GM _ _=r;obtain ⟨e',he,g1⟩:=MN hE (Ag _ (by omega) (by simp only [S7,Af,seval]) (by simp only [S7,Af,seval]) (by simp only [S7,Af,seval]));subst he;simp only [S8,Af,seval,g1]
theorem PW (s:List UInt8) (hs:s.length<=900000) (i:Nat) (hi:i<=s.length) (bx):Ai CC (Ad CC) 92 [.str s,.int .i64 (i:Int),.fn 95 [] []] bx=some (.ret (.int .i64 (C6 pt s i:Nat)),bx):=
 Ao rfl (by simp only [SA,SE,Aaw]) (Jh s hs _ pt (M5 sE) i hi) rfl
theorem Oh (s:List UInt8) (hs:s.length<=900000) (i:Nat) (hi:i<=s.length) (bx):Ai CC (Ad CC) 92 [.str s,.int .i64 (i:Int),.fn 91 [] []] bx=some (.ret (.int .i64 (C6 dg s i:Nat)),bx):=
 Ao rfl (by simp only [SA,SE,Aaw]) (Jh s hs _ dg (M5 jO) i hi) rfl
theorem TY (s:List UInt8) (hs:s.length<=900000) (i:Nat) (hi:i<=s.length) (bx):Ai CC (Ad CC) 92 [.str s,.int .i64 (i:Int),.fn 93 [] []] bx=some (.ret (.int .i64 (C6 nl s i:Nat)),bx):=
 Ao rfl (by simp only [SA,SE,Aaw]) (Jh s hs _ nl (M5 sG) i hi) rfl
def DD:Nat->List UInt8->Nat->Nat
 | 0,_,i=>i
 | m+1,s,i=>if i < s.length then
  (if Cb s i=32\/Cb s i=9\/Cb s i=10 then DD m s (i+1)
   else if Cb s i=35/\dg (Cb s (i+1))=false then DD m s (C6 nl s i) else i) else i
def PSk (v:Nat) (r:Option (Ex×St)):Prop:=∃ e',(r=some (.exit 0,⟨e',[]⟩)/\getT e' 1=.int .i64 (v:Int))\/(r=some (.ret,⟨e',[]⟩)/\getT e' 4=.int .i64 (v:Int))
theorem TZ (L:Code) (hL:L=Aa Ab2 [1,0,0]) (s:List UInt8) (hs:s.length<=900000):∀ (m i:Nat) (e:List PV),s.length - i < m->i<=s.length->getT e 0=.str s->getT e 1=.int .i64 i ->
 PSk (DD m s i) (Cf CC L ⟨e,[]⟩):=by
 intro m
 induction m with
 | zero=>intro i e hm;omega
 | succ m ih=>
  intro i e hm hi h0 h1;rw [AX (Aa Ab2 [1,0,0,0]) hL];have hlen:=A7 s
  have nM:DD (m+1) s i=if i < s.length then
   (if Cb s i=32\/Cb s i=9\/Cb s i=10 then DD m s (i+1)
    else if Cb s i=35/\dg (Cb s (i+1))=false then DD m s (C6 nl s i) else i) else i:=rfl
  rw [nM];have Ht:=Ix s i;have O8:=Ix s (i+1);have NV:=M6 (Cb s (i+1)) (RH s (i+1));have BV:=TY s hs i hi;have hw:=wrap_i64 (n:=(i:Int)+1) ⟨by omega,by omega⟩;have nN:(((Cb s i:Nat):Int) == 32)=decide (Cb s i=32):=by rw [Ab6];simp;omega
  have h9:(((Cb s i:Nat):Int) == 9)=decide (Cb s i=9):=by rw [Ab6];simp;omega
  have XF:(((Cb s i:Nat):Int) == 10)=decide (Cb s i=10):=by rw [Ab6];simp;omega
  have ng:(((Cb s i:Nat):Int) == 35)=decide (Cb s i=35):=by rw [Ab6];simp;omega
  have zw:Cb s i=35->i < s.length->i < C6 nl s i/\C6 nl s i<=s.length:=fun h hl=>by
   have hx:s[i]?=some s[i]:=by simp
   have h2:=Lj (p:=nl) hx;rw [M4 hx] at h;rw [h] at h2;have h3:nl 35=true:=rfl;rw [h3,if_pos rfl] at h2;have:=Fm (p:=nl) (s:=s) (i:=i+1) (by omega);omega
  have key1:=fun e=>ih (i+1) e;have key2:=fun e=>ih (C6 nl s i) e;by_cases BC:i < s.length
  · have O7:(i:Int) < (s.length:Int):=by omega
    rw [if_pos BC];have k1:=fun e=>key1 e (by omega) (by omega);have cast1:((i+1:Nat):Int)=(i:Int)+1:=by omega
    rw [cast1] at O8;by_cases c1:Cb s i=32\/Cb s i=9\/Cb s i=10
    · rw [if_pos c1]
      rw [<- Al];rw [<- Al] at k1;rw [<- AI] at Ht;simp only [Aa,Ac,Ab2,Aau];by_cases d1:Cb s i=32
      · rw [decide_eq_true d1] at nN
        simp only [S8,Af,seval,h0,h1,hlen,O7,Ht,nN,hw];exact k1 _ (by simp only [S7,Af,seval,h0]) (by simp only [S7,Af,seval] <;> rfl)
      · by_cases d2:Cb s i=9
        · rw [decide_eq_false d1] at nN
          rw [decide_eq_true d2] at h9;simp only [S8,Af,seval,h0,h1,hlen,O7,Ht,nN,h9,hw];exact k1 _ (by simp only [S7,Af,seval,h0]) (by simp only [S7,Af,seval] <;> rfl)
        · have d3:Cb s i=10:=by omega
          rw [decide_eq_false d1] at nN;rw [decide_eq_false d2] at h9;rw [decide_eq_true d3] at XF;simp only [S8,Af,seval,h0,h1,hlen,O7,Ht,nN,h9,XF,hw];exact k1 _ (by simp only [S7,Af,seval,h0]) (by simp only [S7,Af,seval] <;> rfl)
    · rw [if_neg c1]
      have d1:¬ Cb s i=32:=by omega
      have d2:¬ Cb s i=9:=by omega
      have d3:¬ Cb s i=10:=by omega
      rw [decide_eq_false d1] at nN;rw [decide_eq_false d2] at h9;rw [decide_eq_false d3] at XF;by_cases c2:Cb s i=35
      · rw [decide_eq_true c2] at ng
        have hr:=zw c2 BC;have k2:=fun e=>key2 e (by omega) (by omega);cases hd:dg (Cb s (i+1)) with
        | true=>
         rw [hd] at NV;rw [if_neg (fun h=>by cases h.2)];rw [<- Al];rw [<- AI] at Ht O8 NV;simp only [Aa,Ac,Ab2,Aau];simp only [S8,Af,seval,nQ,h0,h1,hlen,O7,Ht,nN,h9,XF,ng,hw,O8,NV];exact ⟨_,.inr ⟨rfl,by simp only [S7,Af,seval,h1]⟩⟩
        | false=>
         rw [hd] at NV;rw [if_pos ⟨c2,rfl⟩];generalize C6 nl s i=rr at *;rw [<- Al];rw [<- Al] at k2;rw [<- AI] at Ht O8 NV BV;simp only [Aa,Ac,Ab2,Aau];simp only [S8,Af,seval,nQ,h0,h1,hlen,O7,Ht,nN,h9,XF,ng,hw,O8,NV,BV,YE];exact k2 _ (by simp only [S7,Af,seval,h0]) (by simp only [S7,Af,seval])
      · rw [if_neg (fun h=>c2 h.1)]
        rw [decide_eq_false c2] at ng;rw [<- Al];rw [<- AI] at Ht;simp only [Aa,Ac,Ab2,Aau];simp only [S8,Af,seval,h0,h1,hlen,O7,Ht,nN,h9,XF,ng];exact ⟨_,.inr ⟨rfl,by simp only [S7,Af,seval,h1]⟩⟩
  · have O7:¬ (i:Int) < (s.length:Int):=by omega
    rw [if_neg BC];rw [<- Al];simp only [Aa,Ac,Ab2,Aau];simp only [S8,Af,seval,h0,h1,hlen,O7];exact ⟨_,.inl ⟨rfl,by simp only [S7,Af,seval,h1]⟩⟩
theorem T0 (s:List UInt8) (hs:s.length<=900000) (i:Nat) (hi:i<=s.length):Ad CC 45 [.str s,.int .i64 (i:Int)] []=some (.ret (.int .i64 (DD (s.length+1) s i:Nat)),[]):=by
 rw [Ah (fn:=Ab2) (c:=Ab2.body.getD .skip) rfl rfl Wt rfl YD (Aav rfl)];have Ag:=TZ _ rfl s hs (s.length+1) i;rw [<- Al];rw [<- Al] at Ag;simp only [Aa,Ac,Ab2,Aau] at Ag |-;simp only [S8,Af,seval];generalize hE:GM _ _=r
 have hP:PSk (DD (s.length+1) s i) r:=by
  rw [<- hE];exact Ag _ (by omega) hi (by simp only [S7,Af,seval]) (by simp only [S7,Af,seval])
 obtain ⟨e',⟨he,g1⟩ | ⟨he,g4⟩⟩:=hP
 · subst he
   simp only [S8,Af,seval,g1]
 · subst he
   simp only [S8,Af,seval,g4]
theorem Pq (s:List UInt8) (hs:s.length<=900000) (i:Nat) (hi:i<=s.length) (bx):Ai CC (Ad CC) 45 [.str s,.int .i64 (i:Int)] bx=some (.ret (.int .i64 (DD (s.length+1) s i:Nat)),bx):=Ao rfl (by simp only [SA,Aaw]) (T0 s hs i hi) rfl
theorem T4:Be CC Ab1 (Ab1.body.getD .skip)=true:=by kernel_rfl
theorem RP:CC.P.funcs[97]?=some Ab1:=by kernel_rfl
theorem PX:Be CC Abk (Abk.body.getD .skip)=true:=by kernel_rfl
theorem Oi:CC.P.funcs[98]?=some Abk:=by kernel_rfl
theorem jP {p:Nat->Bool} {s:List UInt8}:∀ (m i:Nat),s.length - i<=m->∀ k,i<=k->k < C6 p s i->∃ c,s[k]?=some c/\p c.toNat=true:=by
 intro m
 induction m with
 | zero=>
  intro i hm k h1 h2;rw [RO (by omega)] at h2;omega
 | succ m ih=>
  intro i hm k h1 h2;by_cases hi:i < s.length
  · have hx:s[i]?=some s[i]:=by simp
    rw [Lj hx] at h2;split at h2
    · rename_i hp
      rcases Nat.eq_or_lt_of_le h1 with e | e
      · subst e;exact ⟨_,hx,hp⟩
      · exact ih (i+1) (by omega) k (by omega) h2
    · omega
  · rw [RO (by omega)] at h2
    omega
def RQ:List UInt8->Nat->Option Nat
 | [],n=>some n
 | c :: r,n=>if 10 * n+(c.toNat - 48) > 1099511627776 then none else RQ r (10 * n+(c.toNat - 48))
def wX (i e0:Nat) (o:Option Nat) (r:Option (Ex×St)):Prop:=match o with
 | some _=>∃ e,r=some (.exit 0,⟨e,[]⟩)/\getT e 6=.int .i64 (e0:Int)
 | none=>∃ e,r=some (.ret,⟨e,[]⟩)/\getT e 4=.int .i64 (i:Int)/\getT e 5=.int .i64 2
theorem P0 (L:Code) (hL:L=Aa Ab4 [1,1,1,0,1,0]) (s:List UInt8) (hs:s.length<=900000) (i e0:Nat) (he0:e0<=s.length) (D1:∀ k,i<=k->k < e0->∃ c,s[k]?=some c/\dg c.toNat=true):∀ (j k n:Nat) (e:List PV),k+j=e0->i<=k->n<=1099511627776->getT e 0=.str s->getT e 1=.int .i64 i->getT e 6=.int .i64 e0->getT e 7=.int .i64 n->getT e 8=.int .i64 k ->
 wX i e0 (RQ ((s.drop k).take j) n) (Cf CC L ⟨e,[]⟩):=by
 intro j
 induction j with
 | zero=>
  intro k n e hk eJ hn h0 h1 h6 h7 h8;rw [AX (Aa Ab4 [1,1,1,0,1,0,0]) hL];have hi:¬ (k:Int) < (e0:Int):=by omega
  rw [<- Al];rw [List.take_zero];simp only [Aa,Ac,Ab4,Aau];simp only [S7,Af,seval,TG,h6,h8,hi];exact ⟨_,rfl,by simp only [S7,Af,seval,h6]⟩
 | succ j ih=>
  intro k n e hk eJ hn h0 h1 h6 h7 h8;rw [AX (Aa Ab4 [1,1,1,0,1,0,0]) hL];have hi:(k:Int) < (e0:Int):=by omega
  obtain ⟨c,hx,hd⟩:=D1 k eJ (by omega);have hkl:k < s.length:=(Ab3.1 hx).1;have rZ:s[k]=c:=(Ab3.1 hx).2;have G1:(s.drop k).take (j+1)=c :: (s.drop (k+1)).take j:=by rw [Aba hkl,Abm,rZ]
  have QB:=Ks s k c hx;unfold dg at hd;simp only [Bool.and_eq_true,decide_eq_true_eq] at hd;have w2:Abt .u8 ((c.toNat:Int) - 48)=(c.toNat:Int) - 48:=by simp [Abt,IntKind.bits,IntKind.signed];omega
  have w3:=Vm ((c.toNat:Int) - 48) ⟨by omega,by omega⟩;have w1:=wrap_i64 (n:=10 * (n:Int)) ⟨by omega,by omega⟩;have w4:=wrap_i64 (n:=10 * (n:Int)+((c.toNat:Int) - 48)) ⟨by omega,by omega⟩;have hw:=wrap_i64 (n:=(k:Int)+1) ⟨by omega,by omega⟩;have nh:((10 * n+(c.toNat - 48):Nat):Int)=10 * (n:Int)+((c.toNat:Int) - 48):=by omega
  have hnr:RQ (c :: (s.drop (k+1)).take j) n=if 10 * n+(c.toNat - 48) > 1099511627776 then none else RQ ((s.drop (k+1)).take j) (10 * n+(c.toNat - 48)):=rfl
  have key:=fun (h:¬ 10 * n+(c.toNat - 48) > 1099511627776) e=>ih (k+1) (10 * n+(c.toNat - 48)) e (by omega) (by omega) (by omega);rw [G1,hnr];by_cases c1:10 * n+(c.toNat - 48) > 1099511627776
  · have c1':10 * (n:Int)+((c.toNat:Int) - 48) > 1099511627776:=by omega
    rw [if_pos c1];rw [<- Al];simp only [Aa,Ac,Ab4,Aau];simp only [S7,Af,seval,TG,h0,h1,h6,h7,h8,hi,QB,w1,w2,w3,w4,c1'];exact ⟨_,rfl,by simp only [S7,Af,seval],by simp only [S7,Af,seval]⟩
  · have c1':¬ 10 * (n:Int)+((c.toNat:Int) - 48) > 1099511627776:=by omega
    rw [if_neg c1];have key:=key c1;rw [nh] at key;rw [<- Al];rw [<- Al] at key;simp only [Aa,Ac,Ab4,Aau];simp only [S7,Af,seval,TG,h0,h1,h6,h7,h8,hi,QB,w1,w2,w3,w4,c1',hw];exact key _ (by simp only [S7,Af,seval,h0]) (by simp only [S7,Af,seval,h1]) (by simp only [S7,Af,seval,h6]) (by simp only [S7,Af,seval]) (by simp only [S7,Af,seval] <;> rfl)
def Me (s:List UInt8) (i:Nat):Option Nat:=(RQ ((s.drop i).take (C6 dg s i - i)) 0).map fun _=>C6 dg s i
theorem P1 (s:List UInt8) (hs:s.length<=900000) (i:Nat) (hi:i<=s.length):Ad CC 96 [.str s,.int .i64 (i:Int)] []=some (.ret (match Me s i with
 | some k=>.tup [.int .i64 (k:Int),.int .i64 0]
 | none=>.tup [.int .i64 (i:Int),.int .i64 2]),[]):=by
 rw [Ah (fn:=Ab4) (c:=Ab4.body.getD .skip) rfl rfl RN rfl TW (Aav rfl)];have zw:=Fm (p:=dg) hi;have BV:=Oh s hs i hi;have Ag:=fun e=>P0 _ rfl s hs i (C6 dg s i) zw.2 (jP (s.length) i (by omega)) (C6 dg s i - i) i 0 e (by omega) (by omega) (by omega);unfold Me;generalize C6 dg s i=e0 at *;rw [<- Al];rw [<- Al] at Ag;rw [<- AI] at BV;simp only [Aa,Ac,Ab4,Aau] at Ag |-;simp only [S8,Af,seval,YE,BV];generalize hE:GM _ ⟨_,_⟩=r
 have hP:wX i e0 (RQ ((s.drop i).take (e0 - i)) 0) r:=by
  rw [<- hE];exact Ag _ (by simp only [S7,Af,seval]) (by simp only [S7,Af,seval]) (by simp only [S7,Af,seval]) (by simp only [S7,Af,seval] <;> rfl) (by simp only [S7,Af,seval])
 clear hE Ag;cases hn:RQ ((s.drop i).take (e0 - i)) 0 with
 | some v=>
  rw [hn] at hP;obtain ⟨e',he,g6⟩:=hP;subst he;simp only [S8,Af,seval,g6]
 | none=>
  rw [hn] at hP;obtain ⟨e',he,g4,g5⟩:=hP;subst he;simp only [S8,Af,seval,g4,g5]
theorem T5 (s:List UInt8) (hs:s.length<=900000) (i:Nat) (hi:i<=s.length) (bx):Ai CC (Ad CC) 96 [.str s,.int .i64 (i:Int)] bx=some (.ret (match Me s i with
 | some k=>.tup [.int .i64 (k:Int),.int .i64 0]
 | none=>.tup [.int .i64 (i:Int),.int .i64 2]),bx):=Ao rfl (by simp only [SA,Aaw]) (P1 s hs i hi) (by cases Me s i <;> rfl)
def Oj:Nat->List UInt8->Nat->Nat
 | 0,_,e=>e
 | m+1,s,e=>if e < s.length/\Cb s e≠34 then Oj m s (if Cb s e=92 then e+2 else e+1) else e
theorem QG:∀ (m:Nat) (s:List UInt8) (e:Nat),e<=Oj m s e
 | 0,_,e=>Ab8 _
 | m+1,s,e=>by
  unfold Oj;split
  · split
    · have:=QG m s (e+2);omega
    · have:=QG m s (e+1);omega
  · exact Ab8 _
theorem P2 (L:Code) (hL:L=Aa Ab1 [1,1,0,0]) (s:List UInt8) (hs:s.length<=900000) (v1:PV):∀ (m x:Nat) (e:List PV),s.length+1 - x < m->x<=s.length+1->getT e 0=.str s->getT e 1=v1->getT e 7=.int .i64 x ->
 ∃ e',Cf CC L ⟨e,[]⟩=some (.exit 0,⟨e',[]⟩)/\getT e' 0=.str s/\getT e' 1=v1/\getT e' 7=.int .i64 (Oj m s x:Nat):=by
 intro m
 induction m with
 | zero=>intro x e hm;omega
 | succ m ih=>
  intro x e hm XL h0 h1 h7;rw [AX (Aa Ab1 [1,1,0,0,0]) hL];have hlen:=A7 s;have hq:Oj (m+1) s x=if x < s.length/\Cb s x≠34 then Oj m s (if Cb s x=92 then x+2 else x+1) else x:=rfl
  rw [hq];have k1:=fun e=>ih (x+1) e;have k2:=fun e=>ih (x+2) e;by_cases BC:x < s.length
  · have O7:(x:Int) < (s.length:Int):=by omega
    have hx:s[x]?=some (s[x]'(by omega)):=by simp
    have QB:=Ks s x _ hx;have Ht:=M4 hx;rw [Ht];generalize s[x]'(by omega)=c at *;have w1:=wrap_i64 (n:=(x:Int)+1) ⟨by omega,by omega⟩;have w2:=wrap_i64 (n:=(x:Int)+1+1) ⟨by omega,by omega⟩;by_cases c1:c.toNat=34
    · have c1':((c.toNat:Int) != 34)=false:=by simp [c1]
      rw [if_neg (fun h=>h.2 c1)];rw [<- Al];simp only [Aa,Ac,Ab1,Aau];simp only [S8,Af,seval,h0,h1,h7,hlen,O7,QB,c1'];exact ⟨_,rfl,by simp only [S7,Af,seval,h0],by simp only [S7,Af,seval,h1],by simp only [S7,Af,seval,h7]⟩
    · have c1':((c.toNat:Int) != 34)=true:=by simp;omega
      rw [if_pos ⟨BC,c1⟩];by_cases c2:c.toNat=92
      · have c2':((c.toNat:Int) == 92)=true:=by simp [c2]
        rw [if_pos c2];have k2:=fun e=>k2 e (by omega) (by omega);have Tf:((x+2:Nat):Int)=(x:Int)+1+1:=by omega
        rw [Tf] at k2;rw [<- Al];rw [<- Al] at k2;simp only [Aa,Ac,Ab1,Aau];simp only [S8,Af,seval,h0,h1,h7,hlen,O7,QB,c1',c2',w1,w2];exact k2 _ (by simp only [S7,Af,seval,h0]) (by simp only [S7,Af,seval,h1]) (by simp only [S7,Af,seval])
      · have c2':((c.toNat:Int) == 92)=false:=by simp;omega
        rw [if_neg c2];have k1:=fun e=>k1 e (by omega) (by omega);rw [<- Al];rw [<- Al] at k1;simp only [Aa,Ac,Ab1,Aau];simp only [S8,Af,seval,h0,h1,h7,hlen,O7,QB,c1',c2',w1];exact k1 _ (by simp only [S7,Af,seval,h0]) (by simp only [S7,Af,seval,h1]) (by simp only [S7,Af,seval] <;> rfl)
  · have O7:¬ (x:Int) < (s.length:Int):=by omega
    rw [if_neg (fun h=>BC h.1)];rw [<- Al];simp only [Aa,Ac,Ab1,Aau];simp only [S8,Af,seval,h0,h1,h7,hlen,O7];exact ⟨_,rfl,by simp only [S7,Af,seval,h0],by simp only [S7,Af,seval,h1],by simp only [S7,Af,seval,h7]⟩
def Ok (s:List UInt8) (i:Nat):Option (List UInt8×Nat):=
 let e:=Oj (s.length+1) s (i+1)
 if s.length<=e then none else if (XH ((s.take (e+1)).drop i)).2≠0 then none else some ((XH ((s.take (e+1)).drop i)).1,e+1)
theorem P3 (s:List UInt8) (hs:s.length<=900000) (i:Nat) (hi:i<=s.length):Ad CC 97 [.str s,.int .i64 (i:Int)] []=some (.ret (match Ok s i with
 | some (t,k)=>.tup [.str t,.int .i64 (k:Int),.int .i64 0]
 | none=>.tup [.str [],.int .i64 (i:Int),.int .i64 4]),[]):=by
 rw [Ah (fn:=Ab1) (c:=Ab1.body.getD .skip) rfl rfl RP rfl T4 (Aav rfl)];have hlen:=A7 s;have Ag:=P2 _ rfl s hs (.int .i64 i) (s.length+1) (i+1);have Qy:=QG (s.length+1) s (i+1);have w1:=wrap_i64 (n:=(i:Int)+1) ⟨by omega,by omega⟩;unfold Ok;simp only;generalize Oj (s.length+1) s (i+1)=x at *;have w2:=fun (h:x < s.length)=>wrap_i64 (n:=(x:Int)+1) ⟨by omega,by omega⟩;have Mv:=fun (h:x < s.length)=>Wd s i ((x:Int)+1) (by omega) (by omega) (by omega);have hto:((x:Int)+1).toNat=x+1:=by omega
 have ix:=Oc ((s.take (x+1)).drop i) (by rw [Abe,Abd];omega);have Qz:((i+1:Nat):Int)=(i:Int)+1:=by omega
 by_cases c1:s.length<=x
 · have c1':(x:Int) ≥ (s.length:Int):=by omega
   rw [if_pos c1];rw [<- Al];rw [<- Al] at Ag;simp only [Aa,Ac,Ab1,Aau] at Ag |-;simp only [S8,Af,seval,w1];generalize hE:GM _ ⟨_,_⟩=r;obtain ⟨e',he,g0,g1,g7⟩:=MN hE (Ag _ (by omega) (by omega) (by simp only [S7,Af,seval]) (by simp only [S7,Af,seval]) (by simp only [S7,Af,seval,Qz]));subst he;simp only [S8,Af,seval,g0,g1,g7,hlen,c1']
 · have c1':¬ (x:Int) ≥ (s.length:Int):=by omega
   rw [if_neg c1];have w2:=w2 (by omega);have Mv:=Mv (by omega);rw [hto,Aax] at Mv;generalize (s.take (x+1)).drop i=q at *;by_cases c2:(XH q).2=0
   · have c2':((0:Int) != 0)=false:=rfl
     rw [if_neg (fun h=>h c2)];rw [c2] at ix;rw [<- Al];rw [<- Al] at Ag;rw [<- AI] at ix;simp only [Aa,Ac,Ab1,Aau] at Ag |-;simp only [S8,Af,seval,w1];generalize hE:GM _ ⟨_,_⟩=r;obtain ⟨e',he,g0,g1,g7⟩:=MN hE (Ag _ (by omega) (by omega) (by simp only [S7,Af,seval]) (by simp only [S7,Af,seval]) (by simp only [S7,Af,seval,Qz]));subst he;simp only [S8,Af,seval,g0,g1,g7,hlen,c1',w2,Mv,ix,c2']
     try rfl
   · have c2':((XH q).2 != 0)=true:=by simpa using c2
     rw [if_pos c2];rw [<- Al];rw [<- Al] at Ag;rw [<- AI] at ix;simp only [Aa,Ac,Ab1,Aau] at Ag |-;simp only [S8,Af,seval,w1];generalize hE:GM _ ⟨_,_⟩=r;obtain ⟨e',he,g0,g1,g7⟩:=MN hE (Ag _ (by omega) (by omega) (by simp only [S7,Af,seval]) (by simp only [S7,Af,seval]) (by simp only [S7,Af,seval,Qz]));subst he;simp only [S8,Af,seval,g0,g1,g7,hlen,c1',w2,Mv,ix,c2']
theorem T6 (s:List UInt8) (hs:s.length<=900000) (i:Nat) (hi:i<=s.length) (bx):Ai CC (Ad CC) 97 [.str s,.int .i64 (i:Int)] bx=some (.ret (match Ok s i with
 | some (t,k)=>.tup [.str t,.int .i64 (k:Int),.int .i64 0]
 | none=>.tup [.str [],.int .i64 (i:Int),.int .i64 4]),bx):=Ao rfl (by simp only [SA,Aaw]) (P3 s hs i hi) (by cases Ok s i <;> rfl)
theorem bh:Be CC Ab5 (Ab5.body.getD .skip)=true:=by kernel_rfl
theorem YG:CC.P.funcs[46]?=some Ab5:=by kernel_rfl
def q6 (c:Nat):Bool:=decide (Abj [61,33,60,62] c.toUInt8 ≥ 0)
def q8 (c:Nat):Bool:=decide (Abj [35,43,45,42,40,41,123,125,91,93,44,59,58,46,60,62,61] c.toUInt8 ≥ 0)
def DE (s:List UInt8) (i:Nat):Nat:=if Cb s (i+1)=61/\q6 (Cb s i)=true then 2 else if q8 (Cb s i)=true then 1 else 0
theorem M7 (s:List UInt8) (hs:s.length<=900000) (i:Nat) (hi:i < s.length):Ad CC 98 [.str s,.int .i64 (i:Int)] []=some (.ret (.int .i64 ((i+DE s i:Nat):Int)),[]):=by
 rw [Ah (fn:=Abk) (c:=Abk.body.getD .skip) rfl rfl Oi rfl PX (Aav rfl)];have Ht:=Ix s i;have O8:=Ix s (i+1);have cL:=RH s i;have Z3:=fW (Cb s i:Int) ⟨by omega,by omega⟩;have w1:=wrap_i64 (n:=(i:Int)+1) ⟨by omega,by omega⟩;have w2:=wrap_i64 (n:=(i:Int)+2) ⟨by omega,by omega⟩;have cast1:((i+1:Nat):Int)=(i:Int)+1:=by omega
 rw [cast1] at O8;have qP:(((Cb s (i+1):Nat):Int) == 61)=decide (Cb s (i+1)=61):=by rw [Ab6];simp;omega
 unfold DE q8 q6;generalize Cb s i=c at *;generalize Cb s (i+1)=d at *;have hx:=Kr;rw [<- Al];rw [<- AI] at Ht O8 hx;have rN:=hx [61,33,60,62] (c:Int);have rO:=hx [35,43,45,42,40,41,123,125,91,93,44,59,58,46,60,62,61] (c:Int);rw [Aax] at rN rO;clear hx;generalize Abj [61,33,60,62] c.toUInt8=x1 at *;generalize Abj [35,43,45,42,40,41,123,125,91,93,44,59,58,46,60,62,61] c.toUInt8=x2 at *;simp only [Aa,Ac,Abk,Aau];by_cases c1:d=61
 · rw [decide_eq_true c1] at qP
   by_cases c2:x1 ≥ 0
   · rw [if_pos ⟨c1,decide_eq_true c2⟩]
     simp only [S8,Af,seval,Ht,O8,Z3,qP,rN,rO,w1,w2,c2]
     try rfl
   · rw [if_neg (fun h=>c2 (of_decide_eq_true h.2))]
     by_cases c3:x2 ≥ 0
     · rw [if_pos (decide_eq_true c3)]
       simp only [S8,Af,seval,Ht,O8,Z3,qP,rN,rO,w1,w2,c2,c3]
       try rfl
     · rw [if_neg (fun h=>c3 (of_decide_eq_true h))]
       simp only [S8,Af,seval,Ht,O8,Z3,qP,rN,rO,w1,w2,c2,c3]
       try rfl
 · rw [decide_eq_false c1] at qP
   rw [if_neg (fun h=>c1 h.1)];by_cases c3:x2 ≥ 0
   · rw [if_pos (decide_eq_true c3)]
     simp only [S8,Af,seval,Ht,O8,Z3,qP,rN,rO,w1,w2,c3]
     try rfl
   · rw [if_neg (fun h=>c3 (of_decide_eq_true h))]
     simp only [S8,Af,seval,Ht,O8,Z3,qP,rN,rO,w1,w2,c3]
     try rfl
theorem P4 (s:List UInt8) (hs:s.length<=900000) (i:Nat) (hi:i < s.length) (bx):Ai CC (Ad CC) 98 [.str s,.int .i64 (i:Int)] bx=some (.ret (.int .i64 ((i+DE s i:Nat):Int)),bx):=Ao rfl (by simp only [SA,Aaw]) (M7 s hs i hi) rfl
abbrev Tk:=Nat×List UInt8×Nat
def Ol (t:Tk):PV:=.agg [.int .i64 (t.1:Int),.str t.2.1,.int .i64 (t.2.2:Int)]
def FJ (s:List UInt8) (i:Nat):Tk×Nat ⊕ Int:=
 let c:=Cb s i
 if sm c then .inl ((1,(s.take (C6 pt s i)).drop i,i),C6 pt s i)
 else if dg c then (match Me s i with
  | some k=>.inl ((2,(s.take k).drop i,i),k)
  | none=>.inr 2)
 else if c=34 then (match Ok s i with
  | some (t,k)=>.inl ((3,t,i),k)
  | none=>.inr 4)
 else if DE s i=0 then .inr 12
 else .inl ((4,(s.take (i+DE s i)).drop i,i),i+DE s i)
theorem YH {s:List UInt8} {i:Nat} (hi:i < s.length):i+DE s i<=s.length:=by
 unfold DE;split
 · rename_i h
   have:i+1 < s.length:=by
    rcases Abv (i+1) s.length with h' | h'
    · exact h'
    · exfalso
      have:Cb s (i+1)=0:=by unfold Cb;rw [Abg h']
      omega
   omega
 · split <;> omega
theorem oq:zeroCells CC 80=some [.int .i64 0,.str [],.int .i64 0]:=by kernel_rfl
theorem ot (n:Int):A' CC 80 [(2,.int .i64 n)]=some (.agg [.int .i64 0,.str [],.int .i64 n]):=by
 have h:=(by kernel_rfl:CC.P.underlying 80=some (.struct ((match Abb.underlying 80 with | some (.struct f)=>f | _=>#[]))));have hz:tZero CC 80=some (.agg [.int .i64 0,.str [],.int .i64 0]):=by kernel_rfl
 have hp:((match Abb.underlying 80 with | some (.struct f)=>f | _=>#[]):Array Field).toList.mapM (fun f=>(tSize CC f.type).map fun s=>(f.offset,s))=some [(0,1),(1,1),(2,1)]:=by kernel_rfl
 unfold A';rw [h,hz];simp only [hp];rfl
theorem TKu:∃ u,CC.P.underlying 80=some u:=⟨.struct ((match Abb.underlying 80 with | some (.struct f)=>f | _=>#[])),by kernel_rfl⟩
theorem M8 (s:List UInt8) (hs:s.length<=900000) (i:Nat) (hi:i < s.length):∃ bx v,Ad CC 46 [.str s,.int .i64 (i:Int)] []=some (.ret (.tup v),bx) /\
 (match FJ s i with
  | .inl (t,k)=>v=[Ol t,.int .i64 (k:Int),.int .i64 0]
  | .inr c=>∃ n:Int,v=[.agg [.int .i64 n,.str [],.int .i64 (i:Int)],.int .i64 (i:Int),.int .i64 c]):=by
 rw [Ah (fn:=Ab5) (c:=Ab5.body.getD .skip) rfl rfl YG rfl bh (Aav rfl)];have Ht:=Ix s i;have cL:=RH s i;have UK:=Wu (Cb s i) cL;have NV:=M6 (Cb s i) cL;have BV:=PW s hs i (by omega);have iy:=T5 s hs i (by omega);have iz:=T6 s hs i (by omega);have Bb:=P4 s hs i hi;have qN:(((Cb s i:Nat):Int) == 34)=decide (Cb s i=34):=by rw [Ab6];simp;omega
 have zw:=Fm (p:=pt) (s:=s) (i:=i) (by omega);have hsl1:=Wd s i (C6 pt s i) (by omega) (by omega) (by omega);rw [Aax,Aax] at hsl1;have zo:=Fm (p:=dg) (s:=s) (i:=i) (by omega);have vp:=Wd s i (C6 dg s i) (by omega) (by omega) (by omega);rw [Aax,Aax] at vp;have zx:=YH hi;have hsl3:=Wd s i ((i+DE s i:Nat):Int) (by omega) (by omega) (by omega);rw [Aax,Aax] at hsl3;have hb:=ot (i:Int);obtain ⟨tu,htu⟩:=TKu;have vq:((2:Int) != 0)=true:=rfl;have VU:((4:Int) != 0)=true:=rfl
 have qM:∀ k,Me s i=some k->k=C6 dg s i:=fun k h=>by
  unfold Me at h;obtain ⟨_,_,h2⟩:=Abc.1 h;exact h2.symm
 unfold FJ;simp only;generalize Cb s i=c at *;generalize C6 pt s i=rp at *;generalize C6 dg s i=rd' at *;cases Qz:sm c with
 | true=>
  rw [Qz] at UK;rw [if_pos rfl];generalize (s.take rp).drop i=tx at *;rw [<- Al];rw [<- AI] at Ht UK BV;simp only [Aa,Ac,Ab5,Aau];simp only [S9,Af,seval,oq,vq,VU,hb,Ht,UK,BV,hsl1,Aay,Aaz];exact ⟨_,_,rfl,rfl⟩
 | false=>
  rw [Qz] at UK;rw [if_neg (by simp)];cases Tf:dg c with
  | true=>
   rw [Tf] at NV;rw [if_pos rfl];cases hn:Me s i with
   | some k=>
    rw [hn] at iy;obtain rfl:=qM k hn;dsimp only;generalize (s.take k).drop i=tx at *;rw [<- Al];rw [<- AI] at Ht UK NV iy;simp only [Aa,Ac,Ab5,Aau];simp only [S9,Af,seval,oq,vq,VU,hb,Ht,UK,NV,iy,vp,Aay,Aaz];exact ⟨_,_,rfl,rfl⟩
   | none=>
    rw [hn] at iy;rw [<- Al];rw [<- AI] at Ht UK NV iy;simp only [Aa,Ac,Ab5,Aau];simp only [S9,Af,seval,oq,vq,VU,hb,Ht,UK,NV,iy,vp,Aay,Aaz];exact ⟨_,_,rfl,0,rfl⟩
  | false=>
   rw [Tf] at NV;rw [if_neg (by simp)];by_cases sa:c=34
   · rw [if_pos sa]
     rw [decide_eq_true sa] at qN;cases hn:Ok s i with
     | some x=>
      rw [hn] at iz;obtain ⟨tx,k⟩:=x;rw [<- Al];rw [<- AI] at Ht UK NV iz;simp only [Aa,Ac,Ab5,Aau];simp only [S9,Af,seval,oq,vq,VU,hb,Ht,UK,NV,qN,iz,Aay,Aaz];exact ⟨_,_,rfl,rfl⟩
     | none=>
      rw [hn] at iz;rw [<- Al];rw [<- AI] at Ht UK NV iz;simp only [Aa,Ac,Ab5,Aau];simp only [S9,Af,seval,oq,vq,VU,hb,Ht,UK,NV,qN,iz,Aay,Aaz];exact ⟨_,_,rfl,0,rfl⟩
   · rw [if_neg sa]
     rw [decide_eq_false sa] at qN;by_cases hc4:DE s i=0
     · rw [if_pos hc4]
       have heq:(((i+DE s i:Nat):Int) == (i:Int))=true:=by rw [hc4];simp
       generalize ((i+DE s i:Nat):Int)=k at *;rw [<- Al];rw [<- AI] at Ht UK NV Bb;simp only [Aa,Ac,Ab5,Aau];simp only [S9,Af,seval,oq,vq,VU,hb,Ht,UK,NV,qN,Bb,heq,Aay,Aaz];exact ⟨_,_,rfl,4,rfl⟩
     · rw [if_neg hc4]
       dsimp only;have heq:(((i+DE s i:Nat):Int) == (i:Int))=false:=by rw [beq_eq_false_iff_ne];omega
       generalize ((i+DE s i:Nat):Int)=k at *;generalize (s.take (i+DE s i)).drop i=tx at *;rw [<- Al];rw [<- AI] at Ht UK NV Bb;simp only [Aa,Ac,Ab5,Aau];simp only [S9,Af,seval,oq,vq,VU,hb,Ht,UK,NV,qN,Bb,heq,hsl3,Aay,Aaz];exact ⟨_,_,rfl,rfl⟩
theorem T7:Be CC Ab0 (Ab0.body.getD .skip)=true:=by kernel_rfl
theorem RU:CC.P.funcs[21]?=some Ab0:=by kernel_rfl
theorem Iy {x:List PV} {b:List PBox} (h:x.length.ble Ab0.ntmps=true):Ad CC 21 x b=CD CC Ab0.results.toList (Cf CC (Ab0.body.getD .skip) ⟨x,b⟩):=Ah (fn:=Ab0) (c:=Ab0.body.getD .skip) rfl rfl RU rfl T7 (Aav h)
theorem Iz:∀ (m:Nat) (s:List UInt8) (i:Nat),i<=s.length->i<=DD m s i/\DD m s i<=s.length
 | 0,_,i,h=>⟨Ab8 _,h⟩
 | m+1,s,i,h=>by
  unfold DD;split
  · split
    · have:=Iz m s (i+1) (by omega);omega
    · split
      · have h1:=Fm (p:=nl) (s:=s) (i:=i) h
        have:=Iz m s (C6 nl s i) h1.2;omega
      · omega
  · omega
theorem YI {s:List UInt8} {i:Nat} (h:i < s.length):Cb s i=(s[i]).toNat:=M4 (by simp)
theorem M9 {p:Nat->Bool} {s:List UInt8} {i:Nat} (h:i < s.length) (hp:p (Cb s i)=true):i < C6 p s i:=by
 have hx:s[i]?=some s[i]:=by simp
 have h2:=Lj (p:=p) hx;rw [YI h] at hp;rw [hp,if_pos rfl] at h2;have:=Fm (p:=p) (s:=s) (i:=i+1) (by omega);omega
theorem Na {s:List UInt8} {i:Nat} {t:Tk} {k:Nat} (h:i < s.length) (ho:FJ s i=.inl (t,k)):i < k/\k<=s.length:=by
 unfold FJ at ho;simp only at ho;split at ho
 · rename_i hc
   have hp:pt (Cb s i)=true:=by unfold pt;rw [hc];rfl
   have h1:=M9 h hp;have h2:=Fm (p:=pt) (s:=s) (i:=i) (by omega);injection ho with ho
   injection ho with _ ho
   omega
 · split at ho
   · rename_i hc
     have h1:=M9 h hc;have h2:=Fm (p:=dg) (s:=s) (i:=i) (by omega);unfold Me at ho;split at ho
     · rename_i k' hk
       obtain ⟨_,_,hk⟩:=Abc.1 hk;injection ho with ho
       injection ho with _ ho
       omega
     · cases ho
   · split at ho
     · split at ho
       · rename_i t' k' hk
         unfold Ok at hk;simp only at hk;split at hk
         · cases hk
         · split at hk
           · cases hk
           · have h1:=QG (s.length+1) s (i+1)
             injection hk with hk
             injection hk with _ hk
             injection ho with ho
             injection ho with _ ho
             omega
       · cases ho
     · split at ho
       · cases ho
       · have:=YH h
         injection ho with ho
         injection ho with _ ho
         omega
theorem RX {s:List UInt8} {i:Nat} {c:Int} (ho:FJ s i=.inr c):c=2\/c=4\/c=12:=by
 unfold FJ at ho;simp only at ho;split at ho
 · cases ho
 · split at ho
   · split at ho
     · cases ho
     · injection ho with ho;omega
   · split at ho
     · split at ho
       · cases ho
       · injection ho with ho;omega
     · split at ho
       · injection ho with ho;omega
       · cases ho
theorem T8 (s:List UInt8) (hs:s.length<=900000) (i:Nat) (hi:i < s.length) (t:Tk) (k:Nat) (ho:FJ s i=.inl (t,k)) (bx):Ai CC (Ad CC) 46 [.str s,.int .i64 (i:Int)] bx=some (.ret (.tup [Ol t,.int .i64 k,.int .i64 0]),bx):=by
 obtain ⟨b,v,h,hv⟩:=M8 s hs i hi;rw [ho] at hv;simp only at hv;subst hv;exact Ao rfl (by simp only [SA,Aaw]) h rfl
theorem RY (s:List UInt8) (hs:s.length<=900000) (i:Nat) (hi:i < s.length) (c:Int) (ho:FJ s i=.inr c):∃ n:Int,∀ bx,Ai CC (Ad CC) 46 [.str s,.int .i64 (i:Int)] bx=some (.ret (.tup [.agg [.int .i64 n,.str [],.int .i64 (i:Int)],.int .i64 (i:Int),.int .i64 c]),bx):=by
 obtain ⟨b,v,h,hv⟩:=M8 s hs i hi;rw [ho] at hv;simp only at hv;obtain ⟨u,hv⟩:=hv;subst hv;exact ⟨u,fun bx=>Ao rfl (by simp only [SA,Aaw]) h rfl⟩
def GF:Nat->List UInt8->Nat->List Tk->List Tk×Nat×Int
 | 0,_,i,_=>([],i,0)
 | m+1,s,i,acc=>if i < s.length then
  (if acc.length=4000 then ([],i,3) else match FJ s i with
   | .inr c=>([],i,c)
   | .inl (t,k)=>GF m s (DD (s.length+1) s k) (acc++[t]))
  else (acc++[(0,[],s.length)],0,0)
def BH (s:List UInt8):List Tk×Nat×Int:=if 20000 < s.length then ([],0,3) else GF (s.length+1) s (DD (s.length+1) s 0) []
noncomputable def wY:TypeInfo:=(Abb.info? 80).getD default
def Bl (l:List Tk):List PV:=l.map Ol
theorem zR (a b c:PV) (ha:a.one=true) (hb:b.one=true) (hc:c.one=true) (h:Gd true 3 (.agg [a,b,c])=some (.agg [a,b,c])):AZ CC 45 1 [(0,.agg [a,b,c])]=some (.osl 80 [.agg [a,b,c]]):=by
 have hz:tZero CC 80=some (.agg [.int .i64 0,.str [],.int .i64 0]):=by kernel_rfl
 have hi:CC.P.info? 80=some wY:=by kernel_rfl
 have hs:wY.size=3:=by kernel_rfl
 have hu:CC.P.underlying 45=some (.slice 80):=by kernel_rfl
 have ht:tAgg CC 80=true:=by kernel_rfl
 unfold AZ;simp only [hu,hz,hi,hs,ht,List.foldlM_cons,List.foldlM_nil,h];rfl
theorem q9 (t:Tk):AZ CC 45 1 [(0,Ol t)]=some (.osl 80 (Bl [t])):=zR _ _ _ rfl rfl rfl rfl
theorem wZ (st:St) (al:List (Nat×Loc)) (s x:Operand) (d:Option Tmp):DT CC st al s x 45 45 d=match CY CC st al 80 s,CK (opd CC st.env x) with
 | some (l,xs),some ys=>MK 32 3 80 st al l xs ys d
 | _,_=>none:=EV (i:=wY) (by kernel_rfl) (by kernel_rfl) (by kernel_rfl) (z:=(wY.zero).getD default) (by kernel_rfl) (by kernel_rfl) (by rw [show wY.size=3 from by kernel_rfl];decide) (by kernel_rfl) (by kernel_rfl)
theorem w5 (t:Tk):((Bl [t]).all fun y=>y.cells.length == 3)=true:=rfl
theorem TKs:∃ f,CC.P.underlying 80=some (.struct f):=⟨(match Abb.underlying 80 with | some (.struct f)=>f | _=>#[]),by kernel_rfl⟩
theorem jQ (n:Int):A' CC 80 [(0,.int .i64 0),(2,.int .i64 n)]=some (.agg [.int .i64 0,.str [],.int .i64 n]):=by
 have h:=(by kernel_rfl:CC.P.underlying 80=some (.struct ((match Abb.underlying 80 with | some (.struct f)=>f | _=>#[]))));have hz:tZero CC 80=some (.agg [.int .i64 0,.str [],.int .i64 0]):=by kernel_rfl
 have hp:((match Abb.underlying 80 with | some (.struct f)=>f | _=>#[]):Array Field).toList.mapM (fun f=>(tSize CC f.type).map fun s=>(f.offset,s))=some [(0,1),(1,1),(2,1)]:=by kernel_rfl
 unfold A';rw [h,hz];simp only [hp];rfl
def PTk (s:List UInt8) (v:List Tk×Nat×Int) (r:Option (Ex×St)):Prop:=
 ∃ e' bx',(r=some (.exit 0,⟨e',bx'⟩)/\v.2=(0,0)/\∃ acc,acc.length<=4000/\v.1=acc++[(0,[],s.length)]/\getT e' 5=.osl 80 (Bl acc)/\getT e' 0=.str s) \/
  (r=some (.ret,⟨e',bx'⟩)/\v.1=[]/\getT e' 2=.osl 80 []/\getT e' 3=.int .i64 (v.2.1:Int)/\getT e' 4=.int .i64 v.2.2)
theorem P5 (L:Code) (hL:L=Aa Ab0 [1,1,1,0,1,0]) (s:List UInt8) (hs:s.length<=900000):∀ (m i:Nat) (acc:List Tk) (e:List PV) (bx:List PBox),s.length - i < m->i<=s.length->acc.length<=4000->getT e 0=.str s->getT e 5=.osl 80 (Bl acc)->getT e 6=.int .i64 i ->
 PTk s (GF m s i acc) (Cf CC L ⟨e,bx⟩):=by
 intro m
 induction m with
 | zero=>intro i acc e bx hm;omega
 | succ m ih=>
  intro i acc e bx hm hi ha h0 h5 h6;rw [AX (Aa Ab0 [1,1,1,0,1,0,0]) hL];have hlen:=A7 s
  have QX:GF (m+1) s i acc=if i < s.length then
   (if acc.length=4000 then ([],i,3) else match FJ s i with
    | .inr c=>([],i,c)
    | .inl (t,k)=>GF m s (DD (s.length+1) s k) (acc++[t]))
   else (acc++[(0,[],s.length)],0,0):=rfl
  rw [QX];obtain ⟨tu,htu⟩:=TKs;have iv:∀ (bx:List PBox) (b:PBox),(bx++[b])[bx.length]?=some b:=fun bx b=>by simp
  have sd:∀ (e:List PV) (o:Operand),True:=fun _ _=>trivial;by_cases BC:i < s.length
  · have O7:(i:Int) < (s.length:Int):=by omega
    rw [if_pos BC];have Zy:(Bl acc).length=acc.length:=by unfold Bl;rw [Abs]
    by_cases c1:acc.length=4000
    · rw [if_pos c1]
      have hl:((((Bl acc).length:Nat):Int) == 4000)=true:=by rw [Zy,c1];rfl
      generalize Bl acc=xs at *;rw [<- Al];simp only [Aa,Ac,Ab0,Aau];simp only [S8,Af,seval,h0,h5,h6,hlen,O7,hl];exact ⟨_,_,Or.inr ⟨rfl,rfl,by simp only [S7,Af,seval],by simp only [S7,Af,seval],by simp only [S7,Af,seval]⟩⟩
    · rw [if_neg c1]
      have hl:((((Bl acc).length:Nat):Int) == 4000)=false:=by rw [Zy,beq_eq_false_iff_ne];omega
      cases ho:FJ s i with
      | inr c=>
       obtain ⟨u,QA⟩:=RY s hs i BC c ho
       have Xy:(c != 0)=true:=by
        have:=RX ho;rw [bne_iff_ne];omega
       generalize Bl acc=xs at *;rw [<- Al];rw [<- AI] at QA;simp only [Aa,Ac,Ab0,Aau];simp only [S8,Af,SG,seval,UT,SC,oq,h0,h5,h6,hlen,O7,hl,QA,Xy,Abo,iv];exact ⟨_,_,Or.inr ⟨rfl,rfl,by simp only [S7,Af,seval],by simp only [S7,Af,seval],by simp only [S7,Af,seval]⟩⟩
      | inl x=>
       obtain ⟨tk,k⟩:=x;dsimp only;have QA:=T8 s hs i BC tk k ho;have ZP:=Na BC ho;have nM:=Pq s hs k ZP.2;have Qy:=Iz (s.length+1) s k ZP.2;have hih:=fun e bx=>ih (DD (s.length+1) s k) (acc++[tk]) e bx (by omega) Qy.2 (by rw [Ab7,Abf];omega);have Xy:((0:Int) != 0)=false:=rfl;have XK:=q9 tk;have EB:=w5 tk;have cN:Bl (acc++[tk])=Bl acc++Bl [tk]:=by simp only [Bl,Abr]
       rw [cN] at hih;have cy:(Bl [tk]).length=1:=rfl;have hc:(Bl acc).length+(Bl [tk]).length<=1000000:=by omega
       generalize GF m s (DD (s.length+1) s k) (acc++[tk])=v at *;generalize Bl acc=xs at *;generalize Bl [tk]=ys at *;generalize DD (s.length+1) s k=k' at *;unfold Ol at QA XK;rw [<- Al];rw [<- AI] at QA nM;rw [<- Al] at hih;simp only [Aa,Ac,Ab0,Aau];simp only [S8,Af,SG,seval,UT,SC,oq,h0,h5,h6,hlen,O7,hl,QA,nM,XK,wZ,EB,hc,Xy,Abo,iv];refine hih _ _ ?_ ?_ ?_
       · simp only [S7,Af,seval,h0]
       · simp only [S7,Af,seval]
       · simp only [S7,Af,seval]
  · rw [if_neg BC]
    have O7:¬ (i:Int) < (s.length:Int):=by omega
    rw [<- Al];simp only [Aa,Ac,Ab0,Aau];simp only [S8,Af,seval,h0,h5,h6,hlen,O7];exact ⟨_,_,Or.inl ⟨rfl,rfl,_,ha,rfl,by simp only [S7,Af,seval,h5],by simp only [S7,Af,seval,h0]⟩⟩
theorem P6 (s:List UInt8) (hs:s.length<=900000):∃ bx,Ad CC 21 [.str s] []=some (.ret (.tup [.sl (Bl (BH s).1),.int .i64 ((BH s).2.1:Nat),.int .i64 (BH s).2.2]),bx):=by
 rw [Iy rfl];have hlen:=A7 s;have nM:=Pq s hs 0 (by omega);have Qy:=Iz (s.length+1) s 0 (by omega);have Ag:=P5 _ rfl s hs (s.length+1) (DD (s.length+1) s 0) [];have XK:AZ CC 45 1 [(0,.agg [.int .i64 0,.str [],.int .i64 (s.length:Int)])]=some (.osl 80 (Bl [(0,[],s.length)])):=q9 (0,[],s.length);have EB:=w5 (0,[],s.length);have hb:=jQ (s.length:Int);have cast0:((0:Nat):Int)=0:=rfl;rw [cast0] at nM;unfold BH;by_cases c1:20000 < s.length
 · rw [if_pos c1]
   have c1':(s.length:Int) > 20000:=by omega
   rw [<- Al];simp only [Aa,Ac,Ab0,Aau];simp only [S8,Af,seval,hlen,c1'];exact ⟨_,rfl⟩
 · rw [if_neg c1]
   have c1':¬ (s.length:Int) > 20000:=by omega
   have HT:=fun e bx=>Ag e bx (by omega) Qy.2 (by simp);have cN:∀ acc,Bl (acc++[(0,[],s.length)])=Bl acc++Bl [(0,[],s.length)]:=fun acc=>by simp only [Bl,Abr]
   have Im:∀ acc,acc.length<=4000->(Bl acc).length+(Bl [(0,[],s.length)]).length<=1000000:=fun acc h=>by unfold Bl;rw [Abs];simp;omega
   generalize GF (s.length+1) s (DD (s.length+1) s 0) []=v at *;generalize DD (s.length+1) s 0=k' at *;generalize Bl [(0,[],s.length)]=ys at *;rw [<- Al];rw [<- AI] at nM;rw [<- Al] at HT;simp only [Aa,Ac,Ab0,Aau] at HT |-;simp only [S8,Af,seval,hlen,c1',nM];generalize hE:GM _ _=r;have hP:PTk s v r:=hE ▸ HT _ _ (by simp only [S7,Af,seval]) (by simp only [S7,Af,seval] <;> rfl) (by simp only [S7,Af,seval]);obtain ⟨e',bx',⟨g1,g2,acc,g3,g4,g5,g6⟩ | ⟨g1,g2,g3,g4,g5⟩⟩:=hP
   · subst g1
     have hc:=Im acc g3;rw [g4,cN,g2];simp only [S8,Af,seval,g5,g6,hlen,hb,XK,wZ,EB,hc];exact ⟨_,rfl⟩
   · subst g1
     rw [g2];simp only [S8,Af,seval,g3,g4,g5];exact ⟨_,rfl⟩
theorem df:∀ l:List Tk,Ak (Bl l)=true
 | []=>rfl
 | t :: r=>by
  have h:=df r;show ((Ol t).pure && Ak (Bl r))=true;rw [h];rfl
theorem ou (l:List Tk) (a c:Int):(PV.tup [.sl (Bl l),.int .i64 a,.int .i64 c]).pure=true:=by
 simp only [SA,SE,df,Aaw]
theorem Mf (s:List UInt8):∀ (m m' i:Nat),i<=s.length->s.length - i < m->s.length - i < m'->DD m s i=DD m' s i
 | 0,_,_,_,h,_=>by omega
 | m+1,0,_,_,_,h=>by omega
 | m+1,m'+1,i,hi,h,h'=>by
  unfold DD;split
  · rename_i hl
    split
    · exact Mf s m m' (i+1) (by omega) (by omega) (by omega)
    · split
      · rename_i ng
        have hp:nl (Cb s i)=true:=by rw [ng.1];rfl
        have h1:=M9 hl hp;have h2:=Fm (p:=nl) (s:=s) (i:=i) hi;exact Mf s m m' (C6 nl s i) h2.2 (by omega) (by omega)
      · rfl
  · rfl
def sk (s:List UInt8) (i:Nat):Nat:=DD (s.length+1) s i
theorem LS {s:List UInt8} {i:Nat} (hi:i<=s.length):sk s i=if i < s.length then
 (if Cb s i=32\/Cb s i=9\/Cb s i=10 then sk s (i+1)
  else if Cb s i=35/\dg (Cb s (i+1))=false then sk s (C6 nl s i) else i) else i:=by
 have h:sk s i=DD (s.length+1+1) s i:=Mf s _ _ i hi (by omega) (by omega);rw [h];rfl
theorem Vq {s:List UInt8} {i:Nat} (hi:i<=s.length):i<=sk s i/\sk s i<=s.length:=Iz _ s i hi
theorem RZ (s:List UInt8):∀ (m m' i:Nat) (acc:List Tk),i<=s.length->s.length - i < m->s.length - i < m'->GF m s i acc=GF m' s i acc
 | 0,_,_,_,_,h,_=>by omega
 | m+1,0,_,_,_,_,h=>by omega
 | m+1,m'+1,i,acc,hi,h,h'=>by
  unfold GF;split
  · rename_i hl
    split
    · rfl
    · cases ho:FJ s i with
      | inr c=>rfl
      | inl x=>
       obtain ⟨tk,k⟩:=x;have ZP:=Na hl ho;have Qy:=Iz (s.length+1) s k ZP.2;exact RZ s m m' _ _ Qy.2 (by omega) (by omega)
  · rfl
def tk (s:List UInt8) (i:Nat) (acc:List Tk):List Tk×Nat×Int:=GF (s.length+1) s i acc
theorem R1 {s:List UInt8} {i:Nat} (acc:List Tk) (hi:i<=s.length):tk s i acc=if i < s.length then
 (if acc.length=4000 then ([],i,3) else match FJ s i with
  | .inr c=>([],i,c)
  | .inl (t,k)=>tk s (sk s k) (acc++[t]))
 else (acc++[(0,[],s.length)],0,0):=by
 have h:tk s i acc=GF (s.length+1+1) s i acc:=RZ s _ _ i acc hi (by omega) (by omega);rw [h];rfl
theorem Om (s:List UInt8):∀ (m m' i:Nat),s.length - i < m->s.length - i < m'->Oj m s i=Oj m' s i
 | 0,_,_,h,_=>by omega
 | m+1,0,_,_,h=>by omega
 | m+1,m'+1,i,h,h'=>by
  unfold Oj;split
  · split
    · exact Om s m m' (i+2) (by omega) (by omega)
    · exact Om s m m' (i+1) (by omega) (by omega)
  · rfl
def eQ (s:List UInt8) (i:Nat):Nat:=Oj (s.length+1) s i
theorem Vr {s:List UInt8} {i:Nat}:eQ s i=if i < s.length/\Cb s i≠34 then eQ s (if Cb s i=92 then i+2 else i+1) else i:=by
 have h:eQ s i=Oj (s.length+1+1) s i:=Om s _ _ i (by omega) (by omega);rw [h];rfl
def w6 (w:List UInt8):Prop:=∃ c r,w=c :: r/\sm c.toNat=true/\∀ b ∈ r,pt b.toNat=true
def zS (w:List UInt8):Prop:=w≠[]/\(∀ b ∈ w,dg b.toNat=true)/\(RQ w 0).isSome=true
def opW (w:List UInt8):Prop:=∃ c,(w=[c]/\q8 c.toNat=true)\/(w=[c,61]/\q6 c.toNat=true)
def dh (x:Tk):Prop:=(x.1=1/\w6 x.2.1)\/(x.1=2/\zS x.2.1)\/(x.1=3/\x.2.1.length<=60)\/(x.1=4/\opW x.2.1)
def jR (x:Tk):List UInt8:=if x.1=3 then BD x.2.1 else x.2.1
def Pr (x:Tk):Bool:=x.1 == 4 && x.2.1 == [35]
def gd:List Tk->Bool->List UInt8
 | [],b=>if b then [32] else []
 | x :: r,b=>(if b then [32] else [])++(jR x++gd r (!Pr x))
def On:List Tk->Prop
 | []=>True
 | x :: r=>dh x/\(Pr x=true->∃ y r',r=y :: r'/\y.1=2)/\On r
theorem sH {s:List UInt8} (h:(XH s).2=0):s=BD (XH s).1/\(XH s).1.length<=60:=by
 by_cases hq:∃ t,s=BD t
 · obtain ⟨t,rfl⟩:=hq
   rw [Vo] at h |-;split at h
   · cases h
   · rename_i hc
     rw [if_neg hc];exact ⟨rfl,Nat.le_of_not_lt hc⟩
 · rw [jM s (fun t e=>hq ⟨t,e⟩)] at h
   cases h
theorem gf (x:Tk) (r:List Tk) (b:Bool):gd (x :: r) b=(if b then [32] else [])++(jR x++gd r (!Pr x)):=rfl
theorem jS:∀ n:_root_.Fin 256,dg n.val=true->sm n.val=false/\n.val≠61/\n.val≠32/\n.val≠9/\n.val≠10/\n.val≠35:=by decide +kernel
theorem ov {s:List UInt8} {i:Nat} (hi:i < s.length) (h:sk s i=i):Cb s i≠32/\Cb s i≠9/\Cb s i≠10/\(Cb s i=35->dg (Cb s (i+1))=true):=by
 rw [LS (by omega),if_pos hi] at h;by_cases c1:Cb s i=32\/Cb s i=9\/Cb s i=10
 · rw [if_pos c1] at h
   have:=Vq (s:=s) (i:=i+1) (by omega);omega
 · refine ⟨by omega,by omega,by omega,fun c2=>?_⟩
   rw [if_neg c1] at h;cases hd:dg (Cb s (i+1)) with
   | true=>rfl
   | false=>
    exfalso;rw [if_pos ⟨c2,hd⟩] at h;have h1:=M9 (p:=nl) hi (by rw [c2] <;> rfl);have h2:=Fm (p:=nl) (s:=s) (i:=i) (by omega);have:=Vq h2.2;omega
theorem di (s:List UInt8):∀ (d i:Nat),s.length - i<=d->i<=s.length->sk s (sk s i)=sk s i:=by
 intro d
 induction d with
 | zero=>
  intro i h hl;rw [show i=s.length from by omega,LS (Ab8 _),if_neg (by omega),LS (Ab8 _),if_neg (by omega)]
 | succ d ih=>
  intro i h hl;by_cases c:i < s.length
  · have e:=LS (s:=s) (i:=i) hl
    rw [if_pos c] at e;by_cases c1:Cb s i=32\/Cb s i=9\/Cb s i=10
    · rw [if_pos c1] at e
      rw [e];exact ih (i+1) (by omega) (by omega)
    · rw [if_neg c1] at e
      by_cases c2:Cb s i=35/\dg (Cb s (i+1))=false
      · rw [if_pos c2] at e
        have h1:=M9 (p:=nl) c (by rw [c2.1] <;> rfl);have h2:=Fm (p:=nl) (s:=s) (i:=i) (by omega);rw [e];exact ih _ (by omega) h2.2
      · rw [if_neg c2] at e
        rw [e,e]
  · rw [show i=s.length from by omega,LS (Ab8 _),if_neg (by omega),LS (Ab8 _),if_neg (by omega)]
theorem Vs {p:Nat->Bool} {s:List UInt8} {i:Nat}:∀ b ∈ (s.take (C6 p s i)).drop i,p b.toNat=true:=by
 have h:(s.take (C6 p s i)).drop i=(s.drop i).takeWhile fun c=>p c.toNat:=by
  unfold C6;rw [Abu,Nat.add_sub_cancel_left];generalize s.drop i=x
  induction x with
  | nil=>rfl
  | cons c x ih=>
   rw [Abn];split
   · rw [Abl,Abm,ih]
   · rfl
 rw [h];intro b hb;have:=List.all_takeWhile (p:=fun c:UInt8=>p c.toNat) (l:=s.drop i);exact Abp.1 this b hb
theorem bj {s:List UInt8} {i k:Nat} (hi:i < k) (hk:k<=s.length):∃ c r,(s.take k).drop i=c :: r/\c.toNat=Cb s i/\r.length=k - i - 1:=by
 have hl:i < (s.take k).length:=by rw [Abd];omega
 refine ⟨(s.take k)[i],(s.take k).drop (i+1),Aba hl,?_,?_⟩
 · rw [List.getElem_take,YI (by omega)]
 · rw [Abe,Abd];omega
theorem jT {s:List UInt8} {i k:Nat} {x:Tk} (hi:i < s.length) (h:FJ s i=.inl (x,k)):dh x/\(jR x).length=k - i/\(Pr x=true->Cb s i=35/\k=i+1)/\(dg (Cb s i)=true->x.1=2):=by
 have ZP:=Na hi h;have Mv:((s.take k).drop i).length=k - i:=by rw [Abe,Abd];omega
 obtain ⟨c,r,Qz,Tf,sa⟩:=bj ZP.1 ZP.2
 have Gp:FJ s i=if sm (Cb s i) then .inl ((1,(s.take (C6 pt s i)).drop i,i),C6 pt s i)
  else if dg (Cb s i) then (match Me s i with
   | some k=>.inl ((2,(s.take k).drop i,i),k)
   | none=>.inr 2)
  else if Cb s i=34 then (match Ok s i with
   | some (u,k)=>.inl ((3,u,i),k)
   | none=>.inr 4)
  else if DE s i=0 then .inr 12
  else .inl ((4,(s.take (i+DE s i)).drop i,i),i+DE s i):=rfl
 rw [Gp] at h;by_cases c1:sm (Cb s i)=true
 · rw [if_pos c1] at h
   injection h with h
   injection h with h1 h2
   subst h1;have ha:=Vs (p:=pt) (s:=s) (i:=i);rw [h2] at ha |-;refine ⟨.inl ⟨rfl,c,r,Qz,by rw [Tf];exact c1,fun b hb=>ha b (by rw [Qz];simp [hb])⟩,Mv,(fun hh=>by simp [Pr] at hh),fun hd=>?_⟩;have:=(jS ⟨Cb s i,RH s i⟩ hd).1;simp only at this;rw [c1] at this;cases this
 · rw [if_neg c1] at h
   by_cases c2:dg (Cb s i)=true
   · rw [if_pos c2] at h
     cases hn:Me s i with
     | none=>rw [hn] at h;cases h
     | some k'=>
      rw [hn] at h;injection h with h
      injection h with h1 h2
      subst h1;rw [h2] at hn |-;unfold Me at hn;obtain ⟨v,hv,hk⟩:=Abc.1 hn;have ha:=Vs (p:=dg) (s:=s) (i:=i);rw [hk] at ha hv;rw [<- Abu] at hv;exact ⟨.inr (.inl ⟨rfl,by show (s.take k).drop i≠[];rw [Qz];simp,ha,by show (RQ ((s.take k).drop i) 0).isSome=true;rw [hv];rfl⟩),Mv,(fun hh=>by simp [Pr] at hh),fun _=>rfl⟩
   · rw [if_neg c2] at h
     by_cases c3:Cb s i=34
     · rw [if_pos c3] at h
       cases hn:Ok s i with
       | none=>rw [hn] at h;cases h
       | some y=>
        obtain ⟨u,k'⟩:=y;rw [hn] at h;injection h with h
        injection h with h1 h2
        subst h1;have h2:k'=k:=h2;subst h2;unfold Ok at hn;simp only at hn;split at hn
        · cases hn
        · split at hn
          · cases hn
          · rename_i hu
            injection hn with hn
            injection hn with h3 h4
            have h5:=sH (Decidable.byContradiction hu);rw [h4] at h5 h3;rw [h3] at h5;refine ⟨.inr (.inr (.inl ⟨rfl,h5.2⟩)),?_,(fun hh=>by simp [Pr] at hh),fun hd=>by rw [c3] at hd;cases hd⟩;show (BD u).length=_;rw [<- h5.1];exact Mv
     · rw [if_neg c3] at h
       by_cases c4:DE s i=0
       · rw [if_pos c4] at h;cases h
       · rw [if_neg c4] at h
         injection h with h
         injection h with h1 h2
         subst h1;rw [h2]
         have Bb:opW ((s.take k).drop i):=by
          rw [Qz];refine ⟨c,?_⟩;unfold DE at h2 c4;by_cases d1:Cb s (i+1)=61/\q6 (Cb s i)=true
          · rw [if_pos d1] at h2
            right
            match r,sa with
            | [b],_=>
             refine ⟨?_,by rw [Tf];exact d1.2⟩
             have h5:s[i+1]?=some b:=by
              have h6:((s.take k).drop i)[1]?=some b:=by rw [Qz];rfl
              rw [List.getElem?_drop,List.getElem?_take_of_lt (by omega)] at h6;exact h6
             have h7:=M4 h5;have:b=61:=by rw [<- UInt8.toNat_inj,<- h7];exact d1.1
             rw [this]
            | [],h=>simp at h;omega
            | _ :: _ :: _,h=>simp at h;omega
          · rw [if_neg d1] at h2 c4
            by_cases d2:q8 (Cb s i)=true
            · rw [if_pos d2] at h2
              left
              match r,sa with
              | [],_=>exact ⟨rfl,by rw [Tf];exact d2⟩
              | _ :: _,h=>simp at h;omega
            · rw [if_neg d2] at c4
              exact absurd rfl c4
         refine ⟨.inr (.inr (.inr ⟨rfl,Bb⟩)),Mv,fun hh=>?_,fun hd=>absurd hd c2⟩;have hh:((s.take k).drop i == [35])=true:=hh;have hh:=beq_iff_eq.1 hh;rw [Qz] at hh;injection hh with e1 e2
         subst e1 e2;exact ⟨by rw [<- Tf];rfl,by simp at sa;omega⟩
theorem gg (s:List UInt8):∀ (d i:Nat) (acc:List Tk),s.length - i<=d->i<=s.length->sk s i=i->(tk s i acc).2.2=0 ->
 ∃ r,tk s i acc=(acc++r++[(0,[],s.length)],0,0)/\On r/\(∀ b,(gd r b).length<=1+2 * (s.length - i))/\r.length<=s.length - i/\(i < s.length->dg (Cb s i)=true->∃ y r',r=y :: r'/\y.1=2):=by
 have ni:∀ i acc,i=s.length->∃ r,tk s i acc=(acc++r++[(0,[],s.length)],0,0)/\On r/\(∀ b,(gd r b).length<=1+2 * (s.length - i))/\r.length<=s.length - i/\(i < s.length->dg (Cb s i)=true->∃ y r',r=y :: r'/\y.1=2):=fun i acc hi=>by
  refine ⟨[],?_,trivial,fun b=>?_,Nat.zero_le _,fun h=>by omega⟩
  · rw [R1 _ (by omega),if_neg (by omega),List.append_nil]
  · cases b <;> simp [gd]
 intro d
 induction d with
 | zero=>intro i acc h hl _ _;exact ni i acc (by omega)
 | succ d ih=>
  intro i acc h hl hs h0;by_cases c:i < s.length
  · rw [R1 _ hl,if_pos c] at h0 |-
    by_cases c1:acc.length=4000
    · rw [if_pos c1] at h0;cases h0
    · rw [if_neg c1] at h0 |-
      cases ho:FJ s i with
      | inr e=>
       have he:=RX ho;rw [ho] at h0;simp only at h0;omega
      | inl y=>
       obtain ⟨x,k⟩:=y;rw [ho] at h0;simp only at h0 |-;have ZP:=Na c ho;have hle:=Vq ZP.2;obtain ⟨g1,g2,g3,g4⟩:=jT c ho;obtain ⟨r,f1,f2,f3,f4,f5⟩:=ih (sk s k) (acc++[x]) (by omega) hle.2 (di s _ k (Ab8 _) ZP.2) h0;refine ⟨x :: r,?_,⟨g1,fun hh=>?_,f2⟩,fun b=>?_,?_,fun _ hd=>⟨x,r,rfl,g4 hd⟩⟩
       · rw [f1];simp
       · obtain ⟨ng,nf⟩:=g3 hh
         have NV:=(ov c hs).2.2.2 ng
         have BC:k < s.length:=by
          rcases Abv k s.length with h' | h'
          · exact h'
          · have h0:Cb s k=0:=by unfold Cb;rw [Abg h']
            rw [<- nf,h0] at NV;cases NV
         rw [<- nf] at NV;have n1:=jS ⟨Cb s k,RH s k⟩ NV;simp only at n1;have nM:sk s k=k:=by rw [LS (by omega),if_pos BC,if_neg (by omega),if_neg (by omega)]
         rw [nM] at f5;exact f5 BC NV
       · have h3:=f3 (!Pr x)
         rw [gf,Ab7,Ab7,g2];have:(if b then [32] else []:List UInt8).length<=1:=by cases b <;> simp
         omega
       · rw [Abl];omega
  · exact ni i acc (by omega)
theorem Vt:∀ (m:Nat) (s:List UInt8) (i:Nat) (acc:List Tk),acc.length<=4000->(GF m s i acc).1.length<=4001
 | 0,_,_,_,_=>by unfold GF;simp
 | m+1,s,i,acc,h=>by
  unfold GF;split
  · split
    · simp
    · split
      · simp
      · exact Vt m _ _ _ (by rw [Ab7,Abf];omega)
  · simp only [Ab7,Abf];omega
theorem jU (s:List UInt8):(BH s).1.length<=4001:=by
 unfold BH;split
 · simp
 · exact Vt _ _ _ _ (by simp)
theorem H3 (s:List UInt8) (hs:s.length<=900000) (bx):Ai CC (Ad CC) 21 [.str s] bx=some (.ret (.tup [.sl (Bl (BH s).1),.int .i64 ((BH s).2.1:Nat),.int .i64 (BH s).2.2]),bx):=by
 obtain ⟨b0,hT⟩:=P6 s (by omega);exact Ao rfl (by simp only [SA,Aaw]) hT (ou _ _ _)
inductive PR (α:Type) where
 | ok (a:α) (i:Nat)
 | bad (t:Nat) (e:Int)
 | out
def PR.bind {α β:Type} (r:PR α) (f:α->Nat->PR β):PR β:=match r with
 | .ok a i=>f a i
 | .bad t e=>.bad t e
 | .out=>.out
def tokAt (L:List Tk) (i:Nat):Tk:=L.getD i (0,[],0)
def atT (L:List Tk) (i:Nat):Nat:=(tokAt L i).2.2
def Bs (L:List Tk) (k:Nat) (w:List UInt8) (i:Nat):Bool:=(tokAt L i).1 == k && (tokAt L i).2.1 == w
def Bt (L:List Tk) (k:Nat) (w:List UInt8) (i:Nat):PR Unit:=if Bs L k w i then .ok () (i+1) else .bad (atT L i) 12
def P7 (L:List Tk) (k:Nat) (i:Nat):PR Tk:=if (tokAt L i).1=k then .ok (tokAt L i) (i+1) else .bad (atT L i) 12
def DF (L:List Tk) (i:Nat):PR (List UInt8):=if (tokAt L i).1=1 then (if B8 (tokAt L i).2.1 then .ok (tokAt L i).2.1 (i+1) else .bad (atT L i) 10) else .bad (atT L i) 12
def amtN (w:List UInt8) (n:Nat):Nat:=w.foldl (fun n b=>10 * n+(b.toNat - 48)) n
def Hu (L:List Tk) (lo hi:Nat) (i:Nat):PR Nat:=
 if (tokAt L i).1=2 then (if amtN (tokAt L i).2.1 0 < lo\/hi < amtN (tokAt L i).2.1 0 then .bad (atT L i) 2 else .ok (amtN (tokAt L i).2.1 0) (i+1)) else .bad (atT L i) 12
def P8 (L:List Tk) (hi:Nat) (i:Nat):PR Nat:=if (tokAt L i).1=2/\(tokAt L i).2.1.length≠2 then .bad (atT L i) 12 else Hu L 0 hi i
def Ea (L:List Tk) (i:Nat):PR Ky:=(Hu L 1 250 i).bind fun d i=>(Bt L 4 [46] i).bind fun _ i=>(DF L i).bind fun a i=>(Bt L 4 [46] i).bind fun _ i=>(DF L i).bind fun b i=>.ok ((d:Int),a,b) i
def Fo (L:List Tk) (i:Nat):PR Nat:=(P8 L 23 i).bind fun h i=>(Bt L 4 [58] i).bind fun _ i=>(P8 L 59 i).bind fun m i=>.ok (60 * h+m) i
def C0 (L:List Tk) (k:Nat) (i:Nat):List (List UInt8)->Nat->Option Nat
 | [],_=>none
 | w :: r,n=>if Bs L k w i then some n else C0 L k i r (n+1)
def Cy:List (List UInt8):=[[109,111,110],[116,117,101],[119,101,100],[116,104,117],[102,114,105],[115,97,116],[115,117,110]]
def C7:List (List UInt8):=[[103,117,101,115,116],[99,104,105,108,100],[97,100,117,108,116],[111,119,110,101,114]]
def GG:List (List UInt8):=[[61,61],[33,61],[60],[62,61],[62],[60,61]]
def P9 (L:List Tk) (i:Nat):PR Nat:=match C0 L 1 i Cy 0 with
 | some k=>.ok k (i+1)
 | none=>.bad (atT L i) 12
def IA (L:List Tk):Nat->Nat->Nat->PR Nat
 | 0,_,_=>.out
 | n+1,m,i=>(P9 L i).bind fun k i=>if Bs L 4 [44] i then IA L n (m ||| 2 ^ k) (i+1) else .ok (m ||| 2 ^ k) i
def KC (L:List Tk) (i:Nat):PR Nat:=IA L (L.length+1) 0 i
def zK:Ky:=(0,[],[])
def zV:Vl:=(0,0,[])
def Bf (k:Int) (kids:List Tr):Tr:=.mk k 0 0 [] zV zK kids
def En (k n:Int):Tr:=.mk 1 0 0 [] (k,n,[]) zK []
def zT:Tr:=.mk 0 0 0 [] zV zK []
def Cz (L:List Tk) (i:Nat):Bool:=(tokAt L i).1 == 2 && !Bs L 4 [46] (i+1)
def Fp (L:List Tk) (i:Nat):PR Tr:=
 if Bs L 1 [116,114,117,101] i then .ok (En 1 1) (i+1) else
 if Bs L 1 [102,97,108,115,101] i then .ok (En 1 0) (i+1) else
 if Bs L 1 [109,111,100,101] i then (Bt L 1 [105,115] (i+1)).bind fun _ i=>(DF L i).bind fun s i=>.ok (.mk 3 0 0 s zV zK []) i else
 if Bs L 1 [116,105,109,101] i then (Fo L (i+1)).bind fun n i=>(Bt L 1 [116,111] i).bind fun _ i=>(Fo L i).bind fun m i=>.ok (.mk 4 n m [] zV zK []) i else
 if Bs L 1 [100,97,121,115] i then (KC L (i+1)).bind fun n i=>.ok (.mk 5 n 0 [] zV zK []) i else
 if Bs L 1 [104,111,109,101] i then (match C0 L 1 (i+1) C7 0 with
  | some k=>.ok (.mk 15 ((k+1:Nat):Int) 0 [] zV zK []) (i+2)
  | none=>.ok (.mk 15 0 0 [] zV zK []) (i+1)) else .bad (atT L i) 12
def Qa:Nat->Tr->Tr->Tr
 | 0,a,b=>Bf 9 [a,b]
 | 1,a,b=>Bf 6 [Bf 9 [a,b]]
 | 2,a,b=>Bf 10 [a,b]
 | 3,a,b=>Bf 6 [Bf 10 [a,b]]
 | 4,a,b=>Bf 10 [b,a]
 | _,a,b=>Bf 6 [Bf 10 [b,a]]
inductive NT where
 | expr | chain (b:Bool) | chainL (b:Bool) (acc:List Tr) | not | cmp | sum | sumL (e:Tr) | prod | prodL (e:Tr) | un | prim
def Er:Bool->NT
 | true=>.chain false
 | false=>.not
def Nb:Bool->List UInt8
 | true=>[111,114]
 | false=>[97,110,100]
def jV (b:Bool):List Tr->Tr
 | [a]=>a
 | l=>Bf (if b then 8 else 7) l
def pz (L:List Tk):Nat->NT->Nat->Nat->PR Tr
 | 0,_,_,_=>.out
 | n+1,.expr,o,i=>if Bs L 1 [105,102] i then
  (if o < 100 then (pz L n .expr (o+1) (i+1)).bind fun c i=>(Bt L 1 [116,104,101,110] i).bind fun _ i=>(pz L n .expr (o+1) i).bind fun a i=>(Bt L 1 [101,108,115,101] i).bind fun _ i=>(pz L n .expr (o+1) i).bind fun b i=>.ok (Bf 14 [c,a,b]) i
  else .bad (atT L i) 22) else pz L n (.chain true) o i
 | n+1,.chain b,o,i=>(pz L n (Er b) o i).bind fun a i=>pz L n (.chainL b [a]) o i
 | n+1,.chainL b acc,o,i=>if Bs L 1 (Nb b) i then (if acc.length=8 then .bad (atT L i) 3 else (pz L n (Er b) o (i+1)).bind fun a i=>pz L n (.chainL b (acc++[a])) o i) else .ok (jV b acc) i
 | n+1,.not,o,i=>if Bs L 1 [110,111,116] i then (if o < 100 then (pz L n .not (o+1) (i+1)).bind fun e i=>.ok (Bf 6 [e]) i else .bad (atT L i) 22) else pz L n .cmp o i
 | n+1,.cmp,o,i=>(pz L n .sum o i).bind fun a i=>match C0 L 4 i GG 0 with
  | some k=>(pz L n .sum o (i+1)).bind fun b i=>.ok (Qa k a b) i
  | none=>.ok a i
 | n+1,.sum,o,i=>(pz L n .prod o i).bind fun e i=>pz L n (.sumL e) o i
 | n+1,.sumL e,o,i=>if Bs L 4 [43] i then (pz L n .prod o (i+1)).bind fun f i=>pz L n (.sumL (Bf 11 [e,f])) o i else
  if Bs L 4 [45] i then (pz L n .prod o (i+1)).bind fun f i=>pz L n (.sumL (Bf 12 [e,f])) o i else .ok e i
 | n+1,.prod,o,i=>(pz L n .un o i).bind fun e i=>pz L n (.prodL e) o i
 | n+1,.prodL e,o,i=>if Bs L 4 [42] i then (pz L n .un o (i+1)).bind fun f i=>pz L n (.prodL (Bf 13 [e,f])) o i else .ok e i
 | n+1,.un,o,i=>if Bs L 4 [45] i then
  (if Cz L (i+1) then .ok (En 2 (-(amtN (tokAt L (i+1)).2.1 0:Int))) (i+2) else
  if o < 100 then (pz L n .un (o+1) (i+1)).bind fun e i=>.ok (Bf 12 [En 2 0,e]) i else .bad (atT L i) 22) else pz L n .prim o i
 | n+1,.prim,o,i=>if Cz L i then .ok (En 2 (amtN (tokAt L i).2.1 0:Int)) (i+1) else
  if (tokAt L i).1=2 then (Ea L i).bind fun k i=>.ok (.mk 2 0 0 [] zV k []) i else
  if (tokAt L i).1=3 then .ok (.mk 1 0 0 [] (4,0,(tokAt L i).2.1) zK []) (i+1) else
  if Bs L 4 [35] i then (Hu L 0 63 (i+1)).bind fun n i=>.ok (En 3 n) i else
  if Bs L 4 [40] i then (if o < 100 then (pz L n .expr (o+1) (i+1)).bind fun e i=>(Bt L 4 [41] i).bind fun _ i=>.ok e i else .bad (atT L i) 22) else Fp L i
def Ey (L:List Tk) (n i:Nat):PR Tr:=(pz L n .expr 0 i).bind fun e j=>if Mz e=0 then .ok e j else .bad (atT L i) (Mz e)
end Go.HH
