/-
  What the law needs, packed: Q4.
-/
import Derived.Test.YthjabmlbmnadjaaGreatJ33
open Option renaming getD->yW,map_eq_some_iff->zk,isSome_some->zN
open Nat renaming le_of_ble_eq_true->yX,le_refl->y6,add_sub_cancel_left->zL,lt_or_ge->zX
open List renaming set_cons_zero->yY,set_cons_succ->yZ,getElem?_eq_none->y2,drop_eq_getElem_cons->y4,getElem?_eq_some_iff->zg,length_take->zo,length_drop->zq,takeWhile_cons->zr,length_append->zt,append_assoc->zu,length_cons->zy,drop_eq_nil_of_le->zA,map_append->zB,length_map->zC,take_succ_cons->zG,range->zI,length_singleton->zM,all_eq_true->zQ,drop_take->zU
open Bool renaming and_true->y0,eq_iff_iff->y5,false_and->zE,false_eq_true->zO,true_or->zW
open Int renaming toNat_natCast->y1
open Go.Proofs.Tryz renaming f43->y3,f72->y7,f98->y8,f69->y9,f104->y',f56->za,f44->zd,f30->ze,f20->zf,f97->zh,f70->zi,f57->zj,f93->zl,f68->zm,prog->zn,f67->zw,f66->zx,f91->zD,f99->zJ
open Go.IntKind renaming wrap->zH,signed->zP,bits->zS
open UInt8 renaming toNat_lt->zR
open List.Sublist renaming length_le->zY
open Decidable renaming byContradiction->zZ
namespace Go.HH
open Go Go.Proofs
set_option maxRecDepth 100000
set_option linter.unusedSimpArgs false
set_option linter.unusedVariables false
theorem gB:Bk CC zD (zD.body.getD .skip)=true:=by kernel_rfl
theorem cE:CC.P.funcs[91]?=some zD:=by kernel_rfl
theorem cF:Bk CC zl (zl.body.getD .skip)=true:=by kernel_rfl
theorem ZG:CC.P.funcs[93]?=some zl:=by kernel_rfl
theorem ZH:Bk CC za (za.body.getD .skip)=true:=by kernel_rfl
theorem Xu:CC.P.funcs[56]?=some za:=by kernel_rfl
theorem U1:Bk CC zh (zh.body.getD .skip)=true:=by kernel_rfl
theorem S5:CC.P.funcs[97]?=some zh:=by kernel_rfl
theorem ZI (C:Cfg) (e:List PV) (f:FuncId):opd C e (.func f)=.fn f [] []:=rfl
noncomputable def gC (f:FuncId) (g:Nat->Bool) (n:Nat):Bool:=match Gt CC 50 f [.int .i32 n] [] with
 | some (.ret (.bool b),[])=>b == g n
 | _=>false
theorem Ov {f:FuncId} {g:Nat->Bool} (h:(zI 256).all (gC f g)=true) (n:Nat) (hn:n < 256) (bx) (hh:CC.heap f=false:=by rfl):Ak CC (Ae CC) f [.int .i32 (n:Int)] bx=some (.ret (.bool (g n)),bx):=by
 have:=zQ.1 h n (List.mem_range.2 hn);unfold gC at this;split at this
 · rename_i b hs
   have e:b=g n:=by simpa using this
   subst e;exact Ax hh (by simp only [SA,y0]) (Gz.2 ⟨50,hs⟩) rfl
 · cases this
def dg (n:Nat):Bool:=decide (48<=n) && decide (n<=57)
def sm (n:Nat):Bool:=decide (97<=n) && decide (n<=122)
def pt (n:Nat):Bool:=sm n || dg n || n == 95 || n == 45
def nl (n:Nat):Bool:=n != 10
theorem ka:(zI 256).all (gC 92 dg)=true:=by kernel_rfl
theorem qw:(zI 256).all (gC 95 sm)=true:=by kernel_rfl
theorem qx:(zI 256).all (gC 96 pt)=true:=by kernel_rfl
theorem qy:(zI 256).all (gC 94 nl)=true:=by kernel_rfl
theorem Ow (n:Nat) (hn:n < 256) (bx):Ak CC (Ae CC) 92 [.int .i32 (n:Int)] bx=some (.ret (.bool (dg n)),bx):=Ov ka n hn bx
theorem Xv (n:Nat) (hn:n < 256) (bx):Ak CC (Ae CC) 95 [.int .i32 (n:Int)] bx=some (.ret (.bool (sm n)),bx):=Ov qw n hn bx
theorem ZJ (s:List UInt8) (i:Nat):Ae CC 91 [.str s,.int .i64 (i:Int)] []=some (.ret (.int .i32 (AZ s i:Int)),[]):=by
 rw [Ah (fn:=zD) (c:=zD.body.getD .skip) rfl rfl cE rfl gB (yX rfl)];have hlen:=AX s;by_cases c1:(i:Int) ≥ (s.length:Int)
 · have e:AZ s i=0:=by unfold AZ;rw [y2 (by omega)]
   rw [e];rw [<- Am];simp only [Aa,Ac,zD,yW];simp only [S7,Ag,seval,TG,hlen,c1]
   try rfl
 · have hx:s[i]?=some (s[i]'(by omega)):=by simp
   have e:=Fc hx;have Dc:=FE s i _ hx;have Uf:=zR (s[i]'(by omega));have YH:=Wl ((s[i]'(by omega)).toNat:Int) ⟨by omega,by omega⟩;rw [e];generalize s[i]'(by omega)=c at *;rw [<- Am];simp only [Aa,Ac,zD,yW];simp only [S7,Ag,seval,TG,hlen,c1,Dc,YH]
theorem Jk (s:List UInt8) (i:Nat) (bx):Ak CC (Ae CC) 91 [.str s,.int .i64 (i:Int)] bx=some (.ret (.int .i32 (AZ s i:Int)),bx):=Ax rfl (by simp only [SA,y0]) (ZJ s i) rfl
def CV (p:Nat->Bool) (s:List UInt8) (i:Nat):Nat:=i+((s.drop i).takeWhile fun c=>p c.toNat).length
theorem HG {p:Nat->Bool} {s:List UInt8} {i:Nat} {c:UInt8} (h:s[i]?=some c):CV p s i=if p c.toNat then CV p s (i+1) else i:=by
 have hi:i < s.length:=(zg.1 h).1;have hc:s[i]=c:=(zg.1 h).2;unfold CV;rw [y4 hi,zr,hc];split
 · rw [zy];omega
 · simp
theorem Jl {p:Nat->Bool} {s:List UInt8} {i:Nat} (h:s.length<=i):CV p s i=i:=by
 unfold CV;rw [zA h];rfl
theorem Fe {p:Nat->Bool} {s:List UInt8} {i:Nat} (h:i<=s.length):i<=CV p s i/\CV p s i<=s.length:=by
 unfold CV;have:((s.drop i).takeWhile fun c=>p c.toNat).length<=(s.drop i).length:=zY (List.takeWhile_sublist _);rw [zq] at this;omega
theorem Xw (L:Code) (hL:L=Aa zl [1,0,0]) (s:List UInt8) (hs:s.length<=900000) (f:FuncId) (p:Nat->Bool) (hf:∀ (n:Nat),n < 256->∀ bx,Ak CC (Ae CC) f [.int .i32 (n:Int)] bx=some (.ret (.bool (p n)),bx)):∀ (k i:Nat) (e:List PV),i+k=s.length->getT e 0=.str s->getT e 1=.int .i64 i->getT e 2=.fn f [] [] ->
 ∃ e',Cp CC L ⟨e,[]⟩=some (.exit 0,⟨e',[]⟩)/\getT e' 1=.int .i64 (CV p s i:Nat):=by
 intro k
 induction k with
 | zero=>
  intro i e hk h0 h1 h2;rw [A0 (Aa zl [1,0,0,0]) hL];have hi:¬ (i:Int) < (s.length:Int):=by omega
  have hlen:=AX s;have hr:=Jl (p:=p) (s:=s) (i:=i) (by omega);rw [<- Am];simp only [Aa,Ac,zl,yW];simp only [S8,Ag,seval,h0,h1,h2,hlen,hi];exact ⟨_,rfl,by simp only [S7,Ag,seval,h1,hr]⟩
 | succ k ih=>
  intro i e hk h0 h1 h2;rw [A0 (Aa zl [1,0,0,0]) hL];have hi:(i:Int) < (s.length:Int):=by omega
  have hlen:=AX s;have hx:s[i]?=some (s[i]'(by omega)):=by simp
  have Dc:=FE s i _ hx;have Fq:=HG (p:=p) hx;have Uf:=zR (s[i]'(by omega));have YH:=Wl ((s[i]'(by omega)).toNat:Int) ⟨by omega,by omega⟩;have vB:=hf (s[i]'(by omega)).toNat Uf;have hw:=wrap_i64 (n:=(i:Int)+1) ⟨by omega,by omega⟩;generalize s[i]'(by omega)=c at *;rw [Fq];rw [<- Am];rw [<- Am] at ih;rw [<- AK] at vB;simp only [Aa,Ac,zl,yW];cases hp:p c.toNat with
  | false=>
   rw [hp] at vB;simp only [S8,Ag,seval,Al,h0,h1,h2,hlen,hi,Dc,YH,vB];exact ⟨_,rfl,by simp only [S7,Ag,seval,h1]⟩
  | true=>
   rw [hp] at vB;simp only [S8,Ag,seval,Al,h0,h1,h2,hlen,hi,Dc,YH,vB,hw];exact ih (i+1) _ (by omega) (by simp only [S7,Ag,seval,h0]) (by simp only [S7,Ag,seval] <;> rfl) (by simp only [S7,Ag,seval,h2])
theorem JU (s:List UInt8) (hs:s.length<=900000) (f:FuncId) (p:Nat->Bool) (hf:∀ (n:Nat),n < 256->∀ bx,Ak CC (Ae CC) f [.int .i32 (n:Int)] bx=some (.ret (.bool (p n)),bx)) (i:Nat) (hi:i<=s.length) :
 Ae CC 93 [.str s,.int .i64 (i:Int),.fn f [] []] []=some (.ret (.int .i64 (CV p s i:Nat)),[]):=by
 rw [Ah (fn:=zl) (c:=zl.body.getD .skip) rfl rfl ZG rfl cF (yX rfl)];have Af:=Xw _ rfl s hs f p hf (s.length - i) i;rw [<- Am];rw [<- Am] at Af;simp only [Aa,Ac,zl,yW] at Af |-;simp only [S8,Ag,seval];generalize hE:GZ _ _=r;obtain ⟨e',he,g1⟩:=Ji hE (Af _ (by omega) (by simp only [S7,Ag,seval]) (by simp only [S7,Ag,seval]) (by simp only [S7,Ag,seval]));subst he;simp only [S8,Ag,seval,g1]
theorem Q0 (s:List UInt8) (hs:s.length<=900000) (i:Nat) (hi:i<=s.length) (bx):Ak CC (Ae CC) 93 [.str s,.int .i64 (i:Int),.fn 96 [] []] bx=some (.ret (.int .i64 (CV pt s i:Nat)),bx):=
 Ax rfl (by simp only [SA,SE,y0]) (JU s hs _ pt (Ov qx) i hi) rfl
theorem PB (s:List UInt8) (hs:s.length<=900000) (i:Nat) (hi:i<=s.length) (bx):Ak CC (Ae CC) 93 [.str s,.int .i64 (i:Int),.fn 92 [] []] bx=some (.ret (.int .i64 (CV dg s i:Nat)),bx):=
 Ax rfl (by simp only [SA,SE,y0]) (JU s hs _ dg (Ov ka) i hi) rfl
theorem U2 (s:List UInt8) (hs:s.length<=900000) (i:Nat) (hi:i<=s.length) (bx):Ak CC (Ae CC) 93 [.str s,.int .i64 (i:Int),.fn 94 [] []] bx=some (.ret (.int .i64 (CV nl s i:Nat)),bx):=
 Ax rfl (by simp only [SA,SE,y0]) (JU s hs _ nl (Ov qy) i hi) rfl
def El:Nat->List UInt8->Nat->Nat
 | 0,_,i=>i
 | m+1,s,i=>if i < s.length then
  (if AZ s i=32\/AZ s i=9\/AZ s i=10 then El m s (i+1)
   else if AZ s i=35/\dg (AZ s (i+1))=false then El m s (CV nl s i) else i) else i
def vR (v:Nat) (r:Option (Ex×St)):Prop:=∃ e',(r=some (.exit 0,⟨e',[]⟩)/\getT e' 1=.int .i64 (v:Int))\/(r=some (.ret,⟨e',[]⟩)/\getT e' 4=.int .i64 (v:Int))
theorem U3 (L:Code) (hL:L=Aa za [1,0,0]) (s:List UInt8) (hs:s.length<=900000):∀ (m i:Nat) (e:List PV),s.length - i < m->i<=s.length->getT e 0=.str s->getT e 1=.int .i64 i ->
 vR (El m s i) (Cp CC L ⟨e,[]⟩):=by
 intro m
 induction m with
 | zero=>intro i e hm;omega
 | succ m ih=>
  intro i e hm hi h0 h1;rw [A0 (Aa za [1,0,0,0]) hL];have hlen:=AX s
  have bj:El (m+1) s i=if i < s.length then
   (if AZ s i=32\/AZ s i=9\/AZ s i=10 then El m s (i+1)
    else if AZ s i=35/\dg (AZ s (i+1))=false then El m s (CV nl s i) else i) else i:=rfl
  rw [bj];have Ip:=Jk s i;have Qc:=Jk s (i+1);have Hd:=Ow (AZ s (i+1)) (DI s (i+1));have CA:=U2 s hs i hi;have hw:=wrap_i64 (n:=(i:Int)+1) ⟨by omega,by omega⟩;have mI:(((AZ s i:Nat):Int) == 32)=decide (AZ s i=32):=by rw [y5];simp;omega
  have h9:(((AZ s i:Nat):Int) == 9)=decide (AZ s i=9):=by rw [y5];simp;omega
  have sY:(((AZ s i:Nat):Int) == 10)=decide (AZ s i=10):=by rw [y5];simp;omega
  have o8:(((AZ s i:Nat):Int) == 35)=decide (AZ s i=35):=by rw [y5];simp;omega
  have p3:AZ s i=35->i < s.length->i < CV nl s i/\CV nl s i<=s.length:=fun h hl=>by
   have hx:s[i]?=some s[i]:=by simp
   have h2:=HG (p:=nl) hx;rw [Fc hx] at h;rw [h] at h2;have h3:nl 35=true:=rfl;rw [h3,if_pos rfl] at h2;have:=Fe (p:=nl) (s:=s) (i:=i+1) (by omega);omega
  have key1:=fun e=>ih (i+1) e;have key2:=fun e=>ih (CV nl s i) e;by_cases Bq:i < s.length
  · have D5:(i:Int) < (s.length:Int):=by omega
    rw [if_pos Bq];have k1:=fun e=>key1 e (by omega) (by omega);have cast1:((i+1:Nat):Int)=(i:Int)+1:=by omega
    rw [cast1] at Qc;by_cases c1:AZ s i=32\/AZ s i=9\/AZ s i=10
    · rw [if_pos c1]
      rw [<- Am];rw [<- Am] at k1;rw [<- AK] at Ip;simp only [Aa,Ac,za,yW];by_cases d1:AZ s i=32
      · rw [decide_eq_true d1] at mI
        simp only [S8,Ag,seval,h0,h1,hlen,D5,Ip,mI,hw];exact k1 _ (by simp only [S7,Ag,seval,h0]) (by simp only [S7,Ag,seval] <;> rfl)
      · by_cases d2:AZ s i=9
        · rw [decide_eq_false d1] at mI
          rw [decide_eq_true d2] at h9;simp only [S8,Ag,seval,h0,h1,hlen,D5,Ip,mI,h9,hw];exact k1 _ (by simp only [S7,Ag,seval,h0]) (by simp only [S7,Ag,seval] <;> rfl)
        · have d3:AZ s i=10:=by omega
          rw [decide_eq_false d1] at mI;rw [decide_eq_false d2] at h9;rw [decide_eq_true d3] at sY;simp only [S8,Ag,seval,h0,h1,hlen,D5,Ip,mI,h9,sY,hw];exact k1 _ (by simp only [S7,Ag,seval,h0]) (by simp only [S7,Ag,seval] <;> rfl)
    · rw [if_neg c1]
      have d1:¬ AZ s i=32:=by omega
      have d2:¬ AZ s i=9:=by omega
      have d3:¬ AZ s i=10:=by omega
      rw [decide_eq_false d1] at mI;rw [decide_eq_false d2] at h9;rw [decide_eq_false d3] at sY;by_cases c2:AZ s i=35
      · rw [decide_eq_true c2] at o8
        have hr:=p3 c2 Bq;have k2:=fun e=>key2 e (by omega) (by omega);cases hd:dg (AZ s (i+1)) with
        | true=>
         rw [hd] at Hd;rw [if_neg (fun h=>by cases h.2)];rw [<- Am];rw [<- AK] at Ip Qc Hd;simp only [Aa,Ac,za,yW];simp only [S8,Ag,seval,N8,h0,h1,hlen,D5,Ip,mI,h9,sY,o8,hw,Qc,Hd];exact ⟨_,.inr ⟨rfl,by simp only [S7,Ag,seval,h1]⟩⟩
        | false=>
         rw [hd] at Hd;rw [if_pos ⟨c2,rfl⟩];generalize CV nl s i=rr at *;rw [<- Am];rw [<- Am] at k2;rw [<- AK] at Ip Qc Hd CA;simp only [Aa,Ac,za,yW];simp only [S8,Ag,seval,N8,h0,h1,hlen,D5,Ip,mI,h9,sY,o8,hw,Qc,Hd,CA,ZI];exact k2 _ (by simp only [S7,Ag,seval,h0]) (by simp only [S7,Ag,seval])
      · rw [if_neg (fun h=>c2 h.1)]
        rw [decide_eq_false c2] at o8;rw [<- Am];rw [<- AK] at Ip;simp only [Aa,Ac,za,yW];simp only [S8,Ag,seval,h0,h1,hlen,D5,Ip,mI,h9,sY,o8];exact ⟨_,.inr ⟨rfl,by simp only [S7,Ag,seval,h1]⟩⟩
  · have D5:¬ (i:Int) < (s.length:Int):=by omega
    rw [if_neg Bq];rw [<- Am];simp only [Aa,Ac,za,yW];simp only [S8,Ag,seval,h0,h1,hlen,D5];exact ⟨_,.inl ⟨rfl,by simp only [S7,Ag,seval,h1]⟩⟩
theorem U4 (s:List UInt8) (hs:s.length<=900000) (i:Nat) (hi:i<=s.length):Ae CC 56 [.str s,.int .i64 (i:Int)] []=some (.ret (.int .i64 (El (s.length+1) s i:Nat)),[]):=by
 rw [Ah (fn:=za) (c:=za.body.getD .skip) rfl rfl Xu rfl ZH (yX rfl)];have Af:=U3 _ rfl s hs (s.length+1) i;rw [<- Am];rw [<- Am] at Af;simp only [Aa,Ac,za,yW] at Af |-;simp only [S8,Ag,seval];generalize hE:GZ _ _=r
 have hP:vR (El (s.length+1) s i) r:=by
  rw [<- hE];exact Af _ (by omega) hi (by simp only [S7,Ag,seval]) (by simp only [S7,Ag,seval])
 obtain ⟨e',⟨he,g1⟩ | ⟨he,g4⟩⟩:=hP
 · subst he
   simp only [S8,Ag,seval,g1]
 · subst he
   simp only [S8,Ag,seval,g4]
theorem Qt (s:List UInt8) (hs:s.length<=900000) (i:Nat) (hi:i<=s.length) (bx):Ak CC (Ae CC) 56 [.str s,.int .i64 (i:Int)] bx=some (.ret (.int .i64 (El (s.length+1) s i:Nat)),bx):=Ax rfl (by simp only [SA,y0]) (U4 s hs i hi) rfl
theorem U5:Bk CC y8 (y8.body.getD .skip)=true:=by kernel_rfl
theorem S6:CC.P.funcs[98]?=some y8:=by kernel_rfl
theorem Q1:Bk CC zJ (zJ.body.getD .skip)=true:=by kernel_rfl
theorem PC:CC.P.funcs[99]?=some zJ:=by kernel_rfl
theorem kb {p:Nat->Bool} {s:List UInt8}:∀ (m i:Nat),s.length - i<=m->∀ k,i<=k->k < CV p s i->∃ c,s[k]?=some c/\p c.toNat=true:=by
 intro m
 induction m with
 | zero=>
  intro i hm k h1 h2;rw [Jl (by omega)] at h2;omega
 | succ m ih=>
  intro i hm k h1 h2;by_cases hi:i < s.length
  · have hx:s[i]?=some s[i]:=by simp
    rw [HG hx] at h2;split at h2
    · rename_i hp
      rcases Nat.eq_or_lt_of_le h1 with e | e
      · subst e;exact ⟨_,hx,hp⟩
      · exact ih (i+1) (by omega) k (by omega) h2
    · omega
  · rw [Jl (by omega)] at h2
    omega
def KF:List UInt8->Nat->Option Nat
 | [],n=>some n
 | c :: r,n=>if 10 * n+(c.toNat - 48) > 1099511627776 then none else KF r (10 * n+(c.toNat - 48))
def tL (i e0:Nat) (o:Option Nat) (r:Option (Ex×St)):Prop:=match o with
 | some _=>∃ e,r=some (.exit 0,⟨e,[]⟩)/\getT e 6=.int .i64 (e0:Int)
 | none=>∃ e,r=some (.ret,⟨e,[]⟩)/\getT e 4=.int .i64 (i:Int)/\getT e 5=.int .i64 2
theorem Q2 (L:Code) (hL:L=Aa zh [1,1,1,0,1,0]) (s:List UInt8) (hs:s.length<=900000) (i e0:Nat) (he0:e0<=s.length) (FA:∀ k,i<=k->k < e0->∃ c,s[k]?=some c/\dg c.toNat=true):∀ (j k n:Nat) (e:List PV),k+j=e0->i<=k->n<=1099511627776->getT e 0=.str s->getT e 1=.int .i64 i->getT e 6=.int .i64 e0->getT e 7=.int .i64 n->getT e 8=.int .i64 k ->
 tL i e0 (KF ((s.drop k).take j) n) (Cp CC L ⟨e,[]⟩):=by
 intro j
 induction j with
 | zero=>
  intro k n e hk fu hn h0 h1 h6 h7 h8;rw [A0 (Aa zh [1,1,1,0,1,0,0]) hL];have hi:¬ (k:Int) < (e0:Int):=by omega
  rw [<- Am];rw [List.take_zero];simp only [Aa,Ac,zh,yW];simp only [S7,Ag,seval,TG,h6,h8,hi];exact ⟨_,rfl,by simp only [S7,Ag,seval,h6]⟩
 | succ j ih=>
  intro k n e hk fu hn h0 h1 h6 h7 h8;rw [A0 (Aa zh [1,1,1,0,1,0,0]) hL];have hi:(k:Int) < (e0:Int):=by omega
  obtain ⟨c,hx,hd⟩:=FA k fu (by omega);have wk:k < s.length:=(zg.1 hx).1;have fF:s[k]=c:=(zg.1 hx).2;have KE:(s.drop k).take (j+1)=c :: (s.drop (k+1)).take j:=by rw [y4 wk,zG,fF]
  have Dc:=FE s k c hx;unfold dg at hd;simp only [Bool.and_eq_true,decide_eq_true_eq] at hd;have w2:zH .u8 ((c.toNat:Int) - 48)=(c.toNat:Int) - 48:=by simp [zH,zS,zP];omega
  have w3:=L9 ((c.toNat:Int) - 48) ⟨by omega,by omega⟩;have w1:=wrap_i64 (n:=10 * (n:Int)) ⟨by omega,by omega⟩;have w4:=wrap_i64 (n:=10 * (n:Int)+((c.toNat:Int) - 48)) ⟨by omega,by omega⟩;have hw:=wrap_i64 (n:=(k:Int)+1) ⟨by omega,by omega⟩;have bl:((10 * n+(c.toNat - 48):Nat):Int)=10 * (n:Int)+((c.toNat:Int) - 48):=by omega
  have xX:KF (c :: (s.drop (k+1)).take j) n=if 10 * n+(c.toNat - 48) > 1099511627776 then none else KF ((s.drop (k+1)).take j) (10 * n+(c.toNat - 48)):=rfl
  have key:=fun (h:¬ 10 * n+(c.toNat - 48) > 1099511627776) e=>ih (k+1) (10 * n+(c.toNat - 48)) e (by omega) (by omega) (by omega);rw [KE,xX];by_cases c1:10 * n+(c.toNat - 48) > 1099511627776
  · have c1':10 * (n:Int)+((c.toNat:Int) - 48) > 1099511627776:=by omega
    rw [if_pos c1];rw [<- Am];simp only [Aa,Ac,zh,yW];simp only [S7,Ag,seval,TG,h0,h1,h6,h7,h8,hi,Dc,w1,w2,w3,w4,c1'];exact ⟨_,rfl,by simp only [S7,Ag,seval],by simp only [S7,Ag,seval]⟩
  · have c1':¬ 10 * (n:Int)+((c.toNat:Int) - 48) > 1099511627776:=by omega
    rw [if_neg c1];have key:=key c1;rw [bl] at key;rw [<- Am];rw [<- Am] at key;simp only [Aa,Ac,zh,yW];simp only [S7,Ag,seval,TG,h0,h1,h6,h7,h8,hi,Dc,w1,w2,w3,w4,c1',hw];exact key _ (by simp only [S7,Ag,seval,h0]) (by simp only [S7,Ag,seval,h1]) (by simp only [S7,Ag,seval,h6]) (by simp only [S7,Ag,seval]) (by simp only [S7,Ag,seval] <;> rfl)
def JV (s:List UInt8) (i:Nat):Option Nat:=(KF ((s.drop i).take (CV dg s i - i)) 0).map fun _=>CV dg s i
theorem Q3 (s:List UInt8) (hs:s.length<=900000) (i:Nat) (hi:i<=s.length):Ae CC 97 [.str s,.int .i64 (i:Int)] []=some (.ret (match JV s i with
 | some k=>.tup [.int .i64 (k:Int),.int .i64 0]
 | none=>.tup [.int .i64 (i:Int),.int .i64 2]),[]):=by
 rw [Ah (fn:=zh) (c:=zh.body.getD .skip) rfl rfl S5 rfl U1 (yX rfl)];have p3:=Fe (p:=dg) hi;have CA:=PB s hs i hi;have Af:=fun e=>Q2 _ rfl s hs i (CV dg s i) p3.2 (kb (s.length) i (by omega)) (CV dg s i - i) i 0 e (by omega) (by omega) (by omega);unfold JV;generalize CV dg s i=e0 at *;rw [<- Am];rw [<- Am] at Af;rw [<- AK] at CA;simp only [Aa,Ac,zh,yW] at Af |-;simp only [S8,Ag,seval,ZI,CA];generalize hE:GZ _ ⟨_,_⟩=r
 have hP:tL i e0 (KF ((s.drop i).take (e0 - i)) 0) r:=by
  rw [<- hE];exact Af _ (by simp only [S7,Ag,seval]) (by simp only [S7,Ag,seval]) (by simp only [S7,Ag,seval]) (by simp only [S7,Ag,seval] <;> rfl) (by simp only [S7,Ag,seval])
 clear hE Af;cases hn:KF ((s.drop i).take (e0 - i)) 0 with
 | some v=>
  rw [hn] at hP;obtain ⟨e',he,g6⟩:=hP;subst he;simp only [S8,Ag,seval,g6]
 | none=>
  rw [hn] at hP;obtain ⟨e',he,g4,g5⟩:=hP;subst he;simp only [S8,Ag,seval,g4,g5]
theorem U6 (s:List UInt8) (hs:s.length<=900000) (i:Nat) (hi:i<=s.length) (bx):Ak CC (Ae CC) 97 [.str s,.int .i64 (i:Int)] bx=some (.ret (match JV s i with
 | some k=>.tup [.int .i64 (k:Int),.int .i64 0]
 | none=>.tup [.int .i64 (i:Int),.int .i64 2]),bx):=Ax rfl (by simp only [SA,y0]) (Q3 s hs i hi) (by cases JV s i <;> rfl)
def PD:Nat->List UInt8->Nat->Nat
 | 0,_,e=>e
 | m+1,s,e=>if e < s.length/\AZ s e≠34 then PD m s (if AZ s e=92 then e+2 else e+1) else e
theorem Ox:∀ (m:Nat) (s:List UInt8) (e:Nat),e<=PD m s e
 | 0,_,e=>y6 _
 | m+1,s,e=>by
  unfold PD;split
  · split
    · have:=Ox m s (e+2);omega
    · have:=Ox m s (e+1);omega
  · exact y6 _
theorem Q4 (L:Code) (hL:L=Aa y8 [1,1,0,0]) (s:List UInt8) (hs:s.length<=900000) (v1:PV):∀ (m x:Nat) (e:List PV),s.length+1 - x < m->x<=s.length+1->getT e 0=.str s->getT e 1=v1->getT e 7=.int .i64 x ->
 ∃ e',Cp CC L ⟨e,[]⟩=some (.exit 0,⟨e',[]⟩)/\getT e' 0=.str s/\getT e' 1=v1/\getT e' 7=.int .i64 (PD m s x:Nat):=by
 intro m
 induction m with
 | zero=>intro x e hm;omega
 | succ m ih=>
  intro x e hm YF h0 h1 h7;rw [A0 (Aa y8 [1,1,0,0,0]) hL];have hlen:=AX s;have hq:PD (m+1) s x=if x < s.length/\AZ s x≠34 then PD m s (if AZ s x=92 then x+2 else x+1) else x:=rfl
  rw [hq];have k1:=fun e=>ih (x+1) e;have k2:=fun e=>ih (x+2) e;by_cases Bq:x < s.length
  · have D5:(x:Int) < (s.length:Int):=by omega
    have hx:s[x]?=some (s[x]'(by omega)):=by simp
    have Dc:=FE s x _ hx;have Ip:=Fc hx;rw [Ip];generalize s[x]'(by omega)=c at *;have w1:=wrap_i64 (n:=(x:Int)+1) ⟨by omega,by omega⟩;have w2:=wrap_i64 (n:=(x:Int)+1+1) ⟨by omega,by omega⟩;by_cases c1:c.toNat=34
    · have c1':((c.toNat:Int) != 34)=false:=by simp [c1]
      rw [if_neg (fun h=>h.2 c1)];rw [<- Am];simp only [Aa,Ac,y8,yW];simp only [S8,Ag,seval,h0,h1,h7,hlen,D5,Dc,c1'];exact ⟨_,rfl,by simp only [S7,Ag,seval,h0],by simp only [S7,Ag,seval,h1],by simp only [S7,Ag,seval,h7]⟩
    · have c1':((c.toNat:Int) != 34)=true:=by simp;omega
      rw [if_pos ⟨Bq,c1⟩];by_cases c2:c.toNat=92
      · have c2':((c.toNat:Int) == 92)=true:=by simp [c2]
        rw [if_pos c2];have k2:=fun e=>k2 e (by omega) (by omega);have QC:((x+2:Nat):Int)=(x:Int)+1+1:=by omega
        rw [QC] at k2;rw [<- Am];rw [<- Am] at k2;simp only [Aa,Ac,y8,yW];simp only [S8,Ag,seval,h0,h1,h7,hlen,D5,Dc,c1',c2',w1,w2];exact k2 _ (by simp only [S7,Ag,seval,h0]) (by simp only [S7,Ag,seval,h1]) (by simp only [S7,Ag,seval])
      · have c2':((c.toNat:Int) == 92)=false:=by simp;omega
        rw [if_neg c2];have k1:=fun e=>k1 e (by omega) (by omega);rw [<- Am];rw [<- Am] at k1;simp only [Aa,Ac,y8,yW];simp only [S8,Ag,seval,h0,h1,h7,hlen,D5,Dc,c1',c2',w1];exact k1 _ (by simp only [S7,Ag,seval,h0]) (by simp only [S7,Ag,seval,h1]) (by simp only [S7,Ag,seval] <;> rfl)
  · have D5:¬ (x:Int) < (s.length:Int):=by omega
    rw [if_neg (fun h=>Bq h.1)];rw [<- Am];simp only [Aa,Ac,y8,yW];simp only [S8,Ag,seval,h0,h1,h7,hlen,D5];exact ⟨_,rfl,by simp only [S7,Ag,seval,h0],by simp only [S7,Ag,seval,h1],by simp only [S7,Ag,seval,h7]⟩
def Ta (s:List UInt8) (i:Nat):Option (List UInt8×Nat):=
 let e:=PD (s.length+1) s (i+1)
 if s.length<=e then none else if (RA ((s.take (e+1)).drop i)).2≠0 then none else some ((RA ((s.take (e+1)).drop i)).1,e+1)
theorem Q5 (s:List UInt8) (hs:s.length<=900000) (i:Nat) (hi:i<=s.length):Ae CC 98 [.str s,.int .i64 (i:Int)] []=some (.ret (match Ta s i with
 | some (t,k)=>.tup [.str t,.int .i64 (k:Int),.int .i64 0]
 | none=>.tup [.str [],.int .i64 (i:Int),.int .i64 4]),[]):=by
 rw [Ah (fn:=y8) (c:=y8.body.getD .skip) rfl rfl S6 rfl U5 (yX rfl)];have hlen:=AX s;have Af:=Q4 _ rfl s hs (.int .i64 i) (s.length+1) (i+1);have Mg:=Ox (s.length+1) s (i+1);have w1:=wrap_i64 (n:=(i:Int)+1) ⟨by omega,by omega⟩;unfold Ta;simp only;generalize PD (s.length+1) s (i+1)=x at *;have w2:=fun (h:x < s.length)=>wrap_i64 (n:=(x:Int)+1) ⟨by omega,by omega⟩;have Ko:=fun (h:x < s.length)=>JS s i ((x:Int)+1) (by omega) (by omega) (by omega);have xW:((x:Int)+1).toNat=x+1:=by omega
 have iE:=Pz ((s.take (x+1)).drop i) (by rw [zq,zo];omega);have K5:((i+1:Nat):Int)=(i:Int)+1:=by omega
 by_cases c1:s.length<=x
 · have c1':(x:Int) ≥ (s.length:Int):=by omega
   rw [if_pos c1];rw [<- Am];rw [<- Am] at Af;simp only [Aa,Ac,y8,yW] at Af |-;simp only [S8,Ag,seval,w1];generalize hE:GZ _ ⟨_,_⟩=r;obtain ⟨e',he,g0,g1,g7⟩:=Ji hE (Af _ (by omega) (by omega) (by simp only [S7,Ag,seval]) (by simp only [S7,Ag,seval]) (by simp only [S7,Ag,seval,K5]));subst he;simp only [S8,Ag,seval,g0,g1,g7,hlen,c1']
 · have c1':¬ (x:Int) ≥ (s.length:Int):=by omega
   rw [if_neg c1];have w2:=w2 (by omega);have Ko:=Ko (by omega);rw [xW,y1] at Ko;generalize (s.take (x+1)).drop i=q at *;by_cases c2:(RA q).2=0
   · have c2':((0:Int) != 0)=false:=rfl
     rw [if_neg (fun h=>h c2)];rw [c2] at iE;rw [<- Am];rw [<- Am] at Af;rw [<- AK] at iE;simp only [Aa,Ac,y8,yW] at Af |-;simp only [S8,Ag,seval,w1];generalize hE:GZ _ ⟨_,_⟩=r;obtain ⟨e',he,g0,g1,g7⟩:=Ji hE (Af _ (by omega) (by omega) (by simp only [S7,Ag,seval]) (by simp only [S7,Ag,seval]) (by simp only [S7,Ag,seval,K5]));subst he;simp only [S8,Ag,seval,g0,g1,g7,hlen,c1',w2,Ko,iE,c2']
     try rfl
   · have c2':((RA q).2 != 0)=true:=by simpa using c2
     rw [if_pos c2];rw [<- Am];rw [<- Am] at Af;rw [<- AK] at iE;simp only [Aa,Ac,y8,yW] at Af |-;simp only [S8,Ag,seval,w1];generalize hE:GZ _ ⟨_,_⟩=r;obtain ⟨e',he,g0,g1,g7⟩:=Ji hE (Af _ (by omega) (by omega) (by simp only [S7,Ag,seval]) (by simp only [S7,Ag,seval]) (by simp only [S7,Ag,seval,K5]));subst he;simp only [S8,Ag,seval,g0,g1,g7,hlen,c1',w2,Ko,iE,c2']
theorem U7 (s:List UInt8) (hs:s.length<=900000) (i:Nat) (hi:i<=s.length) (bx):Ak CC (Ae CC) 98 [.str s,.int .i64 (i:Int)] bx=some (.ret (match Ta s i with
 | some (t,k)=>.tup [.str t,.int .i64 (k:Int),.int .i64 0]
 | none=>.tup [.str [],.int .i64 (i:Int),.int .i64 4]),bx):=Ax rfl (by simp only [SA,y0]) (Q5 s hs i hi) (by cases Ta s i <;> rfl)
theorem cG:Bk CC zj (zj.body.getD .skip)=true:=by kernel_rfl
theorem ZK:CC.P.funcs[57]?=some zj:=by kernel_rfl
def sH (c:Nat):Bool:=decide (Lib.indexByte [61,33,60,62] c.toUInt8 ≥ 0)
def ed (c:Nat):Bool:=decide (Lib.indexByte [35,43,45,42,40,41,123,125,91,93,44,59,58,46,60,62,61] c.toUInt8 ≥ 0)
def Ds (s:List UInt8) (i:Nat):Nat:=if AZ s (i+1)=61/\sH (AZ s i)=true then 2 else if ed (AZ s i)=true then 1 else 0
theorem Oy (s:List UInt8) (hs:s.length<=900000) (i:Nat) (hi:i < s.length):Ae CC 99 [.str s,.int .i64 (i:Int)] []=some (.ret (.int .i64 ((i+Ds s i:Nat):Int)),[]):=by
 rw [Ah (fn:=zJ) (c:=zJ.body.getD .skip) rfl rfl PC rfl Q1 (yX rfl)];have Ip:=Jk s i;have Qc:=Jk s (i+1);have Uf:=DI s i;have YH:=gy (AZ s i:Int) ⟨by omega,by omega⟩;have w1:=wrap_i64 (n:=(i:Int)+1) ⟨by omega,by omega⟩;have w2:=wrap_i64 (n:=(i:Int)+2) ⟨by omega,by omega⟩;have cast1:((i+1:Nat):Int)=(i:Int)+1:=by omega
 rw [cast1] at Qc;have si:(((AZ s (i+1):Nat):Int) == 61)=decide (AZ s (i+1)=61):=by rw [y5];simp;omega
 unfold Ds ed sH;generalize AZ s i=c at *;generalize AZ s (i+1)=d at *;have hx:=Le;rw [<- Am];rw [<- AK] at Ip Qc hx;have pR:=hx [61,33,60,62] (c:Int);have pS:=hx [35,43,45,42,40,41,123,125,91,93,44,59,58,46,60,62,61] (c:Int);rw [y1] at pR pS;clear hx;generalize Lib.indexByte [61,33,60,62] c.toUInt8=x1 at *;generalize Lib.indexByte [35,43,45,42,40,41,123,125,91,93,44,59,58,46,60,62,61] c.toUInt8=x2 at *;simp only [Aa,Ac,zJ,yW];by_cases c1:d=61
 · rw [decide_eq_true c1] at si
   by_cases c2:x1 ≥ 0
   · rw [if_pos ⟨c1,decide_eq_true c2⟩]
     simp only [S8,Ag,seval,Ip,Qc,YH,si,pR,pS,w1,w2,c2]
     try rfl
   · rw [if_neg (fun h=>c2 (of_decide_eq_true h.2))]
     by_cases c3:x2 ≥ 0
     · rw [if_pos (decide_eq_true c3)]
       simp only [S8,Ag,seval,Ip,Qc,YH,si,pR,pS,w1,w2,c2,c3]
       try rfl
     · rw [if_neg (fun h=>c3 (of_decide_eq_true h))]
       simp only [S8,Ag,seval,Ip,Qc,YH,si,pR,pS,w1,w2,c2,c3]
       try rfl
 · rw [decide_eq_false c1] at si
   rw [if_neg (fun h=>c1 h.1)];by_cases c3:x2 ≥ 0
   · rw [if_pos (decide_eq_true c3)]
     simp only [S8,Ag,seval,Ip,Qc,YH,si,pR,pS,w1,w2,c3]
     try rfl
   · rw [if_neg (fun h=>c3 (of_decide_eq_true h))]
     simp only [S8,Ag,seval,Ip,Qc,YH,si,pR,pS,w1,w2,c3]
     try rfl
theorem Q6 (s:List UInt8) (hs:s.length<=900000) (i:Nat) (hi:i < s.length) (bx):Ak CC (Ae CC) 99 [.str s,.int .i64 (i:Int)] bx=some (.ret (.int .i64 ((i+Ds s i:Nat):Int)),bx):=Ax rfl (by simp only [SA,y0]) (Oy s hs i hi) rfl
abbrev Tk:=Nat×List UInt8×Nat
def ID (t:Tk):PV:=.agg [.int .i64 (t.1:Int),.str t.2.1,.int .i64 (t.2.2:Int)]
def Hx (s:List UInt8) (i:Nat):Tk×Nat ⊕ Int:=
 let c:=AZ s i
 if sm c then .inl ((1,(s.take (CV pt s i)).drop i,i),CV pt s i)
 else if dg c then (match JV s i with
  | some k=>.inl ((2,(s.take k).drop i,i),k)
  | none=>.inr 2)
 else if c=34 then (match Ta s i with
  | some (t,k)=>.inl ((3,t,i),k)
  | none=>.inr 4)
 else if Ds s i=0 then .inr 12
 else .inl ((4,(s.take (i+Ds s i)).drop i,i),i+Ds s i)
theorem Tb {s:List UInt8} {i:Nat} (hi:i < s.length):i+Ds s i<=s.length:=by
 unfold Ds;split
 · rename_i h
   have:i+1 < s.length:=by
    rcases zX (i+1) s.length with h' | h'
    · exact h'
    · exfalso
      have:AZ s (i+1)=0:=by unfold AZ;rw [y2 h']
      omega
   omega
 · split <;> omega
theorem Xx:zeroCells CC 59=some [.int .i64 0,.str [],.int .i64 0]:=by kernel_rfl
theorem nz (n:Int):Bp CC 59 [(2,.int .i64 n)]=some (.agg [.int .i64 0,.str [],.int .i64 n]):=by
 have h:=(by kernel_rfl:CC.P.underlying 59=some (.struct ((match zn.underlying 59 with | some (.struct f)=>f | _=>#[]))));have hz:tZero CC 59=some (.agg [.int .i64 0,.str [],.int .i64 0]):=by kernel_rfl
 have hp:((match zn.underlying 59 with | some (.struct f)=>f | _=>#[]):Array Field).toList.mapM (fun f=>(tSize CC f.type).map fun s=>(f.offset,s))=some [(0,1),(1,1),(2,1)]:=by kernel_rfl
 unfold Bp;rw [h,hz];simp only [hp];rfl
theorem yt:∃ u,CC.P.underlying 59=some u:=⟨.struct ((match zn.underlying 59 with | some (.struct f)=>f | _=>#[])),by kernel_rfl⟩
theorem Oz (s:List UInt8) (hs:s.length<=900000) (i:Nat) (hi:i < s.length):∃ bx v,Ae CC 57 [.str s,.int .i64 (i:Int)] []=some (.ret (.tup v),bx) /\
 (match Hx s i with
  | .inl (t,k)=>v=[ID t,.int .i64 (k:Int),.int .i64 0]
  | .inr c=>∃ n:Int,v=[.agg [.int .i64 n,.str [],.int .i64 (i:Int)],.int .i64 (i:Int),.int .i64 c]):=by
 rw [Ah (fn:=zj) (c:=zj.body.getD .skip) rfl rfl ZK rfl cG (yX rfl)];have Ip:=Jk s i;have Uf:=DI s i;have L0:=Xv (AZ s i) Uf;have Hd:=Ow (AZ s i) Uf;have CA:=Q0 s hs i (by omega);have JF:=U6 s hs i (by omega);have Pc:=U7 s hs i (by omega);have A1:=Q6 s hs i hi;have bz:(((AZ s i:Nat):Int) == 34)=decide (AZ s i=34):=by rw [y5];simp;omega
 have p3:=Fe (p:=pt) (s:=s) (i:=i) (by omega);have mi:=JS s i (CV pt s i) (by omega) (by omega) (by omega);rw [y1,y1] at mi;have xR:=Fe (p:=dg) (s:=s) (i:=i) (by omega);have iG:=JS s i (CV dg s i) (by omega) (by omega) (by omega);rw [y1,y1] at iG;have hol:=Tb hi;have iH:=JS s i ((i+Ds s i:Nat):Int) (by omega) (by omega) (by omega);rw [y1,y1] at iH;have hb:=nz (i:Int);obtain ⟨tu,xY⟩:=yt;have Yw:((2:Int) != 0)=true:=rfl;have Pd:((4:Int) != 0)=true:=rfl
 have mh:∀ k,JV s i=some k->k=CV dg s i:=fun k h=>by
  unfold JV at h;obtain ⟨_,_,h2⟩:=zk.1 h;exact h2.symm
 unfold Hx;simp only;generalize AZ s i=c at *;generalize CV pt s i=rp at *;generalize CV dg s i=rd' at *;cases K5:sm c with
 | true=>
  rw [K5] at L0;rw [if_pos rfl];generalize (s.take rp).drop i=tx at *;rw [<- Am];rw [<- AK] at Ip L0 CA;simp only [Aa,Ac,zj,yW];simp only [S9,Ag,seval,Xx,Yw,Pd,hb,Ip,L0,CA,mi,yY,yZ];exact ⟨_,_,rfl,rfl⟩
 | false=>
  rw [K5] at L0;rw [if_neg (by simp)];cases QC:dg c with
  | true=>
   rw [QC] at Hd;rw [if_pos rfl];cases hn:JV s i with
   | some k=>
    rw [hn] at JF;obtain rfl:=mh k hn;dsimp only;generalize (s.take k).drop i=tx at *;rw [<- Am];rw [<- AK] at Ip L0 Hd JF;simp only [Aa,Ac,zj,yW];simp only [S9,Ag,seval,Xx,Yw,Pd,hb,Ip,L0,Hd,JF,iG,yY,yZ];exact ⟨_,_,rfl,rfl⟩
   | none=>
    rw [hn] at JF;rw [<- Am];rw [<- AK] at Ip L0 Hd JF;simp only [Aa,Ac,zj,yW];simp only [S9,Ag,seval,Xx,Yw,Pd,hb,Ip,L0,Hd,JF,iG,yY,yZ];exact ⟨_,_,rfl,0,rfl⟩
  | false=>
   rw [QC] at Hd;rw [if_neg (by simp)];by_cases iU:c=34
   · rw [if_pos iU]
     rw [decide_eq_true iU] at bz;cases hn:Ta s i with
     | some x=>
      rw [hn] at Pc;obtain ⟨tx,k⟩:=x;rw [<- Am];rw [<- AK] at Ip L0 Hd Pc;simp only [Aa,Ac,zj,yW];simp only [S9,Ag,seval,Xx,Yw,Pd,hb,Ip,L0,Hd,bz,Pc,yY,yZ];exact ⟨_,_,rfl,rfl⟩
     | none=>
      rw [hn] at Pc;rw [<- Am];rw [<- AK] at Ip L0 Hd Pc;simp only [Aa,Ac,zj,yW];simp only [S9,Ag,seval,Xx,Yw,Pd,hb,Ip,L0,Hd,bz,Pc,yY,yZ];exact ⟨_,_,rfl,0,rfl⟩
   · rw [if_neg iU]
     rw [decide_eq_false iU] at bz;by_cases sj:Ds s i=0
     · rw [if_pos sj]
       have heq:(((i+Ds s i:Nat):Int) == (i:Int))=true:=by rw [sj];simp
       generalize ((i+Ds s i:Nat):Int)=k at *;rw [<- Am];rw [<- AK] at Ip L0 Hd A1;simp only [Aa,Ac,zj,yW];simp only [S9,Ag,seval,Xx,Yw,Pd,hb,Ip,L0,Hd,bz,A1,heq,yY,yZ];exact ⟨_,_,rfl,4,rfl⟩
     · rw [if_neg sj]
       dsimp only;have heq:(((i+Ds s i:Nat):Int) == (i:Int))=false:=by rw [beq_eq_false_iff_ne];omega
       generalize ((i+Ds s i:Nat):Int)=k at *;generalize (s.take (i+Ds s i)).drop i=tx at *;rw [<- Am];rw [<- AK] at Ip L0 Hd A1;simp only [Aa,Ac,zj,yW];simp only [S9,Ag,seval,Xx,Yw,Pd,hb,Ip,L0,Hd,bz,A1,heq,iH,yY,yZ];exact ⟨_,_,rfl,rfl⟩
theorem U8:Bk CC ze (ze.body.getD .skip)=true:=by kernel_rfl
theorem Tc:CC.P.funcs[30]?=some ze:=by kernel_rfl
theorem Jm:∀ (m:Nat) (s:List UInt8) (i:Nat),i<=s.length->i<=El m s i/\El m s i<=s.length
 | 0,_,i,h=>⟨y6 _,h⟩
 | m+1,s,i,h=>by
  unfold El;split
  · split
    · have:=Jm m s (i+1) (by omega);omega
    · split
      · have h1:=Fe (p:=nl) (s:=s) (i:=i) h
        have:=Jm m s (CV nl s i) h1.2;omega
      · omega
  · omega
theorem ZM {s:List UInt8} {i:Nat} (h:i < s.length):AZ s i=(s[i]).toNat:=Fc (by simp)
theorem OA {p:Nat->Bool} {s:List UInt8} {i:Nat} (h:i < s.length) (hp:p (AZ s i)=true):i < CV p s i:=by
 have hx:s[i]?=some s[i]:=by simp
 have h2:=HG (p:=p) hx;rw [ZM h] at hp;rw [hp,if_pos rfl] at h2;have:=Fe (p:=p) (s:=s) (i:=i+1) (by omega);omega
theorem Ma {s:List UInt8} {i:Nat} {t:Tk} {k:Nat} (h:i < s.length) (ho:Hx s i=.inl (t,k)):i < k/\k<=s.length:=by
 unfold Hx at ho;simp only at ho;split at ho
 · rename_i hc
   have hp:pt (AZ s i)=true:=by unfold pt;rw [hc];rfl
   have h1:=OA h hp;have h2:=Fe (p:=pt) (s:=s) (i:=i) (by omega);injection ho with ho
   injection ho with _ ho
   omega
 · split at ho
   · rename_i hc
     have h1:=OA h hc;have h2:=Fe (p:=dg) (s:=s) (i:=i) (by omega);unfold JV at ho;split at ho
     · rename_i k' hk
       obtain ⟨_,_,hk⟩:=zk.1 hk;injection ho with ho
       injection ho with _ ho
       omega
     · cases ho
   · split at ho
     · split at ho
       · rename_i t' k' hk
         unfold Ta at hk;simp only at hk;split at hk
         · cases hk
         · split at hk
           · cases hk
           · have h1:=Ox (s.length+1) s (i+1)
             injection hk with hk
             injection hk with _ hk
             injection ho with ho
             injection ho with _ ho
             omega
       · cases ho
     · split at ho
       · cases ho
       · have:=Tb h
         injection ho with ho
         injection ho with _ ho
         omega
theorem Td {s:List UInt8} {i:Nat} {c:Int} (ho:Hx s i=.inr c):c=2\/c=4\/c=12:=by
 unfold Hx at ho;simp only at ho;split at ho
 · cases ho
 · split at ho
   · split at ho
     · cases ho
     · injection ho with ho;omega
   · split at ho
     · split at ho
       · cases ho
       · injection ho with ho;omega
     · split at ho
       · injection ho with ho;omega
       · cases ho
theorem U9 (s:List UInt8) (hs:s.length<=900000) (i:Nat) (hi:i < s.length) (t:Tk) (k:Nat) (ho:Hx s i=.inl (t,k)) (bx):Ak CC (Ae CC) 57 [.str s,.int .i64 (i:Int)] bx=some (.ret (.tup [ID t,.int .i64 k,.int .i64 0]),bx):=by
 obtain ⟨b,v,h,hv⟩:=Oz s hs i hi;rw [ho] at hv;simp only at hv;subst hv;exact Ax rfl (by simp only [SA,y0]) h rfl
theorem Te (s:List UInt8) (hs:s.length<=900000) (i:Nat) (hi:i < s.length) (c:Int) (ho:Hx s i=.inr c):∃ n:Int,∀ bx,Ak CC (Ae CC) 57 [.str s,.int .i64 (i:Int)] bx=some (.ret (.tup [.agg [.int .i64 n,.str [],.int .i64 (i:Int)],.int .i64 (i:Int),.int .i64 c]),bx):=by
 obtain ⟨b,v,h,hv⟩:=Oz s hs i hi;rw [ho] at hv;simp only at hv;obtain ⟨u,hv⟩:=hv;subst hv;exact ⟨u,fun bx=>Ax rfl (by simp only [SA,y0]) h rfl⟩
def Kz:Nat->List UInt8->Nat->List Tk->List Tk×Nat×Int
 | 0,_,i,_=>([],i,0)
 | m+1,s,i,acc=>if i < s.length then
  (if acc.length=4000 then ([],i,3) else match Hx s i with
   | .inr c=>([],i,c)
   | .inl (t,k)=>Kz m s (El (s.length+1) s k) (acc++[t]))
  else (acc++[(0,[],s.length)],0,0)
def Bd (s:List UInt8):List Tk×Nat×Int:=if 20000 < s.length then ([],0,3) else Kz (s.length+1) s (El (s.length+1) s 0) []
noncomputable def tM:TypeInfo:=(zn.info? 59).getD default
def A2 (l:List Tk):List PV:=l.map ID
theorem wE (a b c:PV) (ha:a.one=true) (hb:b.one=true) (hc:c.one=true) (h:JI true 3 (.agg [a,b,c])=some (.agg [a,b,c])):AW CC 61 1 [(0,.agg [a,b,c])]=some (.osl 59 [.agg [a,b,c]]):=by
 have hz:tZero CC 59=some (.agg [.int .i64 0,.str [],.int .i64 0]):=by kernel_rfl
 have hi:CC.P.info? 59=some tM:=by kernel_rfl
 have hs:tM.size=3:=by kernel_rfl
 have hu:CC.P.underlying 61=some (.slice 59):=by kernel_rfl
 have ht:tAgg CC 59=true:=by kernel_rfl
 unfold AW;simp only [hu,hz,hi,hs,ht,List.foldlM_cons,List.foldlM_nil,h];rfl
theorem ee (t:Tk):AW CC 61 1 [(0,ID t)]=some (.osl 59 (A2 [t])):=wE _ _ _ rfl rfl rfl rfl
theorem nA (st:St) (al:List (Nat×Loc)) (s x:Operand) (d:Option Tmp):EW CC st al s x 61 61 d=match DV CC st al 59 s,Di (opd CC st.env x) with
 | some (l,xs),some ys=>Sf 32 3 59 st al l xs ys d
 | _,_=>none:=EZ (i:=tM) (by kernel_rfl) (by kernel_rfl) (by kernel_rfl) (z:=(tM.zero).getD default) (by kernel_rfl) (by kernel_rfl) (by rw [show tM.size=3 from by kernel_rfl];decide) (by kernel_rfl) (by kernel_rfl)
theorem nB (t:Tk):((A2 [t]).all fun y=>y.cells.length == 3)=true:=rfl
theorem yu:∃ f,CC.P.underlying 59=some (.struct f):=⟨(match zn.underlying 59 with | some (.struct f)=>f | _=>#[]),by kernel_rfl⟩
theorem ZN (n:Int):Bp CC 59 [(0,.int .i64 0),(2,.int .i64 n)]=some (.agg [.int .i64 0,.str [],.int .i64 n]):=by
 have h:=(by kernel_rfl:CC.P.underlying 59=some (.struct ((match zn.underlying 59 with | some (.struct f)=>f | _=>#[]))));have hz:tZero CC 59=some (.agg [.int .i64 0,.str [],.int .i64 0]):=by kernel_rfl
 have hp:((match zn.underlying 59 with | some (.struct f)=>f | _=>#[]):Array Field).toList.mapM (fun f=>(tSize CC f.type).map fun s=>(f.offset,s))=some [(0,1),(1,1),(2,1)]:=by kernel_rfl
 unfold Bp;rw [h,hz];simp only [hp];rfl
def vS (s:List UInt8) (v:List Tk×Nat×Int) (r:Option (Ex×St)):Prop:=
 ∃ e' bx',(r=some (.exit 0,⟨e',bx'⟩)/\v.2=(0,0)/\∃ acc,acc.length<=4000/\v.1=acc++[(0,[],s.length)]/\getT e' 5=.osl 59 (A2 acc)/\getT e' 0=.str s) \/
  (r=some (.ret,⟨e',bx'⟩)/\v.1=[]/\getT e' 2=.osl 59 []/\getT e' 3=.int .i64 (v.2.1:Int)/\getT e' 4=.int .i64 v.2.2)
theorem Q7 (L:Code) (hL:L=Aa ze [1,1,1,0,1,0]) (s:List UInt8) (hs:s.length<=900000):∀ (m i:Nat) (acc:List Tk) (e:List PV) (bx:List PBox),s.length - i < m->i<=s.length->acc.length<=4000->getT e 0=.str s->getT e 5=.osl 59 (A2 acc)->getT e 6=.int .i64 i ->
 vS s (Kz m s i acc) (Cp CC L ⟨e,bx⟩):=by
 intro m
 induction m with
 | zero=>intro i acc e bx hm;omega
 | succ m ih=>
  intro i acc e bx hm hi ha h0 h5 h6;rw [A0 (Aa ze [1,1,1,0,1,0,0]) hL];have hlen:=AX s
  have htk:Kz (m+1) s i acc=if i < s.length then
   (if acc.length=4000 then ([],i,3) else match Hx s i with
    | .inr c=>([],i,c)
    | .inl (t,k)=>Kz m s (El (s.length+1) s k) (acc++[t]))
   else (acc++[(0,[],s.length)],0,0):=rfl
  rw [htk];obtain ⟨tu,xY⟩:=yu;have fx:∀ (bx:List PBox) (b:PBox),(bx++[b])[bx.length]?=some b:=fun bx b=>by simp
  have sZ:∀ (e:List PV) (o:Operand),True:=fun _ _=>trivial;by_cases Bq:i < s.length
  · have D5:(i:Int) < (s.length:Int):=by omega
    rw [if_pos Bq];have Ub:(A2 acc).length=acc.length:=by unfold A2;rw [zC]
    by_cases c1:acc.length=4000
    · rw [if_pos c1]
      have hl:((((A2 acc).length:Nat):Int) == 4000)=true:=by rw [Ub,c1];rfl
      generalize A2 acc=xs at *;rw [<- Am];simp only [Aa,Ac,ze,yW];simp only [S8,Ag,seval,h0,h5,h6,hlen,D5,hl];exact ⟨_,_,Or.inr ⟨rfl,rfl,by simp only [S7,Ag,seval],by simp only [S7,Ag,seval],by simp only [S7,Ag,seval]⟩⟩
    · rw [if_neg c1]
      have hl:((((A2 acc).length:Nat):Int) == 4000)=false:=by rw [Ub,beq_eq_false_iff_ne];omega
      cases ho:Hx s i with
      | inr c=>
       obtain ⟨u,Fh⟩:=Te s hs i Bq c ho
       have Dq:(c != 0)=true:=by
        have:=Td ho;rw [bne_iff_ne];omega
       generalize A2 acc=xs at *;rw [<- Am];rw [<- AK] at Fh;simp only [Aa,Ac,ze,yW];simp only [S8,Ag,SG,seval,UT,SC,Xx,h0,h5,h6,hlen,D5,hl,Fh,Dq,zu,fx];exact ⟨_,_,Or.inr ⟨rfl,rfl,by simp only [S7,Ag,seval],by simp only [S7,Ag,seval],by simp only [S7,Ag,seval]⟩⟩
      | inl x=>
       obtain ⟨tk,k⟩:=x;dsimp only;have Fh:=U9 s hs i Bq tk k ho;have Yu:=Ma Bq ho;have bj:=Qt s hs k Yu.2;have Mg:=Jm (s.length+1) s k Yu.2;have sq:=fun e bx=>ih (El (s.length+1) s k) (acc++[tk]) e bx (by omega) Mg.2 (by rw [zt,zM];omega);have Dq:((0:Int) != 0)=false:=rfl;have FB:=ee tk;have Ek:=nB tk;have Jd:A2 (acc++[tk])=A2 acc++A2 [tk]:=by simp only [A2,zB]
       rw [Jd] at sq;have VM:(A2 [tk]).length=1:=rfl;have hc:(A2 acc).length+(A2 [tk]).length<=1000000:=by omega
       generalize Kz m s (El (s.length+1) s k) (acc++[tk])=v at *;generalize A2 acc=xs at *;generalize A2 [tk]=ys at *;generalize El (s.length+1) s k=k' at *;unfold ID at Fh FB;rw [<- Am];rw [<- AK] at Fh bj;rw [<- Am] at sq;simp only [Aa,Ac,ze,yW];simp only [S8,Ag,SG,seval,UT,SC,Xx,h0,h5,h6,hlen,D5,hl,Fh,bj,FB,nA,Ek,hc,Dq,zu,fx];refine sq _ _ ?_ ?_ ?_
       · simp only [S7,Ag,seval,h0]
       · simp only [S7,Ag,seval]
       · simp only [S7,Ag,seval]
  · rw [if_neg Bq]
    have D5:¬ (i:Int) < (s.length:Int):=by omega
    rw [<- Am];simp only [Aa,Ac,ze,yW];simp only [S8,Ag,seval,h0,h5,h6,hlen,D5];exact ⟨_,_,Or.inl ⟨rfl,rfl,_,ha,rfl,by simp only [S7,Ag,seval,h5],by simp only [S7,Ag,seval,h0]⟩⟩
theorem Q8 (s:List UInt8) (hs:s.length<=900000):∃ bx,Ae CC 30 [.str s] []=some (.ret (.tup [.sl (A2 (Bd s).1),.int .i64 ((Bd s).2.1:Nat),.int .i64 (Bd s).2.2]),bx):=by
 rw [Ah (fn:=ze) (c:=ze.body.getD .skip) rfl rfl Tc rfl U8 (yX rfl)];have hlen:=AX s;have bj:=Qt s hs 0 (by omega);have Mg:=Jm (s.length+1) s 0 (by omega);have Af:=Q7 _ rfl s hs (s.length+1) (El (s.length+1) s 0) [];have FB:AW CC 61 1 [(0,.agg [.int .i64 0,.str [],.int .i64 (s.length:Int)])]=some (.osl 59 (A2 [(0,[],s.length)])):=ee (0,[],s.length);have Ek:=nB (0,[],s.length);have hb:=ZN (s.length:Int);have cast0:((0:Nat):Int)=0:=rfl;rw [cast0] at bj;unfold Bd;by_cases c1:20000 < s.length
 · rw [if_pos c1]
   have c1':(s.length:Int) > 20000:=by omega
   rw [<- Am];simp only [Aa,Ac,ze,yW];simp only [S8,Ag,seval,hlen,c1'];exact ⟨_,rfl⟩
 · rw [if_neg c1]
   have c1':¬ (s.length:Int) > 20000:=by omega
   have Gk:=fun e bx=>Af e bx (by omega) Mg.2 (by simp);have Jd:∀ acc,A2 (acc++[(0,[],s.length)])=A2 acc++A2 [(0,[],s.length)]:=fun acc=>by simp only [A2,zB]
   have EL:∀ acc,acc.length<=4000->(A2 acc).length+(A2 [(0,[],s.length)]).length<=1000000:=fun acc h=>by unfold A2;rw [zC];simp;omega
   generalize Kz (s.length+1) s (El (s.length+1) s 0) []=v at *;generalize El (s.length+1) s 0=k' at *;generalize A2 [(0,[],s.length)]=ys at *;rw [<- Am];rw [<- AK] at bj;rw [<- Am] at Gk;simp only [Aa,Ac,ze,yW] at Gk |-;simp only [S8,Ag,seval,hlen,c1',bj];generalize hE:GZ _ _=r;have hP:vS s v r:=hE ▸ Gk _ _ (by simp only [S7,Ag,seval]) (by simp only [S7,Ag,seval] <;> rfl) (by simp only [S7,Ag,seval]);obtain ⟨e',bx',⟨g1,g2,acc,g3,g4,g5,g6⟩ | ⟨g1,g2,g3,g4,g5⟩⟩:=hP
   · subst g1
     have hc:=EL acc g3;rw [g4,Jd,g2];simp only [S8,Ag,seval,g5,g6,hlen,hb,FB,nA,Ek,hc];exact ⟨_,rfl⟩
   · subst g1
     rw [g2];simp only [S8,Ag,seval,g3,g4,g5];exact ⟨_,rfl⟩
theorem Xy:Bk CC zx (zx.body.getD .skip)=true:=by kernel_rfl
theorem U':CC.P.funcs[66]?=some zx:=by kernel_rfl
theorem Xz:Bk CC zw (zw.body.getD .skip)=true:=by kernel_rfl
theorem Va:CC.P.funcs[67]?=some zw:=by kernel_rfl
theorem Tf (s:List UInt8) (i:Nat):Ae CC 66 [.str s,.int .i64 (i:Int)] []=some (.ret (.bool (dg (AZ s i))),[]):=by
 rw [Ah (fn:=zx) (c:=zx.body.getD .skip) rfl rfl U' rfl Xy (yX rfl)];have hlen:=AX s;by_cases c1:i < s.length
 · have c1':(i:Int) < (s.length:Int):=by omega
   have hx:s[i]?=some s[i]:=by simp
   have Dc:=FE s i _ hx;rw [Fc hx];generalize (s[i]).toNat=c at *;have hd:(decide ((c:Int) ≥ 48))=decide (48<=c):=by rw [decide_eq_decide];omega
   have HN:(decide ((c:Int)<=57))=decide (c<=57):=by rw [decide_eq_decide];omega
   unfold dg;by_cases c2:(c:Int) ≥ 48
   · rw [<- hd,<- HN,decide_eq_true c2]
     rw [<- Am];simp only [Aa,Ac,zx,yW];simp only [S8,Ag,seval,hlen,c1',Dc,c2]
   · rw [<- hd,<- HN,decide_eq_false c2]
     rw [<- Am];simp only [Aa,Ac,zx,yW];simp only [S8,Ag,seval,hlen,c1',Dc,c2,zE]
 · have c1':¬ (i:Int) < (s.length:Int):=by omega
   have h0:dg (AZ s i)=false:=by unfold AZ;rw [y2 (by omega)];rfl
   rw [h0];rw [<- Am];simp only [Aa,Ac,zx,yW];simp only [S8,Ag,seval,hlen,c1']
theorem Th (s:List UInt8) (i:Nat):Ae CC 67 [.str s,.int .i64 (i:Int)] []=some (.ret (.bool (sm (AZ s i))),[]):=by
 rw [Ah (fn:=zw) (c:=zw.body.getD .skip) rfl rfl Va rfl Xz (yX rfl)];have hlen:=AX s;by_cases c1:i < s.length
 · have c1':(i:Int) < (s.length:Int):=by omega
   have hx:s[i]?=some s[i]:=by simp
   have Dc:=FE s i _ hx;rw [Fc hx];generalize (s[i]).toNat=c at *;have hd:(decide ((c:Int) ≥ 97))=decide (97<=c):=by rw [decide_eq_decide];omega
   have HN:(decide ((c:Int)<=122))=decide (c<=122):=by rw [decide_eq_decide];omega
   unfold sm;by_cases c2:(c:Int) ≥ 97
   · rw [<- hd,<- HN,decide_eq_true c2]
     rw [<- Am];simp only [Aa,Ac,zw,yW];simp only [S8,Ag,seval,hlen,c1',Dc,c2]
   · rw [<- hd,<- HN,decide_eq_false c2]
     rw [<- Am];simp only [Aa,Ac,zw,yW];simp only [S8,Ag,seval,hlen,c1',Dc,c2,zE]
 · have c1':¬ (i:Int) < (s.length:Int):=by omega
   have h0:sm (AZ s i)=false:=by unfold AZ;rw [y2 (by omega)];rfl
   rw [h0];rw [<- Am];simp only [Aa,Ac,zw,yW];simp only [S8,Ag,seval,hlen,c1']
theorem Ff (s:List UInt8) (i:Nat) (bx):Ak CC (Ae CC) 66 [.str s,.int .i64 (i:Int)] bx=some (.ret (.bool (dg (AZ s i))),bx):=Ax rfl (by simp only [SA,y0]) (Tf s i) rfl
theorem JW (s:List UInt8) (i:Nat) (bx):Ak CC (Ae CC) 67 [.str s,.int .i64 (i:Int)] bx=some (.ret (.bool (sm (AZ s i))),bx):=Ax rfl (by simp only [SA,y0]) (Th s i) rfl
theorem ZO:Bk CC zm (zm.body.getD .skip)=true:=by kernel_rfl
theorem XA:CC.P.funcs[68]?=some zm:=by kernel_rfl
theorem Vc (L:Code) (hL:L=Aa zm [1,0,0]) (s:List UInt8) (hs:s.length<=900000):∀ (k i:Nat) (e:List PV),i+k=s.length->getT e 0=.str s->getT e 1=.int .i64 i ->
 ∃ e',Cp CC L ⟨e,[]⟩=some (.exit 0,⟨e',[]⟩)/\getT e' 1=.int .i64 (CV pt s i:Nat):=by
 intro k
 induction k with
 | zero=>
  intro i e hk h0 h1;rw [A0 (Aa zm [1,0,0,0]) hL];have hi:¬ (i:Int) < (s.length:Int):=by omega
  have hlen:=AX s;have hr:=Jl (p:=pt) (s:=s) (i:=i) (by omega);have hd:=Ff s i;have hm:=JW s i;have ha:AZ s i=0:=by unfold AZ;rw [y2 (by omega)]
  rw [ha] at hd hm;rw [show dg 0=false from rfl] at hd;rw [show sm 0=false from rfl] at hm;rw [<- Am];rw [<- AK] at hd hm;simp only [Aa,Ac,zm,yW];simp only [S8,Ag,seval,h0,h1,hlen,hi,hd,hm];exact ⟨_,rfl,by simp only [S7,Ag,seval,h1,hr]⟩
 | succ k ih=>
  intro i e hk h0 h1;rw [A0 (Aa zm [1,0,0,0]) hL];have hi:(i:Int) < (s.length:Int):=by omega
  have hlen:=AX s;have hx:s[i]?=some (s[i]'(by omega)):=by simp
  have Dc:=FE s i _ hx;have Fq:=HG (p:=pt) hx;have hd:=Ff s i;have hm:=JW s i;rw [Fc hx] at hd hm;have hw:=wrap_i64 (n:=(i:Int)+1) ⟨by omega,by omega⟩;generalize (s[i]'(by omega)).toNat=c at *;have e95:(((c:Nat):Int) == 95)=(c == 95):=by rw [y5];simp;omega
  have e45:(((c:Nat):Int) == 45)=(c == 45):=by rw [y5];simp;omega
  have cast1:((i+1:Nat):Int)=(i:Int)+1:=by omega
  have key:=fun e=>ih (i+1) e (by omega);rw [cast1] at key;rw [Fq];unfold pt;cases Ig:sm c <;> cases Ys:dg c <;> cases sa:(c == 95) <;> cases hs4:(c == 45)
  all_goals
   simp only [Ig,Ys,sa,hs4,Bool.or_true,Bool.or_false,zW,if_true,zO,if_false];rw [Ig] at hm;rw [Ys] at hd;rw [sa] at e95;rw [hs4] at e45;rw [<- Am];rw [<- AK] at hd hm;rw [<- Am] at key;simp only [Aa,Ac,zm,yW];simp only [S8,Ag,seval,h0,h1,hlen,hi,Dc,hd,hm,e95,e45,hw]
   first
    | exact ⟨_,rfl,by simp only [S7,Ag,seval,h1]⟩
    | (refine key _ ?_ ?_ <;> simp only [S7,Ag,seval,h0])
theorem ef:∀ l:List Tk,Aq (A2 l)=true
 | []=>rfl
 | t :: r=>by
  have h:=ef r;show ((ID t).pure && Aq (A2 r))=true;rw [h];rfl
theorem eg (l:List Tk) (a c:Int):(PV.tup [.sl (A2 l),.int .i64 a,.int .i64 c]).pure=true:=by
 simp only [SA,SE,ef,y0]
theorem Nr (s:List UInt8):∀ (m m' i:Nat),i<=s.length->s.length - i < m->s.length - i < m'->El m s i=El m' s i
 | 0,_,_,_,h,_=>by omega
 | m+1,0,_,_,_,h=>by omega
 | m+1,m'+1,i,hi,h,h'=>by
  unfold El;split
  · rename_i hl
    split
    · exact Nr s m m' (i+1) (by omega) (by omega) (by omega)
    · split
      · rename_i o8
        have hp:nl (AZ s i)=true:=by rw [o8.1];rfl
        have h1:=OA hl hp;have h2:=Fe (p:=nl) (s:=s) (i:=i) hi;exact Nr s m m' (CV nl s i) h2.2 (by omega) (by omega)
      · rfl
  · rfl
def sk (s:List UInt8) (i:Nat):Nat:=El (s.length+1) s i
theorem Jn {s:List UInt8} {i:Nat} (hi:i<=s.length):sk s i=if i < s.length then
 (if AZ s i=32\/AZ s i=9\/AZ s i=10 then sk s (i+1)
  else if AZ s i=35/\dg (AZ s (i+1))=false then sk s (CV nl s i) else i) else i:=by
 have h:sk s i=El (s.length+1+1) s i:=Nr s _ _ i hi (by omega) (by omega);rw [h];rfl
theorem Qu {s:List UInt8} {i:Nat} (hi:i<=s.length):i<=sk s i/\sk s i<=s.length:=Jm _ s i hi
theorem Ti (s:List UInt8):∀ (m m' i:Nat) (acc:List Tk),i<=s.length->s.length - i < m->s.length - i < m'->Kz m s i acc=Kz m' s i acc
 | 0,_,_,_,_,h,_=>by omega
 | m+1,0,_,_,_,_,h=>by omega
 | m+1,m'+1,i,acc,hi,h,h'=>by
  unfold Kz;split
  · rename_i hl
    split
    · rfl
    · cases ho:Hx s i with
      | inr c=>rfl
      | inl x=>
       obtain ⟨tk,k⟩:=x;have Yu:=Ma hl ho;have Mg:=Jm (s.length+1) s k Yu.2;exact Ti s m m' _ _ Mg.2 (by omega) (by omega)
  · rfl
def tk (s:List UInt8) (i:Nat) (acc:List Tk):List Tk×Nat×Int:=Kz (s.length+1) s i acc
theorem ZP {s:List UInt8} {i:Nat} (acc:List Tk) (hi:i<=s.length):tk s i acc=if i < s.length then
 (if acc.length=4000 then ([],i,3) else match Hx s i with
  | .inr c=>([],i,c)
  | .inl (t,k)=>tk s (sk s k) (acc++[t]))
 else (acc++[(0,[],s.length)],0,0):=by
 have h:tk s i acc=Kz (s.length+1+1) s i acc:=Ti s _ _ i acc hi (by omega) (by omega);rw [h];rfl
theorem RC {p:Nat->Bool} {s:List UInt8} {i:Nat} (h:i < s.length):CV p s i=if p (AZ s i) then CV p s (i+1) else i:=by
 have hx:s[i]?=some s[i]:=by simp
 rw [HG hx,Fc hx]
def YB (s:List UInt8) (i:Nat) (cm:Bool):Nat:=if cm then sk s (CV nl s i) else sk s i
theorem nC {s:List UInt8} (cm:Bool):YB s s.length cm=s.length:=by
 unfold YB;cases cm
 · rw [if_neg (by simp),Jn (y6 _),if_neg (by omega)]
 · rw [if_pos rfl,Jl (y6 _),Jn (y6 _),if_neg (by omega)]
theorem qz {s:List UInt8} {i:Nat} (cm:Bool) (h:i < s.length) (c:AZ s i=10):YB s i cm=YB s (i+1) false:=by
 have h1:sk s i=sk s (i+1):=by rw [Jn (by omega),if_pos h,if_pos (by omega)]
 unfold YB;rw [if_neg (by simp:¬ (false=true))];cases cm
 · rw [if_neg (by simp),h1]
 · rw [if_pos rfl,RC h,c,if_neg (by decide),h1]
theorem tN {s:List UInt8} {i:Nat} (h:i < s.length) (c:AZ s i≠10):YB s i true=YB s (i+1) true:=by
 unfold YB;rw [if_pos rfl,if_pos rfl,RC h,if_pos (by unfold nl;simpa using c)]
theorem kc {s:List UInt8} {i:Nat} (h:i < s.length) (c:AZ s i=35) (d:dg (AZ s (i+1))=false):YB s i false=YB s (i+1) true:=by
 unfold YB;rw [if_pos rfl,if_neg (by simp),Jn (by omega),if_pos h,if_neg (by omega),if_pos ⟨c,d⟩,RC h,if_pos (by rw [c] <;> rfl)]
theorem kd {s:List UInt8} {i:Nat} (h:i < s.length) (c:AZ s i=32\/AZ s i=9):YB s i false=YB s (i+1) false:=by
 unfold YB;rw [if_neg (by simp),if_neg (by simp),Jn (by omega),if_pos h,if_pos (by omega)]
theorem ZQ {s:List UInt8} {i:Nat} (h:i < s.length) (c1:AZ s i≠32) (c2:AZ s i≠9) (c3:AZ s i≠10) (d:¬ (AZ s i=35/\dg (AZ s (i+1))=false)):YB s i false=i:=by
 unfold YB;rw [if_neg (by simp),Jn (by omega),if_pos h,if_neg (by omega),if_neg d]
theorem PE (s:List UInt8):∀ (m m' i:Nat),s.length - i < m->s.length - i < m'->PD m s i=PD m' s i
 | 0,_,_,h,_=>by omega
 | m+1,0,_,_,h=>by omega
 | m+1,m'+1,i,h,h'=>by
  unfold PD;split
  · split
    · exact PE s m m' (i+2) (by omega) (by omega)
    · exact PE s m m' (i+1) (by omega) (by omega)
  · rfl
def eQ (s:List UInt8) (i:Nat):Nat:=PD (s.length+1) s i
theorem tO {s:List UInt8} {i:Nat}:eQ s i=if i < s.length/\AZ s i≠34 then eQ s (if AZ s i=92 then i+2 else i+1) else i:=by
 have h:eQ s i=PD (s.length+1+1) s i:=PE s _ _ i (by omega) (by omega);rw [h];rfl
theorem Vd:Bk CC y9 (y9.body.getD .skip)=true:=by kernel_rfl
theorem Tj:CC.P.funcs[69]?=some y9:=by kernel_rfl
theorem Ve:Bk CC zi (zi.body.getD .skip)=true:=by kernel_rfl
theorem Tl:CC.P.funcs[70]?=some zi:=by kernel_rfl
theorem Ns (s:List UInt8) (i:Nat) (h:i < s.length):EK CC 9 (.str s) (.int .i64 (i:Int))=some (.int .u8 ((AZ s i:Nat):Int)):=by
 have hx:s[i]?=some s[i]:=by simp
 rw [Fc hx];exact FE s i _ hx
theorem Vf (s:List UInt8) (hs:s.length<=900000) (i:Nat) (hi:i<=s.length):Ae CC 68 [.str s,.int .i64 (i:Int)] []=some (.ret (.int .i64 (CV pt s i:Nat)),[]):=by
 rw [Ah (fn:=zm) (c:=zm.body.getD .skip) rfl rfl XA rfl ZO (yX rfl)];have Af:=Vc _ rfl s hs (s.length - i) i;rw [<- Am];rw [<- Am] at Af;simp only [Aa,Ac,zm,yW] at Af |-;simp only [S8,Ag,seval];generalize hE:GZ _ _=r;obtain ⟨e',he,g1⟩:=Ji hE (Af _ (by omega) (by simp only [S7,Ag,seval]) (by simp only [S7,Ag,seval]));subst he;simp only [S8,Ag,seval,g1]
theorem ZS (s:List UInt8) (hs:s.length<=900000) (i:Nat) (hi:i<=s.length) (bx):Ak CC (Ae CC) 68 [.str s,.int .i64 (i:Int)] bx=some (.ret (.int .i64 (CV pt s i:Nat)),bx):=Ax rfl (by simp only [SA,y0]) (Vf s hs i hi) rfl
def Vg (s:List UInt8) (i n:Nat) (ok:Bool):Bool:=ok && (KF ((s.drop i).takeWhile fun c=>dg c.toNat) n).isSome
theorem Q9 (L:Code) (hL:L=Aa y9 [1,1,1,0,0]) (s:List UInt8) (hs:s.length<=900000):∀ (k i n:Nat) (ok:Bool) (e:List PV),i+k=s.length->(ok=true->n<=1099511627776)->getT e 0=.str s->getT e 1=.int .i64 i->getT e 6=.int .i64 n->getT e 7=.bool ok ->
 ∃ e',Cp CC L ⟨e,[]⟩=some (.exit 0,⟨e',[]⟩)/\getT e' 1=.int .i64 (CV dg s i:Nat)/\getT e' 7=.bool (Vg s i n ok):=by
 intro k
 induction k with
 | zero=>
  intro i n ok e hk hn h0 h1 h6 h7;rw [A0 (Aa y9 [1,1,1,0,0,0]) hL];have hr:=Jl (p:=dg) (s:=s) (i:=i) (by omega);have hd:=Ff s i;have ha:AZ s i=0:=by unfold AZ;rw [y2 (by omega)]
  rw [ha,show dg 0=false from rfl] at hd
  have hB:Vg s i n ok=ok:=by
   unfold Vg;rw [zA (by omega)];simp [KF]
  rw [<- Am];rw [<- AK] at hd;simp only [Aa,Ac,y9,yW];simp only [S8,Ag,seval,h0,h1,h6,h7,hd];exact ⟨_,rfl,by simp only [S7,Ag,seval,h1,hr],by simp only [S7,Ag,seval,h7,hB]⟩
 | succ k ih=>
  intro i n ok e hk hn h0 h1 h6 h7;rw [A0 (Aa y9 [1,1,1,0,0,0]) hL];have hd:=Ff s i;have Dc:=Ns s i (by omega);have Uf:=DI s i;have Fq:=RC (p:=dg) (s:=s) (i:=i) (by omega);have hx:s[i]?=some (s[i]'(by omega)):=by simp
  have wm:=Fc hx;have KE:s.drop i=(s[i]'(by omega)) :: s.drop (i+1):=y4 (by omega);generalize s[i]'(by omega)=c at *
  have hB:Vg s i n ok=(ok && (KF (if dg (AZ s i) then c :: (s.drop (i+1)).takeWhile (fun c=>dg c.toNat) else []) n).isSome):=by
   unfold Vg;rw [KE,zr,wm]
  have hw:=wrap_i64 (n:=(i:Int)+1) ⟨by omega,by omega⟩;have cast1:((i+1:Nat):Int)=(i:Int)+1:=by omega
  rw [Fq,hB];cases Hd:dg (AZ s i) with
  | false=>
   rw [Hd] at hd;simp only [zO,if_false,KF,zN,y0];rw [<- Am];rw [<- AK] at hd;simp only [Aa,Ac,y9,yW];simp only [S8,Ag,seval,h0,h1,h6,h7,hd];exact ⟨_,rfl,by simp only [S7,Ag,seval,h1],by simp only [S7,Ag,seval,h7]⟩
  | true=>
   rw [Hd] at hd;have hrange:48<=AZ s i/\AZ s i<=57:=by simpa [dg] using Hd
   simp only [if_true];cases ok with
   | false=>
    have key:=fun e=>ih (i+1) n false e (by omega) (fun h=>by cases h);rw [cast1] at key;unfold Vg at key;simp only [zE] at key |-;rw [<- Am];rw [<- AK] at hd;rw [<- Am] at key;simp only [Aa,Ac,y9,yW];simp only [S8,Ag,seval,h0,h1,h6,h7,hd,hw];exact key _ (by simp only [S7,Ag,seval,h0]) (by simp only [S7,Ag,seval]) (by simp only [S7,Ag,seval,h6]) (by simp only [S7,Ag,seval,h7])
   | true=>
    have hn:=hn rfl;have v1:=wrap_i64 (n:=10 * (n:Int)) ⟨by omega,by omega⟩;have v2:zH .u8 (((AZ s i:Nat):Int) - 48)=((AZ s i:Nat):Int) - 48:=by simp [zH,zS,zP];omega
    have YH:=L9 (((AZ s i:Nat):Int) - 48) ⟨by omega,by omega⟩;have v3:=wrap_i64 (n:=10 * (n:Int)+(((AZ s i:Nat):Int) - 48)) ⟨by omega,by omega⟩;have cast2:((10 * n+(AZ s i - 48):Nat):Int)=10 * (n:Int)+(((AZ s i:Nat):Int) - 48):=by omega
    have xX:KF (c :: (s.drop (i+1)).takeWhile (fun c=>dg c.toNat)) n=if 10 * n+(AZ s i - 48) > 1099511627776 then none else KF ((s.drop (i+1)).takeWhile (fun c=>dg c.toNat)) (10 * n+(AZ s i - 48)):=by rw [wm];rfl
    rw [xX];by_cases c1:10 * n+(AZ s i - 48) > 1099511627776
    · have c1':¬ (10 * (n:Int)+(((AZ s i:Nat):Int) - 48)<=1099511627776):=by omega
      rw [if_pos c1];have key:=fun e=>ih (i+1) (10 * n+(AZ s i - 48)) false e (by omega) (fun h=>by cases h);rw [cast1,cast2] at key;unfold Vg at key;simp only [zE] at key;have hz:(true && (none:Option Nat).isSome)=false:=rfl;rw [hz];rw [<- Am];rw [<- AK] at hd;rw [<- Am] at key;simp only [Aa,Ac,y9,yW];simp only [S8,Ag,seval,h0,h1,h6,h7,hd,hw,Dc,v1,v2,v3,YH,c1'];exact key _ (by simp only [S7,Ag,seval,h0]) (by simp only [S7,Ag,seval]) (by simp only [S7,Ag,seval]) (by simp only [S7,Ag,seval])
    · have c1':(10 * (n:Int)+(((AZ s i:Nat):Int) - 48)<=1099511627776):=by omega
      rw [if_neg c1];have key:=fun e=>ih (i+1) (10 * n+(AZ s i - 48)) true e (by omega) (fun _=>by omega);rw [cast1,cast2] at key;unfold Vg at key;rw [<- Am];rw [<- AK] at hd;rw [<- Am] at key;simp only [Aa,Ac,y9,yW];simp only [S8,Ag,seval,h0,h1,h6,h7,hd,hw,Dc,v1,v2,v3,YH,c1'];exact key _ (by simp only [S7,Ag,seval,h0]) (by simp only [S7,Ag,seval]) (by simp only [S7,Ag,seval]) (by simp only [S7,Ag,seval])
theorem eh {α:Type} (p:α->Bool):∀ x:List α,x.take (x.takeWhile p).length=x.takeWhile p
 | []=>rfl
 | c :: x=>by
  rw [zr];split
  · rw [zy,zG,eh p x]
  · rfl
theorem nD (s:List UInt8) (i:Nat):Vg s i 0 true=(JV s i).isSome:=by
 unfold Vg JV CV;rw [zL,eh];cases KF ((s.drop i).takeWhile fun c=>dg c.toNat) 0 <;> rfl
theorem Q' (s:List UInt8) (hs:s.length<=900000) (i:Nat) (hi:i<=s.length):Ae CC 69 [.str s,.int .i64 (i:Int)] []=some (.ret (.tup [.int .i64 (CV dg s i:Nat),.bool (JV s i).isSome]),[]):=by
 rw [Ah (fn:=y9) (c:=y9.body.getD .skip) rfl rfl Tj rfl Vd (yX rfl)];have Af:=fun e=>Q9 _ rfl s hs (s.length - i) i 0 true e (by omega) (fun _=>by omega);rw [nD] at Af;rw [<- Am];rw [<- Am] at Af;simp only [Aa,Ac,y9,yW] at Af |-;simp only [S8,Ag,seval];generalize hE:GZ _ _=r;obtain ⟨e',he,g1,g7⟩:=Ji hE (Af _ (by simp only [S7,Ag,seval]) (by simp only [S7,Ag,seval]) (by simp only [S7,Ag,seval] <;> rfl) (by simp only [S7,Ag,seval]));subst he;simp only [S8,Ag,seval,g1,g7]
theorem Vh (s:List UInt8) (hs:s.length<=900000) (i:Nat) (hi:i<=s.length) (bx):Ak CC (Ae CC) 69 [.str s,.int .i64 (i:Int)] bx=some (.ret (.tup [.int .i64 (CV dg s i:Nat),.bool (JV s i).isSome]),bx):=Ax rfl (by simp only [SA,y0]) (Q' s hs i hi) rfl
def tP (s:List UInt8) (v:Nat) (r:Option (Ex×St)):Prop:=∃ e',(r=some (.exit 0,⟨e',[]⟩)/\s.length<=v)\/(r=some (.ret,⟨e',[]⟩)/\v < s.length/\getT e' 4=.int .i64 ((v+1:Nat):Int))
theorem Ra (L:Code) (hL:L=Aa zi [1,1,0,0]) (s:List UInt8) (hs:s.length<=900000):∀ (m i:Nat) (e:List PV),s.length - i < m->i<=s.length+1->getT e 0=.str s->getT e 1=.int .i64 i ->
 tP s (eQ s i) (Cp CC L ⟨e,[]⟩):=by
 intro m
 induction m with
 | zero=>intro i e hm;omega
 | succ m ih=>
  intro i e hm hi h0 h1;rw [A0 (Aa zi [1,1,0,0,0]) hL,tO];have hlen:=AX s;have w1:=wrap_i64 (n:=(i:Int)+1) ⟨by omega,by omega⟩;have w2:=wrap_i64 (n:=(i:Int)+1+1) ⟨by omega,by omega⟩;have k1:=fun e=>ih (i+1) e;have k2:=fun e=>ih (i+2) e;by_cases Bq:i < s.length
  · have D5:(i:Int) < (s.length:Int):=by omega
    have Dc:=Ns s i Bq;by_cases c1:AZ s i=34
    · have c1':(((AZ s i:Nat):Int) == 34)=true:=by rw [c1];rfl
      rw [if_neg (fun h=>h.2 c1)];rw [<- Am];simp only [Aa,Ac,zi,yW];simp only [S8,Ag,seval,h0,h1,hlen,D5,Dc,c1',w1];exact ⟨_,Or.inr ⟨rfl,Bq,by simp only [S7,Ag,seval];rfl⟩⟩
    · have c1':(((AZ s i:Nat):Int) == 34)=false:=by simp;omega
      rw [if_pos ⟨Bq,c1⟩];by_cases c2:AZ s i=92
      · have c2':(((AZ s i:Nat):Int) == 92)=true:=by rw [c2];rfl
        rw [if_pos c2];have k2:=fun e=>k2 e (by omega) (by omega);have cast2:((i+2:Nat):Int)=(i:Int)+1+1:=by omega
        rw [cast2] at k2;rw [<- Am];rw [<- Am] at k2;simp only [Aa,Ac,zi,yW];simp only [S8,Ag,seval,h0,h1,hlen,D5,Dc,c1',c2',w1,w2];exact k2 _ (by simp only [S7,Ag,seval,h0]) (by simp only [S7,Ag,seval])
      · have c2':(((AZ s i:Nat):Int) == 92)=false:=by simp;omega
        rw [if_neg c2];have k1:=fun e=>k1 e (by omega) (by omega);have cast1:((i+1:Nat):Int)=(i:Int)+1:=by omega
        rw [cast1] at k1;rw [<- Am];rw [<- Am] at k1;simp only [Aa,Ac,zi,yW];simp only [S8,Ag,seval,h0,h1,hlen,D5,Dc,c1',c2',w1];exact k1 _ (by simp only [S7,Ag,seval,h0]) (by simp only [S7,Ag,seval])
  · have D5:¬ (i:Int) < (s.length:Int):=by omega
    rw [if_neg (fun h=>Bq h.1)];rw [<- Am];simp only [Aa,Ac,zi,yW];simp only [S8,Ag,seval,h0,h1,hlen,D5];exact ⟨_,Or.inl ⟨rfl,by omega⟩⟩
def nE (s:List UInt8) (i:Nat):Int:=if eQ s (i+1) < s.length then (eQ s (i+1):Int)+1 else -1
theorem Rb (s:List UInt8) (hs:s.length<=900000) (i:Nat) (hi:i<=s.length):Ae CC 70 [.str s,.int .i64 (i:Int)] []=some (.ret (.int .i64 (nE s i)),[]):=by
 rw [Ah (fn:=zi) (c:=zi.body.getD .skip) rfl rfl Tl rfl Ve (yX rfl)];have w1:=wrap_i64 (n:=(i:Int)+1) ⟨by omega,by omega⟩;have Af:=fun e=>Ra _ rfl s hs (s.length+1) (i+1) e (by omega) (by omega);have cast1:((i+1:Nat):Int)=(i:Int)+1:=by omega
 rw [cast1] at Af;unfold nE;generalize eQ s (i+1)=v at *;rw [<- Am];rw [<- Am] at Af;simp only [Aa,Ac,zi,yW] at Af |-;simp only [S8,Ag,seval,w1];generalize hE:GZ _ _=r
 have hP:tP s v r:=by
  rw [<- hE];exact Af _ (by simp only [S7,Ag,seval]) (by simp only [S7,Ag,seval])
 obtain ⟨e',⟨he,g1⟩ | ⟨he,g1,g4⟩⟩:=hP
 · subst he
   rw [if_neg (by omega)];simp only [S8,Ag,seval]
 · subst he
   rw [if_pos g1];have cv:((v+1:Nat):Int)=(v:Int)+1:=by omega
   rw [cv] at g4;simp only [S8,Ag,seval,g4]
theorem Vi (s:List UInt8) (hs:s.length<=900000) (i:Nat) (hi:i<=s.length) (bx):Ak CC (Ae CC) 70 [.str s,.int .i64 (i:Int)] bx=some (.ret (.int .i64 (nE s i)),bx):=Ax rfl (by simp only [SA,y0]) (Rb s hs i hi) rfl
theorem Rc:Bk CC y7 (y7.body.getD .skip)=true:=by kernel_rfl
theorem PF:CC.P.funcs[72]?=some y7:=by kernel_rfl
theorem ZT:Bk CC y3 (y3.body.getD .skip)=true:=by kernel_rfl
theorem XB:CC.P.funcs[43]?=some y3:=by kernel_rfl
theorem Vj:Bk CC y' (y'.body.getD .skip)=true:=by kernel_rfl
theorem Tm:CC.P.funcs[104]?=some y':=by kernel_rfl
def opsL:List UInt8:=[35,43,45,42,40,41,123,125,91,93,44,59,58,46,60,62,61]
theorem nF:∀ n:_root_.Fin 256,ed n.val=opsL.any (fun b=>b.toNat == n.val):=by decide +kernel
def yv (v:Bool) (r:Option (Ex×St)):Prop:=∃ e',(v=true/\r=some (.ret,⟨e',[]⟩)/\getT e' 2=.bool true)\/(v=false/\r=some (.exit 0,⟨e',[]⟩))
theorem Rd (L:Code) (hL:L=Aa y' [1,1,0,1,0]) (n:Nat):∀ (k i:Nat) (e:List PV),i+k=opsL.length->getT e 0=.int .u8 (n:Int)->getT e 3=.str opsL->getT e 4=.int .i64 i ->
 yv ((opsL.drop i).any (fun b=>b.toNat == n)) (Cp CC L ⟨e,[]⟩):=by
 intro k
 induction k with
 | zero=>
  intro i e hk h0 h3 h4;rw [A0 (Aa y' [1,1,0,1,0,0]) hL];have hlen:=AX opsL;have D5:¬ ((i:Int) < (opsL.length:Int)):=by omega
  rw [zA (by omega)];generalize opsL=s at *;rw [<- Am];simp only [Aa,Ac,y',yW];simp only [S8,Ag,seval,h0,h3,h4,hlen,D5];exact ⟨_,.inr ⟨rfl,rfl⟩⟩
 | succ k ih=>
  intro i e hk h0 h3 h4;rw [A0 (Aa y' [1,1,0,1,0,0]) hL];have hlen:=AX opsL;have ir:opsL.length=17:=rfl;have D5:((i:Int) < (opsL.length:Int)):=by omega
  have Dc:=Ns opsL i (by omega);have w1:=wrap_i64 (n:=(i:Int)+1) ⟨by omega,by omega⟩;have cast1:((i+1:Nat):Int)=(i:Int)+1:=by omega
  have key:=fun e=>ih (i+1) e (by omega);rw [cast1] at key;have KE:opsL.drop i=(opsL[i]'(by omega)) :: opsL.drop (i+1):=y4 (by omega);have hx:opsL[i]?=some (opsL[i]'(by omega)):=by simp
  have wm:=Fc hx;generalize opsL[i]'(by omega)=c at *;rw [KE,List.any_cons,<- wm];generalize (opsL.drop (i+1)).any (fun b=>b.toNat == n)=v at *;generalize opsL=s at *;by_cases c1:AZ s i=n
  · have c1':(((AZ s i:Nat):Int) == (n:Int))=true:=by rw [c1];simp
    have c1'':(AZ s i == n)=true:=by rw [c1];simp
    rw [c1'',zW];rw [<- Am];simp only [Aa,Ac,y',yW];simp only [S8,Ag,seval,h0,h3,h4,hlen,D5,Dc,c1'];exact ⟨_,.inl ⟨rfl,rfl,by simp only [S7,Ag,seval]⟩⟩
  · have c1':(((AZ s i:Nat):Int) == (n:Int))=false:=by rw [beq_eq_false_iff_ne];omega
    have c1'':(AZ s i == n)=false:=by rw [beq_eq_false_iff_ne];exact c1
    rw [c1'',Bool.false_or];rw [<- Am];rw [<- Am] at key;simp only [Aa,Ac,y',yW];simp only [S8,Ag,seval,h0,h3,h4,hlen,D5,Dc,c1',w1];exact key _ (by simp only [S7,Ag,seval,h0]) (by simp only [S7,Ag,seval,h3]) (by simp only [S7,Ag,seval])
theorem Re (n:Nat) (hn:n < 256):Ae CC 104 [.int .u8 (n:Int)] []=some (.ret (.bool (ed n)),[]):=by
 rw [Ah (fn:=y') (c:=y'.body.getD .skip) rfl rfl Tm rfl Vj (yX rfl)];have Af:=fun e=>Rd _ rfl n 17 0 e rfl;rw [nF ⟨n,hn⟩];simp only;rw [List.drop_zero] at Af;generalize opsL.any (fun b=>b.toNat == n)=v at *;rw [<- Am];rw [<- Am] at Af;simp only [Aa,Ac,y',yW] at Af |-;simp only [S8,Ag,seval];generalize hE:GZ _ _=r
 have hP:yv v r:=by
  rw [<- hE];exact Af _ (by simp only [S7,Ag,seval]) (by simp only [S7,Ag,seval] <;> rfl) (by simp only [S7,Ag,seval] <;> rfl)
 obtain ⟨e',⟨hv,he,g2⟩ | ⟨hv,he⟩⟩:=hP
 · subst he
   subst hv;simp only [S8,Ag,seval,g2]
 · subst he
   subst hv;simp only [S8,Ag,seval]
theorem Vk (n:Nat) (hn:n < 256) (bx):Ak CC (Ae CC) 104 [.int .u8 (n:Int)] bx=some (.ret (.bool (ed n)),bx):=Ax rfl (by simp only [SA,y0]) (Re n hn) rfl
theorem nG:∀ n:_root_.Fin 256,sH n.val=(n.val == 61 || n.val == 33 || n.val == 60 || n.val == 62):=by decide +kernel
theorem OB (s:List UInt8) (hs:s.length<=900000) (i:Nat) (hi:i < s.length):Ae CC 72 [.str s,.int .i64 (i:Int)] []=some (.ret (.int .i64 ((Ds s i:Nat):Int)),[]):=by
 rw [Ah (fn:=y7) (c:=y7.body.getD .skip) rfl rfl PF rfl Rc (yX rfl)];have hlen:=AX s;have Dc:=Ns s i hi;have Uf:=DI s i;have w1:=wrap_i64 (n:=(i:Int)+1) ⟨by omega,by omega⟩;have cast1:((i+1:Nat):Int)=(i:Int)+1:=by omega
 have Ig:=Vk (AZ s i) Uf;have iV:=nG ⟨AZ s i,Uf⟩;simp only at iV;have fin:∀ b:Bool,Ds s i=(if b then 1 else 0)->True:=fun _ _=>trivial;by_cases d1:i+1 < s.length
 · have d1':(i:Int)+1 < (s.length:Int):=by omega
   have Ir:=Ns s (i+1) d1;rw [cast1] at Ir;unfold Ds;by_cases d2:AZ s (i+1)=61
   · have d2':(((AZ s (i+1):Nat):Int) == 61)=true:=by rw [d2];rfl
     by_cases e1:AZ s i=61
     · have e1':(((AZ s i:Nat):Int) == 61)=true:=by rw [e1];rfl
       rw [if_pos ⟨d2,by rw [iV,e1];rfl⟩];generalize ed (AZ s i)=b1 at *;rw [<- Am];rw [<- AK] at Ig;simp only [Aa,Ac,y7,yW];simp only [S8,Ag,seval,hlen,Dc,Ig,w1,d1',Ir,d2',e1']
       try rfl
     · have e1':(((AZ s i:Nat):Int) == 61)=false:=by simp;omega
       by_cases e2:AZ s i=33
       · have e2':(((AZ s i:Nat):Int) == 33)=true:=by rw [e2];rfl
         rw [if_pos ⟨d2,by rw [iV,e2];rfl⟩];generalize ed (AZ s i)=b1 at *;rw [<- Am];rw [<- AK] at Ig;simp only [Aa,Ac,y7,yW];simp only [S8,Ag,seval,hlen,Dc,Ig,w1,d1',Ir,d2',e1',e2']
         try rfl
       · have e2':(((AZ s i:Nat):Int) == 33)=false:=by simp;omega
         by_cases e3:AZ s i=60
         · have e3':(((AZ s i:Nat):Int) == 60)=true:=by rw [e3];rfl
           rw [if_pos ⟨d2,by rw [iV,e3];rfl⟩];generalize ed (AZ s i)=b1 at *;rw [<- Am];rw [<- AK] at Ig;simp only [Aa,Ac,y7,yW];simp only [S8,Ag,seval,hlen,Dc,Ig,w1,d1',Ir,d2',e1',e2',e3']
           try rfl
         · have e3':(((AZ s i:Nat):Int) == 60)=false:=by simp;omega
           by_cases e4:AZ s i=62
           · have e4':(((AZ s i:Nat):Int) == 62)=true:=by rw [e4];rfl
             rw [if_pos ⟨d2,by rw [iV,e4];rfl⟩];generalize ed (AZ s i)=b1 at *;rw [<- Am];rw [<- AK] at Ig;simp only [Aa,Ac,y7,yW];simp only [S8,Ag,seval,hlen,Dc,Ig,w1,d1',Ir,d2',e1',e2',e3',e4']
             try rfl
           · have e4':(((AZ s i:Nat):Int) == 62)=false:=by simp;omega
             have hof:sH (AZ s i)=false:=by rw [iV];simp [e1,e2,e3,e4]
             rw [if_neg (fun h=>by rw [hof] at h;cases h.2)];cases hb:ed (AZ s i) with
             | true=>
              rw [hb] at Ig;rw [if_pos rfl];rw [<- Am];rw [<- AK] at Ig;simp only [Aa,Ac,y7,yW];simp only [S8,Ag,seval,hlen,Dc,Ig,w1,d1',Ir,d2',e1',e2',e3',e4']
              try rfl
             | false=>
              rw [hb] at Ig;rw [if_neg (by simp)];rw [<- Am];rw [<- AK] at Ig;simp only [Aa,Ac,y7,yW];simp only [S8,Ag,seval,hlen,Dc,Ig,w1,d1',Ir,d2',e1',e2',e3',e4']
              try rfl
   · have d2':(((AZ s (i+1):Nat):Int) == 61)=false:=by simp;omega
     rw [if_neg (fun h=>d2 h.1)];cases hb:ed (AZ s i) with
     | true=>
      rw [hb] at Ig;rw [if_pos rfl];rw [<- Am];rw [<- AK] at Ig;simp only [Aa,Ac,y7,yW];simp only [S8,Ag,seval,hlen,Dc,Ig,w1,d1',Ir,d2']
      try rfl
     | false=>
      rw [hb] at Ig;rw [if_neg (by simp)];rw [<- Am];rw [<- AK] at Ig;simp only [Aa,Ac,y7,yW];simp only [S8,Ag,seval,hlen,Dc,Ig,w1,d1',Ir,d2']
      try rfl
 · have d1':¬ (i:Int)+1 < (s.length:Int):=by omega
   have h0:AZ s (i+1)=0:=by unfold AZ;rw [y2 (by omega)]
   unfold Ds;rw [if_neg (fun h=>by rw [h0] at h;cases h.1)];cases hb:ed (AZ s i) with
   | true=>
    rw [hb] at Ig;rw [if_pos rfl];rw [<- Am];rw [<- AK] at Ig;simp only [Aa,Ac,y7,yW];simp only [S8,Ag,seval,hlen,Dc,Ig,w1,d1']
    try rfl
   | false=>
    rw [hb] at Ig;rw [if_neg (by simp)];rw [<- Am];rw [<- AK] at Ig;simp only [Aa,Ac,y7,yW];simp only [S8,Ag,seval,hlen,Dc,Ig,w1,d1']
    try rfl
theorem Rf (s:List UInt8) (hs:s.length<=900000) (i:Nat) (hi:i < s.length) (bx):Ak CC (Ae CC) 72 [.str s,.int .i64 (i:Int)] bx=some (.ret (.int .i64 ((Ds s i:Nat):Int)),bx):=Ax rfl (by simp only [SA,y0]) (OB s hs i hi) rfl
theorem Vm (L:Code) (hL:L=Aa y3 [1,1,0,0]) (s:List UInt8) (hs:s.length<=900000):∀ (k i:Nat) (cm:Bool) (e:List PV),i+k=s.length->getT e 0=.str s->getT e 1=.int .i64 i->getT e 5=.bool cm ->
 vR (YB s i cm) (Cp CC L ⟨e,[]⟩):=by
 intro k
 induction k with
 | zero=>
  intro i cm e hk h0 h1 h5;rw [A0 (Aa y3 [1,1,0,0,0]) hL];have hlen:=AX s;have hi:i=s.length:=by omega
  subst hi;have D5:¬ ((s.length:Int) < (s.length:Int)):=by omega
  rw [nC];rw [<- Am];simp only [Aa,Ac,y3,yW];simp only [S8,Ag,seval,h0,h1,hlen,D5];exact ⟨_,.inl ⟨rfl,by simp only [S7,Ag,seval,h1]⟩⟩
 | succ k ih=>
  intro i cm e hk h0 h1 h5;rw [A0 (Aa y3 [1,1,0,0,0]) hL];have hlen:=AX s;have Bq:i < s.length:=by omega
  have D5:((i:Int) < (s.length:Int)):=by omega
  have Dc:=Ns s i Bq;have w1:=wrap_i64 (n:=(i:Int)+1) ⟨by omega,by omega⟩;have cast1:((i+1:Nat):Int)=(i:Int)+1:=by omega
  have hd:=Ff s (i+1);rw [cast1] at hd;have key:=fun cm e=>ih (i+1) cm e (by omega);rw [cast1] at key;by_cases c10:AZ s i=10
  · have c10':(((AZ s i:Nat):Int) == 10)=true:=by rw [c10];rfl
    rw [qz cm Bq c10];have key:=key false;rw [<- Am];rw [<- Am] at key;simp only [Aa,Ac,y3,yW];simp only [S8,Ag,seval,N8,h0,h1,h5,hlen,D5,Dc,w1,c10'];exact key _ (by simp only [S7,Ag,seval,h0]) (by simp only [S7,Ag,seval]) (by simp only [S7,Ag,seval,h5])
  · have c10':(((AZ s i:Nat):Int) == 10)=false:=by simp;omega
    cases cm with
    | true=>
     rw [tN Bq c10];have key:=key true;rw [<- Am];rw [<- Am] at key;simp only [Aa,Ac,y3,yW];simp only [S8,Ag,seval,N8,h0,h1,h5,hlen,D5,Dc,w1,c10'];exact key _ (by simp only [S7,Ag,seval,h0]) (by simp only [S7,Ag,seval]) (by simp only [S7,Ag,seval,h5])
    | false=>
     by_cases c35:AZ s i=35
     · have c35':(((AZ s i:Nat):Int) == 35)=true:=by rw [c35];rfl
       have c32':(((AZ s i:Nat):Int) != 32)=true:=by rw [c35];rfl
       have c9':(((AZ s i:Nat):Int) != 9)=true:=by rw [c35];rfl
       cases Hd:dg (AZ s (i+1)) with
       | false=>
        rw [Hd] at hd;rw [kc Bq c35 Hd];have key:=key true;rw [<- Am];rw [<- Am] at key;rw [<- AK] at hd;simp only [Aa,Ac,y3,yW];simp only [S8,Ag,seval,N8,h0,h1,h5,hlen,D5,Dc,w1,c10',c35',hd];exact key _ (by simp only [S7,Ag,seval,h0]) (by simp only [S7,Ag,seval]) (by simp only [S7,Ag,seval,h5])
       | true=>
        rw [Hd] at hd;rw [ZQ Bq (by omega) (by omega) c10 (fun h=>by rw [Hd] at h;cases h.2)];rw [<- Am];rw [<- AK] at hd;simp only [Aa,Ac,y3,yW];simp only [S8,Ag,seval,N8,h0,h1,h5,hlen,D5,Dc,w1,c10',c35',hd,c32',c9'];exact ⟨_,.inr ⟨rfl,by simp only [S7,Ag,seval]⟩⟩
     · have c35':(((AZ s i:Nat):Int) == 35)=false:=by simp;omega
       by_cases c32:AZ s i=32
       · have c32':(((AZ s i:Nat):Int) != 32)=false:=by rw [c32];rfl
         rw [kd Bq (Or.inl c32)];have key:=key false;rw [<- Am];rw [<- Am] at key;simp only [Aa,Ac,y3,yW];simp only [S8,Ag,seval,N8,h0,h1,h5,hlen,D5,Dc,w1,c10',c35',c32'];exact key _ (by simp only [S7,Ag,seval,h0]) (by simp only [S7,Ag,seval]) (by simp only [S7,Ag,seval,h5])
       · have c32':(((AZ s i:Nat):Int) != 32)=true:=by simp;omega
         by_cases c9:AZ s i=9
         · have c9':(((AZ s i:Nat):Int) != 9)=false:=by rw [c9];rfl
           rw [kd Bq (Or.inr c9)];have key:=key false;rw [<- Am];rw [<- Am] at key;simp only [Aa,Ac,y3,yW];simp only [S8,Ag,seval,N8,h0,h1,h5,hlen,D5,Dc,w1,c10',c35',c32',c9'];exact key _ (by simp only [S7,Ag,seval,h0]) (by simp only [S7,Ag,seval]) (by simp only [S7,Ag,seval,h5])
         · have c9':(((AZ s i:Nat):Int) != 9)=true:=by simp;omega
           rw [ZQ Bq c32 c9 c10 (fun h=>c35 h.1)];rw [<- Am];simp only [Aa,Ac,y3,yW];simp only [S8,Ag,seval,N8,h0,h1,h5,hlen,D5,Dc,w1,c10',c35',c32',c9'];exact ⟨_,.inr ⟨rfl,by simp only [S7,Ag,seval]⟩⟩
theorem Vn (s:List UInt8) (hs:s.length<=900000) (i:Nat) (hi:i<=s.length):Ae CC 43 [.str s,.int .i64 (i:Int)] []=some (.ret (.int .i64 (sk s i:Nat)),[]):=by
 rw [Ah (fn:=y3) (c:=y3.body.getD .skip) rfl rfl XB rfl ZT (yX rfl)];have Af:=fun e=>Vm _ rfl s hs (s.length - i) i false e (by omega);have e0:YB s i false=sk s i:=rfl;rw [e0] at Af;generalize sk s i=v at *;rw [<- Am];rw [<- Am] at Af;simp only [Aa,Ac,y3,yW] at Af |-;simp only [S8,Ag,seval];generalize hE:GZ _ _=r
 have hP:vR v r:=by
  rw [<- hE];exact Af _ (by simp only [S7,Ag,seval]) (by simp only [S7,Ag,seval]) (by simp only [S7,Ag,seval])
 obtain ⟨e',⟨he,g1⟩ | ⟨he,g4⟩⟩:=hP
 · subst he
   simp only [S8,Ag,seval,g1]
 · subst he
   simp only [S8,Ag,seval,g4]
theorem Qv (s:List UInt8) (hs:s.length<=900000) (i:Nat) (hi:i<=s.length) (bx):Ak CC (Ae CC) 43 [.str s,.int .i64 (i:Int)] bx=some (.ret (.int .i64 (sk s i:Nat)),bx):=Ax rfl (by simp only [SA,y0]) (Vn s hs i hi) rfl
theorem ZU:Bk CC zd (zd.body.getD .skip)=true:=by kernel_rfl
theorem XC:CC.P.funcs[44]?=some zd:=by kernel_rfl
theorem G2 (a:Int) (b:List UInt8) (n:Int):Bp CC 59 [(0,.int .i64 a),(1,.str b),(2,.int .i64 n)]=some (.agg [.int .i64 a,.str b,.int .i64 n]):=by
 have h:=(by kernel_rfl:CC.P.underlying 59=some (.struct ((match zn.underlying 59 with | some (.struct f)=>f | _=>#[]))));have hz:tZero CC 59=some (.agg [.int .i64 0,.str [],.int .i64 0]):=by kernel_rfl
 have hp:((match zn.underlying 59 with | some (.struct f)=>f | _=>#[]):Array Field).toList.mapM (fun f=>(tSize CC f.type).map fun s=>(f.offset,s))=some [(0,1),(1,1),(2,1)]:=by kernel_rfl
 unfold Bp;rw [h,hz];simp only [hp];rfl
theorem G3:Bp CC 59 []=some (.agg [.int .i64 0,.str [],.int .i64 0]):=by kernel_rfl
def ei:Tk×Nat ⊕ Int->PV
 | .inl (t,k)=>.tup [ID t,.int .i64 (k:Int),.int .i64 0]
 | .inr c=>.tup [.agg [.int .i64 0,.str [],.int .i64 0],.int .i64 0,.int .i64 c]
theorem Vo (s:List UInt8) (hs:s.length<=40000) (i:Nat) (hi:i < s.length):∃ bx,Ae CC 44 [.str s,.int .i64 (i:Int)] []=some (.ret (ei (Hx s i)),bx):=by
 rw [Ah (fn:=zd) (c:=zd.body.getD .skip) rfl rfl XC rfl ZU (yX rfl)];have L0:=JW s i;have Hd:=Ff s i;have hwd:=ZS s (by omega) i (by omega);have JF:=Vh s (by omega) i (by omega);have Ug:=Vi s (by omega) i (by omega);have A1:=Rf s (by omega) i hi;have Dc:=Ns s i hi;have p3:=Fe (p:=pt) (s:=s) (i:=i) (by omega);have mi:=JS s i (CV pt s i) (by omega) (by omega) (by omega);rw [y1,y1] at mi;have xR:=Fe (p:=dg) (s:=s) (i:=i) (by omega);have iG:=JS s i (CV dg s i) (by omega) (by omega) (by omega);rw [y1,y1] at iG;have hol:=Tb hi;have iH:=JS s i ((i+Ds s i:Nat):Int) (by omega) (by omega) (by omega);rw [y1,y1] at iH;have wo:=wrap_i64 (n:=((i+Ds s i:Nat):Int)) ⟨by omega,by omega⟩;have casto:((i+Ds s i:Nat):Int)=(i:Int)+((Ds s i:Nat):Int):=by omega
 obtain ⟨tu,xY⟩:=yt
 have mh:∀ k,JV s i=some k->k=CV dg s i:=fun k h=>by
  unfold JV at h;obtain ⟨_,_,h2⟩:=zk.1 h;exact h2.symm
 unfold Hx ei;simp only;generalize CV pt s i=rp at *;generalize CV dg s i=rd' at *;cases K5:sm (AZ s i) with
 | true=>
  rw [K5] at L0;rw [if_pos rfl];unfold ID;generalize (s.take rp).drop i=tx at *;rw [<- Am];rw [<- AK] at L0 hwd;simp only [Aa,Ac,zd,yW];simp only [S9,Ag,seval,Xx,G2,G3,yY,yZ,L0,hwd,mi];exact ⟨_,rfl⟩
 | false=>
  rw [K5] at L0;rw [if_neg (by simp)];cases QC:dg (AZ s i) with
  | true=>
   rw [QC] at Hd;rw [if_pos rfl];cases hn:JV s i with
   | some k=>
    rw [hn] at JF;obtain rfl:=mh k hn;dsimp only;unfold ID;simp only [zN] at JF;generalize (s.take k).drop i=tx at *;rw [<- Am];rw [<- AK] at L0 Hd JF;simp only [Aa,Ac,zd,yW];simp only [S9,Ag,seval,Xx,G2,G3,yY,yZ,L0,Hd,JF,iG];exact ⟨_,rfl⟩
   | none=>
    rw [hn] at JF;dsimp only;simp only [Option.isSome_none] at JF;rw [<- Am];rw [<- AK] at L0 Hd JF;simp only [Aa,Ac,zd,yW];simp only [S9,Ag,seval,Xx,G2,G3,yY,yZ,L0,Hd,JF];exact ⟨_,rfl⟩
  | false=>
   rw [QC] at Hd;rw [if_neg (by simp)];by_cases iU:AZ s i=34
   · rw [if_pos iU]
     have bz:(((AZ s i:Nat):Int) == 34)=true:=by rw [iU];rfl
     have wq:nE s i=if eQ s (i+1) < s.length then (eQ s (i+1):Int)+1 else -1:=rfl
     have hsL:Ta s i=(if s.length<=eQ s (i+1) then none else if (RA ((s.take (eQ s (i+1)+1)).drop i)).2≠0 then none else some ((RA ((s.take (eQ s (i+1)+1)).drop i)).1,eQ s (i+1)+1)):=rfl;have heg:i+1<=eQ s (i+1):=Ox _ _ _;rw [hsL];by_cases d1:eQ s (i+1) < s.length
     · rw [if_pos d1] at wq
       rw [wq] at Ug;rw [if_neg (by omega:¬ s.length<=eQ s (i+1))];have Ko:=JS s i ((eQ s (i+1)+1:Nat):Int) (by omega) (by omega) (by omega);rw [y1,y1] at Ko;have ce:((eQ s (i+1)+1:Nat):Int)=(eQ s (i+1):Int)+1:=by omega
       rw [ce] at Ko;have iI:¬ ((eQ s (i+1):Int)+1 < 0):=by omega
       have hu:=S4 ((s.take (eQ s (i+1)+1)).drop i) (by rw [zq,zo];omega);generalize (s.take (eQ s (i+1)+1)).drop i=tx at *;generalize RA tx=u at *;obtain ⟨ut,ue⟩:=u;simp only at hu |-;by_cases d2:ue=0
       · rw [if_neg (fun h=>h d2)]
         have d2':(ue != 0)=false:=by rw [d2];rfl
         simp only [ce];unfold ID;rw [<- Am];rw [<- AK] at L0 Hd Ug hu;simp only [Aa,Ac,zd,yW];simp only [S9,Ag,seval,Xx,G2,G3,yY,yZ,L0,Hd,Dc,bz,Ug,iI,Ko,hu,d2'];exact ⟨_,rfl⟩
       · rw [if_pos d2]
         have d2':(ue != 0)=true:=by rw [bne_iff_ne];exact d2
         dsimp only;rw [<- Am];rw [<- AK] at L0 Hd Ug hu;simp only [Aa,Ac,zd,yW];simp only [S9,Ag,seval,Xx,G2,G3,yY,yZ,L0,Hd,Dc,bz,Ug,iI,Ko,hu,d2'];exact ⟨_,rfl⟩
     · rw [if_neg d1] at wq
       rw [wq] at Ug;rw [if_pos (by omega:s.length<=eQ s (i+1))];have iI:((-1:Int) < 0):=by decide
       dsimp only;rw [<- Am];rw [<- AK] at L0 Hd Ug;simp only [Aa,Ac,zd,yW];simp only [S9,Ag,seval,Xx,G2,G3,yY,yZ,L0,Hd,Dc,bz,Ug,iI];exact ⟨_,rfl⟩
   · rw [if_neg iU]
     have bz:(((AZ s i:Nat):Int) == 34)=false:=by rw [beq_eq_false_iff_ne];omega
     by_cases sj:Ds s i=0
     · rw [if_pos sj]
       have heq:(((Ds s i:Nat):Int) == 0)=true:=by rw [sj];rfl
       dsimp only;rw [<- Am];rw [<- AK] at L0 Hd A1;simp only [Aa,Ac,zd,yW];simp only [S9,Ag,seval,Xx,G2,G3,yY,yZ,L0,Hd,Dc,bz,A1,heq];exact ⟨_,rfl⟩
     · rw [if_neg sj]
       dsimp only;have heq:(((Ds s i:Nat):Int) == 0)=false:=by rw [beq_eq_false_iff_ne];omega
       unfold ID;rw [casto] at iH wo |-;generalize (s.take (i+Ds s i)).drop i=tx at *;rw [<- Am];rw [<- AK] at L0 Hd A1;simp only [Aa,Ac,zd,yW];simp only [S9,Ag,seval,Xx,G2,G3,yY,yZ,L0,Hd,Dc,bz,A1,heq,iH,wo];exact ⟨_,rfl⟩
theorem ZV (s:List UInt8) (hs:s.length<=40000) (i:Nat) (hi:i < s.length) (bx):Ak CC (Ae CC) 44 [.str s,.int .i64 (i:Int)] bx=some (.ret (ei (Hx s i)),bx):=by
 obtain ⟨b,h⟩:=Vo s hs i hi;refine Ax rfl (by simp only [SA,y0]) h ?_;cases Hx s i <;> rfl
theorem Vp:Bk CC zf (zf.body.getD .skip)=true:=by kernel_rfl
theorem Tn:CC.P.funcs[20]?=some zf:=by kernel_rfl
theorem Rg (L:Code) (hL:L=Aa zf [1,1,1,1,0,0]) (s:List UInt8) (hs:s.length<=40000):∀ (m i:Nat) (acc:List Tk) (e:List PV) (bx:List PBox),s.length - i < m->i<=s.length->acc.length<=4000->getT e 0=.str s->getT e 5=.osl 59 (A2 acc)->getT e 6=.int .i64 i ->
 vS s (tk s i acc) (Cp CC L ⟨e,bx⟩):=by
 intro m
 induction m with
 | zero=>intro i acc e bx hm;omega
 | succ m ih=>
  intro i acc e bx hm hi ha h0 h5 h6;rw [A0 (Aa zf [1,1,1,1,0,0,0]) hL,ZP acc hi];have hlen:=AX s;obtain ⟨tu,xY⟩:=yu;have fx:∀ (bx:List PBox) (b:PBox),(bx++[b])[bx.length]?=some b:=fun bx b=>by simp
  have sT:∀ (bx:List PBox) (b c:PBox),(bx++[b]).set bx.length c=bx++[c]:=fun bx b c=>by simp [List.set_append]
  by_cases Bq:i < s.length
  · have D5:(i:Int) < (s.length:Int):=by omega
    rw [if_pos Bq];have Ub:(A2 acc).length=acc.length:=by unfold A2;rw [zC]
    by_cases c1:acc.length=4000
    · rw [if_pos c1]
      have hl:((((A2 acc).length:Nat):Int) == 4000)=true:=by rw [Ub,c1];rfl
      generalize A2 acc=xs at *;rw [<- Am];simp only [Aa,Ac,zf,yW];simp only [S8,Ag,seval,h0,h5,h6,hlen,D5,hl];exact ⟨_,_,Or.inr ⟨rfl,rfl,by simp only [S7,Ag,seval],by simp only [S7,Ag,seval],by simp only [S7,Ag,seval]⟩⟩
    · rw [if_neg c1]
      have hl:((((A2 acc).length:Nat):Int) == 4000)=false:=by rw [Ub,beq_eq_false_iff_ne];omega
      have Fh:=ZV s hs i Bq;unfold ei at Fh;cases ho:Hx s i with
      | inr c=>
       rw [ho] at Fh;dsimp only at Fh
       have Dq:(c != 0)=true:=by
        have:=Td ho;rw [bne_iff_ne];omega
       generalize A2 acc=xs at *;rw [<- Am];rw [<- AK] at Fh;simp only [Aa,Ac,zf,yW];simp only [S9,Ag,seval,Xx,h0,h5,h6,hlen,D5,hl,Fh,Dq,yY,yZ,zu,fx,sT];exact ⟨_,_,Or.inr ⟨rfl,rfl,by simp only [S7,Ag,seval],by simp only [S7,Ag,seval],by simp only [S7,Ag,seval]⟩⟩
      | inl x=>
       obtain ⟨t,k⟩:=x;rw [ho] at Fh;dsimp only at Fh |-;have Yu:=Ma Bq ho;have bj:=Qv s (by omega) k Yu.2;have Mg:=Qu Yu.2;have sq:=fun e bx=>ih (sk s k) (acc++[t]) e bx (by omega) Mg.2 (by rw [zt,zM];omega);have Dq:((0:Int) != 0)=false:=rfl;have FB:=ee t;have Ek:=nB t;have Jd:A2 (acc++[t])=A2 acc++A2 [t]:=by simp only [A2,zB]
       rw [Jd] at sq;have VM:(A2 [t]).length=1:=rfl;have hc:(A2 acc).length+(A2 [t]).length<=1000000:=by omega
       generalize tk s (sk s k) (acc++[t])=v at *;generalize A2 acc=xs at *;generalize A2 [t]=ys at *;generalize sk s k=k' at *;unfold ID at Fh FB;rw [<- Am];rw [<- AK] at Fh bj;rw [<- Am] at sq;simp only [Aa,Ac,zf,yW];simp only [S9,Ag,seval,Xx,h0,h5,h6,hlen,D5,hl,Fh,bj,FB,nA,Ek,hc,Dq,yY,yZ,zu,fx,sT];refine sq _ _ ?_ ?_ ?_
       · simp only [S7,Ag,seval,h0]
       · simp only [S7,Ag,seval]
       · simp only [S7,Ag,seval]
  · rw [if_neg Bq]
    have D5:¬ (i:Int) < (s.length:Int):=by omega
    rw [<- Am];simp only [Aa,Ac,zf,yW];simp only [S8,Ag,seval,h0,h5,h6,hlen,D5];exact ⟨_,_,Or.inl ⟨rfl,rfl,_,ha,rfl,by simp only [S7,Ag,seval,h5],by simp only [S7,Ag,seval,h0]⟩⟩
theorem Rh (s:List UInt8) (hs:s.length<=40000):∃ bx,Ae CC 20 [.str s] []=some (.ret (.tup [.sl (A2 (Bd s).1),.int .i64 ((Bd s).2.1:Nat),.int .i64 (Bd s).2.2]),bx):=by
 rw [Ah (fn:=zf) (c:=zf.body.getD .skip) rfl rfl Tn rfl Vp (yX rfl)];have hlen:=AX s;have bj:=Qv s (by omega) 0 (by omega);have Mg:=Qu (s:=s) (i:=0) (by omega);have Af:=Rg _ rfl s hs (s.length+1) (sk s 0) [];have FB:AW CC 61 1 [(0,.agg [.int .i64 0,.str [],.int .i64 (s.length:Int)])]=some (.osl 59 (A2 [(0,[],s.length)])):=ee (0,[],s.length);have Ek:=nB (0,[],s.length);have hb:=ZN (s.length:Int);have cast0:((0:Nat):Int)=0:=rfl;rw [cast0] at bj;have e1:Bd s=if 20000 < s.length then ([],0,3) else tk s (sk s 0) []:=rfl
 rw [e1];by_cases c1:20000 < s.length
 · rw [if_pos c1]
   have c1':(s.length:Int) > 20000:=by omega
   rw [<- Am];simp only [Aa,Ac,zf,yW];simp only [S8,Ag,seval,hlen,c1'];exact ⟨_,rfl⟩
 · rw [if_neg c1]
   have c1':¬ (s.length:Int) > 20000:=by omega
   have Gk:=fun e bx=>Af e bx (by omega) Mg.2 (by simp);have Jd:∀ acc,A2 (acc++[(0,[],s.length)])=A2 acc++A2 [(0,[],s.length)]:=fun acc=>by simp only [A2,zB]
   have EL:∀ acc,acc.length<=4000->(A2 acc).length+(A2 [(0,[],s.length)]).length<=1000000:=fun acc h=>by unfold A2;rw [zC];simp;omega
   generalize tk s (sk s 0) []=v at *;generalize sk s 0=k' at *;generalize A2 [(0,[],s.length)]=ys at *;rw [<- Am];rw [<- AK] at bj;rw [<- Am] at Gk;simp only [Aa,Ac,zf,yW] at Gk |-;simp only [S8,Ag,seval,hlen,c1',bj];generalize hE:GZ _ _=r;have hP:vS s v r:=hE ▸ Gk _ _ (by simp only [S7,Ag,seval]) (by simp only [S7,Ag,seval] <;> rfl) (by simp only [S7,Ag,seval]);obtain ⟨e',bx',⟨g1,g2,acc,g3,g4,g5,g6⟩ | ⟨g1,g2,g3,g4,g5⟩⟩:=hP
   · subst g1
     have hc:=EL acc g3;rw [g4,Jd,g2];simp only [S8,Ag,seval,g5,g6,hlen,hb,FB,nA,Ek,hc];exact ⟨_,rfl⟩
   · subst g1
     rw [g2];simp only [S8,Ag,seval,g3,g4,g5];exact ⟨_,rfl⟩
def tQ (w:List UInt8):Prop:=∃ c r,w=c :: r/\sm c.toNat=true/\∀ b ∈ r,pt b.toNat=true
def wF (w:List UInt8):Prop:=w≠[]/\(∀ b ∈ w,dg b.toNat=true)/\(KF w 0).isSome=true
def yw (w:List UInt8):Prop:=∃ c,(w=[c]/\ed c.toNat=true)\/(w=[c,61]/\sH c.toNat=true)
def ej (x:Tk):Prop:=(x.1=1/\tQ x.2.1)\/(x.1=2/\wF x.2.1)\/(x.1=3/\x.2.1.length<=60)\/(x.1=4/\yw x.2.1)
def ke (x:Tk):List UInt8:=if x.1=3 then Cg x.2.1 else x.2.1
def Qw (x:Tk):Bool:=x.1 == 4 && x.2.1 == [35]
def gD:List Tk->Bool->List UInt8
 | [],b=>if b then [32] else []
 | x :: r,b=>(if b then [32] else [])++(ke x++gD r (!Qw x))
def PG:List Tk->Prop
 | []=>True
 | x :: r=>ej x/\(Qw x=true->∃ y r',r=y :: r'/\y.1=2)/\PG r
theorem qA {s:List UInt8} (h:(RA s).2=0):s=Cg (RA s).1/\(RA s).1.length<=60:=by
 by_cases hq:∃ t,s=Cg t
 · obtain ⟨t,rfl⟩:=hq
   rw [Wn] at h |-;split at h
   · cases h
   · rename_i hc
     rw [if_neg hc];exact ⟨rfl,Nat.le_of_not_lt hc⟩
 · rw [ZD s (fun t e=>hq ⟨t,e⟩)] at h
   cases h
theorem gE (x:Tk) (r:List Tk) (b:Bool):gD (x :: r) b=(if b then [32] else [])++(ke x++gD r (!Qw x)):=rfl
theorem py:∀ n:_root_.Fin 256,dg n.val=true->sm n.val=false/\n.val≠61/\n.val≠32/\n.val≠9/\n.val≠10/\n.val≠35:=by decide +kernel
theorem nH {s:List UInt8} {i:Nat} (hi:i < s.length) (h:sk s i=i):AZ s i≠32/\AZ s i≠9/\AZ s i≠10/\(AZ s i=35->dg (AZ s (i+1))=true):=by
 rw [Jn (by omega),if_pos hi] at h;by_cases c1:AZ s i=32\/AZ s i=9\/AZ s i=10
 · rw [if_pos c1] at h
   have:=Qu (s:=s) (i:=i+1) (by omega);omega
 · refine ⟨by omega,by omega,by omega,fun c2=>?_⟩
   rw [if_neg c1] at h;cases hd:dg (AZ s (i+1)) with
   | true=>rfl
   | false=>
    exfalso;rw [if_pos ⟨c2,hd⟩] at h;have h1:=OA (p:=nl) hi (by rw [c2] <;> rfl);have h2:=Fe (p:=nl) (s:=s) (i:=i) (by omega);have:=Qu h2.2;omega
theorem ek (s:List UInt8):∀ (d i:Nat),s.length - i<=d->i<=s.length->sk s (sk s i)=sk s i:=by
 intro d
 induction d with
 | zero=>
  intro i h hl;rw [show i=s.length from by omega,Jn (y6 _),if_neg (by omega),Jn (y6 _),if_neg (by omega)]
 | succ d ih=>
  intro i h hl;by_cases c:i < s.length
  · have e:=Jn (s:=s) (i:=i) hl
    rw [if_pos c] at e;by_cases c1:AZ s i=32\/AZ s i=9\/AZ s i=10
    · rw [if_pos c1] at e
      rw [e];exact ih (i+1) (by omega) (by omega)
    · rw [if_neg c1] at e
      by_cases c2:AZ s i=35/\dg (AZ s (i+1))=false
      · rw [if_pos c2] at e
        have h1:=OA (p:=nl) c (by rw [c2.1] <;> rfl);have h2:=Fe (p:=nl) (s:=s) (i:=i) (by omega);rw [e];exact ih _ (by omega) h2.2
      · rw [if_neg c2] at e
        rw [e,e]
  · rw [show i=s.length from by omega,Jn (y6 _),if_neg (by omega),Jn (y6 _),if_neg (by omega)]
theorem Wo {p:Nat->Bool} {s:List UInt8} {i:Nat}:∀ b ∈ (s.take (CV p s i)).drop i,p b.toNat=true:=by
 have h:(s.take (CV p s i)).drop i=(s.drop i).takeWhile fun c=>p c.toNat:=by
  unfold CV;rw [zU,zL];generalize s.drop i=x
  induction x with
  | nil=>rfl
  | cons c x ih=>
   rw [zr];split
   · rw [zy,zG,ih]
   · rfl
 rw [h];intro b hb;have:=List.all_takeWhile (p:=fun c:UInt8=>p c.toNat) (l:=s.drop i);exact zQ.1 this b hb
theorem cH {s:List UInt8} {i k:Nat} (hi:i < k) (hk:k<=s.length):∃ c r,(s.take k).drop i=c :: r/\c.toNat=AZ s i/\r.length=k - i - 1:=by
 have hl:i < (s.take k).length:=by rw [zo];omega
 refine ⟨(s.take k)[i],(s.take k).drop (i+1),y4 hl,?_,?_⟩
 · rw [List.getElem_take,ZM (by omega)]
 · rw [zq,zo];omega
theorem kf {s:List UInt8} {i k:Nat} {x:Tk} (hi:i < s.length) (h:Hx s i=.inl (x,k)):ej x/\(ke x).length=k - i/\(Qw x=true->AZ s i=35/\k=i+1)/\(dg (AZ s i)=true->x.1=2):=by
 have Yu:=Ma hi h;have Ko:((s.take k).drop i).length=k - i:=by rw [zq,zo];omega
 obtain ⟨c,r,K5,QC,iU⟩:=cH Yu.1 Yu.2
 have oneL_def:Hx s i=if sm (AZ s i) then .inl ((1,(s.take (CV pt s i)).drop i,i),CV pt s i)
  else if dg (AZ s i) then (match JV s i with
   | some k=>.inl ((2,(s.take k).drop i,i),k)
   | none=>.inr 2)
  else if AZ s i=34 then (match Ta s i with
   | some (u,k)=>.inl ((3,u,i),k)
   | none=>.inr 4)
  else if Ds s i=0 then .inr 12
  else .inl ((4,(s.take (i+Ds s i)).drop i,i),i+Ds s i):=rfl
 rw [oneL_def] at h;by_cases c1:sm (AZ s i)=true
 · rw [if_pos c1] at h
   injection h with h
   injection h with h1 h2
   subst h1;have ha:=Wo (p:=pt) (s:=s) (i:=i);rw [h2] at ha |-;refine ⟨.inl ⟨rfl,c,r,K5,by rw [QC];exact c1,fun b hb=>ha b (by rw [K5];simp [hb])⟩,Ko,(fun hh=>by simp [Qw] at hh),fun hd=>?_⟩;have:=(py ⟨AZ s i,DI s i⟩ hd).1;simp only at this;rw [c1] at this;cases this
 · rw [if_neg c1] at h
   by_cases c2:dg (AZ s i)=true
   · rw [if_pos c2] at h
     cases hn:JV s i with
     | none=>rw [hn] at h;cases h
     | some k'=>
      rw [hn] at h;injection h with h
      injection h with h1 h2
      subst h1;rw [h2] at hn |-;unfold JV at hn;obtain ⟨v,hv,hk⟩:=zk.1 hn;have ha:=Wo (p:=dg) (s:=s) (i:=i);rw [hk] at ha hv;rw [<- zU] at hv;exact ⟨.inr (.inl ⟨rfl,by show (s.take k).drop i≠[];rw [K5];simp,ha,by show (KF ((s.take k).drop i) 0).isSome=true;rw [hv];rfl⟩),Ko,(fun hh=>by simp [Qw] at hh),fun _=>rfl⟩
   · rw [if_neg c2] at h
     by_cases c3:AZ s i=34
     · rw [if_pos c3] at h
       cases hn:Ta s i with
       | none=>rw [hn] at h;cases h
       | some y=>
        obtain ⟨u,k'⟩:=y;rw [hn] at h;injection h with h
        injection h with h1 h2
        subst h1;have h2:k'=k:=h2;subst h2;unfold Ta at hn;simp only at hn;split at hn
        · cases hn
        · split at hn
          · cases hn
          · rename_i hu
            injection hn with hn
            injection hn with h3 h4
            have h5:=qA (zZ hu);rw [h4] at h5 h3;rw [h3] at h5;refine ⟨.inr (.inr (.inl ⟨rfl,h5.2⟩)),?_,(fun hh=>by simp [Qw] at hh),fun hd=>by rw [c3] at hd;cases hd⟩;show (Cg u).length=_;rw [<- h5.1];exact Ko
     · rw [if_neg c3] at h
       by_cases c4:Ds s i=0
       · rw [if_pos c4] at h;cases h
       · rw [if_neg c4] at h
         injection h with h
         injection h with h1 h2
         subst h1;rw [h2]
         have A1:yw ((s.take k).drop i):=by
          rw [K5];refine ⟨c,?_⟩;unfold Ds at h2 c4;by_cases d1:AZ s (i+1)=61/\sH (AZ s i)=true
          · rw [if_pos d1] at h2
            right
            match r,iU with
            | [b],_=>
             refine ⟨?_,by rw [QC];exact d1.2⟩
             have h5:s[i+1]?=some b:=by
              have h6:((s.take k).drop i)[1]?=some b:=by rw [K5];rfl
              rw [List.getElem?_drop,List.getElem?_take_of_lt (by omega)] at h6;exact h6
             have h7:=Fc h5;have:b=61:=by rw [<- UInt8.toNat_inj,<- h7];exact d1.1
             rw [this]
            | [],h=>simp at h;omega
            | _ :: _ :: _,h=>simp at h;omega
          · rw [if_neg d1] at h2 c4
            by_cases d2:ed (AZ s i)=true
            · rw [if_pos d2] at h2
              left
              match r,iU with
              | [],_=>exact ⟨rfl,by rw [QC];exact d2⟩
              | _ :: _,h=>simp at h;omega
            · rw [if_neg d2] at c4
              exact absurd rfl c4
         refine ⟨.inr (.inr (.inr ⟨rfl,A1⟩)),Ko,fun hh=>?_,fun hd=>absurd hd c2⟩;have hh:((s.take k).drop i == [35])=true:=hh;have hh:=beq_iff_eq.1 hh;rw [K5] at hh;injection hh with e1 e2
         subst e1 e2;exact ⟨by rw [<- QC];rfl,by simp at iU;omega⟩
theorem gF (s:List UInt8):∀ (d i:Nat) (acc:List Tk),s.length - i<=d->i<=s.length->sk s i=i->(tk s i acc).2.2=0 ->
 ∃ r,tk s i acc=(acc++r++[(0,[],s.length)],0,0)/\PG r/\(∀ b,(gD r b).length<=1+2 * (s.length - i))/\r.length<=s.length - i/\(i < s.length->dg (AZ s i)=true->∃ y r',r=y :: r'/\y.1=2):=by
 have mj:∀ i acc,i=s.length->∃ r,tk s i acc=(acc++r++[(0,[],s.length)],0,0)/\PG r/\(∀ b,(gD r b).length<=1+2 * (s.length - i))/\r.length<=s.length - i/\(i < s.length->dg (AZ s i)=true->∃ y r',r=y :: r'/\y.1=2):=fun i acc hi=>by
  refine ⟨[],?_,trivial,fun b=>?_,Nat.zero_le _,fun h=>by omega⟩
  · rw [ZP _ (by omega),if_neg (by omega),List.append_nil]
  · cases b <;> simp [gD]
 intro d
 induction d with
 | zero=>intro i acc h hl _ _;exact mj i acc (by omega)
 | succ d ih=>
  intro i acc h hl hs h0;by_cases c:i < s.length
  · rw [ZP _ hl,if_pos c] at h0 |-
    by_cases c1:acc.length=4000
    · rw [if_pos c1] at h0;cases h0
    · rw [if_neg c1] at h0 |-
      cases ho:Hx s i with
      | inr e=>
       have he:=Td ho;rw [ho] at h0;simp only at h0;omega
      | inl y=>
       obtain ⟨x,k⟩:=y;rw [ho] at h0;simp only at h0 |-;have Yu:=Ma c ho;have hle:=Qu Yu.2;obtain ⟨g1,g2,g3,g4⟩:=kf c ho;obtain ⟨r,f1,f2,f3,f4,f5⟩:=ih (sk s k) (acc++[x]) (by omega) hle.2 (ek s _ k (y6 _) Yu.2) h0;refine ⟨x :: r,?_,⟨g1,fun hh=>?_,f2⟩,fun b=>?_,?_,fun _ hd=>⟨x,r,rfl,g4 hd⟩⟩
       · rw [f1];simp
       · obtain ⟨o8,Ru⟩:=g3 hh
         have Hd:=(nH c hs).2.2.2 o8
         have Bq:k < s.length:=by
          rcases zX k s.length with h' | h'
          · exact h'
          · have h0:AZ s k=0:=by unfold AZ;rw [y2 h']
            rw [<- Ru,h0] at Hd;cases Hd
         rw [<- Ru] at Hd;have n1:=py ⟨AZ s k,DI s k⟩ Hd;simp only at n1;have bj:sk s k=k:=by rw [Jn (by omega),if_pos Bq,if_neg (by omega),if_neg (by omega)]
         rw [bj] at f5;exact f5 Bq Hd
       · have h3:=f3 (!Qw x)
         rw [gE,zt,zt,g2];have:(if b then [32] else []:List UInt8).length<=1:=by cases b <;> simp
         omega
       · rw [zy];omega
  · exact mj i acc (by omega)
theorem M6 (s:List UInt8) (hs:s.length<=900000) (bx):Ak CC (Ae CC) 30 [.str s] bx=some (.ret (.tup [.sl (A2 (Bd s).1),.int .i64 ((Bd s).2.1:Nat),.int .i64 (Bd s).2.2]),bx):=by
 obtain ⟨b0,hT⟩:=Q8 s (by omega);exact Ax rfl (by simp only [SA,y0]) hT (eg _ _ _)
theorem GP (s:List UInt8) (hs:s.length<=40000) (bx):Ak CC (Ae CC) 20 [.str s] bx=some (.ret (.tup [.sl (A2 (Bd s).1),.int .i64 ((Bd s).2.1:Nat),.int .i64 (Bd s).2.2]),bx):=by
 obtain ⟨b0,hT⟩:=Rh s (by omega);exact Ax rfl (by simp only [SA,y0]) hT (eg _ _ _)
end Go.HH
