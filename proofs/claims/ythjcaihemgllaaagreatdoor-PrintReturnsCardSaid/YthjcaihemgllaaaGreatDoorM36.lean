/-
  What the law needs, packed: T3 SD SE SF CA PB.
-/
import Derived.Test.YthjcaihemgllaaaGreatDoorM35
namespace Go.HH
open Go Go.Proofs
set_option maxRecDepth 100000
set_option linter.unusedSimpArgs false
set_option linter.unusedVariables false
inductive At where
 | mk (s:List UInt8) (lv:Int) (kids:List At)
def At.s:At->List UInt8
 | .mk s _ _=>s
def At.lv:At->Int
 | .mk _ l _=>l
def At.ks:At->List At
 | .mk _ _ k=>k
def dAt:At:=.mk [] 8 []
def atG (l:List At) (i:Nat):At:=l[i]?.getD dAt
def kdS (a:At) (least:Int):List UInt8:=if a.lv < least then cat (cat [40] a.s) [41] else a.s
def prS (a:At) (l1:Int) (op:List UInt8) (c:At) (l2:Int):List UInt8:=cat (cat (cat (cat (kdS a l1) [32]) op) [32]) (kdS c l2)
def rowS (op:List UInt8) (least:Int):List At->Nat->List UInt8->List UInt8
 | [],_,acc=>acc
 | a :: r,i,acc=>rowS op least r (i+1) (cat (if 0 < i then cat acc (cat (cat [32] op) [32]) else acc) (kdS a least))
def kdOf:Tr->Int
 | .mk k _ _ _ _ _ _=>k
def kidsOf:Tr->List Tr
 | .mk _ _ _ _ _ _ kids=>kids
def ngS (k:Int) (a:At):List UInt8:=if k=9 then prS (atG a.ks 0) 5 [33,61] (atG a.ks 1) 5 else if k=10 then prS (atG a.ks 1) 5 [60,61] (atG a.ks 0) 5 else cat [110,111,116,32] (kdS a 3)
def ngL (k:Int):Int:=if k=9 then 4 else if k=10 then 4 else 3
def mnB:List Tr->Bool
 | a :: c :: _=>smB a 1 0 0 [] (2,0,[]) (0,[],[]) && (kdOf c != 1)
 | _=>false
def kd0:List Tr->Int
 | a :: _=>kdOf a
 | _=>0
def bdT (k n m:Int) (nm:List UInt8) (v:Vl) (key:Ky) (kids:List Tr) (l:List At):List UInt8:=
 if k=1 then prV v else if k=14 then cat (cat (cat (cat (cat [105,102,32] (kdS (atG l 0) 0)) [32,116,104,101,110,32]) (kdS (atG l 1) 0)) [32,101,108,115,101,32]) (kdS (atG l 2) 0) else
 if k=8 then rowS [111,114] 2 l 0 [] else if k=7 then rowS [97,110,100] 3 l 0 [] else if k=6 then ngS (kd0 kids) (atG l 0) else
 if k=9 then prS (atG l 0) 5 [61,61] (atG l 1) 5 else if k=10 then prS (atG l 0) 5 [60] (atG l 1) 5 else if k=11 then prS (atG l 0) 5 [43] (atG l 1) 6 else
 if k=12 then (if mnB kids then cat [45] (kdS (atG l 1) 7) else prS (atG l 0) 5 [45] (atG l 1) 6) else if k=13 then prS (atG l 0) 6 [42] (atG l 1) 7 else prmT k n m nm key
def blT (k:Int) (v:Vl) (kids:List Tr):Int:=
 if k=1 then lvV v else if k=14 then 0 else if k=8 then 1 else if k=7 then 2 else if k=6 then ngL (kd0 kids) else if k=9 then 4 else if k=10 then 4 else if k=11 then 5 else
 if k=12 then (if mnB kids then 7 else 5) else if k=13 then 6 else 8
mutual
def an:Tr->At
 | .mk k n m nm v key kids=>.mk (bdT k n m nm v key kids (ans kids)) (blT k v kids) (ans kids)
def ans:List Tr->List At
 | []=>[]
 | t :: r=>an t :: ans r
end
def TX (t:Tr):List UInt8:=(an t).s
def LV (t:Tr):Int:=(an t).lv
theorem ans_map:∀ l:List Tr,ans l=l.map an
 | []=>by unfold ans;rfl
 | t :: r=>by unfold ans;rw [ans_map r];rfl
theorem an_eq (k n m:Int) (nm:List UInt8) (v:Vl) (key:Ky) (kids:List Tr):an (.mk k n m nm v key kids)=.mk (bdT k n m nm v key kids (ans kids)) (blT k v kids) (ans kids):=by
 conv=>lhs;unfold an
theorem an_ks (t:Tr):(an t).ks=ans (kidsOf t):=by
 obtain ⟨k,n,m,nm,v,key,kids⟩:=t
 rw [an_eq];rfl
mutual
def vT:Tr->Prop
 | .mk k n m nm v key kids=>ndT (.mk k n m nm v key kids)=0∧vTs kids
def vTs:List Tr->Prop
 | []=>True
 | t :: r=>vT t∧vTs r
end
theorem vTs_iff:∀ l:List Tr,vTs l↔∀ t ∈ l,vT t
 | []=>by unfold vTs;simp
 | t :: r=>by unfold vTs;rw [vTs_iff r];simp
mutual
theorem wk_v (t:Tr) (lv c:Int) (h:(wkT t lv c).2=0):vT t:=by
 match t with
 | .mk k n m nm v key kids=>
  unfold wkT at h
  unfold vT
  split at h
  · simp at h
  · split at h
    · simp at h
    · split at h
      · rename_i hn;exact absurd h hn
      · rename_i hn
        exact ⟨by omega,wks_v kids _ _ h⟩
theorem wks_v (l:List Tr) (lv c:Int) (h:(wkTs l lv c).2=0):vTs l:=by
 match l with
 | []=>unfold vTs;trivial
 | t :: r=>
  unfold wkTs at h
  unfold vTs
  split at h
  · rename_i hn;exact absurd h hn
  · rename_i hn
    exact ⟨wk_v t lv c (by omega),wks_v r _ _ h⟩
end
theorem ck_v {t:Tr} (h:ckT t=0):vT t:=wk_v t 1 0 h
mutual
def ndC:Tr->Nat
 | .mk _ _ _ _ _ _ kids=>1+ndCs kids
def ndCs:List Tr->Nat
 | []=>0
 | t :: r=>ndC t+ndCs r
end
mutual
theorem nd_md (t:Tr) (left levels:Int) (h:0<=mdT t left levels):(ndC t:Int)+mdT t left levels<=left:=by
 match t with
 | .mk k n m nm v key kids=>
  unfold mdT at h ⊢
  unfold ndC
  split at h
  · omega
  · rename_i hc
    rw [if_neg hc]
    have:=nds_md kids (left - 1) _ h
    omega
theorem nds_md (l:List Tr) (left levels:Int) (h:0<=mdTs l left levels):(ndCs l:Int)+mdTs l left levels<=left:=by
 match l with
 | []=>unfold mdTs ndCs;omega
 | t :: r=>
  unfold mdTs at h ⊢
  unfold ndCs
  split at h
  · omega
  · rename_i hc
    rw [if_neg hc]
    have h1:=nd_md t left levels (by omega)
    have h2:=nds_md r _ levels h
    omega
end
theorem nd_220 {t:Tr} (h:0<=mdT t 220 30):ndC t<=220:=by have:=nd_md t 220 30 h;omega
end Go.HH
namespace Go.HH
open Go Go.Proofs
set_option maxRecDepth 100000
set_option linter.unusedSimpArgs false
set_option linter.unusedVariables false
def RT (w:List UInt8) (l d:Nat) (e:Tr):Prop:=∃ ts,Lx w ts∧G l ts d e∧hdOK l ts∧(7<=l->kdOf e≠1->npl ts)
theorem RT.le {w:List UInt8} {l l' d d':Nat} {e:Tr} (h:RT w l d e) (hl:l'<=l) (hd:d<=d'):RT w l' d' e:=by
 obtain ⟨ts,h1,h2,h3,h4⟩:=h
 obtain ⟨k,rfl⟩:∃ k,l=l'+k:=⟨l - l',by omega⟩
 exact ⟨ts,h1,G.mono hd (g_le h2 h3),h3.mono hl,fun h=>h4 (by omega)⟩
theorem amtN_app (w:List UInt8) (b:UInt8) (n:Nat):amtN (w++[b]) n=10 * amtN w n+(b.toNat - 48):=by
 unfold amtN
 rw [List.foldl_append];rfl
theorem dg_dig:∀ k:_root_.Fin 10,dg (UInt8.ofNat (48+k.val)).toNat=true∧(UInt8.ofNat (48+k.val)).toNat - 48=k.val:=by decide +kernel
theorem dec_ok:∀ m n,n < m->dgB (Lib.decDigits n)=true∧amtN (Lib.decDigits n) 0=n
 | 0,_,h=>by omega
 | m+1,n,h=>by
  by_cases c:n < 10
  · have e:=dg_dig ⟨n,c⟩
    rw [Lib.decDigits_one c]
    refine ⟨?_,?_⟩
    · show (!false && ([UInt8.ofNat (48+n)].all fun b=>dg b.toNat))=true
      rw [List.all_cons,e.1];rfl
    · have:=amtN_app [] (UInt8.ofNat (48+n)) 0
      rw [List.nil_append] at this
      rw [this,e.2]
      show 10 * 0+n=n
      omega
  · obtain ⟨h1,h2⟩:=dec_ok m (n / 10) (by omega)
    have e:=dg_dig ⟨n % 10,by omega⟩
    have ed:Lib.decDigits n=Lib.decDigits (n / 10)++[UInt8.ofNat (48+n % 10)]:=by
     rw [Lib.decDigits,dif_neg c]
    rw [ed,amtN_app,h2,e.2]
    unfold dgB at h1 ⊢
    rw [Bool.and_eq_true] at h1 ⊢
    have e0:dg (UInt8.ofNat (48+n % 10)).toNat=true:=e.1
    refine ⟨⟨by simp,by rw [List.all_append,h1.2,List.all_cons,e0];rfl⟩,?_⟩
    show 10 * (n / 10)+n % 10=n
    omega
theorem itoa_nn {n:Int} (h:0<=n):dgB (Lib.itoa n)=true∧(amtN (Lib.itoa n) 0:Int)=n:=by
 unfold Lib.itoa
 rw [if_neg (by omega)]
 have:=dec_ok _ n.toNat (Nat.lt_succ_self _)
 exact ⟨this.1,by rw [this.2];omega⟩
theorem itoa_ng {n:Int} (h:n < 0):∃ w,Lib.itoa n=45 :: w∧dgB w=true∧(amtN w 0:Int)=-n:=by
 unfold Lib.itoa
 rw [if_pos h]
 have:=dec_ok _ n.natAbs (Nat.lt_succ_self _)
 exact ⟨_,rfl,this.1,by rw [this.2];omega⟩
theorem okC_pt:∀ (n:_root_.Fin 256) ,(okC 0 n.val=true->sm n.val=true)∧(okC 1 n.val=true->pt n.val=true):=by decide +kernel
theorem okC_s (i n:Nat):okC (i+1) n=okC 1 n:=by unfold okC;simp
theorem vAll_pt:∀ (r:List UInt8) (i:Nat),vAll (i+1) r=true->r.all (fun b=>pt b.toNat)=true
 | [],_,_=>rfl
 | c :: r,i,h=>by
  unfold vAll at h
  rw [Bool.and_eq_true,okC_s] at h
  have e1:pt c.toNat=true:=(okC_pt ⟨c.toNat,UInt8.toNat_lt c⟩).2 h.1
  rw [List.all_cons,e1,vAll_pt r (i+1) h.2];rfl
theorem val_word {s:List UInt8} (h:valB s=true):wordB s=true:=by
 unfold valB at h
 rw [Bool.and_eq_true,decide_eq_true_eq] at h
 cases s with
 | nil=>simp at h
 | cons c r=>
  have h2:=h.2
  unfold vAll at h2
  rw [Bool.and_eq_true] at h2
  unfold wordB
  have e1:sm c.toNat=true:=(okC_pt ⟨c.toNat,UInt8.toNat_lt c⟩).1 h2.1
  show (sm c.toNat && r.all fun b=>pt b.toNat)=true
  rw [e1,vAll_pt r 0 h2.2];rfl
theorem ck_ok {v:Vl} (h:ckV v=0):okN v.1 v.2.1=some true:=by
 unfold ckV at h
 split at h
 · cases h
 · cases h
 · assumption
section
variable {d:Nat}
theorem hdOK_k {k:Nat} {w:List UInt8} {r:List KT} (h1:k≠1) (h2:k≠4∨w≠[45]):hdOK 8 ((k,w) :: r):=
 ⟨by simp,fun _ h=>h1 (congrArg Prod.fst h),fun _ h=>h1 (congrArg Prod.fst h),fun _ h=>h2.elim (fun x=>x (congrArg Prod.fst h)) (fun x=>x (congrArg Prod.snd h))⟩
theorem hdOK_m {r:List KT}:hdOK 7 ((4,[45]) :: r):=
 ⟨by simp,fun _ h=>absurd (congrArg Prod.fst h) (by decide:(4:Nat)≠1),fun _ h=>absurd (congrArg Prod.fst h) (by decide:(4:Nat)≠1),fun h=>absurd h (by decide)⟩
theorem hdOK_w {w:List UInt8} {r:List KT} (h1:w≠[105,102]) (h2:w≠[110,111,116]):hdOK 8 ((1,w) :: r):=
 ⟨by simp,fun _ h=>h1 (congrArg Prod.snd h),fun _ h=>h2 (congrArg Prod.snd h),fun _ h=>absurd (congrArg Prod.fst h) (by decide:(1:Nat)≠4)⟩
theorem rt_true:RT sT 8 d (litT 1 1):=⟨[(1,[116,114,117,101])],lx_word (by decide),c_true,hdOK_w (by decide) (by decide),fun _ h=>absurd rfl h⟩
theorem rt_false:RT sF 8 d (litT 1 0):=⟨[(1,[102,97,108,115,101])],lx_word (by decide),c_false,hdOK_w (by decide) (by decide),fun _ h=>absurd rfl h⟩
theorem rt_int {n:Int} (hn:0<=n):RT (Lib.itoa n) 8 d (litT 2 n):=by
 obtain ⟨e2,e3⟩:=itoa_nn hn
 have hg:=c_num (w:=Lib.itoa n) (d:=d)
 rw [e3] at hg
 exact ⟨[(2,Lib.itoa n)],lx_num e2,hg,hdOK_k (by decide) (.inl (by decide)),fun _ h=>absurd rfl h⟩
theorem rt_min {n:Int} (hn:n < 0):RT (Lib.itoa n) 7 d (litT 2 n):=by
 obtain ⟨w,e1,e2,e3⟩:=itoa_ng hn
 rw [e1]
 have hg:=c_negn (w:=w) (d:=d)
 rw [e3,Int.neg_neg] at hg
 exact ⟨[(4,[45]),(2,w)],lo_app (lo_op (c:=45) (by decide)) (lx_num e2),hg,hdOK_m,fun _ h=>absurd rfl h⟩
theorem rt_bat {n:Int} (hn:0<=n) (h2:n<=63):RT (35 :: Lib.itoa n) 8 d (litT 3 n):=by
 obtain ⟨e2,e3⟩:=itoa_nn hn
 have hg:=c_bat (w:=Lib.itoa n) (d:=d) (by omega)
 rw [e3] at hg
 exact ⟨[(4,[35]),(2,Lib.itoa n)],lx_hash e2,hg,hdOK_k (by decide) (.inr (by decide)),fun _ h=>absurd rfl h⟩
theorem rt_str {s:List UInt8} (h:s.length<=60):RT (quoteL s) 8 d (.mk 1 0 0 [] (4,0,s) zK []):=
 ⟨[(3,s)],(lx_str h).lx,c_str,hdOK_k (by decide) (.inl (by decide)),fun _ h=>absurd rfl h⟩
theorem rt_lit {v:Vl} (hc:ckV v=0) (h0:v.1≠0):RT (prV v) (lvV v).toNat d (.mk 1 0 0 [] v zK []):=by
 have hk:=ck_len hc
 have ho:=ck_ok hc
 have ep:prV v=if v.1=1 then (if v.2.1=1 then sT else sF) else if v.1=2 then Lib.itoa v.2.1 else if v.1=3 then 35 :: Lib.itoa v.2.1 else quoteL v.2.2:=by
  unfold prV
  rw [if_neg (by omega),if_neg h0]
 rw [ep]
 clear ep hc
 unfold lvV
 obtain ⟨k,n,s⟩:=v
 simp only at hk ho h0 ⊢
 obtain ⟨h60,hk,hs⟩:=hk
 have hk:k=1∨k=2∨k=3∨k=4:=by omega
 rcases hk with rfl | rfl | rfl | rfl
 · have hs:=hs (by decide)
   subst hs
   have hn:n=0∨n=1:=by
    unfold okN at ho
    simpa using ho
   rcases hn with rfl | rfl
   · exact rt_false
   · exact rt_true
 · have hs:=hs (by decide)
   subst hs
   by_cases hn:n < 0
   · have e:(if (2:Int)=2∧n < 0 then (7:Int) else 8)=7:=if_pos ⟨rfl,hn⟩
     rw [e]
     exact rt_min hn
   · have e:(if (2:Int)=2∧n < 0 then (7:Int) else 8)=8:=if_neg fun h=>hn h.2
     rw [e]
     exact rt_int (by omega)
 · have hs:=hs (by decide)
   subst hs
   have hn:0<=n∧n<=63:=by
    unfold okN at ho
    simpa using ho
   exact rt_bat hn.1 hn.2
 · have hn:n=0:=by
    unfold okN at ho
    simpa using ho
   subst hn
   exact rt_str h60
theorem npl_w {w:List UInt8} {r:List KT}:npl ((1,w) :: r):=⟨by simp,.inl (by decide:(1:Nat)≠2)⟩
theorem rt_path {k:Ky} (h1:1<=k.1) (h2:k.1<=250) (hx:valB k.2.1=true) (hy:valB k.2.2=true):RT (dotT k.1 k.2.1 k.2.2) 8 d (.mk 2 0 0 [] zV k []):=by
 obtain ⟨n,x,y⟩:=k
 simp only at h1 h2 hx hy ⊢
 obtain ⟨e2,e3⟩:=itoa_nn (n:=n) (by omega)
 have hg:=c_path (w:=Lib.itoa n) (d:=d) (by omega) (by omega) hx hy
 rw [e3] at hg
 have ht:dotT n x y=Lib.itoa n++([46]++(x++([46]++y))):=by unfold dotT cat;simp
 rw [ht]
 exact ⟨[(2,Lib.itoa n),(4,[46]),(1,x),(4,[46]),(1,y)],lx_app (lx_num e2) (lo_app (lo_op (c:=46) (by decide)) (lx_app (lx_word (val_word hx)) (lo_app (lo_op (c:=46) (by decide)) (lx_word (val_word hy))) rfl)) rfl,hg,
  hdOK_k (by decide) (.inl (by decide)),fun _ _=>⟨by simp,.inr ⟨_,_,rfl⟩⟩⟩
theorem rt_mode {s:List UInt8} (hs:valB s=true):RT (cat [109,111,100,101,32,105,115,32] s) 8 d (.mk 3 0 0 s zV zK []):=by
 exact ⟨_,lx_wsp (w:=[109,111,100,101]) (by decide) (lx_wsp (w:=[105,115]) (by decide) (lx_word (val_word hs))),c_mode hs,hdOK_w (by decide) (by decide),fun _ _=>npl_w⟩
theorem two_dg:∀ k:_root_.Fin 60,dgB (two k.val)=true:=by decide +kernel
theorem lx_clk {n:Nat} (h:n < 1440):Lx (clkT n) (clkK n):=by
 have e1:=two_dg ⟨n / 60,by omega⟩
 have e2:=two_dg ⟨n % 60,by omega⟩
 exact lx_app (lx_num e1) (lo_app (lo_op (c:=58) (by decide)) (lx_num e2)) rfl
theorem rt_time {n m:Nat} (hn:n < 1440) (hm:m < 1440):RT (cat (cat (cat [116,105,109,101,32] (clkT n)) [32,116,111,32]) (clkT m)) 8 d (.mk 4 n m [] zV zK []):=by
 have ht:cat (cat (cat [116,105,109,101,32] (clkT n)) [32,116,111,32]) (clkT m)=[116,105,109,101]++32 :: (clkT n++32 :: ([116,111]++32 :: clkT m)):=by unfold cat;simp
 rw [ht]
 exact ⟨_,lx_wsp (by decide) (lx_app (lx_clk hn) (lx_sp (lx_wsp (by decide) (lx_clk hm))) rfl),c_time hn hm,hdOK_w (by decide) (by decide),fun _ _=>npl_w⟩
theorem rt_home {n:Nat} (hn:n<=4):RT (homeN n) 8 d (.mk 15 n 0 [] zV zK []):=by
 match n,hn with
 | 0,_=>exact ⟨_,lx_word (w:=[104,111,109,101]) (by decide),c_home,hdOK_w (by decide) (by decide),fun _ _=>npl_w⟩
 | 1,_=>exact ⟨_,lx_wsp (w:=[104,111,109,101]) (by decide) (lx_word (w:=[103,117,101,115,116]) (by decide)),c_role (k:=0) rfl,hdOK_w (by decide) (by decide),fun _ _=>npl_w⟩
 | 2,_=>exact ⟨_,lx_wsp (w:=[104,111,109,101]) (by decide) (lx_word (w:=[99,104,105,108,100]) (by decide)),c_role (k:=1) rfl,hdOK_w (by decide) (by decide),fun _ _=>npl_w⟩
 | 3,_=>exact ⟨_,lx_wsp (w:=[104,111,109,101]) (by decide) (lx_word (w:=[97,100,117,108,116]) (by decide)),c_role (k:=2) rfl,hdOK_w (by decide) (by decide),fun _ _=>npl_w⟩
 | 4,_=>exact ⟨_,lx_wsp (w:=[104,111,109,101]) (by decide) (lx_word (w:=[111,119,110,101,114]) (by decide)),c_role (k:=3) rfl,hdOK_w (by decide) (by decide),fun _ _=>npl_w⟩
def dayK:Nat->List (List UInt8)->List KT
 | _,[]=>[]
 | m,w :: r=>if m % 2=1 then (if m / 2=0 then [(1,w)] else (1,w) :: (4,[44]) :: dayK (m / 2) r) else dayK (m / 2) r
def dayU:Nat->List (List UInt8)->Nat->Nat->Nat
 | _,[],_,a=>a
 | m,_ :: r,k,a=>if m % 2=1 then (if m / 2=0 then a ||| 2 ^ k else dayU (m / 2) r (k+1) (a ||| 2 ^ k)) else dayU (m / 2) r (k+1) a
theorem dayU_all:∀ m:_root_.Fin 128,dayU m.val dayWs 0 0=m.val:=by decide +kernel
theorem lx_days:∀ (ws:List (List UInt8)) (m:Nat),(∀ w ∈ ws,wordB w=true)->m≠0->m < 2 ^ ws.length->Lx (dayL m ws) (dayK m ws)
 | [],m,_,h0,h=>by simp at h;omega
 | w :: r,m,hw,h0,h=>by
  rw [List.length_cons,Nat.pow_succ] at h
  unfold dayL dayK
  by_cases c:m % 2=1
  · rw [if_pos c,if_pos c]
    by_cases c2:m / 2=0
    · rw [if_pos c2,if_pos c2]
      exact lx_word (hw w (by simp))
    · rw [if_neg c2,if_neg c2]
      exact lx_app (lx_word (hw w (by simp))) (lo_app (lo_op (c:=44) (by decide)) (lx_days r (m / 2) (fun x hx=>hw x (by simp [hx])) c2 (by omega))) rfl
  · rw [if_neg c,if_neg c]
    exact lx_days r (m / 2) (fun x hx=>hw x (by simp [hx])) (by omega) (by omega)
theorem day_on {L:List Tk} {i k:Nat} {w:List UInt8} {r:List KT} (h:onT L i ((1,w) :: r)) (hp:pickB (1,w) 1 dayWs 0=some k):dayP L i=.ok k (i+1):=by
 unfold dayP
 rw [pick_on h]
 show (match pickB (1,w) 1 dayWs 0 with | some k=>_ | none=>_)=_
 rw [hp]
theorem on_days {L:List Tk}:∀ (ws:List (List UInt8)) (k m a n i:Nat) (r:List KT),(∀ j w,ws[j]?=some w->pickB (1,w) 1 dayWs 0=some (k+j))->m≠0->m < 2 ^ ws.length->(dayK m ws).length<=n->onT L i (dayK m ws++r)->lvT (hdT r) < 8 ->
 daysL L n a i=.ok (dayU m ws k a) (i+(dayK m ws).length)
 | [],k,m,a,n,i,r,_,h0,h,_,_,_=>by simp at h;omega
 | w :: q,k,m,a,n,i,r,hw,h0,h,hn,hon,hl=>by
  rw [List.length_cons,Nat.pow_succ] at h
  have hw0:=hw 0 w rfl
  have hws:∀ j x,q[j]?=some x->pickB (1,x) 1 dayWs 0=some (k+1+j):=fun j x hx=>by
   have:=hw (j+1) x hx
   rw [this];congr 1;omega
  unfold dayK at hon hn ⊢
  unfold dayU
  by_cases c:m % 2=1
  · rw [if_pos c] at hon hn ⊢
    rw [if_pos c]
    by_cases c2:m / 2=0
    · rw [if_pos c2] at hon hn ⊢
      rw [if_pos c2]
      rw [List.length_singleton] at hn
      obtain ⟨n,rfl⟩:∃ x,n=x+1:=⟨n - 1,by omega⟩
      unfold daysL
      rw [day_on hon hw0,bnd_ok,isT_no (onT_tl hon) hl (by decide)]
      rfl
    · rw [if_neg c2] at hon hn ⊢
      rw [if_neg c2]
      rw [List.length_cons,List.length_cons] at hn
      obtain ⟨n,rfl⟩:∃ x,n=x+1:=⟨n - 1,by omega⟩
      have h1:=onT_tl hon
      have ih:=on_days q (k+1) (m / 2) (a ||| 2 ^ k) n (i+1+1) r hws c2 (by omega) (by omega) (onT_tl h1) hl
      unfold daysL
      rw [day_on hon hw0,bnd_ok,isT_yes h1,if_pos rfl]
      show daysL L n (a ||| 2 ^ (k+0)) (i+1+1)=_
      rw [Nat.add_zero,ih]
      exact ok_at (by simp only [List.length_cons];omega)
  · rw [if_neg c] at hon hn ⊢
    rw [if_neg c]
    exact on_days q (k+1) (m / 2) a n i r hws (by omega) (by omega) hn hon hl
theorem onT_len {L:List Tk} {i:Nat} {ts r:List KT} (h:onT L i (ts++r)):ts.length<=L.length:=by
 unfold onT at h
 have:((L.drop i).map kt).length=(ts++r).length:=by rw [h]
 rw [List.length_map,List.length_drop,List.length_append] at this
 omega
theorem day_pick:∀ (j:Nat) (w:List UInt8),dayWs[j]?=some w->pickB (1,w) 1 dayWs 0=some (0+j):=by
 intro j w h
 match j,h with
 | 0,h | 1,h | 2,h | 3,h | 4,h | 5,h | 6,h=>injection h with h;subst h;rfl
 | j+7,h=>cases h
theorem c_days {m:Nat} (h0:m≠0) (h:m < 128):GR .prim 8 ((1,[100,97,121,115]) :: dayK m dayWs) d (.mk 5 m 0 [] zV zK []):=c_word fun L i r hon hl=>by
 have h1:onT L (i+1) (dayK m dayWs++r):=onT_tl hon
 have h2:=on_days dayWs 0 m 0 (L.length+1) (i+1) r day_pick h0 h (by have:=onT_len h1;omega) h1 hl
 have hu:=dayU_all ⟨m,h⟩
 simp only at hu
 rw [hu] at h2
 have h0':onT L i ((1,[100,97,121,115]) :: (dayK m dayWs++r)):=hon
 unfold condP daysP
 rw [cond_w h0',cond_w h0',cond_w h0',cond_w h0',cond_w h0',h2]
 show PR.ok _ _=PR.ok _ _
 exact ok_at (by simp only [List.length_cons];omega)
theorem rt_days {m:Nat} (h0:m≠0) (h:m < 128):RT (dayN m) 8 d (.mk 5 m 0 [] zV zK []):=
 ⟨_,lx_wsp (w:=[100,97,121,115]) (by decide) (lx_days dayW m (by decide) h0 h),c_days h0 h,hdOK_w (by decide) (by decide),fun _ _=>npl_w⟩
end
end Go.HH
namespace Go.HH
open Go Go.Proofs
set_option maxRecDepth 100000
set_option linter.unusedSimpArgs false
set_option linter.unusedVariables false
section
variable {d:Nat} {A B C:List UInt8} {a b c:Tr}
theorem rt_par (h:RT A 0 d a):RT (cat (cat [40] A) [41]) 8 (d+1) a:=by
 obtain ⟨ts,h1,h2,h3,_⟩:=h
 have e:cat (cat [40] A) [41]=[40]++(A++[41]):=by unfold cat;simp
 rw [e]
 exact ⟨(4,[40]) :: (ts++[(4,[41])]),lo_app (lo_op (c:=40) (by decide)) (lx_app h1 (lo_op (c:=41) (by decide)).lx rfl),c_par h2,hdOK_k (by decide) (.inr (by decide)),fun _ _=>⟨by simp,.inl (by decide:(4:Nat)≠2)⟩⟩
theorem hdOK_app {l:Nat} {ts r:List KT} (h:hdOK l ts):hdOK l (ts++r):=by
 obtain ⟨h1,h2⟩:=h
 refine ⟨by simp [h1],?_⟩
 rw [hdT_app h1]
 exact h2
theorem rt_if (ha:RT A 0 d a) (hb:RT B 0 d b) (hc:RT C 0 d c):RT (cat (cat (cat (cat (cat [105,102,32] A) [32,116,104,101,110,32]) B) [32,101,108,115,101,32]) C) 0 (d+1) (nodT 14 [a,b,c]):=by
 obtain ⟨t1,x1,y1,_,_⟩:=ha
 obtain ⟨t2,x2,y2,_,_⟩:=hb
 obtain ⟨t3,x3,y3,_,_⟩:=hc
 have e:cat (cat (cat (cat (cat [105,102,32] A) [32,116,104,101,110,32]) B) [32,101,108,115,101,32]) C=[105,102]++32 :: (A++(32 :: ([116,104,101,110]++32 :: (B++(32 :: ([101,108,115,101]++32 :: C)))))):=by unfold cat;simp
 rw [e]
 exact ⟨_,lx_wsp (by decide) (lx_app x1 (lx_sp (lx_wsp (by decide) (lx_app x2 (lx_sp (lx_wsp (by decide) x3)) rfl))) rfl),c_if y1 y2 y3,⟨by simp,fun h=>absurd h (by decide),fun h=>absurd h (by decide),fun h=>absurd h (by decide)⟩,fun h=>absurd h (by decide)⟩
theorem lx_pair {op:List UInt8} {t1 t2:List KT} (x1:Lx A t1) (x2:Lx B t2) (ho:Lx op [(4,op)]):Lx (cat (cat (cat (cat A [32]) op) [32]) B) (t1++(4,op) :: t2):=by
 have e:cat (cat (cat (cat A [32]) op) [32]) B=A++(32 :: (op++(32 :: B))):=by unfold cat;simp
 rw [e]
 exact lx_app x1 (lx_sp (lx_app ho (lx_sp x2) rfl)) rfl
theorem rt_cmp {op:List UInt8} {k:Nat} (hw:pickB (4,op) 4 cmpWs 0=some k) (hl4:lvT (4,op) < 5) (ho:Lx op [(4,op)]) (ha:RT A 5 d a) (hb:RT B 5 d b):RT (cat (cat (cat (cat A [32]) op) [32]) B) 4 d (cmpT k a b):=by
 obtain ⟨t1,x1,y1,z1,_⟩:=ha
 obtain ⟨t2,x2,y2,_,_⟩:=hb
 exact ⟨_,lx_pair x1 x2 ho,c_cmp hw hl4 y1 y2,hdOK_app (z1.mono (by decide)),fun h=>absurd h (by decide)⟩
theorem rt_add (ha:RT A 5 d a) (hb:RT B 6 d b):RT (cat (cat (cat (cat A [32]) [43]) [32]) B) 5 d (nodT 11 [a,b]):=by
 obtain ⟨t1,x1,y1,z1,_⟩:=ha
 obtain ⟨t2,x2,y2,_,_⟩:=hb
 exact ⟨_,lx_pair x1 x2 (lo_op (c:=43) (by decide)).lx,c_add y1 y2,hdOK_app z1,fun h=>absurd h (by decide)⟩
theorem rt_sub (ha:RT A 5 d a) (hb:RT B 6 d b):RT (cat (cat (cat (cat A [32]) [45]) [32]) B) 5 d (nodT 12 [a,b]):=by
 obtain ⟨t1,x1,y1,z1,_⟩:=ha
 obtain ⟨t2,x2,y2,_,_⟩:=hb
 exact ⟨_,lx_pair x1 x2 (lo_op (c:=45) (by decide)).lx,c_sub y1 y2,hdOK_app z1,fun h=>absurd h (by decide)⟩
theorem rt_mul (ha:RT A 6 d a) (hb:RT B 7 d b):RT (cat (cat (cat (cat A [32]) [42]) [32]) B) 6 d (nodT 13 [a,b]):=by
 obtain ⟨t1,x1,y1,z1,_⟩:=ha
 obtain ⟨t2,x2,y2,_,_⟩:=hb
 exact ⟨_,lx_pair x1 x2 (lo_op (c:=42) (by decide)).lx,c_mul y1 y2,hdOK_app z1,fun h=>absurd h (by decide)⟩
theorem rt_not (ha:RT A 3 d a):RT (cat [110,111,116,32] A) 3 (d+1) (nodT 6 [a]):=by
 obtain ⟨t1,x1,y1,z1,_⟩:=ha
 exact ⟨(1,[110,111,116]) :: t1,lx_wsp (w:=[110,111,116]) (by decide) x1,c_not y1,⟨by simp,fun _ h=>absurd (congrArg Prod.snd h) (by decide:([110,111,116]:List UInt8)≠[105,102]),fun h=>absurd h (by decide),fun h=>absurd h (by decide)⟩,fun h=>absurd h (by decide)⟩
theorem rt_neg (ha:RT A 7 d a) (hk:kdOf a≠1):RT (cat [45] A) 7 (d+1) (nodT 12 [litT 2 0,a]):=by
 obtain ⟨t1,x1,y1,z1,w1⟩:=ha
 exact ⟨(4,[45]) :: t1,lo_app (lo_op (c:=45) (by decide)) x1,c_neg y1 (w1 (by decide) hk),hdOK_m,fun _ _=>⟨by simp,.inl (by decide:(4:Nat)≠2)⟩⟩
end
def rwS (op:List UInt8):List (List UInt8)->List UInt8
 | []=>[]
 | s :: r=>32 :: (op++32 :: (s++rwS op r))
theorem bk_rw (op:List UInt8):∀ l,bk (rwS op l)=true
 | []=>rfl
 | _ :: _=>rfl
theorem lx_row {b:Bool} {lb d:Nat}:∀ (l:List (List UInt8×Tr)),(∀ x ∈ l,∃ ts,Lx x.1 ts∧GR (opdNT b) lb ts d x.2)->∃ ks:List (List KT×Tr),ks.map (·.2)=l.map (·.2)∧(∀ y ∈ ks,GR (opdNT b) lb y.1 d y.2)∧Lx (rwS (chW b) (l.map (·.1))) (flR b ks)
 | [],_=>⟨[],rfl,fun _ h=>(by cases h),lx_nil.lx⟩
 | (s,e) :: l,h=>by
  obtain ⟨ks,k1,k2,k3⟩:=lx_row l fun x hx=>h x (by simp [hx])
  obtain ⟨ts,t1,t2⟩:=h (s,e) (by simp)
  refine ⟨(ts,e) :: ks,by rw [List.map_cons,List.map_cons,k1],fun y hy=>?_,?_⟩
  · rcases List.mem_cons.1 hy with rfl | hy
    · exact t2
    · exact k2 y hy
  · exact lx_sp (lx_wsp (by cases b <;> decide) (lx_app t1 k3 (bk_rw _ _)))
theorem rt_row (b:Bool) {d:Nat} {s:List UInt8} {e:Tr} {l:List (List UInt8×Tr)} (hn:l.length<=7) (h:∀ x ∈ (s,e) :: l,RT x.1 (if b then 2 else 3) d x.2):RT (s++rwS (chW b) (l.map (·.1))) (lvT (1,chW b)) d (chT b (e :: l.map (·.2))):=by
 have hx:∀ x ∈ (s,e) :: l,∃ ts,Lx x.1 ts∧GR (opdNT b) (if b then 2 else 3) ts d x.2:=fun x hx=>by
  obtain ⟨ts,t1,t2,_,_⟩:=h x hx
  refine ⟨ts,t1,?_⟩
  cases b <;> exact t2
 obtain ⟨ks,k1,k2,k3⟩:=lx_row l fun x h=>hx x (by simp [h])
 obtain ⟨ts,t1,t2,t3,_⟩:=h (s,e) (by simp)
 have hl:ks.length<=7:=by
  have:(ks.map (·.2)).length=(l.map (·.2)).length:=by rw [k1]
  rw [List.length_map,List.length_map] at this
  omega
 have hg:=c_row (b:=b) (lb:=if b then 2 else 3) (by cases b <;> decide) hl (A:=ts) (a:=e) (d:=d) (by cases b <;> exact t2) k2
 rw [k1] at hg
 refine ⟨ts++flR b ks,lx_app t1 k3 (bk_rw _ _),?_,hdOK_app (t3.mono (by cases b <;> decide)),fun h=>absurd h (by cases b <;> decide)⟩
 cases b <;> exact hg
theorem rowS_eq (op:List UInt8) (least:Int):∀ (l:List At) (i:Nat) (acc:List UInt8),rowS op least l (i+1) acc=acc++rwS op (l.map fun a=>kdS a least)
 | [],_,acc=>by unfold rowS;show acc=acc++[];rw [List.append_nil]
 | a :: r,i,acc=>by
  unfold rowS
  rw [if_pos (by omega),rowS_eq op least r (i+1)]
  show _=acc++(32 :: (op++32 :: (kdS a least++rwS op (r.map fun a=>kdS a least))))
  unfold cat
  simp
theorem rowS_0 (op:List UInt8) (least:Int) (a:At) (l:List At):rowS op least (a :: l) 0 []=kdS a least++rwS op (l.map fun a=>kdS a least):=by
 show rowS op least l 1 (cat (if 0 < 0 then _ else []) (kdS a least))=_
 rw [if_neg (by omega),rowS_eq]
 rfl
def RB (t:Tr) (d:Nat):Prop:=RT (TX t) (LV t).toNat d t∧0<=LV t∧LV t<=8
def RR (t:Tr) (d:Nat):Prop:=RB t d∧ndT t=0∧∀ g ∈ kidsOf t,RB g d
theorem RB.mono {t:Tr} {d d':Nat} (h:RB t d) (hd:d<=d'):RB t d':=⟨h.1.le (Nat.le_refl _) hd,h.2⟩
theorem rt_kd {t:Tr} {d:Nat} (h:RB t d) (least:Int) (l:Nat) (hl:least=l) (h8:l<=8):RT (kdS (an t) least) l (d+1) t:=by
 obtain ⟨h1,h2,h3⟩:=h
 unfold kdS
 by_cases c:(an t).lv < least
 · rw [if_pos c]
   exact (rt_par (h1.le (Nat.zero_le _) (Nat.le_refl _))).le h8 (Nat.le_refl _)
 · rw [if_neg c]
   have c:¬ LV t < least:=c
   exact h1.le (by omega) (by omega)
theorem sp0 {k n m:Int} {nm:List UInt8} {v:Vl} {key:Ky} {kids:List Tr} (h:spT (.mk k n m nm v key kids)=false) :
 (n=0∨k=4∨k=5∨k=15)∧(m=0∨k=4)∧(nm=[]∨k=3)∧(v=zV∨k=1)∧(key=zK∨k=2):=by
 obtain ⟨v1,v2,v3⟩:=v
 obtain ⟨y1,y2,y3⟩:=key
 simp only [spT,spB,eqVl,eqKy,Bool.or_eq_false_iff,Bool.and_eq_false_iff,Bool.not_eq_false',Bool.or_eq_true,Bool.and_eq_true,beq_iff_eq,bne_eq_false_iff_eq] at h
 obtain ⟨⟨⟨⟨h1,h2⟩,h3⟩,h4⟩,h5⟩:=h
 refine ⟨?_,h2,h3,?_,?_⟩
 · rcases h1 with h | (h | h) | h
   · exact .inl h
   · exact .inr (.inl h)
   · exact .inr (.inr (.inl h))
   · exact .inr (.inr (.inr h))
 · rcases h4 with ⟨⟨rfl,rfl⟩,rfl⟩ | h
   · exact .inl rfl
   · exact .inr h
 · rcases h5 with ⟨⟨rfl,rfl⟩,rfl⟩ | h
   · exact .inl rfl
   · exact .inr h
theorem nd0 {k n m:Int} {nm:List UInt8} {v:Vl} {key:Ky} {kids:List Tr} (h:ndT (.mk k n m nm v key kids)=0) :
 1<=k∧k<=15∧kdB k kids.length=true∧spT (.mk k n m nm v key kids)=false∧rgB k n m key.1=true∧(k=3->valB nm=true)∧(k=2->valB key.2.1=true∧valB key.2.2=true)∧(k=1->ckV v=0∧v.1≠0):=by
 have h:(if k < 1∨15 < k then (7:Int) else if kdB k kids.length=false∨spT (.mk k n m nm v key kids)=true then 1 else if rgB k n m key.1=false then 2 else
  if k=3 then (if valB nm then 0 else 10) else if k=2 then (if valB key.2.1 && valB key.2.2 then 0 else 10) else if k=1 then (if ckV v≠0 then ckV v else if v.1=0 then 7 else 0) else 0)=0:=h
 by_cases c1:k < 1∨15 < k
 · rw [if_pos c1] at h;cases h
 rw [if_neg c1] at h
 by_cases c2:kdB k kids.length=false∨spT (.mk k n m nm v key kids)=true
 · rw [if_pos c2] at h;cases h
 rw [if_neg c2] at h
 by_cases c3:rgB k n m key.1=false
 · rw [if_pos c3] at h;cases h
 rw [if_neg c3] at h
 refine ⟨by omega,by omega,?_,?_,?_,fun e=>?_,fun e=>?_,fun e=>?_⟩
 · cases x:kdB k kids.length with
   | true=>rfl
   | false=>exact absurd (.inl x) c2
 · cases x:spT (.mk k n m nm v key kids) with
   | false=>rfl
   | true=>exact absurd (.inr x) c2
 · cases x:rgB k n m key.1 with
   | true=>rfl
   | false=>exact absurd x c3
 · rw [if_pos e] at h
   cases x:valB nm with
   | true=>rfl
   | false=>rw [x] at h;cases h
 · rw [if_neg (by omega),if_pos e] at h
   cases x:valB key.2.1 with
   | false=>rw [x] at h;cases h
   | true=>
    cases y:valB key.2.2 with
    | true=>exact ⟨rfl,rfl⟩
    | false=>rw [x,y] at h;cases h
 · rw [if_neg (by omega),if_neg (by omega),if_pos e] at h
   by_cases x:ckV v=0
   · rw [if_neg (fun y=>y x)] at h
     refine ⟨x,fun y=>?_⟩
     rw [if_pos y] at h;cases h
   · rw [if_pos x] at h;exact absurd h x
end Go.HH
namespace Go.HH
open Go Go.Proofs
set_option maxRecDepth 100000
set_option linter.unusedSimpArgs false
set_option linter.unusedVariables false
theorem TX_mk (k n m:Int) (nm:List UInt8) (v:Vl) (key:Ky) (kids:List Tr):TX (.mk k n m nm v key kids)=bdT k n m nm v key kids (ans kids):=by
 unfold TX;rw [an_eq];rfl
theorem LV_mk (k n m:Int) (nm:List UInt8) (v:Vl) (key:Ky) (kids:List Tr):LV (.mk k n m nm v key kids)=blT k v kids:=by
 unfold LV;rw [an_eq];rfl
theorem len1 {l:List Tr} (h:l.length=1):∃ a,l=[a]:=by
 match l,h with
 | [a],_=>exact ⟨a,rfl⟩
theorem len2 {l:List Tr} (h:l.length=2):∃ a b,l=[a,b]:=by
 match l,h with
 | [a,b],_=>exact ⟨a,b,rfl⟩
theorem len3 {l:List Tr} (h:l.length=3):∃ a b c,l=[a,b,c]:=by
 match l,h with
 | [a,b,c],_=>exact ⟨a,b,c,rfl⟩
theorem ans1 (a:Tr):ans [a]=[an a]:=by rw [ans_map];rfl
theorem ans2 (a b:Tr):ans [a,b]=[an a,an b]:=by rw [ans_map];rfl
theorem ans3 (a b c:Tr):ans [a,b,c]=[an a,an b,an c]:=by rw [ans_map];rfl
theorem nd_two {t:Tr} {k:Int} (h:ndT t=0) (hk:kdOf t=k) (h9:9<=k) (h13:k<=13):∃ a b,t=nodT k [a,b]:=by
 obtain ⟨k',n,m,nm,v,key,kids⟩:=t
 have hk:k'=k:=hk
 subst hk
 obtain ⟨_,_,f3,f4,_⟩:=nd0 h
 obtain ⟨s1,s2,s3,s4,s5⟩:=sp0 f4
 have e1:n=0:=by omega
 have e2:m=0:=by omega
 have e3:nm=[]:=s3.resolve_right (by omega)
 have e4:v=zV:=s4.resolve_right (by omega)
 have e5:key=zK:=s5.resolve_right (by omega)
 have hl:kids.length=2:=by
  unfold kdB at f3
  rw [if_neg (by omega),if_neg (by omega),if_pos ⟨h9,h13⟩] at f3
  have:=beq_iff_eq.1 f3
  omega
 obtain ⟨a,b,rfl⟩:=len2 hl
 exact ⟨a,b,by rw [e1,e2,e3,e4,e5];rfl⟩
theorem sm_lit {t:Tr} (h:smB t 1 0 0 [] (2,0,[]) (0,[],[])=true):t=litT 2 0:=by
 obtain ⟨k,n,m,nm,⟨v1,v2,v3⟩,⟨y1,y2,y3⟩,kids⟩:=t
 simp only [smB,eqVl,eqKy,Bool.and_eq_true,beq_iff_eq] at h
 obtain ⟨⟨⟨⟨⟨⟨rfl,rfl⟩,rfl⟩,rfl⟩,⟨rfl,rfl⟩,rfl⟩,⟨rfl,rfl⟩,rfl⟩,h⟩:=h
 rw [List.length_eq_zero_iff.1 h]
 rfl
theorem rb_of {t:Tr} {w:List UInt8} {l d:Nat} (h1:TX t=w) (h2:LV t=l) (h8:l<=8) (h:RT w l d t):RB t d:=by
 refine ⟨?_,by omega,by omega⟩
 rw [h1,h2]
 exact h
theorem nd_row {k:Int} (b:Bool) (hb:k=if b then 8 else 7) {d:Nat} {kids:List Tr} (hl:2<=kids.length∧kids.length<=8) (hk:∀ t ∈ kids,RR t d):RB (nodT k kids) (d+2):=by
 match kids,hl,hk with
 | a :: c :: r,hl,hk=>
  have h:=rt_row b (d:=d+1) (s:=kdS (an a) (if b then 2 else 3)) (e:=a) (l:=(c :: r).map fun t=>(kdS (an t) (if b then 2 else 3),t)) (by simp at hl ⊢;omega) (fun x hx=>by
   have key:∀ t ∈ a :: c :: r,RT (kdS (an t) (if b then 2 else 3)) (if b then 2 else 3) (d+1) t:=fun t ht=>rt_kd (hk t ht).1 _ _ (by cases b <;> rfl) (by cases b <;> decide)
   rcases List.mem_cons.1 hx with rfl | hx
   · exact key a (by simp)
   · obtain ⟨t,ht,rfl⟩:=List.mem_map.1 hx
     exact key t (List.mem_cons_of_mem _ ht))
  have e1:((c :: r).map fun t=>(kdS (an t) (if b then 2 else 3),t)).map (·.2)=c :: r:=by rw [List.map_map];exact List.map_id' _
  have e2:((c :: r).map fun t=>(kdS (an t) (if b then 2 else 3),t)).map (·.1)=(ans (c :: r)).map fun x=>kdS x (if b then 2 else 3):=by
   rw [List.map_map,ans_map,List.map_map];rfl
  rw [e1,e2,<- rowS_0] at h
  have h:=h.le (Nat.le_refl _) (by omega:d+1<=d+2)
  cases b
  · have hb:k=7:=hb
    subst hb
    exact rb_of (by rw [nodT,TX_mk] <;> rfl) (by rw [nodT,LV_mk] <;> rfl) (by decide) h
  · have hb:k=8:=hb
    subst hb
    exact rb_of (by rw [nodT,TX_mk] <;> rfl) (by rw [nodT,LV_mk] <;> rfl) (by decide) h
set_option maxHeartbeats 2000000 in
theorem rt_node {k n m:Int} {nm:List UInt8} {v:Vl} {key:Ky} {kids:List Tr} {d:Nat} (h:ndT (.mk k n m nm v key kids)=0) (hk:∀ t ∈ kids,RR t d):RB (.mk k n m nm v key kids) (d+2):=by
 obtain ⟨f1,f2,f3,f4,f5,f6,f7,f8⟩:=nd0 h
 obtain ⟨s1,s2,s3,s4,s5⟩:=sp0 f4
 have K:∀ {t:Tr},t ∈ kids->∀ (least:Int) (l:Nat),least=l->l<=8->RT (kdS (an t) least) l (d+1) t:=fun ht least l e1 e2=>rt_kd (hk _ ht).1 least l e1 e2
 have fN:n=0∨k=4∨k=5∨k=15:=s1
 unfold kdB at f3
 have hks:k=1∨k=2∨k=3∨k=4∨k=5∨k=6∨k=7∨k=8∨k=9∨k=10∨k=11∨k=12∨k=13∨k=14∨k=15:=by omega
 have z0:k≠4->k≠5->k≠15->n=0:=fun a b c=>by omega
 have z1:k≠4->m=0:=fun a=>s2.resolve_right a
 have z2:k≠3->nm=[]:=fun a=>s3.resolve_right a
 have z3:k≠1->v=zV:=fun a=>s4.resolve_right a
 have z4:k≠2->key=zK:=fun a=>s5.resolve_right a
 have lf:(if k=6 then (kids.length:Int) == 1 else if k=7∨k=8 then decide (2<=(kids.length:Int)) && decide ((kids.length:Int)<=8) else if 9<=k∧k<=13 then (kids.length:Int) == 2 else if k=14 then (kids.length:Int) == 3 else (kids.length:Int) == 0)=true:=f3
 clear f3 s1 s2 s3 s4 s5 fN f4
 rcases hks with rfl | rfl | rfl | rfl | rfl | rfl | rfl | rfl | rfl | rfl | rfl | rfl | rfl | rfl | rfl
 · have hl:kids=[]:=List.length_eq_zero_iff.1 (by simpa using lf)
   subst hl
   obtain rfl:=z0 (by decide) (by decide) (by decide);obtain rfl:=z1 (by decide);obtain rfl:=z2 (by decide);obtain rfl:=z4 (by decide)
   obtain ⟨g1,g2⟩:=f8 rfl
   have hv:lvV v=7∨lvV v=8:=by unfold lvV;split <;> simp
   exact rb_of (l:=(lvV v).toNat) (by rw [TX_mk] <;> rfl) (by rw [LV_mk];show lvV v=_;omega) (by omega) (rt_lit g1 g2)
 · have hl:kids=[]:=List.length_eq_zero_iff.1 (by simpa using lf)
   subst hl
   obtain rfl:=z0 (by decide) (by decide) (by decide);obtain rfl:=z1 (by decide);obtain rfl:=z2 (by decide);obtain rfl:=z3 (by decide)
   obtain ⟨g1,g2⟩:=f7 rfl
   have hr:1<=key.1∧key.1<=250:=by simpa [rgB] using f5
   exact rb_of (l:=8) (by rw [TX_mk] <;> rfl) (by rw [LV_mk] <;> rfl) (by omega) (rt_path hr.1 hr.2 g1 g2)
 · have hl:kids=[]:=List.length_eq_zero_iff.1 (by simpa using lf)
   subst hl
   obtain rfl:=z0 (by decide) (by decide) (by decide);obtain rfl:=z1 (by decide);obtain rfl:=z3 (by decide);obtain rfl:=z4 (by decide)
   exact rb_of (l:=8) (by rw [TX_mk] <;> rfl) (by rw [LV_mk] <;> rfl) (by omega) (rt_mode (f6 rfl))
 · have hl:kids=[]:=List.length_eq_zero_iff.1 (by simpa using lf)
   subst hl
   obtain rfl:=z2 (by decide);obtain rfl:=z3 (by decide);obtain rfl:=z4 (by decide)
   have hr:0<=n∧n < 1440∧0<=m∧m < 1440:=by simpa [rgB] using f5
   have g:=rt_time (d:=d+2) (n:=n.toNat) (m:=m.toNat) (by omega) (by omega)
   rw [show ((n.toNat:Nat):Int)=n from by omega,show ((m.toNat:Nat):Int)=m from by omega] at g
   exact rb_of (l:=8) (by rw [TX_mk] <;> rfl) (by rw [LV_mk] <;> rfl) (by omega) g
 · have hl:kids=[]:=List.length_eq_zero_iff.1 (by simpa using lf)
   subst hl
   obtain rfl:=z1 (by decide);obtain rfl:=z2 (by decide);obtain rfl:=z3 (by decide);obtain rfl:=z4 (by decide)
   have hr:1<=n∧n<=127:=by simpa [rgB] using f5
   have g:=rt_days (d:=d+2) (m:=n.toNat) (by omega) (by omega)
   rw [show ((n.toNat:Nat):Int)=n from by omega] at g
   exact rb_of (l:=8) (by rw [TX_mk] <;> rfl) (by rw [LV_mk] <;> rfl) (by omega) g
 · have hl:kids.length=1:=Int.ofNat_inj.1 (show (kids.length:Int)=((1:Nat):Int) from by simpa using lf)
   obtain ⟨a,rfl⟩:=len1 hl
   obtain rfl:=z0 (by decide) (by decide) (by decide);obtain rfl:=z1 (by decide);obtain rfl:=z2 (by decide);obtain rfl:=z3 (by decide);obtain rfl:=z4 (by decide)
   have ha:=hk a (by simp)
   by_cases c9:kdOf a=9
   · obtain ⟨x,y,rfl⟩:=nd_two ha.2.1 c9 (by decide) (by decide)
     have kx:RT (kdS (an x) 5) 5 (d+1) x:=rt_kd (ha.2.2 x (by simp [kidsOf,nodT])) 5 5 rfl (by decide)
     have ky:RT (kdS (an y) 5) 5 (d+1) y:=rt_kd (ha.2.2 y (by simp [kidsOf,nodT])) 5 5 rfl (by decide)
     have g:=rt_cmp (k:=1) (op:=[33,61]) rfl (by decide) (lo_op2 (c:=33) (by decide)).lx kx ky
     refine rb_of (l:=4) ?_ (by rw [LV_mk] <;> rfl) (by omega) (g.le (Nat.le_refl _) (by omega))
     rw [TX_mk,ans1]
     show ngS 9 (an (nodT 9 [x,y]))=_
     unfold ngS
     rw [if_pos rfl,an_ks,show kidsOf (nodT 9 [x,y])=[x,y] from rfl,ans2]
     rfl
   · by_cases c10:kdOf a=10
     · obtain ⟨x,y,rfl⟩:=nd_two ha.2.1 c10 (by decide) (by decide)
       have kx:RT (kdS (an x) 5) 5 (d+1) x:=rt_kd (ha.2.2 x (by simp [kidsOf,nodT])) 5 5 rfl (by decide)
       have ky:RT (kdS (an y) 5) 5 (d+1) y:=rt_kd (ha.2.2 y (by simp [kidsOf,nodT])) 5 5 rfl (by decide)
       have g:=rt_cmp (k:=5) (op:=[60,61]) rfl (by decide) (lo_op2 (c:=60) (by decide)).lx ky kx
       refine rb_of (l:=4) ?_ (by rw [LV_mk] <;> rfl) (by omega) (g.le (Nat.le_refl _) (by omega))
       rw [TX_mk,ans1]
       show ngS 10 (an (nodT 10 [x,y]))=_
       unfold ngS
       rw [if_neg (by decide),if_pos rfl,an_ks,show kidsOf (nodT 10 [x,y])=[x,y] from rfl,ans2]
       rfl
     · have g:=rt_not (K (t:=a) (by simp) 3 3 rfl (by decide))
       refine rb_of (l:=3) ?_ ?_ (by omega) g
       · rw [TX_mk,ans1]
         show ngS (kdOf a) (an a)=_
         unfold ngS
         rw [if_neg c9,if_neg c10]
       · rw [LV_mk]
         show ngL (kdOf a)=_
         unfold ngL
         rw [if_neg c9,if_neg c10];rfl
 · obtain rfl:=z0 (by decide) (by decide) (by decide);obtain rfl:=z1 (by decide);obtain rfl:=z2 (by decide);obtain rfl:=z3 (by decide);obtain rfl:=z4 (by decide)
   exact nd_row false rfl (by simp at lf;omega) hk
 · obtain rfl:=z0 (by decide) (by decide) (by decide);obtain rfl:=z1 (by decide);obtain rfl:=z2 (by decide);obtain rfl:=z3 (by decide);obtain rfl:=z4 (by decide)
   exact nd_row true rfl (by simp at lf;omega) hk
 · have hl:kids.length=2:=Int.ofNat_inj.1 (show (kids.length:Int)=((2:Nat):Int) from by simpa using lf)
   obtain ⟨a,b,rfl⟩:=len2 hl
   obtain rfl:=z0 (by decide) (by decide) (by decide);obtain rfl:=z1 (by decide);obtain rfl:=z2 (by decide);obtain rfl:=z3 (by decide);obtain rfl:=z4 (by decide)
   have g:=rt_cmp (k:=0) (op:=[61,61]) rfl (by decide) (lo_op2 (c:=61) (by decide)).lx (K (t:=a) (by simp) 5 5 rfl (by decide)) (K (t:=b) (by simp) 5 5 rfl (by decide))
   exact rb_of (l:=4) (by rw [TX_mk,ans2] <;> rfl) (by rw [LV_mk] <;> rfl) (by omega) (g.le (Nat.le_refl _) (by omega))
 · have hl:kids.length=2:=Int.ofNat_inj.1 (show (kids.length:Int)=((2:Nat):Int) from by simpa using lf)
   obtain ⟨a,b,rfl⟩:=len2 hl
   obtain rfl:=z0 (by decide) (by decide) (by decide);obtain rfl:=z1 (by decide);obtain rfl:=z2 (by decide);obtain rfl:=z3 (by decide);obtain rfl:=z4 (by decide)
   have g:=rt_cmp (k:=2) (op:=[60]) rfl (by decide) (lx_op (c:=60) (by decide)) (K (t:=a) (by simp) 5 5 rfl (by decide)) (K (t:=b) (by simp) 5 5 rfl (by decide))
   exact rb_of (l:=4) (by rw [TX_mk,ans2] <;> rfl) (by rw [LV_mk] <;> rfl) (by omega) (g.le (Nat.le_refl _) (by omega))
 · have hl:kids.length=2:=Int.ofNat_inj.1 (show (kids.length:Int)=((2:Nat):Int) from by simpa using lf)
   obtain ⟨a,b,rfl⟩:=len2 hl
   obtain rfl:=z0 (by decide) (by decide) (by decide);obtain rfl:=z1 (by decide);obtain rfl:=z2 (by decide);obtain rfl:=z3 (by decide);obtain rfl:=z4 (by decide)
   have g:=rt_add (K (t:=a) (by simp) 5 5 rfl (by decide)) (K (t:=b) (by simp) 6 6 rfl (by decide))
   exact rb_of (l:=5) (by rw [TX_mk,ans2] <;> rfl) (by rw [LV_mk] <;> rfl) (by omega) (g.le (Nat.le_refl _) (by omega))
 · have hl:kids.length=2:=Int.ofNat_inj.1 (show (kids.length:Int)=((2:Nat):Int) from by simpa using lf)
   obtain ⟨a,b,rfl⟩:=len2 hl
   obtain rfl:=z0 (by decide) (by decide) (by decide);obtain rfl:=z1 (by decide);obtain rfl:=z2 (by decide);obtain rfl:=z3 (by decide);obtain rfl:=z4 (by decide)
   by_cases c:mnB [a,b]=true
   · have c':(smB a 1 0 0 [] (2,0,[]) (0,[],[]) && (kdOf b != 1))=true:=c
     rw [Bool.and_eq_true,bne_iff_ne] at c'
     obtain rfl:=sm_lit c'.1
     have g:=rt_neg (K (t:=b) (by simp) 7 7 rfl (by decide)) c'.2
     refine rb_of (l:=7) ?_ ?_ (by omega) g
     · rw [TX_mk,ans2]
       show (if mnB [litT 2 0,b]=true then cat [45] (kdS (an b) 7) else _)=_
       rw [if_pos c]
     · rw [LV_mk]
       show (if mnB [litT 2 0,b]=true then (7:Int) else 5)=_
       rw [if_pos c];rfl
   · have g:=rt_sub (K (t:=a) (by simp) 5 5 rfl (by decide)) (K (t:=b) (by simp) 6 6 rfl (by decide))
     refine rb_of (l:=5) ?_ ?_ (by omega) (g.le (Nat.le_refl _) (by omega))
     · rw [TX_mk,ans2]
       show (if mnB [a,b]=true then _ else prS (an a) 5 [45] (an b) 6)=_
       rw [if_neg c];rfl
     · rw [LV_mk]
       show (if mnB [a,b]=true then (7:Int) else 5)=_
       rw [if_neg c];rfl
 · have hl:kids.length=2:=Int.ofNat_inj.1 (show (kids.length:Int)=((2:Nat):Int) from by simpa using lf)
   obtain ⟨a,b,rfl⟩:=len2 hl
   obtain rfl:=z0 (by decide) (by decide) (by decide);obtain rfl:=z1 (by decide);obtain rfl:=z2 (by decide);obtain rfl:=z3 (by decide);obtain rfl:=z4 (by decide)
   have g:=rt_mul (K (t:=a) (by simp) 6 6 rfl (by decide)) (K (t:=b) (by simp) 7 7 rfl (by decide))
   exact rb_of (l:=6) (by rw [TX_mk,ans2] <;> rfl) (by rw [LV_mk] <;> rfl) (by omega) (g.le (Nat.le_refl _) (by omega))
 · have hl:kids.length=3:=Int.ofNat_inj.1 (show (kids.length:Int)=((3:Nat):Int) from by simpa using lf)
   obtain ⟨a,b,c,rfl⟩:=len3 hl
   obtain rfl:=z0 (by decide) (by decide) (by decide);obtain rfl:=z1 (by decide);obtain rfl:=z2 (by decide);obtain rfl:=z3 (by decide);obtain rfl:=z4 (by decide)
   have g:=rt_if (K (t:=a) (by simp) 0 0 rfl (by decide)) (K (t:=b) (by simp) 0 0 rfl (by decide)) (K (t:=c) (by simp) 0 0 rfl (by decide))
   exact rb_of (l:=0) (by rw [TX_mk,ans3] <;> rfl) (by rw [LV_mk] <;> rfl) (by omega) g
 · have hl:kids=[]:=List.length_eq_zero_iff.1 (by simpa using lf)
   subst hl
   obtain rfl:=z1 (by decide);obtain rfl:=z2 (by decide);obtain rfl:=z3 (by decide);obtain rfl:=z4 (by decide)
   have hr:0<=n∧n<=4:=by simpa [rgB] using f5
   have g:=rt_home (d:=d+2) (n:=n.toNat) (by omega)
   rw [show ((n.toNat:Nat):Int)=n from by omega] at g
   exact rb_of (l:=8) (by rw [TX_mk] <;> rfl) (by rw [LV_mk] <;> rfl) (by omega) g
mutual
theorem rr_t (t:Tr) (lv c:Int) (d:Nat) (h:(wkT t lv c).2=0) (hd:50<=2 * lv+d):RR t d:=by
 match t with
 | .mk k n m nm v key kids=>
  unfold wkT at h
  split at h
  · simp at h
  · split at h
    · simp at h
    · split at h
      · rename_i hn;exact absurd h hn
      · rename_i hn
        obtain ⟨d',rfl⟩:∃ x,d=x+2:=⟨d - 2,by omega⟩
        have hk:=rr_ts kids _ _ d' h (by omega)
        have hn:ndT (.mk k n m nm v key kids)=0:=by omega
        exact ⟨rt_node hn hk,hn,fun g hg=>(hk g hg).1.mono (by omega)⟩
theorem rr_ts (l:List Tr) (lv c:Int) (d:Nat) (h:(wkTs l lv c).2=0) (hd:50<=2 * lv+d):∀ t ∈ l,RR t d:=by
 match l with
 | []=>intro t ht;cases ht
 | t :: r=>
  unfold wkTs at h
  split at h
  · rename_i hn;exact absurd h hn
  · rename_i hn
    intro x hx
    rcases List.mem_cons.1 hx with e | hx
    · rw [e];exact rr_t t lv c d (by omega) hd
    · exact rr_ts r lv _ d h hd x hx
end
theorem rb_ck {t:Tr} (h:ckT t=0):RB t 50:=(rr_t t 1 0 50 h (by omega)).1
end Go.HH
namespace Go.HH
open Go Go.Proofs
set_option maxRecDepth 100000
set_option linter.unusedVariables false
def opsOf:Code->Array Oper
 | .region _ ops _=>ops
 | _=>#[]
theorem fltU:CC.P.underlying 84=some (.struct (match CC.P.underlying 84 with | some (.struct f)=>f | _=>#[])):=by kernel_rfl
theorem fltZ:tZero CC 84=some (.agg [.int .i64 0,.int .i64 0]):=by kernel_rfl
theorem drawR (t0 t1 t2:TypeId) (x3 x1 x2:PV) (x y:Int):(orders (opsOf (fpart Tryz.f51 [1,1,0]))).map (fun l=>normP (evOps (plainC CC) noCall false (opsOf (fpart Tryz.f51 [1,1,0])) (pickOps (opsOf (fpart Tryz.f51 [1,1,0])) l) [] ⟨[.bp 0 0,.bp 1 0,.bp 2 0,.bp 3 0,.bool true,.tup [.agg [.int .i64 x,.int .i64 y],.bool true],.iface 84 (.agg [.int .i64 x,.int .i64 y]),.tup [.agg [.int .i64 x,.int .i64 y],.bool true],.agg [.int .i64 x,.int .i64 y],.bool true,.bool true],[.cells t0 [x3],.cells t1 [x1],.cells t2 [x2],.cells 84 [.int .i64 x,.int .i64 y]]⟩))=List.replicate 45 (some (.normal,⟨[.bp 0 0,.bp 1 0,.bp 2 0,.bp 3 0,.bool true,.tup [.agg [.int .i64 x,.int .i64 y],.bool true],.iface 84 (.agg [.int .i64 x,.int .i64 y]),.tup [.agg [.int .i64 x,.int .i64 y],.bool true],.agg [.int .i64 x,.int .i64 y],.bool true,.bool true,.bp 3 0,.int .i64 x,.bp 3 1,.int .i64 y],[.cells t0 [.osl 32 []],.cells t1 [.int .i64 x],.cells t2 [.int .i64 y],.cells 84 [.int .i64 x,.int .i64 y]]⟩)):=by kernel_rfl
theorem runsR (t0 t1 t2:TypeId) (x3 x1 x2:PV) (x y:Int):CatchRuns CC 51 Tryz.f51 20 84 (.agg [.int .i64 0,.int .i64 0]) [.cells t0 [x3],.cells t1 [x1],.cells t2 [x2]]
 [.cells t0 [.osl 32 []],.cells t1 [.int .i64 x],.cells t2 [.int .i64 y],.cells 84 [.int .i64 x,.int .i64 y]]
 [.cells t0 [x3],.cells t1 [x1],.cells t2 [x2],.cells 84 [.int .i64 0,.int .i64 0]] (.agg [.int .i64 x,.int .i64 y]):=by
 refine ⟨by kernel_rfl,0,1,2,(opsOf (fpart Tryz.f51 [0])),(opsOf (fpart Tryz.f51 [1,0])),(opsOf (fpart Tryz.f51 [1,1,0])),(opsOf (fpart Tryz.f51 [0])).toList.drop 2,20,85,
  ((opsOf (fpart Tryz.f51 [0])).getD 0 default).pos,((opsOf (fpart Tryz.f51 [0])).getD 1 default).pos,((opsOf (fpart Tryz.f51 [0])).getD 0 default).after,((opsOf (fpart Tryz.f51 [0])).getD 1 default).after,
  ⟨[.bp 0 0,.bp 1 0,.bp 2 0,.bp 3 0,.bool true,.tup [.agg [.int .i64 x,.int .i64 y],.bool true],.iface 84 (.agg [.int .i64 x,.int .i64 y]),.tup [.agg [.int .i64 x,.int .i64 y],.bool true],.agg [.int .i64 x,.int .i64 y],.bool true],[.cells t0 [x3],.cells t1 [x1],.cells t2 [x2],.cells 84 [.int .i64 x,.int .i64 y]]⟩,⟨[.bp 0 0,.bp 1 0,.bp 2 0,.bp 3 0,.bool true,.tup [.agg [.int .i64 x,.int .i64 y],.bool true],.iface 84 (.agg [.int .i64 x,.int .i64 y]),.tup [.agg [.int .i64 x,.int .i64 y],.bool true],.agg [.int .i64 x,.int .i64 y],.bool true,.bool true],[.cells t0 [x3],.cells t1 [x1],.cells t2 [x2],.cells 84 [.int .i64 x,.int .i64 y]]⟩,⟨[.bp 0 0,.bp 1 0,.bp 2 0,.bp 3 0,.bool true,.tup [.agg [.int .i64 x,.int .i64 y],.bool true],.iface 84 (.agg [.int .i64 x,.int .i64 y]),.tup [.agg [.int .i64 x,.int .i64 y],.bool true],.agg [.int .i64 x,.int .i64 y],.bool true,.bool true,.bp 3 0,.int .i64 x,.bp 3 1,.int .i64 y],[.cells t0 [.osl 32 []],.cells t1 [.int .i64 x],.cells t2 [.int .i64 y],.cells 84 [.int .i64 x,.int .i64 y]]⟩,⟨[.bp 0 0,.bp 1 0,.bp 2 0,.bp 3 0,.bool false,.tup [.agg [.int .i64 0,.int .i64 0],.bool false],.nili,.tup [.agg [.int .i64 0,.int .i64 0],.bool false],.agg [.int .i64 0,.int .i64 0],.bool false],[.cells t0 [x3],.cells t1 [x1],.cells t2 [x2],.cells 84 [.int .i64 0,.int .i64 0]]⟩,⟨[.bp 0 0,.bp 1 0,.bp 2 0,.bp 3 0,.bool false,.tup [.agg [.int .i64 0,.int .i64 0],.bool false],.nili,.tup [.agg [.int .i64 0,.int .i64 0],.bool false],.agg [.int .i64 0,.int .i64 0],.bool false,.bool false],[.cells t0 [x3],.cells t1 [x1],.cells t2 [x2],.cells 84 [.int .i64 0,.int .i64 0]]⟩,
  by kernel_rfl,by kernel_rfl,by kernel_rfl,by kernel_rfl,by kernel_rfl,by kernel_rfl,by kernel_rfl,by kernel_rfl,by kernel_rfl,by kernel_rfl,drawAll_iff.2 ⟨fun e=>?_,fun l hl=>?_⟩,rfl,by kernel_rfl,by kernel_rfl,by kernel_rfl,rfl⟩
 · have h:=congrArg List.length (drawR t0 t1 t2 x3 x1 x2 x y)
   rw [e] at h
   cases h
 · have h:normP (evOps (plainC CC) noCall false (opsOf (fpart Tryz.f51 [1,1,0])) (pickOps (opsOf (fpart Tryz.f51 [1,1,0])) l) [] ⟨[.bp 0 0,.bp 1 0,.bp 2 0,.bp 3 0,.bool true,.tup [.agg [.int .i64 x,.int .i64 y],.bool true],.iface 84 (.agg [.int .i64 x,.int .i64 y]),.tup [.agg [.int .i64 x,.int .i64 y],.bool true],.agg [.int .i64 x,.int .i64 y],.bool true,.bool true],[.cells t0 [x3],.cells t1 [x1],.cells t2 [x2],.cells 84 [.int .i64 x,.int .i64 y]]⟩) ∈ List.replicate 45 (some (.normal,⟨[.bp 0 0,.bp 1 0,.bp 2 0,.bp 3 0,.bool true,.tup [.agg [.int .i64 x,.int .i64 y],.bool true],.iface 84 (.agg [.int .i64 x,.int .i64 y]),.tup [.agg [.int .i64 x,.int .i64 y],.bool true],.agg [.int .i64 x,.int .i64 y],.bool true,.bool true,.bp 3 0,.int .i64 x,.bp 3 1,.int .i64 y],[.cells t0 [.osl 32 []],.cells t1 [.int .i64 x],.cells t2 [.int .i64 y],.cells 84 [.int .i64 x,.int .i64 y]]⟩)):=by
    rw [<- drawR t0 t1 t2 x3 x1 x2 x y]
    exact List.mem_map_of_mem hl
   exact List.eq_of_mem_replicate h
theorem drawE (t0 t1 t2:TypeId) (x3 x4 x5 x6 x7 x8 x9 x10 x11 x12 x13 x1 x2:PV) (x y:Int):(orders (opsOf (fpart Tryz.f47 [1,1,0]))).map (fun l=>normP (evOps (plainC CC) noCall false (opsOf (fpart Tryz.f47 [1,1,0])) (pickOps (opsOf (fpart Tryz.f47 [1,1,0])) l) [] ⟨[.bp 0 0,.bp 1 0,.bp 2 0,.bp 3 0,.bool true,.tup [.agg [.int .i64 x,.int .i64 y],.bool true],.iface 84 (.agg [.int .i64 x,.int .i64 y]),.tup [.agg [.int .i64 x,.int .i64 y],.bool true],.agg [.int .i64 x,.int .i64 y],.bool true,.bool true],[.cells t0 [x3,x4,x5,x6,x7,x8,x9,x10,x11,x12,x13],.cells t1 [x1],.cells t2 [x2],.cells 84 [.int .i64 x,.int .i64 y]]⟩))=List.replicate 126 (some (.normal,⟨[.bp 0 0,.bp 1 0,.bp 2 0,.bp 3 0,.bool true,.tup [.agg [.int .i64 x,.int .i64 y],.bool true],.iface 84 (.agg [.int .i64 x,.int .i64 y]),.tup [.agg [.int .i64 x,.int .i64 y],.bool true],.agg [.int .i64 x,.int .i64 y],.bool true,.bool true,.agg zeroE,.bp 3 0,.int .i64 x,.bp 3 1,.int .i64 y],[.cells t0 zeroE,.cells t1 [.int .i64 x],.cells t2 [.int .i64 y],.cells 84 [.int .i64 x,.int .i64 y]]⟩)):=by kernel_rfl
theorem runsE (t0 t1 t2:TypeId) (x3 x4 x5 x6 x7 x8 x9 x10 x11 x12 x13 x1 x2:PV) (x y:Int):CatchRuns CC 47 Tryz.f47 20 84 (.agg [.int .i64 0,.int .i64 0]) [.cells t0 [x3,x4,x5,x6,x7,x8,x9,x10,x11,x12,x13],.cells t1 [x1],.cells t2 [x2]]
 [.cells t0 zeroE,.cells t1 [.int .i64 x],.cells t2 [.int .i64 y],.cells 84 [.int .i64 x,.int .i64 y]]
 [.cells t0 [x3,x4,x5,x6,x7,x8,x9,x10,x11,x12,x13],.cells t1 [x1],.cells t2 [x2],.cells 84 [.int .i64 0,.int .i64 0]] (.agg [.int .i64 x,.int .i64 y]):=by
 refine ⟨by kernel_rfl,0,1,2,(opsOf (fpart Tryz.f47 [0])),(opsOf (fpart Tryz.f47 [1,0])),(opsOf (fpart Tryz.f47 [1,1,0])),(opsOf (fpart Tryz.f47 [0])).toList.drop 2,20,85,
  ((opsOf (fpart Tryz.f47 [0])).getD 0 default).pos,((opsOf (fpart Tryz.f47 [0])).getD 1 default).pos,((opsOf (fpart Tryz.f47 [0])).getD 0 default).after,((opsOf (fpart Tryz.f47 [0])).getD 1 default).after,
  ⟨[.bp 0 0,.bp 1 0,.bp 2 0,.bp 3 0,.bool true,.tup [.agg [.int .i64 x,.int .i64 y],.bool true],.iface 84 (.agg [.int .i64 x,.int .i64 y]),.tup [.agg [.int .i64 x,.int .i64 y],.bool true],.agg [.int .i64 x,.int .i64 y],.bool true],[.cells t0 [x3,x4,x5,x6,x7,x8,x9,x10,x11,x12,x13],.cells t1 [x1],.cells t2 [x2],.cells 84 [.int .i64 x,.int .i64 y]]⟩,⟨[.bp 0 0,.bp 1 0,.bp 2 0,.bp 3 0,.bool true,.tup [.agg [.int .i64 x,.int .i64 y],.bool true],.iface 84 (.agg [.int .i64 x,.int .i64 y]),.tup [.agg [.int .i64 x,.int .i64 y],.bool true],.agg [.int .i64 x,.int .i64 y],.bool true,.bool true],[.cells t0 [x3,x4,x5,x6,x7,x8,x9,x10,x11,x12,x13],.cells t1 [x1],.cells t2 [x2],.cells 84 [.int .i64 x,.int .i64 y]]⟩,⟨[.bp 0 0,.bp 1 0,.bp 2 0,.bp 3 0,.bool true,.tup [.agg [.int .i64 x,.int .i64 y],.bool true],.iface 84 (.agg [.int .i64 x,.int .i64 y]),.tup [.agg [.int .i64 x,.int .i64 y],.bool true],.agg [.int .i64 x,.int .i64 y],.bool true,.bool true,.agg zeroE,.bp 3 0,.int .i64 x,.bp 3 1,.int .i64 y],[.cells t0 zeroE,.cells t1 [.int .i64 x],.cells t2 [.int .i64 y],.cells 84 [.int .i64 x,.int .i64 y]]⟩,⟨[.bp 0 0,.bp 1 0,.bp 2 0,.bp 3 0,.bool false,.tup [.agg [.int .i64 0,.int .i64 0],.bool false],.nili,.tup [.agg [.int .i64 0,.int .i64 0],.bool false],.agg [.int .i64 0,.int .i64 0],.bool false],[.cells t0 [x3,x4,x5,x6,x7,x8,x9,x10,x11,x12,x13],.cells t1 [x1],.cells t2 [x2],.cells 84 [.int .i64 0,.int .i64 0]]⟩,⟨[.bp 0 0,.bp 1 0,.bp 2 0,.bp 3 0,.bool false,.tup [.agg [.int .i64 0,.int .i64 0],.bool false],.nili,.tup [.agg [.int .i64 0,.int .i64 0],.bool false],.agg [.int .i64 0,.int .i64 0],.bool false,.bool false],[.cells t0 [x3,x4,x5,x6,x7,x8,x9,x10,x11,x12,x13],.cells t1 [x1],.cells t2 [x2],.cells 84 [.int .i64 0,.int .i64 0]]⟩,
  by kernel_rfl,by kernel_rfl,by kernel_rfl,by kernel_rfl,by kernel_rfl,by kernel_rfl,by kernel_rfl,by kernel_rfl,by kernel_rfl,by kernel_rfl,drawAll_iff.2 ⟨fun e=>?_,fun l hl=>?_⟩,rfl,by kernel_rfl,by kernel_rfl,by kernel_rfl,rfl⟩
 · have h:=congrArg List.length (drawE t0 t1 t2 x3 x4 x5 x6 x7 x8 x9 x10 x11 x12 x13 x1 x2 x y)
   rw [e] at h
   cases h
 · have h:normP (evOps (plainC CC) noCall false (opsOf (fpart Tryz.f47 [1,1,0])) (pickOps (opsOf (fpart Tryz.f47 [1,1,0])) l) [] ⟨[.bp 0 0,.bp 1 0,.bp 2 0,.bp 3 0,.bool true,.tup [.agg [.int .i64 x,.int .i64 y],.bool true],.iface 84 (.agg [.int .i64 x,.int .i64 y]),.tup [.agg [.int .i64 x,.int .i64 y],.bool true],.agg [.int .i64 x,.int .i64 y],.bool true,.bool true],[.cells t0 [x3,x4,x5,x6,x7,x8,x9,x10,x11,x12,x13],.cells t1 [x1],.cells t2 [x2],.cells 84 [.int .i64 x,.int .i64 y]]⟩) ∈ List.replicate 126 (some (.normal,⟨[.bp 0 0,.bp 1 0,.bp 2 0,.bp 3 0,.bool true,.tup [.agg [.int .i64 x,.int .i64 y],.bool true],.iface 84 (.agg [.int .i64 x,.int .i64 y]),.tup [.agg [.int .i64 x,.int .i64 y],.bool true],.agg [.int .i64 x,.int .i64 y],.bool true,.bool true,.agg zeroE,.bp 3 0,.int .i64 x,.bp 3 1,.int .i64 y],[.cells t0 zeroE,.cells t1 [.int .i64 x],.cells t2 [.int .i64 y],.cells 84 [.int .i64 x,.int .i64 y]]⟩)):=by
    rw [<- drawE t0 t1 t2 x3 x4 x5 x6 x7 x8 x9 x10 x11 x12 x13 x1 x2 x y]
    exact List.mem_map_of_mem hl
   exact List.eq_of_mem_replicate h
theorem ro_pure {v:PV} (h:v.pure=true):v.ro.pure=true:=by
 cases v <;> first | exact h | (simp only [PV.ro,PV.pure] at h ⊢;exact h)
theorem seal1_pure {v:PV} (h:v.pure=true):v.seal1.pure=true:=by
 cases v <;> first | exact h | (simp only [PV.seal1,PV.pure,pureL] at h ⊢;exact h)
theorem shutV_pure {v:PV} (h:v.pure=true):v.shutV.pure=true:=by
 cases v <;> first | exact seal1_pure h | skip
 rename_i cs
 simp only [PV.shutV,PV.pure] at h ⊢
 induction cs with
 | nil=>rfl
 | cons c r ih=>
  simp only [List.map_cons,pureL,Bool.and_eq_true] at h ⊢
  exact ⟨seal1_pure h.1,ih h.2⟩
theorem finR_pure (c0:List PV) (h:pureL c0=true):(finR c0).pure=true:=by
 match c0,h with
 | [],_=>rfl
 | [x],h=>
  simp only [pureL,Bool.and_true] at h
  exact shutV_pure (ro_pure h)
 | _ :: _ :: _,_=>rfl
theorem finE_pure (c0:List PV) (h:pureL c0=true):(finE c0).pure=true:=by
 refine shutV_pure ?_
 simp only [PV.pure]
 induction c0 with
 | nil=>rfl
 | cons c r ih=>
  simp only [List.map_cons,pureL,Bool.and_eq_true] at h ⊢
  exact ⟨ro_pure h.1,ih h.2⟩
theorem resR (env:List PV) (t0:TypeId) (c0:List PV) (t1:TypeId) (x:Int) (t2:TypeId) (y:Int) (r:List PBox) (h2:getT env 2=.bp 0 0) (h3:getT env 3=.bp 1 0) (h4:getT env 4=.bp 2 0) (hc:c0.length=1∨c0=[.osl 32 []]) :
 resultsP CC ⟨env,.cells t0 c0 :: .cells t1 [.int .i64 x] :: .cells t2 [.int .i64 y] :: r⟩ Tryz.f24.results.toList=some [finR c0,.int .i64 x,.int .i64 y]:=by
 have hl:c0.length=1:=by
  rcases hc with h | h
  · exact h
  · subst h;rfl
 have hr:Tryz.f24.results.toList=[.cell 2 41,.cell 3 3,.cell 4 35]:=by kernel_rfl
 rw [hr]
 have hE:∃ f,CC.P.underlying 29=some (.struct f):=⟨(match CC.P.underlying 29 with | some (.struct f)=>f | _=>#[]),by kernel_rfl⟩
 obtain ⟨fe,hfe⟩:=hE
 match c0,hl with
 | [c0],_=>
  simp only [resultsP,resultP,opd,raw,h2,h3,h4,PV.ro,loadP,boxCells,readCells,TG,List.getElem?_cons_zero,List.getElem?_cons_succ,List.drop_zero,List.head?_cons,Option.map_some,hfe,List.take_succ_cons,List.take_zero,List.length_cons,List.length_nil,Nat.le_refl,if_true,Bool.false_eq_true,if_false]
  rfl
theorem resE (env:List PV) (t0:TypeId) (c0:List PV) (t1:TypeId) (x:Int) (t2:TypeId) (y:Int) (r:List PBox) (h2:getT env 2=.bp 0 0) (h3:getT env 3=.bp 1 0) (h4:getT env 4=.bp 2 0) (hc:c0.length=11∨c0=zeroE) :
 resultsP CC ⟨env,.cells t0 c0 :: .cells t1 [.int .i64 x] :: .cells t2 [.int .i64 y] :: r⟩ Tryz.f22.results.toList=some [finE c0,.int .i64 x,.int .i64 y]:=by
 have hl:c0.length=11:=by
  rcases hc with h | h
  · exact h
  · subst h;rfl
 have hr:Tryz.f22.results.toList=[.cell 2 29,.cell 3 3,.cell 4 35]:=by kernel_rfl
 rw [hr]
 have hE:∃ f,CC.P.underlying 29=some (.struct f):=⟨(match CC.P.underlying 29 with | some (.struct f)=>f | _=>#[]),by kernel_rfl⟩
 obtain ⟨fe,hfe⟩:=hE
 match c0,hl with
 | [c0,c1,c2,c3,c4,c5,c6,c7,c8,c9,c10],_=>
  simp only [resultsP,resultP,opd,raw,h2,h3,h4,PV.ro,loadP,boxCells,readCells,TG,List.getElem?_cons_zero,List.getElem?_cons_succ,List.drop_zero,List.head?_cons,Option.map_some,hfe,List.take_succ_cons,List.take_zero,List.length_cons,List.length_nil,Nat.le_refl,if_true,Bool.false_eq_true,if_false]
  rfl
theorem soundR (ev:Code->St->Option (Ex×St)) (hev:CodeSound CC false ev) (args:List PV) (bx:List PBox) (cr:CR) (bx':List PBox) (hrun:runCat catR ev args bx=some (cr,bx')) :
 HasBody CC.P 24∧((∀ p ∈ args,∀ t xs,p≠.osl t xs)->∀ (B:Nat) (T:Nat->Prop) (S:Store) (M:List Nat) (vs:List Value) (w:World),HSim CC B T S M bx w->RepL S M args vs ->
  Calls CC.P 24 vs.toArray w fun e w'=>∃ S' M',HSim CC B T S' M' bx' w'∧Grows B T S w S' w'∧M <+: M'∧Outcome S' M' cr e):=
 catcher_sound (C:=CC) (fn:=Tryz.f24) (code:=part' [1,1] (Tryz.f24.body.getD .skip)) (i0:=0) (i1:=1) (opsA:=(opsOf (fpart Tryz.f24 [0]))) (opsB:=(opsOf (fpart Tryz.f24 [1,0]))) (g:=51) (gn:=Tryz.f51) (envA:=envR)
  (bx0:=[.cells 41 [.nils],.cells 3 [.int .i64 0],.cells 35 [.int .i64 0]])
  (ty6:=((opsOf (fpart Tryz.f24 [1,0])).getD 0 default).type) (tyd:=((opsOf (fpart Tryz.f24 [1,0])).getD 1 default).type) (p6:=((opsOf (fpart Tryz.f24 [1,0])).getD 0 default).pos) (pd:=((opsOf (fpart Tryz.f24 [1,0])).getD 1 default).pos) (af6:=((opsOf (fpart Tryz.f24 [1,0])).getD 0 default).after) (afd:=((opsOf (fpart Tryz.f24 [1,0])).getD 1 default).after)
  (TI:=20) (TF:=84) (zp:=.agg [.int .i64 0,.int .i64 0]) (n0:=1) (zc:=[.osl 32 []]) (fin:=finR)
  (by kernel_rfl) (by kernel_rfl) (by kernel_rfl) (Nat.le_of_ble_eq_true (by kernel_rfl)) (Nat.le_of_ble_eq_true (by kernel_rfl)) (by kernel_rfl) (by kernel_rfl) (fun s=>by kernel_rfl) (by kernel_rfl) (fun s=>⟨rfl,rfl,rfl⟩) (by kernel_rfl)
  (fun t0 c0 t1 x1 t2 x2 x y hl=>match c0,hl with | [c0],_=>runsR t0 t1 t2 c0 x1 x2 x y)
  fltU fltZ (fun e xs=>by simp) (by kernel_rfl) finR_pure resR ev hev args bx cr bx' hrun
theorem soundE (ev:Code->St->Option (Ex×St)) (hev:CodeSound CC false ev) (args:List PV) (bx:List PBox) (cr:CR) (bx':List PBox) (hrun:runCat catE ev args bx=some (cr,bx')) :
 HasBody CC.P 22∧((∀ p ∈ args,∀ t xs,p≠.osl t xs)->∀ (B:Nat) (T:Nat->Prop) (S:Store) (M:List Nat) (vs:List Value) (w:World),HSim CC B T S M bx w->RepL S M args vs ->
  Calls CC.P 22 vs.toArray w fun e w'=>∃ S' M',HSim CC B T S' M' bx' w'∧Grows B T S w S' w'∧M <+: M'∧Outcome S' M' cr e):=
 catcher_sound (C:=CC) (fn:=Tryz.f22) (code:=part' [1,1] (Tryz.f22.body.getD .skip)) (i0:=0) (i1:=1) (opsA:=(opsOf (fpart Tryz.f22 [0]))) (opsB:=(opsOf (fpart Tryz.f22 [1,0]))) (g:=47) (gn:=Tryz.f47) (envA:=envR)
  (bx0:=[.cells 29 zeroE,.cells 3 [.int .i64 0],.cells 35 [.int .i64 0]])
  (ty6:=((opsOf (fpart Tryz.f22 [1,0])).getD 0 default).type) (tyd:=((opsOf (fpart Tryz.f22 [1,0])).getD 1 default).type) (p6:=((opsOf (fpart Tryz.f22 [1,0])).getD 0 default).pos) (pd:=((opsOf (fpart Tryz.f22 [1,0])).getD 1 default).pos) (af6:=((opsOf (fpart Tryz.f22 [1,0])).getD 0 default).after) (afd:=((opsOf (fpart Tryz.f22 [1,0])).getD 1 default).after)
  (TI:=20) (TF:=84) (zp:=.agg [.int .i64 0,.int .i64 0]) (n0:=11) (zc:=zeroE) (fin:=finE)
  (by kernel_rfl) (by kernel_rfl) (by kernel_rfl) (Nat.le_of_ble_eq_true (by kernel_rfl)) (Nat.le_of_ble_eq_true (by kernel_rfl)) (by kernel_rfl) (by kernel_rfl) (fun s=>by kernel_rfl) (by kernel_rfl) (fun s=>⟨rfl,rfl,rfl⟩) (by kernel_rfl)
  (fun t0 c0 t1 x1 t2 x2 x y hl=>match c0,hl with | [c0,c1,c2,c3,c4,c5,c6,c7,c8,c9,c10],_=>runsE t0 t1 t2 c0 c1 c2 c3 c4 c5 c6 c7 c8 c9 c10 x1 x2 x y)
  fltU fltZ (fun e xs=>by simp) (by kernel_rfl) finE_pure resE ev hev args bx cr bx' hrun
theorem catSound:CatSound CC:=by
 intro f k hk ev hev args bx cr bx' hrun
 have h:catCC f=some k:=hk
 unfold catCC at h
 split at h
 · rename_i hf
   subst hf
   injection h with h
   subst h
   exact soundR ev hev args bx cr bx' hrun
 · split at h
   · rename_i hf
     subst hf
     injection h with h
     subst h
     exact soundE ev hev args bx cr bx' hrun
   · cases h
end Go.HH
namespace Go.HH
open Go Go.Proofs
set_option maxRecDepth 100000
set_option maxHeartbeats 4000000
set_option linter.unusedSimpArgs false
set_option linter.unusedVariables false
def BX (bx:List PBox) (id:Nat) (P:PBox) (ys:List PBox):List PBox:=bx.set id P++ys
def clB (bx:List PBox):Prop:=bx.all (·.under bx.length)=true
mutual
theorem under_mono {n m:Nat} (h:n<=m):∀ v:PV,v.under n=true->v.under m=true
 | .top,k=>by simp [PV.under] at k
 | .bool _,_=>by simp [PV.under]
 | .int _ _,_=>by simp [PV.under]
 | .str _,_=>by simp [PV.under]
 | .nils,_=>by simp [PV.under]
 | .sl xs,k=>by simp only [PV.under] at k ⊢;exact underL_mono h xs k
 | .osl _ xs,k=>by simp only [PV.under] at k ⊢;exact underL_mono h xs k
 | .ip xs,k=>by simp only [PV.under] at k ⊢;exact underL_mono h xs k
 | .bp i _,k=>by simp only [PV.under,decide_eq_true_eq] at k ⊢;omega
 | .nilp,_=>by simp [PV.under]
 | .fn _ x y,k=>by
  simp only [PV.under,Bool.and_eq_true] at k ⊢
  exact ⟨underL_mono h x k.1,underL_mono h y k.2⟩
 | .nilf,_=>by simp [PV.under]
 | .iface _ v,k=>by simp only [PV.under] at k ⊢;exact under_mono h v k
 | .nili,_=>by simp [PV.under]
 | .agg xs,k=>by simp only [PV.under] at k ⊢;exact underL_mono h xs k
 | .tup xs,k=>by simp only [PV.under] at k ⊢;exact underL_mono h xs k
theorem underL_mono {n m:Nat} (h:n<=m):∀ vs:List PV,underL n vs=true->underL m vs=true
 | [],_=>by simp [underL]
 | v :: r,k=>by
  simp only [underL,Bool.and_eq_true] at k ⊢
  exact ⟨under_mono h v k.1,underL_mono h r k.2⟩
end
theorem PBox.under_mono {n m:Nat} (h:n<=m) (b:PBox) (k:b.under n=true):b.under m=true:=by
 cases b with
 | cells t cs=>exact underL_mono h cs k
 | iter _ _=>rfl
section
variable {bx:List PBox} {id:Nat} {P:PBox} {ys:List PBox}
theorem BX_get (h:id < bx.length):(BX bx id P ys)[id]?=some P:=by
 unfold BX
 rw [List.getElem?_append_left (by simpa using h),List.getElem?_set_self h]
theorem BX_set (h:id < bx.length) (P':PBox):(BX bx id P ys).set id P'=BX bx id P' ys:=by
 unfold BX
 rw [List.set_append_left _ _ (by simpa using h),List.set_set]
theorem BX_app (x:List PBox):BX bx id P ys++x=BX bx id P (ys++x):=by unfold BX;rw [List.append_assoc]
theorem BX_len:(BX bx id P ys).length=bx.length+ys.length:=by simp [BX]
theorem BX_get0:(BX bx id P ys)[bx.length]?=ys[0]?:=by
 unfold BX
 rw [List.getElem?_append_right (by simp)]
 simp
theorem BX_getx (k:Nat):(BX bx id P ys)[bx.length+k]?=ys[k]?:=by
 unfold BX
 rw [List.getElem?_append_right (by simp)]
 simp
theorem BX_set0 (y:PBox):(BX bx id P ys).set bx.length y=BX bx id P (ys.set 0 y):=by
 unfold BX
 rw [List.set_append_right _ _ (by simp)]
 simp
theorem BX_setx (k:Nat) (y:PBox):(BX bx id P ys).set (bx.length+k) y=BX bx id P (ys.set k y):=by
 unfold BX
 rw [List.set_append_right _ _ (by simp)]
 simp
theorem BX_nil (h:bx[id]?=some P):BX bx id P []=bx:=by
 unfold BX
 rw [List.append_nil]
 exact set_same' h
where
 set_same' {bx:List PBox} {id:Nat} {b:PBox} (h:bx[id]?=some b):bx.set id b=bx:=by
  apply List.ext_getElem?
  intro j
  rw [List.getElem?_set]
  by_cases e:id=j
  · subst e
    obtain ⟨h1,_⟩:=List.getElem?_eq_some_iff.1 h
    rw [if_pos rfl,if_pos h1,h]
  · rw [if_neg e]
theorem clB_BX (hc:clB bx) (hP:P.under bx.length=true) (hy:ys.all (·.under (bx.length+ys.length))=true):clB (BX bx id P ys):=by
 unfold clB at *
 rw [BX_len]
 unfold BX
 rw [List.all_append,hy,Bool.and_true,List.all_eq_true]
 intro x hx
 have hx:=List.mem_or_eq_of_mem_set hx
 rcases hx with hx | rfl
 · rw [List.all_eq_true] at hc
   exact PBox.under_mono (by omega) x (hc x hx)
 · exact PBox.under_mono (by omega) _ hP
theorem clB_set (hc:clB bx) (hP:P.under bx.length=true):clB (bx.set id P):=by
 have:=clB_BX (id:=id) (ys:=[]) hc hP rfl
 unfold BX at this
 rwa [List.append_nil] at this
theorem op_BX {f:FuncId} {args:List PV} {r:CR} {P':PBox} (hp:pureL args=false) (hc:clB bx) (hb:bx[id]?=some P) (hP:P'.under bx.length=true) (hr:r.under bx.length=true) (h:∃ ys,callL CC f args (BX bx id P [])=some (r,BX bx id P' ys)) :
 callOp CC (callL CC) f args bx=some (r,bx.set id P'):=by
 obtain ⟨ys,h⟩:=h
 rw [BX_nil hb] at h
 unfold callOp
 rw [if_pos (by rw [hp];simp),h]
 simp only
 unfold truncB
 have ht:(BX bx id P' ys).take bx.length=bx.set id P':=by
  unfold BX
  rw [List.take_append_of_le_length (by simp),List.take_of_length_le (by simp)]
 rw [ht,hr]
 have:=clB_set (id:=id) hc hP
 unfold clB at this
 rw [List.length_set] at this
 rw [this]
 rfl
end
def PSR (L:List Tk) (i o:Nat) (RL:PV):PBox:=.cells 92 [.sl (tkVs L),.int .i64 (i:Int),.int .i64 (o:Int),RL]
def fltV (t:Nat) (e:Int):PV:=.iface 84 (.agg [.int .i64 (t:Int),.int .i64 e])
theorem tkVs_pure:∀ L:List Tk,pureL (tkVs L)=true
 | []=>rfl
 | t :: r=>by
  show ((tkV t).pure && pureL (tkVs r))=true
  rw [tkVs_pure r]
  rfl
theorem PSR_under {n:Nat} (L:List Tk) (i o:Nat) {RL:PV} (hR:RL.pure=true):(PSR L i o RL).under n=true:=by
 unfold PSR PBox.under
 simp only [underL,PV.under,underL_of_pure n _ (tkVs_pure L),under_of_pure n _ hR,Bool.and_self]
theorem fltV_under (n:Nat) (t:Nat) (e:Int):(CR.pan (fltV t e)).under n=true:=by simp [CR.under,fltV,PV.under,underL]
structure TokOK (L:List Tk):Prop where
 len:L.length<=4001
 pos:0 < L.length
 last:(tokAt L (L.length - 1)).1=0
 inner:∀ i,i+1 < L.length->(tokAt L i).1≠0
 at':∀ i,atT L i<=20000
 word:∀ i,(tokAt L i).2.1.length<=20000
 str:∀ i,(tokAt L i).1=3->(tokAt L i).2.1.length<=60
 num:∀ i,(tokAt L i).1=2->(∀ b ∈ (tokAt L i).2.1,48<=b.toNat∧b.toNat<=57)∧amtN (tokAt L i).2.1 0<=1099511627776
def hasP (L:List Tk) (i o:Nat) (RL:PV) (id:Nat) (B:List PBox):Prop:=clB B∧B[id]?=some (PSR L i o RL)
def OKc (f:FuncId) (xs:List PV) (id:Nat) (L:List Tk) (RL:PV) (i o:Nat) (v:PV) (j o':Nat):Prop:=
 ∀ B,hasP L i o RL id B->callOp CC (callL CC) f (.bp id 0 :: xs) B=some (.ret v,B.set id (PSR L j o' RL))
def BADx (f:FuncId) (xs:List PV) (id:Nat) (L:List Tk) (RL:PV) (i o:Nat) (t:Nat) (e:Int) (i' o':Nat):Prop:=
 ∀ B,hasP L i o RL id B->callOp CC (callL CC) f (.bp id 0 :: xs) B=some (.pan (fltV t e),B.set id (PSR L i' o' RL))
def ANS {α:Type} (f:FuncId) (xs:List PV) (id:Nat) (L:List Tk) (RL:PV) (i o:Nat) (enc:α->PV) (r:PR α):Prop:=match r with
 | .ok a j=>OKc f xs id L RL i o (enc a) j o
 | .bad t e=>∃ i' o',BADx f xs id L RL i o t e i' o'
 | .out=>True
theorem hasP_BX {bx:List PBox} {id:Nat} {L:List Tk} {i o i0 o0:Nat} {RL:PV} {ys:List PBox} (hid:id < bx.length) (hc:clB bx) (hR:RL.pure=true) (hy:ys.all (·.under (bx.length+ys.length))=true):hasP L i o RL id (BX bx id (PSR L i o RL) ys):=
 ⟨clB_BX hc (PSR_under L i o hR) hy,BX_get hid⟩
theorem tkV_under (n:Nat) (t:Tk):(tkV t).under n=true:=by simp [tkV,PV.under,underL]
theorem tok_get {L:List Tk} {i:Nat} (h:i < L.length):(tkVs L)[i]?=some (tkV (tokAt L i)):=by
 unfold tkVs tokAt
 rw [List.getElem?_map,List.getD_eq_getElem?_getD,List.getElem?_eq_getElem h]
 rfl
noncomputable def fPP:Array Field:=match CC.P.underlying 92 with | some (.struct f)=>f | _=>#[]
noncomputable def fPF:Array Field:=match CC.P.underlying 84 with | some (.struct f)=>f | _=>#[]
theorem PPU:CC.P.underlying 92=some (.struct fPP)∧CC.P.underlying 84=some (.struct fPF):=⟨by kernel_rfl,by kernel_rfl⟩
theorem ZC:zeroCells CC 80=some [.int .i64 0,.str [],.int .i64 0] ∧
 zeroCells CC 29=some [.int .i64 0,.int .i64 0,.int .i64 0,.str [],.int .i64 0,.int .i64 0,.str [],.int .i64 0,.str [],.str [],.nils] ∧
 zeroCells CC 26=some [.int .i64 0,.str [],.str []] ∧
 zeroCells CC 58=some [.int .i64 0,.int .i64 0,.str [],.str [],.int .i64 0,.str [],.str [],.str [],.int .i64 0,.int .i64 0] ∧
 zeroCells CC 60=some [.int .i64 0,.int .i64 0,.str [],.str [],.str [],.int .i64 0,.int .i64 0,.int .i64 0,.str [],.int .i64 0,.int .i64 0,.str [],.int .i64 0,.str [],.str [],.nils] ∧
 zeroCells CC 32=some [.str [],.int .i64 0,.nils,.int .i64 0,.int .i64 0,.int .i64 0,.str [],.int .i64 0,.int .i64 0,.str [],.int .i64 0,.str [],.str [],.nils,.nils] ∧
 zeroCells CC 41=some [.nils] ∧
 zeroCells CC 3=some [.int .i64 0] ∧
 zeroCells CC 35=some [.int .i64 0]:=
 ⟨by kernel_rfl,by kernel_rfl,by kernel_rfl,by kernel_rfl,by kernel_rfl,by kernel_rfl,by kernel_rfl,by kernel_rfl,by kernel_rfl⟩
theorem SU:(∀ n t cs,(PBox.cells t cs).under n=underL n cs)∧(∀ n,underL n []=true)∧(∀ n v r,underL n (v :: r)=(v.under n && underL n r))∧(∀ n k x,(PV.int k x).under n=true)∧(∀ n x,(PV.str x).under n=true)∧(∀ n x,(PV.bool x).under n=true) ∧
 (∀ n cs,(PV.agg cs).under n=underL n cs)∧(∀ n cs,(PV.sl cs).under n=underL n cs)∧(∀ n,PV.nils.under n=true)∧(∀ n t,(tkV t).under n=true)∧(∀ b,(true && b)=b)∧(∀ p:PBox->Bool,([]:List PBox).all p=true)∧(∀ (p:PBox->Bool) x r,(x :: r).all p=(p x && r.all p)):=
 ⟨fun _ _ _=>rfl,fun _=>by simp [underL],fun _ _ _=>by simp [underL],fun _ _ _=>by simp [PV.under],fun _ _=>by simp [PV.under],fun _ _=>by simp [PV.under],fun _ _=>by simp [PV.under],fun _ _=>by simp [PV.under],fun _=>by simp [PV.under],tkV_under,fun _=>rfl,fun _=>rfl,fun _ _ _=>rfl⟩
theorem PZ:(type_of% @ZC)∧(type_of% @BX_get)∧(type_of% @BX_set)∧(type_of% @BX_app)∧(type_of% @BX_len)∧(type_of% @BX_get0)∧(type_of% @BX_getx)∧(type_of% @BX_set0)∧(type_of% @BX_setx):=⟨@ZC,@BX_get,@BX_set,@BX_app,@BX_len,@BX_get0,@BX_getx,@BX_set0,@BX_setx⟩
theorem PY:(type_of% @PPU)∧(type_of% @SU)∧(type_of% @tkV.eq_def)∧(type_of% @partP.eq_def)∧(type_of% @List.set_cons_zero.{0})∧(type_of% @List.set_cons_succ.{0})∧(type_of% @Nat.add_zero)∧(type_of% @nchP.eq_def):=⟨@PPU,@SU,@tkV.eq_def,@partP.eq_def,@List.set_cons_zero,@List.set_cons_succ,@Nat.add_zero,@nchP.eq_def⟩
theorem natBeq (a b:Nat):((a:Int) == (b:Int))=(a == b):=by
 by_cases h:a=b
 · simp [h]
 · have:¬ (a:Int)=(b:Int):=by omega
   rw [beq_eq_false_iff_ne.2 h,beq_eq_false_iff_ne.2 this]
theorem natBne (a b:Nat):((a:Int) != (b:Int))=!(a == b):=by unfold bne;rw [natBeq]
theorem mkIf_s (f:Array Field) (t:TypeId) (v:PV):mkIf (some (.struct f)) t v=some (.iface t v):=rfl
theorem buildFlt (x y:Int):buildP CC 84 [(0,.int .i64 x),(1,.int .i64 y)]=some (.agg [.int .i64 x,.int .i64 y]):=by kernel_rfl
theorem okc_of {f:FuncId} {xs:List PV} {id:Nat} {L:List Tk} {RL:PV} {i o:Nat} {v:PV} {j o':Nat} (hR:RL.pure=true) (hv:∀ n,v.under n=true) (h:∀ bx,id < bx.length->clB bx->∃ ys,callL CC f (.bp id 0 :: xs) (BX bx id (PSR L i o RL) [])=some (.ret v,BX bx id (PSR L j o' RL) ys)):OKc f xs id L RL i o v j o':=
 fun B hB=>op_BX (P:=PSR L i o RL) (by simp [pureL,PV.pure]) hB.1 hB.2 (PSR_under L j o' hR) (by simp only [CR.under];exact hv _) (h B (List.getElem?_eq_some_iff.1 hB.2).1 hB.1)
theorem badx_of {f:FuncId} {xs:List PV} {id:Nat} {L:List Tk} {RL:PV} {i o t:Nat} {e:Int} {i' o':Nat} (hR:RL.pure=true) (h:∀ bx,id < bx.length->clB bx->∃ ys,callL CC f (.bp id 0 :: xs) (BX bx id (PSR L i o RL) [])=some (.pan (fltV t e),BX bx id (PSR L i' o' RL) ys)):BADx f xs id L RL i o t e i' o':=
 fun B hB=>op_BX (P:=PSR L i o RL) (by simp [pureL,PV.pure]) hB.1 hB.2 (PSR_under L i' o' hR) (fltV_under _ _ _) (h B (List.getElem?_eq_some_iff.1 hB.2).1 hB.1)
section
variable {bx:List PBox} {id:Nat} {L:List Tk} {i o:Nat} {RL:PV} (hid:id < bx.length) (hc:clB bx) (hR:RL.pure=true)
include hid hc hR
theorem okc_use {f:FuncId} {xs:List PV} {v:PV} {j o':Nat} (h:OKc f xs id L RL i o v j o') (ys:List PBox) (hy:ys.all (·.under (bx.length+ys.length))=true) :
 callOp CC (callL CC) f (.bp id 0 :: xs) (BX bx id (.cells 92 [.sl (tkVs L),.int .i64 (i:Int),.int .i64 (o:Int),RL]) ys)=some (.ret v,BX bx id (.cells 92 [.sl (tkVs L),.int .i64 (j:Int),.int .i64 (o':Int),RL]) ys):=by
 have:=h _ (hasP_BX (i0:=i) (o0:=o) hid hc hR hy)
 rw [BX_set hid] at this
 exact this
theorem badx_use {f:FuncId} {xs:List PV} {t:Nat} {e:Int} {i' o':Nat} (h:BADx f xs id L RL i o t e i' o') (ys:List PBox) (hy:ys.all (·.under (bx.length+ys.length))=true) :
 callOp CC (callL CC) f (.bp id 0 :: xs) (BX bx id (.cells 92 [.sl (tkVs L),.int .i64 (i:Int),.int .i64 (o:Int),RL]) ys)=some (.pan (fltV t e),BX bx id (.cells 92 [.sl (tkVs L),.int .i64 (i':Int),.int .i64 (o':Int),RL]) ys):=by
 have:=h _ (hasP_BX (i0:=i) (o0:=o) hid hc hR hy)
 rw [BX_set hid] at this
 exact this
end
end Go.HH
