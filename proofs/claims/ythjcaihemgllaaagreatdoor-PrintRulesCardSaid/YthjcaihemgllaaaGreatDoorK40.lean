/-
  What the law needs, packed: PB LG LH LI LK LL LM P1.
-/
import Derived.Test.YthjcaihemgllaaaGreatDoorK39
namespace Go.HH
open Go Go.Proofs
set_option maxRecDepth 100000
set_option maxHeartbeats 4000000
set_option linter.unusedSimpArgs false
set_option linter.unusedVariables false
def BX (bx:List PBox) (id:Nat) (P:PBox) (ys:List PBox):List PBox:=bx.set id P++ys
def clB (bx:List PBox):Prop:=bx.all (·.under bx.length)=true
mutual
theorem under_mono {n m:Nat} (h:n<=m):∀ v:PV,v.under n=true->v.under m=true
 | .top,k=>by simp [PV.under] at k
 | .bool _,_=>by simp [PV.under]
 | .int _ _,_=>by simp [PV.under]
 | .str _,_=>by simp [PV.under]
 | .nils,_=>by simp [PV.under]
 | .sl xs,k=>by simp only [PV.under] at k ⊢;exact underL_mono h xs k
 | .osl _ xs,k=>by simp only [PV.under] at k ⊢;exact underL_mono h xs k
 | .ip xs,k=>by simp only [PV.under] at k ⊢;exact underL_mono h xs k
 | .bp i _,k=>by simp only [PV.under,decide_eq_true_eq] at k ⊢;omega
 | .nilp,_=>by simp [PV.under]
 | .fn _ x y,k=>by
  simp only [PV.under,Bool.and_eq_true] at k ⊢
  exact ⟨underL_mono h x k.1,underL_mono h y k.2⟩
 | .nilf,_=>by simp [PV.under]
 | .iface _ v,k=>by simp only [PV.under] at k ⊢;exact under_mono h v k
 | .nili,_=>by simp [PV.under]
 | .agg xs,k=>by simp only [PV.under] at k ⊢;exact underL_mono h xs k
 | .tup xs,k=>by simp only [PV.under] at k ⊢;exact underL_mono h xs k
theorem underL_mono {n m:Nat} (h:n<=m):∀ vs:List PV,underL n vs=true->underL m vs=true
 | [],_=>by simp [underL]
 | v :: r,k=>by
  simp only [underL,Bool.and_eq_true] at k ⊢
  exact ⟨under_mono h v k.1,underL_mono h r k.2⟩
end
theorem PBox.under_mono {n m:Nat} (h:n<=m) (b:PBox) (k:b.under n=true):b.under m=true:=by
 cases b with
 | cells t cs=>exact underL_mono h cs k
 | iter _ _=>rfl
section
variable {bx:List PBox} {id:Nat} {P:PBox} {ys:List PBox}
theorem BX_len:(BX bx id P ys).length=bx.length+ys.length:=by simp [BX]
theorem clB_BX (hc:clB bx) (hP:P.under bx.length=true) (hy:ys.all (·.under (bx.length+ys.length))=true):clB (BX bx id P ys):=by
 unfold clB at *
 rw [BX_len]
 unfold BX
 rw [List.all_append,hy,Bool.and_true,List.all_eq_true]
 intro x hx
 have hx:=List.mem_or_eq_of_mem_set hx
 rcases hx with hx | rfl
 · rw [List.all_eq_true] at hc
   exact PBox.under_mono (by omega) x (hc x hx)
 · exact PBox.under_mono (by omega) _ hP
end
section
variable {bx:List PBox} {id:Nat} {L:List Tk} {i o:Nat} {RL:PV} (hid:id < bx.length) (hc:clB bx) (hR:RL.pure=true)
include hid hc hR
end
end Go.HH
namespace Go.HH
open Go Go.Proofs
set_option maxRecDepth 100000
set_option maxHeartbeats 4000000
set_option linter.unusedSimpArgs false
set_option linter.unusedVariables false
theorem ZPg:zeroCells CC 72=some [.nils]:=by kernel_rfl
theorem PGB_nil:PGB []=.cells 72 [.nils]:=rfl
theorem PGB_ne {l:List UInt8} (h:l≠[]):PGB l=.cells 72 [.osl 5 (bys l)]:=by
 unfold PGB bufV
 rw [if_neg h]
theorem rlS_ne (r:Rl):rlS r≠[]:=by
 unfold rlS
 simp
theorem rlV_cells (r:Rl):pureL (rlV r).cells=true:=by
 have h:=rlV_pure r
 unfold rlV at h ⊢
 unfold PV.pure at h
 exact h
theorem PGB_under (n:Nat) (l:List UInt8):(PGB l).under n=true:=by
 unfold PGB bufV
 by_cases h:l=[]
 · rw [if_pos h]
   rfl
 · rw [if_neg h]
   show underL _ [.osl 5 (bys l)]=true
   simpa [underL,PV.under] using underL_bys _ l
theorem op_write (r:Rl) (hp:plRl r=true) (ho:okRl r) (h:rlE r=0) (bs:List PBox) (pg:Nat) (hpg:pg < bs.length) (hc:clB bs) (acc:List UInt8) (hl:acc.length<=70000000):callOp CC (callL CC) 39 [putV pg,rlV r] (bs.set pg (PGB acc))=some (.ret (.tup []),bs.set pg (PGB (acc++rlS r))):=by
 obtain ⟨b2,ex,hw⟩:=call_write r hp ho h bs pg hpg acc hl
 unfold callOp
 rw [if_pos (by rw [pureL_cons] <;> rfl),hw]
 simp only
 unfold truncB WB
 have ht:(bs.set pg (PGB (acc++rlS r))++b2 :: ex).take (bs.set pg (PGB acc)).length=bs.set pg (PGB (acc++rlS r)):=by
  rw [List.length_set,List.take_append_of_le_length (by rw [List.length_set];exact Nat.le_refl _),List.take_of_length_le (by rw [List.length_set];exact Nat.le_refl _)]
 rw [ht,if_pos]
 rw [Bool.and_eq_true,List.length_set]
 refine ⟨rfl,?_⟩
 have:=clB_BX (id:=pg) (P:=PGB (acc++rlS r)) (ys:=[]) hc (PGB_under _ _) rfl
 unfold clB BX at this
 rw [List.append_nil,List.length_set] at this
 exact this
def ruT (r:Rl):List UInt8:=if rlE r=0 then rlS r else []
theorem call_print_Rule (r:Rl) (hp:plRl r=true) (ho:okRl r):∃ bx,callL CC 17 [rlV r] []=some (.ret (.tup [.str (ruT r),.int .i64 (rlE r)]),bx):=by
 have och:=op_print_CheckRl r hp
 have hw:=fun h=>op_write r hp ho h [.cells 32 (rlV r).cells,PGB []] 1 (by simp) (by unfold clB;rw [List.all_cons,List.all_cons,PGB_under,show ∀ n,(PBox.cells 32 (rlV r).cells).under n=true from fun n=>pureL_under n _ (rlV_cells r)] <;> rfl) [] (Nat.zero_le _)
 simp only [List.set_cons_succ,List.set_cons_zero,List.nil_append] at hw
 have hne:=rlS_ne r
 unfold ruT
 rw [PGB_nil,PGB_ne hne] at hw
 have hcv:=conv_bys (rlS r)
 generalize rlS r=s at *
 generalize rlE r=er at *
 clear hp ho hne
 obtain ⟨nm,pr,on,ife,dos⟩:=r
 unfold rlV trC at *
 obtain ⟨zk,zn,zm,znm,zv,zkey,zkids⟩:=ife
 unfold trV at *
 simp only [SA,List.cons_append,List.nil_append] at och hw ⊢
 have hpz:=trVs_pure zkids
 have hpx:=tgs_pure on
 have hpy:=sps_pure dos
 generalize trVs zkids=zs at *
 generalize on.map tgV=xs at *
 generalize dos.map spV=ys at *
 generalize bys s=bs at *
 have zp:=ZPg
 rw [callL_enter (fn:=Tryz.f17) (c:=Tryz.f17.body.getD .skip) rfl rfl fat_print_Rule rfl ok_print_Rule (Nat.le_of_ble_eq_true rfl)]
 by_cases h:er=0
 · subst h
   have hw:=hw rfl
   unfold putV at hw
   rw [if_pos rfl]
   obtain ⟨ev,eo,so,co,⟨hev,hco⟩,R⟩:=RULES CC;rw [<- hev]
   rw [<- hco] at och hw
   simp only [fpart,part',Tryz.f17,Option.getD]
   simp only [S9,R,seval,dynR,och,hw,hcv,zp,hpx,hpy,hpz]
   exact ⟨_,rfl⟩
 · rw [if_neg h]
   clear hw
   have p:(er != 0)=true:=by simpa using h
   obtain ⟨ev,eo,so,co,⟨hev,hco⟩,R⟩:=RULES CC;rw [<- hev]
   rw [<- hco] at och
   simp only [fpart,part',Tryz.f17,Option.getD]
   simp only [S9,R,seval,dynR,och,p,hpx,hpy,hpz]
   exact ⟨_,rfl⟩
theorem op_print_Rule (r:Rl) (hp:plRl r=true) (ho:okRl r) (bx):callOp CC (callL CC) 17 [rlV r] bx=some (.ret (.tup [.str (ruT r),.int .i64 (rlE r)]),bx):=by
 obtain ⟨b,hc⟩:=call_print_Rule r hp ho
 exact callOp_of rfl (by simp only [pureL_cons,rlV_pure,pureL_nil,Bool.and_self]) hc rfl
end Go.HH
namespace Go.HH
open Go Go.Proofs
set_option maxRecDepth 100000
set_option maxHeartbeats 4000000
set_option linter.unusedSimpArgs false
set_option linter.unusedVariables false
theorem ok_R30_Rule:fnOK CC Tryz.f18 (Tryz.f18.body.getD .skip)=true:=by kernel_rfl
theorem fat_R30_Rule:CC.P.funcs[18]?=some Tryz.f18:=by kernel_rfl
theorem ok_R28_Flag:fnOK CC Tryz.f26 (Tryz.f26.body.getD .skip)=true:=by kernel_rfl
theorem fat_R28_Flag:CC.P.funcs[26]?=some Tryz.f26:=by kernel_rfl
theorem ok_R28_Lit:fnOK CC Tryz.f55 (Tryz.f55.body.getD .skip)=true:=by kernel_rfl
theorem fat_R28_Lit:CC.P.funcs[55]?=some Tryz.f55:=by kernel_rfl
theorem call_Lit1:∃ bx,callL CC 55 [.agg [.int .i64 1,.int .i64 1,.str []]] []=some (.ret (leafV 1 0 0 [] (1,1,[]) (0,[],[])),bx):=by
 have hb2:=buildYt
 unfold leafV
 rw [callL_enter (fn:=Tryz.f55) (c:=Tryz.f55.body.getD .skip) rfl rfl fat_R28_Lit rfl ok_R28_Lit (Nat.le_of_ble_eq_true rfl)]
 obtain ⟨ev,eo,so,co,⟨hev,hco⟩,R⟩:=RULES CC;rw [<- hev]
 simp only [fpart,part',Tryz.f55,Option.getD]
 simp only [S9,R,seval,dynR,hb2,TRf]
 exact ⟨_,rfl⟩
theorem op_Lit1 (bx):callOp CC (callL CC) 55 [.agg [.int .i64 1,.int .i64 1,.str []]] bx=some (.ret (leafV 1 0 0 [] (1,1,[]) (0,[],[])),bx):=by
 obtain ⟨b,h⟩:=call_Lit1
 exact callOp_of rfl rfl h rfl
theorem call_Flag1:∃ bx,callL CC 26 [.bool true] []=some (.ret (leafV 1 0 0 [] (1,1,[]) (0,[],[])),bx):=by
 have hb1:=buildYv
 have hl:=op_Lit1
 unfold leafV at hl ⊢
 rw [callL_enter (fn:=Tryz.f26) (c:=Tryz.f26.body.getD .skip) rfl rfl fat_R28_Flag rfl ok_R28_Flag (Nat.le_of_ble_eq_true rfl)]
 obtain ⟨ev,eo,so,co,⟨hev,hco⟩,R⟩:=RULES CC;rw [<- hev]
 rw [<- hco] at hl
 simp only [fpart,part',Tryz.f26,Option.getD]
 simp only [S9,R,seval,dynR,hb1,hl,TRf]
 exact ⟨_,rfl⟩
theorem op_Flag1 (bx):callOp CC (callL CC) 26 [.bool true] bx=some (.ret (leafV 1 0 0 [] (1,1,[]) (0,[],[])),bx):=by
 obtain ⟨b,h⟩:=call_Flag1
 exact callOp_of rfl rfl h rfl
def PRl (j:Nat) (b:PBox) (s:List UInt8) (res:Option (Ex×St)):Prop:=∃ e',res=some (.exit j,⟨e',[b]⟩)∧getT e' 1=.bp 0 0∧getT e' 5=.str s
theorem lp_ron (L:Code) (hL:L=fpart Tryz.f18 [1,1,1,1,0,1,0]) (l:List Tg) (hl:l.length<=12) (hc:∀ t ∈ l,(∀ bx,callOp CC (callL CC) 42 [tgV t] bx=some (.ret (.str (evS t)),bx))∧(evS t).length<=1000) (nm:List UInt8) (pr zk zn zm v1 v2 q1:Int) (znm v3 q2 q3:List UInt8) (zs:List PV) (dos:PV):∀ (k i:Nat) (e:List PV) (acc:List UInt8),i+k=l.length ->
 getT e 1=.bp 0 0->getT e 5=.str acc->getT e 24=.int .i64 l.length->getT e 25=.int .i64 i->acc.length<=1000+1100 * i ->
 PRl 0 (.cells 32 [.str nm,.int .i64 pr,.sl (l.map tgV),.int .i64 zk,.int .i64 zn,.int .i64 zm,.str znm,.int .i64 v1,.int .i64 v2,.str v3,.int .i64 q1,.str q2,.str q3,.sl zs,dos]) (acc++(l.drop i).flatMap onS) (evL CC L ⟨e,[.cells 32 [.str nm,.int .i64 pr,.sl (l.map tgV),.int .i64 zk,.int .i64 zn,.int .i64 zm,.str znm,.int .i64 v1,.int .i64 v2,.str v3,.int .i64 q1,.str q2,.str q3,.sl zs,dos]]⟩):=by
 intro k
 induction k with
 | zero=>
  intro i e acc hi0 e1 e5 el ei ha
  rw [evL_at (fpart Tryz.f18 [1,1,1,1,0,1,0,0]) hL]
  have hi:¬ ((i:Int) < (l.length:Int)):=by omega
  rw [List.drop_eq_nil_of_le (by omega),List.flatMap_nil,List.append_nil]
  generalize l.map tgV=xs at *
  obtain ⟨ev,eo,so,co,⟨hev,hco⟩,R⟩:=RULES CC;rw [<- hev]
  simp only [fpart,part',Tryz.f18,Option.getD]
  simp only [S9,R,seval,dynR,e1,e5,el,ei,hi]
  exact ⟨_,rfl,by simp only [S7,R,seval,e1],by simp only [S7,R,seval,e5]⟩
 | succ k ih=>
  intro i e acc hi0 e1 e5 el ei ha
  rw [evL_at (fpart Tryz.f18 [1,1,1,1,0,1,0,0]) hL]
  have hi:((i:Int) < (l.length:Int)):=by omega
  have hi0':¬ ((i:Int) < 0):=by omega
  have hdr:l.drop i=(l[i]'(by omega)) :: l.drop (i+1):=List.drop_eq_getElem_cons (by omega)
  have hx:(l.map tgV)[i]?=some (tgV (l[i]'(by omega))):=by rw [List.getElem?_map,List.getElem?_eq_getElem (by omega)];rfl
  have hw1:=wrap_i64 (n:=(i:Int)+1) ⟨by omega,by omega⟩
  have hop:=(hc (l[i]'(by omega)) (List.getElem_mem _)).1
  have hlen:=(hc (l[i]'(by omega)) (List.getElem_mem _)).2
  have key:=fun e acc=>ih (i+1) e acc (by omega)
  have cast1:((i+1:Nat):Int)=(i:Int)+1:=by omega
  rw [cast1] at key
  rw [hdr,List.flatMap_cons,<- List.append_assoc]
  have hon:onS (l[i]'(by omega))=cat (cat [32,32,111,110,32] (evS (l[i]'(by omega)))) [59,10]:=rfl
  rw [hon]
  clear hon hc
  generalize (l.drop (i+1)).flatMap onS=rest at *
  generalize l[i]'(by omega)=x at *
  generalize evS x=s at *
  generalize l.map tgV=xs at *
  have cA:=catA (a:=[32,32,111,110,32]) (b:=s) (by simp only [List.length_cons,List.length_nil];omega)
  have cB:=catA (a:=cat [32,32,111,110,32] s) (b:=[59,10]) (by rw [cat_len];simp only [List.length_cons,List.length_nil];omega)
  have lw:(cat (cat [32,32,111,110,32] s) [59,10]).length<=1007:=by rw [cat_len,cat_len];simp only [List.length_cons,List.length_nil];omega
  have cC:=catA (a:=acc) (b:=cat (cat [32,32,111,110,32] s) [59,10]) (by omega)
  have ha':(acc++cat (cat [32,32,111,110,32] s) [59,10]).length<=1000+1100 * (i+1):=by rw [List.length_append];omega
  have hcat:cat acc (cat (cat [32,32,111,110,32] s) [59,10])=acc++cat (cat [32,32,111,110,32] s) [59,10]:=rfl
  rw [hcat] at cC
  generalize acc++cat (cat [32,32,111,110,32] s) [59,10]=w at *
  obtain ⟨xk,xkey,xev,xnm,xn,xm⟩:=x
  obtain ⟨xd,xcl,xat⟩:=xkey
  obtain ⟨yd,yc,yn⟩:=xev
  unfold tgV at hx hop
  simp only at hx hop
  obtain ⟨ev,eo,so,co,⟨hev,hco⟩,R⟩:=RULES CC;rw [<- hev]
  rw [<- hev] at key
  rw [<- hco] at hop
  simp only [fpart,part',Tryz.f18,Option.getD]
  simp only [S9,R,seval,dynR,e1,e5,el,ei,hi,hi0',hx,hw1,hop,TGf,cA,cB,cC]
  refine key _ _ ?_ ?_ ?_ ?_ ha'
  all_goals simp only [S7,R,seval,e1,el,ei]
theorem lp_rdo (L:Code) (hL:L=fpart Tryz.f18 [1,1,1,1,1,1,0,1,0]) (l:List Sp) (hl:l.length<=12) (hc:∀ t ∈ l,(∀ bx,callOp CC (callL CC) 43 [spV t] bx=some (.ret (.str (acS t)),bx))∧(acS t).length<=141000) (nm:List UInt8) (pr zk zn zm v1 v2 q1:Int) (znm v3 q2 q3:List UInt8) (zs:List PV) (on:PV):∀ (k i:Nat) (e:List PV) (acc:List UInt8),i+k=l.length ->
 getT e 1=.bp 0 0->getT e 5=.str acc->getT e 53=.int .i64 l.length->getT e 54=.int .i64 i->acc.length<=200000+141100 * i ->
 PRl 2 (.cells 32 [.str nm,.int .i64 pr,on,.int .i64 zk,.int .i64 zn,.int .i64 zm,.str znm,.int .i64 v1,.int .i64 v2,.str v3,.int .i64 q1,.str q2,.str q3,.sl zs,.sl (l.map spV)]) (acc++(l.drop i).flatMap doS) (evL CC L ⟨e,[.cells 32 [.str nm,.int .i64 pr,on,.int .i64 zk,.int .i64 zn,.int .i64 zm,.str znm,.int .i64 v1,.int .i64 v2,.str v3,.int .i64 q1,.str q2,.str q3,.sl zs,.sl (l.map spV)]]⟩):=by
 intro k
 induction k with
 | zero=>
  intro i e acc hi0 e1 e5 el ei ha
  rw [evL_at (fpart Tryz.f18 [1,1,1,1,1,1,0,1,0,0]) hL]
  have hi:¬ ((i:Int) < (l.length:Int)):=by omega
  rw [List.drop_eq_nil_of_le (by omega),List.flatMap_nil,List.append_nil]
  generalize l.map spV=xs at *
  obtain ⟨ev,eo,so,co,⟨hev,hco⟩,R⟩:=RULES CC;rw [<- hev]
  simp only [fpart,part',Tryz.f18,Option.getD]
  simp only [S9,R,seval,dynR,e1,e5,el,ei,hi]
  exact ⟨_,rfl,by simp only [S7,R,seval,e1],by simp only [S7,R,seval,e5]⟩
 | succ k ih=>
  intro i e acc hi0 e1 e5 el ei ha
  rw [evL_at (fpart Tryz.f18 [1,1,1,1,1,1,0,1,0,0]) hL]
  have hi:((i:Int) < (l.length:Int)):=by omega
  have hi0':¬ ((i:Int) < 0):=by omega
  have hdr:l.drop i=(l[i]'(by omega)) :: l.drop (i+1):=List.drop_eq_getElem_cons (by omega)
  have hx:(l.map spV)[i]?=some (spV (l[i]'(by omega))):=by rw [List.getElem?_map,List.getElem?_eq_getElem (by omega)];rfl
  have hw1:=wrap_i64 (n:=(i:Int)+1) ⟨by omega,by omega⟩
  have hop:=(hc (l[i]'(by omega)) (List.getElem_mem _)).1
  have hlen:=(hc (l[i]'(by omega)) (List.getElem_mem _)).2
  have key:=fun e acc=>ih (i+1) e acc (by omega)
  have cast1:((i+1:Nat):Int)=(i:Int)+1:=by omega
  rw [cast1] at key
  rw [hdr,List.flatMap_cons,<- List.append_assoc]
  have hon:doS (l[i]'(by omega))=cat (cat [32,32,100,111,32] (acS (l[i]'(by omega)))) [59,10]:=rfl
  rw [hon]
  clear hon hc
  generalize (l.drop (i+1)).flatMap doS=rest at *
  generalize l[i]'(by omega)=x at *
  generalize acS x=s at *
  generalize l.map spV=xs at *
  have cA:=catA (a:=[32,32,100,111,32]) (b:=s) (by simp only [List.length_cons,List.length_nil];omega)
  have cB:=catA (a:=cat [32,32,100,111,32] s) (b:=[59,10]) (by rw [cat_len];simp only [List.length_cons,List.length_nil];omega)
  have lw:(cat (cat [32,32,100,111,32] s) [59,10]).length<=141007:=by rw [cat_len,cat_len];simp only [List.length_cons,List.length_nil];omega
  have cC:=catA (a:=acc) (b:=cat (cat [32,32,100,111,32] s) [59,10]) (by omega)
  have ha':(acc++cat (cat [32,32,100,111,32] s) [59,10]).length<=200000+141100 * (i+1):=by rw [List.length_append];omega
  have hcat:cat acc (cat (cat [32,32,100,111,32] s) [59,10])=acc++cat (cat [32,32,100,111,32] s) [59,10]:=rfl
  rw [hcat] at cC
  generalize acc++cat (cat [32,32,100,111,32] s) [59,10]=w at *
  obtain ⟨xk,xkey,xnm,xex⟩:=x
  obtain ⟨xd,xcl,xat⟩:=xkey
  obtain ⟨uk,un,um,unm,uv,ukey,ukids⟩:=xex
  unfold spV trC trV at hx hop
  generalize trVs ukids=us at *
  simp only [SA,List.cons_append,List.nil_append] at hx hop
  obtain ⟨ev,eo,so,co,⟨hev,hco⟩,R⟩:=RULES CC;rw [<- hev]
  rw [<- hev] at key
  rw [<- hco] at hop
  simp only [fpart,part',Tryz.f18,Option.getD]
  simp only [S9,R,seval,dynR,e1,e5,el,ei,hi,hi0',hx,hw1,hop,TGf,cA,cB,cC]
  refine key _ _ ?_ ?_ ?_ ?_ ha'
  all_goals simp only [S7,R,seval,e1,el,ei]
theorem call_R30_Rule (r:Rl) (hp:plRl r=true) (ho:okRl r):∃ bx,callL CC 18 [rlV r] []=some (.ret (.tup [.str (ruT r),.int .i64 (rlE r)]),bx):=by
 have och:=op_R30_CheckRl r hp
 unfold ruT
 by_cases h:rlE r=0
 case neg=>
  rw [if_neg h]
  generalize rlE r=er at *
  clear hp ho
  obtain ⟨nm,pr,on,ife,dos⟩:=r
  unfold rlV trC at *
  obtain ⟨zk,zn,zm,znm,zv,zkey,zkids⟩:=ife
  unfold trV at *
  simp only [SA,List.cons_append,List.nil_append] at och ⊢
  have hpz:=trVs_pure zkids
  have hpx:=tgs_pure on
  have hpy:=sps_pure dos
  generalize trVs zkids=zs at *
  generalize on.map tgV=xs at *
  generalize dos.map spV=ys at *
  have p:(er != 0)=true:=by simpa using h
  rw [callL_enter (fn:=Tryz.f18) (c:=Tryz.f18.body.getD .skip) rfl rfl fat_R30_Rule rfl ok_R30_Rule (Nat.le_of_ble_eq_true rfl)]
  obtain ⟨ev,eo,so,co,⟨hev,hco⟩,R⟩:=RULES CC;rw [<- hev]
  rw [<- hco] at och
  simp only [fpart,part',Tryz.f18,Option.getD]
  simp only [S9,R,seval,dynR,och,p,hpx,hpy,hpz]
  exact ⟨_,rfl⟩
 rw [if_pos h]
 obtain ⟨g1,g2,g3,g4,g5,g6⟩:=plRl_len hp
 obtain ⟨p1,p2,p3,p4,p5,p6⟩:=rlE_parts h
 have ipr:inI r.pr:=⟨by omega,by omega⟩
 have hhd:=hd_len g1 ipr
 obtain ⟨t1,t2,t3⟩:=RX_len g4 ho.2.2.2.2.1 p5
 have ok:∀ bx,callOp CC (callL CC) 38 [trV r.ife] bx=some (.ret (.str (kdS (an r.ife) 0)),bx):=fun bx=>by rw [kdS0 p5];exact t1 bx
 have lk:=t3 0
 have odg:=op_R01_Digits r.pr ipr
 have oys:=fun bx=>op_R28_Same r.ife 1 0 0 [] (1,1,[]) (0,[],[]) bx
 have ofl:=op_Flag1
 have hev2:∀ t ∈ r.on,(∀ bx,callOp CC (callL CC) 42 [tgV t] bx=some (.ret (.str (evS t)),bx))∧(evS t).length<=1000:=fun t ht=>⟨op_TriggerText t (g5 t ht) (p4 t ht),ev_len (g5 t ht) (p4 t ht)⟩
 have hac:∀ s ∈ r.dos,(∀ bx,callOp CC (callL CC) 43 [spV s] bx=some (.ret (.str (acS s)),bx))∧(acS s).length<=141000:=fun s hs=>⟨op_StepText s (g6 s hs) (ho.2.2.2.2.2.2 s hs).2.2.2 (p6 s hs),ac_len (g6 s hs) (ho.2.2.2.2.2.2 s hs).2.2.2 (p6 s hs)⟩
 have lon:=flatMap_len onS 1007 r.on fun t ht=>on_len (hev2 t ht).2
 have ldo:=flatMap_len doS 141007 r.dos fun s hs=>do_len (hac s hs).2
 have hif:ifS r.ife=cat (cat [32,32,105,102,32] (kdS (an r.ife) 0)) [59,10]:=rfl
 have lif:(ifS r.ife).length<=140009:=by
  rw [hif,cat_len,cat_len]
  simp only [List.length_cons,List.length_nil]
  omega
 have hys:smB r.ife 1 0 0 [] (1,1,[]) (0,[],[])=yesB r.ife:=rfl
 rw [hys] at oys
 rw [h] at och ⊢
 unfold rlS
 have hhe:hdS r=cat (cat (cat (cat [114,117,108,101,32] r.nm) [32,112,114,105,111,114,105,116,121,32]) (Lib.itoa r.pr)) [32,123,10]:=rfl
 have lit:=itoa_length ipr
 clear h hp ho t1 t2 t3 p1 p2 p3 p4 p5 p6 g4 g5 g6 ipr hys
 obtain ⟨nm,pr,on,ife,dos⟩:=r
 simp only at *
 have l1:(on.map tgV).length=on.length:=List.length_map _
 have l2:(dos.map spV).length=dos.length:=List.length_map _
 have hon:=fun pr zk zn zm v1 v2 q1 znm v3 q2 q3 zs dd e acc=>lp_ron _ rfl on (by omega) hev2 nm pr zk zn zm v1 v2 q1 znm v3 q2 q3 zs dd on.length 0 e acc (by omega)
 have hdo:=fun pr zk zn zm v1 v2 q1 znm v3 q2 q3 zs dd e acc=>lp_rdo _ rfl dos (by omega) hac nm pr zk zn zm v1 v2 q1 znm v3 q2 q3 zs dd dos.length 0 e acc (by omega)
 simp only [List.drop_zero] at hon hdo
 have c1:=catA (a:=[114,117,108,101,32]) (b:=nm) (by simp only [List.length_cons,List.length_nil];omega)
 have c2:=catA (a:=cat [114,117,108,101,32] nm) (b:=[32,112,114,105,111,114,105,116,121,32]) (by rw [cat_len];simp only [List.length_cons,List.length_nil];omega)
 have c3:=catA (a:=cat (cat [114,117,108,101,32] nm) [32,112,114,105,111,114,105,116,121,32]) (b:=Lib.itoa pr) (by rw [cat_len,cat_len];simp only [List.length_cons,List.length_nil];omega)
 have c4:=catA (a:=cat (cat (cat [114,117,108,101,32] nm) [32,112,114,105,111,114,105,116,121,32]) (Lib.itoa pr)) (b:=[32,123,10]) (by rw [cat_len,cat_len,cat_len];simp only [List.length_cons,List.length_nil];omega)
 have d1:=catA (a:=[32,32,105,102,32]) (b:=kdS (an ife) 0) (by simp only [List.length_cons,List.length_nil];omega)
 have d2:=catA (a:=cat [32,32,105,102,32] (kdS (an ife) 0)) (b:=[59,10]) (by rw [cat_len];simp only [List.length_cons,List.length_nil];omega)
 rw [<- hhe] at c4
 rw [<- hif] at d2
 clear hhe hif hev2 hac
 generalize hdS ⟨nm,pr,on,ife,dos⟩=hd at *
 generalize ifS ife=iff at *
 generalize kdS (an ife) 0=kd at *
 generalize yesB ife=ys at *
 generalize on.flatMap onS=ons at *
 generalize dos.flatMap doS=dss at *
 generalize Lib.itoa pr=dg at *
 have q2:strP .add (hd++ons) iff=some (.str (hd++ons++iff)):=catA (by rw [List.length_append];omega)
 have q3:strP .add (hd++ons++dss) [125,10]=some (.str (hd++ons++dss++[125,10])):=catA (by simp only [List.length_append,List.length_cons,List.length_nil];omega)
 have q4:strP .add (hd++ons++iff++dss) [125,10]=some (.str (hd++ons++iff++dss++[125,10])):=catA (by simp only [List.length_append,List.length_cons,List.length_nil];omega)
 have a1:hd.length<=1000+1100 * 0:=by omega
 have a2:(hd++ons).length<=200000+141100 * 0:=by rw [List.length_append];omega
 have a3:(hd++ons++iff).length<=200000+141100 * 0:=by rw [List.length_append,List.length_append];omega
 clear hhd lk lon ldo lif lit g1 g2 g3
 unfold rlV trC at *
 obtain ⟨zk,zn,zm,znm,⟨v1,v2,v3⟩,⟨q1,qq2,qq3⟩,zkids⟩:=ife
 unfold trV at ok oys och ⊢
 unfold leafV at oys ofl
 have hpz:=trVs_pure zkids
 have hpx:=tgs_pure on
 have hpy:=sps_pure dos
 generalize trVs zkids=zs at *
 simp only [SA,List.cons_append,List.nil_append] at ok oys och ⊢
 have hon:=hon pr zk zn zm v1 v2 q1 znm v3 qq2 qq3 zs (.sl (dos.map spV))
 have hdo:=hdo pr zk zn zm v1 v2 q1 znm v3 qq2 qq3 zs (.sl (on.map tgV))
 generalize on.map tgV=xs at *
 generalize dos.map spV=zz at *
 rw [callL_enter (fn:=Tryz.f18) (c:=Tryz.f18.body.getD .skip) rfl rfl fat_R30_Rule rfl ok_R30_Rule (Nat.le_of_ble_eq_true rfl)]
 obtain ⟨ev,eo,so,co,⟨hev,hco⟩,R⟩:=RULES CC;rw [<- hev]
 rw [<- hco] at ok odg oys ofl och
 rw [<- hev] at hon hdo
 simp only [fpart,part',Tryz.f18,Option.getD] at hon hdo ⊢
 simp only [S9,R,seval,dynR,och,odg,c1,c2,c3,c4,l1,hpx,hpy,hpz]
 generalize hE:ev (Code.loop _) _=z
 have hP:PRl 0 (.cells 32 [.str nm,.int .i64 pr,.sl xs,.int .i64 zk,.int .i64 zn,.int .i64 zm,.str znm,.int .i64 v1,.int .i64 v2,.str v3,.int .i64 q1,.str qq2,.str qq3,.sl zs,.sl zz]) (hd++ons) z:=by
  rw [<- hE]
  refine hon _ _ ?_ ?_ ?_ ?_ a1
  all_goals first | (simp only [S7,R,seval];done) | (simp only [S7,R,seval] <;> rfl)
 obtain ⟨e',rfl,k1,k5⟩:=hP
 cases ys with
 | true=>
  rw [if_pos rfl,List.append_nil]
  simp only [S9,R,seval,dynR,k1,k5,TRf,oys,ofl,l2,hpz]
  generalize hE2:ev (Code.loop _) _=z2
  have hP2:PRl 2 (.cells 32 [.str nm,.int .i64 pr,.sl xs,.int .i64 zk,.int .i64 zn,.int .i64 zm,.str znm,.int .i64 v1,.int .i64 v2,.str v3,.int .i64 q1,.str qq2,.str qq3,.sl zs,.sl zz]) (hd++ons++dss) z2:=by
   rw [<- hE2]
   refine hdo _ _ ?_ ?_ ?_ ?_ a2
   all_goals first | (simp only [S7,R,seval,k1,k5];done) | (simp only [S7,R,seval,k1,k5] <;> rfl)
  obtain ⟨e2,rfl,m1,m5⟩:=hP2
  simp only [S9,R,seval,dynR,m1,m5,q3]
  exact ⟨_,rfl⟩
 | false=>
  rw [if_neg (by simp)]
  simp only [S9,R,seval,dynR,k1,k5,TRf,oys,ofl,ok,d1,d2,q2,l2,hpz]
  generalize hE2:ev (Code.loop _) _=z2
  have hP2:PRl 2 (.cells 32 [.str nm,.int .i64 pr,.sl xs,.int .i64 zk,.int .i64 zn,.int .i64 zm,.str znm,.int .i64 v1,.int .i64 v2,.str v3,.int .i64 q1,.str qq2,.str qq3,.sl zs,.sl zz]) (hd++ons++iff++dss) z2:=by
   rw [<- hE2]
   refine hdo _ _ ?_ ?_ ?_ ?_ a3
   all_goals first | (simp only [S7,R,seval,k1,k5];done) | (simp only [S7,R,seval,k1,k5] <;> rfl)
  obtain ⟨e2,rfl,m1,m5⟩:=hP2
  simp only [S9,R,seval,dynR,m1,m5,q4]
  exact ⟨_,rfl⟩
theorem op_R30_Rule (r:Rl) (hp:plRl r=true) (ho:okRl r) (bx):callOp CC (callL CC) 18 [rlV r] bx=some (.ret (.tup [.str (ruT r),.int .i64 (rlE r)]),bx):=by
 obtain ⟨b,hc⟩:=call_R30_Rule r hp ho
 exact callOp_of rfl (by simp only [pureL_cons,rlV_pure,pureL_nil,Bool.and_self]) hc rfl
end Go.HH
namespace Go.HH
open Go Go.Proofs
set_option maxRecDepth 100000
set_option maxHeartbeats 4000000
set_option linter.unusedSimpArgs false
set_option linter.unusedVariables false
theorem ok_print_Rules:fnOK CC Tryz.f19 (Tryz.f19.body.getD .skip)=true:=by kernel_rfl
theorem fat_print_Rules:CC.P.funcs[19]?=some Tryz.f19:=by kernel_rfl
theorem rlS_len {r:Rl} (hp:plRl r=true) (ho:okRl r) (h:rlE r=0):(rlS r).length<=3000000:=by
 obtain ⟨g1,g2,g3,g4,g5,g6⟩:=plRl_len hp
 obtain ⟨p1,p2,p3,p4,p5,p6⟩:=rlE_parts h
 have hhd:=hd_len g1 (r:=r) ⟨by omega,by omega⟩
 have t3:=(TX_len g4 ho.2.2.2.2.1 p5).2.2 0
 have lon:=flatMap_len onS 1007 r.on fun t ht=>on_len (ev_len (g5 t ht) (p4 t ht))
 have ldo:=flatMap_len doS 141007 r.dos fun s hs=>do_len (ac_len (g6 s hs) (ho.2.2.2.2.2.2 s hs).2.2.2 (p6 s hs))
 have lif:(if yesB r.ife=true then [] else ifS r.ife).length<=140009:=by
  split
  · simp
  · unfold ifS
    rw [cat_len,cat_len]
    simp only [List.length_cons,List.length_nil]
    omega
 unfold rlS
 simp only [List.length_append,List.length_cons,List.length_nil]
 omega
theorem ZRl:zeroCells CC 32=some [.str [],.int .i64 0,.nils,.int .i64 0,.int .i64 0,.int .i64 0,.str [],.int .i64 0,.int .i64 0,.str [],.int .i64 0,.str [],.str [],.nils,.nils]:=by kernel_rfl
def dupN (l:List Rl) (nm:List UInt8):Bool:=l.any fun b=>b.nm == nm
def rsG:List Rl->List Rl->List UInt8->Int×List UInt8
 | _,[],acc=>(0,acc)
 | pre,r :: rest,acc=>if rlE r=0 then (if dupN pre r.nm=true then (9,[]) else rsG (pre++[r]) rest (acc++rlS r)) else (rlE r,[])
def rsA (l:List Rl):Int×List UInt8:=if 40 < l.length then (3,[]) else if (rsG [] l []).1=0 then (if (toks (rsG [] l []).2).2.2=0 then (0,(rsG [] l []).2) else (3,[])) else ((rsG [] l []).1,[])
theorem set_last {α:Type} (ys:List α) (x y:α):(ys++[x]).set ys.length y=ys++[y]:=by
 rw [List.set_append_right _ _ (Nat.le_refl _),Nat.sub_self]
 rfl
theorem get_old {α:Type} {ys:List α} {J:Nat} {b:α} (h:ys[J]?=some b) (z:List α):(ys++z)[J]?=some b:=by
 rw [List.getElem?_append_left (List.getElem?_eq_some_iff.1 h).1,h]
def PDup (b:Bool) (e:List PV) (P:PBox) (ys:List PBox) (z:Option (Ex×St)):Prop:=match b with
 | true=>∃ e' ys',z=some (.ret,⟨e',P :: ys'⟩)∧getT e' 2=.str []∧getT e' 3=.int .i64 9
 | false=>∃ e' ys',z=some (.exit 2,⟨e',P :: (ys++ys')⟩)∧(∀ n,(ys'.all fun y=>y.under n)=true)∧getT e' 0=getT e 0∧getT e' 4=getT e 4∧getT e' 5=getT e 5∧getT e' 7=getT e 7∧getT e' 19=getT e 19∧getT e' 20=getT e 20∧getT e' 21=getT e 21
theorem PDup_step {b:Bool} {e E:List PV} {P:PBox} {ys:List PBox} {x:PBox} {z:Option (Ex×St)} (hx:∀ n,x.under n=true) (k0:getT E 0=getT e 0) ( k4:getT E 4=getT e 4) ( k5:getT E 5=getT e 5) ( k7:getT E 7=getT e 7) ( k19:getT E 19=getT e 19) ( k20:getT E 20=getT e 20) ( k21:getT E 21=getT e 21) (h:PDup b E P (ys++[x]) z):PDup b e P ys z:=by
 cases b with
 | true=>exact h
 | false=>
  obtain ⟨e',ys',h1,h2,g0,g4,g5,g7,g19,g20,g21⟩:=h
  refine ⟨e',x :: ys',?_,fun n=>by rw [List.all_cons,hx,h2];rfl,g0.trans k0,g4.trans k4,g5.trans k5,g7.trans k7,g19.trans k19,g20.trans k20,g21.trans k21⟩
  rw [h1,List.append_assoc]
  rfl
theorem rlb_under (r:Rl) (n:Nat):(PBox.cells 32 (rlV r).cells).under n=true:=pureL_under n _ (rlV_cells r)
theorem lp_dup (L:Code) (hL:L=fpart Tryz.f19 [1,1,1,1,0,1,0,0,1,1,0,0,1,1,0,1,0]) (pre:List Rl) (hl:pre.length<=50) (nm:List UInt8) (rc:List PV) (J:Nat) (P:PBox):∀ (k i:Nat) (e:List PV) (ys:List PBox),i+k=pre.length ->
 ys[J]?=some (.cells 32 (.str nm :: rc))->getT e 7=.bp (J+1) 0->getT e 33=.sl (pre.map rlV)->getT e 34=.int .i64 pre.length->getT e 35=.int .i64 i ->
 PDup (dupN (pre.drop i) nm) e P ys (evL CC L ⟨e,P :: ys⟩):=by
 intro k
 induction k with
 | zero=>
  intro i e ys hi0 hJ e7 es el ei
  rw [evL_at (fpart Tryz.f19 [1,1,1,1,0,1,0,0,1,1,0,0,1,1,0,1,0,0]) hL]
  have hi:¬ ((i:Int) < (pre.length:Int)):=by omega
  rw [List.drop_eq_nil_of_le (by omega)]
  generalize pre.map rlV=xs at *
  obtain ⟨ev,eo,so,co,⟨hev,hco⟩,R⟩:=RULES CC;rw [<- hev]
  simp only [fpart,part',Tryz.f19,Option.getD]
  simp only [S9,R,seval,dynR,es,el,ei,hi]
  exact ⟨_,[],by rw [List.append_nil],fun n=>rfl,by simp only [S7,R,seval],by simp only [S7,R,seval],by simp only [S7,R,seval],by simp only [S7,R,seval],by simp only [S7,R,seval],by simp only [S7,R,seval],by simp only [S7,R,seval]⟩
 | succ k ih=>
  intro i e ys hi0 hJ e7 es el ei
  rw [evL_at (fpart Tryz.f19 [1,1,1,1,0,1,0,0,1,1,0,0,1,1,0,1,0,0]) hL]
  have hi:((i:Int) < (pre.length:Int)):=by omega
  have hi0':¬ ((i:Int) < 0):=by omega
  have hdr:pre.drop i=(pre[i]'(by omega)) :: pre.drop (i+1):=List.drop_eq_getElem_cons (by omega)
  have hx:(pre.map rlV)[i]?=some (rlV (pre[i]'(by omega))):=by rw [List.getElem?_map,List.getElem?_eq_getElem (by omega)];rfl
  have hw1:=wrap_i64 (n:=(i:Int)+1) ⟨by omega,by omega⟩
  have hxu:=rlb_under (pre[i]'(by omega))
  have key:=fun e ys=>ih (i+1) e ys (by omega)
  have cast1:((i+1:Nat):Int)=(i:Int)+1:=by omega
  rw [cast1] at key
  rw [hdr]
  have hdn:dupN ((pre[i]'(by omega)) :: pre.drop (i+1)) nm=((pre[i]'(by omega)).nm == nm || dupN (pre.drop (i+1)) nm):=rfl
  rw [hdn]
  clear hdn
  generalize dupN (pre.drop (i+1)) nm=rest at *
  generalize pre[i]'(by omega)=x at *
  generalize pre.map rlV=ps at *
  have hz:=ZRl
  have hs:=fun a b=>set_last ys a b
  have hg:=fun a=>List.getElem?_concat_length (l:=ys) (a:=a)
  have hJ2:=get_old hJ
  have hst:strP .eql x.nm nm=some (.bool (x.nm == nm)):=rfl
  obtain ⟨xnm,xpr,xon,⟨xk,xn,xm,xsn,xv,xkey,xkids⟩,xdos⟩:=x
  unfold rlV trC at hx hxu
  simp only at hst ⊢
  unfold trV at hx hxu
  simp only [SA,List.cons_append,List.nil_append] at hx hxu
  generalize trVs xkids=zs at *
  generalize xon.map tgV=us at *
  generalize xdos.map spV=vs at *
  have hps:pureL zs=true->True:=fun _=>trivial
  cases hn:xnm == nm with
  | true=>
   rw [hn] at hst
   obtain ⟨ev,eo,so,co,⟨hev,hco⟩,R⟩:=RULES CC;rw [<- hev]
   simp only [fpart,part',Tryz.f19,Option.getD]
   simp only [S9,R,seval,dynR,es,el,ei,e7,hi,hi0',hx,hst,hz,hs,hg,hJ2,List.length_append,List.set_cons_succ,Bool.true_or]
   exact ⟨_,_,rfl,by simp only [S7,R,seval],by simp only [S7,R,seval]⟩
  | false=>
   rw [hn] at hst
   obtain ⟨ev,eo,so,co,⟨hev,hco⟩,R⟩:=RULES CC;rw [<- hev]
   rw [<- hev] at key
   simp only [fpart,part',Tryz.f19,Option.getD]
   simp only [S9,R,seval,dynR,es,el,ei,e7,hi,hi0',hx,hw1,hst,hz,hs,hg,hJ2,List.length_append,List.set_cons_succ,Bool.false_or]
   refine PDup_step hxu ?_ ?_ ?_ ?_ ?_ ?_ ?_ (key _ _ (hJ2 _) ?_ ?_ ?_ ?_)
   all_goals simp only [S7,R,seval,e7,es,el,ei]
end Go.HH
namespace Go.HH
open Go Go.Proofs
set_option maxRecDepth 100000
set_option maxHeartbeats 4000000
set_option linter.unusedSimpArgs false
set_option linter.unusedVariables false
theorem slice_pre (xs:List PV) (n:Nat) (h:n<=xs.length):sliceP CC 41 (.sl xs) none (some (.int .i64 (n:Int)))=some (.sl (xs.take n)):=by
 have hb:boundO xs.length xs.length (some (.int .i64 (n:Int)))=some n:=by
  unfold boundO boundP
  simp only
  rw [if_pos ⟨by omega,by omega⟩]
  simp
 unfold sliceP
 rw [show CC.P.underlying 41=some (.slice 32) from by kernel_rfl]
 simp only [elemsOf,show tSize CC 32=some 15 from by kernel_rfl,hb,show boundO n 0 none=some 0 from rfl,true_or,if_true,List.drop_zero]
def PRs (r:Int×List UInt8) (z:Option (Ex×St)):Prop:=if r.1=0 then ∃ e' ys',z=some (.exit 0,⟨e',PGB r.2 :: ys'⟩)∧getT e' 4=.bp 0 0 else ∃ e' b',z=some (.ret,⟨e',b'⟩)∧getT e' 2=.str []∧getT e' 3=.int .i64 r.1
theorem PRs_err {c:Int} {s:List UInt8} {z:Option (Ex×St)} (hc:c≠0) (h:∃ e' b',z=some (.ret,⟨e',b'⟩)∧getT e' 2=.str []∧getT e' 3=.int .i64 c):PRs (c,s) z:=by
 unfold PRs
 rw [if_neg hc]
 exact h
theorem clB_pg (acc:List UInt8) (ys:List PBox) (h:∀ n,(ys.all fun y=>y.under n)=true):clB (PGB acc :: ys):=by
 unfold clB
 rw [List.all_cons,PGB_under,h]
 rfl
theorem lp_rs (L:Code) (hL:L=fpart Tryz.f19 [1,1,1,1,0,1,0]) (l:List Rl) (hl:l.length<=20) (hok:∀ r ∈ l,plRl r=true∧okRl r):∀ (rest pre:List Rl) (e:List PV) (acc:List UInt8) (ys:List PBox),l=pre++rest ->
 getT e 0=.sl (l.map rlV)->getT e 4=.bp 0 0->getT e 5=putV 0->getT e 19=.sl (l.map rlV)->getT e 20=.int .i64 l.length->getT e 21=.int .i64 pre.length->(∀ n,(ys.all fun y=>y.under n)=true)->acc.length<=3000000 * pre.length ->
 PRs (rsG pre rest acc) (evL CC L ⟨e,PGB acc :: ys⟩):=by
 intro rest
 induction rest with
 | nil=>
  intro pre e acc ys hpr e0 e4 e5 es el ei hys hac
  rw [evL_at (fpart Tryz.f19 [1,1,1,1,0,1,0,0]) hL]
  rw [List.append_nil] at hpr
  have hi:¬ ((pre.length:Int) < (l.length:Int)):=by rw [hpr];omega
  unfold rsG
  generalize l.map rlV=xs at *
  obtain ⟨ev,eo,so,co,⟨hev,hco⟩,R⟩:=RULES CC;rw [<- hev]
  simp only [fpart,part',Tryz.f19,Option.getD]
  simp only [S9,R,seval,dynR,es,el,ei,hi]
  exact ⟨_,_,rfl,by simp only [S7,R,seval,e4]⟩
 | cons r rest ih=>
  intro pre e acc ys hpr e0 e4 e5 es el ei hys hac
  rw [evL_at (fpart Tryz.f19 [1,1,1,1,0,1,0,0]) hL]
  have hll:l.length=pre.length+(rest.length+1):=by rw [hpr,List.length_append,List.length_cons]
  have hi:((pre.length:Int) < (l.length:Int)):=by omega
  have hi0':¬ ((pre.length:Int) < 0):=by omega
  have hx:(l.map rlV)[pre.length]?=some (rlV r):=by rw [hpr,List.map_append,List.getElem?_append_right (by rw [List.length_map];exact Nat.le_refl _),List.length_map,Nat.sub_self];rfl
  have hsl:=slice_pre (l.map rlV) pre.length (by rw [List.length_map];omega)
  have htk:(l.map rlV).take pre.length=pre.map rlV:=by rw [hpr,List.map_append,List.take_left' (by rw [List.length_map])]
  rw [htk] at hsl
  clear htk
  have hw1:=wrap_i64 (n:=(pre.length:Int)+1) ⟨by omega,by omega⟩
  obtain ⟨hp,ho⟩:=hok r (by rw [hpr];simp)
  have och:=op_print_CheckRl r hp
  have hdup:=fun e ys rc J=>lp_dup _ rfl pre (by omega) r.nm rc J (PGB acc) pre.length 0 e ys (Nat.zero_add _)
  rw [List.drop_zero] at hdup
  have key:=fun e ys (hr0:rlE r=0)=>ih (pre++[r]) e (acc++rlS r) ys (by rw [hpr,List.append_assoc] <;> rfl)
  have cast1:(((pre++[r]).length:Nat):Int)=(pre.length:Int)+1:=by rw [List.length_append];rfl
  rw [cast1] at key
  have hacc2:rlE r=0->(acc++rlS r).length<=3000000 * (pre++[r]).length:=fun h0=>by
   have:=rlS_len hp ho h0
   rw [List.length_append,List.length_append,List.length_singleton]
   omega
  have hwr:=fun (h0:rlE r=0) (bs:List PBox) (hb:∀ n,(bs.all fun y=>y.under n)=true)=>op_write r hp ho h0 (PGB acc :: bs) 0 (Nat.succ_pos _) (clB_pg acc bs hb) acc (by omega)
  simp only [List.set_cons_zero] at hwr
  have hru:=rlb_under r
  have hlenp:((pre.map rlV).length:Int)=(pre.length:Int):=by rw [List.length_map]
  rw [rsG]
  have hz:=ZRl
  have hs:=fun a b=>set_last ys a b
  have hg:=fun a=>List.getElem?_concat_length (l:=ys) (a:=a)
  clear hpr hok ih hll
  generalize rsG (pre++[r]) rest (acc++rlS r)=res at *
  generalize hdd:dupN pre r.nm=dd at *
  generalize rlE r=er at *
  generalize rlS r=rs at *
  generalize hPP:pre++[r]=pre2 at *
  generalize l.map rlV=ls at *
  generalize hpm:pre.map rlV=ps at *
  generalize hpl:pre.length=pn at *
  generalize l.length=ln at *
  clear hdd hpm hpl hPP
  unfold putV at e5 hwr key
  obtain ⟨nm,pr,on,⟨zk,zn,zm,znm,zv,zkey,zkids⟩,dos⟩:=r
  unfold rlV trC trV at hx och hwr hru
  simp only [SA,List.cons_append,List.nil_append,PV.cells] at hx och hwr hru hdup ⊢
  have hpz:=trVs_pure zkids
  have hpx:=tgs_pure on
  have hpy:=sps_pure dos
  generalize trVs zkids=zs at *
  generalize on.map tgV=xs at *
  generalize dos.map spV=zz at *
  have hcons:∀ (a:PBox) (b c:List PBox),a :: b++c=a :: (b++c):=fun _ _ _=>rfl
  by_cases h0:er=0
  case neg=>
   rw [if_neg h0]
   refine PRs_err h0 ?_
   have p:(er != 0)=true:=by simpa using h0
   clear hdup key hwr
   obtain ⟨ev,eo,so,co,⟨hev,hco⟩,R⟩:=RULES CC;rw [<- hev]
   rw [<- hco] at och
   simp only [fpart,part',Tryz.f19,Option.getD]
   simp only [S9,R,seval,dynR,e0,e4,e5,es,el,ei,hi,hi0',hx,och,p,hz,hs,hg,hpx,hpy,hpz,List.set_cons_succ]
   exact ⟨_,_,rfl,by simp only [S7,R,seval],by simp only [S7,R,seval]⟩
  subst h0
  rw [if_pos rfl]
  have hd2:=fun e=>hdup e (ys++[.cells 32 [.str nm,.int .i64 pr,.sl xs,.int .i64 zk,.int .i64 zn,.int .i64 zm,.str znm,.int .i64 zv.1,.int .i64 zv.2.1,.str zv.2.2,.int .i64 zkey.1,.str zkey.2.1,.str zkey.2.2,.sl zs,.sl zz]]) [.int .i64 pr,.sl xs,.int .i64 zk,.int .i64 zn,.int .i64 zm,.str znm,.int .i64 zv.1,.int .i64 zv.2.1,.str zv.2.2,.int .i64 zkey.1,.str zkey.2.1,.str zkey.2.2,.sl zs,.sl zz] ys.length (List.getElem?_concat_length ..)
  clear hdup
  have key:=fun e ys=>key e ys rfl
  have hwr:=hwr rfl
  have hacc2:=hacc2 rfl
  simp only [fpart,part',Tryz.f19,Option.getD] at hd2 ⊢
  obtain ⟨ev,eo,so,co,⟨hev,hco⟩,R⟩:=RULES CC;rw [<- hev]
  rw [<- hev] at hd2 key
  rw [<- hco] at och hwr
  simp only [S9,R,seval,dynR,e0,e4,e5,es,el,ei,hi,hi0',hx,och,hz,hs,hg,hpx,hpy,hpz,hsl,hlenp,List.set_cons_succ]
  generalize hE:ev (Code.loop _) _=z
  have hP:∃ E,PDup dd E (PGB acc) (ys++[.cells 32 [.str nm,.int .i64 pr,.sl xs,.int .i64 zk,.int .i64 zn,.int .i64 zm,.str znm,.int .i64 zv.1,.int .i64 zv.2.1,.str zv.2.2,.int .i64 zkey.1,.str zkey.2.1,.str zkey.2.2,.sl zs,.sl zz]]) z∧getT E 0=.sl ls∧getT E 4=.bp 0 0∧getT E 5=.fn 40 [.bp 0 0] []∧getT E 7=.bp (ys.length+1) 0∧getT E 19=.sl ls∧getT E 20=.int .i64 (ln:Int)∧getT E 21=.int .i64 (pn:Int):=by
   rw [<- hE]
   refine ⟨_,hd2 _ ?_ ?_ ?_ ?_,?_,?_,?_,?_,?_,?_,?_⟩
   all_goals first | (simp only [S7,R,seval,e0,e4,e5,es,el,ei];done) | (simp only [S7,R,seval,e0,e4,e5,es,el,ei] <;> rfl)
  obtain ⟨E,hP,E0,E4,E5,E7,E19,E20,E21⟩:=hP
  clear hE hd2
  cases dd with
  | true=>
   obtain ⟨e',ys',rfl,g2,g3⟩:=hP
   simp only [if_true]
   refine PRs_err (by decide) ?_
   simp only [S9,R,seval,dynR,g2]
   exact ⟨_,_,rfl,g2,g3⟩
  | false=>
   obtain ⟨e',ys',rfl,hu,k0,k4,k5,k7,k19,k20,k21⟩:=hP
   simp only [Bool.false_eq_true,if_false]
   have hub:∀ n,((ys++[PBox.cells 32 [.str nm,.int .i64 pr,.sl xs,.int .i64 zk,.int .i64 zn,.int .i64 zm,.str znm,.int .i64 zv.1,.int .i64 zv.2.1,.str zv.2.2,.int .i64 zkey.1,.str zkey.2.1,.str zkey.2.2,.sl zs,.sl zz]]++ys').all fun y=>y.under n)=true:=fun n=>by
    rw [List.all_append,List.all_append,hys,hu,List.all_cons,hru]
    rfl
   have hwr:=hwr _ hub
   have hgt:(ys++[PBox.cells 32 [.str nm,.int .i64 pr,.sl xs,.int .i64 zk,.int .i64 zn,.int .i64 zm,.str znm,.int .i64 zv.1,.int .i64 zv.2.1,.str zv.2.2,.int .i64 zkey.1,.str zkey.2.1,.str zkey.2.2,.sl zs,.sl zz]]++ys')[ys.length]?=some (.cells 32 [.str nm,.int .i64 pr,.sl xs,.int .i64 zk,.int .i64 zn,.int .i64 zm,.str znm,.int .i64 zv.1,.int .i64 zv.2.1,.str zv.2.2,.int .i64 zkey.1,.str zkey.2.1,.str zkey.2.2,.sl zs,.sl zz]):=get_old (List.getElem?_concat_length ..) ys'
   generalize ys++[PBox.cells 32 [.str nm,.int .i64 pr,.sl xs,.int .i64 zk,.int .i64 zn,.int .i64 zm,.str znm,.int .i64 zv.1,.int .i64 zv.2.1,.str zv.2.2,.int .i64 zkey.1,.str zkey.2.1,.str zkey.2.2,.sl zs,.sl zz]]++ys'=Y at *
   rw [E0] at k0;rw [E4] at k4;rw [E5] at k5;rw [E7] at k7;rw [E19] at k19;rw [E20] at k20;rw [E21] at k21
   simp only [S9,R,seval,dynR,k0,k4,k5,k7,k19,k20,k21,hgt,hwr,hpx,hpy,hpz,hw1]
   refine key _ _ ?_ ?_ ?_ ?_ ?_ ?_ hub hacc2
   all_goals simp only [S7,R,seval,k0,k4,k5,k19,k20,k21]
end Go.HH
namespace Go.HH
open Go Go.Proofs
set_option maxRecDepth 100000
set_option maxHeartbeats 4000000
set_option linter.unusedSimpArgs false
set_option linter.unusedVariables false
theorem call_lexT_long (s:List UInt8) (hs:20000 < s.length):∃ bx,callL CC 21 [.str s] []=some (.ret (.tup [.sl [],.int .i64 0,.int .i64 3]),bx):=by
 have hlen:=len_str s
 have c1':(s.length:Int) > 20000:=by omega
 rw [callL_enter (fn:=Tryz.f21) (c:=Tryz.f21.body.getD .skip) rfl rfl fat_lex_Tokens rfl ok_lex_Tokens (Nat.le_of_ble_eq_true rfl)]
 obtain ⟨ev,eo,so,co,⟨hev,hco⟩,R⟩:=RULES CC;rw [<- hev]
 simp only [fpart,part',Tryz.f21,Option.getD]
 simp only [S8,R,seval,hlen,c1']
 exact ⟨_,rfl⟩
theorem call_R27T_long (s:List UInt8) (hs:20000 < s.length):∃ bx,callL CC 44 [.str s] []=some (.ret (.tup [.sl [],.int .i64 0,.int .i64 3]),bx):=by
 have hlen:=len_str s
 have c1':(s.length:Int) > 20000:=by omega
 rw [callL_enter (fn:=Tryz.f44) (c:=Tryz.f44.body.getD .skip) rfl rfl fat_R27_Tokens rfl ok_R27_Tokens (Nat.le_of_ble_eq_true rfl)]
 obtain ⟨ev,eo,so,co,⟨hev,hco⟩,R⟩:=RULES CC;rw [<- hev]
 simp only [fpart,part',Tryz.f44,Option.getD]
 simp only [S8,R,seval,hlen,c1']
 exact ⟨_,rfl⟩
theorem conv_nils:convP CC 70 9 .nils=some (.str []):=by kernel_rfl
theorem conv_sl0:convP CC 70 9 (.sl [])=some (.str []):=by kernel_rfl
theorem op_lexT_err (s:List UInt8):∃ a b,∀ bx,callOp CC (callL CC) 21 [.str s] bx=some (.ret (.tup [.sl a,.int .i64 b,.int .i64 (toks s).2.2]),bx):=by
 by_cases h:20000 < s.length
 · obtain ⟨b0,hc⟩:=call_lexT_long s h
   refine ⟨[],0,fun bx=>?_⟩
   rw [show (toks s).2.2=3 from by unfold toks;rw [if_pos h]]
   exact callOp_of rfl (by simp only [SA,Bool.and_true]) hc rfl
 · exact ⟨_,_,fun bx=>op_lex_Tokens s (by omega) bx⟩
theorem op_R27T_err (s:List UInt8):∃ a b,∀ bx,callOp CC (callL CC) 44 [.str s] bx=some (.ret (.tup [.sl a,.int .i64 b,.int .i64 (toks s).2.2]),bx):=by
 by_cases h:20000 < s.length
 · obtain ⟨b0,hc⟩:=call_R27T_long s h
   refine ⟨[],0,fun bx=>?_⟩
   rw [show (toks s).2.2=3 from by unfold toks;rw [if_pos h]]
   exact callOp_of rfl (by simp only [SA,Bool.and_true]) hc rfl
 · exact ⟨_,_,fun bx=>op_R27_Tokens s (by omega) bx⟩
theorem call_print_Rules (l:List Rl) (hl:l.length<=20) (hok:∀ r ∈ l,plRl r=true∧okRl r):∃ bx,callL CC 19 [.sl (l.map rlV)] []=some (.ret (.tup [.str (rsA l).2,.int .i64 (rsA l).1]),bx):=by
 have hlp:=fun e ys=>lp_rs _ rfl l hl hok l [] e [] ys rfl
 have h40:¬ ((l.length:Int) > 40):=by omega
 have hlen:(((l.map rlV).length:Nat):Int)=(l.length:Int):=by rw [List.length_map]
 have zp:=ZPg
 have hb0:PGB []=.cells 72 [.nils]:=PGB_nil
 obtain ⟨ta,tb,htk⟩:=op_lexT_err (rsG [] l []).2
 unfold rsA
 rw [if_neg (by omega)]
 generalize rsG [] l []=res at *
 clear hok hl
 generalize l.map rlV=ls at *
 generalize l.length=ln at *
 unfold putV at hlp
 rw [callL_enter (fn:=Tryz.f19) (c:=Tryz.f19.body.getD .skip) rfl rfl fat_print_Rules rfl ok_print_Rules (Nat.le_of_ble_eq_true rfl)]
 simp only [fpart,part',Tryz.f19,Option.getD] at hlp ⊢
 obtain ⟨ev,eo,so,co,⟨hev,hco⟩,R⟩:=RULES CC;rw [<- hev]
 rw [<- hev] at hlp
 rw [<- hco] at htk
 simp only [S9,R,seval,dynR,h40,hlen,zp]
 generalize hE:ev (Code.loop _) _=z
 have hP:PRs res z:=by
  rw [<- hE,<- hb0]
  refine hlp _ [] ?_ ?_ ?_ ?_ ?_ ?_ (fun n=>rfl) (Nat.zero_le _)
  all_goals first | (simp only [S7,R,seval];done) | (simp only [S7,R,seval] <;> rfl)
 clear hE hlp
 unfold PRs at hP
 by_cases hr:res.1=0
 case neg=>
  rw [if_neg hr] at hP ⊢
  obtain ⟨e',b',rfl,g2,g3⟩:=hP
  simp only [S9,R,seval,dynR,g2,g3]
  exact ⟨_,rfl⟩
 rw [if_pos hr] at hP ⊢
 obtain ⟨e',ys',rfl,g4⟩:=hP
 have hcv:=conv_bys res.2
 by_cases he:res.2=[]
 · rw [he] at htk ⊢
   rw [PGB_nil]
   have c1:=conv_nils
   have c2:=conv_sl0
   by_cases hk:(toks []).2.2=0
   · rw [if_pos hk]
     rw [hk] at htk
     simp only [S9,R,seval,dynR,g4,c1,c2,htk]
     exact ⟨_,rfl⟩
   · rw [if_neg hk]
     have p:((toks []).2.2 != 0)=true:=bne_iff_ne.2 hk
     generalize (toks []).2.2=er at *
     simp only [S9,R,seval,dynR,g4,c1,c2,htk,p]
     exact ⟨_,rfl⟩
 · rw [PGB_ne he]
   generalize bys res.2=bs at *
   by_cases hk:(toks res.2).2.2=0
   · rw [if_pos hk]
     rw [hk] at htk
     simp only [S9,R,seval,dynR,g4,hcv,htk]
     exact ⟨_,rfl⟩
   · rw [if_neg hk]
     have p:((toks res.2).2.2 != 0)=true:=bne_iff_ne.2 hk
     generalize (toks res.2).2.2=er at *
     simp only [S9,R,seval,dynR,g4,hcv,htk,p]
     exact ⟨_,rfl⟩
theorem rls_pure:∀ l:List Rl,(PV.sl (l.map rlV)).pure=true
 | []=>rfl
 | x :: r=>by
  show pureL (rlV x :: r.map rlV)=true
  rw [pureL_cons,rlV_pure]
  exact rls_pure r
theorem op_print_Rules (l:List Rl) (hl:l.length<=20) (hok:∀ r ∈ l,plRl r=true∧okRl r) (bx):callOp CC (callL CC) 19 [.sl (l.map rlV)] bx=some (.ret (.tup [.str (rsA l).2,.int .i64 (rsA l).1]),bx):=by
 obtain ⟨b,hc⟩:=call_print_Rules l hl hok
 refine callOp_of rfl ?_ hc rfl
 rw [pureL_cons,pureL_nil,Bool.and_true]
 exact rls_pure l
theorem call_print_Rules_long (xs:List PV) (h:40 < xs.length):∃ bx,callL CC 19 [.sl xs] []=some (.ret (.tup [.str [],.int .i64 3]),bx):=by
 have h40:((xs.length:Int) > 40):=by omega
 rw [callL_enter (fn:=Tryz.f19) (c:=Tryz.f19.body.getD .skip) rfl rfl fat_print_Rules rfl ok_print_Rules (Nat.le_of_ble_eq_true rfl)]
 obtain ⟨ev,eo,so,co,⟨hev,hco⟩,R⟩:=RULES CC;rw [<- hev]
 simp only [fpart,part',Tryz.f19,Option.getD]
 simp only [S9,R,seval,dynR,h40]
 exact ⟨_,rfl⟩
end Go.HH
namespace Go.HH
open Go Go.Proofs
set_option maxRecDepth 100000
set_option maxHeartbeats 4000000
set_option linter.unusedSimpArgs false
set_option linter.unusedVariables false
theorem ok_R30_Rules:fnOK CC Tryz.f20 (Tryz.f20.body.getD .skip)=true:=by kernel_rfl
theorem fat_R30_Rules:CC.P.funcs[20]?=some Tryz.f20:=by kernel_rfl
def PDu2 (b:Bool) (e:List PV) (bx:List PBox) (z:Option (Ex×St)):Prop:=match b with
 | true=>∃ e',z=some (.ret,⟨e',bx⟩)∧getT e' 2=.str []∧getT e' 3=.int .i64 9
 | false=>∃ e',z=some (.exit 2,⟨e',bx⟩)∧getT e' 0=getT e 0∧getT e' 4=getT e 4∧getT e' 5=getT e 5∧getT e' 6=getT e 6∧getT e' 15=getT e 15∧getT e' 16=getT e 16∧getT e' 17=getT e 17
theorem PDu2_step {b:Bool} {e E:List PV} {bx:List PBox} {z:Option (Ex×St)} (k0:getT E 0=getT e 0) ( k4:getT E 4=getT e 4) ( k5:getT E 5=getT e 5) ( k6:getT E 6=getT e 6) ( k15:getT E 15=getT e 15) ( k16:getT E 16=getT e 16) ( k17:getT E 17=getT e 17) (h:PDu2 b E bx z):PDu2 b e bx z:=by
 cases b with
 | true=>exact h
 | false=>
  obtain ⟨e',h1,g0,g4,g5,g6,g15,g16,g17⟩:=h
  exact ⟨e',h1,g0.trans k0,g4.trans k4,g5.trans k5,g6.trans k6,g15.trans k15,g16.trans k16,g17.trans k17⟩
theorem lp_du2 (L:Code) (hL:L=fpart Tryz.f20 [1,1,1,0,1,0,0,1,1,0,0,1,1,1,0,1,0]) (pre:List Rl) (hl:pre.length<=50) (nm:List UInt8) (rc:List PV) (ls:List PV) (hls:∀ (i:Nat) (h:i < pre.length),∃ cs,cs.length=14∧ls[i]?=some (.agg (.str (pre[i]'h).nm :: cs))) (hrc:rc.length=14) (hr:ls[pre.length]?=some (.agg (.str nm :: rc))) (bx:List PBox):∀ (k i:Nat) (e:List PV),i+k=pre.length ->
 getT e 0=.sl ls->getT e 5=.int .i64 pre.length->getT e 8=.int .i64 i ->
 PDu2 (dupN (pre.drop i) nm) e bx (evL CC L ⟨e,bx⟩):=by
 intro k
 induction k with
 | zero=>
  intro i e hi0 e0 e5 ei
  rw [evL_at (fpart Tryz.f20 [1,1,1,0,1,0,0,1,1,0,0,1,1,1,0,1,0,0]) hL]
  have hi:¬ ((i:Int) < (pre.length:Int)):=by omega
  rw [List.drop_eq_nil_of_le (by omega)]
  obtain ⟨ev,eo,so,co,⟨hev,hco⟩,R⟩:=RULES CC;rw [<- hev]
  simp only [fpart,part',Tryz.f20,Option.getD]
  simp only [S9,R,seval,dynR,e0,e5,ei,hi]
  exact ⟨_,rfl,by simp only [S7,R,seval],by simp only [S7,R,seval],by simp only [S7,R,seval],by simp only [S7,R,seval],by simp only [S7,R,seval],by simp only [S7,R,seval],by simp only [S7,R,seval]⟩
 | succ k ih=>
  intro i e hi0 e0 e5 ei
  rw [evL_at (fpart Tryz.f20 [1,1,1,0,1,0,0,1,1,0,0,1,1,1,0,1,0,0]) hL]
  have hi:((i:Int) < (pre.length:Int)):=by omega
  have hi0':¬ ((i:Int) < 0):=by omega
  have hp0':¬ ((pre.length:Int) < 0):=by omega
  have hdr:pre.drop i=(pre[i]'(by omega)) :: pre.drop (i+1):=List.drop_eq_getElem_cons (by omega)
  obtain ⟨cs,hcl,hx⟩:=hls i (by omega)
  have hw1:=wrap_i64 (n:=(i:Int)+1) ⟨by omega,by omega⟩
  have key:=fun e=>ih (i+1) e (by omega)
  have cast1:((i+1:Nat):Int)=(i:Int)+1:=by omega
  rw [cast1] at key
  rw [hdr]
  have hdn:dupN ((pre[i]'(by omega)) :: pre.drop (i+1)) nm=((pre[i]'(by omega)).nm == nm || dupN (pre.drop (i+1)) nm):=rfl
  rw [hdn]
  clear hdn hls
  generalize dupN (pre.drop (i+1)) nm=rest at *
  generalize (pre[i]'(by omega)).nm=xnm at *
  have hst:strP .eql xnm nm=some (.bool (xnm == nm)):=rfl
  cases hn:xnm == nm with
  | true=>
   rw [hn] at hst
   obtain ⟨ev,eo,so,co,⟨hev,hco⟩,R⟩:=RULES CC;rw [<- hev]
   simp only [fpart,part',Tryz.f20,Option.getD]
   simp only [S9,R,seval,dynR,e0,e5,ei,hi,hi0',hp0',hx,hr,hcl,hrc,hst,Bool.true_or]
   exact ⟨_,rfl,by simp only [S7,R,seval],by simp only [S7,R,seval]⟩
  | false=>
   rw [hn] at hst
   obtain ⟨ev,eo,so,co,⟨hev,hco⟩,R⟩:=RULES CC;rw [<- hev]
   rw [<- hev] at key
   simp only [fpart,part',Tryz.f20,Option.getD]
   simp only [S9,R,seval,dynR,e0,e5,ei,hi,hi0',hp0',hx,hr,hcl,hrc,hw1,hst,Bool.false_or]
   refine PDu2_step ?_ ?_ ?_ ?_ ?_ ?_ ?_ (key _ ?_ ?_ ?_)
   all_goals simp only [S7,R,seval,e0,e5,ei]
def PRs2 (r:Int×List UInt8) (bx:List PBox) (z:Option (Ex×St)):Prop:=if r.1=0 then ∃ e',z=some (.exit 0,⟨e',bx⟩)∧getT e' 4=.str r.2 else ∃ e',z=some (.ret,⟨e',bx⟩)∧getT e' 2=.str []∧getT e' 3=.int .i64 r.1
theorem PRs2_err {c:Int} {s:List UInt8} {bx:List PBox} {z:Option (Ex×St)} (hc:c≠0) (h:∃ e',z=some (.ret,⟨e',bx⟩)∧getT e' 2=.str []∧getT e' 3=.int .i64 c):PRs2 (c,s) bx z:=by
 unfold PRs2
 rw [if_neg hc]
 exact h
theorem rlV_head (r:Rl):∃ cs,cs.length=14∧rlV r=.agg (.str r.nm :: cs):=by
 obtain ⟨nm,pr,on,⟨k,n,m,sn,v,key,kids⟩,dos⟩:=r
 refine ⟨_,?_,rfl⟩
 rfl
theorem lp_rs2 (L:Code) (hL:L=fpart Tryz.f20 [1,1,1,0,1,0]) (l:List Rl) (hl:l.length<=20) (hok:∀ r ∈ l,plRl r=true∧okRl r) (bx:List PBox):∀ (rest pre:List Rl) (e:List PV) (acc:List UInt8),l=pre++rest ->
 getT e 0=.sl (l.map rlV)->getT e 4=.str acc->getT e 16=.int .i64 l.length->getT e 17=.int .i64 pre.length->acc.length<=3000000 * pre.length ->
 PRs2 (rsG pre rest acc) bx (evL CC L ⟨e,bx⟩):=by
 intro rest
 induction rest with
 | nil=>
  intro pre e acc hpr e0 e4 el ei hac
  rw [evL_at (fpart Tryz.f20 [1,1,1,0,1,0,0]) hL]
  rw [List.append_nil] at hpr
  have hi:¬ ((pre.length:Int) < (l.length:Int)):=by rw [hpr];omega
  unfold rsG
  generalize l.map rlV=xs at *
  obtain ⟨ev,eo,so,co,⟨hev,hco⟩,R⟩:=RULES CC;rw [<- hev]
  simp only [fpart,part',Tryz.f20,Option.getD]
  simp only [S9,R,seval,dynR,el,ei,hi]
  exact ⟨_,rfl,by simp only [S7,R,seval,e4]⟩
 | cons r rest ih=>
  intro pre e acc hpr e0 e4 el ei hac
  rw [evL_at (fpart Tryz.f20 [1,1,1,0,1,0,0]) hL]
  have hll:l.length=pre.length+(rest.length+1):=by rw [hpr,List.length_append,List.length_cons]
  have hi:((pre.length:Int) < (l.length:Int)):=by omega
  have hi0':¬ ((pre.length:Int) < 0):=by omega
  have hx:(l.map rlV)[pre.length]?=some (rlV r):=by rw [hpr,List.map_append,List.getElem?_append_right (by rw [List.length_map];exact Nat.le_refl _),List.length_map,Nat.sub_self];rfl
  have hls:∀ (i:Nat) (h:i < pre.length),∃ cs,cs.length=14∧(l.map rlV)[i]?=some (.agg (.str (pre[i]'h).nm :: cs)):=fun i h=>by
   obtain ⟨cs,hl14,hcs⟩:=rlV_head (pre[i]'h)
   refine ⟨cs,hl14,?_⟩
   rw [hpr,List.map_append,List.getElem?_append_left (by rw [List.length_map];exact h),List.getElem?_map,List.getElem?_eq_getElem h,<- hcs]
   rfl
  have hw1:=wrap_i64 (n:=(pre.length:Int)+1) ⟨by omega,by omega⟩
  obtain ⟨hp,ho⟩:=hok r (by rw [hpr];simp)
  have och:=op_R30_Rule r hp ho
  have hdup:=fun e rc hrc hrr=>lp_du2 _ rfl pre (by omega) r.nm rc (l.map rlV) hls hrc hrr bx pre.length 0 e (Nat.zero_add _)
  simp only [List.drop_zero] at hdup
  have key:=fun e=>ih (pre++[r]) e (acc++rlS r) (by rw [hpr,List.append_assoc] <;> rfl)
  have cast1:(((pre++[r]).length:Nat):Int)=(pre.length:Int)+1:=by rw [List.length_append];rfl
  rw [cast1] at key
  have hlr:=fun h0=>rlS_len hp ho h0
  rw [rsG]
  unfold ruT at och
  have hcA:=fun (h0:rlE r=0)=>catA (a:=acc) (b:=rlS r) (by have:=hlr h0;omega)
  have hacc2:rlE r=0->(acc++rlS r).length<=3000000 * (pre++[r]).length:=fun h0=>by
   have:=hlr h0
   rw [List.length_append,List.length_append,List.length_singleton]
   omega
  obtain ⟨rcs,hrl,hrcs⟩:=rlV_head r
  have hdup2:=fun e=>hdup e rcs hrl (by rw [hx,hrcs])
  clear hrl hrcs
  have hcat:cat acc (rlS r)=acc++rlS r:=rfl
  simp only [hcat] at hcA
  clear hpr hok ih hll hls hp ho hlr hdup
  generalize rsG (pre++[r]) rest (acc++rlS r)=res at *
  generalize dupN pre r.nm=dd at *
  generalize rlE r=er at *
  generalize acc++rlS r=acc2 at *
  generalize rlS r=rs at *
  generalize hPP:pre++[r]=pre2 at *
  generalize l.map rlV=ls at *
  generalize hpl:pre.length=pn at *
  generalize l.length=ln at *
  clear hpl hPP
  obtain ⟨nm,pr,on,⟨zk,zn,zm,znm,zv,zkey,zkids⟩,dos⟩:=r
  unfold rlV trC trV at hx och
  simp only [SA,List.cons_append,List.nil_append] at hx och ⊢
  have hpz:=trVs_pure zkids
  have hpx:=tgs_pure on
  have hpy:=sps_pure dos
  generalize trVs zkids=zs at *
  generalize on.map tgV=xs at *
  generalize dos.map spV=zz at *
  by_cases h0:er=0
  case neg=>
   rw [if_neg h0] at och ⊢
   refine PRs2_err h0 ?_
   have p:(er != 0)=true:=by simpa using h0
   clear hdup2 key
   obtain ⟨ev,eo,so,co,⟨hev,hco⟩,R⟩:=RULES CC;rw [<- hev]
   rw [<- hco] at och
   simp only [fpart,part',Tryz.f20,Option.getD]
   simp only [S9,R,seval,dynR,e0,e4,el,ei,hi,hi0',hx,och,p,hpx,hpy,hpz]
   exact ⟨_,rfl,by simp only [S7,R,seval],by simp only [S7,R,seval]⟩
  subst h0
  rw [if_pos rfl] at och ⊢
  have hcA:=hcA rfl
  have hacc2:=hacc2 rfl
  simp only [fpart,part',Tryz.f20,Option.getD] at hdup2 ⊢
  obtain ⟨ev,eo,so,co,⟨hev,hco⟩,R⟩:=RULES CC;rw [<- hev]
  rw [<- hev] at hdup2 key
  rw [<- hco] at och
  simp only [S9,R,seval,dynR,e0,e4,el,ei,hi,hi0',hx,och,hpx,hpy,hpz]
  generalize hE:ev (Code.loop _) _=z
  have hP:∃ E,PDu2 dd E bx z∧getT E 0=.sl ls∧getT E 4=.str acc∧getT E 6=.str rs∧getT E 16=.int .i64 (ln:Int)∧getT E 17=.int .i64 (pn:Int):=by
   rw [<- hE]
   refine ⟨_,hdup2 _ ?_ ?_ ?_,?_,?_,?_,?_,?_⟩
   all_goals first | (simp only [S7,R,seval,e0,e4,el,ei];done) | (simp only [S7,R,seval,e0,e4,el,ei] <;> rfl)
  obtain ⟨E,hP,E0,E4,E6,E16,E17⟩:=hP
  clear hE hdup2
  cases dd with
  | true=>
   obtain ⟨e',rfl,g2,g3⟩:=hP
   simp only [if_true]
   refine PRs2_err (by decide) ?_
   simp only [S9,R,seval,dynR,g2]
   exact ⟨_,rfl,g2,g3⟩
  | false=>
   obtain ⟨e',rfl,k0,k4,k5,k6,k15,k16,k17⟩:=hP
   simp only [Bool.false_eq_true,if_false]
   rw [E0] at k0;rw [E4] at k4;rw [E6] at k6;rw [E16] at k16;rw [E17] at k17
   simp only [S9,R,seval,dynR,k0,k4,k6,k16,k17,hcA,hw1]
   refine key _ ?_ ?_ ?_ ?_ hacc2
   all_goals simp only [S7,R,seval,k0,k4,k16,k17]
theorem call_R30_Rules (l:List Rl) (hl:l.length<=20) (hok:∀ r ∈ l,plRl r=true∧okRl r):∃ bx,callL CC 20 [.sl (l.map rlV)] []=some (.ret (.tup [.str (rsA l).2,.int .i64 (rsA l).1]),bx):=by
 have hlp:=fun e bx=>lp_rs2 _ rfl l hl hok bx l [] e [] rfl
 have h40:¬ ((l.length:Int) > 40):=by omega
 have hlen:(((l.map rlV).length:Nat):Int)=(l.length:Int):=by rw [List.length_map]
 obtain ⟨ta,tb,htk⟩:=op_R27T_err (rsG [] l []).2
 unfold rsA
 rw [if_neg (by omega)]
 generalize rsG [] l []=res at *
 clear hok hl
 generalize l.map rlV=ls at *
 generalize l.length=ln at *
 rw [callL_enter (fn:=Tryz.f20) (c:=Tryz.f20.body.getD .skip) rfl rfl fat_R30_Rules rfl ok_R30_Rules (Nat.le_of_ble_eq_true rfl)]
 simp only [fpart,part',Tryz.f20,Option.getD] at hlp ⊢
 obtain ⟨ev,eo,so,co,⟨hev,hco⟩,R⟩:=RULES CC;rw [<- hev]
 rw [<- hev] at hlp
 rw [<- hco] at htk
 simp only [S9,R,seval,dynR,h40,hlen]
 generalize hE:ev (Code.loop _) _=z
 have hP:PRs2 res [] z:=by
  rw [<- hE]
  refine hlp _ [] ?_ ?_ ?_ ?_ (Nat.zero_le _)
  all_goals first | (simp only [S7,R,seval];done) | (simp only [S7,R,seval] <;> rfl)
 clear hE hlp
 unfold PRs2 at hP
 by_cases hr:res.1=0
 case neg=>
  rw [if_neg hr] at hP ⊢
  obtain ⟨e',rfl,g2,g3⟩:=hP
  simp only [S9,R,seval,dynR,g2,g3]
  exact ⟨_,rfl⟩
 rw [if_pos hr] at hP ⊢
 obtain ⟨e',rfl,g4⟩:=hP
 by_cases hk:(toks res.2).2.2=0
 · rw [if_pos hk]
   rw [hk] at htk
   simp only [S9,R,seval,dynR,g4,htk]
   exact ⟨_,rfl⟩
 · rw [if_neg hk]
   have p:((toks res.2).2.2 != 0)=true:=bne_iff_ne.2 hk
   generalize (toks res.2).2.2=er at *
   simp only [S9,R,seval,dynR,g4,htk,p]
   exact ⟨_,rfl⟩
theorem op_R30_Rules (l:List Rl) (hl:l.length<=20) (hok:∀ r ∈ l,plRl r=true∧okRl r) (bx):callOp CC (callL CC) 20 [.sl (l.map rlV)] bx=some (.ret (.tup [.str (rsA l).2,.int .i64 (rsA l).1]),bx):=by
 obtain ⟨b,hc⟩:=call_R30_Rules l hl hok
 refine callOp_of rfl ?_ hc rfl
 rw [pureL_cons,pureL_nil,Bool.and_true]
 exact rls_pure l
end Go.HH
namespace Go.HH
open Go Go.Proofs
set_option maxRecDepth 100000
set_option linter.unusedSimpArgs false
set_option linter.unusedVariables false
def ltT (n:Int):Tr:=.mk 1 0 0 [] (2,n,[]) (0,[],[]) []
def flT (n:Int):Tr:=.mk 1 0 0 [] (1,n,[]) (0,[],[]) []
def atTr:Tr:=.mk 2 0 0 [] (0,0,[]) (3,[108,101,118,101,108],[108,101,118,101,108]) []
def opT (k:Int) (kids:List Tr):Tr:=.mk k 0 0 [] (0,0,[]) (0,[],[]) kids
def exR:Rl:=⟨[97],0,[⟨5,(0,[],[]),(0,[],[]),[],0,0⟩],flT 1,[⟨4,(0,[],[]),[97,119,97,121],.mk 0 0 0 [] (0,0,[]) (0,[],[]) []⟩]⟩
noncomputable def chkTE (f:FuncId) (a:PV) (s:List UInt8) (e:Int):Bool:=match callF CC 130 f [a] [] with
 | some (.ret (.tup [.str t,.int .i64 x]),_)=>t == s && x == e
 | _=>false
theorem of_chkTE {f:FuncId} {a:PV} {s:List UInt8} {e:Int} (hp:a.pure=true) (h:chkTE f a s e=true) (bx) (hh:CC.heap f=false:=by rfl):callOp CC (callL CC) f [a] bx=some (.ret (.tup [.str s,.int .i64 e]),bx):=by
 unfold chkTE at h
 split at h
 · rename_i t x b hs
   rw [Bool.and_eq_true] at h
   have e1:t=s:=by simpa using h.1
   have e2:x=e:=by simpa using h.2
   subst e1 e2
   exact callOp_of hh (by simp only [pureL,hp,Bool.and_true]) (callL_iff.2 ⟨130,hs⟩) rfl
 · cases h
def exS1:List UInt8:=[53,32,60,61,32,51,46,108,101,118,101,108,46,108,101,118,101,108]
theorem ex1:chkTE 14 (trV (opT 6 [opT 10 [atTr,ltT 5]])) exS1 0=true:=by kernel_rfl
def exS2:List UInt8:=[40,49,32,43,32,50,41,32,42,32,45,51,46,108,101,118,101,108,46,108,101,118,101,108]
theorem ex2:chkTE 14 (trV (opT 13 [opT 11 [ltT 1,ltT 2],opT 12 [ltT 0,atTr]])) exS2 0=true:=by kernel_rfl
def exS3:List UInt8:=[40,116,114,117,101,32,111,114,32,102,97,108,115,101,41,32,97,110,100,32,116,114,117,101]
theorem ex3:chkTE 14 (trV (opT 7 [opT 8 [flT 1,flT 0],flT 1])) exS3 0=true:=by kernel_rfl
def exS4:List UInt8:=[48,32,45,32,45,53]
theorem ex4:chkTE 14 (trV (opT 12 [ltT 0,ltT (-5)])) exS4 0=true:=by kernel_rfl
def exS5:List UInt8:=[114,117,108,101,32,97,32,112,114,105,111,114,105,116,121,32,48,32,123,10,32,32,111,110,32,115,116,97,114,116,59,10,32,32,100,111,32,109,111,100,101,32,97,119,97,121,59,10,125,10]
theorem ex5:chkTE 19 (.sl [rlV exR]) exS5 0=true:=by kernel_rfl
theorem ex6:chkTE 19 (.sl [rlV exR,rlV exR]) [] 9=true:=by kernel_rfl
theorem op_ex1 (bx):callOp CC (callL CC) 14 [trV (opT 6 [opT 10 [atTr,ltT 5]])] bx=some (.ret (.tup [.str exS1,.int .i64 0]),bx):=of_chkTE rfl ex1 bx
theorem op_ex2 (bx):callOp CC (callL CC) 14 [trV (opT 13 [opT 11 [ltT 1,ltT 2],opT 12 [ltT 0,atTr]])] bx=some (.ret (.tup [.str exS2,.int .i64 0]),bx):=of_chkTE rfl ex2 bx
theorem op_ex3 (bx):callOp CC (callL CC) 14 [trV (opT 7 [opT 8 [flT 1,flT 0],flT 1])] bx=some (.ret (.tup [.str exS3,.int .i64 0]),bx):=of_chkTE rfl ex3 bx
theorem op_ex4 (bx):callOp CC (callL CC) 14 [trV (opT 12 [ltT 0,ltT (-5)])] bx=some (.ret (.tup [.str exS4,.int .i64 0]),bx):=of_chkTE rfl ex4 bx
theorem op_ex5 (bx):callOp CC (callL CC) 19 [.sl [rlV exR]] bx=some (.ret (.tup [.str exS5,.int .i64 0]),bx):=of_chkTE rfl ex5 bx
theorem op_ex6 (bx):callOp CC (callL CC) 19 [.sl [rlV exR,rlV exR]] bx=some (.ret (.tup [.str [],.int .i64 9]),bx):=of_chkTE rfl ex6 bx
end Go.HH
