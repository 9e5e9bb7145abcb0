/-
  What the law needs, packed: WR WS WT.
-/
import Derived.Test.YtmiilonaehgplaaM37
namespace Go.HH
open Go Go.Proofs
set_option maxRecDepth 100000
set_option maxHeartbeats 4000000
set_option linter.unusedSimpArgs false
set_option linter.unusedVariables false
theorem no_nw:drawOK CC (opsOf (fpart Try.f5 [1,1,1,1,0,1,0,0,1,1,0,0,1,1,0,1]))=false:=by kernel_rfl
theorem back_nw:backB (opsOf (fpart Try.f5 [1,1,1,1,0,1,0,0,1,1,0,0,1,1,0,1]))=true:=by kernel_rfl
theorem size_nw:(opsOf (fpart Try.f5 [1,1,1,1,0,1,0,0,1,1,0,0,1,1,0,1])).size=13:=by kernel_rfl
theorem dep_nw_2_1:∃ o,(opsOf (fpart Try.f5 [1,1,1,1,0,1,0,0,1,1,0,0,1,1,0,1]))[2]?=some o∧(⟨1,.data⟩:Edge) ∈ o.after.toList:=⟨_,by simp only [opsOf,fpart,part',Try.f5,Option.getD,List.getElem?_toArray,List.getElem?_cons_succ,List.getElem?_cons_zero];rfl,by simp⟩
theorem dep_nw_6_5:∃ o,(opsOf (fpart Try.f5 [1,1,1,1,0,1,0,0,1,1,0,0,1,1,0,1]))[6]?=some o∧(⟨5,.data⟩:Edge) ∈ o.after.toList:=⟨_,by simp only [opsOf,fpart,part',Try.f5,Option.getD,List.getElem?_toArray,List.getElem?_cons_succ,List.getElem?_cons_zero];rfl,by simp⟩
theorem dep_nw_7_6:∃ o,(opsOf (fpart Try.f5 [1,1,1,1,0,1,0,0,1,1,0,0,1,1,0,1]))[7]?=some o∧(⟨6,.data⟩:Edge) ∈ o.after.toList:=⟨_,by simp only [opsOf,fpart,part',Try.f5,Option.getD,List.getElem?_toArray,List.getElem?_cons_succ,List.getElem?_cons_zero];rfl,by simp⟩
theorem dep_nw_8_7:∃ o,(opsOf (fpart Try.f5 [1,1,1,1,0,1,0,0,1,1,0,0,1,1,0,1]))[8]?=some o∧(⟨7,.data⟩:Edge) ∈ o.after.toList:=⟨_,by simp only [opsOf,fpart,part',Try.f5,Option.getD,List.getElem?_toArray,List.getElem?_cons_succ,List.getElem?_cons_zero];rfl,by simp⟩
theorem dep_nw_9_2:∃ o,(opsOf (fpart Try.f5 [1,1,1,1,0,1,0,0,1,1,0,0,1,1,0,1]))[9]?=some o∧(⟨2,.data⟩:Edge) ∈ o.after.toList:=⟨_,by simp only [opsOf,fpart,part',Try.f5,Option.getD,List.getElem?_toArray,List.getElem?_cons_succ,List.getElem?_cons_zero];rfl,by simp⟩
theorem dep_nw_9_3:∃ o,(opsOf (fpart Try.f5 [1,1,1,1,0,1,0,0,1,1,0,0,1,1,0,1]))[9]?=some o∧(⟨3,.data⟩:Edge) ∈ o.after.toList:=⟨_,by simp only [opsOf,fpart,part',Try.f5,Option.getD,List.getElem?_toArray,List.getElem?_cons_succ,List.getElem?_cons_zero];rfl,by simp⟩
theorem dep_nw_9_4:∃ o,(opsOf (fpart Try.f5 [1,1,1,1,0,1,0,0,1,1,0,0,1,1,0,1]))[9]?=some o∧(⟨4,.data⟩:Edge) ∈ o.after.toList:=⟨_,by simp only [opsOf,fpart,part',Try.f5,Option.getD,List.getElem?_toArray,List.getElem?_cons_succ,List.getElem?_cons_zero];rfl,by simp⟩
theorem dep_nw_9_8:∃ o,(opsOf (fpart Try.f5 [1,1,1,1,0,1,0,0,1,1,0,0,1,1,0,1]))[9]?=some o∧(⟨8,.data⟩:Edge) ∈ o.after.toList:=⟨_,by simp only [opsOf,fpart,part',Try.f5,Option.getD,List.getElem?_toArray,List.getElem?_cons_succ,List.getElem?_cons_zero];rfl,by simp⟩
theorem dep_nw_10_9:∃ o,(opsOf (fpart Try.f5 [1,1,1,1,0,1,0,0,1,1,0,0,1,1,0,1]))[10]?=some o∧(⟨9,.data⟩:Edge) ∈ o.after.toList:=⟨_,by simp only [opsOf,fpart,part',Try.f5,Option.getD,List.getElem?_toArray,List.getElem?_cons_succ,List.getElem?_cons_zero];rfl,by simp⟩
theorem dep_nw_11_0:∃ o,(opsOf (fpart Try.f5 [1,1,1,1,0,1,0,0,1,1,0,0,1,1,0,1]))[11]?=some o∧(⟨0,.data⟩:Edge) ∈ o.after.toList:=⟨_,by simp only [opsOf,fpart,part',Try.f5,Option.getD,List.getElem?_toArray,List.getElem?_cons_succ,List.getElem?_cons_zero];rfl,by simp⟩
theorem dep_nw_11_10:∃ o,(opsOf (fpart Try.f5 [1,1,1,1,0,1,0,0,1,1,0,0,1,1,0,1]))[11]?=some o∧(⟨10,.data⟩:Edge) ∈ o.after.toList:=⟨_,by simp only [opsOf,fpart,part',Try.f5,Option.getD,List.getElem?_toArray,List.getElem?_cons_succ,List.getElem?_cons_zero];rfl,by simp⟩
theorem dep_nw_12_11:∃ o,(opsOf (fpart Try.f5 [1,1,1,1,0,1,0,0,1,1,0,0,1,1,0,1]))[12]?=some o∧(⟨11,.data⟩:Edge) ∈ o.after.toList:=⟨_,by simp only [opsOf,fpart,part',Try.f5,Option.getD,List.getElem?_toArray,List.getElem?_cons_succ,List.getElem?_cons_zero];rfl,by simp⟩
theorem buUp (dv:Int) (p m:Nat):buildP CC 41 [(0,.int .i64 dv),(2,.int .i64 0),(3,.int .i64 0),(5,.rs p m)]=some (.agg [.int .i64 dv,.int .i64 0,.int .i64 0,.int .i64 0,.int .i64 0,.rs p m]):=by kernel_rfl
noncomputable def IUp:TypeInfo:=(Try.prog.info? 41).getD default
theorem bsUp (dv:Int) (p m:Nat):buildSliceP CC 31 1 [(0,.agg [.int .i64 dv,.int .i64 0,.int .i64 0,.int .i64 0,.int .i64 0,.rs p m])]=some (.osl 41 [.agg [.int .i64 dv,.int .i64 0,.int .i64 0,.int .i64 0,.int .i64 0,.rs p m]]):=by
 have hu:CC.P.underlying 31=some (.slice 41):=by kernel_rfl
 have hz:tZero CC 41=some (.agg [.int .i64 0,.int .i64 0,.int .i64 0,.int .i64 0,.int .i64 0,.nils]):=by kernel_rfl
 have hi:CC.P.info? 41=some IUp:=by kernel_rfl
 have hs:IUp.size=6:=by kernel_rfl
 have ht:tAgg CC 41=true:=by kernel_rfl
 unfold buildSliceP
 simp only [hu,hz,hi,hs,ht,List.foldlM_cons,List.foldlM_nil]
 rfl
theorem apUp (st:St) (al:List (Nat×Loc)) (s x:Operand) (d:Option Tmp):appendOn CC st al s x 31 31 d=match appendAt CC st al 41 s,elemsOf (opd CC st.env x) with
 | some (l,xs),some ys=>appK 64 6 41 st al l xs ys d
 | _,_=>none:=appendOn_eq (i:=IUp) (by kernel_rfl) (by kernel_rfl) (by kernel_rfl) (z:=(IUp.zero).getD default) (by kernel_rfl) (by kernel_rfl) (by rw [show IUp.size=6 from by kernel_rfl];decide) (by kernel_rfl) (by kernel_rfl)
def nwL (rws:List PV) (q:Nat) (dv:Int) (zs:List PV) (m:Nat) (B:List PBox):List (Nat×Nat×PV):=[(0,40,.sl rws),(1,41,.bp q 0),(2,42,.int .i64 dv),(3,43,.int .i64 0),(4,44,.int .i64 0),(5,45,.bp 1 2),(6,46,.sl zs),(7,47,.int .i64 (m:Nat)),(8,48,.rs B.length m),(9,49,.agg [.int .i64 dv,.int .i64 0,.int .i64 0,.int .i64 0,.int .i64 0,.rs B.length m]),(10,50,.osl 41 [.agg [.int .i64 dv,.int .i64 0,.int .i64 0,.int .i64 0,.int .i64 0,.rs B.length m]])]
theorem nwL_pw (rws:List PV) (q:Nat) (dv:Int) (zs:List PV) (m:Nat) (B:List PBox):(nwL rws q dv zs m B).Pairwise (fun x y=>x.1≠y.1∧x.2.1≠y.2.1):=by unfold nwL;simp
def nwE (rws:List PV) (q:Nat) (dv:Int) (zs:List PV) (m:Nat) (B:List PBox) (e:List PV) (D:Nat->Bool):List PV:=
 if D 12 then setT (setT (setT (setT (setsD e D (nwL rws q dv zs m B)) 10 (.sl rws)) 51 (.osl 41 (rws++[.agg [.int .i64 dv,.int .i64 0,.int .i64 0,.int .i64 0,.int .i64 0,.rs B.length m]]))) 51 (.sl (rws++[.agg [.int .i64 dv,.int .i64 0,.int .i64 0,.int .i64 0,.int .i64 0,.rs B.length m]]))) 10 (.osl 41 (rws++[.agg [.int .i64 dv,.int .i64 0,.int .i64 0,.int .i64 0,.int .i64 0,.rs B.length m]]))
 else if D 11 then setT (setT (setsD e D (nwL rws q dv zs m B)) 10 (.sl rws)) 51 (.osl 41 (rws++[.agg [.int .i64 dv,.int .i64 0,.int .i64 0,.int .i64 0,.int .i64 0,.rs B.length m]]))
 else setsD e D (nwL rws q dv zs m B)
def nwB (m:Nat) (B:List PBox) (D:Nat->Bool):List PBox:=if D 8 then B++[.cells 4 (bos (List.replicate m false))] else B
def PNw (rws2:List PV) (B2:List PBox) (e:List PV) (res:Option (Ex×St)):Prop:=∃ e',res=some (.normal,⟨e',B2⟩)∧getT e' 10=.osl 41 rws2∧∀ t,t≠10->t < 40->getT e' t=getT e t
theorem PNw.of {dr:Array Oper->St->Option (Ex×St)} {O:Array Oper} {st:St} {rws2:List PV} {B2:List PBox} {e:List PV} {z:Option (Ex×St)} (hE:dr O st=z) (h:PNw rws2 B2 e (dr O st)):PNw rws2 B2 e z:=hE ▸ h
theorem draw_nw {rws:List PV} {q:Nat} {dv:Int} {l:List Int} {c1 c2:PV} {rest:List PV} (B:List PBox) (e:List PV) (hr:rws.length<=1000) (hl:l.length<=64) (hb1:B[1]?=some (.cells 28 [c1,c2,.sl (ints l)])) (hbq:B[q]?=some (.cells 48 (.int .i64 dv :: rest)))
 (h4:getT e 4=.bp 1 0) (h10:getT e 10=.osl 41 rws) (h12:getT e 12=.bp q 0) (h13:getT e 13=.int .i64 0) :
 PNw (rws++[.agg [.int .i64 dv,.int .i64 0,.int .i64 0,.int .i64 0,.int .i64 0,.rs B.length l.length]]) (B++[.cells 4 (bos (List.replicate l.length false))]) e (drawAll CC (callL CC) (opsOf (fpart Try.f5 [1,1,1,1,0,1,0,0,1,1,0,0,1,1,0,1])) ⟨e,B⟩):=by
 have hmk:=mk_bo l.length (by omega)
 have hln:(ints l).length=l.length:=List.length_map _
 generalize ints l=zs at *
 generalize l.length=m at *
 have hns:=fun e d=>newSl_bo e B m d
 have hbu:=buUp dv B.length m
 have hbs:=bsUp dv B.length m
 have hap:=fun st al l d=>appK_ok (bytes:=64) (size:=6) (e:=41) (st:=st) (al:=al) (l:=l) (d:=d) (xs:=rws) (ys:=[.agg [.int .i64 dv,.int .i64 0,.int .i64 0,.int .i64 0,.int .i64 0,.rs B.length m]]) (by simp only [List.length_cons,List.length_nil];omega) (by decide) rfl
 refine ⟨_,drawAll_al (stD:=fun D=>⟨nwE rws q dv zs m B e D,nwB m B D⟩) (AlI:=fun D al=>D 0=true->D 11=false->al.find? (fun p=>p.1 == 40)=some (40,.tmp 10)) (orders_all _) (orders_ne back_nw) (fun D oo op hop hD hdep hcl=>?_) (fun h=>by cases h) (by unfold nwE nwB nwL;simp [setsD]) (r:=⟨nwE rws q dv zs m B e (fun _=>true),nwB m B (fun _=>true)⟩) (fun D hD=>?_),?_,?_⟩
 · have hj:oo < 13:=by
    have:=(Array.getElem?_eq_some_iff.1 hop).1
    rw [size_nw] at this
    exact this
   have hpw:=nwL_pw rws q dv zs m B
   have dn:∀ j k (hx:∃ o,(opsOf (fpart Try.f5 [1,1,1,1,0,1,0,0,1,1,0,0,1,1,0,1]))[j]?=some o∧((⟨k,.data⟩:Edge) ∈ o.after.toList∨(⟨k,.phase⟩:Edge) ∈ o.after.toList)),D j=true->D k=true:=fun j k hx h=>by
    obtain ⟨o,ho,hm | hm⟩:=hx
    · exact hcl j o ho h _ hm rfl
    · exact hcl j o ho h _ hm rfl
   have dE:∀ {j k} (hx:∃ o,(opsOf (fpart Try.f5 [1,1,1,1,0,1,0,0,1,1,0,0,1,1,0,1]))[j]?=some o∧(⟨k,.data⟩:Edge) ∈ o.after.toList),D j=true->D k=true:=fun hx h=>by
    obtain ⟨o,ho,hm⟩:=hx
    exact hcl _ o ho h _ hm rfl
   have dP:∀ {j k} (hx:∃ o,(opsOf (fpart Try.f5 [1,1,1,1,0,1,0,0,1,1,0,0,1,1,0,1]))[j]?=some o∧(⟨k,.phase⟩:Edge) ∈ o.after.toList),D j=true->D k=true:=fun hx h=>by
    obtain ⟨o,ho,hm⟩:=hx
    exact hcl _ o ho h _ hm rfl
   have b10:D 11=true->D 10=true:=dE dep_nw_11_10
   have b9:D 11=true->D 9=true:=fun h=>dE dep_nw_10_9 (b10 h)
   have b8:D 11=true->D 8=true:=fun h=>dE dep_nw_9_8 (b9 h)
   have b7:D 11=true->D 7=true:=fun h=>dE dep_nw_8_7 (b8 h)
   have b6:D 11=true->D 6=true:=fun h=>dE dep_nw_7_6 (b7 h)
   have b5:D 11=true->D 5=true:=fun h=>dE dep_nw_6_5 (b6 h)
   have b4:D 11=true->D 4=true:=fun h=>dE dep_nw_9_4 (b9 h)
   have b3:D 11=true->D 3=true:=fun h=>dE dep_nw_9_3 (b9 h)
   have b2:D 11=true->D 2=true:=fun h=>dE dep_nw_9_2 (b9 h)
   have b1:D 11=true->D 1=true:=fun h=>dE dep_nw_2_1 (b2 h)
   have b0:D 11=true->D 0=true:=dE dep_nw_11_0
   have a11:D 12=true->D 11=true:=dE dep_nw_12_11
   have z4:getT (setsD e D (nwL rws q dv zs m B)) 4=.bp 1 0:=by rw [getT_off e D 4 _ (by unfold nwL;simp)];exact h4
   have z10:getT (setsD e D (nwL rws q dv zs m B)) 10=.osl 41 rws:=by rw [getT_off e D 10 _ (by unfold nwL;simp)];exact h10
   have z12:getT (setsD e D (nwL rws q dv zs m B)) 12=.bp q 0:=by rw [getT_off e D 12 _ (by unfold nwL;simp)];exact h12
   have z13:getT (setsD e D (nwL rws q dv zs m B)) 13=.int .i64 0:=by rw [getT_off e D 13 _ (by unfold nwL;simp)];exact h13
   by_cases e0:oo=0
   · subst e0
     have n11:D 11=false:=by cases h:D 11 with | false=>rfl | true=>(have:=b0 h;rw [hD] at this;cases this)
     have n12:D 12=false:=by cases h:D 12 with | false=>rfl | true=>(have:=a11 h;rw [n11] at this;cases this)
     simp only [opsOf,fpart,part',Try.f5,Option.getD,List.getElem?_toArray,List.getElem?_cons_succ,List.getElem?_cons_zero] at hop
     injection hop with hop
     subst hop
     refine ⟨rfl,fun al hal=>?_⟩
     have hE:nwE rws q dv zs m B e D=setsD e D (nwL rws q dv zs m B):=by unfold nwE;rw [n11,n12];rfl
     have hE2:nwE rws q dv zs m B e (addD D 0)=setT (setsD e D (nwL rws q dv zs m B)) 40 (.sl rws):=by unfold nwE;rw [addD_ne (by decide),addD_ne (by decide),n11,n12,setsD_add e D 0 40 _ hD _ (by unfold nwL;simp) hpw];rfl
     have hB2:nwB m B (addD D 0)=nwB m B D:=by unfold nwB;rw [addD_ne (by decide)]
     have hg1:(nwB m B D)[1]?=some (.cells 28 [c1,c2,.sl zs]):=by unfold nwB;cases D 8 <;> first | exact hb1 | exact get_app hb1 _
     have hgq:(nwB m B D)[q]?=some (.cells 48 (.int .i64 dv :: rest)):=by unfold nwB;cases D 8 <;> first | exact hbq | exact get_app hbq _
     have hfin:∀ al,((40,.tmp 10) :: killT al (some 40):List (Nat×Loc)).find? (fun p=>p.1 == 40)=some (40,.tmp 10):=fun al=>by rw [List.find?_cons];simp
     rw [hE,hE2,hB2]
     generalize nwB m B D=BB at *
     generalize setsD e D (nwL rws q dv zs m B)=E at *
     obtain ⟨ev,eo,so,co,⟨hev,hco,heo,hso⟩,R⟩:=RULES0 CC
     rw [<- hso]
     simp (maxSteps:=5000000) only [SA,SB,SD,R,SF,SG,SH,seval,TG,SE,SC,UTT,ZCT,RV,dynR,nchP,List.getElem?_concat_length,ss1,List.set_cons_zero,List.set_cons_succ,Bool.not_not,strP_eql,strP_neq,z4,z10,z12,z13]
     exact ⟨_,rfl,fun _ _=>hfin al⟩
   by_cases e1:oo=1
   · subst e1
     have n11:D 11=false:=by cases h:D 11 with | false=>rfl | true=>(have:=b1 h;rw [hD] at this;cases this)
     have n12:D 12=false:=by cases h:D 12 with | false=>rfl | true=>(have:=a11 h;rw [n11] at this;cases this)
     simp only [opsOf,fpart,part',Try.f5,Option.getD,List.getElem?_toArray,List.getElem?_cons_succ,List.getElem?_cons_zero] at hop
     injection hop with hop
     subst hop
     refine ⟨rfl,fun al hal=>?_⟩
     have hE:nwE rws q dv zs m B e D=setsD e D (nwL rws q dv zs m B):=by unfold nwE;rw [n11,n12];rfl
     have hE2:nwE rws q dv zs m B e (addD D 1)=setT (setsD e D (nwL rws q dv zs m B)) 41 (.bp q 0):=by unfold nwE;rw [addD_ne (by decide),addD_ne (by decide),n11,n12,setsD_add e D 1 41 _ hD _ (by unfold nwL;simp) hpw];rfl
     have hB2:nwB m B (addD D 1)=nwB m B D:=by unfold nwB;rw [addD_ne (by decide)]
     have hg1:(nwB m B D)[1]?=some (.cells 28 [c1,c2,.sl zs]):=by unfold nwB;cases D 8 <;> first | exact hb1 | exact get_app hb1 _
     have hgq:(nwB m B D)[q]?=some (.cells 48 (.int .i64 dv :: rest)):=by unfold nwB;cases D 8 <;> first | exact hbq | exact get_app hbq _
     have hfin:(addD D 1) 0=true->(addD D 1) 11=false->(killT al (some 41)).find? (fun p=>p.1 == 40)=some (40,.tmp 10):=fun g0 g11=>by rw [addD_ne (by decide)] at g0 g11;exact find_killT al 41 40 10 (by decide) (by decide) (hal g0 g11)
     rw [hE,hE2,hB2]
     generalize nwB m B D=BB at *
     generalize setsD e D (nwL rws q dv zs m B)=E at *
     obtain ⟨ev,eo,so,co,⟨hev,hco,heo,hso⟩,R⟩:=RULES0 CC
     rw [<- hso]
     simp (maxSteps:=5000000) only [SA,SB,SD,R,SF,SG,SH,seval,TG,SE,SC,UTT,ZCT,RV,dynR,nchP,List.getElem?_concat_length,ss1,List.set_cons_zero,List.set_cons_succ,Bool.not_not,strP_eql,strP_neq,z4,z10,z12,z13]
     exact ⟨_,rfl,hfin⟩
   by_cases e2:oo=2
   · subst e2
     have n11:D 11=false:=by cases h:D 11 with | false=>rfl | true=>(have:=b2 h;rw [hD] at this;cases this)
     have n12:D 12=false:=by cases h:D 12 with | false=>rfl | true=>(have:=a11 h;rw [n11] at this;cases this)
     simp only [opsOf,fpart,part',Try.f5,Option.getD,List.getElem?_toArray,List.getElem?_cons_succ,List.getElem?_cons_zero] at hop
     injection hop with hop
     subst hop
     refine ⟨rfl,fun al hal=>?_⟩
     have d1:D 1=true:=hdep ⟨1,.data⟩ (by simp) rfl
     have z41:getT (setsD e D (nwL rws q dv zs m B)) 41=.bp q 0:=getT_on e D 1 41 _ d1 _ (by unfold nwL;simp) hpw
     have hE:nwE rws q dv zs m B e D=setsD e D (nwL rws q dv zs m B):=by unfold nwE;rw [n11,n12];rfl
     have hE2:nwE rws q dv zs m B e (addD D 2)=setT (setsD e D (nwL rws q dv zs m B)) 42 (.int .i64 dv):=by unfold nwE;rw [addD_ne (by decide),addD_ne (by decide),n11,n12,setsD_add e D 2 42 _ hD _ (by unfold nwL;simp) hpw];rfl
     have hB2:nwB m B (addD D 2)=nwB m B D:=by unfold nwB;rw [addD_ne (by decide)]
     have hg1:(nwB m B D)[1]?=some (.cells 28 [c1,c2,.sl zs]):=by unfold nwB;cases D 8 <;> first | exact hb1 | exact get_app hb1 _
     have hgq:(nwB m B D)[q]?=some (.cells 48 (.int .i64 dv :: rest)):=by unfold nwB;cases D 8 <;> first | exact hbq | exact get_app hbq _
     have hfin:(addD D 2) 0=true->(addD D 2) 11=false->(killT al (some 42)).find? (fun p=>p.1 == 40)=some (40,.tmp 10):=fun g0 g11=>by rw [addD_ne (by decide)] at g0 g11;exact find_killT al 42 40 10 (by decide) (by decide) (hal g0 g11)
     rw [hE,hE2,hB2]
     generalize nwB m B D=BB at *
     generalize setsD e D (nwL rws q dv zs m B)=E at *
     obtain ⟨ev,eo,so,co,⟨hev,hco,heo,hso⟩,R⟩:=RULES0 CC
     rw [<- hso]
     simp (maxSteps:=5000000) only [SA,SB,SD,R,SF,SG,SH,seval,TG,SE,SC,UTT,ZCT,RV,dynR,nchP,List.getElem?_concat_length,ss1,List.set_cons_zero,List.set_cons_succ,Bool.not_not,strP_eql,strP_neq,z4,z10,z12,z13,z41,hgq]
     exact ⟨_,rfl,hfin⟩
   by_cases e3:oo=3
   · subst e3
     have n11:D 11=false:=by cases h:D 11 with | false=>rfl | true=>(have:=b3 h;rw [hD] at this;cases this)
     have n12:D 12=false:=by cases h:D 12 with | false=>rfl | true=>(have:=a11 h;rw [n11] at this;cases this)
     simp only [opsOf,fpart,part',Try.f5,Option.getD,List.getElem?_toArray,List.getElem?_cons_succ,List.getElem?_cons_zero] at hop
     injection hop with hop
     subst hop
     refine ⟨rfl,fun al hal=>?_⟩
     have hE:nwE rws q dv zs m B e D=setsD e D (nwL rws q dv zs m B):=by unfold nwE;rw [n11,n12];rfl
     have hE2:nwE rws q dv zs m B e (addD D 3)=setT (setsD e D (nwL rws q dv zs m B)) 43 (.int .i64 0):=by unfold nwE;rw [addD_ne (by decide),addD_ne (by decide),n11,n12,setsD_add e D 3 43 _ hD _ (by unfold nwL;simp) hpw];rfl
     have hB2:nwB m B (addD D 3)=nwB m B D:=by unfold nwB;rw [addD_ne (by decide)]
     have hg1:(nwB m B D)[1]?=some (.cells 28 [c1,c2,.sl zs]):=by unfold nwB;cases D 8 <;> first | exact hb1 | exact get_app hb1 _
     have hgq:(nwB m B D)[q]?=some (.cells 48 (.int .i64 dv :: rest)):=by unfold nwB;cases D 8 <;> first | exact hbq | exact get_app hbq _
     have hfin:(addD D 3) 0=true->(addD D 3) 11=false->(killT al (some 43)).find? (fun p=>p.1 == 40)=some (40,.tmp 10):=fun g0 g11=>by rw [addD_ne (by decide)] at g0 g11;exact find_killT al 43 40 10 (by decide) (by decide) (hal g0 g11)
     rw [hE,hE2,hB2]
     generalize nwB m B D=BB at *
     generalize setsD e D (nwL rws q dv zs m B)=E at *
     obtain ⟨ev,eo,so,co,⟨hev,hco,heo,hso⟩,R⟩:=RULES0 CC
     rw [<- hso]
     simp (maxSteps:=5000000) only [SA,SB,SD,R,SF,SG,SH,seval,TG,SE,SC,UTT,ZCT,RV,dynR,nchP,List.getElem?_concat_length,ss1,List.set_cons_zero,List.set_cons_succ,Bool.not_not,strP_eql,strP_neq,z4,z10,z12,z13]
     exact ⟨_,rfl,hfin⟩
   by_cases e4:oo=4
   · subst e4
     have n11:D 11=false:=by cases h:D 11 with | false=>rfl | true=>(have:=b4 h;rw [hD] at this;cases this)
     have n12:D 12=false:=by cases h:D 12 with | false=>rfl | true=>(have:=a11 h;rw [n11] at this;cases this)
     simp only [opsOf,fpart,part',Try.f5,Option.getD,List.getElem?_toArray,List.getElem?_cons_succ,List.getElem?_cons_zero] at hop
     injection hop with hop
     subst hop
     refine ⟨rfl,fun al hal=>?_⟩
     have hE:nwE rws q dv zs m B e D=setsD e D (nwL rws q dv zs m B):=by unfold nwE;rw [n11,n12];rfl
     have hE2:nwE rws q dv zs m B e (addD D 4)=setT (setsD e D (nwL rws q dv zs m B)) 44 (.int .i64 0):=by unfold nwE;rw [addD_ne (by decide),addD_ne (by decide),n11,n12,setsD_add e D 4 44 _ hD _ (by unfold nwL;simp) hpw];rfl
     have hB2:nwB m B (addD D 4)=nwB m B D:=by unfold nwB;rw [addD_ne (by decide)]
     have hg1:(nwB m B D)[1]?=some (.cells 28 [c1,c2,.sl zs]):=by unfold nwB;cases D 8 <;> first | exact hb1 | exact get_app hb1 _
     have hgq:(nwB m B D)[q]?=some (.cells 48 (.int .i64 dv :: rest)):=by unfold nwB;cases D 8 <;> first | exact hbq | exact get_app hbq _
     have hfin:(addD D 4) 0=true->(addD D 4) 11=false->(killT al (some 44)).find? (fun p=>p.1 == 40)=some (40,.tmp 10):=fun g0 g11=>by rw [addD_ne (by decide)] at g0 g11;exact find_killT al 44 40 10 (by decide) (by decide) (hal g0 g11)
     rw [hE,hE2,hB2]
     generalize nwB m B D=BB at *
     generalize setsD e D (nwL rws q dv zs m B)=E at *
     obtain ⟨ev,eo,so,co,⟨hev,hco,heo,hso⟩,R⟩:=RULES0 CC
     rw [<- hso]
     simp (maxSteps:=5000000) only [SA,SB,SD,R,SF,SG,SH,seval,TG,SE,SC,UTT,ZCT,RV,dynR,nchP,List.getElem?_concat_length,ss1,List.set_cons_zero,List.set_cons_succ,Bool.not_not,strP_eql,strP_neq,z4,z10,z12,z13]
     exact ⟨_,rfl,hfin⟩
   by_cases e5:oo=5
   · subst e5
     have n11:D 11=false:=by cases h:D 11 with | false=>rfl | true=>(have:=b5 h;rw [hD] at this;cases this)
     have n12:D 12=false:=by cases h:D 12 with | false=>rfl | true=>(have:=a11 h;rw [n11] at this;cases this)
     simp only [opsOf,fpart,part',Try.f5,Option.getD,List.getElem?_toArray,List.getElem?_cons_succ,List.getElem?_cons_zero] at hop
     injection hop with hop
     subst hop
     refine ⟨rfl,fun al hal=>?_⟩
     have hE:nwE rws q dv zs m B e D=setsD e D (nwL rws q dv zs m B):=by unfold nwE;rw [n11,n12];rfl
     have hE2:nwE rws q dv zs m B e (addD D 5)=setT (setsD e D (nwL rws q dv zs m B)) 45 (.bp 1 2):=by unfold nwE;rw [addD_ne (by decide),addD_ne (by decide),n11,n12,setsD_add e D 5 45 _ hD _ (by unfold nwL;simp) hpw];rfl
     have hB2:nwB m B (addD D 5)=nwB m B D:=by unfold nwB;rw [addD_ne (by decide)]
     have hg1:(nwB m B D)[1]?=some (.cells 28 [c1,c2,.sl zs]):=by unfold nwB;cases D 8 <;> first | exact hb1 | exact get_app hb1 _
     have hgq:(nwB m B D)[q]?=some (.cells 48 (.int .i64 dv :: rest)):=by unfold nwB;cases D 8 <;> first | exact hbq | exact get_app hbq _
     have hfin:(addD D 5) 0=true->(addD D 5) 11=false->(killT al (some 45)).find? (fun p=>p.1 == 40)=some (40,.tmp 10):=fun g0 g11=>by rw [addD_ne (by decide)] at g0 g11;exact find_killT al 45 40 10 (by decide) (by decide) (hal g0 g11)
     rw [hE,hE2,hB2]
     generalize nwB m B D=BB at *
     generalize setsD e D (nwL rws q dv zs m B)=E at *
     obtain ⟨ev,eo,so,co,⟨hev,hco,heo,hso⟩,R⟩:=RULES0 CC
     rw [<- hso]
     simp (maxSteps:=5000000) only [SA,SB,SD,R,SF,SG,SH,seval,TG,SE,SC,UTT,ZCT,RV,dynR,nchP,List.getElem?_concat_length,ss1,List.set_cons_zero,List.set_cons_succ,Bool.not_not,strP_eql,strP_neq,z4,z10,z12,z13]
     exact ⟨_,rfl,hfin⟩
   by_cases e6:oo=6
   · subst e6
     have n11:D 11=false:=by cases h:D 11 with | false=>rfl | true=>(have:=b6 h;rw [hD] at this;cases this)
     have n12:D 12=false:=by cases h:D 12 with | false=>rfl | true=>(have:=a11 h;rw [n11] at this;cases this)
     simp only [opsOf,fpart,part',Try.f5,Option.getD,List.getElem?_toArray,List.getElem?_cons_succ,List.getElem?_cons_zero] at hop
     injection hop with hop
     subst hop
     refine ⟨rfl,fun al hal=>?_⟩
     have d5:D 5=true:=hdep ⟨5,.data⟩ (by simp) rfl
     have z45:getT (setsD e D (nwL rws q dv zs m B)) 45=.bp 1 2:=getT_on e D 5 45 _ d5 _ (by unfold nwL;simp) hpw
     have hE:nwE rws q dv zs m B e D=setsD e D (nwL rws q dv zs m B):=by unfold nwE;rw [n11,n12];rfl
     have hE2:nwE rws q dv zs m B e (addD D 6)=setT (setsD e D (nwL rws q dv zs m B)) 46 (.sl zs):=by unfold nwE;rw [addD_ne (by decide),addD_ne (by decide),n11,n12,setsD_add e D 6 46 _ hD _ (by unfold nwL;simp) hpw];rfl
     have hB2:nwB m B (addD D 6)=nwB m B D:=by unfold nwB;rw [addD_ne (by decide)]
     have hg1:(nwB m B D)[1]?=some (.cells 28 [c1,c2,.sl zs]):=by unfold nwB;cases D 8 <;> first | exact hb1 | exact get_app hb1 _
     have hgq:(nwB m B D)[q]?=some (.cells 48 (.int .i64 dv :: rest)):=by unfold nwB;cases D 8 <;> first | exact hbq | exact get_app hbq _
     have hfin:(addD D 6) 0=true->(addD D 6) 11=false->(killT al (some 46)).find? (fun p=>p.1 == 40)=some (40,.tmp 10):=fun g0 g11=>by rw [addD_ne (by decide)] at g0 g11;exact find_killT al 46 40 10 (by decide) (by decide) (hal g0 g11)
     rw [hE,hE2,hB2]
     generalize nwB m B D=BB at *
     generalize setsD e D (nwL rws q dv zs m B)=E at *
     obtain ⟨ev,eo,so,co,⟨hev,hco,heo,hso⟩,R⟩:=RULES0 CC
     rw [<- hso]
     simp (maxSteps:=5000000) only [SA,SB,SD,R,SF,SG,SH,seval,TG,SE,SC,UTT,ZCT,RV,dynR,nchP,List.getElem?_concat_length,ss1,List.set_cons_zero,List.set_cons_succ,Bool.not_not,strP_eql,strP_neq,z4,z10,z12,z13,z45,hg1]
     exact ⟨_,rfl,hfin⟩
   by_cases e7:oo=7
   · subst e7
     have n11:D 11=false:=by cases h:D 11 with | false=>rfl | true=>(have:=b7 h;rw [hD] at this;cases this)
     have n12:D 12=false:=by cases h:D 12 with | false=>rfl | true=>(have:=a11 h;rw [n11] at this;cases this)
     simp only [opsOf,fpart,part',Try.f5,Option.getD,List.getElem?_toArray,List.getElem?_cons_succ,List.getElem?_cons_zero] at hop
     injection hop with hop
     subst hop
     refine ⟨rfl,fun al hal=>?_⟩
     have d6:D 6=true:=hdep ⟨6,.data⟩ (by simp) rfl
     have z46:getT (setsD e D (nwL rws q dv zs m B)) 46=.sl zs:=getT_on e D 6 46 _ d6 _ (by unfold nwL;simp) hpw
     have hE:nwE rws q dv zs m B e D=setsD e D (nwL rws q dv zs m B):=by unfold nwE;rw [n11,n12];rfl
     have hE2:nwE rws q dv zs m B e (addD D 7)=setT (setsD e D (nwL rws q dv zs m B)) 47 (.int .i64 (m:Nat)):=by unfold nwE;rw [addD_ne (by decide),addD_ne (by decide),n11,n12,setsD_add e D 7 47 _ hD _ (by unfold nwL;simp) hpw];rfl
     have hB2:nwB m B (addD D 7)=nwB m B D:=by unfold nwB;rw [addD_ne (by decide)]
     have hg1:(nwB m B D)[1]?=some (.cells 28 [c1,c2,.sl zs]):=by unfold nwB;cases D 8 <;> first | exact hb1 | exact get_app hb1 _
     have hgq:(nwB m B D)[q]?=some (.cells 48 (.int .i64 dv :: rest)):=by unfold nwB;cases D 8 <;> first | exact hbq | exact get_app hbq _
     have hfin:(addD D 7) 0=true->(addD D 7) 11=false->(killT al (some 47)).find? (fun p=>p.1 == 40)=some (40,.tmp 10):=fun g0 g11=>by rw [addD_ne (by decide)] at g0 g11;exact find_killT al 47 40 10 (by decide) (by decide) (hal g0 g11)
     rw [hE,hE2,hB2]
     generalize nwB m B D=BB at *
     generalize setsD e D (nwL rws q dv zs m B)=E at *
     obtain ⟨ev,eo,so,co,⟨hev,hco,heo,hso⟩,R⟩:=RULES0 CC
     rw [<- hso]
     simp (maxSteps:=5000000) only [SA,SB,SD,R,SF,SG,SH,seval,TG,SE,SC,UTT,ZCT,RV,dynR,nchP,List.getElem?_concat_length,ss1,List.set_cons_zero,List.set_cons_succ,Bool.not_not,strP_eql,strP_neq,z4,z10,z12,z13,z46,hln]
     exact ⟨_,rfl,hfin⟩
   by_cases e8:oo=8
   · subst e8
     have n11:D 11=false:=by cases h:D 11 with | false=>rfl | true=>(have:=b8 h;rw [hD] at this;cases this)
     have n12:D 12=false:=by cases h:D 12 with | false=>rfl | true=>(have:=a11 h;rw [n11] at this;cases this)
     simp only [opsOf,fpart,part',Try.f5,Option.getD,List.getElem?_toArray,List.getElem?_cons_succ,List.getElem?_cons_zero] at hop
     injection hop with hop
     subst hop
     refine ⟨rfl,fun al hal=>?_⟩
     have d7:D 7=true:=hdep ⟨7,.data⟩ (by simp) rfl
     have z47:getT (setsD e D (nwL rws q dv zs m B)) 47=.int .i64 (m:Nat):=getT_on e D 7 47 _ d7 _ (by unfold nwL;simp) hpw
     have hE:nwE rws q dv zs m B e D=setsD e D (nwL rws q dv zs m B):=by unfold nwE;rw [n11,n12];rfl
     have hE2:nwE rws q dv zs m B e (addD D 8)=setT (setsD e D (nwL rws q dv zs m B)) 48 (.rs B.length m):=by unfold nwE;rw [addD_ne (by decide),addD_ne (by decide),n11,n12,setsD_add e D 8 48 _ hD _ (by unfold nwL;simp) hpw];rfl
     have hB:nwB m B D=B:=by unfold nwB;rw [hD];rfl
     have hB2:nwB m B (addD D 8)=B++[.cells 4 (bos (List.replicate m false))]:=by unfold nwB;rw [addD_self];rfl
     have hfin:(addD D 8) 0=true->(addD D 8) 11=false->(killT al (some 48)).find? (fun p=>p.1 == 40)=some (40,.tmp 10):=fun g0 g11=>by rw [addD_ne (by decide)] at g0 g11;exact find_killT al 48 40 10 (by decide) (by decide) (hal g0 g11)
     rw [hE,hE2,hB,hB2]
     generalize setsD e D (nwL rws q dv zs m B)=E at *
     obtain ⟨ev,eo,so,co,⟨hev,hco,heo,hso⟩,R⟩:=RULES0 CC
     rw [<- hso]
     simp (maxSteps:=5000000) only [SA,SB,SD,R,SF,SG,SH,seval,TG,SE,SC,UTT,ZCT,RV,dynR,nchP,List.getElem?_concat_length,ss1,List.set_cons_zero,List.set_cons_succ,Bool.not_not,strP_eql,strP_neq,z4,z10,z12,z13,z47,hmk,hns,mkSl]
     exact ⟨_,rfl,hfin⟩
   by_cases e9:oo=9
   · subst e9
     have n11:D 11=false:=by cases h:D 11 with | false=>rfl | true=>(have:=b9 h;rw [hD] at this;cases this)
     have n12:D 12=false:=by cases h:D 12 with | false=>rfl | true=>(have:=a11 h;rw [n11] at this;cases this)
     simp only [opsOf,fpart,part',Try.f5,Option.getD,List.getElem?_toArray,List.getElem?_cons_succ,List.getElem?_cons_zero] at hop
     injection hop with hop
     subst hop
     refine ⟨rfl,fun al hal=>?_⟩
     have d2:D 2=true:=hdep ⟨2,.data⟩ (by simp) rfl
     have z42:getT (setsD e D (nwL rws q dv zs m B)) 42=.int .i64 dv:=getT_on e D 2 42 _ d2 _ (by unfold nwL;simp) hpw
     have d3:D 3=true:=hdep ⟨3,.data⟩ (by simp) rfl
     have z43:getT (setsD e D (nwL rws q dv zs m B)) 43=.int .i64 0:=getT_on e D 3 43 _ d3 _ (by unfold nwL;simp) hpw
     have d4:D 4=true:=hdep ⟨4,.data⟩ (by simp) rfl
     have z44:getT (setsD e D (nwL rws q dv zs m B)) 44=.int .i64 0:=getT_on e D 4 44 _ d4 _ (by unfold nwL;simp) hpw
     have d8:D 8=true:=hdep ⟨8,.data⟩ (by simp) rfl
     have z48:getT (setsD e D (nwL rws q dv zs m B)) 48=.rs B.length m:=getT_on e D 8 48 _ d8 _ (by unfold nwL;simp) hpw
     have hE:nwE rws q dv zs m B e D=setsD e D (nwL rws q dv zs m B):=by unfold nwE;rw [n11,n12];rfl
     have hE2:nwE rws q dv zs m B e (addD D 9)=setT (setsD e D (nwL rws q dv zs m B)) 49 (.agg [.int .i64 dv,.int .i64 0,.int .i64 0,.int .i64 0,.int .i64 0,.rs B.length m]):=by unfold nwE;rw [addD_ne (by decide),addD_ne (by decide),n11,n12,setsD_add e D 9 49 _ hD _ (by unfold nwL;simp) hpw];rfl
     have hB2:nwB m B (addD D 9)=nwB m B D:=by unfold nwB;rw [addD_ne (by decide)]
     have hg1:(nwB m B D)[1]?=some (.cells 28 [c1,c2,.sl zs]):=by unfold nwB;cases D 8 <;> first | exact hb1 | exact get_app hb1 _
     have hgq:(nwB m B D)[q]?=some (.cells 48 (.int .i64 dv :: rest)):=by unfold nwB;cases D 8 <;> first | exact hbq | exact get_app hbq _
     have hfin:(addD D 9) 0=true->(addD D 9) 11=false->(killT al (some 49)).find? (fun p=>p.1 == 40)=some (40,.tmp 10):=fun g0 g11=>by rw [addD_ne (by decide)] at g0 g11;exact find_killT al 49 40 10 (by decide) (by decide) (hal g0 g11)
     rw [hE,hE2,hB2]
     generalize nwB m B D=BB at *
     generalize setsD e D (nwL rws q dv zs m B)=E at *
     obtain ⟨ev,eo,so,co,⟨hev,hco,heo,hso⟩,R⟩:=RULES0 CC
     rw [<- hso]
     simp (maxSteps:=5000000) only [SA,SB,SD,R,SF,SG,SH,seval,TG,SE,SC,UTT,ZCT,RV,dynR,nchP,List.getElem?_concat_length,ss1,List.set_cons_zero,List.set_cons_succ,Bool.not_not,strP_eql,strP_neq,z4,z10,z12,z13,z42,z43,z44,z48,hbu]
     exact ⟨_,rfl,hfin⟩
   by_cases e10:oo=10
   · subst e10
     have n11:D 11=false:=by cases h:D 11 with | false=>rfl | true=>(have:=b10 h;rw [hD] at this;cases this)
     have n12:D 12=false:=by cases h:D 12 with | false=>rfl | true=>(have:=a11 h;rw [n11] at this;cases this)
     simp only [opsOf,fpart,part',Try.f5,Option.getD,List.getElem?_toArray,List.getElem?_cons_succ,List.getElem?_cons_zero] at hop
     injection hop with hop
     subst hop
     refine ⟨rfl,fun al hal=>?_⟩
     have d9:D 9=true:=hdep ⟨9,.data⟩ (by simp) rfl
     have z49:getT (setsD e D (nwL rws q dv zs m B)) 49=.agg [.int .i64 dv,.int .i64 0,.int .i64 0,.int .i64 0,.int .i64 0,.rs B.length m]:=getT_on e D 9 49 _ d9 _ (by unfold nwL;simp) hpw
     have hE:nwE rws q dv zs m B e D=setsD e D (nwL rws q dv zs m B):=by unfold nwE;rw [n11,n12];rfl
     have hE2:nwE rws q dv zs m B e (addD D 10)=setT (setsD e D (nwL rws q dv zs m B)) 50 (.osl 41 [.agg [.int .i64 dv,.int .i64 0,.int .i64 0,.int .i64 0,.int .i64 0,.rs B.length m]]):=by unfold nwE;rw [addD_ne (by decide),addD_ne (by decide),n11,n12,setsD_add e D 10 50 _ hD _ (by unfold nwL;simp) hpw];rfl
     have hB2:nwB m B (addD D 10)=nwB m B D:=by unfold nwB;rw [addD_ne (by decide)]
     have hg1:(nwB m B D)[1]?=some (.cells 28 [c1,c2,.sl zs]):=by unfold nwB;cases D 8 <;> first | exact hb1 | exact get_app hb1 _
     have hgq:(nwB m B D)[q]?=some (.cells 48 (.int .i64 dv :: rest)):=by unfold nwB;cases D 8 <;> first | exact hbq | exact get_app hbq _
     have hfin:(addD D 10) 0=true->(addD D 10) 11=false->(killT al (some 50)).find? (fun p=>p.1 == 40)=some (40,.tmp 10):=fun g0 g11=>by rw [addD_ne (by decide)] at g0 g11;exact find_killT al 50 40 10 (by decide) (by decide) (hal g0 g11)
     rw [hE,hE2,hB2]
     generalize nwB m B D=BB at *
     generalize setsD e D (nwL rws q dv zs m B)=E at *
     obtain ⟨ev,eo,so,co,⟨hev,hco,heo,hso⟩,R⟩:=RULES0 CC
     rw [<- hso]
     simp (maxSteps:=5000000) only [SA,SB,SD,R,SF,SG,SH,seval,TG,SE,SC,UTT,ZCT,RV,dynR,nchP,List.getElem?_concat_length,ss1,List.set_cons_zero,List.set_cons_succ,Bool.not_not,strP_eql,strP_neq,z4,z10,z12,z13,z49,hbs]
     exact ⟨_,rfl,hfin⟩
   by_cases e11:oo=11
   · subst e11
     have n12:D 12=false:=by cases h:D 12 with | false=>rfl | true=>(have:=a11 h;rw [hD] at this;cases this)
     simp only [opsOf,fpart,part',Try.f5,Option.getD,List.getElem?_toArray,List.getElem?_cons_succ,List.getElem?_cons_zero] at hop
     injection hop with hop
     subst hop
     refine ⟨rfl,fun al hal=>?_⟩
     have d0:D 0=true:=hdep ⟨0,.data⟩ (by simp) rfl
     have z40:getT (setsD e D (nwL rws q dv zs m B)) 40=.sl rws:=getT_on e D 0 40 _ d0 _ (by unfold nwL;simp) hpw
     have d10:D 10=true:=hdep ⟨10,.data⟩ (by simp) rfl
     have z50:getT (setsD e D (nwL rws q dv zs m B)) 50=.osl 41 [.agg [.int .i64 dv,.int .i64 0,.int .i64 0,.int .i64 0,.int .i64 0,.rs B.length m]]:=getT_on e D 10 50 _ d10 _ (by unfold nwL;simp) hpw
     have hE:nwE rws q dv zs m B e D=setsD e D (nwL rws q dv zs m B):=by unfold nwE;rw [hD,n12];rfl
     have hE2:nwE rws q dv zs m B e (addD D 11)=setT (setT (setsD e D (nwL rws q dv zs m B)) 10 (.sl rws)) 51 (.osl 41 (rws++[.agg [.int .i64 dv,.int .i64 0,.int .i64 0,.int .i64 0,.int .i64 0,.rs B.length m]])):=by unfold nwE;rw [addD_ne (by decide),addD_self,n12,setsD_skip e D 11 _ (by unfold nwL;simp)];rfl
     have hB2:nwB m B (addD D 11)=nwB m B D:=by unfold nwB;rw [addD_ne (by decide)]
     have hfd:=hal d0 hD
     rw [hE,hE2,hB2]
     generalize nwB m B D=BB at *
     generalize setsD e D (nwL rws q dv zs m B)=E at *
     obtain ⟨ev,eo,so,co,⟨hev,hco,heo,hso⟩,R⟩:=RULES0 CC
     rw [<- hso]
     simp (maxSteps:=5000000) only [SA,SB,SD,R,SF,SG,SH,seval,TG,SE,SC,UTT,ZCT,RV,dynR,nchP,List.getElem?_concat_length,ss1,List.set_cons_zero,List.set_cons_succ,Bool.not_not,strP_eql,strP_neq,z4,z10,z12,z13,z40,z50,apUp,hfd,hap]
     exact ⟨_,rfl,fun _ g=>by rw [addD_self] at g;cases g⟩
   by_cases e12:oo=12
   · subst e12
     simp only [opsOf,fpart,part',Try.f5,Option.getD,List.getElem?_toArray,List.getElem?_cons_succ,List.getElem?_cons_zero] at hop
     injection hop with hop
     subst hop
     refine ⟨rfl,fun al hal=>?_⟩
     have d11:D 11=true:=hdep ⟨11,.data⟩ (by simp) rfl
     have hE:nwE rws q dv zs m B e D=setT (setT (setsD e D (nwL rws q dv zs m B)) 10 (.sl rws)) 51 (.osl 41 (rws++[.agg [.int .i64 dv,.int .i64 0,.int .i64 0,.int .i64 0,.int .i64 0,.rs B.length m]])):=by unfold nwE;rw [hD,d11];rfl
     have hE2:nwE rws q dv zs m B e (addD D 12)=setT (setT (setT (setT (setsD e D (nwL rws q dv zs m B)) 10 (.sl rws)) 51 (.osl 41 (rws++[.agg [.int .i64 dv,.int .i64 0,.int .i64 0,.int .i64 0,.int .i64 0,.rs B.length m]]))) 51 (.sl (rws++[.agg [.int .i64 dv,.int .i64 0,.int .i64 0,.int .i64 0,.int .i64 0,.rs B.length m]]))) 10 (.osl 41 (rws++[.agg [.int .i64 dv,.int .i64 0,.int .i64 0,.int .i64 0,.int .i64 0,.rs B.length m]])):=by unfold nwE;rw [addD_self,setsD_skip e D 12 _ (by unfold nwL;simp)];rfl
     have hB2:nwB m B (addD D 12)=nwB m B D:=by unfold nwB;rw [addD_ne (by decide)]
     have hfin:(addD D 12) 0=true->(addD D 12) 11=false->False:=fun _ g=>by rw [addD_ne (by decide),d11] at g;cases g
     rw [hE,hE2,hB2]
     generalize nwB m B D=BB at *
     generalize setsD e D (nwL rws q dv zs m B)=E at *
     obtain ⟨ev,eo,so,co,⟨hev,hco,heo,hso⟩,R⟩:=RULES0 CC
     rw [<- hso]
     simp (maxSteps:=5000000) only [SA,SB,SD,R,SF,SG,SH,seval,TG,SE,SC,UTT,ZCT,RV,dynR,nchP,List.getElem?_concat_length,ss1,List.set_cons_zero,List.set_cons_succ,Bool.not_not,strP_eql,strP_neq,z4,z10,z12,z13]
     exact ⟨_,rfl,fun g0 g=>(hfin g0 g).elim⟩
   omega
 · have hsz:=size_nw
   have hd:∀ j,j < 13->D j=true:=fun j hj=>hD j (by rw [hsz];exact hj)
   unfold nwE nwB nwL
   simp only [setsD,hd 0 (by decide),hd 1 (by decide),hd 2 (by decide),hd 3 (by decide),hd 4 (by decide),hd 5 (by decide),hd 6 (by decide),hd 7 (by decide),hd 8 (by decide),hd 9 (by decide),hd 10 (by decide),hd 11 (by decide),hd 12 (by decide),if_true]
 · unfold nwE
   rw [if_pos rfl,getT_setT,if_pos rfl]
 · intro t ht h40
   unfold nwE
   rw [if_pos rfl,getT_setT,if_neg (by omega),getT_setT,if_neg (by omega),getT_setT,if_neg (by omega),getT_setT,if_neg (by omega)]
   exact getT_off e _ t _ (by unfold nwL;simp;omega)
end Go.HH
namespace Go.HH
open Go Go.Proofs
set_option maxRecDepth 100000
set_option maxHeartbeats 4000000
set_option linter.unusedSimpArgs false
set_option linter.unusedVariables false
theorem ok_rollout_version:fnOK CC Try.f17 (Try.f17.body.getD .skip)=true:=by kernel_rfl
theorem fat_rollout_version:CC.P.funcs[17]?=some Try.f17:=by kernel_rfl
def PV0 (bx:List PBox) (res:Option (Ex×St)):Prop:=∃ e',res=some (.exit 0,⟨e',bx⟩)
theorem PV0.of {ev:Code->St->Option (Ex×St)} {L:Code} {st:St} {bx:List PBox} {z:Option (Ex×St)} (hE:ev L st=z) (h:PV0 bx (ev L st)):PV0 bx z:=hE ▸ h
theorem loop_ver0 (L:Code) (hL:L=fpart Try.f17 [1,0,1,0]) (e:List PV) (bx:List PBox) (h7:getT e 8=.int .i64 0) (h8:getT e 9=.int .i64 0):PV0 bx (evL CC L ⟨e,bx⟩):=by
 rw [evL_at (fpart Try.f17 [1,0,1,0,0]) hL]
 have hi:¬ ((0:Int) < 0):=by decide
 obtain ⟨fa,fb,fv,hfn⟩:=FNs
 obtain ⟨ev,eo,so,co,⟨hev,hco⟩,R⟩:=RULES CC;rw [<- hev]
 simp only [fpart,part',Try.f17,Option.getD]
 simp (maxSteps:=5000000) only [SA,SB,SD,R,SF,SG,SH,seval,TG,SE,SC,UTT,ZCT,RV,dynR,hfn,nchP,List.getElem?_concat_length,ss1,List.set_cons_zero,List.set_cons_succ,Bool.not_not,strP_eql,strP_neq,h7,h8,hi]
 exact ⟨_,rfl⟩
theorem call_ver0 (dev:Int):∃ bx,callL CC 17 [.sl [],.int .i64 dev] []=some (.ret (.int .i64 0),bx):=by
 rw [callL_enter (fn:=Try.f17) (c:=Try.f17.body.getD .skip) rfl rfl fat_rollout_version rfl ok_rollout_version (Nat.le_of_ble_eq_true rfl)]
 have hloop:=fun e bx=>loop_ver0 _ rfl e bx
 obtain ⟨fa,fb,fv,hfn⟩:=FNs
 obtain ⟨ev,eo,so,co,⟨hev,hco⟩,R⟩:=RULES CC;rw [<- hev]
 rw [<- hev] at hloop
 simp only [fpart,part',Try.f17,Option.getD] at hloop ⊢
 simp (maxSteps:=5000000) only [SA,SB,SD,R,SF,SG,SH,seval,TG,SE,SC,UTT,ZCT,RV,dynR,hfn,nchP,List.getElem?_concat_length,ss1,List.set_cons_zero,List.set_cons_succ,Bool.not_not,strP_eql,strP_neq]
 generalize hE:ev _ _=z
 obtain ⟨e',he⟩:=PV0.of hE (hloop _ _ (by simp (maxSteps:=5000000) only [SA,SB,SD,R,SF,seval] <;> rfl) (by simp (maxSteps:=5000000) only [SA,SB,SD,R,SF,seval] <;> rfl))
 subst he
 simp (maxSteps:=5000000) only [SA,SB,SD,R,SF,SG,SH,seval,TG,SE,SC,UTT,ZCT,RV,dynR,hfn,nchP,List.getElem?_concat_length,ss1,List.set_cons_zero,List.set_cons_succ,Bool.not_not,strP_eql,strP_neq]
 exact ⟨_,rfl⟩
theorem op_ver0 (dev:Int) (bx):callOp CC (callL CC) 17 [.sl [],.int .i64 dev] bx=some (.ret (.int .i64 0),bx):=by
 obtain ⟨b,h⟩:=call_ver0 dev
 exact callOp_of rfl rfl h rfl
def RwL (bx:List PBox):List PV->List Up->Prop
 | [],[]=>True
 | x :: xs,u :: us=>(∃ p,x=.agg [.int .i64 u.dv,.int .i64 u.st,.int .i64 u.vr,.int .i64 u.pv,.int .i64 u.sn,.rs p u.hv.length]∧bx[p]?=some (.cells 4 (bos u.hv)))∧RwL bx xs us
 | _,_=>False
theorem RwL.app {bx:List PBox} (ex:List PBox):∀ {xs:List PV} {us:List Up},RwL bx xs us->RwL (bx++ex) xs us
 | [],[],_=>trivial
 | x :: xs,u :: us,h=>⟨by obtain ⟨p,h1,h2⟩:=h.1;exact ⟨p,h1,get_apps h2 ex⟩,RwL.app ex h.2⟩
 | [],_ :: _,h=>h.elim
 | _ :: _,[],h=>h.elim
theorem RwL.snoc {bx:List PBox} {x:PV} {u:Up} (hx:∃ p,x=.agg [.int .i64 u.dv,.int .i64 u.st,.int .i64 u.vr,.int .i64 u.pv,.int .i64 u.sn,.rs p u.hv.length]∧bx[p]?=some (.cells 4 (bos u.hv))):∀ {xs:List PV} {us:List Up},RwL bx xs us->RwL bx (xs++[x]) (us++[u])
 | [],[],_=>⟨hx,trivial⟩
 | y :: xs,v :: us,h=>⟨h.1,RwL.snoc hx h.2⟩
 | [],_ :: _,h=>h.elim
 | _ :: _,[],h=>h.elim
theorem RwL.thaw {bx:List PBox}:∀ {xs:List PV} {us:List Up},RwL bx xs us->xs.map (thawP CC bx 0 2)=ups us
 | [],[],_=>rfl
 | x :: xs,u :: us,h=>by
  obtain ⟨p,rfl,h2⟩:=h.1
  rw [List.map_cons,RwL.thaw h.2]
  show PV.agg [.int .i64 u.dv,.int .i64 u.st,.int .i64 u.vr,.int .i64 u.pv,.int .i64 u.sn,thawP CC bx 0 1 (.rs p u.hv.length)] :: ups us=_
  rw [thaw_bo (Nat.zero_le _) h2]
  rfl
 | [],_ :: _,h=>h.elim
 | _ :: _,[],h=>h.elim
def newL (f:Fw) (ds:List Dv):List Up:=(ds.filter fun d=>d.vn == f.vn).map fun d=>⟨d.id,0,0,0,0,List.replicate f.sums.length false⟩
def PNl (us:List Up) (res:Option (Ex×St)):Prop:=∃ e' bx' rws,res=some (.exit 0,⟨e',bx'⟩)∧getT e' 10=.osl 41 rws∧RwL bx' rws us
theorem PNl.of {ev:Code->St->Option (Ex×St)} {L:Code} {st:St} {us:List Up} {z:Option (Ex×St)} (hE:ev L st=z) (h:PNl us (ev L st)):PNl us z:=hE ▸ h
theorem okB_New:fnOKB CC Try.f5 (Try.f5.body.getD .skip)=true:=by kernel_rfl
theorem noB_New:fnOK CC Try.f5 (Try.f5.body.getD .skip)=false:=by kernel_rfl
theorem fat_New:CC.P.funcs[5]?=some Try.f5:=by kernel_rfl
theorem loop_New (L:Code) (hL:L=fpart Try.f5 [1,1,1,1,0,1,0]) (ds:List Dv) (hd:ds.length<=1000) (f:Fw) (hf:f.sums.length<=64):∀ (k i:Nat) (rws:List PV) (us:List Up) (e:List PV) (bx:List PBox),i+k=ds.length->rws.length<=i ->
 getT e 2=.sl []->getT e 4=.bp 1 0->getT e 10=.osl 41 rws->getT e 25=.sl (ds.map dvV)->getT e 26=.int .i64 ds.length->getT e 27=.int .i64 (i:Nat)->bx[1]?=some (.cells 28 [.int .i64 f.vn,.int .i64 f.vr,.sl (ints f.sums)])->RwL bx rws us->PNl (us++newL f (ds.drop i)) (evB CC L ⟨e,bx⟩):=by
 intro k
 induction k with
 | zero=>
  intro i rws us e bx hk hrl h2 h4 h10 h25 h26 h27 hb hrw
  rw [evB_at (fpart Try.f5 [1,1,1,1,0,1,0,0]) hL]
  have hi:¬ ((i:Int) < (ds.length:Int)):=by omega
  have hfin:∀ e',getT e' 10=.osl 41 rws->PNl (us++newL f (ds.drop i)) (some (.exit 0,⟨e',bx⟩)):=fun e' g=>⟨e',bx,rws,rfl,g,by rw [List.drop_eq_nil_of_le (by omega)];show RwL bx rws (us++[]);rw [List.append_nil];exact hrw⟩
  generalize ds.map dvV=xs at *
  obtain ⟨fa,fb,fv,hfn⟩:=FNs
  obtain ⟨dr,ev,eo,so,co,⟨hev,hco,heo,hdr⟩,R⟩:=RULESB CC
  rw [<- hev]
  simp only [fpart,part',Try.f5,Option.getD]
  simp (maxSteps:=5000000) only [SA,SB,SD,R,SF,SG,SH,seval,TG,SE,SC,UTT,ZCT,RV,dynR,hfn,nchP,List.getElem?_concat_length,ss1,List.set_cons_zero,List.set_cons_succ,Bool.not_not,strP_eql,strP_neq,h2,h4,h10,h25,h26,h27,hi]
  exact hfin _ (by simp (maxSteps:=5000000) only [SA,SB,SD,R,SF,seval,h10])
 | succ k ih=>
  intro i rws us e bx hk hrl h2 h4 h10 h25 h26 h27 hb hrw
  rw [evB_at (fpart Try.f5 [1,1,1,1,0,1,0,0]) hL]
  have hi:((i:Int) < (ds.length:Int)):=by omega
  have hi0:¬ ((i:Int) < 0):=by omega
  have hw:=wrap_i64 (n:=(i:Int)+1) ⟨by omega,by omega⟩
  have key:=fun rws us e bx=>ih (i+1) rws us e bx (by omega)
  have cast1:((i+1:Nat):Int)=(i:Int)+1:=by omega
  rw [cast1] at key
  have hx:=map_get (f:=dvV) (l:=ds) (i:=i) (x:=ds[i]'(by omega)) (List.getElem?_eq_getElem (by omega))
  have hdr:ds.drop i=(ds[i]'(by omega)) :: ds.drop (i+1):=List.drop_eq_getElem_cons (by omega)
  rw [hdr]
  generalize ds[i]'(by omega)=d at *
  generalize ds.drop (i+1)=rest at *
  have hver:=op_ver0 d.id
  have hb1:=get_app hb
  have hB:=hb1 (.cells 48 (dvV d).cells)
  have hdw:∀ e,getT e 4=.bp 1 0->getT e 10=.osl 41 rws->getT e 12=.bp bx.length 0->getT e 13=.int .i64 0->PNw (rws++[.agg [.int .i64 d.id,.int .i64 0,.int .i64 0,.int .i64 0,.int .i64 0,.rs (bx++[PBox.cells 48 (dvV d).cells]).length f.sums.length]]) (bx++[.cells 48 (dvV d).cells]++[.cells 4 (bos (List.replicate f.sums.length false))]) e (drawAll CC (callL CC) (opsOf (fpart Try.f5 [1,1,1,1,0,1,0,0,1,1,0,0,1,1,0,1])) ⟨e,bx++[.cells 48 (dvV d).cells]⟩):=fun e g4 g10 g12 g13=>draw_nw (dv:=d.id) (q:=bx.length) (l:=f.sums) (rest:=(dvV d).cells.tail) _ e (by omega) hf hB List.getElem?_concat_length g4 g10 g12 g13
  simp only [<- drawM_all no_nw] at hdw
  have hyes:d.vn=f.vn->us++newL f (d :: rest)=(us++[⟨d.id,0,0,0,0,List.replicate f.sums.length false⟩])++newL f rest:=fun h=>by
   unfold newL
   rw [List.filter_cons_of_pos (by simpa using h),List.map_cons,List.append_assoc]
   rfl
  have hno:¬ d.vn=f.vn->newL f (d :: rest)=newL f rest:=fun h=>by
   unfold newL
   rw [List.filter_cons_of_neg (by simpa using h)]
  have hrw2:RwL (bx++[.cells 48 (dvV d).cells]++[.cells 4 (bos (List.replicate f.sums.length false))]) (rws++[.agg [.int .i64 d.id,.int .i64 0,.int .i64 0,.int .i64 0,.int .i64 0,.rs (bx++[PBox.cells 48 (dvV d).cells]).length f.sums.length]]) (us++[⟨d.id,0,0,0,0,List.replicate f.sums.length false⟩]):=
   RwL.snoc (u:=⟨d.id,0,0,0,0,List.replicate f.sums.length false⟩) ⟨_,by simp only [List.length_replicate] <;> rfl,List.getElem?_concat_length⟩ ((hrw.app _).app _)
  have hrw1:RwL (bx++[.cells 48 (dvV d).cells]) rws us:=hrw.app _
  have hl1:rws.length<=i+1:=by omega
  have hl2:(rws++[PV.agg [.int .i64 d.id,.int .i64 0,.int .i64 0,.int .i64 0,.int .i64 0,.rs (bx++[PBox.cells 48 (dvV d).cells]).length f.sums.length]]).length<=i+1:=by rw [List.length_append];simp <;> omega
  clear ih
  obtain ⟨id,eui,vn,sl,pl,rm,cl⟩:=d
  obtain ⟨fvn,fvr,fs⟩:=f
  unfold dvV at *
  simp only [show ∀ cs,(PV.agg cs).cells=cs from fun _=>rfl] at *
  generalize List.map _ ds=xs at *
  generalize strs cl=ys at *
  generalize bos (List.replicate fs.length false)=row at *
  generalize ints fs=zs at *
  obtain ⟨fa,fb,fv,hfn⟩:=FNs
  by_cases c0:vn=fvn
  · rw [hyes c0]
    have c1:(vn == fvn)=true:=by simp [c0]
    obtain ⟨dr,ev,eo,so,co,⟨hev,hco,heo,hdr⟩,R⟩:=RULESB CC
    rw [<- hev]
    rw [<- hdr] at hdw
    rw [<- hco] at hver
    rw [<- hev] at key
    simp only [opsOf,fpart,part',Try.f5,Option.getD] at hdw ⊢
    simp (maxSteps:=5000000) only [SA,SB,SD,R,SF,SG,SH,seval,TG,SE,SC,UTT,ZCT,RV,dynR,hfn,nchP,List.getElem?_concat_length,ss1,List.set_cons_zero,List.set_cons_succ,Bool.not_not,strP_eql,strP_neq,h2,h4,h10,h25,h26,h27,hi,hi0,hx,hb,hb1,hver,c1]
    generalize hE:dr _ _=z
    obtain ⟨e',he,g10,gk⟩:=PNw.of hE (hdw _ (by simp (maxSteps:=5000000) only [SA,SB,SD,R,SF,seval,h4]) (by simp (maxSteps:=5000000) only [SA,SB,SD,R,SF,seval,h10]) (by simp (maxSteps:=5000000) only [SA,SB,SD,R,SF,seval] <;> rfl) (by simp (maxSteps:=5000000) only [SA,SB,SD,R,SF,seval] <;> rfl))
    have g2:=gk 2 (by decide) (by decide)
    have g4:=gk 4 (by decide) (by decide)
    have g25:=gk 25 (by decide) (by decide)
    have g26:=gk 26 (by decide) (by decide)
    have g27:=gk 27 (by decide) (by decide)
    simp (maxSteps:=5000000) only [SA,SB,SD,R,SF,seval,h2,h4,h25,h26,h27] at g2 g4 g25 g26 g27
    subst he
    clear hdw hE gk
    simp (maxSteps:=5000000) only [SA,SB,SD,R,SF,SG,SH,seval,TG,SE,SC,UTT,ZCT,RV,dynR,hfn,nchP,List.getElem?_concat_length,ss1,List.set_cons_zero,List.set_cons_succ,Bool.not_not,strP_eql,strP_neq,g2,g4,g10,g25,g26,g27,hw]
    refine key _ _ _ _ hl2 ?_ ?_ ?_ ?_ ?_ ?_ (get_app (hb1 _) _) hrw2
    all_goals simp (maxSteps:=5000000) only [SA,SB,SD,R,SF,seval,g2,g4,g10,g25,g26]
  · rw [hno c0]
    have c1:(vn == fvn)=false:=by simpa using c0
    obtain ⟨dr,ev,eo,so,co,⟨hev,hco,heo,hdr⟩,R⟩:=RULESB CC
    rw [<- hev]
    rw [<- hev] at key
    simp only [opsOf,fpart,part',Try.f5,Option.getD]
    simp (maxSteps:=5000000) only [SA,SB,SD,R,SF,SG,SH,seval,TG,SE,SC,UTT,ZCT,RV,dynR,hfn,nchP,List.getElem?_concat_length,ss1,List.set_cons_zero,List.set_cons_succ,Bool.not_not,strP_eql,strP_neq,h2,h4,h10,h25,h26,h27,hi,hi0,hx,hb,hb1,c1,hw]
    refine key _ _ _ _ hl1 ?_ ?_ ?_ ?_ ?_ ?_ (hb1 _) hrw1
    all_goals simp (maxSteps:=5000000) only [SA,SB,SD,R,SF,seval,h2,h4,h10,h25,h26]
noncomputable def dcK (h:Hm) (hh:okHm h):Int:=(op_device_Check h hh).choose
theorem op_dcK (h:Hm) (hh:okHm h) (bx):callOp CC (callL CC) 15 [hmV h] bx=some (.ret (.int .i64 (dcK h hh)),bx):=(op_device_Check h hh).choose_spec bx
theorem endQ_pure {p:PV} {bx:List PBox} (h:p.pure=true):endQ CC 0 (some (.ret p,bx))=some (.ret p,[]):=by
 unfold endQ
 simp only [thaw_pure bx 0 4 p h]
 rw [if_pos (by rw [under_pure _ _ h];simp)]
 simp
noncomputable def newF (h:Hm) (hh:okHm h) (f:Fw):List Up×Int:=if dcK h hh≠0 then ([],dcK h hh) else if ckF f≠0 then ([],ckF f) else (newL f h.dvs,0)
theorem call_New (h:Hm) (hh:okHm h) (hd:h.dvs.length<=1000) (f:Fw):∃ bx,callL CC 5 [hmV h,fwV f,.sl []] []=some (.ret (.tup [.sl (ups (newF h hh f).1),.int .i64 (newF h hh f).2]),bx):=by
 rw [callL_enterTB (fn:=Try.f5) (c:=Try.f5.body.getD .skip) rfl rfl fat_New rfl noB_New okB_New (Nat.le_of_ble_eq_true rfl)]
 have hdc:=op_dcK h hh
 have hck:=op_fwCheck f
 have hok:=fun h=>(@ckF_ok f h).2.2
 have hloop:=fun hf e bx=>loop_New _ rfl h.dvs hd f hf h.dvs.length 0 [] [] e bx (by omega) (Nat.zero_le _)
 rw [List.drop_zero,List.nil_append] at hloop
 have hpu:=hmV_pure h
 have hll:(h.dvs.map dvV).length=h.dvs.length:=List.length_map _
 have hsi:pureL (ints f.sums)=true:=pureL_ints f.sums
 unfold newF
 generalize dcK h hh=n at *
 generalize ckF f=c at *
 obtain ⟨cls,dvs⟩:=h
 simp only at hloop hll
 unfold hmV at *
 simp only at hdc hpu ⊢
 have hq1:=clvs_pure cls
 have hq2:=dvs_pure dvs
 generalize cls.map clV=xs at *
 generalize dvs.map dvV=ys at *
 obtain ⟨fa,fb,fv,hfn⟩:=FNs
 by_cases n0:n=0
 · have n1:(n != 0)=false:=by simp [n0]
   rw [if_neg (fun h=>h n0)]
   by_cases c0:c=0
   · have c1:(c != 0)=false:=by simp [c0]
     rw [if_neg (fun h=>h c0)]
     have hloop:=hloop (hok c0)
     generalize newL f dvs=us at *
     unfold fwV at *
     generalize ints f.sums=zs at *
     obtain ⟨dr,ev,eo,so,co,⟨hev,hco,heo,hdr⟩,R⟩:=RULESB CC
     rw [<- hev]
     rw [<- hco] at hdc hck
     rw [<- hev] at hloop
     simp only [fpart,part',Try.f5,Option.getD] at hloop ⊢
     simp (maxSteps:=5000000) only [SA,SB,SD,R,SF,SG,SH,seval,TG,SE,SC,UTT,ZCT,RV,dynR,hfn,nchP,List.getElem?_concat_length,ss1,List.set_cons_zero,List.set_cons_succ,Bool.not_not,strP_eql,strP_neq,hdc,hck,hq1,hq2,hsi,n1,c1,hll]
     generalize hE:ev _ _=z
     obtain ⟨e',bx',rws,he,g10,hrw⟩:=PNl.of hE (hloop _ _ (by simp (maxSteps:=5000000) only [SA,SB,SD,R,SF,seval] <;> rfl) (by simp (maxSteps:=5000000) only [SA,SB,SD,R,SF,seval] <;> rfl) (by simp (maxSteps:=5000000) only [SA,SB,SD,R,SF,seval] <;> rfl) (by simp (maxSteps:=5000000) only [SA,SB,SD,R,SF,seval] <;> rfl) (by simp (maxSteps:=5000000) only [SA,SB,SD,R,SF,seval] <;> rfl) (by simp (maxSteps:=5000000) only [SA,SB,SD,R,SF,seval] <;> rfl) rfl trivial)
     subst he
     clear hloop hE
     simp (maxSteps:=5000000) only [SA,SB,SD,R,SF,SG,SH,seval,TG,SE,SC,UTT,ZCT,RV,dynR,hfn,nchP,List.getElem?_concat_length,ss1,List.set_cons_zero,List.set_cons_succ,Bool.not_not,strP_eql,strP_neq,g10]
     have hth:thawP CC bx' 0 4 (.tup [.sl rws,.int .i64 0])=.tup [.sl (ups us),.int .i64 0]:=by
      show PV.tup [.sl (rws.map (thawP CC bx' 0 2)),.int .i64 0]=_
      rw [hrw.thaw]
     unfold endQ
     simp only [hth]
     rw [if_pos (by rw [under_pure _ _ (show (PV.tup [.sl (ups us),.int .i64 0]).pure=true by simp only [PV.pure,pureL,ups_pure,Bool.and_self])];simp)]
     exact ⟨_,rfl⟩
   · have c1:(c != 0)=true:=by simpa using c0
     rw [if_pos c0]
     unfold fwV at *
     generalize ints f.sums=zs at *
     obtain ⟨dr,ev,eo,so,co,⟨hev,hco,heo,hdr⟩,R⟩:=RULESB CC
     rw [<- hev]
     rw [<- hco] at hdc hck
     simp only [opsOf,fpart,part',Try.f5,Option.getD] at ⊢
     simp (maxSteps:=5000000) only [SA,SB,SD,R,SF,SG,SH,seval,TG,SE,SC,UTT,ZCT,RV,dynR,hfn,nchP,List.getElem?_concat_length,ss1,List.set_cons_zero,List.set_cons_succ,Bool.not_not,strP_eql,strP_neq,hdc,hck,hq1,hq2,hsi,n1,c1]
     rw [endQ_pure rfl]
     exact ⟨_,rfl⟩
 · have n1:(n != 0)=true:=by simpa using n0
   rw [if_pos n0]
   unfold fwV at *
   generalize ints f.sums=zs at *
   obtain ⟨dr,ev,eo,so,co,⟨hev,hco,heo,hdr⟩,R⟩:=RULESB CC
   rw [<- hev]
   rw [<- hco] at hdc
   simp only [opsOf,fpart,part',Try.f5,Option.getD] at ⊢
   simp (maxSteps:=5000000) only [SA,SB,SD,R,SF,SG,SH,seval,TG,SE,SC,UTT,ZCT,RV,dynR,hfn,nchP,List.getElem?_concat_length,ss1,List.set_cons_zero,List.set_cons_succ,Bool.not_not,strP_eql,strP_neq,hdc,hq1,hq2,hsi,n1]
   rw [endQ_pure rfl]
   exact ⟨_,rfl⟩
theorem op_New (h:Hm) (hh:okHm h) (hd:h.dvs.length<=1000) (f:Fw) (bx):callOp CC (callL CC) 5 [hmV h,fwV f,.sl []] bx=some (.ret (.tup [.sl (ups (newF h hh f).1),.int .i64 (newF h hh f).2]),bx):=by
 obtain ⟨b,h2⟩:=call_New h hh hd f
 exact callOp_of rfl (by simp only [SA,hmV_pure,fwV_pure,Bool.and_true]) h2 (by simp only [PV.pure,pureL,ups_pure,Bool.and_self])
end Go.HH
namespace Go.HH
open Go Go.Proofs
set_option maxRecDepth 100000
set_option maxHeartbeats 4000000
set_option linter.unusedSimpArgs false
set_option linter.unusedVariables false
theorem ok_homehubtop_TopUpdates:fnOK CC Try.f3 (Try.f3.body.getD .skip)=true:=by kernel_rfl
theorem fat_homehubtop_TopUpdates:CC.P.funcs[3]?=some Try.f3:=by kernel_rfl
structure Inv (f:Fw) (l:List Up):Prop where
 hv:HvI l
 idle:∀ (i:Nat) (u:Up),l[i]?=some u->u.st=0->u.vr=0
 bad:∀ (i:Nat) (u:Up),l[i]?=some u->u.st=5->u.vr=u.pv
 waves:∀ (i:Nat) (u:Up),l[i]?=some u->u.st≠0->∀ (j:Nat) (v:Up),l[j]?=some v->wv j < wv i->v.st=4
theorem hv_of {l:List Up} (h:∀ (i:Nat) (u:Up),l[i]?=some u->1<=u.hv.length∧u.hv.length<=64):HvI l:=fun u hu=>by
 obtain ⟨i,hi,hx⟩:=List.getElem_of_mem hu
 exact h i u (by rw [List.getElem?_eq_getElem hi,hx])
theorem HvI.at {l:List Up} (h:HvI l) (i:Nat) (u:Up) (hu:l[i]?=some u):1<=u.hv.length∧u.hv.length<=64:=h u (List.mem_of_getElem? hu)
theorem get_back {l cur:List Up} (h:cur.length=l.length) {i:Nat} {u':Up} (hu:cur[i]?=some u'):∃ u,l[i]?=some u:=by
 have:=(List.getElem?_eq_some_iff.1 hu).1
 exact ⟨l[i]'(by omega),List.getElem?_eq_getElem (by omega)⟩
theorem next_len {l cur:List Up} {f:Fw} (h:NxR l f cur):cur.length=l.length:=by
 rcases h with (rfl | ⟨_,j,_,_,h⟩) | h
 · rfl
 · exact h.1
 · exact h.1
theorem next_inv {l cur:List Up} {f:Fw} (hf:1<=f.vr) (hi:Inv f l) (h:NxR l f cur):Inv f cur:=by
 rcases h with (rfl | ⟨_,j0,hj0,hcp,hs⟩) | h
 · exact hi
 · have back:∀ (i:Nat) (u':Up),cur[i]?=some u'->∃ u,l[i]?=some u∧(u'=u∨(u.st=0∧(wv i:Int)=(wv j0:Nat)∧u'.st=1∧u'.vr=u.vr∧u'.hv=u.hv)):=fun i u' hu'=>by
    obtain ⟨u,hu⟩:=get_back hs.1 hu'
    obtain ⟨u2,h2,hr⟩:=hs.2 i u hu
    rw [hu'] at h2
    injection h2 with h2
    subst h2
    exact ⟨u,hu,hr⟩
   refine ⟨hv_of fun i u' hu'=>?_,fun i u' hu' h0=>?_,fun i u' hu' h5=>?_,fun i u' hu' h0 j v' hv' hw=>?_⟩
   · obtain ⟨u,hu,rfl | ⟨_,_,_,_,hh⟩⟩:=back i u' hu'
     · exact hi.hv.at i _ hu
     · rw [hh];exact hi.hv.at i u hu
   · obtain ⟨u,hu,rfl | ⟨_,_,h1,_,_⟩⟩:=back i u' hu'
     · exact hi.idle i _ hu h0
     · rw [h0] at h1;cases h1
   · obtain ⟨u,hu,rfl | ⟨_,_,h1,_,_⟩⟩:=back i u' hu'
     · exact hi.bad i _ hu h5
     · rw [h5] at h1;cases h1
   · obtain ⟨v,hv,hvr⟩:=back j v' hv'
     have h4:v.st=4:=by
      obtain ⟨u,hu,rfl | ⟨_,hwi,_,_,_⟩⟩:=back i u' hu'
      · exact hi.waves i _ hu h0 j v hv hw
      · have hlt:j < j0:=by
         rcases Nat.lt_or_ge j j0 with h | h
         · exact h
         · have:=wv_mono h;omega
        have hjl:=(List.getElem?_eq_some_iff.1 hv).1
        have hc:=hcp j hjl hlt
        have hvj:l[j]=v:=(List.getElem?_eq_some_iff.1 hv).2
        rw [hvj] at hc
        unfold cpB at hc
        rw [Bool.or_eq_true,Bool.and_eq_true,beq_iff_eq,beq_iff_eq,beq_iff_eq] at hc
        rcases hc with hc | ⟨q0,q1⟩
        · exact hc
        · have:=hi.idle j v hv q0;omega
     rcases hvr with rfl | ⟨q0,_⟩
     · exact h4
     · rw [h4] at q0;cases q0
 · have back:∀ (i:Nat) (u':Up),cur[i]?=some u'->∃ u,l[i]?=some u∧(u'=u∨(u.st≠0∧u.st≠4∧u.st≠5∧u'.st≠0∧(u'.st=5->u'.vr=u'.pv)∧hvOK u u')):=fun i u' hu'=>by
    obtain ⟨u,hu⟩:=get_back h.1 hu'
    obtain ⟨u2,h2,hr⟩:=h.2 i u hu
    rw [hu'] at h2
    injection h2 with h2
    subst h2
    exact ⟨u,hu,hr⟩
   refine ⟨h.hv hi.hv,fun i u' hu' h0=>?_,fun i u' hu' h5=>?_,fun i u' hu' h0 j v' hv' hw=>?_⟩
   · obtain ⟨u,hu,rfl | ⟨_,_,_,h1,_⟩⟩:=back i u' hu'
     · exact hi.idle i _ hu h0
     · exact absurd h0 h1
   · obtain ⟨u,hu,rfl | ⟨_,_,_,_,h1,_⟩⟩:=back i u' hu'
     · exact hi.bad i _ hu h5
     · exact h1 h5
   · obtain ⟨v,hv,hvr⟩:=back j v' hv'
     have h4:v.st=4:=by
      obtain ⟨u,hu,rfl | ⟨h1,_⟩⟩:=back i u' hu'
      · exact hi.waves i _ hu h0 j v hv hw
      · exact hi.waves i u hu h1 j v hv hw
     rcases hvr with rfl | ⟨_,q4,_⟩
     · exact h4
     · exact absurd h4 q4
theorem next_stop {l cur:List Up} {f:Fw} (h:NxR l f cur) (hs:stopB l=true) (i:Nat) (u u':Up) (hu:l[i]?=some u) (hu':cur[i]?=some u') (h0:u.st=0):u'.st=0:=by
 rcases h with (rfl | ⟨hs',_⟩) | h
 · rw [hu] at hu';injection hu' with hu';subst hu';exact h0
 · rw [hs] at hs';cases hs'
 · obtain ⟨u2,h2,hr⟩:=h.2 i u hu
   rw [hu'] at h2
   injection h2 with h2
   subst h2
   rcases hr with rfl | ⟨q0,_⟩
   · exact h0
   · exact absurd h0 q0
theorem new_inv (f:Fw) (ds:List Dv) (hc:ckF f=0):Inv f (newL f ds):=by
 obtain ⟨_,h1,h64⟩:=ckF_ok hc
 have hx:∀ (i:Nat) (u:Up),(newL f ds)[i]?=some u->u.st=0∧u.vr=0∧u.hv.length=f.sums.length:=fun i u hu=>by
  have:=List.mem_of_getElem? hu
  unfold newL at this
  obtain ⟨d,_,rfl⟩:=List.mem_map.1 this
  exact ⟨rfl,rfl,List.length_replicate⟩
 exact ⟨hv_of (fun i u hu=>by have:=(hx i u hu).2.2;omega),fun i u hu _=>(hx i u hu).2.1,fun i u hu h=>(by rw [(hx i u hu).1] at h;cases h),fun i u hu h=>absurd (hx i u hu).1 h⟩
def PTi (bx:List PBox) (keep:List Nat) (e:List PV) (j:Nat) (res:Option (Ex×St)):Prop:=∃ e',res=some (.exit j,⟨e',bx⟩)∧∀ t ∈ keep,getT e' t=getT e t
theorem PTi.of {ev:Code->St->Option (Ex×St)} {L:Code} {st:St} {bx:List PBox} {keep:List Nat} {e:List PV} {j:Nat} {z:Option (Ex×St)} (hE:ev L st=z) (h:PTi bx keep e j (ev L st)):PTi bx keep e j z:=hE ▸ h
theorem PTi.env {bx:List PBox} {keep:List Nat} {e e2:List PV} {j:Nat} {res:Option (Ex×St)} (hk:∀ t ∈ keep,getT e2 t=getT e t) (h:PTi bx keep e2 j res):PTi bx keep e j res:=by
 obtain ⟨e',h1,h2⟩:=h
 exact ⟨e',h1,fun t ht=>(h2 t ht).trans (hk t ht)⟩
theorem loop_ti (L:Code) (hL:L=fpart Try.f3 [1,1,1,1,1,0,1,0,0,1,0,0,1,1,1,1,0,1,0]) (us cur:List Up) (hl:cur.length<=1000) (hlc:us.length=cur.length) (s:Bool) (hs:s=true->∀ (i:Nat) (u c:Up),us[i]?=some u->cur[i]?=some c->u.st=0->c.st=0)
 (h5:∀ (i:Nat) (c:Up),cur[i]?=some c->c.st=5->c.vr=c.pv) (hwv:∀ (i:Nat) (u:Up),cur[i]?=some u->u.st≠0->∀ (j:Nat) (v:Up),cur[j]?=some v->wv j < wv i->v.st=4) (bx:List PBox):∀ (k i:Nat) (e:List PV),i+k=cur.length ->
 getT e 7=.sl (ups us)->getT e 11=.bool s->getT e 12=.sl (ups cur)->getT e 13=.int .i64 (i:Nat)->PTi bx [2,4,9,10,12] e 2 (evL CC L ⟨e,bx⟩):=by
 intro k
 induction k with
 | zero=>
  intro i e hk h7 h11 h12 h13
  rw [evL_at (fpart Try.f3 [1,1,1,1,1,0,1,0,0,1,0,0,1,1,1,1,0,1,0,0]) hL]
  have hi:¬ ((i:Int) < (cur.length:Int)):=by omega
  have hln:=ups_length cur
  generalize ups cur=xs at *
  obtain ⟨fa,fb,fv,hfn⟩:=FNs
  obtain ⟨ev,eo,so,co,⟨hev,hco⟩,R⟩:=RULES CC;rw [<- hev]
  simp only [fpart,part',Try.f3,Option.getD]
  simp (maxSteps:=5000000) only [SA,SB,SD,R,SF,SG,SH,seval,TG,SE,SC,UTT,ZCT,RV,dynR,hfn,nchP,List.getElem?_concat_length,ss1,List.set_cons_zero,List.set_cons_succ,Bool.not_not,strP_eql,strP_neq,h7,h11,h12,h13,hi,hln]
  exact ⟨_,rfl,(by intro t ht;simp only [List.mem_cons,List.not_mem_nil,or_false] at ht;(repeat' (first | rcases ht with rfl | ht)) <;> (try subst ht) <;> simp (maxSteps:=5000000) only [SA,SB,SD,R,SF,seval])⟩
 | succ k ih=>
  intro i e hk h7 h11 h12 h13
  rw [evL_at (fpart Try.f3 [1,1,1,1,1,0,1,0,0,1,0,0,1,1,1,1,0,1,0,0]) hL]
  have hi:((i:Int) < (cur.length:Int)):=by omega
  have hi0:¬ ((i:Int) < 0):=by omega
  have hw:=wrap_i64 (n:=(i:Int)+1) ⟨by omega,by omega⟩
  have key:=fun e=>ih (i+1) e (by omega)
  have cast1:((i+1:Nat):Int)=(i:Int)+1:=by omega
  rw [cast1] at key
  have hu:us[i]?=some (us[i]'(by omega)):=List.getElem?_eq_getElem (by omega)
  have hc:cur[i]?=some (cur[i]'(by omega)):=List.getElem?_eq_getElem (by omega)
  have hxu:=ups_get hu
  have hxc:=ups_get hc
  generalize us[i]'(by omega)=u at *
  generalize cur[i]'(by omega)=c at *
  have f1:s=true->u.st=0->c.st=0:=fun g=>hs g i u c hu hc
  have f2:=h5 i c hc
  have hea:c.st≠0->∀ bx,callOp CC (callL CC) 8 [.sl (ups cur),.int .i64 (i:Nat)] bx=some (.ret (.bool true),bx):=fun g=>op_earlier cur hl i (by omega) (fun j v hv hw=>hwv i c hc g j v hv hw)
  have hln:=ups_length cur
  have hsp:=ups_pure cur
  clear ih hs h5 hwv
  obtain ⟨udv,ust,uvr,upv,usn,uhv⟩:=u
  obtain ⟨cdv,cst,cvr,cpv,csn,chv⟩:=c
  unfold upV upC at hxu hxc
  simp only at hxu hxc f1 f2 hea
  generalize bos uhv=ys1 at *
  generalize bos chv=ys2 at *
  generalize ups us=xs1 at *
  generalize ups cur=xs2 at *
  obtain ⟨fa,fb,fv,hfn⟩:=FNs
  cases s with
  | false=>
   by_cases q0:cst=0
   · subst q0
     obtain ⟨ev,eo,so,co,⟨hev,hco⟩,R⟩:=RULES CC;rw [<- hev]
     rw [<- hev] at key
     simp only [fpart,part',Try.f3,Option.getD]
     simp (maxSteps:=5000000) only [SA,SB,SD,R,SF,SG,SH,seval,TG,SE,SC,UTT,ZCT,RV,dynR,hfn,nchP,List.getElem?_concat_length,ss1,List.set_cons_zero,List.set_cons_succ,Bool.not_not,strP_eql,strP_neq,h7,h11,h12,h13,hi,hi0,hw,hln,hsp,hxu,hxc]
     refine PTi.env (by intro t ht;simp only [List.mem_cons,List.not_mem_nil,or_false] at ht;(repeat' (first | rcases ht with rfl | ht)) <;> (try subst ht) <;> simp (maxSteps:=5000000) only [SA,SB,SD,R,SF,seval]) (key _ ?_ ?_ ?_ ?_)
     · simp (maxSteps:=5000000) only [SA,SB,SD,R,SF,seval,h7]
     · simp (maxSteps:=5000000) only [SA,SB,SD,R,SF,seval,h11]
     · simp (maxSteps:=5000000) only [SA,SB,SD,R,SF,seval,h12]
     · simp (maxSteps:=5000000) only [SA,SB,SD,R,SF,seval]
   · have q1:(cst != 0)=true:=by simpa using q0
     have hea:=hea q0
     by_cases r0:cst=5
     · have s1:(cvr != cpv)=false:=by simp [f2 r0]
       subst r0
       obtain ⟨ev,eo,so,co,⟨hev,hco⟩,R⟩:=RULES CC;rw [<- hev]
       rw [<- hco] at hea
       rw [<- hev] at key
       simp only [fpart,part',Try.f3,Option.getD]
       simp (maxSteps:=5000000) only [SA,SB,SD,R,SF,SG,SH,seval,TG,SE,SC,UTT,ZCT,RV,dynR,hfn,nchP,List.getElem?_concat_length,ss1,List.set_cons_zero,List.set_cons_succ,Bool.not_not,strP_eql,strP_neq,h7,h11,h12,h13,hi,hi0,hw,hln,hsp,hxu,hxc,s1,hea]
       refine PTi.env (by intro t ht;simp only [List.mem_cons,List.not_mem_nil,or_false] at ht;(repeat' (first | rcases ht with rfl | ht)) <;> (try subst ht) <;> simp (maxSteps:=5000000) only [SA,SB,SD,R,SF,seval]) (key _ ?_ ?_ ?_ ?_)
       · simp (maxSteps:=5000000) only [SA,SB,SD,R,SF,seval,h7]
       · simp (maxSteps:=5000000) only [SA,SB,SD,R,SF,seval,h11]
       · simp (maxSteps:=5000000) only [SA,SB,SD,R,SF,seval,h12]
       · simp (maxSteps:=5000000) only [SA,SB,SD,R,SF,seval]
     · have r1:(cst == 5)=false:=by simpa using r0
       obtain ⟨ev,eo,so,co,⟨hev,hco⟩,R⟩:=RULES CC;rw [<- hev]
       rw [<- hco] at hea
       rw [<- hev] at key
       simp only [fpart,part',Try.f3,Option.getD]
       simp (maxSteps:=5000000) only [SA,SB,SD,R,SF,SG,SH,seval,TG,SE,SC,UTT,ZCT,RV,dynR,hfn,nchP,List.getElem?_concat_length,ss1,List.set_cons_zero,List.set_cons_succ,Bool.not_not,strP_eql,strP_neq,h7,h11,h12,h13,hi,hi0,hw,hln,hsp,hxu,hxc,q1,r1,hea]
       refine PTi.env (by intro t ht;simp only [List.mem_cons,List.not_mem_nil,or_false] at ht;(repeat' (first | rcases ht with rfl | ht)) <;> (try subst ht) <;> simp (maxSteps:=5000000) only [SA,SB,SD,R,SF,seval]) (key _ ?_ ?_ ?_ ?_)
       · simp (maxSteps:=5000000) only [SA,SB,SD,R,SF,seval,h7]
       · simp (maxSteps:=5000000) only [SA,SB,SD,R,SF,seval,h11]
       · simp (maxSteps:=5000000) only [SA,SB,SD,R,SF,seval,h12]
       · simp (maxSteps:=5000000) only [SA,SB,SD,R,SF,seval]
  | true=>
   by_cases u0:ust=0
   · have u1:(ust == 0)=true:=by simp [u0]
     have q0:=f1 rfl u0
     subst q0
     obtain ⟨ev,eo,so,co,⟨hev,hco⟩,R⟩:=RULES CC;rw [<- hev]
     rw [<- hev] at key
     simp only [fpart,part',Try.f3,Option.getD]
     simp (maxSteps:=5000000) only [SA,SB,SD,R,SF,SG,SH,seval,TG,SE,SC,UTT,ZCT,RV,dynR,hfn,nchP,List.getElem?_concat_length,ss1,List.set_cons_zero,List.set_cons_succ,Bool.not_not,strP_eql,strP_neq,h7,h11,h12,h13,hi,hi0,hw,hln,hsp,hxu,hxc,u1]
     refine PTi.env (by intro t ht;simp only [List.mem_cons,List.not_mem_nil,or_false] at ht;(repeat' (first | rcases ht with rfl | ht)) <;> (try subst ht) <;> simp (maxSteps:=5000000) only [SA,SB,SD,R,SF,seval]) (key _ ?_ ?_ ?_ ?_)
     · simp (maxSteps:=5000000) only [SA,SB,SD,R,SF,seval,h7]
     · simp (maxSteps:=5000000) only [SA,SB,SD,R,SF,seval,h11]
     · simp (maxSteps:=5000000) only [SA,SB,SD,R,SF,seval,h12]
     · simp (maxSteps:=5000000) only [SA,SB,SD,R,SF,seval]
   · have u1:(ust == 0)=false:=by simpa using u0
     by_cases q0:cst=0
     · subst q0
       obtain ⟨ev,eo,so,co,⟨hev,hco⟩,R⟩:=RULES CC;rw [<- hev]
       rw [<- hev] at key
       simp only [fpart,part',Try.f3,Option.getD]
       simp (maxSteps:=5000000) only [SA,SB,SD,R,SF,SG,SH,seval,TG,SE,SC,UTT,ZCT,RV,dynR,hfn,nchP,List.getElem?_concat_length,ss1,List.set_cons_zero,List.set_cons_succ,Bool.not_not,strP_eql,strP_neq,h7,h11,h12,h13,hi,hi0,hw,hln,hsp,hxu,hxc,u1]
       refine PTi.env (by intro t ht;simp only [List.mem_cons,List.not_mem_nil,or_false] at ht;(repeat' (first | rcases ht with rfl | ht)) <;> (try subst ht) <;> simp (maxSteps:=5000000) only [SA,SB,SD,R,SF,seval]) (key _ ?_ ?_ ?_ ?_)
       · simp (maxSteps:=5000000) only [SA,SB,SD,R,SF,seval,h7]
       · simp (maxSteps:=5000000) only [SA,SB,SD,R,SF,seval,h11]
       · simp (maxSteps:=5000000) only [SA,SB,SD,R,SF,seval,h12]
       · simp (maxSteps:=5000000) only [SA,SB,SD,R,SF,seval]
     · have q1:(cst != 0)=true:=by simpa using q0
       have hea:=hea q0
       by_cases r0:cst=5
       · have s1:(cvr != cpv)=false:=by simp [f2 r0]
         subst r0
         obtain ⟨ev,eo,so,co,⟨hev,hco⟩,R⟩:=RULES CC;rw [<- hev]
         rw [<- hco] at hea
         rw [<- hev] at key
         simp only [fpart,part',Try.f3,Option.getD]
         simp (maxSteps:=5000000) only [SA,SB,SD,R,SF,SG,SH,seval,TG,SE,SC,UTT,ZCT,RV,dynR,hfn,nchP,List.getElem?_concat_length,ss1,List.set_cons_zero,List.set_cons_succ,Bool.not_not,strP_eql,strP_neq,h7,h11,h12,h13,hi,hi0,hw,hln,hsp,hxu,hxc,u1,s1,hea]
         refine PTi.env (by intro t ht;simp only [List.mem_cons,List.not_mem_nil,or_false] at ht;(repeat' (first | rcases ht with rfl | ht)) <;> (try subst ht) <;> simp (maxSteps:=5000000) only [SA,SB,SD,R,SF,seval]) (key _ ?_ ?_ ?_ ?_)
         · simp (maxSteps:=5000000) only [SA,SB,SD,R,SF,seval,h7]
         · simp (maxSteps:=5000000) only [SA,SB,SD,R,SF,seval,h11]
         · simp (maxSteps:=5000000) only [SA,SB,SD,R,SF,seval,h12]
         · simp (maxSteps:=5000000) only [SA,SB,SD,R,SF,seval]
       · have r1:(cst == 5)=false:=by simpa using r0
         obtain ⟨ev,eo,so,co,⟨hev,hco⟩,R⟩:=RULES CC;rw [<- hev]
         rw [<- hco] at hea
         rw [<- hev] at key
         simp only [fpart,part',Try.f3,Option.getD]
         simp (maxSteps:=5000000) only [SA,SB,SD,R,SF,SG,SH,seval,TG,SE,SC,UTT,ZCT,RV,dynR,hfn,nchP,List.getElem?_concat_length,ss1,List.set_cons_zero,List.set_cons_succ,Bool.not_not,strP_eql,strP_neq,h7,h11,h12,h13,hi,hi0,hw,hln,hsp,hxu,hxc,u1,q1,r1,hea]
         refine PTi.env (by intro t ht;simp only [List.mem_cons,List.not_mem_nil,or_false] at ht;(repeat' (first | rcases ht with rfl | ht)) <;> (try subst ht) <;> simp (maxSteps:=5000000) only [SA,SB,SD,R,SF,seval]) (key _ ?_ ?_ ?_ ?_)
         · simp (maxSteps:=5000000) only [SA,SB,SD,R,SF,seval,h7]
         · simp (maxSteps:=5000000) only [SA,SB,SD,R,SF,seval,h11]
         · simp (maxSteps:=5000000) only [SA,SB,SD,R,SF,seval,h12]
         · simp (maxSteps:=5000000) only [SA,SB,SD,R,SF,seval]
end Go.HH
