/-
  What the law needs, packed: SP Shelf BB HB C1 L0P.
-/
import Derived.Shelf.Strings.Builder1
import Derived.Shelf.Small.Strs
import Derived.Shelf.Strconv.Itoa0
import Derived.Shelf.Strconv.Itoa1
import Derived.Shelf.LaysM
import Derived.Shelf.Strconv.Itoa2
import Derived.Shelf.Strconv.Itoa3
import Derived.Shelf.Strings.Search1
import Derived.Test.YthjcaihemgllaaaGreatDoorProg
import Derived.Lib.LaidTab
import Derived.Test.YthjcaihemgllaaaGreatDoorRows
import Derived.ProofKit
import Derived.LaidMore
import Derived.OpenShut
import Derived.Stop.Joined
import Derived.Test.YthjcaihemgllaaaGreatDoorK50
open Go.Proofs.Tryz renaming prog->Aau,underlying151->Aaw,underlying9->Aaz,underlying175->Ab0,underlying153->Ab1,underlying4->Ab5,zeroValue9->Ab7,f7->Ab9,sizeOf9->Abc,isAgg9->Abe,zeroValue153->Abf,zeroValue151->Abg,underlying5->Abi,underlying3->Abj,zeroValue5->Abk,zeroValue4->Abl,zeroValue3->Abm,sizeOf153->Abs,sizeOf151->Abt,isAgg153->Abx,isAgg151->Aby,sizeOf5->Abz,sizeOf4->Ac0,sizeOf3->Ac1,func166->Ac2,isAgg5->Ac5,isAgg4->Ac6,isAgg3->Ac7,underlying178->Ac8,underlying170->Ac9,zeroValue175->Acd,underlying70->Ace,zeroValue70->Acf,underlying0->Acg,zeroValue0->Acj,sizeOf175->Acn,sizeOf70->Acp,ntmps166->Acq,isAgg175->Acr,sizeOf0->Acv,isAgg70->Acw,func157->Acx,func136->Acy,func125->Acz,isAgg0->Ad4
open Go.Lib renaming pow10Tab->Aav,cell_of_heap->Ack,TabIs->Acl,indexByte->Ad0
open List renaming getElem?_eq_getElem->Aax,getElem?_eq_some_iff->Aay,getElem_cons_zero->Ab3,getElem_toArray->Ab6,prefix_refl->Aba,getElem_cons_succ->Abd,getElem?_map->Abh,getD_eq_getElem?_getD->Abu,all_eq_true->Ach
open Option renaming map_eq_some_iff->Ab2,getD->Ac3,bind_some->Aca
open Array renaming getElem?_modify->Ab4,ext->Ad5
open Go.World renaming freeze->Ab8,setCell->Abw,shape?->Aco,var?->Ad3
open Bool renaming and_eq_true->Abb
open Go.Result renaming andThen->Abn
open Go.Oper renaming upon_value->Abo
open Nat renaming le_refl->Abp,zero_add->Ac4
open Go.Builtin renaming unsafeSliceData_->Abq
open Go.Proofs.Builder renaming Extra->Abr
open Go.Shelf renaming Ren->Abv
open Go.Value renaming int->Acb,slice->Acu
open Go.Extern.AbiNoEscape renaming same->Aci
open Go.Proofs.Body renaming n169_ntmps->Acm
open Go.Proofs.LaysM renaming n171->Acs
open Go.Proofs.Lays renaming n169->Ad1,n137->Ad2
namespace Go.HH
open Go Go.Proofs
set_option maxRecDepth 100000
set_option maxHeartbeats 4000000
set_option linter.unusedSimpArgs false
set_option linter.unusedVariables false
theorem LH:Be CC Ab9 (Ab9.body.getD .skip)=true:=by kernel_rfl
theorem K7:CC.P.funcs[7]?=some Ab9:=by kernel_rfl
theorem DR {x:List PV} {b:List PBox} (h:x.length.ble Ab9.ntmps=true):Ad CC 7 x b=CD CC Ab9.results.toList (Cf CC (Ab9.body.getD .skip) ⟨x,b⟩):=Ah (fn:=Ab9) (c:=Ab9.body.getD .skip) rfl rfl K7 rfl LH (Nat.le_of_ble_eq_true h)
theorem uN (r:Rl):DS r=Dw r:=by
 obtain ⟨nm,pr,on,ife,dos⟩:=r;obtain ⟨xk,xn,xm,xnm,xv,xkey,xkids⟩:=ife;unfold DS Dw C5 Vx Bw;simp only [List.cons_append,List.nil_append,PV.cells];rfl
theorem qh (l:List Rl):l.map DS=l.map Dw:=List.map_congr_left fun r _=>uN r
theorem qi {l:List Rl} (h:(UA l).1≠0):(UA l).2=[]:=by
 unfold UA at h |-;by_cases c:40 < l.length
 · rw [if_pos c]
 · rw [if_neg c] at h |-
   by_cases d:(VK [] l []).1=0
   · rw [if_pos d] at h |-
     by_cases q:(BH (VK [] l []).2).2.2=0
     · rw [if_pos q] at h;exact absurd rfl h
     · rw [if_neg q]
   · rw [if_neg d]
theorem yz {r:Rl} (h:Ig r=true):ib r:=by
 unfold Ig at h;simp only [Abb,decide_eq_true_eq,Ach] at h;obtain ⟨⟨⟨_,h2,h3,h4⟩,_⟩,h5⟩:=h;refine ⟨by omega,by omega,Vj r.ife 220 30 h4,fun x hx=>?_⟩;have:=h5 x hx;unfold Hy at this;simp only [decide_eq_true_eq] at this;exact Vj x.ex 220 30 this.2.2.2
theorem O3 (l:List Rl) (hr:∀ r ∈ l,Sa r):∃ bx,Ad CC 7 [.sl (l.map Dw)] []=some (.ret (.bool true),bx):=by
 have ofw:=uK l;have oaw:=mB;cases hf:mC l with
 | false=>
  rw [hf] at ofw;generalize l.map Dw=ls at *;rw [DR rfl];rw [<- Al];rw [<- AI] at ofw oaw;simp only [Aa,Ac,Ab9,Ac3];simp only [S9,Af,seval,CZ,ofw,oaw];exact ⟨_,rfl⟩
 | true=>
  rw [hf] at ofw;unfold mC at hf;rw [Abb,decide_eq_true_eq,Ach] at hf;obtain ⟨h8,FF⟩:=hf;have EB:∀ r ∈ l,Ig r=true/\Sa r:=fun r h=>⟨FF r h,hr r h⟩;have o1:=S0 l (by omega) EB;have rU:=K3 l;by_cases he:(UA l).1=0
  · obtain ⟨g1,g2⟩:=hQ he
    have o2:=Sq (UA l).2 g2;rw [g1,qh] at o2;have o3:=uM l (by omega) (fun x hx=>yz (FF x hx));rw [he] at o1;clear EB FF h8 hr g1 g2 he;generalize (UA l).2=tx at *;generalize l.map Dw=ls at *;rw [DR rfl];rw [<- Al];rw [<- AI] at ofw oaw o1 o2 o3;simp only [Aa,Ac,Ab9,Ac3];simp only [S9,Af,seval,CZ,ofw,o1,o2,o3,oaw];exact ⟨_,rfl⟩
  · rw [qi he] at o1
    have hn:((UA l).1 != 0)=true:=bne_iff_ne.2 he;have EC:ED .eql ([]:List UInt8) []=some (.bool true):=rfl;clear EB FF h8 hr he;generalize (UA l).1=er at *;generalize l.map Dw=ls at *;rw [DR rfl];rw [<- Al];rw [<- AI] at ofw oaw o1;simp only [Aa,Ac,Ab9,Ac3];simp only [S9,Af,seval,CZ,ofw,o1,hn,EC,oaw];exact ⟨_,rfl⟩
end Go.HH
namespace Go.Proofs
open Go.Shelf
def Tryz.lays169_ren:Abv:=⟨fun | 169=>157 | n=>n,fun | 70=>151 | 9=>9 | 0=>0 | 72=>153 | 37=>70 | 127=>164 | 3=>3 | 5=>5 | n=>n,fun | n=>n⟩
theorem Tryz.lays169:Ad1 Aau Tryz.lays169_ren:={
 mixed:=by kernel_rfl
 f169:=Acx.trans (congrArg some (by kernel_rfl))
 t0:=Acg
 a0:=Ad4
 z0:=Acv
 v0:=Acj
 t3:=Abj
 a3:=Ac7
 z3:=Ac1
 v3:=Abm
 t9:=Aaz
 a9:=Abe
 z9:=Abc
 v9:=Ab7
 t37:=Ace
 a37:=Acw
 z37:=Acp
 v37:=Acf
 t70:=Aaw
 a70:=Aby
 z70:=Abt
 v70:=Abg
 t72:=Ab1
 a72:=Abx
 z72:=Abs
 v72:=Abf
 t127:=Tryz.underlying164
 a127:=Tryz.isAgg164
 z127:=Tryz.sizeOf164
 v127:=Tryz.zeroValue164 }
theorem Tryz.Builder_Extra_169:Abr Aau Tryz.lays169_ren:={
 sizeBuilder:=by kernel_rfl
 liesBuilder:=by kernel_rfl
 t5:=Abi
 a5:=Ac5
 z5:=Abz
 v5:=Abk
 infoByte:=by kernel_rfl
 cellsByte:=by kernel_rfl
 sizeByte:=by kernel_rfl
 neB5:=by decide }
def Tryz.lays137_ren:Abv:=⟨fun | 137=>136 | 217=>161 | 266=>170 | n=>n,fun | 9=>9 | 5=>5 | 3=>3 | n=>n,fun | n=>n⟩
theorem Tryz.lays137:Ad2 Aau Tryz.lays137_ren:={
 mixed:=by kernel_rfl
 f137:=Acy.trans (congrArg some (by kernel_rfl))
 f217:=Tryz.func161.trans (congrArg some (by kernel_rfl))
 f266:=Tryz.func170.trans (congrArg some (by kernel_rfl))
 t3:=Abj
 a3:=Ac7
 z3:=Ac1
 v3:=Abm
 t5:=Abi
 a5:=Ac5
 z5:=Abz
 v5:=Abk
 t9:=Aaz
 a9:=Abe
 z9:=Abc
 v9:=Ab7 }
open Go.RowKit in
theorem Tryz.strings_IndexByte (s:ByteArray) (c:Int) (w:World) :
 Calls Aau 136 #[.string s,.int .u8 c] w fun e w'=>e=.returned (.int .i64 (Ad0 s.data.toList c.toNat.toUInt8))/\w'=w:=Any.strings_IndexByte Tryz.lays137 s c w
def Tryz.laysM171_ren:Abv:=⟨fun | 171=>125 | 243=>154 | 246=>165 | 283=>172 | 284=>173 | 285=>174 | 286=>175 | 129=>180 | 317=>179 | 318=>181 | 319=>182 | 320=>183 | 337=>185 | 338=>186 | n=>n,fun | 3=>3 | 9=>9 | 2=>2 | 4=>4 | 171=>169 | 0=>0 | 53=>170 | 37=>70 | 5=>5 | 173=>173 | 212=>178 | 51=>179 | 20=>20 | 213=>180 | 46=>133 | 232=>183 | 233=>184 | n=>n,fun | 17=>1 | 18=>2 | 19=>3 | n=>n⟩
theorem Tryz.laysM171:Acs Aau Tryz.laysM171_ren:={
 mixed:=by kernel_rfl
 f129:=Tryz.func180.trans (congrArg some (by kernel_rfl))
 f171:=Acz.trans (congrArg some (by kernel_rfl))
 f243:=Tryz.func154.trans (congrArg some (by kernel_rfl))
 f246:=Tryz.func165.trans (congrArg some (by kernel_rfl))
 f283:=Tryz.func172.trans (congrArg some (by kernel_rfl))
 f284:=Tryz.func173.trans (congrArg some (by kernel_rfl))
 f285:=Tryz.func174.trans (congrArg some (by kernel_rfl))
 f286:=Tryz.func175.trans (congrArg some (by kernel_rfl))
 f317:=Tryz.func179.trans (congrArg some (by kernel_rfl))
 f318:=Tryz.func181.trans (congrArg some (by kernel_rfl))
 f319:=Tryz.func182.trans (congrArg some (by kernel_rfl))
 f320:=Tryz.func183.trans (congrArg some (by kernel_rfl))
 f337:=Tryz.func185.trans (congrArg some (by kernel_rfl))
 f338:=Tryz.func186.trans (congrArg some (by kernel_rfl))
 t0:=Acg
 a0:=Ad4
 z0:=Acv
 v0:=Acj
 t2:=Tryz.underlying2
 a2:=Tryz.isAgg2
 z2:=Tryz.sizeOf2
 v2:=Tryz.zeroValue2
 t3:=Abj
 a3:=Ac7
 z3:=Ac1
 v3:=Abm
 t4:=Ab5
 a4:=Ac6
 z4:=Ac0
 v4:=Abl
 t5:=Abi
 a5:=Ac5
 z5:=Abz
 v5:=Abk
 t9:=Aaz
 a9:=Abe
 z9:=Abc
 v9:=Ab7
 t20:=Tryz.underlying20
 a20:=Tryz.isAgg20
 z20:=Tryz.sizeOf20
 v20:=Tryz.zeroValue20
 t37:=Ace
 a37:=Acw
 z37:=Acp
 v37:=Acf
 t46:=Tryz.underlying133
 a46:=Tryz.isAgg133
 z46:=Tryz.sizeOf133
 v46:=Tryz.zeroValue133
 t51:=Tryz.underlying179
 a51:=Tryz.isAgg179
 z51:=Tryz.sizeOf179
 v51:=Tryz.zeroValue179
 t53:=Ac9
 a53:=Tryz.isAgg170
 z53:=Tryz.sizeOf170
 v53:=Tryz.zeroValue170
 t171:=Tryz.underlying169
 a171:=Tryz.isAgg169
 z171:=Tryz.sizeOf169
 v171:=Tryz.zeroValue169
 t173:=Tryz.underlying173
 a173:=Tryz.isAgg173
 z173:=Tryz.sizeOf173
 v173:=Tryz.zeroValue173
 t212:=Ac8
 a212:=Tryz.isAgg178
 z212:=Tryz.sizeOf178
 v212:=Tryz.zeroValue178
 t213:=Tryz.underlying180
 a213:=Tryz.isAgg180
 z213:=Tryz.sizeOf180
 t232:=Tryz.underlying183
 a232:=Tryz.isAgg183
 z232:=Tryz.sizeOf183
 v232:=Tryz.zeroValue183
 t233:=Tryz.underlying184
 a233:=Tryz.isAgg184
 z233:=Tryz.sizeOf184
 v233:=Tryz.zeroValue184
 g17:=by kernel_rfl
 g18:=by kernel_rfl
 g19:=by kernel_rfl
 i0:=by kernel_rfl
 i2:=by kernel_rfl
 i3:=by kernel_rfl
 i4:=by kernel_rfl
 i5:=by kernel_rfl
 i9:=by kernel_rfl
 i20:=by kernel_rfl
 i37:=by kernel_rfl
 i46:=by kernel_rfl
 i51:=by kernel_rfl
 i53:=by kernel_rfl
 i171:=by kernel_rfl
 i173:=by kernel_rfl
 i212:=by kernel_rfl
 i232:=by kernel_rfl
 i233:=by kernel_rfl
 m17:=by kernel_rfl
 m18:=by kernel_rfl
 m19:=by kernel_rfl }
open Go.RowKit Go.Sort Go.Lib in
theorem Tryz.strconv_Itoa (n:Int) (h0:-9223372036854775808<=n) (h1:n<=9223372036854775807) (w:World) (htab:Acl Aau w "internal/strconv.uint64pow10" .u64 Aav) :
 Calls Aau 125 #[.int .i64 n] w fun e w'=>e=.returned (.string ⟨(Lib.itoa n).toArray⟩)/\∃ k os,w'=grow (w.drewN k) os:=Any.strconv_Itoa Tryz.laysM171 n h0 h1 w htab
end Go.Proofs
namespace Go.HH
open Go Go.Proofs Go.Shelf Go.RowKit Go.Lib
variable {P:Program} {ρ:Ren}
set_option maxHeartbeats 2000000 in
set_option maxRecDepth 100000 in
theorem mH (L:Lays.n169 P ρ) (X:Abr P ρ) (b g cap:Nat) (p:Value) (cur:Array Value) (fr:Nat×Nat) (l:List UInt8) (w:World) (h0:l≠[]) (zh:l.length<=cap) (uW:cap<=maxLen) (JQ:cur.size=cap)
 (hbk:w.heap[b]?=some (.cells #[p,.slice (some ⟨g,0,none⟩) l.length cap] (ρ.t 72) (0,0))) (hg:w.heap[g]?=some (.cells cur (ρ.t 5) fr))
 (Ht:∀ j x,l[j]?=some x->w.cell? ⟨g,j,none⟩=some (.int .u8 x.toNat)) :
 Calls P (ρ.f 169) #[.pointer (some ⟨b,0,none⟩)] w fun e w'=>e=.returned (.string ⟨l.toArray⟩)/\w'=w.drew.freeze ⟨g,0,none⟩ l.length:=by
 have Zy:l.length≠0:=by simpa using h0
 have c1:w.drew.cell? ⟨b,1,none⟩=some (.slice (some ⟨g,0,none⟩) l.length cap):=by
  have:w.drew.heap[b]?=some (.cells #[p,.slice (some ⟨g,0,none⟩) l.length cap] (ρ.t 72) (0,0)):=hbk;rw [Ack this];rfl
 have hSD:(Abq #[(ρ.t 37)] (ρ.t 127) #[.slice (some ⟨g,0,none⟩) l.length cap]).run P w.drew=.ok (.pointer (some ⟨g,0,none⟩)) w.drew:=
  Lib.run_unsafeSliceData_row _ _ _ _ _ _ (by omega)
 have hUS:(Builtin.unsafeString_ #[(ρ.t 127),(ρ.t 3)] (ρ.t 9) #[.pointer (some ⟨g,0,none⟩),.int .i64 l.length]).run P w.drew=.ok (.string ⟨l.toArray⟩) (w.drew.freeze ⟨g,0,none⟩ l.length):=by
  refine Lib.run_unsafeString_row w.drew (ρ.t 127) (ρ.t 3) (ρ.t 9) (ρ.t 5) L.t127 X.cellsByte g cur.size (by have D4:w.drew.heap[g]?=some (.cells cur (ρ.t 5) fr):=hg;simp [Aco,D4]) l h0 (by omega) (by unfold maxLen at uW;omega) ?_;intro j x hx;have:=Ht j x hx;rw [show (⟨g,0,none⟩:Addr).add j=⟨g,j,none⟩ from by unfold Addr.add;split <;> simp_all];exact this
 have mixed:=L.mixed;have t72:=L.t72;have a72:=L.a72;have z72:=L.z72;have v72:=L.v72;have u72:=run_underlying L.t72;have t70:=L.t70;have a70:=L.a70;have z70:=L.z70;have v70:=L.v70;have u70:=run_underlying L.t70;have t37:=L.t37;have a37:=L.a37;have z37:=L.z37;have v37:=L.v37;have u37:=run_underlying L.t37;have t127:=L.t127;have a127:=L.a127;have z127:=L.z127;have v127:=L.v127;have u127:=run_underlying L.t127;have t3:=L.t3;have a3:=L.a3;have z3:=L.z3;have v3:=L.v3;have u3:=run_underlying L.t3;have t9:=L.t9;have a9:=L.a9;have z9:=L.z9;have v9:=L.v9;have u9:=run_underlying L.t9;have t5:=X.t5;have a5:=X.a5;have z5:=X.z5;have v5:=X.v5;have u5:=run_underlying X.t5
 go_enter L.f169,Acm ρ
 go_wp2
 go_region_o
 all_goals (go_wp2;go_ret;exact ⟨rfl,rfl⟩)
set_option maxHeartbeats 2000000 in
set_option maxRecDepth 100000 in
theorem mI (L:Lays.n169 P ρ) (X:Abr P ρ) (b:Nat) (p:Value) (w:World) (hbk:w.heap[b]?=some (.cells #[p,.slice none 0 0] (ρ.t 72) (0,0))) :
 Calls P (ρ.f 169) #[.pointer (some ⟨b,0,none⟩)] w fun e w'=>e=.returned (.string ⟨#[]⟩)/\w'=w.drew:=by
 have hUS:=Any.unsafeString_none L X
 have c1:w.drew.cell? ⟨b,1,none⟩=some (.slice none 0 0):=by
  have:w.drew.heap[b]?=some (.cells #[p,.slice none 0 0] (ρ.t 72) (0,0)):=hbk;rw [Ack this];rfl
 have hSD:(Abq #[(ρ.t 37)] (ρ.t 127) #[.slice none 0 0]).run P w.drew=.ok (.pointer none) w.drew:=rfl;have mixed:=L.mixed;have t72:=L.t72;have a72:=L.a72;have z72:=L.z72;have v72:=L.v72;have u72:=run_underlying L.t72;have t70:=L.t70;have a70:=L.a70;have z70:=L.z70;have v70:=L.v70;have u70:=run_underlying L.t70;have t37:=L.t37;have a37:=L.a37;have z37:=L.z37;have v37:=L.v37;have u37:=run_underlying L.t37;have t127:=L.t127;have a127:=L.a127;have z127:=L.z127;have v127:=L.v127;have u127:=run_underlying L.t127;have t3:=L.t3;have a3:=L.a3;have z3:=L.z3;have v3:=L.v3;have u3:=run_underlying L.t3;have t9:=L.t9;have a9:=L.a9;have z9:=L.z9;have v9:=L.v9;have u9:=run_underlying L.t9;have t5:=X.t5;have a5:=X.a5;have z5:=X.z5;have v5:=X.v5;have u5:=run_underlying X.t5
 go_enter L.f169,Acm ρ
 go_wp2
 go_region_o
 all_goals (go_wp2;go_ret;exact ⟨rfl,rfl⟩)
theorem eG:(Aau.info? 153).map (·.size)=some 2:=by kernel_rfl
theorem qj:liesAt Aau Aau.depth 153 (2 / Aau.cellsOf 153) 0 153 1=true:=by kernel_rfl
set_option maxHeartbeats 2000000 in
set_option maxRecDepth 100000 in
theorem ql (b:Nat) (w:World) (h0:w.cell? ⟨b,0,none⟩=some (.pointer (some ⟨b,0,none⟩))) :
 Calls Aau 166 #[.pointer (some ⟨b,0,none⟩)] w fun e w'=>e=.returned (.tuple #[])/\w'=w:=by
 obtain ⟨j,hj,_⟩:=Ab2.1 eG;have mixed:Aau.follows .mixedOrders=true:=by kernel_rfl
 have t0:=Ab1;have a0:=Abx;have z0:=Abs;have v0:=Abf;have u0:=run_underlying Ab1;have t1:=Aaw;have a1:=Aby;have z1:=Abt;have v1:=Abg;have u1:=run_underlying Aaw;have t2:=Aaz;have a2:=Abe;have z2:=Abc;have v2:=Ab7;have u2:=run_underlying Aaz;have t3:=Ab5;have a3:=Ac6;have z3:=Ac0;have v3:=Abl;have u3:=run_underlying Ab5;have t4:=Ab0;have a4:=Acr;have z4:=Acn;have v4:=Acd;have u4:=run_underlying Ab0
 go_enter Ac2,Acq
 go_wp2
 rw [Lib.run_neq_ptr_same w _ Aaw hj]
 go_wp2
 go_end0
 exact ⟨rfl,rfl⟩
set_option maxHeartbeats 2000000 in
set_option maxRecDepth 100000 in
theorem mJ (b:Nat) (w:World) (h0:w.cell? ⟨b,0,none⟩=some (.pointer none)) (we:w.shape? b=some (153,2)) (iH:w.frozen? ⟨b,0,none⟩=false) :
 Calls Aau 166 #[.pointer (some ⟨b,0,none⟩)] w fun e w'=>e=.returned (.tuple #[])/\w'=w.setCell ⟨b,0,none⟩ (.pointer (some ⟨b,0,none⟩)):=by
 obtain ⟨j,hj,hjs⟩:=Ab2.1 eG;have mixed:Aau.follows .mixedOrders=true:=by kernel_rfl
 have t0:=Ab1;have a0:=Abx;have z0:=Abs;have v0:=Abf;have u0:=run_underlying Ab1;have t1:=Aaw;have a1:=Aby;have z1:=Abt;have v1:=Abg;have u1:=run_underlying Aaw;have t2:=Aaz;have a2:=Abe;have z2:=Abc;have v2:=Ab7;have u2:=run_underlying Aaz;have t3:=Ab5;have a3:=Ac6;have z3:=Ac0;have v3:=Abl;have u3:=run_underlying Ab5;have t4:=Ab0;have a4:=Acr;have z4:=Acn;have v4:=Acd;have u4:=run_underlying Ab0
 go_enter Ac2,Acq
 go_wp2
 rw [Lib.run_to_unsafe w ⟨b,0,none⟩ Aaw Ab0 hj (by rw [hjs];decide) we (Nat.zero_lt_succ 1)];simp only [Abn];rw [Abo]
 go_wp2
 rw [run_callFunc_extern Tryz.func176 (by kernel_rfl) (by kernel_rfl) (by kernel_rfl) (e:=Aci) (by kernel_rfl)];rw [Lib.run_noEscape];simp only [Abn];rw [Abo]
 go_wp2
 rw [Lib.run_from_unsafe w ⟨b,0,none⟩ Ab0 Aaw hj we qj];simp only [Abn];rw [Abo]
 go_wp2
 go_end0
 exact ⟨rfl,rfl⟩
open Go Go.Proofs Go.RowKit
set_option maxRecDepth 100000
theorem qo {args:List PV} {bx bx':List PBox} {p:Bool} {v:PV} (h:vK args bx=some (p,v,bx')):∃ id q,args=[.bp id 0]/\p=false/\v=.tup [] /\
 ((bx[id]?=some (.cells 153 [.nilp,q])/\bx'=bx.set id (.cells 153 [.bp id 0,q]))\/(bx[id]?=some (.cells 153 [.bp id 0,q])/\bx'=bx)):=by
 unfold vK at h;split at h
 · rename_i id
   split at h
   · rename_i t q hb
     split at h
     · rename_i ht
       subst ht;injection h with h
       injection h with h1 h
       injection h with h2 h3
       exact ⟨id,q,rfl,h1.symm,h2.symm,.inl ⟨hb,h3.symm⟩⟩
     · cases h
   · rename_i t id' q hb
     split at h
     · rename_i ht
       obtain ⟨zF,yY⟩:=ht;subst zF yY;injection h with h
       injection h with h1 h
       injection h with h2 h3
       exact ⟨_,q,rfl,h1.symm,h2.symm,.inr ⟨hb,h3.symm⟩⟩
     · cases h
   · cases h
 · cases h
theorem ic {args:List PV} {bx bx':List PBox} {p:Bool} {v:PV} (h:Pm args bx=some (p,v,bx')):∃ id q,args=[.bp id 0]/\p=false /\
 ((bx[id]?=some (.cells 153 [q,.nils])/\v=.str []/\bx'=bx) \/
  (∃ xs l,bx[id]?=some (.cells 153 [q,.osl 5 xs])/\xs≠[]/\xs.all Vf=true/\bytesOf xs=some l/\v=.str l/\bx'=bx.set id (.cells 153 [q,.sl xs]))):=by
 unfold Pm at h;split at h
 · rename_i id
   split at h
   · rename_i t q hb
     split at h
     · rename_i ht
       subst ht;injection h with h
       injection h with h1 h
       injection h with h2 h3
       exact ⟨id,q,rfl,h1.symm,.inl ⟨hb,h2.symm,h3.symm⟩⟩
     · cases h
   · rename_i t q e xs hb
     split at h
     · rename_i ht
       obtain ⟨zF,yY,ht3,ht4⟩:=ht;subst zF yY;obtain ⟨l,hl,h⟩:=Ab2.1 h;injection h with h1 h
       injection h with h2 h3
       exact ⟨id,q,rfl,h1.symm,.inr ⟨xs,l,hb,(fun e=>by subst e;cases ht3),ht4,hl,h2.symm,h3.symm⟩⟩
     · cases h
   · cases h
 · cases h
theorem Zu:∀ (xs:List PV) (l:List UInt8),xs.all Vf=true->bytesOf xs=some l->xs=l.map fun b=>PV.int .u8 (b.toNat:Int)
 | [],l,_,h=>by injection h with h;subst h;rfl
 | v :: r,l,ha,h=>by
  simp only [List.all_cons,Abb] at ha;obtain ⟨hv,hr⟩:=ha;unfold Vf at hv;split at hv
  · rename_i n
    simp only [Abb,decide_eq_true_eq] at hv;unfold bytesOf at h;obtain ⟨l',D3,rfl⟩:=Ab2.1 h;have ih:=Zu r l' hr D3;rw [List.map_cons,<- ih]
    congr 2
    rw [UInt8.toNat_ofNat'];omega
  · cases hv
theorem ct (l:List UInt8):flat (l.map fun b=>PV.int .u8 (b.toNat:Int))=l.map fun b=>PV.int .u8 (b.toNat:Int):=by
 induction l with
 | nil=>rfl
 | cons b r ih=>
  show PV.cells (PV.int .u8 (b.toNat:Int))++flat (r.map fun b=>PV.int .u8 (b.toNat:Int))=_;rw [ih];rfl
theorem Zv (w:World) (g n:Nat) (a:Addr):(w.drew.freeze ⟨g,0,none⟩ n).cell? a=w.cell? a:=by
 unfold Ab8;split
 · rfl
 · unfold World.cell?
   simp only [Ab4];by_cases h:g=a.block
   · rw [if_pos h]
     show (match Option.map _ (w.heap[a.block]?) with | some (Obj.cells c _ _)=>_ | _=>none)=_;cases w.heap[a.block]? with
     | none=>rfl
     | some o=>
      cases o with
      | cells c e f=>obtain ⟨lo,hi⟩:=f;rfl
      | _=>rfl
   · rw [if_neg h]
     rfl
theorem Xt (w:World) (g n k:Nat) (h:k≠g):(w.drew.freeze ⟨g,0,none⟩ n).heap[k]?=w.heap[k]?:=by
 unfold Ab8;split
 · rfl
 · simp only
   rw [Ab4,if_neg (fun e=>h e.symm)];rfl
theorem Zw (w:World) (g n:Nat):(w.drew.freeze ⟨g,0,none⟩ n).heap.size=w.heap.size:=by
 unfold Ab8;split
 · rfl
 · simp only [Array.size_modify]
   rfl
theorem Xu {w:World} {b:Nat} {c:Array Value} {t:TypeId} {f:Nat×Nat} (h:w.heap[b]?=some (.cells c t f)) (v:Value):(w.setCell ⟨b,0,none⟩ v).heap[b]?=some (.cells (c.setIfInBounds 0 v) t f):=by
 simp [Abw,Ab4,h]
theorem Mu {w:World} {b k:Nat} (v:Value) (h:k≠b):(w.setCell ⟨b,0,none⟩ v).heap[k]?=w.heap[k]?:=by
 simp only [Abw,Ab4];rw [if_neg (fun e=>h e.symm)]
theorem Xv {c:Array Value} (h:c.size=2):∃ p q,c=#[p,q]:=⟨c[0],c[1],by apply Ad5;simp [h];intro i h1 h2;match i with | 0=>rfl | 1=>rfl | n+2=>omega⟩
theorem VQ {S:AJ} {M:List Nat} {p:PV} {vs:List Value} (h:Ce S M [p] vs):∃ v,vs=[v]/\Rep S M p v:=by
 match vs,h with
 | [v],h=>exact ⟨v,rfl,h.2 0 (by simp) (by simp)⟩
 | [],h=>have:=h.1;cases this
 | _ :: _ :: _,h=>have:=h.1;simp at this
theorem yA (args:List PV) (bx:List PBox) (p:Bool) (v:PV) (bx':List PBox) (h:vK args bx=some (p,v,bx')) :
 Ff CC.P 166/\((∀ p ∈ args,∀ t xs,p≠.osl t xs) ->
  ∀ (B:Nat) (T:Nat->Prop) (S:AJ) (M:List Nat) (vs:List Value) (w:World),CO CC B T S M bx w->Ce S M args vs ->
   Calls CC.P 166 vs.toArray w fun e w'=>∃ S' M',CO CC B T S' M' bx' w'/\Grows B T S w S' w'/\M <+: M'/\Outcome S' M' (if p then .pan v else .ret v) e):=by
 obtain ⟨id,q,rfl,rfl,rfl,JR⟩:=qo h;refine ⟨⟨Tryz.f166,_,Ac2,by kernel_rfl,rfl⟩,fun G0 B T S M vs w hs DJ=>?_⟩;obtain ⟨u,rfl,hu⟩:=VQ DJ;obtain ⟨b,hm,rfl⟩:=hu.bp_inv
 have Kf:∃ p0,bx[id]?=some (.cells 153 [p0,q]):=by
  rcases JR with ⟨h1,_⟩ | ⟨h1,_⟩
  · exact ⟨_,h1⟩
  · exact ⟨_,h1⟩
 rcases JR with ⟨hb,rfl⟩ | ⟨hb,rfl⟩
 · obtain ⟨b',c,HA,hh,hl,h1,hr⟩:=BoxAt.getT hs hb
   rw [hm] at HA;injection HA with HA
   subst HA;obtain ⟨c0,c1,rfl⟩:=Xv hl;have r0:=hr 0 (by simp) (by simp);have r1:=hr 1 (by simp) (by simp);simp only [Ab3,Abd,Ab6] at r0 r1;have e0:c0=.pointer none:=by cases r0;rfl
   subst e0;refine (mJ b w (by rw [cell_of_heap hh] <;> rfl) (by simp [Aco,hh]) (by simp [World.frozen?,hh])).mono ?_
   rintro e w' ⟨rfl,rfl⟩
   have hid:id < bx.length:=(Aay.1 hb).1;have eO:=Xu hh (.pointer (some ⟨b,0,none⟩))
   have O4:BoxAt S M (w.setCell ⟨b,0,none⟩ (.pointer (some ⟨b,0,none⟩))) (.cells 153 [.bp id 0,q]) b:=by
    refine .cells _ _ b _ eO rfl (fun i hi=>?_) (fun i hi Dm=>?_)
    · match i,hi with
      | 0,_=>rfl
      | 1,hi=>exact h1 1 (by simp)
    · match i,hi with
      | 0,_=>exact .bp id 0 b hm
      | 1,_=>exact r1
   obtain ⟨g1,g2⟩:=Sim.setBoxObj hs hm hid O4 rfl rfl rfl (by simp [Abw]) (fun k hk=>Mu _ hk) (fun t cs off e xs v hx hc hv=>by
    injection hx with _ hx
    subst hx
    match off,hc with
    | 0,hc=>cases hc
    | 1,hc=>
     left
     injection hc with hc
     subst hc;refine ⟨_,b,by unfold A0;rw [hb],rfl,hm,?_⟩;rw [cell_of_heap eO] at hv;rw [cell_of_heap hh];exact hv
    | n+2,hc=>cases hc)
   exact ⟨S,M,g1,g2,Aba _,show Outcome S M (.ret (.tup [])) _ from ⟨fun t xs h=>(by cases h),_,rfl,.tup _ _ rfl (fun i h=>by simp at h)⟩⟩
 · obtain ⟨b',c,HA,hh,hl,h1,hr⟩:=BoxAt.getT hs hb
   rw [hm] at HA;injection HA with HA
   subst HA;obtain ⟨c0,c1,rfl⟩:=Xv hl;have r0:=hr 0 (by simp) (by simp);simp only [Ab3,Ab6] at r0;obtain ⟨b2,zG,e0⟩:=r0.bp_inv;rw [hm] at zG;injection zG with zG
   subst zG;subst e0;refine (ql b w (by rw [cell_of_heap hh] <;> rfl)).mono ?_
   rintro e w' ⟨rfl,rfl⟩
   exact ⟨S,M,hs,Grows.refl _ _ _ _,Aba _,show Outcome S M (.ret (.tup [])) _ from ⟨fun t xs h=>(by cases h),_,rfl,.tup _ _ rfl (fun i h=>by simp at h)⟩⟩
theorem infoByte:∃ i,Aau.info? 5=some i/\i.size=1:=⟨(Aau.info? 5).getD default,by kernel_rfl,by kernel_rfl⟩
theorem uO (args:List PV) (bx:List PBox) (p:Bool) (v:PV) (bx':List PBox) (h:Pm args bx=some (p,v,bx')) :
 Ff CC.P 157/\((∀ p ∈ args,∀ t xs,p≠.osl t xs) ->
  ∀ (B:Nat) (T:Nat->Prop) (S:AJ) (M:List Nat) (vs:List Value) (w:World),CO CC B T S M bx w->Ce S M args vs ->
   Calls CC.P 157 vs.toArray w fun e w'=>∃ S' M',CO CC B T S' M' bx' w'/\Grows B T S w S' w'/\M <+: M'/\Outcome S' M' (if p then .pan v else .ret v) e):=by
 obtain ⟨id,q,rfl,rfl,JR⟩:=ic h;refine ⟨⟨Tryz.f157,_,Acx,by kernel_rfl,rfl⟩,fun G0 B T S M vs w hs DJ=>?_⟩;obtain ⟨u,rfl,hu⟩:=VQ DJ;obtain ⟨b,hm,rfl⟩:=hu.bp_inv;rcases JR with ⟨hb,rfl,rfl⟩ | ⟨xs,l,hb,Dx,D1,vW,rfl,rfl⟩
 · obtain ⟨b',c,HA,hh,hl,h1,hr⟩:=BoxAt.getT hs hb
   rw [hm] at HA;injection HA with HA
   subst HA;obtain ⟨c0,c1,rfl⟩:=Xv hl;have r1:=hr 1 (by simp) (by simp);simp only [Ab3,Abd,Ab6] at r1;have e1:c1=.slice none 0 0:=r1.nils_inv;subst e1;refine (mI Tryz.lays169 Tryz.Builder_Extra_169 b c0 w hh).mono ?_
   rintro e w' ⟨rfl,rfl⟩
   refine ⟨S,M,?_,?_,Aba _,show Outcome S M (.ret (.str [])) _ from ⟨fun t xs h=>(by cases h),_,rfl,.str []⟩⟩
   · exact (Sim.touch hs none (fun k h=>by cases h) (fun _ _ _ _ _ _ _ h=>by cases h) (fun k h=>by cases h) (S':=S) (w':=w.drew) rfl rfl rfl (Abp _) (fun _ _ _=>rfl) (AJ.le.refl _) (fun _ _ _ _=>rfl) (fun b o v h=>hs.holds b o v h)).1
   · exact (Sim.touch hs none (fun k h=>by cases h) (fun _ _ _ _ _ _ _ h=>by cases h) (fun k h=>by cases h) (S':=S) (w':=w.drew) rfl rfl rfl (Abp _) (fun _ _ _=>rfl) (AJ.le.refl _) (fun _ _ _ _=>rfl) (fun b o v h=>hs.holds b o v h)).2
 · obtain ⟨b',c,HA,hh,hl,h1,hr⟩:=BoxAt.getT hs hb
   rw [hm] at HA;injection HA with HA
   subst HA;obtain ⟨c0,c1,rfl⟩:=Xv hl;have r1:=hr 1 (by simp) (by simp);simp only [Ab3,Abd,Ab6] at r1;have hbc:A0 bx id=some [q,.osl 5 xs]:=by unfold A0;rw [hb]
   have Gs:LocAt ⟨[],bx⟩ M ⟨#[],[]⟩ w (.box id 1) (.osl 5 xs) c1:=⟨_,b,hbc,rfl,hm,by rw [cell_of_heap hh];rfl⟩;obtain ⟨⟨i,vals,hi,GU,nw,v7⟩,vY⟩:=hs.own _ _ _ _ Gs;obtain ⟨i',Dm,BF⟩:=infoByte;have hii:i=i':=Option.some.inj (hi.symm.trans Dm);subst hii;rw [BF] at GU;have XL:=Zu xs l D1 vW;have hlen:xs.length=l.length:=by rw [XL];simp
   have Zy:l≠[]:=fun e=>Dx (by rw [XL,e] <;> rfl);have wa:Rep S M (.sl xs) c1:=by cases r1 with | osl _ _ _ h=>exact h
   rcases GU.2 with ⟨hz,hz2⟩ | ⟨g,cap,cur,hv,_,hg,zh,uW,JQ,htake⟩
   · exfalso
     have:l.length=0:=by omega
     exact Zy (List.length_eq_zero_iff.1 this)
   · subst hv
     have Ht:∀ j x,l[j]?=some x->w.cell? ⟨g,j,none⟩=some (.int .u8 x.toNat):=by
      intro j x hj;have hjl:j < l.length:=(Aay.1 hj).1;have ZA:flat xs=xs:=by rw [XL];exact ct l
      generalize HB:Acu (some ⟨g,0,none⟩) xs.length cap=sv at wa;cases wa with
      | slE=>exact absurd rfl Dx
      | sl _ b0 o0 cap0 f0 hc hz hsS rS VR=>
       injection HB with wb Z5 hv3
       injection wb with wb
       injection wb with hv4 hv5 hv6
       subst hv4;subst hv5;have ir:j < (flat xs).length:=by rw [ZA,hlen];exact hjl
       have a1:=hsS j ir;have a2:=VR j ir
       have a3:(flat xs)[j]?=some (.int .u8 (x.toNat:Int)):=by
        rw [ZA,XL,Abh,hj];rfl
       rw [Aax ir] at a3;injection a3 with a3
       rw [a3] at a2;rw [Ac4] at a1;have a4:=hs.holds _ _ _ a1;generalize f0 j=fv at a2 a4;cases a2 with
       | int=>exact a4
     rw [hlen] at hh zh;refine (mH Tryz.lays169 Tryz.Builder_Extra_169 b g cap c0 cur (0,0) l w Zy zh uW (by omega) hh hg Ht).mono ?_
     rintro e w' ⟨rfl,rfl⟩
     have HB:E9 ⟨[],bx⟩ (.box id 1)=.osl 5 xs:=by unfold E9;simp only [hbc];rfl
     obtain ⟨k1,k2⟩:=Sim.roLoc hs (.box id 1) HB
     have EC:FX ⟨[],bx⟩ (.box id 1) (.sl xs)=⟨[],bx.set id (.cells 153 [q,.sl xs])⟩:=by
      unfold FX QY;simp only [hb];rfl
     rw [EC] at k1 k2;have K8:(Acu (some ⟨g,0,none⟩) xs.length cap).ownBlock=some g:=rfl
     have tt:=Sim.touch k1 (some g) (fun k h=>by injection h with h;subst h;exact (v7 g K8).1)
      (fun l' e' xs' v' k D3 Pz hgk=>by
       injection hgk with hgk
       subst hgk;obtain ⟨m1,m2⟩:=k2 l' e' xs' v' D3;exact m2 (hs.apart _ _ _ _ _ _ _ _ g m1 Gs Pz K8))
      (fun k h=>by injection h with h;subst h;exact vY g K8)
      (S':=S) (w':=w.drew.freeze ⟨g,0,none⟩ l.length) (by unfold Ab8;split <;> rfl) (by unfold Ab8;split <;> rfl) (by unfold Ab8;split <;> rfl)
      (by rw [Zw];exact Abp _) (fun k _ hk=>Xt w g l.length k (fun e=>hk (by rw [e]))) (AJ.le.refl _) (fun _ _ _ _=>rfl)
      (fun b o v h=>by rw [Zv];exact hs.holds b o v h)
     exact ⟨S,M,tt.1,tt.2,Aba _,show Outcome S M (.ret (.str l)) _ from ⟨fun t xs h=>(by cases h),_,rfl,.str l⟩⟩
theorem cu:Hb CC:=by
 intro f g hg;have D4:(if f=166 then some vK else if f=157 then some Pm else none)=some g:=hg;split at D4
 · rename_i h
   subst h;injection D4 with D4
   subst D4;exact yA
 · split at D4
   · rename_i h
     subst h;injection D4 with D4
     subst D4;exact uO
   · cases D4
open Go.Sort
theorem uP:Aau.globalNamed "internal/strconv.uint64pow10"=some 1:=by kernel_rfl
theorem ig {S:AJ} {w:World} (h:Rep S [] (.ip Dq) (.pointer (some ⟨1,0,none⟩))) (hS:∀ b o v,S b o=some v->w.cell? ⟨b,o,none⟩=some v) :
 ∀ i z,Aav[i]?=some z->w.cell? ⟨1,i,none⟩=some (.int .u64 z):=by
 intro i z hi;cases h with
 | ip _ _ _ f hs _ hr=>
  have hl:i < Dq.length:=by
   have:=(Aay.1 hi).1;simpa [Dq] using this
  have h1:=hs i hl;have h2:=hr i hl
  have h3:Dq[i]=.int .u64 z:=by
   have BC:=(Aay.1 hi).1;have:Aav[i]=z:=(Aay.1 hi).2;simp [Dq,this]
  rw [h3] at h2;rw [Ac4] at h1;have:=hS _ _ _ h1;generalize f i=v at h2 this;cases h2 with
  | int k n=>exact this
theorem uQ {S:AJ} {w:World} (h:Rep S [] (.ip Dq) (.pointer (some ⟨1,0,none⟩))) (hS:∀ b o v,S b o=some v->w.cell? ⟨b,o,none⟩=some v)
 (hw:∃ c e f,w.heap[1]?=some (.cells c e f)/\c.size=Dq.length):Acl Aau w "internal/strconv.uint64pow10" .u64 Aav:=by
 obtain ⟨c,e,f,h1,h2⟩:=hw;unfold Acl Ad3;rw [uP];simp only [Aca,h1]
 congr 1
 apply Ad5
 · rw [h2];simp [Dq]
 · intro i hi Dm
   simp at Dm;have h3:=ig h hS i (Aav[i]) (Aax Dm);rw [cell_of_heap h1] at h3;rw [Array.getElem?_eq_getElem hi] at h3;injection h3 with h3
   rw [h3];simp
theorem ij {S:AJ} {w:World} (k:Nat) (os:Array Obj) (hS:∀ b o v,S b o=some v->w.cell? ⟨b,o,none⟩=some v):Kept S w S (grow (w.drewN k) os):=by
 have hb:∀ j,j < w.heap.size->(grow (w.drewN k) os).heap[j]?=w.heap[j]?:=fun j hj=>by
  show (w.heap++os)[j]?=_;rw [Array.getElem?_append_left hj]
 refine ⟨rfl,rfl,rfl,by show w.heap.size<=(w.heap++os).size;simp,hb,AJ.le.refl _,fun _ _ _=>rfl,fun b o v hv=>?_⟩;have h1:=hS b o v hv;rw [World.cell?_of_block (a:=⟨b,o,none⟩) (hb b (Is h1))];exact h1
theorem ik {args:List PV} {r:PV} (h:Ve args=some r):∃ n,args=[.int .i64 n]/\GY n/\r=.str (Lib.itoa n):=by
 unfold Ve at h;split at h
 · split at h
   · rename_i n _ hn
     injection h with h
     exact ⟨_,rfl,hn,h.symm⟩
   · cases h
 · cases h
def cw (f:FuncId) (g:List PV->Option PV):Prop:=Ff CC.P f/\∀ (args:List PV) (r:PV),g args=some r->(∀ t xs,r≠.osl t xs) /\
 ∀ (S:AJ) (vs:List Value) (w:World),(∀ b o v,S b o=some v->w.cell? ⟨b,o,none⟩=some v) ->
  (∀ g cs,CC.glob g=some cs->Rep S [] (.ip cs) (.pointer (some ⟨g,0,none⟩)))->(∀ g cs,CC.glob g=some cs->∃ c e f,w.heap[g]?=some (.cells c e f)/\c.size=cs.length)->Ce S [] args vs ->
  Calls CC.P f vs.toArray w fun e w'=>∃ S',Kept S w S' w'/\∃ v,e=.returned v/\Rep S' [] r v
theorem il {S:AJ} {w:World} (hS:∀ b o v,S b o=some v->w.cell? ⟨b,o,none⟩=some v):Kept S w S w:=⟨rfl,rfl,rfl,Abp _,fun _ _=>rfl,AJ.le.refl _,fun _ _ _=>rfl,hS⟩
theorem mK {S:AJ} {p:PV} {vs:List Value} (h:Ce S [] [p] vs):∃ v,vs=[v]/\Rep S [] p v:=by
 match vs,h with
 | [v],h=>exact ⟨v,rfl,h.2 0 (by simp) (by simp)⟩
 | [],h=>have:=h.1;cases this
 | _ :: _ :: _,h=>have:=h.1;simp at this
theorem mL {S:AJ} {p q:PV} {vs:List Value} (h:Ce S [] [p,q] vs):∃ v u,vs=[v,u]/\Rep S [] p v/\Rep S [] q u:=by
 match vs,h with
 | [v,u],h=>exact ⟨v,u,rfl,h.2 0 (by simp) (by simp),h.2 1 (by simp) (by simp)⟩
 | [],h=>have:=h.1;cases this
 | [_],h=>have:=h.1;simp at this
 | _ :: _ :: _ :: _,h=>have:=h.1;simp at this
theorem im:cw 125 Ve:=by
 refine ⟨⟨Tryz.f125,_,Acz,by kernel_rfl,rfl⟩,fun args r hr=>?_⟩;obtain ⟨n,rfl,hn,rfl⟩:=ik hr;refine ⟨fun t xs h=>(by cases h),fun S vs w hS iv zr DJ=>?_⟩;obtain ⟨v,rfl,h0⟩:=mK DJ;cases h0 with
 | int=>
  refine (Tryz.strconv_Itoa n hn.1 hn.2 w (uQ (iv _ Dq rfl) hS (zr _ Dq rfl))).mono ?_
  rintro e w' ⟨rfl,k,os,rfl⟩
  exact ⟨S,ij k os hS,_,rfl,.str _⟩
theorem mM {args:List PV} {r:PV} (h:fI args=some r):∃ s c,args=[.str s,.int .u8 c]/\r=.int .i64 (Ad0 s c.toNat.toUInt8):=by
 unfold fI at h;split at h
 · injection h with h
   exact ⟨_,_,rfl,h.symm⟩
 · cases h
theorem Te:cw 136 fI:=by
 refine ⟨⟨Tryz.f136,_,Acy,by kernel_rfl,rfl⟩,fun args r hr=>?_⟩;obtain ⟨s,c,rfl,rfl⟩:=mM hr;refine ⟨fun t xs h=>(by cases h),fun S vs w hS iv zr DJ=>?_⟩;obtain ⟨v,u,rfl,h0,h1⟩:=mL DJ;cases h0 with
 | str=>
  cases h1 with
  | int=>
   refine (Tryz.strings_IndexByte ⟨s.toArray⟩ c w).mono ?_
   rintro e w' ⟨rfl,rfl⟩
   exact ⟨S,il hS,_,rfl,.int _ _⟩
theorem iq:GX CC:=by
 intro f g hg;show cw f g;have D4:aX f=some g:=hg;unfold aX at D4;split at D4
 · rename_i h
   subst h;injection D4 with D4
   subst D4;exact im
 split at D4
 · rename_i h
   subst h;injection D4 with D4
   subst D4;exact Te
 cases D4
theorem qp {W:World} {c:Array Value} {e:TypeId} {f:Nat×Nat} (hh:W.heap[1]?=some (.cells c e f)) (hc:c.toList=Aav.map fun z=>Acb .u64 z) :
 (∃ c e f,W.heap[1]?=some (.cells c e f)/\c.size=Dq.length)/\Rep (EJ W) [] (.ip Dq) (.pointer (some ⟨1,0,none⟩)):=by
 have I4:c.size=Dq.length:=by
  have:=congrArg List.length hc;simpa [Dq] using this
 have Ht:∀ i,i < Dq.length->W.cell? ⟨1,i,none⟩=some (.int .u64 (Aav.getD i 0)):=fun i hi=>by
  rw [cell_of_heap hh];have Dm:i < Aav.length:=by simpa [Dq] using hi
  have:c.toList[i]?=some (Acb .u64 (Aav.getD i 0)):=by
   rw [hc,Abh,Aax Dm,Abu,Aax Dm];rfl
  simpa using this
 refine ⟨⟨c,e,f,hh,I4⟩,.ip _ _ _ (fun i=>.int .u64 (Aav.getD i 0)) (fun i hi=>?_) (fun i hi=>rfl) (fun i hi=>?_)⟩
 · rw [Ac4];exact Ht i hi
 · have Dm:i < Aav.length:=by simpa [Dq] using hi
   have h1:Dq[i]?=some (.int .u64 (Aav.getD i 0)):=by
    show (Aav.map (PV.int .u64))[i]?=_;rw [Abh,Abu,Aax Dm];rfl
   rw [Aax hi] at h1;injection h1 with h1
   rw [h1];exact .int _ _
end Go.HH
namespace Go.Proofs.YthjcaihemgllaaaGreatDoor
open Go.ChangeShapes Go.WideShapes Go.ChangeAt Go.RowKit Go.HH
set_option linter.unusedVariables false
set_option maxRecDepth 100000
def Zx:List (String×DataW Unit):=[("math/bits.deBruijn32tab",Rows.laid_math_bits_deBruijn32tab),("math/bits.deBruijn64tab",Rows.laid_math_bits_deBruijn64tab),("internal/strconv.uint64pow10",Rows.laid_internal_strconv_uint64pow10)]
theorem mN (os:Os) (args:Array Value):laidMetH Aau Zx ((World.doorLaid Aau 400 os).forCall (fun _ _=>0) ⟨#[],args,[]⟩).memory:=
 laidMetH_of_parts3 (fuel:=8) (laidMet_of_run' 8 (by kernel_rfl) (by kernel_rfl)) (by kernel_rfl) (by kernel_rfl)
theorem qq {W:World} (h:laidMetH Aau Zx W):(∃ c e f,W.heap[1]?=some (.cells c e f)/\c.size=Dq.length)/\Rep (EJ W) [] (.ip Dq) (.pointer (some ⟨1,0,none⟩)):=by
 rw [MakeChecks.laidMetH_plain _ _ _ (by kernel_rfl)] at h;obtain ⟨ps,⟨g0,t0,cs0,f0,p0,q0,hg0,ht0,hv0,tC,⟨g1,t1,cs1,f1,p1,q1,qD,zF,wb,hd1,⟨g2,t2,cs2,f2,p2,q2,qH,yY,Z5,iG,_,_⟩,_⟩,_⟩,_,_⟩:=h;obtain rfl:=Option.some.inj (uP.symm.trans qH);have zf:(Aau.globals[1]?).map (·.type)=some 178:=by kernel_rfl
 obtain rfl:=Option.some.inj (zf.symm.trans yY);have hdat:(Rows.laid_internal_strconv_uint64pow10:DataW Unit)=Lib.tabData .u64 Aav:=by kernel_rfl
 have JQ:=Lib.cells_of_tab (k:=.u64) (zs:=Aav) (n:=20) Ac8 Ac9 (by kernel_rfl) (by kernel_rfl) (by rw [<- hdat];exact iG)
 have K9:∃ c e f,W.heap[1]?=some (.cells c e f)/\c.toList=Aav.map fun z=>Acb .u64 z:=by
  unfold Ad3 at Z5;rw [uP] at Z5;simp only [Aca] at Z5;split at Z5
  · rename_i c e f hh
    injection Z5 with Z5
    exact ⟨c,e,f,hh,by rw [Z5];exact JQ⟩
  · cases Z5
 obtain ⟨c,e,f,hh,hc⟩:=K9;exact qp hh hc
end Go.Proofs.YthjcaihemgllaaaGreatDoor
