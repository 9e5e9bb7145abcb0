/-
  What the law needs, packed: Q3.
-/
import Derived.Test.YthjcaihemgllaaaGreatDoorJ34
open List renaming length_cons->Aa0,length_nil->Aa3,length_append->Aa4,flatMap_cons->Aa9,getD_cons_zero->Aae,getD_cons_succ->Aaf,append_assoc->Aah,all_eq_true->Aai,append_nil->Aaj,set_cons_zero->Aan,set_cons_succ->Aao,range->Aar,drop_eq_getElem_cons->Aas,drop_eq_nil_of_le->Aau,length_singleton->Aav,length_drop->Aax,nil_append->Aaz,mem_range->Ab0,mem_map->Ab1
open Option renaming getD->Aa1
open UInt8 renaming ofNat->Aa2,toNat_lt->Aaa,ofNat_toNat->Aag,toNat_ofNat'->Aam,toNat_inj->Aap
open Go.Proofs.Tryz renaming f168->Aa5,f160->Aa7,f126->Aac,f135->Aad,f169->Aak,f155->Aal
open Nat renaming le_of_ble_eq_true->Aa6,le_refl->Ab2
open Bool renaming and_true->Aa8
open Go.IntKind renaming wrap->Aab,signed->Aaq,bits->Aat
open Int renaming toNat_of_nonneg->Aaw,toNat_natCast->Aay
namespace Go.HH
open Go Go.Proofs
set_option maxRecDepth 100000
set_option linter.unusedSimpArgs false
set_option linter.unusedVariables false
def Ye (d:Nat):UInt8:=Aa2 (if d < 10 then 48+d else 87+d)
def GC (n:Nat):List UInt8:=if n=34\/n=92 then [92,Aa2 n] else if n < 32\/126 < n then [92,120,Ye (n / 16),Ye (n % 16)] else [Aa2 n]
def BL (c:UInt8):List UInt8:=GC c.toNat
def nM (n:Nat):Int:=if 48<=n/\n<=57 then n - 48 else if 97<=n/\n<=102 then n - 87 else -1
def F5 (c:UInt8):Int:=nM c.toNat
noncomputable def aC (f:FuncId) (g:Nat->List UInt8) (n:Nat):Bool:=match Ff CC 50 f [.int .u8 n] [] with
 | some (.ret (.str s),[])=>s == g n
 | _=>false
noncomputable def aD (k:IntKind) (f:FuncId) (g:Nat->Int) (n:Nat):Bool:=match Ff CC 50 f [.int .u8 n] [] with
 | some (.ret (.int k' v),[])=>k == k' && v == g n
 | _=>false
theorem ft {f:FuncId} {g:Nat->List UInt8} (h:(Aar 256).all (aC f g)=true) (c:UInt8):Ad CC f [.int .u8 (c.toNat:Int)] []=some (.ret (.str (g c.toNat)),[]):=by
 have:=Aai.1 h c.toNat (Ab0.2 (Aaa c));unfold aC at this;split at this
 · rename_i s hs
   have e:s=g c.toNat:=by simpa using this
   subst e;exact ES.2 ⟨50,hs⟩
 · cases this
theorem fu {k:IntKind} {f:FuncId} {g:Nat->Int} (h:(Aar 256).all (aD k f g)=true) (c:UInt8):Ad CC f [.int .u8 (c.toNat:Int)] []=some (.ret (.int k (g c.toNat)),[]):=by
 have:=Aai.1 h c.toNat (Ab0.2 (Aaa c));unfold aD at this;split at this
 · rename_i k' v hs
   simp only [Bool.and_eq_true,beq_iff_eq] at this;obtain ⟨e1,e2⟩:=this;subst e1 e2;exact ES.2 ⟨50,hs⟩
 · cases this
theorem jf:(Aar 256).all (aC 156 GC)=true:=by kernel_rfl
theorem nN:(Aar 256).all (aD .i64 177 nM)=true:=by kernel_rfl
theorem HW (c:UInt8) (bx):Ai CC (Ad CC) 156 [.int .u8 (c.toNat:Int)] bx=some (.ret (.str (BL c)),bx):=Aq rfl (by simp only [SA,Aa8]) (ft jf c) rfl
theorem Fl (c:UInt8) (bx):Ai CC (Ad CC) 177 [.int .u8 (c.toNat:Int)] bx=some (.ret (.int .i64 (F5 c)),bx):=Aq rfl (by simp only [SA,Aa8]) (fu nN c) rfl
theorem TC:Be CC Aa5 (Aa5.body.getD .skip)=true:=by kernel_rfl
theorem Rs:CC.P.funcs[168]?=some Aa5:=by kernel_rfl
theorem nO:∀ a:_root_.Fin 16,∀ b:_root_.Fin 16,LA .or .i64 ((a.val:Int) * 16) (b.val:Int)=some ((a.val:Int) * 16+b.val):=by decide +kernel
theorem rM {a b:Int} (ha:0<=a/\a < 16) (hb:0<=b/\b < 16):LA .or .i64 (a * 16) b=some (a * 16+b):=by
 have:=nO ⟨a.toNat,by omega⟩ ⟨b.toNat,by omega⟩;simp only at this
 rwa [Aaw ha.1,Aaw hb.1] at this
theorem y' {a:Int} (ha:0<=a/\a < 16):J9 .shl .i64 a 4=some (.int .i64 (a * 16)):=by
 have w:=wrap_i64 (n:=a * 16) ⟨by omega,by omega⟩;unfold J9;rw [if_neg (by decide)];show some (PV.int .i64 (Aab .i64 (a * 2 ^ (min (Int.toNat 4) 64))))=_;rw [show (2:Int) ^ (min (Int.toNat 4) 64)=16 from by decide,w]
theorem Qt (c:UInt8):-1<=F5 c/\F5 c < 16:=by unfold F5 nM;split <;> (try split) <;> omega
theorem fw (n:Int) (h:0<=n/\n < 256):Gh CC 3 5 (.int .i64 n)=some (.int .u8 n):=by
 have w:Aab .u8 n=n:=by simp [Aab,Aat,Aaq];omega
 unfold Gh;simp only [TG,w]
theorem U7 (n:Int) (h:0<=n/\n < 256):Gh CC 5 3 (.int .u8 n)=some (.int .i64 n):=by
 unfold Gh;simp only [TG,wrap_i64 (n:=n) ⟨by omega,by omega⟩]
theorem U8 (n:Int) (h:0<=n/\n < 256):Gh CC 5 21 (.int .u8 n)=some (.int .i32 n):=by
 have w:Aab .i32 n=n:=by simp [Aab,Aat,Aaq];omega
 unfold Gh;simp only [TG,w]
theorem fx (n:Int) (h:0<=n/\n < 256):Gh CC 21 5 (.int .i32 n)=some (.int .u8 n):=by
 have w:Aab .u8 n=n:=by simp [Aab,Aat,Aaq];omega
 unfold Gh;simp only [TG,w]
def Ln (x y:UInt8):Nat:=(F5 x * 16+F5 y).toNat
def Bm:List UInt8->Nat×Nat
 | []=>(0,0)
 | c :: r=>
  if c.toNat=34 then (0,0)
  else if c.toNat≠92 then (if BL c=[c] then (c.toNat,1) else (0,0))
  else match r with
   | []=>(0,0)
   | d :: r=>
    if d.toNat=34\/d.toNat=92 then (d.toNat,2)
    else match r with
     | x :: y :: _=>if d.toNat=120/\0<=F5 x/\0<=F5 y/\GC (Ln x y)=[c,d,x,y] then (Ln x y,4) else (0,0)
     | _=>(0,0)
theorem Yf (s:List UInt8):(Bm s).1 < 256/\(Bm s).2<=s.length/\(Bm s).2<=4:=by
 unfold Bm;split
 · simp
 · rename_i c r
   have:=Aaa c;split
   · simp
   · split
     · split <;> simp <;> omega
     · cases r with
       | nil=>simp
       | cons d r=>
        have:=Aaa d;simp only;split
        · simp;omega
        · match r with
          | []=>simp
          | [_]=>simp
          | x :: y :: r=>
           have:=Qt x;have:=Qt y;unfold Ln;simp only;split <;> simp <;> omega
theorem we (s:List UInt8) (n:Nat) (c:UInt8) (h:s[n]?=some c):DA CC 9 (.str s) (.int .i64 (n:Int))=some (.int .u8 (c.toNat:Int)):=Ki s n c h
theorem PB (s:List UInt8) (hs:s.length<=1000000):Ad CC 168 [.str s] []=some (.ret (.tup [.int .u8 ((Bm s).1:Int),.int .i64 ((Bm s).2:Int)]),[]):=by
 rw [Ah (fn:=Aa5) (c:=Aa5.body.getD .skip) rfl rfl Rs rfl TC (Aa6 rfl)];have hl:=Bk s
 match s,hs with
 | [],_=>
  rw [<- An];simp only [Ab,Ac,Aa5,Aa1];simp only [S7,Ag,seval,TG,Ct]
  try rfl
 | c :: r,hs=>
  have i0:DA CC 9 (.str (c :: r)) (.int .i64 0)=some (.int .u8 (c.toNat:Int)):=we (c :: r) 0 c rfl;have Dz:((c :: r:List UInt8) == [])=false:=rfl;by_cases c1:c.toNat=34
  · have c1':((c.toNat:Int) == 34)=true:=by simp [c1]
    have e:Bm (c :: r)=(0,0):=by unfold Bm;simp only;rw [if_pos c1]
    rw [e];rw [<- An];simp only [Ab,Ac,Aa5,Aa1];simp only [S7,Ag,seval,TG,Ct,Dz,i0,c1']
    try rfl
  · have c1':((c.toNat:Int) == 34)=false:=by simp;omega
    by_cases c2:c.toNat=92
    · have c2':((c.toNat:Int) != 92)=false:=by simp [c2]
      match r,hs with
      | [],_=>
       have e:Bm [c]=(0,0):=by unfold Bm;simp only;rw [if_neg c1,if_neg (by omega)]
       have l1:¬ (((0+1:Nat):Int) ≥ 2):=by decide
       have l2:(((0+1:Nat):Int) < 4):=by decide
       rw [e];rw [<- An];simp only [Ab,Ac,Aa5,Aa1];simp only [S7,Ag,seval,TG,Ct,Dz,i0,c1',c2',l1,l2]
       try rfl
      | d :: r,hs=>
       have i1:DA CC 9 (.str (c :: d :: r)) (.int .i64 1)=some (.int .u8 (d.toNat:Int)):=we (c :: d :: r) 1 d rfl;by_cases c3:d.toNat=34
       · have c3':((d.toNat:Int) == 34)=true:=by simp [c3]
         have e:Bm (c :: d :: r)=(d.toNat,2):=by unfold Bm;simp only;rw [if_neg c1,if_neg (by omega)];rw [if_pos (Or.inl c3)]
         rw [e];have hl:=Bk (c :: d :: r);have l1:(((c :: d :: r:List UInt8).length:Int) ≥ 2):=by simp only [Aa0,Aa3];omega
         generalize (c :: d :: r:List UInt8)=S at *;rw [<- An];simp only [Ab,Ac,Aa5,Aa1];simp only [S7,Ag,seval,TG,Ct,Dz,hl,i0,i1,c1',c2',l1,c3']
         try rfl
       · have c3':((d.toNat:Int) == 34)=false:=by simp;omega
         by_cases c4:d.toNat=92
         · have c4':((d.toNat:Int) == 92)=true:=by simp [c4]
           have e:Bm (c :: d :: r)=(d.toNat,2):=by unfold Bm;simp only;rw [if_neg c1,if_neg (by omega)];rw [if_pos (Or.inr c4)]
           rw [e];have hl:=Bk (c :: d :: r);have l1:(((c :: d :: r:List UInt8).length:Int) ≥ 2):=by simp only [Aa0,Aa3];omega
           generalize (c :: d :: r:List UInt8)=S at *;rw [<- An];simp only [Ab,Ac,Aa5,Aa1];simp only [S7,Ag,seval,TG,Ct,Dz,hl,i0,i1,c1',c2',l1,c3',c4']
           try rfl
         · have c4':((d.toNat:Int) == 92)=false:=by simp;omega
           match r,hs with
           | [],_=>
            have e:Bm [c,d]=(0,0):=by unfold Bm;simp only;rw [if_neg c1,if_neg (by omega)];rw [if_neg (by omega)]
            have l2:((([c,d]:List UInt8).length:Int) < 4):=by simp only [Aa0,Aa3];omega
            rw [e];have hl:=Bk ([c,d]);have l1:((([c,d]:List UInt8).length:Int) ≥ 2):=by simp only [Aa0,Aa3];omega
            generalize ([c,d]:List UInt8)=S at *;rw [<- An];simp only [Ab,Ac,Aa5,Aa1];simp only [S7,Ag,seval,TG,Ct,Dz,hl,i0,i1,c1',c2',l1,l2,c3',c4']
            try rfl
           | [x],_=>
            have e:Bm [c,d,x]=(0,0):=by unfold Bm;simp only;rw [if_neg c1,if_neg (by omega)];rw [if_neg (by omega)]
            have l2:((([c,d,x]:List UInt8).length:Int) < 4):=by simp only [Aa0,Aa3];omega
            rw [e];have hl:=Bk ([c,d,x]);have l1:((([c,d,x]:List UInt8).length:Int) ≥ 2):=by simp only [Aa0,Aa3];omega
            generalize ([c,d,x]:List UInt8)=S at *;rw [<- An];simp only [Ab,Ac,Aa5,Aa1];simp only [S7,Ag,seval,TG,Ct,Dz,hl,i0,i1,c1',c2',l1,l2,c3',c4']
            try rfl
           | x :: y :: r,hs=>
            have l2:¬ (((c :: d :: x :: y :: r:List UInt8).length:Int) < 4):=by simp only [Aa0,Aa3];omega
            have i2:DA CC 9 (.str (c :: d :: x :: y :: r)) (.int .i64 2)=some (.int .u8 (x.toNat:Int)):=we (c :: d :: x :: y :: r) 2 x rfl;have i3:DA CC 9 (.str (c :: d :: x :: y :: r)) (.int .i64 3)=some (.int .u8 (y.toNat:Int)):=we (c :: d :: x :: y :: r) 3 y rfl
            have e:Bm (c :: d :: x :: y :: r)=if d.toNat=120/\0<=F5 x/\0<=F5 y/\GC (Ln x y)=[c,d,x,y] then (Ln x y,4) else (0,0):=by
             conv=>lhs;unfold Bm
             simp only;rw [if_neg c1,if_neg (by omega),if_neg (by omega)]
            rw [e];have hx:=Qt x;have hy:=Qt y;have Mr:=U3 (c :: d :: x :: y :: r) 4 (by omega) (by simp only [Aa0];omega);by_cases c5:d.toNat=120
            · have c5':((d.toNat:Int) != 120)=false:=by simp [c5]
              by_cases c6:F5 x < 0
              · rw [if_neg (by omega)]
                have hl:=Bk (c :: d :: x :: y :: r);have l1:(((c :: d :: x :: y :: r:List UInt8).length:Int) ≥ 2):=by simp only [Aa0,Aa3];omega
                generalize (c :: d :: x :: y :: r:List UInt8)=S at *;rw [<- An];have o_names_hex:=@Fl;rw [<- AL] at o_names_hex;simp only [Ab,Ac,Aa5,Aa1];simp only [S7,Ag,seval,TG,Ct,Dz,hl,i0,i1,i2,i3,c1',c2',l1,l2,c3',c4',c5',c6,o_names_hex]
                try rfl
              · by_cases c7:F5 y < 0
                · rw [if_neg (by omega)]
                  have hl:=Bk (c :: d :: x :: y :: r);have l1:(((c :: d :: x :: y :: r:List UInt8).length:Int) ≥ 2):=by simp only [Aa0,Aa3];omega
                  generalize (c :: d :: x :: y :: r:List UInt8)=S at *;rw [<- An];have o_names_hex:=@Fl;rw [<- AL] at o_names_hex;simp only [Ab,Ac,Aa5,Aa1];simp only [S7,Ag,seval,TG,Ct,Dz,hl,i0,i1,i2,i3,c1',c2',l1,l2,c3',c4',c5',c6,c7,o_names_hex]
                  try rfl
                · have s1:=y' (a:=F5 x) ⟨by omega,by omega⟩
                  have s2:=rM (a:=F5 x) (b:=F5 y) ⟨by omega,by omega⟩ ⟨by omega,by omega⟩;have s3:=fw (F5 x * 16+F5 y) ⟨by omega,by omega⟩;have h2:F5 x * 16+F5 y=(Ln x y:Int):=by unfold Ln;omega
                  have bZ:Ln x y < 256:=by unfold Ln;omega
                  have hv:(Aa2 (Ln x y)).toNat=Ln x y:=by rw [Aam];omega
                  rw [h2] at s2 s3;generalize Ln x y=v at *;have of1:=HW (Aa2 v);unfold BL at of1;rw [hv] at of1;by_cases c8:GC v=[c,d,x,y]
                  · have c8':(GC v == (c :: d :: x :: y :: r).take 4)=true:=by rw [c8];simp
                    rw [if_pos ⟨c5,by omega,by omega,c8⟩];have hl:=Bk (c :: d :: x :: y :: r);have l1:(((c :: d :: x :: y :: r:List UInt8).length:Int) ≥ 2):=by simp only [Aa0,Aa3];omega
                    generalize (c :: d :: x :: y :: r:List UInt8)=S at *;rw [<- An];have o_names_hex:=@Fl;rw [<- AL] at o_names_hex;rw [<- AL] at of1;simp only [Ab,Ac,Aa5,Aa1];simp only [S7,Ag,seval,TG,Ct,DD,Dz,hl,i0,i1,i2,i3,c1',c2',l1,l2,c3',c4',c5',c6,c7,o_names_hex,s1,s2,s3,of1,Mr,c8']
                    try rfl
                  · have c8':(GC v == (c :: d :: x :: y :: r).take 4)=false:=by simpa using c8
                    rw [if_neg (fun h=>c8 h.2.2.2)];have hl:=Bk (c :: d :: x :: y :: r);have l1:(((c :: d :: x :: y :: r:List UInt8).length:Int) ≥ 2):=by simp only [Aa0,Aa3];omega
                    generalize (c :: d :: x :: y :: r:List UInt8)=S at *;rw [<- An];have o_names_hex:=@Fl;rw [<- AL] at o_names_hex;rw [<- AL] at of1;simp only [Ab,Ac,Aa5,Aa1];simp only [S7,Ag,seval,TG,Ct,DD,Dz,hl,i0,i1,i2,i3,c1',c2',l1,l2,c3',c4',c5',c6,c7,o_names_hex,s1,s2,s3,of1,Mr,c8']
                    try rfl
            · have c5':((d.toNat:Int) != 120)=true:=by simp;omega
              rw [if_neg (fun h=>c5 h.1)];have hl:=Bk (c :: d :: x :: y :: r);have l1:(((c :: d :: x :: y :: r:List UInt8).length:Int) ≥ 2):=by simp only [Aa0,Aa3];omega
              generalize (c :: d :: x :: y :: r:List UInt8)=S at *;rw [<- An];have o_names_hex:=@Fl;rw [<- AL] at o_names_hex;simp only [Ab,Ac,Aa5,Aa1];simp only [S7,Ag,seval,TG,Ct,Dz,hl,i0,i1,i2,i3,c1',c2',l1,l2,c3',c4',c5',o_names_hex]
              try rfl
    · have c2':((c.toNat:Int) != 92)=true:=by simp;omega
      have Mr:=U3 (c :: r) 1 (by omega) (by simp only [Aa0];omega)
      have e:Bm (c :: r)=if BL c=[c] then (c.toNat,1) else (0,0):=by
       conv=>lhs;unfold Bm
       simp only;rw [if_neg c1,if_pos c2]
      rw [e];rw [<- An];have o_names_form:=@HW;rw [<- AL] at o_names_form;simp only [Ab,Ac,Aa5,Aa1];by_cases c3:BL c=[c]
      · have c3':(BL c == (c :: r).take 1)=true:=by rw [c3];simp
        rw [if_pos c3];simp only [S7,Ag,seval,TG,Ct,DD,Dz,i0,c1',c2',o_names_form,Mr,c3']
        try rfl
      · have c3':(BL c == (c :: r).take 1)=false:=by simpa using c3
        rw [if_neg c3];simp only [S7,Ag,seval,TG,Ct,DD,Dz,i0,c1',c2',o_names_form,Mr,c3']
        try rfl
theorem TD (s:List UInt8) (hs:s.length<=1000000) (bx):Ai CC (Ad CC) 168 [.str s] bx=some (.ret (.tup [.int .u8 ((Bm s).1:Int),.int .i64 ((Bm s).2:Int)]),bx):=Aq rfl (by simp only [SA,Aa8]) (PB s hs) rfl
theorem Gx:Be CC Aak (Aak.body.getD .skip)=true:=by kernel_rfl
theorem Gk:CC.P.funcs[169]?=some Aak:=by kernel_rfl
theorem PC:Be CC Aa7 (Aa7.body.getD .skip)=true:=by kernel_rfl
theorem N4:CC.P.funcs[160]?=some Aa7:=by kernel_rfl
theorem N5:Be CC Aad (Aad.body.getD .skip)=true:=by kernel_rfl
theorem MN:CC.P.funcs[135]?=some Aad:=by kernel_rfl
def GQ (l:List UInt8):List PV:=l.map fun b=>.int .u8 (b.toNat:Int)
theorem Pc (l:List UInt8):bytesOf (GQ l)=some l:=by
 induction l with
 | nil=>rfl
 | cons b r ih=>
  show (bytesOf (GQ r)).map (Aa2 ((b.toNat:Int)).toNat :: ·)=some (b :: r);rw [ih,Aay,Aag];rfl
theorem Ha (l:List UInt8):(GQ l).length=l.length:=by simp [GQ]
theorem cz (l:List UInt8):((GQ l).all fun y=>y.cells.length == 1)=true:=by
 rw [Aai];intro x hx;obtain ⟨b,_,rfl⟩:=Ab1.1 hx;rfl
theorem fy (l:List UInt8):(GQ l).all U2=true:=by
 rw [Aai];intro x hx;obtain ⟨b,_,rfl⟩:=Ab1.1 hx;have:=Aaa b;simp [U2];omega
theorem L5 (n:Nat) (l:List UInt8):Ar n (GQ l)=true:=by
 induction l with
 | nil=>rfl
 | cons b r ih=>simpa [GQ,Ar,PV.under] using ih
theorem jg (l:List UInt8) (n:Nat) (h:n < 256):GQ l++[.int .u8 (n:Int)]=GQ (l++[Aa2 n]):=by
 unfold GQ;rw [List.map_append]
 congr 1
 simp only [List.map_cons,List.map_nil];rw [Aam]
 congr 2
 omega
theorem qh (n:Int):AZ CC 70 1 [(0,.int .u8 n)]=some (.osl 5 [.int .u8 n]):=by
 have hz:tZero CC 5=some (.int .u8 0):=by kernel_rfl
 have hi:∃ i,CC.P.info? 5=some i/\i.size=1:=⟨(Tryz.prog.info? 5).getD default,by kernel_rfl,by kernel_rfl⟩;obtain ⟨i,hi,hs⟩:=hi;unfold AZ;simp only [TG,hz,hi,hs];rfl
noncomputable def IB:TypeInfo:=(Tryz.prog.info? 5).getD default
theorem qi (st:St) (al:List (Nat×Loc)) (s x:Operand) (d:Option Tmp):DT CC st al s x 70 70 d=match CZ CC st al 5 s,CJ (opd CC st.env x) with
 | some (l,xs),some ys=>MH 1 1 5 st al l xs ys d
 | _,_=>none:=EV (i:=IB) (by kernel_rfl) (by kernel_rfl) (by kernel_rfl) (z:=.int .u8 0) (by kernel_rfl) (by kernel_rfl) (by rw [show IB.size=1 from by kernel_rfl];decide) (by kernel_rfl) (by kernel_rfl)
def Dy (l:List UInt8):PV:=if l=[] then .nils else .osl 5 (GQ l)
theorem Kn {n:Nat} {r:CR} {bx:List PBox} (h:bx.length<=n):Es n r bx=bx:=by
 unfold Es;split
 · exact List.take_of_length_le h
 · rfl
theorem MO (p:PV) (hp:p=.nilp\/p=.bp 0 0) (q:PV) (hq:q.under 1=true):Ai CC (Ad CC) 166 [.bp 0 0] [.cells 153 [p,q]]=some (.ret (.tup []),[.cells 153 [.bp 0 0,q]]):=by
 have hh:CC.hprim 166=some uV:=rfl
 have hc:Ad CC 166 [.bp 0 0] [.cells 153 [p,q]]=some (.ret (.tup []),[.cells 153 [.bp 0 0,q]]):=by
  unfold Ad En;rw [hh];rcases hp with rfl | rfl <;> rfl
 unfold Ai;rw [if_pos (by rfl),hc];simp only;unfold Es;split <;> rfl
theorem aE (l:List UInt8) (p:PV):Ad CC 157 [.bp 0 0] [.cells 153 [p,Dy l]]=some (.ret (.str l),[.cells 153 [p,if l=[] then .nils else .sl (GQ l)]]):=by
 have hh:CC.hprim 157=some Pb:=rfl;unfold Ad En;rw [hh];unfold Dy;by_cases h:l=[]
 · subst h;rfl
 · rw [if_neg h,if_neg h]
   have h1:(GQ l).isEmpty=false:=by cases l with | nil=>exact absurd rfl h | cons=>rfl
   show Option.map _ (Pb [.bp 0 0] [.cells 153 [p,.osl 5 (GQ l)]])=_;unfold Pb;simp only [List.getElem?_cons_zero];rw [if_pos (show _/\_ from by simp only [h1,fy l,and_self]),Pc];rfl
theorem Rt (l:List UInt8) (hl:l.length<=900000) (p:PV) (hp:p=.nilp\/p=.bp 0 0) (n:Nat) (hn:n < 256):Ad CC 169 [.bp 0 0,.int .u8 (n:Int)] [.cells 153 [p,Dy l]] =
 some (.ret .nili,[.cells 153 [.bp 0 0,.osl 5 (GQ (l++[Aa2 n]))]]):=by
 rw [Ah (fn:=Aak) (c:=Aak.body.getD .skip) rfl rfl Gk rfl Gx (Aa6 rfl)];have uo:=Ha l
 have hq:(Dy l).under 1=true:=by
  unfold Dy;split
  · rfl
  · simpa [PV.under] using L5 1 l
 have ho:=MO p hp (Dy l) hq;have Zk:=jg l n hn;have hlen:(GQ l).length+1<=1000000:=by omega
 rw [<- An];rw [<- AL] at ho;have hpn:Al [.bp 0 0]=false:=rfl;simp only [Ab,Ac,Aak,Aa1];unfold Dy at *;by_cases h:l=[]
 · subst h
   rw [if_pos rfl] at ho |-;have Zk:[PV.int .u8 (n:Int)]=GQ ([]++[Aa2 n]):=Zk;simp only [S8,Ag,SH,seval,ho,Kg,GV,lay,CX,List.filter_nil,Aaf,Aae,qh,qi];rw [show [PV.int .u8 (n:Int)]=GQ [Aa2 n] from Zk];rfl
 · rw [if_neg h] at ho |-
   simp only [S8,Ag,SG,SH,seval,ho,CX,Aaf,Aae,qh,qi,hlen,Aan,Aao];rw [Zk]
   try rfl
def Ip:Nat->List UInt8->Option (List UInt8×Nat)
 | 0,_=>none
 | m+1,s=>match s with
  | []=>none
  | c :: _=>if c.toNat=34 then some ([],0)
   else if (Bm s).2=0 then none
   else (Ip m (s.drop (Bm s).2)).map fun r=>(Aa2 (Bm s).1 :: r.1,(Bm s).2+r.2)
theorem MP (l:List UInt8) (hl:l.length<=900000) (p:PV) (hp:p=.nilp\/p=.bp 0 0) (n:Nat) (hn:n < 256):Ai CC (Ad CC) 169 [.bp 0 0,.int .u8 (n:Int)] [.cells 153 [p,Dy l]] =
 some (.ret .nili,[.cells 153 [.bp 0 0,Dy (l++[Aa2 n])]]):=by
 have h:=Rt l hl p hp n hn;unfold Ai;rw [if_pos (by rfl),h]
 have hb:Dy (l++[Aa2 n])=.osl 5 (GQ (l++[Aa2 n])):=by
  unfold Dy;rw [if_neg (by simp)]
 rw [hb];simp only;unfold Es;split <;> rfl
theorem JE (l:List UInt8) (p:PV):Ai CC (Ad CC) 157 [.bp 0 0] [.cells 153 [p,Dy l]]=some (.ret (.str l),[.cells 153 [p,if l=[] then .nils else .sl (GQ l)]]):=by
 unfold Ai;rw [if_pos (by rfl),aE];simp only;rw [Kn (by simp)]
def PQ (s:List UInt8) (l:List UInt8) (i:Nat) (o:Option (List UInt8×Nat)) (r:Option (Ex×St)):Prop:=match o with
 | some (t,k)=>∃ e p,r=some (.exit 0,⟨e,[.cells 153 [p,Dy (l++t)]]⟩)/\getT e 0=.str s/\getT e 4=.bp 0 0/\getT e 5=.int .i64 ((i+k:Nat):Int)/\i+k < s.length
 | none=>(∃ e bx,r=some (.ret,⟨e,bx⟩)/\getT e 2=.str []/\getT e 3=.int .i64 0)\/(∃ e bx,r=some (.exit 0,⟨e,bx⟩)/\getT e 0=.str s/\getT e 5=.int .i64 (s.length:Int))
theorem MQ (L:Code) (hL:L=Ab Aa7 [1,1,1,1,0,0]) (s:List UInt8) (hs:s.length<=900000):∀ (m i:Nat) (l:List UInt8) (p:PV) (e:List PV),s.length - i < m->i<=s.length->l.length<=i->(p=.nilp\/p=.bp 0 0)->getT e 0=.str s->getT e 4=.bp 0 0->getT e 5=.int .i64 i ->
 PQ s l i (Ip m (s.drop i)) (Co CC L ⟨e,[.cells 153 [p,Dy l]]⟩):=by
 intro m
 induction m with
 | zero=>intro i l p e hm;omega
 | succ m ih=>
  intro i l p e hm hi xS hp h0 h4 h5;rw [A3 (Ab Aa7 [1,1,1,1,0,0,0]) hL];have hlen:=Bk s;by_cases Bz:i < s.length
  · have hx:s[i]?=some s[i]:=by simp
    have IU:s.drop i=s[i] :: s.drop (i+1):=Aas Bz;have Qp:=Ki s i _ hx;have OW:(i:Int) < (s.length:Int):=by omega
    have gX:Ip (m+1) (s.drop i)=if s[i].toNat=34 then some ([],0) else if (Bm (s.drop i)).2=0 then none else (Ip m ((s.drop i).drop (Bm (s.drop i)).2)).map fun r=>(Aa2 (Bm (s.drop i)).1 :: r.1,(Bm (s.drop i)).2+r.2):=by
     rw [IU];rfl
    rw [gX];generalize hc:s[i]=c at *;by_cases c1:c.toNat=34
    · have c1':((c.toNat:Int) != 34)=false:=by simp [c1]
      rw [if_pos c1];rw [<- An];simp only [Ab,Ac,Aa7,Aa1];simp only [S8,Ag,seval,h0,h4,h5,hlen,OW,Qp,c1'];exact ⟨_,p,by rw [Aaj],by simp only [S7,Ag,seval,h0],by simp only [S7,Ag,seval,h4],by simp only [S7,Ag,seval,h5];rfl,by omega⟩
    · have c1':((c.toNat:Int) != 34)=true:=by simp;omega
      rw [if_neg c1];have Mr:=fk s i (by omega) (by omega);rw [Aay] at Mr;have pT:=Yf (s.drop i);rw [Aax] at pT;have mY:=TD (s.drop i) (by rw [Aax];omega);rw [List.drop_drop];generalize Bm (s.drop i)=nx at *;obtain ⟨v,n⟩:=nx;simp only at pT mY |-;by_cases c2:n=0
      · have c2':((n:Int) == 0)=true:=by simp [c2]
        rw [if_pos c2];rw [c2] at mY;have z:(((0:Nat):Int) == 0)=true:=rfl;rw [<- An];rw [<- AL] at mY;simp only [Ab,Ac,Aa7,Aa1];simp only [S8,Ag,seval,h0,h4,h5,hlen,OW,Qp,c1',Mr,mY,z];exact .inl ⟨_,_,rfl,by simp only [S7,Ag,seval],by simp only [S7,Ag,seval]⟩
      · have c2':((n:Int) == 0)=false:=by simp;omega
        rw [if_neg c2];have hwb:=MP l (by omega) p hp v pT.1;have hw:=wrap_i64 (n:=(i:Int)+(n:Int)) ⟨by omega,by omega⟩;have key:=fun e=>ih (i+n) (l++[Aa2 v]) (.bp 0 0) e (by omega) (by omega) (by rw [Aa4,Aav];omega) (Or.inr rfl)
        have lift:∀ r,PQ s (l++[Aa2 v]) (i+n) (Ip m (s.drop (i+n))) r->PQ s l i ((Ip m (s.drop (i+n))).map fun r=>(Aa2 v :: r.1,n+r.2)) r:=by
         intro r h;cases ho:Ip m (s.drop (i+n)) with
         | none=>rw [ho] at h;exact h
         | some tk=>
          obtain ⟨t,k⟩:=tk;rw [ho] at h;obtain ⟨e,p,h1,h2,h3,h4,h5⟩:=h;refine ⟨e,p,?_,h2,h3,?_,by show i+(n+k) < s.length;omega⟩
          · rw [h1]
            show some (Ex.exit 0,St.mk e [.cells 153 [p,Dy (l++[Aa2 v]++t)]])=some (Ex.exit 0,St.mk e [.cells 153 [p,Dy (l++Aa2 v :: t)]]);rw [Aah];rfl
          · rw [h4]
            show PV.int .i64 ((i+n+k:Nat):Int)=PV.int .i64 ((i+(n+k):Nat):Int);rw [Nat.add_assoc]
        apply lift;rw [<- An];rw [<- AL] at mY hwb;rw [<- An] at key;simp only [Ab,Ac,Aa7,Aa1];simp only [S8,Ag,seval,h0,h4,h5,hlen,OW,Qp,c1',Mr,mY,c2',hwb,hw];exact key _ (by simp only [S7,Ag,seval,h0]) (by simp only [S7,Ag,seval,h4]) (by simp only [S7,Ag,seval] <;> rfl)
  · have OW:¬ (i:Int) < (s.length:Int):=by omega
    have IU:s.drop i=[]:=Aau (by omega);rw [IU];have gX:Ip (m+1) []=none:=rfl;rw [gX];rw [<- An];simp only [Ab,Ac,Aa7,Aa1];simp only [S8,Ag,seval,h0,h4,h5,hlen,OW];exact .inr ⟨_,_,rfl,by simp only [S7,Ag,seval,h0],by simp only [S7,Ag,seval,h5];rw [show i=s.length from by omega]⟩
def Di (s:List UInt8):List UInt8×Nat:=if s.head?=some 34 then (match Ip s.length (s.drop 1) with
 | some (t,k)=>(t,k+2)
 | none=>([],0)) else ([],0)
def Xr (s:List UInt8):List UInt8×Int:=if (Di s).2=0\/(Di s).2≠s.length then ([],4) else if (Di s).1.length > 60 then ([],3) else ((Di s).1,0)
theorem zcB:zeroCells CC 153=some [.nilp,.nils]:=by kernel_rfl
theorem MR (s:List UInt8) (hs:s.length<=900000):∃ bx,Ad CC 160 [.str s] []=some (.ret (.tup [.str (Di s).1,.int .i64 ((Di s).2:Int)]),bx):=by
 rw [Ah (fn:=Aa7) (c:=Aa7.body.getD .skip) rfl rfl N4 rfl PC (Aa6 rfl)];have hlen:=Bk s;unfold Di
 match s,hs with
 | [],_=>
  rw [<- An];simp only [Ab,Ac,Aa7,Aa1];simp only [S8,Ag,seval,Ct];exact ⟨_,rfl⟩
 | c :: r,hs=>
  have i0:DA CC 9 (.str (c :: r)) (.int .i64 0)=some (.int .u8 (c.toNat:Int)):=we (c :: r) 0 c rfl;have Dz:((c :: r:List UInt8) == [])=false:=rfl;have pU:c=34↔c.toNat=34:=by rw [<- Aap];rfl
  have hh:(c :: r).head?=some c:=rfl;rw [hh];by_cases c1:c.toNat=34
  · have c1':((c.toNat:Int) != 34)=false:=by simp [c1]
    rw [if_pos (by rw [pU.2 c1])];have Af:=fun e h0 h4 h5=>MQ _ rfl (c :: r) hs (c :: r).length 1 [] .nilp e (by simp only [Aa0];omega) (by simp only [Aa0];omega) (by simp) (Or.inl rfl) h0 h4 h5;generalize hS:(c :: r:List UInt8)=S at *;have Ms:Dy []=.nils:=rfl;rw [Ms] at Af;have hw:∀ k:Nat,k<=S.length->Aab .i64 ((k:Int)+1)=(k:Int)+1:=fun k hk=>wrap_i64 ⟨by omega,by omega⟩;have pV:=JE;rw [<- An];rw [<- An] at Af;rw [<- AL] at pV;simp only [Ab,Ac,Aa7,Aa1] at Af |-;simp only [S8,Ag,seval,SC,Ct,Dz,i0,c1',zcB];generalize hE:Hp _ ⟨_,[PBox.cells 153 [.nilp,.nils]]⟩=res
    have hP:PQ S [] 1 (Ip S.length (S.drop 1)) res:=by
     rw [<- hE];exact Af _ (by simp only [S7,Ag,seval]) (by simp only [S7,Ag,seval]) (by simp only [S7,Ag,seval] <;> rfl)
    clear hE Af;cases hu:Ip S.length (S.drop 1) with
    | some tk=>
     obtain ⟨t,k⟩:=tk;rw [hu] at hP;obtain ⟨e',p,he,g0,g4,g5,Bz⟩:=hP;subst he;have QJ:¬ ((1+k:Nat):Int) ≥ (S.length:Int):=by omega
     have Mt:=hw (1+k) (by omega);have Ez:=pV t p;rw [Aaz];generalize mA:1+k=k1 at *;have Zx:((k+2:Nat):Int)=(k1:Int)+1:=by omega
     simp only [S8,Ag,seval,g0,g4,g5,hlen,QJ,Ez,Mt,Zx];exact ⟨_,rfl⟩
    | none=>
     rw [hu] at hP;rcases hP with ⟨e',bx',he,g2,g3⟩ | ⟨e',bx',he,g0,g5⟩
     · subst he
       simp only [S8,Ag,seval,g2,g3];exact ⟨_,rfl⟩
     · subst he
       have QJ:(S.length:Int) ≥ (S.length:Int):=Int.le_refl _;simp only [S8,Ag,seval,g0,g5,hlen,QJ];exact ⟨_,rfl⟩
  · have c1':((c.toNat:Int) != 34)=true:=by simp;omega
    rw [if_neg (fun e=>c1 (pU.1 (Option.some.inj e)))];rw [<- An];simp only [Ab,Ac,Aa7,Aa1];simp only [S8,Ag,seval,Ct,Dz,i0,c1'];exact ⟨_,rfl⟩
theorem PD (s:List UInt8) (hs:s.length<=900000) (bx):Ai CC (Ad CC) 160 [.str s] bx=some (.ret (.tup [.str (Di s).1,.int .i64 ((Di s).2:Int)]),bx):=by
 obtain ⟨b,h⟩:=MR s hs;exact Aq rfl (by simp only [SA,Aa8]) h (by simp only [SE,SA,Aa8])
theorem L6 (s:List UInt8) (hs:s.length<=900000):Ad CC 135 [.str s] []=some (.ret (.tup [.str (Xr s).1,.int .i64 (Xr s).2]),[]):=by
 rw [Ah (fn:=Aad) (c:=Aad.body.getD .skip) rfl rfl MN rfl N5 (Aa6 rfl)];have hlen:=Bk s;have hq:=PD s hs;have hqt:=Bk (Di s).1;unfold Xr;generalize Di s=q at *;obtain ⟨t,k⟩:=q;simp only at hq hqt |-;by_cases c1:k=0
 · subst c1
   have z:(((0:Nat):Int) == 0)=true:=rfl;rw [if_pos (Or.inl rfl)];rw [<- An];rw [<- AL] at hq;simp only [Ab,Ac,Aad,Aa1];simp only [S8,Ag,seval,hq,z]
 · have c1':((k:Int) == 0)=false:=by simp;omega
   by_cases c2:k=s.length
   · have c2':((k:Int) != (s.length:Int))=false:=by simp [c2]
     rw [if_neg (by omega)];by_cases c3:t.length > 60
     · have c3':(t.length:Int) > 60:=by omega
       rw [if_pos c3];rw [<- An];rw [<- AL] at hq;simp only [Ab,Ac,Aad,Aa1];simp only [S8,Ag,seval,hq,hlen,hqt,c1',c2',c3']
     · have c3':¬ (t.length:Int) > 60:=by omega
       rw [if_neg c3];rw [<- An];rw [<- AL] at hq;simp only [Ab,Ac,Aad,Aa1];simp only [S8,Ag,seval,hq,hlen,hqt,c1',c2',c3']
   · have c2':((k:Int) != (s.length:Int))=true:=by simp;omega
     rw [if_pos (Or.inr c2)];rw [<- An];rw [<- AL] at hq;simp only [Ab,Ac,Aad,Aa1];simp only [S8,Ag,seval,hq,hlen,c1',c2']
theorem N6 (s:List UInt8) (hs:s.length<=900000) (bx):Ai CC (Ad CC) 135 [.str s] bx=some (.ret (.tup [.str (Xr s).1,.int .i64 (Xr s).2]),bx):=Aq rfl (by simp only [SA,Aa8]) (L6 s hs) (by simp only [SE,SA,Aa8])
def Ca (s:List UInt8) (i:Nat):Nat:=match s[i]? with
 | some c=>c.toNat
 | none=>0
theorem Ru (s:List UInt8) (i:Nat):Ca s i < 256:=by
 unfold Ca;split
 · exact Aaa _
 · omega
theorem MS {s:List UInt8} {i:Nat} {c:UInt8} (h:s[i]?=some c):Ca s i=c.toNat:=by unfold Ca;rw [h]
def BC (s:List UInt8):List UInt8:=34 :: (s.flatMap BL++[34])
theorem Yg:∀ n:_root_.Fin 256,((n.val=34\/n.val=92)/\GC n.val=[92,Aa2 n.val])\/(n.val≠34/\n.val≠92/\GC n.val=[Aa2 n.val])\/(GC n.val=[92,120,Ye (n.val / 16),Ye (n.val % 16)]/\0<=F5 (Ye (n.val / 16))/\0<=F5 (Ye (n.val % 16))/\Ln (Ye (n.val / 16)) (Ye (n.val % 16))=n.val):=by decide +kernel
theorem I8 (c:UInt8):((c.toNat=34\/c.toNat=92)/\BL c=[92,c])\/(c.toNat≠34/\c.toNat≠92/\BL c=[c])\/(∃ a b,BL c=[92,120,a,b]/\0<=F5 a/\0<=F5 b/\Ln a b=c.toNat):=by
 have h:=Yg ⟨c.toNat,Aaa c⟩;simp only [Aag] at h;rcases h with h | h | h
 · exact .inl h
 · exact .inr (.inl h)
 · exact .inr (.inr ⟨_,_,h⟩)
theorem aF (c:UInt8) (r:List UInt8):Bm (BL c++r)=(c.toNat,(BL c).length):=by
 have e92:(92:UInt8).toNat=92:=rfl;have e120:(120:UInt8).toNat=120:=rfl;rcases I8 c with ⟨h1,h2⟩ | ⟨h1,h2,h3⟩ | ⟨a,b,h1,h2,h3,h4⟩
 · rw [h2]
   show Bm (92 :: c :: r)=_;unfold Bm;simp only [e92];rw [if_neg (by decide),if_neg (by decide),if_pos h1];rfl
 · rw [h3]
   show Bm (c :: r)=_;unfold Bm;simp only;rw [if_neg h1,if_pos h2,if_pos h3];rfl
 · have h5:GC (Ln a b)=[92,120,a,b]:=by rw [h4];exact h1
   rw [h1];show Bm (92 :: 120 :: a :: b :: r)=_;unfold Bm;simp only [e92,e120];rw [if_neg (by decide),if_neg (by decide),if_neg (by decide),if_pos ⟨trivial,h2,h3,h5⟩,h4];rfl
theorem Yh (x:List UInt8) (h:(Bm x).2≠0):x.take (Bm x).2=GC (Bm x).1:=by
 match x,h with
 | [],h=>exact absurd rfl h
 | c :: r,h=>
  unfold Bm at h |-;simp only at h |-;by_cases c1:c.toNat=34
  · rw [if_pos c1] at h;exact absurd rfl h
  · rw [if_neg c1] at h |-
    by_cases c2:c.toNat≠92
    · rw [if_pos c2] at h |-
      by_cases c3:BL c=[c]
      · rw [if_pos c3];exact c3.symm
      · rw [if_neg c3] at h;exact absurd rfl h
    · rw [if_neg c2] at h |-
      have e92:c=92:=by rw [<- Aap];show _=92;omega
      match r,h with
      | [],h=>exact absurd rfl h
      | d :: r,h=>
       simp only at h |-;by_cases c3:d.toNat=34\/d.toNat=92
       · rw [if_pos c3]
         show [c,d]=GC d.toNat;unfold GC;rw [if_pos c3,Aag,e92]
       · rw [if_neg c3] at h |-
         match r,h with
         | [],h=>exact absurd rfl h
         | [_],h=>exact absurd rfl h
         | x :: y :: r,h=>
          simp only at h |-;by_cases c4:d.toNat=120/\0<=F5 x/\0<=F5 y/\GC (Ln x y)=[c,d,x,y]
          · rw [if_pos c4];exact c4.2.2.2.symm
          · rw [if_neg c4] at h;exact absurd rfl h
theorem N7 (c:UInt8):0 < (BL c).length:=by
 rcases I8 c with ⟨h1,h2⟩ | ⟨h1,h2,h3⟩ | ⟨a,b,h1,h2,h3,h4⟩
 · rw [h2];simp
 · rw [h3];simp
 · rw [h1];simp
theorem jh (t:List UInt8):t.length<=(t.flatMap BL).length:=by
 induction t with
 | nil=>exact Ab2 _
 | cons c t ih=>have:=N7 c;rw [Aa9,Aa4,Aa0];omega
theorem fz (m:Nat) (s:List UInt8) (h:(Bm s).2≠0):Ip (m+1) s=(Ip m (s.drop (Bm s).2)).map fun r=>(Aa2 (Bm s).1 :: r.1,(Bm s).2+r.2):=by
 match s,h with
 | [],h=>exact absurd rfl h
 | c :: r,h=>
  have gX:Ip (m+1) (c :: r)=if c.toNat=34 then some ([],0) else if (Bm (c :: r)).2=0 then none else (Ip m ((c :: r).drop (Bm (c :: r)).2)).map fun x=>(Aa2 (Bm (c :: r)).1 :: x.1,(Bm (c :: r)).2+x.2):=rfl
  have c1:c.toNat≠34:=fun c1=>by
   have e:Bm (c :: r)=(0,0):=by unfold Bm;simp only;rw [if_pos c1]
   rw [e] at h;exact h rfl
  rw [gX,if_neg c1,if_neg h]
theorem Rv:∀ (m:Nat) (s t:List UInt8) (k:Nat),Ip m s=some (t,k)->∃ r,s=t.flatMap BL++34 :: r/\k=(t.flatMap BL).length
 | 0,_,_,_,h=>by cases h
 | m+1,[],_,_,h=>by cases h
 | m+1,c :: r,t,k,h=>by
  have gX:Ip (m+1) (c :: r)=if c.toNat=34 then some ([],0) else if (Bm (c :: r)).2=0 then none else (Ip m ((c :: r).drop (Bm (c :: r)).2)).map fun x=>(Aa2 (Bm (c :: r)).1 :: x.1,(Bm (c :: r)).2+x.2):=rfl
  rw [gX] at h;split at h
  · rename_i c1
    have e34:c=34:=by rw [<- Aap];exact c1
    injection h with h
    injection h with h1 h2
    subst h1 h2 e34;exact ⟨r,rfl,rfl⟩
  · split at h
    · cases h
    · rename_i c1 c2
      obtain ⟨⟨t',k'⟩,h1,h2⟩:=Option.map_eq_some_iff.1 h;injection h2 with h2 h3
      subst h2 h3;obtain ⟨r',h4,h5⟩:=Rv m _ _ _ h1;have h6:=Yh _ c2;have h7:=Yf (c :: r);have hv:BL (Aa2 (Bm (c :: r)).1)=GC (Bm (c :: r)).1:=by unfold BL;rw [Aam,Nat.mod_eq_of_lt h7.1]
      refine ⟨r',?_,?_⟩
      · rw [Aa9,hv,<- h6,Aah,<- h4,List.take_append_drop]
      · rw [Aa9,Aa4,hv,<- h6,List.length_take,<- h5];omega
theorem LK:∀ (t:List UInt8) (m:Nat) (r:List UInt8),t.length < m->Ip m (t.flatMap BL++34 :: r)=some (t,(t.flatMap BL).length)
 | _,0,_,h=>by omega
 | [],m+1,r,_=>rfl
 | c :: t,m+1,r,h=>by
  have hn:=aF c (t.flatMap BL++34 :: r);have hp:=N7 c;rw [Aa9,Aah,fz m _ (by rw [hn];simp only;omega),hn];simp only;rw [List.drop_left,LK t m r (by simp only [Aa0] at h;omega),Aag,Aa4];rfl
theorem EE (t:List UInt8):(BC t).length=(t.flatMap BL).length+2:=by unfold BC;simp
theorem LL (t r:List UInt8):Di (BC t++r)=(t,(BC t).length):=by
 have e:BC t++r=34 :: (t.flatMap BL++34 :: r):=by unfold BC;simp
 have hl:=jh t;unfold Di;rw [e,if_pos (show (34 :: (t.flatMap BL++34 :: r):List UInt8).head?=some 34 from rfl)]
 show (match Ip _ (t.flatMap BL++34 :: r) with
  | some (t,k)=>(t,k+2)
  | none=>([],0))=_
 rw [LK t _ r (by simp only [Aa0,Aa4];omega),EE]
theorem TE (s:List UInt8) (h:(Di s).2≠0):∃ t r,s=BC t++r/\Di s=(t,(BC t).length):=by
 have h':=h;unfold Di at h';split at h'
 · rename_i hh
   match s,hh with
   | c :: s',hh=>
    have e:c=34:=Option.some.inj hh;subst e;split at h'
    · rename_i t k hu
      obtain ⟨r,h1,h2⟩:=Rv _ _ _ _ hu
      have e:(34:UInt8) :: s'=BC t++r:=by
       have:s'=t.flatMap BL++34 :: r:=h1;rw [this];unfold BC;simp
      exact ⟨t,r,e,by rw [e,LL]⟩
    · exact absurd rfl h'
 · exact absurd rfl h'
theorem U9 (t:List UInt8):Xr (BC t)=if t.length > 60 then ([],3) else (t,0):=by
 have h:=LL t [];rw [Aaj] at h;have h2:=EE t;unfold Xr;rw [h];simp only;rw [if_neg (by omega)]
theorem ji (s:List UInt8) (h:∀ t,s≠BC t):Xr s=([],4):=by
 unfold Xr;split
 · rfl
 · rename_i hc
   exfalso;obtain ⟨t,r,h1,h2⟩:=TE s (fun e=>hc (.inl e));have h3:(Di s).2=s.length:=Decidable.byContradiction fun e=>hc (.inr e);rw [h2] at h3;simp only at h3;rw [h1,Aa4] at h3;have:r=[]:=List.length_eq_zero_iff.1 (by omega);subst this;rw [Aaj] at h1;exact h t h1
theorem Ko (s:List UInt8) (i j:Nat):Ca s (i+j)=Ca (s.drop i) j:=by unfold Ca;rw [List.getElem?_drop]
theorem Rw (a b:List UInt8):GQ (a++b)=GQ a++GQ b:=by simp [GQ]
theorem Yi (c:UInt8):(BL c).length<=4:=by
 rcases I8 c with ⟨h1,h2⟩ | ⟨h1,h2,h3⟩ | ⟨a,b,h1,h2,h3,h4⟩
 · rw [h2];simp
 · rw [h3];simp
 · rw [h1];simp
theorem Wb (t:List UInt8):(t.flatMap BL).length<=4 * t.length:=by
 induction t with
 | nil=>exact Ab2 _
 | cons c t ih=>have:=Yi c;rw [Aa9,Aa4,Aa0];omega
theorem F6:Be CC Aal (Aal.body.getD .skip)=true:=by kernel_rfl
theorem FI:CC.P.funcs[155]?=some Aal:=by kernel_rfl
theorem Rx:Be CC Aac (Aac.body.getD .skip)=true:=by kernel_rfl
theorem PE:CC.P.funcs[126]?=some Aac:=by kernel_rfl
def U':PV->Option (List PV)
 | .str w=>some (GQ w)
 | _=>none
theorem Wc (st:St) (al:List (Nat×Loc)) (s x:Operand) (d:Option Tmp):DT CC st al s x 70 9 d=match CZ CC st al 5 s,U' (opd CC st.env x) with
 | some (l,xs),some ys=>MH 1 1 5 st al l xs ys d
 | _,_=>none:=by
 have h0:CC.P.underlying 70=some (.slice 5):=by kernel_rfl
 have h1:CC.P.underlying 9=some .string:=by kernel_rfl
 have he:CC.P.underlying 5=some (.int .u8):=by kernel_rfl
 have hi:CC.P.info? 5=some IB:=by kernel_rfl
 have hz:IB.zero=some (.int .u8 0):=by kernel_rfl
 have hs:IB.size=1:=by kernel_rfl
 have hb:IB.bytes=1:=by kernel_rfl
 have vg:(Value.int .u8 0).cells.size=1:=rfl;unfold DT J' MH U' GQ;simp only [h0,hi,h1,he,hz,hs,hb,Option.isNone_some,Bool.false_eq_true,false_or,Option.map_some,vg,ne_eq,not_true_eq_false,or_false,Nat.one_ne_zero,if_true];cases CZ CC st al 5 s with
 | none=>rfl
 | some p=>
  obtain ⟨l,xs⟩:=p;cases opd CC st.env x <;> rfl
theorem N8 (l w:List UInt8) (hl:l.length+w.length<=900000) (hw:w≠[]) (p:PV) (hp:p=.nilp\/p=.bp 0 0):Ad CC 155 [.bp 0 0,.str w] [.cells 153 [p,Dy l]] =
 some (.ret (.tup [.int .i64 (w.length:Int),.nili]),[.cells 153 [.bp 0 0,.osl 5 (GQ (l++w))]]):=by
 rw [Ah (fn:=Aal) (c:=Aal.body.getD .skip) rfl rfl FI rfl F6 (Aa6 rfl)];have uo:=Ha l;have hwl:=Ha w;have hlen:=Bk w
 have hq:(Dy l).under 1=true:=by
  unfold Dy;split
  · rfl
  · simpa [PV.under] using L5 1 l
 have ho:=MO p hp (Dy l) hq;have Zk:=Rw l w;have EA:=cz w;have hc:(GQ l).length+(GQ w).length<=1000000:=by omega
 have Xh:(GQ w).length<=1000000:=by omega
 rw [Zk];rw [<- An];rw [<- AL] at ho;have hpn:Al [.bp 0 0]=false:=rfl;simp only [Ab,Ac,Aal,Aa1];unfold Dy at *;by_cases h:l=[]
 · subst h
   rw [if_pos rfl] at ho |-;have Ms:GQ []=[]:=rfl;rw [Ms] at *;generalize b8:GQ w=ys at *;simp only [S8,Ag,SG,SH,seval,ho,hlen,U',b8,CX,Aaf,Aae,Wc,EA,hc,Xh,Aan,Aao]
   try rfl
 · rw [if_neg h] at ho |-
   generalize b8:GQ w=ys at *;generalize GQ l=xs at *;simp only [S8,Ag,SG,SH,seval,ho,hlen,U',b8,CX,Aaf,Aae,Wc,EA,hc,Aan,Aao]
   try rfl
theorem Eu (l w:List UInt8) (hl:l.length+w.length<=900000) (hw:w≠[]) (p:PV) (hp:p=.nilp\/p=.bp 0 0):Ai CC (Ad CC) 155 [.bp 0 0,.str w] [.cells 153 [p,Dy l]] =
 some (.ret (.tup [.int .i64 (w.length:Int),.nili]),[.cells 153 [.bp 0 0,Dy (l++w)]]):=by
 have h:=N8 l w hl hw p hp;unfold Ai;rw [if_pos (by rfl),h]
 have hb:Dy (l++w)=.osl 5 (GQ (l++w)):=by
  unfold Dy;rw [if_neg (by simp [hw])]
 rw [hb];simp only;rw [Kn (by simp)]
theorem jj (c:UInt8):BL c≠[]:=fun h=>by have:=N7 c;rw [h] at this;exact absurd this (by decide)
theorem N9 (L:Code) (hL:L=Ab Aac [1,1,1,0,1,0]) (s:List UInt8) (hs:s.length<=200000):∀ (k i:Nat) (acc:List UInt8) (e:List PV),i+k=s.length->acc.length<=1+4 * i->getT e 0=.str s->getT e 3=.bp 0 0->getT e 7=.int .i64 s.length->getT e 8=.int .i64 i ->
 ∃ e',Co CC L ⟨e,[.cells 153 [.bp 0 0,Dy acc]]⟩=some (.exit 0,⟨e',[.cells 153 [.bp 0 0,Dy (acc++(s.drop i).flatMap BL)]]⟩)/\getT e' 3=.bp 0 0:=by
 intro k
 induction k with
 | zero=>
  intro i acc e hk ha h0 h3 h7 h8;rw [A3 (Ab Aac [1,1,1,0,1,0,0]) hL];have hi:¬ ((i:Int) < (s.length:Int)):=by omega
  rw [Aau (by omega),List.flatMap_nil,Aaj];generalize Dy acc=b at *;rw [<- An];simp only [Ab,Ac,Aac,Aa1];simp only [S8,Ag,seval,h7,h8,hi];exact ⟨_,rfl,by simp only [S7,Ag,seval,h3]⟩
 | succ k ih=>
  intro i acc e hk ha h0 h3 h7 h8;rw [A3 (Ab Aac [1,1,1,0,1,0,0]) hL];have hi:((i:Int) < (s.length:Int)):=by omega
  have IU:s.drop i=(s[i]'(by omega)) :: s.drop (i+1):=Aas (by omega);have hx:s[i]?=some (s[i]'(by omega)):=by simp
  generalize s[i]'(by omega)=c at *;have Qp:=Ki s i c hx;have hf:=HW c;have hle:=Yi c;have ey:=Eu acc (BL c) (by omega) (jj c) (.bp 0 0) (.inr rfl);have w1:=wrap_i64 (n:=(i:Int)+1) ⟨by omega,by omega⟩;have cast1:((i+1:Nat):Int)=(i:Int)+1:=by omega
  have key:=fun e=>ih (i+1) (acc++BL c) e (by omega) (by rw [Aa4];omega);rw [cast1] at key;rw [IU,Aa9,<- Aah];generalize BL c=f at *;generalize Dy (acc++f++(s.drop (i+1)).flatMap BL)=b2 at *;generalize Dy (acc++f)=b1 at *;generalize Dy acc=b at *;rw [<- An];rw [<- An] at key;rw [<- AL] at hf ey;simp only [Ab,Ac,Aac,Aa1];simp only [S8,Ag,seval,h0,h3,h7,h8,hi,Qp,hf,ey,w1];refine key _ ?_ ?_ ?_ ?_
  · simp only [S7,Ag,seval,h0]
  · simp only [S7,Ag,seval,h3]
  · simp only [S7,Ag,seval,h7]
  · simp only [S7,Ag,seval]
theorem N' (s:List UInt8) (hs:s.length<=200000):∃ bx,Ad CC 126 [.str s] []=some (.ret (.str (BC s)),bx):=by
 rw [Ah (fn:=Aac) (c:=Aac.body.getD .skip) rfl rfl PE rfl Rx (Aa6 rfl)];have hlen:=Bk s;have Zj:=Wb s;have Ms:Dy []=.nils:=rfl;have w0:=Eu [] [34] (by simp) (by simp) .nilp (.inl rfl);rw [Ms,Aaz] at w0;have Af:=fun e=>N9 _ rfl s hs s.length 0 [34] e (by omega) (by simp);rw [List.drop_zero] at Af;have w9:=Eu ([34]++s.flatMap BL) [34] (by simp only [Aa4,Aav];omega) (by simp) (.bp 0 0) (.inr rfl);have hq:[34]++s.flatMap BL++[34]=BC s:=by unfold BC;simp
 rw [hq] at w9;have Ez:=JE (BC s) (.bp 0 0);generalize BC s=q at *;generalize Dy ([34]++s.flatMap BL)=b2 at *;generalize Dy [34]=b1 at *;generalize Dy q=b3 at *;rw [<- An];rw [<- An] at Af;rw [<- AL] at w0 w9 Ez;simp only [Ab,Ac,Aac,Aa1] at Af |-;simp only [S8,Ag,seval,SC,zcB,hlen,w0];generalize hE:Hp _ _=z
 have hP:∃ e',z=some (.exit 0,⟨e',[.cells 153 [.bp 0 0,b2]]⟩)/\getT e' 3=.bp 0 0:=by
  rw [<- hE];refine Af _ ?_ ?_ ?_ ?_
  · simp only [S7,Ag,seval]
  · simp only [S7,Ag,seval]
  · simp only [S7,Ag,seval]
  · simp only [S7,Ag,seval] <;> rfl
 obtain ⟨e',he,g3⟩:=hP;subst he;simp only [S8,Ag,seval,g3,w9,Ez];exact ⟨_,rfl⟩
theorem Kp (s:List UInt8) (hs:s.length<=200000) (bx):Ai CC (Ad CC) 126 [.str s] bx=some (.ret (.str (BC s)),bx):=by
 obtain ⟨b,h⟩:=N' s hs;exact Aq rfl (by simp only [SA,Aa8]) h rfl
end Go.HH
