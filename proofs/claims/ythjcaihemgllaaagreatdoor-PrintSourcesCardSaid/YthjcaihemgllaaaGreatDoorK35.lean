/-
  What the law needs, packed: Q3.
-/
import Derived.Test.YthjcaihemgllaaaGreatDoorK34
open List renaming length_cons->Aau,length_nil->Aax,length_append->Aay,flatMap_cons->Ab3,getD_cons_zero->Ab8,getD_cons_succ->Ab9,append_assoc->Abb,all_eq_true->Abc,append_nil->Abd,set_cons_zero->Abh,set_cons_succ->Abi,range->Abl,drop_eq_getElem_cons->Abm,drop_eq_nil_of_le->Abo,length_singleton->Abp,length_drop->Abr,nil_append->Abt,mem_range->Abu,mem_map->Abv
open Option renaming getD->Aav
open UInt8 renaming ofNat->Aaw,toNat_lt->Ab4,ofNat_toNat->Aba,toNat_ofNat'->Abg,toNat_inj->Abj
open Go.Proofs.Tryz renaming f168->Aaz,f160->Ab1,f126->Ab6,f135->Ab7,f169->Abe,f155->Abf
open Nat renaming le_of_ble_eq_true->Ab0,le_refl->Abw
open Bool renaming and_true->Ab2
open Go.IntKind renaming wrap->Ab5,signed->Abk,bits->Abn
open Int renaming toNat_of_nonneg->Abq,toNat_natCast->Abs
namespace Go.HH
open Go Go.Proofs
set_option maxRecDepth 100000
set_option linter.unusedSimpArgs false
set_option linter.unusedVariables false
def Yx (d:Nat):UInt8:=Aaw (if d < 10 then 48+d else 87+d)
def GD (n:Nat):List UInt8:=if n=34\/n=92 then [92,Aaw n] else if n < 32\/126 < n then [92,120,Yx (n / 16),Yx (n % 16)] else [Aaw n]
def BL (c:UInt8):List UInt8:=GD c.toNat
def oj (n:Nat):Int:=if 48<=n/\n<=57 then n - 48 else if 97<=n/\n<=102 then n - 87 else -1
def F6 (c:UInt8):Int:=oj c.toNat
noncomputable def aZ (f:FuncId) (g:Nat->List UInt8) (n:Nat):Bool:=match Fb CC 50 f [.int .u8 n] [] with
 | some (.ret (.str s),[])=>s == g n
 | _=>false
noncomputable def ba (k:IntKind) (f:FuncId) (g:Nat->Int) (n:Nat):Bool:=match Fb CC 50 f [.int .u8 n] [] with
 | some (.ret (.int k' v),[])=>k == k' && v == g n
 | _=>false
theorem fT {f:FuncId} {g:Nat->List UInt8} (h:(Abl 256).all (aZ f g)=true) (c:UInt8):Ad CC f [.int .u8 (c.toNat:Int)] []=some (.ret (.str (g c.toNat)),[]):=by
 have:=Abc.1 h c.toNat (Abu.2 (Ab4 c));unfold aZ at this;split at this
 · rename_i s hs
   have e:s=g c.toNat:=by simpa using this
   subst e;exact ES.2 ⟨50,hs⟩
 · cases this
theorem fU {k:IntKind} {f:FuncId} {g:Nat->Int} (h:(Abl 256).all (ba k f g)=true) (c:UInt8):Ad CC f [.int .u8 (c.toNat:Int)] []=some (.ret (.int k (g c.toNat)),[]):=by
 have:=Abc.1 h c.toNat (Abu.2 (Ab4 c));unfold ba at this;split at this
 · rename_i k' v hs
   simp only [Bool.and_eq_true,beq_iff_eq] at this;obtain ⟨e1,e2⟩:=this;subst e1 e2;exact ES.2 ⟨50,hs⟩
 · cases this
theorem jJ:(Abl 256).all (aZ 156 GD)=true:=by kernel_rfl
theorem om:(Abl 256).all (ba .i64 177 oj)=true:=by kernel_rfl
theorem H2 (c:UInt8) (bx):Ai CC (Ad CC) 156 [.int .u8 (c.toNat:Int)] bx=some (.ret (.str (BL c)),bx):=Ao rfl (by simp only [SA,Ab2]) (fT jJ c) rfl
theorem Fl (c:UInt8) (bx):Ai CC (Ad CC) 177 [.int .u8 (c.toNat:Int)] bx=some (.ret (.int .i64 (F6 c)),bx):=Ao rfl (by simp only [SA,Ab2]) (fU om c) rfl
theorem TT:Be CC Aaz (Aaz.body.getD .skip)=true:=by kernel_rfl
theorem RF:CC.P.funcs[168]?=some Aaz:=by kernel_rfl
theorem oo:∀ a:_root_.Fin 16,∀ b:_root_.Fin 16,LI .or .i64 ((a.val:Int) * 16) (b.val:Int)=some ((a.val:Int) * 16+b.val):=by decide +kernel
theorem sC {a b:Int} (ha:0<=a/\a < 16) (hb:0<=b/\b < 16):LI .or .i64 (a * 16) b=some (a * 16+b):=by
 have:=oo ⟨a.toNat,by omega⟩ ⟨b.toNat,by omega⟩;simp only at this
 rwa [Abq ha.1,Abq hb.1] at this
theorem zQ {a:Int} (ha:0<=a/\a < 16):Kg .shl .i64 a 4=some (.int .i64 (a * 16)):=by
 have w:=wrap_i64 (n:=a * 16) ⟨by omega,by omega⟩;unfold Kg;rw [if_neg (by decide)];show some (PV.int .i64 (Ab5 .i64 (a * 2 ^ (min (Int.toNat 4) 64))))=_;rw [show (2:Int) ^ (min (Int.toNat 4) 64)=16 from by decide,w]
theorem QF (c:UInt8):-1<=F6 c/\F6 c < 16:=by unfold F6 oj;split <;> (try split) <;> omega
theorem fV (n:Int) (h:0<=n/\n < 256):Gh CC 3 5 (.int .i64 n)=some (.int .u8 n):=by
 have w:Ab5 .u8 n=n:=by simp [Ab5,Abn,Abk];omega
 unfold Gh;simp only [TG,w]
theorem Vm (n:Int) (h:0<=n/\n < 256):Gh CC 5 3 (.int .u8 n)=some (.int .i64 n):=by
 unfold Gh;simp only [TG,wrap_i64 (n:=n) ⟨by omega,by omega⟩]
theorem Vn (n:Int) (h:0<=n/\n < 256):Gh CC 5 21 (.int .u8 n)=some (.int .i32 n):=by
 have w:Ab5 .i32 n=n:=by simp [Ab5,Abn,Abk];omega
 unfold Gh;simp only [TG,w]
theorem fW (n:Int) (h:0<=n/\n < 256):Gh CC 21 5 (.int .i32 n)=some (.int .u8 n):=by
 have w:Ab5 .u8 n=n:=by simp [Ab5,Abn,Abk];omega
 unfold Gh;simp only [TG,w]
def Lv (x y:UInt8):Nat:=(F6 x * 16+F6 y).toNat
def Bn:List UInt8->Nat×Nat
 | []=>(0,0)
 | c :: r=>
  if c.toNat=34 then (0,0)
  else if c.toNat≠92 then (if BL c=[c] then (c.toNat,1) else (0,0))
  else match r with
   | []=>(0,0)
   | d :: r=>
    if d.toNat=34\/d.toNat=92 then (d.toNat,2)
    else match r with
     | x :: y :: _=>if d.toNat=120/\0<=F6 x/\0<=F6 y/\GD (Lv x y)=[c,d,x,y] then (Lv x y,4) else (0,0)
     | _=>(0,0)
theorem Yy (s:List UInt8):(Bn s).1 < 256/\(Bn s).2<=s.length/\(Bn s).2<=4:=by
 unfold Bn;split
 · simp
 · rename_i c r
   have:=Ab4 c;split
   · simp
   · split
     · split <;> simp <;> omega
     · cases r with
       | nil=>simp
       | cons d r=>
        have:=Ab4 d;simp only;split
        · simp;omega
        · match r with
          | []=>simp
          | [_]=>simp
          | x :: y :: r=>
           have:=QF x;have:=QF y;unfold Lv;simp only;split <;> simp <;> omega
theorem wW (s:List UInt8) (n:Nat) (c:UInt8) (h:s[n]?=some c):Dy CC 9 (.str s) (.int .i64 (n:Int))=some (.int .u8 (c.toNat:Int)):=Ks s n c h
theorem PO (s:List UInt8) (hs:s.length<=1000000):Ad CC 168 [.str s] []=some (.ret (.tup [.int .u8 ((Bn s).1:Int),.int .i64 ((Bn s).2:Int)]),[]):=by
 rw [Ah (fn:=Aaz) (c:=Aaz.body.getD .skip) rfl rfl RF rfl TT (Ab0 rfl)];have hl:=A7 s
 match s,hs with
 | [],_=>
  rw [<- Al];simp only [Aa,Ac,Aaz,Aav];simp only [S7,Af,seval,TG,Cu]
  try rfl
 | c :: r,hs=>
  have i0:Dy CC 9 (.str (c :: r)) (.int .i64 0)=some (.int .u8 (c.toNat:Int)):=wW (c :: r) 0 c rfl;have Dx:((c :: r:List UInt8) == [])=false:=rfl;by_cases c1:c.toNat=34
  · have c1':((c.toNat:Int) == 34)=true:=by simp [c1]
    have e:Bn (c :: r)=(0,0):=by unfold Bn;simp only;rw [if_pos c1]
    rw [e];rw [<- Al];simp only [Aa,Ac,Aaz,Aav];simp only [S7,Af,seval,TG,Cu,Dx,i0,c1']
    try rfl
  · have c1':((c.toNat:Int) == 34)=false:=by simp;omega
    by_cases c2:c.toNat=92
    · have c2':((c.toNat:Int) != 92)=false:=by simp [c2]
      match r,hs with
      | [],_=>
       have e:Bn [c]=(0,0):=by unfold Bn;simp only;rw [if_neg c1,if_neg (by omega)]
       have l1:¬ (((0+1:Nat):Int) ≥ 2):=by decide
       have l2:(((0+1:Nat):Int) < 4):=by decide
       rw [e];rw [<- Al];simp only [Aa,Ac,Aaz,Aav];simp only [S7,Af,seval,TG,Cu,Dx,i0,c1',c2',l1,l2]
       try rfl
      | d :: r,hs=>
       have i1:Dy CC 9 (.str (c :: d :: r)) (.int .i64 1)=some (.int .u8 (d.toNat:Int)):=wW (c :: d :: r) 1 d rfl;by_cases c3:d.toNat=34
       · have c3':((d.toNat:Int) == 34)=true:=by simp [c3]
         have e:Bn (c :: d :: r)=(d.toNat,2):=by unfold Bn;simp only;rw [if_neg c1,if_neg (by omega)];rw [if_pos (Or.inl c3)]
         rw [e];have hl:=A7 (c :: d :: r);have l1:(((c :: d :: r:List UInt8).length:Int) ≥ 2):=by simp only [Aau,Aax];omega
         generalize (c :: d :: r:List UInt8)=S at *;rw [<- Al];simp only [Aa,Ac,Aaz,Aav];simp only [S7,Af,seval,TG,Cu,Dx,hl,i0,i1,c1',c2',l1,c3']
         try rfl
       · have c3':((d.toNat:Int) == 34)=false:=by simp;omega
         by_cases c4:d.toNat=92
         · have c4':((d.toNat:Int) == 92)=true:=by simp [c4]
           have e:Bn (c :: d :: r)=(d.toNat,2):=by unfold Bn;simp only;rw [if_neg c1,if_neg (by omega)];rw [if_pos (Or.inr c4)]
           rw [e];have hl:=A7 (c :: d :: r);have l1:(((c :: d :: r:List UInt8).length:Int) ≥ 2):=by simp only [Aau,Aax];omega
           generalize (c :: d :: r:List UInt8)=S at *;rw [<- Al];simp only [Aa,Ac,Aaz,Aav];simp only [S7,Af,seval,TG,Cu,Dx,hl,i0,i1,c1',c2',l1,c3',c4']
           try rfl
         · have c4':((d.toNat:Int) == 92)=false:=by simp;omega
           match r,hs with
           | [],_=>
            have e:Bn [c,d]=(0,0):=by unfold Bn;simp only;rw [if_neg c1,if_neg (by omega)];rw [if_neg (by omega)]
            have l2:((([c,d]:List UInt8).length:Int) < 4):=by simp only [Aau,Aax];omega
            rw [e];have hl:=A7 ([c,d]);have l1:((([c,d]:List UInt8).length:Int) ≥ 2):=by simp only [Aau,Aax];omega
            generalize ([c,d]:List UInt8)=S at *;rw [<- Al];simp only [Aa,Ac,Aaz,Aav];simp only [S7,Af,seval,TG,Cu,Dx,hl,i0,i1,c1',c2',l1,l2,c3',c4']
            try rfl
           | [x],_=>
            have e:Bn [c,d,x]=(0,0):=by unfold Bn;simp only;rw [if_neg c1,if_neg (by omega)];rw [if_neg (by omega)]
            have l2:((([c,d,x]:List UInt8).length:Int) < 4):=by simp only [Aau,Aax];omega
            rw [e];have hl:=A7 ([c,d,x]);have l1:((([c,d,x]:List UInt8).length:Int) ≥ 2):=by simp only [Aau,Aax];omega
            generalize ([c,d,x]:List UInt8)=S at *;rw [<- Al];simp only [Aa,Ac,Aaz,Aav];simp only [S7,Af,seval,TG,Cu,Dx,hl,i0,i1,c1',c2',l1,l2,c3',c4']
            try rfl
           | x :: y :: r,hs=>
            have l2:¬ (((c :: d :: x :: y :: r:List UInt8).length:Int) < 4):=by simp only [Aau,Aax];omega
            have i2:Dy CC 9 (.str (c :: d :: x :: y :: r)) (.int .i64 2)=some (.int .u8 (x.toNat:Int)):=wW (c :: d :: x :: y :: r) 2 x rfl;have i3:Dy CC 9 (.str (c :: d :: x :: y :: r)) (.int .i64 3)=some (.int .u8 (y.toNat:Int)):=wW (c :: d :: x :: y :: r) 3 y rfl
            have e:Bn (c :: d :: x :: y :: r)=if d.toNat=120/\0<=F6 x/\0<=F6 y/\GD (Lv x y)=[c,d,x,y] then (Lv x y,4) else (0,0):=by
             conv=>lhs;unfold Bn
             simp only;rw [if_neg c1,if_neg (by omega),if_neg (by omega)]
            rw [e];have hx:=QF x;have hy:=QF y;have Mv:=Vg (c :: d :: x :: y :: r) 4 (by omega) (by simp only [Aau];omega);by_cases c5:d.toNat=120
            · have c5':((d.toNat:Int) != 120)=false:=by simp [c5]
              by_cases c6:F6 x < 0
              · rw [if_neg (by omega)]
                have hl:=A7 (c :: d :: x :: y :: r);have l1:(((c :: d :: x :: y :: r:List UInt8).length:Int) ≥ 2):=by simp only [Aau,Aax];omega
                generalize (c :: d :: x :: y :: r:List UInt8)=S at *;rw [<- Al];have o_names_hex:=@Fl;rw [<- AI] at o_names_hex;simp only [Aa,Ac,Aaz,Aav];simp only [S7,Af,seval,TG,Cu,Dx,hl,i0,i1,i2,i3,c1',c2',l1,l2,c3',c4',c5',c6,o_names_hex]
                try rfl
              · by_cases c7:F6 y < 0
                · rw [if_neg (by omega)]
                  have hl:=A7 (c :: d :: x :: y :: r);have l1:(((c :: d :: x :: y :: r:List UInt8).length:Int) ≥ 2):=by simp only [Aau,Aax];omega
                  generalize (c :: d :: x :: y :: r:List UInt8)=S at *;rw [<- Al];have o_names_hex:=@Fl;rw [<- AI] at o_names_hex;simp only [Aa,Ac,Aaz,Aav];simp only [S7,Af,seval,TG,Cu,Dx,hl,i0,i1,i2,i3,c1',c2',l1,l2,c3',c4',c5',c6,c7,o_names_hex]
                  try rfl
                · have s1:=zQ (a:=F6 x) ⟨by omega,by omega⟩
                  have s2:=sC (a:=F6 x) (b:=F6 y) ⟨by omega,by omega⟩ ⟨by omega,by omega⟩;have s3:=fV (F6 x * 16+F6 y) ⟨by omega,by omega⟩;have h2:F6 x * 16+F6 y=(Lv x y:Int):=by unfold Lv;omega
                  have cL:Lv x y < 256:=by unfold Lv;omega
                  have hv:(Aaw (Lv x y)).toNat=Lv x y:=by rw [Abg];omega
                  rw [h2] at s2 s3;generalize Lv x y=v at *;have of1:=H2 (Aaw v);unfold BL at of1;rw [hv] at of1;by_cases c8:GD v=[c,d,x,y]
                  · have c8':(GD v == (c :: d :: x :: y :: r).take 4)=true:=by rw [c8];simp
                    rw [if_pos ⟨c5,by omega,by omega,c8⟩];have hl:=A7 (c :: d :: x :: y :: r);have l1:(((c :: d :: x :: y :: r:List UInt8).length:Int) ≥ 2):=by simp only [Aau,Aax];omega
                    generalize (c :: d :: x :: y :: r:List UInt8)=S at *;rw [<- Al];have o_names_hex:=@Fl;rw [<- AI] at o_names_hex;rw [<- AI] at of1;simp only [Aa,Ac,Aaz,Aav];simp only [S7,Af,seval,TG,Cu,DB,Dx,hl,i0,i1,i2,i3,c1',c2',l1,l2,c3',c4',c5',c6,c7,o_names_hex,s1,s2,s3,of1,Mv,c8']
                    try rfl
                  · have c8':(GD v == (c :: d :: x :: y :: r).take 4)=false:=by simpa using c8
                    rw [if_neg (fun h=>c8 h.2.2.2)];have hl:=A7 (c :: d :: x :: y :: r);have l1:(((c :: d :: x :: y :: r:List UInt8).length:Int) ≥ 2):=by simp only [Aau,Aax];omega
                    generalize (c :: d :: x :: y :: r:List UInt8)=S at *;rw [<- Al];have o_names_hex:=@Fl;rw [<- AI] at o_names_hex;rw [<- AI] at of1;simp only [Aa,Ac,Aaz,Aav];simp only [S7,Af,seval,TG,Cu,DB,Dx,hl,i0,i1,i2,i3,c1',c2',l1,l2,c3',c4',c5',c6,c7,o_names_hex,s1,s2,s3,of1,Mv,c8']
                    try rfl
            · have c5':((d.toNat:Int) != 120)=true:=by simp;omega
              rw [if_neg (fun h=>c5 h.1)];have hl:=A7 (c :: d :: x :: y :: r);have l1:(((c :: d :: x :: y :: r:List UInt8).length:Int) ≥ 2):=by simp only [Aau,Aax];omega
              generalize (c :: d :: x :: y :: r:List UInt8)=S at *;rw [<- Al];have o_names_hex:=@Fl;rw [<- AI] at o_names_hex;simp only [Aa,Ac,Aaz,Aav];simp only [S7,Af,seval,TG,Cu,Dx,hl,i0,i1,i2,i3,c1',c2',l1,l2,c3',c4',c5',o_names_hex]
              try rfl
    · have c2':((c.toNat:Int) != 92)=true:=by simp;omega
      have Mv:=Vg (c :: r) 1 (by omega) (by simp only [Aau];omega)
      have e:Bn (c :: r)=if BL c=[c] then (c.toNat,1) else (0,0):=by
       conv=>lhs;unfold Bn
       simp only;rw [if_neg c1,if_pos c2]
      rw [e];rw [<- Al];have o_names_form:=@H2;rw [<- AI] at o_names_form;simp only [Aa,Ac,Aaz,Aav];by_cases c3:BL c=[c]
      · have c3':(BL c == (c :: r).take 1)=true:=by rw [c3];simp
        rw [if_pos c3];simp only [S7,Af,seval,TG,Cu,DB,Dx,i0,c1',c2',o_names_form,Mv,c3']
        try rfl
      · have c3':(BL c == (c :: r).take 1)=false:=by simpa using c3
        rw [if_neg c3];simp only [S7,Af,seval,TG,Cu,DB,Dx,i0,c1',c2',o_names_form,Mv,c3']
        try rfl
theorem TU (s:List UInt8) (hs:s.length<=1000000) (bx):Ai CC (Ad CC) 168 [.str s] bx=some (.ret (.tup [.int .u8 ((Bn s).1:Int),.int .i64 ((Bn s).2:Int)]),bx):=Ao rfl (by simp only [SA,Ab2]) (PO s hs) rfl
theorem Gx:Be CC Abe (Abe.body.getD .skip)=true:=by kernel_rfl
theorem Gk:CC.P.funcs[169]?=some Abe:=by kernel_rfl
theorem PS:Be CC Ab1 (Ab1.body.getD .skip)=true:=by kernel_rfl
theorem Oa:CC.P.funcs[160]?=some Ab1:=by kernel_rfl
theorem Ob:Be CC Ab7 (Ab7.body.getD .skip)=true:=by kernel_rfl
theorem MV:CC.P.funcs[135]?=some Ab7:=by kernel_rfl
def GZ (l:List UInt8):List PV:=l.map fun b=>.int .u8 (b.toNat:Int)
theorem Pp (l:List UInt8):bytesOf (GZ l)=some l:=by
 induction l with
 | nil=>rfl
 | cons b r ih=>
  show (bytesOf (GZ r)).map (Aaw ((b.toNat:Int)).toNat :: ·)=some (b :: r);rw [ih,Abs,Aba];rfl
theorem Hg (l:List UInt8):(GZ l).length=l.length:=by simp [GZ]
theorem de (l:List UInt8):((GZ l).all fun y=>y.cells.length == 1)=true:=by
 rw [Abc];intro x hx;obtain ⟨b,_,rfl⟩:=Abv.1 hx;rfl
theorem fX (l:List UInt8):(GZ l).all Vf=true:=by
 rw [Abc];intro x hx;obtain ⟨b,_,rfl⟩:=Abv.1 hx;have:=Ab4 b;simp [Vf];omega
theorem Mc (n:Nat) (l:List UInt8):Ar n (GZ l)=true:=by
 induction l with
 | nil=>rfl
 | cons b r ih=>simpa [GZ,Ar,PV.under] using ih
theorem jK (l:List UInt8) (n:Nat) (h:n < 256):GZ l++[.int .u8 (n:Int)]=GZ (l++[Aaw n]):=by
 unfold GZ;rw [List.map_append]
 congr 1
 simp only [List.map_cons,List.map_nil];rw [Abg]
 congr 2
 omega
theorem qY (n:Int):AZ CC 70 1 [(0,.int .u8 n)]=some (.osl 5 [.int .u8 n]):=by
 have hz:tZero CC 5=some (.int .u8 0):=by kernel_rfl
 have hi:∃ i,CC.P.info? 5=some i/\i.size=1:=⟨(Tryz.prog.info? 5).getD default,by kernel_rfl,by kernel_rfl⟩;obtain ⟨i,hi,hs⟩:=hi;unfold AZ;simp only [TG,hz,hi,hs];rfl
noncomputable def IB:TypeInfo:=(Tryz.prog.info? 5).getD default
theorem qZ (st:St) (al:List (Nat×Loc)) (s x:Operand) (d:Option Tmp):DT CC st al s x 70 70 d=match CY CC st al 5 s,CK (opd CC st.env x) with
 | some (l,xs),some ys=>MK 1 1 5 st al l xs ys d
 | _,_=>none:=EV (i:=IB) (by kernel_rfl) (by kernel_rfl) (by kernel_rfl) (z:=.int .u8 0) (by kernel_rfl) (by kernel_rfl) (by rw [show IB.size=1 from by kernel_rfl];decide) (by kernel_rfl) (by kernel_rfl)
def Dv (l:List UInt8):PV:=if l=[] then .nils else .osl 5 (GZ l)
theorem Kw {n:Nat} {r:CR} {bx:List PBox} (h:bx.length<=n):Eu n r bx=bx:=by
 unfold Eu;split
 · exact List.take_of_length_le h
 · rfl
theorem MW (p:PV) (hp:p=.nilp\/p=.bp 0 0) (q:PV) (hq:q.under 1=true):Ai CC (Ad CC) 166 [.bp 0 0] [.cells 153 [p,q]]=some (.ret (.tup []),[.cells 153 [.bp 0 0,q]]):=by
 have hh:CC.hprim 166=some vK:=rfl
 have hc:Ad CC 166 [.bp 0 0] [.cells 153 [p,q]]=some (.ret (.tup []),[.cells 153 [.bp 0 0,q]]):=by
  unfold Ad Ep;rw [hh];rcases hp with rfl | rfl <;> rfl
 unfold Ai;rw [if_pos (by rfl),hc];simp only;unfold Eu;split <;> rfl
theorem bc (l:List UInt8) (p:PV):Ad CC 157 [.bp 0 0] [.cells 153 [p,Dv l]]=some (.ret (.str l),[.cells 153 [p,if l=[] then .nils else .sl (GZ l)]]):=by
 have hh:CC.hprim 157=some Pm:=rfl;unfold Ad Ep;rw [hh];unfold Dv;by_cases h:l=[]
 · subst h;rfl
 · rw [if_neg h,if_neg h]
   have h1:(GZ l).isEmpty=false:=by cases l with | nil=>exact absurd rfl h | cons=>rfl
   show Option.map _ (Pm [.bp 0 0] [.cells 153 [p,.osl 5 (GZ l)]])=_;unfold Pm;simp only [List.getElem?_cons_zero];rw [if_pos (show _/\_ from by simp only [h1,fX l,and_self]),Pp];rfl
theorem RG (l:List UInt8) (hl:l.length<=900000) (p:PV) (hp:p=.nilp\/p=.bp 0 0) (n:Nat) (hn:n < 256):Ad CC 169 [.bp 0 0,.int .u8 (n:Int)] [.cells 153 [p,Dv l]] =
 some (.ret .nili,[.cells 153 [.bp 0 0,.osl 5 (GZ (l++[Aaw n]))]]):=by
 rw [Ah (fn:=Abe) (c:=Abe.body.getD .skip) rfl rfl Gk rfl Gx (Ab0 rfl)];have uZ:=Hg l
 have hq:(Dv l).under 1=true:=by
  unfold Dv;split
  · rfl
  · simpa [PV.under] using Mc 1 l
 have ho:=MW p hp (Dv l) hq;have ZB:=jK l n hn;have hlen:(GZ l).length+1<=1000000:=by omega
 rw [<- Al];rw [<- AI] at ho;have hpn:Ak [.bp 0 0]=false:=rfl;simp only [Aa,Ac,Abe,Aav];unfold Dv at *;by_cases h:l=[]
 · subst h
   rw [if_pos rfl] at ho |-;have ZB:[PV.int .u8 (n:Int)]=GZ ([]++[Aaw n]):=ZB;simp only [S8,Af,SH,seval,ho,Kq,G2,lay,CZ,List.filter_nil,Ab9,Ab8,qY,qZ];rw [show [PV.int .u8 (n:Int)]=GZ [Aaw n] from ZB];rfl
 · rw [if_neg h] at ho |-
   simp only [S8,Af,SG,SH,seval,ho,CZ,Ab9,Ab8,qY,qZ,hlen,Abh,Abi];rw [ZB]
   try rfl
def Iw:Nat->List UInt8->Option (List UInt8×Nat)
 | 0,_=>none
 | m+1,s=>match s with
  | []=>none
  | c :: _=>if c.toNat=34 then some ([],0)
   else if (Bn s).2=0 then none
   else (Iw m (s.drop (Bn s).2)).map fun r=>(Aaw (Bn s).1 :: r.1,(Bn s).2+r.2)
theorem MX (l:List UInt8) (hl:l.length<=900000) (p:PV) (hp:p=.nilp\/p=.bp 0 0) (n:Nat) (hn:n < 256):Ai CC (Ad CC) 169 [.bp 0 0,.int .u8 (n:Int)] [.cells 153 [p,Dv l]] =
 some (.ret .nili,[.cells 153 [.bp 0 0,Dv (l++[Aaw n])]]):=by
 have h:=RG l hl p hp n hn;unfold Ai;rw [if_pos (by rfl),h]
 have hb:Dv (l++[Aaw n])=.osl 5 (GZ (l++[Aaw n])):=by
  unfold Dv;rw [if_neg (by simp)]
 rw [hb];simp only;unfold Eu;split <;> rfl
theorem JN (l:List UInt8) (p:PV):Ai CC (Ad CC) 157 [.bp 0 0] [.cells 153 [p,Dv l]]=some (.ret (.str l),[.cells 153 [p,if l=[] then .nils else .sl (GZ l)]]):=by
 unfold Ai;rw [if_pos (by rfl),bc];simp only;rw [Kw (by simp)]
def PQ (s:List UInt8) (l:List UInt8) (i:Nat) (o:Option (List UInt8×Nat)) (r:Option (Ex×St)):Prop:=match o with
 | some (t,k)=>∃ e p,r=some (.exit 0,⟨e,[.cells 153 [p,Dv (l++t)]]⟩)/\getT e 0=.str s/\getT e 4=.bp 0 0/\getT e 5=.int .i64 ((i+k:Nat):Int)/\i+k < s.length
 | none=>(∃ e bx,r=some (.ret,⟨e,bx⟩)/\getT e 2=.str []/\getT e 3=.int .i64 0)\/(∃ e bx,r=some (.exit 0,⟨e,bx⟩)/\getT e 0=.str s/\getT e 5=.int .i64 (s.length:Int))
theorem MY (L:Code) (hL:L=Aa Ab1 [1,1,1,1,0,0]) (s:List UInt8) (hs:s.length<=900000):∀ (m i:Nat) (l:List UInt8) (p:PV) (e:List PV),s.length - i < m->i<=s.length->l.length<=i->(p=.nilp\/p=.bp 0 0)->getT e 0=.str s->getT e 4=.bp 0 0->getT e 5=.int .i64 i ->
 PQ s l i (Iw m (s.drop i)) (Cf CC L ⟨e,[.cells 153 [p,Dv l]]⟩):=by
 intro m
 induction m with
 | zero=>intro i l p e hm;omega
 | succ m ih=>
  intro i l p e hm hi yJ hp h0 h4 h5;rw [AX (Aa Ab1 [1,1,1,1,0,0,0]) hL];have hlen:=A7 s;by_cases BC:i < s.length
  · have hx:s[i]?=some s[i]:=by simp
    have G1:s.drop i=s[i] :: s.drop (i+1):=Abm BC;have QB:=Ks s i _ hx;have O7:(i:Int) < (s.length:Int):=by omega
    have ix:Iw (m+1) (s.drop i)=if s[i].toNat=34 then some ([],0) else if (Bn (s.drop i)).2=0 then none else (Iw m ((s.drop i).drop (Bn (s.drop i)).2)).map fun r=>(Aaw (Bn (s.drop i)).1 :: r.1,(Bn (s.drop i)).2+r.2):=by
     rw [G1];rfl
    rw [ix];generalize hc:s[i]=c at *;by_cases c1:c.toNat=34
    · have c1':((c.toNat:Int) != 34)=false:=by simp [c1]
      rw [if_pos c1];rw [<- Al];simp only [Aa,Ac,Ab1,Aav];simp only [S8,Af,seval,h0,h4,h5,hlen,O7,QB,c1'];exact ⟨_,p,by rw [Abd],by simp only [S7,Af,seval,h0],by simp only [S7,Af,seval,h4],by simp only [S7,Af,seval,h5];rfl,by omega⟩
    · have c1':((c.toNat:Int) != 34)=true:=by simp;omega
      rw [if_neg c1];have Mv:=fK s i (by omega) (by omega);rw [Abs] at Mv;have qM:=Yy (s.drop i);rw [Abr] at qM;have nL:=TU (s.drop i) (by rw [Abr];omega);rw [List.drop_drop];generalize Bn (s.drop i)=nx at *;obtain ⟨v,n⟩:=nx;simp only at qM nL |-;by_cases c2:n=0
      · have c2':((n:Int) == 0)=true:=by simp [c2]
        rw [if_pos c2];rw [c2] at nL;have z:(((0:Nat):Int) == 0)=true:=rfl;rw [<- Al];rw [<- AI] at nL;simp only [Aa,Ac,Ab1,Aav];simp only [S8,Af,seval,h0,h4,h5,hlen,O7,QB,c1',Mv,nL,z];exact .inl ⟨_,_,rfl,by simp only [S7,Af,seval],by simp only [S7,Af,seval]⟩
      · have c2':((n:Int) == 0)=false:=by simp;omega
        rw [if_neg c2];have hwb:=MX l (by omega) p hp v qM.1;have hw:=wrap_i64 (n:=(i:Int)+(n:Int)) ⟨by omega,by omega⟩;have key:=fun e=>ih (i+n) (l++[Aaw v]) (.bp 0 0) e (by omega) (by omega) (by rw [Aay,Abp];omega) (Or.inr rfl)
        have lift:∀ r,PQ s (l++[Aaw v]) (i+n) (Iw m (s.drop (i+n))) r->PQ s l i ((Iw m (s.drop (i+n))).map fun r=>(Aaw v :: r.1,n+r.2)) r:=by
         intro r h;cases ho:Iw m (s.drop (i+n)) with
         | none=>rw [ho] at h;exact h
         | some tk=>
          obtain ⟨t,k⟩:=tk;rw [ho] at h;obtain ⟨e,p,h1,h2,h3,h4,h5⟩:=h;refine ⟨e,p,?_,h2,h3,?_,by show i+(n+k) < s.length;omega⟩
          · rw [h1]
            show some (Ex.exit 0,St.mk e [.cells 153 [p,Dv (l++[Aaw v]++t)]])=some (Ex.exit 0,St.mk e [.cells 153 [p,Dv (l++Aaw v :: t)]]);rw [Abb];rfl
          · rw [h4]
            show PV.int .i64 ((i+n+k:Nat):Int)=PV.int .i64 ((i+(n+k):Nat):Int);rw [Nat.add_assoc]
        apply lift;rw [<- Al];rw [<- AI] at nL hwb;rw [<- Al] at key;simp only [Aa,Ac,Ab1,Aav];simp only [S8,Af,seval,h0,h4,h5,hlen,O7,QB,c1',Mv,nL,c2',hwb,hw];exact key _ (by simp only [S7,Af,seval,h0]) (by simp only [S7,Af,seval,h4]) (by simp only [S7,Af,seval] <;> rfl)
  · have O7:¬ (i:Int) < (s.length:Int):=by omega
    have G1:s.drop i=[]:=Abo (by omega);rw [G1];have ix:Iw (m+1) []=none:=rfl;rw [ix];rw [<- Al];simp only [Aa,Ac,Ab1,Aav];simp only [S8,Af,seval,h0,h4,h5,hlen,O7];exact .inr ⟨_,_,rfl,by simp only [S7,Af,seval,h0],by simp only [S7,Af,seval,h5];rw [show i=s.length from by omega]⟩
def Dh (s:List UInt8):List UInt8×Nat:=if s.head?=some 34 then (match Iw s.length (s.drop 1) with
 | some (t,k)=>(t,k+2)
 | none=>([],0)) else ([],0)
def XH (s:List UInt8):List UInt8×Int:=if (Dh s).2=0\/(Dh s).2≠s.length then ([],4) else if (Dh s).1.length > 60 then ([],3) else ((Dh s).1,0)
theorem zcB:zeroCells CC 153=some [.nilp,.nils]:=by kernel_rfl
theorem MZ (s:List UInt8) (hs:s.length<=900000):∃ bx,Ad CC 160 [.str s] []=some (.ret (.tup [.str (Dh s).1,.int .i64 ((Dh s).2:Int)]),bx):=by
 rw [Ah (fn:=Ab1) (c:=Ab1.body.getD .skip) rfl rfl Oa rfl PS (Ab0 rfl)];have hlen:=A7 s;unfold Dh
 match s,hs with
 | [],_=>
  rw [<- Al];simp only [Aa,Ac,Ab1,Aav];simp only [S8,Af,seval,Cu];exact ⟨_,rfl⟩
 | c :: r,hs=>
  have i0:Dy CC 9 (.str (c :: r)) (.int .i64 0)=some (.int .u8 (c.toNat:Int)):=wW (c :: r) 0 c rfl;have Dx:((c :: r:List UInt8) == [])=false:=rfl;have qN:c=34↔c.toNat=34:=by rw [<- Abj];rfl
  have hh:(c :: r).head?=some c:=rfl;rw [hh];by_cases c1:c.toNat=34
  · have c1':((c.toNat:Int) != 34)=false:=by simp [c1]
    rw [if_pos (by rw [qN.2 c1])];have Ag:=fun e h0 h4 h5=>MY _ rfl (c :: r) hs (c :: r).length 1 [] .nilp e (by simp only [Aau];omega) (by simp only [Aau];omega) (by simp) (Or.inl rfl) h0 h4 h5;generalize hS:(c :: r:List UInt8)=S at *;have Mw:Dv []=.nils:=rfl;rw [Mw] at Ag;have hw:∀ k:Nat,k<=S.length->Ab5 .i64 ((k:Int)+1)=(k:Int)+1:=fun k hk=>wrap_i64 ⟨by omega,by omega⟩;have qO:=JN;rw [<- Al];rw [<- Al] at Ag;rw [<- AI] at qO;simp only [Aa,Ac,Ab1,Aav] at Ag |-;simp only [S8,Af,seval,SC,Cu,Dx,i0,c1',zcB];generalize hE:GM _ ⟨_,[PBox.cells 153 [.nilp,.nils]]⟩=res
    have hP:PQ S [] 1 (Iw S.length (S.drop 1)) res:=by
     rw [<- hE];exact Ag _ (by simp only [S7,Af,seval]) (by simp only [S7,Af,seval]) (by simp only [S7,Af,seval] <;> rfl)
    clear hE Ag;cases hu:Iw S.length (S.drop 1) with
    | some tk=>
     obtain ⟨t,k⟩:=tk;rw [hu] at hP;obtain ⟨e',p,he,g0,g4,g5,BC⟩:=hP;subst he;have Qy:¬ ((1+k:Nat):Int) ≥ (S.length:Int):=by omega
     have I5:=hw (1+k) (by omega);have EC:=qO t p;rw [Abt];generalize nf:1+k=k1 at *;have ZU:((k+2:Nat):Int)=(k1:Int)+1:=by omega
     simp only [S8,Af,seval,g0,g4,g5,hlen,Qy,EC,I5,ZU];exact ⟨_,rfl⟩
    | none=>
     rw [hu] at hP;rcases hP with ⟨e',bx',he,g2,g3⟩ | ⟨e',bx',he,g0,g5⟩
     · subst he
       simp only [S8,Af,seval,g2,g3];exact ⟨_,rfl⟩
     · subst he
       have Qy:(S.length:Int) ≥ (S.length:Int):=Int.le_refl _;simp only [S8,Af,seval,g0,g5,hlen,Qy];exact ⟨_,rfl⟩
  · have c1':((c.toNat:Int) != 34)=true:=by simp;omega
    rw [if_neg (fun e=>c1 (qN.1 (Option.some.inj e)))];rw [<- Al];simp only [Aa,Ac,Ab1,Aav];simp only [S8,Af,seval,Cu,Dx,i0,c1'];exact ⟨_,rfl⟩
theorem PT (s:List UInt8) (hs:s.length<=900000) (bx):Ai CC (Ad CC) 160 [.str s] bx=some (.ret (.tup [.str (Dh s).1,.int .i64 ((Dh s).2:Int)]),bx):=by
 obtain ⟨b,h⟩:=MZ s hs;exact Ao rfl (by simp only [SA,Ab2]) h (by simp only [SE,SA,Ab2])
theorem Md (s:List UInt8) (hs:s.length<=900000):Ad CC 135 [.str s] []=some (.ret (.tup [.str (XH s).1,.int .i64 (XH s).2]),[]):=by
 rw [Ah (fn:=Ab7) (c:=Ab7.body.getD .skip) rfl rfl MV rfl Ob (Ab0 rfl)];have hlen:=A7 s;have hq:=PT s hs;have hqt:=A7 (Dh s).1;unfold XH;generalize Dh s=q at *;obtain ⟨t,k⟩:=q;simp only at hq hqt |-;by_cases c1:k=0
 · subst c1
   have z:(((0:Nat):Int) == 0)=true:=rfl;rw [if_pos (Or.inl rfl)];rw [<- Al];rw [<- AI] at hq;simp only [Aa,Ac,Ab7,Aav];simp only [S8,Af,seval,hq,z]
 · have c1':((k:Int) == 0)=false:=by simp;omega
   by_cases c2:k=s.length
   · have c2':((k:Int) != (s.length:Int))=false:=by simp [c2]
     rw [if_neg (by omega)];by_cases c3:t.length > 60
     · have c3':(t.length:Int) > 60:=by omega
       rw [if_pos c3];rw [<- Al];rw [<- AI] at hq;simp only [Aa,Ac,Ab7,Aav];simp only [S8,Af,seval,hq,hlen,hqt,c1',c2',c3']
     · have c3':¬ (t.length:Int) > 60:=by omega
       rw [if_neg c3];rw [<- Al];rw [<- AI] at hq;simp only [Aa,Ac,Ab7,Aav];simp only [S8,Af,seval,hq,hlen,hqt,c1',c2',c3']
   · have c2':((k:Int) != (s.length:Int))=true:=by simp;omega
     rw [if_pos (Or.inr c2)];rw [<- Al];rw [<- AI] at hq;simp only [Aa,Ac,Ab7,Aav];simp only [S8,Af,seval,hq,hlen,c1',c2']
theorem Oc (s:List UInt8) (hs:s.length<=900000) (bx):Ai CC (Ad CC) 135 [.str s] bx=some (.ret (.tup [.str (XH s).1,.int .i64 (XH s).2]),bx):=Ao rfl (by simp only [SA,Ab2]) (Md s hs) (by simp only [SE,SA,Ab2])
def Cb (s:List UInt8) (i:Nat):Nat:=match s[i]? with
 | some c=>c.toNat
 | none=>0
theorem RH (s:List UInt8) (i:Nat):Cb s i < 256:=by
 unfold Cb;split
 · exact Ab4 _
 · omega
theorem M4 {s:List UInt8} {i:Nat} {c:UInt8} (h:s[i]?=some c):Cb s i=c.toNat:=by unfold Cb;rw [h]
def BD (s:List UInt8):List UInt8:=34 :: (s.flatMap BL++[34])
theorem Yz:∀ n:_root_.Fin 256,((n.val=34\/n.val=92)/\GD n.val=[92,Aaw n.val])\/(n.val≠34/\n.val≠92/\GD n.val=[Aaw n.val])\/(GD n.val=[92,120,Yx (n.val / 16),Yx (n.val % 16)]/\0<=F6 (Yx (n.val / 16))/\0<=F6 (Yx (n.val % 16))/\Lv (Yx (n.val / 16)) (Yx (n.val % 16))=n.val):=by decide +kernel
theorem Jg (c:UInt8):((c.toNat=34\/c.toNat=92)/\BL c=[92,c])\/(c.toNat≠34/\c.toNat≠92/\BL c=[c])\/(∃ a b,BL c=[92,120,a,b]/\0<=F6 a/\0<=F6 b/\Lv a b=c.toNat):=by
 have h:=Yz ⟨c.toNat,Ab4 c⟩;simp only [Aba] at h;rcases h with h | h | h
 · exact .inl h
 · exact .inr (.inl h)
 · exact .inr (.inr ⟨_,_,h⟩)
theorem bd (c:UInt8) (r:List UInt8):Bn (BL c++r)=(c.toNat,(BL c).length):=by
 have e92:(92:UInt8).toNat=92:=rfl;have e120:(120:UInt8).toNat=120:=rfl;rcases Jg c with ⟨h1,h2⟩ | ⟨h1,h2,h3⟩ | ⟨a,b,h1,h2,h3,h4⟩
 · rw [h2]
   show Bn (92 :: c :: r)=_;unfold Bn;simp only [e92];rw [if_neg (by decide),if_neg (by decide),if_pos h1];rfl
 · rw [h3]
   show Bn (c :: r)=_;unfold Bn;simp only;rw [if_neg h1,if_pos h2,if_pos h3];rfl
 · have h5:GD (Lv a b)=[92,120,a,b]:=by rw [h4];exact h1
   rw [h1];show Bn (92 :: 120 :: a :: b :: r)=_;unfold Bn;simp only [e92,e120];rw [if_neg (by decide),if_neg (by decide),if_neg (by decide),if_pos ⟨trivial,h2,h3,h5⟩,h4];rfl
theorem YA (x:List UInt8) (h:(Bn x).2≠0):x.take (Bn x).2=GD (Bn x).1:=by
 match x,h with
 | [],h=>exact absurd rfl h
 | c :: r,h=>
  unfold Bn at h |-;simp only at h |-;by_cases c1:c.toNat=34
  · rw [if_pos c1] at h;exact absurd rfl h
  · rw [if_neg c1] at h |-
    by_cases c2:c.toNat≠92
    · rw [if_pos c2] at h |-
      by_cases c3:BL c=[c]
      · rw [if_pos c3];exact c3.symm
      · rw [if_neg c3] at h;exact absurd rfl h
    · rw [if_neg c2] at h |-
      have e92:c=92:=by rw [<- Abj];show _=92;omega
      match r,h with
      | [],h=>exact absurd rfl h
      | d :: r,h=>
       simp only at h |-;by_cases c3:d.toNat=34\/d.toNat=92
       · rw [if_pos c3]
         show [c,d]=GD d.toNat;unfold GD;rw [if_pos c3,Aba,e92]
       · rw [if_neg c3] at h |-
         match r,h with
         | [],h=>exact absurd rfl h
         | [_],h=>exact absurd rfl h
         | x :: y :: r,h=>
          simp only at h |-;by_cases c4:d.toNat=120/\0<=F6 x/\0<=F6 y/\GD (Lv x y)=[c,d,x,y]
          · rw [if_pos c4];exact c4.2.2.2.symm
          · rw [if_neg c4] at h;exact absurd rfl h
theorem Od (c:UInt8):0 < (BL c).length:=by
 rcases Jg c with ⟨h1,h2⟩ | ⟨h1,h2,h3⟩ | ⟨a,b,h1,h2,h3,h4⟩
 · rw [h2];simp
 · rw [h3];simp
 · rw [h1];simp
theorem jL (t:List UInt8):t.length<=(t.flatMap BL).length:=by
 induction t with
 | nil=>exact Abw _
 | cons c t ih=>have:=Od c;rw [Ab3,Aay,Aau];omega
theorem fY (m:Nat) (s:List UInt8) (h:(Bn s).2≠0):Iw (m+1) s=(Iw m (s.drop (Bn s).2)).map fun r=>(Aaw (Bn s).1 :: r.1,(Bn s).2+r.2):=by
 match s,h with
 | [],h=>exact absurd rfl h
 | c :: r,h=>
  have ix:Iw (m+1) (c :: r)=if c.toNat=34 then some ([],0) else if (Bn (c :: r)).2=0 then none else (Iw m ((c :: r).drop (Bn (c :: r)).2)).map fun x=>(Aaw (Bn (c :: r)).1 :: x.1,(Bn (c :: r)).2+x.2):=rfl
  have c1:c.toNat≠34:=fun c1=>by
   have e:Bn (c :: r)=(0,0):=by unfold Bn;simp only;rw [if_pos c1]
   rw [e] at h;exact h rfl
  rw [ix,if_neg c1,if_neg h]
theorem RI:∀ (m:Nat) (s t:List UInt8) (k:Nat),Iw m s=some (t,k)->∃ r,s=t.flatMap BL++34 :: r/\k=(t.flatMap BL).length
 | 0,_,_,_,h=>by cases h
 | m+1,[],_,_,h=>by cases h
 | m+1,c :: r,t,k,h=>by
  have ix:Iw (m+1) (c :: r)=if c.toNat=34 then some ([],0) else if (Bn (c :: r)).2=0 then none else (Iw m ((c :: r).drop (Bn (c :: r)).2)).map fun x=>(Aaw (Bn (c :: r)).1 :: x.1,(Bn (c :: r)).2+x.2):=rfl
  rw [ix] at h;split at h
  · rename_i c1
    have e34:c=34:=by rw [<- Abj];exact c1
    injection h with h
    injection h with h1 h2
    subst h1 h2 e34;exact ⟨r,rfl,rfl⟩
  · split at h
    · cases h
    · rename_i c1 c2
      obtain ⟨⟨t',k'⟩,h1,h2⟩:=Option.map_eq_some_iff.1 h;injection h2 with h2 h3
      subst h2 h3;obtain ⟨r',h4,h5⟩:=RI m _ _ _ h1;have h6:=YA _ c2;have h7:=Yy (c :: r);have hv:BL (Aaw (Bn (c :: r)).1)=GD (Bn (c :: r)).1:=by unfold BL;rw [Abg,Nat.mod_eq_of_lt h7.1]
      refine ⟨r',?_,?_⟩
      · rw [Ab3,hv,<- h6,Abb,<- h4,List.take_append_drop]
      · rw [Ab3,Aay,hv,<- h6,List.length_take,<- h5];omega
theorem LQ:∀ (t:List UInt8) (m:Nat) (r:List UInt8),t.length < m->Iw m (t.flatMap BL++34 :: r)=some (t,(t.flatMap BL).length)
 | _,0,_,h=>by omega
 | [],m+1,r,_=>rfl
 | c :: t,m+1,r,h=>by
  have hn:=bd c (t.flatMap BL++34 :: r);have hp:=Od c;rw [Ab3,Abb,fY m _ (by rw [hn];simp only;omega),hn];simp only;rw [List.drop_left,LQ t m r (by simp only [Aau] at h;omega),Aba,Aay];rfl
theorem EF (t:List UInt8):(BD t).length=(t.flatMap BL).length+2:=by unfold BD;simp
theorem LR (t r:List UInt8):Dh (BD t++r)=(t,(BD t).length):=by
 have e:BD t++r=34 :: (t.flatMap BL++34 :: r):=by unfold BD;simp
 have hl:=jL t;unfold Dh;rw [e,if_pos (show (34 :: (t.flatMap BL++34 :: r):List UInt8).head?=some 34 from rfl)]
 show (match Iw _ (t.flatMap BL++34 :: r) with
  | some (t,k)=>(t,k+2)
  | none=>([],0))=_
 rw [LQ t _ r (by simp only [Aau,Aay];omega),EF]
theorem TV (s:List UInt8) (h:(Dh s).2≠0):∃ t r,s=BD t++r/\Dh s=(t,(BD t).length):=by
 have h':=h;unfold Dh at h';split at h'
 · rename_i hh
   match s,hh with
   | c :: s',hh=>
    have e:c=34:=Option.some.inj hh;subst e;split at h'
    · rename_i t k hu
      obtain ⟨r,h1,h2⟩:=RI _ _ _ _ hu
      have e:(34:UInt8) :: s'=BD t++r:=by
       have:s'=t.flatMap BL++34 :: r:=h1;rw [this];unfold BD;simp
      exact ⟨t,r,e,by rw [e,LR]⟩
    · exact absurd rfl h'
 · exact absurd rfl h'
theorem Vo (t:List UInt8):XH (BD t)=if t.length > 60 then ([],3) else (t,0):=by
 have h:=LR t [];rw [Abd] at h;have h2:=EF t;unfold XH;rw [h];simp only;rw [if_neg (by omega)]
theorem jM (s:List UInt8) (h:∀ t,s≠BD t):XH s=([],4):=by
 unfold XH;split
 · rfl
 · rename_i hc
   exfalso;obtain ⟨t,r,h1,h2⟩:=TV s (fun e=>hc (.inl e));have h3:(Dh s).2=s.length:=Decidable.byContradiction fun e=>hc (.inr e);rw [h2] at h3;simp only at h3;rw [h1,Aay] at h3;have:r=[]:=List.length_eq_zero_iff.1 (by omega);subst this;rw [Abd] at h1;exact h t h1
theorem Kz (s:List UInt8) (i j:Nat):Cb s (i+j)=Cb (s.drop i) j:=by unfold Cb;rw [List.getElem?_drop]
theorem RJ (a b:List UInt8):GZ (a++b)=GZ a++GZ b:=by simp [GZ]
theorem YB (c:UInt8):(BL c).length<=4:=by
 rcases Jg c with ⟨h1,h2⟩ | ⟨h1,h2,h3⟩ | ⟨a,b,h1,h2,h3,h4⟩
 · rw [h2];simp
 · rw [h3];simp
 · rw [h1];simp
theorem Wr (t:List UInt8):(t.flatMap BL).length<=4 * t.length:=by
 induction t with
 | nil=>exact Abw _
 | cons c t ih=>have:=YB c;rw [Ab3,Aay,Aau];omega
theorem F7:Be CC Abf (Abf.body.getD .skip)=true:=by kernel_rfl
theorem FI:CC.P.funcs[155]?=some Abf:=by kernel_rfl
theorem RM:Be CC Ab6 (Ab6.body.getD .skip)=true:=by kernel_rfl
theorem PU:CC.P.funcs[126]?=some Ab6:=by kernel_rfl
def Vp:PV->Option (List PV)
 | .str w=>some (GZ w)
 | _=>none
theorem Ws (st:St) (al:List (Nat×Loc)) (s x:Operand) (d:Option Tmp):DT CC st al s x 70 9 d=match CY CC st al 5 s,Vp (opd CC st.env x) with
 | some (l,xs),some ys=>MK 1 1 5 st al l xs ys d
 | _,_=>none:=by
 have h0:CC.P.underlying 70=some (.slice 5):=by kernel_rfl
 have h1:CC.P.underlying 9=some .string:=by kernel_rfl
 have he:CC.P.underlying 5=some (.int .u8):=by kernel_rfl
 have hi:CC.P.info? 5=some IB:=by kernel_rfl
 have hz:IB.zero=some (.int .u8 0):=by kernel_rfl
 have hs:IB.size=1:=by kernel_rfl
 have hb:IB.bytes=1:=by kernel_rfl
 have vX:(Value.int .u8 0).cells.size=1:=rfl;unfold DT Kh MK Vp GZ;simp only [h0,hi,h1,he,hz,hs,hb,Option.isNone_some,Bool.false_eq_true,false_or,Option.map_some,vX,ne_eq,not_true_eq_false,or_false,Nat.one_ne_zero,if_true];cases CY CC st al 5 s with
 | none=>rfl
 | some p=>
  obtain ⟨l,xs⟩:=p;cases opd CC st.env x <;> rfl
theorem Oe (l w:List UInt8) (hl:l.length+w.length<=900000) (hw:w≠[]) (p:PV) (hp:p=.nilp\/p=.bp 0 0):Ad CC 155 [.bp 0 0,.str w] [.cells 153 [p,Dv l]] =
 some (.ret (.tup [.int .i64 (w.length:Int),.nili]),[.cells 153 [.bp 0 0,.osl 5 (GZ (l++w))]]):=by
 rw [Ah (fn:=Abf) (c:=Abf.body.getD .skip) rfl rfl FI rfl F7 (Ab0 rfl)];have uZ:=Hg l;have hwl:=Hg w;have hlen:=A7 w
 have hq:(Dv l).under 1=true:=by
  unfold Dv;split
  · rfl
  · simpa [PV.under] using Mc 1 l
 have ho:=MW p hp (Dv l) hq;have ZB:=RJ l w;have EB:=de w;have hc:(GZ l).length+(GZ w).length<=1000000:=by omega
 have Xy:(GZ w).length<=1000000:=by omega
 rw [ZB];rw [<- Al];rw [<- AI] at ho;have hpn:Ak [.bp 0 0]=false:=rfl;simp only [Aa,Ac,Abf,Aav];unfold Dv at *;by_cases h:l=[]
 · subst h
   rw [if_pos rfl] at ho |-;have Mw:GZ []=[]:=rfl;rw [Mw] at *;generalize cM:GZ w=ys at *;simp only [S8,Af,SG,SH,seval,ho,hlen,Vp,cM,CZ,Ab9,Ab8,Ws,EB,hc,Xy,Abh,Abi]
   try rfl
 · rw [if_neg h] at ho |-
   generalize cM:GZ w=ys at *;generalize GZ l=xs at *;simp only [S8,Af,SG,SH,seval,ho,hlen,Vp,cM,CZ,Ab9,Ab8,Ws,EB,hc,Abh,Abi]
   try rfl
theorem Ew (l w:List UInt8) (hl:l.length+w.length<=900000) (hw:w≠[]) (p:PV) (hp:p=.nilp\/p=.bp 0 0):Ai CC (Ad CC) 155 [.bp 0 0,.str w] [.cells 153 [p,Dv l]] =
 some (.ret (.tup [.int .i64 (w.length:Int),.nili]),[.cells 153 [.bp 0 0,Dv (l++w)]]):=by
 have h:=Oe l w hl hw p hp;unfold Ai;rw [if_pos (by rfl),h]
 have hb:Dv (l++w)=.osl 5 (GZ (l++w)):=by
  unfold Dv;rw [if_neg (by simp [hw])]
 rw [hb];simp only;rw [Kw (by simp)]
theorem jN (c:UInt8):BL c≠[]:=fun h=>by have:=Od c;rw [h] at this;exact absurd this (by decide)
theorem Of (L:Code) (hL:L=Aa Ab6 [1,1,1,0,1,0]) (s:List UInt8) (hs:s.length<=200000):∀ (k i:Nat) (acc:List UInt8) (e:List PV),i+k=s.length->acc.length<=1+4 * i->getT e 0=.str s->getT e 3=.bp 0 0->getT e 7=.int .i64 s.length->getT e 8=.int .i64 i ->
 ∃ e',Cf CC L ⟨e,[.cells 153 [.bp 0 0,Dv acc]]⟩=some (.exit 0,⟨e',[.cells 153 [.bp 0 0,Dv (acc++(s.drop i).flatMap BL)]]⟩)/\getT e' 3=.bp 0 0:=by
 intro k
 induction k with
 | zero=>
  intro i acc e hk ha h0 h3 h7 h8;rw [AX (Aa Ab6 [1,1,1,0,1,0,0]) hL];have hi:¬ ((i:Int) < (s.length:Int)):=by omega
  rw [Abo (by omega),List.flatMap_nil,Abd];generalize Dv acc=b at *;rw [<- Al];simp only [Aa,Ac,Ab6,Aav];simp only [S8,Af,seval,h7,h8,hi];exact ⟨_,rfl,by simp only [S7,Af,seval,h3]⟩
 | succ k ih=>
  intro i acc e hk ha h0 h3 h7 h8;rw [AX (Aa Ab6 [1,1,1,0,1,0,0]) hL];have hi:((i:Int) < (s.length:Int)):=by omega
  have G1:s.drop i=(s[i]'(by omega)) :: s.drop (i+1):=Abm (by omega);have hx:s[i]?=some (s[i]'(by omega)):=by simp
  generalize s[i]'(by omega)=c at *;have QB:=Ks s i c hx;have hf:=H2 c;have hle:=YB c;have eT:=Ew acc (BL c) (by omega) (jN c) (.bp 0 0) (.inr rfl);have w1:=wrap_i64 (n:=(i:Int)+1) ⟨by omega,by omega⟩;have cast1:((i+1:Nat):Int)=(i:Int)+1:=by omega
  have key:=fun e=>ih (i+1) (acc++BL c) e (by omega) (by rw [Aay];omega);rw [cast1] at key;rw [G1,Ab3,<- Abb];generalize BL c=f at *;generalize Dv (acc++f++(s.drop (i+1)).flatMap BL)=b2 at *;generalize Dv (acc++f)=b1 at *;generalize Dv acc=b at *;rw [<- Al];rw [<- Al] at key;rw [<- AI] at hf eT;simp only [Aa,Ac,Ab6,Aav];simp only [S8,Af,seval,h0,h3,h7,h8,hi,QB,hf,eT,w1];refine key _ ?_ ?_ ?_ ?_
  · simp only [S7,Af,seval,h0]
  · simp only [S7,Af,seval,h3]
  · simp only [S7,Af,seval,h7]
  · simp only [S7,Af,seval]
theorem Og (s:List UInt8) (hs:s.length<=200000):∃ bx,Ad CC 126 [.str s] []=some (.ret (.str (BD s)),bx):=by
 rw [Ah (fn:=Ab6) (c:=Ab6.body.getD .skip) rfl rfl PU rfl RM (Ab0 rfl)];have hlen:=A7 s;have ZA:=Wr s;have Mw:Dv []=.nils:=rfl;have w0:=Ew [] [34] (by simp) (by simp) .nilp (.inl rfl);rw [Mw,Abt] at w0;have Ag:=fun e=>Of _ rfl s hs s.length 0 [34] e (by omega) (by simp);rw [List.drop_zero] at Ag;have w9:=Ew ([34]++s.flatMap BL) [34] (by simp only [Aay,Abp];omega) (by simp) (.bp 0 0) (.inr rfl);have hq:[34]++s.flatMap BL++[34]=BD s:=by unfold BD;simp
 rw [hq] at w9;have EC:=JN (BD s) (.bp 0 0);generalize BD s=q at *;generalize Dv ([34]++s.flatMap BL)=b2 at *;generalize Dv [34]=b1 at *;generalize Dv q=b3 at *;rw [<- Al];rw [<- Al] at Ag;rw [<- AI] at w0 w9 EC;simp only [Aa,Ac,Ab6,Aav] at Ag |-;simp only [S8,Af,seval,SC,zcB,hlen,w0];generalize hE:GM _ _=z
 have hP:∃ e',z=some (.exit 0,⟨e',[.cells 153 [.bp 0 0,b2]]⟩)/\getT e' 3=.bp 0 0:=by
  rw [<- hE];refine Ag _ ?_ ?_ ?_ ?_
  · simp only [S7,Af,seval]
  · simp only [S7,Af,seval]
  · simp only [S7,Af,seval]
  · simp only [S7,Af,seval] <;> rfl
 obtain ⟨e',he,g3⟩:=hP;subst he;simp only [S8,Af,seval,g3,w9,EC];exact ⟨_,rfl⟩
theorem KA (s:List UInt8) (hs:s.length<=200000) (bx):Ai CC (Ad CC) 126 [.str s] bx=some (.ret (.str (BD s)),bx):=by
 obtain ⟨b,h⟩:=Og s hs;exact Ao rfl (by simp only [SA,Ab2]) h rfl
end Go.HH
