/-
  What the law needs, packed: Q3.
-/
import Derived.Test.YthjabmlbmnadjaaGreatJ32
open UInt8 renaming ofNat->yW,ofNat_toNat->y2,toNat_lt->y',toNat_ofNat'->za,toNat_inj->zl
open Option renaming getD->yX
open List renaming length_cons->yY,length_append->yZ,length_nil->y1,flatMap_cons->y6,append_nil->zd,append_assoc->ze,length_singleton->zf,length_eq_zero_iff->zi,all_eq_true->zj,range->zm,length_drop->zr,drop_eq_getElem_cons->zu,drop_eq_nil_of_le->zx,take_append_drop->zy,getD_cons_zero->zA,getD_cons_succ->zB,length_take->zD,nil_append->zG,mem_range->zH,drop_zero->zI,drop_left->zJ,drop_drop->zL,mem_map->zN
open Go.Proofs.Tryz renaming f103->y0,f130->y4,f118->y7,f125->y9,f115->zg,f71->zh,f131->zo,prog->zw
open Bool renaming and_true->y3
open Nat renaming le_of_ble_eq_true->y5,mod_eq_of_lt->zk,add_assoc->zM,add_zero->zO,le_refl->zP
open Go.IntKind renaming wrap->y8,signed->zn,bits->zq
open Decidable renaming byContradiction->zt
open Int renaming toNat_of_nonneg->zC,toNat_natCast->zE,toNat->zQ
namespace Go.HH
open Go Go.Proofs
set_option maxRecDepth 100000
set_option linter.unusedSimpArgs false
set_option linter.unusedVariables false
def SO (d:Nat):UInt8:=yW (if d < 10 then 48+d else 87+d)
def G0 (n:Nat):List UInt8:=if n=34\/n=92 then [92,yW n] else if n < 32\/126 < n then [92,120,SO (n / 16),SO (n % 16)] else [yW n]
def BQ (c:UInt8):List UInt8:=G0 c.toNat
def Dr (n:Nat):Int:=if 48<=n/\n<=57 then n - 48 else if 97<=n/\n<=102 then n - 87 else -1
def FF (c:UInt8):Int:=Dr c.toNat
noncomputable def cy (f:FuncId) (g:Nat->List UInt8) (n:Nat):Bool:=match Gt CC 50 f [.int .u8 n] [] with
 | some (.ret (.str s),[])=>s == g n
 | _=>false
noncomputable def SP (k:IntKind) (f:FuncId) (g:Nat->Int) (n:Nat):Bool:=match Gt CC 50 f [.int .u8 n] [] with
 | some (.ret (.int k' v),[])=>k == k' && v == g n
 | _=>false
theorem gx {f:FuncId} {g:Nat->List UInt8} (h:(zm 256).all (cy f g)=true) (c:UInt8):Ae CC f [.int .u8 (c.toNat:Int)] []=some (.ret (.str (g c.toNat)),[]):=by
 have:=zj.1 h c.toNat (zH.2 (y' c));unfold cy at this;split at this
 · rename_i s hs
   have e:s=g c.toNat:=by simpa using this
   subst e;exact Gz.2 ⟨50,hs⟩
 · cases this
theorem Pw {k:IntKind} {f:FuncId} {g:Nat->Int} (h:(zm 256).all (SP k f g)=true) (c:UInt8):Ae CC f [.int .u8 (c.toNat:Int)] []=some (.ret (.int k (g c.toNat)),[]):=by
 have:=zj.1 h c.toNat (zH.2 (y' c));unfold SP at this;split at this
 · rename_i k' v hs
   simp only [Bool.and_eq_true,beq_iff_eq] at this;obtain ⟨e1,e2⟩:=this;subst e1 e2;exact Gz.2 ⟨50,hs⟩
 · cases this
theorem jW:(zm 256).all (cy 137 G0)=true:=by kernel_rfl
theorem nq:(zm 256).all (SP .i64 138 Dr)=true:=by kernel_rfl
theorem M0 (c:UInt8) (bx):Ak CC (Ae CC) 137 [.int .u8 (c.toNat:Int)] bx=some (.ret (.str (BQ c)),bx):=Ax rfl (by simp only [SA,y3]) (gx jW c) rfl
theorem F9 (c:UInt8) (bx):Ak CC (Ae CC) 138 [.int .u8 (c.toNat:Int)] bx=some (.ret (.int .i64 (FF c)),bx):=Ax rfl (by simp only [SA,y3]) (Pw nq c) rfl
def jX (n:Nat):Int:=(SO (n % 16)).toNat
theorem UQ:(zm 256).all (SP .u8 127 jX)=true:=by kernel_rfl
theorem Zv:(zm 256).all (SP .i64 117 Dr)=true:=by kernel_rfl
theorem Om (c:UInt8) (bx):Ak CC (Ae CC) 127 [.int .u8 (c.toNat:Int)] bx=some (.ret (.int .u8 (jX c.toNat)),bx):=Ax rfl (by simp only [SA,y3]) (Pw UQ c) rfl
theorem cz (c:UInt8) (bx):Ak CC (Ae CC) 117 [.int .u8 (c.toNat:Int)] bx=some (.ret (.int .i64 (FF c)),bx):=Ax rfl (by simp only [SA,y3]) (Pw Zv c) rfl
theorem UR:Bk CC y4 (y4.body.getD .skip)=true:=by kernel_rfl
theorem SQ:CC.P.funcs[130]?=some y4:=by kernel_rfl
theorem nr:∀ a:_root_.Fin 16,∀ b:_root_.Fin 16,Kq .or .i64 ((a.val:Int) * 16) (b.val:Int)=some ((a.val:Int) * 16+b.val):=by decide +kernel
theorem qv {a b:Int} (ha:0<=a/\a < 16) (hb:0<=b/\b < 16):Kq .or .i64 (a * 16) b=some (a * 16+b):=by
 have:=nr ⟨a.toNat,by omega⟩ ⟨b.toNat,by omega⟩;simp only at this
 rwa [zC ha.1,zC hb.1] at this
theorem wD {a:Int} (ha:0<=a/\a < 16):JH .shl .i64 a 4=some (.int .i64 (a * 16)):=by
 have w:=wrap_i64 (n:=a * 16) ⟨by omega,by omega⟩;unfold JH;rw [if_neg (by decide)];show some (PV.int .i64 (y8 .i64 (a * 2 ^ (min (zQ 4) 64))))=_;rw [show (2:Int) ^ (min (zQ 4) 64)=16 from by decide,w]
theorem Rz (c:UInt8):-1<=FF c/\FF c < 16:=by unfold FF Dr;split <;> (try split) <;> omega
theorem Wk (n:Int) (h:0<=n/\n < 256):GV CC 3 5 (.int .i64 n)=some (.int .u8 n):=by
 have w:y8 .u8 n=n:=by simp [y8,zq,zn];omega
 unfold GV;simp only [TG,w]
theorem L9 (n:Int) (h:0<=n/\n < 256):GV CC 5 3 (.int .u8 n)=some (.int .i64 n):=by
 unfold GV;simp only [TG,wrap_i64 (n:=n) ⟨by omega,by omega⟩]
theorem Wl (n:Int) (h:0<=n/\n < 256):GV CC 5 21 (.int .u8 n)=some (.int .i32 n):=by
 have w:y8 .i32 n=n:=by simp [y8,zq,zn];omega
 unfold GV;simp only [TG,w]
theorem gy (n:Int) (h:0<=n/\n < 256):GV CC 21 5 (.int .i32 n)=some (.int .u8 n):=by
 have w:y8 .u8 n=n:=by simp [y8,zq,zn];omega
 unfold GV;simp only [TG,w]
def Lf (x y:UInt8):Nat:=(FF x * 16+FF y).toNat
def BO:List UInt8->Nat×Nat
 | []=>(0,0)
 | c :: r=>
  if c.toNat=34 then (0,0)
  else if c.toNat≠92 then (if BQ c=[c] then (c.toNat,1) else (0,0))
  else match r with
   | []=>(0,0)
   | d :: r=>
    if d.toNat=34\/d.toNat=92 then (d.toNat,2)
    else match r with
     | x :: y :: _=>if d.toNat=120/\0<=FF x/\0<=FF y/\G0 (Lf x y)=[c,d,x,y] then (Lf x y,4) else (0,0)
     | _=>(0,0)
theorem Zw (s:List UInt8):(BO s).1 < 256/\(BO s).2<=s.length/\(BO s).2<=4:=by
 unfold BO;split
 · simp
 · rename_i c r
   have:=y' c;split
   · simp
   · split
     · split <;> simp <;> omega
     · cases r with
       | nil=>simp
       | cons d r=>
        have:=y' d;simp only;split
        · simp;omega
        · match r with
          | []=>simp
          | [_]=>simp
          | x :: y :: r=>
           have:=Rz x;have:=Rz y;unfold Lf;simp only;split <;> simp <;> omega
theorem tK (s:List UInt8) (n:Nat) (c:UInt8) (h:s[n]?=some c):EK CC 9 (.str s) (.int .i64 (n:Int))=some (.int .u8 (c.toNat:Int)):=FE s n c h
theorem QT (s:List UInt8) (hs:s.length<=1000000):Ae CC 130 [.str s] []=some (.ret (.tup [.int .u8 ((BO s).1:Int),.int .i64 ((BO s).2:Int)]),[]):=by
 rw [Ah (fn:=y4) (c:=y4.body.getD .skip) rfl rfl SQ rfl UR (y5 rfl)];have hl:=AX s
 match s,hs with
 | [],_=>
  rw [<- Am];simp only [Aa,Ac,y4,yX];simp only [S7,Ag,seval,TG,C9]
  try rfl
 | c :: r,hs=>
  have i0:EK CC 9 (.str (c :: r)) (.int .i64 0)=some (.int .u8 (c.toNat:Int)):=tK (c :: r) 0 c rfl;have DZ:((c :: r:List UInt8) == [])=false:=rfl;by_cases c1:c.toNat=34
  · have c1':((c.toNat:Int) == 34)=true:=by simp [c1]
    have e:BO (c :: r)=(0,0):=by unfold BO;simp only;rw [if_pos c1]
    rw [e];rw [<- Am];simp only [Aa,Ac,y4,yX];simp only [S7,Ag,seval,TG,C9,DZ,i0,c1']
    try rfl
  · have c1':((c.toNat:Int) == 34)=false:=by simp;omega
    by_cases c2:c.toNat=92
    · have c2':((c.toNat:Int) != 92)=false:=by simp [c2]
      match r,hs with
      | [],_=>
       have e:BO [c]=(0,0):=by unfold BO;simp only;rw [if_neg c1,if_neg (by omega)]
       have l1:¬ (((0+1:Nat):Int) ≥ 2):=by decide
       have l2:(((0+1:Nat):Int) < 4):=by decide
       rw [e];rw [<- Am];simp only [Aa,Ac,y4,yX];simp only [S7,Ag,seval,TG,C9,DZ,i0,c1',c2',l1,l2]
       try rfl
      | d :: r,hs=>
       have i1:EK CC 9 (.str (c :: d :: r)) (.int .i64 1)=some (.int .u8 (d.toNat:Int)):=tK (c :: d :: r) 1 d rfl;by_cases c3:d.toNat=34
       · have c3':((d.toNat:Int) == 34)=true:=by simp [c3]
         have e:BO (c :: d :: r)=(d.toNat,2):=by unfold BO;simp only;rw [if_neg c1,if_neg (by omega)];rw [if_pos (Or.inl c3)]
         rw [e];have hl:=AX (c :: d :: r);have l1:(((c :: d :: r:List UInt8).length:Int) ≥ 2):=by simp only [yY,y1];omega
         generalize (c :: d :: r:List UInt8)=S at *;rw [<- Am];simp only [Aa,Ac,y4,yX];simp only [S7,Ag,seval,TG,C9,DZ,hl,i0,i1,c1',c2',l1,c3']
         try rfl
       · have c3':((d.toNat:Int) == 34)=false:=by simp;omega
         by_cases c4:d.toNat=92
         · have c4':((d.toNat:Int) == 92)=true:=by simp [c4]
           have e:BO (c :: d :: r)=(d.toNat,2):=by unfold BO;simp only;rw [if_neg c1,if_neg (by omega)];rw [if_pos (Or.inr c4)]
           rw [e];have hl:=AX (c :: d :: r);have l1:(((c :: d :: r:List UInt8).length:Int) ≥ 2):=by simp only [yY,y1];omega
           generalize (c :: d :: r:List UInt8)=S at *;rw [<- Am];simp only [Aa,Ac,y4,yX];simp only [S7,Ag,seval,TG,C9,DZ,hl,i0,i1,c1',c2',l1,c3',c4']
           try rfl
         · have c4':((d.toNat:Int) == 92)=false:=by simp;omega
           match r,hs with
           | [],_=>
            have e:BO [c,d]=(0,0):=by unfold BO;simp only;rw [if_neg c1,if_neg (by omega)];rw [if_neg (by omega)]
            have l2:((([c,d]:List UInt8).length:Int) < 4):=by simp only [yY,y1];omega
            rw [e];have hl:=AX ([c,d]);have l1:((([c,d]:List UInt8).length:Int) ≥ 2):=by simp only [yY,y1];omega
            generalize ([c,d]:List UInt8)=S at *;rw [<- Am];simp only [Aa,Ac,y4,yX];simp only [S7,Ag,seval,TG,C9,DZ,hl,i0,i1,c1',c2',l1,l2,c3',c4']
            try rfl
           | [x],_=>
            have e:BO [c,d,x]=(0,0):=by unfold BO;simp only;rw [if_neg c1,if_neg (by omega)];rw [if_neg (by omega)]
            have l2:((([c,d,x]:List UInt8).length:Int) < 4):=by simp only [yY,y1];omega
            rw [e];have hl:=AX ([c,d,x]);have l1:((([c,d,x]:List UInt8).length:Int) ≥ 2):=by simp only [yY,y1];omega
            generalize ([c,d,x]:List UInt8)=S at *;rw [<- Am];simp only [Aa,Ac,y4,yX];simp only [S7,Ag,seval,TG,C9,DZ,hl,i0,i1,c1',c2',l1,l2,c3',c4']
            try rfl
           | x :: y :: r,hs=>
            have l2:¬ (((c :: d :: x :: y :: r:List UInt8).length:Int) < 4):=by simp only [yY,y1];omega
            have i2:EK CC 9 (.str (c :: d :: x :: y :: r)) (.int .i64 2)=some (.int .u8 (x.toNat:Int)):=tK (c :: d :: x :: y :: r) 2 x rfl;have i3:EK CC 9 (.str (c :: d :: x :: y :: r)) (.int .i64 3)=some (.int .u8 (y.toNat:Int)):=tK (c :: d :: x :: y :: r) 3 y rfl
            have e:BO (c :: d :: x :: y :: r)=if d.toNat=120/\0<=FF x/\0<=FF y/\G0 (Lf x y)=[c,d,x,y] then (Lf x y,4) else (0,0):=by
             conv=>lhs;unfold BO
             simp only;rw [if_neg c1,if_neg (by omega),if_neg (by omega)]
            rw [e];have hx:=Rz x;have hy:=Rz y;have Ko:=Wi (c :: d :: x :: y :: r) 4 (by omega) (by simp only [yY];omega);by_cases c5:d.toNat=120
            · have c5':((d.toNat:Int) != 120)=false:=by simp [c5]
              by_cases c6:FF x < 0
              · rw [if_neg (by omega)]
                have hl:=AX (c :: d :: x :: y :: r);have l1:(((c :: d :: x :: y :: r:List UInt8).length:Int) ≥ 2):=by simp only [yY,y1];omega
                generalize (c :: d :: x :: y :: r:List UInt8)=S at *;rw [<- Am];have o_names_hex:=@F9;rw [<- AK] at o_names_hex;simp only [Aa,Ac,y4,yX];simp only [S7,Ag,seval,TG,C9,DZ,hl,i0,i1,i2,i3,c1',c2',l1,l2,c3',c4',c5',c6,o_names_hex]
                try rfl
              · by_cases c7:FF y < 0
                · rw [if_neg (by omega)]
                  have hl:=AX (c :: d :: x :: y :: r);have l1:(((c :: d :: x :: y :: r:List UInt8).length:Int) ≥ 2):=by simp only [yY,y1];omega
                  generalize (c :: d :: x :: y :: r:List UInt8)=S at *;rw [<- Am];have o_names_hex:=@F9;rw [<- AK] at o_names_hex;simp only [Aa,Ac,y4,yX];simp only [S7,Ag,seval,TG,C9,DZ,hl,i0,i1,i2,i3,c1',c2',l1,l2,c3',c4',c5',c6,c7,o_names_hex]
                  try rfl
                · have s1:=wD (a:=FF x) ⟨by omega,by omega⟩
                  have s2:=qv (a:=FF x) (b:=FF y) ⟨by omega,by omega⟩ ⟨by omega,by omega⟩;have s3:=Wk (FF x * 16+FF y) ⟨by omega,by omega⟩;have h2:FF x * 16+FF y=(Lf x y:Int):=by unfold Lf;omega
                  have Uf:Lf x y < 256:=by unfold Lf;omega
                  have hv:(yW (Lf x y)).toNat=Lf x y:=by rw [za];omega
                  rw [h2] at s2 s3;generalize Lf x y=v at *;have of1:=M0 (yW v);unfold BQ at of1;rw [hv] at of1;by_cases c8:G0 v=[c,d,x,y]
                  · have c8':(G0 v == (c :: d :: x :: y :: r).take 4)=true:=by rw [c8];simp
                    rw [if_pos ⟨c5,by omega,by omega,c8⟩];have hl:=AX (c :: d :: x :: y :: r);have l1:(((c :: d :: x :: y :: r:List UInt8).length:Int) ≥ 2):=by simp only [yY,y1];omega
                    generalize (c :: d :: x :: y :: r:List UInt8)=S at *;rw [<- Am];have o_names_hex:=@F9;rw [<- AK] at o_names_hex;rw [<- AK] at of1;simp only [Aa,Ac,y4,yX];simp only [S7,Ag,seval,TG,C9,CH,DZ,hl,i0,i1,i2,i3,c1',c2',l1,l2,c3',c4',c5',c6,c7,o_names_hex,s1,s2,s3,of1,Ko,c8']
                    try rfl
                  · have c8':(G0 v == (c :: d :: x :: y :: r).take 4)=false:=by simpa using c8
                    rw [if_neg (fun h=>c8 h.2.2.2)];have hl:=AX (c :: d :: x :: y :: r);have l1:(((c :: d :: x :: y :: r:List UInt8).length:Int) ≥ 2):=by simp only [yY,y1];omega
                    generalize (c :: d :: x :: y :: r:List UInt8)=S at *;rw [<- Am];have o_names_hex:=@F9;rw [<- AK] at o_names_hex;rw [<- AK] at of1;simp only [Aa,Ac,y4,yX];simp only [S7,Ag,seval,TG,C9,CH,DZ,hl,i0,i1,i2,i3,c1',c2',l1,l2,c3',c4',c5',c6,c7,o_names_hex,s1,s2,s3,of1,Ko,c8']
                    try rfl
            · have c5':((d.toNat:Int) != 120)=true:=by simp;omega
              rw [if_neg (fun h=>c5 h.1)];have hl:=AX (c :: d :: x :: y :: r);have l1:(((c :: d :: x :: y :: r:List UInt8).length:Int) ≥ 2):=by simp only [yY,y1];omega
              generalize (c :: d :: x :: y :: r:List UInt8)=S at *;rw [<- Am];have o_names_hex:=@F9;rw [<- AK] at o_names_hex;simp only [Aa,Ac,y4,yX];simp only [S7,Ag,seval,TG,C9,DZ,hl,i0,i1,i2,i3,c1',c2',l1,l2,c3',c4',c5',o_names_hex]
              try rfl
    · have c2':((c.toNat:Int) != 92)=true:=by simp;omega
      have Ko:=Wi (c :: r) 1 (by omega) (by simp only [yY];omega)
      have e:BO (c :: r)=if BQ c=[c] then (c.toNat,1) else (0,0):=by
       conv=>lhs;unfold BO
       simp only;rw [if_neg c1,if_pos c2]
      rw [e];rw [<- Am];have o_names_form:=@M0;rw [<- AK] at o_names_form;simp only [Aa,Ac,y4,yX];by_cases c3:BQ c=[c]
      · have c3':(BQ c == (c :: r).take 1)=true:=by rw [c3];simp
        rw [if_pos c3];simp only [S7,Ag,seval,TG,C9,CH,DZ,i0,c1',c2',o_names_form,Ko,c3']
        try rfl
      · have c3':(BQ c == (c :: r).take 1)=false:=by simpa using c3
        rw [if_neg c3];simp only [S7,Ag,seval,TG,C9,CH,DZ,i0,c1',c2',o_names_form,Ko,c3']
        try rfl
theorem US (s:List UInt8) (hs:s.length<=1000000) (bx):Ak CC (Ae CC) 130 [.str s] bx=some (.ret (.tup [.int .u8 ((BO s).1:Int),.int .i64 ((BO s).2:Int)]),bx):=Ax rfl (by simp only [SA,y3]) (QT s hs) rfl
theorem Hi:Bk CC zo (zo.body.getD .skip)=true:=by kernel_rfl
theorem G1:CC.P.funcs[131]?=some zo:=by kernel_rfl
theorem QU:Bk CC y9 (y9.body.getD .skip)=true:=by kernel_rfl
theorem Px:CC.P.funcs[125]?=some y9:=by kernel_rfl
theorem Py:Bk CC zg (zg.body.getD .skip)=true:=by kernel_rfl
theorem On:CC.P.funcs[115]?=some zg:=by kernel_rfl
def DM (l:List UInt8):List PV:=l.map fun b=>.int .u8 (b.toNat:Int)
theorem Lg (l:List UInt8):bytesOf (DM l)=some l:=by
 induction l with
 | nil=>rfl
 | cons b r ih=>
  show (bytesOf (DM r)).map (yW ((b.toNat:Int)).toNat :: ·)=some (b :: r);rw [ih,zE,y2];rfl
theorem Es (l:List UInt8):(DM l).length=l.length:=by simp [DM]
theorem L' (l:List UInt8):((DM l).all fun y=>y.cells.length == 1)=true:=by
 rw [zj];intro x hx;obtain ⟨b,_,rfl⟩:=zN.1 hx;rfl
theorem gz (l:List UInt8):(DM l).all Wh=true:=by
 rw [zj];intro x hx;obtain ⟨b,_,rfl⟩:=zN.1 hx;have:=y' b;simp [Wh];omega
theorem cA (n:Nat) (l:List UInt8):Au n (DM l)=true:=by
 induction l with
 | nil=>rfl
 | cons b r ih=>simpa [DM,Au,PV.under] using ih
theorem Zx (l:List UInt8) (n:Nat) (h:n < 256):DM l++[.int .u8 (n:Int)]=DM (l++[yW n]):=by
 unfold DM;rw [List.map_append]
 congr 1
 simp only [List.map_cons,List.map_nil];rw [za]
 congr 2
 omega
theorem jY (n:Int):AW CC 125 1 [(0,.int .u8 n)]=some (.osl 5 [.int .u8 n]):=by
 have hz:tZero CC 5=some (.int .u8 0):=by kernel_rfl
 have hi:∃ i,CC.P.info? 5=some i/\i.size=1:=⟨(zw.info? 5).getD default,by kernel_rfl,by kernel_rfl⟩;obtain ⟨i,hi,hs⟩:=hi;unfold AW;simp only [TG,hz,hi,hs];rfl
noncomputable def IB:TypeInfo:=(zw.info? 5).getD default
theorem Kv (st:St) (al:List (Nat×Loc)) (s x:Operand) (d:Option Tmp):EW CC st al s x 125 125 d=match DV CC st al 5 s,Di (opd CC st.env x) with
 | some (l,xs),some ys=>Sf 1 1 5 st al l xs ys d
 | _,_=>none:=EZ (i:=IB) (by kernel_rfl) (by kernel_rfl) (by kernel_rfl) (z:=.int .u8 0) (by kernel_rfl) (by kernel_rfl) (by rw [show IB.size=1 from by kernel_rfl];decide) (by kernel_rfl) (by kernel_rfl)
def Lh (l:List UInt8):PV:=if l=[] then .nils else .osl 5 (DM l)
theorem Zy {n:Nat} {r:CR} {bx:List PBox} (h:bx.length<=n):Fl n r bx=bx:=by
 unfold Fl;split
 · exact List.take_of_length_le h
 · rfl
theorem Xr (p:PV) (hp:p=.nilp\/p=.bp 0 0) (q:PV) (hq:q.under 1=true):Ak CC (Ae CC) 139 [.bp 0 0] [.cells 135 [p,q]]=some (.ret (.tup []),[.cells 135 [.bp 0 0,q]]):=by
 have hh:CC.hprim 139=some sE:=rfl
 have hc:Ae CC 139 [.bp 0 0] [.cells 135 [p,q]]=some (.ret (.tup []),[.cells 135 [.bp 0 0,q]]):=by
  unfold Ae Fu;rw [hh];rcases hp with rfl | rfl <;> rfl
 unfold Ak;rw [if_pos (by rfl),hc];simp only;unfold Fl;split <;> rfl
theorem cB (l:List UInt8) (p:PV):Ae CC 132 [.bp 0 0] [.cells 135 [p,Lh l]]=some (.ret (.str l),[.cells 135 [p,if l=[] then .nils else .sl (DM l)]]):=by
 have hh:CC.hprim 132=some Qr:=rfl;unfold Ae Fu;rw [hh];unfold Lh;by_cases h:l=[]
 · subst h;rfl
 · rw [if_neg h,if_neg h]
   have h1:(DM l).isEmpty=false:=by cases l with | nil=>exact absurd rfl h | cons=>rfl
   show Option.map _ (Qr [.bp 0 0] [.cells 135 [p,.osl 5 (DM l)]])=_;unfold Qr;simp only [List.getElem?_cons_zero];rw [if_pos (show _/\_ from by simp only [h1,gz l,and_self]),Lg];rfl
theorem SR (l:List UInt8) (hl:l.length<=900000) (p:PV) (hp:p=.nilp\/p=.bp 0 0) (n:Nat) (hn:n < 256):Ae CC 131 [.bp 0 0,.int .u8 (n:Int)] [.cells 135 [p,Lh l]] =
 some (.ret .nili,[.cells 135 [.bp 0 0,.osl 5 (DM (l++[yW n]))]]):=by
 rw [Ah (fn:=zo) (c:=zo.body.getD .skip) rfl rfl G1 rfl Hi (y5 rfl)];have mB:=Es l
 have hq:(Lh l).under 1=true:=by
  unfold Lh;split
  · rfl
  · simpa [PV.under] using cA 1 l
 have ho:=Xr p hp (Lh l) hq;have iu:=Zx l n hn;have hlen:(DM l).length+1<=1000000:=by omega
 rw [<- Am];rw [<- AK] at ho;have hpn:Aq [.bp 0 0]=false:=rfl;simp only [Aa,Ac,zo,yX];unfold Lh at *;by_cases h:l=[]
 · subst h
   rw [if_pos rfl] at ho |-;have iu:[PV.int .u8 (n:Int)]=DM ([]++[yW n]):=iu;simp only [S8,Ag,SH,seval,ho,Ld,HO,lay,C8,List.filter_nil,zB,zA,jY,Kv];rw [show [PV.int .u8 (n:Int)]=DM [yW n] from iu];rfl
 · rw [if_neg h] at ho |-
   simp only [S8,Ag,SG,SH,seval,ho,C8,zB,zA,jY,Kv,hlen,List.set_cons_zero,List.set_cons_succ];rw [iu]
   try rfl
def Jj:Nat->List UInt8->Option (List UInt8×Nat)
 | 0,_=>none
 | m+1,s=>match s with
  | []=>none
  | c :: _=>if c.toNat=34 then some ([],0)
   else if (BO s).2=0 then none
   else (Jj m (s.drop (BO s).2)).map fun r=>(yW (BO s).1 :: r.1,(BO s).2+r.2)
theorem Oo (l:List UInt8) (hl:l.length<=900000) (p:PV) (hp:p=.nilp\/p=.bp 0 0) (n:Nat) (hn:n < 256):Ak CC (Ae CC) 131 [.bp 0 0,.int .u8 (n:Int)] [.cells 135 [p,Lh l]] =
 some (.ret .nili,[.cells 135 [.bp 0 0,Lh (l++[yW n])]]):=by
 have h:=SR l hl p hp n hn;unfold Ak;rw [if_pos (by rfl),h]
 have hb:Lh (l++[yW n])=.osl 5 (DM (l++[yW n])):=by
  unfold Lh;rw [if_neg (by simp)]
 rw [hb];simp only;unfold Fl;split <;> rfl
theorem QV (l:List UInt8) (p:PV):Ak CC (Ae CC) 132 [.bp 0 0] [.cells 135 [p,Lh l]]=some (.ret (.str l),[.cells 135 [p,if l=[] then .nils else .sl (DM l)]]):=by
 unfold Ak;rw [if_pos (by rfl),cB];simp only;rw [Zy (by simp)]
def PQ (s:List UInt8) (l:List UInt8) (i:Nat) (o:Option (List UInt8×Nat)) (r:Option (Ex×St)):Prop:=match o with
 | some (t,k)=>∃ e p,r=some (.exit 0,⟨e,[.cells 135 [p,Lh (l++t)]]⟩)/\getT e 0=.str s/\getT e 4=.bp 0 0/\getT e 5=.int .i64 ((i+k:Nat):Int)/\i+k < s.length
 | none=>(∃ e bx,r=some (.ret,⟨e,bx⟩)/\getT e 2=.str []/\getT e 3=.int .i64 0)\/(∃ e bx,r=some (.exit 0,⟨e,bx⟩)/\getT e 0=.str s/\getT e 5=.int .i64 (s.length:Int))
theorem Oq (L:Code) (hL:L=Aa y9 [1,1,1,1,0,0]) (s:List UInt8) (hs:s.length<=900000):∀ (m i:Nat) (l:List UInt8) (p:PV) (e:List PV),s.length - i < m->i<=s.length->l.length<=i->(p=.nilp\/p=.bp 0 0)->getT e 0=.str s->getT e 4=.bp 0 0->getT e 5=.int .i64 i ->
 PQ s l i (Jj m (s.drop i)) (Cp CC L ⟨e,[.cells 135 [p,Lh l]]⟩):=by
 intro m
 induction m with
 | zero=>intro i l p e hm;omega
 | succ m ih=>
  intro i l p e hm hi vm hp h0 h4 h5;rw [A0 (Aa y9 [1,1,1,1,0,0,0]) hL];have hlen:=AX s;by_cases Bq:i < s.length
  · have hx:s[i]?=some s[i]:=by simp
    have KE:s.drop i=s[i] :: s.drop (i+1):=zu Bq;have Dc:=FE s i _ hx;have D5:(i:Int) < (s.length:Int):=by omega
    have iE:Jj (m+1) (s.drop i)=if s[i].toNat=34 then some ([],0) else if (BO (s.drop i)).2=0 then none else (Jj m ((s.drop i).drop (BO (s.drop i)).2)).map fun r=>(yW (BO (s.drop i)).1 :: r.1,(BO (s.drop i)).2+r.2):=by
     rw [KE];rfl
    rw [iE];generalize hc:s[i]=c at *;by_cases c1:c.toNat=34
    · have c1':((c.toNat:Int) != 34)=false:=by simp [c1]
      rw [if_pos c1];rw [<- Am];simp only [Aa,Ac,y9,yX];simp only [S8,Ag,seval,h0,h4,h5,hlen,D5,Dc,c1'];exact ⟨_,p,by rw [zd],by simp only [S7,Ag,seval,h0],by simp only [S7,Ag,seval,h4],by simp only [S7,Ag,seval,h5];rfl,by omega⟩
    · have c1':((c.toNat:Int) != 34)=true:=by simp;omega
      rw [if_neg c1];have Ko:=gp s i (by omega) (by omega);rw [zE] at Ko;have mh:=Zw (s.drop i);rw [zr] at mh;have sX:=US (s.drop i) (by rw [zr];omega);rw [zL];generalize BO (s.drop i)=nx at *;obtain ⟨v,n⟩:=nx;simp only at mh sX |-;by_cases c2:n=0
      · have c2':((n:Int) == 0)=true:=by simp [c2]
        rw [if_pos c2];rw [c2] at sX;have z:(((0:Nat):Int) == 0)=true:=rfl;rw [<- Am];rw [<- AK] at sX;simp only [Aa,Ac,y9,yX];simp only [S8,Ag,seval,h0,h4,h5,hlen,D5,Dc,c1',Ko,sX,z];exact .inl ⟨_,_,rfl,by simp only [S7,Ag,seval],by simp only [S7,Ag,seval]⟩
      · have c2':((n:Int) == 0)=false:=by simp;omega
        rw [if_neg c2];have hwb:=Oo l (by omega) p hp v mh.1;have hw:=wrap_i64 (n:=(i:Int)+(n:Int)) ⟨by omega,by omega⟩;have key:=fun e=>ih (i+n) (l++[yW v]) (.bp 0 0) e (by omega) (by omega) (by rw [yZ,zf];omega) (Or.inr rfl)
        have lift:∀ r,PQ s (l++[yW v]) (i+n) (Jj m (s.drop (i+n))) r->PQ s l i ((Jj m (s.drop (i+n))).map fun r=>(yW v :: r.1,n+r.2)) r:=by
         intro r h;cases ho:Jj m (s.drop (i+n)) with
         | none=>rw [ho] at h;exact h
         | some tk=>
          obtain ⟨t,k⟩:=tk;rw [ho] at h;obtain ⟨e,p,h1,h2,h3,h4,h5⟩:=h;refine ⟨e,p,?_,h2,h3,?_,by show i+(n+k) < s.length;omega⟩
          · rw [h1]
            show some (Ex.exit 0,St.mk e [.cells 135 [p,Lh (l++[yW v]++t)]])=some (Ex.exit 0,St.mk e [.cells 135 [p,Lh (l++yW v :: t)]]);rw [ze];rfl
          · rw [h4]
            show PV.int .i64 ((i+n+k:Nat):Int)=PV.int .i64 ((i+(n+k):Nat):Int);rw [zM]
        apply lift;rw [<- Am];rw [<- AK] at sX hwb;rw [<- Am] at key;simp only [Aa,Ac,y9,yX];simp only [S8,Ag,seval,h0,h4,h5,hlen,D5,Dc,c1',Ko,sX,c2',hwb,hw];exact key _ (by simp only [S7,Ag,seval,h0]) (by simp only [S7,Ag,seval,h4]) (by simp only [S7,Ag,seval] <;> rfl)
  · have D5:¬ (i:Int) < (s.length:Int):=by omega
    have KE:s.drop i=[]:=zx (by omega);rw [KE];have iE:Jj (m+1) []=none:=rfl;rw [iE];rw [<- Am];simp only [Aa,Ac,y9,yX];simp only [S8,Ag,seval,h0,h4,h5,hlen,D5];exact .inr ⟨_,_,rfl,by simp only [S7,Ag,seval,h0],by simp only [S7,Ag,seval,h5];rw [show i=s.length from by omega]⟩
def DX (s:List UInt8):List UInt8×Nat:=if s.head?=some 34 then (match Jj s.length (s.drop 1) with
 | some (t,k)=>(t,k+2)
 | none=>([],0)) else ([],0)
def RA (s:List UInt8):List UInt8×Int:=if (DX s).2=0\/(DX s).2≠s.length then ([],4) else if (DX s).1.length > 60 then ([],3) else ((DX s).1,0)
theorem yH:zeroCells CC 135=some [.nilp,.nils]:=by kernel_rfl
theorem Ot (s:List UInt8) (hs:s.length<=900000):∃ bx,Ae CC 125 [.str s] []=some (.ret (.tup [.str (DX s).1,.int .i64 ((DX s).2:Int)]),bx):=by
 rw [Ah (fn:=y9) (c:=y9.body.getD .skip) rfl rfl Px rfl QU (y5 rfl)];have hlen:=AX s;unfold DX
 match s,hs with
 | [],_=>
  rw [<- Am];simp only [Aa,Ac,y9,yX];simp only [S8,Ag,seval,C9];exact ⟨_,rfl⟩
 | c :: r,hs=>
  have i0:EK CC 9 (.str (c :: r)) (.int .i64 0)=some (.int .u8 (c.toNat:Int)):=tK (c :: r) 0 c rfl;have DZ:((c :: r:List UInt8) == [])=false:=rfl;have bz:c=34↔c.toNat=34:=by rw [<- zl];rfl
  have hh:(c :: r).head?=some c:=rfl;rw [hh];by_cases c1:c.toNat=34
  · have c1':((c.toNat:Int) != 34)=false:=by simp [c1]
    rw [if_pos (by rw [bz.2 c1])];have Af:=fun e h0 h4 h5=>Oq _ rfl (c :: r) hs (c :: r).length 1 [] .nilp e (by simp only [yY];omega) (by simp only [yY];omega) (by simp) (Or.inl rfl) h0 h4 h5;generalize hS:(c :: r:List UInt8)=S at *;have EM:Lh []=.nils:=rfl;rw [EM] at Af;have hw:∀ k:Nat,k<=S.length->y8 .i64 ((k:Int)+1)=(k:Int)+1:=fun k hk=>wrap_i64 ⟨by omega,by omega⟩;have Ug:=QV;rw [<- Am];rw [<- Am] at Af;rw [<- AK] at Ug;simp only [Aa,Ac,y9,yX] at Af |-;simp only [S8,Ag,seval,SC,C9,DZ,i0,c1',yH];generalize hE:GZ _ ⟨_,[PBox.cells 135 [.nilp,.nils]]⟩=res
    have hP:PQ S [] 1 (Jj S.length (S.drop 1)) res:=by
     rw [<- hE];exact Af _ (by simp only [S7,Ag,seval]) (by simp only [S7,Ag,seval]) (by simp only [S7,Ag,seval] <;> rfl)
    clear hE Af;cases hu:Jj S.length (S.drop 1) with
    | some tk=>
     obtain ⟨t,k⟩:=tk;rw [hu] at hP;obtain ⟨e',p,he,g0,g4,g5,Bq⟩:=hP;subst he;have Mg:¬ ((1+k:Nat):Int) ≥ (S.length:Int):=by omega
     have N5:=hw (1+k) (by omega);have Fq:=Ug t p;rw [zG];generalize Ru:1+k=k1 at *;have iC:((k+2:Nat):Int)=(k1:Int)+1:=by omega
     simp only [S8,Ag,seval,g0,g4,g5,hlen,Mg,Fq,N5,iC];exact ⟨_,rfl⟩
    | none=>
     rw [hu] at hP;rcases hP with ⟨e',bx',he,g2,g3⟩ | ⟨e',bx',he,g0,g5⟩
     · subst he
       simp only [S8,Ag,seval,g2,g3];exact ⟨_,rfl⟩
     · subst he
       have Mg:(S.length:Int) ≥ (S.length:Int):=Int.le_refl _;simp only [S8,Ag,seval,g0,g5,hlen,Mg];exact ⟨_,rfl⟩
  · have c1':((c.toNat:Int) != 34)=true:=by simp;omega
    rw [if_neg (fun e=>c1 (bz.1 (Option.some.inj e)))];rw [<- Am];simp only [Aa,Ac,y9,yX];simp only [S8,Ag,seval,C9,DZ,i0,c1'];exact ⟨_,rfl⟩
theorem QW (s:List UInt8) (hs:s.length<=900000) (bx):Ak CC (Ae CC) 125 [.str s] bx=some (.ret (.tup [.str (DX s).1,.int .i64 ((DX s).2:Int)]),bx):=by
 obtain ⟨b,h⟩:=Ot s hs;exact Ax rfl (by simp only [SA,y3]) h (by simp only [SE,SA,y3])
theorem Nq (s:List UInt8) (hs:s.length<=900000):Ae CC 115 [.str s] []=some (.ret (.tup [.str (RA s).1,.int .i64 (RA s).2]),[]):=by
 rw [Ah (fn:=zg) (c:=zg.body.getD .skip) rfl rfl On rfl Py (y5 rfl)];have hlen:=AX s;have hq:=QW s hs;have sf:=AX (DX s).1;unfold RA;generalize DX s=q at *;obtain ⟨t,k⟩:=q;simp only at hq sf |-;by_cases c1:k=0
 · subst c1
   have z:(((0:Nat):Int) == 0)=true:=rfl;rw [if_pos (Or.inl rfl)];rw [<- Am];rw [<- AK] at hq;simp only [Aa,Ac,zg,yX];simp only [S8,Ag,seval,hq,z]
 · have c1':((k:Int) == 0)=false:=by simp;omega
   by_cases c2:k=s.length
   · have c2':((k:Int) != (s.length:Int))=false:=by simp [c2]
     rw [if_neg (by omega)];by_cases c3:t.length > 60
     · have c3':(t.length:Int) > 60:=by omega
       rw [if_pos c3];rw [<- Am];rw [<- AK] at hq;simp only [Aa,Ac,zg,yX];simp only [S8,Ag,seval,hq,hlen,sf,c1',c2',c3']
     · have c3':¬ (t.length:Int) > 60:=by omega
       rw [if_neg c3];rw [<- Am];rw [<- AK] at hq;simp only [Aa,Ac,zg,yX];simp only [S8,Ag,seval,hq,hlen,sf,c1',c2',c3']
   · have c2':((k:Int) != (s.length:Int))=true:=by simp;omega
     rw [if_pos (Or.inr c2)];rw [<- Am];rw [<- AK] at hq;simp only [Aa,Ac,zg,yX];simp only [S8,Ag,seval,hq,hlen,c1',c2']
theorem Pz (s:List UInt8) (hs:s.length<=900000) (bx):Ak CC (Ae CC) 115 [.str s] bx=some (.ret (.tup [.str (RA s).1,.int .i64 (RA s).2]),bx):=Ax rfl (by simp only [SA,y3]) (Nq s hs) (by simp only [SE,SA,y3])
def AZ (s:List UInt8) (i:Nat):Nat:=match s[i]? with
 | some c=>c.toNat
 | none=>0
theorem DI (s:List UInt8) (i:Nat):AZ s i < 256:=by
 unfold AZ;split
 · exact y' _
 · omega
theorem Fc {s:List UInt8} {i:Nat} {c:UInt8} (h:s[i]?=some c):AZ s i=c.toNat:=by unfold AZ;rw [h]
def Cg (s:List UInt8):List UInt8:=34 :: (s.flatMap BQ++[34])
theorem Zz:∀ n:_root_.Fin 256,((n.val=34\/n.val=92)/\G0 n.val=[92,yW n.val])\/(n.val≠34/\n.val≠92/\G0 n.val=[yW n.val])\/(G0 n.val=[92,120,SO (n.val / 16),SO (n.val % 16)]/\0<=FF (SO (n.val / 16))/\0<=FF (SO (n.val % 16))/\Lf (SO (n.val / 16)) (SO (n.val % 16))=n.val):=by decide +kernel
theorem JT (c:UInt8):((c.toNat=34\/c.toNat=92)/\BQ c=[92,c])\/(c.toNat≠34/\c.toNat≠92/\BQ c=[c])\/(∃ a b,BQ c=[92,120,a,b]/\0<=FF a/\0<=FF b/\Lf a b=c.toNat):=by
 have h:=Zz ⟨c.toNat,y' c⟩;simp only [y2] at h;rcases h with h | h | h
 · exact .inl h
 · exact .inr (.inl h)
 · exact .inr (.inr ⟨_,_,h⟩)
theorem cC (c:UInt8) (r:List UInt8):BO (BQ c++r)=(c.toNat,(BQ c).length):=by
 have e92:(92:UInt8).toNat=92:=rfl;have e120:(120:UInt8).toNat=120:=rfl;rcases JT c with ⟨h1,h2⟩ | ⟨h1,h2,h3⟩ | ⟨a,b,h1,h2,h3,h4⟩
 · rw [h2]
   show BO (92 :: c :: r)=_;unfold BO;simp only [e92];rw [if_neg (by decide),if_neg (by decide),if_pos h1];rfl
 · rw [h3]
   show BO (c :: r)=_;unfold BO;simp only;rw [if_neg h1,if_pos h2,if_pos h3];rfl
 · have h5:G0 (Lf a b)=[92,120,a,b]:=by rw [h4];exact h1
   rw [h1];show BO (92 :: 120 :: a :: b :: r)=_;unfold BO;simp only [e92,e120];rw [if_neg (by decide),if_neg (by decide),if_neg (by decide),if_pos ⟨trivial,h2,h3,h5⟩,h4];rfl
theorem ZA (x:List UInt8) (h:(BO x).2≠0):x.take (BO x).2=G0 (BO x).1:=by
 match x,h with
 | [],h=>exact absurd rfl h
 | c :: r,h=>
  unfold BO at h |-;simp only at h |-;by_cases c1:c.toNat=34
  · rw [if_pos c1] at h;exact absurd rfl h
  · rw [if_neg c1] at h |-
    by_cases c2:c.toNat≠92
    · rw [if_pos c2] at h |-
      by_cases c3:BQ c=[c]
      · rw [if_pos c3];exact c3.symm
      · rw [if_neg c3] at h;exact absurd rfl h
    · rw [if_neg c2] at h |-
      have e92:c=92:=by rw [<- zl];show _=92;omega
      match r,h with
      | [],h=>exact absurd rfl h
      | d :: r,h=>
       simp only at h |-;by_cases c3:d.toNat=34\/d.toNat=92
       · rw [if_pos c3]
         show [c,d]=G0 d.toNat;unfold G0;rw [if_pos c3,y2,e92]
       · rw [if_neg c3] at h |-
         match r,h with
         | [],h=>exact absurd rfl h
         | [_],h=>exact absurd rfl h
         | x :: y :: r,h=>
          simp only at h |-;by_cases c4:d.toNat=120/\0<=FF x/\0<=FF y/\G0 (Lf x y)=[c,d,x,y]
          · rw [if_pos c4];exact c4.2.2.2.symm
          · rw [if_neg c4] at h;exact absurd rfl h
theorem Wm (c:UInt8):0 < (BQ c).length:=by
 rcases JT c with ⟨h1,h2⟩ | ⟨h1,h2,h3⟩ | ⟨a,b,h1,h2,h3,h4⟩
 · rw [h2];simp
 · rw [h3];simp
 · rw [h1];simp
theorem ZB (t:List UInt8):t.length<=(t.flatMap BQ).length:=by
 induction t with
 | nil=>exact zP _
 | cons c t ih=>have:=Wm c;rw [y6,yZ,yY];omega
theorem gA (m:Nat) (s:List UInt8) (h:(BO s).2≠0):Jj (m+1) s=(Jj m (s.drop (BO s).2)).map fun r=>(yW (BO s).1 :: r.1,(BO s).2+r.2):=by
 match s,h with
 | [],h=>exact absurd rfl h
 | c :: r,h=>
  have iE:Jj (m+1) (c :: r)=if c.toNat=34 then some ([],0) else if (BO (c :: r)).2=0 then none else (Jj m ((c :: r).drop (BO (c :: r)).2)).map fun x=>(yW (BO (c :: r)).1 :: x.1,(BO (c :: r)).2+x.2):=rfl
  have c1:c.toNat≠34:=fun c1=>by
   have e:BO (c :: r)=(0,0):=by unfold BO;simp only;rw [if_pos c1]
   rw [e] at h;exact h rfl
  rw [iE,if_neg c1,if_neg h]
theorem SS:∀ (m:Nat) (s t:List UInt8) (k:Nat),Jj m s=some (t,k)->∃ r,s=t.flatMap BQ++34 :: r/\k=(t.flatMap BQ).length
 | 0,_,_,_,h=>by cases h
 | m+1,[],_,_,h=>by cases h
 | m+1,c :: r,t,k,h=>by
  have iE:Jj (m+1) (c :: r)=if c.toNat=34 then some ([],0) else if (BO (c :: r)).2=0 then none else (Jj m ((c :: r).drop (BO (c :: r)).2)).map fun x=>(yW (BO (c :: r)).1 :: x.1,(BO (c :: r)).2+x.2):=rfl
  rw [iE] at h;split at h
  · rename_i c1
    have e34:c=34:=by rw [<- zl];exact c1
    injection h with h
    injection h with h1 h2
    subst h1 h2 e34;exact ⟨r,rfl,rfl⟩
  · split at h
    · cases h
    · rename_i c1 c2
      obtain ⟨⟨t',k'⟩,h1,h2⟩:=Option.map_eq_some_iff.1 h;injection h2 with h2 h3
      subst h2 h3;obtain ⟨r',h4,h5⟩:=SS m _ _ _ h1;have h6:=ZA _ c2;have h7:=Zw (c :: r);have hv:BQ (yW (BO (c :: r)).1)=G0 (BO (c :: r)).1:=by unfold BQ;rw [za,zk h7.1]
      refine ⟨r',?_,?_⟩
      · rw [y6,hv,<- h6,ze,<- h4,zy]
      · rw [y6,yZ,hv,<- h6,zD,<- h5];omega
theorem M4:∀ (t:List UInt8) (m:Nat) (r:List UInt8),t.length < m->Jj m (t.flatMap BQ++34 :: r)=some (t,(t.flatMap BQ).length)
 | _,0,_,h=>by omega
 | [],m+1,r,_=>rfl
 | c :: t,m+1,r,h=>by
  have hn:=cC c (t.flatMap BQ++34 :: r);have hp:=Wm c;rw [y6,ze,gA m _ (by rw [hn];simp only;omega),hn];simp only;rw [zJ,M4 t m r (by simp only [yY] at h;omega),y2,yZ];rfl
theorem IX (t:List UInt8):(Cg t).length=(t.flatMap BQ).length+2:=by unfold Cg;simp
theorem M5 (t r:List UInt8):DX (Cg t++r)=(t,(Cg t).length):=by
 have e:Cg t++r=34 :: (t.flatMap BQ++34 :: r):=by unfold Cg;simp
 have hl:=ZB t;unfold DX;rw [e,if_pos (show (34 :: (t.flatMap BQ++34 :: r):List UInt8).head?=some 34 from rfl)]
 show (match Jj _ (t.flatMap BQ++34 :: r) with
  | some (t,k)=>(t,k+2)
  | none=>([],0))=_
 rw [M4 t _ r (by simp only [yY,yZ];omega),IX]
theorem UU (s:List UInt8) (h:(DX s).2≠0):∃ t r,s=Cg t++r/\DX s=(t,(Cg t).length):=by
 have h':=h;unfold DX at h';split at h'
 · rename_i hh
   match s,hh with
   | c :: s',hh=>
    have e:c=34:=Option.some.inj hh;subst e;split at h'
    · rename_i t k hu
      obtain ⟨r,h1,h2⟩:=SS _ _ _ _ hu
      have e:(34:UInt8) :: s'=Cg t++r:=by
       have:s'=t.flatMap BQ++34 :: r:=h1;rw [this];unfold Cg;simp
      exact ⟨t,r,e,by rw [e,M5]⟩
    · exact absurd rfl h'
 · exact absurd rfl h'
theorem Wn (t:List UInt8):RA (Cg t)=if t.length > 60 then ([],3) else (t,0):=by
 have h:=M5 t [];rw [zd] at h;have h2:=IX t;unfold RA;rw [h];simp only;rw [if_neg (by omega)]
theorem ZD (s:List UInt8) (h:∀ t,s≠Cg t):RA s=([],4):=by
 unfold RA;split
 · rfl
 · rename_i hc
   exfalso;obtain ⟨t,r,h1,h2⟩:=UU s (fun e=>hc (.inl e));have h3:(DX s).2=s.length:=zt fun e=>hc (.inr e);rw [h2] at h3;simp only at h3;rw [h1,yZ] at h3;have:r=[]:=zi.1 (by omega);subst this;rw [zd] at h1;exact h t h1
def DJ:Nat->List UInt8->Nat->List UInt8->Option (List UInt8×Nat)
 | 0,_,_,_=>none
 | m+1,s,i,b=>if i < s.length/\AZ s i≠34 then
  (if AZ s i≠92 then DJ m s (i+1) (b++[yW (AZ s i)])
   else if i+1 < s.length/\(AZ s (i+1)=34\/AZ s (i+1)=92) then DJ m s (i+2) (b++[yW (AZ s (i+1))])
   else if i+3 < s.length/\AZ s (i+1)=120/\0<=Dr (AZ s (i+2))/\0<=Dr (AZ s (i+3)) then DJ m s (i+4) (b++[yW (Dr (AZ s (i+2)) * 16+Dr (AZ s (i+3))).toNat])
   else none)
  else some (b,i)
theorem FL (m:Nat) (s:List UInt8) (i:Nat) (b:List UInt8):DJ (m+1) s i b=if i < s.length/\AZ s i≠34 then
 (if AZ s i≠92 then DJ m s (i+1) (b++[yW (AZ s i)])
  else if i+1 < s.length/\(AZ s (i+1)=34\/AZ s (i+1)=92) then DJ m s (i+2) (b++[yW (AZ s (i+1))])
  else if i+3 < s.length/\AZ s (i+1)=120/\0<=Dr (AZ s (i+2))/\0<=Dr (AZ s (i+3)) then DJ m s (i+4) (b++[yW (Dr (AZ s (i+2)) * 16+Dr (AZ s (i+3))).toNat])
  else none)
 else some (b,i):=rfl
theorem Li (s:List UInt8) (i j:Nat):AZ s (i+j)=AZ (s.drop i) j:=by unfold AZ;rw [List.getElem?_drop]
theorem cD (s:List UInt8) (m i:Nat) (b:List UInt8) (c:UInt8) (r:List UInt8) (h:s.drop i=BQ c++r):DJ (m+1) s i b=DJ m s (i+(BQ c).length) (b++[c]):=by
 have hlen:(s.drop i).length=(BQ c++r).length:=by rw [h]
 rw [zr,yZ] at hlen;have a0:=Li s i 0;have a1:=Li s i 1;have a2:=Li s i 2;have a3:=Li s i 3;rw [h] at a0 a1 a2 a3;rw [zO] at a0;rw [FL];rcases JT c with ⟨h1,h2⟩ | ⟨h1,h2,h3⟩ | ⟨x,y,h1,h2,h3,h4⟩
 · rw [h2] at a0 a1 hlen |-
   have a0:AZ s i=92:=a0;have a1:AZ s (i+1)=c.toNat:=a1;have hlen:s.length - i=2+r.length:=hlen;rw [a0,a1,if_pos ⟨by omega,by decide⟩,if_neg (by decide),if_pos ⟨by omega,h1⟩,y2];rfl
 · rw [h3] at a0 hlen |-
   have a0:AZ s i=c.toNat:=a0;have hlen:s.length - i=1+r.length:=hlen;rw [a0,if_pos ⟨by omega,h1⟩,if_pos h2,y2];rfl
 · rw [h1] at a0 a1 a2 a3 hlen |-
   have a0:AZ s i=92:=a0;have a1:AZ s (i+1)=120:=a1;have a2:AZ s (i+2)=x.toNat:=a2;have a3:AZ s (i+3)=y.toNat:=a3;have hlen:s.length - i=4+r.length:=hlen;have hx:Dr x.toNat=FF x:=rfl;have hy:Dr y.toNat=FF y:=rfl;have hz:(FF x * 16+FF y).toNat=Lf x y:=rfl;rw [a0,a1,a2,a3,hx,hy,hz,h4,if_pos ⟨by omega,by decide⟩,if_neg (by decide),if_neg (by omega),if_pos ⟨by omega,rfl,h2,h3⟩,y2];rfl
theorem Qs (s:List UInt8):∀ (t:List UInt8) (m i:Nat) (b r:List UInt8),t.length < m->s.drop i=t.flatMap BQ++34 :: r->DJ m s i b=some (b++t,i+(t.flatMap BQ).length)
 | _,0,_,_,_,h,_=>by omega
 | [],m+1,i,b,r,_,h=>by
  have a0:=Li s i 0;rw [h,zO] at a0;have a0:AZ s i=34:=a0;rw [FL,a0,if_neg (fun h=>h.2 rfl),zd];rfl
 | c :: t,m+1,i,b,r,hm,h=>by
  rw [y6,ze] at h;rw [cD s m i b c _ h,Qs s t m (i+(BQ c).length) (b++[c]) r (by simp only [yY] at hm;omega) (by rw [<- zL,h,zJ]),y6,yZ,ze,zM];rfl
def GO (s:List UInt8):Option (List UInt8×Nat):=if s.head?=some 34 then (match DJ (s.length+1) s 1 [] with
 | some (b,i)=>if i ≥ s.length\/Cg b≠s.take (i+1) then none else some (b,i+1)
 | none=>none) else none
def nu (s:List UInt8):List UInt8×Int:=match GO s with
 | none=>([],4)
 | some (t,k)=>if k≠s.length then ([],4) else if t.length > 60 then ([],3) else (t,0)
theorem UW (t r:List UInt8):GO (Cg t++r)=some (t,(Cg t).length):=by
 have e:Cg t++r=34 :: (t.flatMap BQ++34 :: r):=by unfold Cg;simp
 have hl:=ZB t;have hq:=IX t;unfold GO;rw [if_pos (by rw [e] <;> rfl),Qs (Cg t++r) t _ 1 [] r (by rw [yZ];omega) (by rw [e] <;> rfl),zG];simp only;rw [show 1+(t.flatMap BQ).length+1=(Cg t).length from by omega,List.take_left,if_neg (fun h=>h.elim (fun h=>by rw [yZ] at h;omega) (fun h=>h rfl))]
theorem UX (s t:List UInt8) (k:Nat) (h:GO s=some (t,k)):∃ r,s=Cg t++r/\k=(Cg t).length:=by
 unfold GO at h;split at h
 · split at h
   · rename_i b i hb
     split at h
     · cases h
     · rename_i hc
       injection h with h
       injection h with h1 h2
       subst h1 h2;have h1:i < s.length:=by omega
       have h2:Cg b=s.take (i+1):=zt fun e=>hc (.inr e);refine ⟨s.drop (i+1),by rw [h2,zy],by rw [h2,zD];omega⟩
   · cases h
 · cases h
theorem nv (s:List UInt8):nu s=RA s:=by
 by_cases h:∃ t,s=Cg t
 · obtain ⟨t,rfl⟩:=h
   have h1:=UW t [];rw [zd] at h1;unfold nu;rw [h1,Wn];simp
 · rw [ZD s (fun t e=>h ⟨t,e⟩)]
   unfold nu;split
   · rfl
   · rename_i t k hk
     obtain ⟨r,h1,h2⟩:=UX s t k hk;rw [if_pos];intro e;rw [h1,yZ] at e;have:r=[]:=zi.1 (by omega);subst this;rw [zd] at h1;exact h ⟨t,h1⟩
theorem Xs:Bk CC y7 (y7.body.getD .skip)=true:=by kernel_rfl
theorem UY:CC.P.funcs[118]?=some y7:=by kernel_rfl
theorem Kw (s:List UInt8) (i:Nat) (h:i < s.length):EK CC 9 (.str s) (.int .i64 (i:Int))=some (.int .u8 ((AZ s i:Nat):Int)):=by
 have hx:s[i]?=some s[i]:=by simp
 rw [Fc hx];exact FE s i _ hx
theorem SV (n:Nat) (h:n < 256):AW CC 125 1 [(0,.int .u8 (n:Int))]=some (.osl 5 (DM [yW n])):=by
 rw [jY];have:=Zx [] n h;show some (PV.osl 5 ([]++[.int .u8 (n:Int)]))=_;exact congrArg (fun x=>some (PV.osl 5 x)) this
theorem jZ (a b:Int):AW CC 125 2 [(0,.int .u8 a),(1,.int .u8 b)]=some (.osl 5 [.int .u8 a,.int .u8 b]):=by
 have hz:tZero CC 5=some (.int .u8 0):=by kernel_rfl
 have hi:∃ i,CC.P.info? 5=some i/\i.size=1:=⟨(zw.info? 5).getD default,by kernel_rfl,by kernel_rfl⟩;obtain ⟨i,hi,hs⟩:=hi;unfold AW;simp only [TG,hz,hi,hs];rfl
theorem nw (a b c d:Int):AW CC 125 4 [(0,.int .u8 a),(1,.int .u8 b),(2,.int .u8 c),(3,.int .u8 d)]=some (.osl 5 [.int .u8 a,.int .u8 b,.int .u8 c,.int .u8 d]):=by
 have hz:tZero CC 5=some (.int .u8 0):=by kernel_rfl
 have hi:∃ i,CC.P.info? 5=some i/\i.size=1:=⟨(zw.info? 5).getD default,by kernel_rfl,by kernel_rfl⟩;obtain ⟨i,hi,hs⟩:=hi;unfold AW;simp only [TG,hz,hi,hs];rfl
theorem GF (a b:List UInt8):DM (a++b)=DM a++DM b:=by simp [DM]
theorem ea (l:List UInt8):GV CC 125 9 (.osl 5 (DM l))=some (.str l):=by
 have h:=Lg l;unfold GV;simp only [TG,Di,h];rfl
theorem eb (l:List UInt8):GV CC 125 9 (.sl (DM l))=some (.str l):=by
 have h:=Lg l;unfold GV;simp only [TG,Di,h];rfl
theorem ZF (c:UInt8):(BQ c).length<=4:=by
 rcases JT c with ⟨h1,h2⟩ | ⟨h1,h2,h3⟩ | ⟨a,b,h1,h2,h3,h4⟩
 · rw [h2];simp
 · rw [h3];simp
 · rw [h1];simp
theorem SW (L:Code) (hL:L=Aa y7 [1,1,0,1,0]) (s:List UInt8) (hs:s.length<=200000):∀ (m i:Nat) (acc:List UInt8) (e:List PV),i+m=s.length->acc.length<=4 * i+1->getT e 0=.str s->getT e 3=.osl 5 (DM acc)->getT e 4=.int .i64 i ->
 ∃ e',Cp CC L ⟨e,[]⟩=some (.exit 0,⟨e',[]⟩)/\getT e' 3=.osl 5 (DM (acc++(s.drop i).flatMap BQ)):=by
 intro m
 induction m with
 | zero=>
  intro i acc e hm ha h0 h3 h4;rw [A0 (Aa y7 [1,1,0,1,0,0]) hL];have hi:¬ (i:Int) < (s.length:Int):=by omega
  have hlen:=AX s;rw [zx (by omega),List.flatMap_nil,zd];rw [<- Am];simp only [Aa,Ac,y7,yX];simp only [S8,Ag,seval,h0,h3,h4,hlen,hi];exact ⟨_,rfl,by simp only [S7,Ag,seval,h3]⟩
 | succ m ih=>
  intro i acc e hm ha h0 h3 h4;rw [A0 (Aa y7 [1,1,0,1,0,0]) hL];have hi:(i:Int) < (s.length:Int):=by omega
  have D5:i < s.length:=by omega
  have hlen:=AX s;have hx:s[i]?=some s[i]:=by simp
  have Dc:=FE s i _ hx;have KE:s.drop i=s[i] :: s.drop (i+1):=zu D5;rw [KE,y6,<- ze];generalize s[i]=c at *;have QE:=y' c;have YE:=ZF c;have mB:(DM acc).length=acc.length:=Es acc;have hfb:(DM (BQ c)).length=(BQ c).length:=Es _;have Ek:=L' (BQ c);have hc:(DM acc).length+(DM (BQ c)).length<=1000000:=by omega
  have hw:=wrap_i64 (n:=(i:Int)+1) ⟨by omega,by omega⟩;have cast1:((i+1:Nat):Int)=(i:Int)+1:=by omega
  have key:=fun e=>ih (i+1) (acc++BQ c) e (by omega) (by rw [yZ];omega);rw [cast1,GF acc] at key;have e92:(92:UInt8).toNat=92:=rfl
  have vA:BQ c=if c.toNat=34\/c.toNat=92 then [92,c] else if c.toNat < 32\/126 < c.toNat then [92,120,SO (c.toNat / 16),SO (c.toNat % 16)] else [c]:=by
   unfold BQ G0;rw [y2]
  by_cases c1:c.toNat=34
  · have c1':((c.toNat:Int) == 34)=true:=by simp [c1]
    have FB:AW CC 125 2 [(0,.int .u8 92),(1,.int .u8 (c.toNat:Int))]=some (.osl 5 (DM (BQ c))):=by
     rw [jZ,vA,if_pos (Or.inl c1)];rfl
    generalize DM (BQ c)=ys at *;generalize DM acc=xs at *;rw [<- Am];rw [<- Am] at key;simp only [Aa,Ac,y7,yX];simp only [S8,Ag,seval,h0,h3,h4,hlen,hi,Dc,c1',FB,Kv,Ek,hc,hw];exact key _ (by simp only [S7,Ag,seval,h0]) (by simp only [S7,Ag,seval]) (by simp only [S7,Ag,seval])
  · have c1':((c.toNat:Int) == 34)=false:=by simp;omega
    by_cases c2:c.toNat=92
    · have c2':((c.toNat:Int) == 92)=true:=by simp [c2]
      have FB:AW CC 125 2 [(0,.int .u8 92),(1,.int .u8 (c.toNat:Int))]=some (.osl 5 (DM (BQ c))):=by
       rw [jZ,vA,if_pos (Or.inr c2)];rfl
      generalize DM (BQ c)=ys at *;generalize DM acc=xs at *;rw [<- Am];rw [<- Am] at key;simp only [Aa,Ac,y7,yX];simp only [S8,Ag,seval,h0,h3,h4,hlen,hi,Dc,c1',c2',FB,Kv,Ek,hc,hw];exact key _ (by simp only [S7,Ag,seval,h0]) (by simp only [S7,Ag,seval]) (by simp only [S7,Ag,seval])
    · have c2':((c.toNat:Int) == 92)=false:=by simp;omega
      rw [if_neg (by omega)] at vA
      have hq:y8 .u8 (Int.tdiv (c.toNat:Int) 16)=((yW (c.toNat / 16)).toNat:Int):=by
       rw [Int.tdiv_eq_ediv_of_nonneg (by omega),za];simp [y8,zq,zn]
      have wj:=Om (yW (c.toNat / 16));have HN:=Om c
      have hbs4:c.toNat < 32\/126 < c.toNat->AW CC 125 4 [(0,.int .u8 92),(1,.int .u8 120),(2,.int .u8 (jX (yW (c.toNat / 16)).toNat)),(3,.int .u8 (jX c.toNat))]=some (.osl 5 (DM (BQ c))):=fun h=>by
       rw [nw,vA,if_pos h,za,zk (by omega)];unfold jX;rw [zk (by omega:c.toNat / 16 < 16)];rfl
      have hbs1:¬ (c.toNat < 32\/126 < c.toNat)->AW CC 125 1 [(0,.int .u8 (c.toNat:Int))]=some (.osl 5 (DM (BQ c))):=fun h=>by
       rw [vA,if_neg h,SV _ QE,y2]
      have z16:((16:Int)=0)=False:=by simp
      generalize DM (BQ c)=ys at *;generalize DM acc=xs at *;by_cases c3:c.toNat < 32
      · have c3':((c.toNat:Int) < 32):=by omega
        have FB:=hbs4 (Or.inl c3);rw [<- Am];rw [<- Am] at key;rw [<- AK] at wj HN;simp only [Aa,Ac,y7,yX];simp only [S8,Ag,seval,h0,h3,h4,hlen,hi,Dc,c1',c2',c3',z16,hq,wj,HN,FB,Kv,Ek,hc,hw];exact key _ (by simp only [S7,Ag,seval,h0]) (by simp only [S7,Ag,seval]) (by simp only [S7,Ag,seval])
      · have c3':¬ ((c.toNat:Int) < 32):=by omega
        by_cases c4:126 < c.toNat
        · have c4':((c.toNat:Int) > 126):=by omega
          have FB:=hbs4 (Or.inr c4);rw [<- Am];rw [<- Am] at key;rw [<- AK] at wj HN;simp only [Aa,Ac,y7,yX];simp only [S8,Ag,seval,h0,h3,h4,hlen,hi,Dc,c1',c2',c3',c4',z16,hq,wj,HN,FB,Kv,Ek,hc,hw];exact key _ (by simp only [S7,Ag,seval,h0]) (by simp only [S7,Ag,seval]) (by simp only [S7,Ag,seval])
        · have c4':¬ ((c.toNat:Int) > 126):=by omega
          have FB:=hbs1 (by omega);rw [<- Am];rw [<- Am] at key;simp only [Aa,Ac,y7,yX];simp only [S8,Ag,seval,h0,h3,h4,hlen,hi,Dc,c1',c2',c3',c4',FB,Kv,Ek,hc,hw];exact key _ (by simp only [S7,Ag,seval,h0]) (by simp only [S7,Ag,seval]) (by simp only [S7,Ag,seval])
theorem ny (t:List UInt8):(t.flatMap BQ).length<=4 * t.length:=by
 induction t with
 | nil=>exact zP _
 | cons c t ih=>have:=ZF c;rw [y6,yZ,yY];omega
theorem SY (s:List UInt8) (hs:s.length<=200000):Ae CC 118 [.str s] []=some (.ret (.str (Cg s)),[]):=by
 rw [Ah (fn:=y7) (c:=y7.body.getD .skip) rfl rfl UY rfl Xs (y5 rfl)];have Af:=fun e=>SW _ rfl s hs s.length 0 [34] e (by omega) (by simp);have FB:=SV 34 (by decide);have FB:AW CC 125 1 [(0,.int .u8 34)]=some (.osl 5 (DM [34])):=FB;have hq:[34]++(s.drop 0).flatMap BQ++[34]=Cg s:=rfl;have bg:=ea ([34]++(s.drop 0).flatMap BQ++[34]);have bh:=eb ([34]++(s.drop 0).flatMap BQ++[34]);have YE:=ny s
 have hc:(DM ([34]++(s.drop 0).flatMap BQ)).length+(DM [34]).length<=1000000:=by
  rw [Es,Es,yZ,zI];simp only [yY,y1];omega
 have Ek:=L' [34];rw [hq,<- hq,GF ([34]++(s.drop 0).flatMap BQ) [34],hq] at bg bh;generalize DM ([34]++(s.drop 0).flatMap BQ)=xs at *;generalize DM [34]=ys at *;generalize Cg s=Q at *;rw [<- Am];rw [<- Am] at Af;simp only [Aa,Ac,y7,yX] at Af |-;simp only [S8,Ag,seval,FB];generalize hE:GZ _ _=z
 have hP:∃ e',z=some (.exit 0,⟨e',[]⟩)/\getT e' 3=.osl 5 xs:=by
  rw [<- hE];refine Af _ ?_ ?_ ?_
  · simp only [S7,Ag,seval]
  · simp only [S7,Ag,seval]
  · simp only [S7,Ag,seval] <;> rfl
 obtain ⟨e',he,h3⟩:=hP;subst he;simp only [S8,Ag,seval,h3,FB,Kv,Ek,hc,bg,bh]
theorem Xt (s:List UInt8) (hs:s.length<=200000) (bx):Ak CC (Ae CC) 118 [.str s] bx=some (.ret (.str (Cg s)),bx):=Ax rfl (by simp only [SA,y3]) (SY s hs) rfl
theorem UZ:Bk CC y0 (y0.body.getD .skip)=true:=by kernel_rfl
theorem SZ:CC.P.funcs[103]?=some y0:=by kernel_rfl
theorem Ou (n:Nat) (h:n < 256) (bx):Ak CC (Ae CC) 117 [.int .u8 (n:Int)] bx=some (.ret (.int .i64 (Dr n)),bx):=by
 have hn:(yW n).toNat=n:=by rw [za,zk (by omega)]
 have:=cz (yW n) bx;unfold FF at this
 rwa [hn] at this
theorem RB (n:Nat):-1<=Dr n/\Dr n < 16:=by unfold Dr;split <;> (try split) <;> omega
def px (s:List UInt8) (o:Option (List UInt8×Nat)) (r:Option (Ex×St)):Prop:=match o with
 | some (b,i)=>∃ e',r=some (.exit 0,⟨e',[]⟩)/\getT e' 0=.str s/\getT e' 1=.int .i64 0/\getT e' 6=.osl 5 (DM b)/\getT e' 7=.int .i64 (i:Int)/\b.length<=i/\i<=s.length
 | none=>∃ e',r=some (.ret,⟨e',[]⟩)/\getT e' 4=.str []/\getT e' 5=.int .i64 (-1)
theorem j7 (s:List UInt8) (hs:s.length<=40000) (m:Nat) (L:Code) (hL:L=Aa y0 [1,1,1,1,0,0]) (ih:∀ (i:Nat) (b:List UInt8) (e:List PV),s.length - i < m->i<=s.length->b.length<=i->getT e 0=.str s->getT e 1=.int .i64 0->getT e 6=.osl 5 (DM b)->getT e 7=.int .i64 i->px s (DJ m s i b) (Cp CC L ⟨e,[]⟩)) (i:Nat) (b:List UInt8) (e:List PV) (hm:s.length - i < m+1) (hi:i<=s.length) (hb:b.length<=i) (h0:getT e 0=.str s) (h1:getT e 1=.int .i64 0) (h6:getT e 6=.osl 5 (DM b)) (h7:getT e 7=.int .i64 i) (Bq:i < s.length) (c1:AZ s i≠34) (c2:AZ s i=92) (d1:i+1 < s.length) (c3:AZ s (i+1)=34\/AZ s (i+1)=92):px s (DJ (m+1) s i b) (Cp CC L ⟨e,[]⟩):=by
 rw [A0 (Aa y0 [1,1,1,1,0,0,0]) hL];rw [FL];have hlen:=AX s;have mB:(DM b).length=b.length:=Es b;have Fh:∀ n,(DM [yW n]).length=1:=fun n=>rfl;have iF:∀ n,((DM [yW n]).all fun y=>y.cells.length == 1)=true:=fun n=>L' _;have iu:∀ n,DM (b++[yW n])=DM b++DM [yW n]:=fun n=>GF _ _;have a0:=DI s i;have a1:=DI s (i+1);have a2:=DI s (i+2);have a3:=DI s (i+3);have w1:=wrap_i64 (n:=(i:Int)+1) ⟨by omega,by omega⟩;have w2:=wrap_i64 (n:=(i:Int)+2) ⟨by omega,by omega⟩;have w3:=wrap_i64 (n:=(i:Int)+3) ⟨by omega,by omega⟩;have w4:=wrap_i64 (n:=(i:Int)+4) ⟨by omega,by omega⟩;have cast1:((i+1:Nat):Int)=(i:Int)+1:=by omega
 have cast2:((i+2:Nat):Int)=(i:Int)+2:=by omega
 have cast3:((i+3:Nat):Int)=(i:Int)+3:=by omega
 have cast4:((i+4:Nat):Int)=(i:Int)+4:=by omega
 have D5:(i:Int) < (s.length:Int):=by omega
 have Dc:=Kw s i Bq;have c1':(((AZ s i:Nat):Int) != 34)=true:=by simp;omega
 have c2':(((AZ s i:Nat):Int) != 92)=false:=by rw [c2];rfl
 rw [if_pos ⟨Bq,c1⟩,if_neg (fun h=>h c2)];have d1':(i:Int)+1 < (s.length:Int):=by omega
 have Ir:=Kw s (i+1) d1;rw [cast1] at Ir;rw [if_pos ⟨d1,c3⟩];have FB:=SV (AZ s (i+1)) a1;have key:=fun e=>ih (i+2) (b++[yW (AZ s (i+1))]) e (by omega) (by omega) (by rw [yZ,zf];omega);rw [cast2,iu] at key;have Ek:=iF (AZ s (i+1));have hc:(DM b).length+(DM [yW (AZ s (i+1))]).length<=1000000:=by rw [Fh,mB];omega
 generalize DJ m s (i+2) (b++[yW (AZ s (i+1))])=o at *;generalize DM [yW (AZ s (i+1))]=ys at *;generalize DM b=xs at *;by_cases c4:AZ s (i+1)=34
 · have c4':(((AZ s (i+1):Nat):Int) == 34)=true:=by rw [c4];rfl
   rw [<- Am];rw [<- Am] at key;simp only [Aa,Ac,y0,yX];simp only [S8,Ag,seval,h0,h1,h6,h7,hlen,D5,Dc,Ir,c1',c2',d1',c4',w1,w2,FB,Kv,Ek,hc];exact key _ (by simp only [S7,Ag,seval,h0]) (by simp only [S7,Ag,seval,h1]) (by simp only [S7,Ag,seval]) (by simp only [S7,Ag,seval])
 · have c4':(((AZ s (i+1):Nat):Int) == 34)=false:=by simp;omega
   have c5':(((AZ s (i+1):Nat):Int) == 92)=true:=by simp;omega
   rw [<- Am];rw [<- Am] at key;simp only [Aa,Ac,y0,yX];simp only [S8,Ag,seval,h0,h1,h6,h7,hlen,D5,Dc,Ir,c1',c2',d1',c4',c5',w1,w2,FB,Kv,Ek,hc];exact key _ (by simp only [S7,Ag,seval,h0]) (by simp only [S7,Ag,seval,h1]) (by simp only [S7,Ag,seval]) (by simp only [S7,Ag,seval])
theorem j8 (s:List UInt8) (hs:s.length<=40000) (m:Nat) (L:Code) (hL:L=Aa y0 [1,1,1,1,0,0]) (ih:∀ (i:Nat) (b:List UInt8) (e:List PV),s.length - i < m->i<=s.length->b.length<=i->getT e 0=.str s->getT e 1=.int .i64 0->getT e 6=.osl 5 (DM b)->getT e 7=.int .i64 i->px s (DJ m s i b) (Cp CC L ⟨e,[]⟩)) (i:Nat) (b:List UInt8) (e:List PV) (hm:s.length - i < m+1) (hi:i<=s.length) (hb:b.length<=i) (h0:getT e 0=.str s) (h1:getT e 1=.int .i64 0) (h6:getT e 6=.osl 5 (DM b)) (h7:getT e 7=.int .i64 i) (Bq:i < s.length) (c1:AZ s i≠34) (c2:AZ s i≠92):px s (DJ (m+1) s i b) (Cp CC L ⟨e,[]⟩):=by
 rw [A0 (Aa y0 [1,1,1,1,0,0,0]) hL];rw [FL];have hlen:=AX s;have mB:(DM b).length=b.length:=Es b;have Fh:∀ n,(DM [yW n]).length=1:=fun n=>rfl;have iF:∀ n,((DM [yW n]).all fun y=>y.cells.length == 1)=true:=fun n=>L' _;have iu:∀ n,DM (b++[yW n])=DM b++DM [yW n]:=fun n=>GF _ _;have a0:=DI s i;have a1:=DI s (i+1);have a2:=DI s (i+2);have a3:=DI s (i+3);have w1:=wrap_i64 (n:=(i:Int)+1) ⟨by omega,by omega⟩;have w2:=wrap_i64 (n:=(i:Int)+2) ⟨by omega,by omega⟩;have w3:=wrap_i64 (n:=(i:Int)+3) ⟨by omega,by omega⟩;have w4:=wrap_i64 (n:=(i:Int)+4) ⟨by omega,by omega⟩;have cast1:((i+1:Nat):Int)=(i:Int)+1:=by omega
 have cast2:((i+2:Nat):Int)=(i:Int)+2:=by omega
 have cast3:((i+3:Nat):Int)=(i:Int)+3:=by omega
 have cast4:((i+4:Nat):Int)=(i:Int)+4:=by omega
 have D5:(i:Int) < (s.length:Int):=by omega
 have Dc:=Kw s i Bq;have c1':(((AZ s i:Nat):Int) != 34)=true:=by simp;omega
 rw [if_pos ⟨Bq,c1⟩];have c2':(((AZ s i:Nat):Int) != 92)=true:=by simp;omega
 rw [if_pos c2];have FB:=SV (AZ s i) a0;have key:=fun e=>ih (i+1) (b++[yW (AZ s i)]) e (by omega) (by omega) (by rw [yZ,zf];omega);rw [cast1,iu] at key;have Ek:=iF (AZ s i);have hc:(DM b).length+(DM [yW (AZ s i)]).length<=1000000:=by rw [Fh,mB];omega
 generalize DJ m s (i+1) (b++[yW (AZ s i)])=o at *;generalize DM [yW (AZ s i)]=ys at *;generalize DM b=xs at *;rw [<- Am];rw [<- Am] at key;simp only [Aa,Ac,y0,yX];simp only [S8,Ag,seval,h0,h1,h6,h7,hlen,D5,Dc,c1',c2',w1,FB,Kv,Ek,hc];exact key _ (by simp only [S7,Ag,seval,h0]) (by simp only [S7,Ag,seval,h1]) (by simp only [S7,Ag,seval]) (by simp only [S7,Ag,seval])
theorem j9 (s:List UInt8) (hs:s.length<=40000) (m:Nat) (L:Code) (hL:L=Aa y0 [1,1,1,1,0,0]) (ih:∀ (i:Nat) (b:List UInt8) (e:List PV),s.length - i < m->i<=s.length->b.length<=i->getT e 0=.str s->getT e 1=.int .i64 0->getT e 6=.osl 5 (DM b)->getT e 7=.int .i64 i->px s (DJ m s i b) (Cp CC L ⟨e,[]⟩)) (i:Nat) (b:List UInt8) (e:List PV) (hm:s.length - i < m+1) (hi:i<=s.length) (hb:b.length<=i) (h0:getT e 0=.str s) (h1:getT e 1=.int .i64 0) (h6:getT e 6=.osl 5 (DM b)) (h7:getT e 7=.int .i64 i) (Bq:i < s.length) (c1:AZ s i≠34) (c2:AZ s i=92) (d1:i+1 < s.length) (c3:¬ (AZ s (i+1)=34\/AZ s (i+1)=92)) (d3:i+3 < s.length) (c6:AZ s (i+1)=120) (c7:0<=Dr (AZ s (i+2))) (c8:0<=Dr (AZ s (i+3))):px s (DJ (m+1) s i b) (Cp CC L ⟨e,[]⟩):=by
 rw [A0 (Aa y0 [1,1,1,1,0,0,0]) hL];rw [FL];have hlen:=AX s;have mB:(DM b).length=b.length:=Es b;have Fh:∀ n,(DM [yW n]).length=1:=fun n=>rfl;have iF:∀ n,((DM [yW n]).all fun y=>y.cells.length == 1)=true:=fun n=>L' _;have iu:∀ n,DM (b++[yW n])=DM b++DM [yW n]:=fun n=>GF _ _;have a0:=DI s i;have a1:=DI s (i+1);have a2:=DI s (i+2);have a3:=DI s (i+3);have w1:=wrap_i64 (n:=(i:Int)+1) ⟨by omega,by omega⟩;have w2:=wrap_i64 (n:=(i:Int)+2) ⟨by omega,by omega⟩;have w3:=wrap_i64 (n:=(i:Int)+3) ⟨by omega,by omega⟩;have w4:=wrap_i64 (n:=(i:Int)+4) ⟨by omega,by omega⟩;have cast1:((i+1:Nat):Int)=(i:Int)+1:=by omega
 have cast2:((i+2:Nat):Int)=(i:Int)+2:=by omega
 have cast3:((i+3:Nat):Int)=(i:Int)+3:=by omega
 have cast4:((i+4:Nat):Int)=(i:Int)+4:=by omega
 have D5:(i:Int) < (s.length:Int):=by omega
 have Dc:=Kw s i Bq;have c1':(((AZ s i:Nat):Int) != 34)=true:=by simp;omega
 have c2':(((AZ s i:Nat):Int) != 92)=false:=by rw [c2];rfl
 rw [if_pos ⟨Bq,c1⟩,if_neg (fun h=>h c2)];have d1':(i:Int)+1 < (s.length:Int):=by omega
 have Ir:=Kw s (i+1) d1;rw [cast1] at Ir;rw [if_neg (fun h=>c3 h.2)];have c4':(((AZ s (i+1):Nat):Int) == 34)=false:=by simp;omega
 have c5':(((AZ s (i+1):Nat):Int) == 92)=false:=by simp;omega
 have d3':(i:Int)+3 < (s.length:Int):=by omega
 have dP:=Kw s (i+2) (by omega);have dQ:=Kw s (i+3) (by omega);rw [cast2] at dP;rw [cast3] at dQ;have c6':(((AZ s (i+1):Nat):Int) == 120)=true:=by rw [c6];rfl
 have iB:=Ou (AZ s (i+2)) a2;have sh:=Ou (AZ s (i+3)) a3;have sR:=RB (AZ s (i+2));have wi:=RB (AZ s (i+3));have c7':Dr (AZ s (i+2)) ≥ 0:=c7;have c8':Dr (AZ s (i+3)) ≥ 0:=c8;rw [if_pos ⟨d3,c6,c7,c8⟩];have hV:(Dr (AZ s (i+2)) * 16+Dr (AZ s (i+3))).toNat < 256:=by omega
 have hVi:(((Dr (AZ s (i+2)) * 16+Dr (AZ s (i+3))).toNat:Nat):Int)=16 * Dr (AZ s (i+2))+Dr (AZ s (i+3)):=by omega
 have FB:=SV _ hV;rw [hVi] at FB;have key:=fun e=>ih (i+4) (b++[yW (Dr (AZ s (i+2)) * 16+Dr (AZ s (i+3))).toNat]) e (by omega) (by omega) (by rw [yZ,zf];omega);rw [cast4,iu] at key;have Ek:=iF (Dr (AZ s (i+2)) * 16+Dr (AZ s (i+3))).toNat;have hc:(DM b).length+(DM [yW (Dr (AZ s (i+2)) * 16+Dr (AZ s (i+3))).toNat]).length<=1000000:=by rw [Fh,mB];omega
 have YH:=Wk (16 * Dr (AZ s (i+2))+Dr (AZ s (i+3))) ⟨by omega,by omega⟩;have v1:=wrap_i64 (n:=16 * Dr (AZ s (i+2))) ⟨by omega,by omega⟩;have v2:=wrap_i64 (n:=16 * Dr (AZ s (i+2))+Dr (AZ s (i+3))) ⟨by omega,by omega⟩;generalize DJ m s (i+4) (b++[yW (Dr (AZ s (i+2)) * 16+Dr (AZ s (i+3))).toNat])=o at *;generalize DM [yW (Dr (AZ s (i+2)) * 16+Dr (AZ s (i+3))).toNat]=ys at *;generalize DM b=xs at *;rw [<- Am];rw [<- Am] at key;rw [<- AK] at iB sh;simp only [Aa,Ac,y0,yX];simp only [S8,Ag,seval,h0,h1,h6,h7,hlen,D5,Dc,Ir,dP,dQ,c1',c2',d1',c4',c5',d3',c6',iB,sh,c7',c8',v1,v2,YH,w1,w2,w3,w4,FB,Kv,Ek,hc];exact key _ (by simp only [S7,Ag,seval,h0]) (by simp only [S7,Ag,seval,h1]) (by simp only [S7,Ag,seval]) (by simp only [S7,Ag,seval])
theorem QX (L:Code) (hL:L=Aa y0 [1,1,1,1,0,0]) (s:List UInt8) (hs:s.length<=40000):∀ (m i:Nat) (b:List UInt8) (e:List PV),s.length - i < m->i<=s.length->b.length<=i->getT e 0=.str s->getT e 1=.int .i64 0->getT e 6=.osl 5 (DM b)->getT e 7=.int .i64 i ->
 px s (DJ m s i b) (Cp CC L ⟨e,[]⟩):=by
 intro m
 induction m with
 | zero=>intro i b e hm;omega
 | succ m ih=>
  intro i b e hm hi hb h0 h1 h6 h7;by_cases D:i < s.length/\AZ s i≠34/\AZ s i=92/\i+1 < s.length/\(AZ s (i+1)=34\/AZ s (i+1)=92)
  · exact j7 s hs m L hL ih i b e hm hi hb h0 h1 h6 h7 D.1 D.2.1 D.2.2.1 D.2.2.2.1 D.2.2.2.2
  by_cases D':i < s.length/\AZ s i≠34/\AZ s i=92/\i+1 < s.length/\¬ (AZ s (i+1)=34\/AZ s (i+1)=92)/\i+3 < s.length/\AZ s (i+1)=120/\0<=Dr (AZ s (i+2))/\0<=Dr (AZ s (i+3))
  · obtain ⟨k1,k2,k3,k4,k5,k6,k7,k8,k9⟩:=D'
    exact j9 s hs m L hL ih i b e hm hi hb h0 h1 h6 h7 k1 k2 k3 k4 k5 k6 k7 k8 k9
  by_cases D'':i < s.length/\AZ s i≠34/\AZ s i≠92
  · exact j8 s hs m L hL ih i b e hm hi hb h0 h1 h6 h7 D''.1 D''.2.1 D''.2.2
  rw [A0 (Aa y0 [1,1,1,1,0,0,0]) hL];rw [FL];have hlen:=AX s;have mB:(DM b).length=b.length:=Es b;have Fh:∀ n,(DM [yW n]).length=1:=fun n=>rfl;have iF:∀ n,((DM [yW n]).all fun y=>y.cells.length == 1)=true:=fun n=>L' _;have iu:∀ n,DM (b++[yW n])=DM b++DM [yW n]:=fun n=>GF _ _;have a0:=DI s i;have a1:=DI s (i+1);have a2:=DI s (i+2);have a3:=DI s (i+3);have w1:=wrap_i64 (n:=(i:Int)+1) ⟨by omega,by omega⟩;have w2:=wrap_i64 (n:=(i:Int)+2) ⟨by omega,by omega⟩;have w3:=wrap_i64 (n:=(i:Int)+3) ⟨by omega,by omega⟩;have w4:=wrap_i64 (n:=(i:Int)+4) ⟨by omega,by omega⟩;have cast1:((i+1:Nat):Int)=(i:Int)+1:=by omega
  have cast2:((i+2:Nat):Int)=(i:Int)+2:=by omega
  have cast3:((i+3:Nat):Int)=(i:Int)+3:=by omega
  have cast4:((i+4:Nat):Int)=(i:Int)+4:=by omega
  by_cases Bq:i < s.length
  · have D5:(i:Int) < (s.length:Int):=by omega
    have Dc:=Kw s i Bq;by_cases c1:AZ s i=34
    · have c1':(((AZ s i:Nat):Int) != 34)=false:=by rw [c1];rfl
      rw [if_neg (fun h=>h.2 c1)];rw [<- Am];simp only [Aa,Ac,y0,yX];simp only [S8,Ag,seval,h0,h1,h6,h7,hlen,D5,Dc,c1'];exact ⟨_,rfl,by simp only [S7,Ag,seval,h0],by simp only [S7,Ag,seval,h1],by simp only [S7,Ag,seval,h6],by simp only [S7,Ag,seval,h7],hb,hi⟩
    · have c1':(((AZ s i:Nat):Int) != 34)=true:=by simp;omega
      rw [if_pos ⟨Bq,c1⟩];by_cases c2:AZ s i=92
      · have c2':(((AZ s i:Nat):Int) != 92)=false:=by rw [c2];rfl
        rw [if_neg (fun h=>h c2)];by_cases d1:i+1 < s.length
        · have d1':(i:Int)+1 < (s.length:Int):=by omega
          have Ir:=Kw s (i+1) d1;rw [cast1] at Ir;by_cases c3:AZ s (i+1)=34\/AZ s (i+1)=92
          · exact absurd ⟨Bq,c1,c2,d1,c3⟩ D
          · rw [if_neg (fun h=>c3 h.2)]
            have c4':(((AZ s (i+1):Nat):Int) == 34)=false:=by simp;omega
            have c5':(((AZ s (i+1):Nat):Int) == 92)=false:=by simp;omega
            by_cases d3:i+3 < s.length
            · have d3':(i:Int)+3 < (s.length:Int):=by omega
              have dP:=Kw s (i+2) (by omega);have dQ:=Kw s (i+3) (by omega);rw [cast2] at dP;rw [cast3] at dQ;by_cases c6:AZ s (i+1)=120
              · have c6':(((AZ s (i+1):Nat):Int) == 120)=true:=by rw [c6];rfl
                have iB:=Ou (AZ s (i+2)) a2;have sh:=Ou (AZ s (i+3)) a3;have sR:=RB (AZ s (i+2));have wi:=RB (AZ s (i+3));by_cases c7:0<=Dr (AZ s (i+2))
                · have c7':Dr (AZ s (i+2)) ≥ 0:=c7
                  by_cases c8:0<=Dr (AZ s (i+3))
                  · exact absurd ⟨Bq,c1,c2,d1,c3,d3,c6,c7,c8⟩ D'
                  · have c8':¬ Dr (AZ s (i+3)) ≥ 0:=c8
                    rw [if_neg (fun h=>c8 h.2.2.2)];rw [<- Am];rw [<- AK] at iB sh;simp only [Aa,Ac,y0,yX];simp only [S8,Ag,seval,h0,h1,h6,h7,hlen,D5,Dc,Ir,dP,dQ,c1',c2',d1',c4',c5',d3',c6',iB,sh,c7',c8',w1,w2,w3,w4];exact ⟨_,rfl,by simp only [S7,Ag,seval],by simp only [S7,Ag,seval]⟩
                · have c7':¬ Dr (AZ s (i+2)) ≥ 0:=c7
                  rw [if_neg (fun h=>c7 h.2.2.1)];rw [<- Am];rw [<- AK] at iB sh;simp only [Aa,Ac,y0,yX];simp only [S8,Ag,seval,h0,h1,h6,h7,hlen,D5,Dc,Ir,dP,dQ,c1',c2',d1',c4',c5',d3',c6',iB,sh,c7',w1,w2,w3,w4];exact ⟨_,rfl,by simp only [S7,Ag,seval],by simp only [S7,Ag,seval]⟩
              · have c6':(((AZ s (i+1):Nat):Int) == 120)=false:=by simp;omega
                rw [if_neg (fun h=>c6 h.2.1)];rw [<- Am];simp only [Aa,Ac,y0,yX];simp only [S8,Ag,seval,h0,h1,h6,h7,hlen,D5,Dc,Ir,dP,dQ,c1',c2',d1',c4',c5',d3',c6',w1,w2,w3,w4];exact ⟨_,rfl,by simp only [S7,Ag,seval],by simp only [S7,Ag,seval]⟩
            · have d3':¬ (i:Int)+3 < (s.length:Int):=by omega
              rw [if_neg (fun h=>d3 h.1)];rw [<- Am];simp only [Aa,Ac,y0,yX];simp only [S8,Ag,seval,h0,h1,h6,h7,hlen,D5,Dc,Ir,c1',c2',d1',c4',c5',d3',w1,w2,w3,w4];exact ⟨_,rfl,by simp only [S7,Ag,seval],by simp only [S7,Ag,seval]⟩
        · have d1':¬ (i:Int)+1 < (s.length:Int):=by omega
          have d3':¬ (i:Int)+3 < (s.length:Int):=by omega
          rw [if_neg (fun h=>d1 h.1),if_neg (fun h=>by have:=h.1;omega)];rw [<- Am];simp only [Aa,Ac,y0,yX];simp only [S8,Ag,seval,h0,h1,h6,h7,hlen,D5,Dc,c1',c2',d1',d3',w1,w2,w3,w4];exact ⟨_,rfl,by simp only [S7,Ag,seval],by simp only [S7,Ag,seval]⟩
      · exact absurd ⟨Bq,c1,c2⟩ D''
  · have D5:¬ (i:Int) < (s.length:Int):=by omega
    rw [if_neg (fun h=>Bq h.1)];rw [<- Am];simp only [Aa,Ac,y0,yX];simp only [S8,Ag,seval,h0,h1,h6,h7,hlen,D5];exact ⟨_,rfl,by simp only [S7,Ag,seval,h0],by simp only [S7,Ag,seval,h1],by simp only [S7,Ag,seval,h6],by simp only [S7,Ag,seval,h7],hb,hi⟩
theorem S0:Bk CC zh (zh.body.getD .skip)=true:=by kernel_rfl
theorem QY:CC.P.funcs[71]?=some zh:=by kernel_rfl
def Hw:Option (List UInt8×Nat)->PV
 | some (t,k)=>.tup [.str t,.int .i64 (k:Int)]
 | none=>.tup [.str [],.int .i64 (-1)]
theorem QZ (s:List UInt8) (hs:s.length<=40000):Ae CC 103 [.str s,.int .i64 0] []=some (.ret (Hw (GO s)),[]):=by
 rw [Ah (fn:=y0) (c:=y0.body.getD .skip) rfl rfl SZ rfl UZ (y5 rfl)];have hlen:=AX s;unfold GO;by_cases DZ:0 < s.length
 · have Mg:¬ (0:Int) ≥ (s.length:Int):=by omega
   have Dc:=Kw s 0 DZ;have Dc:EK CC 9 (.str s) (.int .i64 0)=some (.int .u8 ((AZ s 0:Nat):Int)):=Dc
   have hh:s.head?=some 34↔AZ s 0=34:=by
    cases s with
    | nil=>simp at DZ
    | cons c r=>
     show some c=some 34↔c.toNat=34;rw [Option.some_inj,<- zl];exact Iff.rfl
   by_cases c1:AZ s 0=34
   · have c1':(((AZ s 0:Nat):Int) != 34)=false:=by rw [c1];rfl
     rw [if_pos (hh.2 c1)];have Af:=fun e=>QX _ rfl s hs (s.length+1) 1 [] e (by omega) (by omega) (by simp);have EM:DM []=[]:=rfl;rw [EM] at Af;have Yu:∀ b i,DJ (s.length+1) s 1 []=some (b,i)->True:=fun _ _ _=>trivial;have bg:=ea;have bh:=eb;have Pc:=Xt;have Ko:=fun (i:Nat) (h:i < s.length)=>JS s 0 ((i:Int)+1) (by omega) (by omega) (by omega);have w:=fun (i:Nat) (h:i<=s.length)=>wrap_i64 (n:=(i:Int)+1) ⟨by omega,by omega⟩;generalize DJ (s.length+1) s 1 []=o at *;rw [<- Am];rw [<- Am] at Af;rw [<- AK] at Pc;simp only [Aa,Ac,y0,yX] at Af |-;simp only [S8,Ag,seval,hlen,Mg,Dc,c1'];generalize hE:GZ _ _=z
     have hP:px s o z:=by
      rw [<- hE];refine Af _ ?_ ?_ ?_ ?_
      · simp only [S7,Ag,seval]
      · simp only [S7,Ag,seval]
      · simp only [S7,Ag,seval]
      · simp only [S7,Ag,seval] <;> rfl
     clear hE Af
     match o,hP with
     | none,hP=>
      obtain ⟨e',he,h4,h5⟩:=hP;subst he;simp only [S8,Ag,seval,h4,h5]
      try rfl
     | some (b,i),hP=>
      obtain ⟨e',he,h0,h1,h6,h7,hb,hi⟩:=hP;subst he;have bg:=bg b;have bh:=bh b;have Pc:=Pc b (by omega);have w:=w i hi;by_cases d1:i < s.length
      · have d1':¬ (i:Int) ≥ (s.length:Int):=by omega
        have Ko:=Ko i d1;have xW:((i:Int)+1).toNat=i+1:=by omega
        rw [xW,show (0:Int).toNat=0 from rfl,zI] at Ko;have DZ:=CH (Cg b) (s.take (i+1));by_cases d2:Cg b=s.take (i+1)
        · have d2':(Cg b == s.take (i+1))=true:=by simpa using d2
          rw [d2'] at DZ;have Jc:((i+1:Nat):Int)=(i:Int)+1:=by omega
          simp only [ge_iff_le,d2,ne_eq,not_true_eq_false,or_false,if_neg (by omega:¬ s.length<=i),Hw,Jc];rw [d2] at DZ Pc;generalize s.take (i+1)=u at *;simp only [S8,Ag,seval,h0,h1,h6,h7,hlen,d1',bg,bh,Pc,Ko,w,DZ,Bool.not_true]
        · have d2':(Cg b == s.take (i+1))=false:=by simpa using d2
          rw [d2'] at DZ;simp only [ge_iff_le,ne_eq,d2,not_false_eq_true,or_true,if_true,Hw];generalize s.take (i+1)=u at *;simp only [S8,Ag,seval,h0,h1,h6,h7,hlen,d1',bg,bh,Pc,Ko,w,DZ,Bool.not_false]
      · have d1':(i:Int) ≥ (s.length:Int):=by omega
        simp only [ge_iff_le,if_pos (Or.inl (by omega):s.length<=i\/Cg b≠s.take (i+1)),Hw];simp only [S8,Ag,seval,h0,h1,h6,h7,hlen,d1',bg,bh,Pc,w]
   · have c1':(((AZ s 0:Nat):Int) != 34)=true:=by simp;omega
     rw [if_neg (fun h=>c1 (hh.1 h))];unfold Hw;rw [<- Am];simp only [Aa,Ac,y0,yX];simp only [S8,Ag,seval,hlen,Mg,Dc,c1']
 · have Mg:(0:Int) ≥ (s.length:Int):=by omega
   have rL:s=[]:=zi.1 (by omega);rw [if_neg (by rw [rL];simp)];unfold Hw;rw [<- Am];simp only [Aa,Ac,y0,yX];simp only [S8,Ag,seval,hlen,Mg]
theorem U0 (s:List UInt8) (hs:s.length<=40000) (bx):Ak CC (Ae CC) 103 [.str s,.int .i64 0] bx=some (.ret (Hw (GO s)),bx):=Ax rfl (by simp only [SA,y3]) (QZ s hs) (by cases GO s <;> rfl)
theorem PA (s:List UInt8) (hs:s.length<=40000):Ae CC 71 [.str s] []=some (.ret (.tup [.str (RA s).1,.int .i64 (RA s).2]),[]):=by
 rw [Ah (fn:=zh) (c:=zh.body.getD .skip) rfl rfl QY rfl S0 (y5 rfl)];have hlen:=AX s;have hq:=U0 s hs;rw [<- nv];unfold nu;generalize GO s=q at *;cases q with
 | none=>
  have hm:(-1:Int) < 0:=by decide
  unfold Hw at hq;rw [<- Am];rw [<- AK] at hq;simp only [Aa,Ac,zh,yX];simp only [S8,Ag,seval,hlen,hq,hm]
 | some x=>
  obtain ⟨t,k⟩:=x;unfold Hw at hq;simp only at hq |-;have sf:=AX t;have Yv:¬ (k:Int) < 0:=by omega
  by_cases c2:k=s.length
  · have c2':((k:Int) != (s.length:Int))=false:=by simp [c2]
    rw [if_neg (fun h=>h c2)];by_cases c3:t.length > 60
    · have c3':(t.length:Int) > 60:=by omega
      rw [if_pos c3];rw [<- Am];rw [<- AK] at hq;simp only [Aa,Ac,zh,yX];simp only [S8,Ag,seval,hlen,sf,hq,Yv,c2',c3']
    · have c3':¬ (t.length:Int) > 60:=by omega
      rw [if_neg c3];rw [<- Am];rw [<- AK] at hq;simp only [Aa,Ac,zh,yX];simp only [S8,Ag,seval,hlen,sf,hq,Yv,c2',c3']
  · have c2':((k:Int) != (s.length:Int))=true:=by simp;omega
    rw [if_pos c2];rw [<- Am];rw [<- AK] at hq;simp only [Aa,Ac,zh,yX];simp only [S8,Ag,seval,hlen,sf,hq,Yv,c2']
theorem S4 (s:List UInt8) (hs:s.length<=40000) (bx):Ak CC (Ae CC) 71 [.str s] bx=some (.ret (.tup [.str (RA s).1,.int .i64 (RA s).2]),bx):=Ax rfl (by simp only [SA,y3]) (PA s hs) rfl
end Go.HH
