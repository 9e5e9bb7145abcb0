/-
  What the law needs, packed: Q3.
-/
import Derived.Test.YthjcaihemgllaaaGreatDoorM32
namespace Go.HH
open Go Go.Proofs
set_option maxRecDepth 100000
set_option linter.unusedSimpArgs false
set_option linter.unusedVariables false
def hexd (d:Nat):UInt8:=UInt8.ofNat (if d < 10 then 48+d else 87+d)
def formN (n:Nat):List UInt8:=if n=34∨n=92 then [92,UInt8.ofNat n] else if n < 32∨126 < n then [92,120,hexd (n / 16),hexd (n % 16)] else [UInt8.ofNat n]
def formL (c:UInt8):List UInt8:=formN c.toNat
def hexN (n:Nat):Int:=if 48<=n∧n<=57 then n - 48 else if 97<=n∧n<=102 then n - 87 else -1
def hexV (c:UInt8):Int:=hexN c.toNat
noncomputable def chkStr (f:FuncId) (g:Nat->List UInt8) (n:Nat):Bool:=match callF CC 50 f [.int .u8 n] [] with
 | some (.ret (.str s),[])=>s == g n
 | _=>false
noncomputable def chkInt (k:IntKind) (f:FuncId) (g:Nat->Int) (n:Nat):Bool:=match callF CC 50 f [.int .u8 n] [] with
 | some (.ret (.int k' v),[])=>k == k' && v == g n
 | _=>false
theorem of_chkStr {f:FuncId} {g:Nat->List UInt8} (h:(List.range 256).all (chkStr f g)=true) (c:UInt8):callL CC f [.int .u8 (c.toNat:Int)] []=some (.ret (.str (g c.toNat)),[]):=by
 have:=List.all_eq_true.1 h c.toNat (List.mem_range.2 (UInt8.toNat_lt c))
 unfold chkStr at this
 split at this
 · rename_i s hs
   have e:s=g c.toNat:=by simpa using this
   subst e
   exact callL_iff.2 ⟨50,hs⟩
 · cases this
theorem of_chkInt {k:IntKind} {f:FuncId} {g:Nat->Int} (h:(List.range 256).all (chkInt k f g)=true) (c:UInt8):callL CC f [.int .u8 (c.toNat:Int)] []=some (.ret (.int k (g c.toNat)),[]):=by
 have:=List.all_eq_true.1 h c.toNat (List.mem_range.2 (UInt8.toNat_lt c))
 unfold chkInt at this
 split at this
 · rename_i k' v hs
   simp only [Bool.and_eq_true,beq_iff_eq] at this
   obtain ⟨e1,e2⟩:=this
   subst e1 e2
   exact callL_iff.2 ⟨50,hs⟩
 · cases this
theorem all_form:(List.range 256).all (chkStr 156 formN)=true:=by kernel_rfl
theorem all_hex:(List.range 256).all (chkInt .i64 177 hexN)=true:=by kernel_rfl
theorem op_names_form (c:UInt8) (bx):callOp CC (callL CC) 156 [.int .u8 (c.toNat:Int)] bx=some (.ret (.str (formL c)),bx):=callOp_of rfl (by simp only [SA,Bool.and_true]) (of_chkStr all_form c) rfl
theorem op_names_hex (c:UInt8) (bx):callOp CC (callL CC) 177 [.int .u8 (c.toNat:Int)] bx=some (.ret (.int .i64 (hexV c)),bx):=callOp_of rfl (by simp only [SA,Bool.and_true]) (of_chkInt all_hex c) rfl
theorem ok_names_next:fnOK CC Tryz.f168 (Tryz.f168.body.getD .skip)=true:=by kernel_rfl
theorem fat_names_next:CC.P.funcs[168]?=some Tryz.f168:=by kernel_rfl
theorem or_hexF:∀ a:_root_.Fin 16,∀ b:_root_.Fin 16,bitsP .or .i64 ((a.val:Int) * 16) (b.val:Int)=some ((a.val:Int) * 16+b.val):=by decide +kernel
theorem or_hex {a b:Int} (ha:0<=a∧a < 16) (hb:0<=b∧b < 16):bitsP .or .i64 (a * 16) b=some (a * 16+b):=by
 have:=or_hexF ⟨a.toNat,by omega⟩ ⟨b.toNat,by omega⟩
 simp only at this
 rwa [Int.toNat_of_nonneg ha.1,Int.toNat_of_nonneg hb.1] at this
theorem shl4 {a:Int} (ha:0<=a∧a < 16):shiftP .shl .i64 a 4=some (.int .i64 (a * 16)):=by
 have w:=wrap_i64 (n:=a * 16) ⟨by omega,by omega⟩
 unfold shiftP
 rw [if_neg (by decide)]
 show some (PV.int .i64 (IntKind.wrap .i64 (a * 2 ^ (min (Int.toNat 4) 64))))=_
 rw [show (2:Int) ^ (min (Int.toNat 4) 64)=16 from by decide,w]
theorem hexV_lt (c:UInt8):-1<=hexV c∧hexV c < 16:=by unfold hexV hexN;split <;> (try split) <;> omega
theorem conv_i_u8 (n:Int) (h:0<=n∧n < 256):convP CC 3 5 (.int .i64 n)=some (.int .u8 n):=by
 have w:IntKind.wrap .u8 n=n:=by simp [IntKind.wrap,IntKind.bits,IntKind.signed];omega
 unfold convP
 simp only [TG,w]
theorem conv_u8_i (n:Int) (h:0<=n∧n < 256):convP CC 5 3 (.int .u8 n)=some (.int .i64 n):=by
 unfold convP
 simp only [TG,wrap_i64 (n:=n) ⟨by omega,by omega⟩]
theorem conv_u8_r (n:Int) (h:0<=n∧n < 256):convP CC 5 21 (.int .u8 n)=some (.int .i32 n):=by
 have w:IntKind.wrap .i32 n=n:=by simp [IntKind.wrap,IntKind.bits,IntKind.signed];omega
 unfold convP
 simp only [TG,w]
theorem conv_r_u8 (n:Int) (h:0<=n∧n < 256):convP CC 21 5 (.int .i32 n)=some (.int .u8 n):=by
 have w:IntKind.wrap .u8 n=n:=by simp [IntKind.wrap,IntKind.bits,IntKind.signed];omega
 unfold convP
 simp only [TG,w]
def hex2 (x y:UInt8):Nat:=(hexV x * 16+hexV y).toNat
def nextL:List UInt8->Nat×Nat
 | []=>(0,0)
 | c :: r=>
  if c.toNat=34 then (0,0)
  else if c.toNat≠92 then (if formL c=[c] then (c.toNat,1) else (0,0))
  else match r with
   | []=>(0,0)
   | d :: r=>
    if d.toNat=34∨d.toNat=92 then (d.toNat,2)
    else match r with
     | x :: y :: _=>if d.toNat=120∧0<=hexV x∧0<=hexV y∧formN (hex2 x y)=[c,d,x,y] then (hex2 x y,4) else (0,0)
     | _=>(0,0)
theorem nextL_lt (s:List UInt8):(nextL s).1 < 256∧(nextL s).2<=s.length∧(nextL s).2<=4:=by
 unfold nextL
 split
 · simp
 · rename_i c r
   have:=UInt8.toNat_lt c
   split
   · simp
   · split
     · split <;> simp <;> omega
     · cases r with
       | nil=>simp
       | cons d r=>
        have:=UInt8.toNat_lt d
        simp only
        split
        · simp;omega
        · match r with
          | []=>simp
          | [_]=>simp
          | x :: y :: r=>
           have:=hexV_lt x
           have:=hexV_lt y
           unfold hex2
           simp only
           split <;> simp <;> omega
theorem ixc (s:List UInt8) (n:Nat) (c:UInt8) (h:s[n]?=some c):indexV CC 9 (.str s) (.int .i64 (n:Int))=some (.int .u8 (c.toNat:Int)):=ix_str s n c h
theorem call_names_next (s:List UInt8) (hs:s.length<=1000000):callL CC 168 [.str s] []=some (.ret (.tup [.int .u8 ((nextL s).1:Int),.int .i64 ((nextL s).2:Int)]),[]):=by
 rw [callL_enter (fn:=Tryz.f168) (c:=Tryz.f168.body.getD .skip) rfl rfl fat_names_next rfl ok_names_next (Nat.le_of_ble_eq_true rfl)]
 have hl:=len_str s
 match s,hs with
 | [],_=>
  obtain ⟨ev,eo,so,co,⟨hev,hco⟩,R⟩:=RULES CC;rw [<- hev]
  simp only [fpart,part',Tryz.f168,Option.getD]
  simp only [S7,R,seval,TG,strP_eql]
  try rfl
 | c :: r,hs=>
  have i0:indexV CC 9 (.str (c :: r)) (.int .i64 0)=some (.int .u8 (c.toNat:Int)):=ixc (c :: r) 0 c rfl
  have hne:((c :: r:List UInt8) == [])=false:=rfl
  by_cases c1:c.toNat=34
  · have c1':((c.toNat:Int) == 34)=true:=by simp [c1]
    have e:nextL (c :: r)=(0,0):=by unfold nextL;simp only;rw [if_pos c1]
    rw [e]
    obtain ⟨ev,eo,so,co,⟨hev,hco⟩,R⟩:=RULES CC;rw [<- hev]
    simp only [fpart,part',Tryz.f168,Option.getD]
    simp only [S7,R,seval,TG,strP_eql,hne,i0,c1']
    try rfl
  · have c1':((c.toNat:Int) == 34)=false:=by simp;omega
    by_cases c2:c.toNat=92
    · have c2':((c.toNat:Int) != 92)=false:=by simp [c2]
      match r,hs with
      | [],_=>
       have e:nextL [c]=(0,0):=by unfold nextL;simp only;rw [if_neg c1,if_neg (by omega)]
       have l1:¬ (((0+1:Nat):Int) ≥ 2):=by decide
       have l2:(((0+1:Nat):Int) < 4):=by decide
       rw [e]
       obtain ⟨ev,eo,so,co,⟨hev,hco⟩,R⟩:=RULES CC;rw [<- hev]
       simp only [fpart,part',Tryz.f168,Option.getD]
       simp only [S7,R,seval,TG,strP_eql,hne,i0,c1',c2',l1,l2]
       try rfl
      | d :: r,hs=>
       have i1:indexV CC 9 (.str (c :: d :: r)) (.int .i64 1)=some (.int .u8 (d.toNat:Int)):=ixc (c :: d :: r) 1 d rfl
       by_cases c3:d.toNat=34
       · have c3':((d.toNat:Int) == 34)=true:=by simp [c3]
         have e:nextL (c :: d :: r)=(d.toNat,2):=by unfold nextL;simp only;rw [if_neg c1,if_neg (by omega)];rw [if_pos (Or.inl c3)]
         rw [e]
         have hl:=len_str (c :: d :: r)
         have l1:(((c :: d :: r:List UInt8).length:Int) ≥ 2):=by simp only [List.length_cons,List.length_nil];omega
         generalize (c :: d :: r:List UInt8)=S at *
         obtain ⟨ev,eo,so,co,⟨hev,hco⟩,R⟩:=RULES CC;rw [<- hev]
         simp only [fpart,part',Tryz.f168,Option.getD]
         simp only [S7,R,seval,TG,strP_eql,hne,hl,i0,i1,c1',c2',l1,c3']
         try rfl
       · have c3':((d.toNat:Int) == 34)=false:=by simp;omega
         by_cases c4:d.toNat=92
         · have c4':((d.toNat:Int) == 92)=true:=by simp [c4]
           have e:nextL (c :: d :: r)=(d.toNat,2):=by unfold nextL;simp only;rw [if_neg c1,if_neg (by omega)];rw [if_pos (Or.inr c4)]
           rw [e]
           have hl:=len_str (c :: d :: r)
           have l1:(((c :: d :: r:List UInt8).length:Int) ≥ 2):=by simp only [List.length_cons,List.length_nil];omega
           generalize (c :: d :: r:List UInt8)=S at *
           obtain ⟨ev,eo,so,co,⟨hev,hco⟩,R⟩:=RULES CC;rw [<- hev]
           simp only [fpart,part',Tryz.f168,Option.getD]
           simp only [S7,R,seval,TG,strP_eql,hne,hl,i0,i1,c1',c2',l1,c3',c4']
           try rfl
         · have c4':((d.toNat:Int) == 92)=false:=by simp;omega
           match r,hs with
           | [],_=>
            have e:nextL [c,d]=(0,0):=by unfold nextL;simp only;rw [if_neg c1,if_neg (by omega)];rw [if_neg (by omega)]
            have l2:((([c,d]:List UInt8).length:Int) < 4):=by simp only [List.length_cons,List.length_nil];omega
            rw [e]
            have hl:=len_str ([c,d])
            have l1:((([c,d]:List UInt8).length:Int) ≥ 2):=by simp only [List.length_cons,List.length_nil];omega
            generalize ([c,d]:List UInt8)=S at *
            obtain ⟨ev,eo,so,co,⟨hev,hco⟩,R⟩:=RULES CC;rw [<- hev]
            simp only [fpart,part',Tryz.f168,Option.getD]
            simp only [S7,R,seval,TG,strP_eql,hne,hl,i0,i1,c1',c2',l1,l2,c3',c4']
            try rfl
           | [x],_=>
            have e:nextL [c,d,x]=(0,0):=by unfold nextL;simp only;rw [if_neg c1,if_neg (by omega)];rw [if_neg (by omega)]
            have l2:((([c,d,x]:List UInt8).length:Int) < 4):=by simp only [List.length_cons,List.length_nil];omega
            rw [e]
            have hl:=len_str ([c,d,x])
            have l1:((([c,d,x]:List UInt8).length:Int) ≥ 2):=by simp only [List.length_cons,List.length_nil];omega
            generalize ([c,d,x]:List UInt8)=S at *
            obtain ⟨ev,eo,so,co,⟨hev,hco⟩,R⟩:=RULES CC;rw [<- hev]
            simp only [fpart,part',Tryz.f168,Option.getD]
            simp only [S7,R,seval,TG,strP_eql,hne,hl,i0,i1,c1',c2',l1,l2,c3',c4']
            try rfl
           | x :: y :: r,hs=>
            have l2:¬ (((c :: d :: x :: y :: r:List UInt8).length:Int) < 4):=by simp only [List.length_cons,List.length_nil];omega
            have i2:indexV CC 9 (.str (c :: d :: x :: y :: r)) (.int .i64 2)=some (.int .u8 (x.toNat:Int)):=ixc (c :: d :: x :: y :: r) 2 x rfl
            have i3:indexV CC 9 (.str (c :: d :: x :: y :: r)) (.int .i64 3)=some (.int .u8 (y.toNat:Int)):=ixc (c :: d :: x :: y :: r) 3 y rfl
            have e:nextL (c :: d :: x :: y :: r)=if d.toNat=120∧0<=hexV x∧0<=hexV y∧formN (hex2 x y)=[c,d,x,y] then (hex2 x y,4) else (0,0):=by
             conv=>lhs;unfold nextL
             simp only
             rw [if_neg c1,if_neg (by omega),if_neg (by omega)]
            rw [e]
            have hx:=hexV_lt x
            have hy:=hexV_lt y
            have hsl:=sl_str_hi (c :: d :: x :: y :: r) 4 (by omega) (by simp only [List.length_cons];omega)
            by_cases c5:d.toNat=120
            · have c5':((d.toNat:Int) != 120)=false:=by simp [c5]
              by_cases c6:hexV x < 0
              · rw [if_neg (by omega)]
                have hl:=len_str (c :: d :: x :: y :: r)
                have l1:(((c :: d :: x :: y :: r:List UInt8).length:Int) ≥ 2):=by simp only [List.length_cons,List.length_nil];omega
                generalize (c :: d :: x :: y :: r:List UInt8)=S at *
                obtain ⟨ev,eo,so,co,⟨hev,hco⟩,R⟩:=RULES CC;rw [<- hev];have o_names_hex:=@op_names_hex;rw [<- hco] at o_names_hex
                simp only [fpart,part',Tryz.f168,Option.getD]
                simp only [S7,R,seval,TG,strP_eql,hne,hl,i0,i1,i2,i3,c1',c2',l1,l2,c3',c4',c5',c6,o_names_hex]
                try rfl
              · by_cases c7:hexV y < 0
                · rw [if_neg (by omega)]
                  have hl:=len_str (c :: d :: x :: y :: r)
                  have l1:(((c :: d :: x :: y :: r:List UInt8).length:Int) ≥ 2):=by simp only [List.length_cons,List.length_nil];omega
                  generalize (c :: d :: x :: y :: r:List UInt8)=S at *
                  obtain ⟨ev,eo,so,co,⟨hev,hco⟩,R⟩:=RULES CC;rw [<- hev];have o_names_hex:=@op_names_hex;rw [<- hco] at o_names_hex
                  simp only [fpart,part',Tryz.f168,Option.getD]
                  simp only [S7,R,seval,TG,strP_eql,hne,hl,i0,i1,i2,i3,c1',c2',l1,l2,c3',c4',c5',c6,c7,o_names_hex]
                  try rfl
                · have s1:=shl4 (a:=hexV x) ⟨by omega,by omega⟩
                  have s2:=or_hex (a:=hexV x) (b:=hexV y) ⟨by omega,by omega⟩ ⟨by omega,by omega⟩
                  have s3:=conv_i_u8 (hexV x * 16+hexV y) ⟨by omega,by omega⟩
                  have h2:hexV x * 16+hexV y=(hex2 x y:Int):=by unfold hex2;omega
                  have h256:hex2 x y < 256:=by unfold hex2;omega
                  have hv:(UInt8.ofNat (hex2 x y)).toNat=hex2 x y:=by rw [UInt8.toNat_ofNat'];omega
                  rw [h2] at s2 s3
                  generalize hex2 x y=v at *
                  have of1:=op_names_form (UInt8.ofNat v)
                  unfold formL at of1
                  rw [hv] at of1
                  by_cases c8:formN v=[c,d,x,y]
                  · have c8':(formN v == (c :: d :: x :: y :: r).take 4)=true:=by rw [c8];simp
                    rw [if_pos ⟨c5,by omega,by omega,c8⟩]
                    have hl:=len_str (c :: d :: x :: y :: r)
                    have l1:(((c :: d :: x :: y :: r:List UInt8).length:Int) ≥ 2):=by simp only [List.length_cons,List.length_nil];omega
                    generalize (c :: d :: x :: y :: r:List UInt8)=S at *
                    obtain ⟨ev,eo,so,co,⟨hev,hco⟩,R⟩:=RULES CC;rw [<- hev];have o_names_hex:=@op_names_hex;rw [<- hco] at o_names_hex
                    rw [<- hco] at of1
                    simp only [fpart,part',Tryz.f168,Option.getD]
                    simp only [S7,R,seval,TG,strP_eql,strP_neq,hne,hl,i0,i1,i2,i3,c1',c2',l1,l2,c3',c4',c5',c6,c7,o_names_hex,s1,s2,s3,of1,hsl,c8']
                    try rfl
                  · have c8':(formN v == (c :: d :: x :: y :: r).take 4)=false:=by simpa using c8
                    rw [if_neg (fun h=>c8 h.2.2.2)]
                    have hl:=len_str (c :: d :: x :: y :: r)
                    have l1:(((c :: d :: x :: y :: r:List UInt8).length:Int) ≥ 2):=by simp only [List.length_cons,List.length_nil];omega
                    generalize (c :: d :: x :: y :: r:List UInt8)=S at *
                    obtain ⟨ev,eo,so,co,⟨hev,hco⟩,R⟩:=RULES CC;rw [<- hev];have o_names_hex:=@op_names_hex;rw [<- hco] at o_names_hex
                    rw [<- hco] at of1
                    simp only [fpart,part',Tryz.f168,Option.getD]
                    simp only [S7,R,seval,TG,strP_eql,strP_neq,hne,hl,i0,i1,i2,i3,c1',c2',l1,l2,c3',c4',c5',c6,c7,o_names_hex,s1,s2,s3,of1,hsl,c8']
                    try rfl
            · have c5':((d.toNat:Int) != 120)=true:=by simp;omega
              rw [if_neg (fun h=>c5 h.1)]
              have hl:=len_str (c :: d :: x :: y :: r)
              have l1:(((c :: d :: x :: y :: r:List UInt8).length:Int) ≥ 2):=by simp only [List.length_cons,List.length_nil];omega
              generalize (c :: d :: x :: y :: r:List UInt8)=S at *
              obtain ⟨ev,eo,so,co,⟨hev,hco⟩,R⟩:=RULES CC;rw [<- hev];have o_names_hex:=@op_names_hex;rw [<- hco] at o_names_hex
              simp only [fpart,part',Tryz.f168,Option.getD]
              simp only [S7,R,seval,TG,strP_eql,hne,hl,i0,i1,i2,i3,c1',c2',l1,l2,c3',c4',c5',o_names_hex]
              try rfl
    · have c2':((c.toNat:Int) != 92)=true:=by simp;omega
      have hsl:=sl_str_hi (c :: r) 1 (by omega) (by simp only [List.length_cons];omega)
      have e:nextL (c :: r)=if formL c=[c] then (c.toNat,1) else (0,0):=by
       conv=>lhs;unfold nextL
       simp only
       rw [if_neg c1,if_pos c2]
      rw [e]
      obtain ⟨ev,eo,so,co,⟨hev,hco⟩,R⟩:=RULES CC;rw [<- hev];have o_names_form:=@op_names_form;rw [<- hco] at o_names_form
      simp only [fpart,part',Tryz.f168,Option.getD]
      by_cases c3:formL c=[c]
      · have c3':(formL c == (c :: r).take 1)=true:=by rw [c3];simp
        rw [if_pos c3]
        simp only [S7,R,seval,TG,strP_eql,strP_neq,hne,i0,c1',c2',o_names_form,hsl,c3']
        try rfl
      · have c3':(formL c == (c :: r).take 1)=false:=by simpa using c3
        rw [if_neg c3]
        simp only [S7,R,seval,TG,strP_eql,strP_neq,hne,i0,c1',c2',o_names_form,hsl,c3']
        try rfl
theorem op_names_next (s:List UInt8) (hs:s.length<=1000000) (bx):callOp CC (callL CC) 168 [.str s] bx=some (.ret (.tup [.int .u8 ((nextL s).1:Int),.int .i64 ((nextL s).2:Int)]),bx):=callOp_of rfl (by simp only [SA,Bool.and_true]) (call_names_next s hs) rfl
theorem ok_strings_Builder_WriteByte:fnOK CC Tryz.f169 (Tryz.f169.body.getD .skip)=true:=by kernel_rfl
theorem fat_strings_Builder_WriteByte:CC.P.funcs[169]?=some Tryz.f169:=by kernel_rfl
theorem ok_names_quoted:fnOK CC Tryz.f160 (Tryz.f160.body.getD .skip)=true:=by kernel_rfl
theorem fat_names_quoted:CC.P.funcs[160]?=some Tryz.f160:=by kernel_rfl
theorem ok_names_Unquote:fnOK CC Tryz.f135 (Tryz.f135.body.getD .skip)=true:=by kernel_rfl
theorem fat_names_Unquote:CC.P.funcs[135]?=some Tryz.f135:=by kernel_rfl
def bys (l:List UInt8):List PV:=l.map fun b=>.int .u8 (b.toNat:Int)
theorem bytesOf_bys (l:List UInt8):bytesOf (bys l)=some l:=by
 induction l with
 | nil=>rfl
 | cons b r ih=>
  show (bytesOf (bys r)).map (UInt8.ofNat ((b.toNat:Int)).toNat :: ·)=some (b :: r)
  rw [ih,Int.toNat_natCast,UInt8.ofNat_toNat]
  rfl
theorem bys_length (l:List UInt8):(bys l).length=l.length:=by simp [bys]
theorem bys_all (l:List UInt8):((bys l).all fun y=>y.cells.length == 1)=true:=by
 rw [List.all_eq_true]
 intro x hx
 obtain ⟨b,_,rfl⟩:=List.mem_map.1 hx
 rfl
theorem bys_byteV (l:List UInt8):(bys l).all byteV=true:=by
 rw [List.all_eq_true]
 intro x hx
 obtain ⟨b,_,rfl⟩:=List.mem_map.1 hx
 have:=UInt8.toNat_lt b
 simp [byteV]
 omega
theorem underL_bys (n:Nat) (l:List UInt8):underL n (bys l)=true:=by
 induction l with
 | nil=>rfl
 | cons b r ih=>simpa [bys,underL,PV.under] using ih
theorem bys_snoc (l:List UInt8) (n:Nat) (h:n < 256):bys l++[.int .u8 (n:Int)]=bys (l++[UInt8.ofNat n]):=by
 unfold bys
 rw [List.map_append]
 congr 1
 simp only [List.map_cons,List.map_nil]
 rw [UInt8.toNat_ofNat']
 congr 2
 omega
theorem bs_u8 (n:Int):buildSliceP CC 70 1 [(0,.int .u8 n)]=some (.osl 5 [.int .u8 n]):=by
 have hz:tZero CC 5=some (.int .u8 0):=by kernel_rfl
 have hi:∃ i,CC.P.info? 5=some i∧i.size=1:=⟨(Tryz.prog.info? 5).getD default,by kernel_rfl,by kernel_rfl⟩
 obtain ⟨i,hi,hs⟩:=hi
 unfold buildSliceP
 simp only [TG,hz,hi,hs]
 rfl
noncomputable def IB:TypeInfo:=(Tryz.prog.info? 5).getD default
theorem ap_u8 (st:St) (al:List (Nat×Loc)) (s x:Operand) (d:Option Tmp):appendOn CC st al s x 70 70 d=match appendAt CC st al 5 s,elemsOf (opd CC st.env x) with
 | some (l,xs),some ys=>appK 1 1 5 st al l xs ys d
 | _,_=>none:=appendOn_eq (i:=IB) (by kernel_rfl) (by kernel_rfl) (by kernel_rfl) (z:=.int .u8 0) (by kernel_rfl) (by kernel_rfl) (by rw [show IB.size=1 from by kernel_rfl];decide) (by kernel_rfl) (by kernel_rfl)
def bufV (l:List UInt8):PV:=if l=[] then .nils else .osl 5 (bys l)
theorem truncB_same {n:Nat} {r:CR} {bx:List PBox} (h:bx.length<=n):truncB n r bx=bx:=by
 unfold truncB
 split
 · exact List.take_of_length_le h
 · rfl
theorem op_copyCheck (p:PV) (hp:p=.nilp∨p=.bp 0 0) (q:PV) (hq:q.under 1=true):callOp CC (callL CC) 166 [.bp 0 0] [.cells 153 [p,q]]=some (.ret (.tup []),[.cells 153 [.bp 0 0,q]]):=by
 have hh:CC.hprim 166=some ccP:=rfl
 have hc:callL CC 166 [.bp 0 0] [.cells 153 [p,q]]=some (.ret (.tup []),[.cells 153 [.bp 0 0,q]]):=by
  unfold callL bodyP
  rw [hh]
  rcases hp with rfl | rfl <;> rfl
 unfold callOp
 rw [if_pos (by rfl),hc]
 simp only
 unfold truncB
 split <;> rfl
theorem op_bString (l:List UInt8) (p:PV):callL CC 157 [.bp 0 0] [.cells 153 [p,bufV l]]=some (.ret (.str l),[.cells 153 [p,if l=[] then .nils else .sl (bys l)]]):=by
 have hh:CC.hprim 157=some bstrP:=rfl
 unfold callL bodyP
 rw [hh]
 unfold bufV
 by_cases h:l=[]
 · subst h;rfl
 · rw [if_neg h,if_neg h]
   have h1:(bys l).isEmpty=false:=by cases l with | nil=>exact absurd rfl h | cons=>rfl
   show Option.map _ (bstrP [.bp 0 0] [.cells 153 [p,.osl 5 (bys l)]])=_
   unfold bstrP
   simp only [List.getElem?_cons_zero]
   rw [if_pos (show _∧_ from by simp only [h1,bys_byteV l,and_self]),bytesOf_bys]
   rfl
theorem call_WriteByte (l:List UInt8) (hl:l.length<=900000) (p:PV) (hp:p=.nilp∨p=.bp 0 0) (n:Nat) (hn:n < 256):callL CC 169 [.bp 0 0,.int .u8 (n:Int)] [.cells 153 [p,bufV l]] =
 some (.ret .nili,[.cells 153 [.bp 0 0,.osl 5 (bys (l++[UInt8.ofNat n]))]]):=by
 rw [callL_enter (fn:=Tryz.f169) (c:=Tryz.f169.body.getD .skip) rfl rfl fat_strings_Builder_WriteByte rfl ok_strings_Builder_WriteByte (Nat.le_of_ble_eq_true rfl)]
 have hbl:=bys_length l
 have hq:(bufV l).under 1=true:=by
  unfold bufV
  split
  · rfl
  · simpa [PV.under] using underL_bys 1 l
 have ho:=op_copyCheck p hp (bufV l) hq
 have hsn:=bys_snoc l n hn
 have hlen:(bys l).length+1<=1000000:=by omega
 obtain ⟨ev,eo,so,co,⟨hev,hco⟩,R⟩:=RULES CC;rw [<- hev]
 rw [<- hco] at ho
 have hpn:pureL [.bp 0 0]=false:=rfl
 simp only [fpart,part',Tryz.f169,Option.getD]
 unfold bufV at *
 by_cases h:l=[]
 · subst h
   rw [if_pos rfl] at ho ⊢
   have hsn:[PV.int .u8 (n:Int)]=bys ([]++[UInt8.ofNat n]):=hsn
   simp only [S8,R,SH,seval,ho,loadR,loadP,lay,nchP,List.filter_nil,List.getD_cons_succ,List.getD_cons_zero,bs_u8,ap_u8]
   rw [show [PV.int .u8 (n:Int)]=bys [UInt8.ofNat n] from hsn]
   rfl
 · rw [if_neg h] at ho ⊢
   simp only [S8,R,SG,SH,seval,ho,nchP,List.getD_cons_succ,List.getD_cons_zero,bs_u8,ap_u8,hlen,List.set_cons_zero,List.set_cons_succ]
   rw [hsn]
   try rfl
def unqL:Nat->List UInt8->Option (List UInt8×Nat)
 | 0,_=>none
 | m+1,s=>match s with
  | []=>none
  | c :: _=>if c.toNat=34 then some ([],0)
   else if (nextL s).2=0 then none
   else (unqL m (s.drop (nextL s).2)).map fun r=>(UInt8.ofNat (nextL s).1 :: r.1,(nextL s).2+r.2)
theorem call_op_WriteByte (l:List UInt8) (hl:l.length<=900000) (p:PV) (hp:p=.nilp∨p=.bp 0 0) (n:Nat) (hn:n < 256):callOp CC (callL CC) 169 [.bp 0 0,.int .u8 (n:Int)] [.cells 153 [p,bufV l]] =
 some (.ret .nili,[.cells 153 [.bp 0 0,bufV (l++[UInt8.ofNat n])]]):=by
 have h:=call_WriteByte l hl p hp n hn
 unfold callOp
 rw [if_pos (by rfl),h]
 have hb:bufV (l++[UInt8.ofNat n])=.osl 5 (bys (l++[UInt8.ofNat n])):=by
  unfold bufV
  rw [if_neg (by simp)]
 rw [hb]
 simp only
 unfold truncB
 split <;> rfl
theorem call_op_bString (l:List UInt8) (p:PV):callOp CC (callL CC) 157 [.bp 0 0] [.cells 153 [p,bufV l]]=some (.ret (.str l),[.cells 153 [p,if l=[] then .nils else .sl (bys l)]]):=by
 unfold callOp
 rw [if_pos (by rfl),op_bString]
 simp only
 rw [truncB_same (by simp)]
def PQ (s:List UInt8) (l:List UInt8) (i:Nat) (o:Option (List UInt8×Nat)) (r:Option (Ex×St)):Prop:=match o with
 | some (t,k)=>∃ e p,r=some (.exit 0,⟨e,[.cells 153 [p,bufV (l++t)]]⟩)∧getT e 0=.str s∧getT e 4=.bp 0 0∧getT e 5=.int .i64 ((i+k:Nat):Int)∧i+k < s.length
 | none=>(∃ e bx,r=some (.ret,⟨e,bx⟩)∧getT e 2=.str []∧getT e 3=.int .i64 0)∨(∃ e bx,r=some (.exit 0,⟨e,bx⟩)∧getT e 0=.str s∧getT e 5=.int .i64 (s.length:Int))
theorem loop_names_quoted (L:Code) (hL:L=fpart Tryz.f160 [1,1,1,1,0,0]) (s:List UInt8) (hs:s.length<=900000):∀ (m i:Nat) (l:List UInt8) (p:PV) (e:List PV),s.length - i < m->i<=s.length->l.length<=i->(p=.nilp∨p=.bp 0 0)->getT e 0=.str s->getT e 4=.bp 0 0->getT e 5=.int .i64 i ->
 PQ s l i (unqL m (s.drop i)) (evL CC L ⟨e,[.cells 153 [p,bufV l]]⟩):=by
 intro m
 induction m with
 | zero=>intro i l p e hm;omega
 | succ m ih=>
  intro i l p e hm hi hli hp h0 h4 h5
  rw [evL_at (fpart Tryz.f160 [1,1,1,1,0,0,0]) hL]
  have hlen:=len_str s
  by_cases hlt:i < s.length
  · have hx:s[i]?=some s[i]:=by simp
    have hdr:s.drop i=s[i] :: s.drop (i+1):=List.drop_eq_getElem_cons hlt
    have hix:=ix_str s i _ hx
    have hil:(i:Int) < (s.length:Int):=by omega
    have hun:unqL (m+1) (s.drop i)=if s[i].toNat=34 then some ([],0) else if (nextL (s.drop i)).2=0 then none else (unqL m ((s.drop i).drop (nextL (s.drop i)).2)).map fun r=>(UInt8.ofNat (nextL (s.drop i)).1 :: r.1,(nextL (s.drop i)).2+r.2):=by
     rw [hdr]
     rfl
    rw [hun]
    generalize hc:s[i]=c at *
    by_cases c1:c.toNat=34
    · have c1':((c.toNat:Int) != 34)=false:=by simp [c1]
      rw [if_pos c1]
      obtain ⟨ev,eo,so,co,⟨hev,hco⟩,R⟩:=RULES CC;rw [<- hev]
      simp only [fpart,part',Tryz.f160,Option.getD]
      simp only [S8,R,seval,h0,h4,h5,hlen,hil,hix,c1']
      exact ⟨_,p,by rw [List.append_nil],by simp only [S7,R,seval,h0],by simp only [S7,R,seval,h4],by simp only [S7,R,seval,h5];rfl,by omega⟩
    · have c1':((c.toNat:Int) != 34)=true:=by simp;omega
      rw [if_neg c1]
      have hsl:=sl_str_lo s i (by omega) (by omega)
      rw [Int.toNat_natCast] at hsl
      have hnl:=nextL_lt (s.drop i)
      rw [List.length_drop] at hnl
      have hnx:=op_names_next (s.drop i) (by rw [List.length_drop];omega)
      rw [List.drop_drop]
      generalize nextL (s.drop i)=nx at *
      obtain ⟨v,n⟩:=nx
      simp only at hnl hnx ⊢
      by_cases c2:n=0
      · have c2':((n:Int) == 0)=true:=by simp [c2]
        rw [if_pos c2]
        rw [c2] at hnx
        have z:(((0:Nat):Int) == 0)=true:=rfl
        obtain ⟨ev,eo,so,co,⟨hev,hco⟩,R⟩:=RULES CC;rw [<- hev]
        rw [<- hco] at hnx
        simp only [fpart,part',Tryz.f160,Option.getD]
        simp only [S8,R,seval,h0,h4,h5,hlen,hil,hix,c1',hsl,hnx,z]
        exact .inl ⟨_,_,rfl,by simp only [S7,R,seval],by simp only [S7,R,seval]⟩
      · have c2':((n:Int) == 0)=false:=by simp;omega
        rw [if_neg c2]
        have hwb:=call_op_WriteByte l (by omega) p hp v hnl.1
        have hw:=wrap_i64 (n:=(i:Int)+(n:Int)) ⟨by omega,by omega⟩
        have key:=fun e=>ih (i+n) (l++[UInt8.ofNat v]) (.bp 0 0) e (by omega) (by omega) (by rw [List.length_append,List.length_singleton];omega) (Or.inr rfl)
        have lift:∀ r,PQ s (l++[UInt8.ofNat v]) (i+n) (unqL m (s.drop (i+n))) r->PQ s l i ((unqL m (s.drop (i+n))).map fun r=>(UInt8.ofNat v :: r.1,n+r.2)) r:=by
         intro r h
         cases ho:unqL m (s.drop (i+n)) with
         | none=>rw [ho] at h;exact h
         | some tk=>
          obtain ⟨t,k⟩:=tk
          rw [ho] at h
          obtain ⟨e,p,h1,h2,h3,h4,h5⟩:=h
          refine ⟨e,p,?_,h2,h3,?_,by show i+(n+k) < s.length;omega⟩
          · rw [h1]
            show some (Ex.exit 0,St.mk e [.cells 153 [p,bufV (l++[UInt8.ofNat v]++t)]])=some (Ex.exit 0,St.mk e [.cells 153 [p,bufV (l++UInt8.ofNat v :: t)]])
            rw [List.append_assoc]
            rfl
          · rw [h4]
            show PV.int .i64 ((i+n+k:Nat):Int)=PV.int .i64 ((i+(n+k):Nat):Int)
            rw [Nat.add_assoc]
        apply lift
        obtain ⟨ev,eo,so,co,⟨hev,hco⟩,R⟩:=RULES CC;rw [<- hev]
        rw [<- hco] at hnx hwb
        rw [<- hev] at key
        simp only [fpart,part',Tryz.f160,Option.getD]
        simp only [S8,R,seval,h0,h4,h5,hlen,hil,hix,c1',hsl,hnx,c2',hwb,hw]
        exact key _ (by simp only [S7,R,seval,h0]) (by simp only [S7,R,seval,h4]) (by simp only [S7,R,seval] <;> rfl)
  · have hil:¬ (i:Int) < (s.length:Int):=by omega
    have hdr:s.drop i=[]:=List.drop_eq_nil_of_le (by omega)
    rw [hdr]
    have hun:unqL (m+1) []=none:=rfl
    rw [hun]
    obtain ⟨ev,eo,so,co,⟨hev,hco⟩,R⟩:=RULES CC;rw [<- hev]
    simp only [fpart,part',Tryz.f160,Option.getD]
    simp only [S8,R,seval,h0,h4,h5,hlen,hil]
    exact .inr ⟨_,_,rfl,by simp only [S7,R,seval,h0],by simp only [S7,R,seval,h5];rw [show i=s.length from by omega]⟩
def quotedL (s:List UInt8):List UInt8×Nat:=if s.head?=some 34 then (match unqL s.length (s.drop 1) with
 | some (t,k)=>(t,k+2)
 | none=>([],0)) else ([],0)
def unq (s:List UInt8):List UInt8×Int:=if (quotedL s).2=0∨(quotedL s).2≠s.length then ([],4) else if (quotedL s).1.length > 60 then ([],3) else ((quotedL s).1,0)
theorem zcB:zeroCells CC 153=some [.nilp,.nils]:=by kernel_rfl
theorem call_names_quoted (s:List UInt8) (hs:s.length<=900000):∃ bx,callL CC 160 [.str s] []=some (.ret (.tup [.str (quotedL s).1,.int .i64 ((quotedL s).2:Int)]),bx):=by
 rw [callL_enter (fn:=Tryz.f160) (c:=Tryz.f160.body.getD .skip) rfl rfl fat_names_quoted rfl ok_names_quoted (Nat.le_of_ble_eq_true rfl)]
 have hlen:=len_str s
 unfold quotedL
 match s,hs with
 | [],_=>
  obtain ⟨ev,eo,so,co,⟨hev,hco⟩,R⟩:=RULES CC;rw [<- hev]
  simp only [fpart,part',Tryz.f160,Option.getD]
  simp only [S8,R,seval,strP_eql]
  exact ⟨_,rfl⟩
 | c :: r,hs=>
  have i0:indexV CC 9 (.str (c :: r)) (.int .i64 0)=some (.int .u8 (c.toNat:Int)):=ixc (c :: r) 0 c rfl
  have hne:((c :: r:List UInt8) == [])=false:=rfl
  have h34:c=34↔c.toNat=34:=by rw [<- UInt8.toNat_inj];rfl
  have hh:(c :: r).head?=some c:=rfl
  rw [hh]
  by_cases c1:c.toNat=34
  · have c1':((c.toNat:Int) != 34)=false:=by simp [c1]
    rw [if_pos (by rw [h34.2 c1])]
    have hloop:=fun e h0 h4 h5=>loop_names_quoted _ rfl (c :: r) hs (c :: r).length 1 [] .nilp e (by simp only [List.length_cons];omega) (by simp only [List.length_cons];omega) (by simp) (Or.inl rfl) h0 h4 h5
    generalize hS:(c :: r:List UInt8)=S at *
    have hb0:bufV []=.nils:=rfl
    rw [hb0] at hloop
    have hw:∀ k:Nat,k<=S.length->IntKind.wrap .i64 ((k:Int)+1)=(k:Int)+1:=fun k hk=>wrap_i64 ⟨by omega,by omega⟩
    have hstr:=call_op_bString
    obtain ⟨ev,eo,so,co,⟨hev,hco⟩,R⟩:=RULES CC;rw [<- hev]
    rw [<- hev] at hloop
    rw [<- hco] at hstr
    simp only [fpart,part',Tryz.f160,Option.getD] at hloop ⊢
    simp only [S8,R,seval,SC,strP_eql,hne,i0,c1',zcB]
    generalize hE:ev _ ⟨_,[PBox.cells 153 [.nilp,.nils]]⟩=res
    have hP:PQ S [] 1 (unqL S.length (S.drop 1)) res:=by
     rw [<- hE]
     exact hloop _ (by simp only [S7,R,seval]) (by simp only [S7,R,seval]) (by simp only [S7,R,seval] <;> rfl)
    clear hE hloop
    cases hu:unqL S.length (S.drop 1) with
    | some tk=>
     obtain ⟨t,k⟩:=tk
     rw [hu] at hP
     obtain ⟨e',p,he,g0,g4,g5,hlt⟩:=hP
     subst he
     have hge:¬ ((1+k:Nat):Int) ≥ (S.length:Int):=by omega
     have hw1:=hw (1+k) (by omega)
     have hst:=hstr t p
     rw [List.nil_append]
     generalize hk1:1+k=k1 at *
     have hk2:((k+2:Nat):Int)=(k1:Int)+1:=by omega
     simp only [S8,R,seval,g0,g4,g5,hlen,hge,hst,hw1,hk2]
     exact ⟨_,rfl⟩
    | none=>
     rw [hu] at hP
     rcases hP with ⟨e',bx',he,g2,g3⟩ | ⟨e',bx',he,g0,g5⟩
     · subst he
       simp only [S8,R,seval,g2,g3]
       exact ⟨_,rfl⟩
     · subst he
       have hge:(S.length:Int) ≥ (S.length:Int):=Int.le_refl _
       simp only [S8,R,seval,g0,g5,hlen,hge]
       exact ⟨_,rfl⟩
  · have c1':((c.toNat:Int) != 34)=true:=by simp;omega
    rw [if_neg (fun e=>c1 (h34.1 (Option.some.inj e)))]
    obtain ⟨ev,eo,so,co,⟨hev,hco⟩,R⟩:=RULES CC;rw [<- hev]
    simp only [fpart,part',Tryz.f160,Option.getD]
    simp only [S8,R,seval,strP_eql,hne,i0,c1']
    exact ⟨_,rfl⟩
theorem op_names_quoted (s:List UInt8) (hs:s.length<=900000) (bx):callOp CC (callL CC) 160 [.str s] bx=some (.ret (.tup [.str (quotedL s).1,.int .i64 ((quotedL s).2:Int)]),bx):=by
 obtain ⟨b,h⟩:=call_names_quoted s hs
 exact callOp_of rfl (by simp only [SA,Bool.and_true]) h (by simp only [SE,SA,Bool.and_true])
theorem call_names_Unquote (s:List UInt8) (hs:s.length<=900000):callL CC 135 [.str s] []=some (.ret (.tup [.str (unq s).1,.int .i64 (unq s).2]),[]):=by
 rw [callL_enter (fn:=Tryz.f135) (c:=Tryz.f135.body.getD .skip) rfl rfl fat_names_Unquote rfl ok_names_Unquote (Nat.le_of_ble_eq_true rfl)]
 have hlen:=len_str s
 have hq:=op_names_quoted s hs
 have hqt:=len_str (quotedL s).1
 unfold unq
 generalize quotedL s=q at *
 obtain ⟨t,k⟩:=q
 simp only at hq hqt ⊢
 by_cases c1:k=0
 · subst c1
   have z:(((0:Nat):Int) == 0)=true:=rfl
   rw [if_pos (Or.inl rfl)]
   obtain ⟨ev,eo,so,co,⟨hev,hco⟩,R⟩:=RULES CC;rw [<- hev]
   rw [<- hco] at hq
   simp only [fpart,part',Tryz.f135,Option.getD]
   simp only [S8,R,seval,hq,z]
 · have c1':((k:Int) == 0)=false:=by simp;omega
   by_cases c2:k=s.length
   · have c2':((k:Int) != (s.length:Int))=false:=by simp [c2]
     rw [if_neg (by omega)]
     by_cases c3:t.length > 60
     · have c3':(t.length:Int) > 60:=by omega
       rw [if_pos c3]
       obtain ⟨ev,eo,so,co,⟨hev,hco⟩,R⟩:=RULES CC;rw [<- hev]
       rw [<- hco] at hq
       simp only [fpart,part',Tryz.f135,Option.getD]
       simp only [S8,R,seval,hq,hlen,hqt,c1',c2',c3']
     · have c3':¬ (t.length:Int) > 60:=by omega
       rw [if_neg c3]
       obtain ⟨ev,eo,so,co,⟨hev,hco⟩,R⟩:=RULES CC;rw [<- hev]
       rw [<- hco] at hq
       simp only [fpart,part',Tryz.f135,Option.getD]
       simp only [S8,R,seval,hq,hlen,hqt,c1',c2',c3']
   · have c2':((k:Int) != (s.length:Int))=true:=by simp;omega
     rw [if_pos (Or.inr c2)]
     obtain ⟨ev,eo,so,co,⟨hev,hco⟩,R⟩:=RULES CC;rw [<- hev]
     rw [<- hco] at hq
     simp only [fpart,part',Tryz.f135,Option.getD]
     simp only [S8,R,seval,hq,hlen,c1',c2']
theorem op_names_Unquote (s:List UInt8) (hs:s.length<=900000) (bx):callOp CC (callL CC) 135 [.str s] bx=some (.ret (.tup [.str (unq s).1,.int .i64 (unq s).2]),bx):=callOp_of rfl (by simp only [SA,Bool.and_true]) (call_names_Unquote s hs) (by simp only [SE,SA,Bool.and_true])
def atL (s:List UInt8) (i:Nat):Nat:=match s[i]? with
 | some c=>c.toNat
 | none=>0
theorem atL_lt (s:List UInt8) (i:Nat):atL s i < 256:=by
 unfold atL
 split
 · exact UInt8.toNat_lt _
 · omega
theorem atL_get {s:List UInt8} {i:Nat} {c:UInt8} (h:s[i]?=some c):atL s i=c.toNat:=by unfold atL;rw [h]
def quoteL (s:List UInt8):List UInt8:=34 :: (s.flatMap formL++[34])
theorem form_casesF:∀ n:_root_.Fin 256,((n.val=34∨n.val=92)∧formN n.val=[92,UInt8.ofNat n.val])∨(n.val≠34∧n.val≠92∧formN n.val=[UInt8.ofNat n.val])∨(formN n.val=[92,120,hexd (n.val / 16),hexd (n.val % 16)]∧0<=hexV (hexd (n.val / 16))∧0<=hexV (hexd (n.val % 16))∧hex2 (hexd (n.val / 16)) (hexd (n.val % 16))=n.val):=by decide +kernel
theorem form_cases (c:UInt8):((c.toNat=34∨c.toNat=92)∧formL c=[92,c])∨(c.toNat≠34∧c.toNat≠92∧formL c=[c])∨(∃ a b,formL c=[92,120,a,b]∧0<=hexV a∧0<=hexV b∧hex2 a b=c.toNat):=by
 have h:=form_casesF ⟨c.toNat,UInt8.toNat_lt c⟩
 simp only [UInt8.ofNat_toNat] at h
 rcases h with h | h | h
 · exact .inl h
 · exact .inr (.inl h)
 · exact .inr (.inr ⟨_,_,h⟩)
theorem nextL_form (c:UInt8) (r:List UInt8):nextL (formL c++r)=(c.toNat,(formL c).length):=by
 have e92:(92:UInt8).toNat=92:=rfl
 have e120:(120:UInt8).toNat=120:=rfl
 rcases form_cases c with ⟨h1,h2⟩ | ⟨h1,h2,h3⟩ | ⟨a,b,h1,h2,h3,h4⟩
 · rw [h2]
   show nextL (92 :: c :: r)=_
   unfold nextL
   simp only [e92]
   rw [if_neg (by decide),if_neg (by decide),if_pos h1]
   rfl
 · rw [h3]
   show nextL (c :: r)=_
   unfold nextL
   simp only
   rw [if_neg h1,if_pos h2,if_pos h3]
   rfl
 · have h5:formN (hex2 a b)=[92,120,a,b]:=by rw [h4];exact h1
   rw [h1]
   show nextL (92 :: 120 :: a :: b :: r)=_
   unfold nextL
   simp only [e92,e120]
   rw [if_neg (by decide),if_neg (by decide),if_neg (by decide),if_pos ⟨trivial,h2,h3,h5⟩,h4]
   rfl
theorem nextL_sound (x:List UInt8) (h:(nextL x).2≠0):x.take (nextL x).2=formN (nextL x).1:=by
 match x,h with
 | [],h=>exact absurd rfl h
 | c :: r,h=>
  unfold nextL at h ⊢
  simp only at h ⊢
  by_cases c1:c.toNat=34
  · rw [if_pos c1] at h;exact absurd rfl h
  · rw [if_neg c1] at h ⊢
    by_cases c2:c.toNat≠92
    · rw [if_pos c2] at h ⊢
      by_cases c3:formL c=[c]
      · rw [if_pos c3];exact c3.symm
      · rw [if_neg c3] at h;exact absurd rfl h
    · rw [if_neg c2] at h ⊢
      have e92:c=92:=by rw [<- UInt8.toNat_inj];show _=92;omega
      match r,h with
      | [],h=>exact absurd rfl h
      | d :: r,h=>
       simp only at h ⊢
       by_cases c3:d.toNat=34∨d.toNat=92
       · rw [if_pos c3]
         show [c,d]=formN d.toNat
         unfold formN
         rw [if_pos c3,UInt8.ofNat_toNat,e92]
       · rw [if_neg c3] at h ⊢
         match r,h with
         | [],h=>exact absurd rfl h
         | [_],h=>exact absurd rfl h
         | x :: y :: r,h=>
          simp only at h ⊢
          by_cases c4:d.toNat=120∧0<=hexV x∧0<=hexV y∧formN (hex2 x y)=[c,d,x,y]
          · rw [if_pos c4];exact c4.2.2.2.symm
          · rw [if_neg c4] at h;exact absurd rfl h
theorem formL_pos (c:UInt8):0 < (formL c).length:=by
 rcases form_cases c with ⟨h1,h2⟩ | ⟨h1,h2,h3⟩ | ⟨a,b,h1,h2,h3,h4⟩
 · rw [h2];simp
 · rw [h3];simp
 · rw [h1];simp
theorem flat_len (t:List UInt8):t.length<=(t.flatMap formL).length:=by
 induction t with
 | nil=>exact Nat.le_refl _
 | cons c t ih=>have:=formL_pos c;rw [List.flatMap_cons,List.length_append,List.length_cons];omega
theorem unqL_step (m:Nat) (s:List UInt8) (h:(nextL s).2≠0):unqL (m+1) s=(unqL m (s.drop (nextL s).2)).map fun r=>(UInt8.ofNat (nextL s).1 :: r.1,(nextL s).2+r.2):=by
 match s,h with
 | [],h=>exact absurd rfl h
 | c :: r,h=>
  have hun:unqL (m+1) (c :: r)=if c.toNat=34 then some ([],0) else if (nextL (c :: r)).2=0 then none else (unqL m ((c :: r).drop (nextL (c :: r)).2)).map fun x=>(UInt8.ofNat (nextL (c :: r)).1 :: x.1,(nextL (c :: r)).2+x.2):=rfl
  have c1:c.toNat≠34:=fun c1=>by
   have e:nextL (c :: r)=(0,0):=by unfold nextL;simp only;rw [if_pos c1]
   rw [e] at h
   exact h rfl
  rw [hun,if_neg c1,if_neg h]
theorem unqL_sound:∀ (m:Nat) (s t:List UInt8) (k:Nat),unqL m s=some (t,k)->∃ r,s=t.flatMap formL++34 :: r∧k=(t.flatMap formL).length
 | 0,_,_,_,h=>by cases h
 | m+1,[],_,_,h=>by cases h
 | m+1,c :: r,t,k,h=>by
  have hun:unqL (m+1) (c :: r)=if c.toNat=34 then some ([],0) else if (nextL (c :: r)).2=0 then none else (unqL m ((c :: r).drop (nextL (c :: r)).2)).map fun x=>(UInt8.ofNat (nextL (c :: r)).1 :: x.1,(nextL (c :: r)).2+x.2):=rfl
  rw [hun] at h
  split at h
  · rename_i c1
    have e34:c=34:=by rw [<- UInt8.toNat_inj];exact c1
    injection h with h
    injection h with h1 h2
    subst h1 h2 e34
    exact ⟨r,rfl,rfl⟩
  · split at h
    · cases h
    · rename_i c1 c2
      obtain ⟨⟨t',k'⟩,h1,h2⟩:=Option.map_eq_some_iff.1 h
      injection h2 with h2 h3
      subst h2 h3
      obtain ⟨r',h4,h5⟩:=unqL_sound m _ _ _ h1
      have h6:=nextL_sound _ c2
      have h7:=nextL_lt (c :: r)
      have hv:formL (UInt8.ofNat (nextL (c :: r)).1)=formN (nextL (c :: r)).1:=by unfold formL;rw [UInt8.toNat_ofNat',Nat.mod_eq_of_lt h7.1]
      refine ⟨r',?_,?_⟩
      · rw [List.flatMap_cons,hv,<- h6,List.append_assoc,<- h4,List.take_append_drop]
      · rw [List.flatMap_cons,List.length_append,hv,<- h6,List.length_take,<- h5];omega
theorem unqL_complete:∀ (t:List UInt8) (m:Nat) (r:List UInt8),t.length < m->unqL m (t.flatMap formL++34 :: r)=some (t,(t.flatMap formL).length)
 | _,0,_,h=>by omega
 | [],m+1,r,_=>rfl
 | c :: t,m+1,r,h=>by
  have hn:=nextL_form c (t.flatMap formL++34 :: r)
  have hp:=formL_pos c
  rw [List.flatMap_cons,List.append_assoc,unqL_step m _ (by rw [hn];simp only;omega),hn]
  simp only
  rw [List.drop_left,unqL_complete t m r (by simp only [List.length_cons] at h;omega),UInt8.ofNat_toNat,List.length_append]
  rfl
theorem quoteL_length (t:List UInt8):(quoteL t).length=(t.flatMap formL).length+2:=by unfold quoteL;simp
theorem quotedL_quote (t r:List UInt8):quotedL (quoteL t++r)=(t,(quoteL t).length):=by
 have e:quoteL t++r=34 :: (t.flatMap formL++34 :: r):=by unfold quoteL;simp
 have hl:=flat_len t
 unfold quotedL
 rw [e,if_pos (show (34 :: (t.flatMap formL++34 :: r):List UInt8).head?=some 34 from rfl)]
 show (match unqL _ (t.flatMap formL++34 :: r) with
  | some (t,k)=>(t,k+2)
  | none=>([],0))=_
 rw [unqL_complete t _ r (by simp only [List.length_cons,List.length_append];omega),quoteL_length]
theorem quotedL_sound (s:List UInt8) (h:(quotedL s).2≠0):∃ t r,s=quoteL t++r∧quotedL s=(t,(quoteL t).length):=by
 have h':=h
 unfold quotedL at h'
 split at h'
 · rename_i hh
   match s,hh with
   | c :: s',hh=>
    have e:c=34:=Option.some.inj hh
    subst e
    split at h'
    · rename_i t k hu
      obtain ⟨r,h1,h2⟩:=unqL_sound _ _ _ _ hu
      have e:(34:UInt8) :: s'=quoteL t++r:=by
       have:s'=t.flatMap formL++34 :: r:=h1
       rw [this]
       unfold quoteL
       simp
      exact ⟨t,r,e,by rw [e,quotedL_quote]⟩
    · exact absurd rfl h'
 · exact absurd rfl h'
theorem unq_quote (t:List UInt8):unq (quoteL t)=if t.length > 60 then ([],3) else (t,0):=by
 have h:=quotedL_quote t []
 rw [List.append_nil] at h
 have h2:=quoteL_length t
 unfold unq
 rw [h]
 simp only
 rw [if_neg (by omega)]
theorem unq_else (s:List UInt8) (h:∀ t,s≠quoteL t):unq s=([],4):=by
 unfold unq
 split
 · rfl
 · rename_i hc
   exfalso
   obtain ⟨t,r,h1,h2⟩:=quotedL_sound s (fun e=>hc (.inl e))
   have h3:(quotedL s).2=s.length:=Decidable.byContradiction fun e=>hc (.inr e)
   rw [h2] at h3
   simp only at h3
   rw [h1,List.length_append] at h3
   have:r=[]:=List.length_eq_zero_iff.1 (by omega)
   subst this
   rw [List.append_nil] at h1
   exact h t h1
theorem atL_drop (s:List UInt8) (i j:Nat):atL s (i+j)=atL (s.drop i) j:=by unfold atL;rw [List.getElem?_drop]
theorem bys_append (a b:List UInt8):bys (a++b)=bys a++bys b:=by simp [bys]
theorem formL_le (c:UInt8):(formL c).length<=4:=by
 rcases form_cases c with ⟨h1,h2⟩ | ⟨h1,h2,h3⟩ | ⟨a,b,h1,h2,h3,h4⟩
 · rw [h2];simp
 · rw [h3];simp
 · rw [h1];simp
theorem flat_le (t:List UInt8):(t.flatMap formL).length<=4 * t.length:=by
 induction t with
 | nil=>exact Nat.le_refl _
 | cons c t ih=>have:=formL_le c;rw [List.flatMap_cons,List.length_append,List.length_cons];omega
theorem ok_strings_Builder_WriteString:fnOK CC Tryz.f155 (Tryz.f155.body.getD .skip)=true:=by kernel_rfl
theorem fat_strings_Builder_WriteString:CC.P.funcs[155]?=some Tryz.f155:=by kernel_rfl
theorem ok_names_Quote:fnOK CC Tryz.f126 (Tryz.f126.body.getD .skip)=true:=by kernel_rfl
theorem fat_names_Quote:CC.P.funcs[126]?=some Tryz.f126:=by kernel_rfl
def strEl:PV->Option (List PV)
 | .str w=>some (bys w)
 | _=>none
theorem ap_str (st:St) (al:List (Nat×Loc)) (s x:Operand) (d:Option Tmp):appendOn CC st al s x 70 9 d=match appendAt CC st al 5 s,strEl (opd CC st.env x) with
 | some (l,xs),some ys=>appK 1 1 5 st al l xs ys d
 | _,_=>none:=by
 have h0:CC.P.underlying 70=some (.slice 5):=by kernel_rfl
 have h1:CC.P.underlying 9=some .string:=by kernel_rfl
 have he:CC.P.underlying 5=some (.int .u8):=by kernel_rfl
 have hi:CC.P.info? 5=some IB:=by kernel_rfl
 have hz:IB.zero=some (.int .u8 0):=by kernel_rfl
 have hs:IB.size=1:=by kernel_rfl
 have hb:IB.bytes=1:=by kernel_rfl
 have hzc:(Value.int .u8 0).cells.size=1:=rfl
 unfold appendOn newElems appK strEl bys
 simp only [h0,hi,h1,he,hz,hs,hb,Option.isNone_some,Bool.false_eq_true,false_or,Option.map_some,hzc,ne_eq,not_true_eq_false,or_false,Nat.one_ne_zero,if_true]
 cases appendAt CC st al 5 s with
 | none=>rfl
 | some p=>
  obtain ⟨l,xs⟩:=p
  cases opd CC st.env x <;> rfl
theorem call_WriteString (l w:List UInt8) (hl:l.length+w.length<=900000) (hw:w≠[]) (p:PV) (hp:p=.nilp∨p=.bp 0 0):callL CC 155 [.bp 0 0,.str w] [.cells 153 [p,bufV l]] =
 some (.ret (.tup [.int .i64 (w.length:Int),.nili]),[.cells 153 [.bp 0 0,.osl 5 (bys (l++w))]]):=by
 rw [callL_enter (fn:=Tryz.f155) (c:=Tryz.f155.body.getD .skip) rfl rfl fat_strings_Builder_WriteString rfl ok_strings_Builder_WriteString (Nat.le_of_ble_eq_true rfl)]
 have hbl:=bys_length l
 have hwl:=bys_length w
 have hlen:=len_str w
 have hq:(bufV l).under 1=true:=by
  unfold bufV
  split
  · rfl
  · simpa [PV.under] using underL_bys 1 l
 have ho:=op_copyCheck p hp (bufV l) hq
 have hsn:=bys_append l w
 have hok:=bys_all w
 have hc:(bys l).length+(bys w).length<=1000000:=by omega
 have hc0:(bys w).length<=1000000:=by omega
 rw [hsn]
 obtain ⟨ev,eo,so,co,⟨hev,hco⟩,R⟩:=RULES CC;rw [<- hev]
 rw [<- hco] at ho
 have hpn:pureL [.bp 0 0]=false:=rfl
 simp only [fpart,part',Tryz.f155,Option.getD]
 unfold bufV at *
 by_cases h:l=[]
 · subst h
   rw [if_pos rfl] at ho ⊢
   have hb0:bys []=[]:=rfl
   rw [hb0] at *
   generalize hys:bys w=ys at *
   simp only [S8,R,SG,SH,seval,ho,hlen,strEl,hys,nchP,List.getD_cons_succ,List.getD_cons_zero,ap_str,hok,hc,hc0,List.set_cons_zero,List.set_cons_succ]
   try rfl
 · rw [if_neg h] at ho ⊢
   generalize hys:bys w=ys at *
   generalize bys l=xs at *
   simp only [S8,R,SG,SH,seval,ho,hlen,strEl,hys,nchP,List.getD_cons_succ,List.getD_cons_zero,ap_str,hok,hc,List.set_cons_zero,List.set_cons_succ]
   try rfl
theorem call_op_WriteString (l w:List UInt8) (hl:l.length+w.length<=900000) (hw:w≠[]) (p:PV) (hp:p=.nilp∨p=.bp 0 0):callOp CC (callL CC) 155 [.bp 0 0,.str w] [.cells 153 [p,bufV l]] =
 some (.ret (.tup [.int .i64 (w.length:Int),.nili]),[.cells 153 [.bp 0 0,bufV (l++w)]]):=by
 have h:=call_WriteString l w hl hw p hp
 unfold callOp
 rw [if_pos (by rfl),h]
 have hb:bufV (l++w)=.osl 5 (bys (l++w)):=by
  unfold bufV
  rw [if_neg (by simp [hw])]
 rw [hb]
 simp only
 rw [truncB_same (by simp)]
theorem formL_ne (c:UInt8):formL c≠[]:=fun h=>by have:=formL_pos c;rw [h] at this;exact absurd this (by decide)
theorem loop_names_Quote (L:Code) (hL:L=fpart Tryz.f126 [1,1,1,0,1,0]) (s:List UInt8) (hs:s.length<=200000):∀ (k i:Nat) (acc:List UInt8) (e:List PV),i+k=s.length->acc.length<=1+4 * i->getT e 0=.str s->getT e 3=.bp 0 0->getT e 7=.int .i64 s.length->getT e 8=.int .i64 i ->
 ∃ e',evL CC L ⟨e,[.cells 153 [.bp 0 0,bufV acc]]⟩=some (.exit 0,⟨e',[.cells 153 [.bp 0 0,bufV (acc++(s.drop i).flatMap formL)]]⟩)∧getT e' 3=.bp 0 0:=by
 intro k
 induction k with
 | zero=>
  intro i acc e hk ha h0 h3 h7 h8
  rw [evL_at (fpart Tryz.f126 [1,1,1,0,1,0,0]) hL]
  have hi:¬ ((i:Int) < (s.length:Int)):=by omega
  rw [List.drop_eq_nil_of_le (by omega),List.flatMap_nil,List.append_nil]
  generalize bufV acc=b at *
  obtain ⟨ev,eo,so,co,⟨hev,hco⟩,R⟩:=RULES CC;rw [<- hev]
  simp only [fpart,part',Tryz.f126,Option.getD]
  simp only [S8,R,seval,h7,h8,hi]
  exact ⟨_,rfl,by simp only [S7,R,seval,h3]⟩
 | succ k ih=>
  intro i acc e hk ha h0 h3 h7 h8
  rw [evL_at (fpart Tryz.f126 [1,1,1,0,1,0,0]) hL]
  have hi:((i:Int) < (s.length:Int)):=by omega
  have hdr:s.drop i=(s[i]'(by omega)) :: s.drop (i+1):=List.drop_eq_getElem_cons (by omega)
  have hx:s[i]?=some (s[i]'(by omega)):=by simp
  generalize s[i]'(by omega)=c at *
  have hix:=ix_str s i c hx
  have hf:=op_names_form c
  have hle:=formL_le c
  have hwr:=call_op_WriteString acc (formL c) (by omega) (formL_ne c) (.bp 0 0) (.inr rfl)
  have w1:=wrap_i64 (n:=(i:Int)+1) ⟨by omega,by omega⟩
  have cast1:((i+1:Nat):Int)=(i:Int)+1:=by omega
  have key:=fun e=>ih (i+1) (acc++formL c) e (by omega) (by rw [List.length_append];omega)
  rw [cast1] at key
  rw [hdr,List.flatMap_cons,<- List.append_assoc]
  generalize formL c=f at *
  generalize bufV (acc++f++(s.drop (i+1)).flatMap formL)=b2 at *
  generalize bufV (acc++f)=b1 at *
  generalize bufV acc=b at *
  obtain ⟨ev,eo,so,co,⟨hev,hco⟩,R⟩:=RULES CC;rw [<- hev]
  rw [<- hev] at key
  rw [<- hco] at hf hwr
  simp only [fpart,part',Tryz.f126,Option.getD]
  simp only [S8,R,seval,h0,h3,h7,h8,hi,hix,hf,hwr,w1]
  refine key _ ?_ ?_ ?_ ?_
  · simp only [S7,R,seval,h0]
  · simp only [S7,R,seval,h3]
  · simp only [S7,R,seval,h7]
  · simp only [S7,R,seval]
theorem call_names_Quote (s:List UInt8) (hs:s.length<=200000):∃ bx,callL CC 126 [.str s] []=some (.ret (.str (quoteL s)),bx):=by
 rw [callL_enter (fn:=Tryz.f126) (c:=Tryz.f126.body.getD .skip) rfl rfl fat_names_Quote rfl ok_names_Quote (Nat.le_of_ble_eq_true rfl)]
 have hlen:=len_str s
 have hfl:=flat_le s
 have hb0:bufV []=.nils:=rfl
 have w0:=call_op_WriteString [] [34] (by simp) (by simp) .nilp (.inl rfl)
 rw [hb0,List.nil_append] at w0
 have hloop:=fun e=>loop_names_Quote _ rfl s hs s.length 0 [34] e (by omega) (by simp)
 rw [List.drop_zero] at hloop
 have w9:=call_op_WriteString ([34]++s.flatMap formL) [34] (by simp only [List.length_append,List.length_singleton];omega) (by simp) (.bp 0 0) (.inr rfl)
 have hq:[34]++s.flatMap formL++[34]=quoteL s:=by unfold quoteL;simp
 rw [hq] at w9
 have hst:=call_op_bString (quoteL s) (.bp 0 0)
 generalize quoteL s=q at *
 generalize bufV ([34]++s.flatMap formL)=b2 at *
 generalize bufV [34]=b1 at *
 generalize bufV q=b3 at *
 obtain ⟨ev,eo,so,co,⟨hev,hco⟩,R⟩:=RULES CC;rw [<- hev]
 rw [<- hev] at hloop
 rw [<- hco] at w0 w9 hst
 simp only [fpart,part',Tryz.f126,Option.getD] at hloop ⊢
 simp only [S8,R,seval,SC,zcB,hlen,w0]
 generalize hE:ev _ _=z
 have hP:∃ e',z=some (.exit 0,⟨e',[.cells 153 [.bp 0 0,b2]]⟩)∧getT e' 3=.bp 0 0:=by
  rw [<- hE]
  refine hloop _ ?_ ?_ ?_ ?_
  · simp only [S7,R,seval]
  · simp only [S7,R,seval]
  · simp only [S7,R,seval]
  · simp only [S7,R,seval] <;> rfl
 obtain ⟨e',he,g3⟩:=hP
 subst he
 simp only [S8,R,seval,g3,w9,hst]
 exact ⟨_,rfl⟩
theorem op_names_Quote (s:List UInt8) (hs:s.length<=200000) (bx):callOp CC (callL CC) 126 [.str s] bx=some (.ret (.str (quoteL s)),bx):=by
 obtain ⟨b,h⟩:=call_names_Quote s hs
 exact callOp_of rfl (by simp only [SA,Bool.and_true]) h rfl
end Go.HH
