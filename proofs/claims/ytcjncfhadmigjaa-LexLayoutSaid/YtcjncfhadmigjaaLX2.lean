/-
  Quoted strings: forms of bytes, in the program.
-/
import Derived.Test.YtcjncfhadmigjaaLX1
namespace Go.HH
open Go Go.Proofs
set_option maxRecDepth 100000
set_option linter.unusedSimpArgs false
set_option linter.unusedVariables false
def hexd (d : Nat) : UInt8 := UInt8.ofNat (if d < 10 then 48 + d else 87 + d)
/-- the form of a byte in quotes -/
def formN (n : Nat) : List UInt8 := if n = 34 ∨ n = 92 then [92, UInt8.ofNat n] else if n < 32 ∨ 126 < n then [92, 120, hexd (n / 16), hexd (n % 16)] else [UInt8.ofNat n]
def formL (c : UInt8) : List UInt8 := formN c.toNat
def hexN (n : Nat) : Int := if 48 ≤ n ∧ n ≤ 57 then n - 48 else if 97 ≤ n ∧ n ≤ 102 then n - 87 else -1
def hexV (c : UInt8) : Int := hexN c.toNat
/-- what a function of one byte returns, for each of the 256 -/
noncomputable def chkStr (f : FuncId) (g : Nat → List UInt8) (n : Nat) : Bool := match callF CC 50 f [.int .u8 n] [] with
  | some (.ret (.str s), []) => s == g n
  | _ => false
noncomputable def chkInt (k : IntKind) (f : FuncId) (g : Nat → Int) (n : Nat) : Bool := match callF CC 50 f [.int .u8 n] [] with
  | some (.ret (.int k' v), []) => k == k' && v == g n
  | _ => false
theorem of_chkStr {f : FuncId} {g : Nat → List UInt8} (h : (List.range 256).all (chkStr f g) = true) (c : UInt8) : callL CC f [.int .u8 (c.toNat : Int)] [] = some (.ret (.str (g c.toNat)), []) := by
  have := List.all_eq_true.1 h c.toNat (List.mem_range.2 (UInt8.toNat_lt c))
  unfold chkStr at this
  split at this
  · rename_i s hs
    have e : s = g c.toNat := by simpa using this
    subst e
    exact callL_iff.2 ⟨50, hs⟩
  · cases this
theorem of_chkInt {k : IntKind} {f : FuncId} {g : Nat → Int} (h : (List.range 256).all (chkInt k f g) = true) (c : UInt8) : callL CC f [.int .u8 (c.toNat : Int)] [] = some (.ret (.int k (g c.toNat)), []) := by
  have := List.all_eq_true.1 h c.toNat (List.mem_range.2 (UInt8.toNat_lt c))
  unfold chkInt at this
  split at this
  · rename_i k' v hs
    simp only [Bool.and_eq_true, beq_iff_eq] at this
    obtain ⟨e1, e2⟩ := this
    subst e1 e2
    exact callL_iff.2 ⟨50, hs⟩
  · cases this
theorem all_form : (List.range 256).all (chkStr 57 formN) = true := by kernel_rfl
theorem all_hex : (List.range 256).all (chkInt .i64 58 hexN) = true := by kernel_rfl
theorem op_names_form (c : UInt8) (bx) : callOp CC (callL CC) 57 [.int .u8 (c.toNat : Int)] bx = some (.ret (.str (formL c)), bx) := callOp_of rfl (by simp only [SA, Bool.and_true]) (of_chkStr all_form c) rfl
theorem op_names_hex (c : UInt8) (bx) : callOp CC (callL CC) 58 [.int .u8 (c.toNat : Int)] bx = some (.ret (.int .i64 (hexV c)), bx) := callOp_of rfl (by simp only [SA, Bool.and_true]) (of_chkInt all_hex c) rfl
def digN (n : Nat) : Int := (hexd (n % 16)).toNat
theorem all_R04_digit : (List.range 256).all (chkInt .u8 21 digN) = true := by kernel_rfl
theorem all_R04_hex : (List.range 256).all (chkInt .i64 48 hexN) = true := by kernel_rfl
theorem op_R04_digit (c : UInt8) (bx) : callOp CC (callL CC) 21 [.int .u8 (c.toNat : Int)] bx = some (.ret (.int .u8 (digN c.toNat)), bx) := callOp_of rfl (by simp only [SA, Bool.and_true]) (of_chkInt all_R04_digit c) rfl
theorem op_R04_hex (c : UInt8) (bx) : callOp CC (callL CC) 48 [.int .u8 (c.toNat : Int)] bx = some (.ret (.int .i64 (hexV c)), bx) := callOp_of rfl (by simp only [SA, Bool.and_true]) (of_chkInt all_R04_hex c) rfl
end Go.HH
