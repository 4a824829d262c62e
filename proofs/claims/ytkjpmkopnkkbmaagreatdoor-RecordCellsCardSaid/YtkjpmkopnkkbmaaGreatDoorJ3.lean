/- Plain numbers, plain traces: what a trace does, which may be. No program in sight. -/
import Derived.WalkKit
import Derived.Test.YtkjpmkopnkkbmaaGreatDoorJ1

/- The plain numbers of the package cell: what each function computes, in plain Lean, and the laws that the statements ask of them. No program is in sight here. -/
namespace Go.Proofs.YtkjpmkopnkkbmaaGreatDoor
open Go.RowKit

namespace Cn
/-- Flag. -/
def flag (b : Bool) : Int := if b then -1 else 0
/-- Does the rest have the wrong sign? -/
def odd (a b : Int) : Prop := a.tmod b ≠ 0 ∧ ¬ (a.tmod b < 0 ↔ b < 0)
instance (a b : Int) : Decidable (odd a b) := by unfold odd; infer_instance
/-- Floor: the quotient, rounded down. -/
def quo (a b : Int) : Int := if b = 0 then 0 else if b = -1 then wrap64 (-a) else if odd a b then wrap64 (wrap64 (a.tdiv b) - 1) else wrap64 (a.tdiv b)
/-- Floor: the rest. -/
def rem (a b : Int) : Int := if b = 0 then 0 else if b = -1 then 0 else if odd a b then wrap64 (a.tmod b + b) else a.tmod b
/-- shift: to the left, or to the right; zeros come in. -/
def shift (op a n : Int) : Int := if n < 0 ∨ 64 ≤ n then 0 else if op = 21 then wrap64 (a * 2 ^ n.toNat) else wrap64 (IntKind.u64.wrap a / 2 ^ n.toNat)
/-- compare. -/
def cmp (op a b : Int) : Int := if op = 23 then flag (a == b) else if op = 24 then flag (decide (a < b)) else flag (decide (IntKind.u64.wrap a < IntKind.u64.wrap b))
/-- Two. -/
def two (op a b : Int) : Int :=
  if op = 11 then wrap64 (a + b) else if op = 12 then wrap64 (a - b) else if op = 13 then wrap64 (a * b) else if op = 14 then quo a b else if op = 15 then rem a b
  else if op = 17 then bits .and .i64 a b else if op = 18 then bits .or .i64 a b else if op = 19 then bits .xor .i64 a b
  else if op = 21 then shift op a b else if op = 22 then shift op a b else if op = 23 then cmp op a b else if op = 24 then cmp op a b else if op = 25 then cmp op a b
  else if op = 28 then min a b else if op = 29 then max a b else 0
def isTwo (op b : Int) : Bool :=
  if op = 11 then true else if op = 12 then true else if op = 13 then true else if op = 14 then b != 0 else if op = 15 then b != 0
  else if op = 17 then true else if op = 18 then true else if op = 19 then true else if op = 21 then true else if op = 22 then true
  else if op = 23 then true else if op = 24 then true else if op = 25 then true else if op = 28 then true else if op = 29 then true else false
/-- One. -/
def one (op a : Int) : Int := if op = 16 then wrap64 (-a) else if op = 20 then bits .xor .i64 (-1) a else if op = 26 then flag (a == 0) else if op = 27 then flag (decide (a < 0)) else 0
def isOne (op : Int) : Bool := if op = 16 then true else if op = 20 then true else if op = 26 then true else if op = 27 then true else false
/-- Crosses. -/
def crosses (x n : Int) : Bool := decide (bits .and .i64 (bits .xor .i64 x (wrap64 (x + n))) (bits .xor .i64 x n) < 0)
def rr (a b : Int) : Int := wrap64 (a - wrap64 (wrap64 (a.tdiv b) * b))
def rodd (a b : Int) : Prop := rr a b ≠ 0 ∧ ¬ (rr a b < 0 ↔ b < 0)
instance (a b : Int) : Decidable (rodd a b) := by unfold rodd; infer_instance
theorem w0 : wrap64 0 = 0 := by unfold wrap64; omega
theorem u0 : IntKind.u64.wrap 0 = 0 := by rw [IntKind.wrap_u64]; omega
end Cn
end Go.Proofs.YtkjpmkopnkkbmaaGreatDoor

/- What a trace does, in plain words: values, instructions, exits. No program in sight. -/
set_option maxRecDepth 100000
namespace Go.Proofs.YtkjpmkopnkkbmaaGreatDoor
open Go.RowKit

structure StV where
  ip : Int
  handler : Int
  stack : List Int
  back : List Int
  mem : List Int
  out : ByteArray
  inp : ByteArray
  read : Int
  status : Int
  code : Int
/-- The digits of a number, ahead of some that are there. -/
def dg : Nat → Nat → List UInt8 → List UInt8
  | 0, _, out => out
  | f + 1, n, out => if n = 0 ∧ out ≠ [] then out else dg f (n / 10) (UInt8.ofNat (48 + n % 10) :: out)
theorem dg_zero : ∀ (f : Nat) (out : List UInt8), out ≠ [] → dg f 0 out = out
  | 0, _, _ => rfl
  | f + 1, out, h => by unfold dg; rw [if_pos ⟨rfl, h⟩]
theorem dg_len : ∀ (f n : Nat) (out : List UInt8), (dg f n out).length ≤ out.length + f
  | 0, _, _ => Nat.le_refl _
  | f + 1, n, out => by
    unfold dg; split
    · omega
    · have := dg_len f (n / 10) (UInt8.ofNat (48 + n % 10) :: out); rw [List.length_cons] at this; omega
/-- How large a number is, without its sign. -/
def absN (v : Int) : Nat := if v < 0 then (IntKind.wrap .u64 (0 - IntKind.wrap .u64 v)).toNat else (IntKind.wrap .u64 v).toNat
def putV (v : Int) : ByteArray := if v < 0 then bs [45] ++ bs (dg 20 (absN v) []) else bs (dg 20 (absN v) [])
def byteC (v : Int) : UInt8 := UInt8.ofNat (IntKind.wrap .u8 v).toNat
def getI (l : List Int) (i : Int) : Int := l.getD i.toNat 0
/-- A trace while it runs: the machine, the registers, the watched cell that was hit. -/
structure En where
  s : StV
  regs : List Int
  hit : Int
def Keeps (e e' : En) : Prop := e'.regs.length = e.regs.length ∧ e'.s.stack = e.s.stack ∧ e'.s.back = e.s.back ∧ e'.s.inp = e.s.inp ∧ e'.s.mem.length = e.s.mem.length
theorem Keeps.refl (e : En) : Keeps e e := ⟨rfl, rfl, rfl, rfl, rfl⟩
end Go.Proofs.YtkjpmkopnkkbmaaGreatDoor

/- The plain laws of the package cell: what the statements ask of the numbers. No program is in sight here. -/
namespace Go.Proofs.YtkjpmkopnkkbmaaGreatDoor
open Go.RowKit
namespace Cn
/-- A number of 64 bits. -/
def In (a : Int) : Prop := -9223372036854775808 ≤ a ∧ a ≤ 9223372036854775807

end Cn
end Go.Proofs.YtkjpmkopnkkbmaaGreatDoor

/- Numbers of 64 bits, bit by bit: the plain laws that the statements of chapter 1 ask. No program is in sight here. -/
namespace Go.Proofs.YtkjpmkopnkkbmaaGreatDoor
open Go.RowKit
namespace Cn

def B (a : Int) : BitVec 64 := BitVec.ofInt 64 a
theorem part (x y : BitVec 64) : x = (x &&& ~~~y) + (x &&& y) := by
  rw [BitVec.add_eq_or_of_and_eq_zero _ _ (by ext i; simp; grind)]
  ext i; simp; grind
end Cn
end Go.Proofs.YtkjpmkopnkkbmaaGreatDoor
