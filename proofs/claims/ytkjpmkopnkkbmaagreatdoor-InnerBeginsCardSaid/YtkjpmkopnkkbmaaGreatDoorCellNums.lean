/- The plain numbers of the package cell: what each function computes, in plain Lean, and the laws that the statements ask of them. No program is in sight here. -/
import Derived.WalkKit
namespace Go.Proofs.YtkjpmkopnkkbmaaGreatDoor
open Go.RowKit

namespace Cn
/-- Flag. -/
def flag (b : Bool) : Int := if b then -1 else 0
/-- Does the rest have the wrong sign? -/
def odd (a b : Int) : Prop := a.tmod b ≠ 0 ∧ ¬ (a.tmod b < 0 ↔ b < 0)
instance (a b : Int) : Decidable (odd a b) := by unfold odd; infer_instance
/-- Floor: the quotient, rounded down. -/
def quo (a b : Int) : Int := if b = 0 then 0 else if b = -1 then wrap64 (-a) else if odd a b then wrap64 (wrap64 (a.tdiv b) - 1) else wrap64 (a.tdiv b)
/-- Floor: the rest. -/
def rem (a b : Int) : Int := if b = 0 then 0 else if b = -1 then 0 else if odd a b then wrap64 (a.tmod b + b) else a.tmod b
/-- shift: to the left, or to the right; zeros come in. -/
def shift (op a n : Int) : Int := if n < 0 ∨ 64 ≤ n then 0 else if op = 21 then wrap64 (a * 2 ^ n.toNat) else wrap64 (IntKind.u64.wrap a / 2 ^ n.toNat)
/-- compare. -/
def cmp (op a b : Int) : Int := if op = 23 then flag (a == b) else if op = 24 then flag (decide (a < b)) else flag (decide (IntKind.u64.wrap a < IntKind.u64.wrap b))
/-- Two. -/
def two (op a b : Int) : Int :=
  if op = 11 then wrap64 (a + b) else if op = 12 then wrap64 (a - b) else if op = 13 then wrap64 (a * b) else if op = 14 then quo a b else if op = 15 then rem a b
  else if op = 17 then bits .and .i64 a b else if op = 18 then bits .or .i64 a b else if op = 19 then bits .xor .i64 a b
  else if op = 21 then shift op a b else if op = 22 then shift op a b else if op = 23 then cmp op a b else if op = 24 then cmp op a b else if op = 25 then cmp op a b
  else if op = 28 then min a b else if op = 29 then max a b else 0
def isTwo (op b : Int) : Bool :=
  if op = 11 then true else if op = 12 then true else if op = 13 then true else if op = 14 then b != 0 else if op = 15 then b != 0
  else if op = 17 then true else if op = 18 then true else if op = 19 then true else if op = 21 then true else if op = 22 then true
  else if op = 23 then true else if op = 24 then true else if op = 25 then true else if op = 28 then true else if op = 29 then true else false
/-- One. -/
def one (op a : Int) : Int := if op = 16 then wrap64 (-a) else if op = 20 then bits .xor .i64 (-1) a else if op = 26 then flag (a == 0) else if op = 27 then flag (decide (a < 0)) else 0
def isOne (op : Int) : Bool := if op = 16 then true else if op = 20 then true else if op = 26 then true else if op = 27 then true else false
/-- Crosses. -/
def crosses (x n : Int) : Bool := decide (bits .and .i64 (bits .xor .i64 x (wrap64 (x + n))) (bits .xor .i64 x n) < 0)
/-- The document's own. -/
def rone (op a : Int) : Int := if op = 16 then wrap64 (-a) else if op = 20 then wrap64 (-1 - a) else if op = 26 then flag (a == 0) else if op = 27 then flag (decide (a < 0)) else 0
def risTwo (op : Int) : Bool := decide ((11 ≤ op ∧ op ≤ 15) ∨ (17 ≤ op ∧ op ≤ 19) ∨ (21 ≤ op ∧ op ≤ 25) ∨ op = 28 ∨ op = 29)
def risOne (op : Int) : Bool := decide (op = 16 ∨ op = 20 ∨ op = 26 ∨ op = 27)
def rr (a b : Int) : Int := wrap64 (a - wrap64 (wrap64 (a.tdiv b) * b))
def rodd (a b : Int) : Prop := rr a b ≠ 0 ∧ ¬ (rr a b < 0 ↔ b < 0)
instance (a b : Int) : Decidable (rodd a b) := by unfold rodd; infer_instance
def rquo (a b : Int) : Int := if rodd a b then wrap64 (wrap64 (a.tdiv b) - 1) else wrap64 (a.tdiv b)
def rrem (a b : Int) : Int := if rodd a b then wrap64 (rr a b + b) else rr a b
def rshift (op a n : Int) : Int := if n < 0 ∨ 63 < n then 0 else if op = 21 then wrap64 (IntKind.u64.wrap (a * 2 ^ n.toNat)) else wrap64 (IntKind.u64.wrap a / 2 ^ n.toNat)
def rtwo (op a b : Int) : Int :=
  if op = 11 then wrap64 (a + b) else if op = 12 then wrap64 (a - b) else if op = 13 then wrap64 (a * b) else if op = 14 then if b = 0 then 0 else rquo a b else if op = 15 then if b = 0 then 0 else rrem a b
  else if op = 17 then bits .and .i64 a b else if op = 18 then bits .or .i64 a b else if op = 19 then bits .xor .i64 a b
  else if op = 21 then rshift op a b else if op = 22 then rshift op a b else if op = 23 then cmp op a b else if op = 24 then cmp op a b else if op = 25 then cmp op a b
  else if op = 28 then min a b else if op = 29 then max a b else 0
theorem risTwo_no {op : Int} (h : (!risTwo op) = true) : op < 11 ∨ op = 16 ∨ op = 20 ∨ op = 26 ∨ op = 27 ∨ 29 < op := by
  simp only [risTwo, Bool.not_eq_true', decide_eq_false_iff_not] at h; omega
theorem rtwo_none1 {op : Int} (a b : Int) (h : (!risTwo op) = true) : (0 : Int) = rtwo op a b := by
  have h := risTwo_no h
  unfold rtwo
  repeat rw [if_neg (by omega)]
theorem rtwo_none2 {op : Int} (b : Int) (h : (!risTwo op) = true) : false = isTwo op b := by
  have h := risTwo_no h
  unfold isTwo
  repeat rw [if_neg (by omega)]
theorem rtwo_max {op : Int} (h : (!risTwo op) = false) (h1 : (op == 11) = false) (h2 : (op == 12) = false) (h3 : (op == 13) = false) (h4 : (op == 14) = false) (h5 : (op == 15) = false) (h6 : (op == 17) = false) (h7 : (op == 18) = false) (h8 : (op == 19) = false)
    (h9 : (op == 21) = false) (h10 : (op == 22) = false) (h11 : (op == 23) = false) (h12 : (op == 24) = false) (h13 : (op == 25) = false) (h14 : (op == 28) = false) : op = 29 := by
  simp only [beq_eq_false_iff_ne] at *
  simp only [risTwo, Bool.not_eq_false', decide_eq_true_eq] at h
  omega
theorem w0 : wrap64 0 = 0 := by unfold wrap64; omega
theorem u0 : IntKind.u64.wrap 0 = 0 := by rw [IntKind.wrap_u64]; omega
end Cn
end Go.Proofs.YtkjpmkopnkkbmaaGreatDoor
