/- Plain numbers, plain traces: what a trace does, which may be. No program in sight. -/
import Derived.WalkKit
import Derived.Test.YtkjpmkopnkkbmaaGreatDoorJ1

/- The plain numbers of the package cell: what each function computes, in plain Lean, and the laws that the statements ask of them. No program is in sight here. -/
namespace Go.Proofs.YtkjpmkopnkkbmaaGreatDoor
open Go.RowKit

namespace Cn
def flag (b : Bool) : Int := if b then -1 else 0
def odd (a b : Int) : Prop := a.tmod b ≠ 0 ∧ ¬ (a.tmod b < 0 ↔ b < 0)
instance (a b : Int) : Decidable (odd a b) := by unfold odd; infer_instance
def quo (a b : Int) : Int := if b = 0 then 0 else if b = -1 then wrap64 (-a) else if odd a b then wrap64 (wrap64 (a.tdiv b) - 1) else wrap64 (a.tdiv b)
def rem (a b : Int) : Int := if b = 0 then 0 else if b = -1 then 0 else if odd a b then wrap64 (a.tmod b + b) else a.tmod b
def shift (op a n : Int) : Int := if n < 0 ∨ 64 ≤ n then 0 else if op = 21 then wrap64 (a * 2 ^ n.toNat) else wrap64 (IntKind.u64.wrap a / 2 ^ n.toNat)
def cmp (op a b : Int) : Int := if op = 23 then flag (a == b) else if op = 24 then flag (decide (a < b)) else flag (decide (IntKind.u64.wrap a < IntKind.u64.wrap b))
def two (op a b : Int) : Int :=
  if op = 11 then wrap64 (a + b) else if op = 12 then wrap64 (a - b) else if op = 13 then wrap64 (a * b) else if op = 14 then quo a b else if op = 15 then rem a b
  else if op = 17 then bits .and .i64 a b else if op = 18 then bits .or .i64 a b else if op = 19 then bits .xor .i64 a b
  else if op = 21 then shift op a b else if op = 22 then shift op a b else if op = 23 then cmp op a b else if op = 24 then cmp op a b else if op = 25 then cmp op a b
  else if op = 28 then min a b else if op = 29 then max a b else 0
def isTwo (op b : Int) : Bool :=
  if op = 11 then true else if op = 12 then true else if op = 13 then true else if op = 14 then b != 0 else if op = 15 then b != 0
  else if op = 17 then true else if op = 18 then true else if op = 19 then true else if op = 21 then true else if op = 22 then true
  else if op = 23 then true else if op = 24 then true else if op = 25 then true else if op = 28 then true else if op = 29 then true else false
def one (op a : Int) : Int := if op = 16 then wrap64 (-a) else if op = 20 then bits .xor .i64 (-1) a else if op = 26 then flag (a == 0) else if op = 27 then flag (decide (a < 0)) else 0
def isOne (op : Int) : Bool := if op = 16 then true else if op = 20 then true else if op = 26 then true else if op = 27 then true else false
def crosses (x n : Int) : Bool := decide (bits .and .i64 (bits .xor .i64 x (wrap64 (x + n))) (bits .xor .i64 x n) < 0)
def rone (op a : Int) : Int := if op = 16 then wrap64 (-a) else if op = 20 then wrap64 (-1 - a) else if op = 26 then flag (a == 0) else if op = 27 then flag (decide (a < 0)) else 0
def risTwo (op : Int) : Bool := decide ((11 ≤ op ∧ op ≤ 15) ∨ (17 ≤ op ∧ op ≤ 19) ∨ (21 ≤ op ∧ op ≤ 25) ∨ op = 28 ∨ op = 29)
def risOne (op : Int) : Bool := decide (op = 16 ∨ op = 20 ∨ op = 26 ∨ op = 27)
def rr (a b : Int) : Int := wrap64 (a - wrap64 (wrap64 (a.tdiv b) * b))
def rodd (a b : Int) : Prop := rr a b ≠ 0 ∧ ¬ (rr a b < 0 ↔ b < 0)
instance (a b : Int) : Decidable (rodd a b) := by unfold rodd; infer_instance
def rquo (a b : Int) : Int := if rodd a b then wrap64 (wrap64 (a.tdiv b) - 1) else wrap64 (a.tdiv b)
def rrem (a b : Int) : Int := if rodd a b then wrap64 (rr a b + b) else rr a b
def rshift (op a n : Int) : Int := if n < 0 ∨ 63 < n then 0 else if op = 21 then wrap64 (IntKind.u64.wrap (a * 2 ^ n.toNat)) else wrap64 (IntKind.u64.wrap a / 2 ^ n.toNat)
def rtwo (op a b : Int) : Int :=
  if op = 11 then wrap64 (a + b) else if op = 12 then wrap64 (a - b) else if op = 13 then wrap64 (a * b) else if op = 14 then if b = 0 then 0 else rquo a b else if op = 15 then if b = 0 then 0 else rrem a b
  else if op = 17 then bits .and .i64 a b else if op = 18 then bits .or .i64 a b else if op = 19 then bits .xor .i64 a b
  else if op = 21 then rshift op a b else if op = 22 then rshift op a b else if op = 23 then cmp op a b else if op = 24 then cmp op a b else if op = 25 then cmp op a b
  else if op = 28 then min a b else if op = 29 then max a b else 0
theorem risTwo_no {op : Int} (h : (!risTwo op) = true) : op < 11 ∨ op = 16 ∨ op = 20 ∨ op = 26 ∨ op = 27 ∨ 29 < op := by
  simp only [risTwo, Bool.not_eq_true', decide_eq_false_iff_not] at h; omega
theorem rtwo_none1 {op : Int} (a b : Int) (h : (!risTwo op) = true) : (0 : Int) = rtwo op a b := by
  have h := risTwo_no h
  unfold rtwo
  repeat rw [if_neg (by omega)]
theorem rtwo_none2 {op : Int} (b : Int) (h : (!risTwo op) = true) : false = isTwo op b := by
  have h := risTwo_no h
  unfold isTwo
  repeat rw [if_neg (by omega)]
theorem rtwo_max {op : Int} (h : (!risTwo op) = false) (h1 : (op == 11) = false) (h2 : (op == 12) = false) (h3 : (op == 13) = false) (h4 : (op == 14) = false) (h5 : (op == 15) = false) (h6 : (op == 17) = false) (h7 : (op == 18) = false) (h8 : (op == 19) = false)
    (h9 : (op == 21) = false) (h10 : (op == 22) = false) (h11 : (op == 23) = false) (h12 : (op == 24) = false) (h13 : (op == 25) = false) (h14 : (op == 28) = false) : op = 29 := by
  simp only [beq_eq_false_iff_ne] at *
  simp only [risTwo, Bool.not_eq_false', decide_eq_true_eq] at h
  omega
theorem w0 : wrap64 0 = 0 := by unfold wrap64; omega
theorem u0 : IntKind.u64.wrap 0 = 0 := by rw [IntKind.wrap_u64]; omega
end Cn
end Go.Proofs.YtkjpmkopnkkbmaaGreatDoor

/- What a trace does, in plain words: values, instructions, exits. No program in sight. -/
set_option maxRecDepth 100000
namespace Go.Proofs.YtkjpmkopnkkbmaaGreatDoor
open Go.RowKit

structure StV where
  ip : Int
  handler : Int
  stack : List Int
  back : List Int
  mem : List Int
  out : ByteArray
  inp : ByteArray
  read : Int
  status : Int
  code : Int
def dg : Nat → Nat → List UInt8 → List UInt8
  | 0, _, out => out
  | f + 1, n, out => if n = 0 ∧ out ≠ [] then out else dg f (n / 10) (UInt8.ofNat (48 + n % 10) :: out)
theorem dg_zero : ∀ (f : Nat) (out : List UInt8), out ≠ [] → dg f 0 out = out
  | 0, _, _ => rfl
  | f + 1, out, h => by unfold dg; rw [if_pos ⟨rfl, h⟩]
theorem dg_len : ∀ (f n : Nat) (out : List UInt8), (dg f n out).length ≤ out.length + f
  | 0, _, _ => Nat.le_refl _
  | f + 1, n, out => by
    unfold dg; split
    · omega
    · have := dg_len f (n / 10) (UInt8.ofNat (48 + n % 10) :: out); rw [List.length_cons] at this; omega
def absN (v : Int) : Nat := if v < 0 then (IntKind.wrap .u64 (0 - IntKind.wrap .u64 v)).toNat else (IntKind.wrap .u64 v).toNat
def putV (v : Int) : ByteArray := if v < 0 then bs [45] ++ bs (dg 20 (absN v) []) else bs (dg 20 (absN v) [])
def byteC (v : Int) : UInt8 := UInt8.ofNat (IntKind.wrap .u8 v).toNat
def getI (l : List Int) (i : Int) : Int := l.getD i.toNat 0
structure En where
  s : StV
  regs : List Int
  hit : Int
def valV (ats : List Int) (p : Int) (e : En) : Int := getI e.regs (getI ats p)
def setV (ats : List Int) (p v : Int) (e : En) : En := { e with regs := e.regs.set (getI ats p).toNat v }
def Keeps (e e' : En) : Prop := e'.regs.length = e.regs.length ∧ e'.s.stack = e.s.stack ∧ e'.s.back = e.s.back ∧ e'.s.inp = e.s.inp ∧ e'.s.mem.length = e.s.mem.length
theorem Keeps.refl (e : En) : Keeps e e := ⟨rfl, rfl, rfl, rfl, rfl⟩
end Go.Proofs.YtkjpmkopnkkbmaaGreatDoor

/- The plain laws of the package cell: what the statements ask of the numbers. No program is in sight here. -/
namespace Go.Proofs.YtkjpmkopnkkbmaaGreatDoor
open Go.RowKit
namespace Cn
def In (a : Int) : Prop := -9223372036854775808 ≤ a ∧ a ≤ 9223372036854775807

theorem in_w (n : Int) : In (wrap64 n) := by unfold In wrap64; omega

theorem tmod_sign {a b : Int} : (0 ≤ a → 0 ≤ a.tmod b) ∧ (a ≤ 0 → a.tmod b ≤ 0) := by
  refine ⟨fun h => Int.tmod_nonneg b h, fun h => ?_⟩
  have := Int.tmod_nonneg (a := -a) b (by omega)
  rw [Int.neg_tmod] at this; omega
theorem split_eq (a b : Int) : a.tdiv b * b + a.tmod b = a := by
  have := Int.mul_tdiv_add_tmod a b
  rw [Int.mul_comm]; omega

theorem rr_eq {a b : Int} (ha : In a) : rr a b = a.tmod b := by
  have hs := split_eq a b
  have hm : In (a.tmod b) := by
    have hg := @tmod_sign a b
    have : (a.tmod b).natAbs ≤ a.natAbs := by rw [Int.natAbs_tmod]; exact Nat.mod_le _ _
    unfold In at *; omega
  unfold rr
  generalize a.tdiv b = q at *
  generalize a.tmod b = r at *
  unfold In at *
  have e : wrap64 (wrap64 q * b) = wrap64 (q * b) := by
    unfold wrap64
    have : (q + 9223372036854775808) % 18446744073709551616 = q + 9223372036854775808 - 18446744073709551616 * ((q + 9223372036854775808) / 18446744073709551616) := by omega
    rw [this, show (q + 9223372036854775808 - 18446744073709551616 * ((q + 9223372036854775808) / 18446744073709551616) - 9223372036854775808) * b = q * b + (18446744073709551616 * (-((q + 9223372036854775808) / 18446744073709551616) * b)) from by
      rw [show q + 9223372036854775808 - 18446744073709551616 * ((q + 9223372036854775808) / 18446744073709551616) - 9223372036854775808 = q + 18446744073709551616 * (-((q + 9223372036854775808) / 18446744073709551616)) from by omega, Int.add_mul, Int.mul_assoc]]
    omega
  rw [e]
  unfold wrap64
  omega
theorem rtwo_two {op a b : Int} (ha : In a) : rtwo op a b = two op a b := by
  have hq : b ≠ 0 → rquo a b = quo a b ∧ rrem a b = rem a b := by
    intro h0
    have hr := rr_eq (b := b) ha
    have ho : rodd a b ↔ odd a b := by unfold rodd odd; rw [hr]
    unfold rquo rrem quo rem
    rw [if_neg h0, if_neg h0]
    by_cases h1 : b = -1
    · subst h1
      have h2 : a.tmod (-1) = 0 := by simp
      have h3 : ¬ odd a (-1) := by unfold odd; rw [h2]; simp
      rw [if_pos rfl, if_pos rfl, if_neg (fun h => h3 (ho.1 h)), if_neg (fun h => h3 (ho.1 h)), hr, h2]
      simp
    · rw [if_neg h1, if_neg h1, hr]
      by_cases h3 : odd a b
      · rw [if_pos h3, if_pos h3, if_pos (ho.2 h3), if_pos (ho.2 h3)]; exact ⟨rfl, rfl⟩
      · rw [if_neg h3, if_neg h3, if_neg (fun h => h3 (ho.1 h)), if_neg (fun h => h3 (ho.1 h))]; exact ⟨rfl, rfl⟩
  have hz : quo a 0 = 0 ∧ rem a 0 = 0 := ⟨rfl, rfl⟩
  have hw : ∀ n : Int, wrap64 (IntKind.u64.wrap n) = wrap64 n := by intro n; rw [IntKind.wrap_u64]; unfold wrap64; omega
  have hsh : rshift op a b = shift op a b := by
    unfold rshift shift
    rw [hw]
    by_cases h : b < 0 ∨ 63 < b
    · have h' : b < 0 ∨ 64 ≤ b := by omega
      rw [if_pos h, if_pos h']
    · have h' : ¬ (b < 0 ∨ 64 ≤ b) := by omega
      rw [if_neg h, if_neg h']
  unfold rtwo two
  rw [hsh]
  by_cases h0 : b = 0
  · subst h0; simp [hz]
  · simp [h0, hq h0]
end Cn
end Go.Proofs.YtkjpmkopnkkbmaaGreatDoor

/- Numbers of 64 bits, bit by bit: the plain laws that the statements of chapter 1 ask. No program is in sight here. -/
namespace Go.Proofs.YtkjpmkopnkkbmaaGreatDoor
open Go.RowKit
namespace Cn

def B (a : Int) : BitVec 64 := BitVec.ofInt 64 a
theorem wrap_toNat (r : BitVec 64) : IntKind.i64.wrap (r.toNat : Int) = r.toInt := by
  rw [IntKind.wrap_i64, BitVec.toInt_eq_toNat_cond]
  have := r.isLt
  split <;> omega
theorem bits_and (a b : Int) : bits .and .i64 a b = (B a &&& B b).toInt := wrap_toNat _
theorem bits_or (a b : Int) : bits .or .i64 a b = (B a ||| B b).toInt := wrap_toNat _
theorem bits_xor (a b : Int) : bits .xor .i64 a b = (B a ^^^ B b).toInt := wrap_toNat _
theorem B_w (a : Int) : (B a).toInt = wrap64 a := by
  unfold B
  rw [BitVec.toInt_ofInt, Int.bmod_def]; unfold wrap64; omega
theorem w_B {a : Int} {x : BitVec 64} (h : B a = x) : wrap64 a = x.toInt := by rw [← h, B_w]
theorem B_add (a b : Int) : B (a + b) = B a + B b := BitVec.ofInt_add a b
theorem B_neg (a : Int) : B (-a) = - B a := BitVec.ofInt_neg
theorem B_sub (a b : Int) : B (a - b) = B a - B b := by
  rw [Int.sub_eq_add_neg, B_add, B_neg, BitVec.sub_eq_add_neg]

theorem part (x y : BitVec 64) : x = (x &&& ~~~y) + (x &&& y) := by
  rw [BitVec.add_eq_or_of_and_eq_zero _ _ (by ext i; simp; grind)]
  ext i; simp; grind
theorem not_law {a : Int} : bits .xor .i64 (-1) a = wrap64 (-1 - a) := by
  rw [bits_xor]
  refine (w_B ?_).symm
  rw [B_sub]
  have h1 : B (-1) = BitVec.allOnes 64 := by decide
  rw [h1, BitVec.allOnes_sub_eq_not, BitVec.allOnes_xor]

end Cn
end Go.Proofs.YtkjpmkopnkkbmaaGreatDoor

/- Which traces may be, in plain words. No program in sight. -/
set_option maxRecDepth 100000
namespace Go.Proofs.YtkjpmkopnkkbmaaGreatDoor
open Go.RowKit

theorem isOne_eq (op : Int) : Cn.isOne op = Cn.risOne op := by
  unfold Cn.isOne Cn.risOne
  rw [Bool.eq_iff_iff]; simp
theorem risOne_not {op : Int} (h : Cn.risTwo op = true) : Cn.isOne op = false := by
  rw [isOne_eq]; unfold Cn.risTwo at h; unfold Cn.risOne
  have h := of_decide_eq_true h
  apply decide_eq_false; omega
end Go.Proofs.YtkjpmkopnkkbmaaGreatDoor

/- An instruction by what it names: its outcome, out of the values alone. No program in sight. -/
set_option maxRecDepth 100000
namespace Go.Proofs.YtkjpmkopnkkbmaaGreatDoor
open Go.RowKit

/-! ### Places that are registers -/
end Go.Proofs.YtkjpmkopnkkbmaaGreatDoor

/- All numbers of a run fit 64 bits. No program in sight. -/
set_option maxRecDepth 100000
namespace Go.Proofs.YtkjpmkopnkkbmaaGreatDoor
open Go.RowKit

theorem in0' : Cn.In 0 := by unfold Cn.In; omega
theorem in_bv (x : BitVec 64) : Cn.In x.toInt := by
  unfold Cn.In
  have h1 := x.toInt_lt
  have h2 := x.le_toInt
  omega
theorem in_flag (b : Bool) : Cn.In (Cn.flag b) := by unfold Cn.flag Cn.In; split <;> omega
theorem in_cmp (op a b : Int) : Cn.In (Cn.cmp op a b) := by
  unfold Cn.cmp; split
  · exact in_flag _
  · split <;> exact in_flag _
theorem in_shift (op a b : Int) : Cn.In (Cn.shift op a b) := by
  unfold Cn.shift; split
  · exact in0'
  · split <;> exact Cn.in_w _
theorem in_quo (a b : Int) : Cn.In (Cn.quo a b) := by
  unfold Cn.quo; split
  · exact in0'
  · split
    · exact Cn.in_w _
    · split <;> exact Cn.in_w _
theorem in_rem {a : Int} (ha : Cn.In a) (b : Int) : Cn.In (Cn.rem a b) := by
  unfold Cn.rem; split
  · exact in0'
  · split
    · exact in0'
    · split
      · exact Cn.in_w _
      · have h := Cn.tmod_sign (a := a) (b := b)
        have h2 := Cn.split_eq a b
        unfold Cn.In at *
        have h3 : (a.tmod b).natAbs ≤ a.natAbs := by rw [Int.natAbs_tmod]; exact Nat.mod_le _ _
        omega
theorem in_two {op a b : Int} (ha : Cn.In a) (hb : Cn.In b) : Cn.In (Cn.two op a b) := by
  unfold Cn.two
  by_cases e11 : op = 11
  · rw [if_pos e11]; exact Cn.in_w _
  rw [if_neg e11]
  by_cases e12 : op = 12
  · rw [if_pos e12]; exact Cn.in_w _
  rw [if_neg e12]
  by_cases e13 : op = 13
  · rw [if_pos e13]; exact Cn.in_w _
  rw [if_neg e13]
  by_cases e14 : op = 14
  · rw [if_pos e14]; exact in_quo _ _
  rw [if_neg e14]
  by_cases e15 : op = 15
  · rw [if_pos e15]; exact in_rem ha _
  rw [if_neg e15]
  by_cases e17 : op = 17
  · rw [if_pos e17]; rw [Cn.bits_and]; exact in_bv _
  rw [if_neg e17]
  by_cases e18 : op = 18
  · rw [if_pos e18]; rw [Cn.bits_or]; exact in_bv _
  rw [if_neg e18]
  by_cases e19 : op = 19
  · rw [if_pos e19]; rw [Cn.bits_xor]; exact in_bv _
  rw [if_neg e19]
  by_cases e21 : op = 21
  · rw [if_pos e21]; exact in_shift _ _ _
  rw [if_neg e21]
  by_cases e22 : op = 22
  · rw [if_pos e22]; exact in_shift _ _ _
  rw [if_neg e22]
  by_cases e23 : op = 23
  · rw [if_pos e23]; exact in_cmp _ _ _
  rw [if_neg e23]
  by_cases e24 : op = 24
  · rw [if_pos e24]; exact in_cmp _ _ _
  rw [if_neg e24]
  by_cases e25 : op = 25
  · rw [if_pos e25]; exact in_cmp _ _ _
  rw [if_neg e25]
  by_cases e28 : op = 28
  · rw [if_pos e28]; unfold Cn.In at *; omega
  rw [if_neg e28]
  by_cases e29 : op = 29
  · rw [if_pos e29]; unfold Cn.In at *; omega
  rw [if_neg e29]
  exact in0'
theorem in_one (op a : Int) : Cn.In (Cn.one op a) := by
  unfold Cn.one
  by_cases e16 : op = 16
  · rw [if_pos e16]; exact Cn.in_w _
  rw [if_neg e16]
  by_cases e20 : op = 20
  · rw [if_pos e20]; rw [Cn.bits_xor]; exact in_bv _
  rw [if_neg e20]
  by_cases e26 : op = 26
  · rw [if_pos e26]; exact in_flag _
  rw [if_neg e26]
  by_cases e27 : op = 27
  · rw [if_pos e27]; exact in_flag _
  rw [if_neg e27]
  exact in0'
theorem rone_one (op a : Int) : Cn.rone op a = Cn.one op a := by
  unfold Cn.rone Cn.one; rw [Cn.not_law]
def InL (l : List Int) : Prop := ∀ x ∈ l, Cn.In x
theorem InL.get {l : List Int} (h : InL l) (i : Int) : Cn.In (getI l i) := by
  unfold getI
  rw [List.getD_eq_getElem?_getD]
  cases hx : l[i.toNat]? with
  | none => exact in0'
  | some x => exact h x (List.mem_of_getElem? hx)
theorem InL.set {l : List Int} (h : InL l) (i : Nat) {x : Int} (hx : Cn.In x) : InL (l.set i x) := fun y hy => by
  rcases List.mem_or_eq_of_mem_set hy with h' | h'
  · exact h y h'
  · rw [h']; exact hx
structure EnIn (e : En) : Prop where
  regs : InL e.regs
  mem : InL e.s.mem
  st : InL e.s.stack
  bk : InL e.s.back
theorem EnIn.set {e : En} (h : EnIn e) (ats : List Int) (p : Int) {v : Int} (hv : Cn.In v) : EnIn (setV ats p v e) := ⟨h.regs.set _ hv, h.mem, h.st, h.bk⟩
theorem EnIn.val {e : En} (h : EnIn e) (ats : List Int) (p : Int) : Cn.In (valV ats p e) := h.regs.get _
end Go.Proofs.YtkjpmkopnkkbmaaGreatDoor
