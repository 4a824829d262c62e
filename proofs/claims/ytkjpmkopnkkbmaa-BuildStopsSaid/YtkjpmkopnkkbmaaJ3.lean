/- Plain numbers, plain traces: what a trace does, which may be. No program in sight. -/
import Derived.WalkKit
import Derived.Test.YtkjpmkopnkkbmaaJ1

/- The plain numbers of the package cell: what each function computes, in plain Lean, and the laws that the statements ask of them. No program is in sight here. -/
namespace Go.Proofs.Ytkjpmkopnkkbmaa
open Go.RowKit

namespace Cn
/-- Flag. -/
def flag (b : Bool) : Int := if b then -1 else 0
/-- Does the rest have the wrong sign? -/
def odd (a b : Int) : Prop := a.tmod b ≠ 0 ∧ ¬ (a.tmod b < 0 ↔ b < 0)
instance (a b : Int) : Decidable (odd a b) := by unfold odd; infer_instance
/-- Floor: the quotient, rounded down. -/
def quo (a b : Int) : Int := if b = 0 then 0 else if b = -1 then wrap64 (-a) else if odd a b then wrap64 (wrap64 (a.tdiv b) - 1) else wrap64 (a.tdiv b)
/-- Floor: the rest. -/
def rem (a b : Int) : Int := if b = 0 then 0 else if b = -1 then 0 else if odd a b then wrap64 (a.tmod b + b) else a.tmod b
/-- shift: to the left, or to the right; zeros come in. -/
def shift (op a n : Int) : Int := if n < 0 ∨ 64 ≤ n then 0 else if op = 21 then wrap64 (a * 2 ^ n.toNat) else wrap64 (IntKind.u64.wrap a / 2 ^ n.toNat)
/-- compare. -/
def cmp (op a b : Int) : Int := if op = 23 then flag (a == b) else if op = 24 then flag (decide (a < b)) else flag (decide (IntKind.u64.wrap a < IntKind.u64.wrap b))
/-- Two. -/
def two (op a b : Int) : Int :=
  if op = 11 then wrap64 (a + b) else if op = 12 then wrap64 (a - b) else if op = 13 then wrap64 (a * b) else if op = 14 then quo a b else if op = 15 then rem a b
  else if op = 17 then bits .and .i64 a b else if op = 18 then bits .or .i64 a b else if op = 19 then bits .xor .i64 a b
  else if op = 21 then shift op a b else if op = 22 then shift op a b else if op = 23 then cmp op a b else if op = 24 then cmp op a b else if op = 25 then cmp op a b
  else if op = 28 then min a b else if op = 29 then max a b else 0
def isTwo (op b : Int) : Bool :=
  if op = 11 then true else if op = 12 then true else if op = 13 then true else if op = 14 then b != 0 else if op = 15 then b != 0
  else if op = 17 then true else if op = 18 then true else if op = 19 then true else if op = 21 then true else if op = 22 then true
  else if op = 23 then true else if op = 24 then true else if op = 25 then true else if op = 28 then true else if op = 29 then true else false
/-- One. -/
def one (op a : Int) : Int := if op = 16 then wrap64 (-a) else if op = 20 then bits .xor .i64 (-1) a else if op = 26 then flag (a == 0) else if op = 27 then flag (decide (a < 0)) else 0
def isOne (op : Int) : Bool := if op = 16 then true else if op = 20 then true else if op = 26 then true else if op = 27 then true else false
/-- Crosses. -/
def crosses (x n : Int) : Bool := decide (bits .and .i64 (bits .xor .i64 x (wrap64 (x + n))) (bits .xor .i64 x n) < 0)
/-- The document's own. -/
def rone (op a : Int) : Int := if op = 16 then wrap64 (-a) else if op = 20 then wrap64 (-1 - a) else if op = 26 then flag (a == 0) else if op = 27 then flag (decide (a < 0)) else 0
def risTwo (op : Int) : Bool := decide ((11 ≤ op ∧ op ≤ 15) ∨ (17 ≤ op ∧ op ≤ 19) ∨ (21 ≤ op ∧ op ≤ 25) ∨ op = 28 ∨ op = 29)
def risOne (op : Int) : Bool := decide (op = 16 ∨ op = 20 ∨ op = 26 ∨ op = 27)
def rr (a b : Int) : Int := wrap64 (a - wrap64 (wrap64 (a.tdiv b) * b))
def rodd (a b : Int) : Prop := rr a b ≠ 0 ∧ ¬ (rr a b < 0 ↔ b < 0)
instance (a b : Int) : Decidable (rodd a b) := by unfold rodd; infer_instance
def rquo (a b : Int) : Int := if rodd a b then wrap64 (wrap64 (a.tdiv b) - 1) else wrap64 (a.tdiv b)
def rrem (a b : Int) : Int := if rodd a b then wrap64 (rr a b + b) else rr a b
def rshift (op a n : Int) : Int := if n < 0 ∨ 63 < n then 0 else if op = 21 then wrap64 (IntKind.u64.wrap (a * 2 ^ n.toNat)) else wrap64 (IntKind.u64.wrap a / 2 ^ n.toNat)
def rtwo (op a b : Int) : Int :=
  if op = 11 then wrap64 (a + b) else if op = 12 then wrap64 (a - b) else if op = 13 then wrap64 (a * b) else if op = 14 then if b = 0 then 0 else rquo a b else if op = 15 then if b = 0 then 0 else rrem a b
  else if op = 17 then bits .and .i64 a b else if op = 18 then bits .or .i64 a b else if op = 19 then bits .xor .i64 a b
  else if op = 21 then rshift op a b else if op = 22 then rshift op a b else if op = 23 then cmp op a b else if op = 24 then cmp op a b else if op = 25 then cmp op a b
  else if op = 28 then min a b else if op = 29 then max a b else 0
theorem risTwo_no {op : Int} (h : (!risTwo op) = true) : op < 11 ∨ op = 16 ∨ op = 20 ∨ op = 26 ∨ op = 27 ∨ 29 < op := by
  simp only [risTwo, Bool.not_eq_true', decide_eq_false_iff_not] at h; omega
theorem rtwo_none1 {op : Int} (a b : Int) (h : (!risTwo op) = true) : (0 : Int) = rtwo op a b := by
  have h := risTwo_no h
  unfold rtwo
  repeat rw [if_neg (by omega)]
theorem rtwo_none2 {op : Int} (b : Int) (h : (!risTwo op) = true) : false = isTwo op b := by
  have h := risTwo_no h
  unfold isTwo
  repeat rw [if_neg (by omega)]
theorem rtwo_max {op : Int} (h : (!risTwo op) = false) (h1 : (op == 11) = false) (h2 : (op == 12) = false) (h3 : (op == 13) = false) (h4 : (op == 14) = false) (h5 : (op == 15) = false) (h6 : (op == 17) = false) (h7 : (op == 18) = false) (h8 : (op == 19) = false)
    (h9 : (op == 21) = false) (h10 : (op == 22) = false) (h11 : (op == 23) = false) (h12 : (op == 24) = false) (h13 : (op == 25) = false) (h14 : (op == 28) = false) : op = 29 := by
  simp only [beq_eq_false_iff_ne] at *
  simp only [risTwo, Bool.not_eq_false', decide_eq_true_eq] at h
  omega
theorem w0 : wrap64 0 = 0 := by unfold wrap64; omega
theorem u0 : IntKind.u64.wrap 0 = 0 := by rw [IntKind.wrap_u64]; omega
end Cn
end Go.Proofs.Ytkjpmkopnkkbmaa

/- What a trace does, in plain words: values, instructions, exits. No program in sight. -/
set_option maxRecDepth 100000
namespace Go.Proofs.Ytkjpmkopnkkbmaa
open Go.RowKit

structure In5 where
  a : Int
  b : Int
  c : Int
  d : Int
  e : Int
structure OuV where
  ip : Int
  steps : Int
  stack : List Int
  back : List Int
structure TrG where
  start : Int
  slots : Int
  backs : Int
  grow : Int
  growBack : Int
  ins : List In5
  outs : List OuV
  last : Int
  cells : List Int
structure StV where
  ip : Int
  handler : Int
  stack : List Int
  back : List Int
  mem : List Int
  out : ByteArray
  inp : ByteArray
  read : Int
  status : Int
  code : Int
/-- The digits of a number, ahead of some that are there. -/
def dg : Nat → Nat → List UInt8 → List UInt8
  | 0, _, out => out
  | f + 1, n, out => if n = 0 ∧ out ≠ [] then out else dg f (n / 10) (UInt8.ofNat (48 + n % 10) :: out)
theorem dg_zero : ∀ (f : Nat) (out : List UInt8), out ≠ [] → dg f 0 out = out
  | 0, _, _ => rfl
  | f + 1, out, h => by unfold dg; rw [if_pos ⟨rfl, h⟩]
theorem dg_len : ∀ (f n : Nat) (out : List UInt8), (dg f n out).length ≤ out.length + f
  | 0, _, _ => Nat.le_refl _
  | f + 1, n, out => by
    unfold dg; split
    · omega
    · have := dg_len f (n / 10) (UInt8.ofNat (48 + n % 10) :: out); rw [List.length_cons] at this; omega
/-- How large a number is, without its sign. -/
def absN (v : Int) : Nat := if v < 0 then (IntKind.wrap .u64 (0 - IntKind.wrap .u64 v)).toNat else (IntKind.wrap .u64 v).toNat
def putV (v : Int) : ByteArray := if v < 0 then bs [45] ++ bs (dg 20 (absN v) []) else bs (dg 20 (absN v) [])
def byteC (v : Int) : UInt8 := UInt8.ofNat (IntKind.wrap .u8 v).toNat
def sayV (op v : Int) : ByteArray := if op = 11 then putV v ++ bs [32] else bs [byteC v]
def getI (l : List Int) (i : Int) : Int := l.getD i.toNat 0
/-- A trace while it runs: the machine, the registers, the watched cell that was hit. -/
structure En where
  s : StV
  regs : List Int
  hit : Int
def valV (ats : List Int) (p : Int) (e : En) : Int := getI e.regs (getI ats p)
def setV (ats : List Int) (p v : Int) (e : En) : En := { e with regs := e.regs.set (getI ats p).toNat v }
/-- What it does to a cell of the memory. -/
def memV (ats wl : List Int) (place : Int) (i : In5) (e : En) : Int × En :=
  let a := valV ats i.c e
  if a < 0 ∨ (e.s.mem.length : Int) ≤ a then (i.e, e) else
  if i.a = 5 then (-1, setV ats place (getI e.s.mem a) e) else
  let e' : En := { e with s := { e.s with mem := e.s.mem.set a.toNat (valV ats i.d e) } }
  if a ∈ wl then (i.b, { e' with hit := a }) else (-1, e')
def calcV (ats : List Int) (place : Int) (i : In5) (e : En) : Int × En :=
  let b := valV ats i.c e
  if Cn.isOne i.b = true then (-1, setV ats place (Cn.one i.b b) e) else
  if Cn.isTwo i.b (valV ats i.d e) = true then (-1, setV ats place (Cn.two i.b b (valV ats i.d e)) e) else (i.e, e)
def tellV (ats : List Int) (i : In5) (e : En) : Int × En :=
  let t := sayV i.a (valV ats i.c e)
  if 2000 < (e.s.out.size : Int) + t.size then (i.e, e) else (-1, { e with s := { e.s with out := e.s.out ++ t } })
def askV (ats : List Int) (place : Int) (e : En) : Int × En :=
  if (e.s.inp.size : Int) ≤ e.s.read then (-1, setV ats place (-1) e) else
  (-1, setV ats place (sb e.s.inp e.s.read) { e with s := { e.s with read := e.s.read + 1 } })
def insV (ats wl : List Int) (place : Int) (i : In5) (e : En) : Int × En :=
  if i.a = 1 then (-1, setV ats place i.b e) else
  if i.a = 2 then (-1, setV ats place (getI e.s.stack ((e.s.stack.length : Int) - 1 - i.b)) e) else
  if i.a = 3 then (-1, setV ats place (getI e.s.back ((e.s.back.length : Int) - 1 - i.b)) e) else
  if i.a = 4 then calcV ats place i e else
  if i.a = 5 ∨ i.a = 6 then memV ats wl place i e else
  if i.a = 7 then (if valV ats i.c e ≠ 0 then -1 else i.e, e) else
  if i.a = 8 then (if valV ats i.c e = 0 then -1 else i.e, e) else
  if i.a = 9 then (if valV ats i.c e = valV ats i.d e then -1 else i.e, e) else
  if i.a = 10 ∨ i.a = 11 then tellV ats i e else askV ats place e
/-- All instructions from a place on: the exit, and what there is then. -/
def goV (ats wl : List Int) (last : Int) : List In5 → Int → En → Int × En
  | [], _, e => (last, e)
  | i :: r, place, e => if 0 ≤ (insV ats wl place i e).1 then insV ats wl place i e else goV ats wl last r (place + 1) (insV ats wl place i e).2
def valsV (ats : List Int) (l : List Int) (e : En) : List Int := l.map fun p => valV ats p e
def ou0 : OuV := ⟨0, 0, [], []⟩
def outAt (t : TrG) (x : Int) : OuV := t.outs.getD x.toNat ou0
/-- The machine behind an exit. -/
def leaveV (t : TrG) (ats : List Int) (x : Int) (e : En) : StV :=
  { e.s with ip := (outAt t x).ip, stack := e.s.stack.take (e.s.stack.length - t.slots.toNat) ++ valsV ats (outAt t x).stack e, back := e.s.back.take (e.s.back.length - t.backs.toNat) ++ valsV ats (outAt t x).back e }
def mayV (t : TrG) (s : StV) : Bool := decide (s.status = 0 ∧ s.ip = t.start ∧ t.slots ≤ s.stack.length ∧ (s.stack.length : Int) + t.grow ≤ 48 ∧ t.backs ≤ s.back.length ∧ (s.back.length : Int) + t.growBack ≤ 48)
/-- Places may be looked at. -/
def InsOk (n ns nb : Nat) (place : Int) (i : In5) : Prop :=
  (0 ≤ place ∧ place < n) ∧ (i.a = 2 → 0 ≤ i.b ∧ i.b < ns) ∧ (i.a = 3 → 0 ≤ i.b ∧ i.b < nb) ∧ (4 ≤ i.a ∧ i.a ≤ 11 → 0 ≤ i.c ∧ i.c < n) ∧ ((i.a = 4 ∧ Cn.isOne i.b = false) ∨ i.a = 6 ∨ i.a = 9 → 0 ≤ i.d ∧ i.d < n)
/-- Every place has a register. -/
def AtOk (ats : List Int) (m : Nat) : Prop := ∀ q : Nat, q < ats.length → 0 ≤ ats.getD q 0 ∧ ats.getD q 0 < m
theorem setV_regs (ats : List Int) (p v : Int) (e : En) : (setV ats p v e).regs.length = e.regs.length := by unfold setV; simp
def Keeps (e e' : En) : Prop := e'.regs.length = e.regs.length ∧ e'.s.stack = e.s.stack ∧ e'.s.back = e.s.back ∧ e'.s.inp = e.s.inp ∧ e'.s.mem.length = e.s.mem.length
theorem Keeps.refl (e : En) : Keeps e e := ⟨rfl, rfl, rfl, rfl, rfl⟩
theorem setV_keeps (ats : List Int) (p v : Int) (e : En) : Keeps e (setV ats p v e) := ⟨by unfold setV; simp, rfl, rfl, rfl, rfl⟩
theorem calcV_keeps (ats : List Int) (place : Int) (i : In5) (e : En) : Keeps e (calcV ats place i e).2 := by
  unfold calcV; dsimp only; split
  · exact setV_keeps _ _ _ _
  · split
    · exact setV_keeps _ _ _ _
    · exact Keeps.refl _
theorem memV_keeps (ats wl : List Int) (place : Int) (i : In5) (e : En) : Keeps e (memV ats wl place i e).2 := by
  unfold memV; dsimp only; split
  · exact Keeps.refl _
  · split
    · exact setV_keeps _ _ _ _
    · split <;> exact ⟨rfl, rfl, rfl, rfl, by simp⟩
theorem tellV_keeps (ats : List Int) (i : In5) (e : En) : Keeps e (tellV ats i e).2 := by
  unfold tellV; dsimp only; split
  · exact Keeps.refl _
  · exact ⟨rfl, rfl, rfl, rfl, rfl⟩
theorem askV_keeps (ats : List Int) (place : Int) (e : En) : Keeps e (askV ats place e).2 := by
  unfold askV; split
  · exact setV_keeps _ _ _ _
  · exact ⟨by unfold setV; simp, rfl, rfl, rfl, rfl⟩
theorem insV_keeps (ats wl : List Int) (place : Int) (i : In5) (e : En) : Keeps e (insV ats wl place i e).2 := by
  unfold insV
  repeat' split
  all_goals first | exact setV_keeps _ _ _ _ | exact calcV_keeps _ _ _ _ | exact memV_keeps _ _ _ _ _ | exact tellV_keeps _ _ _ | exact askV_keeps _ _ _ | exact Keeps.refl _
end Go.Proofs.Ytkjpmkopnkkbmaa

/- The plain laws of the package cell: what the statements ask of the numbers. No program is in sight here. -/
namespace Go.Proofs.Ytkjpmkopnkkbmaa
open Go.RowKit
namespace Cn
/-- A number of 64 bits. -/
def In (a : Int) : Prop := -9223372036854775808 ≤ a ∧ a ≤ 9223372036854775807

theorem w_in {n : Int} (h : In n) : wrap64 n = n := by unfold In at h; unfold wrap64; omega
theorem in_w (n : Int) : In (wrap64 n) := by unfold In wrap64; omega

theorem tdiv_in {a b : Int} (ha : In a) (hb0 : b ≠ 0) (hb1 : b ≠ -1) : In (a.tdiv b) := by
  unfold In at *
  have h1 : (a.tdiv b).natAbs = a.natAbs / b.natAbs := Int.natAbs_tdiv a b
  have h2 : a.natAbs / b.natAbs ≤ a.natAbs := Nat.div_le_self _ _
  by_cases hb : b = 1
  · subst hb; simp; omega
  · have h3 : a.natAbs / b.natAbs ≤ a.natAbs / 2 := Nat.div_le_div_left (by omega) (by omega)
    omega
theorem tmod_lt (a : Int) {b : Int} (hb0 : b ≠ 0) : (a.tmod b).natAbs < b.natAbs := by
  rw [Int.natAbs_tmod]; exact Nat.mod_lt _ (by omega)
theorem tmod_sign {a b : Int} : (0 ≤ a → 0 ≤ a.tmod b) ∧ (a ≤ 0 → a.tmod b ≤ 0) := by
  refine ⟨fun h => Int.tmod_nonneg b h, fun h => ?_⟩
  have := Int.tmod_nonneg (a := -a) b (by omega)
  rw [Int.neg_tmod] at this; omega
theorem split_eq (a b : Int) : a.tdiv b * b + a.tmod b = a := by
  have := Int.mul_tdiv_add_tmod a b
  rw [Int.mul_comm]; omega

theorem q_in {a b q r : Int} (ha : In a) (hb : In b) (_hb0 : b ≠ 0) (ht : In q) (hs : q * b + r = a) (ho : r ≠ 0 ∧ ¬(r < 0 ↔ b < 0)) (hm : r.natAbs < b.natAbs) : In (q - 1) := by
  unfold In at *
  refine ⟨?_, by omega⟩
  refine Classical.byContradiction fun hn => ?_
  obtain rfl : q = -9223372036854775808 := by omega
  omega

/-- Floor: the law of the quotient and the rest, where the divisor is neither 0 nor -1. -/
theorem floor_law {a b : Int} (ha : In a) (hb : In b) (hb0 : b ≠ 0) (hb1 : b ≠ -1) :
    quo a b * b + rem a b = a ∧ (b > 0 ∧ 0 ≤ rem a b ∧ rem a b < b ∨ b < 0 ∧ rem a b ≤ 0 ∧ b < rem a b) := by
  have ht := tdiv_in ha hb0 hb1
  have hs := split_eq a b
  have hm := tmod_lt a hb0
  have hg := @tmod_sign a b
  unfold quo rem
  rw [if_neg hb0, if_neg hb1, if_neg hb0, if_neg hb1, w_in ht]
  by_cases ho : odd a b
  · rw [if_pos ho, if_pos ho]
    unfold odd at ho
    rw [w_in (q_in ha hb hb0 ht hs ho hm)]
    generalize a.tdiv b = q at *
    generalize a.tmod b = r at *
    rw [w_in (n := r + b) (by unfold In at *; omega), Int.sub_mul]
    refine ⟨by omega, ?_⟩
    omega
  · rw [if_neg ho, if_neg ho]
    unfold odd at ho
    refine ⟨hs, ?_⟩
    generalize a.tdiv b = q at *
    generalize a.tmod b = r at *
    omega
theorem rr_eq {a b : Int} (ha : In a) : rr a b = a.tmod b := by
  have hs := split_eq a b
  have hm : In (a.tmod b) := by
    have hg := @tmod_sign a b
    have : (a.tmod b).natAbs ≤ a.natAbs := by rw [Int.natAbs_tmod]; exact Nat.mod_le _ _
    unfold In at *; omega
  unfold rr
  generalize a.tdiv b = q at *
  generalize a.tmod b = r at *
  unfold In at *
  have e : wrap64 (wrap64 q * b) = wrap64 (q * b) := by
    unfold wrap64
    have : (q + 9223372036854775808) % 18446744073709551616 = q + 9223372036854775808 - 18446744073709551616 * ((q + 9223372036854775808) / 18446744073709551616) := by omega
    rw [this, show (q + 9223372036854775808 - 18446744073709551616 * ((q + 9223372036854775808) / 18446744073709551616) - 9223372036854775808) * b = q * b + (18446744073709551616 * (-((q + 9223372036854775808) / 18446744073709551616) * b)) from by
      rw [show q + 9223372036854775808 - 18446744073709551616 * ((q + 9223372036854775808) / 18446744073709551616) - 9223372036854775808 = q + 18446744073709551616 * (-((q + 9223372036854775808) / 18446744073709551616)) from by omega, Int.add_mul, Int.mul_assoc]]
    omega
  rw [e]
  unfold wrap64
  omega
theorem rtwo_two {op a b : Int} (ha : In a) : rtwo op a b = two op a b := by
  have hq : b ≠ 0 → rquo a b = quo a b ∧ rrem a b = rem a b := by
    intro h0
    have hr := rr_eq (b := b) ha
    have ho : rodd a b ↔ odd a b := by unfold rodd odd; rw [hr]
    unfold rquo rrem quo rem
    rw [if_neg h0, if_neg h0]
    by_cases h1 : b = -1
    · subst h1
      have h2 : a.tmod (-1) = 0 := by simp
      have h3 : ¬ odd a (-1) := by unfold odd; rw [h2]; simp
      rw [if_pos rfl, if_pos rfl, if_neg (fun h => h3 (ho.1 h)), if_neg (fun h => h3 (ho.1 h)), hr, h2]
      simp
    · rw [if_neg h1, if_neg h1, hr]
      by_cases h3 : odd a b
      · rw [if_pos h3, if_pos h3, if_pos (ho.2 h3), if_pos (ho.2 h3)]; exact ⟨rfl, rfl⟩
      · rw [if_neg h3, if_neg h3, if_neg (fun h => h3 (ho.1 h)), if_neg (fun h => h3 (ho.1 h))]; exact ⟨rfl, rfl⟩
  have hz : quo a 0 = 0 ∧ rem a 0 = 0 := ⟨rfl, rfl⟩
  have hw : ∀ n : Int, wrap64 (IntKind.u64.wrap n) = wrap64 n := by intro n; rw [IntKind.wrap_u64]; unfold wrap64; omega
  have hsh : rshift op a b = shift op a b := by
    unfold rshift shift
    rw [hw]
    by_cases h : b < 0 ∨ 63 < b
    · have h' : b < 0 ∨ 64 ≤ b := by omega
      rw [if_pos h, if_pos h']
    · have h' : ¬ (b < 0 ∨ 64 ≤ b) := by omega
      rw [if_neg h, if_neg h']
  unfold rtwo two
  rw [hsh]
  by_cases h0 : b = 0
  · subst h0; simp [hz]
  · simp [h0, hq h0]
theorem w_add (x y : Int) : wrap64 (wrap64 x + y) = wrap64 (x + y) := by unfold wrap64; omega
theorem w_neg (x : Int) : wrap64 (wrap64 (-x) * -1) = wrap64 x := by unfold wrap64; omega
theorem w_sub (x y : Int) : wrap64 (x - wrap64 y) = wrap64 (x - y) := by unfold wrap64; omega
/-- CellFloors: the quotient times the divisor, and the rest, are the number. -/
theorem floor_back {a b : Int} (ha : In a) (hb : In b) (hb0 : b ≠ 0) : wrap64 (wrap64 (quo a b * b) + rem a b) = a := by
  by_cases h1 : b = -1
  · subst h1
    show wrap64 (wrap64 (wrap64 (-a) * -1) + 0) = a
    rw [w_neg, Int.add_zero, w_in (in_w _), w_in ha]
  · rw [w_add, (floor_law ha hb hb0 h1).1, w_in ha]
theorem floor_rest {a b : Int} (ha : In a) (hb : In b) (hb0 : b ≠ 0) : b > 0 ∧ 0 ≤ rem a b ∧ rem a b < b ∨ b < 0 ∧ rem a b ≤ 0 ∧ b < rem a b := by
  by_cases h1 : b = -1
  · subst h1
    exact Or.inr ⟨by omega, Int.le_refl _, by show (-1 : Int) < 0; omega⟩
  · exact (floor_law ha hb hb0 h1).2
end Cn
end Go.Proofs.Ytkjpmkopnkkbmaa

/- Numbers of 64 bits, bit by bit: the plain laws that the statements of chapter 1 ask. No program is in sight here. -/
namespace Go.Proofs.Ytkjpmkopnkkbmaa
open Go.RowKit
namespace Cn

def B (a : Int) : BitVec 64 := BitVec.ofInt 64 a
theorem wrap_toNat (r : BitVec 64) : IntKind.i64.wrap (r.toNat : Int) = r.toInt := by
  rw [IntKind.wrap_i64, BitVec.toInt_eq_toNat_cond]
  have := r.isLt
  split <;> omega
theorem bits_and (a b : Int) : bits .and .i64 a b = (B a &&& B b).toInt := wrap_toNat _
theorem bits_or (a b : Int) : bits .or .i64 a b = (B a ||| B b).toInt := wrap_toNat _
theorem bits_xor (a b : Int) : bits .xor .i64 a b = (B a ^^^ B b).toInt := wrap_toNat _
theorem B_w (a : Int) : (B a).toInt = wrap64 a := by
  unfold B
  rw [BitVec.toInt_ofInt, Int.bmod_def]; unfold wrap64; omega
theorem B_toInt (x : BitVec 64) : B x.toInt = x := BitVec.ofInt_toInt
theorem w_B {a : Int} {x : BitVec 64} (h : B a = x) : wrap64 a = x.toInt := by rw [← h, B_w]
theorem B_add (a b : Int) : B (a + b) = B a + B b := BitVec.ofInt_add a b
theorem B_neg (a : Int) : B (-a) = - B a := BitVec.ofInt_neg
theorem B_sub (a b : Int) : B (a - b) = B a - B b := by
  rw [Int.sub_eq_add_neg, B_add, B_neg, BitVec.sub_eq_add_neg]

theorem part (x y : BitVec 64) : x = (x &&& ~~~y) + (x &&& y) := by
  rw [BitVec.add_eq_or_of_and_eq_zero _ _ (by ext i; simp; grind)]
  ext i; simp; grind
theorem xor_part (x y : BitVec 64) : x ^^^ y = (x &&& ~~~y) + (y &&& ~~~x) := by
  rw [BitVec.add_eq_or_of_and_eq_zero _ _ (by ext i; simp; grind)]
  ext i; simp; grind
theorem or_part (x y : BitVec 64) : x ||| y = (x ^^^ y) + (x &&& y) := by
  rw [BitVec.add_eq_or_of_and_eq_zero _ _ (by ext i; simp; grind)]
  ext i; simp; grind
theorem and_or_sum (x y : BitVec 64) : (x &&& y) + (x ||| y) = x + y := by
  have h1 := part x y
  have h2 := part y x
  rw [or_part, xor_part]
  have h3 : y &&& x = x &&& y := BitVec.and_comm _ _
  rw [h3] at h2
  generalize x &&& y = c at *
  generalize x &&& ~~~y = p at *
  generalize y &&& ~~~x = q at *
  rw [h1, h2]
  ac_rfl
theorem sum_law (a b : Int) : wrap64 (bits .and .i64 a b + bits .or .i64 a b) = wrap64 (a + b) := by
  rw [bits_and, bits_or]
  refine (w_B ?_).trans (w_B rfl).symm
  rw [B_add, B_add, B_toInt, B_toInt, and_or_sum]
theorem xor_law (a b : Int) : bits .xor .i64 a b = wrap64 (bits .or .i64 a b - bits .and .i64 a b) := by
  rw [bits_and, bits_or, bits_xor]
  refine (w_B ?_).symm
  rw [B_sub, B_toInt, B_toInt, or_part, BitVec.add_sub_cancel]
theorem not_law {a : Int} : bits .xor .i64 (-1) a = wrap64 (-1 - a) := by
  rw [bits_xor]
  refine (w_B ?_).symm
  rw [B_sub]
  have h1 : B (-1) = BitVec.allOnes 64 := by decide
  rw [h1, BitVec.allOnes_sub_eq_not, BitVec.allOnes_xor]

theorem neg_iff (x : BitVec 64) : x.toInt < 0 ↔ x.msb = true := by
  rw [BitVec.msb_eq_toInt]; simp
theorem msb_B {a : Int} (h : In a) : (B a).msb = decide (a < 0) := by
  rw [BitVec.msb_eq_toInt, B_w, w_in h]
/-- Crosses: by signs alone. -/
theorem crosses_eq {x n : Int} (hx : In x) (hn : In n) : crosses x n = (((decide (x < 0)) ^^ (decide (wrap64 (x + n) < 0))) && ((decide (x < 0)) ^^ (decide (n < 0)))) := by
  unfold crosses
  rw [bits_and, bits_xor, bits_xor, B_toInt, B_toInt, Bool.eq_iff_iff, decide_eq_true_iff, neg_iff, BitVec.msb_and, BitVec.msb_xor, BitVec.msb_xor, msb_B hx, msb_B hn, msb_B (in_w _)]
theorem crosses_one {i l : Int} (_hi : In i) (_hl : In l) : crosses (wrap64 (i - l)) 1 = (wrap64 (i + 1) == l) := by
  rw [crosses_eq (in_w _) (by unfold In; omega), Bool.eq_iff_iff]
  unfold In at *
  have e : wrap64 (wrap64 (i - l) + 1) = wrap64 (i - l + 1) := w_add _ _
  rw [e]
  simp
  unfold wrap64
  omega
theorem crosses_none (x : Int) (h : In x) : crosses x 0 = false := by
  rw [crosses_eq h (by unfold In; omega), Int.add_zero, w_in h]; simp
theorem flag_cases (b : Bool) : flag b = -1 ∨ flag b = 0 := by cases b <;> simp [flag]
/-- Shifts, to the left and back. -/
theorem shl_law {a n : Int} (hn : 0 ≤ n ∧ n ≤ 63) : two 21 a n = wrap64 (a * 2 ^ n.toNat) := by
  have h : ¬ (n < 0 ∨ 64 ≤ n) := by omega
  simp [two, shift, h]
theorem shr_law {a n : Int} (hn : 0 ≤ n ∧ n ≤ 63) : two 22 a n = wrap64 (IntKind.u64.wrap a / 2 ^ n.toNat) := by
  have h : ¬ (n < 0 ∨ 64 ≤ n) := by omega
  simp [two, shift, h]
theorem u_w (a : Int) : IntKind.u64.wrap (wrap64 a) = IntKind.u64.wrap a := by rw [IntKind.wrap_u64, IntKind.wrap_u64]; unfold wrap64; omega
theorem w_u (a : Int) : wrap64 (IntKind.u64.wrap a) = wrap64 a := by rw [IntKind.wrap_u64]; unfold wrap64; omega
theorem w_mul (a b : Int) : wrap64 (wrap64 a * b) = wrap64 (a * b) := by
  have h : wrap64 a * b = a * b + 18446744073709551616 * (-((a + 9223372036854775808) / 18446744073709551616) * b) := by
    have : wrap64 a = a + 18446744073709551616 * (-((a + 9223372036854775808) / 18446744073709551616)) := by unfold wrap64; omega
    rw [this, Int.add_mul, Int.mul_assoc]
  rw [h]; unfold wrap64; omega
theorem u_div {a : Int} (k : Nat) : IntKind.u64.wrap (IntKind.u64.wrap a / 2 ^ k) = IntKind.u64.wrap a / 2 ^ k := by
  have h : 0 ≤ IntKind.u64.wrap a ∧ IntKind.u64.wrap a < 18446744073709551616 := by rw [IntKind.wrap_u64]; omega
  have h2 : 0 ≤ IntKind.u64.wrap a / 2 ^ k ∧ IntKind.u64.wrap a / 2 ^ k ≤ IntKind.u64.wrap a := ⟨Int.ediv_nonneg h.1 (Int.pow_nonneg (by omega)), Int.ediv_le_self _ h.1⟩
  generalize IntKind.u64.wrap a / 2 ^ k = x at *
  rw [IntKind.wrap_u64]; omega
/-- CellShifts. -/
theorem shl_parts {a m n : Int} (hm : 0 ≤ m) (hn : 0 ≤ n) (h : m + n ≤ 63) : two 21 (two 21 a m) n = two 21 a (m + n) := by
  rw [shl_law ⟨hm, by omega⟩, shl_law ⟨hn, by omega⟩, shl_law ⟨by omega, h⟩, w_mul, Int.toNat_add hm hn, Int.pow_add, Int.mul_assoc]
theorem shr_parts {a m n : Int} (hm : 0 ≤ m) (hn : 0 ≤ n) (h : m + n ≤ 63) : two 22 (two 22 a m) n = two 22 a (m + n) := by
  rw [shr_law ⟨hm, by omega⟩, shr_law ⟨hn, by omega⟩, shr_law ⟨by omega, h⟩, u_w, u_div, Int.toNat_add hm hn, Int.pow_add, Int.ediv_ediv_of_nonneg (Int.pow_nonneg (by omega))]
end Cn
end Go.Proofs.Ytkjpmkopnkkbmaa

/- Which traces may be, in plain words. No program in sight. -/
set_option maxRecDepth 100000
namespace Go.Proofs.Ytkjpmkopnkkbmaa
open Go.RowKit

def givesV (op : Int) : Bool := decide (op = 1 ∨ op = 2 ∨ op = 3 ∨ op = 4 ∨ op = 5 ∨ op = 12)
/-- The places that an instruction names. -/
def usesV (i : In5) : List Int :=
  if i.a = 4 then (if Cn.risTwo i.b = true then [i.c, i.d] else [i.c]) else
  if i.a = 5 ∨ i.a = 7 ∨ i.a = 8 ∨ i.a = 10 ∨ i.a = 11 then [i.c] else
  if i.a = 6 ∨ i.a = 9 then [i.c, i.d] else []
/-- The exits that an instruction names. -/
def outsV (i : In5) : List Int :=
  if i.a = 4 then (if i.b = 14 ∨ i.b = 15 then [i.e] else []) else
  if i.a = 5 ∨ i.a = 7 ∨ i.a = 8 ∨ i.a = 9 ∨ i.a = 10 ∨ i.a = 11 then [i.e] else
  if i.a = 6 then [i.e, i.b] else []
def in0 : In5 := ⟨0, 0, 0, 0, 0⟩
def insAt (t : TrG) (p : Int) : In5 := t.ins.getD p.toNat in0
/-- Places ahead of one, that give. -/
def NamedV (t : TrG) (l : List Int) (than : Nat) : Prop := ∀ p ∈ l, 0 ≤ p ∧ p < than ∧ givesV (insAt t p).a = true
/-- An exit that may be named at a place. -/
def OutV (t : TrG) (x : Int) (k : Nat) : Prop := 0 ≤ x ∧ x < t.outs.length ∧ NamedV t (outAt t x).stack k ∧ NamedV t (outAt t x).back k
def EachV (t : TrG) (k : Nat) (i : In5) : Prop :=
  (1 ≤ i.a ∧ i.a ≤ 12) ∧ (i.a = 4 → Cn.risTwo i.b = true ∨ Cn.risOne i.b = true) ∧ (i.a = 2 → 0 ≤ i.b ∧ i.b ≤ t.slots - 1) ∧ (i.a = 3 → 0 ≤ i.b ∧ i.b ≤ t.backs - 1) ∧ NamedV t (usesV i) k ∧ ∀ x ∈ outsV i, OutV t x k
def ExitV (t : TrG) (o : OuV) : Prop := (0 ≤ o.steps ∧ o.steps ≤ 120) ∧ (0 ≤ o.ip ∧ o.ip ≤ 2999) ∧ (o.stack.length : Int) ≤ t.slots + t.grow ∧ (o.back.length : Int) ≤ t.backs + t.growBack
def HeadV (t : TrG) : Prop := t.ins.length ≤ 1000 ∧ t.outs.length ≤ 300 ∧ (0 ≤ t.start ∧ t.start ≤ 2999) ∧ (0 ≤ t.slots ∧ t.slots ≤ 48) ∧ (0 ≤ t.grow ∧ t.grow ≤ 48) ∧ (0 ≤ t.backs ∧ t.backs ≤ 48) ∧ (0 ≤ t.growBack ∧ t.growBack ≤ 48)
def CellsV (l : List Int) : Prop := ∀ (k : Nat) (c : Int), l[k]? = some c → (0 ≤ c ∧ c ≤ 2999) ∧ ∀ (j : Nat) (d : Int), k = j + 1 → l[j]? = some d → d < c
structure RightV (t : TrG) : Prop where
  head : HeadV t
  each : ∀ (k : Nat) (i : In5), t.ins[k]? = some i → EachV t k i
  exits : ∀ (k : Nat) (o : OuV), t.outs[k]? = some o → ExitV t o
  cells : CellsV t.cells
  last : OutV t t.last t.ins.length
  lastS : 1 ≤ (outAt t t.last).steps
theorem isTwo_of {op b : Int} (h : Cn.isTwo op b = true) : Cn.risTwo op = true := by
  by_cases hr : Cn.risTwo op = true
  · exact hr
  · have h1 : (!Cn.risTwo op) = true := by simpa using hr
    rw [← Cn.rtwo_none2 b h1] at h; cases h
theorem isOne_eq (op : Int) : Cn.isOne op = Cn.risOne op := by
  unfold Cn.isOne Cn.risOne
  rw [Bool.eq_iff_iff]; simp
theorem risOne_not {op : Int} (h : Cn.risTwo op = true) : Cn.isOne op = false := by
  rw [isOne_eq]; unfold Cn.risTwo at h; unfold Cn.risOne
  have h := of_decide_eq_true h
  apply decide_eq_false; omega
theorem isTwo_eq {op b : Int} (h : Cn.risTwo op = true) : Cn.isTwo op b = !(decide ((op = 14 ∨ op = 15) ∧ b = 0)) := by
  unfold Cn.risTwo at h
  have h := of_decide_eq_true h
  have h' : op = 11 ∨ op = 12 ∨ op = 13 ∨ op = 14 ∨ op = 15 ∨ op = 17 ∨ op = 18 ∨ op = 19 ∨ op = 21 ∨ op = 22 ∨ op = 23 ∨ op = 24 ∨ op = 25 ∨ op = 28 ∨ op = 29 := by omega
  rcases h' with rfl | rfl | rfl | rfl | rfl | rfl | rfl | rfl | rfl | rfl | rfl | rfl | rfl | rfl | rfl <;> simp [Cn.isTwo] <;> rfl
/-- A trace that may be can be run: every place names what is there. -/
theorem RightV.ins {t : TrG} (h : RightV t) {ats : List Int} (hl : ats.length = t.ins.length) {ns nb : Nat} (hs : t.slots ≤ ns) (hb : t.backs ≤ nb) {k : Nat} {i : In5} (hi : t.ins[k]? = some i) : InsOk ats.length ns nb k i := by
  have hk : k < t.ins.length := (List.getElem?_eq_some_iff.1 hi).1
  obtain ⟨h1, h2, h3, h4, h5, h6⟩ := h.each k i hi
  have use : ∀ p ∈ usesV i, 0 ≤ p ∧ p < ats.length := fun p hp => by
    obtain ⟨a, b, _⟩ := h5 p hp; omega
  refine ⟨by omega, fun e => ?_, fun e => ?_, fun e => ?_, fun e => ?_⟩
  · have := h3 e; omega
  · have := h4 e; omega
  · apply use
    unfold usesV
    split
    · split <;> simp
    · split
      · simp
      · rw [if_pos (by omega)]; simp
  · apply use
    unfold usesV
    rcases e with ⟨e, e2⟩ | e | e
    · rw [if_pos e]
      rcases h2 e with h | h
      · rw [if_pos h]; simp
      · rw [isOne_eq, h] at e2; cases e2
    · rw [if_neg (by omega), if_neg (by omega), if_pos (by omega)]; simp
    · rw [if_neg (by omega), if_neg (by omega), if_pos (by omega)]; simp
theorem RightV.exOk {t : TrG} (h : RightV t) {n : Nat} (hn : n = t.ins.length) {x : Int} {k : Nat} (hk : k ≤ t.ins.length) (ho : OutV t x k) : (0 ≤ x ∧ x < t.outs.length) ∧ (∀ p ∈ (outAt t x).stack, 0 ≤ p ∧ p < n) ∧ (∀ p ∈ (outAt t x).back, 0 ≤ p ∧ p < n) ∧ (outAt t x).stack.length ≤ 100000 ∧ (outAt t x).back.length ≤ 100000 := by
  obtain ⟨h1, h2, h3, h4⟩ := ho
  have hv : t.outs[x.toNat]? = some (outAt t x) := by
    unfold outAt; rw [List.getD_eq_getElem?_getD, List.getElem?_eq_getElem (by omega)]; rfl
  obtain ⟨_, _, e3, e4⟩ := h.exits _ _ hv
  obtain ⟨_, _, _, q1, q2, q3, q4⟩ := h.head
  exact ⟨⟨h1, h2⟩, fun p hp => by obtain ⟨a, b, _⟩ := h3 p hp; omega, fun p hp => by obtain ⟨a, b, _⟩ := h4 p hp; omega, by omega, by omega⟩
theorem neg1 {p : Prop} (h : (0 : Int) ≤ -1) : p := absurd h (by decide)
theorem insV_exit {ats wl : List Int} {t : TrG} {k : Nat} {i : In5} {e : En} (hr : EachV t k i) (h : 0 ≤ (insV ats wl k i e).1) : (insV ats wl k i e).1 ∈ outsV i := by
  obtain ⟨h1, h2, _⟩ := hr
  unfold insV at h ⊢
  unfold outsV
  by_cases e1 : i.a = 1
  · rw [if_pos e1] at h; exact neg1 h
  rw [if_neg e1] at h ⊢
  by_cases e2 : i.a = 2
  · rw [if_pos e2] at h; exact neg1 h
  rw [if_neg e2] at h ⊢
  by_cases e3 : i.a = 3
  · rw [if_pos e3] at h; exact neg1 h
  rw [if_neg e3] at h ⊢
  by_cases e4 : i.a = 4
  · rw [if_pos e4] at h ⊢
    rw [if_pos e4]
    unfold calcV at h ⊢
    dsimp only at h ⊢
    by_cases c1 : Cn.isOne i.b = true
    · rw [if_pos c1] at h; exact neg1 h
    rw [if_neg c1] at h ⊢
    have h2' : Cn.risTwo i.b = true := (h2 e4).resolve_right (fun hh => c1 (by rw [isOne_eq]; exact hh))
    by_cases c2 : Cn.isTwo i.b (valV ats i.d e) = true
    · rw [if_pos c2] at h; exact neg1 h
    rw [if_neg c2] at h ⊢
    rw [isTwo_eq h2'] at c2
    have c2 : (i.b = 14 ∨ i.b = 15) ∧ valV ats i.d e = 0 := by
      rcases hd : decide ((i.b = 14 ∨ i.b = 15) ∧ valV ats i.d e = 0) with _ | _
      · rw [hd] at c2; exact absurd rfl c2
      · exact of_decide_eq_true hd
    rw [if_pos c2.1]; simp
  rw [if_neg e4] at h ⊢
  rw [if_neg e4]
  by_cases e56 : i.a = 5 ∨ i.a = 6
  · rw [if_pos e56] at h ⊢
    unfold memV at h ⊢
    dsimp only at h ⊢
    have hx : i.e ∈ (if i.a = 5 ∨ i.a = 7 ∨ i.a = 8 ∨ i.a = 9 ∨ i.a = 10 ∨ i.a = 11 then [i.e] else if i.a = 6 then [i.e, i.b] else []) := by
      rcases e56 with e5 | e6
      · rw [if_pos (by omega)]; simp
      · rw [if_neg (by omega), if_pos e6]; simp
    by_cases c1 : valV ats i.c e < 0 ∨ (e.s.mem.length : Int) ≤ valV ats i.c e
    · rw [if_pos c1]; exact hx
    rw [if_neg c1] at h ⊢
    by_cases c2 : i.a = 5
    · rw [if_pos c2] at h; exact neg1 h
    rw [if_neg c2] at h ⊢
    by_cases c3 : valV ats i.c e ∈ wl
    · rw [if_pos c3, if_neg (by omega), if_pos (by omega)]; simp
    · rw [if_neg c3] at h; exact neg1 h
  rw [if_neg e56] at h ⊢
  by_cases e7 : i.a = 7
  · rw [if_pos e7] at h ⊢
    rw [if_pos (by omega)]
    dsimp only at h ⊢
    split at h
    · exact neg1 h
    · next hh => rw [if_neg hh]; simp
  rw [if_neg e7] at h ⊢
  by_cases e8 : i.a = 8
  · rw [if_pos e8] at h ⊢
    rw [if_pos (by omega)]
    dsimp only at h ⊢
    split at h
    · exact neg1 h
    · next hh => rw [if_neg hh]; simp
  rw [if_neg e8] at h ⊢
  by_cases e9 : i.a = 9
  · rw [if_pos e9] at h ⊢
    rw [if_pos (by omega)]
    dsimp only at h ⊢
    split at h
    · exact neg1 h
    · next hh => rw [if_neg hh]; simp
  rw [if_neg e9] at h ⊢
  by_cases e10 : i.a = 10 ∨ i.a = 11
  · rw [if_pos e10] at h ⊢
    rw [if_pos (by omega)]
    unfold tellV at h ⊢
    dsimp only at h ⊢
    split at h
    · next hh => rw [if_pos hh]; simp
    · exact neg1 h
  rw [if_neg e10] at h
  unfold askV at h
  split at h <;> exact neg1 h
end Go.Proofs.Ytkjpmkopnkkbmaa

/- An instruction by what it names: its outcome, out of the values alone. No program in sight. -/
set_option maxRecDepth 100000
namespace Go.Proofs.Ytkjpmkopnkkbmaa
open Go.RowKit

inductive Oc where
  | go (s : StV) (v : Option Int)
  | ex
  | hit (s : StV) (a : Int)
/-- What an instruction does, by its operation, its A and the values of B and C. -/
def ocV (op a b c : Int) (s : StV) (wl : List Int) : Oc :=
  if op = 1 then .go s (some a) else
  if op = 2 then .go s (some (getI s.stack ((s.stack.length : Int) - 1 - a))) else
  if op = 3 then .go s (some (getI s.back ((s.back.length : Int) - 1 - a))) else
  if op = 4 then (if Cn.isOne a = true then .go s (some (Cn.one a b)) else if Cn.isTwo a c = true then .go s (some (Cn.two a b c)) else .ex) else
  if op = 5 then (if b < 0 ∨ (s.mem.length : Int) ≤ b then .ex else .go s (some (getI s.mem b))) else
  if op = 6 then (if b < 0 ∨ (s.mem.length : Int) ≤ b then .ex else if b ∈ wl then .hit { s with mem := s.mem.set b.toNat c } b else .go { s with mem := s.mem.set b.toNat c } none) else
  if op = 7 then (if b ≠ 0 then .go s none else .ex) else
  if op = 8 then (if b = 0 then .go s none else .ex) else
  if op = 9 then (if b = c then .go s none else .ex) else
  if op = 10 ∨ op = 11 then (if 2000 < (s.out.size : Int) + (sayV op b).size then .ex else .go { s with out := s.out ++ sayV op b } none) else
  if (s.inp.size : Int) ≤ s.read then .go s (some (-1)) else .go { s with read := s.read + 1 } (some (sb s.inp s.read))
/-- What is told of an outcome. -/
def putOc (ats : List Int) (place : Int) (i : In5) (e : En) : Oc → Int × En
  | .go s none => (-1, { e with s := s })
  | .go s (some v) => (-1, setV ats place v { e with s := s })
  | .ex => (i.e, e)
  | .hit s a => (i.b, { e with s := s, hit := a })
theorem insV_oc (ats wl : List Int) (place : Int) (i : In5) (e : En) : insV ats wl place i e = putOc ats place i e (ocV i.a i.b (valV ats i.c e) (valV ats i.d e) e.s wl) := by
  unfold insV ocV
  by_cases e1 : i.a = 1
  · rw [if_pos e1, if_pos e1]; rfl
  rw [if_neg e1, if_neg e1]
  by_cases e2 : i.a = 2
  · rw [if_pos e2, if_pos e2]; rfl
  rw [if_neg e2, if_neg e2]
  by_cases e3 : i.a = 3
  · rw [if_pos e3, if_pos e3]; rfl
  rw [if_neg e3, if_neg e3]
  by_cases e4 : i.a = 4
  · rw [if_pos e4, if_pos e4]; unfold calcV; dsimp only
    by_cases c1 : Cn.isOne i.b = true
    · rw [if_pos c1, if_pos c1]; rfl
    rw [if_neg c1, if_neg c1]
    by_cases c2 : Cn.isTwo i.b (valV ats i.d e) = true
    · rw [if_pos c2, if_pos c2]; rfl
    · rw [if_neg c2, if_neg c2]; rfl
  rw [if_neg e4, if_neg e4]
  by_cases e5 : i.a = 5
  · rw [if_pos (Or.inl e5), if_pos e5]; unfold memV; dsimp only
    by_cases c1 : valV ats i.c e < 0 ∨ (e.s.mem.length : Int) ≤ valV ats i.c e
    · rw [if_pos c1, if_pos c1]; rfl
    · rw [if_neg c1, if_neg c1, if_pos e5]; rfl
  rw [if_neg e5]
  by_cases e6 : i.a = 6
  · rw [if_pos (Or.inr e6), if_pos e6]; unfold memV; dsimp only
    by_cases c1 : valV ats i.c e < 0 ∨ (e.s.mem.length : Int) ≤ valV ats i.c e
    · rw [if_pos c1, if_pos c1]; rfl
    · rw [if_neg c1, if_neg c1, if_neg e5]
      by_cases c2 : valV ats i.c e ∈ wl
      · rw [if_pos c2, if_pos c2]; rfl
      · rw [if_neg c2, if_neg c2]; rfl
  rw [if_neg (by omega), if_neg e6]
  by_cases e7 : i.a = 7
  · rw [if_pos e7, if_pos e7]
    by_cases c1 : valV ats i.c e ≠ 0
    · rw [if_pos c1, if_pos c1]; rfl
    · rw [if_neg c1, if_neg c1]; rfl
  rw [if_neg e7, if_neg e7]
  by_cases e8 : i.a = 8
  · rw [if_pos e8, if_pos e8]
    by_cases c1 : valV ats i.c e = 0
    · rw [if_pos c1, if_pos c1]; rfl
    · rw [if_neg c1, if_neg c1]; rfl
  rw [if_neg e8, if_neg e8]
  by_cases e9 : i.a = 9
  · rw [if_pos e9, if_pos e9]
    by_cases c1 : valV ats i.c e = valV ats i.d e
    · rw [if_pos c1, if_pos c1]; rfl
    · rw [if_neg c1, if_neg c1]; rfl
  rw [if_neg e9, if_neg e9]
  by_cases e10 : i.a = 10 ∨ i.a = 11
  · rw [if_pos e10, if_pos e10]; unfold tellV; dsimp only
    by_cases c1 : 2000 < (e.s.out.size : Int) + (sayV i.a (valV ats i.c e)).size
    · rw [if_pos c1, if_pos c1]; rfl
    · rw [if_neg c1, if_neg c1]; rfl
  rw [if_neg e10, if_neg e10]
  unfold askV
  by_cases c1 : (e.s.inp.size : Int) ≤ e.s.read
  · rw [if_pos c1, if_pos c1]; rfl
  · rw [if_neg c1, if_neg c1]; rfl
/-- B is looked at only where it is named, C likewise. -/
theorem ocV_uses {i : In5} {b b' c c' : Int} {s : StV} {wl : List Int} (h0 : i.a = 4 → Cn.risTwo i.b = true ∨ Cn.risOne i.b = true) (hb : i.c ∈ usesV i → b = b') (hc : (usesV i).length = 2 → c = c') : ocV i.a i.b b c s wl = ocV i.a i.b b' c' s wl := by
  have u1 : (4 ≤ i.a ∧ i.a ≤ 11) → b = b' := fun h => by
    apply hb; unfold usesV
    split
    · split <;> simp
    · split
      · simp
      · rw [if_pos (by omega)]; simp
  have u2 : i.a = 6 ∨ i.a = 9 → c = c' := fun h => by
    apply hc; unfold usesV
    rw [if_neg (by omega), if_neg (by omega), if_pos h]; rfl
  unfold ocV
  by_cases e1 : i.a = 1
  · rw [if_pos e1, if_pos e1]
  rw [if_neg e1, if_neg e1]
  by_cases e2 : i.a = 2
  · rw [if_pos e2, if_pos e2]
  rw [if_neg e2, if_neg e2]
  by_cases e3 : i.a = 3
  · rw [if_pos e3, if_pos e3]
  rw [if_neg e3, if_neg e3]
  by_cases e4 : i.a = 4
  · rw [if_pos e4, if_pos e4, u1 (by omega)]
    by_cases c1 : Cn.isOne i.b = true
    · rw [if_pos c1, if_pos c1]
    · have h2 : Cn.risTwo i.b = true := (h0 e4).resolve_right (fun hh => c1 (by rw [isOne_eq]; exact hh))
      rw [hc (by unfold usesV; rw [if_pos e4, if_pos h2]; rfl)]
  rw [if_neg e4, if_neg e4]
  by_cases e5 : i.a = 5
  · rw [if_pos e5, if_pos e5, u1 (by omega)]
  rw [if_neg e5, if_neg e5]
  by_cases e6 : i.a = 6
  · rw [if_pos e6, if_pos e6, u1 (by omega), u2 (by omega)]
  rw [if_neg e6, if_neg e6]
  by_cases e7 : i.a = 7
  · rw [if_pos e7, if_pos e7, u1 (by omega)]
  rw [if_neg e7, if_neg e7]
  by_cases e8 : i.a = 8
  · rw [if_pos e8, if_pos e8, u1 (by omega)]
  rw [if_neg e8, if_neg e8]
  by_cases e9 : i.a = 9
  · rw [if_pos e9, if_pos e9, u1 (by omega), u2 (by omega)]
  rw [if_neg e9, if_neg e9]
  by_cases e10 : i.a = 10 ∨ i.a = 11
  · rw [if_pos e10, if_pos e10, u1 (by omega)]
  rw [if_neg e10, if_neg e10]
def OcG (op : Int) : Oc → Prop
  | .go _ none => givesV op = false
  | .go _ (some _) => givesV op = true
  | .ex => True
  | .hit _ _ => givesV op = false
/-- Instructions give a value just if they are of the kind that gives. -/
theorem ocV_gives {op : Int} (a b c : Int) (s : StV) (wl : List Int) (h : 1 ≤ op ∧ op ≤ 12) : OcG op (ocV op a b c s wl) := by
  have g1 : (op = 1 ∨ op = 2 ∨ op = 3 ∨ op = 4 ∨ op = 5 ∨ op = 12) → givesV op = true := fun h => decide_eq_true h
  have g0 : ¬ (op = 1 ∨ op = 2 ∨ op = 3 ∨ op = 4 ∨ op = 5 ∨ op = 12) → givesV op = false := fun h => decide_eq_false h
  unfold ocV
  by_cases e1 : op = 1
  · rw [if_pos e1]; exact g1 (by omega)
  rw [if_neg e1]
  by_cases e2 : op = 2
  · rw [if_pos e2]; exact g1 (by omega)
  rw [if_neg e2]
  by_cases e3 : op = 3
  · rw [if_pos e3]; exact g1 (by omega)
  rw [if_neg e3]
  by_cases e4 : op = 4
  · rw [if_pos e4]
    by_cases c1 : Cn.isOne a = true
    · rw [if_pos c1]; exact g1 (by omega)
    rw [if_neg c1]
    by_cases c2 : Cn.isTwo a c = true
    · rw [if_pos c2]; exact g1 (by omega)
    · rw [if_neg c2]; exact True.intro
  rw [if_neg e4]
  by_cases e5 : op = 5
  · rw [if_pos e5]
    by_cases c1 : b < 0 ∨ (s.mem.length : Int) ≤ b
    · rw [if_pos c1]; exact True.intro
    · rw [if_neg c1]; exact g1 (by omega)
  rw [if_neg e5]
  by_cases e6 : op = 6
  · rw [if_pos e6]
    by_cases c1 : b < 0 ∨ (s.mem.length : Int) ≤ b
    · rw [if_pos c1]; exact True.intro
    rw [if_neg c1]
    by_cases c2 : b ∈ wl
    · rw [if_pos c2]; exact g0 (by omega)
    · rw [if_neg c2]; exact g0 (by omega)
  rw [if_neg e6]
  by_cases e7 : op = 7
  · rw [if_pos e7]
    by_cases c1 : b ≠ 0
    · rw [if_pos c1]; exact g0 (by omega)
    · rw [if_neg c1]; exact True.intro
  rw [if_neg e7]
  by_cases e8 : op = 8
  · rw [if_pos e8]
    by_cases c1 : b = 0
    · rw [if_pos c1]; exact g0 (by omega)
    · rw [if_neg c1]; exact True.intro
  rw [if_neg e8]
  by_cases e9 : op = 9
  · rw [if_pos e9]
    by_cases c1 : b = c
    · rw [if_pos c1]; exact g0 (by omega)
    · rw [if_neg c1]; exact True.intro
  rw [if_neg e9]
  by_cases e10 : op = 10 ∨ op = 11
  · rw [if_pos e10]
    by_cases c1 : 2000 < (s.out.size : Int) + (sayV op b).size
    · rw [if_pos c1]; exact True.intro
    · rw [if_neg c1]; exact g0 (by omega)
  rw [if_neg e10]
  by_cases c1 : (s.inp.size : Int) ≤ s.read
  · rw [if_pos c1]; exact g1 (by omega)
  · rw [if_neg c1]; exact g1 (by omega)
/-! ### Places that are registers -/
def idA (n : Nat) : List Int := (List.range n).map fun (k : Nat) => (k : Int)
theorem idA_len (n : Nat) : (idA n).length = n := by unfold idA; simp
theorem idA_at {n : Nat} {p : Int} (h0 : 0 ≤ p) (h1 : p < n) : getI (idA n) p = p := by
  unfold getI idA
  rw [List.getD_eq_getElem?_getD, List.getElem?_map, List.getElem?_range (by omega)]
  simp; omega
theorem idA_ok (n : Nat) : AtOk (idA n) n := fun q hq => by
  rw [idA_len] at hq
  have := idA_at (n := n) (p := q) (by omega) (by omega)
  unfold getI at this
  rw [Int.toNat_natCast] at this
  rw [this]; omega
theorem val_id {n : Nat} {p : Int} {e : En} (h0 : 0 ≤ p) (h1 : p < n) : valV (idA n) p e = getI e.regs p := by unfold valV; rw [idA_at h0 h1]
theorem val_same {n : Nat} {p v : Int} {e : En} (h0 : 0 ≤ p) (h1 : p < n) (hr : e.regs.length = n) : valV (idA n) p (setV (idA n) p v e) = v := by
  rw [val_id h0 h1]; unfold setV; rw [idA_at h0 h1]; unfold getI
  rw [List.getD_eq_getElem?_getD, List.getElem?_set_self (by omega)]; rfl
theorem val_ne {n : Nat} {p q v : Int} {e : En} (h0 : 0 ≤ p) (h1 : p < n) (k0 : 0 ≤ q) (k1 : q < n) (hn : q ≠ p) : valV (idA n) q (setV (idA n) p v e) = valV (idA n) q e := by
  rw [val_id k0 k1, val_id k0 k1]; unfold setV; rw [idA_at h0 h1]; unfold getI
  rw [List.getD_eq_getElem?_getD, List.getElem?_set_ne (by omega), List.getD_eq_getElem?_getD]
/-- A machine that goes in, in n registers. -/
def en0 (n : Nat) (s : StV) : En := ⟨s, List.replicate n 0, -1⟩
/-- What a trace does, in registers: the exit, and what there is then. -/
def runA (v : TrG) (ats : List Int) (n : Nat) (s : StV) (wl : List Int) : Int × En := goV ats wl v.last v.ins 0 (en0 n s)
/-- What a trace does, in as many registers as it has places: the exit, and what there is then. -/
def runG (t : TrG) (s : StV) (wl : List Int) : Int × En := runA t (idA t.ins.length) t.ins.length s wl
def endV (t : TrG) (g : Int × En) : StV := leaveV t (idA t.ins.length) g.1 g.2
end Go.Proofs.Ytkjpmkopnkkbmaa

/- All numbers of a run fit 64 bits. No program in sight. -/
set_option maxRecDepth 100000
namespace Go.Proofs.Ytkjpmkopnkkbmaa
open Go.RowKit

theorem in0' : Cn.In 0 := by unfold Cn.In; omega
theorem in_bv (x : BitVec 64) : Cn.In x.toInt := by
  unfold Cn.In
  have h1 := x.toInt_lt
  have h2 := x.le_toInt
  omega
theorem in_flag (b : Bool) : Cn.In (Cn.flag b) := by unfold Cn.flag Cn.In; split <;> omega
theorem in_cmp (op a b : Int) : Cn.In (Cn.cmp op a b) := by
  unfold Cn.cmp; split
  · exact in_flag _
  · split <;> exact in_flag _
theorem in_shift (op a b : Int) : Cn.In (Cn.shift op a b) := by
  unfold Cn.shift; split
  · exact in0'
  · split <;> exact Cn.in_w _
theorem in_quo (a b : Int) : Cn.In (Cn.quo a b) := by
  unfold Cn.quo; split
  · exact in0'
  · split
    · exact Cn.in_w _
    · split <;> exact Cn.in_w _
theorem in_rem {a : Int} (ha : Cn.In a) (b : Int) : Cn.In (Cn.rem a b) := by
  unfold Cn.rem; split
  · exact in0'
  · split
    · exact in0'
    · split
      · exact Cn.in_w _
      · have h := Cn.tmod_sign (a := a) (b := b)
        have h2 := Cn.split_eq a b
        unfold Cn.In at *
        have h3 : (a.tmod b).natAbs ≤ a.natAbs := by rw [Int.natAbs_tmod]; exact Nat.mod_le _ _
        omega
theorem in_two {op a b : Int} (ha : Cn.In a) (hb : Cn.In b) : Cn.In (Cn.two op a b) := by
  unfold Cn.two
  by_cases e11 : op = 11
  · rw [if_pos e11]; exact Cn.in_w _
  rw [if_neg e11]
  by_cases e12 : op = 12
  · rw [if_pos e12]; exact Cn.in_w _
  rw [if_neg e12]
  by_cases e13 : op = 13
  · rw [if_pos e13]; exact Cn.in_w _
  rw [if_neg e13]
  by_cases e14 : op = 14
  · rw [if_pos e14]; exact in_quo _ _
  rw [if_neg e14]
  by_cases e15 : op = 15
  · rw [if_pos e15]; exact in_rem ha _
  rw [if_neg e15]
  by_cases e17 : op = 17
  · rw [if_pos e17]; rw [Cn.bits_and]; exact in_bv _
  rw [if_neg e17]
  by_cases e18 : op = 18
  · rw [if_pos e18]; rw [Cn.bits_or]; exact in_bv _
  rw [if_neg e18]
  by_cases e19 : op = 19
  · rw [if_pos e19]; rw [Cn.bits_xor]; exact in_bv _
  rw [if_neg e19]
  by_cases e21 : op = 21
  · rw [if_pos e21]; exact in_shift _ _ _
  rw [if_neg e21]
  by_cases e22 : op = 22
  · rw [if_pos e22]; exact in_shift _ _ _
  rw [if_neg e22]
  by_cases e23 : op = 23
  · rw [if_pos e23]; exact in_cmp _ _ _
  rw [if_neg e23]
  by_cases e24 : op = 24
  · rw [if_pos e24]; exact in_cmp _ _ _
  rw [if_neg e24]
  by_cases e25 : op = 25
  · rw [if_pos e25]; exact in_cmp _ _ _
  rw [if_neg e25]
  by_cases e28 : op = 28
  · rw [if_pos e28]; unfold Cn.In at *; omega
  rw [if_neg e28]
  by_cases e29 : op = 29
  · rw [if_pos e29]; unfold Cn.In at *; omega
  rw [if_neg e29]
  exact in0'
theorem in_one (op a : Int) : Cn.In (Cn.one op a) := by
  unfold Cn.one
  by_cases e16 : op = 16
  · rw [if_pos e16]; exact Cn.in_w _
  rw [if_neg e16]
  by_cases e20 : op = 20
  · rw [if_pos e20]; rw [Cn.bits_xor]; exact in_bv _
  rw [if_neg e20]
  by_cases e26 : op = 26
  · rw [if_pos e26]; exact in_flag _
  rw [if_neg e26]
  by_cases e27 : op = 27
  · rw [if_pos e27]; exact in_flag _
  rw [if_neg e27]
  exact in0'
theorem rone_one (op a : Int) : Cn.rone op a = Cn.one op a := by
  unfold Cn.rone Cn.one; rw [Cn.not_law]
/-- All of them fit. -/
def InL (l : List Int) : Prop := ∀ x ∈ l, Cn.In x
theorem InL.get {l : List Int} (h : InL l) (i : Int) : Cn.In (getI l i) := by
  unfold getI
  rw [List.getD_eq_getElem?_getD]
  cases hx : l[i.toNat]? with
  | none => exact in0'
  | some x => exact h x (List.mem_of_getElem? hx)
theorem InL.set {l : List Int} (h : InL l) (i : Nat) {x : Int} (hx : Cn.In x) : InL (l.set i x) := fun y hy => by
  rcases List.mem_or_eq_of_mem_set hy with h' | h'
  · exact h y h'
  · rw [h']; exact hx
structure EnIn (e : En) : Prop where
  regs : InL e.regs
  mem : InL e.s.mem
  st : InL e.s.stack
  bk : InL e.s.back
theorem EnIn.set {e : En} (h : EnIn e) (ats : List Int) (p : Int) {v : Int} (hv : Cn.In v) : EnIn (setV ats p v e) := ⟨h.regs.set _ hv, h.mem, h.st, h.bk⟩
theorem EnIn.val {e : En} (h : EnIn e) (ats : List Int) (p : Int) : Cn.In (valV ats p e) := h.regs.get _
def OcIn (s : StV) : Oc → Prop
  | .go s' v => (InL s.mem → InL s'.mem) ∧ s'.stack = s.stack ∧ s'.back = s.back ∧ ∀ x, v = some x → Cn.In x
  | .ex => True
  | .hit s' a => (InL s.mem → InL s'.mem) ∧ s'.stack = s.stack ∧ s'.back = s.back ∧ 0 ≤ a
theorem ocV_in {op a b c : Int} {s : StV} (wl : List Int) (ha : op = 1 → Cn.In a) (hb : Cn.In b) (hc : Cn.In c) (hm : InL s.mem) (hst : InL s.stack) (hbk : InL s.back) : OcIn s (ocV op a b c s wl) := by
  have go : ∀ {x : Int}, Cn.In x → OcIn s (.go s (some x)) := fun h => ⟨id, rfl, rfl, fun y hy => by cases hy; exact h⟩
  have go0 : OcIn s (.go s none) := ⟨id, rfl, rfl, fun y hy => by cases hy⟩
  unfold ocV
  by_cases e1 : op = 1
  · rw [if_pos e1]; exact go (ha e1)
  rw [if_neg e1]
  by_cases e2 : op = 2
  · rw [if_pos e2]; exact go (hst.get _)
  rw [if_neg e2]
  by_cases e3 : op = 3
  · rw [if_pos e3]; exact go (hbk.get _)
  rw [if_neg e3]
  by_cases e4 : op = 4
  · rw [if_pos e4]
    by_cases c1 : Cn.isOne a = true
    · rw [if_pos c1]; exact go (in_one _ _)
    rw [if_neg c1]
    by_cases c2 : Cn.isTwo a c = true
    · rw [if_pos c2]; exact go (in_two hb hc)
    · rw [if_neg c2]; exact True.intro
  rw [if_neg e4]
  by_cases e5 : op = 5
  · rw [if_pos e5]
    by_cases c1 : b < 0 ∨ (s.mem.length : Int) ≤ b
    · rw [if_pos c1]; exact True.intro
    · rw [if_neg c1]; exact go (hm.get _)
  rw [if_neg e5]
  by_cases e6 : op = 6
  · rw [if_pos e6]
    by_cases c1 : b < 0 ∨ (s.mem.length : Int) ≤ b
    · rw [if_pos c1]; exact True.intro
    rw [if_neg c1]
    by_cases c2 : b ∈ wl
    · rw [if_pos c2]; exact ⟨fun h => h.set _ hc, rfl, rfl, by omega⟩
    · rw [if_neg c2]; exact ⟨fun h => h.set _ hc, rfl, rfl, fun y hy => by cases hy⟩
  rw [if_neg e6]
  by_cases e7 : op = 7
  · rw [if_pos e7]
    by_cases c1 : b ≠ 0
    · rw [if_pos c1]; exact go0
    · rw [if_neg c1]; exact True.intro
  rw [if_neg e7]
  by_cases e8 : op = 8
  · rw [if_pos e8]
    by_cases c1 : b = 0
    · rw [if_pos c1]; exact go0
    · rw [if_neg c1]; exact True.intro
  rw [if_neg e8]
  by_cases e9 : op = 9
  · rw [if_pos e9]
    by_cases c1 : b = c
    · rw [if_pos c1]; exact go0
    · rw [if_neg c1]; exact True.intro
  rw [if_neg e9]
  by_cases e10 : op = 10 ∨ op = 11
  · rw [if_pos e10]
    by_cases c1 : 2000 < (s.out.size : Int) + (sayV op b).size
    · rw [if_pos c1]; exact True.intro
    · rw [if_neg c1]; exact ⟨id, rfl, rfl, fun y hy => by cases hy⟩
  rw [if_neg e10]
  by_cases c1 : (s.inp.size : Int) ≤ s.read
  · rw [if_pos c1]; exact go (by unfold Cn.In; omega)
  · rw [if_neg c1]
    refine ⟨id, rfl, rfl, fun y hy => ?_⟩
    cases hy
    unfold Cn.In sb
    have := ((s.inp.data[s.read.toNat]?).getD 0).toNat_lt
    omega
/-- Behind an instruction that goes on: what is still so. -/
theorem go_in {ats : List Int} {q : Int} {e : En} {s : StV} {v : Option Int} (h : EnIn e) (ho : OcIn e.s (.go s v)) : EnIn (match v with | none => { e with s := s } | some x => setV ats q x { e with s := s }) := by
  obtain ⟨h1, h2, h3, h4⟩ := ho
  have hb : EnIn { e with s := s } := ⟨h.regs, h1 h.mem, by show InL s.stack; rw [h2]; exact h.st, by show InL s.back; rw [h3]; exact h.bk⟩
  cases v with
  | none => exact hb
  | some x => exact hb.set ats q (h4 x rfl)
end Go.Proofs.Ytkjpmkopnkkbmaa
