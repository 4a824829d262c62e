/- Plain numbers, plain traces: what a trace does, which may be. No program in sight. -/
import Derived.WalkKit
import Derived.Test.YtkjpmkopnkkbmaaDoorJ1

/- The plain numbers of the package cell: what each function computes, in plain Lean, and the laws that the statements ask of them. No program is in sight here. -/
namespace Go.Proofs.YtkjpmkopnkkbmaaDoor
open Go.RowKit

namespace Cn
/-- Flag. -/
def flag (b : Bool) : Int := if b then -1 else 0
/-- Does the rest have the wrong sign? -/
def odd (a b : Int) : Prop := a.tmod b ≠ 0 ∧ ¬ (a.tmod b < 0 ↔ b < 0)
instance (a b : Int) : Decidable (odd a b) := by unfold odd; infer_instance
/-- Floor: the quotient, rounded down. -/
def quo (a b : Int) : Int := if b = 0 then 0 else if b = -1 then wrap64 (-a) else if odd a b then wrap64 (wrap64 (a.tdiv b) - 1) else wrap64 (a.tdiv b)
/-- Floor: the rest. -/
def rem (a b : Int) : Int := if b = 0 then 0 else if b = -1 then 0 else if odd a b then wrap64 (a.tmod b + b) else a.tmod b
/-- shift: to the left, or to the right; zeros come in. -/
def shift (op a n : Int) : Int := if n < 0 ∨ 64 ≤ n then 0 else if op = 21 then wrap64 (a * 2 ^ n.toNat) else wrap64 (IntKind.u64.wrap a / 2 ^ n.toNat)
/-- compare. -/
def cmp (op a b : Int) : Int := if op = 23 then flag (a == b) else if op = 24 then flag (decide (a < b)) else flag (decide (IntKind.u64.wrap a < IntKind.u64.wrap b))
/-- Two. -/
def two (op a b : Int) : Int :=
  if op = 11 then wrap64 (a + b) else if op = 12 then wrap64 (a - b) else if op = 13 then wrap64 (a * b) else if op = 14 then quo a b else if op = 15 then rem a b
  else if op = 17 then bits .and .i64 a b else if op = 18 then bits .or .i64 a b else if op = 19 then bits .xor .i64 a b
  else if op = 21 then shift op a b else if op = 22 then shift op a b else if op = 23 then cmp op a b else if op = 24 then cmp op a b else if op = 25 then cmp op a b
  else if op = 28 then min a b else if op = 29 then max a b else 0
def isTwo (op b : Int) : Bool :=
  if op = 11 then true else if op = 12 then true else if op = 13 then true else if op = 14 then b != 0 else if op = 15 then b != 0
  else if op = 17 then true else if op = 18 then true else if op = 19 then true else if op = 21 then true else if op = 22 then true
  else if op = 23 then true else if op = 24 then true else if op = 25 then true else if op = 28 then true else if op = 29 then true else false
/-- One. -/
def one (op a : Int) : Int := if op = 16 then wrap64 (-a) else if op = 20 then bits .xor .i64 (-1) a else if op = 26 then flag (a == 0) else if op = 27 then flag (decide (a < 0)) else 0
def isOne (op : Int) : Bool := if op = 16 then true else if op = 20 then true else if op = 26 then true else if op = 27 then true else false
/-- Crosses. -/
def crosses (x n : Int) : Bool := decide (bits .and .i64 (bits .xor .i64 x (wrap64 (x + n))) (bits .xor .i64 x n) < 0)
/-- The document's own. -/
def rone (op a : Int) : Int := if op = 16 then wrap64 (-a) else if op = 20 then wrap64 (-1 - a) else if op = 26 then flag (a == 0) else if op = 27 then flag (decide (a < 0)) else 0
def risTwo (op : Int) : Bool := decide ((11 ≤ op ∧ op ≤ 15) ∨ (17 ≤ op ∧ op ≤ 19) ∨ (21 ≤ op ∧ op ≤ 25) ∨ op = 28 ∨ op = 29)
def risOne (op : Int) : Bool := decide (op = 16 ∨ op = 20 ∨ op = 26 ∨ op = 27)
def rr (a b : Int) : Int := wrap64 (a - wrap64 (wrap64 (a.tdiv b) * b))
def rodd (a b : Int) : Prop := rr a b ≠ 0 ∧ ¬ (rr a b < 0 ↔ b < 0)
instance (a b : Int) : Decidable (rodd a b) := by unfold rodd; infer_instance
def rquo (a b : Int) : Int := if rodd a b then wrap64 (wrap64 (a.tdiv b) - 1) else wrap64 (a.tdiv b)
def rrem (a b : Int) : Int := if rodd a b then wrap64 (rr a b + b) else rr a b
def rshift (op a n : Int) : Int := if n < 0 ∨ 63 < n then 0 else if op = 21 then wrap64 (IntKind.u64.wrap (a * 2 ^ n.toNat)) else wrap64 (IntKind.u64.wrap a / 2 ^ n.toNat)
def rtwo (op a b : Int) : Int :=
  if op = 11 then wrap64 (a + b) else if op = 12 then wrap64 (a - b) else if op = 13 then wrap64 (a * b) else if op = 14 then if b = 0 then 0 else rquo a b else if op = 15 then if b = 0 then 0 else rrem a b
  else if op = 17 then bits .and .i64 a b else if op = 18 then bits .or .i64 a b else if op = 19 then bits .xor .i64 a b
  else if op = 21 then rshift op a b else if op = 22 then rshift op a b else if op = 23 then cmp op a b else if op = 24 then cmp op a b else if op = 25 then cmp op a b
  else if op = 28 then min a b else if op = 29 then max a b else 0
theorem risTwo_no {op : Int} (h : (!risTwo op) = true) : op < 11 ∨ op = 16 ∨ op = 20 ∨ op = 26 ∨ op = 27 ∨ 29 < op := by
  simp only [risTwo, Bool.not_eq_true', decide_eq_false_iff_not] at h; omega
theorem rtwo_none1 {op : Int} (a b : Int) (h : (!risTwo op) = true) : (0 : Int) = rtwo op a b := by
  have h := risTwo_no h
  unfold rtwo
  repeat rw [if_neg (by omega)]
theorem rtwo_none2 {op : Int} (b : Int) (h : (!risTwo op) = true) : false = isTwo op b := by
  have h := risTwo_no h
  unfold isTwo
  repeat rw [if_neg (by omega)]
theorem rtwo_max {op : Int} (h : (!risTwo op) = false) (h1 : (op == 11) = false) (h2 : (op == 12) = false) (h3 : (op == 13) = false) (h4 : (op == 14) = false) (h5 : (op == 15) = false) (h6 : (op == 17) = false) (h7 : (op == 18) = false) (h8 : (op == 19) = false)
    (h9 : (op == 21) = false) (h10 : (op == 22) = false) (h11 : (op == 23) = false) (h12 : (op == 24) = false) (h13 : (op == 25) = false) (h14 : (op == 28) = false) : op = 29 := by
  simp only [beq_eq_false_iff_ne] at *
  simp only [risTwo, Bool.not_eq_false', decide_eq_true_eq] at h
  omega
theorem w0 : wrap64 0 = 0 := by unfold wrap64; omega
theorem u0 : IntKind.u64.wrap 0 = 0 := by rw [IntKind.wrap_u64]; omega
end Cn
end Go.Proofs.YtkjpmkopnkkbmaaDoor

/- What a trace does, in plain words: values, instructions, exits. No program in sight. -/
set_option maxRecDepth 100000
namespace Go.Proofs.YtkjpmkopnkkbmaaDoor
open Go.RowKit

structure In5 where
  a : Int
  b : Int
  c : Int
  d : Int
  e : Int
structure OuV where
  ip : Int
  steps : Int
  stack : List Int
  back : List Int
structure TrG where
  start : Int
  slots : Int
  backs : Int
  grow : Int
  growBack : Int
  ins : List In5
  outs : List OuV
  last : Int
  cells : List Int
structure StV where
  ip : Int
  handler : Int
  stack : List Int
  back : List Int
  mem : List Int
  out : ByteArray
  inp : ByteArray
  read : Int
  status : Int
  code : Int
/-- The digits of a number, ahead of some that are there. -/
def dg : Nat → Nat → List UInt8 → List UInt8
  | 0, _, out => out
  | f + 1, n, out => if n = 0 ∧ out ≠ [] then out else dg f (n / 10) (UInt8.ofNat (48 + n % 10) :: out)
theorem dg_zero : ∀ (f : Nat) (out : List UInt8), out ≠ [] → dg f 0 out = out
  | 0, _, _ => rfl
  | f + 1, out, h => by unfold dg; rw [if_pos ⟨rfl, h⟩]
theorem dg_len : ∀ (f n : Nat) (out : List UInt8), (dg f n out).length ≤ out.length + f
  | 0, _, _ => Nat.le_refl _
  | f + 1, n, out => by
    unfold dg; split
    · omega
    · have := dg_len f (n / 10) (UInt8.ofNat (48 + n % 10) :: out); rw [List.length_cons] at this; omega
/-- How large a number is, without its sign. -/
def absN (v : Int) : Nat := if v < 0 then (IntKind.wrap .u64 (0 - IntKind.wrap .u64 v)).toNat else (IntKind.wrap .u64 v).toNat
def putV (v : Int) : ByteArray := if v < 0 then bs [45] ++ bs (dg 20 (absN v) []) else bs (dg 20 (absN v) [])
def byteC (v : Int) : UInt8 := UInt8.ofNat (IntKind.wrap .u8 v).toNat
def sayV (op v : Int) : ByteArray := if op = 11 then putV v ++ bs [32] else bs [byteC v]
def getI (l : List Int) (i : Int) : Int := l.getD i.toNat 0
/-- A trace while it runs: the machine, the registers, the watched cell that was hit. -/
structure En where
  s : StV
  regs : List Int
  hit : Int
def valV (ats : List Int) (p : Int) (e : En) : Int := getI e.regs (getI ats p)
def setV (ats : List Int) (p v : Int) (e : En) : En := { e with regs := e.regs.set (getI ats p).toNat v }
/-- What it does to a cell of the memory. -/
def memV (ats wl : List Int) (place : Int) (i : In5) (e : En) : Int × En :=
  let a := valV ats i.c e
  if a < 0 ∨ (e.s.mem.length : Int) ≤ a then (i.e, e) else
  if i.a = 5 then (-1, setV ats place (getI e.s.mem a) e) else
  let e' : En := { e with s := { e.s with mem := e.s.mem.set a.toNat (valV ats i.d e) } }
  if a ∈ wl then (i.b, { e' with hit := a }) else (-1, e')
def calcV (ats : List Int) (place : Int) (i : In5) (e : En) : Int × En :=
  let b := valV ats i.c e
  if Cn.isOne i.b = true then (-1, setV ats place (Cn.one i.b b) e) else
  if Cn.isTwo i.b (valV ats i.d e) = true then (-1, setV ats place (Cn.two i.b b (valV ats i.d e)) e) else (i.e, e)
def tellV (ats : List Int) (i : In5) (e : En) : Int × En :=
  let t := sayV i.a (valV ats i.c e)
  if 2000 < (e.s.out.size : Int) + t.size then (i.e, e) else (-1, { e with s := { e.s with out := e.s.out ++ t } })
def askV (ats : List Int) (place : Int) (e : En) : Int × En :=
  if (e.s.inp.size : Int) ≤ e.s.read then (-1, setV ats place (-1) e) else
  (-1, setV ats place (sb e.s.inp e.s.read) { e with s := { e.s with read := e.s.read + 1 } })
def insV (ats wl : List Int) (place : Int) (i : In5) (e : En) : Int × En :=
  if i.a = 1 then (-1, setV ats place i.b e) else
  if i.a = 2 then (-1, setV ats place (getI e.s.stack ((e.s.stack.length : Int) - 1 - i.b)) e) else
  if i.a = 3 then (-1, setV ats place (getI e.s.back ((e.s.back.length : Int) - 1 - i.b)) e) else
  if i.a = 4 then calcV ats place i e else
  if i.a = 5 ∨ i.a = 6 then memV ats wl place i e else
  if i.a = 7 then (if valV ats i.c e ≠ 0 then -1 else i.e, e) else
  if i.a = 8 then (if valV ats i.c e = 0 then -1 else i.e, e) else
  if i.a = 9 then (if valV ats i.c e = valV ats i.d e then -1 else i.e, e) else
  if i.a = 10 ∨ i.a = 11 then tellV ats i e else askV ats place e
/-- All instructions from a place on: the exit, and what there is then. -/
def goV (ats wl : List Int) (last : Int) : List In5 → Int → En → Int × En
  | [], _, e => (last, e)
  | i :: r, place, e => if 0 ≤ (insV ats wl place i e).1 then insV ats wl place i e else goV ats wl last r (place + 1) (insV ats wl place i e).2
def valsV (ats : List Int) (l : List Int) (e : En) : List Int := l.map fun p => valV ats p e
def ou0 : OuV := ⟨0, 0, [], []⟩
def outAt (t : TrG) (x : Int) : OuV := t.outs.getD x.toNat ou0
/-- The machine behind an exit. -/
def leaveV (t : TrG) (ats : List Int) (x : Int) (e : En) : StV :=
  { e.s with ip := (outAt t x).ip, stack := e.s.stack.take (e.s.stack.length - t.slots.toNat) ++ valsV ats (outAt t x).stack e, back := e.s.back.take (e.s.back.length - t.backs.toNat) ++ valsV ats (outAt t x).back e }
def mayV (t : TrG) (s : StV) : Bool := decide (s.status = 0 ∧ s.ip = t.start ∧ t.slots ≤ s.stack.length ∧ (s.stack.length : Int) + t.grow ≤ 48 ∧ t.backs ≤ s.back.length ∧ (s.back.length : Int) + t.growBack ≤ 48)
/-- Places may be looked at. -/
def InsOk (n ns nb : Nat) (place : Int) (i : In5) : Prop :=
  (0 ≤ place ∧ place < n) ∧ (i.a = 2 → 0 ≤ i.b ∧ i.b < ns) ∧ (i.a = 3 → 0 ≤ i.b ∧ i.b < nb) ∧ (4 ≤ i.a ∧ i.a ≤ 11 → 0 ≤ i.c ∧ i.c < n) ∧ ((i.a = 4 ∧ Cn.isOne i.b = false) ∨ i.a = 6 ∨ i.a = 9 → 0 ≤ i.d ∧ i.d < n)
/-- Every place has a register. -/
def AtOk (ats : List Int) (m : Nat) : Prop := ∀ q : Nat, q < ats.length → 0 ≤ ats.getD q 0 ∧ ats.getD q 0 < m
theorem setV_regs (ats : List Int) (p v : Int) (e : En) : (setV ats p v e).regs.length = e.regs.length := by unfold setV; simp
def Keeps (e e' : En) : Prop := e'.regs.length = e.regs.length ∧ e'.s.stack = e.s.stack ∧ e'.s.back = e.s.back ∧ e'.s.inp = e.s.inp ∧ e'.s.mem.length = e.s.mem.length
theorem Keeps.refl (e : En) : Keeps e e := ⟨rfl, rfl, rfl, rfl, rfl⟩
theorem setV_keeps (ats : List Int) (p v : Int) (e : En) : Keeps e (setV ats p v e) := ⟨by unfold setV; simp, rfl, rfl, rfl, rfl⟩
theorem calcV_keeps (ats : List Int) (place : Int) (i : In5) (e : En) : Keeps e (calcV ats place i e).2 := by
  unfold calcV; dsimp only; split
  · exact setV_keeps _ _ _ _
  · split
    · exact setV_keeps _ _ _ _
    · exact Keeps.refl _
theorem memV_keeps (ats wl : List Int) (place : Int) (i : In5) (e : En) : Keeps e (memV ats wl place i e).2 := by
  unfold memV; dsimp only; split
  · exact Keeps.refl _
  · split
    · exact setV_keeps _ _ _ _
    · split <;> exact ⟨rfl, rfl, rfl, rfl, by simp⟩
theorem tellV_keeps (ats : List Int) (i : In5) (e : En) : Keeps e (tellV ats i e).2 := by
  unfold tellV; dsimp only; split
  · exact Keeps.refl _
  · exact ⟨rfl, rfl, rfl, rfl, rfl⟩
theorem askV_keeps (ats : List Int) (place : Int) (e : En) : Keeps e (askV ats place e).2 := by
  unfold askV; split
  · exact setV_keeps _ _ _ _
  · exact ⟨by unfold setV; simp, rfl, rfl, rfl, rfl⟩
theorem insV_keeps (ats wl : List Int) (place : Int) (i : In5) (e : En) : Keeps e (insV ats wl place i e).2 := by
  unfold insV
  repeat' split
  all_goals first | exact setV_keeps _ _ _ _ | exact calcV_keeps _ _ _ _ | exact memV_keeps _ _ _ _ _ | exact tellV_keeps _ _ _ | exact askV_keeps _ _ _ | exact Keeps.refl _
end Go.Proofs.YtkjpmkopnkkbmaaDoor

/- The plain laws of the package cell: what the statements ask of the numbers. No program is in sight here. -/
namespace Go.Proofs.YtkjpmkopnkkbmaaDoor
open Go.RowKit
namespace Cn
/-- A number of 64 bits. -/
def In (a : Int) : Prop := -9223372036854775808 ≤ a ∧ a ≤ 9223372036854775807

theorem w_in {n : Int} (h : In n) : wrap64 n = n := by unfold In at h; unfold wrap64; omega
theorem in_w (n : Int) : In (wrap64 n) := by unfold In wrap64; omega

theorem tdiv_in {a b : Int} (ha : In a) (hb0 : b ≠ 0) (hb1 : b ≠ -1) : In (a.tdiv b) := by
  unfold In at *
  have h1 : (a.tdiv b).natAbs = a.natAbs / b.natAbs := Int.natAbs_tdiv a b
  have h2 : a.natAbs / b.natAbs ≤ a.natAbs := Nat.div_le_self _ _
  by_cases hb : b = 1
  · subst hb; simp; omega
  · have h3 : a.natAbs / b.natAbs ≤ a.natAbs / 2 := Nat.div_le_div_left (by omega) (by omega)
    omega
theorem tmod_lt (a : Int) {b : Int} (hb0 : b ≠ 0) : (a.tmod b).natAbs < b.natAbs := by
  rw [Int.natAbs_tmod]; exact Nat.mod_lt _ (by omega)
theorem tmod_sign {a b : Int} : (0 ≤ a → 0 ≤ a.tmod b) ∧ (a ≤ 0 → a.tmod b ≤ 0) := by
  refine ⟨fun h => Int.tmod_nonneg b h, fun h => ?_⟩
  have := Int.tmod_nonneg (a := -a) b (by omega)
  rw [Int.neg_tmod] at this; omega
theorem split_eq (a b : Int) : a.tdiv b * b + a.tmod b = a := by
  have := Int.mul_tdiv_add_tmod a b
  rw [Int.mul_comm]; omega

theorem q_in {a b q r : Int} (ha : In a) (hb : In b) (_hb0 : b ≠ 0) (ht : In q) (hs : q * b + r = a) (ho : r ≠ 0 ∧ ¬(r < 0 ↔ b < 0)) (hm : r.natAbs < b.natAbs) : In (q - 1) := by
  unfold In at *
  refine ⟨?_, by omega⟩
  refine Classical.byContradiction fun hn => ?_
  obtain rfl : q = -9223372036854775808 := by omega
  omega

/-- Floor: the law of the quotient and the rest, where the divisor is neither 0 nor -1. -/
theorem floor_law {a b : Int} (ha : In a) (hb : In b) (hb0 : b ≠ 0) (hb1 : b ≠ -1) :
    quo a b * b + rem a b = a ∧ (b > 0 ∧ 0 ≤ rem a b ∧ rem a b < b ∨ b < 0 ∧ rem a b ≤ 0 ∧ b < rem a b) := by
  have ht := tdiv_in ha hb0 hb1
  have hs := split_eq a b
  have hm := tmod_lt a hb0
  have hg := @tmod_sign a b
  unfold quo rem
  rw [if_neg hb0, if_neg hb1, if_neg hb0, if_neg hb1, w_in ht]
  by_cases ho : odd a b
  · rw [if_pos ho, if_pos ho]
    unfold odd at ho
    rw [w_in (q_in ha hb hb0 ht hs ho hm)]
    generalize a.tdiv b = q at *
    generalize a.tmod b = r at *
    rw [w_in (n := r + b) (by unfold In at *; omega), Int.sub_mul]
    refine ⟨by omega, ?_⟩
    omega
  · rw [if_neg ho, if_neg ho]
    unfold odd at ho
    refine ⟨hs, ?_⟩
    generalize a.tdiv b = q at *
    generalize a.tmod b = r at *
    omega
theorem rr_eq {a b : Int} (ha : In a) : rr a b = a.tmod b := by
  have hs := split_eq a b
  have hm : In (a.tmod b) := by
    have hg := @tmod_sign a b
    have : (a.tmod b).natAbs ≤ a.natAbs := by rw [Int.natAbs_tmod]; exact Nat.mod_le _ _
    unfold In at *; omega
  unfold rr
  generalize a.tdiv b = q at *
  generalize a.tmod b = r at *
  unfold In at *
  have e : wrap64 (wrap64 q * b) = wrap64 (q * b) := by
    unfold wrap64
    have : (q + 9223372036854775808) % 18446744073709551616 = q + 9223372036854775808 - 18446744073709551616 * ((q + 9223372036854775808) / 18446744073709551616) := by omega
    rw [this, show (q + 9223372036854775808 - 18446744073709551616 * ((q + 9223372036854775808) / 18446744073709551616) - 9223372036854775808) * b = q * b + (18446744073709551616 * (-((q + 9223372036854775808) / 18446744073709551616) * b)) from by
      rw [show q + 9223372036854775808 - 18446744073709551616 * ((q + 9223372036854775808) / 18446744073709551616) - 9223372036854775808 = q + 18446744073709551616 * (-((q + 9223372036854775808) / 18446744073709551616)) from by omega, Int.add_mul, Int.mul_assoc]]
    omega
  rw [e]
  unfold wrap64
  omega
theorem rtwo_two {op a b : Int} (ha : In a) : rtwo op a b = two op a b := by
  have hq : b ≠ 0 → rquo a b = quo a b ∧ rrem a b = rem a b := by
    intro h0
    have hr := rr_eq (b := b) ha
    have ho : rodd a b ↔ odd a b := by unfold rodd odd; rw [hr]
    unfold rquo rrem quo rem
    rw [if_neg h0, if_neg h0]
    by_cases h1 : b = -1
    · subst h1
      have h2 : a.tmod (-1) = 0 := by simp
      have h3 : ¬ odd a (-1) := by unfold odd; rw [h2]; simp
      rw [if_pos rfl, if_pos rfl, if_neg (fun h => h3 (ho.1 h)), if_neg (fun h => h3 (ho.1 h)), hr, h2]
      simp
    · rw [if_neg h1, if_neg h1, hr]
      by_cases h3 : odd a b
      · rw [if_pos h3, if_pos h3, if_pos (ho.2 h3), if_pos (ho.2 h3)]; exact ⟨rfl, rfl⟩
      · rw [if_neg h3, if_neg h3, if_neg (fun h => h3 (ho.1 h)), if_neg (fun h => h3 (ho.1 h))]; exact ⟨rfl, rfl⟩
  have hz : quo a 0 = 0 ∧ rem a 0 = 0 := ⟨rfl, rfl⟩
  have hw : ∀ n : Int, wrap64 (IntKind.u64.wrap n) = wrap64 n := by intro n; rw [IntKind.wrap_u64]; unfold wrap64; omega
  have hsh : rshift op a b = shift op a b := by
    unfold rshift shift
    rw [hw]
    by_cases h : b < 0 ∨ 63 < b
    · have h' : b < 0 ∨ 64 ≤ b := by omega
      rw [if_pos h, if_pos h']
    · have h' : ¬ (b < 0 ∨ 64 ≤ b) := by omega
      rw [if_neg h, if_neg h']
  unfold rtwo two
  rw [hsh]
  by_cases h0 : b = 0
  · subst h0; simp [hz]
  · simp [h0, hq h0]
theorem w_add (x y : Int) : wrap64 (wrap64 x + y) = wrap64 (x + y) := by unfold wrap64; omega
theorem w_neg (x : Int) : wrap64 (wrap64 (-x) * -1) = wrap64 x := by unfold wrap64; omega
theorem w_sub (x y : Int) : wrap64 (x - wrap64 y) = wrap64 (x - y) := by unfold wrap64; omega
/-- CellFloors: the quotient times the divisor, and the rest, are the number. -/
theorem floor_back {a b : Int} (ha : In a) (hb : In b) (hb0 : b ≠ 0) : wrap64 (wrap64 (quo a b * b) + rem a b) = a := by
  by_cases h1 : b = -1
  · subst h1
    show wrap64 (wrap64 (wrap64 (-a) * -1) + 0) = a
    rw [w_neg, Int.add_zero, w_in (in_w _), w_in ha]
  · rw [w_add, (floor_law ha hb hb0 h1).1, w_in ha]
theorem floor_rest {a b : Int} (ha : In a) (hb : In b) (hb0 : b ≠ 0) : b > 0 ∧ 0 ≤ rem a b ∧ rem a b < b ∨ b < 0 ∧ rem a b ≤ 0 ∧ b < rem a b := by
  by_cases h1 : b = -1
  · subst h1
    exact Or.inr ⟨by omega, Int.le_refl _, by show (-1 : Int) < 0; omega⟩
  · exact (floor_law ha hb hb0 h1).2
end Cn
end Go.Proofs.YtkjpmkopnkkbmaaDoor

/- Numbers of 64 bits, bit by bit: the plain laws that the statements of chapter 1 ask. No program is in sight here. -/
namespace Go.Proofs.YtkjpmkopnkkbmaaDoor
open Go.RowKit
namespace Cn

def B (a : Int) : BitVec 64 := BitVec.ofInt 64 a
theorem wrap_toNat (r : BitVec 64) : IntKind.i64.wrap (r.toNat : Int) = r.toInt := by
  rw [IntKind.wrap_i64, BitVec.toInt_eq_toNat_cond]
  have := r.isLt
  split <;> omega
theorem bits_and (a b : Int) : bits .and .i64 a b = (B a &&& B b).toInt := wrap_toNat _
theorem bits_or (a b : Int) : bits .or .i64 a b = (B a ||| B b).toInt := wrap_toNat _
theorem bits_xor (a b : Int) : bits .xor .i64 a b = (B a ^^^ B b).toInt := wrap_toNat _
theorem B_w (a : Int) : (B a).toInt = wrap64 a := by
  unfold B
  rw [BitVec.toInt_ofInt, Int.bmod_def]; unfold wrap64; omega
theorem B_toInt (x : BitVec 64) : B x.toInt = x := BitVec.ofInt_toInt
theorem w_B {a : Int} {x : BitVec 64} (h : B a = x) : wrap64 a = x.toInt := by rw [← h, B_w]
theorem B_add (a b : Int) : B (a + b) = B a + B b := BitVec.ofInt_add a b
theorem B_neg (a : Int) : B (-a) = - B a := BitVec.ofInt_neg
theorem B_sub (a b : Int) : B (a - b) = B a - B b := by
  rw [Int.sub_eq_add_neg, B_add, B_neg, BitVec.sub_eq_add_neg]

theorem part (x y : BitVec 64) : x = (x &&& ~~~y) + (x &&& y) := by
  rw [BitVec.add_eq_or_of_and_eq_zero _ _ (by ext i; simp; grind)]
  ext i; simp; grind
theorem xor_part (x y : BitVec 64) : x ^^^ y = (x &&& ~~~y) + (y &&& ~~~x) := by
  rw [BitVec.add_eq_or_of_and_eq_zero _ _ (by ext i; simp; grind)]
  ext i; simp; grind
theorem or_part (x y : BitVec 64) : x ||| y = (x ^^^ y) + (x &&& y) := by
  rw [BitVec.add_eq_or_of_and_eq_zero _ _ (by ext i; simp; grind)]
  ext i; simp; grind
theorem and_or_sum (x y : BitVec 64) : (x &&& y) + (x ||| y) = x + y := by
  have h1 := part x y
  have h2 := part y x
  rw [or_part, xor_part]
  have h3 : y &&& x = x &&& y := BitVec.and_comm _ _
  rw [h3] at h2
  generalize x &&& y = c at *
  generalize x &&& ~~~y = p at *
  generalize y &&& ~~~x = q at *
  rw [h1, h2]
  ac_rfl
theorem sum_law (a b : Int) : wrap64 (bits .and .i64 a b + bits .or .i64 a b) = wrap64 (a + b) := by
  rw [bits_and, bits_or]
  refine (w_B ?_).trans (w_B rfl).symm
  rw [B_add, B_add, B_toInt, B_toInt, and_or_sum]
theorem xor_law (a b : Int) : bits .xor .i64 a b = wrap64 (bits .or .i64 a b - bits .and .i64 a b) := by
  rw [bits_and, bits_or, bits_xor]
  refine (w_B ?_).symm
  rw [B_sub, B_toInt, B_toInt, or_part, BitVec.add_sub_cancel]
theorem not_law {a : Int} : bits .xor .i64 (-1) a = wrap64 (-1 - a) := by
  rw [bits_xor]
  refine (w_B ?_).symm
  rw [B_sub]
  have h1 : B (-1) = BitVec.allOnes 64 := by decide
  rw [h1, BitVec.allOnes_sub_eq_not, BitVec.allOnes_xor]

theorem neg_iff (x : BitVec 64) : x.toInt < 0 ↔ x.msb = true := by
  rw [BitVec.msb_eq_toInt]; simp
theorem msb_B {a : Int} (h : In a) : (B a).msb = decide (a < 0) := by
  rw [BitVec.msb_eq_toInt, B_w, w_in h]
/-- Crosses: by signs alone. -/
theorem crosses_eq {x n : Int} (hx : In x) (hn : In n) : crosses x n = (((decide (x < 0)) ^^ (decide (wrap64 (x + n) < 0))) && ((decide (x < 0)) ^^ (decide (n < 0)))) := by
  unfold crosses
  rw [bits_and, bits_xor, bits_xor, B_toInt, B_toInt, Bool.eq_iff_iff, decide_eq_true_iff, neg_iff, BitVec.msb_and, BitVec.msb_xor, BitVec.msb_xor, msb_B hx, msb_B hn, msb_B (in_w _)]
theorem crosses_one {i l : Int} (_hi : In i) (_hl : In l) : crosses (wrap64 (i - l)) 1 = (wrap64 (i + 1) == l) := by
  rw [crosses_eq (in_w _) (by unfold In; omega), Bool.eq_iff_iff]
  unfold In at *
  have e : wrap64 (wrap64 (i - l) + 1) = wrap64 (i - l + 1) := w_add _ _
  rw [e]
  simp
  unfold wrap64
  omega
theorem crosses_none (x : Int) (h : In x) : crosses x 0 = false := by
  rw [crosses_eq h (by unfold In; omega), Int.add_zero, w_in h]; simp
theorem flag_cases (b : Bool) : flag b = -1 ∨ flag b = 0 := by cases b <;> simp [flag]
/-- Shifts, to the left and back. -/
theorem shl_law {a n : Int} (hn : 0 ≤ n ∧ n ≤ 63) : two 21 a n = wrap64 (a * 2 ^ n.toNat) := by
  have h : ¬ (n < 0 ∨ 64 ≤ n) := by omega
  simp [two, shift, h]
theorem shr_law {a n : Int} (hn : 0 ≤ n ∧ n ≤ 63) : two 22 a n = wrap64 (IntKind.u64.wrap a / 2 ^ n.toNat) := by
  have h : ¬ (n < 0 ∨ 64 ≤ n) := by omega
  simp [two, shift, h]
theorem u_w (a : Int) : IntKind.u64.wrap (wrap64 a) = IntKind.u64.wrap a := by rw [IntKind.wrap_u64, IntKind.wrap_u64]; unfold wrap64; omega
theorem w_u (a : Int) : wrap64 (IntKind.u64.wrap a) = wrap64 a := by rw [IntKind.wrap_u64]; unfold wrap64; omega
theorem w_mul (a b : Int) : wrap64 (wrap64 a * b) = wrap64 (a * b) := by
  have h : wrap64 a * b = a * b + 18446744073709551616 * (-((a + 9223372036854775808) / 18446744073709551616) * b) := by
    have : wrap64 a = a + 18446744073709551616 * (-((a + 9223372036854775808) / 18446744073709551616)) := by unfold wrap64; omega
    rw [this, Int.add_mul, Int.mul_assoc]
  rw [h]; unfold wrap64; omega
theorem u_div {a : Int} (k : Nat) : IntKind.u64.wrap (IntKind.u64.wrap a / 2 ^ k) = IntKind.u64.wrap a / 2 ^ k := by
  have h : 0 ≤ IntKind.u64.wrap a ∧ IntKind.u64.wrap a < 18446744073709551616 := by rw [IntKind.wrap_u64]; omega
  have h2 : 0 ≤ IntKind.u64.wrap a / 2 ^ k ∧ IntKind.u64.wrap a / 2 ^ k ≤ IntKind.u64.wrap a := ⟨Int.ediv_nonneg h.1 (Int.pow_nonneg (by omega)), Int.ediv_le_self _ h.1⟩
  generalize IntKind.u64.wrap a / 2 ^ k = x at *
  rw [IntKind.wrap_u64]; omega
/-- CellShifts. -/
theorem shl_parts {a m n : Int} (hm : 0 ≤ m) (hn : 0 ≤ n) (h : m + n ≤ 63) : two 21 (two 21 a m) n = two 21 a (m + n) := by
  rw [shl_law ⟨hm, by omega⟩, shl_law ⟨hn, by omega⟩, shl_law ⟨by omega, h⟩, w_mul, Int.toNat_add hm hn, Int.pow_add, Int.mul_assoc]
theorem shr_parts {a m n : Int} (hm : 0 ≤ m) (hn : 0 ≤ n) (h : m + n ≤ 63) : two 22 (two 22 a m) n = two 22 a (m + n) := by
  rw [shr_law ⟨hm, by omega⟩, shr_law ⟨hn, by omega⟩, shr_law ⟨by omega, h⟩, u_w, u_div, Int.toNat_add hm hn, Int.pow_add, Int.ediv_ediv_of_nonneg (Int.pow_nonneg (by omega))]
end Cn
end Go.Proofs.YtkjpmkopnkkbmaaDoor
