/- Recordings, in plain words. No program in sight. -/
import Derived.Test.YtkjpmkopnkkbmaaGreatDoorMaX
set_option maxRecDepth 100000
namespace Go.Proofs.YtkjpmkopnkkbmaaGreatDoor
open Go.RowKit

/-- A step as it is recorded. -/
structure SnV where
  ip : Int
  cell : Int
  arg : Int
  next : Int
structure RcV where
  start : Int
  fin : Int
  loop : Bool
  steps : List SnV
def plB (c : Int) : Bool := decide (64 ≤ c) || opPlain c
def arB (c : Int) : Bool := decide (c < 64) && opArg c
def placeB (a : Int) : Bool := decide (0 ≤ a) && decide (a < 3000)
def stepV (s : StV) : StV := (runM s 1).1
def nextV (s : StV) : Option (SnV × StV) :=
  if s.ip < 0 ∨ (s.mem.length : Int) ≤ s.ip ∨ s.status ≠ 0 ∨ plB (getI s.mem s.ip) = false then none else
  if (stepV { s with handler := 0 }).status = 2 then none else
  if placeB (stepV s).ip = false then none else
  some (⟨s.ip, getI s.mem s.ip, if arB (getI s.mem s.ip) = true then getI s.mem (s.ip + 1) else 0, (stepV s).ip⟩, stepV s)
def lpB (start : Int) (s : StV) (l : List SnV) : Bool := decide (0 < l.length) && decide (s.ip = start)
/-- Steps recorded, as long as there may be more. -/
def recL (start : Int) : Nat → StV → List SnV → RcV
  | 0, s, l => ⟨start, s.ip, lpB start s l, l⟩
  | n + 1, s, l => if lpB start s l = true then ⟨start, s.ip, true, l⟩ else match nextV s with
    | none => ⟨start, s.ip, false, l⟩
    | some (x, t) => recL start n t (l ++ [x])
def mostN (most : Int) : Nat := (imin (imax most 0) 120).toNat
theorem mostN_le (most : Int) : mostN most ≤ 120 ∧ ((mostN most : Nat) : Int) = imin (imax most 0) 120 := by
  have h : 0 ≤ imin (imax most 0) 120 ∧ imin (imax most 0) 120 ≤ 120 := by unfold imin imax; split <;> split <;> omega
  unfold mostN
  omega
def recV (s : StV) (most : Int) : RcV := recL s.ip (mostN most) s []
theorem nextV_run {s t : StV} {x : SnV} (h : nextV s = some (x, t)) : s.status = 0 ∧ t = stepV s ∧ t = mAdv s ∧ x.ip = s.ip ∧ x.next = t.ip ∧ 0 ≤ s.ip ∧ s.ip < s.mem.length ∧ x.cell = getI s.mem s.ip ∧ plB x.cell = true ∧ placeB t.ip = true ∧ x.arg = (if arB x.cell = true then getI s.mem (s.ip + 1) else 0) := by
  unfold nextV at h
  split at h
  · cases h
  next h1 =>
  split at h
  · cases h
  split at h
  · cases h
  next h3 =>
  injection h with h
  injection h with hx ht
  subst hx ht
  have hs : s.status = 0 := Classical.byContradiction fun hn => h1 (Or.inr (Or.inr (Or.inl hn)))
  have e : stepV s = mAdv s := by
    unfold stepV
    rw [runM_go hs (by decide)]
    rw [runM_stop (Or.inr (by decide))]
  refine ⟨hs, rfl, e, rfl, rfl, by omega, by omega, rfl, ?_, ?_, rfl⟩
  · cases hp : plB (getI s.mem s.ip) with
    | true => rfl
    | false => exact absurd (Or.inr (Or.inr (Or.inr hp))) h1
  · cases hp : placeB (stepV s).ip with
    | true => rfl
    | false => exact absurd hp h3

/-! ### With more steps that may be done -/
theorem recL_len (start : Int) : ∀ (n : Nat) (s : StV) (l : List SnV), l.length ≤ (recL start n s l).steps.length ∧ (recL start n s l).steps.length ≤ l.length + n
  | 0, _, l => ⟨Nat.le_refl _, Nat.le_refl _⟩
  | n + 1, s, l => by
    unfold recL
    split
    · exact ⟨Nat.le_refl _, by show l.length ≤ _; omega⟩
    split
    · exact ⟨Nat.le_refl _, by show l.length ≤ _; omega⟩
    · next x t _ =>
      have := recL_len start n t (l ++ [x])
      rw [List.length_append, List.length_singleton] at this
      omega
theorem recL_pre (start : Int) : ∀ (n : Nat) (s : StV) (l : List SnV), ∃ r, (recL start n s l).steps = l ++ r
  | 0, _, l => ⟨[], by show l = _; simp⟩
  | n + 1, s, l => by
    unfold recL
    split
    · exact ⟨[], by show l = _; simp⟩
    split
    · exact ⟨[], by show l = _; simp⟩
    · next x t _ =>
      obtain ⟨r, hr⟩ := recL_pre start n t (l ++ [x])
      exact ⟨x :: r, by rw [hr]; simp⟩
theorem recL_more (start : Int) : ∀ (n k : Nat) (s : StV) (l : List SnV), (∃ r, (recL start (n + k) s l).steps = (recL start n s l).steps ++ r) ∧ ((recL start n s l).steps.length = l.length + n ∨ recL start n s l = recL start (n + k) s l)
  | 0, k, s, l => ⟨recL_pre start (0 + k) s l, Or.inl rfl⟩
  | n + 1, k, s, l => by
    rw [show n + 1 + k = (n + k) + 1 by omega]
    unfold recL
    split
    · exact ⟨⟨[], by simp⟩, Or.inr rfl⟩
    split
    · exact ⟨⟨[], by simp⟩, Or.inr rfl⟩
    · next x t _ =>
      obtain ⟨h1, h2⟩ := recL_more start n k t (l ++ [x])
      refine ⟨h1, ?_⟩
      rw [List.length_append, List.length_singleton] at h2
      rcases h2 with h2 | h2
      · exact Or.inl (by omega)
      · exact Or.inr h2
theorem recV_most {s : StV} {a b : Int} (ha : 0 ≤ a) (hab : a ≤ b) (hb : b ≤ 120) : ((recV s a).steps.length : Int) ≤ a ∧ (∃ r, (recV s b).steps = (recV s a).steps ++ r) ∧ (((recV s a).steps.length : Int) = a ∨ recV s a = recV s b) := by
  have e1 : mostN a = a.toNat := by unfold mostN imin imax; split <;> split <;> omega
  have e2 : mostN b = a.toNat + (b - a).toNat := by unfold mostN imin imax; split <;> split <;> omega
  obtain ⟨h1, h2⟩ := recL_more s.ip a.toNat (b - a).toNat s []
  have h3 := recL_len s.ip a.toNat s []
  unfold recV
  rw [e1, e2]
  simp only [List.length_nil, Nat.zero_add] at h2 h3
  exact ⟨by omega, h1, h2.imp (fun h => by omega) (fun h => h)⟩

/-! ### Which recordings may be -/
def singleB (x : SnV) : Bool := plB x.cell && ((arB x.cell || decide (x.arg = 0)) && (placeB x.ip && (placeB (if arB x.cell = true then x.ip + 1 else x.ip) && placeB x.next)))
def rightL (start : Int) : Int → Bool → List SnV → Option Int
  | at_, _, [] => some at_
  | at_, more, x :: r => if singleB x = false ∨ x.ip ≠ at_ ∨ (more = true ∧ x.ip = start) then none else rightL start x.next true r
def rightR (r : RcV) : Bool := if 120 < r.steps.length then false else if r.loop ≠ (decide (0 < r.steps.length) && decide (r.fin = r.start)) then false else match rightL r.start r.start false r.steps with
  | none => false
  | some a => decide (a = r.fin)
end Go.Proofs.YtkjpmkopnkkbmaaGreatDoor
