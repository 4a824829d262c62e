/- Recordings in memory; the document's machine. -/
import Derived.Test.YtkjpmkopnkkbmaaJN
import Derived.Test.YtkjpmkopnkkbmaaJ4
import Derived.Test.YtkjpmkopnkkbmaaJJ
import Derived.Test.YtkjpmkopnkkbmaaJR
import Derived.Test.YtkjpmkopnkkbmaaJ2
import Derived.Test.YtkjpmkopnkkbmaaJ3
import Derived.Test.YtkjpmkopnkkbmaaJ7

/- Recordings, in plain words. No program in sight. -/
set_option maxRecDepth 100000
namespace Go.Proofs.Ytkjpmkopnkkbmaa
open Go.RowKit

/-- A step as it is recorded. -/
structure SnV where
  ip : Int
  cell : Int
  arg : Int
  next : Int
structure RcV where
  start : Int
  fin : Int
  loop : Bool
  steps : List SnV
def plB (c : Int) : Bool := decide (64 ≤ c) || opPlain c
def arB (c : Int) : Bool := decide (c < 64) && opArg c
def placeB (a : Int) : Bool := decide (0 ≤ a) && decide (a < 3000)
def stepV (s : StV) : StV := (runM s 1).1
def nextV (s : StV) : Option (SnV × StV) :=
  if s.ip < 0 ∨ (s.mem.length : Int) ≤ s.ip ∨ s.status ≠ 0 ∨ plB (getI s.mem s.ip) = false then none else
  if (stepV { s with handler := 0 }).status = 2 then none else
  if placeB (stepV s).ip = false then none else
  some (⟨s.ip, getI s.mem s.ip, if arB (getI s.mem s.ip) = true then getI s.mem (s.ip + 1) else 0, (stepV s).ip⟩, stepV s)
def lpB (start : Int) (s : StV) (l : List SnV) : Bool := decide (0 < l.length) && decide (s.ip = start)
/-- Steps recorded, as long as there may be more. -/
def recL (start : Int) : Nat → StV → List SnV → RcV
  | 0, s, l => ⟨start, s.ip, lpB start s l, l⟩
  | n + 1, s, l => if lpB start s l = true then ⟨start, s.ip, true, l⟩ else match nextV s with
    | none => ⟨start, s.ip, false, l⟩
    | some (x, t) => recL start n t (l ++ [x])
def mostN (most : Int) : Nat := (imin (imax most 0) 120).toNat
theorem mostN_le (most : Int) : mostN most ≤ 120 ∧ ((mostN most : Nat) : Int) = imin (imax most 0) 120 := by
  have h : 0 ≤ imin (imax most 0) 120 ∧ imin (imax most 0) 120 ≤ 120 := by unfold imin imax; split <;> split <;> omega
  unfold mostN
  omega
def recV (s : StV) (most : Int) : RcV := recL s.ip (mostN most) s []
theorem nextV_run {s t : StV} {x : SnV} (h : nextV s = some (x, t)) : s.status = 0 ∧ t = stepV s ∧ t = mAdv s ∧ x.ip = s.ip ∧ x.next = t.ip ∧ 0 ≤ s.ip ∧ s.ip < s.mem.length ∧ x.cell = getI s.mem s.ip ∧ plB x.cell = true ∧ placeB t.ip = true ∧ x.arg = (if arB x.cell = true then getI s.mem (s.ip + 1) else 0) := by
  unfold nextV at h
  split at h
  · cases h
  next h1 =>
  split at h
  · cases h
  split at h
  · cases h
  next h3 =>
  injection h with h
  injection h with hx ht
  subst hx ht
  have hs : s.status = 0 := Classical.byContradiction fun hn => h1 (Or.inr (Or.inr (Or.inl hn)))
  have e : stepV s = mAdv s := by
    unfold stepV
    rw [runM_go hs (by decide)]
    rw [runM_stop (Or.inr (by decide))]
  refine ⟨hs, rfl, e, rfl, rfl, by omega, by omega, rfl, ?_, ?_, rfl⟩
  · cases hp : plB (getI s.mem s.ip) with
    | true => rfl
    | false => exact absurd (Or.inr (Or.inr (Or.inr hp))) h1
  · cases hp : placeB (stepV s).ip with
    | true => rfl
    | false => exact absurd hp h3

/-! ### With more steps that may be done -/
theorem recL_len (start : Int) : ∀ (n : Nat) (s : StV) (l : List SnV), l.length ≤ (recL start n s l).steps.length ∧ (recL start n s l).steps.length ≤ l.length + n
  | 0, _, l => ⟨Nat.le_refl _, Nat.le_refl _⟩
  | n + 1, s, l => by
    unfold recL
    split
    · exact ⟨Nat.le_refl _, by show l.length ≤ _; omega⟩
    split
    · exact ⟨Nat.le_refl _, by show l.length ≤ _; omega⟩
    · next x t _ =>
      have := recL_len start n t (l ++ [x])
      rw [List.length_append, List.length_singleton] at this
      omega
theorem recL_pre (start : Int) : ∀ (n : Nat) (s : StV) (l : List SnV), ∃ r, (recL start n s l).steps = l ++ r
  | 0, _, l => ⟨[], by show l = _; simp⟩
  | n + 1, s, l => by
    unfold recL
    split
    · exact ⟨[], by show l = _; simp⟩
    split
    · exact ⟨[], by show l = _; simp⟩
    · next x t _ =>
      obtain ⟨r, hr⟩ := recL_pre start n t (l ++ [x])
      exact ⟨x :: r, by rw [hr]; simp⟩
theorem recL_more (start : Int) : ∀ (n k : Nat) (s : StV) (l : List SnV), (∃ r, (recL start (n + k) s l).steps = (recL start n s l).steps ++ r) ∧ ((recL start n s l).steps.length = l.length + n ∨ recL start n s l = recL start (n + k) s l)
  | 0, k, s, l => ⟨recL_pre start (0 + k) s l, Or.inl rfl⟩
  | n + 1, k, s, l => by
    rw [show n + 1 + k = (n + k) + 1 by omega]
    unfold recL
    split
    · exact ⟨⟨[], by simp⟩, Or.inr rfl⟩
    split
    · exact ⟨⟨[], by simp⟩, Or.inr rfl⟩
    · next x t _ =>
      obtain ⟨h1, h2⟩ := recL_more start n k t (l ++ [x])
      refine ⟨h1, ?_⟩
      rw [List.length_append, List.length_singleton] at h2
      rcases h2 with h2 | h2
      · exact Or.inl (by omega)
      · exact Or.inr h2
theorem recV_most {s : StV} {a b : Int} (ha : 0 ≤ a) (hab : a ≤ b) (hb : b ≤ 120) : ((recV s a).steps.length : Int) ≤ a ∧ (∃ r, (recV s b).steps = (recV s a).steps ++ r) ∧ (((recV s a).steps.length : Int) = a ∨ recV s a = recV s b) := by
  have e1 : mostN a = a.toNat := by unfold mostN imin imax; split <;> split <;> omega
  have e2 : mostN b = a.toNat + (b - a).toNat := by unfold mostN imin imax; split <;> split <;> omega
  obtain ⟨h1, h2⟩ := recL_more s.ip a.toNat (b - a).toNat s []
  have h3 := recL_len s.ip a.toNat s []
  unfold recV
  rw [e1, e2]
  simp only [List.length_nil, Nat.zero_add] at h2 h3
  exact ⟨by omega, h1, h2.imp (fun h => by omega) (fun h => h)⟩

/-! ### Which recordings may be -/
def singleB (x : SnV) : Bool := plB x.cell && ((arB x.cell || decide (x.arg = 0)) && (placeB x.ip && (placeB (if arB x.cell = true then x.ip + 1 else x.ip) && placeB x.next)))
def rightL (start : Int) : Int → Bool → List SnV → Option Int
  | at_, _, [] => some at_
  | at_, more, x :: r => if singleB x = false ∨ x.ip ≠ at_ ∨ (more = true ∧ x.ip = start) then none else rightL start x.next true r
def rightR (r : RcV) : Bool := if 120 < r.steps.length then false else if r.loop ≠ (decide (0 < r.steps.length) && decide (r.fin = r.start)) then false else match rightL r.start r.start false r.steps with
  | none => false
  | some a => decide (a = r.fin)
end Go.Proofs.Ytkjpmkopnkkbmaa

/- A recording's steps are steps of the machine. No program in sight. -/
set_option maxRecDepth 100000
namespace Go.Proofs.Ytkjpmkopnkkbmaa
open Go.RowKit

/-- Which fault a step is does not hang on the Handler. -/
theorem mDo_h0 {s : StV} {c arg was k : Int} {th : Bool} (h1 : c ≠ 1) (he : mDo s c arg was = .bad k th) : mDo { s with handler := 0 } c arg was = .bad k th := by
  unfold mDo at he ⊢
  by_cases h0 : c = 0
  · rw [if_pos h0] at he; cases he
  rw [if_neg h0] at he ⊢
  by_cases h2 : c = 2
  · rw [if_pos h2] at he; cases he
  rw [if_neg h2] at he ⊢
  by_cases h4 : c = 4
  · rw [if_pos h4] at he; split at he <;> cases he
  rw [if_neg h4] at he ⊢
  by_cases h3 : c = 3
  · rw [if_pos h3] at he; cases he
  rw [if_neg h3] at he ⊢
  by_cases h5 : c = 5
  · rw [if_pos h5] at he; cases he
  rw [if_neg h5] at he ⊢
  by_cases h6 : 6 ≤ c ∧ c ≤ 10
  · rw [if_pos h6] at he; cases he
  rw [if_neg h6] at he ⊢
  by_cases h30 : 30 ≤ c ∧ c ≤ 32
  · rw [if_pos h30] at he ⊢
    unfold mMem at he ⊢
    split at he
    · next hx => rw [← he]; exact if_pos hx
    split at he <;> cases he
  rw [if_neg h30] at he ⊢
  by_cases h33 : (33 ≤ c ∧ c ≤ 36) ∨ c = 39 ∨ c = 40
  · rw [if_pos h33] at he; cases he
  rw [if_neg h33] at he ⊢
  by_cases h37 : c = 37 ∨ c = 38
  · rw [if_pos h37] at he; cases he
  rw [if_neg h37] at he ⊢
  by_cases h41 : c = 41 ∨ c = 42
  · rw [if_pos h41] at he ⊢
    unfold mSay at he ⊢
    split at he
    · next hx => rw [← he]; exact if_pos hx
    · cases he
  rw [if_neg h41] at he ⊢
  by_cases h43 : c = 43
  · rw [if_pos h43] at he; cases he
  rw [if_neg h43] at he ⊢
  by_cases h44 : (44 ≤ c ∧ c ≤ 46) ∨ c = 1
  · rw [if_pos h44] at he ⊢
    unfold mFlow at he ⊢
    by_cases e44 : c = 44
    · rw [if_pos e44] at he ⊢
      split at he
      · next hx => rw [← he]; exact if_pos hx
      · cases he
    rw [if_neg e44] at he ⊢
    by_cases e45 : c = 45
    · rw [if_pos e45] at he ⊢
      split at he
      · cases he
      · next hx => rw [← he]; exact if_neg hx
    rw [if_neg e45] at he ⊢
    rw [if_pos (by omega)] at he; cases he
  rw [if_neg h44] at he ⊢
  by_cases h47 : c = 47
  · rw [if_pos h47] at he; cases he
  rw [if_neg h47] at he ⊢
  unfold mReck at he ⊢
  split at he
  · cases he
  next hx =>
  split at he
  · cases he
  · next hy => rw [← he]; exact (if_neg hx).trans (if_neg hy)
theorem mStep_h0 {s : StV} {k : Int} {th : Bool} (h1 : getI s.mem s.ip ≠ 1) (he : mStep s = .bad k th) : mStep { s with handler := 0 } = .bad k th := by
  unfold mStep at he
  show (if s.ip < 0 ∨ (s.mem.length : Int) ≤ s.ip then Rs.bad (-9) false else _) = _
  split at he
  · next hx => rw [if_pos hx]; exact he
  next hx =>
  rw [if_neg hx]
  show (if 64 ≤ getI s.mem s.ip then _ else _) = _
  split at he
  · next hy =>
    rw [if_pos hy]
    show (if 48 ≤ s.back.length then _ else _) = _
    split at he
    · next hz => rw [if_pos hz]; exact he
    · cases he
  next hy =>
  rw [if_neg hy]
  show (if ¬ (0 ≤ getI s.mem s.ip ∧ getI s.mem s.ip < 48) then _ else _) = _
  split at he
  · next hz => rw [if_pos hz]; exact he
  next hz =>
  rw [if_neg hz]
  show (if opArg (getI s.mem s.ip) = true ∧ (s.mem.length : Int) ≤ s.ip + 1 then _ else _) = _
  split at he
  · next ha => rw [if_pos ha]; exact he
  next ha =>
  rw [if_neg ha]
  show (if mRoom s (getI s.mem s.ip) ≠ 0 then Rs.bad (mRoom s (getI s.mem s.ip)) false else _) = _
  split at he
  · next hb => rw [if_pos hb]; exact he
  next hb =>
  rw [if_neg hb]
  exact mDo_h0 (s := { s with ip := mNext s (getI s.mem s.ip) }) h1 he
theorem plain_no {c : Int} (h : plB c = true) : c ≠ 0 ∧ c ≠ 1 := by
  refine ⟨?_, ?_⟩ <;> (rintro rfl; revert h; decide)
/-- A step that is recorded leaves a running machine. -/
theorem nextV_on {s t : StV} {x : SnV} (h : nextV s = some (x, t)) : t.status = 0 := by
  obtain ⟨h0, _, h2, _, _, _, _, h7, h8, _, _⟩ := nextV_run h
  rw [h7] at h8
  obtain ⟨n0, n1⟩ := plain_no h8
  have hrs := mStep_rs s
  rw [h2]; unfold mAdv
  cases hst : mStep s with
  | ok s' =>
    rw [hst] at hrs
    have hrs : s'.status = s.status ∨ getI s.mem s.ip = 0 := hrs
    show s'.status = 0
    rw [hrs.resolve_right n0, h0]
  | bad k th =>
    exfalso
    have g := mStep_h0 n1 hst
    have e : stepV { s with handler := 0 } = mAdv { s with handler := 0 } := by
      unfold stepV
      rw [runM_go (s := { s with handler := 0 }) h0 (by decide), runM_stop (Or.inr (by decide))]
    have e2 : (stepV { s with handler := 0 }).status = 2 := by
      rw [e]; unfold mAdv; rw [g]
      show (mFault _ k).status = 2
      unfold mFault mCaught
      rw [if_neg (by cases th <;> (show ¬ ((3 : Int) ≤ 0 ∧ _); omega))]
    unfold nextV at h
    split at h
    · cases h
    first
    | cases h
    | (rw [if_pos e2] at h; cases h)
theorem recL_run (start : Int) : ∀ (n : Nat) (s : StV) (l : List SnV), ∃ j t, (recL start n s l).steps.length = l.length + j ∧ mRun j s = (t, 0) ∧ (recL start n s l).fin = t.ip ∧ (0 < j → t.status = 0)
  | 0, s, l => ⟨0, s, rfl, rfl, rfl, fun h => by omega⟩
  | n + 1, s, l => by
    unfold recL
    split
    · exact ⟨0, s, rfl, rfl, rfl, fun h => by omega⟩
    cases hn : nextV s with
    | none => exact ⟨0, s, rfl, rfl, rfl, fun h => by omega⟩
    | some p =>
      obtain ⟨x, t⟩ := p
      obtain ⟨j, u, e1, e2, e3, e4⟩ := recL_run start n t (l ++ [x])
      refine ⟨j + 1, u, ?_, ?_, e3, fun _ => ?_⟩
      · show (recL start n t (l ++ [x])).steps.length = _
        rw [e1, List.length_append, List.length_singleton]; omega
      · show (if s.status = 0 then mRun j (mAdv s) else (s, j + 1)) = _
        rw [if_pos (nextV_run hn).1, ← (nextV_run hn).2.2.1, e2]
      · rcases Nat.eq_zero_or_pos j with h | h
        · subst h
          have : u = t := by injection e2.symm
          rw [this]; exact nextV_on hn
        · exact e4 h
theorem recV_run (s : StV) (most : Int) : ∃ t, runM s ((recV s most).steps.length : Int) = (t, 0) ∧ (recV s most).fin = t.ip ∧ (0 < (recV s most).steps.length → t.status = 0) := by
  obtain ⟨j, t, e1, e2, e3, e4⟩ := recL_run s.ip (mostN most) s []
  have e1 : (recV s most).steps.length = j := by rw [show (recV s most) = recL s.ip (mostN most) s [] from rfl, e1]; simp
  refine ⟨t, ?_, e3, by rw [e1]; exact e4⟩
  rw [e1]; unfold runM
  rw [if_pos (by omega), Int.toNat_natCast, e2]; rfl
theorem recL_no (start : Int) (n : Nat) (s : StV) (h : nextV s = none ∨ n = 0) : recL start n s [] = ⟨start, s.ip, false, []⟩ := by
  cases n with
  | zero => rfl
  | succ n =>
    rcases h with h | h
    · unfold recL
      rw [if_neg (by unfold lpB; simp), h]
    · cases h
theorem recV_no {s : StV} {most : Int} (h : s.status ≠ 0 ∨ most = 0) : recV s most = ⟨s.ip, s.ip, false, []⟩ := by
  refine recL_no _ _ _ (h.imp (fun h => ?_) (fun h => by rw [h]; rfl))
  unfold nextV; rw [if_pos (Or.inr (Or.inr (Or.inl h)))]
end Go.Proofs.Ytkjpmkopnkkbmaa

/- Functions of Record, read without their frames; that each is enough. Printed by a program of mine (wip/lift/gen.py). -/
set_option maxRecDepth 100000
namespace Go.Proofs.Ytkjpmkopnkkbmaa
open Go.RowKit

-- holloway/record.Right
def record_Right_sh (r__Start1 : Int) (r__End2 : Int) (r__Loop3 : Bool) (r__Steps4 : Sl) (w : World) (K : Value → World → Prop) : Prop :=
 ∀ (b5 : Nat) (w6 : World), b5 = w.heap.size → w6 = World.alloc w (.cells #[.int .i64 r__Start1, .int .i64 r__End2, .bool r__Loop3, r__Steps4.val] T_api_Recording) →
 ∃ n7 : Int, w6.cell? ⟨b5, 0, none⟩ = some (.int .i64 n7) ∧
 ∃ J4 : Bool → World → Prop, (∀ (b14 : Bool) (w13 : World), J4 b14 w13 →
 brB b14
 (K (.bool false) w13)
 (∃ s15 : Sl, w13.cell? ⟨b5, 3, none⟩ = some (s15.val) ∧
 ∃ (I1 : Int → Int → World → Prop) (μ1 : Int → Int → World → Nat), I1 n7 (0 : Int) w13 ∧ ∀ (at34 : Int) (n17 : Int) (w16 : World), I1 at34 n17 w16 →
 brB (decide (n17 < (s15.len : Int)))
 (∃ a18 : Addr, s15.ptr = some a18 ∧ 0 ≤ n17 ∧ n17 < (s15.len : Int) ∧
 ∃ n_Ip19 : Int, ∃ n_Cell20 : Int, ∃ n_Arg21 : Int, ∃ n_Next22 : Int, w16.cell? (Addr.add a18 (Int.toNat n17 * 4)) = some (.int .i64 n_Ip19) ∧ w16.cell? (Addr.add (Addr.add a18 (Int.toNat n17 * 4)) 1) = some (.int .i64 n_Cell20) ∧ w16.cell? (Addr.add (Addr.add a18 (Int.toNat n17 * 4)) 2) = some (.int .i64 n_Arg21) ∧ w16.cell? (Addr.add (Addr.add a18 (Int.toNat n17 * 4)) 3) = some (.int .i64 n_Next22) ∧
 ∀ (b23 : Nat) (w24 : World), b23 = w16.heap.size → w24 = World.alloc w16 (.cells #[.int .i64 (0 : Int), .int .i64 (0 : Int), .int .i64 (0 : Int), .int .i64 (0 : Int)] T_api_Seen) →
 wrOk w24 ⟨b23, 0, none⟩ 4 ∧ ∀ w25 : World, w25 = stW w24 ⟨b23, 0, none⟩ 0 [.int .i64 n_Ip19, .int .i64 n_Cell20, .int .i64 n_Arg21, .int .i64 n_Next22] →
 ∃ J13 : Bool → World → Prop, (∀ (b38 : Bool) (w37 : World), J13 b38 w37 →
 brB b38
 (K (.bool false) w37)
 (∃ n39 : Int, w37.cell? ⟨b23, 3, none⟩ = some (.int .i64 n39) ∧
 I1 n39 (wr (n17 + (1 : Int))) w37 ∧ μ1 n39 (wr (n17 + (1 : Int))) w37 < μ1 at34 n17 w16)) ∧
 ∃ n_Ip26 : Int, ∃ n_Cell27 : Int, ∃ n_Arg28 : Int, ∃ n_Next29 : Int, w25.cell? ⟨b23, 0, none⟩ = some (.int .i64 n_Ip26) ∧ w25.cell? ⟨b23, 1, none⟩ = some (.int .i64 n_Cell27) ∧ w25.cell? ⟨b23, 2, none⟩ = some (.int .i64 n_Arg28) ∧ w25.cell? ⟨b23, 3, none⟩ = some (.int .i64 n_Next29) ∧
 Calls Try.prog fn_record_single #[.agg #[.int .i64 n_Ip26, .int .i64 n_Cell27, .int .i64 n_Arg28, .int .i64 n_Next29]] w25 fun e30 w31 => ∃ b32 : Bool, e30 = .returned (.bool b32) ∧
 brB (!b32)
 (J13 true w31)
 (∃ n33 : Int, w31.cell? ⟨b23, 0, none⟩ = some (.int .i64 n33) ∧
 brB (n33 != at34)
 (J13 true w31)
 (brB (decide (n17 > (0 : Int)))
 (∃ n35 : Int, w31.cell? ⟨b23, 0, none⟩ = some (.int .i64 n35) ∧
 ∃ n36 : Int, w31.cell? ⟨b5, 0, none⟩ = some (.int .i64 n36) ∧
 J13 (n35 == n36) w31)
 (J13 false w31))))
 (∃ n40 : Int, w16.cell? ⟨b5, 1, none⟩ = some (.int .i64 n40) ∧
 K (.bool (at34 == n40)) w16))) ∧
 ∃ s8 : Sl, w6.cell? ⟨b5, 3, none⟩ = some (s8.val) ∧
 brB (decide ((s8.len : Int) > (120 : Int)))
 (J4 true w6)
 (∃ b9 : Bool, w6.cell? ⟨b5, 2, none⟩ = some (.bool b9) ∧
 ∃ s10 : Sl, w6.cell? ⟨b5, 3, none⟩ = some (s10.val) ∧
 brB (decide ((s10.len : Int) > (0 : Int)))
 (∃ n11 : Int, w6.cell? ⟨b5, 1, none⟩ = some (.int .i64 n11) ∧
 ∃ n12 : Int, w6.cell? ⟨b5, 0, none⟩ = some (.int .i64 n12) ∧
 J4 (!(b9 == (n11 == n12))) w6)
 (J4 (!(b9 == false)) w6))
def record_Right_an : An := ⟨[(5, [(3, .int .i64), (31, .int .i64)])], [], [(3, [(27, .bool)]), (8, [(55, .bool)])]⟩
theorem record_Right_lift {r__Start1 : Int} {r__End2 : Int} {r__Loop3 : Bool} {r__Steps4 : Sl} {w : World} {K : Value → World → Prop} (h : record_Right_sh r__Start1 r__End2 r__Loop3 r__Steps4 w K) : Calls Try.prog fn_record_Right #[.agg #[.int .i64 r__Start1, .int .i64 r__End2, .bool r__Loop3, r__Steps4.val]] w fun e w' => ∃ v, e = .returned v ∧ K v w' :=
   lift_calls (A := record_Right_an) (c := bodyOf Try.f16) (args := [.agg #[.int .i64 r__Start1, .int .i64 r__End2, .bool r__Loop3, r__Steps4.val]]) orc orc_wide Try.func16 (by kernel_rfl) (by kernel_rfl) (Eq.mp (by kernel_rfl : record_Right_sh r__Start1 r__End2 r__Loop3 r__Steps4 w K = wpc orc Try.f16.ntmps record_Right_an (bodyOf Try.f16) (argl 0 [.agg #[.int .i64 r__Start1, .int .i64 r__End2, .bool r__Loop3, r__Steps4.val]]) w (retQ orc Try.f16.results.toList K)) h)

-- holloway/record.Cells
def record_Cells_sh (r__Start1 : Int) (r__End2 : Int) (r__Loop3 : Bool) (r__Steps4 : Sl) (w : World) (K : Value → World → Prop) : Prop :=
 ∀ (b5 : Nat) (w6 : World), b5 = w.heap.size → w6 = World.alloc w (.cells #[.int .i64 r__Start1, .int .i64 r__End2, .bool r__Loop3, r__Steps4.val] T_api_Recording) →
 ∃ s7 : Sl, w6.cell? ⟨b5, 3, none⟩ = some (s7.val) ∧
 ∃ (I1 : Sl → Int → World → Prop) (μ1 : Sl → Int → World → Nat), I1 (⟨none, 0, 0⟩ : Sl) (0 : Int) w6 ∧ ∀ (out18 : Sl) (n9 : Int) (w8 : World), I1 out18 n9 w8 →
 brB (decide (n9 < (s7.len : Int)))
 (∃ J7 : Sl → World → Prop, (∀ (out39 : Sl) (w33 : World), J7 out39 w33 →
 I1 out39 (wr (n9 + (1 : Int))) w33 ∧ μ1 out39 (wr (n9 + (1 : Int))) w33 < μ1 out18 n9 w8) ∧
 ∃ a10 : Addr, s7.ptr = some a10 ∧ 0 ≤ n9 ∧ n9 < (s7.len : Int) ∧
 ∃ n_Ip11 : Int, ∃ n_Cell12 : Int, ∃ n_Arg13 : Int, ∃ n_Next14 : Int, w8.cell? (Addr.add a10 (Int.toNat n9 * 4)) = some (.int .i64 n_Ip11) ∧ w8.cell? (Addr.add (Addr.add a10 (Int.toNat n9 * 4)) 1) = some (.int .i64 n_Cell12) ∧ w8.cell? (Addr.add (Addr.add a10 (Int.toNat n9 * 4)) 2) = some (.int .i64 n_Arg13) ∧ w8.cell? (Addr.add (Addr.add a10 (Int.toNat n9 * 4)) 3) = some (.int .i64 n_Next14) ∧
 ∀ (b15 : Nat) (w16 : World), b15 = w8.heap.size → w16 = World.alloc w8 (.cells #[.int .i64 (0 : Int), .int .i64 (0 : Int), .int .i64 (0 : Int), .int .i64 (0 : Int)] T_api_Seen) →
 wrOk w16 ⟨b15, 0, none⟩ 4 ∧ ∀ w17 : World, w17 = stW w16 ⟨b15, 0, none⟩ 0 [.int .i64 n_Ip11, .int .i64 n_Cell12, .int .i64 n_Arg13, .int .i64 n_Next14] →
 ∃ n19 : Int, w17.cell? ⟨b15, 0, none⟩ = some (.int .i64 n19) ∧
 ∀ (b20 : Nat) (w21 : World), b20 = w17.heap.size → w21 = World.alloc w17 (.cells #[.int .i64 n19] T_int) →
 ∃ s22 : Sl, ∃ w23 : World, (Builtin.append_ #[T_sl_int, T_sl_int] T_sl_int #[out18.val, .slice (some ⟨b20, 0, none⟩) 1 1]).run Try.prog w21 = .ok (s22.val) w23 ∧
 ∃ n24 : Int, w23.cell? ⟨b15, 1, none⟩ = some (.int .i64 n24) ∧
 Calls Try.prog fn_record_arg #[.int .i64 n24] w23 fun e25 w26 => ∃ b27 : Bool, e25 = .returned (.bool b27) ∧
 brB b27
 (∃ n28 : Int, w26.cell? ⟨b15, 0, none⟩ = some (.int .i64 n28) ∧
 ∀ (b29 : Nat) (w30 : World), b29 = w26.heap.size → w30 = World.alloc w26 (.cells #[.int .i64 (wr (n28 + (1 : Int)))] T_int) →
 ∃ s31 : Sl, ∃ w32 : World, (Builtin.append_ #[T_sl_int, T_sl_int] T_sl_int #[s22.val, .slice (some ⟨b29, 0, none⟩) 1 1]).run Try.prog w30 = .ok (s31.val) w32 ∧
 J7 s31 w32)
 (J7 s22 w26))
 (Calls Try.prog fn_slices_Sort_sl_int_int #[out18.val] w8 fun e34 w35 => e34 = .returned (.tuple #[]) ∧
 Calls Try.prog fn_slices_Compact_sl_int_int #[out18.val] w35 fun e36 w37 => ∃ s38 : Sl, e36 = .returned (s38.val) ∧
 K (s38.val) w37)
def record_Cells_an : An := ⟨[(3, [(3, .sl), (9, .int .i64)])], [], [(8, [(3, .sl)])]⟩
theorem record_Cells_lift {r__Start1 : Int} {r__End2 : Int} {r__Loop3 : Bool} {r__Steps4 : Sl} {w : World} {K : Value → World → Prop} (h : record_Cells_sh r__Start1 r__End2 r__Loop3 r__Steps4 w K) : Calls Try.prog fn_record_Cells #[.agg #[.int .i64 r__Start1, .int .i64 r__End2, .bool r__Loop3, r__Steps4.val]] w fun e w' => ∃ v, e = .returned v ∧ K v w' :=
   lift_calls (A := record_Cells_an) (c := bodyOf Try.f17) (args := [.agg #[.int .i64 r__Start1, .int .i64 r__End2, .bool r__Loop3, r__Steps4.val]]) orc orc_wide Try.func17 (by kernel_rfl) (by kernel_rfl) (Eq.mp (by kernel_rfl : record_Cells_sh r__Start1 r__End2 r__Loop3 r__Steps4 w K = wpc orc Try.f17.ntmps record_Cells_an (bodyOf Try.f17) (argl 0 [.agg #[.int .i64 r__Start1, .int .i64 r__End2, .bool r__Loop3, r__Steps4.val]]) w (retQ orc Try.f17.results.toList K)) h)

-- holloway/record.single
def record_single_sh (x__Ip1 : Int) (x__Cell2 : Int) (x__Arg3 : Int) (x__Next4 : Int) (w : World) (K : Value → World → Prop) : Prop :=
 ∀ (b5 : Nat) (w6 : World), b5 = w.heap.size → w6 = World.alloc w (.cells #[.int .i64 x__Ip1, .int .i64 x__Cell2, .int .i64 x__Arg3, .int .i64 x__Next4] T_api_Seen) →
 ∃ n7 : Int, w6.cell? ⟨b5, 0, none⟩ = some (.int .i64 n7) ∧
 ∃ J3 : Int → World → Prop, (∀ (last26 : Int) (w13 : World), J3 last26 w13 →
 ∃ n14 : Int, w13.cell? ⟨b5, 1, none⟩ = some (.int .i64 n14) ∧
 Calls Try.prog fn_record_plain #[.int .i64 n14] w13 fun e15 w16 => ∃ b17 : Bool, e15 = .returned (.bool b17) ∧
 brB b17
 (∃ n18 : Int, w16.cell? ⟨b5, 1, none⟩ = some (.int .i64 n18) ∧
 Calls Try.prog fn_record_arg #[.int .i64 n18] w16 fun e19 w20 => ∃ b21 : Bool, e19 = .returned (.bool b21) ∧
 brB b21
 (∃ n22 : Int, w20.cell? ⟨b5, 0, none⟩ = some (.int .i64 n22) ∧
 Calls Try.prog fn_record_place #[.int .i64 n22] w20 fun e23 w24 => ∃ b25 : Bool, e23 = .returned (.bool b25) ∧
 brB b25
 (Calls Try.prog fn_record_place #[.int .i64 last26] w24 fun e27 w28 => ∃ b29 : Bool, e27 = .returned (.bool b29) ∧
 brB b29
 (∃ n30 : Int, w28.cell? ⟨b5, 3, none⟩ = some (.int .i64 n30) ∧
 Calls Try.prog fn_record_place #[.int .i64 n30] w28 fun e31 w32 => ∃ b33 : Bool, e31 = .returned (.bool b33) ∧
 K (.bool b33) w32)
 (K (.bool false) w28))
 (K (.bool false) w24))
 (∃ n34 : Int, w20.cell? ⟨b5, 2, none⟩ = some (.int .i64 n34) ∧
 brB (n34 == (0 : Int))
 (∃ n35 : Int, w20.cell? ⟨b5, 0, none⟩ = some (.int .i64 n35) ∧
 Calls Try.prog fn_record_place #[.int .i64 n35] w20 fun e36 w37 => ∃ b38 : Bool, e36 = .returned (.bool b38) ∧
 brB b38
 (Calls Try.prog fn_record_place #[.int .i64 last26] w37 fun e39 w40 => ∃ b41 : Bool, e39 = .returned (.bool b41) ∧
 brB b41
 (∃ n42 : Int, w40.cell? ⟨b5, 3, none⟩ = some (.int .i64 n42) ∧
 Calls Try.prog fn_record_place #[.int .i64 n42] w40 fun e43 w44 => ∃ b45 : Bool, e43 = .returned (.bool b45) ∧
 K (.bool b45) w44)
 (K (.bool false) w40))
 (K (.bool false) w37))
 (K (.bool false) w20)))
 (K (.bool false) w16)) ∧
 ∃ n8 : Int, w6.cell? ⟨b5, 1, none⟩ = some (.int .i64 n8) ∧
 Calls Try.prog fn_record_arg #[.int .i64 n8] w6 fun e9 w10 => ∃ b11 : Bool, e9 = .returned (.bool b11) ∧
 brB b11
 (∃ n12 : Int, w10.cell? ⟨b5, 0, none⟩ = some (.int .i64 n12) ∧
 J3 (wr (n12 + (1 : Int))) w10)
 (J3 n7 w10)
def record_single_an : An := ⟨[], [], [(4, [(3, .int .i64)])]⟩
theorem record_single_lift {x__Ip1 : Int} {x__Cell2 : Int} {x__Arg3 : Int} {x__Next4 : Int} {w : World} {K : Value → World → Prop} (h : record_single_sh x__Ip1 x__Cell2 x__Arg3 x__Next4 w K) : Calls Try.prog fn_record_single #[.agg #[.int .i64 x__Ip1, .int .i64 x__Cell2, .int .i64 x__Arg3, .int .i64 x__Next4]] w fun e w' => ∃ v, e = .returned v ∧ K v w' :=
   lift_calls (A := record_single_an) (c := bodyOf Try.f47) (args := [.agg #[.int .i64 x__Ip1, .int .i64 x__Cell2, .int .i64 x__Arg3, .int .i64 x__Next4]]) orc orc_wide Try.func47 (by kernel_rfl) (by kernel_rfl) (Eq.mp (by kernel_rfl : record_single_sh x__Ip1 x__Cell2 x__Arg3 x__Next4 w K = wpc orc Try.f47.ntmps record_single_an (bodyOf Try.f47) (argl 0 [.agg #[.int .i64 x__Ip1, .int .i64 x__Cell2, .int .i64 x__Arg3, .int .i64 x__Next4]]) w (retQ orc Try.f47.results.toList K)) h)

-- holloway/record.arg
def record_arg_sh (cell1 : Int) (w : World) (K : Value → World → Prop) : Prop :=
 brB (decide (cell1 < (64 : Int)))
 (Calls Try.prog fn_op_Arg #[.int .i64 cell1] w fun e2 w3 => ∃ b4 : Bool, e2 = .returned (.bool b4) ∧
 K (.bool b4) w3)
 (K (.bool false) w)
def record_arg_an : An := ⟨[], [], []⟩
theorem record_arg_lift {cell1 : Int} {w : World} {K : Value → World → Prop} (h : record_arg_sh cell1 w K) : Calls Try.prog fn_record_arg #[.int .i64 cell1] w fun e w' => ∃ v, e = .returned v ∧ K v w' :=
   lift_calls (A := record_arg_an) (c := bodyOf Try.f48) (args := [.int .i64 cell1]) orc orc_wide Try.func48 (by kernel_rfl) (by kernel_rfl) (Eq.mp (by kernel_rfl : record_arg_sh cell1 w K = wpc orc Try.f48.ntmps record_arg_an (bodyOf Try.f48) (argl 0 [.int .i64 cell1]) w (retQ orc Try.f48.results.toList K)) h)

-- holloway/record.plain
def record_plain_sh (cell1 : Int) (w : World) (K : Value → World → Prop) : Prop :=
 brB (decide (cell1 ≥ (64 : Int)))
 (K (.bool true) w)
 (Calls Try.prog fn_op_Plain #[.int .i64 cell1] w fun e2 w3 => ∃ b4 : Bool, e2 = .returned (.bool b4) ∧
 K (.bool b4) w3)
def record_plain_an : An := ⟨[], [], []⟩
theorem record_plain_lift {cell1 : Int} {w : World} {K : Value → World → Prop} (h : record_plain_sh cell1 w K) : Calls Try.prog fn_record_plain #[.int .i64 cell1] w fun e w' => ∃ v, e = .returned v ∧ K v w' :=
   lift_calls (A := record_plain_an) (c := bodyOf Try.f62) (args := [.int .i64 cell1]) orc orc_wide Try.func62 (by kernel_rfl) (by kernel_rfl) (Eq.mp (by kernel_rfl : record_plain_sh cell1 w K = wpc orc Try.f62.ntmps record_plain_an (bodyOf Try.f62) (argl 0 [.int .i64 cell1]) w (retQ orc Try.f62.results.toList K)) h)

-- holloway/record.place
def record_place_sh (a_1 : Int) (w : World) (K : Value → World → Prop) : Prop :=
 brB (decide (a_1 ≥ (0 : Int)))
 (K (.bool (decide (a_1 < (3000 : Int)))) w)
 (K (.bool false) w)
def record_place_an : An := ⟨[], [], []⟩
theorem record_place_lift {a_1 : Int} {w : World} {K : Value → World → Prop} (h : record_place_sh a_1 w K) : Calls Try.prog fn_record_place #[.int .i64 a_1] w fun e w' => ∃ v, e = .returned v ∧ K v w' :=
   lift_calls (A := record_place_an) (c := bodyOf Try.f63) (args := [.int .i64 a_1]) orc orc_wide Try.func63 (by kernel_rfl) (by kernel_rfl) (Eq.mp (by kernel_rfl : record_place_sh a_1 w K = wpc orc Try.f63.ntmps record_place_an (bodyOf Try.f63) (argl 0 [.int .i64 a_1]) w (retQ orc Try.f63.results.toList K)) h)

end Go.Proofs.Ytkjpmkopnkkbmaa

/- The package record: its small functions, a step as it is recorded. -/
set_option maxRecDepth 100000
namespace Go.Proofs.Ytkjpmkopnkkbmaa
open Go.RowKit

def seC (x : SnV) : List Value := [.int .i64 x.ip, .int .i64 x.cell, .int .i64 x.arg, .int .i64 x.next]
def se0 : SnV := ⟨0, 0, 0, 0⟩
def seE : Enc SnV := ⟨T_api_Seen, 4, 32, seC, by intro x; rfl, by intro x u hu; simp [seC] at hu; rcases hu with rfl | rfl | rfl | rfl <;> rfl, by decide⟩
theorem seOk : EncOk Try.prog seE T_sl_api_Seen := EncOk.of (z := .agg #[.int .i64 0, .int .i64 0, .int .i64 0, .int .i64 0]) (by kernel_rfl) (by kernel_rfl) (by kernel_rfl)
theorem varSn {w : World} (x : SnV) {G : Nat → World → Prop} (k : ∀ b w', b = w.heap.size → w.heap.size + 1 ≤ w'.heap.size → Ob w' b (seC x) T_api_Seen → Chg No w w' → G b w') : ∀ (b : Nat) (w1 : World), b = w.heap.size → w1 = World.alloc w (.cells (seC se0).toArray T_api_Seen) → wrOk w1 ⟨b, 0, none⟩ 4 ∧ ∀ w2 : World, w2 = stW w1 ⟨b, 0, none⟩ 0 (seC x) → G b w2 := fun b w1 hb hw => by
  have hn := fun (w2 : World) => newOb (w2 := w2) (T := T_api_Seen) (seC se0) (seC x) rfl hb hw
  refine ⟨(hn w1).1, fun w2 hw2 => ?_⟩
  obtain ⟨o, c⟩ := (hn w2).2 hw2
  exact k b w2 hb (by have := o.lt; omega) o c
theorem rdSn {w : World} {b : Nat} {x : SnV} {T : TypeId} {G : Int → Int → Int → Int → Prop} (o : Ob w b (seC x) T) (g : G x.ip x.cell x.arg x.next) :
    ∃ n1 : Int, ∃ n2 : Int, ∃ n3 : Int, ∃ n4 : Int, w.cell? ⟨b, 0, none⟩ = some (.int .i64 n1) ∧ w.cell? ⟨b, 1, none⟩ = some (.int .i64 n2) ∧ w.cell? ⟨b, 2, none⟩ = some (.int .i64 n3) ∧ w.cell? ⟨b, 3, none⟩ = some (.int .i64 n4) ∧ G n1 n2 n3 n4 :=
  ⟨_, _, _, _, o.cell rfl, o.cell rfl, o.cell rfl, o.cell rfl, g⟩
theorem setSn {w : World} {b : Nat} {x : SnV} (x' : SnV) {k n : Nat} {vs : List Value} {G : World → Prop} (o : Ob w b (seC x) T_api_Seen) (hl : k + n ≤ 4) (hn : n = vs.length) (hc : wrL (seC x) k vs = seC x') (g : ∀ w', Ob w' b (seC x') T_api_Seen → Chg (fun j => j = b) w w' → G w') :
    wrOk w ⟨b, k, none⟩ n ∧ ∀ w' : World, w' = stW w ⟨b, k, none⟩ 0 vs → G w' := by
  subst hn
  refine ⟨o.wr (by simpa [seC] using hl), fun w' hw' => ?_⟩
  obtain ⟨o', c'⟩ := o.up (cs' := seC x') (by simpa [seC] using hl) hc hw'
  exact g w' o' c'
theorem hdSt {Q : World → Prop} {b : Nat} {S : StC} {T : TypeId} {G : Int → Int → Sl → Sl → Sl → ByteArray → ByteArray → Int → Int → Int → Prop} (h : ∀ w', Q w' → Ob w' b (stC S) T) (g : G S.ip S.handler S.stack S.back S.mem S.out S.inp S.read S.status S.code) :
    ∃ n1 : Int, ∃ n2 : Int, ∃ s3 : Sl, ∃ s4 : Sl, ∃ s5 : Sl, ∃ t6 : ByteArray, ∃ t7 : ByteArray, ∃ n8 : Int, ∃ n9 : Int, ∃ n10 : Int, held Q ⟨b, 0, none⟩ (.int .i64 n1) ∧ held Q ⟨b, 1, none⟩ (.int .i64 n2) ∧ held Q ⟨b, 2, none⟩ (s3.val) ∧ held Q ⟨b, 3, none⟩ (s4.val) ∧ held Q ⟨b, 4, none⟩ (s5.val) ∧ held Q ⟨b, 5, none⟩ (.string t6) ∧ held Q ⟨b, 6, none⟩ (.string t7) ∧ held Q ⟨b, 7, none⟩ (.int .i64 n8) ∧ held Q ⟨b, 8, none⟩ (.int .i64 n9) ∧ held Q ⟨b, 9, none⟩ (.int .i64 n10) ∧ G n1 n2 s3 s4 s5 t6 t7 n8 n9 n10 :=
  ⟨_, _, _, _, _, _, _, _, _, _, Ob.held h rfl, Ob.held h rfl, Ob.held h rfl, Ob.held h rfl, Ob.held h rfl, Ob.held h rfl, Ob.held h rfl, Ob.held h rfl, Ob.held h rfl, Ob.held h rfl, g⟩
theorem hdSn {Q : World → Prop} {b : Nat} {x : SnV} {T : TypeId} {G : Int → Int → Int → Int → Prop} (h : ∀ w', Q w' → Ob w' b (seC x) T) (g : G x.ip x.cell x.arg x.next) :
    ∃ n1 : Int, ∃ n2 : Int, ∃ n3 : Int, ∃ n4 : Int, held Q ⟨b, 0, none⟩ (.int .i64 n1) ∧ held Q ⟨b, 1, none⟩ (.int .i64 n2) ∧ held Q ⟨b, 2, none⟩ (.int .i64 n3) ∧ held Q ⟨b, 3, none⟩ (.int .i64 n4) ∧ G n1 n2 n3 n4 :=
  ⟨_, _, _, _, Ob.held h rfl, Ob.held h rfl, Ob.held h rfl, Ob.held h rfl, g⟩
theorem place_rc (a : Int) (w : World) : Calls Try.prog fn_record_place #[.int .i64 a] w fun e w' => e = .returned (.bool (placeB a)) ∧ w = w' := by
  refine (record_place_lift (K := fun v w' => v = .bool (placeB a) ∧ w = w') ?_).mono (by rintro e w' ⟨v, rfl, rfl, h⟩; exact ⟨rfl, h⟩)
  unfold record_place_sh placeB
  refine brB_of (fun h => ?_) (fun h => ?_)
  · have h : 0 ≤ a := by have := of_decide_eq_true h; omega
    exact ⟨by rw [decide_eq_true h]; rfl, rfl⟩
  · have h : ¬ 0 ≤ a := by have := of_decide_eq_false h; omega
    exact ⟨by rw [decide_eq_false h]; rfl, rfl⟩
theorem plain_rc (c : Int) (w : World) : Calls Try.prog fn_record_plain #[.int .i64 c] w fun e w' => e = .returned (.bool (plB c)) ∧ w = w' := by
  refine (record_plain_lift (K := fun v w' => v = .bool (plB c) ∧ w = w') ?_).mono (by rintro e w' ⟨v, rfl, rfl, h⟩; exact ⟨rfl, h⟩)
  unfold record_plain_sh plB
  refine brB_of (fun h => ?_) (fun h => ?_)
  · have h : 64 ≤ c := by have := of_decide_eq_true h; omega
    exact ⟨by rw [decide_eq_true h]; rfl, rfl⟩
  · have h : ¬ 64 ≤ c := by have := of_decide_eq_false h; omega
    refine (plain_any c w).mono ?_
    rintro e w' ⟨rfl, rfl⟩
    exact ⟨_, rfl, by rw [decide_eq_false h]; rfl, rfl⟩
theorem arg_rc (c : Int) (w : World) : Calls Try.prog fn_record_arg #[.int .i64 c] w fun e w' => e = .returned (.bool (arB c)) ∧ w = w' := by
  refine (record_arg_lift (K := fun v w' => v = .bool (arB c) ∧ w = w') ?_).mono (by rintro e w' ⟨v, rfl, rfl, h⟩; exact ⟨rfl, h⟩)
  unfold record_arg_sh arB
  refine brB_of (fun h => ?_) (fun h => ?_)
  · refine (arg_any c w).mono ?_
    rintro e w' ⟨rfl, rfl⟩
    exact ⟨_, rfl, by rw [h]; rfl, rfl⟩
  · exact ⟨by rw [h]; rfl, rfl⟩
/-- What stands in a cell; 0, if there is none. -/
def loadV (s : StV) (a : Int) : Int := if a < 0 ∨ (s.mem.length : Int) ≤ a then 0 else getI s.mem a
/-- What a step that is recorded leaves. -/
def NxR (w : World) (s : StV) (x : SnV) (S' : StC) (b : Bool) (w' : World) : Prop := match nextV s with
  | none => b = false
  | some (v, t) => b = true ∧ x = v ∧ StX (fun k => w.heap.size ≤ k ∧ k < w'.heap.size) w' S' t
end Go.Proofs.Ytkjpmkopnkkbmaa

/- The package record: Loop. -/
set_option maxRecDepth 100000
namespace Go.Proofs.Ytkjpmkopnkkbmaa
open Go.RowKit

structure RcC where
  start : Int
  fin : Int
  loop : Bool
  steps : Sl
def rcC (r : RcC) : List Value := [.int .i64 r.start, .int .i64 r.fin, .bool r.loop, r.steps.val]
def rc0 : RcC := ⟨0, 0, false, nilS⟩
theorem varRc {w : World} (x : RcC) {G : Nat → World → Prop} (k : ∀ b w', b = w.heap.size → w.heap.size + 1 ≤ w'.heap.size → Ob w' b (rcC x) T_api_Recording → Chg No w w' → G b w') : ∀ (b : Nat) (w1 : World), b = w.heap.size → w1 = World.alloc w (.cells (rcC rc0).toArray T_api_Recording) → wrOk w1 ⟨b, 0, none⟩ 4 ∧ ∀ w2 : World, w2 = stW w1 ⟨b, 0, none⟩ 0 (rcC x) → G b w2 := fun b w1 hb hw => by
  have hn := fun (w2 : World) => newOb (w2 := w2) (T := T_api_Recording) (rcC rc0) (rcC x) rfl hb hw
  refine ⟨(hn w1).1, fun w2 hw2 => ?_⟩
  obtain ⟨o, c⟩ := (hn w2).2 hw2
  exact k b w2 hb (by have := o.lt; omega) o c
theorem inRc {w : World} (x : RcC) {G : Nat → World → Prop} (k : ∀ b w', b = w.heap.size → w'.heap.size = w.heap.size + 1 → Ob w' b (rcC x) T_api_Recording → Chg No w w' → G b w') : ∀ (b : Nat) (w' : World), b = w.heap.size → w' = World.alloc w (.cells (rcC x).toArray T_api_Recording) → G b w' := fun b w' hb hw =>
  k b w' hb (by rw [hw]; simp) (by rw [hw, hb]; exact Ob.new w (rcC x) T_api_Recording) (al hw)
theorem rdRc {w : World} {b : Nat} {x : RcC} {T : TypeId} {G : Int → Int → Bool → Sl → Prop} (o : Ob w b (rcC x) T) (g : G x.start x.fin x.loop x.steps) :
    ∃ n1 : Int, ∃ n2 : Int, ∃ b3 : Bool, ∃ s4 : Sl, w.cell? ⟨b, 0, none⟩ = some (.int .i64 n1) ∧ w.cell? ⟨b, 1, none⟩ = some (.int .i64 n2) ∧ w.cell? ⟨b, 2, none⟩ = some (.bool b3) ∧ w.cell? ⟨b, 3, none⟩ = some (s4.val) ∧ G n1 n2 b3 s4 :=
  ⟨_, _, _, _, o.cell rfl, o.cell rfl, o.cell rfl, o.cell rfl, g⟩
theorem hdRc {Q : World → Prop} {b : Nat} {x : RcC} {T : TypeId} {G : Int → Int → Bool → Sl → Prop} (h : ∀ w', Q w' → Ob w' b (rcC x) T) (g : G x.start x.fin x.loop x.steps) :
    ∃ n1 : Int, ∃ n2 : Int, ∃ b3 : Bool, ∃ s4 : Sl, held Q ⟨b, 0, none⟩ (.int .i64 n1) ∧ held Q ⟨b, 1, none⟩ (.int .i64 n2) ∧ held Q ⟨b, 2, none⟩ (.bool b3) ∧ held Q ⟨b, 3, none⟩ (s4.val) ∧ G n1 n2 b3 s4 :=
  ⟨_, _, _, _, Ob.held h rfl, Ob.held h rfl, Ob.held h rfl, Ob.held h rfl, g⟩
theorem setRc {w : World} {b : Nat} {x : RcC} (x' : RcC) {k n : Nat} {vs : List Value} {G : World → Prop} (o : Ob w b (rcC x) T_api_Recording) (hl : k + n ≤ 4) (hn : n = vs.length) (hc : wrL (rcC x) k vs = rcC x') (g : ∀ w', Ob w' b (rcC x') T_api_Recording → Chg (fun j => j = b) w w' → G w') :
    wrOk w ⟨b, k, none⟩ n ∧ ∀ w' : World, w' = stW w ⟨b, k, none⟩ 0 vs → G w' := by
  subst hn
  refine ⟨o.wr (by simpa [rcC] using hl), fun w' hw' => ?_⟩
  obtain ⟨o', c'⟩ := o.up (cs' := rcC x') (by simpa [rcC] using hl) hc hw'
  exact g w' o' c'
/-- A recording in memory; its steps in blocks of D. -/
structure RcOw (D : Nat → Prop) (w : World) (R : RcC) (r : RcV) : Prop where
  nums : R.start = r.start ∧ R.fin = r.fin ∧ R.loop = r.loop
  steps : Ox seE w R.steps r.steps
  stD : ∀ k, R.steps.blk = some k → D k
theorem RcOw.chg {D X : Nat → Prop} {w w' : World} {R : RcC} {r : RcV} (h : RcOw D w R r) (c : Chg X w w') (hX : ∀ k, D k → ¬ X k) : RcOw D w' R r := ⟨h.nums, h.steps.chg c (fun k hk => hX k (h.stD k hk)), h.stD⟩
theorem RcOw.no {D : Nat → Prop} {w w' : World} {R : RcC} {r : RcV} (h : RcOw D w R r) (c : Chg No w w') : RcOw D w' R r := h.chg c (fun _ _ h => h)
theorem stxA' {D : Nat → Prop} {w : World} {S : StC} {s : StV} (h : StX D w S s) : StIs (fun _ => True) w S s := ⟨h.nums, h.st.rd, h.bk.rd, h.me.rd, fun _ _ => trivial, fun _ _ => trivial, fun _ _ => trivial⟩
end Go.Proofs.Ytkjpmkopnkkbmaa

/- hollowayref1's Op, Arg and Plain. -/
set_option maxRecDepth 100000
namespace Go.Proofs.Ytkjpmkopnkkbmaa
open Go.RowKit

theorem refOp_any (op : Int) (w : World) : Calls Try.prog fn_hollowayref1_Op #[.int .i64 op] w fun e w' => e = .returned (.bool (decide (0 ≤ op ∧ op < 48))) ∧ w = w' := by
  refine (hollowayref1_Op_lift (K := fun v w' => v = .bool (decide (0 ≤ op ∧ op < 48)) ∧ w = w') ?_).mono (by rintro e w' ⟨v, rfl, rfl, h⟩; exact ⟨rfl, h⟩)
  unfold hollowayref1_Op_sh
  refine brB_of (fun h => ⟨?_, rfl⟩) (fun h => ⟨?_, rfl⟩)
  · simp at h; simp [h]
  · simp at h; simp; omega
theorem refArg_any (op : Int) (w : World) : Calls Try.prog fn_hollowayref1_Arg #[.int .i64 op] w fun e w' => e = .returned (.bool (opArg op)) ∧ w = w' := by
  refine (hollowayref1_Arg_lift (K := fun v w' => v = .bool (opArg op) ∧ w = w') ?_).mono (by rintro e w' ⟨v, rfl, rfl, h⟩; exact ⟨rfl, h⟩)
  unfold hollowayref1_Arg_sh
  unfold opArg
  repeat' (first | refine brB_of (fun _ => ?_) (fun _ => ?_))
  all_goals (refine ⟨?_, rfl⟩; first | congr 1 | skip)
  all_goals (rw [Bool.eq_iff_iff]; simp only [decide_eq_true_eq, decide_eq_false_iff_not, beq_iff_eq, beq_eq_false_iff_ne, bne_iff_ne, ne_eq, bne_eq_false_iff_eq, Bool.not_eq_true', Bool.false_eq_true, false_iff, true_iff, not_and, not_or, Decidable.not_not] at *; omega)
theorem refPlain_any (op : Int) (w : World) : Calls Try.prog fn_hollowayref1_Plain #[.int .i64 op] w fun e w' => e = .returned (.bool (opPlain op)) ∧ w = w' := by
  refine (hollowayref1_Plain_lift (K := fun v w' => v = .bool (opPlain op) ∧ w = w') ?_).mono (by rintro e w' ⟨v, rfl, rfl, h⟩; exact ⟨rfl, h⟩)
  unfold hollowayref1_Plain_sh
  refine (refOp_any op w).mono ?_
  rintro e w3 ⟨rfl, rfl⟩
  refine ⟨_, rfl, ?_⟩
  unfold opPlain
  repeat' (first | refine brB_of (fun _ => ?_) (fun _ => ?_))
  all_goals (refine ⟨?_, rfl⟩; first | congr 1 | skip)
  all_goals (rw [Bool.eq_iff_iff]; simp only [decide_eq_true_eq, decide_eq_false_iff_not, beq_iff_eq, beq_eq_false_iff_ne, bne_iff_ne, ne_eq, bne_eq_false_iff_eq, Bool.not_eq_true', Bool.false_eq_true, false_iff, true_iff, not_and, not_or, Decidable.not_not] at *; omega)
end Go.Proofs.Ytkjpmkopnkkbmaa

/- hollowayref1's Moves. -/
set_option maxRecDepth 100000
namespace Go.Proofs.Ytkjpmkopnkkbmaa
open Go.RowKit

def isTwo (op : Int) : Bool := decide (11 ≤ op ∧ op ≤ 15 ∨ 17 ≤ op ∧ op ≤ 19 ∨ 21 ≤ op ∧ op ≤ 25 ∨ op = 28 ∨ op = 29)
def isOne (op : Int) : Bool := decide (op = 16 ∨ op = 20 ∨ op = 26 ∨ op = 27)
theorem isTwo_any (op : Int) (w : World) : Calls Try.prog fn_hollowayref1_IsTwo #[.int .i64 op] w fun e w' => e = .returned (.bool (isTwo op)) ∧ w = w' := by
  refine (hollowayref1_IsTwo_lift (K := fun v w' => v = .bool (isTwo op) ∧ w = w') ?_).mono (by rintro e w' ⟨v, rfl, rfl, h⟩; exact ⟨rfl, h⟩)
  unfold hollowayref1_IsTwo_sh
  unfold isTwo
  repeat' (first | refine brB_of (fun _ => ?_) (fun _ => ?_))
  all_goals (refine ⟨?_, rfl⟩; first | congr 1 | skip)
  all_goals (rw [Bool.eq_iff_iff]; simp only [decide_eq_true_eq, decide_eq_false_iff_not, beq_iff_eq, beq_eq_false_iff_ne, bne_iff_ne, ne_eq, bne_eq_false_iff_eq, Bool.not_eq_true', Bool.false_eq_true, false_iff, true_iff, not_and, not_or, Decidable.not_not] at *; omega)
theorem isOne_any (op : Int) (w : World) : Calls Try.prog fn_hollowayref1_IsOne #[.int .i64 op] w fun e w' => e = .returned (.bool (isOne op)) ∧ w = w' := by
  refine (hollowayref1_IsOne_lift (K := fun v w' => v = .bool (isOne op) ∧ w = w') ?_).mono (by rintro e w' ⟨v, rfl, rfl, h⟩; exact ⟨rfl, h⟩)
  unfold hollowayref1_IsOne_sh
  unfold isOne
  repeat' (first | refine brB_of (fun _ => ?_) (fun _ => ?_))
  all_goals (refine ⟨?_, rfl⟩; first | congr 1 | skip)
  all_goals (rw [Bool.eq_iff_iff]; simp only [decide_eq_true_eq, decide_eq_false_iff_not, beq_iff_eq, beq_eq_false_iff_ne, bne_iff_ne, ne_eq, bne_eq_false_iff_eq, Bool.not_eq_true', Bool.false_eq_true, false_iff, true_iff, not_and, not_or, Decidable.not_not] at *; omega)
theorem opRowOff {op : Int} (h : ¬ (0 ≤ op ∧ op < 48)) : opRow op = noRow := by unfold opRow; rw [if_neg h]
def movesV (op : Int) : Value := .tuple #[.int .i64 (opRow op).takes, .int .i64 (opRow op).backs, .int .i64 (opRow op).gives, .int .i64 (opRow op).givesBak]
theorem moves_any (op : Int) (w : World) : Calls Try.prog fn_hollowayref1_Moves #[.int .i64 op] w fun e w' => e = .returned (movesV op) ∧ w = w' := by
  refine (hollowayref1_Moves_lift (K := fun v w' => v = movesV op ∧ w = w') ?_).mono (by rintro e w' ⟨v, rfl, rfl, h⟩; exact ⟨rfl, h⟩)
  unfold hollowayref1_Moves_sh
  refine (isTwo_any op w).mono ?_
  rintro e w3 ⟨rfl, rfl⟩
  refine ⟨_, rfl, brB_of (fun h => ?_) (fun h2 => ?_)⟩
  · have h := of_decide_eq_true h
    have h : op = 11 ∨ op = 12 ∨ op = 13 ∨ op = 14 ∨ op = 15 ∨ op = 17 ∨ op = 18 ∨ op = 19 ∨ op = 21 ∨ op = 22 ∨ op = 23 ∨ op = 24 ∨ op = 25 ∨ op = 28 ∨ op = 29 := by omega
    rcases h with rfl | rfl | rfl | rfl | rfl | rfl | rfl | rfl | rfl | rfl | rfl | rfl | rfl | rfl | rfl <;> exact ⟨rfl, rfl⟩
  have h2 := of_decide_eq_false h2
  refine (isOne_any op w).mono ?_
  rintro e w6 ⟨rfl, rfl⟩
  refine ⟨_, rfl, brB_of (fun h => ?_) (fun h1 => ?_)⟩
  · have h := of_decide_eq_true h
    rcases h with rfl | rfl | rfl | rfl <;> exact ⟨rfl, rfl⟩
  have h1 := of_decide_eq_false h1
  have eqb : ∀ {n : Int}, (op == n) = true → op = n := fun h => by simpa using h
  have neb : ∀ {n : Int}, (op == n) = false → op ≠ n := fun h => by simpa using h
  refine brB_of (fun h => by obtain rfl := eqb h; exact ⟨rfl, rfl⟩) (fun h5 => ?_)
  have h5 := neb h5
  refine ⟨fun b w' => b = decide (op = 2 ∨ op = 43) ∧ w = w', ?_, ?_⟩
  · rintro b w8 ⟨rfl, rfl⟩
    refine brB_of (fun h => ?_) (fun h6 => ?_)
    · rcases of_decide_eq_true h with rfl | rfl <;> exact ⟨rfl, rfl⟩
    have h6 := of_decide_eq_false h6
    refine ⟨fun b w' => b = decide (op = 4 ∨ op = 7 ∨ op = 41 ∨ op = 42 ∨ op = 45) ∧ w = w', ?_, ?_⟩
    · rintro b w8 ⟨rfl, rfl⟩
      refine brB_of (fun h => ?_) (fun h7 => ?_)
      · rcases of_decide_eq_true h with rfl | rfl | rfl | rfl | rfl <;> exact ⟨rfl, rfl⟩
      have h7 := of_decide_eq_false h7
      refine brB_of (fun h => by obtain rfl := eqb h; exact ⟨rfl, rfl⟩) (fun h8 => ?_)
      refine brB_of (fun h => by obtain rfl := eqb h; exact ⟨rfl, rfl⟩) (fun h9 => ?_)
      refine brB_of (fun h => by obtain rfl := eqb h; exact ⟨rfl, rfl⟩) (fun h10 => ?_)
      refine brB_of (fun h => by obtain rfl := eqb h; exact ⟨rfl, rfl⟩) (fun h11 => ?_)
      refine brB_of (fun h => by obtain rfl := eqb h; exact ⟨rfl, rfl⟩) (fun h12 => ?_)
      have h8 := neb h8; have h9 := neb h9; have h10 := neb h10; have h11 := neb h11; have h12 := neb h12
      refine ⟨fun b w' => b = decide (op = 31 ∨ op = 32) ∧ w = w', ?_, ?_⟩
      · rintro b w8 ⟨rfl, rfl⟩
        refine brB_of (fun h => ?_) (fun h13 => ?_)
        · rcases of_decide_eq_true h with rfl | rfl <;> exact ⟨rfl, rfl⟩
        have h13 := of_decide_eq_false h13
        refine ⟨fun b w' => b = decide (op = 33 ∨ op = 44) ∧ w = w', ?_, ?_⟩
        · rintro b w8 ⟨rfl, rfl⟩
          refine brB_of (fun h => ?_) (fun h14 => ?_)
          · rcases of_decide_eq_true h with rfl | rfl <;> exact ⟨rfl, rfl⟩
          have h14 := of_decide_eq_false h14
          refine brB_of (fun h => by obtain rfl := eqb h; exact ⟨rfl, rfl⟩) (fun h15 => ?_)
          refine brB_of (fun h => by obtain rfl := eqb h; exact ⟨rfl, rfl⟩) (fun h16 => ?_)
          refine brB_of (fun h => by obtain rfl := eqb h; exact ⟨rfl, rfl⟩) (fun h17 => ?_)
          refine brB_of (fun h => by obtain rfl := eqb h; exact ⟨rfl, rfl⟩) (fun h18 => ?_)
          refine brB_of (fun h => by obtain rfl := eqb h; exact ⟨rfl, rfl⟩) (fun h19 => ?_)
          refine brB_of (fun h => by obtain rfl := eqb h; exact ⟨rfl, rfl⟩) (fun h20 => ?_)
          refine brB_of (fun h => by obtain rfl := eqb h; exact ⟨rfl, rfl⟩) (fun h21 => ?_)
          refine brB_of (fun h => by obtain rfl := eqb h; exact ⟨rfl, rfl⟩) (fun h22 => ?_)
          have h15 := neb h15; have h16 := neb h16; have h17 := neb h17; have h18 := neb h18; have h19 := neb h19; have h20 := neb h20; have h21 := neb h21; have h22 := neb h22
          refine ⟨?_, rfl⟩
          rcases (by omega : op = 0 ∨ op = 1 ∨ op = 3 ∨ op = 47 ∨ ¬ (0 ≤ op ∧ op < 48)) with rfl | rfl | rfl | rfl | h
          · rfl
          · rfl
          · rfl
          · rfl
          · unfold movesV; rw [opRowOff h]; rfl
        · refine brB_of (fun h => ⟨?_, rfl⟩) (fun h => ⟨?_, rfl⟩)
          · simp at h; simp [h]
          · simp at h; simp [h]; rw [Bool.eq_iff_iff]; simp
      · refine brB_of (fun h => ⟨?_, rfl⟩) (fun h => ⟨?_, rfl⟩)
        · simp at h; simp [h]
        · simp at h; simp [h]; rw [Bool.eq_iff_iff]; simp
    · repeat' (first | refine brB_of (fun _ => ?_) (fun _ => ?_))
      all_goals (refine ⟨?_, rfl⟩; first | congr 1 | skip)
      all_goals (rw [Bool.eq_iff_iff]; simp only [decide_eq_true_eq, decide_eq_false_iff_not, beq_iff_eq, beq_eq_false_iff_ne, bne_iff_ne, ne_eq, bne_eq_false_iff_eq, Bool.not_eq_true', Bool.false_eq_true, false_iff, true_iff, not_and, not_or, Decidable.not_not] at *; omega)
  · refine brB_of (fun h => ⟨?_, rfl⟩) (fun h => ⟨?_, rfl⟩)
    · simp at h; simp [h]
    · simp at h; simp [h]; rw [Bool.eq_iff_iff]; simp

end Go.Proofs.Ytkjpmkopnkkbmaa

/- The document's own machine in memory: the state that was, the answer's, and the working one; what is pushed, cut and set. -/
set_option maxRecDepth 100000
namespace Go.Proofs.Ytkjpmkopnkkbmaa
open Go.RowKit

structure RM (w0 w : World) (a z m : Nat) (S0 S : StC) (s : StV) : Prop where
  c : Chg No w0 w
  za : w0.heap.size ≤ a
  zz : w0.heap.size ≤ z
  zm : w0.heap.size ≤ m
  naz : a ≠ z
  nam : a ≠ m
  nzm : z ≠ m
  oa : Ob w a (stC S0) T_api_State
  oz : Ob w z (stC st0) T_api_State
  om : Ob w m (stC S) T_api_State
  x : StX (fun k => w0.heap.size ≤ k ∧ k ≠ a ∧ k ≠ z ∧ k ≠ m) w S s
section
variable {w0 w : World} {a z m : Nat} {S0 S : StC} {s : StV}
theorem RM.up {X : Nat → Prop} {w' : World} {S' : StC} {s' : StV} (h : RM w0 w a z m S0 S s) (c : Chg X w w') (hX : ∀ k, X k → w0.heap.size ≤ k ∧ k ≠ a ∧ k ≠ z) (om : Ob w' m (stC S') T_api_State)
    (x : StX (fun k => w0.heap.size ≤ k ∧ k ≠ a ∧ k ≠ z ∧ k ≠ m) w' S' s') : RM w0 w' a z m S0 S' s' :=
  ⟨h.c.trans c (fun _ _ h => h) (fun k hk hx => by have := (hX k hx).1; omega), h.za, h.zz, h.zm, h.naz, h.nam, h.nzm, h.oa.chg c (fun hx => (hX a hx).2.1 rfl), h.oz.chg c (fun hx => (hX z hx).2.2 rfl), om, x⟩
theorem RM.no {w' : World} (h : RM w0 w a z m S0 S s) (c : Chg No w w') : RM w0 w' a z m S0 S s := h.up c (fun _ h => h.elim) (h.om.no c) (h.x.no c)
/-- Cells of the working state written; its lists are as they were, or cut. -/
theorem RM.set (h : RM w0 w a z m S0 S s) (S' : StC) (s' : StV) {k n : Nat} {vs : List Value} {G : World → Prop} (hl : k + n ≤ 10) (hn : n = vs.length) (hc : wrL (stC S) k vs = stC S') (nums : StNums S' s')
    (e1 : ∃ n, n ≤ s.stack.length ∧ S'.stack = ⟨S.stack.ptr, n, S.stack.cap⟩ ∧ s'.stack = s.stack.take n) (e2 : ∃ n, n ≤ s.back.length ∧ S'.back = ⟨S.back.ptr, n, S.back.cap⟩ ∧ s'.back = s.back.take n) (e3 : S'.mem = S.mem ∧ s'.mem = s.mem)
    (g : ∀ w', RM w0 w' a z m S0 S' s' → G w') : wrOk w ⟨m, k, none⟩ n ∧ ∀ w' : World, w' = stW w ⟨m, k, none⟩ 0 vs → G w' := by
  refine setSt S' h.om hl hn hc fun w' o' c' => g w' ?_
  obtain ⟨n1, l1, f1, g1⟩ := e1
  obtain ⟨n2, l2, f2, g2⟩ := e2
  obtain ⟨f3, g3⟩ := e3
  have hb1 : S'.stack.blk = S.stack.blk := by rw [f1]; unfold Sl.blk Sl.val; cases S.stack.ptr <;> rfl
  have hb2 : S'.back.blk = S.back.blk := by rw [f2]; unfold Sl.blk Sl.val; cases S.back.ptr <;> rfl
  have xs := h.x.chg c' (fun k hk he => hk.2.2.2 he)
  refine h.up c' (fun k hk => by have hk : k = m := hk; rw [hk]; exact ⟨h.zm, h.nam.symm, h.nzm.symm⟩) o' ⟨nums, ?_, ?_, ?_, ?_, ?_, ?_⟩
  · rw [f1, g1]; exact xs.st.take l1
  · rw [f2, g2]; exact xs.bk.take l2
  · rw [f3, g3]; exact xs.me
  · rw [hb1, hb2, f3]; exact xs.stD
  · rw [hb2, f3]; exact xs.bkD
  · rw [f3]; exact xs.meD
theorem allS (h : RM w0 w a z m S0 S s) : ∃ n, n ≤ s.stack.length ∧ S.stack = ⟨S.stack.ptr, n, S.stack.cap⟩ ∧ s.stack = s.stack.take n := ⟨s.stack.length, Nat.le_refl _, by rw [← h.x.st.rd.len], by rw [List.take_length]⟩
theorem allB (h : RM w0 w a z m S0 S s) : ∃ n, n ≤ s.back.length ∧ S.back = ⟨S.back.ptr, n, S.back.cap⟩ ∧ s.back = s.back.take n := ⟨s.back.length, Nat.le_refl _, by rw [← h.x.bk.rd.len], by rw [List.take_length]⟩
/-- A list literal, appended to a part of the stack. -/
theorem RM.push (h : RM w0 w a z m S0 S s) {n : Nat} (hn : n ≤ s.stack.length) (ys : List Int) (cs : List Value) (hcs : cs = fl intE ys) (hne : ys ≠ []) (hl : ys.length ≤ 100) (hs : s.stack.length ≤ 10000) {G : World → Prop}
    (k : ∀ w2 S', S'.back = S.back → S'.mem = S.mem → RM w0 w2 a z m S0 S' { s with stack := s.stack.take n ++ ys } → G w2) {q : Nat} (hlen : q = ys.length) {l : Sl} (hq : l = ⟨S.stack.ptr, n, S.stack.cap⟩) :
    ∀ (b : Nat) (w1 : World), b = w.heap.size → w1 = World.alloc w (.cells cs.toArray T_int) → ∃ s4 : Sl, ∃ w5 : World, (Builtin.append_ #[T_sl_int, T_sl_int] T_sl_int #[l.val, .slice (some ⟨b, 0, none⟩) q q]).run Try.prog w1 = .ok (s4.val) w5 ∧
      wrOk w5 ⟨m, 2, none⟩ 1 ∧ ∀ w6 : World, w6 = stW w5 ⟨m, 2, none⟩ 0 [s4.val] → G w6 := by
  intro b w1 hb hw
  subst hlen hq
  obtain ⟨g, c1⟩ := litL ys cs hcs hb hw hl
  have h1 := h.no c1
  have hbk : (⟨S.stack.ptr, n, S.stack.cap⟩ : Sl).blk = S.stack.blk := by unfold Sl.blk Sl.val; cases S.stack.ptr <;> rfl
  have lt : (s.stack.take n).length ≤ 10000 := by rw [List.length_take]; omega
  refine appx_ok intOk rfl rfl (h1.x.st.take hn) g.rd rfl (fun _ => hne) (by show (_ + _) * 8 ≤ _; omega) (by unfold maxLen; omega) ?_
  intro s4 w5 g4 c5 b4 _
  rw [hbk] at b4 c5
  have hmst : ¬ S.stack.blk = some m := fun he => (h1.x.stD m he).1.2.2.2 rfl
  have ltm := h1.om.lt
  have zaa := h1.oa.lt
  have zzz := h1.oz.lt
  have o5 := h1.om.chg c5 hmst
  have ds4 : ∀ k, s4.blk = some k → (w0.heap.size ≤ k ∧ k ≠ a ∧ k ≠ z ∧ k ≠ m) ∧ S.back.blk ≠ some k ∧ S.mem.blk ≠ some k := fun k hk => by
    rcases b4 with hh | hh
    · exact h1.x.stD k (hh ▸ hk)
    · have := hh k hk
      have := h1.c.size
      exact ⟨⟨by omega, by omega, by omega, by omega⟩, fun he => by have := h1.x.bk.lt k he; omega, fun he => by have := h1.x.me.lt k he; omega⟩
  have h5 : RM w0 w5 a z m S0 S { s with stack := s.stack } ∨ True := Or.inr trivial
  clear h5
  refine setSt { S with stack := s4 } o5 (by decide) rfl rfl fun w6 o6 c6 => k w6 { S with stack := s4 } rfl rfl ?_
  have c56 : Chg (fun j => S.stack.blk = some j ∨ j = m) w1 w6 := c5.trans c6 (fun _ _ h => Or.inl h) (fun _ _ h => Or.inr h)
  refine h1.up c56 (fun j hj => ?_) o6 ⟨h.x.nums, g4.chg c6 (fun k hk he => (ds4 k hk).1.2.2.2 he), (h1.x.bk.chg c56 (fun k hk he => ?_)), (h1.x.me.chg c56 (fun k hk he => ?_)), ds4, h1.x.bkD, h1.x.meD⟩
  · rcases hj with hj | hj
    · exact ⟨(h1.x.stD j hj).1.1, (h1.x.stD j hj).1.2.1, (h1.x.stD j hj).1.2.2.1⟩
    · rw [hj]; exact ⟨h.zm, h.nam.symm, h.nzm.symm⟩
  · rcases he with he | he
    · exact (h1.x.stD k he).2.1 hk
    · exact (h1.x.bkD k hk).1.2.2.2 he
  · rcases he with he | he
    · exact (h1.x.stD k he).2.2 hk
    · exact (h1.x.meD k hk).2.2.2 he
/-- A list literal, appended to the return stack. -/
theorem RM.back (h : RM w0 w a z m S0 S s) (ys : List Int) (cs : List Value) (hcs : cs = fl intE ys) (hne : ys ≠ []) (hl : ys.length ≤ 100) (hs : s.back.length ≤ 10000) {G : World → Prop}
    (k : ∀ w2 S', S'.stack = S.stack → S'.mem = S.mem → RM w0 w2 a z m S0 S' { s with back := s.back ++ ys } → G w2) {q : Nat} (hlen : q = ys.length) :
    ∀ (b : Nat) (w1 : World), b = w.heap.size → w1 = World.alloc w (.cells cs.toArray T_int) → ∃ s4 : Sl, ∃ w5 : World, (Builtin.append_ #[T_sl_int, T_sl_int] T_sl_int #[S.back.val, .slice (some ⟨b, 0, none⟩) q q]).run Try.prog w1 = .ok (s4.val) w5 ∧
      wrOk w5 ⟨m, 3, none⟩ 1 ∧ ∀ w6 : World, w6 = stW w5 ⟨m, 3, none⟩ 0 [s4.val] → G w6 := by
  intro b w1 hb hw
  subst hlen
  obtain ⟨g, c1⟩ := litL ys cs hcs hb hw hl
  have h1 := h.no c1
  refine appx_ok intOk rfl rfl h1.x.bk g.rd rfl (fun _ => hne) (by show (_ + _) * 8 ≤ _; omega) (by unfold maxLen; omega) ?_
  intro s4 w5 g4 c5 b4 _
  have hmst : ¬ S.back.blk = some m := fun he => (h1.x.bkD m he).1.2.2.2 rfl
  have ltm := h1.om.lt
  have zaa := h1.oa.lt
  have zzz := h1.oz.lt
  have o5 := h1.om.chg c5 hmst
  have ds4 : ∀ k, s4.blk = some k → (w0.heap.size ≤ k ∧ k ≠ a ∧ k ≠ z ∧ k ≠ m) ∧ S.stack.blk ≠ some k ∧ S.mem.blk ≠ some k := fun k hk => by
    rcases b4 with hh | hh
    · have hk' := hh ▸ hk
      exact ⟨(h1.x.bkD k hk').1, fun he => (h1.x.stD k he).2.1 hk', (h1.x.bkD k hk').2⟩
    · have := hh k hk
      have := h1.c.size
      exact ⟨⟨by omega, by omega, by omega, by omega⟩, fun he => by have := h1.x.st.lt k he; omega, fun he => by have := h1.x.me.lt k he; omega⟩
  refine setSt { S with back := s4 } o5 (by decide) rfl rfl fun w6 o6 c6 => k w6 { S with back := s4 } rfl rfl ?_
  have c56 : Chg (fun j => S.back.blk = some j ∨ j = m) w1 w6 := c5.trans c6 (fun _ _ h => Or.inl h) (fun _ _ h => Or.inr h)
  refine h1.up c56 (fun j hj => ?_) o6 ⟨h.x.nums, (h1.x.st.chg c56 (fun k hk he => ?_)), g4.chg c6 (fun k hk he => (ds4 k hk).1.2.2.2 he), (h1.x.me.chg c56 (fun k hk he => ?_)), fun k hk => ⟨(h1.x.stD k hk).1, fun he => (ds4 k he).2.1 hk, (h1.x.stD k hk).2.2⟩, fun k hk => ⟨(ds4 k hk).1, (ds4 k hk).2.2⟩, h1.x.meD⟩
  · rcases hj with hj | hj
    · exact ⟨(h1.x.bkD j hj).1.1, (h1.x.bkD j hj).1.2.1, (h1.x.bkD j hj).1.2.2.1⟩
    · rw [hj]; exact ⟨h.zm, h.nam.symm, h.nzm.symm⟩
  · rcases he with he | he
    · exact (h1.x.stD k hk).2.1 he
    · exact (h1.x.stD k hk).1.2.2.2 he
  · rcases he with he | he
    · exact (h1.x.bkD k he).2 hk
    · exact (h1.x.meD k hk).2.2.2 he
/-- A cell of a list of the working state, read and written. -/
theorem RM.setMem (h : RM w0 w a z m S0 S s) {i v : Int} (h0 : 0 ≤ i) (h1 : i < s.mem.length) {G : World → Prop} (g : ∀ w', RM w0 w' a z m S0 S { s with mem := s.mem.set i.toNat v } → G w') :
    ∃ q : Addr, S.mem.ptr = some q ∧ 0 ≤ i ∧ i < (S.mem.len : Int) ∧ wrOk w (Addr.add q (Int.toNat i * 1)) 1 ∧ ∀ w' : World, w' = stW w (Addr.add q (Int.toNat i * 1)) 0 [.int .i64 v] → G w' := by
  refine setOx h.x.me h0 h1 fun w' o' c' => g w' ?_
  refine h.up c' (fun k hk => ⟨(h.x.meD k hk).1, (h.x.meD k hk).2.1, (h.x.meD k hk).2.2.1⟩) (h.om.chg c' (fun he => (h.x.meD m he).2.2.2 rfl)) ⟨h.x.nums, h.x.st.chg c' (fun k hk he => (h.x.stD k hk).2.2 he), h.x.bk.chg c' (fun k hk he => (h.x.bkD k hk).2 he), o', h.x.stD, h.x.bkD, h.x.meD⟩
theorem RM.setBack (h : RM w0 w a z m S0 S s) {i v : Int} (h0 : 0 ≤ i) (h1 : i < s.back.length) {G : World → Prop} (g : ∀ w', RM w0 w' a z m S0 S { s with back := s.back.set i.toNat v } → G w') :
    ∃ q : Addr, S.back.ptr = some q ∧ 0 ≤ i ∧ i < (S.back.len : Int) ∧ wrOk w (Addr.add q (Int.toNat i * 1)) 1 ∧ ∀ w' : World, w' = stW w (Addr.add q (Int.toNat i * 1)) 0 [.int .i64 v] → G w' := by
  refine setOx h.x.bk h0 h1 fun w' o' c' => g w' ?_
  refine h.up c' (fun k hk => ⟨(h.x.bkD k hk).1.1, (h.x.bkD k hk).1.2.1, (h.x.bkD k hk).1.2.2.1⟩) (h.om.chg c' (fun he => (h.x.bkD m he).1.2.2.2 rfl)) ⟨h.x.nums, h.x.st.chg c' (fun k hk he => (h.x.stD k hk).2.1 he), o', h.x.me.chg c' (fun k hk he => (h.x.bkD k he).2 hk), h.x.stD, h.x.bkD, h.x.meD⟩
/-- The working state, given as the answer. -/
theorem RM.fin (h : RM w0 w a z m S0 S s) {K : Value → World → Prop} (g : ∀ w', StX (fun k => w0.heap.size ≤ k) w' S s → Chg No w0 w' → K (.agg (stC S).toArray) w') {T : TypeId} :
    ∃ n1 : Int, ∃ n2 : Int, ∃ s3 : Sl, ∃ s4 : Sl, ∃ s5 : Sl, ∃ t6 : ByteArray, ∃ t7 : ByteArray, ∃ n8 : Int, ∃ n9 : Int, ∃ n10 : Int, w.cell? ⟨m, 0, none⟩ = some (.int .i64 n1) ∧ w.cell? ⟨m, 1, none⟩ = some (.int .i64 n2) ∧ w.cell? ⟨m, 2, none⟩ = some (s3.val) ∧ w.cell? ⟨m, 3, none⟩ = some (s4.val) ∧ w.cell? ⟨m, 4, none⟩ = some (s5.val) ∧ w.cell? ⟨m, 5, none⟩ = some (.string t6) ∧ w.cell? ⟨m, 6, none⟩ = some (.string t7) ∧ w.cell? ⟨m, 7, none⟩ = some (.int .i64 n8) ∧ w.cell? ⟨m, 8, none⟩ = some (.int .i64 n9) ∧ w.cell? ⟨m, 9, none⟩ = some (.int .i64 n10) ∧
    wrOk w ⟨z, 0, none⟩ 10 ∧ ∀ w' : World, w' = stW w ⟨z, 0, none⟩ 0 [.int .i64 n1, .int .i64 n2, s3.val, s4.val, s5.val, .string t6, .string t7, .int .i64 n8, .int .i64 n9, .int .i64 n10] →
    ∃ n1 : Int, ∃ n2 : Int, ∃ s3 : Sl, ∃ s4 : Sl, ∃ s5 : Sl, ∃ t6 : ByteArray, ∃ t7 : ByteArray, ∃ n8 : Int, ∃ n9 : Int, ∃ n10 : Int, w'.cell? ⟨z, 0, none⟩ = some (.int .i64 n1) ∧ w'.cell? ⟨z, 1, none⟩ = some (.int .i64 n2) ∧ w'.cell? ⟨z, 2, none⟩ = some (s3.val) ∧ w'.cell? ⟨z, 3, none⟩ = some (s4.val) ∧ w'.cell? ⟨z, 4, none⟩ = some (s5.val) ∧ w'.cell? ⟨z, 5, none⟩ = some (.string t6) ∧ w'.cell? ⟨z, 6, none⟩ = some (.string t7) ∧ w'.cell? ⟨z, 7, none⟩ = some (.int .i64 n8) ∧ w'.cell? ⟨z, 8, none⟩ = some (.int .i64 n9) ∧ w'.cell? ⟨z, 9, none⟩ = some (.int .i64 n10) ∧
    K (.agg #[.int .i64 n1, .int .i64 n2, s3.val, s4.val, s5.val, .string t6, .string t7, .int .i64 n8, .int .i64 n9, .int .i64 n10]) w' := by
  refine rdSt h.om (setSt S h.oz (by decide) rfl rfl fun w' o' c' => rdSt o' ?_)
  refine g w' ((h.x.chg c' (fun k hk he => hk.2.2.1 he)).wid (fun k hk => hk.1)) (h.c.trans c' (fun _ _ h => h) (fun k hk he => ?_))
  have he : k = z := he
  have := h.zz
  omega
end
end Go.Proofs.Ytkjpmkopnkkbmaa

/- hollowayref9: Copy and Fault. -/
set_option maxRecDepth 100000
namespace Go.Proofs.Ytkjpmkopnkkbmaa
open Go.RowKit

theorem nil_app {w : World} {l : Sl} {xs : List Int} (h : Rd intE w l xs) (hn : xs.length ≤ 100000) {G : Sl → World → Prop} (k : ∀ (s' : Sl) (w' : World), Ow intE w' s' xs → Chg No w w' → (∀ k, s'.blk = some k → w.heap.size ≤ k) → G s' w') :
    ∃ s' : Sl, ∃ w' : World, (Builtin.append_ #[T_sl_int, T_sl_int] T_sl_int #[.slice none 0 0, l.val]).run Try.prog w = .ok (s'.val) w' ∧ G s' w' := by
  refine app_ok intOk (s := nilS) (t := l) rfl rfl (Ow.nil _ _) h (by show (0 + xs.length) * 8 ≤ _; omega) (by show 0 + xs.length ≤ _; unfold maxLen; omega) ?_
  intro s' w' h' c' b'
  refine k s' w' h' ((Chg.refl No _).trans c' (fun _ _ h => h) (fun k _ he => by cases he)) fun k hk => ?_
  rcases b' with hh | hh
  · rw [hh] at hk; cases hk
  · have := Option.some.inj (hh.symm.trans hk); omega
theorem rcopy_any {D : Nat → Prop} {w : World} (S : StC) {s : StV} (h : StIs D w S s) (h1 : s.stack.length ≤ 100000) (h2 : s.back.length ≤ 100000) (h3 : s.mem.length ≤ 100000) :
    Calls Try.prog fn_hollowayref9_Copy #[.agg (stC S).toArray] w fun e w' => ∃ S' : StC, e = .returned (.agg (stC S').toArray) ∧ StX (fun k => w.heap.size ≤ k ∧ k < w'.heap.size) w' S' s ∧ Chg No w w' := by
  refine (hollowayref9_Copy_lift (K := fun v w' => ∃ S' : StC, v = .agg (stC S').toArray ∧ StX (fun k => w.heap.size ≤ k ∧ k < w'.heap.size) w' S' s ∧ Chg No w w') ?_).mono (by rintro e w' ⟨v, rfl, n, rfl, h⟩; exact ⟨n, rfl, h⟩)
  unfold hollowayref9_Copy_sh
  refine inSt S fun b11 w12 hb11 z12 o11 c12 => inSt st0 fun b13 w14 hb13 z14 o13 c14 => ⟨S.stack, (o11.no c14).cell rfl, nil_app (h.st.no (trN c12 c14)) h1 fun s16 w17 g17 c17 b17 => ?_⟩
  have l16 : ∀ k, s16.blk = some k → k < w17.heap.size := fun k hk => g17.lt hk
  refine setSt { S with stack := s16 } ((o11.no c14).no c17) (by decide) rfl rfl fun w18 o18 c18 => ⟨S.back, o18.cell rfl, ?_⟩
  have z17 := c17.size
  have z18 := c18.size
  have n18 : Chg No w w18 := (trN (trN c12 c14) c17).trans c18 (fun _ _ h => h) (fun k hk he => by omega)
  refine nil_app (h.bk.no n18) h2 fun s20 w21 g21 c21 b21 => ?_
  have l20 : ∀ k, s20.blk = some k → k < w21.heap.size := fun k hk => g21.lt hk
  refine setSt { S with stack := s16, back := s20 } (o18.no c21) (by decide) rfl rfl fun w22 o22 c22 => ⟨S.mem, o22.cell rfl, ?_⟩
  have z21 := c21.size
  have z22 := c22.size
  have n22 : Chg No w w22 := (trN n18 c21).trans c22 (fun _ _ h => h) (fun k hk he => by omega)
  refine nil_app (h.me.no n22) h3 fun s24 w25 g25 c25 b25 => ?_
  have l24 : ∀ k, s24.blk = some k → k < w25.heap.size := fun k hk => g25.lt hk
  have z25 := c25.size
  refine setSt { S with stack := s16, back := s20, mem := s24 } (o22.no c25) (by decide) rfl rfl fun w26 o26 c26 => ?_
  have z26 := c26.size
  have n26 : Chg No w w26 := (trN n22 c25).trans c26 (fun _ _ h => h) (fun k hk he => by omega)
  have d18 : Chg (fun j => j = b11 ∨ j = b13) w17 w18 := c18.mono (fun _ _ h => Or.inl h)
  have d21 : Chg (fun j => j = b11 ∨ j = b13) w18 w22 := (c21.trans c22 (fun _ _ h => h.elim) (fun _ _ h => Or.inl h))
  have d25 : Chg (fun j => j = b11 ∨ j = b13) w22 w26 := (c25.trans c26 (fun _ _ h => h.elim) (fun _ _ h => Or.inl h))
  have e13 : Ob w26 b13 (stC st0) T_api_State := (((((o13.no c17).chg c18 (fun he => by omega)).no c21).chg c22 (fun he => by omega)).no c25).chg c26 (fun he => by omega)
  refine rdSt o26 (setSt { S with stack := s16, back := s20, mem := s24 } e13 (by decide) rfl rfl fun w37 o37 c37 => rdSt o37 ⟨{ S with stack := s16, back := s20, mem := s24 }, rfl, ?_, ?_⟩)
  · have z37 := c37.size
    have d37 : Chg (fun j => j = b11 ∨ j = b13) w26 w37 := c37.mono (fun _ _ h => Or.inr h)
    have q22 : Chg (fun j => j = b11 ∨ j = b13) w22 w37 := d25.trans d37 (fun _ _ h => h) (fun _ _ h => h)
    have q18 : Chg (fun j => j = b11 ∨ j = b13) w18 w37 := d21.trans q22 (fun _ _ h => h) (fun _ _ h => h)
    have q17 : Chg (fun j => j = b11 ∨ j = b13) w17 w37 := d18.trans q18 (fun _ _ h => h) (fun _ _ h => h)
    have q21 : Chg (fun j => j = b11 ∨ j = b13) w21 w37 := (c22.mono (fun _ _ h => Or.inl h)).trans q22 (fun _ _ h => h) (fun _ _ h => h)
    have q25 : Chg (fun j => j = b11 ∨ j = b13) w25 w37 := (c26.mono (fun _ _ h => Or.inl h)).trans d37 (fun _ _ h => h) (fun _ _ h => h)
    refine ⟨h.nums, (g17.chg q17 (fun k hk he => ?_)).ox, (g21.chg q21 (fun k hk he => ?_)).ox, (g25.chg q25 (fun k hk he => ?_)).ox, fun k hk => ⟨?_, fun he => ?_, fun he => ?_⟩, fun k hk => ⟨?_, fun he => ?_⟩, fun k hk => ?_⟩
    · have := b17 k hk; omega
    · have := b21 k hk; omega
    · have := b25 k hk; omega
    · have := b17 k hk; have := l16 k hk; omega
    · have := l16 k hk; have := b21 k he; omega
    · have := l16 k hk; have := b25 k he; omega
    · have := b21 k hk; have := l20 k hk; omega
    · have := l20 k hk; have := b25 k he; omega
    · have := b25 k hk; have := l24 k hk; omega
  · exact n26.trans c37 (fun _ _ h => h) (fun k hk he => by omega)
/-- A state that reads as s, whatever is done to the blocks of V. -/
structure Hd (D V : Nat → Prop) (w : World) (S : StC) (s : StV) : Prop where
  is : ∀ w2, Chg V w w2 → StIs D w2 S s
  lt : ∀ k, V k → k < w.heap.size
theorem Hd.at {D V : Nat → Prop} {w w' : World} {S : StC} {s : StV} (h : Hd D V w S s) (c : Chg No w w') : StIs D w' S s := h.is w' (c.mono (fun _ _ h => h.elim))
theorem rfault_any {D V : Nat → Prop} {w0 w : World} (S : StC) {s : StV} (h0 : Hd D V w0 S s) (c0 : Chg No w0 w) (n1 : s.stack.length ≤ 1000) (n2 : s.back.length ≤ 1000) (c : Int) :
    Calls Try.prog fn_hollowayref9_Fault #[.agg (stC S).toArray, .int .i64 c] w fun e w' => ∃ S' : StC, e = .returned (.agg (stC S').toArray) ∧ (∀ (w2 : World) (X : Nat → Prop), Chg X w' w2 → (∀ k, w.heap.size ≤ k → ¬ X k) → Chg V w0 w2 → StIs (fun k => D k ∨ w0.heap.size ≤ k) w2 S' (mFault s c)) ∧ Chg No w w' := by
  refine (hollowayref9_Fault_lift (K := fun v w' => ∃ S' : StC, v = .agg (stC S').toArray ∧ (∀ (w2 : World) (X : Nat → Prop), Chg X w' w2 → (∀ k, w.heap.size ≤ k → ¬ X k) → Chg V w0 w2 → StIs (fun k => D k ∨ w0.heap.size ≤ k) w2 S' (mFault s c)) ∧ Chg No w w') ?_).mono (by rintro e w' ⟨v, rfl, n, rfl, h⟩; exact ⟨n, rfl, h⟩)
  have h := h0.at c0
  have z0 := c0.size
  unfold hollowayref9_Fault_sh
  obtain ⟨m1, m2, m3, m4, m5, m6, m7⟩ := h.nums
  have ls := h.st.len
  have lb := h.bk.len
  have cs := h.st.capL
  have cb := h.bk.capL
  refine inSt S fun b12 w13 hb12 z13 o12 c13 => inSt st0 fun b14 w15 hb14 z15 o14 c15 => ⟨S.handler, (o12.no c15).cell rfl, ?_⟩
  have k15 := trN c13 c15
  have p12 := o12.no c15
  have hbk := h.bk.no k15
  have hst := h.st.no k15
  rw [m2]
  have caught : (mCaught s).isSome = decide (3 ≤ s.handler ∧ s.handler ≤ s.back.length ∧ 0 ≤ getI s.back (s.handler - 1) ∧ getI s.back (s.handler - 1) < 48) := by
    unfold mCaught
    split
    · next hh => rw [decide_eq_true hh]; rfl
    · next hh => rw [decide_eq_false hh]; rfl
  refine ⟨fun b w' => b = (mCaught s).isSome ∧ w' = w15, ?_, ?_⟩
  rotate_left
  · refine brB_of (fun t1 => ⟨S.back, p12.cell rfl, brB_of (fun t2 => ⟨S.back, p12.cell rfl, ?_⟩) (fun t2 => ?_)⟩) (fun t1 => ?_)
    · have t1 := of_decide_eq_true t1
      have t2 := of_decide_eq_true t2
      rw [wr_in (by omega)]
      refine hbk.ix (i := s.handler - 1) (by omega) (getI_at (by omega) (by omega)) fun a19 _ hc => ?_
      have q := hc 0 _ rfl
      rw [Go.Proofs.Ytkjpmkopnkkbmaa.add0] at q
      refine ⟨_, q, brB_of (fun t3 => ⟨S.back, p12.cell rfl, ?_⟩) (fun t3 => ⟨?_, rfl⟩)⟩
      · have t3 := of_decide_eq_true t3
        refine hbk.ix (i := s.handler - 1) (by omega) (getI_at (by omega) (by omega)) fun a22 _ hc => ?_
        have q := hc 0 _ rfl
        rw [Go.Proofs.Ytkjpmkopnkkbmaa.add0] at q
        refine ⟨_, q, ?_, rfl⟩
        rw [caught, Bool.eq_iff_iff, decide_eq_true_iff, decide_eq_true_iff]
        exact ⟨fun t4 => ⟨by omega, by omega, by omega, t4⟩, fun t4 => t4.2.2.2⟩
      · have t3 := of_decide_eq_false t3
        rw [caught]; exact (decide_eq_false (by omega)).symm
    · have t1 := of_decide_eq_true t1
      have t2 := of_decide_eq_false t2
      exact ⟨by rw [caught]; exact (decide_eq_false (by omega)).symm, rfl⟩
    · have t1 := of_decide_eq_false t1
      exact ⟨by rw [caught]; exact (decide_eq_false (by omega)).symm, rfl⟩
  rintro b w24 ⟨rfl, rfl⟩
  refine brB_of (fun hx => ?_) (fun hx => ?_)
  · have hx' := hx
    rw [caught] at hx'
    have hcond := of_decide_eq_true hx'
    obtain ⟨k, hk⟩ : ∃ k : Nat, mCaught s = some k ∧ (k : Int) = getI s.back (s.handler - 1) := ⟨(getI s.back (s.handler - 1)).toNat, by unfold mCaught; rw [if_pos hcond], by omega⟩
    obtain ⟨hk, hk0⟩ := hk
    obtain ⟨h3, hle, hk1, hk48⟩ := hcond
    refine ⟨S.back, p12.cell rfl, ?_⟩
    rw [wr_in (x := s.handler - 1) (by omega), wr_in (x := s.handler - 2) (by omega), wr_in (x := s.handler - 3) (by omega)]
    refine hbk.ix (i := s.handler - 1) (by omega) (getI_at (by omega) (by omega)) fun a27 _ hc => ?_
    have q := hc 0 _ rfl
    rw [Go.Proofs.Ytkjpmkopnkkbmaa.add0] at q
    refine ⟨_, q, ?_⟩
    intro w29 hw29
    have c29 := dw hw29
    have k29 := trN k15 c29
    have q12 := p12.no c29
    have q14 := o14.no c29
    have hb29 := hbk.no c29
    have zz := k29.size
    have z29 := c29.size
    refine ⟨fun w' => (∃ x, Ob w' b12 (stC { S with handler := x }) T_api_State) ∧ Rd intE w' S.back s.back, ⟨⟨_, q12⟩, hb29⟩, S.back, fun w' h => ?_, ?_⟩
    · obtain ⟨⟨x, o⟩, _⟩ := h; exact o.cell rfl
    refine Rd.hix (S := fun w' => (∃ x, Ob w' b12 (stC { S with handler := x }) T_api_State) ∧ Rd intE w' S.back s.back) ⟨⟨_, q12⟩, hb29⟩ (fun w' h => h.2) (i := s.handler - 2) (by omega) (getI_at (by omega) (by omega)) fun a32 _ hc32 => ?_
    have g32 := hc32 0 _ rfl
    rw [Go.Proofs.Ytkjpmkopnkkbmaa.add0] at g32
    refine ⟨_, g32, S.back, fun w' h => ?_, ?_⟩
    · obtain ⟨⟨x, o⟩, _⟩ := h; exact o.cell rfl
    refine Rd.hix (S := fun w' => (∃ x, Ob w' b12 (stC { S with handler := x }) T_api_State) ∧ Rd intE w' S.back s.back) ⟨⟨_, q12⟩, hb29⟩ (fun w' h => h.2) (i := s.handler - 3) (by omega) (getI_at (by omega) (by omega)) fun a35 _ hc35 => ?_
    have g35 := hc35 0 _ rfl
    rw [Go.Proofs.Ytkjpmkopnkkbmaa.add0] at g35
    refine ⟨_, g35, setSt { S with handler := getI s.back (s.handler - 2) } q12 (by decide) rfl rfl fun w37 o37 c37 => ?_⟩
    have hb37 : Rd intE w37 S.back s.back := h.bk.no (k29.trans c37 (fun _ _ h => h) (fun j hj he => by omega))
    have z37 := c37.size
    refine ⟨⟨⟨_, o37⟩, hb37⟩, setSt { S with handler := getI s.back (s.handler - 2), ip := getI s.back (s.handler - 3) } o37 (by decide) rfl rfl fun w38 o38 c38 => ⟨S.back, o38.cell rfl, by omega, by omega, fun s40 hs40 => ?_⟩⟩
    have z38 := c38.size
    have d38 : Chg (fun j => j = b12) w29 w38 := c37.trans c38 (fun _ _ h => h) (fun _ _ h => h)
    have n38 : Chg No w w38 := k29.trans d38 (fun _ _ h => h) (fun j hj he => by omega)
    have hb38 : Rd intE w38 S.back s.back := h.bk.no n38
    have ht40 : Rd intE w38 s40 (s.back.take (s.handler - 3).toNat) := by
      rw [hs40, sub0]; exact hb38.take (by omega)
    refine nil_app ht40 (by rw [List.length_take]; omega) fun s41 w42 g41 c42 b41 => ?_
    have z42 := c42.size
    refine setSt { S with handler := getI s.back (s.handler - 2), ip := getI s.back (s.handler - 3), back := s41 } (o38.no c42) (by decide) rfl rfl fun w43 o43 c43 => ⟨S.stack, o43.cell rfl, S.stack, o43.cell rfl, ?_⟩
    have z43 := c43.size
    have n43 : Chg No w w43 := (trN n38 c42).trans c43 (fun _ _ h => h) (fun j hj he => by omega)
    rw [ls]
    have hmin : imin (getI s.back (s.handler - 1)) (s.stack.length : Int) = ((min k s.stack.length : Nat) : Int) := by rw [← hk0]; unfold imin; split <;> omega
    rw [hmin]
    refine ⟨by omega, by omega, fun s46 hs46 => ?_⟩
    have hst43 := h.st.no n43
    have htk : s.stack.take (min k s.stack.length) = s.stack.take k := by
      rcases Nat.le_total k s.stack.length with h | h
      · rw [Nat.min_eq_left h]
      · rw [Nat.min_eq_right h, List.take_length, List.take_of_length_le h]
    have ht46 : Rd intE w43 s46 (s.stack.take k) := by
      rw [hs46, sub0, Int.toNat_natCast, ← htk]; exact hst43.take (by omega)
    refine nil_app ht46 (by rw [List.length_take]; omega) fun s47 w48 g47 c48 b47 => ?_
    refine ⟨fun l w' => ∃ j : Nat, Ow intE w' l (s.stack.take k ++ List.replicate j 0) ∧ min k s.stack.length + j ≤ k ∧ (∀ x, l.blk = some x → w43.heap.size ≤ x) ∧ Chg No w43 w', fun l _ => k - l.len, ⟨0, by simpa using g47, by omega, b47, c48⟩, ?_⟩
    rintro l50 w49 ⟨j, g50, hj, hl50, c49⟩
    have l50l := g50.rd.len
    rw [List.length_append, List.length_take, List.length_replicate] at l50l
    have z49 := c49.size
    refine brB_of (fun hlt' => ?_) (fun hlt' => ?_)
    · have hlt' : l50.len < k := by have := of_decide_eq_true hlt'; omega
      intro b51 w52 hb51 hw52
      obtain ⟨g52, c52⟩ := litL [0] _ rfl hb51 hw52 (by simp)
      refine app_ok intOk rfl rfl (g50.no c52) g52.rd (by show (_ + _) * 8 ≤ _; simp; omega) (by unfold maxLen; simp; omega) ?_
      intro s53 w54 g54 c54 b54
      have l54 := g54.rd.len
      simp only [List.length_append, List.length_take, List.length_replicate, List.length_cons, List.length_nil] at l54
      rw [List.append_assoc, show List.replicate j (0 : Int) ++ [0] = List.replicate (j + 1) 0 from (List.replicate_succ').symm] at g54
      have z52 := c52.size
      refine ⟨⟨j + 1, g54, by omega, fun x hx => ?_, (trN c49 c52).trans c54 (fun _ _ h => h) (fun x hx he => by have := hl50 x he; omega)⟩, by show k - s53.len < k - l50.len; omega⟩
      rcases b54 with hh | hh
      · exact hl50 x (hh ▸ hx)
      · have := Option.some.inj (hh.symm.trans hx); omega
    · have hlt' : ¬ l50.len < k := by have := of_decide_eq_false hlt'; omega
      intro b55 w56 hb55 hw56
      obtain ⟨g56, c56⟩ := litL [c] _ rfl hb55 hw56 (by simp)
      have z56 := c56.size
      refine app_ok intOk rfl rfl (g50.no c56) g56.rd (by show (_ + _) * 8 ≤ _; simp; omega) (by unfold maxLen; simp; omega) ?_
      intro s57 w58 g58 c58 b58
      have z58 := c58.size
      have hl57 : ∀ x, s57.blk = some x → w43.heap.size ≤ x := fun x hx => by
        rcases b58 with hh | hh
        · exact hl50 x (hh ▸ hx)
        · have := Option.some.inj (hh.symm.trans hx); omega
      have d58 : Chg (fun j => w43.heap.size ≤ j) w43 w58 := (trN c49 c56).trans c58 (fun _ _ h => h.elim) (fun x _ he => hl50 x he)
      have l12 := o43.lt
      have l14 := q14.lt
      have o58 := o43.chg d58 (fun he => by omega)
      have r14 : Ob w58 b14 (stC st0) T_api_State := ((((q14.chg d38 (fun he => by omega)).no c42).chg c43 (fun he => by omega))).chg d58 (fun he => by omega)
      have l41 : ∀ x, s41.blk = some x → x < w42.heap.size := fun x hx => g41.lt hx
      refine setSt { S with handler := getI s.back (s.handler - 2), ip := getI s.back (s.handler - 3), back := s41, stack := s57 } o58 (by decide) rfl rfl fun w59 o59 c59 => ?_
      refine rdSt o59 (setSt { S with handler := getI s.back (s.handler - 2), ip := getI s.back (s.handler - 3), back := s41, stack := s57 } (r14.chg c59 (fun he => by omega)) (by decide) rfl rfl fun w70 o70 c70 => rdSt o70 ⟨{ S with handler := getI s.back (s.handler - 2), ip := getI s.back (s.handler - 3), back := s41, stack := s57 }, rfl, ?_, ?_⟩)
      · have hf : mFault s c = { s with ip := getI s.back (s.handler - 3), handler := getI s.back (s.handler - 2), back := s.back.take (s.handler - 3).toNat, stack := (s.stack.take k ++ List.replicate (k - s.stack.length) 0) ++ [c] } := by unfold mFault; rw [hk]
        have hjk : j = k - s.stack.length := by omega
        rw [hf, ← hjk]
        have d70 : Chg (fun j => j = b12 ∨ j = b14) w58 w70 := c59.trans c70 (fun _ _ h => Or.inl h) (fun _ _ h => Or.inr h)
        intro w2 X cX hX e2
        have h2 := h0.is w2 e2
        refine ⟨⟨rfl, rfl, m3, m4, m5, m6, m7⟩, ((g58.chg d70 (fun x hx he => ?_)).chg cX (fun x hx => hX x (by have := hl57 x hx; omega))).rd, (((((g41.chg c43 (fun x hx he => ?_))).chg d58 (fun x hx he => ?_)).chg d70 (fun x hx he => ?_)).chg cX (fun x hx => hX x (by have := b41 x hx; omega))).rd, h2.me, fun x hx => Or.inr ?_, fun x hx => Or.inr ?_, fun x hx => Or.inl (h2.meD x hx)⟩
        · have := hl57 x hx; omega
        · have := b41 x hx; omega
        · have := l41 x hx; omega
        · have := b41 x hx; omega
        · have := hl57 x hx; omega
        · have := b41 x hx; omega
      · exact (((n43.trans d58 (fun _ _ h => h) (fun x hx he => by have := n43.size; omega)).trans c59 (fun _ _ h => h) (fun x hx he => by omega))).trans c70 (fun _ _ h => h) (fun x hx he => by omega)
  · have hnone : mCaught s = none := by
      cases h : mCaught s with
      | none => rfl
      | some k => rw [h] at hx; cases hx
    refine setSt { S with status := 2 } p12 (by decide) rfl rfl fun w81 o81 c81 => setSt { S with status := 2, code := c } o81 (by decide) rfl rfl fun w82 o82 c82 => rdSt o82 (setSt { S with status := 2, code := c } ((o14.chg c81 (fun he => by omega)).chg c82 (fun he => by omega)) (by decide) rfl rfl fun w93 o93 c93 => rdSt o93 ⟨{ S with status := 2, code := c }, rfl, ?_⟩)
    have zz := k15.size
    have n93 : Chg No w w93 := ((k15.trans c81 (fun _ _ h => h) (fun x hx he => by omega)).trans c82 (fun _ _ h => h) (fun x hx he => by omega)).trans c93 (fun _ _ h => h) (fun x hx he => by omega)
    have hf : mFault s c = { s with status := 2, code := c } := by unfold mFault; rw [hnone]
    rw [hf]
    refine ⟨fun w2 X cX hX e2 => ?_, n93⟩
    have h93 := h0.is w2 e2
    exact ⟨⟨m1, m2, m3, m4, m5, rfl, rfl⟩, h93.st, h93.bk, h93.me, fun x hx => Or.inl (h93.stD x hx), fun x hx => Or.inl (h93.bkD x hx), fun x hx => Or.inl (h93.meD x hx)⟩
end Go.Proofs.Ytkjpmkopnkkbmaa

/- What the document's machine does to its working state, piece by piece; stacks that lose their tops. -/
set_option maxRecDepth 100000
namespace Go.Proofs.Ytkjpmkopnkkbmaa
open Go.RowKit

theorem byte_and (p : Int) : IntKind.wrap .u8 (iand .i64 p 255) = IntKind.wrap .u8 p := by
  have h : (BitVec.ofInt 64 p &&& BitVec.ofInt 64 255).toNat = (p % 256).toNat := by
    rw [BitVec.toNat_and]
    have e : (BitVec.ofInt 64 255).toNat = 2^8 - 1 := by decide
    rw [e, Nat.and_two_pow_sub_one_eq_mod, BitVec.toNat_ofInt]; omega
  have e : iand .i64 p 255 = wr ((p % 256).toNat : Int) := by rw [← h]; rfl
  rw [e, wr_in (by omega), IntKind.wrap_u8, IntKind.wrap_u8]; omega
theorem rcross_any (x n : Int) (w : World) : Calls Try.prog fn_hollowayref1_Crosses #[.int .i64 x, .int .i64 n] w fun e w' => e = .returned (.bool (Cn.crosses x n)) ∧ w = w' := by
  refine (hollowayref1_Crosses_lift (K := fun r w' => r = .bool (Cn.crosses x n) ∧ w = w') ?_).mono (by rintro e w' ⟨r, rfl, rfl, h⟩; exact ⟨rfl, h⟩)
  unfold hollowayref1_Crosses_sh
  refine ⟨?_, rfl⟩
  unfold Cn.crosses
  rw [← IntWalk.i64_left]; rfl
theorem getI_take {l : List Int} {n : Nat} {i : Int} (h : i.toNat < n) : getI (l.take n) i = getI l i := by
  unfold getI
  rw [List.getD_eq_getElem?_getD, List.getD_eq_getElem?_getD, List.getElem?_take, if_pos h]
theorem pop2 {s : StV} : popV (popV s) = { s with stack := s.stack.take (s.stack.length - 2) } := by
  have h : (popV (popV s)).stack = s.stack.take (s.stack.length - 2) := by
    show ((s.stack.take (s.stack.length - 1)).take ((s.stack.take (s.stack.length - 1)).length - 1)) = _
    rw [List.take_take, List.length_take]; congr 1; omega
  calc popV (popV s) = { s with stack := (popV (popV s)).stack } := rfl
    _ = _ := by rw [h]
theorem pop3 {s : StV} : popV (popV (popV s)) = { s with stack := s.stack.take (s.stack.length - 3) } := by
  rw [pop2]
  have h : (s.stack.take (s.stack.length - 1)).take ((s.stack.take (s.stack.length - 1)).length - 2) = s.stack.take (s.stack.length - 3) := by
    rw [List.take_take, List.length_take]; congr 1; omega
  show { s with stack := (s.stack.take (s.stack.length - 1)).take ((s.stack.take (s.stack.length - 1)).length - 2) } = _
  rw [h]
theorem top_2 {s : StV} (h : 2 ≤ s.stack.length) : topV (popV s) = getI s.stack ((s.stack.length : Int) - 2) := by
  show getI (s.stack.take (s.stack.length - 1)) (((s.stack.take (s.stack.length - 1)).length : Int) - 1) = _
  rw [List.length_take, show ((min (s.stack.length - 1) s.stack.length : Nat) : Int) - 1 = (s.stack.length : Int) - 2 by omega]
  exact getI_take (by omega)
theorem top_3 {s : StV} (h : 3 ≤ s.stack.length) : topV (popV (popV s)) = getI s.stack ((s.stack.length : Int) - 3) := by
  rw [pop2]
  show getI (s.stack.take (s.stack.length - 2)) (((s.stack.take (s.stack.length - 2)).length : Int) - 1) = _
  rw [List.length_take, show ((min (s.stack.length - 2) s.stack.length : Nat) : Int) - 1 = (s.stack.length : Int) - 3 by omega]
  exact getI_take (by omega)
theorem popb2 {s : StV} : popB (popB s) = { s with back := s.back.take (s.back.length - 2) } := by
  have h : (popB (popB s)).back = s.back.take (s.back.length - 2) := by
    show ((s.back.take (s.back.length - 1)).take ((s.back.take (s.back.length - 1)).length - 1)) = _
    rw [List.take_take, List.length_take]; congr 1; omega
  calc popB (popB s) = { s with back := (popB (popB s)).back } := rfl
    _ = _ := by rw [h]
theorem popb3 {s : StV} : popB (popB (popB s)) = { s with back := s.back.take (s.back.length - 3) } := by
  rw [popb2]
  have h : (s.back.take (s.back.length - 1)).take ((s.back.take (s.back.length - 1)).length - 2) = s.back.take (s.back.length - 3) := by
    rw [List.take_take, List.length_take]; congr 1; omega
  show { s with back := (s.back.take (s.back.length - 1)).take ((s.back.take (s.back.length - 1)).length - 2) } = _
  rw [h]
theorem topb2 {s : StV} (h : 2 ≤ s.back.length) : topB (popB s) = getI s.back ((s.back.length : Int) - 2) := by
  show getI (s.back.take (s.back.length - 1)) (((s.back.take (s.back.length - 1)).length : Int) - 1) = _
  rw [List.length_take, show ((min (s.back.length - 1) s.back.length : Nat) : Int) - 1 = (s.back.length : Int) - 2 by omega]
  exact getI_take (by omega)
theorem topb3 {s : StV} (h : 3 ≤ s.back.length) : topB (popB (popB s)) = getI s.back ((s.back.length : Int) - 3) := by
  rw [popb2]
  show getI (s.back.take (s.back.length - 2)) (((s.back.take (s.back.length - 2)).length : Int) - 1) = _
  rw [List.length_take, show ((min (s.back.length - 2) s.back.length : Nat) : Int) - 1 = (s.back.length : Int) - 3 by omega]
  exact getI_take (by omega)
theorem set_last {l : List Int} {m : Nat} (hm : l.length = m + 2) (v : Int) : l.set (m + 1) v = l.take m ++ [getI l m, v] := by
  apply List.ext_getElem?
  intro i
  rw [List.getElem?_set]
  rcases Nat.lt_trichotomy i m with h | h | h
  · rw [if_neg (by omega), List.getElem?_append_left (by rw [List.length_take]; omega), List.getElem?_take, if_pos h]
  · subst h
    rw [if_neg (by omega), List.getElem?_append_right (by rw [List.length_take]; omega), List.length_take, show i - min i l.length = 0 by omega]
    unfold getI
    rw [List.getD_eq_getElem?_getD, Int.toNat_natCast, List.getElem?_eq_getElem (by omega)]; rfl
  · by_cases h1 : i = m + 1
    · subst h1
      rw [if_pos rfl, if_pos (by omega), List.getElem?_append_right (by rw [List.length_take]; omega), List.length_take, show m + 1 - min m l.length = 1 by omega]; rfl
    · rw [if_neg (by omega), List.getElem?_eq_none (by omega), List.getElem?_eq_none (by rw [List.length_append, List.length_take]; simp; omega)]
section
variable {w0 w : World} {a z m : Nat} {S0 S : StC} {s s0 : StV} {D V : Nat → Prop}
theorem RM.ip (h : RM w0 w a z m S0 S s) (v : Int) {G : World → Prop} (g : ∀ w', RM w0 w' a z m S0 { S with ip := v } { s with ip := v } → G w') : wrOk w ⟨m, 0, none⟩ 1 ∧ ∀ w' : World, w' = stW w ⟨m, 0, none⟩ 0 [.int .i64 v] → G w' :=
  have hs := allS h; have hb := allB h; h.set { S with ip := v } { s with ip := v } (by decide) rfl rfl ⟨rfl, h.x.nums.2⟩ hs hb ⟨rfl, rfl⟩ g
theorem RM.hnd (h : RM w0 w a z m S0 S s) (v : Int) {G : World → Prop} (g : ∀ w', RM w0 w' a z m S0 { S with handler := v } { s with handler := v } → G w') : wrOk w ⟨m, 1, none⟩ 1 ∧ ∀ w' : World, w' = stW w ⟨m, 1, none⟩ 0 [.int .i64 v] → G w' :=
  have hs := allS h; have hb := allB h; h.set { S with handler := v } { s with handler := v } (by decide) rfl rfl ⟨h.x.nums.1, rfl, h.x.nums.2.2⟩ hs hb ⟨rfl, rfl⟩ g
theorem RM.out (h : RM w0 w a z m S0 S s) (v : ByteArray) {G : World → Prop} (g : ∀ w', RM w0 w' a z m S0 { S with out := v } { s with out := v } → G w') : wrOk w ⟨m, 5, none⟩ 1 ∧ ∀ w' : World, w' = stW w ⟨m, 5, none⟩ 0 [.string v] → G w' :=
  have hs := allS h; have hb := allB h; h.set { S with out := v } { s with out := v } (by decide) rfl rfl ⟨h.x.nums.1, h.x.nums.2.1, rfl, h.x.nums.2.2.2⟩ hs hb ⟨rfl, rfl⟩ g
theorem RM.rdn (h : RM w0 w a z m S0 S s) (v : Int) {G : World → Prop} (g : ∀ w', RM w0 w' a z m S0 { S with read := v } { s with read := v } → G w') : wrOk w ⟨m, 7, none⟩ 1 ∧ ∀ w' : World, w' = stW w ⟨m, 7, none⟩ 0 [.int .i64 v] → G w' :=
  have hs := allS h; have hb := allB h; h.set { S with read := v } { s with read := v } (by decide) rfl rfl ⟨h.x.nums.1, h.x.nums.2.1, h.x.nums.2.2.1, h.x.nums.2.2.2.1, rfl, h.x.nums.2.2.2.2.2⟩ hs hb ⟨rfl, rfl⟩ g
theorem RM.sta (h : RM w0 w a z m S0 S s) (v : Int) {G : World → Prop} (g : ∀ w', RM w0 w' a z m S0 { S with status := v } { s with status := v } → G w') : wrOk w ⟨m, 8, none⟩ 1 ∧ ∀ w' : World, w' = stW w ⟨m, 8, none⟩ 0 [.int .i64 v] → G w' :=
  have hs := allS h; have hb := allB h; h.set { S with status := v } { s with status := v } (by decide) rfl rfl ⟨h.x.nums.1, h.x.nums.2.1, h.x.nums.2.2.1, h.x.nums.2.2.2.1, h.x.nums.2.2.2.2.1, rfl, h.x.nums.2.2.2.2.2.2⟩ hs hb ⟨rfl, rfl⟩ g
theorem RM.cutS (h : RM w0 w a z m S0 S s) {n : Nat} (hn : n ≤ s.stack.length) {l : Sl} (hl : l = ⟨S.stack.ptr, n, S.stack.cap⟩) {G : World → Prop} (g : ∀ w', RM w0 w' a z m S0 { S with stack := l } { s with stack := s.stack.take n } → G w') : wrOk w ⟨m, 2, none⟩ 1 ∧ ∀ w' : World, w' = stW w ⟨m, 2, none⟩ 0 [l.val] → G w' :=
  have hs := allS h; have hb := allB h; h.set { S with stack := l } { s with stack := s.stack.take n } (by decide) rfl rfl h.x.nums ⟨n, hn, hl, rfl⟩ hb ⟨rfl, rfl⟩ g
theorem RM.cutB (h : RM w0 w a z m S0 S s) {i : Int} (h0 : 0 ≤ i) (hi : i ≤ s.back.length) {G : World → Prop} (g : ∀ w' S', S'.stack = S.stack → S'.mem = S.mem → RM w0 w' a z m S0 S' { s with back := s.back.take i.toNat } → G w') :
    ∃ l : Sl, w.cell? ⟨m, 3, none⟩ = some l.val ∧ 0 ≤ i ∧ i ≤ (l.cap : Int) ∧ ∀ l' : Sl, l' = Sl.sub l.ptr l.cap 0 (Int.toNat i) 1 → wrOk w ⟨m, 3, none⟩ 1 ∧ ∀ w' : World, w' = stW w ⟨m, 3, none⟩ 0 [l'.val] → G w' := by
  have cb := h.x.bk.rd.capL
  refine ⟨S.back, h.om.cell rfl, h0, by omega, fun l' hl' => ?_⟩
  rw [sub0] at hl'
  have hs := allS h
  exact h.set { S with back := l' } { s with back := s.back.take i.toNat } (by decide) rfl rfl h.x.nums hs ⟨i.toNat, by omega, hl', rfl⟩ ⟨rfl, rfl⟩ (fun w' h' => g w' { S with back := l' } rfl rfl h')
theorem RM.getB (h : RM w0 w a z m S0 S s) {i : Int} (h0 : 0 ≤ i) (hi : i < s.back.length) {G : Int → Prop} (g : G (getI s.back i)) :
    ∃ l : Sl, w.cell? ⟨m, 3, none⟩ = some l.val ∧ ∃ q : Addr, l.ptr = some q ∧ 0 ≤ i ∧ i < (l.len : Int) ∧ ∃ n : Int, w.cell? (Addr.add q (Int.toNat i * 1)) = some (.int .i64 n) ∧ G n := by
  refine ⟨S.back, h.om.cell rfl, ?_⟩
  refine h.x.bk.rd.ix (i := i) h0 (getI_at h0 hi) fun q _ hc => ?_
  have e := hc 0 _ rfl
  rw [Go.Proofs.Ytkjpmkopnkkbmaa.add0] at e
  exact ⟨_, e, g⟩
theorem RM.getS (h : RM w0 w a z m S0 S s) {i : Int} (h0 : 0 ≤ i) (hi : i < s.stack.length) {G : Int → Prop} (g : G (getI s.stack i)) :
    ∃ l : Sl, w.cell? ⟨m, 2, none⟩ = some l.val ∧ ∃ q : Addr, l.ptr = some q ∧ 0 ≤ i ∧ i < (l.len : Int) ∧ ∃ n : Int, w.cell? (Addr.add q (Int.toNat i * 1)) = some (.int .i64 n) ∧ G n := by
  refine ⟨S.stack, h.om.cell rfl, ?_⟩
  refine h.x.st.rd.ix (i := i) h0 (getI_at h0 hi) fun q _ hc => ?_
  have e := hc 0 _ rfl
  rw [Go.Proofs.Ytkjpmkopnkkbmaa.add0] at e
  exact ⟨_, e, g⟩
theorem RM.getM (h : RM w0 w a z m S0 S s) {i : Int} (h0 : 0 ≤ i) (hi : i < s.mem.length) {G : Int → Prop} (g : G (getI s.mem i)) :
    ∃ q : Addr, S.mem.ptr = some q ∧ 0 ≤ i ∧ i < (S.mem.len : Int) ∧ ∃ n : Int, w.cell? (Addr.add q (Int.toNat i * 1)) = some (.int .i64 n) ∧ G n := by
  refine h.x.me.rd.ix (i := i) h0 (getI_at h0 hi) fun q _ hc => ?_
  have e := hc 0 _ rfl
  rw [Go.Proofs.Ytkjpmkopnkkbmaa.add0] at e
  exact ⟨_, e, g⟩
/-- What a step leaves. -/
def KA (D V : Nat → Prop) (w0 : World) (s' : StV) (v : Value) (w' : World) : Prop := ∃ S', v = .agg (stC S').toArray ∧ (∀ w2, Chg V w' w2 → StIs (fun k => D k ∨ w0.heap.size ≤ k) w2 S' s') ∧ Chg No w0 w'
theorem StIs.wid {C : Nat → Prop} (h : StIs D w S s) (hd : ∀ k, D k → C k) : StIs C w S s := ⟨h.nums, h.st, h.bk, h.me, fun k hk => hd k (h.stD k hk), fun k hk => hd k (h.bkD k hk), fun k hk => hd k (h.meD k hk)⟩
theorem RM.done (h : RM w0 w a z m S0 S s) (hV : ∀ k, V k → k < w0.heap.size) {s' : StV} (e : s' = s) :
    ∃ n1 : Int, ∃ n2 : Int, ∃ s3 : Sl, ∃ s4 : Sl, ∃ s5 : Sl, ∃ t6 : ByteArray, ∃ t7 : ByteArray, ∃ n8 : Int, ∃ n9 : Int, ∃ n10 : Int, w.cell? ⟨m, 0, none⟩ = some (.int .i64 n1) ∧ w.cell? ⟨m, 1, none⟩ = some (.int .i64 n2) ∧ w.cell? ⟨m, 2, none⟩ = some (s3.val) ∧ w.cell? ⟨m, 3, none⟩ = some (s4.val) ∧ w.cell? ⟨m, 4, none⟩ = some (s5.val) ∧ w.cell? ⟨m, 5, none⟩ = some (.string t6) ∧ w.cell? ⟨m, 6, none⟩ = some (.string t7) ∧ w.cell? ⟨m, 7, none⟩ = some (.int .i64 n8) ∧ w.cell? ⟨m, 8, none⟩ = some (.int .i64 n9) ∧ w.cell? ⟨m, 9, none⟩ = some (.int .i64 n10) ∧
    wrOk w ⟨z, 0, none⟩ 10 ∧ ∀ w' : World, w' = stW w ⟨z, 0, none⟩ 0 [.int .i64 n1, .int .i64 n2, s3.val, s4.val, s5.val, .string t6, .string t7, .int .i64 n8, .int .i64 n9, .int .i64 n10] →
    ∃ n1 : Int, ∃ n2 : Int, ∃ s3 : Sl, ∃ s4 : Sl, ∃ s5 : Sl, ∃ t6 : ByteArray, ∃ t7 : ByteArray, ∃ n8 : Int, ∃ n9 : Int, ∃ n10 : Int, w'.cell? ⟨z, 0, none⟩ = some (.int .i64 n1) ∧ w'.cell? ⟨z, 1, none⟩ = some (.int .i64 n2) ∧ w'.cell? ⟨z, 2, none⟩ = some (s3.val) ∧ w'.cell? ⟨z, 3, none⟩ = some (s4.val) ∧ w'.cell? ⟨z, 4, none⟩ = some (s5.val) ∧ w'.cell? ⟨z, 5, none⟩ = some (.string t6) ∧ w'.cell? ⟨z, 6, none⟩ = some (.string t7) ∧ w'.cell? ⟨z, 7, none⟩ = some (.int .i64 n8) ∧ w'.cell? ⟨z, 8, none⟩ = some (.int .i64 n9) ∧ w'.cell? ⟨z, 9, none⟩ = some (.int .i64 n10) ∧
    KA D V w0 s' (.agg #[.int .i64 n1, .int .i64 n2, s3.val, s4.val, s5.val, .string t6, .string t7, .int .i64 n8, .int .i64 n9, .int .i64 n10]) w' := by
  subst e
  exact h.fin (K := KA D V w0 s') (fun w' hx c => ⟨S, rfl, fun w2 c2 => (hx.chg c2 (fun k hk he => by have := hV k he; omega)).is.wid (fun _ h => Or.inr h), c⟩) (T := T_api_State)
/-- A fault of what was. -/
theorem RM.flt (h : RM w0 w a z m S0 S s) (hw : Hd D V w0 S0 s0) (n1 : s0.stack.length ≤ 1000) (n2 : s0.back.length ≤ 1000) (c : Int) {s' : StV} (e : s' = mFault s0 c) :
    ∃ n1 : Int, ∃ n2 : Int, ∃ s3 : Sl, ∃ s4 : Sl, ∃ s5 : Sl, ∃ t6 : ByteArray, ∃ t7 : ByteArray, ∃ n8 : Int, ∃ n9 : Int, ∃ n10 : Int, w.cell? ⟨a, 0, none⟩ = some (.int .i64 n1) ∧ w.cell? ⟨a, 1, none⟩ = some (.int .i64 n2) ∧ w.cell? ⟨a, 2, none⟩ = some (s3.val) ∧ w.cell? ⟨a, 3, none⟩ = some (s4.val) ∧ w.cell? ⟨a, 4, none⟩ = some (s5.val) ∧ w.cell? ⟨a, 5, none⟩ = some (.string t6) ∧ w.cell? ⟨a, 6, none⟩ = some (.string t7) ∧ w.cell? ⟨a, 7, none⟩ = some (.int .i64 n8) ∧ w.cell? ⟨a, 8, none⟩ = some (.int .i64 n9) ∧ w.cell? ⟨a, 9, none⟩ = some (.int .i64 n10) ∧
    Calls Try.prog fn_hollowayref9_Fault #[.agg #[.int .i64 n1, .int .i64 n2, s3.val, s4.val, s5.val, .string t6, .string t7, .int .i64 n8, .int .i64 n9, .int .i64 n10], .int .i64 c] w fun e w => ∃ n1 : Int, ∃ n2 : Int, ∃ s3 : Sl, ∃ s4 : Sl, ∃ s5 : Sl, ∃ t6 : ByteArray, ∃ t7 : ByteArray, ∃ n8 : Int, ∃ n9 : Int, ∃ n10 : Int, e = .returned (.agg #[.int .i64 n1, .int .i64 n2, s3.val, s4.val, s5.val, .string t6, .string t7, .int .i64 n8, .int .i64 n9, .int .i64 n10]) ∧
    wrOk w ⟨z, 0, none⟩ 10 ∧ ∀ w' : World, w' = stW w ⟨z, 0, none⟩ 0 [.int .i64 n1, .int .i64 n2, s3.val, s4.val, s5.val, .string t6, .string t7, .int .i64 n8, .int .i64 n9, .int .i64 n10] →
    ∃ n1 : Int, ∃ n2 : Int, ∃ s3 : Sl, ∃ s4 : Sl, ∃ s5 : Sl, ∃ t6 : ByteArray, ∃ t7 : ByteArray, ∃ n8 : Int, ∃ n9 : Int, ∃ n10 : Int, w'.cell? ⟨z, 0, none⟩ = some (.int .i64 n1) ∧ w'.cell? ⟨z, 1, none⟩ = some (.int .i64 n2) ∧ w'.cell? ⟨z, 2, none⟩ = some (s3.val) ∧ w'.cell? ⟨z, 3, none⟩ = some (s4.val) ∧ w'.cell? ⟨z, 4, none⟩ = some (s5.val) ∧ w'.cell? ⟨z, 5, none⟩ = some (.string t6) ∧ w'.cell? ⟨z, 6, none⟩ = some (.string t7) ∧ w'.cell? ⟨z, 7, none⟩ = some (.int .i64 n8) ∧ w'.cell? ⟨z, 8, none⟩ = some (.int .i64 n9) ∧ w'.cell? ⟨z, 9, none⟩ = some (.int .i64 n10) ∧
    KA D V w0 s' (.agg #[.int .i64 n1, .int .i64 n2, s3.val, s4.val, s5.val, .string t6, .string t7, .int .i64 n8, .int .i64 n9, .int .i64 n10]) w' := by
  subst e
  refine rdSt h.oa ((rfault_any S0 hw h.c n1 n2 c).mono ?_)
  rintro e w2 ⟨S2, rfl, h2, c2⟩
  have zz := h.oz.lt
  refine ⟨_, _, _, _, _, _, _, _, _, _, rfl, setSt S2 (h.oz.no c2) (by decide) rfl rfl fun w3 o3 c3 => rdSt o3 ?_⟩
  have g : Chg No w0 w3 := (h.c.trans c2 (U := No) (fun _ _ h => h) (fun _ _ h => h)).trans c3 (fun _ _ h => h) (fun k hk he => by have he : k = z := he; have := h.zz; omega)
  refine ⟨S2, rfl, fun w4 c4 => h2 w4 (fun k => k = z ∨ V k) (c3.trans c4 (fun _ _ h => Or.inl h) (fun _ _ h => Or.inr h)) (fun k hk he => ?_) (g.trans c4 (fun _ _ h => h.elim) (fun _ _ h => h)), g⟩
  have := h.c.size
  rcases he with he | he
  · omega
  · have := hw.lt k he; omega
/-- A fault of the working state. -/
theorem RM.thr (h : RM w0 w a z m S0 S s) (hV : ∀ k, V k → k < w0.heap.size) (n1 : s.stack.length ≤ 1000) (n2 : s.back.length ≤ 1000) (c : Int) {s' : StV} (e : s' = mFault s c) :
    ∃ n1 : Int, ∃ n2 : Int, ∃ s3 : Sl, ∃ s4 : Sl, ∃ s5 : Sl, ∃ t6 : ByteArray, ∃ t7 : ByteArray, ∃ n8 : Int, ∃ n9 : Int, ∃ n10 : Int, w.cell? ⟨m, 0, none⟩ = some (.int .i64 n1) ∧ w.cell? ⟨m, 1, none⟩ = some (.int .i64 n2) ∧ w.cell? ⟨m, 2, none⟩ = some (s3.val) ∧ w.cell? ⟨m, 3, none⟩ = some (s4.val) ∧ w.cell? ⟨m, 4, none⟩ = some (s5.val) ∧ w.cell? ⟨m, 5, none⟩ = some (.string t6) ∧ w.cell? ⟨m, 6, none⟩ = some (.string t7) ∧ w.cell? ⟨m, 7, none⟩ = some (.int .i64 n8) ∧ w.cell? ⟨m, 8, none⟩ = some (.int .i64 n9) ∧ w.cell? ⟨m, 9, none⟩ = some (.int .i64 n10) ∧
    Calls Try.prog fn_hollowayref9_Fault #[.agg #[.int .i64 n1, .int .i64 n2, s3.val, s4.val, s5.val, .string t6, .string t7, .int .i64 n8, .int .i64 n9, .int .i64 n10], .int .i64 c] w fun e w => ∃ n1 : Int, ∃ n2 : Int, ∃ s3 : Sl, ∃ s4 : Sl, ∃ s5 : Sl, ∃ t6 : ByteArray, ∃ t7 : ByteArray, ∃ n8 : Int, ∃ n9 : Int, ∃ n10 : Int, e = .returned (.agg #[.int .i64 n1, .int .i64 n2, s3.val, s4.val, s5.val, .string t6, .string t7, .int .i64 n8, .int .i64 n9, .int .i64 n10]) ∧
    wrOk w ⟨z, 0, none⟩ 10 ∧ ∀ w' : World, w' = stW w ⟨z, 0, none⟩ 0 [.int .i64 n1, .int .i64 n2, s3.val, s4.val, s5.val, .string t6, .string t7, .int .i64 n8, .int .i64 n9, .int .i64 n10] →
    ∃ n1 : Int, ∃ n2 : Int, ∃ s3 : Sl, ∃ s4 : Sl, ∃ s5 : Sl, ∃ t6 : ByteArray, ∃ t7 : ByteArray, ∃ n8 : Int, ∃ n9 : Int, ∃ n10 : Int, w'.cell? ⟨z, 0, none⟩ = some (.int .i64 n1) ∧ w'.cell? ⟨z, 1, none⟩ = some (.int .i64 n2) ∧ w'.cell? ⟨z, 2, none⟩ = some (s3.val) ∧ w'.cell? ⟨z, 3, none⟩ = some (s4.val) ∧ w'.cell? ⟨z, 4, none⟩ = some (s5.val) ∧ w'.cell? ⟨z, 5, none⟩ = some (.string t6) ∧ w'.cell? ⟨z, 6, none⟩ = some (.string t7) ∧ w'.cell? ⟨z, 7, none⟩ = some (.int .i64 n8) ∧ w'.cell? ⟨z, 8, none⟩ = some (.int .i64 n9) ∧ w'.cell? ⟨z, 9, none⟩ = some (.int .i64 n10) ∧
    KA D V w0 s' (.agg #[.int .i64 n1, .int .i64 n2, s3.val, s4.val, s5.val, .string t6, .string t7, .int .i64 n8, .int .i64 n9, .int .i64 n10]) w' := by
  subst e
  have zz := h.oz.lt
  have zc := h.c.size
  have hd : Hd (fun k => w0.heap.size ≤ k ∧ k ≠ a ∧ k ≠ z ∧ k ≠ m) (fun k => k = z ∨ V k) w S s := ⟨fun w2 c2 => (h.x.chg c2 (fun k hk he => by
    rcases he with he | he
    · exact hk.2.2.1 he
    · have := hV k he; omega)).is, fun k hk => by
    rcases hk with hk | hk
    · omega
    · have := hV k hk; omega⟩
  refine rdSt h.om ((rfault_any S hd (Chg.refl No w) n1 n2 c).mono ?_)
  rintro e w2 ⟨S2, rfl, h2, c2⟩
  refine ⟨_, _, _, _, _, _, _, _, _, _, rfl, setSt S2 (h.oz.no c2) (by decide) rfl rfl fun w3 o3 c3 => rdSt o3 ?_⟩
  have g : Chg No w0 w3 := (h.c.trans c2 (U := No) (fun _ _ h => h) (fun _ _ h => h)).trans c3 (fun _ _ h => h) (fun k hk he => by have he : k = z := he; have := h.zz; omega)
  have g2 : Chg (fun k => k = z) w w3 := c2.trans c3 (fun _ _ h => h.elim) (fun _ _ h => h)
  refine ⟨S2, rfl, fun w4 c4 => (h2 w4 (fun k => k = z ∨ V k) (c3.trans c4 (fun _ _ h => Or.inl h) (fun _ _ h => Or.inr h)) (fun k hk he => ?_) (g2.trans c4 (fun _ _ h => Or.inl h) (fun _ _ h => Or.inr h))).wid (fun k hk => Or.inr ?_), g⟩
  · rcases he with he | he
    · omega
    · have := hV k he; omega
  · rcases hk with hk | hk
    · exact hk.1
    · omega
end
end Go.Proofs.Ytkjpmkopnkkbmaa

/- hollowayref9.Step: a step of the document's machine is a step of the machine. -/
set_option maxRecDepth 100000
namespace Go.Proofs.Ytkjpmkopnkkbmaa
open Go.RowKit

section
variable {w0 w : World} {a z m : Nat} {S0 S : StC} {s s0 : StV} {D : Nat → Prop}
theorem RM.sl (h : RM w0 w a z m S0 S s) : S.stack = ⟨S.stack.ptr, s.stack.length, S.stack.cap⟩ := by rw [← h.x.st.rd.len]
theorem lsub {l : Sl} {N : Nat} {q : Sl} (h : l = ⟨q.ptr, N, q.cap⟩) : l = ⟨l.ptr, N, l.cap⟩ := by rw [h]
end
def RMB (w0 w : World) (a z m : Nat) (S0 : StC) (l : Sl) (xs : List Int) : Prop := ∃ S' s', RM w0 w a z m S0 S' s' ∧ S'.back = l ∧ s'.back = xs
theorem mDo_reck {s : StV} {c arg was : Int} (h : 11 ≤ c ∧ c ≤ 29) : mDo s c arg was = mReck s c := by
  unfold mDo
  rw [if_neg (by omega), if_neg (by omega), if_neg (by omega), if_neg (by omega), if_neg (by omega), if_neg (by omega), if_neg (by omega), if_neg (by omega), if_neg (by omega), if_neg (by omega), if_neg (by omega), if_neg (by omega), if_neg (by omega)]
theorem geN {c n : Int} (h : n ≤ c) (q : c ≠ n) : n + 1 ≤ c := by omega
theorem c47 {c : Int} (h : 0 ≤ c ∧ c < 48) (q0 : c ≠ 0) (q1 : c ≠ 1) (q2 : c ≠ 2) (q3 : c ≠ 3) (q4 : c ≠ 4) (q5 : c ≠ 5) (q6 : c ≠ 6) (q7 : c ≠ 7) (q8 : c ≠ 8) (q9 : c ≠ 9) (q10 : c ≠ 10)
    (two : ¬ (11 ≤ c ∧ c ≤ 15 ∨ 17 ≤ c ∧ c ≤ 19 ∨ 21 ≤ c ∧ c ≤ 25 ∨ c = 28 ∨ c = 29)) (one : ¬ (c = 16 ∨ c = 20 ∨ c = 26 ∨ c = 27)) (qm : ¬ (30 ≤ c ∧ c ≤ 32)) (q33 : c ≠ 33) (q34 : c ≠ 34) (q35 : c ≠ 35) (q36 : c ≠ 36) (ql : ¬ (c = 37 ∨ c = 38)) (q39 : c ≠ 39) (q40 : c ≠ 40) (qs : ¬ (c = 41 ∨ c = 42)) (q43 : c ≠ 43) (q44 : c ≠ 44) (q45 : c ≠ 45) (q46 : c ≠ 46) : c = 47 := by
  have a11 : 11 ≤ c := geN (geN (geN (geN (geN (geN (geN (geN (geN (geN (geN h.1 q0) q1) q2) q3) q4) q5) q6) q7) q8) q9) q10
  clear q0 q1 q2 q3 q4 q5 q6 q7 q8 q9 q10
  have a33 : 33 ≤ c := by clear q33 q34 q35 q36 ql q39 q40 qs q43 q44 q45 q46; omega
  have a37 : 37 ≤ c := geN (geN (geN (geN a33 q33) q34) q35) q36
  clear q33 q34 q35 q36 two one qm
  have a39 : 39 ≤ c := by clear q39 q40 qs q43 q44 q45 q46; omega
  have a41 : 41 ≤ c := geN (geN a39 q39) q40
  clear q39 q40 ql
  have a43 : 43 ≤ c := by clear q43 q44 q45 q46; omega
  have a47 : 47 ≤ c := geN (geN (geN (geN a43 q43) q44) q45) q46
  clear q43 q44 q45 q46 qs
  omega
theorem mDo_47 (s : StV) (arg was : Int) : mDo s 47 arg was = .ok s := by
  unfold mDo
  rw [if_neg (by omega), if_neg (by omega), if_neg (by omega), if_neg (by omega), if_neg (by omega), if_neg (by omega), if_neg (by omega), if_neg (by omega), if_neg (by omega), if_neg (by omega), if_neg (by omega), if_neg (by omega), if_pos rfl]
def stepA (s : StV) : StV := if s.status = 0 then mAdv s else s
set_option maxHeartbeats 400000 in
theorem rstep_any {D V : Nat → Prop} {w : World} (S0 : StC) {s0 : StV} (hw : Hd D V w S0 s0) (ok : MOk s0) (hin : InL s0.stack) :
    Calls Try.prog fn_hollowayref9_Step #[.agg (stC S0).toArray] w fun e w' => ∃ v, e = .returned v ∧ KA D V w (stepA s0) v w' := by
  obtain ⟨sF, hF⟩ : ∃ sF, sF = stepA s0 := ⟨_, rfl⟩
  rw [← hF]
  refine (hollowayref9_Step_lift (K := KA D V w sF) ?_).mono (by rintro e w' ⟨v, rfl, h⟩; exact ⟨v, rfl, h⟩)
  unfold hollowayref9_Step_sh
  have k1 := ok.st
  have k2 := ok.bk
  have k3 := ok.me
  have hw0 := hw.at (Chg.refl No w)
  refine inSt S0 fun a w12 ha z12 oa c12 => inSt st0 fun z w14 hz z14 oz c14 => ⟨S0.status, (oa.no c14).cell rfl, brB_of (fun hs => ?_) (fun hs => ?_)⟩
  · have hs : s0.status ≠ 0 := by rw [← hw0.nums.2.2.2.2.2.1]; simpa using hs
    have e : sF = s0 := hF.trans (if_neg hs)
    refine rdSt (oa.no c14) (setSt S0 oz (by decide) rfl rfl fun w26 o26 c26 => rdSt o26 ?_)
    have g : Chg No w w26 := (trN c12 c14).trans c26 (fun _ _ h => h) (fun k hk he => by omega)
    rw [e]
    exact ⟨S0, rfl, fun w2 c2 => (hw.is w2 (g.trans c2 (fun _ _ h => h.elim) (fun _ _ h => h))).wid (fun _ h => Or.inl h), g⟩
  have hs : s0.status = 0 := by rw [← hw0.nums.2.2.2.2.2.1]; simpa using hs
  have hA : sF = mAdv s0 := hF.trans (if_pos hs)
  have aok : ∀ X, mStep s0 = .ok X → sF = X := fun X h => by rw [hA]; unfold mAdv; rw [h]
  have abad : ∀ k, mStep s0 = .bad k false → sF = mFault s0 k := fun k h => by rw [hA]; unfold mAdv; rw [h]; rfl
  have athr : ∀ k, mStep s0 = .bad k true → sF = mFault (popV s0) k := fun k h => by rw [hA]; unfold mAdv; rw [h]; rfl
  clear hA hF
  have k14 := trN c12 c14
  refine rdSt (oa.no c14) ((rcopy_any S0 (hw.at k14) (by omega) (by omega) (by omega)).mono ?_)
  rintro e w48 ⟨S1, rfl, x48, c48⟩
  refine ⟨_, _, _, _, _, _, _, _, _, _, rfl, varSt S1 fun m w61 hm zm om cm => ?_⟩
  have z48 := c48.size
  have h : RM w w61 a z m S0 S1 s0 := ⟨trN (trN k14 c48) cm, by omega, by omega, by omega, by omega, by omega, by omega, ((oa.no c14).no c48).no cm, (oz.no c48).no cm, om, (x48.no cm).wid (fun k hk => ⟨by omega, by omega, by omega, by omega⟩)⟩
  clear x48 om
  have m1 : S1.ip = s0.ip := h.x.nums.1
  have ls := h.x.st.rd.len
  have lb := h.x.bk.rd.len
  have lm := h.x.me.rd.len
  refine ⟨fun b w' => b = decide (s0.ip < 0 ∨ (s0.mem.length : Int) ≤ s0.ip) ∧ w' = w61, ?_, S1.ip, h.om.cell rfl, ?_⟩
  rotate_left
  · refine brB_of (fun t => ⟨?_, rfl⟩) (fun t => ⟨S1.ip, h.om.cell rfl, S1.mem, h.om.cell rfl, ?_, rfl⟩)
    · have t := of_decide_eq_true t
      exact (decide_eq_true (by omega)).symm
    · have t := of_decide_eq_false t
      rw [Bool.eq_iff_iff, decide_eq_true_iff, decide_eq_true_iff]; omega
  rintro b w65 ⟨rfl, rfl⟩
  refine brB_of (fun hb => h.flt hw (by omega) (by omega) (-9) (abad _ ?_)) (fun hb => ⟨S1.mem, h.om.cell rfl, S1.ip, h.om.cell rfl, ?_⟩)
  · unfold mStep; rw [if_pos (of_decide_eq_true hb)]
  have hip := of_decide_eq_false hb
  have hip0 : 0 ≤ s0.ip := by omega
  have hip1 : s0.ip < s0.mem.length := by omega
  clear hb
  rw [m1]
  refine h.getM hip0 hip1 ?_
  obtain ⟨c, hc⟩ : ∃ c, c = getI s0.mem s0.ip := ⟨_, rfl⟩
  rw [← hc]
  refine brB_of (fun h64 => ?_) (fun h64 => ?_)
  · have h64 := of_decide_eq_true h64
    refine ⟨S1.back, h.om.cell rfl, brB_of (fun hb => h.flt hw (by omega) (by omega) (-5) (abad _ ?_)) (fun hb => ⟨S1.back, h.om.cell rfl, S1.ip, h.om.cell rfl, ?_⟩)⟩
    · have hb := of_decide_eq_true hb
      unfold mStep; rw [if_neg hip, ← hc, if_pos (by omega), if_pos (by omega)]
    have hb := of_decide_eq_false hb
    rw [m1, wr_in (by omega)]
    refine h.back [s0.ip + 1] _ rfl (by simp) (by simp) (by omega) (fun w2 S2 _ _ h2 => h2.ip c (fun w3 h3 => h3.done hw.lt (aok _ ?_))) rfl
    unfold mStep; rw [if_neg hip, ← hc, if_pos (by omega), if_neg (by omega)]; rfl
  have h64 := of_decide_eq_false h64
  refine (refOp_any c _).mono ?_
  rintro e w168 ⟨rfl, rfl⟩
  refine ⟨_, rfl, brB_of (fun hb => h.flt hw (by omega) (by omega) (-13) (abad _ ?_)) (fun hb => ?_)⟩
  · have hb : ¬ (0 ≤ c ∧ c < 48) := fun hx => by rw [decide_eq_true hx] at hb; cases hb
    unfold mStep; rw [if_neg hip, ← hc, if_neg (by omega), if_pos hb]
  have hc48 : 0 ≤ c ∧ c < 48 := Classical.byContradiction fun hx => by rw [decide_eq_false hx] at hb; cases hb
  clear hb
  refine ⟨fun arg w' => arg = mArg s0 c ∧ w' = w65 ∧ (opArg c = true → s0.ip + 1 < s0.mem.length), ?_, ?_⟩
  rotate_left
  · refine (refArg_any c _).mono ?_
    rintro e w204 ⟨rfl, rfl⟩
    refine ⟨_, rfl, brB_of (fun ha => ⟨S1.ip, h.om.cell rfl, S1.mem, h.om.cell rfl, ?_⟩) (fun ha => ⟨?_, rfl, fun h => by rw [ha] at h; cases h⟩)⟩
    · rw [m1, wr_in (by omega), lm]
      refine brB_of (fun hb => h.flt hw (by omega) (by omega) (-9) (abad _ ?_)) (fun hb => ⟨S1.mem, h.om.cell rfl, S1.ip, h.om.cell rfl, ?_⟩)
      · have hb := of_decide_eq_true hb
        unfold mStep; rw [if_neg hip, ← hc, if_neg (by omega), if_neg (fun h => h hc48), if_pos ⟨ha, by omega⟩]
      have hb := of_decide_eq_false hb
      rw [m1, wr_in (by omega)]
      refine h.getM (by omega) (by omega) ⟨?_, rfl, fun _ => by omega⟩
      unfold mArg; rw [if_pos ha]
    · unfold mArg; rw [if_neg (by rw [ha]; decide)]
  rintro arg w245 ⟨harg, rfl, hab⟩
  refine (moves_any c _).mono ?_
  rintro e w247 ⟨rfl, rfl⟩
  refine ⟨_, _, _, _, rfl, ?_⟩
  intro w252 hw252
  have h2 := h.no (dw hw252)
  refine ⟨S1.stack, held_Lw (h2.om.cell rfl), S1.back, held_Lw (h2.om.cell rfl), ?_⟩
  rw [ls, lb]
  obtain ⟨⟨t0, t3, b0, b3, g0, g3, y0, y4⟩, trow⟩ := rows_small c.toNat (by omega)
  have ec : ((c.toNat : Nat) : Int) = c := by omega
  rw [ec] at t0 t3 b0 b3 g0 g3 y0 y4 trow
  have room : ∀ k, k ≠ 0 → mRoom s0 c = k → mStep s0 = .bad k false := fun k hk he => by
    unfold mStep; rw [if_neg hip, ← hc, if_neg (by omega), if_neg (fun h => h hc48), if_neg (fun h => by have := hab h.1; omega), he, if_pos hk]
  refine brB_of (fun hb => h2.flt hw (by omega) (by omega) (-4) (abad _ (room _ (by decide) ?_))) (fun r1 => brB_of (fun hb => h2.flt hw (by omega) (by omega) (-6) (abad _ (room _ (by decide) ?_))) (fun r2 => ?_))
  · unfold mRoom; rw [if_pos (of_decide_eq_true hb)]
  · unfold mRoom; rw [if_neg (of_decide_eq_false r1), if_pos (of_decide_eq_true hb)]
  have r1 := of_decide_eq_false r1
  have r2 := of_decide_eq_false r2
  rw [wr_in (x := (s0.stack.length : Int) - (opRow c).takes) (by omega), wr_in (x := (s0.stack.length : Int) - (opRow c).takes + (opRow c).gives) (by omega), wr_in (x := (s0.back.length : Int) - (opRow c).backs) (by omega), wr_in (x := (s0.back.length : Int) - (opRow c).backs + (opRow c).givesBak) (by omega)]
  refine brB_of (fun hb => h2.flt hw (by omega) (by omega) (-3) (abad _ (room _ (by decide) ?_))) (fun r3 => brB_of (fun hb => h2.flt hw (by omega) (by omega) (-5) (abad _ (room _ (by decide) ?_))) (fun r4 => ?_))
  · unfold mRoom; rw [if_neg r1, if_neg r2, if_pos (of_decide_eq_true hb)]
  · unfold mRoom; rw [if_neg r1, if_neg r2, if_neg (of_decide_eq_false r3), if_pos (of_decide_eq_true hb)]
  have r3 := of_decide_eq_false r3
  have r4 := of_decide_eq_false r4
  have hroom : mRoom s0 c = 0 := by unfold mRoom; rw [if_neg r1, if_neg r2, if_neg (by omega), if_neg (by omega)]
  have nd := need_of hc48 hroom
  have hstep : mStep s0 = mDo { s0 with ip := mNext s0 c } c arg s0.ip := by
    rw [harg]
    unfold mStep; rw [if_neg hip, ← hc, if_neg (by omega), if_neg (fun h => h hc48), if_neg (fun h => by have := hab h.1; omega), if_neg (fun h => h hroom)]
  clear room hab harg
  rw [hstep] at aok abad athr
  refine ⟨fun p w' => p = topV s0 ∧ w' = w252, ?_, ?_⟩
  rotate_left
  · refine brB_of (fun hp => ?_) (fun hp => ⟨?_, rfl⟩)
    · have hp := of_decide_eq_true hp
      rw [wr_in (x := (s0.stack.length : Int) - 1) (by omega)]
      exact h2.getS (by omega) (by omega) ⟨rfl, rfl⟩
    · have hp := of_decide_eq_false hp
      have : s0.stack = [] := List.length_eq_zero_iff.1 (by omega)
      unfold topV getI; rw [this]; rfl
  rintro p w390 ⟨hp, rfl⟩
  refine ⟨fun q w' => (2 ≤ s0.stack.length → q = getI s0.stack ((s0.stack.length : Int) - 2)) ∧ w' = w390, ?_, ?_⟩
  rotate_left
  · refine brB_of (fun hp => ?_) (fun hp => ⟨fun h => ?_, rfl⟩)
    · have hp := of_decide_eq_true hp
      rw [wr_in (x := (s0.stack.length : Int) - 2) (by omega)]
      exact h2.getS (by omega) (by omega) ⟨fun _ => rfl, rfl⟩
    · have hp := of_decide_eq_false hp
      omega
  rintro q w394 ⟨hq, rfl⟩
  refine ⟨fun r w' => (3 ≤ s0.stack.length → r = getI s0.stack ((s0.stack.length : Int) - 3)) ∧ w' = w394, ?_, ?_⟩
  rotate_left
  · refine brB_of (fun hp => ?_) (fun hp => ⟨fun h => ?_, rfl⟩)
    · have hp := of_decide_eq_true hp
      rw [wr_in (x := (s0.stack.length : Int) - 3) (by omega)]
      exact h2.getS (by omega) (by omega) ⟨fun _ => rfl, rfl⟩
    · have hp := of_decide_eq_false hp
      omega
  rintro r w398 ⟨hr, rfl⟩
  refine ⟨S1.ip, h2.om.cell rfl, ?_⟩
  rw [m1, wr_in (x := s0.ip + 1) (by omega)]
  refine h2.ip (s0.ip + 1) fun w400 h3 => ?_
  obtain ⟨nx, hnx⟩ : ∃ nx, nx = mNext s0 c := ⟨_, rfl⟩
  rw [← hnx] at aok abad athr hstep
  have hnxr : s0.ip + 1 ≤ nx ∧ nx ≤ s0.ip + 2 := by rw [hnx]; unfold mNext; split <;> omega
  refine ⟨fun w' => ∃ S', RM w w' a z m S0 S' { s0 with ip := nx }, ?_, ?_⟩
  rotate_left
  · refine (refArg_any c _).mono ?_
    rintro e w402 ⟨rfl, rfl⟩
    refine ⟨_, rfl, brB_of (fun ha => ⟨_, h3.om.cell rfl, ?_⟩) (fun ha => ?_)⟩
    · rw [wr_in (by show _ ≤ s0.ip + 1 + 1 ∧ s0.ip + 1 + 1 ≤ _; omega)]
      have e : nx = s0.ip + 1 + 1 := by rw [hnx]; unfold mNext; rw [if_pos ha]; omega
      refine h3.ip _ fun w405 h4 => ?_
      rw [e]; exact ⟨_, h4⟩
    · have e : nx = s0.ip + 1 := by rw [hnx]; unfold mNext; rw [if_neg (by rw [ha]; decide)]
      rw [e]; exact ⟨_, h3⟩
  rintro w406 ⟨S6, h6⟩
  clear h3 h2 h
  have cs6 := h6.x.st.rd.capL
  have hlen6 : s0.stack.length ≤ S6.stack.cap := cs6.1
  refine ⟨S6.stack, h6.om.cell rfl, by omega, by omega, fun l hl => ?_⟩
  rw [sub0] at hl
  obtain ⟨N, hN⟩ : ∃ N : Nat, N = ((s0.stack.length : Int) - (opRow c).takes).toNat := ⟨_, rfl⟩
  rw [← hN] at hl
  have hNv : (N : Int) = (s0.stack.length : Int) - (opRow c).takes := by omega
  have hNle : N ≤ s0.stack.length := by omega
  have hpin : Cn.In p := by rw [hp]; exact hin.get _
  have hqin : 2 ≤ s0.stack.length → Cn.In q := fun h => by rw [hq h]; exact hin.get _
  have top0 : topV { s0 with ip := nx } = p := hp.symm
  have top2' : 2 ≤ s0.stack.length → topV (popV { s0 with ip := nx }) = q := fun h => (top_2 (s := { s0 with ip := nx }) h).trans (hq h).symm
  have top3' : 3 ≤ s0.stack.length → topV (popV (popV { s0 with ip := nx })) = r := fun h => (top_3 (s := { s0 with ip := nx }) h).trans (hr h).symm
  refine (risTwo_any c _).mono ?_
  rintro e w410 ⟨rfl, rfl⟩
  refine ⟨_, rfl, brB_of (fun htwo => ?_) (fun htwo => ?_)⟩
  · have hr2 : 11 ≤ c ∧ c ≤ 29 ∧ c ≠ 16 ∧ c ≠ 20 ∧ c ≠ 26 ∧ c ≠ 27 := by
      unfold Cn.risTwo at htwo
      have := of_decide_eq_true htwo; omega
    have ht := (trow (by omega)).2.2.2
    rw [if_neg (by omega)] at ht
    have hone := risOne_not htwo
    have hm : mDo { s0 with ip := nx } c arg s0.ip = mReck { s0 with ip := nx } c := mDo_reck (by omega)
    have hm2 : mReck { s0 with ip := nx } c = if Cn.isTwo c p = true then .ok (pushV (popV (popV { s0 with ip := nx })) [Cn.two c q p]) else .bad (-10) false := by
      unfold mReck; rw [if_neg (by rw [hone]; decide), top0, top2' (by omega)]
    refine (rtwo_any c q p hpin _).mono ?_
    rintro e w415 ⟨rfl, rfl⟩
    refine ⟨_, _, rfl, brB_of (fun hb => h6.flt hw (by omega) (by omega) (-10) (abad _ ?_)) (fun hb => ?_)⟩
    · have hb : Cn.isTwo c p = false := by simpa using hb
      rw [hm, hm2, if_neg (by rw [hb]; decide)]
    · have hb : Cn.isTwo c p = true := by simpa using hb
      refine h6.push (n := N) hNle [Cn.rtwo c q p] _ rfl (by simp) (by simp) (by show s0.stack.length ≤ _; omega) (fun w2 S2 _ _ h7 => h7.done hw.lt (aok _ ?_)) rfl hl
      rw [hm, hm2, if_pos hb, Cn.rtwo_two (hqin (by omega)), pop2, show N = s0.stack.length - 2 by omega]; rfl
  have htwo' : ¬ (11 ≤ c ∧ c ≤ 15 ∨ 17 ≤ c ∧ c ≤ 19 ∨ 21 ≤ c ∧ c ≤ 25 ∨ c = 28 ∨ c = 29) := by
    unfold Cn.risTwo at htwo
    have := of_decide_eq_false htwo; omega
  refine (risOne_any c _).mono ?_
  rintro e w478 ⟨rfl, rfl⟩
  refine ⟨_, rfl, brB_of (fun hone => ?_) (fun hone => ?_)⟩
  · have hr2 : c = 16 ∨ c = 20 ∨ c = 26 ∨ c = 27 := by
      unfold Cn.risOne at hone
      have := of_decide_eq_true hone; omega
    have ht := (trow (by omega)).2.2.2
    rw [if_pos (by omega)] at ht
    have hm : mDo { s0 with ip := nx } c arg s0.ip = mReck { s0 with ip := nx } c := mDo_reck (by omega)
    refine (rone_any c p _).mono ?_
    rintro e w481 ⟨rfl, rfl⟩
    refine ⟨_, _, rfl, ?_⟩
    refine h6.push (n := N) hNle [Cn.rone c p] _ rfl (by simp) (by simp) (by show s0.stack.length ≤ _; omega) (fun w2 S2 _ _ h7 => h7.done hw.lt (aok _ ?_)) rfl hl
    rw [hm]; unfold mReck
    rw [if_pos (by rw [isOne_eq]; exact hone), top0, rone_one, show N = s0.stack.length - 1 by omega]; rfl
  have hone' : ¬ (c = 16 ∨ c = 20 ∨ c = 26 ∨ c = 27) := by
    unfold Cn.risOne at hone
    have := of_decide_eq_false hone; omega
  have eqb : ∀ {n : Int}, (c == n) = true → c = n := fun h => by simpa using h
  have neb : ∀ {n : Int}, (c == n) = false → c ≠ n := fun h => by simpa using h
  clear htwo hone trow
  obtain ⟨a1, a2, a3, a4, a5⟩ := rows_d1 c.toNat (by omega)
  obtain ⟨a6, a7, a8⟩ := rows_d2 c.toNat (by omega)
  obtain ⟨a9, a10, a11⟩ := rows_d3 c.toNat (by omega)
  obtain ⟨a12, a13, a14⟩ := rows_g1 c.toNat (by omega)
  rw [ec] at a1 a2 a3 a4 a5 a6 a7 a8 a9 a10 a11 a12 a13 a14
  have lb6 : S6.back.len = s0.back.length := h6.x.bk.rd.len
  have lm6 : S6.mem.len = s0.mem.length := h6.x.me.rd.len
  have tB1 : ((s0.back.length : Int) - 1).toNat = s0.back.length - 1 := by omega
  have tB2 : ((s0.back.length : Int) - 2).toNat = s0.back.length - 2 := by omega
  have tkAll : N = s0.stack.length → s0.stack.take N = s0.stack := fun h => by rw [h, List.take_length]
  have L100 : ({ s0 with ip := nx } : StV).stack.length ≤ 10000 := by show s0.stack.length ≤ _; omega
  have B100 : ({ s0 with ip := nx } : StV).back.length ≤ 10000 := by show s0.back.length ≤ _; omega
  refine ⟨fun w' => ∃ S' s', RM w w' a z m S0 S' s' ∧ sF = s', (fun w924 h => by obtain ⟨S', s', h, e⟩ := h; exact h.done hw.lt e), ?_⟩
  refine brB_of (fun k => ?_) (fun q0 => ?_)
  · have k := eqb k
    have hn : nx = s0.ip + 1 := by rw [hnx, k]; rfl
    refine ⟨S6.ip, h6.om.cell rfl, ?_⟩
    rw [show S6.ip = nx from h6.x.nums.1, wr_in (by omega), show nx - 1 = s0.ip by omega]
    exact h6.ip s0.ip fun w1 h => h.sta 1 fun w2 h => ⟨_, _, h, aok _ (by rw [k]; rfl)⟩
  refine brB_of (fun k => ?_) (fun q1 => ?_)
  · have k := eqb k
    have hm : mDo { s0 with ip := nx } c arg s0.ip = mEnd { s0 with ip := nx } := by rw [k]; rfl
    refine ⟨S6.handler, h6.om.cell rfl, ?_⟩
    rw [show S6.handler = s0.handler from h6.x.nums.2.1]
    refine ⟨fun b w' => b = decide (s0.handler < 3 ∨ (s0.back.length : Int) ≠ s0.handler) ∧ w' = w406, ?_, ?_⟩
    rotate_left
    · refine brB_of (fun t => ⟨?_, rfl⟩) (fun t => ⟨?_, rfl⟩)
      · exact (decide_eq_true (Or.inl (of_decide_eq_true t))).symm
      · have t := of_decide_eq_false t
        rw [Bool.eq_iff_iff, bne_iff_ne, decide_eq_true_iff]
        exact ⟨Or.inr, fun h => h.resolve_left t⟩
    rintro b w514 ⟨rfl, rfl⟩
    refine brB_of (fun hb => h6.flt hw (by omega) (by omega) (-25) (abad _ ?_)) (fun hb => ?_)
    · rw [hm]; unfold mEnd; rw [if_pos (of_decide_eq_true hb)]
    have hb := of_decide_eq_false hb
    refine brB_of (fun hb48 => h6.flt hw (by omega) (by omega) (-3) (abad _ ?_)) (fun hb48 => ?_)
    · rw [hm]; unfold mEnd; rw [if_neg hb, if_pos (by have := of_decide_eq_true hb48; show 48 ≤ s0.stack.length; omega)]
    have hb48 := of_decide_eq_false hb48
    have hbe : s0.handler = (s0.back.length : Int) := by omega
    have hbe3 : 3 ≤ s0.back.length := by omega
    rw [hbe, wr_in (x := (s0.back.length : Int) - 3) (by omega), wr_in (x := (s0.back.length : Int) - 2) (by omega)]
    intro w582 hw582
    have h7 := h6.no (dw hw582)
    have rdb : ∀ w', RMB w w' a z m S0 S6.back s0.back → Rd intE w' S6.back s0.back := fun w' h => by
      obtain ⟨S', s', g, e, e'⟩ := h; have := g.x.bk.rd; rw [e, e'] at this; exact this
    have rdc : ∀ w', RMB w w' a z m S0 S6.back s0.back → w'.cell? ⟨m, 3, none⟩ = some S6.back.val := fun w' h => by
      obtain ⟨S', s', g, e, e'⟩ := h; rw [← e]; exact g.om.cell rfl
    refine ⟨fun w' => RMB w w' a z m S0 S6.back s0.back, ⟨_, _, h7, rfl, rfl⟩, S6.back, rdc, ?_⟩
    refine Rd.hix (S := fun w' => RMB w w' a z m S0 S6.back s0.back) ⟨_, _, h7, rfl, rfl⟩ rdb (i := (s0.back.length : Int) - 3) (by omega) (getI_at (by omega) (by omega)) fun a585 _ hc585 => ?_
    have g585 := hc585 0 _ rfl
    rw [Go.Proofs.Ytkjpmkopnkkbmaa.add0] at g585
    refine ⟨_, g585, S6.back, rdc, ?_⟩
    refine Rd.hix (S := fun w' => RMB w w' a z m S0 S6.back s0.back) ⟨_, _, h7, rfl, rfl⟩ rdb (i := (s0.back.length : Int) - 2) (by omega) (getI_at (by omega) (by omega)) fun a588 _ hc588 => ?_
    have g588 := hc588 0 _ rfl
    rw [Go.Proofs.Ytkjpmkopnkkbmaa.add0] at g588
    refine ⟨_, g588, ?_⟩
    refine h7.ip (getI s0.back ((s0.back.length : Int) - 3)) fun w590 h8 => ⟨⟨_, _, h8, rfl, rfl⟩, ?_⟩
    refine h8.hnd (getI s0.back ((s0.back.length : Int) - 2)) fun w591 h9 => ?_
    refine h9.cutB (i := (s0.back.length : Int) - 3) (by omega) (by show (s0.back.length : Int) - 3 ≤ (s0.back.length : Int); omega) ?_
    intro w594 S594 _ _ h10
    refine ⟨S594.stack, h10.om.cell rfl, ?_⟩
    refine h10.push (n := s0.stack.length) (Nat.le_refl _) [0] _ rfl (by simp) (by simp) L100 ?_ rfl h10.sl
    refine fun w2 S2 _ _ h => ⟨_, _, h, aok _ ?_⟩
    rw [hm]; unfold mEnd
    rw [if_neg hb, if_neg (by show ¬ 48 ≤ s0.stack.length; omega), popb3, topb2 (s := { s0 with ip := nx }) (by show 2 ≤ s0.back.length; omega), topb3 (s := { s0 with ip := nx }) (by show 3 ≤ s0.back.length; omega), List.take_length, show ((s0.back.length : Int) - 3).toNat = s0.back.length - 3 by omega]; rfl
  refine brB_of (fun k => ?_) (fun q2 => ?_)
  · have k := eqb k
    refine h6.push hNle [arg] _ rfl (by simp) (by simp) L100 ?_ rfl hl
    exact fun w2 S2 _ _ h => ⟨_, _, h, aok _ (by rw [k, tkAll (by have := (a12 (by omega)).1; omega)]; rfl)⟩
  refine brB_of (fun k => ?_) (fun q3 => ?_)
  · have k := eqb k
    exact h6.ip arg fun w1 h => ⟨_, _, h, aok _ (by rw [k]; rfl)⟩
  refine brB_of (fun k => ?_) (fun q4 => ?_)
  · have k := eqb k
    have hN1 : N = s0.stack.length - 1 := by have := a1 (by omega); omega
    have e4 : mDo { s0 with ip := nx } c arg s0.ip = if p ≠ 0 then .ok (popV { s0 with ip := nx }) else .ok { popV { s0 with ip := nx } with ip := arg } := by
      rw [hp, k]; rfl
    refine h6.cutS hNle hl fun w1 h => ?_
    refine brB_of (fun hp0 => h.ip arg fun w2 h => ⟨_, _, h, aok _ ?_⟩) (fun hp0 => ⟨_, _, h, aok _ ?_⟩)
    · rw [e4, if_neg (by simpa using hp0), hN1]; rfl
    · rw [e4, if_pos (by simpa using hp0), hN1]; rfl
  refine brB_of (fun k => ?_) (fun q5 => ?_)
  · have k := eqb k
    have hb1 := nd.b1 (Or.inl k)
    rw [wr_in (x := (s0.back.length : Int) - 1) (by omega)]
    refine h6.getB (i := (s0.back.length : Int) - 1) (by omega) (by show _ < (s0.back.length : Int); omega) ?_
    refine h6.ip _ fun w1 h => ?_
    refine h.cutB (i := (s0.back.length : Int) - 1) (by omega) (by show _ ≤ (s0.back.length : Int); omega) ?_
    refine fun w2 S2 _ _ h => ⟨_, _, h, aok _ ?_⟩
    rw [k, tB1]; rfl
  refine brB_of (fun k => ?_) (fun q6 => ?_)
  · have k := eqb k
    have hN1 : N = s0.stack.length - 1 := by have := a3 (by omega); omega
    refine h6.push hNle [p, p] _ rfl (by simp) (by simp) L100 ?_ rfl hl
    exact fun w2 S2 _ _ h => ⟨_, _, h, aok _ (by rw [k, hN1, hp]; rfl)⟩
  refine brB_of (fun k => ?_) (fun q7 => ?_)
  · have k := eqb k
    have hN1 : N = s0.stack.length - 1 := by have := a3 (by omega); omega
    refine h6.cutS hNle hl fun w1 h => ?_
    exact ⟨_, _, h, aok _ (by rw [k, hN1]; rfl)⟩
  refine brB_of (fun k => ?_) (fun q8 => ?_)
  · have k := eqb k
    have hn2 := nd.n2 (by omega)
    have hN1 : N = s0.stack.length - 2 := by have := a4 (by omega); omega
    have e8 : mDo { s0 with ip := nx } 8 arg s0.ip = .ok (pushV (popV (popV { s0 with ip := nx })) [topV { s0 with ip := nx }, topV (popV { s0 with ip := nx })]) := rfl
    refine h6.push hNle [p, q] _ rfl (by simp) (by simp) L100 ?_ rfl hl
    exact fun w2 S2 _ _ h => ⟨_, _, h, aok _ (by rw [k, e8, top0, top2' hn2, pop2, hN1]; rfl)⟩
  refine brB_of (fun k => ?_) (fun q9 => ?_)
  · have k := eqb k
    have hn2 := nd.n2 (by omega)
    have hN1 : N = s0.stack.length - 2 := by have := a4 (by omega); omega
    have e9 : mDo { s0 with ip := nx } 9 arg s0.ip = .ok (pushV (popV (popV { s0 with ip := nx })) [topV (popV { s0 with ip := nx }), topV { s0 with ip := nx }, topV (popV { s0 with ip := nx })]) := rfl
    refine h6.push hNle [q, p, q] _ rfl (by simp) (by simp) L100 ?_ rfl hl
    exact fun w2 S2 _ _ h => ⟨_, _, h, aok _ (by rw [k, e9, top0, top2' hn2, pop2, hN1]; rfl)⟩
  refine brB_of (fun k => ?_) (fun q10 => ?_)
  · have k := eqb k
    have hn3 := nd.n3 k
    have hN1 : N = s0.stack.length - 3 := by have := a5 (by omega); omega
    have e10 : mDo { s0 with ip := nx } 10 arg s0.ip = .ok (pushV (popV (popV (popV { s0 with ip := nx }))) [topV (popV { s0 with ip := nx }), topV { s0 with ip := nx }, topV (popV (popV { s0 with ip := nx }))]) := rfl
    refine h6.push hNle [q, p, r] _ rfl (by simp) (by simp) L100 ?_ rfl hl
    exact fun w2 S2 _ _ h => ⟨_, _, h, aok _ (by rw [k, e10, top0, top2' (by omega), top3' hn3, pop3, hN1]; rfl)⟩
  clear top3' a5 a4 a3 a2 a1
  refine ⟨fun b w' => b = decide (30 ≤ c ∧ c ≤ 32) ∧ w' = w406, ?_, ?_⟩
  rotate_left
  · refine brB_of (fun k => ?_) (fun k1 => brB_of (fun k => ?_) (fun k2 => ?_))
    · exact ⟨by rw [eqb k]; rfl, rfl⟩
    · exact ⟨by rw [eqb k]; rfl, rfl⟩
    · have k1 := neb k1
      have k2 := neb k2
      refine ⟨?_, rfl⟩
      rw [Bool.eq_iff_iff, beq_iff_eq, decide_eq_true_iff]; omega
  rintro b w639 ⟨rfl, rfl⟩
  refine brB_of (fun k => ?_) (fun qm => ?_)
  · have k := of_decide_eq_true k
    have hm : mDo { s0 with ip := nx } c arg s0.ip = mMem { s0 with ip := nx } c := by
      rcases (by omega : c = 30 ∨ c = 31 ∨ c = 32) with e | e | e <;> (rw [e]; rfl)
    refine ⟨fun b w' => b = decide (p < 0 ∨ (s0.mem.length : Int) ≤ p) ∧ w' = w639, ?_, ?_⟩
    rotate_left
    · refine brB_of (fun t => ⟨?_, rfl⟩) (fun t => ⟨S6.mem, h6.om.cell rfl, ?_, rfl⟩)
      · exact (decide_eq_true (Or.inl (of_decide_eq_true t))).symm
      · have t := of_decide_eq_false t
        rw [lm6, Bool.eq_iff_iff, decide_eq_true_iff, decide_eq_true_iff]
        exact ⟨Or.inr, fun h => h.resolve_left t⟩
    rintro b w642 ⟨rfl, rfl⟩
    refine brB_of (fun hb => h6.flt hw (by omega) (by omega) (-9) (abad _ ?_)) (fun hb => ?_)
    · rw [hm]; unfold mMem; rw [top0, if_pos (of_decide_eq_true hb)]
    have hb := of_decide_eq_false hb
    have hp0 : 0 ≤ p := by omega
    have hp1 : p < (s0.mem.length : Int) := by omega
    have lenN : (s0.stack.take N).length = N := by rw [List.length_take]; omega
    refine h6.cutS hNle hl fun w1 h => ?_
    refine brB_of (fun k30 => ?_) (fun k30 => ?_)
    · have k30 := eqb k30
      have hN1 : N = s0.stack.length - 1 := by have := a6 (by omega); omega
      refine ⟨S6.mem, h.om.cell rfl, ?_⟩
      refine h.getM hp0 hp1 ?_
      refine h.push (n := N) (by show N ≤ (s0.stack.take N).length; omega) [getI s0.mem p] _ rfl (by simp) (by simp) (by show (s0.stack.take N).length ≤ _; omega) ?_ rfl (lsub hl)
      refine fun w2 S2 _ _ h => ⟨_, _, h, aok _ ?_⟩
      rw [hm]; unfold mMem
      rw [top0, if_neg hb, if_pos k30, List.take_take, Nat.min_self, hN1]; rfl
    have hn2 := nd.n2 (by have := neb k30; omega)
    have hN1 : N = s0.stack.length - 2 := by have := neb k30; have := a7 (by omega); omega
    refine brB_of (fun k31 => ?_) (fun k31 => ?_)
    · refine ⟨S6.mem, h.om.cell rfl, ?_⟩
      refine h.setMem hp0 hp1 ?_
      refine fun w2 h => ⟨_, _, h, aok _ ?_⟩
      rw [hm]; unfold mMem
      rw [top0, top2' hn2, if_neg hb, if_neg (neb k30), if_pos (eqb k31), Int.zero_add, wr_in (x := q) (hqin hn2), pop2, hN1]
    · intro w689 hw689
      have h := h.no (dw hw689)
      refine ⟨S6.mem, held_Lw (h.om.cell rfl), S6.mem, held_Lw (h.om.cell rfl), ?_⟩
      refine h.x.me.rd.ix (i := p) hp0 (getI_at hp0 hp1) fun q1 _ hc1 => ?_
      have e := hc1 0 _ rfl
      rw [Go.Proofs.Ytkjpmkopnkkbmaa.add0] at e
      refine ⟨_, held_Lw e, ?_⟩
      refine h.setMem hp0 hp1 ?_
      refine fun w2 h => ⟨_, _, h, aok _ ?_⟩
      rw [hm]; unfold mMem
      rw [top0, top2' hn2, if_neg hb, if_neg (neb k30), if_neg (neb k31), pop2, hN1]
  refine brB_of (fun k => ?_) (fun q33 => ?_)
  · have k := eqb k
    have hN1 : N = s0.stack.length - 1 := by have := a6 (by omega); omega
    refine h6.cutS hNle hl fun w1 h => ?_
    refine ⟨_, h.om.cell rfl, h.back [p] _ rfl (by simp) (by simp) B100 ?_ rfl⟩
    refine fun w2 S2 _ _ h => ⟨_, _, h, aok _ ?_⟩
    rw [k, hN1, hp]; rfl
  refine brB_of (fun k => ?_) (fun q34 => ?_)
  · have k := eqb k
    have hb1 := nd.b1 (by omega)
    rw [wr_in (x := (s0.back.length : Int) - 1) (by omega)]
    refine h6.getB (i := (s0.back.length : Int) - 1) (by omega) (by show _ < (s0.back.length : Int); omega) ?_
    refine h6.push hNle [getI s0.back ((s0.back.length : Int) - 1)] _ rfl (by simp) (by simp) L100 ?_ rfl hl
    intro w2 S2 _ _ h
    refine h.cutB (i := (s0.back.length : Int) - 1) (by omega) (by show _ ≤ (s0.back.length : Int); omega) ?_
    refine fun w2 S2 _ _ h => ⟨_, _, h, aok _ ?_⟩
    rw [k, tB1, tkAll (by have := (a12 (by omega)).1; omega)]; rfl
  refine brB_of (fun k => ?_) (fun q35 => ?_)
  · have k := eqb k
    have hb1 := nd.b1 (by omega)
    rw [wr_in (x := (s0.back.length : Int) - 1) (by omega)]
    refine h6.getB (i := (s0.back.length : Int) - 1) (by omega) (by show _ < (s0.back.length : Int); omega) ?_
    refine h6.push hNle [getI s0.back ((s0.back.length : Int) - 1)] _ rfl (by simp) (by simp) L100 ?_ rfl hl
    refine fun w2 S2 _ _ h => ⟨_, _, h, aok _ ?_⟩
    rw [k, tkAll (by have := (a12 (by omega)).1; omega)]; rfl
  refine brB_of (fun k => ?_) (fun q36 => ?_)
  · have k := eqb k
    have hn2 := nd.n2 (by omega)
    have hN1 : N = s0.stack.length - 2 := by have := a7 (by omega); omega
    have e36 : mDo { s0 with ip := nx } 36 arg s0.ip = .ok (backV (popV (popV { s0 with ip := nx })) [topV (popV { s0 with ip := nx }), topV { s0 with ip := nx }]) := rfl
    refine h6.cutS hNle hl fun w1 h => ?_
    refine ⟨_, h.om.cell rfl, h.back [q, p] _ rfl (by simp) (by simp) B100 ?_ rfl⟩
    refine fun w2 S2 _ _ h => ⟨_, _, h, aok _ ?_⟩
    rw [k, e36, top0, top2' hn2, pop2, hN1]; rfl
  refine ⟨fun b w' => b = decide (c = 37 ∨ c = 38) ∧ w' = w639, ?_, ?_⟩
  rotate_left
  · refine brB_of (fun k => ?_) (fun k1 => ?_)
    · exact ⟨by rw [eqb k]; rfl, rfl⟩
    · have k1 := neb k1
      refine ⟨?_, rfl⟩
      rw [Bool.eq_iff_iff, beq_iff_eq, decide_eq_true_iff]; omega
  rintro b w729 ⟨rfl, rfl⟩
  refine brB_of (fun k => ?_) (fun ql => ?_)
  · have k := of_decide_eq_true k
    have hb2 := nd.b2 (by omega)
    obtain ⟨ix, hix⟩ : ∃ ix, ix = getI s0.back ((s0.back.length : Int) - 1) := ⟨_, rfl⟩
    obtain ⟨lim, hlim⟩ : ∃ lim, lim = getI s0.back ((s0.back.length : Int) - 2) := ⟨_, rfl⟩
    refine h6.cutS hNle hl fun w1 h => ?_
    refine ⟨fun st w' => st = (if c = 38 then p else 1) ∧ w' = w1, ?_, ?_⟩
    rotate_left
    · exact brB_of (fun t => ⟨(if_pos (eqb t)).symm, rfl⟩) (fun t => ⟨(if_neg (neb t)).symm, rfl⟩)
    rintro st w732 ⟨hst, rfl⟩
    intro w733 hw733
    have h := h.no (dw hw733)
    rw [wr_in (x := (s0.back.length : Int) - 1) (by omega), wr_in (x := (s0.back.length : Int) - 2) (by omega)]
    refine ⟨S6.back, held_Lw (h.om.cell rfl), ?_⟩
    refine h.x.bk.rd.ix (i := (s0.back.length : Int) - 1) (by omega) (getI_at (by omega) (by show _ < (s0.back.length : Int); omega)) fun q1 _ hc1 => ?_
    have e1 := hc1 0 _ rfl
    rw [Go.Proofs.Ytkjpmkopnkkbmaa.add0] at e1
    refine ⟨_, held_Lw e1, S6.back, held_Lw (h.om.cell rfl), ?_⟩
    refine h.x.bk.rd.ix (i := (s0.back.length : Int) - 2) (by omega) (getI_at (by omega) (by show _ < (s0.back.length : Int); omega)) fun q2 _ hc2 => ?_
    have e2 := hc2 0 _ rfl
    rw [Go.Proofs.Ytkjpmkopnkkbmaa.add0] at e2
    refine ⟨_, held_Lw e2, ?_⟩
    show ∃ J113 : Bool → World → Prop, _
    rw [← hix, ← hlim]
    refine ⟨fun ends w' => ends = (if c = 38 then Cn.crosses (wr (ix - lim)) st else decide (wr (ix + st) = lim)) ∧ w' = w733, ?_, ?_⟩
    rotate_left
    · refine brB_of (fun t => (rcross_any _ _ _).mono ?_) (fun t => ⟨?_, rfl⟩)
      · rintro e w742 ⟨rfl, rfl⟩; exact ⟨_, rfl, (if_pos (eqb t)).symm, rfl⟩
      · rw [if_neg (neb t), Bool.eq_iff_iff, beq_iff_eq, decide_eq_true_iff]
    rintro ends w744 ⟨hends, rfl⟩
    have hm : mDo { s0 with ip := nx } c arg s0.ip = .ok (mLoopR { s0 with ip := nx, stack := s0.stack.take N, back := s0.back.take (s0.back.length - 2) } ix lim st arg ends) := by
      have tb1 : topB { s0 with ip := nx } = ix := hix.symm
      have tb2 : topB (popB { s0 with ip := nx }) = lim := (topb2 (s := { s0 with ip := nx }) hb2).trans hlim.symm
      rcases k with e | e
      · rw [if_neg (by omega)] at hst hends
        have e37 : mDo { s0 with ip := nx } 37 arg s0.ip = .ok (mLoopR (popB (popB { s0 with ip := nx })) (topB { s0 with ip := nx }) (topB (popB { s0 with ip := nx })) 1 arg (decide (wr (topB { s0 with ip := nx } + 1) = topB (popB { s0 with ip := nx })))) := rfl
        rw [e, e37, tb1, tb2, hends, hst, popb2, tkAll (by have e0 : (opRow c).takes = 0 := by { rw [e]; rfl }; omega)]
      · rw [if_pos e] at hst hends
        have e38 : mDo { s0 with ip := nx } 38 arg s0.ip = .ok (mLoopR (popV (popB (popB { s0 with ip := nx }))) (topB { s0 with ip := nx }) (topB (popB { s0 with ip := nx })) (topV { s0 with ip := nx }) arg (Cn.crosses (wr (topB { s0 with ip := nx } - topB (popB { s0 with ip := nx }))) (topV { s0 with ip := nx }))) := rfl
        rw [e, e38, tb1, tb2, top0, hends, hst, popb2, show N = s0.stack.length - 1 by have := (a10 (by omega)).1; omega]; rfl
    refine brB_of (fun t => ?_) (fun t => ?_)
    · refine h.cutB (i := (s0.back.length : Int) - 2) (by omega) (by show _ ≤ (s0.back.length : Int); omega) ?_
      refine fun w2 S2 _ _ h => ⟨_, _, h, aok _ ?_⟩
      rw [hm, t, tB2]; rfl
    · refine ⟨S6.back, h.om.cell rfl, ?_⟩
      refine h.setBack (i := (s0.back.length : Int) - 1) (by omega) (by show _ < (s0.back.length : Int); omega) ?_
      intro w751 h
      refine h.ip arg fun w752 h => ⟨_, _, h, aok _ ?_⟩
      obtain ⟨m2, hm2⟩ : ∃ m2, s0.back.length = m2 + 2 := ⟨s0.back.length - 2, by omega⟩
      have hl2 : s0.back.set ((s0.back.length : Int) - 1).toNat (wr (ix + st)) = s0.back.take (s0.back.length - 2) ++ [lim, wr (ix + st)] := by
        rw [tB1, hm2, show m2 + 2 - 1 = m2 + 1 by omega, show m2 + 2 - 2 = m2 by omega, set_last hm2, hlim, hm2, show (((m2 + 2 : Nat) : Int) - 2) = (m2 : Int) by omega]
      rw [hm, t]
      show Rs.ok _ = Rs.ok { s0 with ip := arg, stack := s0.stack.take N, back := s0.back.set ((s0.back.length : Int) - 1).toNat (wr (ix + st)) }
      rw [hl2]; rfl
  refine brB_of (fun k => ?_) (fun q39 => ?_)
  · have k := eqb k
    have hb3 := nd.b3 k
    rw [wr_in (x := (s0.back.length : Int) - 3) (by omega)]
    refine h6.getB (i := (s0.back.length : Int) - 3) (by omega) (by show _ < (s0.back.length : Int); omega) ?_
    refine h6.push hNle [getI s0.back ((s0.back.length : Int) - 3)] _ rfl (by simp) (by simp) L100 ?_ rfl hl
    refine fun w2 S2 _ _ h => ⟨_, _, h, aok _ ?_⟩
    rw [k, tkAll (by have := (a12 (by omega)).1; omega)]; rfl
  refine brB_of (fun k => ?_) (fun q40 => ?_)
  · have k := eqb k
    have hb2 := nd.b2 (by omega)
    rw [wr_in (x := (s0.back.length : Int) - 2) (by omega)]
    refine h6.cutB (i := (s0.back.length : Int) - 2) (by omega) (by show _ ≤ (s0.back.length : Int); omega) ?_
    refine fun w2 S2 _ _ h => ⟨_, _, h, aok _ ?_⟩
    rw [k, tB2]; rfl
  refine ⟨fun b w' => b = decide (c = 41 ∨ c = 42) ∧ w' = w729, ?_, ?_⟩
  rotate_left
  · refine brB_of (fun k => ?_) (fun k1 => ?_)
    · exact ⟨by rw [eqb k]; rfl, rfl⟩
    · have k1 := neb k1
      refine ⟨?_, rfl⟩
      rw [Bool.eq_iff_iff, beq_iff_eq, decide_eq_true_iff]; omega
  rintro b w764 ⟨rfl, rfl⟩
  refine brB_of (fun k => ?_) (fun qs => ?_)
  · have k := of_decide_eq_true k
    have hN1 : N = s0.stack.length - 1 := by have := a6 (by omega); omega
    have hm : mDo { s0 with ip := nx } c arg s0.ip = mSay { s0 with ip := nx } c := by rcases k with e | e <;> (rw [e]; rfl)
    have hout := ok.out
    intro b766 w767 hb766 hw767
    rw [byte_and] at hw767
    obtain ⟨l7, c7⟩ := lit8 (byteC p) (byte_lit _) hb766 hw767
    refine ⟨_, w767, u8_str (s := ⟨some ⟨b766, 0, none⟩, 1, 1⟩) l7.rd (by simp), ?_⟩
    have h7 := h6.no c7
    have hsz := mtext_size c p
    refine ⟨fun t w' => t = mText c p ∧ Chg No w767 w', ?_, ?_⟩
    rotate_left
    · refine brB_of (fun h42 => ?_) (fun h42 => ?_)
      · have h42 := eqb h42
        refine (rput_any p w767).mono ?_
        rintro x w19 ⟨rfl, rfl⟩
        have := putV_size p
        refine ⟨_, rfl, ?_, ?_, Chg.refl _ _⟩
        · show _ + (1 : Int) ≤ _; omega
        · unfold mText; rw [if_pos h42]
      · refine ⟨?_, Chg.refl _ _⟩
        unfold mText; rw [if_neg (neb h42)]
    rintro t w773 ⟨rfl, c773⟩
    have h8 := h7.no c773
    have ho : S6.out = s0.out := h6.x.nums.2.2.1
    refine ⟨S6.out, h8.om.cell rfl, ?_⟩
    rw [ho, wr_in (by omega)]
    refine brB_of (fun hf => h8.flt hw (by omega) (by omega) (-57) (abad _ ?_)) (fun hf => ?_)
    · have hf := of_decide_eq_true hf
      rw [hm]; unfold mSay; rw [top0, if_pos (by show 2000 < (s0.out.size : Int) + _; omega)]
    have hf := of_decide_eq_false hf
    refine h8.cutS hNle hl fun w1 h => ?_
    refine ⟨S6.out, h.om.cell rfl, by rw [ho]; omega, ?_⟩
    refine h.out _ fun w2 h => ⟨_, _, h, aok _ ?_⟩
    rw [hm]; unfold mSay; rw [top0, if_neg (by show ¬ 2000 < (s0.out.size : Int) + _; omega), ho, hN1]; rfl
  refine brB_of (fun k => ?_) (fun q43 => ?_)
  · have k := eqb k
    have hm : mDo { s0 with ip := nx } c arg s0.ip = .ok (mKey { s0 with ip := nx }) := by rw [k]; rfl
    have hNl : N = s0.stack.length := by have := (a12 (by omega)).1; omega
    have hrd : S6.read = s0.read := h6.x.nums.2.2.2.2.1
    have hinp : S6.inp = s0.inp := h6.x.nums.2.2.2.1
    have hrd0 := ok.rd
    have hin0 := ok.inp
    refine ⟨fun v w' => ∃ S', RM w w' a z m S0 S' { s0 with ip := nx, read := if (s0.inp.size : Int) ≤ s0.read then s0.read else s0.read + 1 } ∧ S'.stack = S6.stack ∧ v = (if (s0.inp.size : Int) ≤ s0.read then -1 else sb s0.inp s0.read), ?_, S6.read, h6.om.cell rfl, S6.inp, h6.om.cell rfl, ?_⟩
    rotate_left
    · rw [hrd, hinp]
      refine brB_of (fun t => ⟨S6.inp, h6.om.cell rfl, S6.read, h6.om.cell rfl, ?_⟩) (fun t => ?_)
      · have t := of_decide_eq_true t
        rw [hrd, hinp]
        refine ⟨hrd0.1, t, S6.read, h6.om.cell rfl, ?_⟩
        rw [hrd, wr_in (x := s0.read + 1) (by omega), wr_in (x := sb s0.inp s0.read) (by have := sb_byte s0.inp s0.read; omega)]
        refine h6.rdn (s0.read + 1) fun w817 h => ⟨{ S6 with read := s0.read + 1 }, ?_, rfl, (if_neg (by omega)).symm⟩
        rw [if_neg (by omega)]; exact h
      · have t := of_decide_eq_false t
        refine ⟨S6, ?_, rfl, (if_pos (by omega)).symm⟩
        rw [if_pos (by omega)]; exact h6
    rintro v w818 ⟨S', h, es, hv⟩
    refine h.push (n := N) hNle [v] _ rfl (by simp) (by simp) L100 ?_ rfl (by rw [es]; exact hl)
    refine fun w2 S2 _ _ h => ⟨_, _, h, aok _ ?_⟩
    rw [hm, hv, tkAll hNl]; unfold mKey
    by_cases t : (s0.inp.size : Int) ≤ s0.read
    · simp only [if_pos t]; rfl
    · simp only [if_neg t]; rfl
  refine brB_of (fun k => ?_) (fun q44 => ?_)
  · have k := eqb k
    have hN1 : N = s0.stack.length - 1 := by have := a6 (by omega); omega
    have hm : mDo { s0 with ip := nx } c arg s0.ip = if p < 64 ∨ (s0.mem.length : Int) ≤ p then .bad (-13) false else .ok { backV (popV { s0 with ip := nx }) [nx] with ip := p } := by rw [k, hp]; rfl
    refine ⟨fun b w' => b = decide (p < 64 ∨ (s0.mem.length : Int) ≤ p) ∧ w' = w764, ?_, ?_⟩
    rotate_left
    · refine brB_of (fun t => ⟨?_, rfl⟩) (fun t => ⟨S6.mem, h6.om.cell rfl, ?_, rfl⟩)
      · exact (decide_eq_true (Or.inl (of_decide_eq_true t))).symm
      · have t := of_decide_eq_false t
        rw [lm6, Bool.eq_iff_iff, decide_eq_true_iff, decide_eq_true_iff]
        exact ⟨Or.inr, fun h => h.resolve_left t⟩
    rintro b w826 ⟨rfl, rfl⟩
    refine brB_of (fun hb => h6.flt hw (by omega) (by omega) (-13) (abad _ ?_)) (fun hb => ?_)
    · rw [hm, if_pos (of_decide_eq_true hb)]
    have hb := of_decide_eq_false hb
    refine h6.cutS hNle hl fun w1 h => ?_
    refine ⟨_, h.om.cell rfl, S6.ip, h.om.cell rfl, ?_⟩
    rw [show S6.ip = nx from h6.x.nums.1]
    refine h.back [nx] _ rfl (by simp) (by simp) B100 ?_ rfl
    intro w2 S2 _ _ h
    refine h.ip p fun w3 h => ⟨_, _, h, aok _ ?_⟩
    rw [hm, if_neg hb, hN1]; rfl
  refine brB_of (fun k => ?_) (fun q45 => ?_)
  · have k := eqb k
    have hN1 : N = s0.stack.length - 1 := by have := a6 (by omega); omega
    have hm : mDo { s0 with ip := nx } c arg s0.ip = if p = 0 then .ok (popV { s0 with ip := nx }) else .bad p true := by rw [k, hp]; rfl
    refine h6.cutS hNle hl fun w1 h => ?_
    refine brB_of (fun t => ⟨S0.ip, h.oa.cell rfl, ?_⟩) (fun t => ⟨_, _, h, aok _ ?_⟩)
    · have t : p ≠ 0 := by simpa using t
      rw [show S0.ip = s0.ip from hw0.nums.1]
      refine h.ip s0.ip fun w2 h => h.thr hw.lt (by show (s0.stack.take N).length ≤ 1000; rw [List.length_take]; omega) (by show s0.back.length ≤ 1000; omega) p ?_
      rw [athr p (by rw [hm, if_neg t]), hN1]; rfl
    · have t : p = 0 := by simpa using t
      rw [hm, if_pos t, hN1]; rfl
  refine brB_of (fun k => ?_) (fun q46 => ?_)
  · have k := eqb k
    have hN1 : N = s0.stack.length - 1 := by have := a6 (by omega); omega
    have hll : l.len = N := by rw [hl]
    have hm : mDo { s0 with ip := nx } c arg s0.ip = .ok { s0 with ip := p, handler := (s0.back.length : Int) + 3, stack := s0.stack.take N, back := (s0.back ++ [nx, s0.handler, (N : Int)]) ++ [1] } := by
      have e46 : mDo { s0 with ip := nx } 46 arg s0.ip = .ok (mCatch (popV { s0 with ip := nx }) (topV { s0 with ip := nx })) := rfl
      have el : ((popV { s0 with ip := nx }).stack.length : Int) = (N : Int) := by rw [popV_len, hN1]
      rw [k, e46, top0]; unfold mCatch
      rw [el, hN1]; rfl
    refine h6.cutS hNle hl fun w1 h => ?_
    refine ⟨_, h.om.cell rfl, S6.ip, h.om.cell rfl, S6.handler, h.om.cell rfl, ?_⟩
    rw [show S6.ip = nx from h6.x.nums.1, show S6.handler = s0.handler from h6.x.nums.2.1, hll]
    refine h.back [nx, s0.handler, (N : Int)] _ rfl (by simp) (by simp) B100 ?_ rfl
    intro w2 S2 _ _ h
    have lb2 : (S2.back.len : Int) = (s0.back.length : Int) + 3 := by
      have := h.x.bk.rd.len
      simp only [List.length_append, List.length_cons, List.length_nil] at this
      omega
    refine ⟨S2.back, h.om.cell rfl, ?_⟩
    rw [lb2]
    refine h.hnd _ fun w3 h => ⟨_, h.om.cell rfl, ?_⟩
    refine h.back [1] _ rfl (by simp) (by simp) (by simp only [List.length_append, List.length_cons, List.length_nil]; omega) ?_ rfl
    intro w4 S4 _ _ h
    refine h.ip p fun w5 h => ⟨_, _, h, aok _ ?_⟩
    rw [hm]
  have k : c = 47 := c47 hc48 (neb q0) (neb q1) (neb q2) (neb q3) (neb q4) (neb q5) (neb q6) (neb q7) (neb q8) (neb q9) (neb q10) htwo' hone' (of_decide_eq_false qm) (neb q33) (neb q34) (neb q35) (neb q36) (of_decide_eq_false ql) (neb q39) (neb q40) (of_decide_eq_false qs) (neb q43) (neb q44) (neb q45) (neb q46)
  rw [k, mDo_47] at aok
  exact ⟨_, _, h6, aok _ rfl⟩
end Go.Proofs.Ytkjpmkopnkkbmaa

/- All numbers of a machine fit 64 bits, step after step. No program in sight. -/
set_option maxRecDepth 100000
namespace Go.Proofs.Ytkjpmkopnkkbmaa
open Go.RowKit

structure SIn (s : StV) : Prop where
  st : InL s.stack
  bk : InL s.back
  me : InL s.mem
  ha : Cn.In s.handler
theorem InL.tk {l : List Int} (h : InL l) (n : Nat) : InL (l.take n) := fun x hx => h x (List.mem_of_mem_take hx)
theorem InL.ap {l r : List Int} (h : InL l) (g : InL r) : InL (l ++ r) := fun x hx => (List.mem_append.1 hx).elim (h x) (g x)
theorem InL.c0 : InL [] := fun _ hx => by cases hx
theorem InL.cs {x : Int} {l : List Int} (h : Cn.In x) (g : InL l) : InL (x :: l) := fun y hy => by
  rcases List.mem_cons.1 hy with e | e
  · rw [e]; exact h
  · exact g y e
theorem in_sm {x : Int} (h : -100000 ≤ x ∧ x ≤ 100000) : Cn.In x := by unfold Cn.In; omega
theorem SIn.top {s : StV} (h : SIn s) : Cn.In (topV s) := h.st.get _
theorem SIn.topb {s : StV} (h : SIn s) : Cn.In (topB s) := h.bk.get _
theorem SIn.pop {s : StV} (h : SIn s) : SIn (popV s) := ⟨h.st.tk _, h.bk, h.me, h.ha⟩
theorem SIn.popb {s : StV} (h : SIn s) : SIn (popB s) := ⟨h.st, h.bk.tk _, h.me, h.ha⟩
theorem SIn.push {s : StV} (h : SIn s) {l : List Int} (g : InL l) : SIn (pushV s l) := ⟨h.st.ap g, h.bk, h.me, h.ha⟩
theorem SIn.back {s : StV} (h : SIn s) {l : List Int} (g : InL l) : SIn (backV s l) := ⟨h.st, h.bk.ap g, h.me, h.ha⟩
theorem sin_fault {s : StV} (h : SIn s) {c : Int} (hc : Cn.In c) : SIn (mFault s c) := by
  unfold mFault
  split
  · refine ⟨((h.st.tk _).ap ?_).ap (InL.cs hc InL.c0), h.bk.tk _, h.me, h.bk.get _⟩
    intro x hx
    rw [(List.mem_replicate.1 hx).2]; exact in0'
  · exact ⟨h.st, h.bk, h.me, h.ha⟩
theorem sin_do {s s' : StV} {c arg was : Int} (h : SIn s) (hip : -100000 ≤ s.ip ∧ s.ip ≤ 100000) (ha : Cn.In arg) (k1 : s.stack.length ≤ 48) (k2 : s.back.length ≤ 48) (he : mDo s c arg was = .ok s') : SIn s' := by
  have one : ∀ {x : Int}, Cn.In x → InL [x] := fun h => InL.cs h InL.c0
  unfold mDo at he
  by_cases h0 : c = 0
  · rw [if_pos h0] at he; cases he; exact ⟨h.st, h.bk, h.me, h.ha⟩
  rw [if_neg h0] at he
  by_cases h2 : c = 2
  · rw [if_pos h2] at he; cases he
    exact h.push (one ha)
  rw [if_neg h2] at he
  by_cases h4 : c = 4
  · rw [if_pos h4] at he
    split at he
    · cases he; exact h.pop
    · cases he; exact ⟨h.pop.st, h.bk, h.me, h.ha⟩
  rw [if_neg h4] at he
  by_cases h3 : c = 3
  · rw [if_pos h3] at he; cases he; exact ⟨h.st, h.bk, h.me, h.ha⟩
  rw [if_neg h3] at he
  by_cases h5 : c = 5
  · rw [if_pos h5] at he; cases he; exact ⟨h.st, h.popb.bk, h.me, h.ha⟩
  rw [if_neg h5] at he
  by_cases h6 : 6 ≤ c ∧ c ≤ 10
  · rw [if_pos h6] at he; cases he
    unfold mShuf
    split
    · exact h.pop.push (InL.cs h.top (one h.top))
    split
    · exact h.pop.pop.push (InL.cs h.top (one h.pop.top))
    split
    · exact h.pop.pop.push (InL.cs h.pop.top (InL.cs h.top (one h.pop.top)))
    split
    · exact h.pop.pop.pop.push (InL.cs h.pop.top (InL.cs h.top (one h.pop.pop.top)))
    · exact h.pop
  rw [if_neg h6] at he
  by_cases h30 : 30 ≤ c ∧ c ≤ 32
  · rw [if_pos h30] at he
    unfold mMem at he
    split at he
    · cases he
    split at he
    · cases he; exact h.pop.push (one (h.me.get _))
    · cases he
      exact ⟨h.pop.pop.st, h.bk, h.me.set _ (by rw [wr_wrap]; exact Cn.in_w _), h.ha⟩
  rw [if_neg h30] at he
  by_cases h33 : (33 ≤ c ∧ c ≤ 36) ∨ c = 39 ∨ c = 40
  · rw [if_pos h33] at he; cases he
    unfold mBacks
    split
    · exact h.pop.back (one h.top)
    split
    · exact h.popb.push (one h.topb)
    split
    · exact h.push (one h.topb)
    split
    · exact h.pop.pop.back (InL.cs h.pop.top (one h.top))
    split
    · exact h.push (one (h.bk.get _))
    · exact ⟨h.st, h.bk.tk _, h.me, h.ha⟩
  rw [if_neg h33] at he
  by_cases h37 : c = 37 ∨ c = 38
  · rw [if_pos h37] at he; cases he
    have lp : ∀ (s1 : StV) (index limit n : Int) (ends : Bool), SIn s1 → Cn.In limit → SIn (mLoopR s1 index limit n arg ends) := fun s1 index limit n ends g hl => by
      unfold mLoopR
      split
      · exact g
      · exact ⟨g.st, g.bk.ap (InL.cs hl (one (by rw [wr_wrap]; exact Cn.in_w _))), g.me, g.ha⟩
    unfold mLoop
    split
    · exact lp _ _ _ _ _ h.popb.popb.pop h.popb.topb
    · exact lp _ _ _ _ _ h.popb.popb h.popb.topb
  rw [if_neg h37] at he
  by_cases h41 : c = 41 ∨ c = 42
  · rw [if_pos h41] at he
    unfold mSay at he
    split at he
    · cases he
    · cases he
      exact ⟨h.pop.st, h.bk, h.me, h.ha⟩
  rw [if_neg h41] at he
  by_cases h43 : c = 43
  · rw [if_pos h43] at he; cases he
    unfold mKey
    split
    · exact h.push (one (in_sm (by omega)))
    · have := sb_byte s.inp s.read
      exact ⟨h.st.ap (one (in_sm (by omega))), h.bk, h.me, h.ha⟩
  rw [if_neg h43] at he
  by_cases h44 : (44 ≤ c ∧ c ≤ 46) ∨ c = 1
  · rw [if_pos h44] at he
    unfold mFlow at he
    split at he
    · split at he
      · cases he
      · cases he; exact ⟨h.pop.st, h.bk.ap (one (in_sm hip)), h.me, h.ha⟩
    split at he
    · split at he
      · cases he; exact h.pop
      · cases he
    split at he
    · cases he
      have p1 := popV_len s
      refine ⟨h.pop.st, (h.bk.ap (InL.cs (in_sm hip) (InL.cs h.ha (one (in_sm ?_))))).ap (one (in_sm (by omega))), h.me, in_sm ?_⟩
      · omega
      · show _ ≤ (s.back.length : Int) + 3 ∧ (s.back.length : Int) + 3 ≤ _; omega
    · unfold mEnd at he
      split at he
      · cases he
      split at he
      · cases he
      · cases he
        exact ⟨h.st.ap (one in0'), h.popb.popb.popb.bk, h.me, h.popb.topb⟩
  rw [if_neg h44] at he
  by_cases h47 : c = 47
  · rw [if_pos h47] at he; cases he; exact h
  rw [if_neg h47] at he
  unfold mReck at he
  split at he
  · cases he; exact h.pop.push (one (in_one _ _))
  split at he
  · cases he; exact h.pop.pop.push (one (in_two h.pop.top h.top))
  · cases he
theorem sin_adv {s : StV} (h : SIn s) (ok : MOk s) : SIn (mAdv s) := by
  have k3 := ok.me
  unfold mAdv
  have hrs := mStep_rs s
  cases hst : mStep s with
  | bad c t =>
    rw [hst] at hrs
    show SIn (mFault (if t = true then popV s else s) c)
    cases t with
    | false =>
      have hrs : -57 ≤ c ∧ c < 0 := hrs
      exact sin_fault h (in_sm (by omega))
    | true =>
      have hrs : _ ∧ c = topV s ∧ _ := hrs
      rw [hrs.2.1]
      exact sin_fault h.pop h.top
  | ok s' =>
    show SIn s'
    clear hrs
    unfold mStep at hst
    split at hst
    · cases hst
    next hip =>
    split at hst
    · split at hst
      · cases hst
      · cases hst
        exact ⟨h.st, h.bk.ap (InL.cs (in_sm (by omega)) InL.c0), h.me, h.ha⟩
    split at hst
    · cases hst
    split at hst
    · cases hst
    split at hst
    · cases hst
    refine sin_do (s := { s with ip := mNext s (getI s.mem s.ip) }) ⟨h.st, h.bk, h.me, h.ha⟩ ?_ ?_ ok.st ok.bk hst
    · show _ ≤ mNext s _ ∧ mNext s _ ≤ _
      unfold mNext; split <;> omega
    · unfold mArg; split
      · exact h.me.get _
      · exact in0'
end Go.Proofs.Ytkjpmkopnkkbmaa

/- hollowayref9.Run: steps as long as there is fuel. -/
set_option maxRecDepth 100000
namespace Go.Proofs.Ytkjpmkopnkkbmaa
open Go.RowKit

end Go.Proofs.Ytkjpmkopnkkbmaa

/- hollowayref9.faults, Record: the document's recording is the package's. -/
set_option maxRecDepth 100000
namespace Go.Proofs.Ytkjpmkopnkkbmaa
open Go.RowKit

theorem rfaults_any {D V : Nat → Prop} {w : World} (S : StC) {s : StV} (hw : Hd D V w S s) (ok : MOk s) (hin : SIn s) :
    Calls Try.prog fn_hollowayref9_faults #[.agg (stC S).toArray] w fun e w' => e = .returned (.bool (decide ((stepA { s with handler := 0 }).status = 2))) ∧ Chg No w w' := by
  refine (hollowayref9_faults_lift (K := fun v w' => v = .bool (decide ((stepA { s with handler := 0 }).status = 2)) ∧ Chg No w w') ?_).mono (by rintro e w' ⟨v, rfl, rfl, h⟩; exact ⟨rfl, h⟩)
  unfold hollowayref9_faults_sh
  refine inSt S fun b11 w12 hb11 z12 o11 c12 => setSt { S with handler := 0 } o11 (by decide) rfl rfl fun w13 o13 c13 => rdSt o13 ?_
  have k13 : Chg No w w13 := c12.trans c13 (fun _ _ h => h) (fun k hk he => by omega)
  have hd : Hd D V w13 { S with handler := 0 } { s with handler := 0 } := ⟨fun w2 c2 => by
    have g := hw.is w2 (k13.trans c2 (fun _ _ h => h.elim) (fun _ _ h => h))
    exact ⟨⟨g.nums.1, rfl, g.nums.2.2⟩, g.st, g.bk, g.me, g.stD, g.bkD, g.meD⟩, fun k hk => by have := hw.lt k hk; have := k13.size; omega⟩
  refine (rstep_any { S with handler := 0 } hd ⟨ok.st, ok.bk, ok.me, ok.out, ok.rd, ok.inp⟩ hin.st).mono ?_
  rintro e w25 ⟨v, rfl, R, rfl, hR, c25⟩
  have g := hR w25 (Chg.refl _ _)
  refine ⟨_, _, _, _, _, _, _, _, _, _, rfl, ?_, trN k13 c25⟩
  rw [g.nums.2.2.2.2.2.1]; rfl
end Go.Proofs.Ytkjpmkopnkkbmaa

/- hollowayref9.Record: the document's recording is the package's. -/
set_option maxRecDepth 100000
namespace Go.Proofs.Ytkjpmkopnkkbmaa
open Go.RowKit

theorem recL_stop {start : Int} {n : Nat} {t : StV} {l : List SnV} (h : n = 0 ∨ lpB start t l = true ∨ nextV t = none) : recL start n t l = ⟨start, t.ip, lpB start t l, l⟩ := by
  cases n with
  | zero => rfl
  | succ n =>
    unfold recL
    by_cases hl : lpB start t l = true
    · rw [if_pos hl, hl]
    · rw [if_neg hl]
      have hl' : lpB start t l = false := by simpa using hl
      rcases h with h | h | h
      · cases h
      · exact absurd h hl
      · rw [h, hl']
theorem recL_go {start : Int} {n : Nat} {t u : StV} {x : SnV} {l : List SnV} (hl : lpB start t l = false) (hn : nextV t = some (x, u)) : recL start (n + 1) t l = recL start n u (l ++ [x]) := by
  conv => lhs; unfold recL
  rw [if_neg (by rw [hl]; decide), hn]
/-- A round of Record, behind its first tests. -/
theorem rrec_j2 {V : Nat → Prop} {w21 : World} {b12 b18 : Nat} {c : Int} {J3 I : World → Prop} {μ : World → Nat} {K : Value → World → Prop} {start fin : Int} {lp : Bool} {t : StV} {T : StC} {sl : Sl} {l : List SnV}
    (q12 : Ob w21 b12 (stC T) T_api_State) (q18 : Ob w21 b18 (rcC ⟨start, fin, lp, sl⟩) T_api_Recording) (hox : Ox seE w21 sl l) (hl : l.length ≤ 200) (n12 : sl.blk ≠ some b12) (n18 : sl.blk ≠ some b18) (nb : b12 ≠ b18) (hV : ∀ k, k = b12 ∨ k = b18 ∨ sl.blk = some k → V k) (hd : Hd (fun _ => True) V w21 T t) (hok : MOk t) (hsi : SIn t) (hc : c = getI t.mem t.ip) (h0 : 0 ≤ t.ip) (h1 : t.ip < t.mem.length) (hst : t.status = 0)
    (stop : ∀ w' : World, Chg No w21 w' → nextV t = none → J3 w')
    (go : ∀ (w' : World) (sl' : Sl) (U : StC) (x : SnV) (u : StV), nextV t = some (x, u) → Ob w' b12 (stC U) T_api_State → Ob w' b18 (rcC ⟨start, u.ip, u.ip == start, sl'⟩) T_api_Recording → Ox seE w' sl' (l ++ [x]) → (∀ k, sl'.blk = some k → sl.blk = some k ∨ w21.heap.size ≤ k) →
      (∀ w2, Chg (fun k => V k ∨ k = b12 ∨ k = b18 ∨ sl.blk = some k ∨ sl'.blk = some k) w' w2 → StIs (fun _ => True) w2 U u) → Chg (fun k => k = b12 ∨ k = b18 ∨ sl.blk = some k) w21 w' → I w' ∧ μ w' < μ w21)
    (b : Bool) (hb : b = !plB c) : hollowayref9_Record_j2 J3 b12 c b18 I μ w21 b w21 K := by
  unfold hollowayref9_Record_j2
  have es : stepV t = stepA t := by
    unfold stepV stepA
    rw [if_pos hst, runM_go hst (by decide), runM_stop (Or.inr (by decide))]
  have none_of : plB c = false → nextV t = none := fun h => by unfold nextV; rw [if_pos (Or.inr (Or.inr (Or.inr (by rw [← hc]; exact h))))]
  refine brB_of (fun ht => stop w21 (Chg.refl _ _) (none_of (by rw [hb] at ht; simpa using ht))) (fun ht => ?_)
  have hp : plB c = true := by rw [hb] at ht; simpa using ht
  have hcl : ∀ w', Chg No w21 w' → Hd (fun _ => True) V w' T t := fun w' c => ⟨fun w2 c2 => hd.is w2 (c.trans c2 (fun _ _ h => h.elim) (fun _ _ h => h)), fun k hk => by have := hd.lt k hk; have := c.size; omega⟩
  have l12 := q12.lt
  have l18 := q18.lt
  have eT : T.ip = t.ip := (hd.at (Chg.refl No w21)).nums.1
  have lmem := (hd.at (Chg.refl No w21)).me.len
  have k3 := hok.me
  refine rdSt q12 ((rstep_any T hd hok hsi.st).mono ?_)
  rintro e w58 ⟨v, rfl, U, rfl, hU, c58⟩
  rw [← es] at hU
  refine ⟨_, _, _, _, _, _, _, _, _, _, rfl, varSt U fun b69 w71 hb69 z71 o69 c71 => ?_⟩
  have k71 := trN c58 c71
  have isU := hU w71 (c71.mono (fun _ _ h => h.elim))
  have u1 : U.ip = (stepV t).ip := isU.nums.1
  have u6 : U.status = (stepV t).status := isU.nums.2.2.2.2.2.1
  have no1 : ∀ w', Chg No w21 w' → nextV t = none → hollowayref9_Record_j1 J3 b12 b69 c b18 I μ w21 true w' K := fun w' cc hn => by unfold hollowayref9_Record_j1; exact brB_t (stop w' cc hn)
  refine ⟨U.status, o69.cell rfl, ?_⟩
  rw [u6]
  refine brB_of (fun t1 => no1 w71 k71 ?_) (fun t1 => ?_)
  · cases hn : nextV t with
    | none => rfl
    | some p =>
      exfalso
      obtain ⟨x, u⟩ := p
      have g := nextV_on hn
      rw [(nextV_run hn).2.1] at g
      rw [g] at t1; cases t1
  have p12 := q12.no k71
  refine rdSt p12 ((rfaults_any T (hcl w71 k71) hok hsi).mono ?_)
  rintro e w84 ⟨rfl, c84⟩
  have k84 := trN k71 c84
  have es0 : stepV { t with handler := 0 } = stepA { t with handler := 0 } := by
    unfold stepV stepA
    rw [if_pos hst, runM_go (s := { t with handler := 0 }) hst (by decide), runM_stop (Or.inr (by decide))]
  obtain ⟨x, hx⟩ : ∃ x : SnV, x = ⟨t.ip, c, if arB c = true then getI t.mem (t.ip + 1) else 0, (stepV t).ip⟩ := ⟨_, rfl⟩
  have nf : nextV t = if (stepV { t with handler := 0 }).status = 2 then none else if placeB (stepV t).ip = false then none else some (x, stepV t) := by
    unfold nextV
    rw [if_neg (by rw [← hc, hp]; intro hh; rcases hh with hh | hh | hh | hh; · { omega }; · { omega }; · { exact hh hst }; · cases hh), hx, hc]
  refine ⟨_, rfl, brB_of (fun t2 => no1 w84 k84 ?_) (fun t2 => ?_)⟩
  · rw [nf, if_pos (by rw [es0]; exact of_decide_eq_true t2)]
  have t2 : ¬ (stepV { t with handler := 0 }).status = 2 := by rw [es0]; exact of_decide_eq_false t2
  have r69 := o69.no c84
  have pl : placeB (stepV t).ip = false → nextV t = none := fun h => by rw [nf, if_neg t2, if_pos h]
  refine ⟨U.ip, r69.cell rfl, ?_⟩
  rw [u1]
  refine brB_of (fun t3 => no1 w84 k84 (pl ?_)) (fun t3 => ⟨U.ip, r69.cell rfl, ?_⟩)
  · unfold placeB; rw [decide_eq_false (by have := of_decide_eq_true t3; omega)]; rfl
  rw [u1]
  have t3 := of_decide_eq_false t3
  unfold hollowayref9_Record_j1
  refine brB_of (fun t4 => stop w84 k84 (pl ?_)) (fun t4 => ⟨T.ip, (p12.no c84).cell rfl, U.ip, r69.cell rfl, ?_⟩)
  · unfold placeB; rw [decide_eq_false (p := (stepV t).ip < 3000) (by have := of_decide_eq_true t4; omega)]; simp
  have t4 := of_decide_eq_false t4
  have hnx : nextV t = some (x, stepV t) := by
    rw [nf, if_neg t2, if_neg (by unfold placeB; rw [decide_eq_true (p := 0 ≤ (stepV t).ip) (by omega), decide_eq_true (p := (stepV t).ip < 3000) (by omega)]; decide)]
  have arOk : opArg c = true → t.ip + 1 < t.mem.length := fun ha => by
    cases hm : mStep t with
    | bad k th =>
      exfalso
      have hp' : plB (getI t.mem t.ip) = true := by rw [← hc]; exact hp
      have g := mStep_h0 (plain_no hp').2 hm
      apply t2
      rw [es0]; unfold stepA
      rw [if_pos hst]; unfold mAdv; rw [g]
      show (mFault _ k).status = 2
      unfold mFault mCaught
      rw [if_neg (by cases th <;> (show ¬ ((3 : Int) ≤ 0 ∧ _); omega))]
    | ok s' =>
      refine Classical.byContradiction fun hle => ?_
      have hc64 : ¬ 64 ≤ c := by unfold opArg at ha; have := of_decide_eq_true ha; omega
      have hr : 0 ≤ c ∧ c < 48 := by unfold opArg at ha; have := of_decide_eq_true ha; omega
      unfold mStep at hm
      rw [← hc, if_neg (by omega), if_neg hc64, if_neg (fun h => h hr), if_pos ⟨ha, by omega⟩] at hm
      cases hm
  refine varSn ⟨T.ip, c, 0, U.ip⟩ fun b94 w96 hb94 z96 o94 c96 => ?_
  have k96 := trN k84 c96
  have z84 := k84.size
  have z71' := k71.size
  have z58 := c58.size
  have hl94 := o94.lt
  refine ⟨fun w' => Ob w' b94 (seC x) T_api_Seen ∧ Chg (fun j => j = b94) w96 w', ?_, ?_⟩
  rotate_left
  · have ar : arB c = opArg c := by
      unfold arB
      by_cases h : c < 64
      · rw [decide_eq_true h]; rfl
      · rw [decide_eq_false h]; unfold opArg; rw [decide_eq_false (by omega)]; rfl
    refine (refArg_any c w96).mono ?_
    rintro e w98 ⟨rfl, rfl⟩
    refine ⟨_, rfl, brB_of (fun ha => ⟨T.mem, (q12.no k96).cell rfl, T.ip, (q12.no k96).cell rfl, ?_⟩) (fun ha => ⟨?_, Chg.refl _ _⟩)⟩
    · have ha' := arOk ha
      rw [eT, wr_in (by omega)]
      refine ((hcl w96 k96).at (Chg.refl No w96)).me.ix (i := t.ip + 1) (by omega) (getI_at (by omega) (by omega)) fun a102 _ hcc => ?_
      have q := hcc 0 _ rfl
      rw [Go.Proofs.Ytkjpmkopnkkbmaa.add0] at q
      refine ⟨_, q, setSn x o94 (by decide) rfl ?_ fun w104 o104 c104 => ⟨o104, c104⟩⟩
      rw [hx, ar, if_pos ha, u1]; show wrL (seC ⟨T.ip, c, 0, (stepV t).ip⟩) 2 _ = _; rw [eT]; rfl
    · have : x = ⟨T.ip, c, 0, U.ip⟩ := by rw [hx, ar, if_neg (by rw [ha]; decide), eT, u1]
      rw [this]; exact o94
  rintro w105 ⟨o105, c105⟩
  have lsl : ∀ k, sl.blk = some k → k < w21.heap.size := fun k hk => hox.lt k hk
  have v18 := (q18.no k96).chg c105 (fun he => by omega)
  have v12 := (q12.no k96).chg c105 (fun he => by omega)
  have l69 := r69.lt
  have v69 := (r69.no c96).chg c105 (fun he => by omega)
  have hox105 := (hox.no k96).chg c105 (fun k hk he => by have := lsl k hk; omega)
  have z105 := c105.size
  refine ⟨sl, v18.cell rfl, rdSn o105 ?_⟩
  intro b111 w112 hb111 hw112
  have c112 := al hw112
  have z112 := c112.size
  have l112 : Ow seE w112 ⟨some ⟨b111, 0, none⟩, 1, 1⟩ [x] := by
    rw [hw112, hb111]; exact Ow.lit (E := seE) w105 [x] (seC x) (by simp [fl, seE]) (by show 1 ≤ maxLen; unfold maxLen; omega)
  refine appx_ok seOk rfl rfl (hox105.no c112) l112.rd rfl (fun _ => by simp) (by show (_ + 1) * 32 ≤ _; omega) (by show _ + 1 ≤ maxLen; unfold maxLen; omega) ?_
  intro s113 w114 g114 c114 b114 _
  have z114 := c114.size
  have hns : ∀ k, s113.blk = some k → sl.blk = some k ∨ w112.heap.size ≤ k := fun k hk => by
    rcases b114 with hh | hh
    · exact Or.inl (hh ▸ hk)
    · exact Or.inr (hh k hk)
  have n12' : s113.blk ≠ some b12 := fun he => by
    rcases hns _ he with e | e
    · exact n12 e
    · omega
  have n18' : s113.blk ≠ some b18 := fun he => by
    rcases hns _ he with e | e
    · exact n18 e
    · omega
  refine setRc ⟨start, fin, lp, s113⟩ ((v18.no c112).chg c114 (fun he => n18 he)) (by decide) rfl rfl fun w115 o115 c115 => ?_
  refine rdSt (((v69.no c112).chg c114 (fun he => by have := lsl _ he; omega)).chg c115 (fun he => by omega)) ?_
  refine setSt U (((v12.no c112).chg c114 (fun he => n12 he)).chg c115 nb) (by decide) rfl rfl fun w126 o126 c126 => ⟨U.ip, o126.cell rfl, ?_⟩
  refine setRc ⟨start, U.ip, lp, s113⟩ (o115.chg c126 (fun he => nb he.symm)) (by decide) rfl rfl fun w128 o128 c128 => ⟨U.ip, (o126.chg c128 nb).cell rfl, start, o128.cell rfl, ?_⟩
  refine setRc ⟨start, U.ip, U.ip == start, s113⟩ o128 (by decide) rfl rfl fun w131 o131 c131 => ?_
  have d1 : Chg (fun k => k = b94 ∨ k = b12 ∨ k = b18 ∨ sl.blk = some k) w96 w114 := (c105.trans c112 (U := fun k => k = b94) (fun _ _ h => h) (fun _ _ h => h.elim)).trans c114 (fun _ _ h => Or.inl h) (fun _ _ h => Or.inr (Or.inr (Or.inr h)))
  have d2 : Chg (fun k => k = b94 ∨ k = b12 ∨ k = b18 ∨ sl.blk = some k) w114 w131 := (((c115.trans c126 (U := fun k => k = b18 ∨ k = b12) (fun _ _ h => Or.inl h) (fun _ _ h => Or.inr h)).trans c128 (U := fun k => k = b18 ∨ k = b12) (fun _ _ h => h) (fun _ _ h => Or.inl h)).trans c131 (U := fun k => k = b18 ∨ k = b12) (fun _ _ h => h) (fun _ _ h => Or.inl h)).mono (fun k _ h => by
    rcases h with h | h
    · exact Or.inr (Or.inr (Or.inl h))
    · exact Or.inr (Or.inl h))
  have d3 := d1.trans d2 (U := fun k => k = b94 ∨ k = b12 ∨ k = b18 ∨ sl.blk = some k) (fun _ _ h => h) (fun _ _ h => h)
  have c5896 : Chg No w58 w96 := trN (trN c71 c84) c96
  refine go w131 s113 U x (stepV t) hnx ((o126.chg c128 nb).chg c131 nb) (by rw [← u1]; exact o131) ((((g114.qs c115 n18').qs c126 n12').qs c128 n18').qs c131 n18') (fun k hk => ?_) (fun w2 c2 => ?_) (k96.trans d3 (fun _ _ h => h.elim) (fun k hk h => ?_))
  · rcases hns k hk with e | e
    · exact Or.inl e
    · exact Or.inr (by omega)
  · refine (hU w2 ((c5896.trans d3 (U := V) (fun _ _ h => h.elim) (fun k hk h => ?_)).trans c2 (fun _ _ h => h) (fun k hk h => ?_))).wid (fun _ _ => trivial)
    · rcases h with h | h | h | h
      · omega
      · exact hV k (Or.inl h)
      · exact hV k (Or.inr (Or.inl h))
      · exact hV k (Or.inr (Or.inr h))
    · rcases h with h | h | h | h | h
      · exact h
      · exact hV k (Or.inl h)
      · exact hV k (Or.inr (Or.inl h))
      · exact hV k (Or.inr (Or.inr h))
      · rcases hns k h with e | e
        · exact hV k (Or.inr (Or.inr e))
        · omega
  · rcases h with h | h | h | h
    · omega
    · exact Or.inl h
    · exact Or.inr (Or.inl h)
    · exact Or.inr (Or.inr h)
theorem rrecord_any {w : World} (S : StC) {s : StV} (h : StIs (fun _ => True) w S s) (ok : MOk s) (hin : SIn s) (most : Int) :
    Calls Try.prog fn_hollowayref9_Record #[.agg (stC S).toArray, .int .i64 most] w fun e w' => ∃ R : RcC, e = .returned (.agg (rcC R).toArray) ∧ RcOw (fun k => w.heap.size ≤ k ∧ k < w'.heap.size) w' R (recV s most) ∧ Chg No w w' := by
  refine (hollowayref9_Record_lift (K := fun v w' => ∃ R : RcC, v = .agg (rcC R).toArray ∧ RcOw (fun k => w.heap.size ≤ k ∧ k < w'.heap.size) w' R (recV s most) ∧ Chg No w w') ?_).mono (by rintro e w' ⟨v, rfl, R, rfl, h⟩; exact ⟨R, rfl, h⟩)
  unfold hollowayref9_Record_sh
  have m1 := h.nums.1
  obtain ⟨hml, hmi⟩ := mostN_le most
  refine inSt S fun b12 w13 hb12 z13 o12 c13 => inRc rc0 fun b14 w15 hb14 z15 o14 c15 => ⟨S.ip, (o12.no c15).cell rfl, S.ip, (o12.no c15).cell rfl, varRc ⟨S.ip, S.ip, false, nilS⟩ fun b18 w20 hb18 z20 o18 c20 => ?_⟩
  have k20 := trN (trN c13 c15) c20
  have p12 := (o12.no c15).no c20
  have p14 := o14.no c20
  have l18 := o18.lt
  rw [← hmi]
  refine ⟨fun w' => ∃ R : RcC, Ob w' b18 (rcC R) T_api_Recording ∧ Ob w' b14 (rcC rc0) T_api_Recording ∧ (R.start = (recV s most).start ∧ R.fin = (recV s most).fin ∧ R.loop = (recV s most).loop) ∧ Ox seE w' R.steps (recV s most).steps ∧ (∀ k, R.steps.blk = some k → w20.heap.size ≤ k ∧ k < w'.heap.size) ∧ Chg No w w', ?_, ?_⟩
  · rintro w132 ⟨R, a1, a2, a3, a4, a5, a6⟩
    refine rdRc a1 (setRc R a2 (by decide) rfl rfl fun w137 o137 c137 => rdRc o137 ⟨R, rfl, ⟨a3, a4.chg c137 (fun k hk he => by have := a5 k hk; omega), fun k hk => ?_⟩, a6.trans c137 (fun _ _ h => h) (fun k hk he => by omega)⟩)
    have := a5 k hk
    have := c137.size
    omega
  obtain ⟨I, hI⟩ : ∃ I : World → Prop, I = fun w' => ∃ (n : Nat) (t : StV) (T : StC) (sl : Sl) (l : List SnV), recL s.ip n t l = recV s most ∧ n + l.length = mostN most ∧ Ob w' b12 (stC T) T_api_State ∧ Ob w' b18 (rcC ⟨s.ip, t.ip, lpB s.ip t l, sl⟩) T_api_Recording ∧ Ob w' b14 (rcC rc0) T_api_Recording ∧ Ox seE w' sl l ∧ (∀ k, sl.blk = some k → w20.heap.size ≤ k ∧ k < w'.heap.size) ∧ MOk t ∧ SIn t ∧
      Hd (fun _ => True) (fun k => k = b12 ∨ k = b14 ∨ k = b18 ∨ sl.blk = some k) w' T t ∧ Chg No w w' ∧ w20.heap.size ≤ w'.heap.size := ⟨_, rfl⟩
  refine ⟨I, fun w' => 200 - sliceLen (w'.cell? ⟨b18, 3, none⟩), ?_, ?_⟩
  · rw [hI]
    refine ⟨mostN most, s, S, nilS, [], rfl, by simp, p12, by rw [← m1]; exact o18, p14, Ox.nil _ _, (fun k hk => by cases hk), ok, hin, ⟨fun w2 c2 => h.no (k20.trans c2 (fun _ _ h => h) (fun k hk he => ?_)), fun k hk => ?_⟩, k20, Nat.le_refl _⟩
    · rcases he with he | he | he | he
      · omega
      · omega
      · omega
      · cases he
    · have := p12.lt; have := p14.lt
      rcases hk with he | he | he | he
      · omega
      · omega
      · omega
      · cases he
  intro w21 h21
  rw [hI] at h21
  obtain ⟨n, t, T, sl, l, hrec, hn, q12, q18, q14, hox, hsl, hok, hsi, hd, k21, z21⟩ := h21
  have hll := hox.rd.len
  have hT := hd.at (Chg.refl No w21)
  have e1 : T.ip = t.ip := hT.nums.1
  have e6 : T.status = t.status := hT.nums.2.2.2.2.2.1
  have lm := hT.me.len
  have k3 := hok.me
  have stop : ∀ w' : World, Chg No w21 w' → (n = 0 ∨ lpB s.ip t l = true ∨ nextV t = none) → ∃ R : RcC, Ob w' b18 (rcC R) T_api_Recording ∧ Ob w' b14 (rcC rc0) T_api_Recording ∧ (R.start = (recV s most).start ∧ R.fin = (recV s most).fin ∧ R.loop = (recV s most).loop) ∧ Ox seE w' R.steps (recV s most).steps ∧ (∀ k, R.steps.blk = some k → w20.heap.size ≤ k ∧ k < w'.heap.size) ∧ Chg No w w' := fun w' c hs => by
    have e := recL_stop (start := s.ip) hs
    rw [← hrec, e]
    exact ⟨⟨s.ip, t.ip, lpB s.ip t l, sl⟩, q18.no c, q14.no c, ⟨rfl, rfl, rfl⟩, hox.no c, fun k hk => by have := hsl k hk; have := c.size; omega, trN k21 c⟩
  have l12 := q12.lt
  have l14 := q14.lt
  have l18' := q18.lt
  have h2018 : b18 < w20.heap.size := l18
  have h2012 : b12 < w20.heap.size := p12.lt
  have h2014 : b14 < w20.heap.size := p14.lt
  have n12 : sl.blk ≠ some b12 := fun he => by have := hsl _ he; omega
  have n18 : sl.blk ≠ some b18 := fun he => by have := hsl _ he; omega
  have n14 : sl.blk ≠ some b14 := fun he => by have := hsl _ he; omega
  have nb : b12 ≠ b18 := by omega
  refine ⟨sl, q18.cell rfl, brB_of (fun t1 => ⟨T.status, q12.cell rfl, brB_of (fun t2 => ⟨lpB s.ip t l, q18.cell rfl, ?_⟩) (fun t2 => ?_)⟩) (fun t1 => ?_)⟩
  rotate_left
  · unfold hollowayref9_Record_j4
    exact brB_f (stop w21 (Chg.refl _ _) (Or.inr (Or.inr (by unfold nextV; rw [if_pos (Or.inr (Or.inr (Or.inl (by rw [← e6]; simpa using t2))))]))))
  · unfold hollowayref9_Record_j4
    exact brB_f (stop w21 (Chg.refl _ _) (Or.inl (by have := of_decide_eq_false t1; omega)))
  have t1 := of_decide_eq_true t1
  have hst : t.status = 0 := by rw [← e6]; simpa using t2
  unfold hollowayref9_Record_j4
  refine brB_of (fun t3 => ?_) (fun t3 => stop w21 (Chg.refl _ _) (Or.inr (Or.inl (by simpa using t3))))
  have hlp : lpB s.ip t l = false := by simpa using t3
  have out : (t.ip < 0 ∨ (t.mem.length : Int) ≤ t.ip) → nextV t = none := fun h => by
    unfold nextV; rw [if_pos (h.elim Or.inl (fun h => Or.inr (Or.inl h)))]
  refine ⟨T.ip, q12.cell rfl, brB_of (fun t4 => ?_) (fun t4 => ⟨T.ip, q12.cell rfl, T.mem, q12.cell rfl, ?_⟩)⟩
  · unfold hollowayref9_Record_j3
    exact brB_t (stop w21 (Chg.refl _ _) (Or.inr (Or.inr (out (Or.inl (by have := of_decide_eq_true t4; omega))))))
  have t4 := of_decide_eq_false t4
  unfold hollowayref9_Record_j3
  refine brB_of (fun t5 => stop w21 (Chg.refl _ _) (Or.inr (Or.inr (out (Or.inr (by have := of_decide_eq_true t5; omega)))))) (fun t5 => ⟨T.mem, q12.cell rfl, T.ip, q12.cell rfl, ?_⟩)
  have t5 := of_decide_eq_false t5
  rw [e1]
  refine hT.me.ix (i := t.ip) (by omega) (getI_at (by omega) (by omega)) fun a38 _ hcc => ?_
  have q := hcc 0 _ rfl
  rw [Go.Proofs.Ytkjpmkopnkkbmaa.add0] at q
  refine ⟨_, q, ?_⟩
  obtain ⟨n', rfl⟩ : ∃ m, n = m + 1 := ⟨n - 1, by omega⟩
  have hVV : ∀ k, k = b12 ∨ k = b18 ∨ sl.blk = some k → (k = b12 ∨ k = b14 ∨ k = b18 ∨ sl.blk = some k) := fun k h => by
    rcases h with h | h | h
    · exact Or.inl h
    · exact Or.inr (Or.inr (Or.inl h))
    · exact Or.inr (Or.inr (Or.inr h))
  refine brB_of (fun t6 => (refPlain_any _ w21).mono ?_) (fun t6 => ?_)
  · rintro e w41 ⟨rfl, rfl⟩
    refine ⟨_, rfl, rrec_j2 q12 q18 hox (by omega) n12 n18 nb hVV hd hok hsi rfl (by omega) (by omega) hst (fun w' c hn => stop w' c (Or.inr (Or.inr hn))) ?_ _ (by unfold plB; rw [decide_eq_false (by have := of_decide_eq_true t6; omega)]; rfl)⟩
    intro w' sl' U x u hnx o12' o18' ox' hbk hcl c'
    have z' := c'.size
    have ru := nextV_run hnx
    have lx := ox'.rd.len
    rw [List.length_append, List.length_singleton] at lx
    have lpx : lpB s.ip u (l ++ [x]) = (u.ip == s.ip) := by
      unfold lpB; rw [decide_eq_true (by rw [List.length_append, List.length_singleton]; omega), Bool.true_and]; rfl
    have c1 := q18.cell (k := 3) rfl
    have c2 := o18'.cell (k := 3) rfl
    refine ⟨?_, ?_⟩
    · rw [hI]
      refine ⟨n', u, U, sl', l ++ [x], by rw [← hrec, recL_go hlp hnx], by rw [List.length_append, List.length_singleton]; omega, o12', by rw [lpx]; exact o18', q14.chg c' (fun he => ?_), ox', fun k hk => ?_, by rw [ru.2.2.1]; exact mok_adv hok, by rw [ru.2.2.1]; exact sin_adv hsi hok, ⟨fun w2 c2 => hcl w2 (c2.mono (fun k _ hk => ?_)), fun k hk => ?_⟩, k21.trans c' (fun _ _ h => h) (fun k hk he => ?_), by omega⟩
      · rcases he with he | he | he
        · omega
        · omega
        · exact n14 he
      · have := ox'.lt k hk
        rcases hbk k hk with e | e
        · have := hsl k e; omega
        · omega
      · rcases hk with hk | hk | hk | hk
        · exact Or.inr (Or.inl hk)
        · exact Or.inl (Or.inr (Or.inl hk))
        · exact Or.inr (Or.inr (Or.inl hk))
        · exact Or.inr (Or.inr (Or.inr (Or.inr hk)))
      · rcases hk with hk | hk | hk | hk
        · omega
        · omega
        · omega
        · exact ox'.lt k hk
      · have := k20.size
        rcases he with he | he | he
        · omega
        · omega
        · have := hsl k he; omega
    · show 200 - sliceLen (w'.cell? ⟨b18, 3, none⟩) < 200 - sliceLen (World.cell? _ ⟨b18, 3, none⟩)
      rw [c1, c2, sliceLen_val, sliceLen_val]
      show 200 - sl'.len < 200 - sl.len
      omega
  · refine rrec_j2 q12 q18 hox (by omega) n12 n18 nb hVV hd hok hsi rfl (by omega) (by omega) hst (fun w' c hn => stop w' c (Or.inr (Or.inr hn))) ?_ _ (by unfold plB; rw [decide_eq_true (by have := of_decide_eq_false t6; omega)]; rfl)
    intro w' sl' U x u hnx o12' o18' ox' hbk hcl c'
    have z' := c'.size
    have ru := nextV_run hnx
    have lx := ox'.rd.len
    rw [List.length_append, List.length_singleton] at lx
    have lpx : lpB s.ip u (l ++ [x]) = (u.ip == s.ip) := by
      unfold lpB; rw [decide_eq_true (by rw [List.length_append, List.length_singleton]; omega), Bool.true_and]; rfl
    have c1 := q18.cell (k := 3) rfl
    have c2 := o18'.cell (k := 3) rfl
    refine ⟨?_, ?_⟩
    · rw [hI]
      refine ⟨n', u, U, sl', l ++ [x], by rw [← hrec, recL_go hlp hnx], by rw [List.length_append, List.length_singleton]; omega, o12', by rw [lpx]; exact o18', q14.chg c' (fun he => ?_), ox', fun k hk => ?_, by rw [ru.2.2.1]; exact mok_adv hok, by rw [ru.2.2.1]; exact sin_adv hsi hok, ⟨fun w2 c2 => hcl w2 (c2.mono (fun k _ hk => ?_)), fun k hk => ?_⟩, k21.trans c' (fun _ _ h => h) (fun k hk he => ?_), by omega⟩
      · rcases he with he | he | he
        · omega
        · omega
        · exact n14 he
      · have := ox'.lt k hk
        rcases hbk k hk with e | e
        · have := hsl k e; omega
        · omega
      · rcases hk with hk | hk | hk | hk
        · exact Or.inr (Or.inl hk)
        · exact Or.inl (Or.inr (Or.inl hk))
        · exact Or.inr (Or.inr (Or.inl hk))
        · exact Or.inr (Or.inr (Or.inr (Or.inr hk)))
      · rcases hk with hk | hk | hk | hk
        · omega
        · omega
        · omega
        · exact ox'.lt k hk
      · have := k20.size
        rcases he with he | he | he
        · omega
        · omega
        · have := hsl k he; omega
    · show 200 - sliceLen (w'.cell? ⟨b18, 3, none⟩) < 200 - sliceLen (World.cell? _ ⟨b18, 3, none⟩)
      rw [c1, c2, sliceLen_val, sliceLen_val]
      show 200 - sl'.len < 200 - sl.len
      omega
end Go.Proofs.Ytkjpmkopnkkbmaa
