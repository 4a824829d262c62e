/- Slices of numbers: clones, copies, comparisons: the contracts of slices.Clone, copyInts and SameInts. -/
import Derived.Test.YtaikagkakajdfaaRows
import Derived.Test.YtaikagkakajdfaaMem
import Derived.WalkSpells
import Derived.WalkLawsBesides
import Derived.Handy
import Derived.Deep.QuietTactic
import Derived.BigQuiet
namespace Go.Proofs.Ytaikagkakajdfaa
open Go.RowKit

/-- The cells of a list of numbers. -/
def is (xs : List Int) : List Value := xs.map (Value.int .i64)
theorem is_length (xs : List Int) : (is xs).length = xs.length := by simp [is]
theorem is_append (xs ys : List Int) : is (xs ++ ys) = is xs ++ is ys := by simp [is]
theorem is_take (xs : List Int) (n : Nat) : (is xs).take n = is (xs.take n) := by simp [is, List.map_take]
theorem is_get (xs : List Int) (i : Nat) (h : i < xs.length) : (is xs)[i]? = some (.int .i64 (xs.getD i 0)) := by
  simp [is, h]
theorem is_one (xs : List Int) : ∀ u ∈ is xs, u.oneCell' = true := by intro u hu; simp [is] at hu; obtain ⟨x, _, rfl⟩ := hu; rfl

theorem Try.infoInt : (Try.prog.info? 3).map (fun i => (i.zero, i.size, i.bytes)) = some (some (.int .i64 0), 1, 8) := by kernel_rfl

/-- A length that an append of numbers may have. -/
def Fits (n : Nat) : Prop := n * 8 ≤ 140737488355328
theorem Fits.len {n : Nat} (h : Fits n) : n ≤ maxLen := by unfold Fits at h; unfold maxLen; omega
theorem Fits.mono {n m : Nat} (h : Fits n) (hm : m ≤ n) : Fits m := by unfold Fits at *; omega
theorem Fits.of {n : Nat} (h : n ≤ 1000000) : Fits n := by unfold Fits; omega

/-- v reads as the numbers xs. -/
def RdI (w : World) (v : Value) (xs : List Int) : Prop := RdC w v xs.length (is xs)
/-- v owns the numbers xs. -/
def OwnI (w : World) (v : Value) (xs : List Int) : Prop := Own w 3 1 v xs.length (is xs)
theorem OwnI.rd {w : World} {v : Value} {xs : List Int} (h : OwnI w v xs) : RdI w v xs := Own.rd h

/-- The answer is a new slice of the numbers xs; nothing old has changed. -/
def NewI (xs : List Int) (w : World) (e : Ending) (w' : World) : Prop :=
  ∃ ao cap, e = .returned (.slice ao xs.length cap) ∧ OwnI w' (.slice ao xs.length cap) xs ∧ Chg No w w' ∧ ∀ k, (Value.slice ao xs.length cap).ownBlock = some k → w.heap.size ≤ k
theorem NewI.of {xs : List Int} {w w' : World} {v : Value} (h : OwnI w' v xs) (hc : Chg No w w') (hn : ∀ k, v.ownBlock = some k → w.heap.size ≤ k) : NewI xs w (.returned v) w' := by
  obtain ⟨ao, cap, rfl⟩ := Own.form h
  exact ⟨ao, cap, rfl, h, hc, hn⟩

theorem RdI.cells {w : World} {ao : Option Addr} {n cap : Nat} {xs : List Int} (h : RdI w (.slice ao n cap) xs) : n = xs.length ∧ xs.length ≤ cap ∧ cap ≤ maxLen ∧ (ao = none → xs = [] ∧ cap = 0) ∧ ∀ a, ao = some a → ∀ i, i < xs.length → w.cell? (a.add i) = some (.int .i64 (xs.getD i 0)) := by
  obtain ⟨ao', cap', he, h1, h2, h3, h4⟩ := h
  cases he
  refine ⟨rfl, h1, h2, fun h => ⟨List.eq_nil_of_length_eq_zero (h3 h).1, (h3 h).2⟩, fun a ha i hi => ?_⟩
  obtain ⟨a', ha', hc⟩ := h4 i _ (is_get xs i hi)
  rw [ha] at ha'; cases ha'; exact hc

theorem NewI.nil (w : World) : NewI [] w (.returned (.slice none 0 0)) w := ⟨_, _, rfl, Own.nil w _ _, Chg.refl _ _, fun k h => by simp [Value.ownBlock] at h⟩
theorem RdI.chg {S : Nat → Prop} {w w' : World} {v : Value} {xs : List Int} (h : RdI w v xs) (c : Chg S w w') (hS : ∀ k, v.ownBlock = some k → ¬ S k) : RdI w' v xs := RdC.chg h c hS
theorem RdI.no {w w' : World} {v : Value} {xs : List Int} (h : RdI w v xs) (c : Chg No w w') : RdI w' v xs := RdC.chg h c (fun _ _ h => h)
theorem OwnI.chg {S : Nat → Prop} {w w' : World} {v : Value} {xs : List Int} (h : OwnI w v xs) (c : Chg S w w') (hS : ∀ k, v.ownBlock = some k → ¬ S k) : OwnI w' v xs := Own.chg h c hS
theorem OwnI.no {w w' : World} {v : Value} {xs : List Int} (h : OwnI w v xs) (c : Chg No w w') : OwnI w' v xs := Own.chg h c (fun _ _ h => h)
theorem RdI.alloc {w : World} {v : Value} {xs : List Int} (h : RdI w v xs) (o : Obj) : RdI (w.alloc o) v xs := h.no (Chg.alloc _ _ _)
theorem RdI.lt {w : World} {v : Value} {xs : List Int} (h : RdI w v xs) : RdI w v xs := h

set_option maxRecDepth 100000 in
set_option maxHeartbeats 400000 in
theorem clone_ints (v : Value) (xs : List Int) (w : World) (h : RdI w v xs) (hb : Fits xs.length) :
    Calls Try.prog 38 #[v] w (NewI xs w) := by
  obtain ⟨i0, hi, hz0, hz1, hz2⟩ := info_parts Try.infoInt
  obtain ⟨ao, cap, rfl, _⟩ := id h
  obtain ⟨_, hlc, hcm, hnone, hcell⟩ := RdI.cells h
  rcases ao with _ | a
  · obtain ⟨rfl, rfl⟩ := hnone rfl
    have hsn := fun w => Lib.run_eql_slice_nil (P := Try.prog) w 22 3 none 0 0 0 0 Try.underlying22
    clear hnone hcell
    go_enter Try.func38, Try.ntmps38
    go_wp2
    go_ret
    exact NewI.nil w
  · have hsn := fun w => Lib.run_eql_slice_nil (P := Try.prog) w 22 3 (some a) xs.length cap 0 0 Try.underlying22
    have hnew : Own (w.alloc (.cells #[] 3)) 3 1 (.slice (some ⟨w.heap.size, 0, none⟩) 0 0) 0 [] := Own.lit w _ _ #[] 0 (Nat.zero_le _) rfl
    clear hnone hcell hlc hcm
    go_enter Try.func38, Try.ntmps38
    go_wp2_with (at_builtin; refine wpList_append_sep _ rfl (.tmp 5) (.tmp 6) 22 rfl 3 i0 (.int .i64 0) 1 8 Try.underlying22 hi hz0 hz1 hz2 rfl (by decide) _ 0 [] rfl hnew _ _ _ rfl (RdI.alloc h _) (by rw [is_length, Nat.mul_one]) (is_one _) ?c1 ?c2 ?_)
    case c1 => exact hb.len
    case c2 => exact hb
    intro v' w1 hown hgr hblk
    have hlt := Own.lt hnew (k := w.heap.size) rfl
    go_wp2
    go_ret
    refine NewI.of (v := v') hown ((Chg.alloc No w _).trans (Chg.grown (S := fun k => k = w.heap.size) hgr (fun k hk => by cases hk; rfl)) (fun _ _ h => h) (fun x hx h => by subst h; omega)) (fun k hk => ?_)
    rcases hblk with e | e
    · rw [hk] at e; cases e; exact Nat.le_refl _
    · rw [hk] at e; cases e; simp

set_option maxRecDepth 100000 in
set_option maxHeartbeats 400000 in
theorem copyInts_any (v : Value) (xs : List Int) (w : World) (h : RdI w v xs) (hb : Fits xs.length) :
    Calls Try.prog 41 #[v] w (NewI xs w) := by
  obtain ⟨i0, hi, hz0, hz1, hz2⟩ := info_parts Try.infoInt
  obtain ⟨ao, cap, rfl, _⟩ := id h
  go_enter Try.func41, Try.ntmps41
  go_wp2_with (at_builtin; refine wpList_append_sep _ rfl (.const (.slice none 0 0)) (.tmp 3) 22 rfl 3 i0 (.int .i64 0) 1 8 Try.underlying22 hi hz0 hz1 hz2 rfl (by decide) _ 0 [] rfl (Own.nil _ _ _) _ _ _ rfl h (by rw [is_length, Nat.mul_one]) (is_one _) ?c1 ?c2 ?_)
  case c1 => simpa using hb.len
  case c2 => simpa [Fits] using hb
  intro v' w1 hown hgr hblk
  go_wp2
  go_ret
  refine NewI.of (v := v') (by simpa [OwnI] using hown) (Chg.grown hgr (fun k hk => by simp [Value.ownBlock] at hk)) (fun k hk => ?_)
  rcases hblk with e | e
  · rw [hk] at e; cases e
  · rw [hk] at e; cases e; exact Nat.le_refl _

theorem take_succ_eq {xs ys : List Int} {k : Nat} (hk : k < xs.length) (hl : xs.length = ys.length) (h : xs.take k = ys.take k) (he : xs.getD k 0 = ys.getD k 0) : xs.take (k + 1) = ys.take (k + 1) := by
  rw [List.take_succ_eq_append_getElem hk, List.take_succ_eq_append_getElem (hl ▸ hk), h]
  congr 2
  simpa [List.getD_eq_getElem?_getD, hk, hl ▸ hk] using he

/-- The cells of numbers, at an address written out. -/
theorem RdI.at {w : World} {ao : Option Addr} {n cap : Nat} {xs : List Int} (h : RdI w (.slice ao n cap) xs) (hp : 0 < xs.length) :
    ∃ b off, ao = some ⟨b, off, none⟩ ∧ ∀ j, j < xs.length → w.cell? ⟨b, off + j, none⟩ = some (.int .i64 (xs.getD j 0)) := by
  obtain ⟨_, h1, h2, h3, h4⟩ := h.cells
  rcases ao with _ | a
  · rw [(h3 rfl).1] at hp; simp at hp
  · obtain ⟨b, off, rfl, hc⟩ := ints_at (h4 a rfl) hp
    exact ⟨b, off, rfl, hc⟩

set_option maxHeartbeats 1000000 in
theorem sameInts_any (v u : Value) (xs ys : List Int) (w : World) (hx : RdI w v xs) (hy : RdI w u ys) :
    Calls Try.prog 17 #[v, u] w fun e w' => e = .returned (.bool (decide (xs = ys))) ∧ Qt w w' := by
  obtain ⟨ao, cap, rfl, _⟩ := id hx
  obtain ⟨bo, cap', rfl, _⟩ := id hy
  obtain ⟨_, hc1, hc2, _⟩ := RdI.cells hx
  obtain ⟨_, hd1, hd2, _⟩ := RdI.cells hy
  unfold maxLen at *
  by_cases hl : xs.length = ys.length
  · have hl' : ((xs.length : Int) != (ys.length : Int)) = false := by simp [hl]
    have HL := Lib.hid hl
    by_cases hp : 0 < xs.length
    · obtain ⟨b, off, rfl, hc⟩ := hx.at hp
      obtain ⟨b', off', rfl, hd⟩ := hy.at (hl ▸ hp)
      clear hx hy hl
      go_enter Try.func17, Try.ntmps17
      go_wp2
      go_loopw [5] (fun i wr => ∃ k : Nat, k ≤ xs.length ∧ i = .int .i64 k ∧ xs.take k = ys.take k ∧ Qt w wr) (fun i _ => xs.length - (intOf i).toNat)
      case atStart => exact ⟨0, Nat.zero_le _, rfl, rfl, Qt.refl _⟩
      case round =>
        obtain ⟨k, hk, rfl, heq, n, rfl⟩ := hrel
        have HE := Lib.hid heq
        clear heq
        by_cases hlt : k < xs.length
        · have h1 := hc k hlt
          have h2 := hd k (HL.out ▸ hlt)
          have h3 : k < ys.length := HL.out ▸ hlt
          have hb1 : (0 : Int) ≤ k := by omega
          have hb2 : (k : Int) < xs.length := by omega
          have hb3 : (k : Int) < ys.length := by omega
          obtain ⟨X, hX⟩ : ∃ X, X = xs.getD k 0 := ⟨_, rfl⟩
          obtain ⟨Y, hY⟩ : ∃ Y, Y = ys.getD k 0 := ⟨_, rfl⟩
          rw [← hX] at h1
          rw [← hY] at h2
          have HX := Lib.hid hX
          have HY := Lib.hid hY
          clear hc hd hX hY
          by_cases hxy : X = Y
          · have hxy' : (X == Y) = true := beq_iff_eq.2 hxy
            have HXY := Lib.hid hxy
            clear hxy
            go_wp2_with fail
            go_quiet (fail)
            go_wp2
            go_roundw
            case rel => exact ⟨k + 1, by omega, by go_num, take_succ_eq hlt HL.out HE.out (by rw [← HX.out, ← HY.out]; exact HXY.out), Qt.drewN _ _⟩
            case measure => simp [intOf]; omega
          · have hxy' : (X == Y) = false := beq_eq_false_iff_ne.2 hxy
            have HXY := Lib.hid hxy
            clear hxy
            go_wp2_with fail
            go_quiet (fail)
            go_wp2
            go_ret
            refine ⟨ret_b ?_, (Qt.drewN _ _).trans (Qt.drewN _ _)⟩
            have h1 := HXY.out
            symm
            rw [decide_eq_false_iff_not]
            intro h2
            exact h1 (by rw [HX.out, HY.out, h2])
        · have hk' : k = xs.length := by omega
          clear hc hd
          subst hk'
          go_wp2
          go_ret
          refine ⟨ret_b ?_, Qt.drewN _ _⟩
          symm
          rw [decide_eq_true_iff]
          have := HE.out
          rw [List.take_of_length_le (Nat.le_refl _), List.take_of_length_le (by rw [HL.out]; exact Nat.le_refl _)] at this
          exact this
    · have e1 : xs = [] := List.eq_nil_of_length_eq_zero (by omega)
      subst e1
      have e2 : ys = [] := List.eq_nil_of_length_eq_zero (by rw [← HL.out]; rfl)
      subst e2
      clear hx hy hl HL hl'
      go_enter Try.func17, Try.ntmps17
      go_wp2
      go_rounds 1
      go_ret
      exact ⟨rfl, Qt.refl _⟩
  · have hl' : ((xs.length : Int) != (ys.length : Int)) = true := by simp; omega
    have HL := Lib.hid hl
    clear hl hx hy
    go_enter Try.func17, Try.ntmps17
    go_wp2
    go_ret
    exact ⟨ret_b (by have := HL.out; simp; intro h; exact this (by rw [h])), Qt.refl _⟩
end Go.Proofs.Ytaikagkakajdfaa
