/- The contracts of the package pile. -/
import Derived.Test.YtaikagkakajdfaaInts
namespace Go.Proofs.Ytaikagkakajdfaa
open Go.RowKit

/-- At block b lies a stack for so many cells, which holds these; v: the slice in it. -/
def PileAt (w : World) (b : Nat) (v : Value) (most : Nat) (xs : List Int) : Prop :=
  w.heap[b]? = some (.cells #[.int .i64 most, v] 66 (0, 0)) ∧ OwnI w v xs ∧ v.ownBlock ≠ some b ∧ xs.length ≤ most ∧ most ≤ 1000

def NewPile (most : Nat) (xs : List Int) (w : World) (e : Ending) (w' : World) : Prop :=
  ∃ b v, e = .returned (.pointer (some ⟨b, 0, none⟩)) ∧ PileAt w' b v most xs ∧ Chg No w w' ∧ w.heap.size ≤ b ∧ ∀ k, v.ownBlock = some k → w.heap.size ≤ k

theorem RdI.cut {w : World} {ao : Option Addr} {cap n : Nat} {xs : List Int} {m : Nat} (h : RdI w (.slice ao n cap) xs) (hm : m ≤ xs.length) : RdI w (.slice ao m cap) (xs.take m) := by
  obtain ⟨ao', cap', he, h1, h2, h3, h4⟩ := h
  cases he
  have hl : (xs.take m).length = m := by rw [List.length_take]; omega
  refine ⟨ao, cap, by rw [hl], by omega, h2, fun h => by have := h3 h; omega, fun j u hu => ?_⟩
  refine h4 j u ?_
  have hj : j < m := by
    have := List.getElem?_eq_some_iff.1 hu
    obtain ⟨hlt, _⟩ := this
    rw [is_length, hl] at hlt; exact hlt
  rw [← is_take, List.getElem?_take] at hu
  rw [if_pos hj] at hu; exact hu

theorem heap_new (w : World) (o : Obj) : (w.alloc o).heap[w.heap.size]? = some o := heap_alloc_new w o
/-- A stack laid in a new block. -/
theorem PileAt.make {w : World} {v : Value} {most : Nat} {xs : List Int} (h : OwnI w v xs) (hl : xs.length ≤ most) (hm : most ≤ 1000) :
    PileAt (w.alloc (.cells #[.int .i64 most, v] 66)) w.heap.size v most xs :=
  ⟨heap_new _ _, h.no (Chg.alloc _ _ _), fun e => by have := Own.lt h e; omega, hl, hm⟩
theorem NewPile.make {w w1 : World} {v : Value} {most : Nat} {xs : List Int} (h : OwnI w1 v xs) (hc : Chg No w w1) (hn : ∀ k, v.ownBlock = some k → w.heap.size ≤ k) (hl : xs.length ≤ most) (hm : most ≤ 1000) :
    NewPile most xs w (.returned (.pointer (some ⟨w1.heap.size, 0, none⟩))) (w1.alloc (.cells #[.int .i64 most, v] 66)) :=
  ⟨_, v, rfl, PileAt.make h hl hm, hc.trans (Chg.alloc _ _ _) (fun _ _ h => h) (fun _ _ h => h), hc.size, hn⟩

set_option maxRecDepth 100000 in
set_option maxHeartbeats 1000000 in
theorem new_any (most : Int) (M : Nat) (l : Value) (xs : List Int) (w : World) (h : RdI w l xs) (hb : Fits xs.length) (hM : (M : Int) = min (max most 0) 1000) :
    Calls Try.prog 14 #[.int .i64 most, l] w (NewPile M (xs.take M) w) := by
  obtain ⟨ao, cap, rfl, _⟩ := id h
  obtain ⟨_, hlc, hcm, _⟩ := RdI.cells h
  unfold maxLen at hcm
  have hcut : ∀ m, m ≤ xs.length → RdI w (.slice ao m cap) (xs.take m) := fun m hm => h.cut hm
  have HC := Lib.hid hcut
  clear hcut h
  have hc : (most < 0 ∧ M = 0) ∨ (0 ≤ most ∧ most ≤ 1000 ∧ (M : Int) = most) ∨ (1000 < most ∧ M = 1000) := by omega
  clear hM
  have HB := Lib.hid hb
  clear hb
  rcases hc with ⟨h1, rfl⟩ | ⟨h1, h2, h3⟩ | ⟨h1, rfl⟩
  · obtain ⟨ys, hys⟩ : ∃ ys, ys = xs.take 0 := ⟨_, rfl⟩
    have hr := HC.out 0 (Nat.zero_le _)
    rw [← hys] at hr ⊢
    have hy0 : ys.length ≤ 0 := by rw [hys]; simp
    clear hys
    by_cases hl : 0 < xs.length
    · go_enter Try.func14, Try.ntmps14
      go_wp2_with fail
      refine (clone_ints _ ys _ hr (Fits.of (by omega))).mono ?_
      rintro e w1 ⟨vo, vc, rfl, hown, hchg, hnew⟩
      go_wp2
      go_ret
      exact NewPile.make (most := 0) hown hchg hnew hy0 (by omega)
    · have e1 : xs = [] := List.eq_nil_of_length_eq_zero (by omega)
      subst e1
      go_enter Try.func14, Try.ntmps14
      go_wp2_with fail
      all_goals
        refine (clone_ints _ ys _ hr (Fits.of (by omega))).mono ?_
        rintro e w1 ⟨vo, vc, rfl, hown, hchg, hnew⟩
        go_wp2
        go_ret
        exact NewPile.make (most := 0) hown hchg hnew hy0 (by omega)
  · subst h3
    by_cases hl : xs.length ≤ M
    · have hr := HC.out _ (Nat.le_refl _)
      rw [List.take_of_length_le (Nat.le_refl _)] at hr
      rw [List.take_of_length_le hl]
      go_enter Try.func14, Try.ntmps14
      go_wp2_with fail
      refine (clone_ints _ xs _ hr HB.out).mono ?_
      rintro e w1 ⟨vo, vc, rfl, hown, hchg, hnew⟩
      go_wp2
      go_ret
      exact NewPile.make hown hchg hnew hl (by omega)
    · obtain ⟨ys, hys⟩ : ∃ ys, ys = xs.take M := ⟨_, rfl⟩
      have hr := HC.out M (by omega)
      rw [← hys] at hr ⊢
      have hy0 : ys.length ≤ M := by rw [hys]; simp; omega
      clear hys
      go_enter Try.func14, Try.ntmps14
      go_wp2_with fail
      refine (clone_ints _ ys _ hr (Fits.of (by omega))).mono ?_
      rintro e w1 ⟨vo, vc, rfl, hown, hchg, hnew⟩
      go_wp2
      go_ret
      exact NewPile.make hown hchg hnew hy0 (by omega)
  · by_cases hl : xs.length ≤ 1000
    · have hr := HC.out _ (Nat.le_refl _)
      rw [List.take_of_length_le (Nat.le_refl _)] at hr
      rw [List.take_of_length_le hl]
      go_enter Try.func14, Try.ntmps14
      go_wp2_with fail
      refine (clone_ints _ xs _ hr HB.out).mono ?_
      rintro e w1 ⟨vo, vc, rfl, hown, hchg, hnew⟩
      go_wp2
      go_ret
      exact NewPile.make (most := 1000) hown hchg hnew hl (by omega)
    · obtain ⟨ys, hys⟩ : ∃ ys, ys = xs.take 1000 := ⟨_, rfl⟩
      have hr := HC.out 1000 (by omega)
      rw [← hys] at hr ⊢
      have hy0 : ys.length ≤ 1000 := by rw [hys]; simp; omega
      clear hys
      go_enter Try.func14, Try.ntmps14
      go_wp2_with fail
      refine (clone_ints _ ys _ hr (Fits.of (by omega))).mono ?_
      rintro e w1 ⟨vo, vc, rfl, hown, hchg, hnew⟩
      go_wp2
      go_ret
      exact NewPile.make (most := 1000) hown hchg hnew hy0 (by omega)

/-! ### The cells of a stack, as the walk asks for them -/
theorem PileAt.c0 {w : World} {b : Nat} {v : Value} {most : Nat} {xs : List Int} (h : PileAt w b v most xs) : w.cell? ⟨b, 0, none⟩ = some (.int .i64 most) := by simp [World.cell?, h.1]
theorem PileAt.c1 {w : World} {b : Nat} {v : Value} {most : Nat} {xs : List Int} (h : PileAt w b v most xs) : w.cell? ⟨b, 1, none⟩ = some v := by simp [World.cell?, h.1]
theorem PileAt.f1 {w : World} {b : Nat} {v : Value} {most : Nat} {xs : List Int} (h : PileAt w b v most xs) : w.frozen? ⟨b, 1, none⟩ = false := by simp [World.frozen?, h.1]

set_option maxHeartbeats 400000 in
theorem all_any (b : Nat) (v : Value) (most : Nat) (xs : List Int) (w : World) (h : PileAt w b v most xs) :
    Calls Try.prog 15 #[.pointer (some ⟨b, 0, none⟩)] w (NewI xs w) := by
  have hr := h.2.1.rd
  have hf : Fits xs.length := Fits.of (by have := h.2.2.2; omega)
  obtain ⟨ao, cap, rfl⟩ := Own.form h.2.1
  have c1 := h.c1
  clear h
  go_enter Try.func15, Try.ntmps15
  go_wp2_with fail
  refine (clone_ints _ xs _ hr hf).mono ?_
  rintro e w1 ⟨vo, vc, rfl, hown, hchg, hnew⟩
  go_wp2
  go_ret
  exact NewI.of (v := .slice vo xs.length vc) hown hchg hnew

set_option maxHeartbeats 400000 in
theorem all_nil (w : World) : Calls Try.prog 15 #[.pointer none] w (NewI [] w) := by
  go_enter Try.func15, Try.ntmps15
  go_wp2
  go_ret
  exact NewI.nil w

set_option maxHeartbeats 400000 in
theorem len_any (b : Nat) (v : Value) (most : Nat) (xs : List Int) (w : World) (h : PileAt w b v most xs) :
    Calls Try.prog 19 #[.pointer (some ⟨b, 0, none⟩)] w fun e w' => e = .returned (.int .i64 xs.length) ∧ w = w' := by
  obtain ⟨ao, cap, rfl⟩ := Own.form h.2.1
  have c1 := h.c1
  clear h
  go_enter Try.func19, Try.ntmps19
  go_wp2
  go_ret
  exact ⟨rfl, rfl⟩

/-- The stack lies there still, with other cells: at the old place or a new one; nothing else that is old has changed. -/
def Pile2 (b : Nat) (v : Value) (most : Nat) (ys : List Int) (w w' : World) : Prop :=
  ∃ v', PileAt w' b v' most ys ∧ Chg (fun k => k = b ∨ v.ownBlock = some k) w w' ∧ (v'.ownBlock = v.ownBlock ∨ ∃ k, w.heap.size ≤ k ∧ v'.ownBlock = some k)
theorem PileAt.chg {S : Nat → Prop} {w w' : World} {b : Nat} {v : Value} {most : Nat} {xs : List Int} (h : PileAt w b v most xs) (c : Chg S w w') (hb : ¬ S b) (hv : ∀ k, v.ownBlock = some k → ¬ S k) : PileAt w' b v most xs :=
  ⟨c.row h.1 hb, h.2.1.chg c hv, h.2.2.1, h.2.2.2⟩
theorem PileAt.qt {w w' : World} {b : Nat} {v : Value} {most : Nat} {xs : List Int} (h : PileAt w b v most xs) (c : Qt w w') : PileAt w' b v most xs :=
  h.chg (Chg.qt (S := No) c) (fun h => h) (fun _ _ h => h)
theorem Pile2.refl {w w' : World} {b : Nat} {v : Value} {most : Nat} {xs : List Int} (h : PileAt w b v most xs) (c : Qt w w') : Pile2 b v most xs w w' :=
  ⟨v, h.qt c, Chg.qt c, Or.inl rfl⟩
/-- Behind an append onto the stack's slice, and the store of what came. -/
theorem Pile2.stored {w w1 : World} {b : Nat} {v v' : Value} {most : Nat} {xs ys : List Int} (h : PileAt w b v most xs) (hc : Chg (fun k => v.ownBlock = some k) w w1) (ho : OwnI w1 v' ys) (hl : ys.length ≤ most)
    (hb : v'.ownBlock = v.ownBlock ∨ ∃ k, w.heap.size ≤ k ∧ v'.ownBlock = some k) : Pile2 b v most ys w (w1.setCell ⟨b, 1, none⟩ v') := by
  have hrow := hc.row h.1 (fun e => h.2.2.1 e)
  have hne : v'.ownBlock ≠ some b := by
    have := lt_of_block h.1
    rcases hb with e | ⟨k, hk, e⟩
    · rw [e]; exact h.2.2.1
    · rw [e]; intro e2; cases e2; omega
  refine ⟨v', ⟨row_setCell hrow, ho.chg (Chg.setCell (S := fun k => k = b) _ _ _ (Or.inl rfl)) (fun k hk e => hne (by rw [hk, e])), hne, hl, h.2.2.2.2⟩, ?_, hb⟩
  exact hc.trans (Chg.setCell (S := fun k => k = b) _ _ _ (Or.inl rfl)) (fun _ _ h => Or.inr h) (fun _ _ h => Or.inl h)
theorem PileAt.lt {w : World} {b : Nat} {v : Value} {most : Nat} {xs : List Int} (h : PileAt w b v most xs) : b < w.heap.size := lt_of_block h.1

set_option maxRecDepth 100000 in
set_option maxHeartbeats 1000000 in
theorem push_any (b : Nat) (v y : Value) (most : Nat) (xs ys : List Int) (w : World) (h : PileAt w b v most xs) (hy : RdI w y ys) :
    Calls Try.prog 16 #[.pointer (some ⟨b, 0, none⟩), y] w fun e w' =>
      e = .returned (.bool (decide (xs.length + ys.length ≤ most))) ∧ Pile2 b v most (if xs.length + ys.length ≤ most then xs ++ ys else xs) w w' := by
  obtain ⟨i0, hi, hz0, hz1, hz2⟩ := info_parts Try.infoInt
  obtain ⟨yo, yc, rfl, _⟩ := id hy
  obtain ⟨_, hyc1, hyc2, _⟩ := RdI.cells hy
  obtain ⟨vo, vc, rfl⟩ := Own.form h.2.1
  have hm1 := h.2.2.2.1
  have hm2 := h.2.2.2.2
  have c0 := h.c0
  have c1 := h.c1
  have H := Lib.hid h
  have HY := Lib.hid hy
  unfold maxLen at hyc2
  clear h hy
  by_cases hl : xs.length + ys.length ≤ most
  · rw [if_pos hl]
    have hg : decide ((most : Int) - xs.length < ys.length) = false := by simp; omega
    go_enter Try.func16, Try.ntmps16
    go_wp2_with fail
    go_quiet (fail)
    go_wp2_with (at_builtin; refine wpList_append_sep _ rfl (.tmp 26) (.tmp 27) 22 rfl 3 i0 (.int .i64 0) 1 8 Try.underlying22 hi hz0 hz1 hz2 rfl (by decide) _ xs.length (is xs) rfl (PileAt.qt H.out (Qt.drewN _ _)).2.1 _ _ _ rfl (HY.out.chg (Chg.drewN No _ _) (fun _ _ h => h)) (by rw [is_length, Nat.mul_one]) (is_one _) ?c1 ?c2 ?_)
    case c1 => unfold maxLen; omega
    case c2 => omega
    intro v' w1 hown hgr hblk
    have hchg : Chg (fun k => (Value.slice vo xs.length vc).ownBlock = some k) w w1 := (Chg.drewN _ _ nq).trans (Chg.grown hgr (fun k hk => hk)) (fun _ _ h => h) (fun _ _ h => h)
    rw [← List.length_append, ← is_append] at hown
    have hst := fun hb => Pile2.stored H.out hchg hown (by rw [List.length_append]; exact hl) hb
    have hrow := hchg.row H.out.1 (fun e => H.out.2.2.1 e)
    have d1 : w1.cell? ⟨b, 1, none⟩ = some (.slice vo xs.length vc) := by simp [World.cell?, hrow]
    have g1 : w1.frozen? ⟨b, 1, none⟩ = false := by simp [World.frozen?, hrow]
    have HB := Lib.hid (hst (hblk.imp id fun e => ⟨_, Nat.le_refl _, e⟩))
    obtain ⟨ao', cap', hv'⟩ := Own.form hown
    rw [hv'] at HB ⊢
    clear hown hgr hblk hchg hst hrow hv' c1
    go_wp2
    go_ret
    have hfin := HB.out
    rw [List.length_append] at hfin
    refine ⟨ret_b ?_, hfin⟩
    simp [hl]
  · rw [if_neg hl]
    have hg : decide ((most : Int) - xs.length < ys.length) = true := by simp; omega
    go_enter Try.func16, Try.ntmps16
    go_wp2_with fail
    go_quiet (fail)
    go_wp2
    go_ret
    refine ⟨ret_b ?_, Pile2.refl H.out (Qt.drewN _ _)⟩
    simp [hl]
end Go.Proofs.Ytaikagkakajdfaa
