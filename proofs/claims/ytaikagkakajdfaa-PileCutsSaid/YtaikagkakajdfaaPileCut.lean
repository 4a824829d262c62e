/- The contract of Cut. -/
import Derived.Test.YtaikagkakajdfaaPileLaw
import Derived.Test.YtaikagkakajdfaaZeros
import Derived.Deep.RegionLaw
namespace Go.Proofs.Ytaikagkakajdfaa
open Go.RowKit

theorem cut_no (b : Nat) (v : Value) (most : Nat) (xs : List Int) (n : Int) (w : World) (h : PileAt w b v most xs) (hn : n < 0 ∨ (most : Int) < n) :
    Calls Try.prog 20 #[.pointer (some ⟨b, 0, none⟩), .int .i64 n] w fun e w' => e = .returned (.bool false) ∧ w = w' := by
  have c0 := h.c0
  clear h
  rcases hn with hn | hn
  · go_enter Try.func20, Try.ntmps20
    go_wp2
    go_ret
    exact ⟨rfl, rfl⟩
  · have hn0 : 0 ≤ n := by omega
    go_enter Try.func20, Try.ntmps20
    go_wp2
    go_ret
    exact ⟨rfl, rfl⟩

/-- Behind an append of zeros onto the stack's slice: what the store wants, and what it comes to. -/
theorem cut_stored {w : World} {b n : Nat} {vo : Option Addr} {vc most : Nat} {xs : List Int} (h : PileAt w b (.slice vo xs.length vc) most xs) (hn : xs.length ≤ n) (hm : n ≤ most) :
    ∀ v' w1, Own w1 3 1 v' (xs.length + (n - xs.length)) (is xs ++ List.replicate (n - xs.length) (.int .i64 0)) → w.drew.grownBy w1 (Value.slice vo xs.length vc).ownBlock → (v'.ownBlock = (Value.slice vo xs.length vc).ownBlock ∨ v'.ownBlock = some w.heap.size) →
      (∃ ao cap, v' = .slice ao n cap) ∧ w1.cell? ⟨b, 1, none⟩ = some (.slice vo xs.length vc) ∧ w1.frozen? ⟨b, 1, none⟩ = false ∧ Pile2 b (.slice vo xs.length vc) most (xs ++ List.replicate (n - xs.length) 0) w (w1.setCell ⟨b, 1, none⟩ v') := by
  intro v' w1 ho hgr hb
  have hc : Chg (fun k => (Value.slice vo xs.length vc).ownBlock = some k) w w1 := (Chg.drew _ w).trans (Chg.grown hgr (fun k hk => hk)) (fun _ _ h => h) (fun _ _ h => h)
  have hrow := hc.row h.1 (fun e => h.2.2.1 e)
  have ho2 : OwnI w1 v' (xs ++ List.replicate (n - xs.length) 0) := by
    have e : is (xs ++ List.replicate (n - xs.length) 0) = is xs ++ List.replicate (n - xs.length) (.int .i64 0) := by simp [is]
    unfold OwnI
    rw [e, List.length_append, List.length_replicate]
    exact ho
  have hN : xs.length + (n - xs.length) = n := by omega
  exact ⟨by obtain ⟨ao, cap, e⟩ := Own.form ho; exact ⟨ao, cap, by rw [e, hN]⟩, by simp [World.cell?, hrow], by simp [World.frozen?, hrow], Pile2.stored h hc ho2 (by rw [List.length_append, List.length_replicate]; omega) (hb.imp id fun e => ⟨_, Nat.le_refl _, e⟩)⟩

set_option maxRecDepth 100000 in
set_option maxHeartbeats 1000000 in
theorem cut_more (b : Nat) (v : Value) (most : Nat) (xs : List Int) (n : Nat) (w : World) (h : PileAt w b v most xs) (hn : xs.length ≤ n) (hm : n ≤ most) :
    Calls Try.prog 20 #[.pointer (some ⟨b, 0, none⟩), .int .i64 n] w fun e w' => e = .returned (.bool true) ∧ Pile2 b v most (xs ++ List.replicate (n - xs.length) 0) w w' := by
  obtain ⟨i0, hi, hz0, hz1, hz2⟩ := info_parts Try.infoInt
  obtain ⟨vo, vc, rfl⟩ := Own.form h.2.1
  have hvl : xs.length ≤ vc := (RdI.cells h.2.1.rd).2.1
  have hm1 := h.2.2.2.1
  have hm2 := h.2.2.2.2
  have c0 := h.c0
  have c1 := h.c1
  have f1 := h.f1
  have hn0 : (0 : Int) ≤ n := by omega
  have H := Lib.hid h
  have HD := Lib.hid ((h.chg (Chg.drew No w) (fun h => h) (fun _ _ h => h)).2.1)
  have HW := Lib.hid (show IntKind.i64.wrap ((n : Int) - xs.length) = ((n - xs.length : Nat) : Int) by rw [IntWalk.i64_in _ (by omega)]; omega)
  have H6 := Lib.hid (show xs.length + (n - xs.length) ≤ 1000000 by omega)
  have HST := Lib.hid (cut_stored h hn hm)
  clear h
  go_enter Try.func20, Try.ntmps20
  go_wp2
  go_region_law (refine step_append_zeros rfl (.tmp 40) (.tmp 47) 22 3 rfl 3 i0 (.int .i64 0) Try.underlying22 Try.underlying3 hi hz0 hz1 rfl rfl (by rw [hz2]; decide) _ xs.length (is xs) (by simp [Act.eval, Act.put]) HD.out _ (by simp [Act.eval, Act.put]) (n - xs.length) HW.out H6.out ?_; intro v' w1 hown hgr hblk; obtain ⟨⟨ao', cap', rfl⟩, d1, g1, hp⟩ := HST.out v' w1 hown hgr hblk; have HP := Lib.hid hp; clear hown hgr hblk hp c1 f1 c0)
  all_goals
    go_wp2
    go_ret
    exact ⟨rfl, HP.out⟩

theorem Pile2.before {w w2 w' : World} {b : Nat} {v v2 : Value} {most : Nat} {ys : List Int} (h : Pile2 b v2 most ys w2 w') (c : Chg (fun k => k = b) w w2) (e : v2.ownBlock = v.ownBlock) : Pile2 b v most ys w w' := by
  obtain ⟨v', hp, hc, hv⟩ := h
  refine ⟨v', hp, c.trans hc (fun _ _ h => Or.inl h) (fun k _ h => ?_), ?_⟩
  · rw [← e]; exact h
  · rcases hv with h | ⟨k, hk, h⟩
    · exact Or.inl (h.trans e)
    · exact Or.inr ⟨k, by have := c.size; omega, h⟩

set_option maxRecDepth 100000 in
set_option maxHeartbeats 1000000 in
theorem cut_less (b : Nat) (v : Value) (most : Nat) (xs : List Int) (n : Nat) (w : World) (h : PileAt w b v most xs) (hn : n < xs.length) :
    Calls Try.prog 20 #[.pointer (some ⟨b, 0, none⟩), .int .i64 n] w fun e w' => e = .returned (.bool true) ∧ Pile2 b v most (xs.take n) w w' := by
  obtain ⟨i0, hi, hz0, hz1, hz2⟩ := info_parts Try.infoInt
  obtain ⟨vo, vc, rfl⟩ := Own.form h.2.1
  have hvl : xs.length ≤ vc := (RdI.cells h.2.1.rd).2.1
  have hm1 := h.2.2.2.1
  have hm2 := h.2.2.2.2
  have c0 := h.c0
  have c1 := h.c1
  have f1 := h.f1
  have hn0 : (0 : Int) ≤ n := by omega
  obtain ⟨ys, hys⟩ : ∃ ys, ys = xs.take n := ⟨_, rfl⟩
  have hyl : ys.length = n := by rw [hys, List.length_take]; omega
  obtain ⟨w2, hw2⟩ : ∃ w2, w2 = w.setCell ⟨b, 1, none⟩ (.slice vo n vc) := ⟨_, rfl⟩
  have hp2 : PileAt w2 b (.slice vo ys.length vc) most ys := by
    rw [hw2, hyl, hys]
    have hne : (Value.slice vo n vc).ownBlock ≠ some b := by rw [own_block vo n vc xs.length vc]; exact h.2.2.1
    refine ⟨row_setCell h.1, (h.2.1.cut (by omega)).chg (Chg.setCell (S := fun k => k = b) _ _ _ (Or.inl rfl)) (fun k hk e => hne (by subst e; exact hk)), hne, ?_, hm2⟩
    rw [List.length_take]; omega
  have hc2 : Chg (fun k => k = b) w w2 := by rw [hw2]; exact Chg.setCell (S := fun k => k = b) _ _ _ (Or.inl rfl)
  have d1 := hp2.c1
  have g1 := hp2.f1
  have HSZ := Lib.hid hc2.size
  have HC2 := Lib.hid hc2
  have H := Lib.hid h
  have hd : Own w2.drew 3 1 (.slice vo ys.length vc) ys.length (is ys) := (hp2.chg (Chg.drew No w2) (fun h => h) (fun _ _ h => h)).2.1
  have hst := cut_stored (n := ys.length) hp2 (Nat.le_refl _) (by omega)
  simp only [hyl] at hst hd
  have HD := Lib.hid hd
  have HST := Lib.hid hst
  have H6 := Lib.hid (show n + (n - n) ≤ 1000000 by omega)
  have HW := Lib.hid (show IntKind.i64.wrap 0 = ((n - n : Nat) : Int) by rw [IntWalk.i64_in _ (by omega)]; omega)
  have HW2 := Lib.hid hw2
  rw [hyl] at d1
  have HYL := Lib.hid hyl
  rw [← hys]
  clear h hys hyl hw2 hp2 hc2 hst hd
  go_enter Try.func20, Try.ntmps20
  go_wp2
  rw [← HW2.out]
  clear c1 f1 c0
  go_region_law (refine step_append_zeros rfl (.tmp 40) (.tmp 47) 22 3 rfl 3 i0 (.int .i64 0) Try.underlying22 Try.underlying3 hi hz0 hz1 rfl rfl (by rw [hz2]; decide) _ n (is ys) (by simp [Act.eval, Act.put]) HD.out (IntKind.i64.wrap 0) (by simp [Act.eval, Act.put]) (n - n) HW.out H6.out ?_; intro v' w1 hown hgr hblk; obtain ⟨⟨ao', cap', rfl⟩, d1, g1, hp⟩ := HST.out v' w1 hown hgr hblk; have HP := Lib.hid hp; clear hown hgr hblk hp)
  all_goals
    go_wp2
    go_ret
    refine ⟨rfl, ?_⟩
    have h1 := HP.out
    rw [Nat.sub_self, List.replicate_zero, List.append_nil] at h1
    exact h1.before HC2.out (own_block _ _ _ _ _)
end Go.Proofs.Ytaikagkakajdfaa
