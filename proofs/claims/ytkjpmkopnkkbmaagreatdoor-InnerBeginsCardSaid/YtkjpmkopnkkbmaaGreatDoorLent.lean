/- hollowaybook.LentInts, StaysInts: lists with room behind them, in which a mark stands. -/
import Derived.Test.YtkjpmkopnkkbmaaGreatDoorBkK
set_option maxRecDepth 100000
namespace Go.Proofs.YtkjpmkopnkkbmaaGreatDoor
open Go.RowKit

/-- s reads as these, and behind them stands the mark, in a block of its own. -/
def Lent (w : World) (s : Sl) (xs : List Int) : Prop := s.len = xs.length ∧ Ow intE w ⟨s.ptr, xs.length + 1, s.cap⟩ (xs ++ [-77])
theorem Lent.rd {w : World} {s : Sl} {xs : List Int} (h : Lent w s xs) : Rd intE w s xs := by
  have ht := (h.2.take (n := xs.length) (by simp)).rd
  rw [List.take_left] at ht
  have : s = ⟨s.ptr, xs.length, s.cap⟩ := by rw [← h.1]
  rw [this]; exact ht
theorem Lent.chg {S : Nat → Prop} {w w' : World} {s : Sl} {xs : List Int} (h : Lent w s xs) (c : Chg S w w') (hS : ∀ k, s.blk = some k → ¬ S k) : Lent w' s xs := by
  refine ⟨h.1, h.2.chg c (fun k hk => hS k ?_)⟩
  rw [← hk]; unfold Sl.blk Sl.val; cases s.ptr <;> rfl
theorem Lent.no {w w' : World} {s : Sl} {xs : List Int} (h : Lent w s xs) (c : Chg No w w') : Lent w' s xs := h.chg c (fun _ _ h => h)
theorem lentInts_any {w : World} {l : Sl} {xs : List Int} (h : Rd intE w l xs) (hl : xs.length ≤ 1000000) : Calls Tryz.prog fn_hollowaybook_LentInts #[l.val] w fun e w' => ∃ s : Sl, e = .returned s.val ∧ Lent w' s xs ∧ Chg No w w' ∧ (∀ k, s.blk = some k → w.heap.size ≤ k ∧ k < w'.heap.size) := by
  refine (hollowaybook_LentInts_lift (K := fun r w' => ∃ s : Sl, r = s.val ∧ Lent w' s xs ∧ Chg No w w' ∧ (∀ k, s.blk = some k → w.heap.size ≤ k ∧ k < w'.heap.size)) ?_).mono (by rintro e w' ⟨r, rfl, s', rfl, h⟩; exact ⟨s', rfl, h⟩)
  unfold hollowaybook_LentInts_sh
  refine (copyInts_any l xs w h (by omega)).mono ?_
  rintro e w3 ⟨s4, rfl, h4, c3, b4⟩
  refine ⟨s4, rfl, ?_⟩
  intro b5 w6 hb5 hw6
  have c6 : Chg No w3 w6 := by rw [hw6]; exact Chg.alloc _ _ _
  have l6 : Ow intE w6 ⟨some ⟨b5, 0, none⟩, 1, 1⟩ [-77] := by
    rw [hw6, hb5]; exact Ow.lit (E := intE) w3 [-77] [.int .i64 (-77)] rfl (by show 1 ≤ maxLen; unfold maxLen; omega)
  refine app_ok intOk rfl rfl (h4.no c6) l6.rd (by show (xs.length + 1) * 8 ≤ _; omega) (by show xs.length + 1 ≤ _; unfold maxLen; omega) ?_
  intro s7 w8 h8 c8 b8
  have hl7 := h8.rd.len
  have hc7 := h8.rd.capL
  rw [List.length_append] at hl7 hc7
  have hll := h.len
  refine ⟨by omega, by show (l.len : Int) ≤ s7.cap; have : [(-77 : Int)].length = 1 := rfl; omega, ?_⟩
  intro s9 hs9
  rw [sub0, Int.toNat_natCast, hll] at hs9
  have hbk : s9.blk = s7.blk := by rw [hs9]; unfold Sl.blk Sl.val; cases s7.ptr <;> rfl
  have z3 := c3.size
  have z6 := c6.size
  refine ⟨s9, rfl, ⟨by rw [hs9], ?_⟩, (c3.trans c6 (U := No) (fun _ _ h => h) (fun _ _ h => h)).trans c8 (fun _ _ h => h) (fun k hk he => by have := b4 k he; omega), fun k hk => ⟨?_, h8.lt (hbk ▸ hk)⟩⟩
  · have e7 : (⟨s9.ptr, xs.length + 1, s9.cap⟩ : Sl) = s7 := by rw [hs9]; cases s7; simp at hl7 ⊢; omega
    rw [e7]; exact h8
  · rw [hbk] at hk
    rcases b8 with hh | hh
    · exact b4 k (hh ▸ hk)
    · have := Option.some.inj (hh.symm.trans hk); omega
theorem staysInts_any {w : World} {m l : Sl} {xs : List Int} (hm : Lent w m xs) (hl : Rd intE w l xs) : Calls Tryz.prog fn_hollowaybook_StaysInts #[m.val, l.val] w fun e w' => e = .returned (.bool true) ∧ Chg No w w' := by
  refine (hollowaybook_StaysInts_lift (K := fun r w' => r = .bool true ∧ Chg No w w') ?_).mono (by rintro e w' ⟨r, rfl, rfl, h⟩; exact ⟨rfl, h⟩)
  unfold hollowaybook_StaysInts_sh
  refine (sameInts_ok m l xs w hm.rd hl).mono ?_
  rintro e w4 ⟨rfl, c4⟩
  have m4 := hm.no c4
  have hc := m4.2.rd.capL
  rw [List.length_append] at hc
  have h1 : [(-77 : Int)].length = 1 := rfl
  have hc1 : xs.length + 1 ≤ m.cap := by have := hc.1; omega
  have hc2 : m.cap ≤ 9223372036854775807 := hc.2
  have hml := hm.1
  refine ⟨_, rfl, brB_t ?_⟩
  rw [wr_of (by omega) (by omega)]
  refine ⟨by omega, by omega, ?_⟩
  intro s6 hs6
  rw [sub0] at hs6
  have e6 : s6 = ⟨m.ptr, xs.length + 1, m.cap⟩ := by rw [hs6]; congr 1; omega
  have h6 : Rd intE w4 s6 (xs ++ [-77]) := by rw [e6]; exact m4.2.rd
  have e7 : m.len = xs.length := hml
  refine h6.ix (i := (m.len : Int)) (x := -77) (by omega) (by rw [Int.toNat_natCast, e7, List.getElem?_append_right (Nat.le_refl _)]; simp) fun a ha hcell => ?_
  have q1 := hcell 0 _ rfl
  rw [add0] at q1
  exact ⟨-77, q1, by simp, c4⟩
end Go.Proofs.YtkjpmkopnkkbmaaGreatDoor
