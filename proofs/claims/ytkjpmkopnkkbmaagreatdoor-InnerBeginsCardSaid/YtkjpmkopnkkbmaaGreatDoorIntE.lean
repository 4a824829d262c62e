/- Numbers as elements of lists; slices.Clone. -/
import Derived.Test.YtkjpmkopnkkbmaaGreatDoorOx
import Derived.Test.YtkjpmkopnkkbmaaGreatDoorShSlices
set_option maxRecDepth 100000
namespace Go.Proofs.YtkjpmkopnkkbmaaGreatDoor
open Go.RowKit

def intE : Enc Int := ⟨T_int, 1, 8, fun n => [.int .i64 n], by intro x; rfl, by intro x u hu; simp at hu; subst hu; rfl, by decide⟩
theorem intOk : EncOk Tryz.prog intE T_sl_int := EncOk.of (z := .int .i64 0) (by kernel_rfl) (by kernel_rfl) (by kernel_rfl)
/-! ### slices.Clone -/
theorem Rd.none {α : Type} {E : Enc α} {w : World} {s : Sl} {xs : List α} (h : Rd E w s xs) (hp : s.ptr = none) : xs = [] ∧ s.cap = 0 := by
  obtain ⟨ao, cap, he, _, _, h5, _⟩ := h
  have hq : s.ptr = ao ∧ s.cap = cap := by cases s; simp [Sl.val] at he; exact ⟨he.1, he.2.2⟩
  have := h5 (hq.1.symm.trans hp)
  exact ⟨List.eq_nil_of_length_eq_zero this.1, hq.2.trans this.2⟩
theorem clone_core {α : Type} {P : Program} {E : Enc α} {T : TypeId} (ok : EncOk P E T) (hby : E.bytes ≤ 1000) {w : World} {s : Sl} {xs : List α} (h : Rd E w s xs) (hsm : xs.length ≤ 1000000000) {K : Value → World → Prop}
    (k : ∀ (s' : Sl) (w' : World), Ow E w' s' xs → Chg No w w' → (∀ k, s'.blk = some k → w.heap.size ≤ k) → (s.ptr = none → s' = nilS) → K s'.val w') :
    brB (Option.isNone s.ptr) (K (.slice none 0 0) w) (∀ (b2 : Nat) (w3 : World), b2 = w.heap.size → w3 = World.alloc w (.cells #[] E.t) →
      ∃ s4 : Sl, ∃ w5 : World, (Builtin.append_ #[T, T] T #[.slice (some ⟨b2, 0, none⟩) 0 0, s.val]).run P w3 = .ok (s4.val) w5 ∧ K (s4.val) w5) := by
  refine brB_of (fun hp => ?_) (fun hp => ?_)
  · have hp : s.ptr = Option.none := by cases h : s.ptr with
      | none => rfl
      | some a => rw [h] at hp; cases hp
    obtain ⟨rfl, _⟩ := h.none hp
    exact k nilS w (Ow.nil E w) (Chg.refl _ _) (fun k hk => by cases hk) (fun _ => rfl)
  · intro b2 w3 hb hw
    have hne : s.ptr ≠ Option.none := fun e => by rw [e] at hp; cases hp
    have hc : Chg No w w3 := by rw [hw]; exact Chg.alloc _ _ _
    have hlit : Ow E w3 ⟨some ⟨b2, 0, Option.none⟩, 0, 0⟩ [] := by
      rw [hw, hb]; exact Ow.lit w [] [] rfl (Nat.zero_le _)
    have hs3 : w.heap.size < w3.heap.size := by rw [hw]; simp
    refine app_ok ok rfl rfl hlit (h.no hc) (by
      have : (xs.length) * E.bytes ≤ 1000000000 * 1000 := Nat.mul_le_mul hsm hby
      simp only [List.length_nil, Nat.zero_add]; omega) (by simp only [List.length_nil, Nat.zero_add]; unfold maxLen; omega) ?_
    intro s' w5 h5 hc5 hbk
    refine k s' w5 (by simpa using h5) (hc.trans hc5 (fun _ _ h => h) (fun j hj he => ?_)) (fun j hj => ?_) (fun e => absurd e hne)
    · have : some b2 = some j := he
      cases this; omega
    · rcases hbk with hk | hk
      · have : (⟨some ⟨b2, 0, Option.none⟩, 0, 0⟩ : Sl).blk = some b2 := rfl
        rw [hk, this] at hj; cases hj; omega
      · rw [hk] at hj; cases hj; omega
theorem clone_ints {w : World} {s : Sl} {xs : List Int} (h : Rd intE w s xs) (hsm : xs.length ≤ 1000000000) : Calls Tryz.prog fn_slices_Clone_sl_int_int #[s.val] w fun e w' => ∃ s' : Sl, e = .returned s'.val ∧ Ow intE w' s' xs ∧ Chg No w w' ∧ (∀ k, s'.blk = some k → w.heap.size ≤ k) ∧ (s.ptr = none → s' = nilS) := by
  refine (slices_Clone_sl_int_int_lift (K := fun v w' => ∃ s' : Sl, v = s'.val ∧ Ow intE w' s' xs ∧ Chg No w w' ∧ (∀ k, s'.blk = some k → w.heap.size ≤ k) ∧ (s.ptr = none → s' = nilS)) ?_).mono (by rintro e w' ⟨v, rfl, s', rfl, h⟩; exact ⟨s', rfl, h⟩)
  unfold slices_Clone_sl_int_int_sh
  exact clone_core (K := fun v w' => ∃ s' : Sl, v = s'.val ∧ Ow intE w' s' xs ∧ Chg No w w' ∧ (∀ k, s'.blk = some k → w.heap.size ≤ k) ∧ (s.ptr = none → s' = nilS)) intOk (by decide) h hsm fun s' w' h1 h2 h3 h4 => ⟨s', rfl, h1, h2, h3, h4⟩
end Go.Proofs.YtkjpmkopnkkbmaaGreatDoor
