/- Dictionaries: words.All, Copy, Immediate; what a nil dictionary answers. -/
import Derived.Test.YtijoigpggphajaaWdB
import Derived.Test.YtijoigpggphajaaTr
set_option maxRecDepth 100000
namespace Go.Proofs.Ytijoigpggphajaa
open Go.RowKit

variable {α : Type}
theorem fl_set (E : Enc α) : ∀ (xs : List α) (k j : Nat) (x x' : α) (u : Value), xs[k]? = some x → j < E.sz → E.e x' = (E.e x).set j u → fl E (xs.set k x') = (fl E xs).set (k * E.sz + j) u
  | [], k, j, x, x', u, h, _, _ => by simp at h
  | y :: ys, 0, j, x, x', u, h, hj, he => by
    have hy : y = x := by simpa using h
    subst hy
    rw [List.set_cons_zero, fl_cons, fl_cons, he, Nat.zero_mul, Nat.zero_add, List.set_append_left _ _ (by rw [E.len]; exact hj)]
  | y :: ys, k + 1, j, x, x', u, h, hj, he => by
    have := fl_set E ys k j x x' u (by simpa using h) hj he
    rw [List.set_cons_succ, fl_cons, fl_cons, this, List.set_append_right _ _ (by rw [E.len, Nat.succ_mul]; omega), E.len]
    congr 2
    rw [Nat.succ_mul]; omega
/-- One cell of one element written. -/
theorem Ow.set1 {E : Enc α} {w : World} {s : Sl} {xs : List α} (h : Ow E w s xs) {a : Addr} (ha : s.ptr = some a) {k j : Nat} {x x' : α} {u : Value} (hx : xs[k]? = some x) (hj : j < E.sz) (he : E.e x' = (E.e x).set j u) :
    wrOk w ((a.add (k * E.sz)).add j) 1 ∧ Ow E (stW w ((a.add (k * E.sz)).add j) 0 [u]) s (xs.set k x') := by
  have hox := h.ox
  obtain ⟨hsp, hrm⟩ := hox.room a ha
  have hcap := h.rd.capL
  have hk : k < xs.length := (List.getElem?_eq_some_iff.1 hx).1
  have hmul : (k + 1) * E.sz ≤ s.cap * E.sz := Nat.mul_le_mul_right _ (by omega)
  rw [Nat.succ_mul] at hmul
  refine ⟨fun i hi => ?_, ?_⟩
  · have hi0 : i = 0 := by omega
    subst hi0
    rw [add_add, add_add, Nat.add_zero]
    obtain ⟨h1, h2⟩ := hrm (k * E.sz + j) (by omega)
    exact ⟨Option.isSome_iff_exists.1 h1, h2⟩
  · obtain ⟨hl, hr⟩ := h
    rcases hr with ⟨h1, _⟩ | ⟨g, cap, cur, h1, hbg, hg, hnc, hcm, hcs, htake⟩
    · rw [val_eq, ha] at h1; cases h1
    · have hag : a = ⟨g, 0, none⟩ := by rw [val_eq, ha] at h1; injection h1 with h2; exact Option.some.inj h2
      have hw : stW w ((a.add (k * E.sz)).add j) 0 [u] = w.setCell ⟨g, k * E.sz + j, none⟩ u := by
        show w.setCell ((((a.add (k * E.sz)).add j)).add 0) u = _
        rw [add_add, add_add, hag, add_mk]; simp
      rw [hw]
      have hfl := fl_set E xs k j x x' u hx hj he
      unfold Ow Own World.ownsRow
      rw [List.length_set]
      refine ⟨by rw [hfl, List.length_set]; exact hl, Or.inr ⟨g, cap, _, h1, hbg, row_setCell hg, hnc, hcm, by simp [hcs], ?_⟩⟩
      rw [hfl, ← htake]
      simp [List.take_set]
theorem wall_any {B : Nat → Prop} {w : World} {p : Nat} {l : List Wd} (h : WdsAt B w p l) (hl : l.length ≤ 1000000) : Calls Try.prog fn_words_Words_All #[.pointer (some ⟨p, 0, none⟩)] w fun e w' => ∃ s' : Sl, e = .returned s'.val ∧ Ow wdE w' s' l ∧ Chg No w w' ∧ (∀ k, s'.blk = some k → w.heap.size ≤ k) := by
  refine (words_Words_All_lift (K := fun r w' => ∃ s' : Sl, r = s'.val ∧ Ow wdE w' s' l ∧ Chg No w w' ∧ (∀ k, s'.blk = some k → w.heap.size ≤ k)) ?_).mono (by rintro e w' ⟨v, rfl, s', rfl, h⟩; exact ⟨s', rfl, h⟩)
  unfold words_Words_All_sh
  obtain ⟨s, h1, h2, _, _⟩ := h
  refine ⟨s, h1.cell rfl, ?_⟩
  refine (slices_Clone_sl_api_Word_api_Word_lift (K := fun r w' => ∃ s' : Sl, r = s'.val ∧ Ow wdE w' s' l ∧ Chg No w w' ∧ (∀ k, s'.blk = some k → w.heap.size ≤ k)) ?_).mono ?_
  · unfold slices_Clone_sl_api_Word_api_Word_sh
    exact clone_core (K := fun r w' => ∃ s' : Sl, r = s'.val ∧ Ow wdE w' s' l ∧ Chg No w w' ∧ (∀ k, s'.blk = some k → w.heap.size ≤ k)) wdOk (by decide) h2.rd (by omega) fun s' w' h1 h2 h3 _ => ⟨s', rfl, h1, h2, h3⟩
  · rintro e w' ⟨v, rfl, s', rfl, h⟩
    exact ⟨s', rfl, s', rfl, h⟩
theorem wcopy_any {B : Nat → Prop} {w : World} {p : Nat} {l : List Wd} (h : WdsAt B w p l) (hl : l.length ≤ 1000000) : Calls Try.prog fn_words_Words_Copy #[.pointer (some ⟨p, 0, none⟩)] w fun e w' => ∃ q : Nat, e = .returned (.pointer (some ⟨q, 0, none⟩)) ∧ WdsAt (fun k => w.heap.size ≤ k) w' q l ∧ Chg No w w' := by
  refine (words_Words_Copy_lift (K := fun r w' => ∃ q : Nat, r = .pointer (some ⟨q, 0, none⟩) ∧ WdsAt (fun k => w.heap.size ≤ k) w' q l ∧ Chg No w w') ?_).mono (by rintro e w' ⟨v, rfl, s', rfl, h⟩; exact ⟨s', rfl, h⟩)
  unfold words_Words_Copy_sh
  refine (wall_any h hl).mono ?_
  rintro e w3 ⟨s4, rfl, h4, c3, f4⟩
  refine ⟨s4, rfl, ?_⟩
  intro b5 w6 hb5 hw6
  have ho : Ob w6 b5 [s4.val] T_words_Words := by rw [hw6, hb5]; exact Ob.new w3 [s4.val] T_words_Words
  have c6 : Chg No w3 w6 := by rw [hw6]; exact Chg.alloc _ _ _
  have s3 := c3.size
  refine ⟨b5, rfl, ⟨s4, ho, h4.no c6, by omega, fun k hk => ⟨f4 k hk, by have := h4.lt hk; omega⟩⟩, c3.trans c6 (fun _ _ h => h) (fun _ _ h => h)⟩
/-- The last word made immediate. -/
def immL (l : List Wd) : List Wd := match l.getLast? with | none => l | some x => l.set (l.length - 1) { x with imm := true }
theorem wimm_any {B : Nat → Prop} {w : World} {p : Nat} {l : List Wd} (h : WdsAt B w p l) : Calls Try.prog fn_words_Words_Immediate #[.pointer (some ⟨p, 0, none⟩)] w fun e w' => e = .returned (.bool (decide (0 < l.length))) ∧ WdsAt B w' p (immL l) ∧ Chg B w w' := by
  refine (words_Words_Immediate_lift (K := fun r w' => r = .bool (decide (0 < l.length)) ∧ WdsAt B w' p (immL l) ∧ Chg B w w') ?_).mono (by rintro e w' ⟨v, rfl, rfl, h⟩; exact ⟨rfl, h⟩)
  unfold words_Words_Immediate_sh
  refine (wlen_any h).mono ?_
  rintro e w3 ⟨rfl, rfl⟩
  refine ⟨_, rfl, brB_of (fun h0 => ?_) (fun h0 => ?_)⟩
  · have h0 : l = [] := List.eq_nil_of_length_eq_zero (by simpa using h0)
    subst h0
    exact ⟨rfl, h, Chg.refl _ _⟩
  · have h0 : 0 < l.length := by
      rcases Nat.eq_zero_or_pos l.length with h1 | h1
      · rw [h1] at h0; exact absurd h0 (by decide)
      · exact h1
    obtain ⟨s, h1, h2, h3, h4⟩ := h
    have hlen := h2.rd.len
    have hcap := h2.rd.capL
    intro w5 hw5
    have q5 : Chg No w w5 := by rw [hw5]; exact Chg.drew _ _
    have g1 := h1.no q5
    have g2 := h2.no q5
    obtain ⟨x, hx⟩ : ∃ x, l[l.length - 1]? = some x := ⟨_, List.getElem?_eq_getElem (by omega)⟩
    obtain ⟨a, ha, _⟩ := g2.rd.at hx
    have hi : Int.toNat (wr ((s.len : Int) - 1)) = l.length - 1 := by rw [wr_of (by omega) (by omega)]; omega
    refine ⟨s, held_Lw (g1.cell rfl), s, held_Lw (g1.cell rfl), a, ha, by rw [wr_of (by omega) (by omega)]; omega, by rw [wr_of (by omega) (by omega)]; omega, ?_⟩
    rw [hi]
    obtain ⟨e1, e2⟩ := g2.set1 ha (k := l.length - 1) (j := 3) (x' := { x with imm := true }) (u := .bool true) hx (by decide) rfl
    refine ⟨e1, fun w9 hw9 => ⟨by rw [decide_eq_true h0], ?_, ?_⟩⟩
    · have hb := blk_ptr ha
      have hp := h4 _ hb
      have c9 : Chg (fun k => k = a.block) w5 w9 := by rw [hw9]; exact Chg.st (S := fun k => k = a.block) (by rw [add_block, add_block])
      have hl : immL l = l.set (l.length - 1) { x with imm := true } := by
        unfold immL; rw [List.getLast?_eq_getElem?, hx]
      rw [hl]
      refine ⟨s, g1.chg c9 (fun he => hp.2 he.symm), ?_, h3, h4⟩
      rw [hw9]; exact e2
    · have hb := blk_ptr ha
      have c9 : Chg (fun k => k = a.block) w5 w9 := by rw [hw9]; exact Chg.st (S := fun k => k = a.block) (by rw [add_block, add_block])
      exact q5.trans c9 (fun _ _ h => h.elim) (fun k _ hk => by rw [hk]; exact (h4 _ hb).1)
end Go.Proofs.Ytijoigpggphajaa
