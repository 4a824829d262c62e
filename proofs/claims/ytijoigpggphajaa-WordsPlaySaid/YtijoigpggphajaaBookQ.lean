/- The book of words: put in, looked at. -/
import Derived.Test.YtijoigpggphajaaBookA
set_option maxRecDepth 100000
namespace Go.Proofs.Ytijoigpggphajaa
open Go.RowKit

theorem copyWords_any (s : Sl) (xs : List Wd) (w : World) (h : Rd wdE w s xs) (hl : xs.length ≤ 10000000) : Calls Try.prog fn_hollowaybook_copyWords #[s.val] w fun e w' => ∃ s' : Sl, e = .returned s'.val ∧ Ow wdE w' s' xs ∧ Chg No w w' ∧ (∀ k, s'.blk = some k → w.heap.size ≤ k) := by
  refine (hollowaybook_copyWords_lift (K := fun r w' => ∃ s' : Sl, r = s'.val ∧ Ow wdE w' s' xs ∧ Chg No w w' ∧ (∀ k, s'.blk = some k → w.heap.size ≤ k)) ?_).mono (by rintro e w' ⟨r, rfl, s', rfl, h⟩; exact ⟨s', rfl, h⟩)
  unfold hollowaybook_copyWords_sh
  refine app_ok wdOk (s := nilS) rfl rfl (Ow.nil wdE w) h (by simp only [List.length_nil, Nat.zero_add]; show xs.length * 40 ≤ _; omega) (by simp only [List.length_nil, Nat.zero_add]; unfold maxLen; omega) ?_
  intro s' w' h' c hbk
  refine ⟨s', rfl, by simpa using h', c.mono (fun k _ hk => by cases hk), fun k hk => ?_⟩
  rcases hbk with hh | hh
  · rw [hh] at hk; cases hk
  · have := Option.some.inj (hh.symm.trans hk); omega
theorem copyInts_any (s : Sl) (xs : List Int) (w : World) (h : Rd intE w s xs) (hl : xs.length ≤ 10000000) : Calls Try.prog fn_hollowaybook_copyInts #[s.val] w fun e w' => ∃ s' : Sl, e = .returned s'.val ∧ Ow intE w' s' xs ∧ Chg No w w' ∧ (∀ k, s'.blk = some k → w.heap.size ≤ k) := by
  refine (hollowaybook_copyInts_lift (K := fun r w' => ∃ s' : Sl, r = s'.val ∧ Ow intE w' s' xs ∧ Chg No w w' ∧ (∀ k, s'.blk = some k → w.heap.size ≤ k)) ?_).mono (by rintro e w' ⟨r, rfl, s', rfl, h⟩; exact ⟨s', rfl, h⟩)
  unfold hollowaybook_copyInts_sh
  refine app_ok intOk (s := nilS) rfl rfl (Ow.nil intE w) h (by simp only [List.length_nil, Nat.zero_add]; show xs.length * 8 ≤ _; omega) (by simp only [List.length_nil, Nat.zero_add]; unfold maxLen; omega) ?_
  intro s' w' h' c hbk
  refine ⟨s', rfl, by simpa using h', c.mono (fun k _ hk => by cases hk), fun k hk => ?_⟩
  rcases hbk with hh | hh
  · rw [hh] at hk; cases hk
  · have := Option.some.inj (hh.symm.trans hk); omega
/-- A book of words alone. -/
def bookW (A Bs : Sl) : List Value := [nilS.val, nilS.val, nilS.val, nilS.val, A.val, Bs.val, nilS.val, nilS.val, nilS.val, nilS.val, nilS.val, nilS.val]
def BkW (D : Nat → Prop) (w : World) (b : Nat) : Prop := ∃ (A Bs : Sl) (ls was : List Sl) (xss : List (List Wd)), Ob w b (bookW A Bs) T_hollowaybook_Book ∧ KO D wdE T_sl_api_Word w b A Bs ls was xss ∧ D b ∧ ls.length ≤ 250
/-- A book of numbers alone. -/
def bookI (A Bs : Sl) : List Value := [nilS.val, nilS.val, A.val, Bs.val, nilS.val, nilS.val, nilS.val, nilS.val, nilS.val, nilS.val, nilS.val, nilS.val]
def BkI (D : Nat → Prop) (w : World) (b : Nat) : Prop := ∃ (A Bs : Sl) (ls was : List Sl) (xss : List (List Int)), Ob w b (bookI A Bs) T_hollowaybook_Book ∧ KO D intE T_sl_int w b A Bs ls was xss ∧ D b ∧ ls.length ≤ 250
theorem bookWords_any {D : Nat → Prop} {w : World} {b : Nat} (h : BkW D w b) (hD : ∀ k, w.heap.size ≤ k → D k) {l : Sl} {xs : List Wd} (hx : Ox wdE w l xs) (hxs : xs.length ≤ 10000000) {D' : Nat → Prop} (hD' : ∀ k, D k → D' k) (hl : ∀ k, l.blk = some k → D' k ∧ ¬ D k) :
    Calls Try.prog fn_hollowaybook_Book_Words #[.pointer (some ⟨b, 0, none⟩), l.val] w fun e w' => e = .returned (.tuple #[]) ∧ BkW D' w' b ∧ Chg D w w' := by
  refine (hollowaybook_Book_Words_lift (K := fun r w' => r = .tuple #[] ∧ BkW D' w' b ∧ Chg D w w') ?_).mono (by rintro e w' ⟨r, rfl, rfl, h⟩; exact ⟨rfl, h⟩)
  unfold hollowaybook_Book_Words_sh
  obtain ⟨A, Bs, ls, was, xss, ho, hk, hb, hfew⟩ := h
  have hk' : KO D' wdE T_sl_api_Word w b A Bs ls was xss := ⟨hk.oA, hk.oB, hk.len, hk.lenB, hk.ox, hk.rd, hk.dis, fun k h => ⟨hD' k (hk.dA k h).1, (hk.dA k h).2⟩, fun k h => ⟨hD' k (hk.dB k h).1, (hk.dB k h).2⟩, fun k h => ⟨hD' k (hk.dl k h).1, (hk.dl k h).2⟩, fun k h => ⟨hD' k (hk.dw k h).1, (hk.dw k h).2⟩⟩
  have hll : ∀ k, l.blk = some k → D' k ∧ k ≠ b ∧ A.blk ≠ some k ∧ Bs.blk ≠ some k ∧ ¬ blksOf ls k ∧ ¬ blksOf was k := fun k hlk => by
    obtain ⟨h1, h2⟩ := hl k hlk
    exact ⟨h1, fun e => h2 (e ▸ hb), fun e => h2 (hk.dA k e).1, fun e => h2 (hk.dB k e).1, fun e => h2 (hk.dl k e).1, fun e => h2 (hk.dw k e).1⟩
  exact add_core (K := fun r w' => r = .tuple #[] ∧ BkW D' w' b ∧ Chg D w w') (TB := T_hollowaybook_Book) (cs := bookW A Bs) slWordOk copyWords_any ho rfl rfl hk' (fun k h => hD' k (hD k h)) hx hxs hll
    (fun _ => ⟨rfl, ⟨A, Bs, ls, was, xss, ho, hk', hD' b hb, hfew⟩, Chg.refl _ _⟩)
    (fun hlt A' B' c' w' o' k' ch => ⟨rfl, ⟨A', B', ls ++ [l], was ++ [c'], xss ++ [xs], o', k', hD' b hb, by rw [List.length_append]; show ls.length + 1 ≤ 250; omega⟩, ch.mono (fun k _ h => by
      rcases h with rfl | h | h
      · exact hb
      · exact (hk.dA k h).1
      · exact (hk.dB k h).1)⟩)
theorem bookInts_any {D : Nat → Prop} {w : World} {b : Nat} (h : BkI D w b) (hD : ∀ k, w.heap.size ≤ k → D k) {l : Sl} {xs : List Int} (hx : Ox intE w l xs) (hxs : xs.length ≤ 10000000) {D' : Nat → Prop} (hD' : ∀ k, D k → D' k) (hl : ∀ k, l.blk = some k → D' k ∧ ¬ D k) :
    Calls Try.prog fn_hollowaybook_Book_Ints #[.pointer (some ⟨b, 0, none⟩), l.val] w fun e w' => e = .returned (.tuple #[]) ∧ BkI D' w' b ∧ Chg D w w' := by
  refine (hollowaybook_Book_Ints_lift (K := fun r w' => r = .tuple #[] ∧ BkI D' w' b ∧ Chg D w w') ?_).mono (by rintro e w' ⟨r, rfl, rfl, h⟩; exact ⟨rfl, h⟩)
  unfold hollowaybook_Book_Ints_sh
  obtain ⟨A, Bs, ls, was, xss, ho, hk, hb, hfew⟩ := h
  have hk' : KO D' intE T_sl_int w b A Bs ls was xss := ⟨hk.oA, hk.oB, hk.len, hk.lenB, hk.ox, hk.rd, hk.dis, fun k h => ⟨hD' k (hk.dA k h).1, (hk.dA k h).2⟩, fun k h => ⟨hD' k (hk.dB k h).1, (hk.dB k h).2⟩, fun k h => ⟨hD' k (hk.dl k h).1, (hk.dl k h).2⟩, fun k h => ⟨hD' k (hk.dw k h).1, (hk.dw k h).2⟩⟩
  have hll : ∀ k, l.blk = some k → D' k ∧ k ≠ b ∧ A.blk ≠ some k ∧ Bs.blk ≠ some k ∧ ¬ blksOf ls k ∧ ¬ blksOf was k := fun k hlk => by
    obtain ⟨h1, h2⟩ := hl k hlk
    exact ⟨h1, fun e => h2 (e ▸ hb), fun e => h2 (hk.dA k e).1, fun e => h2 (hk.dB k e).1, fun e => h2 (hk.dl k e).1, fun e => h2 (hk.dw k e).1⟩
  exact add_core (K := fun r w' => r = .tuple #[] ∧ BkI D' w' b ∧ Chg D w w') (TB := T_hollowaybook_Book) (cs := bookI A Bs) slIntOk copyInts_any ho rfl rfl hk' (fun k h => hD' k (hD k h)) hx hxs hll
    (fun _ => ⟨rfl, ⟨A, Bs, ls, was, xss, ho, hk', hD' b hb, hfew⟩, Chg.refl _ _⟩)
    (fun hlt A' B' c' w' o' k' ch => ⟨rfl, ⟨A', B', ls ++ [l], was ++ [c'], xss ++ [xs], o', k', hD' b hb, by rw [List.length_append]; show ls.length + 1 ≤ 250; omega⟩, ch.mono (fun k _ h => by
      rcases h with rfl | h | h
      · exact hb
      · exact (hk.dA k h).1
      · exact (hk.dB k h).1)⟩)
theorem BkW.apart {D : Nat → Prop} {w : World} {b : Nat} (h : BkW D w b) : Calls Try.prog fn_hollowaybook_Book_Apart #[.pointer (some ⟨b, 0, none⟩)] w fun e w' => e = .returned (.bool true) ∧ Chg D w w' := by
  obtain ⟨A, Bs, ls, was, xss, ho, hk, hb, hfew⟩ := h
  have hB : KB wdE T_sl_api_Word w b 4 A Bs ls was xss := ⟨ho.cell rfl, ho.cell rfl, hk.oA.rd, hk.oB.rd, hk.len, hk.lenB, by omega, hk.ox, hk.rd, hk.dis, fun e => (hk.dl b e).2.1 rfl, fun k e => (hk.dA k e).2.2.2.1⟩
  refine (apartWords_any (fun j hj => ?_) hB).mono ?_
  · rcases hj with rfl | rfl | rfl | rfl | rfl <;> exact ho.cell rfl
  · rintro e w' ⟨rfl, c⟩
    exact ⟨rfl, c.mono (fun k _ h => (hk.dl k h).1)⟩
theorem BkW.chg {D S : Nat → Prop} {w w' : World} {b : Nat} (h : BkW D w b) (c : Chg S w w') (hS : ∀ k, D k → ¬ S k) : BkW D w' b := by
  obtain ⟨A, Bs, ls, was, xss, ho, hk, hb, hfew⟩ := h
  refine ⟨A, Bs, ls, was, xss, ho.chg c (hS _ hb), ⟨hk.oA.chg c (fun k e => hS _ (hk.dA k e).1), hk.oB.chg c (fun k e => hS _ (hk.dB k e).1), hk.len, hk.lenB, fun i s xs hs hx => ⟨(hk.ox i s xs hs hx).1.chg c (fun k e => hS _ (hk.dl k ⟨i, s, hs, e⟩).1), (hk.ox i s xs hs hx).2⟩, fun i s xs hs hx => (hk.rd i s xs hs hx).chg c (fun k e => hS _ (hk.dw k ⟨i, s, hs, e⟩).1), hk.dis, hk.dA, hk.dB, fun k e => ⟨(hk.dl k e).1, (hk.dl k e).2.1, Nat.lt_of_lt_of_le (hk.dl k e).2.2 c.size⟩, fun k e => ⟨(hk.dw k e).1, (hk.dw k e).2.1, Nat.lt_of_lt_of_le (hk.dw k e).2.2.1 c.size, (hk.dw k e).2.2.2⟩⟩, hb, hfew⟩
theorem BkI.chg {D S : Nat → Prop} {w w' : World} {b : Nat} (h : BkI D w b) (c : Chg S w w') (hS : ∀ k, D k → ¬ S k) : BkI D w' b := by
  obtain ⟨A, Bs, ls, was, xss, ho, hk, hb, hfew⟩ := h
  refine ⟨A, Bs, ls, was, xss, ho.chg c (hS _ hb), ⟨hk.oA.chg c (fun k e => hS _ (hk.dA k e).1), hk.oB.chg c (fun k e => hS _ (hk.dB k e).1), hk.len, hk.lenB, fun i s xs hs hx => ⟨(hk.ox i s xs hs hx).1.chg c (fun k e => hS _ (hk.dl k ⟨i, s, hs, e⟩).1), (hk.ox i s xs hs hx).2⟩, fun i s xs hs hx => (hk.rd i s xs hs hx).chg c (fun k e => hS _ (hk.dw k ⟨i, s, hs, e⟩).1), hk.dis, hk.dA, hk.dB, fun k e => ⟨(hk.dl k e).1, (hk.dl k e).2.1, Nat.lt_of_lt_of_le (hk.dl k e).2.2 c.size⟩, fun k e => ⟨(hk.dw k e).1, (hk.dw k e).2.1, Nat.lt_of_lt_of_le (hk.dw k e).2.2.1 c.size, (hk.dw k e).2.2.2⟩⟩, hb, hfew⟩
end Go.Proofs.Ytijoigpggphajaa
