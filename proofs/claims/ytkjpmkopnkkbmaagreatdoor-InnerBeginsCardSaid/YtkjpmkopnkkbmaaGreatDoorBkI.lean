/- A book of numbers alone. -/
import Derived.Test.YtkjpmkopnkkbmaaGreatDoorBkN
set_option maxRecDepth 100000
namespace Go.Proofs.YtkjpmkopnkkbmaaGreatDoor
open Go.RowKit

section
/-- A book of numbers alone. -/
def bookI (A Bs : Sl) : List Value := [nilS.val, nilS.val, A.val, Bs.val, nilS.val, nilS.val, nilS.val, nilS.val, nilS.val, nilS.val, nilS.val, nilS.val]
def BkI (D : Nat → Prop) (w : World) (b : Nat) : Prop := ∃ (A Bs : Sl) (ls was : List Sl) (xss : List (List Int)), Ob w b (bookI A Bs) T_hollowaybook_Book ∧ KO D intE T_sl_int w b A Bs ls was xss ∧ D b ∧ ls.length ≤ 250
theorem bookInts_any {D : Nat → Prop} {w : World} {b : Nat} (h : BkI D w b) (hD : ∀ k, w.heap.size ≤ k → D k) {l : Sl} {xs : List Int} (hx : Ox intE w l xs) (hxs : xs.length ≤ 10000000) {D' : Nat → Prop} (hD' : ∀ k, D k → D' k) (hl : ∀ k, l.blk = some k → D' k ∧ ¬ D k) :
    Calls Tryz.prog fn_hollowaybook_Book_Ints #[.pointer (some ⟨b, 0, none⟩), l.val] w fun e w' => e = .returned (.tuple #[]) ∧ BkI D' w' b ∧ Chg D w w' := by
  refine (hollowaybook_Book_Ints_lift (K := fun r w' => r = .tuple #[] ∧ BkI D' w' b ∧ Chg D w w') ?_).mono (by rintro e w' ⟨r, rfl, rfl, h⟩; exact ⟨rfl, h⟩)
  unfold hollowaybook_Book_Ints_sh
  obtain ⟨A, Bs, ls, was, xss, ho, hk, hb, hfew⟩ := h
  have hk' : KO D' intE T_sl_int w b A Bs ls was xss := ⟨hk.oA, hk.oB, hk.len, hk.lenB, hk.ox, hk.rd, hk.dis, fun k h => ⟨hD' k (hk.dA k h).1, (hk.dA k h).2⟩, fun k h => ⟨hD' k (hk.dB k h).1, (hk.dB k h).2⟩, fun k h => ⟨hD' k (hk.dl k h).1, (hk.dl k h).2⟩, fun k h => ⟨hD' k (hk.dw k h).1, (hk.dw k h).2⟩⟩
  have hll : ∀ k, l.blk = some k → D' k ∧ k ≠ b ∧ A.blk ≠ some k ∧ Bs.blk ≠ some k ∧ ¬ blksOf ls k ∧ ¬ blksOf was k := fun k hlk => by
    obtain ⟨h1, h2⟩ := hl k hlk
    exact ⟨h1, fun e => h2 (e ▸ hb), fun e => h2 (hk.dA k e).1, fun e => h2 (hk.dB k e).1, fun e => h2 (hk.dl k e).1, fun e => h2 (hk.dw k e).1⟩
  exact add_core (K := fun r w' => r = .tuple #[] ∧ BkI D' w' b ∧ Chg D w w') (TB := T_hollowaybook_Book) (cs := bookI A Bs) slIntOk copyInts_any ho rfl rfl hk' (fun k h => hD' k (hD k h)) hx hxs hll
    (fun _ => ⟨rfl, ⟨A, Bs, ls, was, xss, ho, hk', hD' b hb, hfew⟩, Chg.refl _ _⟩)
    (fun hlt A' B' c' w' o' k' ch => ⟨rfl, ⟨A', B', ls ++ [l], was ++ [c'], xss ++ [xs], o', k', hD' b hb, by rw [List.length_append]; show ls.length + 1 ≤ 250; omega⟩, ch.mono (fun k _ h => by
      rcases h with rfl | h | h
      · exact hb
      · exact (hk.dA k h).1
      · exact (hk.dB k h).1)⟩)
theorem BkI.chg {D S : Nat → Prop} {w w' : World} {b : Nat} (h : BkI D w b) (c : Chg S w w') (hS : ∀ k, D k → ¬ S k) : BkI D w' b := by
  obtain ⟨A, Bs, ls, was, xss, ho, hk, hb, hfew⟩ := h
  refine ⟨A, Bs, ls, was, xss, ho.chg c (hS _ hb), ⟨hk.oA.chg c (fun k e => hS _ (hk.dA k e).1), hk.oB.chg c (fun k e => hS _ (hk.dB k e).1), hk.len, hk.lenB, fun i s xs hs hx => ⟨(hk.ox i s xs hs hx).1.chg c (fun k e => hS _ (hk.dl k ⟨i, s, hs, e⟩).1), (hk.ox i s xs hs hx).2⟩, fun i s xs hs hx => (hk.rd i s xs hs hx).chg c (fun k e => hS _ (hk.dw k ⟨i, s, hs, e⟩).1), hk.dis, hk.dA, hk.dB, fun k e => ⟨(hk.dl k e).1, (hk.dl k e).2.1, Nat.lt_of_lt_of_le (hk.dl k e).2.2 c.size⟩, fun k e => ⟨(hk.dw k e).1, (hk.dw k e).2.1, Nat.lt_of_lt_of_le (hk.dw k e).2.2.1 c.size, (hk.dw k e).2.2.2⟩⟩, hb, hfew⟩
end
section
theorem apartInts_any {w : World} {b : Nat} {A Bs : Sl} {ls was : List Sl} {xss : List (List Int)} (hc : ∀ j : Nat, j = 0 ∨ j = 4 ∨ j = 6 ∨ j = 8 ∨ j = 10 → w.cell? ⟨b, j, none⟩ = some nilS.val) (h : KB intE T_sl_int w b 2 A Bs ls was xss) :
    Calls Tryz.prog fn_hollowaybook_Book_Apart #[.pointer (some ⟨b, 0, none⟩)] w fun e w' => e = .returned (.bool true) ∧ Chg (blksOf ls) w w' := by
  refine (hollowaybook_Book_Apart_lift (K := fun r w' => r = .bool true ∧ Chg (blksOf ls) w w') ?_).mono (by rintro e w' ⟨r, rfl, rfl, h⟩; exact ⟨rfl, h⟩)
  unfold hollowaybook_Book_Apart_sh
  refine (stillTexts_nil (hc 0 (by omega))).mono ?_
  rintro e w3 ⟨rfl, rfl⟩
  refine ⟨_, rfl, brN_f ?_⟩
  refine (stillInts_any h).mono ?_
  rintro e wS ⟨rfl, cS⟩
  have hcS : ∀ j : Nat, j = 0 ∨ j = 4 ∨ j = 6 ∨ j = 8 ∨ j = 10 → wS.cell? ⟨b, j, none⟩ = some nilS.val := fun j hj => cS.cell (hc j hj) (fun h => h)
  refine ⟨_, rfl, brN_f ?_⟩
  refine (stillWords_nil (hcS 4 (by omega))).mono ?_
  rintro e w3 ⟨rfl, rfl⟩
  refine ⟨_, rfl, brN_f ?_⟩
  refine (stillSeens_nil (hcS 6 (by omega))).mono ?_
  rintro e w3 ⟨rfl, rfl⟩
  refine ⟨_, rfl, brN_f ?_⟩
  refine (stillCodes_nil (hcS 8 (by omega))).mono ?_
  rintro e w3 ⟨rfl, rfl⟩
  refine ⟨_, rfl, brN_f ?_⟩
  refine (stillExits_nil (hcS 10 (by omega))).mono ?_
  rintro e w3 ⟨rfl, rfl⟩
  refine ⟨_, rfl, brN_f ?_⟩
  refine (putExits_nil (hcS 10 (by omega))).mono ?_
  rintro e w3 ⟨rfl, rfl⟩
  refine ⟨rfl, ?_⟩
  refine (putTexts_nil (hcS 0 (by omega))).mono ?_
  rintro e w3 ⟨rfl, rfl⟩
  refine ⟨rfl, ?_⟩
  refine (putInts_any (h.no cS)).mono ?_
  rintro e wP ⟨rfl, hmP, cP⟩
  have hcP : ∀ j : Nat, j = 0 ∨ j = 4 ∨ j = 6 ∨ j = 8 ∨ j = 10 → wP.cell? ⟨b, j, none⟩ = some nilS.val := fun j hj => cP.cell (hcS j hj) h.nb
  refine ⟨rfl, ?_⟩
  refine (putWords_nil (hcP 4 (by omega))).mono ?_
  rintro e w3 ⟨rfl, rfl⟩
  refine ⟨rfl, ?_⟩
  refine (putSeens_nil (hcP 6 (by omega))).mono ?_
  rintro e w3 ⟨rfl, rfl⟩
  refine ⟨rfl, ?_⟩
  refine (putCodes_nil (hcP 8 (by omega))).mono ?_
  rintro e w3 ⟨rfl, rfl⟩
  refine ⟨rfl, ?_⟩
  refine (growTexts_nil (hcP 0 (by omega))).mono ?_
  rintro e w3 ⟨rfl, rfl⟩
  refine ⟨nilS, rfl, ?_⟩
  refine (growInts_any hmP).mono ?_
  rintro e wG ⟨out, rfl, hgG, hkG, cG⟩
  have hcG : ∀ j : Nat, j = 0 ∨ j = 4 ∨ j = 6 ∨ j = 8 ∨ j = 10 → wG.cell? ⟨b, j, none⟩ = some nilS.val := fun j hj => cG.cell (hcP j hj) h.nb
  have hAG : wG.cell? ⟨b, 2, none⟩ = some A.val := cG.cell hmP.cA h.nb
  have hown : Grown' intE T_sl_int mkI wG A ls.length := hkG.asGrown (hmP.rA.chg cG h.nA) (fun i s hs => by have := (hmP.ox i s hs).2; omega)
  have cwG : Chg (blksOf ls) w wG := (cS.trans cP (U := blksOf ls) (fun _ _ h => h.elim) (fun _ _ h => h)).trans cG (fun _ _ h => h) (fun _ _ h => h)
  refine ⟨out, rfl, ?_⟩
  refine (growWords_nil (hcG 4 (by omega))).mono ?_
  rintro e w3 ⟨rfl, rfl⟩
  refine ⟨nilS, rfl, ?_⟩
  refine (growSeens_nil (hcG 6 (by omega))).mono ?_
  rintro e w3 ⟨rfl, rfl⟩
  refine ⟨nilS, rfl, ?_⟩
  refine (growCodes_nil (hcG 8 (by omega))).mono ?_
  rintro e w3 ⟨rfl, rfl⟩
  refine ⟨nilS, rfl, ?_⟩
  refine (growExits_nil (hcG 10 (by omega))).mono ?_
  rintro e w3 ⟨rfl, rfl⟩
  refine ⟨nilS, rfl, ?_⟩
  refine (markedTexts_nil _).mono ?_
  rintro e w3 ⟨rfl, rfl⟩
  refine ⟨_, rfl, brB_t ⟨nilS, hcG 0 (by omega), ?_⟩⟩
  refine (markedTexts_nil _).mono ?_
  rintro e w3 ⟨rfl, rfl⟩
  refine ⟨_, rfl, brB_t ?_⟩
  refine (markedInts_any h.few hgG).mono ?_
  rintro e wM ⟨rfl, cM⟩
  refine ⟨_, rfl, brB_t ⟨A, cM.cell hAG (fun h => h), ?_⟩⟩
  refine (markedInts_any h.few (hown.no cM)).mono ?_
  rintro e wN ⟨rfl, cN⟩
  have cMN : Chg No wG wN := cM.trans cN (fun _ _ h => h) (fun _ _ h => h)
  have hcN : ∀ j : Nat, j = 0 ∨ j = 4 ∨ j = 6 ∨ j = 8 ∨ j = 10 → wN.cell? ⟨b, j, none⟩ = some nilS.val := fun j hj => cMN.cell (hcG j hj) (fun h => h)
  refine ⟨_, rfl, brB_t ?_⟩
  refine (markedWords_nil _).mono ?_
  rintro e w3 ⟨rfl, rfl⟩
  refine ⟨_, rfl, brB_t ⟨nilS, hcN 4 (by omega), ?_⟩⟩
  refine (markedWords_nil _).mono ?_
  rintro e w3 ⟨rfl, rfl⟩
  refine ⟨_, rfl, brB_t ?_⟩
  refine (markedSeens_nil _).mono ?_
  rintro e w3 ⟨rfl, rfl⟩
  refine ⟨_, rfl, brB_t ⟨nilS, hcN 6 (by omega), ?_⟩⟩
  refine (markedSeens_nil _).mono ?_
  rintro e w3 ⟨rfl, rfl⟩
  refine ⟨_, rfl, brB_t ?_⟩
  refine (markedCodes_nil _).mono ?_
  rintro e w3 ⟨rfl, rfl⟩
  refine ⟨_, rfl, brB_t ⟨nilS, hcN 8 (by omega), ?_⟩⟩
  refine (markedCodes_nil _).mono ?_
  rintro e w3 ⟨rfl, rfl⟩
  refine ⟨_, rfl, brB_t ?_⟩
  refine (markedExits_nil _).mono ?_
  rintro e w3 ⟨rfl, rfl⟩
  refine ⟨_, rfl, brB_t ⟨nilS, hcN 10 (by omega), ?_⟩⟩
  refine (markedExits_nil _).mono ?_
  rintro e w3 ⟨rfl, rfl⟩
  exact ⟨_, rfl, rfl, cwG.trans cMN (fun _ _ h => h) (fun _ _ h => h.elim)⟩
theorem BkI.apart {D : Nat → Prop} {w : World} {b : Nat} (h : BkI D w b) : Calls Tryz.prog fn_hollowaybook_Book_Apart #[.pointer (some ⟨b, 0, none⟩)] w fun e w' => e = .returned (.bool true) ∧ Chg D w w' := by
  obtain ⟨A, Bs, ls, was, xss, ho, hk, hb, hfew⟩ := h
  have hB : KB intE T_sl_int w b 2 A Bs ls was xss := ⟨ho.cell rfl, ho.cell rfl, hk.oA.rd, hk.oB.rd, hk.len, hk.lenB, by omega, hk.ox, hk.rd, hk.dis, fun e => (hk.dl b e).2.1 rfl, fun k e => (hk.dA k e).2.2.2.1⟩
  refine (apartInts_any (fun j hj => ?_) hB).mono ?_
  · rcases hj with rfl | rfl | rfl | rfl | rfl <;> exact ho.cell rfl
  · rintro e w' ⟨rfl, c⟩
    exact ⟨rfl, c.mono (fun k _ h => (hk.dl k h).1)⟩
end
section
theorem BkI.empty {D : Nat → Prop} {w : World} {b : Nat} (h : Ob w b (bookI nilS nilS) T_hollowaybook_Book) (hb : D b) : BkI D w b := ⟨nilS, nilS, [], [], [], h, KO.empty _ _ _ _ _, hb, Nat.zero_le _⟩
theorem BkI.nar {D : Nat → Prop} {w : World} {b : Nat} (h : BkI D w b) : BkI (fun k => D k ∧ k < w.heap.size) w b := by
  obtain ⟨A, Bs, ls, was, xss, h1, h2, h3, h4⟩ := h
  exact ⟨A, Bs, ls, was, xss, h1, h2.nar, ⟨h3, h1.lt⟩, h4⟩
theorem BkI.wid {D D' : Nat → Prop} {w : World} {b : Nat} (h : BkI D w b) (hd : ∀ k, D k → D' k) : BkI D' w b := by
  obtain ⟨A, Bs, ls, was, xss, h1, h2, h3, h4⟩ := h
  exact ⟨A, Bs, ls, was, xss, h1, h2.wid hd, hd _ h3, h4⟩
end
end Go.Proofs.YtkjpmkopnkkbmaaGreatDoor
