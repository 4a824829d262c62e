/- Book.Apart for a book of words alone, and of numbers alone. -/
import Derived.Test.YtijoigpggphajaaBookN
set_option maxRecDepth 100000
namespace Go.Proofs.Ytijoigpggphajaa
open Go.RowKit

variable {α : Type} {w w' : World} {b o : Nat} {A Bs : Sl} {ls was : List Sl}
theorem KB.no {E : Enc α} {T : TypeId} {xss : List (List α)} (h : KB E T w b o A Bs ls was xss) (c : Chg No w w') : KB E T w' b o A Bs ls was xss :=
  ⟨c.cell h.cA (fun h => h), c.cell h.cB (fun h => h), h.rA.no c, h.rB.no c, h.len, h.lenB, h.few, fun i s xs hs hx => ⟨(h.ox i s xs hs hx).1.no c, (h.ox i s xs hs hx).2⟩, fun i s xs hs hx => (h.rd i s xs hs hx).no c, h.dis, h.nb, h.nA⟩
theorem Grown'.no {E : Enc α} {T : TypeId} {mk : Int → Int → α} {out : Sl} {n : Nat} (h : Grown' E T mk w out n) (c : Chg No w w') : Grown' E T mk w' out n := by
  obtain ⟨outs, h1, h2, h3⟩ := h
  exact ⟨outs, h1.no c, h2, fun i t ht => ⟨(h3 i t ht).1, (h3 i t ht).2.no c⟩⟩
/-- The book's own lists, read as marks, as a list of lists. -/
theorem Marked'.asGrown {E : Enc α} {T : TypeId} {mk : Int → Int → α} (hm : Marked' E mk w ls) (rA : Rd (slE T) w A ls) (hl : ∀ (i : Nat) (s : Sl), ls[i]? = some s → s.len ≤ 20000000) : Grown' E T mk w A ls.length :=
  ⟨ls, rA, rfl, fun i s hs => ⟨hl i s hs, hm i s hs⟩⟩
theorem brN_f {P Q : Prop} (h : Q) : brB (!true) P Q := brB_f h
theorem apartWords_any {xss : List (List Wd)} (hc : ∀ j : Nat, j = 0 ∨ j = 2 ∨ j = 6 ∨ j = 8 ∨ j = 10 → w.cell? ⟨b, j, none⟩ = some nilS.val) (h : KB wdE T_sl_api_Word w b 4 A Bs ls was xss) :
    Calls Try.prog fn_hollowaybook_Book_Apart #[.pointer (some ⟨b, 0, none⟩)] w fun e w' => e = .returned (.bool true) ∧ Chg (blksOf ls) w w' := by
  refine (hollowaybook_Book_Apart_lift (K := fun r w' => r = .bool true ∧ Chg (blksOf ls) w w') ?_).mono (by rintro e w' ⟨r, rfl, rfl, h⟩; exact ⟨rfl, h⟩)
  unfold hollowaybook_Book_Apart_sh
  refine (stillTexts_nil (hc 0 (by omega))).mono ?_
  rintro e w3 ⟨rfl, rfl⟩
  refine ⟨_, rfl, brN_f ?_⟩
  refine (stillInts_nil (hc 2 (by omega))).mono ?_
  rintro e w3 ⟨rfl, rfl⟩
  refine ⟨_, rfl, brN_f ?_⟩
  refine (stillWords_any h).mono ?_
  rintro e w9 ⟨rfl, c9⟩
  have hc9 : ∀ j : Nat, j = 0 ∨ j = 2 ∨ j = 6 ∨ j = 8 ∨ j = 10 → w9.cell? ⟨b, j, none⟩ = some nilS.val := fun j hj => c9.cell (hc j hj) (fun h => h)
  refine ⟨_, rfl, brN_f ?_⟩
  refine (stillSeens_nil (hc9 6 (by omega))).mono ?_
  rintro e w12 ⟨rfl, rfl⟩
  refine ⟨_, rfl, brN_f ?_⟩
  refine (stillCodes_nil (hc9 8 (by omega))).mono ?_
  rintro e w12 ⟨rfl, rfl⟩
  refine ⟨_, rfl, brN_f ?_⟩
  refine (stillExits_nil (hc9 10 (by omega))).mono ?_
  rintro e w12 ⟨rfl, rfl⟩
  refine ⟨_, rfl, brN_f ?_⟩
  refine (putExits_nil (hc9 10 (by omega))).mono ?_
  rintro e w12 ⟨rfl, rfl⟩
  refine ⟨rfl, ?_⟩
  refine (putTexts_nil (hc9 0 (by omega))).mono ?_
  rintro e w12 ⟨rfl, rfl⟩
  refine ⟨rfl, ?_⟩
  refine (putInts_nil (hc9 2 (by omega))).mono ?_
  rintro e w12 ⟨rfl, rfl⟩
  refine ⟨rfl, ?_⟩
  refine (putWords_any (h.no c9)).mono ?_
  rintro e w27 ⟨rfl, hm27, c27⟩
  have hc27 : ∀ j : Nat, j = 0 ∨ j = 2 ∨ j = 6 ∨ j = 8 ∨ j = 10 → w27.cell? ⟨b, j, none⟩ = some nilS.val := fun j hj => c27.cell (hc9 j hj) h.nb
  refine ⟨rfl, ?_⟩
  refine (putSeens_nil (hc27 6 (by omega))).mono ?_
  rintro e w12 ⟨rfl, rfl⟩
  refine ⟨rfl, ?_⟩
  refine (putCodes_nil (hc27 8 (by omega))).mono ?_
  rintro e w12 ⟨rfl, rfl⟩
  refine ⟨rfl, ?_⟩
  refine (growTexts_nil (hc27 0 (by omega))).mono ?_
  rintro e w12 ⟨rfl, rfl⟩
  refine ⟨nilS, rfl, ?_⟩
  refine (growInts_nil (hc27 2 (by omega))).mono ?_
  rintro e w12 ⟨rfl, rfl⟩
  refine ⟨nilS, rfl, ?_⟩
  refine (growWords_any hm27).mono ?_
  rintro e w39 ⟨out, rfl, hg39, hk39, c39⟩
  have hc39 : ∀ j : Nat, j = 0 ∨ j = 2 ∨ j = 6 ∨ j = 8 ∨ j = 10 → w39.cell? ⟨b, j, none⟩ = some nilS.val := fun j hj => c39.cell (hc27 j hj) h.nb
  have hA39 : w39.cell? ⟨b, 4, none⟩ = some A.val := c39.cell hm27.cA h.nb
  have hown : Grown' wdE T_sl_api_Word mkW w39 A ls.length := hk39.asGrown (hm27.rA.chg c39 h.nA) (fun i s hs => by have := (hm27.ox i s hs).2; omega)
  have cw39 : Chg (blksOf ls) w w39 := (c9.trans c27 (U := blksOf ls) (fun _ _ h => h.elim) (fun _ _ h => h)).trans c39 (fun _ _ h => h) (fun _ _ h => h)
  refine ⟨out, rfl, ?_⟩
  refine (growSeens_nil (hc39 6 (by omega))).mono ?_
  rintro e w12 ⟨rfl, rfl⟩
  refine ⟨nilS, rfl, ?_⟩
  refine (growCodes_nil (hc39 8 (by omega))).mono ?_
  rintro e w12 ⟨rfl, rfl⟩
  refine ⟨nilS, rfl, ?_⟩
  refine (growExits_nil (hc39 10 (by omega))).mono ?_
  rintro e w12 ⟨rfl, rfl⟩
  refine ⟨nilS, rfl, ?_⟩
  refine (markedTexts_nil _).mono ?_
  rintro e w12 ⟨rfl, rfl⟩
  refine ⟨_, rfl, brB_t ⟨nilS, hc39 0 (by omega), ?_⟩⟩
  refine (markedTexts_nil _).mono ?_
  rintro e w12 ⟨rfl, rfl⟩
  refine ⟨_, rfl, brB_t ?_⟩
  refine (markedInts_nil _).mono ?_
  rintro e w12 ⟨rfl, rfl⟩
  refine ⟨_, rfl, brB_t ⟨nilS, hc39 2 (by omega), ?_⟩⟩
  refine (markedInts_nil _).mono ?_
  rintro e w12 ⟨rfl, rfl⟩
  refine ⟨_, rfl, brB_t ?_⟩
  refine (markedWords_any h.few hg39).mono ?_
  rintro e w65 ⟨rfl, c65⟩
  refine ⟨_, rfl, brB_t ⟨A, c65.cell hA39 (fun h => h), ?_⟩⟩
  refine (markedWords_any h.few (hown.no c65)).mono ?_
  rintro e w69 ⟨rfl, c69⟩
  have c6 : Chg No w39 w69 := c65.trans c69 (fun _ _ h => h) (fun _ _ h => h)
  have hc69 : ∀ j : Nat, j = 0 ∨ j = 2 ∨ j = 6 ∨ j = 8 ∨ j = 10 → w69.cell? ⟨b, j, none⟩ = some nilS.val := fun j hj => c6.cell (hc39 j hj) (fun h => h)
  refine ⟨_, rfl, brB_t ?_⟩
  refine (markedSeens_nil _).mono ?_
  rintro e w12 ⟨rfl, rfl⟩
  refine ⟨_, rfl, brB_t ⟨nilS, hc69 6 (by omega), ?_⟩⟩
  refine (markedSeens_nil _).mono ?_
  rintro e w12 ⟨rfl, rfl⟩
  refine ⟨_, rfl, brB_t ?_⟩
  refine (markedCodes_nil _).mono ?_
  rintro e w12 ⟨rfl, rfl⟩
  refine ⟨_, rfl, brB_t ⟨nilS, hc69 8 (by omega), ?_⟩⟩
  refine (markedCodes_nil _).mono ?_
  rintro e w12 ⟨rfl, rfl⟩
  refine ⟨_, rfl, brB_t ?_⟩
  refine (markedExits_nil _).mono ?_
  rintro e w12 ⟨rfl, rfl⟩
  refine ⟨_, rfl, brB_t ⟨nilS, hc69 10 (by omega), ?_⟩⟩
  refine (markedExits_nil _).mono ?_
  rintro e w12 ⟨rfl, rfl⟩
  exact ⟨_, rfl, rfl, cw39.trans c6 (fun _ _ h => h) (fun _ _ h => h.elim)⟩
end Go.Proofs.Ytijoigpggphajaa
