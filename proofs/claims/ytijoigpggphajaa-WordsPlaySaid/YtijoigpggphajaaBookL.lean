/- The book's functions for numbers and for words, out of the laws over any kind. -/
import Derived.Test.YtijoigpggphajaaBookK
set_option maxRecDepth 100000
namespace Go.Proofs.Ytijoigpggphajaa
open Go.RowKit

variable {α : Type}
/-- A kind's lists in the book b (at cells o, o + 1), as they were put in. -/
structure KB (E : Enc α) (T : TypeId) (w : World) (b o : Nat) (A Bs : Sl) (ls was : List Sl) (xss : List (List α)) : Prop where
  cA : w.cell? ⟨b, o, none⟩ = some A.val
  cB : w.cell? ⟨b, o + 1, none⟩ = some Bs.val
  rA : Rd (slE T) w A ls
  rB : Rd (slE T) w Bs was
  len : ls.length = xss.length
  lenB : was.length = xss.length
  few : ls.length ≤ 100000
  ox : ∀ (i : Nat) (s : Sl) (xs : List α), ls[i]? = some s → xss[i]? = some xs → Ox E w s xs ∧ xs.length ≤ 10000000
  rd : ∀ (i : Nat) (s : Sl) (xs : List α), was[i]? = some s → xss[i]? = some xs → Rd E w s xs
  dis : ∀ (i j : Nat) (s t : Sl) (k : Nat), ls[i]? = some s → ls[j]? = some t → s.blk = some k → t.blk = some k → i = j
  nb : ¬ blksOf ls b
  nA : ∀ k, A.blk = some k → ¬ blksOf ls k
/-- The same lists, marked. -/
structure KM (E : Enc α) (T : TypeId) (mk : Int → Int → α) (w : World) (b o : Nat) (A : Sl) (ls : List Sl) : Prop where
  cA : w.cell? ⟨b, o, none⟩ = some A.val
  rA : Rd (slE T) w A ls
  few : ls.length ≤ 100000
  ox : ∀ (i : Nat) (s : Sl), ls[i]? = some s → Ox E w s (marks (mk i) 0 s.len) ∧ s.len ≤ 10000000
  dis : ∀ (i j : Nat) (s t : Sl) (k : Nat), ls[i]? = some s → ls[j]? = some t → s.blk = some k → t.blk = some k → i = j
  nb : ¬ blksOf ls b
  nA : ∀ k, A.blk = some k → ¬ blksOf ls k
variable {w : World} {b : Nat} {A Bs : Sl} {ls was : List Sl}
theorem stillInts_any {xss : List (List Int)} (h : KB intE T_sl_int w b 2 A Bs ls was xss) : Calls Try.prog fn_hollowaybook_Book_stillInts #[.pointer (some ⟨b, 0, none⟩)] w fun e w' => e = .returned (.bool true) ∧ Chg No w w' := by
  refine (hollowaybook_Book_stillInts_lift (K := fun r w' => r = .bool true ∧ Chg No w w') ?_).mono (by rintro e w' ⟨r, rfl, rfl, h⟩; exact ⟨rfl, h⟩)
  unfold hollowaybook_Book_stillInts_sh
  exact still_core (K := fun r w' => r = .bool true ∧ Chg No w w') sameInts_ok h.cA h.cB h.rA h.rB h.len h.lenB h.few (fun i s xs hs hx => (h.ox i s xs hs hx).1.rd) h.rd fun w' c => ⟨rfl, c⟩
theorem stillWords_any {xss : List (List Wd)} (h : KB wdE T_sl_api_Word w b 4 A Bs ls was xss) : Calls Try.prog fn_hollowaybook_Book_stillWords #[.pointer (some ⟨b, 0, none⟩)] w fun e w' => e = .returned (.bool true) ∧ Chg No w w' := by
  refine (hollowaybook_Book_stillWords_lift (K := fun r w' => r = .bool true ∧ Chg No w w') ?_).mono (by rintro e w' ⟨r, rfl, rfl, h⟩; exact ⟨rfl, h⟩)
  unfold hollowaybook_Book_stillWords_sh
  exact still_core (K := fun r w' => r = .bool true ∧ Chg No w w') sameWords_ok h.cA h.cB h.rA h.rB h.len h.lenB h.few (fun i s xs hs hx => (h.ox i s xs hs hx).1.rd) h.rd fun w' c => ⟨rfl, c⟩
theorem KB.marked {E : Enc α} {T : TypeId} {mk : Int → Int → α} {o : Nat} {xss : List (List α)} (h : KB E T w b o A Bs ls was xss) {w' : World} (c : Chg (blksOf ls) w w') (hm : ∀ (i : Nat) (s : Sl), ls[i]? = some s → Ox E w' s (marks (mk i) 0 s.len)) : KM E T mk w' b o A ls := by
  refine ⟨c.cell h.cA h.nb, h.rA.chg c h.nA, h.few, fun i s hs => ⟨hm i s hs, ?_⟩, h.dis, h.nb, h.nA⟩
  obtain ⟨xs, hxs⟩ : ∃ xs, xss[i]? = some xs := ⟨_, List.getElem?_eq_getElem (by have := (List.getElem?_eq_some_iff.1 hs).1; have := h.len; omega)⟩
  obtain ⟨h1, h2⟩ := h.ox i s xs hs hxs
  rw [h1.rd.len]; exact h2
theorem putInts_any {xss : List (List Int)} (h : KB intE T_sl_int w b 2 A Bs ls was xss) : Calls Try.prog fn_hollowaybook_Book_putInts #[.pointer (some ⟨b, 0, none⟩)] w fun e w' => e = .returned (.tuple #[]) ∧ KM intE T_sl_int mkI w' b 2 A ls ∧ Chg (blksOf ls) w w' := by
  refine (hollowaybook_Book_putInts_lift (K := fun r w' => r = .tuple #[] ∧ KM intE T_sl_int mkI w' b 2 A ls ∧ Chg (blksOf ls) w w') ?_).mono (by rintro e w' ⟨r, rfl, rfl, h⟩; exact ⟨rfl, h⟩)
  unfold hollowaybook_Book_putInts_sh
  exact put_core (Q := qI) (mk := mkI) (K := fun r w' => r = .tuple #[] ∧ KM intE T_sl_int mkI w' b 2 A ls ∧ Chg (blksOf ls) w w') qI_ok (Or.inr markInts_ok) h.cA h.rA h.len h.few h.ox h.dis h.nb h.nA fun w' hm c => ⟨rfl, h.marked c hm, c⟩
theorem putWords_any {xss : List (List Wd)} (h : KB wdE T_sl_api_Word w b 4 A Bs ls was xss) : Calls Try.prog fn_hollowaybook_Book_putWords #[.pointer (some ⟨b, 0, none⟩)] w fun e w' => e = .returned (.tuple #[]) ∧ KM wdE T_sl_api_Word mkW w' b 4 A ls ∧ Chg (blksOf ls) w w' := by
  refine (hollowaybook_Book_putWords_lift (K := fun r w' => r = .tuple #[] ∧ KM wdE T_sl_api_Word mkW w' b 4 A ls ∧ Chg (blksOf ls) w w') ?_).mono (by rintro e w' ⟨r, rfl, rfl, h⟩; exact ⟨rfl, h⟩)
  unfold hollowaybook_Book_putWords_sh
  exact put_core (Q := qW) (mk := mkW) (K := fun r w' => r = .tuple #[] ∧ KM wdE T_sl_api_Word mkW w' b 4 A ls ∧ Chg (blksOf ls) w w') qW_ok (Or.inr markWords_ok) h.cA h.rA h.len h.few h.ox h.dis h.nb h.nA fun w' hm c => ⟨rfl, h.marked c hm, c⟩
theorem slIntOk : EncOk Try.prog (slE T_sl_int) T_sl_sl_int := EncOk.of (z := .slice none 0 0) (by kernel_rfl) (by kernel_rfl) (by kernel_rfl)
theorem slWordOk : EncOk Try.prog (slE T_sl_api_Word) T_sl_sl_api_Word := EncOk.of (z := .slice none 0 0) (by kernel_rfl) (by kernel_rfl) (by kernel_rfl)
/-- Grown forms of the lists: marked all through. -/
def Grown' (E : Enc α) (T : TypeId) (mk : Int → Int → α) (w : World) (out : Sl) (n : Nat) : Prop := ∃ outs : List Sl, Rd (slE T) w out outs ∧ outs.length = n ∧ ∀ (i : Nat) (t : Sl), outs[i]? = some t → t.len ≤ 20000000 ∧ Rd E w t (marks (mk i) 0 t.len)
/-- The book's lists read as marks. -/
def Marked' (E : Enc α) (mk : Int → Int → α) (w : World) (ls : List Sl) : Prop := ∀ (i : Nat) (s : Sl), ls[i]? = some s → Rd E w s (marks (mk i) 0 s.len)
theorem growInts_any (h : KM intE T_sl_int mkI w b 2 A ls) : Calls Try.prog fn_hollowaybook_Book_growInts #[.pointer (some ⟨b, 0, none⟩)] w fun e w' => ∃ out : Sl, e = .returned out.val ∧ Grown' intE T_sl_int mkI w' out ls.length ∧ Marked' intE mkI w' ls ∧ Chg (blksOf ls) w w' := by
  refine (hollowaybook_Book_growInts_lift (K := fun r w' => ∃ out : Sl, r = out.val ∧ Grown' intE T_sl_int mkI w' out ls.length ∧ Marked' intE mkI w' ls ∧ Chg (blksOf ls) w w') ?_).mono (by rintro e w' ⟨r, rfl, s, rfl, h⟩; exact ⟨s, rfl, h⟩)
  unfold hollowaybook_Book_growInts_sh
  exact grow_core (mk := mkI) (K := fun r w' => ∃ out : Sl, r = out.val ∧ Grown' intE T_sl_int mkI w' out ls.length ∧ Marked' intE mkI w' ls ∧ Chg (blksOf ls) w w') intOk slIntOk (by decide) (Or.inr markInts_ok) h.cA h.rA h.few h.ox h.dis h.nb h.nA fun out outs w' h1 h2 h3 h4 h5 => ⟨out, rfl, ⟨outs, h1, h2, h3⟩, h4, h5⟩
theorem growWords_any (h : KM wdE T_sl_api_Word mkW w b 4 A ls) : Calls Try.prog fn_hollowaybook_Book_growWords #[.pointer (some ⟨b, 0, none⟩)] w fun e w' => ∃ out : Sl, e = .returned out.val ∧ Grown' wdE T_sl_api_Word mkW w' out ls.length ∧ Marked' wdE mkW w' ls ∧ Chg (blksOf ls) w w' := by
  refine (hollowaybook_Book_growWords_lift (K := fun r w' => ∃ out : Sl, r = out.val ∧ Grown' wdE T_sl_api_Word mkW w' out ls.length ∧ Marked' wdE mkW w' ls ∧ Chg (blksOf ls) w w') ?_).mono (by rintro e w' ⟨r, rfl, s, rfl, h⟩; exact ⟨s, rfl, h⟩)
  unfold hollowaybook_Book_growWords_sh
  exact grow_core (mk := mkW) (K := fun r w' => ∃ out : Sl, r = out.val ∧ Grown' wdE T_sl_api_Word mkW w' out ls.length ∧ Marked' wdE mkW w' ls ∧ Chg (blksOf ls) w w') wdOk slWordOk (by decide) (Or.inr markWords_ok) h.cA h.rA h.few h.ox h.dis h.nb h.nA fun out outs w' h1 h2 h3 h4 h5 => ⟨out, rfl, ⟨outs, h1, h2, h3⟩, h4, h5⟩
theorem markedInts_any {n : Nat} (hn : n ≤ 100000) {out : Sl} (h : Grown' intE T_sl_int mkI w out n) : Calls Try.prog fn_hollowaybook_markedInts #[out.val] w fun e w' => e = .returned (.bool true) ∧ Chg No w w' := by
  refine (hollowaybook_markedInts_lift (K := fun r w' => r = .bool true ∧ Chg No w w') ?_).mono (by rintro e w' ⟨r, rfl, rfl, h⟩; exact ⟨rfl, h⟩)
  unfold hollowaybook_markedInts_sh
  obtain ⟨outs, h1, h2, h3⟩ := h
  exact marked_core (mk := mkI) (K := fun r w' => r = .bool true ∧ Chg No w w') sameInts_ok markInts_ok h1 (by omega) (fun i s hs => ⟨by have := (h3 i s hs).1; omega, (h3 i s hs).2⟩) fun w' c => ⟨rfl, c⟩
theorem markedWords_any {n : Nat} (hn : n ≤ 100000) {out : Sl} (h : Grown' wdE T_sl_api_Word mkW w out n) : Calls Try.prog fn_hollowaybook_markedWords #[out.val] w fun e w' => e = .returned (.bool true) ∧ Chg No w w' := by
  refine (hollowaybook_markedWords_lift (K := fun r w' => r = .bool true ∧ Chg No w w') ?_).mono (by rintro e w' ⟨r, rfl, rfl, h⟩; exact ⟨rfl, h⟩)
  unfold hollowaybook_markedWords_sh
  obtain ⟨outs, h1, h2, h3⟩ := h
  exact marked_core (mk := mkW) (K := fun r w' => r = .bool true ∧ Chg No w w') sameWords_ok markWords_ok h1 (by omega) (fun i s hs => ⟨by have := (h3 i s hs).1; omega, (h3 i s hs).2⟩) fun w' c => ⟨rfl, c⟩
end Go.Proofs.Ytijoigpggphajaa
