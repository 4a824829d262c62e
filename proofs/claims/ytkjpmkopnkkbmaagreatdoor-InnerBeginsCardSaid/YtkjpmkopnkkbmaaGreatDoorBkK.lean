/- The book's kind numbers. -/
import Derived.Test.YtkjpmkopnkkbmaaGreatDoorBkG
import Derived.Test.YtkjpmkopnkkbmaaGreatDoorIntE
import Derived.Test.YtkjpmkopnkkbmaaGreatDoorSmI
import Derived.Test.YtkjpmkopnkkbmaaGreatDoorShHollowaybook
set_option maxRecDepth 100000
namespace Go.Proofs.YtkjpmkopnkkbmaaGreatDoor
open Go.RowKit

section
def mkI (i k : Int) : Int := wr ((wr ((wr ((-1000000 : Int) * i)) - k)) - (7 : Int))
theorem markInts_ok : MarkOk Tryz.prog intE mkI fn_hollowaybook_markInts := by
  intro i f m w hi hf
  refine (hollowaybook_markInts_lift (K := fun r w' => ∃ s : Sl, r = s.val ∧ Ow intE w' s (marks (mkI i) f m) ∧ Chg No w w' ∧ (∀ j, s.blk = some j → w.heap.size ≤ j)) ?_).mono (by rintro e w' ⟨r, rfl, s, rfl, h⟩; exact ⟨s, rfl, h⟩)
  unfold hollowaybook_markInts_sh
  exact mark_core (K := fun r w' => ∃ s : Sl, r = s.val ∧ Ow intE w' s (marks (mkI i) f m) ∧ Chg No w w' ∧ (∀ j, s.blk = some j → w.heap.size ≤ j)) intOk (by decide) (mkI i) f m hf fun s' w' h1 h2 h3 => ⟨s', rfl, h1, h2, h3⟩
theorem add0 (q : Addr) : q.add 0 = q := by unfold Addr.add; simp
/-- What an element's cells are asked as, when it is marked. -/
def qI (S : World → Prop) (p : Addr) (F : List Value → Prop) : Prop := ∃ n : Int, held S p (.int .i64 n) ∧ F [.int .i64 n]
theorem qI_ok (w : World) (p : Addr) (x : Int) (F : List Value → Prop) (h : ∀ (j : Nat) (u : Value), (intE.e x)[j]? = some u → w.cell? (p.add j) = some u) (hF : F (intE.e x)) : qI (Lw w) p F := by
  have := h 0 _ rfl
  rw [add0] at this
  exact ⟨x, held_Lw this, hF⟩
end
section
variable {α : Type}
variable {w : World} {b : Nat} {A Bs : Sl} {ls was : List Sl}
theorem stillInts_any {xss : List (List Int)} (h : KB intE T_sl_int w b 2 A Bs ls was xss) : Calls Tryz.prog fn_hollowaybook_Book_stillInts #[.pointer (some ⟨b, 0, none⟩)] w fun e w' => e = .returned (.bool true) ∧ Chg No w w' := by
  refine (hollowaybook_Book_stillInts_lift (K := fun r w' => r = .bool true ∧ Chg No w w') ?_).mono (by rintro e w' ⟨r, rfl, rfl, h⟩; exact ⟨rfl, h⟩)
  unfold hollowaybook_Book_stillInts_sh
  exact still_core (K := fun r w' => r = .bool true ∧ Chg No w w') sameInts_ok h.cA h.cB h.rA h.rB h.len h.lenB h.few (fun i s xs hs hx => (h.ox i s xs hs hx).1.rd) h.rd fun w' c => ⟨rfl, c⟩
theorem putInts_any {xss : List (List Int)} (h : KB intE T_sl_int w b 2 A Bs ls was xss) : Calls Tryz.prog fn_hollowaybook_Book_putInts #[.pointer (some ⟨b, 0, none⟩)] w fun e w' => e = .returned (.tuple #[]) ∧ KM intE T_sl_int mkI w' b 2 A ls ∧ Chg (blksOf ls) w w' := by
  refine (hollowaybook_Book_putInts_lift (K := fun r w' => r = .tuple #[] ∧ KM intE T_sl_int mkI w' b 2 A ls ∧ Chg (blksOf ls) w w') ?_).mono (by rintro e w' ⟨r, rfl, rfl, h⟩; exact ⟨rfl, h⟩)
  unfold hollowaybook_Book_putInts_sh
  exact put_core (Q := qI) (mk := mkI) (K := fun r w' => r = .tuple #[] ∧ KM intE T_sl_int mkI w' b 2 A ls ∧ Chg (blksOf ls) w w') qI_ok (Or.inr markInts_ok) h.cA h.rA h.len h.few h.ox h.dis h.nb h.nA fun w' hm c => ⟨rfl, h.marked c hm, c⟩
theorem slIntOk : EncOk Tryz.prog (slE T_sl_int) T_sl_sl_int := EncOk.of (z := .slice none 0 0) (by kernel_rfl) (by kernel_rfl) (by kernel_rfl)
theorem growInts_any (h : KM intE T_sl_int mkI w b 2 A ls) : Calls Tryz.prog fn_hollowaybook_Book_growInts #[.pointer (some ⟨b, 0, none⟩)] w fun e w' => ∃ out : Sl, e = .returned out.val ∧ Grown' intE T_sl_int mkI w' out ls.length ∧ Marked' intE mkI w' ls ∧ Chg (blksOf ls) w w' := by
  refine (hollowaybook_Book_growInts_lift (K := fun r w' => ∃ out : Sl, r = out.val ∧ Grown' intE T_sl_int mkI w' out ls.length ∧ Marked' intE mkI w' ls ∧ Chg (blksOf ls) w w') ?_).mono (by rintro e w' ⟨r, rfl, s, rfl, h⟩; exact ⟨s, rfl, h⟩)
  unfold hollowaybook_Book_growInts_sh
  exact grow_core (mk := mkI) (K := fun r w' => ∃ out : Sl, r = out.val ∧ Grown' intE T_sl_int mkI w' out ls.length ∧ Marked' intE mkI w' ls ∧ Chg (blksOf ls) w w') intOk slIntOk (by decide) (Or.inr markInts_ok) h.cA h.rA h.few h.ox h.dis h.nb h.nA fun out outs w' h1 h2 h3 h4 h5 => ⟨out, rfl, ⟨outs, h1, h2, h3⟩, h4, h5⟩
theorem markedInts_any {n : Nat} (hn : n ≤ 100000) {out : Sl} (h : Grown' intE T_sl_int mkI w out n) : Calls Tryz.prog fn_hollowaybook_markedInts #[out.val] w fun e w' => e = .returned (.bool true) ∧ Chg No w w' := by
  refine (hollowaybook_markedInts_lift (K := fun r w' => r = .bool true ∧ Chg No w w') ?_).mono (by rintro e w' ⟨r, rfl, rfl, h⟩; exact ⟨rfl, h⟩)
  unfold hollowaybook_markedInts_sh
  obtain ⟨outs, h1, h2, h3⟩ := h
  exact marked_core (mk := mkI) (K := fun r w' => r = .bool true ∧ Chg No w w') sameInts_ok markInts_ok h1 (by omega) (fun i s hs => ⟨by have := (h3 i s hs).1; omega, (h3 i s hs).2⟩) fun w' c => ⟨rfl, c⟩
end
section
theorem copyInts_any (s : Sl) (xs : List Int) (w : World) (h : Rd intE w s xs) (hl : xs.length ≤ 10000000) : Calls Tryz.prog fn_hollowaybook_copyInts #[s.val] w fun e w' => ∃ s' : Sl, e = .returned s'.val ∧ Ow intE w' s' xs ∧ Chg No w w' ∧ (∀ k, s'.blk = some k → w.heap.size ≤ k) := by
  refine (hollowaybook_copyInts_lift (K := fun r w' => ∃ s' : Sl, r = s'.val ∧ Ow intE w' s' xs ∧ Chg No w w' ∧ (∀ k, s'.blk = some k → w.heap.size ≤ k)) ?_).mono (by rintro e w' ⟨r, rfl, s', rfl, h⟩; exact ⟨s', rfl, h⟩)
  unfold hollowaybook_copyInts_sh
  refine app_ok intOk (s := nilS) rfl rfl (Ow.nil intE w) h (by simp only [List.length_nil, Nat.zero_add]; show xs.length * 8 ≤ _; omega) (by simp only [List.length_nil, Nat.zero_add]; unfold maxLen; omega) ?_
  intro s' w' h' c hbk
  refine ⟨s', rfl, by simpa using h', c.mono (fun k _ hk => by cases hk), fun k hk => ?_⟩
  rcases hbk with hh | hh
  · rw [hh] at hk; cases hk
  · have := Option.some.inj (hh.symm.trans hk); omega
end
end Go.Proofs.YtkjpmkopnkkbmaaGreatDoor
