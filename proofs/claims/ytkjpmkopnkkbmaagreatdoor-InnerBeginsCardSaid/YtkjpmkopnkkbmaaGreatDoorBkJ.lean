/- A book of numbers alone: what is put in leaves the lists as they were. -/
import Derived.Test.YtkjpmkopnkkbmaaGreatDoorBkI
import Derived.Test.YtkjpmkopnkkbmaaGreatDoorBkX
import Derived.Test.YtkjpmkopnkkbmaaGreatDoorMaR
set_option maxRecDepth 100000
namespace Go.Proofs.YtkjpmkopnkkbmaaGreatDoor
open Go.RowKit

def BkJ (D P : Nat → Prop) (w : World) (b : Nat) : Prop := ∃ (A Bs : Sl) (ls was : List Sl) (xss : List (List Int)), (Ob w b (bookI A Bs) T_hollowaybook_Book ∧ KO D intE T_sl_int w b A Bs ls was xss ∧ D b ∧ ls.length ≤ 250) ∧ ∀ k, k = b ∨ A.blk = some k ∨ Bs.blk = some k → P k
theorem BkJ.all {D P : Nat → Prop} {w : World} {b : Nat} (h : BkJ D P w b) : BkI D w b := by
  obtain ⟨A, Bs, ls, was, xss, h, _⟩ := h
  exact ⟨A, Bs, ls, was, xss, h⟩
theorem BkJ.apart {D P : Nat → Prop} {w : World} {b : Nat} (h : BkJ D P w b) : Calls Tryz.prog fn_hollowaybook_Book_Apart #[.pointer (some ⟨b, 0, none⟩)] w fun e w' => e = .returned (.bool true) ∧ Chg D w w' := h.all.apart
theorem BkJ.chg {D P S : Nat → Prop} {w w' : World} {b : Nat} (h : BkJ D P w b) (c : Chg S w w') (hS : ∀ k, D k → ¬ S k) : BkJ D P w' b := by
  obtain ⟨A, Bs, ls, was, xss, ⟨ho, hk, hb, hfew⟩, hP⟩ := h
  exact ⟨A, Bs, ls, was, xss, ⟨ho.chg c (hS _ hb), hk.chg c hS, hb, hfew⟩, hP⟩
theorem BkJ.no {D P : Nat → Prop} {w w' : World} {b : Nat} (h : BkJ D P w b) (c : Chg No w w') : BkJ D P w' b := h.chg c (fun _ _ h => h)
theorem BkJ.empty {D P : Nat → Prop} {w : World} {b : Nat} (h : Ob w b (bookI nilS nilS) T_hollowaybook_Book) (hb : D b) (hp : P b) : BkJ D P w b := ⟨nilS, nilS, [], [], [], ⟨h, KO.empty _ _ _ _ _, hb, Nat.zero_le _⟩, fun k e => by
  rcases e with e | e | e
  · rw [e]; exact hp
  all_goals cases e⟩
theorem BkJ.nar {D P : Nat → Prop} {w : World} {b : Nat} (h : BkJ D P w b) : BkJ (fun k => D k ∧ k < w.heap.size) (fun k => P k ∧ k < w.heap.size) w b := by
  obtain ⟨A, Bs, ls, was, xss, ⟨h1, h2, h3, h4⟩, hP⟩ := h
  refine ⟨A, Bs, ls, was, xss, ⟨h1, h2.nar, ⟨h3, h1.lt⟩, h4⟩, fun k e => ⟨hP k e, ?_⟩⟩
  rcases e with e | e | e
  · rw [e]; exact h1.lt
  · exact h2.oA.lt e
  · exact h2.oB.lt e
theorem BkJ.wid {D D' P P' : Nat → Prop} {w : World} {b : Nat} (h : BkJ D P w b) (hd : ∀ k, D k → D' k) (hp : ∀ k, P k → P' k) : BkJ D' P' w b := by
  obtain ⟨A, Bs, ls, was, xss, ⟨h1, h2, h3, h4⟩, hP⟩ := h
  exact ⟨A, Bs, ls, was, xss, ⟨h1, h2.wid hd, hd _ h3, h4⟩, fun k e => hp _ (hP k e)⟩
theorem BkJ.ints {D P : Nat → Prop} {w : World} {b : Nat} (h : BkJ D P w b) (hD : ∀ k, w.heap.size ≤ k → D k) (hp : ∀ k, w.heap.size ≤ k → P k) {l : Sl} {xs : List Int} (hx : Ox intE w l xs) (hxs : xs.length ≤ 10000000) {D' : Nat → Prop} (hD' : ∀ k, D k → D' k) (hl : ∀ k, l.blk = some k → D' k ∧ ¬ D k) :
    Calls Tryz.prog fn_hollowaybook_Book_Ints #[.pointer (some ⟨b, 0, none⟩), l.val] w fun e w' => e = .returned (.tuple #[]) ∧ BkJ D' P w' b ∧ Chg P w w' := by
  refine (hollowaybook_Book_Ints_lift (K := fun r w' => r = .tuple #[] ∧ BkJ D' P w' b ∧ Chg P w w') ?_).mono (by rintro e w' ⟨r, rfl, rfl, h⟩; exact ⟨rfl, h⟩)
  unfold hollowaybook_Book_Ints_sh
  obtain ⟨A1, B1, l1, s1, x1, ⟨ho, hk, hb, hfew⟩, hPP⟩ := h
  have hw : KO D' intE T_sl_int w b A1 B1 l1 s1 x1 := hk.wid hD'
  have hll : ∀ k, l.blk = some k → D' k ∧ k ≠ b ∧ A1.blk ≠ some k ∧ B1.blk ≠ some k ∧ ¬ blksOf l1 k ∧ ¬ blksOf s1 k := fun k hlk => by
    obtain ⟨h1, h2⟩ := hl k hlk
    exact ⟨h1, fun e => h2 (e ▸ hb), fun e => h2 (hk.dA k e).1, fun e => h2 (hk.dB k e).1, fun e => h2 (hk.dl k e).1, fun e => h2 (hk.dw k e).1⟩
  refine addx_core (K := fun r w' => r = .tuple #[] ∧ BkJ D' P w' b ∧ Chg P w w') (TB := T_hollowaybook_Book) (cs := bookI A1 B1) slIntOk ho rfl rfl hw.half (fun k e => hD' k (hD k e)) hx hxs hll (G := fun s' w10 w14 => Ow intE w14 s' xs) (fun w10 c10 => ?_)
    (fun _ => ⟨rfl, ⟨A1, B1, l1, s1, x1, ⟨ho, hw, hD' b hb, hfew⟩, hPP⟩, Chg.refl _ _⟩)
    (fun hlt A' B' c' w10 w14 w' o' k'' hG c10 c14 c1420 hbk hA10 hAn hB14 ch => ?_)
  · refine (copyInts_any l xs w10 (hx.chg c10 (fun k hk he => ?_)).rd hxs).mono ?_
    · rcases he with he | he
      · exact (hll k hk).2.1 he
      · exact (hll k hk).2.2.1 he
    · rintro e w' ⟨s', rfl, h1, h2, h3⟩
      exact ⟨s', rfl, h1, fun k hk => ⟨h3 k hk, h1.lt hk⟩, h2⟩
  have z10 := c10.size
  have k' : KO D' intE T_sl_int w' b A' B' (l1 ++ [l]) (s1 ++ [c']) (x1 ++ [xs]) := by
    refine ⟨k''.oA, k''.oB, k''.len, k''.lenB, k''.ox, fun i s ys hs hy => ?_, k''.dis, k''.dA, k''.dB, k''.dl, k''.dw⟩
    rcases app_at hs with ⟨h5, h6⟩ | ⟨h5, rfl⟩
    · rw [List.getElem?_append_left (by have := hk.lenB; omega)] at hy
      refine (hk.rd i s ys h6 hy).chg ch (fun m hm he => ?_)
      have h9 : blksOf s1 m := ⟨i, s, h6, hm⟩
      rcases he with he | he | he
      · exact (hk.dw m h9).2.1 he
      · exact (hk.dA m he).2.2.2.2 h9
      · exact (hk.dB m he).2.2.2 h9
    · rcases app_at hy with ⟨h6, _⟩ | ⟨_, rfl⟩
      · have := hk.lenB; omega
      · refine (hG.chg c1420 (fun m hm he => ?_)).rd
        have hm' := hbk m hm
        rcases he with he | he
        · have := ho.lt; omega
        · have := hk.oB.lt he; omega
  refine ⟨rfl, ⟨A', B', l1 ++ [l], s1 ++ [c'], x1 ++ [xs], ⟨o', k', hD' b hb, by rw [List.length_append]; show l1.length + 1 ≤ 250; omega⟩, fun k e => ?_⟩, ch.mono (fun k _ e => hPP k e)⟩
  rcases e with e | e | e
  · exact hPP k (Or.inl e)
  · rcases hAn k e with e | e
    · exact hPP k (Or.inr (Or.inl e))
    · exact hp k e
  · rcases hB14 k e with e | e
    · exact hPP k (Or.inr (Or.inr e))
    · exact hp k (by have := c14.size; omega)
/-- The lists of a machine that are its own, put into the book. -/
theorem BkJ.state {D P : Nat → Prop} {w : World} {b : Nat} (h : BkJ D P w b) (hD : ∀ k, w.heap.size ≤ k → D k) (hp : ∀ k, w.heap.size ≤ k → P k) {S : StC} {s : StV} {F : Nat → Prop} (hs : StX F w S s) (h1 : s.stack.length ≤ 1000000) (h2 : s.back.length ≤ 1000000) (h3 : s.mem.length ≤ 1000000) {D' : Nat → Prop} (hD' : ∀ k, D k → D' k) (hF : ∀ k, F k → D' k ∧ ¬ D k ∧ ¬ P k) :
    Calls Tryz.prog fn_hollowaybook_Book_State #[.pointer (some ⟨b, 0, none⟩), .agg (stC S).toArray] w fun e w' => e = .returned (.tuple #[]) ∧ BkJ D' P w' b ∧ Chg P w w' := by
  refine (hollowaybook_Book_State_lift (K := fun r w' => r = .tuple #[] ∧ BkJ D' P w' b ∧ Chg P w w') ?_).mono (by rintro e w' ⟨r, rfl, rfl, h⟩; exact ⟨rfl, h⟩)
  unfold hollowaybook_Book_State_sh
  intro b11 w12 hb11 hw12
  have c12 := al hw12
  have z12 : w12.heap.size = w.heap.size + 1 := by rw [hw12]; simp
  have o12 : Ob w12 b11 (stC S) T_api_State := by rw [hw12, hb11]; exact Ob.new w (stC S) T_api_State
  have lt12 := o12.lt
  obtain ⟨E, hE⟩ : ∃ E : Nat → Prop, E = fun k => D k ∧ k ≠ b11 := ⟨_, rfl⟩
  obtain ⟨Q, hQ⟩ : ∃ Q : Nat → Prop, Q = fun k => P k ∧ k ≠ b11 := ⟨_, rfl⟩
  have hE1 : ∀ k, E k → D k ∧ k ≠ b11 := fun k hk => by rw [hE] at hk; exact hk
  have hQ1 : ∀ k, Q k → P k ∧ k ≠ b11 := fun k hk => by rw [hQ] at hk; exact hk
  have h12 : BkJ E Q w12 b := by
    have g := h.nar
    rw [hE, hQ]
    exact (g.no c12).wid (fun k hk => ⟨hk.1, by have := hk.2; omega⟩) (fun k hk => ⟨hk.1, by have := hk.2; omega⟩)
  have hEs : ∀ k, w12.heap.size ≤ k → E k := fun k hk => by rw [hE]; exact ⟨hD k (by omega), by omega⟩
  have hQs : ∀ k, w12.heap.size ≤ k → Q k := fun k hk => by rw [hQ]; exact ⟨hp k (by omega), by omega⟩
  have nE : ∀ k, F k → ¬ E k := fun k hk he => (hF k hk).2.1 (hE1 k he).1
  have nQ : ∀ k, F k → ¬ Q k := fun k hk he => (hF k hk).2.2 (hQ1 k he).1
  have hs12 := hs.no c12
  refine ⟨S.stack, o12.cell rfl, ?_⟩
  refine (h12.ints hEs hQs hs12.st (by omega) (D' := fun k => E k ∨ S.stack.blk = some k) (fun k hk => Or.inl hk) (fun k hk => ⟨Or.inr hk, nE k (hs.stD k hk).1⟩)).mono ?_
  rintro e w15 ⟨rfl, h15, c15⟩
  have z15 := c15.size
  have o15 := o12.chg c15 (fun he => (hQ1 _ he).2 rfl)
  have hs15 := hs12.chg c15 (fun k hk he => nQ k hk he)
  refine ⟨rfl, S.back, o15.cell rfl, ?_⟩
  refine (h15.ints (fun k hk => Or.inl (hEs k (by omega))) (fun k hk => hQs k (by omega)) hs15.bk (by omega) (D' := fun k => (E k ∨ S.stack.blk = some k) ∨ S.back.blk = some k) (fun k hk => Or.inl hk) (fun k hk => ⟨Or.inr hk, fun he => ?_⟩)).mono ?_
  · rcases he with he | he
    · exact nE k (hs.bkD k hk).1 he
    · exact (hs.stD k he).2.1 hk
  rintro e w18 ⟨rfl, h18, c18⟩
  have z18 := c18.size
  have o18 := o15.chg c18 (fun he => (hQ1 _ he).2 rfl)
  have hs18 := hs15.chg c18 (fun k hk he => nQ k hk he)
  refine ⟨rfl, S.mem, o18.cell rfl, ?_⟩
  refine (h18.ints (fun k hk => Or.inl (Or.inl (hEs k (by omega)))) (fun k hk => hQs k (by omega)) hs18.me (by omega) (D' := D') (fun k hk => ?_) (fun k hk => ⟨(hF k (hs.meD k hk)).1, fun he => ?_⟩)).mono ?_
  · rcases hk with (hk | hk) | hk
    · exact hD' k (hE1 k hk).1
    · exact (hF k (hs.stD k hk).1).1
    · exact (hF k (hs.bkD k hk).1).1
  · rcases he with (he | he) | he
    · exact nE k (hs.meD k hk) he
    · exact (hs.stD k he).2.2 hk
    · exact (hs.bkD k he).2 hk
  rintro e w21 ⟨rfl, h21, c21⟩
  exact ⟨rfl, rfl, h21.wid (fun k hk => hk) (fun k hk => (hQ1 k hk).1), (((c12.mono (fun _ _ h => h.elim)).trans c15 (U := P) (fun _ _ h => h) (fun k _ hk => (hQ1 k hk).1)).trans c18 (fun _ _ h => h) (fun k _ hk => (hQ1 k hk).1)).trans c21 (fun _ _ h => h) (fun k _ hk => (hQ1 k hk).1)⟩
end Go.Proofs.YtkjpmkopnkkbmaaGreatDoor
