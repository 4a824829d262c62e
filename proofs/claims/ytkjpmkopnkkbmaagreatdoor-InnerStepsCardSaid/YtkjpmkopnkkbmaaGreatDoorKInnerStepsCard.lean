/- The walk of InnerStepsCard. -/
import Derived.Test.YtkjpmkopnkkbmaaGreatDoorJ6
import Derived.Test.YtkjpmkopnkkbmaaGreatDoorJM
import Derived.Test.YtkjpmkopnkkbmaaGreatDoorJN
import Derived.Test.YtkjpmkopnkkbmaaGreatDoorJS
import Derived.Test.YtkjpmkopnkkbmaaGreatDoorJ4
import Derived.Test.YtkjpmkopnkkbmaaGreatDoorJJ
import Derived.Test.YtkjpmkopnkkbmaaGreatDoorJ2
import Derived.Test.YtkjpmkopnkkbmaaGreatDoorJR
import Derived.Test.YtkjpmkopnkkbmaaGreatDoorJ3
import Derived.Test.YtkjpmkopnkkbmaaGreatDoorJ7

/- A book of numbers alone: what is put in leaves the lists as they were. -/
set_option maxRecDepth 100000
namespace Go.Proofs.YtkjpmkopnkkbmaaGreatDoor
open Go.RowKit

def BkJ (D P : Nat → Prop) (w : World) (b : Nat) : Prop := ∃ (A Bs : Sl) (ls was : List Sl) (xss : List (List Int)), (Ob w b (bookI A Bs) T_hollowaybook_Book ∧ KO D intE T_sl_int w b A Bs ls was xss ∧ D b ∧ ls.length ≤ 250) ∧ ∀ k, k = b ∨ A.blk = some k ∨ Bs.blk = some k → P k
theorem BkJ.all {D P : Nat → Prop} {w : World} {b : Nat} (h : BkJ D P w b) : BkI D w b := by
  obtain ⟨A, Bs, ls, was, xss, h, _⟩ := h
  exact ⟨A, Bs, ls, was, xss, h⟩
theorem BkJ.apart {D P : Nat → Prop} {w : World} {b : Nat} (h : BkJ D P w b) : Calls Tryz.prog fn_hollowaybook_Book_Apart #[.pointer (some ⟨b, 0, none⟩)] w fun e w' => e = .returned (.bool true) ∧ Chg D w w' := h.all.apart
theorem BkJ.chg {D P S : Nat → Prop} {w w' : World} {b : Nat} (h : BkJ D P w b) (c : Chg S w w') (hS : ∀ k, D k → ¬ S k) : BkJ D P w' b := by
  obtain ⟨A, Bs, ls, was, xss, ⟨ho, hk, hb, hfew⟩, hP⟩ := h
  exact ⟨A, Bs, ls, was, xss, ⟨ho.chg c (hS _ hb), hk.chg c hS, hb, hfew⟩, hP⟩
theorem BkJ.no {D P : Nat → Prop} {w w' : World} {b : Nat} (h : BkJ D P w b) (c : Chg No w w') : BkJ D P w' b := h.chg c (fun _ _ h => h)
theorem BkJ.empty {D P : Nat → Prop} {w : World} {b : Nat} (h : Ob w b (bookI nilS nilS) T_hollowaybook_Book) (hb : D b) (hp : P b) : BkJ D P w b := ⟨nilS, nilS, [], [], [], ⟨h, KO.empty _ _ _ _ _, hb, Nat.zero_le _⟩, fun k e => by
  rcases e with e | e | e
  · rw [e]; exact hp
  all_goals cases e⟩
theorem BkJ.nar {D P : Nat → Prop} {w : World} {b : Nat} (h : BkJ D P w b) : BkJ (fun k => D k ∧ k < w.heap.size) (fun k => P k ∧ k < w.heap.size) w b := by
  obtain ⟨A, Bs, ls, was, xss, ⟨h1, h2, h3, h4⟩, hP⟩ := h
  refine ⟨A, Bs, ls, was, xss, ⟨h1, h2.nar, ⟨h3, h1.lt⟩, h4⟩, fun k e => ⟨hP k e, ?_⟩⟩
  rcases e with e | e | e
  · rw [e]; exact h1.lt
  · exact h2.oA.lt e
  · exact h2.oB.lt e
theorem BkJ.wid {D D' P P' : Nat → Prop} {w : World} {b : Nat} (h : BkJ D P w b) (hd : ∀ k, D k → D' k) (hp : ∀ k, P k → P' k) : BkJ D' P' w b := by
  obtain ⟨A, Bs, ls, was, xss, ⟨h1, h2, h3, h4⟩, hP⟩ := h
  exact ⟨A, Bs, ls, was, xss, ⟨h1, h2.wid hd, hd _ h3, h4⟩, fun k e => hp _ (hP k e)⟩
theorem BkJ.ints {D P : Nat → Prop} {w : World} {b : Nat} (h : BkJ D P w b) (hD : ∀ k, w.heap.size ≤ k → D k) (hp : ∀ k, w.heap.size ≤ k → P k) {l : Sl} {xs : List Int} (hx : Ox intE w l xs) (hxs : xs.length ≤ 10000000) {D' : Nat → Prop} (hD' : ∀ k, D k → D' k) (hl : ∀ k, l.blk = some k → D' k ∧ ¬ D k) :
    Calls Tryz.prog fn_hollowaybook_Book_Ints #[.pointer (some ⟨b, 0, none⟩), l.val] w fun e w' => e = .returned (.tuple #[]) ∧ BkJ D' P w' b ∧ Chg P w w' := by
  refine (hollowaybook_Book_Ints_lift (K := fun r w' => r = .tuple #[] ∧ BkJ D' P w' b ∧ Chg P w w') ?_).mono (by rintro e w' ⟨r, rfl, rfl, h⟩; exact ⟨rfl, h⟩)
  unfold hollowaybook_Book_Ints_sh
  obtain ⟨A1, B1, l1, s1, x1, ⟨ho, hk, hb, hfew⟩, hPP⟩ := h
  have hw : KO D' intE T_sl_int w b A1 B1 l1 s1 x1 := hk.wid hD'
  have hll : ∀ k, l.blk = some k → D' k ∧ k ≠ b ∧ A1.blk ≠ some k ∧ B1.blk ≠ some k ∧ ¬ blksOf l1 k ∧ ¬ blksOf s1 k := fun k hlk => by
    obtain ⟨h1, h2⟩ := hl k hlk
    exact ⟨h1, fun e => h2 (e ▸ hb), fun e => h2 (hk.dA k e).1, fun e => h2 (hk.dB k e).1, fun e => h2 (hk.dl k e).1, fun e => h2 (hk.dw k e).1⟩
  refine addx_core (K := fun r w' => r = .tuple #[] ∧ BkJ D' P w' b ∧ Chg P w w') (TB := T_hollowaybook_Book) (cs := bookI A1 B1) slIntOk ho rfl rfl hw.half (fun k e => hD' k (hD k e)) hx hxs hll (G := fun s' w10 w14 => Ow intE w14 s' xs) (fun w10 c10 => ?_)
    (fun _ => ⟨rfl, ⟨A1, B1, l1, s1, x1, ⟨ho, hw, hD' b hb, hfew⟩, hPP⟩, Chg.refl _ _⟩)
    (fun hlt A' B' c' w10 w14 w' o' k'' hG c10 c14 c1420 hbk hA10 hAn hB14 ch => ?_)
  · refine (copyInts_any l xs w10 (hx.chg c10 (fun k hk he => ?_)).rd hxs).mono ?_
    · rcases he with he | he
      · exact (hll k hk).2.1 he
      · exact (hll k hk).2.2.1 he
    · rintro e w' ⟨s', rfl, h1, h2, h3⟩
      exact ⟨s', rfl, h1, fun k hk => ⟨h3 k hk, h1.lt hk⟩, h2⟩
  have z10 := c10.size
  have k' : KO D' intE T_sl_int w' b A' B' (l1 ++ [l]) (s1 ++ [c']) (x1 ++ [xs]) := by
    refine ⟨k''.oA, k''.oB, k''.len, k''.lenB, k''.ox, fun i s ys hs hy => ?_, k''.dis, k''.dA, k''.dB, k''.dl, k''.dw⟩
    rcases app_at hs with ⟨h5, h6⟩ | ⟨h5, rfl⟩
    · rw [List.getElem?_append_left (by have := hk.lenB; omega)] at hy
      refine (hk.rd i s ys h6 hy).chg ch (fun m hm he => ?_)
      have h9 : blksOf s1 m := ⟨i, s, h6, hm⟩
      rcases he with he | he | he
      · exact (hk.dw m h9).2.1 he
      · exact (hk.dA m he).2.2.2.2 h9
      · exact (hk.dB m he).2.2.2 h9
    · rcases app_at hy with ⟨h6, _⟩ | ⟨_, rfl⟩
      · have := hk.lenB; omega
      · refine (hG.chg c1420 (fun m hm he => ?_)).rd
        have hm' := hbk m hm
        rcases he with he | he
        · have := ho.lt; omega
        · have := hk.oB.lt he; omega
  refine ⟨rfl, ⟨A', B', l1 ++ [l], s1 ++ [c'], x1 ++ [xs], ⟨o', k', hD' b hb, by rw [List.length_append]; show l1.length + 1 ≤ 250; omega⟩, fun k e => ?_⟩, ch.mono (fun k _ e => hPP k e)⟩
  rcases e with e | e | e
  · exact hPP k (Or.inl e)
  · rcases hAn k e with e | e
    · exact hPP k (Or.inr (Or.inl e))
    · exact hp k e
  · rcases hB14 k e with e | e
    · exact hPP k (Or.inr (Or.inr e))
    · exact hp k (by have := c14.size; omega)
/-- The lists of a machine that are its own, put into the book. -/
theorem BkJ.state {D P : Nat → Prop} {w : World} {b : Nat} (h : BkJ D P w b) (hD : ∀ k, w.heap.size ≤ k → D k) (hp : ∀ k, w.heap.size ≤ k → P k) {S : StC} {s : StV} {F : Nat → Prop} (hs : StX F w S s) (h1 : s.stack.length ≤ 1000000) (h2 : s.back.length ≤ 1000000) (h3 : s.mem.length ≤ 1000000) {D' : Nat → Prop} (hD' : ∀ k, D k → D' k) (hF : ∀ k, F k → D' k ∧ ¬ D k ∧ ¬ P k) :
    Calls Tryz.prog fn_hollowaybook_Book_State #[.pointer (some ⟨b, 0, none⟩), .agg (stC S).toArray] w fun e w' => e = .returned (.tuple #[]) ∧ BkJ D' P w' b ∧ Chg P w w' := by
  refine (hollowaybook_Book_State_lift (K := fun r w' => r = .tuple #[] ∧ BkJ D' P w' b ∧ Chg P w w') ?_).mono (by rintro e w' ⟨r, rfl, rfl, h⟩; exact ⟨rfl, h⟩)
  unfold hollowaybook_Book_State_sh
  intro b11 w12 hb11 hw12
  have c12 := al hw12
  have z12 : w12.heap.size = w.heap.size + 1 := by rw [hw12]; simp
  have o12 : Ob w12 b11 (stC S) T_api_State := by rw [hw12, hb11]; exact Ob.new w (stC S) T_api_State
  have lt12 := o12.lt
  obtain ⟨E, hE⟩ : ∃ E : Nat → Prop, E = fun k => D k ∧ k ≠ b11 := ⟨_, rfl⟩
  obtain ⟨Q, hQ⟩ : ∃ Q : Nat → Prop, Q = fun k => P k ∧ k ≠ b11 := ⟨_, rfl⟩
  have hE1 : ∀ k, E k → D k ∧ k ≠ b11 := fun k hk => by rw [hE] at hk; exact hk
  have hQ1 : ∀ k, Q k → P k ∧ k ≠ b11 := fun k hk => by rw [hQ] at hk; exact hk
  have h12 : BkJ E Q w12 b := by
    have g := h.nar
    rw [hE, hQ]
    exact (g.no c12).wid (fun k hk => ⟨hk.1, by have := hk.2; omega⟩) (fun k hk => ⟨hk.1, by have := hk.2; omega⟩)
  have hEs : ∀ k, w12.heap.size ≤ k → E k := fun k hk => by rw [hE]; exact ⟨hD k (by omega), by omega⟩
  have hQs : ∀ k, w12.heap.size ≤ k → Q k := fun k hk => by rw [hQ]; exact ⟨hp k (by omega), by omega⟩
  have nE : ∀ k, F k → ¬ E k := fun k hk he => (hF k hk).2.1 (hE1 k he).1
  have nQ : ∀ k, F k → ¬ Q k := fun k hk he => (hF k hk).2.2 (hQ1 k he).1
  have hs12 := hs.no c12
  refine ⟨S.stack, o12.cell rfl, ?_⟩
  refine (h12.ints hEs hQs hs12.st (by omega) (D' := fun k => E k ∨ S.stack.blk = some k) (fun k hk => Or.inl hk) (fun k hk => ⟨Or.inr hk, nE k (hs.stD k hk).1⟩)).mono ?_
  rintro e w15 ⟨rfl, h15, c15⟩
  have z15 := c15.size
  have o15 := o12.chg c15 (fun he => (hQ1 _ he).2 rfl)
  have hs15 := hs12.chg c15 (fun k hk he => nQ k hk he)
  refine ⟨rfl, S.back, o15.cell rfl, ?_⟩
  refine (h15.ints (fun k hk => Or.inl (hEs k (by omega))) (fun k hk => hQs k (by omega)) hs15.bk (by omega) (D' := fun k => (E k ∨ S.stack.blk = some k) ∨ S.back.blk = some k) (fun k hk => Or.inl hk) (fun k hk => ⟨Or.inr hk, fun he => ?_⟩)).mono ?_
  · rcases he with he | he
    · exact nE k (hs.bkD k hk).1 he
    · exact (hs.stD k he).2.1 hk
  rintro e w18 ⟨rfl, h18, c18⟩
  have z18 := c18.size
  have o18 := o15.chg c18 (fun he => (hQ1 _ he).2 rfl)
  have hs18 := hs15.chg c18 (fun k hk he => nQ k hk he)
  refine ⟨rfl, S.mem, o18.cell rfl, ?_⟩
  refine (h18.ints (fun k hk => Or.inl (Or.inl (hEs k (by omega)))) (fun k hk => hQs k (by omega)) hs18.me (by omega) (D' := D') (fun k hk => ?_) (fun k hk => ⟨(hF k (hs.meD k hk)).1, fun he => ?_⟩)).mono ?_
  · rcases hk with (hk | hk) | hk
    · exact hD' k (hE1 k hk).1
    · exact (hF k (hs.stD k hk).1).1
    · exact (hF k (hs.bkD k hk).1).1
  · rcases he with (he | he) | he
    · exact nE k (hs.meD k hk) he
    · exact (hs.stD k he).2.2 hk
    · exact (hs.bkD k he).2 hk
  rintro e w21 ⟨rfl, h21, c21⟩
  exact ⟨rfl, rfl, h21.wid (fun k hk => hk) (fun k hk => (hQ1 k hk).1), (((c12.mono (fun _ _ h => h.elim)).trans c15 (U := P) (fun _ _ h => h) (fun k _ hk => (hQ1 k hk).1)).trans c18 (fun _ _ h => h) (fun k _ hk => (hQ1 k hk).1)).trans c21 (fun _ _ h => h) (fun k _ hk => (hQ1 k hk).1)⟩
end Go.Proofs.YtkjpmkopnkkbmaaGreatDoor

/- Machines whose lists have room behind them, in which a mark stands. -/
set_option maxRecDepth 100000
namespace Go.Proofs.YtkjpmkopnkkbmaaGreatDoor
open Go.RowKit

structure StLent (D : Nat → Prop) (w : World) (S : StC) (s : StV) : Prop where
  nums : StNums S s
  st : Lent w S.stack s.stack
  bk : Lent w S.back s.back
  me : Lent w S.mem s.mem
  stD : ∀ k, S.stack.blk = some k → D k
  bkD : ∀ k, S.back.blk = some k → D k
  meD : ∀ k, S.mem.blk = some k → D k
theorem StLent.is {D : Nat → Prop} {w : World} {S : StC} {s : StV} (h : StLent D w S s) : StIs D w S s := ⟨h.nums, h.st.rd, h.bk.rd, h.me.rd, h.stD, h.bkD, h.meD⟩
theorem StLent.chg {D S' : Nat → Prop} {w w' : World} {S : StC} {s : StV} (h : StLent D w S s) (c : Chg S' w w') (hS : ∀ k, D k → ¬ S' k) : StLent D w' S s :=
  ⟨h.nums, h.st.chg c (fun k hk => hS _ (h.stD k hk)), h.bk.chg c (fun k hk => hS _ (h.bkD k hk)), h.me.chg c (fun k hk => hS _ (h.meD k hk)), h.stD, h.bkD, h.meD⟩
theorem StLent.no {D : Nat → Prop} {w w' : World} {S : StC} {s : StV} (h : StLent D w S s) (c : Chg No w w') : StLent D w' S s := h.chg c (fun _ _ h => h)
theorem lentState_any {D : Nat → Prop} {w : World} (S : StC) {s : StV} (h : StIs D w S s) (h1 : s.stack.length ≤ 1000000) (h2 : s.back.length ≤ 1000000) (h3 : s.mem.length ≤ 1000000) : Calls Tryz.prog fn_hollowaybook_LentState #[.agg (stC S).toArray] w fun e w' => ∃ S' : StC, e = .returned (.agg (stC S').toArray) ∧ StLent (fun k => w.heap.size ≤ k ∧ k < w'.heap.size) w' S' s ∧ Chg No w w' := by
  refine (hollowaybook_LentState_lift (K := fun r w' => ∃ S' : StC, r = .agg (stC S').toArray ∧ StLent (fun k => w.heap.size ≤ k ∧ k < w'.heap.size) w' S' s ∧ Chg No w w') ?_).mono (by rintro e w' ⟨r, rfl, S', rfl, h⟩; exact ⟨S', rfl, h⟩)
  unfold hollowaybook_LentState_sh
  intro b11 w12 hb11 hw12 b13 w14 hb13 hw14
  have c12 := al hw12
  have c14 := al hw14
  have z12 : w12.heap.size = w.heap.size + 1 := by rw [hw12]; simp
  have z14 : w14.heap.size = w12.heap.size + 1 := by rw [hw14]; simp
  have o11 : Ob w14 b11 (stC S) T_api_State := by
    have : Ob w12 b11 (stC S) T_api_State := by rw [hw12, hb11]; exact Ob.new w (stC S) T_api_State
    exact this.no c14
  have o13 : Ob w14 b13 (stC st0) T_api_State := by rw [hw14, hb13]; exact Ob.new w12 (stC st0) T_api_State
  intro w15 hw15
  have c15 := dw hw15
  have k15 := trN (trN c12 c14) c15
  have z15 := c15.size
  have p11 := o11.no c15
  have p13 := o13.no c15
  have hd : ∀ {j : Nat} {u : Value}, (stC S)[j]? = some u → held (fun w' => Chg No w15 w') ⟨b11, j, none⟩ u := fun h => Ob.held (fun w' c => p11.no c) h
  refine ⟨fun w' => Chg No w15 w', Chg.refl _ _, S.stack, hd rfl, S.back, hd rfl, S.mem, hd rfl, ?_⟩
  refine (lentInts_any (h.st.no k15) h1).mono ?_
  rintro e w21 ⟨s22, rfl, g22, c21, n22⟩
  have k21 := trN k15 c21
  have z21 := c21.size
  refine ⟨s22, rfl, c21, ?_⟩
  refine (lentInts_any (h.bk.no k21) h2).mono ?_
  rintro e w24 ⟨s25, rfl, g25, c24, n25⟩
  have k24 := trN k21 c24
  have z24 := c24.size
  refine ⟨s25, rfl, trN c21 c24, ?_⟩
  refine (lentInts_any (h.me.no k24) h3).mono ?_
  rintro e w27 ⟨s28, rfl, g28, c27, n28⟩
  have k27 := trN k24 c27
  have z27 := c27.size
  have c1527 := trN (trN c21 c24) c27
  refine ⟨s28, rfl, c1527, (p11.no c1527).wr (by simp [stC]), fun w29 hw29 => ?_⟩
  obtain ⟨q11, d29⟩ := (p11.no c1527).up (k := 2) (vs := [s22.val]) (cs' := stC { S with stack := s22 }) (by simp [stC]) rfl hw29
  refine ⟨q11.wr (by simp [stC]), fun w30 hw30 => ?_⟩
  obtain ⟨q11, d30⟩ := q11.up (k := 3) (vs := [s25.val]) (cs' := stC { S with stack := s22, back := s25 }) (by simp [stC]) rfl hw30
  refine ⟨q11.wr (by simp [stC]), fun w31 hw31 => ?_⟩
  obtain ⟨q11, d31⟩ := q11.up (k := 4) (vs := [s28.val]) (cs' := stC { S with stack := s22, back := s25, mem := s28 }) (by simp [stC]) rfl hw31
  have d2731 : Chg (fun j => j = b11) w27 w31 := (d29.trans d30 (fun _ _ h => h) (fun _ _ h => h)).trans d31 (fun _ _ h => h) (fun _ _ h => h)
  have r13 := (p13.no c1527).chg d2731 (fun he => by omega)
  refine ⟨_, _, _, _, _, _, _, _, _, _, q11.cell rfl, q11.cell rfl, q11.cell rfl, q11.cell rfl, q11.cell rfl, q11.cell rfl, q11.cell rfl, q11.cell rfl, q11.cell rfl, q11.cell rfl, r13.wr (by simp [stC]), fun w42 hw42 => ?_⟩
  obtain ⟨r13, d42⟩ := r13.up (k := 0) (vs := stC { S with stack := s22, back := s25, mem := s28 }) (cs' := stC { S with stack := s22, back := s25, mem := s28 }) (by simp [stC]) rfl hw42
  have d2742 : Chg (fun j => j = b11 ∨ j = b13) w27 w42 := d2731.trans d42 (fun _ _ h => Or.inl h) (fun _ _ h => Or.inr h)
  have z42 := d2742.size
  have b22 : ∀ k, s22.blk = some k → w15.heap.size ≤ k ∧ k < w27.heap.size := fun k hk => by have := n22 k hk; omega
  have b25 : ∀ k, s25.blk = some k → w15.heap.size ≤ k ∧ k < w27.heap.size := fun k hk => by have := n25 k hk; omega
  have b28 : ∀ k, s28.blk = some k → w15.heap.size ≤ k ∧ k < w27.heap.size := fun k hk => by have := n28 k hk; omega
  have m : StLent (fun k => w15.heap.size ≤ k ∧ k < w27.heap.size) w27 { S with stack := s22, back := s25, mem := s28 } s :=
    ⟨h.nums, (g22.no c24).no c27, g25.no c27, g28, b22, b25, b28⟩
  have m' := m.chg d2742 (fun k hk he => by omega)
  refine ⟨_, _, _, _, _, _, _, _, _, _, r13.cell rfl, r13.cell rfl, r13.cell rfl, r13.cell rfl, r13.cell rfl, r13.cell rfl, r13.cell rfl, r13.cell rfl, r13.cell rfl, r13.cell rfl, { S with stack := s22, back := s25, mem := s28 }, rfl, ?_, k27.trans d2742 (fun _ _ h => h) (fun k hk he => by omega)⟩
  exact ⟨m'.nums, m'.st, m'.bk, m'.me, fun k hk => by have := m'.stD k hk; omega, fun k hk => by have := m'.bkD k hk; omega, fun k hk => by have := m'.meD k hk; omega⟩
theorem staysState_any {D D' : Nat → Prop} {w : World} (m S : StC) {s : StV} (hm : StLent D w m s) (h : StIs D' w S s) : Calls Tryz.prog fn_hollowaybook_StaysState #[.agg (stC m).toArray, .agg (stC S).toArray] w fun e w' => e = .returned (.bool true) ∧ Chg No w w' := by
  refine (hollowaybook_StaysState_lift (K := fun r w' => r = .bool true ∧ Chg No w w') ?_).mono (by rintro e w' ⟨r, rfl, rfl, h⟩; exact ⟨rfl, h⟩)
  unfold hollowaybook_StaysState_sh
  intro b21 w22 hb21 hw22 b23 w24 hb23 hw24
  have c22 := al hw22
  have c24 := al hw24
  have o21 : Ob w24 b21 (stC m) T_api_State := by
    have : Ob w22 b21 (stC m) T_api_State := by rw [hw22, hb21]; exact Ob.new w (stC m) T_api_State
    exact this.no c24
  have o23 : Ob w24 b23 (stC S) T_api_State := by rw [hw24, hb23]; exact Ob.new w22 (stC S) T_api_State
  have k24 := trN c22 c24
  refine ⟨_, _, _, _, _, _, _, _, _, _, o21.cell rfl, o21.cell rfl, o21.cell rfl, o21.cell rfl, o21.cell rfl, o21.cell rfl, o21.cell rfl, o21.cell rfl, o21.cell rfl, o21.cell rfl, ?_⟩
  refine ⟨_, _, _, _, _, _, _, _, _, _, o23.cell rfl, o23.cell rfl, o23.cell rfl, o23.cell rfl, o23.cell rfl, o23.cell rfl, o23.cell rfl, o23.cell rfl, o23.cell rfl, o23.cell rfl, (sameState_any m S (hm.no k24).is (h.no k24)).mono ?_⟩
  rintro e w46 ⟨rfl, c46⟩
  have k46 := trN k24 c46
  refine ⟨_, rfl, brB_t ⟨m.stack, (o21.no c46).cell rfl, S.stack, (o23.no c46).cell rfl, (staysInts_any (hm.no k46).st (h.no k46).st).mono ?_⟩⟩
  rintro e w51 ⟨rfl, c51⟩
  have k51 := trN k46 c51
  have d51 := trN c46 c51
  refine ⟨_, rfl, brB_t ⟨m.back, (o21.no d51).cell rfl, S.back, (o23.no d51).cell rfl, (staysInts_any (hm.no k51).bk (h.no k51).bk).mono ?_⟩⟩
  rintro e w56 ⟨rfl, c56⟩
  have k56 := trN k51 c56
  have d56 := trN d51 c56
  refine ⟨_, rfl, brB_t ⟨m.mem, (o21.no d56).cell rfl, S.mem, (o23.no d56).cell rfl, (staysInts_any (hm.no k56).me (h.no k56).me).mono ?_⟩⟩
  rintro e w61 ⟨rfl, c61⟩
  exact ⟨_, rfl, rfl, trN k56 c61⟩
end Go.Proofs.YtkjpmkopnkkbmaaGreatDoor

/- inner.Right, inner.Fault; states of their own. -/
set_option maxRecDepth 100000
namespace Go.Proofs.YtkjpmkopnkkbmaaGreatDoor
open Go.RowKit

theorem StOw.x {D : Nat → Prop} {w : World} {S : StC} {s : StV} (h : StOw D w S s) : StX D w S s :=
  ⟨h.nums, h.st.ox, h.bk.ox, h.me.ox, fun k hk => ⟨h.stD k hk, fun he => (h.bkD k he).2 hk, fun he => (h.meD k he).2.1 hk⟩, fun k hk => ⟨(h.bkD k hk).1, fun he => (h.meD k he).2.2 hk⟩, fun k hk => (h.meD k hk).1⟩
theorem iright_any {D : Nat → Prop} {w : World} (S : StC) {s : StV} (h : StIs D w S s) : Calls Tryz.prog fn_inner_Right #[.agg (stC S).toArray] w fun e w' => ∃ b : Bool, e = .returned (.bool b) ∧ (b = true ↔ RightS s) ∧ Chg No w w' := by
  refine (inner_Right_lift (K := fun r w' => ∃ b : Bool, r = .bool b ∧ (b = true ↔ RightS s) ∧ Chg No w w') ?_).mono (by rintro e w' ⟨r, rfl, b, rfl, h⟩; exact ⟨b, rfl, h⟩)
  unfold inner_Right_sh
  refine inSt S fun b11 w12 hb11 z12 o c => ?_
  obtain ⟨m1, m2, m3, m4, m5, m6, m7⟩ := h.nums
  have l1 := h.st.len
  have l2 := h.bk.len
  have l3 := h.me.len
  have no : ∀ {w' : World}, Chg No w w' → ¬ RightS s → ∃ b : Bool, Value.bool false = .bool b ∧ (b = true ↔ RightS s) ∧ Chg No w w' := fun c h => ⟨false, rfl, ⟨(fun h => by cases h), fun h' => absurd h' h⟩, c⟩
  refine ⟨fun b w' => b = decide (s.stack.length ≤ 48 ∧ s.back.length ≤ 48 ∧ s.mem.length ≤ 3000) ∧ w' = w12, ?_, S.stack, o.cell rfl, brB_of (fun h1 => ⟨S.back, o.cell rfl, brB_of (fun h2 => ⟨S.mem, o.cell rfl, ?_, rfl⟩) (fun h2 => ⟨?_, rfl⟩)⟩) (fun h1 => ⟨?_, rfl⟩)⟩
  rotate_left
  · have h1 := of_decide_eq_true h1
    have h2 := of_decide_eq_true h2
    rw [Bool.eq_iff_iff, decide_eq_true_iff, decide_eq_true_iff]; omega
  · have h2 := of_decide_eq_false h2
    exact (decide_eq_false (by omega)).symm
  · have h1 := of_decide_eq_false h1
    exact (decide_eq_false (by omega)).symm
  rintro b w16 ⟨rfl, rfl⟩
  refine brB_of (fun hl => ?_) (fun hl => no c fun hh => of_decide_eq_false hl ⟨hh.st, hh.bk, hh.me⟩)
  obtain ⟨h1, h2, h3⟩ := of_decide_eq_true hl
  refine ⟨S.out, o.cell rfl, brB_of (fun h4 => ?_) (fun h4 => no c fun hh => ?_)⟩
  rotate_left
  · have := of_decide_eq_false h4; have := hh.out; rw [m3] at *; omega
  have h4 := of_decide_eq_true h4
  refine ⟨S.read, o.cell rfl, brB_of (fun h5 => ?_) (fun h5 => no c fun hh => ?_)⟩
  rotate_left
  · have := of_decide_eq_false h5; have := hh.rd; omega
  have h5 := of_decide_eq_true h5
  refine ⟨S.read, o.cell rfl, S.inp, o.cell rfl, brB_of (fun h6 => ?_) (fun h6 => no c fun hh => ?_)⟩
  rotate_left
  · have := of_decide_eq_false h6; have := hh.rd; rw [m4] at *; omega
  have h6 := of_decide_eq_true h6
  refine ⟨S.status, o.cell rfl, brB_of (fun h7 => ?_) (fun h7 => no c fun hh => ?_)⟩
  rotate_left
  · have := of_decide_eq_false h7; have := hh.status; omega
  have h7 := of_decide_eq_true h7
  refine ⟨S.status, o.cell rfl, _, rfl, ?_, c⟩
  rw [decide_eq_true_iff]
  rw [m3] at h4
  rw [m4] at h6
  exact ⟨fun h8 => ⟨h1, h2, h3, by omega, by omega, by omega⟩, fun hh => by have := hh.status; omega⟩
end Go.Proofs.YtkjpmkopnkkbmaaGreatDoor

/- Recordings, in plain words. No program in sight. -/
set_option maxRecDepth 100000
namespace Go.Proofs.YtkjpmkopnkkbmaaGreatDoor
open Go.RowKit

/-- A step as it is recorded. -/
structure SnV where
  ip : Int
  cell : Int
  arg : Int
  next : Int
structure RcV where
  start : Int
  fin : Int
  loop : Bool
  steps : List SnV
/-! ### With more steps that may be done -/
/-! ### Which recordings may be -/
end Go.Proofs.YtkjpmkopnkkbmaaGreatDoor

/- Functions of Record, read without their frames; that each is enough. Printed by a program of mine (wip/lift/gen.py). -/
set_option maxRecDepth 100000
namespace Go.Proofs.YtkjpmkopnkkbmaaGreatDoor
open Go.RowKit

-- holloway/record.Loop
-- holloway/record.Cells
-- holloway/record.Right
-- holloway/record.After
-- holloway/record.next
-- holloway/record.arg
-- holloway/record.single
-- holloway/record.load
-- holloway/record.plain
-- holloway/record.place
end Go.Proofs.YtkjpmkopnkkbmaaGreatDoor

/- The package record: its small functions, a step as it is recorded. -/
set_option maxRecDepth 100000
namespace Go.Proofs.YtkjpmkopnkkbmaaGreatDoor
open Go.RowKit

def seC (x : SnV) : List Value := [.int .i64 x.ip, .int .i64 x.cell, .int .i64 x.arg, .int .i64 x.next]
def seE : Enc SnV := ⟨T_api_Seen, 4, 32, seC, by intro x; rfl, by intro x u hu; simp [seC] at hu; rcases hu with rfl | rfl | rfl | rfl <;> rfl, by decide⟩
theorem hdSt {Q : World → Prop} {b : Nat} {S : StC} {T : TypeId} {G : Int → Int → Sl → Sl → Sl → ByteArray → ByteArray → Int → Int → Int → Prop} (h : ∀ w', Q w' → Ob w' b (stC S) T) (g : G S.ip S.handler S.stack S.back S.mem S.out S.inp S.read S.status S.code) :
    ∃ n1 : Int, ∃ n2 : Int, ∃ s3 : Sl, ∃ s4 : Sl, ∃ s5 : Sl, ∃ t6 : ByteArray, ∃ t7 : ByteArray, ∃ n8 : Int, ∃ n9 : Int, ∃ n10 : Int, held Q ⟨b, 0, none⟩ (.int .i64 n1) ∧ held Q ⟨b, 1, none⟩ (.int .i64 n2) ∧ held Q ⟨b, 2, none⟩ (s3.val) ∧ held Q ⟨b, 3, none⟩ (s4.val) ∧ held Q ⟨b, 4, none⟩ (s5.val) ∧ held Q ⟨b, 5, none⟩ (.string t6) ∧ held Q ⟨b, 6, none⟩ (.string t7) ∧ held Q ⟨b, 7, none⟩ (.int .i64 n8) ∧ held Q ⟨b, 8, none⟩ (.int .i64 n9) ∧ held Q ⟨b, 9, none⟩ (.int .i64 n10) ∧ G n1 n2 s3 s4 s5 t6 t7 n8 n9 n10 :=
  ⟨_, _, _, _, _, _, _, _, _, _, Ob.held h rfl, Ob.held h rfl, Ob.held h rfl, Ob.held h rfl, Ob.held h rfl, Ob.held h rfl, Ob.held h rfl, Ob.held h rfl, Ob.held h rfl, Ob.held h rfl, g⟩
end Go.Proofs.YtkjpmkopnkkbmaaGreatDoor

/- The package record: Loop. -/
set_option maxRecDepth 100000
namespace Go.Proofs.YtkjpmkopnkkbmaaGreatDoor
open Go.RowKit

structure RcC where
  start : Int
  fin : Int
  loop : Bool
  steps : Sl
/-- A recording in memory; its steps in blocks of D. -/
structure RcOw (D : Nat → Prop) (w : World) (R : RcC) (r : RcV) : Prop where
  nums : R.start = r.start ∧ R.fin = r.fin ∧ R.loop = r.loop
  steps : Ox seE w R.steps r.steps
  stD : ∀ k, R.steps.blk = some k → D k
theorem RcOw.chg {D X : Nat → Prop} {w w' : World} {R : RcC} {r : RcV} (h : RcOw D w R r) (c : Chg X w w') (hX : ∀ k, D k → ¬ X k) : RcOw D w' R r := ⟨h.nums, h.steps.chg c (fun k hk => hX k (h.stD k hk)), h.stD⟩
theorem RcOw.no {D : Nat → Prop} {w w' : World} {R : RcC} {r : RcV} (h : RcOw D w R r) (c : Chg No w w') : RcOw D w' R r := h.chg c (fun _ _ h => h)
end Go.Proofs.YtkjpmkopnkkbmaaGreatDoor

/- Lists with room behind them, in which a mark stands, of any kind; blocks told apart by their types. -/
set_option maxRecDepth 100000
namespace Go.Proofs.YtkjpmkopnkkbmaaGreatDoor
open Go.RowKit

/-- s reads as these, and behind them stands the mark, in a block of its own. -/
def LentE {α : Type} (E : Enc α) (x : α) (w : World) (s : Sl) (xs : List α) : Prop := s.len = xs.length ∧ Ow E w ⟨s.ptr, xs.length + 1, s.cap⟩ (xs ++ [x])
theorem addz0 (q : Addr) : q.add 0 = q := by unfold Addr.add; simp
section
variable {α : Type} {E : Enc α} {x : α} {w w' : World} {s : Sl} {xs : List α}
theorem LentE.rd (h : LentE E x w s xs) : Rd E w s xs := by
  have ht := (h.2.take (n := xs.length) (by simp)).rd
  rw [List.take_left] at ht
  have : s = ⟨s.ptr, xs.length, s.cap⟩ := by rw [← h.1]
  rw [this]; exact ht
theorem LentE.chg {S : Nat → Prop} (h : LentE E x w s xs) (c : Chg S w w') (hS : ∀ k, s.blk = some k → ¬ S k) : LentE E x w' s xs := by
  refine ⟨h.1, h.2.chg c (fun k hk => hS k ?_)⟩
  rw [← hk]; unfold Sl.blk Sl.val; cases s.ptr <;> rfl
theorem LentE.no (h : LentE E x w s xs) (c : Chg No w w') : LentE E x w' s xs := h.chg c (fun _ _ h => h)
/-- The mark behind it. -/
theorem LentE.mark (h : LentE E x w s xs) {n : Int} {r : List Value} (hx : E.e x = .int .i64 n :: r) {G : Prop} (g : G) :
    0 ≤ (wr ((s.len : Int) + (1 : Int))) ∧ (wr ((s.len : Int) + (1 : Int))) ≤ (s.cap : Int) ∧ ∀ s6 : Sl, s6 = Sl.sub s.ptr s.cap 0 (Int.toNat (wr ((s.len : Int) + (1 : Int)))) E.sz →
    ∃ a7 : Addr, s6.ptr = some a7 ∧ 0 ≤ (s.len : Int) ∧ (s.len : Int) < (s6.len : Int) ∧ ∃ n8 : Int, w.cell? (Addr.add a7 (Int.toNat (s.len : Int) * E.sz)) = some (.int .i64 n8) ∧ (n8 = n ∧ G) := by
  have hc := h.2.rd.capL
  rw [List.length_append] at hc
  have h1 : [x].length = 1 := rfl
  have hc1 : xs.length + 1 ≤ s.cap := by have := hc.1; omega
  have hc2 : s.cap ≤ 9223372036854775807 := hc.2
  have hml := h.1
  rw [wr_of (by omega) (by omega)]
  refine ⟨by omega, by omega, ?_⟩
  intro s6 hs6
  rw [sub0] at hs6
  have e6 : s6 = ⟨s.ptr, xs.length + 1, s.cap⟩ := by rw [hs6]; congr 1; omega
  have h6 : Rd E w s6 (xs ++ [x]) := by rw [e6]; exact h.2.rd
  refine h6.ix (i := (s.len : Int)) (x := x) (by omega) (by rw [Int.toNat_natCast, hml, List.getElem?_append_right (Nat.le_refl _)]; simp) fun a ha hcell => ?_
  have q1 := hcell 0 (.int .i64 n) (by rw [hx]; rfl)
  rw [addz0] at q1
  exact ⟨n, q1, rfl, g⟩
end
/-- The block holds cells of this type. -/
def TyB (T : TypeId) (w : World) (k : Nat) : Prop := ∃ arr z, w.heap[k]? = some (.cells arr T z)
theorem Ow.ty {α : Type} {E : Enc α} {w : World} {s : Sl} {xs : List α} (h : Ow E w s xs) {k : Nat} (hk : s.blk = some k) : TyB E.t w k := by
  have h' : Own w E.t E.sz s.val xs.length (fl E xs) := h
  rcases h'.2 with ⟨hv, _⟩ | ⟨g, cap, cur, hv, _, hg, _⟩
  · exfalso
    have : s.val.ownBlock = some k := hk
    rw [hv] at this; cases this
  · have : s.val.ownBlock = some k := hk
    rw [hv] at this
    have e : g = k := by injection this
    subst e
    exact ⟨_, _, hg⟩
theorem TyB.chg {T : TypeId} {S : Nat → Prop} {w w' : World} {k : Nat} (h : TyB T w k) (c : Chg S w w') (hS : ¬ S k) : TyB T w' k := by
  obtain ⟨arr, z, h⟩ := h
  exact ⟨arr, z, c.row h hS⟩
theorem TyB.ne {T U : TypeId} {w : World} {k b : Nat} {cs : List Value} (h : TyB T w k) (o : Ob w b cs U) (hTU : T ≠ U) : k ≠ b := fun e => by
  obtain ⟨arr, z, h⟩ := h
  subst e
  have := h.symm.trans o
  simp at this
  exact hTU this.2.1
end Go.Proofs.YtkjpmkopnkkbmaaGreatDoor

/- Functions of Hollowaylaw13, read without their frames; that each is enough. Printed by a program of mine (wip/lift/gen.py). -/
set_option maxRecDepth 100000
namespace Go.Proofs.YtkjpmkopnkkbmaaGreatDoor
open Go.RowKit

-- holloway/hollowaylaw13.RecordStays
-- holloway/hollowaylaw13.RecordCells
-- holloway/hollowaylaw13.RecordTells
-- holloway/hollowaylaw13.alive
-- holloway/hollowaylaw13.same
end Go.Proofs.YtkjpmkopnkkbmaaGreatDoor

/- Lists of recorded steps, held against each other; which recordings may be; the first call of chapter 13's statements; RecordMost. -/
set_option maxRecDepth 100000
namespace Go.Proofs.YtkjpmkopnkkbmaaGreatDoor
open Go.RowKit

/-! ### Which recordings may be -/
end Go.Proofs.YtkjpmkopnkkbmaaGreatDoor

/- The first call of chapter 13's statements; RecordMost: the walk. -/
set_option maxRecDepth 100000
namespace Go.Proofs.YtkjpmkopnkkbmaaGreatDoor
open Go.RowKit

end Go.Proofs.YtkjpmkopnkkbmaaGreatDoor

/- The document's own machine in memory: the state that was, the answer's, and the working one; what is pushed, cut and set. -/
set_option maxRecDepth 100000
namespace Go.Proofs.YtkjpmkopnkkbmaaGreatDoor
open Go.RowKit

structure RM (w0 w : World) (a z m : Nat) (S0 S : StC) (s : StV) : Prop where
  c : Chg No w0 w
  za : w0.heap.size ≤ a
  zz : w0.heap.size ≤ z
  zm : w0.heap.size ≤ m
  naz : a ≠ z
  nam : a ≠ m
  nzm : z ≠ m
  oa : Ob w a (stC S0) T_api_State
  oz : Ob w z (stC st0) T_api_State
  om : Ob w m (stC S) T_api_State
  x : StX (fun k => w0.heap.size ≤ k ∧ k ≠ a ∧ k ≠ z ∧ k ≠ m) w S s
section
variable {w0 w : World} {a z m : Nat} {S0 S : StC} {s : StV}
theorem RM.up {X : Nat → Prop} {w' : World} {S' : StC} {s' : StV} (h : RM w0 w a z m S0 S s) (c : Chg X w w') (hX : ∀ k, X k → w0.heap.size ≤ k ∧ k ≠ a ∧ k ≠ z) (om : Ob w' m (stC S') T_api_State)
    (x : StX (fun k => w0.heap.size ≤ k ∧ k ≠ a ∧ k ≠ z ∧ k ≠ m) w' S' s') : RM w0 w' a z m S0 S' s' :=
  ⟨h.c.trans c (fun _ _ h => h) (fun k hk hx => by have := (hX k hx).1; omega), h.za, h.zz, h.zm, h.naz, h.nam, h.nzm, h.oa.chg c (fun hx => (hX a hx).2.1 rfl), h.oz.chg c (fun hx => (hX z hx).2.2 rfl), om, x⟩
theorem RM.no {w' : World} (h : RM w0 w a z m S0 S s) (c : Chg No w w') : RM w0 w' a z m S0 S s := h.up c (fun _ h => h.elim) (h.om.no c) (h.x.no c)
/-- Cells of the working state written; its lists are as they were, or cut. -/
theorem RM.set (h : RM w0 w a z m S0 S s) (S' : StC) (s' : StV) {k n : Nat} {vs : List Value} {G : World → Prop} (hl : k + n ≤ 10) (hn : n = vs.length) (hc : wrL (stC S) k vs = stC S') (nums : StNums S' s')
    (e1 : ∃ n, n ≤ s.stack.length ∧ S'.stack = ⟨S.stack.ptr, n, S.stack.cap⟩ ∧ s'.stack = s.stack.take n) (e2 : ∃ n, n ≤ s.back.length ∧ S'.back = ⟨S.back.ptr, n, S.back.cap⟩ ∧ s'.back = s.back.take n) (e3 : S'.mem = S.mem ∧ s'.mem = s.mem)
    (g : ∀ w', RM w0 w' a z m S0 S' s' → G w') : wrOk w ⟨m, k, none⟩ n ∧ ∀ w' : World, w' = stW w ⟨m, k, none⟩ 0 vs → G w' := by
  refine setSt S' h.om hl hn hc fun w' o' c' => g w' ?_
  obtain ⟨n1, l1, f1, g1⟩ := e1
  obtain ⟨n2, l2, f2, g2⟩ := e2
  obtain ⟨f3, g3⟩ := e3
  have hb1 : S'.stack.blk = S.stack.blk := by rw [f1]; unfold Sl.blk Sl.val; cases S.stack.ptr <;> rfl
  have hb2 : S'.back.blk = S.back.blk := by rw [f2]; unfold Sl.blk Sl.val; cases S.back.ptr <;> rfl
  have xs := h.x.chg c' (fun k hk he => hk.2.2.2 he)
  refine h.up c' (fun k hk => by have hk : k = m := hk; rw [hk]; exact ⟨h.zm, h.nam.symm, h.nzm.symm⟩) o' ⟨nums, ?_, ?_, ?_, ?_, ?_, ?_⟩
  · rw [f1, g1]; exact xs.st.take l1
  · rw [f2, g2]; exact xs.bk.take l2
  · rw [f3, g3]; exact xs.me
  · rw [hb1, hb2, f3]; exact xs.stD
  · rw [hb2, f3]; exact xs.bkD
  · rw [f3]; exact xs.meD
theorem allS (h : RM w0 w a z m S0 S s) : ∃ n, n ≤ s.stack.length ∧ S.stack = ⟨S.stack.ptr, n, S.stack.cap⟩ ∧ s.stack = s.stack.take n := ⟨s.stack.length, Nat.le_refl _, by rw [← h.x.st.rd.len], by rw [List.take_length]⟩
theorem allB (h : RM w0 w a z m S0 S s) : ∃ n, n ≤ s.back.length ∧ S.back = ⟨S.back.ptr, n, S.back.cap⟩ ∧ s.back = s.back.take n := ⟨s.back.length, Nat.le_refl _, by rw [← h.x.bk.rd.len], by rw [List.take_length]⟩
/-- A list literal, appended to a part of the stack. -/
theorem RM.push (h : RM w0 w a z m S0 S s) {n : Nat} (hn : n ≤ s.stack.length) (ys : List Int) (cs : List Value) (hcs : cs = fl intE ys) (hne : ys ≠ []) (hl : ys.length ≤ 100) (hs : s.stack.length ≤ 10000) {G : World → Prop}
    (k : ∀ w2 S', S'.back = S.back → S'.mem = S.mem → RM w0 w2 a z m S0 S' { s with stack := s.stack.take n ++ ys } → G w2) {q : Nat} (hlen : q = ys.length) {l : Sl} (hq : l = ⟨S.stack.ptr, n, S.stack.cap⟩) :
    ∀ (b : Nat) (w1 : World), b = w.heap.size → w1 = World.alloc w (.cells cs.toArray T_int) → ∃ s4 : Sl, ∃ w5 : World, (Builtin.append_ #[T_sl_int, T_sl_int] T_sl_int #[l.val, .slice (some ⟨b, 0, none⟩) q q]).run Tryz.prog w1 = .ok (s4.val) w5 ∧
      wrOk w5 ⟨m, 2, none⟩ 1 ∧ ∀ w6 : World, w6 = stW w5 ⟨m, 2, none⟩ 0 [s4.val] → G w6 := by
  intro b w1 hb hw
  subst hlen hq
  obtain ⟨g, c1⟩ := litL ys cs hcs hb hw hl
  have h1 := h.no c1
  have hbk : (⟨S.stack.ptr, n, S.stack.cap⟩ : Sl).blk = S.stack.blk := by unfold Sl.blk Sl.val; cases S.stack.ptr <;> rfl
  have lt : (s.stack.take n).length ≤ 10000 := by rw [List.length_take]; omega
  refine appx_ok intOk rfl rfl (h1.x.st.take hn) g.rd rfl (fun _ => hne) (by show (_ + _) * 8 ≤ _; omega) (by unfold maxLen; omega) ?_
  intro s4 w5 g4 c5 b4 _
  rw [hbk] at b4 c5
  have hmst : ¬ S.stack.blk = some m := fun he => (h1.x.stD m he).1.2.2.2 rfl
  have ltm := h1.om.lt
  have zaa := h1.oa.lt
  have zzz := h1.oz.lt
  have o5 := h1.om.chg c5 hmst
  have ds4 : ∀ k, s4.blk = some k → (w0.heap.size ≤ k ∧ k ≠ a ∧ k ≠ z ∧ k ≠ m) ∧ S.back.blk ≠ some k ∧ S.mem.blk ≠ some k := fun k hk => by
    rcases b4 with hh | hh
    · exact h1.x.stD k (hh ▸ hk)
    · have := hh k hk
      have := h1.c.size
      exact ⟨⟨by omega, by omega, by omega, by omega⟩, fun he => by have := h1.x.bk.lt k he; omega, fun he => by have := h1.x.me.lt k he; omega⟩
  have h5 : RM w0 w5 a z m S0 S { s with stack := s.stack } ∨ True := Or.inr trivial
  clear h5
  refine setSt { S with stack := s4 } o5 (by decide) rfl rfl fun w6 o6 c6 => k w6 { S with stack := s4 } rfl rfl ?_
  have c56 : Chg (fun j => S.stack.blk = some j ∨ j = m) w1 w6 := c5.trans c6 (fun _ _ h => Or.inl h) (fun _ _ h => Or.inr h)
  refine h1.up c56 (fun j hj => ?_) o6 ⟨h.x.nums, g4.chg c6 (fun k hk he => (ds4 k hk).1.2.2.2 he), (h1.x.bk.chg c56 (fun k hk he => ?_)), (h1.x.me.chg c56 (fun k hk he => ?_)), ds4, h1.x.bkD, h1.x.meD⟩
  · rcases hj with hj | hj
    · exact ⟨(h1.x.stD j hj).1.1, (h1.x.stD j hj).1.2.1, (h1.x.stD j hj).1.2.2.1⟩
    · rw [hj]; exact ⟨h.zm, h.nam.symm, h.nzm.symm⟩
  · rcases he with he | he
    · exact (h1.x.stD k he).2.1 hk
    · exact (h1.x.bkD k hk).1.2.2.2 he
  · rcases he with he | he
    · exact (h1.x.stD k he).2.2 hk
    · exact (h1.x.meD k hk).2.2.2 he
/-- A list literal, appended to the return stack. -/
theorem RM.back (h : RM w0 w a z m S0 S s) (ys : List Int) (cs : List Value) (hcs : cs = fl intE ys) (hne : ys ≠ []) (hl : ys.length ≤ 100) (hs : s.back.length ≤ 10000) {G : World → Prop}
    (k : ∀ w2 S', S'.stack = S.stack → S'.mem = S.mem → RM w0 w2 a z m S0 S' { s with back := s.back ++ ys } → G w2) {q : Nat} (hlen : q = ys.length) :
    ∀ (b : Nat) (w1 : World), b = w.heap.size → w1 = World.alloc w (.cells cs.toArray T_int) → ∃ s4 : Sl, ∃ w5 : World, (Builtin.append_ #[T_sl_int, T_sl_int] T_sl_int #[S.back.val, .slice (some ⟨b, 0, none⟩) q q]).run Tryz.prog w1 = .ok (s4.val) w5 ∧
      wrOk w5 ⟨m, 3, none⟩ 1 ∧ ∀ w6 : World, w6 = stW w5 ⟨m, 3, none⟩ 0 [s4.val] → G w6 := by
  intro b w1 hb hw
  subst hlen
  obtain ⟨g, c1⟩ := litL ys cs hcs hb hw hl
  have h1 := h.no c1
  refine appx_ok intOk rfl rfl h1.x.bk g.rd rfl (fun _ => hne) (by show (_ + _) * 8 ≤ _; omega) (by unfold maxLen; omega) ?_
  intro s4 w5 g4 c5 b4 _
  have hmst : ¬ S.back.blk = some m := fun he => (h1.x.bkD m he).1.2.2.2 rfl
  have ltm := h1.om.lt
  have zaa := h1.oa.lt
  have zzz := h1.oz.lt
  have o5 := h1.om.chg c5 hmst
  have ds4 : ∀ k, s4.blk = some k → (w0.heap.size ≤ k ∧ k ≠ a ∧ k ≠ z ∧ k ≠ m) ∧ S.stack.blk ≠ some k ∧ S.mem.blk ≠ some k := fun k hk => by
    rcases b4 with hh | hh
    · have hk' := hh ▸ hk
      exact ⟨(h1.x.bkD k hk').1, fun he => (h1.x.stD k he).2.1 hk', (h1.x.bkD k hk').2⟩
    · have := hh k hk
      have := h1.c.size
      exact ⟨⟨by omega, by omega, by omega, by omega⟩, fun he => by have := h1.x.st.lt k he; omega, fun he => by have := h1.x.me.lt k he; omega⟩
  refine setSt { S with back := s4 } o5 (by decide) rfl rfl fun w6 o6 c6 => k w6 { S with back := s4 } rfl rfl ?_
  have c56 : Chg (fun j => S.back.blk = some j ∨ j = m) w1 w6 := c5.trans c6 (fun _ _ h => Or.inl h) (fun _ _ h => Or.inr h)
  refine h1.up c56 (fun j hj => ?_) o6 ⟨h.x.nums, (h1.x.st.chg c56 (fun k hk he => ?_)), g4.chg c6 (fun k hk he => (ds4 k hk).1.2.2.2 he), (h1.x.me.chg c56 (fun k hk he => ?_)), fun k hk => ⟨(h1.x.stD k hk).1, fun he => (ds4 k he).2.1 hk, (h1.x.stD k hk).2.2⟩, fun k hk => ⟨(ds4 k hk).1, (ds4 k hk).2.2⟩, h1.x.meD⟩
  · rcases hj with hj | hj
    · exact ⟨(h1.x.bkD j hj).1.1, (h1.x.bkD j hj).1.2.1, (h1.x.bkD j hj).1.2.2.1⟩
    · rw [hj]; exact ⟨h.zm, h.nam.symm, h.nzm.symm⟩
  · rcases he with he | he
    · exact (h1.x.stD k hk).2.1 he
    · exact (h1.x.stD k hk).1.2.2.2 he
  · rcases he with he | he
    · exact (h1.x.bkD k he).2 hk
    · exact (h1.x.meD k hk).2.2.2 he
/-- A cell of a list of the working state, read and written. -/
theorem RM.setMem (h : RM w0 w a z m S0 S s) {i v : Int} (h0 : 0 ≤ i) (h1 : i < s.mem.length) {G : World → Prop} (g : ∀ w', RM w0 w' a z m S0 S { s with mem := s.mem.set i.toNat v } → G w') :
    ∃ q : Addr, S.mem.ptr = some q ∧ 0 ≤ i ∧ i < (S.mem.len : Int) ∧ wrOk w (Addr.add q (Int.toNat i * 1)) 1 ∧ ∀ w' : World, w' = stW w (Addr.add q (Int.toNat i * 1)) 0 [.int .i64 v] → G w' := by
  refine setOx h.x.me h0 h1 fun w' o' c' => g w' ?_
  refine h.up c' (fun k hk => ⟨(h.x.meD k hk).1, (h.x.meD k hk).2.1, (h.x.meD k hk).2.2.1⟩) (h.om.chg c' (fun he => (h.x.meD m he).2.2.2 rfl)) ⟨h.x.nums, h.x.st.chg c' (fun k hk he => (h.x.stD k hk).2.2 he), h.x.bk.chg c' (fun k hk he => (h.x.bkD k hk).2 he), o', h.x.stD, h.x.bkD, h.x.meD⟩
theorem RM.setBack (h : RM w0 w a z m S0 S s) {i v : Int} (h0 : 0 ≤ i) (h1 : i < s.back.length) {G : World → Prop} (g : ∀ w', RM w0 w' a z m S0 S { s with back := s.back.set i.toNat v } → G w') :
    ∃ q : Addr, S.back.ptr = some q ∧ 0 ≤ i ∧ i < (S.back.len : Int) ∧ wrOk w (Addr.add q (Int.toNat i * 1)) 1 ∧ ∀ w' : World, w' = stW w (Addr.add q (Int.toNat i * 1)) 0 [.int .i64 v] → G w' := by
  refine setOx h.x.bk h0 h1 fun w' o' c' => g w' ?_
  refine h.up c' (fun k hk => ⟨(h.x.bkD k hk).1.1, (h.x.bkD k hk).1.2.1, (h.x.bkD k hk).1.2.2.1⟩) (h.om.chg c' (fun he => (h.x.bkD m he).1.2.2.2 rfl)) ⟨h.x.nums, h.x.st.chg c' (fun k hk he => (h.x.stD k hk).2.1 he), o', h.x.me.chg c' (fun k hk he => (h.x.bkD k he).2 hk), h.x.stD, h.x.bkD, h.x.meD⟩
/-- The working state, given as the answer. -/
theorem RM.fin (h : RM w0 w a z m S0 S s) {K : Value → World → Prop} (g : ∀ w', StX (fun k => w0.heap.size ≤ k) w' S s → Chg No w0 w' → K (.agg (stC S).toArray) w') {T : TypeId} :
    ∃ n1 : Int, ∃ n2 : Int, ∃ s3 : Sl, ∃ s4 : Sl, ∃ s5 : Sl, ∃ t6 : ByteArray, ∃ t7 : ByteArray, ∃ n8 : Int, ∃ n9 : Int, ∃ n10 : Int, w.cell? ⟨m, 0, none⟩ = some (.int .i64 n1) ∧ w.cell? ⟨m, 1, none⟩ = some (.int .i64 n2) ∧ w.cell? ⟨m, 2, none⟩ = some (s3.val) ∧ w.cell? ⟨m, 3, none⟩ = some (s4.val) ∧ w.cell? ⟨m, 4, none⟩ = some (s5.val) ∧ w.cell? ⟨m, 5, none⟩ = some (.string t6) ∧ w.cell? ⟨m, 6, none⟩ = some (.string t7) ∧ w.cell? ⟨m, 7, none⟩ = some (.int .i64 n8) ∧ w.cell? ⟨m, 8, none⟩ = some (.int .i64 n9) ∧ w.cell? ⟨m, 9, none⟩ = some (.int .i64 n10) ∧
    wrOk w ⟨z, 0, none⟩ 10 ∧ ∀ w' : World, w' = stW w ⟨z, 0, none⟩ 0 [.int .i64 n1, .int .i64 n2, s3.val, s4.val, s5.val, .string t6, .string t7, .int .i64 n8, .int .i64 n9, .int .i64 n10] →
    ∃ n1 : Int, ∃ n2 : Int, ∃ s3 : Sl, ∃ s4 : Sl, ∃ s5 : Sl, ∃ t6 : ByteArray, ∃ t7 : ByteArray, ∃ n8 : Int, ∃ n9 : Int, ∃ n10 : Int, w'.cell? ⟨z, 0, none⟩ = some (.int .i64 n1) ∧ w'.cell? ⟨z, 1, none⟩ = some (.int .i64 n2) ∧ w'.cell? ⟨z, 2, none⟩ = some (s3.val) ∧ w'.cell? ⟨z, 3, none⟩ = some (s4.val) ∧ w'.cell? ⟨z, 4, none⟩ = some (s5.val) ∧ w'.cell? ⟨z, 5, none⟩ = some (.string t6) ∧ w'.cell? ⟨z, 6, none⟩ = some (.string t7) ∧ w'.cell? ⟨z, 7, none⟩ = some (.int .i64 n8) ∧ w'.cell? ⟨z, 8, none⟩ = some (.int .i64 n9) ∧ w'.cell? ⟨z, 9, none⟩ = some (.int .i64 n10) ∧
    K (.agg #[.int .i64 n1, .int .i64 n2, s3.val, s4.val, s5.val, .string t6, .string t7, .int .i64 n8, .int .i64 n9, .int .i64 n10]) w' := by
  refine rdSt h.om (setSt S h.oz (by decide) rfl rfl fun w' o' c' => rdSt o' ?_)
  refine g w' ((h.x.chg c' (fun k hk he => hk.2.2.1 he)).wid (fun k hk => hk.1)) (h.c.trans c' (fun _ _ h => h) (fun k hk he => ?_))
  have he : k = z := he
  have := h.zz
  omega
end
end Go.Proofs.YtkjpmkopnkkbmaaGreatDoor

/- hollowayref9: Copy and Fault. -/
set_option maxRecDepth 100000
namespace Go.Proofs.YtkjpmkopnkkbmaaGreatDoor
open Go.RowKit

theorem nil_app {w : World} {l : Sl} {xs : List Int} (h : Rd intE w l xs) (hn : xs.length ≤ 100000) {G : Sl → World → Prop} (k : ∀ (s' : Sl) (w' : World), Ow intE w' s' xs → Chg No w w' → (∀ k, s'.blk = some k → w.heap.size ≤ k) → G s' w') :
    ∃ s' : Sl, ∃ w' : World, (Builtin.append_ #[T_sl_int, T_sl_int] T_sl_int #[.slice none 0 0, l.val]).run Tryz.prog w = .ok (s'.val) w' ∧ G s' w' := by
  refine app_ok intOk (s := nilS) (t := l) rfl rfl (Ow.nil _ _) h (by show (0 + xs.length) * 8 ≤ _; omega) (by show 0 + xs.length ≤ _; unfold maxLen; omega) ?_
  intro s' w' h' c' b'
  refine k s' w' h' ((Chg.refl No _).trans c' (fun _ _ h => h) (fun k _ he => by cases he)) fun k hk => ?_
  rcases b' with hh | hh
  · rw [hh] at hk; cases hk
  · have := Option.some.inj (hh.symm.trans hk); omega
theorem rcopy_any {D : Nat → Prop} {w : World} (S : StC) {s : StV} (h : StIs D w S s) (h1 : s.stack.length ≤ 100000) (h2 : s.back.length ≤ 100000) (h3 : s.mem.length ≤ 100000) :
    Calls Tryz.prog fn_hollowayref9_Copy #[.agg (stC S).toArray] w fun e w' => ∃ S' : StC, e = .returned (.agg (stC S').toArray) ∧ StX (fun k => w.heap.size ≤ k ∧ k < w'.heap.size) w' S' s ∧ Chg No w w' := by
  refine (hollowayref9_Copy_lift (K := fun v w' => ∃ S' : StC, v = .agg (stC S').toArray ∧ StX (fun k => w.heap.size ≤ k ∧ k < w'.heap.size) w' S' s ∧ Chg No w w') ?_).mono (by rintro e w' ⟨v, rfl, n, rfl, h⟩; exact ⟨n, rfl, h⟩)
  unfold hollowayref9_Copy_sh
  refine inSt S fun b11 w12 hb11 z12 o11 c12 => inSt st0 fun b13 w14 hb13 z14 o13 c14 => ⟨S.stack, (o11.no c14).cell rfl, nil_app (h.st.no (trN c12 c14)) h1 fun s16 w17 g17 c17 b17 => ?_⟩
  have l16 : ∀ k, s16.blk = some k → k < w17.heap.size := fun k hk => g17.lt hk
  refine setSt { S with stack := s16 } ((o11.no c14).no c17) (by decide) rfl rfl fun w18 o18 c18 => ⟨S.back, o18.cell rfl, ?_⟩
  have z17 := c17.size
  have z18 := c18.size
  have n18 : Chg No w w18 := (trN (trN c12 c14) c17).trans c18 (fun _ _ h => h) (fun k hk he => by omega)
  refine nil_app (h.bk.no n18) h2 fun s20 w21 g21 c21 b21 => ?_
  have l20 : ∀ k, s20.blk = some k → k < w21.heap.size := fun k hk => g21.lt hk
  refine setSt { S with stack := s16, back := s20 } (o18.no c21) (by decide) rfl rfl fun w22 o22 c22 => ⟨S.mem, o22.cell rfl, ?_⟩
  have z21 := c21.size
  have z22 := c22.size
  have n22 : Chg No w w22 := (trN n18 c21).trans c22 (fun _ _ h => h) (fun k hk he => by omega)
  refine nil_app (h.me.no n22) h3 fun s24 w25 g25 c25 b25 => ?_
  have l24 : ∀ k, s24.blk = some k → k < w25.heap.size := fun k hk => g25.lt hk
  have z25 := c25.size
  refine setSt { S with stack := s16, back := s20, mem := s24 } (o22.no c25) (by decide) rfl rfl fun w26 o26 c26 => ?_
  have z26 := c26.size
  have n26 : Chg No w w26 := (trN n22 c25).trans c26 (fun _ _ h => h) (fun k hk he => by omega)
  have d18 : Chg (fun j => j = b11 ∨ j = b13) w17 w18 := c18.mono (fun _ _ h => Or.inl h)
  have d21 : Chg (fun j => j = b11 ∨ j = b13) w18 w22 := (c21.trans c22 (fun _ _ h => h.elim) (fun _ _ h => Or.inl h))
  have d25 : Chg (fun j => j = b11 ∨ j = b13) w22 w26 := (c25.trans c26 (fun _ _ h => h.elim) (fun _ _ h => Or.inl h))
  have e13 : Ob w26 b13 (stC st0) T_api_State := (((((o13.no c17).chg c18 (fun he => by omega)).no c21).chg c22 (fun he => by omega)).no c25).chg c26 (fun he => by omega)
  refine rdSt o26 (setSt { S with stack := s16, back := s20, mem := s24 } e13 (by decide) rfl rfl fun w37 o37 c37 => rdSt o37 ⟨{ S with stack := s16, back := s20, mem := s24 }, rfl, ?_, ?_⟩)
  · have z37 := c37.size
    have d37 : Chg (fun j => j = b11 ∨ j = b13) w26 w37 := c37.mono (fun _ _ h => Or.inr h)
    have q22 : Chg (fun j => j = b11 ∨ j = b13) w22 w37 := d25.trans d37 (fun _ _ h => h) (fun _ _ h => h)
    have q18 : Chg (fun j => j = b11 ∨ j = b13) w18 w37 := d21.trans q22 (fun _ _ h => h) (fun _ _ h => h)
    have q17 : Chg (fun j => j = b11 ∨ j = b13) w17 w37 := d18.trans q18 (fun _ _ h => h) (fun _ _ h => h)
    have q21 : Chg (fun j => j = b11 ∨ j = b13) w21 w37 := (c22.mono (fun _ _ h => Or.inl h)).trans q22 (fun _ _ h => h) (fun _ _ h => h)
    have q25 : Chg (fun j => j = b11 ∨ j = b13) w25 w37 := (c26.mono (fun _ _ h => Or.inl h)).trans d37 (fun _ _ h => h) (fun _ _ h => h)
    refine ⟨h.nums, (g17.chg q17 (fun k hk he => ?_)).ox, (g21.chg q21 (fun k hk he => ?_)).ox, (g25.chg q25 (fun k hk he => ?_)).ox, fun k hk => ⟨?_, fun he => ?_, fun he => ?_⟩, fun k hk => ⟨?_, fun he => ?_⟩, fun k hk => ?_⟩
    · have := b17 k hk; omega
    · have := b21 k hk; omega
    · have := b25 k hk; omega
    · have := b17 k hk; have := l16 k hk; omega
    · have := l16 k hk; have := b21 k he; omega
    · have := l16 k hk; have := b25 k he; omega
    · have := b21 k hk; have := l20 k hk; omega
    · have := l20 k hk; have := b25 k he; omega
    · have := b25 k hk; have := l24 k hk; omega
  · exact n26.trans c37 (fun _ _ h => h) (fun k hk he => by omega)
/-- A state that reads as s, whatever is done to the blocks of V. -/
structure Hd (D V : Nat → Prop) (w : World) (S : StC) (s : StV) : Prop where
  is : ∀ w2, Chg V w w2 → StIs D w2 S s
  lt : ∀ k, V k → k < w.heap.size
theorem Hd.at {D V : Nat → Prop} {w w' : World} {S : StC} {s : StV} (h : Hd D V w S s) (c : Chg No w w') : StIs D w' S s := h.is w' (c.mono (fun _ _ h => h.elim))
theorem rfault_any {D V : Nat → Prop} {w0 w : World} (S : StC) {s : StV} (h0 : Hd D V w0 S s) (c0 : Chg No w0 w) (n1 : s.stack.length ≤ 1000) (n2 : s.back.length ≤ 1000) (c : Int) :
    Calls Tryz.prog fn_hollowayref9_Fault #[.agg (stC S).toArray, .int .i64 c] w fun e w' => ∃ S' : StC, e = .returned (.agg (stC S').toArray) ∧ (∀ (w2 : World) (X : Nat → Prop), Chg X w' w2 → (∀ k, w.heap.size ≤ k → ¬ X k) → Chg V w0 w2 → StIs (fun k => D k ∨ w0.heap.size ≤ k) w2 S' (mFault s c)) ∧ Chg No w w' := by
  refine (hollowayref9_Fault_lift (K := fun v w' => ∃ S' : StC, v = .agg (stC S').toArray ∧ (∀ (w2 : World) (X : Nat → Prop), Chg X w' w2 → (∀ k, w.heap.size ≤ k → ¬ X k) → Chg V w0 w2 → StIs (fun k => D k ∨ w0.heap.size ≤ k) w2 S' (mFault s c)) ∧ Chg No w w') ?_).mono (by rintro e w' ⟨v, rfl, n, rfl, h⟩; exact ⟨n, rfl, h⟩)
  have h := h0.at c0
  have z0 := c0.size
  unfold hollowayref9_Fault_sh
  obtain ⟨m1, m2, m3, m4, m5, m6, m7⟩ := h.nums
  have ls := h.st.len
  have lb := h.bk.len
  have cs := h.st.capL
  have cb := h.bk.capL
  refine inSt S fun b12 w13 hb12 z13 o12 c13 => inSt st0 fun b14 w15 hb14 z15 o14 c15 => ⟨S.handler, (o12.no c15).cell rfl, ?_⟩
  have k15 := trN c13 c15
  have p12 := o12.no c15
  have hbk := h.bk.no k15
  have hst := h.st.no k15
  rw [m2]
  have caught : (mCaught s).isSome = decide (3 ≤ s.handler ∧ s.handler ≤ s.back.length ∧ 0 ≤ getI s.back (s.handler - 1) ∧ getI s.back (s.handler - 1) < 48) := by
    unfold mCaught
    split
    · next hh => rw [decide_eq_true hh]; rfl
    · next hh => rw [decide_eq_false hh]; rfl
  refine ⟨fun b w' => b = (mCaught s).isSome ∧ w' = w15, ?_, ?_⟩
  rotate_left
  · refine brB_of (fun t1 => ⟨S.back, p12.cell rfl, brB_of (fun t2 => ⟨S.back, p12.cell rfl, ?_⟩) (fun t2 => ?_)⟩) (fun t1 => ?_)
    · have t1 := of_decide_eq_true t1
      have t2 := of_decide_eq_true t2
      rw [wr_in (by omega)]
      refine hbk.ix (i := s.handler - 1) (by omega) (getI_at (by omega) (by omega)) fun a19 _ hc => ?_
      have q := hc 0 _ rfl
      rw [Go.Proofs.YtkjpmkopnkkbmaaGreatDoor.add0] at q
      refine ⟨_, q, brB_of (fun t3 => ⟨S.back, p12.cell rfl, ?_⟩) (fun t3 => ⟨?_, rfl⟩)⟩
      · have t3 := of_decide_eq_true t3
        refine hbk.ix (i := s.handler - 1) (by omega) (getI_at (by omega) (by omega)) fun a22 _ hc => ?_
        have q := hc 0 _ rfl
        rw [Go.Proofs.YtkjpmkopnkkbmaaGreatDoor.add0] at q
        refine ⟨_, q, ?_, rfl⟩
        rw [caught, Bool.eq_iff_iff, decide_eq_true_iff, decide_eq_true_iff]
        exact ⟨fun t4 => ⟨by omega, by omega, by omega, t4⟩, fun t4 => t4.2.2.2⟩
      · have t3 := of_decide_eq_false t3
        rw [caught]; exact (decide_eq_false (by omega)).symm
    · have t1 := of_decide_eq_true t1
      have t2 := of_decide_eq_false t2
      exact ⟨by rw [caught]; exact (decide_eq_false (by omega)).symm, rfl⟩
    · have t1 := of_decide_eq_false t1
      exact ⟨by rw [caught]; exact (decide_eq_false (by omega)).symm, rfl⟩
  rintro b w24 ⟨rfl, rfl⟩
  refine brB_of (fun hx => ?_) (fun hx => ?_)
  · have hx' := hx
    rw [caught] at hx'
    have hcond := of_decide_eq_true hx'
    obtain ⟨k, hk⟩ : ∃ k : Nat, mCaught s = some k ∧ (k : Int) = getI s.back (s.handler - 1) := ⟨(getI s.back (s.handler - 1)).toNat, by unfold mCaught; rw [if_pos hcond], by omega⟩
    obtain ⟨hk, hk0⟩ := hk
    obtain ⟨h3, hle, hk1, hk48⟩ := hcond
    refine ⟨S.back, p12.cell rfl, ?_⟩
    rw [wr_in (x := s.handler - 1) (by omega), wr_in (x := s.handler - 2) (by omega), wr_in (x := s.handler - 3) (by omega)]
    refine hbk.ix (i := s.handler - 1) (by omega) (getI_at (by omega) (by omega)) fun a27 _ hc => ?_
    have q := hc 0 _ rfl
    rw [Go.Proofs.YtkjpmkopnkkbmaaGreatDoor.add0] at q
    refine ⟨_, q, ?_⟩
    intro w29 hw29
    have c29 := dw hw29
    have k29 := trN k15 c29
    have q12 := p12.no c29
    have q14 := o14.no c29
    have hb29 := hbk.no c29
    have zz := k29.size
    have z29 := c29.size
    refine ⟨fun w' => (∃ x, Ob w' b12 (stC { S with handler := x }) T_api_State) ∧ Rd intE w' S.back s.back, ⟨⟨_, q12⟩, hb29⟩, S.back, fun w' h => ?_, ?_⟩
    · obtain ⟨⟨x, o⟩, _⟩ := h; exact o.cell rfl
    refine Rd.hix (S := fun w' => (∃ x, Ob w' b12 (stC { S with handler := x }) T_api_State) ∧ Rd intE w' S.back s.back) ⟨⟨_, q12⟩, hb29⟩ (fun w' h => h.2) (i := s.handler - 2) (by omega) (getI_at (by omega) (by omega)) fun a32 _ hc32 => ?_
    have g32 := hc32 0 _ rfl
    rw [Go.Proofs.YtkjpmkopnkkbmaaGreatDoor.add0] at g32
    refine ⟨_, g32, S.back, fun w' h => ?_, ?_⟩
    · obtain ⟨⟨x, o⟩, _⟩ := h; exact o.cell rfl
    refine Rd.hix (S := fun w' => (∃ x, Ob w' b12 (stC { S with handler := x }) T_api_State) ∧ Rd intE w' S.back s.back) ⟨⟨_, q12⟩, hb29⟩ (fun w' h => h.2) (i := s.handler - 3) (by omega) (getI_at (by omega) (by omega)) fun a35 _ hc35 => ?_
    have g35 := hc35 0 _ rfl
    rw [Go.Proofs.YtkjpmkopnkkbmaaGreatDoor.add0] at g35
    refine ⟨_, g35, setSt { S with handler := getI s.back (s.handler - 2) } q12 (by decide) rfl rfl fun w37 o37 c37 => ?_⟩
    have hb37 : Rd intE w37 S.back s.back := h.bk.no (k29.trans c37 (fun _ _ h => h) (fun j hj he => by omega))
    have z37 := c37.size
    refine ⟨⟨⟨_, o37⟩, hb37⟩, setSt { S with handler := getI s.back (s.handler - 2), ip := getI s.back (s.handler - 3) } o37 (by decide) rfl rfl fun w38 o38 c38 => ⟨S.back, o38.cell rfl, by omega, by omega, fun s40 hs40 => ?_⟩⟩
    have z38 := c38.size
    have d38 : Chg (fun j => j = b12) w29 w38 := c37.trans c38 (fun _ _ h => h) (fun _ _ h => h)
    have n38 : Chg No w w38 := k29.trans d38 (fun _ _ h => h) (fun j hj he => by omega)
    have hb38 : Rd intE w38 S.back s.back := h.bk.no n38
    have ht40 : Rd intE w38 s40 (s.back.take (s.handler - 3).toNat) := by
      rw [hs40, sub0]; exact hb38.take (by omega)
    refine nil_app ht40 (by rw [List.length_take]; omega) fun s41 w42 g41 c42 b41 => ?_
    have z42 := c42.size
    refine setSt { S with handler := getI s.back (s.handler - 2), ip := getI s.back (s.handler - 3), back := s41 } (o38.no c42) (by decide) rfl rfl fun w43 o43 c43 => ⟨S.stack, o43.cell rfl, S.stack, o43.cell rfl, ?_⟩
    have z43 := c43.size
    have n43 : Chg No w w43 := (trN n38 c42).trans c43 (fun _ _ h => h) (fun j hj he => by omega)
    rw [ls]
    have hmin : imin (getI s.back (s.handler - 1)) (s.stack.length : Int) = ((min k s.stack.length : Nat) : Int) := by rw [← hk0]; unfold imin; split <;> omega
    rw [hmin]
    refine ⟨by omega, by omega, fun s46 hs46 => ?_⟩
    have hst43 := h.st.no n43
    have htk : s.stack.take (min k s.stack.length) = s.stack.take k := by
      rcases Nat.le_total k s.stack.length with h | h
      · rw [Nat.min_eq_left h]
      · rw [Nat.min_eq_right h, List.take_length, List.take_of_length_le h]
    have ht46 : Rd intE w43 s46 (s.stack.take k) := by
      rw [hs46, sub0, Int.toNat_natCast, ← htk]; exact hst43.take (by omega)
    refine nil_app ht46 (by rw [List.length_take]; omega) fun s47 w48 g47 c48 b47 => ?_
    refine ⟨fun l w' => ∃ j : Nat, Ow intE w' l (s.stack.take k ++ List.replicate j 0) ∧ min k s.stack.length + j ≤ k ∧ (∀ x, l.blk = some x → w43.heap.size ≤ x) ∧ Chg No w43 w', fun l _ => k - l.len, ⟨0, by simpa using g47, by omega, b47, c48⟩, ?_⟩
    rintro l50 w49 ⟨j, g50, hj, hl50, c49⟩
    have l50l := g50.rd.len
    rw [List.length_append, List.length_take, List.length_replicate] at l50l
    have z49 := c49.size
    refine brB_of (fun hlt' => ?_) (fun hlt' => ?_)
    · have hlt' : l50.len < k := by have := of_decide_eq_true hlt'; omega
      intro b51 w52 hb51 hw52
      obtain ⟨g52, c52⟩ := litL [0] _ rfl hb51 hw52 (by simp)
      refine app_ok intOk rfl rfl (g50.no c52) g52.rd (by show (_ + _) * 8 ≤ _; simp; omega) (by unfold maxLen; simp; omega) ?_
      intro s53 w54 g54 c54 b54
      have l54 := g54.rd.len
      simp only [List.length_append, List.length_take, List.length_replicate, List.length_cons, List.length_nil] at l54
      rw [List.append_assoc, show List.replicate j (0 : Int) ++ [0] = List.replicate (j + 1) 0 from (List.replicate_succ').symm] at g54
      have z52 := c52.size
      refine ⟨⟨j + 1, g54, by omega, fun x hx => ?_, (trN c49 c52).trans c54 (fun _ _ h => h) (fun x hx he => by have := hl50 x he; omega)⟩, by show k - s53.len < k - l50.len; omega⟩
      rcases b54 with hh | hh
      · exact hl50 x (hh ▸ hx)
      · have := Option.some.inj (hh.symm.trans hx); omega
    · have hlt' : ¬ l50.len < k := by have := of_decide_eq_false hlt'; omega
      intro b55 w56 hb55 hw56
      obtain ⟨g56, c56⟩ := litL [c] _ rfl hb55 hw56 (by simp)
      have z56 := c56.size
      refine app_ok intOk rfl rfl (g50.no c56) g56.rd (by show (_ + _) * 8 ≤ _; simp; omega) (by unfold maxLen; simp; omega) ?_
      intro s57 w58 g58 c58 b58
      have z58 := c58.size
      have hl57 : ∀ x, s57.blk = some x → w43.heap.size ≤ x := fun x hx => by
        rcases b58 with hh | hh
        · exact hl50 x (hh ▸ hx)
        · have := Option.some.inj (hh.symm.trans hx); omega
      have d58 : Chg (fun j => w43.heap.size ≤ j) w43 w58 := (trN c49 c56).trans c58 (fun _ _ h => h.elim) (fun x _ he => hl50 x he)
      have l12 := o43.lt
      have l14 := q14.lt
      have o58 := o43.chg d58 (fun he => by omega)
      have r14 : Ob w58 b14 (stC st0) T_api_State := ((((q14.chg d38 (fun he => by omega)).no c42).chg c43 (fun he => by omega))).chg d58 (fun he => by omega)
      have l41 : ∀ x, s41.blk = some x → x < w42.heap.size := fun x hx => g41.lt hx
      refine setSt { S with handler := getI s.back (s.handler - 2), ip := getI s.back (s.handler - 3), back := s41, stack := s57 } o58 (by decide) rfl rfl fun w59 o59 c59 => ?_
      refine rdSt o59 (setSt { S with handler := getI s.back (s.handler - 2), ip := getI s.back (s.handler - 3), back := s41, stack := s57 } (r14.chg c59 (fun he => by omega)) (by decide) rfl rfl fun w70 o70 c70 => rdSt o70 ⟨{ S with handler := getI s.back (s.handler - 2), ip := getI s.back (s.handler - 3), back := s41, stack := s57 }, rfl, ?_, ?_⟩)
      · have hf : mFault s c = { s with ip := getI s.back (s.handler - 3), handler := getI s.back (s.handler - 2), back := s.back.take (s.handler - 3).toNat, stack := (s.stack.take k ++ List.replicate (k - s.stack.length) 0) ++ [c] } := by unfold mFault; rw [hk]
        have hjk : j = k - s.stack.length := by omega
        rw [hf, ← hjk]
        have d70 : Chg (fun j => j = b12 ∨ j = b14) w58 w70 := c59.trans c70 (fun _ _ h => Or.inl h) (fun _ _ h => Or.inr h)
        intro w2 X cX hX e2
        have h2 := h0.is w2 e2
        refine ⟨⟨rfl, rfl, m3, m4, m5, m6, m7⟩, ((g58.chg d70 (fun x hx he => ?_)).chg cX (fun x hx => hX x (by have := hl57 x hx; omega))).rd, (((((g41.chg c43 (fun x hx he => ?_))).chg d58 (fun x hx he => ?_)).chg d70 (fun x hx he => ?_)).chg cX (fun x hx => hX x (by have := b41 x hx; omega))).rd, h2.me, fun x hx => Or.inr ?_, fun x hx => Or.inr ?_, fun x hx => Or.inl (h2.meD x hx)⟩
        · have := hl57 x hx; omega
        · have := b41 x hx; omega
        · have := l41 x hx; omega
        · have := b41 x hx; omega
        · have := hl57 x hx; omega
        · have := b41 x hx; omega
      · exact (((n43.trans d58 (fun _ _ h => h) (fun x hx he => by have := n43.size; omega)).trans c59 (fun _ _ h => h) (fun x hx he => by omega))).trans c70 (fun _ _ h => h) (fun x hx he => by omega)
  · have hnone : mCaught s = none := by
      cases h : mCaught s with
      | none => rfl
      | some k => rw [h] at hx; cases hx
    refine setSt { S with status := 2 } p12 (by decide) rfl rfl fun w81 o81 c81 => setSt { S with status := 2, code := c } o81 (by decide) rfl rfl fun w82 o82 c82 => rdSt o82 (setSt { S with status := 2, code := c } ((o14.chg c81 (fun he => by omega)).chg c82 (fun he => by omega)) (by decide) rfl rfl fun w93 o93 c93 => rdSt o93 ⟨{ S with status := 2, code := c }, rfl, ?_⟩)
    have zz := k15.size
    have n93 : Chg No w w93 := ((k15.trans c81 (fun _ _ h => h) (fun x hx he => by omega)).trans c82 (fun _ _ h => h) (fun x hx he => by omega)).trans c93 (fun _ _ h => h) (fun x hx he => by omega)
    have hf : mFault s c = { s with status := 2, code := c } := by unfold mFault; rw [hnone]
    rw [hf]
    refine ⟨fun w2 X cX hX e2 => ?_, n93⟩
    have h93 := h0.is w2 e2
    exact ⟨⟨m1, m2, m3, m4, m5, rfl, rfl⟩, h93.st, h93.bk, h93.me, fun x hx => Or.inl (h93.stD x hx), fun x hx => Or.inl (h93.bkD x hx), fun x hx => Or.inl (h93.meD x hx)⟩
end Go.Proofs.YtkjpmkopnkkbmaaGreatDoor

/- A log of what came behind what. -/
set_option maxRecDepth 100000
namespace Go.Proofs.YtkjpmkopnkkbmaaGreatDoor
open Go.RowKit

/-! ### A log -/
/-- What came behind what: each entry has a range of its own of the blocks that are new. -/
def ZL (E : Nat × List Value → Nat → Nat → World → Prop) (lo : Nat) (lg : List (Nat × List Value)) (w : World) : Prop :=
  ∃ rng : Nat × List Value → Nat × Nat, (∀ e ∈ lg, E e (rng e).1 (rng e).2 w ∧ lo ≤ (rng e).1 ∧ (rng e).2 ≤ w.heap.size) ∧ ∀ e ∈ lg, ∀ e' ∈ lg, e ≠ e' → (rng e).2 ≤ (rng e').1 ∨ (rng e').2 ≤ (rng e).1
theorem ZL.nil (E : Nat × List Value → Nat → Nat → World → Prop) (lo : Nat) (w : World) : ZL E lo [] w := ⟨fun _ => (0, 0), fun e h => by simp at h, fun e h => by simp at h⟩
open Classical in
theorem ZL.snoc {E : Nat × List Value → Nat → Nat → World → Prop} {lo : Nat} {lg : List (Nat × List Value)} {w w' : World} (h : ZL E lo lg w) (hlo : lo ≤ w.heap.size) (c : w.heap.size ≤ w'.heap.size) (up : ∀ e a b, E e a b w → E e a b w') {e : Nat × List Value} (he : E e w.heap.size w'.heap.size w') : ZL E lo (lg ++ [e]) w' := by
  obtain ⟨rng, h1, h2⟩ := h
  by_cases hm : e ∈ lg
  · refine ⟨rng, fun x hx => ?_, fun x hx y hy => ?_⟩
    · have hx : x ∈ lg := by
        rcases List.mem_append.1 hx with hx | hx
        · exact hx
        · have : x = e := by simpa using hx
          rw [this]; exact hm
      obtain ⟨g1, g2, g3⟩ := h1 x hx
      exact ⟨up _ _ _ g1, g2, by omega⟩
    · have hx : x ∈ lg := by
        rcases List.mem_append.1 hx with hx | hx
        · exact hx
        · have : x = e := by simpa using hx
          rw [this]; exact hm
      have hy : y ∈ lg := by
        rcases List.mem_append.1 hy with hy | hy
        · exact hy
        · have : y = e := by simpa using hy
          rw [this]; exact hm
      exact h2 x hx y hy
  · have new : ∀ x, x ∈ lg → x ≠ e := fun x hx he => hm (he ▸ hx)
    refine ⟨fun x => if x = e then (w.heap.size, w'.heap.size) else rng x, fun x hx => ?_, fun x hx y hy hxy => ?_⟩
    · by_cases hxe : x = e
      · simp only [if_pos hxe]; rw [hxe]; exact ⟨he, hlo, Nat.le_refl _⟩
      · have hx : x ∈ lg := by
          rcases List.mem_append.1 hx with hx | hx
          · exact hx
          · exact absurd (by simpa using hx) hxe
        obtain ⟨g1, g2, g3⟩ := h1 x hx
        simp only [if_neg hxe]
        exact ⟨up _ _ _ g1, g2, by omega⟩
    · by_cases hxe : x = e
      · have hye : y ≠ e := fun h => hxy (by rw [hxe, h])
        have hy : y ∈ lg := by
          rcases List.mem_append.1 hy with hy | hy
          · exact hy
          · exact absurd (by simpa using hy) hye
        obtain ⟨g1, g2, g3⟩ := h1 y hy
        simp only [if_pos hxe, if_neg hye]
        exact Or.inr g3
      · have hx : x ∈ lg := by
          rcases List.mem_append.1 hx with hx | hx
          · exact hx
          · exact absurd (by simpa using hx) hxe
        by_cases hye : y = e
        · obtain ⟨g1, g2, g3⟩ := h1 x hx
          simp only [if_pos hye, if_neg hxe]
          exact Or.inl g3
        · have hy : y ∈ lg := by
            rcases List.mem_append.1 hy with hy | hy
            · exact hy
            · exact absurd (by simpa using hy) hye
          simp only [if_neg hxe, if_neg hye]
          exact h2 x hx y hy hxy
end Go.Proofs.YtkjpmkopnkkbmaaGreatDoor

/- InnerBegins: the walk. -/
set_option maxRecDepth 100000
namespace Go.Proofs.YtkjpmkopnkkbmaaGreatDoor
open Go.RowKit

theorem BkJ.reset {D P X : Nat → Prop} {w w' : World} {b : Nat} (h : BkJ D P w b) (c : Chg X w w') (hX : ∀ k, X k → w.heap.size ≤ k) : BkJ (fun k => (D k ∧ k < w.heap.size) ∨ w'.heap.size ≤ k) (fun k => (P k ∧ k < w.heap.size) ∨ w'.heap.size ≤ k) w' b :=
  (h.nar.chg c (fun k hk hx => by have := hX k hx; omega)).wid (fun _ h => Or.inl h) (fun _ h => Or.inl h)
theorem stC_inj {a b : StC} (h : stC a = stC b) : a = b := by
  obtain ⟨a1, a2, ⟨p1, l1, c1⟩, ⟨p2, l2, c2⟩, ⟨p3, l3, c3⟩, a6, a7, a8, a9, a10⟩ := a
  obtain ⟨b1, b2, ⟨q1, m1, d1⟩, ⟨q2, m2, d2⟩, ⟨q3, m3, d3⟩, b6, b7, b8, b9, b10⟩ := b
  simp only [stC, List.cons.injEq, Value.int.injEq, Value.string.injEq, val_eq, Value.slice.injEq, and_true, true_and] at h
  obtain ⟨rfl, rfl, ⟨rfl, rfl, rfl⟩, ⟨rfl, rfl, rfl⟩, ⟨rfl, rfl, rfl⟩, rfl, rfl, rfl, rfl, rfl⟩ := h
  rfl
/-- An entry: a machine, or a new place for one. -/
def EntV (f : Nat → Option StV) (e : Nat × List Value) (lo hi : Nat) (w : World) : Prop := match f e.1 with
  | some s => ∃ S : StC, e.2 = stC S ∧ StX (fun k => lo ≤ k ∧ k < hi) w S s
  | none => ∃ a : Nat, e.2 = [.pointer (some ⟨a, 0, none⟩)] ∧ Ob w a (stC st0) T_api_State ∧ lo ≤ a ∧ a < hi
theorem EntV.no {f : Nat → Option StV} {e : Nat × List Value} {lo hi : Nat} {w w' : World} (h : EntV f e lo hi w) (c : Chg No w w') : EntV f e lo hi w' := by
  unfold EntV at h ⊢
  cases hf : f e.1 with
  | some r => rw [hf] at h; obtain ⟨R, h1, h2⟩ := h; exact ⟨R, h1, h2.no c⟩
  | none => rw [hf] at h; obtain ⟨a, h1, h2, h3⟩ := h; exact ⟨a, h1, h2.no c, h3⟩
end Go.Proofs.YtkjpmkopnkkbmaaGreatDoor

/- hollowayref1's Op, Arg and Plain. -/
set_option maxRecDepth 100000
namespace Go.Proofs.YtkjpmkopnkkbmaaGreatDoor
open Go.RowKit

theorem refOp_any (op : Int) (w : World) : Calls Tryz.prog fn_hollowayref1_Op #[.int .i64 op] w fun e w' => e = .returned (.bool (decide (0 ≤ op ∧ op < 48))) ∧ w = w' := by
  refine (hollowayref1_Op_lift (K := fun v w' => v = .bool (decide (0 ≤ op ∧ op < 48)) ∧ w = w') ?_).mono (by rintro e w' ⟨v, rfl, rfl, h⟩; exact ⟨rfl, h⟩)
  unfold hollowayref1_Op_sh
  refine brB_of (fun h => ⟨?_, rfl⟩) (fun h => ⟨?_, rfl⟩)
  · simp at h; simp [h]
  · simp at h; simp; omega
theorem refArg_any (op : Int) (w : World) : Calls Tryz.prog fn_hollowayref1_Arg #[.int .i64 op] w fun e w' => e = .returned (.bool (opArg op)) ∧ w = w' := by
  refine (hollowayref1_Arg_lift (K := fun v w' => v = .bool (opArg op) ∧ w = w') ?_).mono (by rintro e w' ⟨v, rfl, rfl, h⟩; exact ⟨rfl, h⟩)
  unfold hollowayref1_Arg_sh
  unfold opArg
  repeat' (first | refine brB_of (fun _ => ?_) (fun _ => ?_))
  all_goals (refine ⟨?_, rfl⟩; first | congr 1 | skip)
  all_goals (rw [Bool.eq_iff_iff]; simp only [decide_eq_true_eq, decide_eq_false_iff_not, beq_iff_eq, beq_eq_false_iff_ne, bne_iff_ne, ne_eq, bne_eq_false_iff_eq, Bool.not_eq_true', Bool.false_eq_true, false_iff, true_iff, not_and, not_or, Decidable.not_not] at *; omega)
end Go.Proofs.YtkjpmkopnkkbmaaGreatDoor

/- hollowayref1's Moves. -/
set_option maxRecDepth 100000
namespace Go.Proofs.YtkjpmkopnkkbmaaGreatDoor
open Go.RowKit

def isTwo (op : Int) : Bool := decide (11 ≤ op ∧ op ≤ 15 ∨ 17 ≤ op ∧ op ≤ 19 ∨ 21 ≤ op ∧ op ≤ 25 ∨ op = 28 ∨ op = 29)
def isOne (op : Int) : Bool := decide (op = 16 ∨ op = 20 ∨ op = 26 ∨ op = 27)
theorem isTwo_any (op : Int) (w : World) : Calls Tryz.prog fn_hollowayref1_IsTwo #[.int .i64 op] w fun e w' => e = .returned (.bool (isTwo op)) ∧ w = w' := by
  refine (hollowayref1_IsTwo_lift (K := fun v w' => v = .bool (isTwo op) ∧ w = w') ?_).mono (by rintro e w' ⟨v, rfl, rfl, h⟩; exact ⟨rfl, h⟩)
  unfold hollowayref1_IsTwo_sh
  unfold isTwo
  repeat' (first | refine brB_of (fun _ => ?_) (fun _ => ?_))
  all_goals (refine ⟨?_, rfl⟩; first | congr 1 | skip)
  all_goals (rw [Bool.eq_iff_iff]; simp only [decide_eq_true_eq, decide_eq_false_iff_not, beq_iff_eq, beq_eq_false_iff_ne, bne_iff_ne, ne_eq, bne_eq_false_iff_eq, Bool.not_eq_true', Bool.false_eq_true, false_iff, true_iff, not_and, not_or, Decidable.not_not] at *; omega)
theorem isOne_any (op : Int) (w : World) : Calls Tryz.prog fn_hollowayref1_IsOne #[.int .i64 op] w fun e w' => e = .returned (.bool (isOne op)) ∧ w = w' := by
  refine (hollowayref1_IsOne_lift (K := fun v w' => v = .bool (isOne op) ∧ w = w') ?_).mono (by rintro e w' ⟨v, rfl, rfl, h⟩; exact ⟨rfl, h⟩)
  unfold hollowayref1_IsOne_sh
  unfold isOne
  repeat' (first | refine brB_of (fun _ => ?_) (fun _ => ?_))
  all_goals (refine ⟨?_, rfl⟩; first | congr 1 | skip)
  all_goals (rw [Bool.eq_iff_iff]; simp only [decide_eq_true_eq, decide_eq_false_iff_not, beq_iff_eq, beq_eq_false_iff_ne, bne_iff_ne, ne_eq, bne_eq_false_iff_eq, Bool.not_eq_true', Bool.false_eq_true, false_iff, true_iff, not_and, not_or, Decidable.not_not] at *; omega)
theorem opRowOff {op : Int} (h : ¬ (0 ≤ op ∧ op < 48)) : opRow op = noRow := by unfold opRow; rw [if_neg h]
def movesV (op : Int) : Value := .tuple #[.int .i64 (opRow op).takes, .int .i64 (opRow op).backs, .int .i64 (opRow op).gives, .int .i64 (opRow op).givesBak]
theorem moves_any (op : Int) (w : World) : Calls Tryz.prog fn_hollowayref1_Moves #[.int .i64 op] w fun e w' => e = .returned (movesV op) ∧ w = w' := by
  refine (hollowayref1_Moves_lift (K := fun v w' => v = movesV op ∧ w = w') ?_).mono (by rintro e w' ⟨v, rfl, rfl, h⟩; exact ⟨rfl, h⟩)
  unfold hollowayref1_Moves_sh
  refine (isTwo_any op w).mono ?_
  rintro e w3 ⟨rfl, rfl⟩
  refine ⟨_, rfl, brB_of (fun h => ?_) (fun h2 => ?_)⟩
  · have h := of_decide_eq_true h
    have h : op = 11 ∨ op = 12 ∨ op = 13 ∨ op = 14 ∨ op = 15 ∨ op = 17 ∨ op = 18 ∨ op = 19 ∨ op = 21 ∨ op = 22 ∨ op = 23 ∨ op = 24 ∨ op = 25 ∨ op = 28 ∨ op = 29 := by omega
    rcases h with rfl | rfl | rfl | rfl | rfl | rfl | rfl | rfl | rfl | rfl | rfl | rfl | rfl | rfl | rfl <;> exact ⟨rfl, rfl⟩
  have h2 := of_decide_eq_false h2
  refine (isOne_any op w).mono ?_
  rintro e w6 ⟨rfl, rfl⟩
  refine ⟨_, rfl, brB_of (fun h => ?_) (fun h1 => ?_)⟩
  · have h := of_decide_eq_true h
    rcases h with rfl | rfl | rfl | rfl <;> exact ⟨rfl, rfl⟩
  have h1 := of_decide_eq_false h1
  have eqb : ∀ {n : Int}, (op == n) = true → op = n := fun h => by simpa using h
  have neb : ∀ {n : Int}, (op == n) = false → op ≠ n := fun h => by simpa using h
  refine brB_of (fun h => by obtain rfl := eqb h; exact ⟨rfl, rfl⟩) (fun h5 => ?_)
  have h5 := neb h5
  refine ⟨fun b w' => b = decide (op = 2 ∨ op = 43) ∧ w = w', ?_, ?_⟩
  · rintro b w8 ⟨rfl, rfl⟩
    refine brB_of (fun h => ?_) (fun h6 => ?_)
    · rcases of_decide_eq_true h with rfl | rfl <;> exact ⟨rfl, rfl⟩
    have h6 := of_decide_eq_false h6
    refine ⟨fun b w' => b = decide (op = 4 ∨ op = 7 ∨ op = 41 ∨ op = 42 ∨ op = 45) ∧ w = w', ?_, ?_⟩
    · rintro b w8 ⟨rfl, rfl⟩
      refine brB_of (fun h => ?_) (fun h7 => ?_)
      · rcases of_decide_eq_true h with rfl | rfl | rfl | rfl | rfl <;> exact ⟨rfl, rfl⟩
      have h7 := of_decide_eq_false h7
      refine brB_of (fun h => by obtain rfl := eqb h; exact ⟨rfl, rfl⟩) (fun h8 => ?_)
      refine brB_of (fun h => by obtain rfl := eqb h; exact ⟨rfl, rfl⟩) (fun h9 => ?_)
      refine brB_of (fun h => by obtain rfl := eqb h; exact ⟨rfl, rfl⟩) (fun h10 => ?_)
      refine brB_of (fun h => by obtain rfl := eqb h; exact ⟨rfl, rfl⟩) (fun h11 => ?_)
      refine brB_of (fun h => by obtain rfl := eqb h; exact ⟨rfl, rfl⟩) (fun h12 => ?_)
      have h8 := neb h8; have h9 := neb h9; have h10 := neb h10; have h11 := neb h11; have h12 := neb h12
      refine ⟨fun b w' => b = decide (op = 31 ∨ op = 32) ∧ w = w', ?_, ?_⟩
      · rintro b w8 ⟨rfl, rfl⟩
        refine brB_of (fun h => ?_) (fun h13 => ?_)
        · rcases of_decide_eq_true h with rfl | rfl <;> exact ⟨rfl, rfl⟩
        have h13 := of_decide_eq_false h13
        refine ⟨fun b w' => b = decide (op = 33 ∨ op = 44) ∧ w = w', ?_, ?_⟩
        · rintro b w8 ⟨rfl, rfl⟩
          refine brB_of (fun h => ?_) (fun h14 => ?_)
          · rcases of_decide_eq_true h with rfl | rfl <;> exact ⟨rfl, rfl⟩
          have h14 := of_decide_eq_false h14
          refine brB_of (fun h => by obtain rfl := eqb h; exact ⟨rfl, rfl⟩) (fun h15 => ?_)
          refine brB_of (fun h => by obtain rfl := eqb h; exact ⟨rfl, rfl⟩) (fun h16 => ?_)
          refine brB_of (fun h => by obtain rfl := eqb h; exact ⟨rfl, rfl⟩) (fun h17 => ?_)
          refine brB_of (fun h => by obtain rfl := eqb h; exact ⟨rfl, rfl⟩) (fun h18 => ?_)
          refine brB_of (fun h => by obtain rfl := eqb h; exact ⟨rfl, rfl⟩) (fun h19 => ?_)
          refine brB_of (fun h => by obtain rfl := eqb h; exact ⟨rfl, rfl⟩) (fun h20 => ?_)
          refine brB_of (fun h => by obtain rfl := eqb h; exact ⟨rfl, rfl⟩) (fun h21 => ?_)
          refine brB_of (fun h => by obtain rfl := eqb h; exact ⟨rfl, rfl⟩) (fun h22 => ?_)
          have h15 := neb h15; have h16 := neb h16; have h17 := neb h17; have h18 := neb h18; have h19 := neb h19; have h20 := neb h20; have h21 := neb h21; have h22 := neb h22
          refine ⟨?_, rfl⟩
          rcases (by omega : op = 0 ∨ op = 1 ∨ op = 3 ∨ op = 47 ∨ ¬ (0 ≤ op ∧ op < 48)) with rfl | rfl | rfl | rfl | h
          · rfl
          · rfl
          · rfl
          · rfl
          · unfold movesV; rw [opRowOff h]; rfl
        · refine brB_of (fun h => ⟨?_, rfl⟩) (fun h => ⟨?_, rfl⟩)
          · simp at h; simp [h]
          · simp at h; simp [h]; rw [Bool.eq_iff_iff]; simp
      · refine brB_of (fun h => ⟨?_, rfl⟩) (fun h => ⟨?_, rfl⟩)
        · simp at h; simp [h]
        · simp at h; simp [h]; rw [Bool.eq_iff_iff]; simp
    · repeat' (first | refine brB_of (fun _ => ?_) (fun _ => ?_))
      all_goals (refine ⟨?_, rfl⟩; first | congr 1 | skip)
      all_goals (rw [Bool.eq_iff_iff]; simp only [decide_eq_true_eq, decide_eq_false_iff_not, beq_iff_eq, beq_eq_false_iff_ne, bne_iff_ne, ne_eq, bne_eq_false_iff_eq, Bool.not_eq_true', Bool.false_eq_true, false_iff, true_iff, not_and, not_or, Decidable.not_not] at *; omega)
  · refine brB_of (fun h => ⟨?_, rfl⟩) (fun h => ⟨?_, rfl⟩)
    · simp at h; simp [h]
    · simp at h; simp [h]; rw [Bool.eq_iff_iff]; simp

end Go.Proofs.YtkjpmkopnkkbmaaGreatDoor

/- What the document's machine does to its working state, piece by piece; stacks that lose their tops. -/
set_option maxRecDepth 100000
namespace Go.Proofs.YtkjpmkopnkkbmaaGreatDoor
open Go.RowKit

theorem byte_and (p : Int) : IntKind.wrap .u8 (iand .i64 p 255) = IntKind.wrap .u8 p := by
  have h : (BitVec.ofInt 64 p &&& BitVec.ofInt 64 255).toNat = (p % 256).toNat := by
    rw [BitVec.toNat_and]
    have e : (BitVec.ofInt 64 255).toNat = 2^8 - 1 := by decide
    rw [e, Nat.and_two_pow_sub_one_eq_mod, BitVec.toNat_ofInt]; omega
  have e : iand .i64 p 255 = wr ((p % 256).toNat : Int) := by rw [← h]; rfl
  rw [e, wr_in (by omega), IntKind.wrap_u8, IntKind.wrap_u8]; omega
theorem rcross_any (x n : Int) (w : World) : Calls Tryz.prog fn_hollowayref1_Crosses #[.int .i64 x, .int .i64 n] w fun e w' => e = .returned (.bool (Cn.crosses x n)) ∧ w = w' := by
  refine (hollowayref1_Crosses_lift (K := fun r w' => r = .bool (Cn.crosses x n) ∧ w = w') ?_).mono (by rintro e w' ⟨r, rfl, rfl, h⟩; exact ⟨rfl, h⟩)
  unfold hollowayref1_Crosses_sh
  refine ⟨?_, rfl⟩
  unfold Cn.crosses
  rw [← IntWalk.i64_left]; rfl
theorem getI_take {l : List Int} {n : Nat} {i : Int} (h : i.toNat < n) : getI (l.take n) i = getI l i := by
  unfold getI
  rw [List.getD_eq_getElem?_getD, List.getD_eq_getElem?_getD, List.getElem?_take, if_pos h]
theorem pop2 {s : StV} : popV (popV s) = { s with stack := s.stack.take (s.stack.length - 2) } := by
  have h : (popV (popV s)).stack = s.stack.take (s.stack.length - 2) := by
    show ((s.stack.take (s.stack.length - 1)).take ((s.stack.take (s.stack.length - 1)).length - 1)) = _
    rw [List.take_take, List.length_take]; congr 1; omega
  calc popV (popV s) = { s with stack := (popV (popV s)).stack } := rfl
    _ = _ := by rw [h]
theorem pop3 {s : StV} : popV (popV (popV s)) = { s with stack := s.stack.take (s.stack.length - 3) } := by
  rw [pop2]
  have h : (s.stack.take (s.stack.length - 1)).take ((s.stack.take (s.stack.length - 1)).length - 2) = s.stack.take (s.stack.length - 3) := by
    rw [List.take_take, List.length_take]; congr 1; omega
  show { s with stack := (s.stack.take (s.stack.length - 1)).take ((s.stack.take (s.stack.length - 1)).length - 2) } = _
  rw [h]
theorem top_2 {s : StV} (h : 2 ≤ s.stack.length) : topV (popV s) = getI s.stack ((s.stack.length : Int) - 2) := by
  show getI (s.stack.take (s.stack.length - 1)) (((s.stack.take (s.stack.length - 1)).length : Int) - 1) = _
  rw [List.length_take, show ((min (s.stack.length - 1) s.stack.length : Nat) : Int) - 1 = (s.stack.length : Int) - 2 by omega]
  exact getI_take (by omega)
theorem top_3 {s : StV} (h : 3 ≤ s.stack.length) : topV (popV (popV s)) = getI s.stack ((s.stack.length : Int) - 3) := by
  rw [pop2]
  show getI (s.stack.take (s.stack.length - 2)) (((s.stack.take (s.stack.length - 2)).length : Int) - 1) = _
  rw [List.length_take, show ((min (s.stack.length - 2) s.stack.length : Nat) : Int) - 1 = (s.stack.length : Int) - 3 by omega]
  exact getI_take (by omega)
theorem popb2 {s : StV} : popB (popB s) = { s with back := s.back.take (s.back.length - 2) } := by
  have h : (popB (popB s)).back = s.back.take (s.back.length - 2) := by
    show ((s.back.take (s.back.length - 1)).take ((s.back.take (s.back.length - 1)).length - 1)) = _
    rw [List.take_take, List.length_take]; congr 1; omega
  calc popB (popB s) = { s with back := (popB (popB s)).back } := rfl
    _ = _ := by rw [h]
theorem popb3 {s : StV} : popB (popB (popB s)) = { s with back := s.back.take (s.back.length - 3) } := by
  rw [popb2]
  have h : (s.back.take (s.back.length - 1)).take ((s.back.take (s.back.length - 1)).length - 2) = s.back.take (s.back.length - 3) := by
    rw [List.take_take, List.length_take]; congr 1; omega
  show { s with back := (s.back.take (s.back.length - 1)).take ((s.back.take (s.back.length - 1)).length - 2) } = _
  rw [h]
theorem topb2 {s : StV} (h : 2 ≤ s.back.length) : topB (popB s) = getI s.back ((s.back.length : Int) - 2) := by
  show getI (s.back.take (s.back.length - 1)) (((s.back.take (s.back.length - 1)).length : Int) - 1) = _
  rw [List.length_take, show ((min (s.back.length - 1) s.back.length : Nat) : Int) - 1 = (s.back.length : Int) - 2 by omega]
  exact getI_take (by omega)
theorem topb3 {s : StV} (h : 3 ≤ s.back.length) : topB (popB (popB s)) = getI s.back ((s.back.length : Int) - 3) := by
  rw [popb2]
  show getI (s.back.take (s.back.length - 2)) (((s.back.take (s.back.length - 2)).length : Int) - 1) = _
  rw [List.length_take, show ((min (s.back.length - 2) s.back.length : Nat) : Int) - 1 = (s.back.length : Int) - 3 by omega]
  exact getI_take (by omega)
theorem set_last {l : List Int} {m : Nat} (hm : l.length = m + 2) (v : Int) : l.set (m + 1) v = l.take m ++ [getI l m, v] := by
  apply List.ext_getElem?
  intro i
  rw [List.getElem?_set]
  rcases Nat.lt_trichotomy i m with h | h | h
  · rw [if_neg (by omega), List.getElem?_append_left (by rw [List.length_take]; omega), List.getElem?_take, if_pos h]
  · subst h
    rw [if_neg (by omega), List.getElem?_append_right (by rw [List.length_take]; omega), List.length_take, show i - min i l.length = 0 by omega]
    unfold getI
    rw [List.getD_eq_getElem?_getD, Int.toNat_natCast, List.getElem?_eq_getElem (by omega)]; rfl
  · by_cases h1 : i = m + 1
    · subst h1
      rw [if_pos rfl, if_pos (by omega), List.getElem?_append_right (by rw [List.length_take]; omega), List.length_take, show m + 1 - min m l.length = 1 by omega]; rfl
    · rw [if_neg (by omega), List.getElem?_eq_none (by omega), List.getElem?_eq_none (by rw [List.length_append, List.length_take]; simp; omega)]
section
variable {w0 w : World} {a z m : Nat} {S0 S : StC} {s s0 : StV} {D V : Nat → Prop}
theorem RM.ip (h : RM w0 w a z m S0 S s) (v : Int) {G : World → Prop} (g : ∀ w', RM w0 w' a z m S0 { S with ip := v } { s with ip := v } → G w') : wrOk w ⟨m, 0, none⟩ 1 ∧ ∀ w' : World, w' = stW w ⟨m, 0, none⟩ 0 [.int .i64 v] → G w' :=
  have hs := allS h; have hb := allB h; h.set { S with ip := v } { s with ip := v } (by decide) rfl rfl ⟨rfl, h.x.nums.2⟩ hs hb ⟨rfl, rfl⟩ g
theorem RM.hnd (h : RM w0 w a z m S0 S s) (v : Int) {G : World → Prop} (g : ∀ w', RM w0 w' a z m S0 { S with handler := v } { s with handler := v } → G w') : wrOk w ⟨m, 1, none⟩ 1 ∧ ∀ w' : World, w' = stW w ⟨m, 1, none⟩ 0 [.int .i64 v] → G w' :=
  have hs := allS h; have hb := allB h; h.set { S with handler := v } { s with handler := v } (by decide) rfl rfl ⟨h.x.nums.1, rfl, h.x.nums.2.2⟩ hs hb ⟨rfl, rfl⟩ g
theorem RM.out (h : RM w0 w a z m S0 S s) (v : ByteArray) {G : World → Prop} (g : ∀ w', RM w0 w' a z m S0 { S with out := v } { s with out := v } → G w') : wrOk w ⟨m, 5, none⟩ 1 ∧ ∀ w' : World, w' = stW w ⟨m, 5, none⟩ 0 [.string v] → G w' :=
  have hs := allS h; have hb := allB h; h.set { S with out := v } { s with out := v } (by decide) rfl rfl ⟨h.x.nums.1, h.x.nums.2.1, rfl, h.x.nums.2.2.2⟩ hs hb ⟨rfl, rfl⟩ g
theorem RM.rdn (h : RM w0 w a z m S0 S s) (v : Int) {G : World → Prop} (g : ∀ w', RM w0 w' a z m S0 { S with read := v } { s with read := v } → G w') : wrOk w ⟨m, 7, none⟩ 1 ∧ ∀ w' : World, w' = stW w ⟨m, 7, none⟩ 0 [.int .i64 v] → G w' :=
  have hs := allS h; have hb := allB h; h.set { S with read := v } { s with read := v } (by decide) rfl rfl ⟨h.x.nums.1, h.x.nums.2.1, h.x.nums.2.2.1, h.x.nums.2.2.2.1, rfl, h.x.nums.2.2.2.2.2⟩ hs hb ⟨rfl, rfl⟩ g
theorem RM.sta (h : RM w0 w a z m S0 S s) (v : Int) {G : World → Prop} (g : ∀ w', RM w0 w' a z m S0 { S with status := v } { s with status := v } → G w') : wrOk w ⟨m, 8, none⟩ 1 ∧ ∀ w' : World, w' = stW w ⟨m, 8, none⟩ 0 [.int .i64 v] → G w' :=
  have hs := allS h; have hb := allB h; h.set { S with status := v } { s with status := v } (by decide) rfl rfl ⟨h.x.nums.1, h.x.nums.2.1, h.x.nums.2.2.1, h.x.nums.2.2.2.1, h.x.nums.2.2.2.2.1, rfl, h.x.nums.2.2.2.2.2.2⟩ hs hb ⟨rfl, rfl⟩ g
theorem RM.cutS (h : RM w0 w a z m S0 S s) {n : Nat} (hn : n ≤ s.stack.length) {l : Sl} (hl : l = ⟨S.stack.ptr, n, S.stack.cap⟩) {G : World → Prop} (g : ∀ w', RM w0 w' a z m S0 { S with stack := l } { s with stack := s.stack.take n } → G w') : wrOk w ⟨m, 2, none⟩ 1 ∧ ∀ w' : World, w' = stW w ⟨m, 2, none⟩ 0 [l.val] → G w' :=
  have hs := allS h; have hb := allB h; h.set { S with stack := l } { s with stack := s.stack.take n } (by decide) rfl rfl h.x.nums ⟨n, hn, hl, rfl⟩ hb ⟨rfl, rfl⟩ g
theorem RM.cutB (h : RM w0 w a z m S0 S s) {i : Int} (h0 : 0 ≤ i) (hi : i ≤ s.back.length) {G : World → Prop} (g : ∀ w' S', S'.stack = S.stack → S'.mem = S.mem → RM w0 w' a z m S0 S' { s with back := s.back.take i.toNat } → G w') :
    ∃ l : Sl, w.cell? ⟨m, 3, none⟩ = some l.val ∧ 0 ≤ i ∧ i ≤ (l.cap : Int) ∧ ∀ l' : Sl, l' = Sl.sub l.ptr l.cap 0 (Int.toNat i) 1 → wrOk w ⟨m, 3, none⟩ 1 ∧ ∀ w' : World, w' = stW w ⟨m, 3, none⟩ 0 [l'.val] → G w' := by
  have cb := h.x.bk.rd.capL
  refine ⟨S.back, h.om.cell rfl, h0, by omega, fun l' hl' => ?_⟩
  rw [sub0] at hl'
  have hs := allS h
  exact h.set { S with back := l' } { s with back := s.back.take i.toNat } (by decide) rfl rfl h.x.nums hs ⟨i.toNat, by omega, hl', rfl⟩ ⟨rfl, rfl⟩ (fun w' h' => g w' { S with back := l' } rfl rfl h')
theorem RM.getB (h : RM w0 w a z m S0 S s) {i : Int} (h0 : 0 ≤ i) (hi : i < s.back.length) {G : Int → Prop} (g : G (getI s.back i)) :
    ∃ l : Sl, w.cell? ⟨m, 3, none⟩ = some l.val ∧ ∃ q : Addr, l.ptr = some q ∧ 0 ≤ i ∧ i < (l.len : Int) ∧ ∃ n : Int, w.cell? (Addr.add q (Int.toNat i * 1)) = some (.int .i64 n) ∧ G n := by
  refine ⟨S.back, h.om.cell rfl, ?_⟩
  refine h.x.bk.rd.ix (i := i) h0 (getI_at h0 hi) fun q _ hc => ?_
  have e := hc 0 _ rfl
  rw [Go.Proofs.YtkjpmkopnkkbmaaGreatDoor.add0] at e
  exact ⟨_, e, g⟩
theorem RM.getS (h : RM w0 w a z m S0 S s) {i : Int} (h0 : 0 ≤ i) (hi : i < s.stack.length) {G : Int → Prop} (g : G (getI s.stack i)) :
    ∃ l : Sl, w.cell? ⟨m, 2, none⟩ = some l.val ∧ ∃ q : Addr, l.ptr = some q ∧ 0 ≤ i ∧ i < (l.len : Int) ∧ ∃ n : Int, w.cell? (Addr.add q (Int.toNat i * 1)) = some (.int .i64 n) ∧ G n := by
  refine ⟨S.stack, h.om.cell rfl, ?_⟩
  refine h.x.st.rd.ix (i := i) h0 (getI_at h0 hi) fun q _ hc => ?_
  have e := hc 0 _ rfl
  rw [Go.Proofs.YtkjpmkopnkkbmaaGreatDoor.add0] at e
  exact ⟨_, e, g⟩
theorem RM.getM (h : RM w0 w a z m S0 S s) {i : Int} (h0 : 0 ≤ i) (hi : i < s.mem.length) {G : Int → Prop} (g : G (getI s.mem i)) :
    ∃ q : Addr, S.mem.ptr = some q ∧ 0 ≤ i ∧ i < (S.mem.len : Int) ∧ ∃ n : Int, w.cell? (Addr.add q (Int.toNat i * 1)) = some (.int .i64 n) ∧ G n := by
  refine h.x.me.rd.ix (i := i) h0 (getI_at h0 hi) fun q _ hc => ?_
  have e := hc 0 _ rfl
  rw [Go.Proofs.YtkjpmkopnkkbmaaGreatDoor.add0] at e
  exact ⟨_, e, g⟩
/-- What a step leaves. -/
def KA (D V : Nat → Prop) (w0 : World) (s' : StV) (v : Value) (w' : World) : Prop := ∃ S', v = .agg (stC S').toArray ∧ (∀ w2, Chg V w' w2 → StIs (fun k => D k ∨ w0.heap.size ≤ k) w2 S' s') ∧ Chg No w0 w'
theorem StIs.wid {C : Nat → Prop} (h : StIs D w S s) (hd : ∀ k, D k → C k) : StIs C w S s := ⟨h.nums, h.st, h.bk, h.me, fun k hk => hd k (h.stD k hk), fun k hk => hd k (h.bkD k hk), fun k hk => hd k (h.meD k hk)⟩
theorem RM.done (h : RM w0 w a z m S0 S s) (hV : ∀ k, V k → k < w0.heap.size) {s' : StV} (e : s' = s) :
    ∃ n1 : Int, ∃ n2 : Int, ∃ s3 : Sl, ∃ s4 : Sl, ∃ s5 : Sl, ∃ t6 : ByteArray, ∃ t7 : ByteArray, ∃ n8 : Int, ∃ n9 : Int, ∃ n10 : Int, w.cell? ⟨m, 0, none⟩ = some (.int .i64 n1) ∧ w.cell? ⟨m, 1, none⟩ = some (.int .i64 n2) ∧ w.cell? ⟨m, 2, none⟩ = some (s3.val) ∧ w.cell? ⟨m, 3, none⟩ = some (s4.val) ∧ w.cell? ⟨m, 4, none⟩ = some (s5.val) ∧ w.cell? ⟨m, 5, none⟩ = some (.string t6) ∧ w.cell? ⟨m, 6, none⟩ = some (.string t7) ∧ w.cell? ⟨m, 7, none⟩ = some (.int .i64 n8) ∧ w.cell? ⟨m, 8, none⟩ = some (.int .i64 n9) ∧ w.cell? ⟨m, 9, none⟩ = some (.int .i64 n10) ∧
    wrOk w ⟨z, 0, none⟩ 10 ∧ ∀ w' : World, w' = stW w ⟨z, 0, none⟩ 0 [.int .i64 n1, .int .i64 n2, s3.val, s4.val, s5.val, .string t6, .string t7, .int .i64 n8, .int .i64 n9, .int .i64 n10] →
    ∃ n1 : Int, ∃ n2 : Int, ∃ s3 : Sl, ∃ s4 : Sl, ∃ s5 : Sl, ∃ t6 : ByteArray, ∃ t7 : ByteArray, ∃ n8 : Int, ∃ n9 : Int, ∃ n10 : Int, w'.cell? ⟨z, 0, none⟩ = some (.int .i64 n1) ∧ w'.cell? ⟨z, 1, none⟩ = some (.int .i64 n2) ∧ w'.cell? ⟨z, 2, none⟩ = some (s3.val) ∧ w'.cell? ⟨z, 3, none⟩ = some (s4.val) ∧ w'.cell? ⟨z, 4, none⟩ = some (s5.val) ∧ w'.cell? ⟨z, 5, none⟩ = some (.string t6) ∧ w'.cell? ⟨z, 6, none⟩ = some (.string t7) ∧ w'.cell? ⟨z, 7, none⟩ = some (.int .i64 n8) ∧ w'.cell? ⟨z, 8, none⟩ = some (.int .i64 n9) ∧ w'.cell? ⟨z, 9, none⟩ = some (.int .i64 n10) ∧
    KA D V w0 s' (.agg #[.int .i64 n1, .int .i64 n2, s3.val, s4.val, s5.val, .string t6, .string t7, .int .i64 n8, .int .i64 n9, .int .i64 n10]) w' := by
  subst e
  exact h.fin (K := KA D V w0 s') (fun w' hx c => ⟨S, rfl, fun w2 c2 => (hx.chg c2 (fun k hk he => by have := hV k he; omega)).is.wid (fun _ h => Or.inr h), c⟩) (T := T_api_State)
/-- A fault of what was. -/
theorem RM.flt (h : RM w0 w a z m S0 S s) (hw : Hd D V w0 S0 s0) (n1 : s0.stack.length ≤ 1000) (n2 : s0.back.length ≤ 1000) (c : Int) {s' : StV} (e : s' = mFault s0 c) :
    ∃ n1 : Int, ∃ n2 : Int, ∃ s3 : Sl, ∃ s4 : Sl, ∃ s5 : Sl, ∃ t6 : ByteArray, ∃ t7 : ByteArray, ∃ n8 : Int, ∃ n9 : Int, ∃ n10 : Int, w.cell? ⟨a, 0, none⟩ = some (.int .i64 n1) ∧ w.cell? ⟨a, 1, none⟩ = some (.int .i64 n2) ∧ w.cell? ⟨a, 2, none⟩ = some (s3.val) ∧ w.cell? ⟨a, 3, none⟩ = some (s4.val) ∧ w.cell? ⟨a, 4, none⟩ = some (s5.val) ∧ w.cell? ⟨a, 5, none⟩ = some (.string t6) ∧ w.cell? ⟨a, 6, none⟩ = some (.string t7) ∧ w.cell? ⟨a, 7, none⟩ = some (.int .i64 n8) ∧ w.cell? ⟨a, 8, none⟩ = some (.int .i64 n9) ∧ w.cell? ⟨a, 9, none⟩ = some (.int .i64 n10) ∧
    Calls Tryz.prog fn_hollowayref9_Fault #[.agg #[.int .i64 n1, .int .i64 n2, s3.val, s4.val, s5.val, .string t6, .string t7, .int .i64 n8, .int .i64 n9, .int .i64 n10], .int .i64 c] w fun e w => ∃ n1 : Int, ∃ n2 : Int, ∃ s3 : Sl, ∃ s4 : Sl, ∃ s5 : Sl, ∃ t6 : ByteArray, ∃ t7 : ByteArray, ∃ n8 : Int, ∃ n9 : Int, ∃ n10 : Int, e = .returned (.agg #[.int .i64 n1, .int .i64 n2, s3.val, s4.val, s5.val, .string t6, .string t7, .int .i64 n8, .int .i64 n9, .int .i64 n10]) ∧
    wrOk w ⟨z, 0, none⟩ 10 ∧ ∀ w' : World, w' = stW w ⟨z, 0, none⟩ 0 [.int .i64 n1, .int .i64 n2, s3.val, s4.val, s5.val, .string t6, .string t7, .int .i64 n8, .int .i64 n9, .int .i64 n10] →
    ∃ n1 : Int, ∃ n2 : Int, ∃ s3 : Sl, ∃ s4 : Sl, ∃ s5 : Sl, ∃ t6 : ByteArray, ∃ t7 : ByteArray, ∃ n8 : Int, ∃ n9 : Int, ∃ n10 : Int, w'.cell? ⟨z, 0, none⟩ = some (.int .i64 n1) ∧ w'.cell? ⟨z, 1, none⟩ = some (.int .i64 n2) ∧ w'.cell? ⟨z, 2, none⟩ = some (s3.val) ∧ w'.cell? ⟨z, 3, none⟩ = some (s4.val) ∧ w'.cell? ⟨z, 4, none⟩ = some (s5.val) ∧ w'.cell? ⟨z, 5, none⟩ = some (.string t6) ∧ w'.cell? ⟨z, 6, none⟩ = some (.string t7) ∧ w'.cell? ⟨z, 7, none⟩ = some (.int .i64 n8) ∧ w'.cell? ⟨z, 8, none⟩ = some (.int .i64 n9) ∧ w'.cell? ⟨z, 9, none⟩ = some (.int .i64 n10) ∧
    KA D V w0 s' (.agg #[.int .i64 n1, .int .i64 n2, s3.val, s4.val, s5.val, .string t6, .string t7, .int .i64 n8, .int .i64 n9, .int .i64 n10]) w' := by
  subst e
  refine rdSt h.oa ((rfault_any S0 hw h.c n1 n2 c).mono ?_)
  rintro e w2 ⟨S2, rfl, h2, c2⟩
  have zz := h.oz.lt
  refine ⟨_, _, _, _, _, _, _, _, _, _, rfl, setSt S2 (h.oz.no c2) (by decide) rfl rfl fun w3 o3 c3 => rdSt o3 ?_⟩
  have g : Chg No w0 w3 := (h.c.trans c2 (U := No) (fun _ _ h => h) (fun _ _ h => h)).trans c3 (fun _ _ h => h) (fun k hk he => by have he : k = z := he; have := h.zz; omega)
  refine ⟨S2, rfl, fun w4 c4 => h2 w4 (fun k => k = z ∨ V k) (c3.trans c4 (fun _ _ h => Or.inl h) (fun _ _ h => Or.inr h)) (fun k hk he => ?_) (g.trans c4 (fun _ _ h => h.elim) (fun _ _ h => h)), g⟩
  have := h.c.size
  rcases he with he | he
  · omega
  · have := hw.lt k he; omega
/-- A fault of the working state. -/
theorem RM.thr (h : RM w0 w a z m S0 S s) (hV : ∀ k, V k → k < w0.heap.size) (n1 : s.stack.length ≤ 1000) (n2 : s.back.length ≤ 1000) (c : Int) {s' : StV} (e : s' = mFault s c) :
    ∃ n1 : Int, ∃ n2 : Int, ∃ s3 : Sl, ∃ s4 : Sl, ∃ s5 : Sl, ∃ t6 : ByteArray, ∃ t7 : ByteArray, ∃ n8 : Int, ∃ n9 : Int, ∃ n10 : Int, w.cell? ⟨m, 0, none⟩ = some (.int .i64 n1) ∧ w.cell? ⟨m, 1, none⟩ = some (.int .i64 n2) ∧ w.cell? ⟨m, 2, none⟩ = some (s3.val) ∧ w.cell? ⟨m, 3, none⟩ = some (s4.val) ∧ w.cell? ⟨m, 4, none⟩ = some (s5.val) ∧ w.cell? ⟨m, 5, none⟩ = some (.string t6) ∧ w.cell? ⟨m, 6, none⟩ = some (.string t7) ∧ w.cell? ⟨m, 7, none⟩ = some (.int .i64 n8) ∧ w.cell? ⟨m, 8, none⟩ = some (.int .i64 n9) ∧ w.cell? ⟨m, 9, none⟩ = some (.int .i64 n10) ∧
    Calls Tryz.prog fn_hollowayref9_Fault #[.agg #[.int .i64 n1, .int .i64 n2, s3.val, s4.val, s5.val, .string t6, .string t7, .int .i64 n8, .int .i64 n9, .int .i64 n10], .int .i64 c] w fun e w => ∃ n1 : Int, ∃ n2 : Int, ∃ s3 : Sl, ∃ s4 : Sl, ∃ s5 : Sl, ∃ t6 : ByteArray, ∃ t7 : ByteArray, ∃ n8 : Int, ∃ n9 : Int, ∃ n10 : Int, e = .returned (.agg #[.int .i64 n1, .int .i64 n2, s3.val, s4.val, s5.val, .string t6, .string t7, .int .i64 n8, .int .i64 n9, .int .i64 n10]) ∧
    wrOk w ⟨z, 0, none⟩ 10 ∧ ∀ w' : World, w' = stW w ⟨z, 0, none⟩ 0 [.int .i64 n1, .int .i64 n2, s3.val, s4.val, s5.val, .string t6, .string t7, .int .i64 n8, .int .i64 n9, .int .i64 n10] →
    ∃ n1 : Int, ∃ n2 : Int, ∃ s3 : Sl, ∃ s4 : Sl, ∃ s5 : Sl, ∃ t6 : ByteArray, ∃ t7 : ByteArray, ∃ n8 : Int, ∃ n9 : Int, ∃ n10 : Int, w'.cell? ⟨z, 0, none⟩ = some (.int .i64 n1) ∧ w'.cell? ⟨z, 1, none⟩ = some (.int .i64 n2) ∧ w'.cell? ⟨z, 2, none⟩ = some (s3.val) ∧ w'.cell? ⟨z, 3, none⟩ = some (s4.val) ∧ w'.cell? ⟨z, 4, none⟩ = some (s5.val) ∧ w'.cell? ⟨z, 5, none⟩ = some (.string t6) ∧ w'.cell? ⟨z, 6, none⟩ = some (.string t7) ∧ w'.cell? ⟨z, 7, none⟩ = some (.int .i64 n8) ∧ w'.cell? ⟨z, 8, none⟩ = some (.int .i64 n9) ∧ w'.cell? ⟨z, 9, none⟩ = some (.int .i64 n10) ∧
    KA D V w0 s' (.agg #[.int .i64 n1, .int .i64 n2, s3.val, s4.val, s5.val, .string t6, .string t7, .int .i64 n8, .int .i64 n9, .int .i64 n10]) w' := by
  subst e
  have zz := h.oz.lt
  have zc := h.c.size
  have hd : Hd (fun k => w0.heap.size ≤ k ∧ k ≠ a ∧ k ≠ z ∧ k ≠ m) (fun k => k = z ∨ V k) w S s := ⟨fun w2 c2 => (h.x.chg c2 (fun k hk he => by
    rcases he with he | he
    · exact hk.2.2.1 he
    · have := hV k he; omega)).is, fun k hk => by
    rcases hk with hk | hk
    · omega
    · have := hV k hk; omega⟩
  refine rdSt h.om ((rfault_any S hd (Chg.refl No w) n1 n2 c).mono ?_)
  rintro e w2 ⟨S2, rfl, h2, c2⟩
  refine ⟨_, _, _, _, _, _, _, _, _, _, rfl, setSt S2 (h.oz.no c2) (by decide) rfl rfl fun w3 o3 c3 => rdSt o3 ?_⟩
  have g : Chg No w0 w3 := (h.c.trans c2 (U := No) (fun _ _ h => h) (fun _ _ h => h)).trans c3 (fun _ _ h => h) (fun k hk he => by have he : k = z := he; have := h.zz; omega)
  have g2 : Chg (fun k => k = z) w w3 := c2.trans c3 (fun _ _ h => h.elim) (fun _ _ h => h)
  refine ⟨S2, rfl, fun w4 c4 => (h2 w4 (fun k => k = z ∨ V k) (c3.trans c4 (fun _ _ h => Or.inl h) (fun _ _ h => Or.inr h)) (fun k hk he => ?_) (g2.trans c4 (fun _ _ h => Or.inl h) (fun _ _ h => Or.inr h))).wid (fun k hk => Or.inr ?_), g⟩
  · rcases he with he | he
    · omega
    · have := hV k he; omega
  · rcases hk with hk | hk
    · exact hk.1
    · omega
end
end Go.Proofs.YtkjpmkopnkkbmaaGreatDoor

/- hollowayref9.Step: a step of the document's machine is a step of the machine. -/
set_option maxRecDepth 100000
namespace Go.Proofs.YtkjpmkopnkkbmaaGreatDoor
open Go.RowKit

section
variable {w0 w : World} {a z m : Nat} {S0 S : StC} {s s0 : StV} {D : Nat → Prop}
theorem RM.sl (h : RM w0 w a z m S0 S s) : S.stack = ⟨S.stack.ptr, s.stack.length, S.stack.cap⟩ := by rw [← h.x.st.rd.len]
theorem lsub {l : Sl} {N : Nat} {q : Sl} (h : l = ⟨q.ptr, N, q.cap⟩) : l = ⟨l.ptr, N, l.cap⟩ := by rw [h]
end
def RMB (w0 w : World) (a z m : Nat) (S0 : StC) (l : Sl) (xs : List Int) : Prop := ∃ S' s', RM w0 w a z m S0 S' s' ∧ S'.back = l ∧ s'.back = xs
theorem mDo_reck {s : StV} {c arg was : Int} (h : 11 ≤ c ∧ c ≤ 29) : mDo s c arg was = mReck s c := by
  unfold mDo
  rw [if_neg (by omega), if_neg (by omega), if_neg (by omega), if_neg (by omega), if_neg (by omega), if_neg (by omega), if_neg (by omega), if_neg (by omega), if_neg (by omega), if_neg (by omega), if_neg (by omega), if_neg (by omega), if_neg (by omega)]
theorem geN {c n : Int} (h : n ≤ c) (q : c ≠ n) : n + 1 ≤ c := by omega
theorem c47 {c : Int} (h : 0 ≤ c ∧ c < 48) (q0 : c ≠ 0) (q1 : c ≠ 1) (q2 : c ≠ 2) (q3 : c ≠ 3) (q4 : c ≠ 4) (q5 : c ≠ 5) (q6 : c ≠ 6) (q7 : c ≠ 7) (q8 : c ≠ 8) (q9 : c ≠ 9) (q10 : c ≠ 10)
    (two : ¬ (11 ≤ c ∧ c ≤ 15 ∨ 17 ≤ c ∧ c ≤ 19 ∨ 21 ≤ c ∧ c ≤ 25 ∨ c = 28 ∨ c = 29)) (one : ¬ (c = 16 ∨ c = 20 ∨ c = 26 ∨ c = 27)) (qm : ¬ (30 ≤ c ∧ c ≤ 32)) (q33 : c ≠ 33) (q34 : c ≠ 34) (q35 : c ≠ 35) (q36 : c ≠ 36) (ql : ¬ (c = 37 ∨ c = 38)) (q39 : c ≠ 39) (q40 : c ≠ 40) (qs : ¬ (c = 41 ∨ c = 42)) (q43 : c ≠ 43) (q44 : c ≠ 44) (q45 : c ≠ 45) (q46 : c ≠ 46) : c = 47 := by
  have a11 : 11 ≤ c := geN (geN (geN (geN (geN (geN (geN (geN (geN (geN (geN h.1 q0) q1) q2) q3) q4) q5) q6) q7) q8) q9) q10
  clear q0 q1 q2 q3 q4 q5 q6 q7 q8 q9 q10
  have a33 : 33 ≤ c := by clear q33 q34 q35 q36 ql q39 q40 qs q43 q44 q45 q46; omega
  have a37 : 37 ≤ c := geN (geN (geN (geN a33 q33) q34) q35) q36
  clear q33 q34 q35 q36 two one qm
  have a39 : 39 ≤ c := by clear q39 q40 qs q43 q44 q45 q46; omega
  have a41 : 41 ≤ c := geN (geN a39 q39) q40
  clear q39 q40 ql
  have a43 : 43 ≤ c := by clear q43 q44 q45 q46; omega
  have a47 : 47 ≤ c := geN (geN (geN (geN a43 q43) q44) q45) q46
  clear q43 q44 q45 q46 qs
  omega
theorem mDo_47 (s : StV) (arg was : Int) : mDo s 47 arg was = .ok s := by
  unfold mDo
  rw [if_neg (by omega), if_neg (by omega), if_neg (by omega), if_neg (by omega), if_neg (by omega), if_neg (by omega), if_neg (by omega), if_neg (by omega), if_neg (by omega), if_neg (by omega), if_neg (by omega), if_neg (by omega), if_pos rfl]
def stepA (s : StV) : StV := if s.status = 0 then mAdv s else s
set_option maxHeartbeats 400000 in
theorem rstep_any {D V : Nat → Prop} {w : World} (S0 : StC) {s0 : StV} (hw : Hd D V w S0 s0) (ok : MOk s0) (hin : InL s0.stack) :
    Calls Tryz.prog fn_hollowayref9_Step #[.agg (stC S0).toArray] w fun e w' => ∃ v, e = .returned v ∧ KA D V w (stepA s0) v w' := by
  obtain ⟨sF, hF⟩ : ∃ sF, sF = stepA s0 := ⟨_, rfl⟩
  rw [← hF]
  refine (hollowayref9_Step_lift (K := KA D V w sF) ?_).mono (by rintro e w' ⟨v, rfl, h⟩; exact ⟨v, rfl, h⟩)
  unfold hollowayref9_Step_sh
  have k1 := ok.st
  have k2 := ok.bk
  have k3 := ok.me
  have hw0 := hw.at (Chg.refl No w)
  refine inSt S0 fun a w12 ha z12 oa c12 => inSt st0 fun z w14 hz z14 oz c14 => ⟨S0.status, (oa.no c14).cell rfl, brB_of (fun hs => ?_) (fun hs => ?_)⟩
  · have hs : s0.status ≠ 0 := by rw [← hw0.nums.2.2.2.2.2.1]; simpa using hs
    have e : sF = s0 := hF.trans (if_neg hs)
    refine rdSt (oa.no c14) (setSt S0 oz (by decide) rfl rfl fun w26 o26 c26 => rdSt o26 ?_)
    have g : Chg No w w26 := (trN c12 c14).trans c26 (fun _ _ h => h) (fun k hk he => by omega)
    rw [e]
    exact ⟨S0, rfl, fun w2 c2 => (hw.is w2 (g.trans c2 (fun _ _ h => h.elim) (fun _ _ h => h))).wid (fun _ h => Or.inl h), g⟩
  have hs : s0.status = 0 := by rw [← hw0.nums.2.2.2.2.2.1]; simpa using hs
  have hA : sF = mAdv s0 := hF.trans (if_pos hs)
  have aok : ∀ X, mStep s0 = .ok X → sF = X := fun X h => by rw [hA]; unfold mAdv; rw [h]
  have abad : ∀ k, mStep s0 = .bad k false → sF = mFault s0 k := fun k h => by rw [hA]; unfold mAdv; rw [h]; rfl
  have athr : ∀ k, mStep s0 = .bad k true → sF = mFault (popV s0) k := fun k h => by rw [hA]; unfold mAdv; rw [h]; rfl
  clear hA hF
  have k14 := trN c12 c14
  refine rdSt (oa.no c14) ((rcopy_any S0 (hw.at k14) (by omega) (by omega) (by omega)).mono ?_)
  rintro e w48 ⟨S1, rfl, x48, c48⟩
  refine ⟨_, _, _, _, _, _, _, _, _, _, rfl, varSt S1 fun m w61 hm zm om cm => ?_⟩
  have z48 := c48.size
  have h : RM w w61 a z m S0 S1 s0 := ⟨trN (trN k14 c48) cm, by omega, by omega, by omega, by omega, by omega, by omega, ((oa.no c14).no c48).no cm, (oz.no c48).no cm, om, (x48.no cm).wid (fun k hk => ⟨by omega, by omega, by omega, by omega⟩)⟩
  clear x48 om
  have m1 : S1.ip = s0.ip := h.x.nums.1
  have ls := h.x.st.rd.len
  have lb := h.x.bk.rd.len
  have lm := h.x.me.rd.len
  refine ⟨fun b w' => b = decide (s0.ip < 0 ∨ (s0.mem.length : Int) ≤ s0.ip) ∧ w' = w61, ?_, S1.ip, h.om.cell rfl, ?_⟩
  rotate_left
  · refine brB_of (fun t => ⟨?_, rfl⟩) (fun t => ⟨S1.ip, h.om.cell rfl, S1.mem, h.om.cell rfl, ?_, rfl⟩)
    · have t := of_decide_eq_true t
      exact (decide_eq_true (by omega)).symm
    · have t := of_decide_eq_false t
      rw [Bool.eq_iff_iff, decide_eq_true_iff, decide_eq_true_iff]; omega
  rintro b w65 ⟨rfl, rfl⟩
  refine brB_of (fun hb => h.flt hw (by omega) (by omega) (-9) (abad _ ?_)) (fun hb => ⟨S1.mem, h.om.cell rfl, S1.ip, h.om.cell rfl, ?_⟩)
  · unfold mStep; rw [if_pos (of_decide_eq_true hb)]
  have hip := of_decide_eq_false hb
  have hip0 : 0 ≤ s0.ip := by omega
  have hip1 : s0.ip < s0.mem.length := by omega
  clear hb
  rw [m1]
  refine h.getM hip0 hip1 ?_
  obtain ⟨c, hc⟩ : ∃ c, c = getI s0.mem s0.ip := ⟨_, rfl⟩
  rw [← hc]
  refine brB_of (fun h64 => ?_) (fun h64 => ?_)
  · have h64 := of_decide_eq_true h64
    refine ⟨S1.back, h.om.cell rfl, brB_of (fun hb => h.flt hw (by omega) (by omega) (-5) (abad _ ?_)) (fun hb => ⟨S1.back, h.om.cell rfl, S1.ip, h.om.cell rfl, ?_⟩)⟩
    · have hb := of_decide_eq_true hb
      unfold mStep; rw [if_neg hip, ← hc, if_pos (by omega), if_pos (by omega)]
    have hb := of_decide_eq_false hb
    rw [m1, wr_in (by omega)]
    refine h.back [s0.ip + 1] _ rfl (by simp) (by simp) (by omega) (fun w2 S2 _ _ h2 => h2.ip c (fun w3 h3 => h3.done hw.lt (aok _ ?_))) rfl
    unfold mStep; rw [if_neg hip, ← hc, if_pos (by omega), if_neg (by omega)]; rfl
  have h64 := of_decide_eq_false h64
  refine (refOp_any c _).mono ?_
  rintro e w168 ⟨rfl, rfl⟩
  refine ⟨_, rfl, brB_of (fun hb => h.flt hw (by omega) (by omega) (-13) (abad _ ?_)) (fun hb => ?_)⟩
  · have hb : ¬ (0 ≤ c ∧ c < 48) := fun hx => by rw [decide_eq_true hx] at hb; cases hb
    unfold mStep; rw [if_neg hip, ← hc, if_neg (by omega), if_pos hb]
  have hc48 : 0 ≤ c ∧ c < 48 := Classical.byContradiction fun hx => by rw [decide_eq_false hx] at hb; cases hb
  clear hb
  refine ⟨fun arg w' => arg = mArg s0 c ∧ w' = w65 ∧ (opArg c = true → s0.ip + 1 < s0.mem.length), ?_, ?_⟩
  rotate_left
  · refine (refArg_any c _).mono ?_
    rintro e w204 ⟨rfl, rfl⟩
    refine ⟨_, rfl, brB_of (fun ha => ⟨S1.ip, h.om.cell rfl, S1.mem, h.om.cell rfl, ?_⟩) (fun ha => ⟨?_, rfl, fun h => by rw [ha] at h; cases h⟩)⟩
    · rw [m1, wr_in (by omega), lm]
      refine brB_of (fun hb => h.flt hw (by omega) (by omega) (-9) (abad _ ?_)) (fun hb => ⟨S1.mem, h.om.cell rfl, S1.ip, h.om.cell rfl, ?_⟩)
      · have hb := of_decide_eq_true hb
        unfold mStep; rw [if_neg hip, ← hc, if_neg (by omega), if_neg (fun h => h hc48), if_pos ⟨ha, by omega⟩]
      have hb := of_decide_eq_false hb
      rw [m1, wr_in (by omega)]
      refine h.getM (by omega) (by omega) ⟨?_, rfl, fun _ => by omega⟩
      unfold mArg; rw [if_pos ha]
    · unfold mArg; rw [if_neg (by rw [ha]; decide)]
  rintro arg w245 ⟨harg, rfl, hab⟩
  refine (moves_any c _).mono ?_
  rintro e w247 ⟨rfl, rfl⟩
  refine ⟨_, _, _, _, rfl, ?_⟩
  intro w252 hw252
  have h2 := h.no (dw hw252)
  refine ⟨S1.stack, held_Lw (h2.om.cell rfl), S1.back, held_Lw (h2.om.cell rfl), ?_⟩
  rw [ls, lb]
  obtain ⟨⟨t0, t3, b0, b3, g0, g3, y0, y4⟩, trow⟩ := rows_small c.toNat (by omega)
  have ec : ((c.toNat : Nat) : Int) = c := by omega
  rw [ec] at t0 t3 b0 b3 g0 g3 y0 y4 trow
  have room : ∀ k, k ≠ 0 → mRoom s0 c = k → mStep s0 = .bad k false := fun k hk he => by
    unfold mStep; rw [if_neg hip, ← hc, if_neg (by omega), if_neg (fun h => h hc48), if_neg (fun h => by have := hab h.1; omega), he, if_pos hk]
  refine brB_of (fun hb => h2.flt hw (by omega) (by omega) (-4) (abad _ (room _ (by decide) ?_))) (fun r1 => brB_of (fun hb => h2.flt hw (by omega) (by omega) (-6) (abad _ (room _ (by decide) ?_))) (fun r2 => ?_))
  · unfold mRoom; rw [if_pos (of_decide_eq_true hb)]
  · unfold mRoom; rw [if_neg (of_decide_eq_false r1), if_pos (of_decide_eq_true hb)]
  have r1 := of_decide_eq_false r1
  have r2 := of_decide_eq_false r2
  rw [wr_in (x := (s0.stack.length : Int) - (opRow c).takes) (by omega), wr_in (x := (s0.stack.length : Int) - (opRow c).takes + (opRow c).gives) (by omega), wr_in (x := (s0.back.length : Int) - (opRow c).backs) (by omega), wr_in (x := (s0.back.length : Int) - (opRow c).backs + (opRow c).givesBak) (by omega)]
  refine brB_of (fun hb => h2.flt hw (by omega) (by omega) (-3) (abad _ (room _ (by decide) ?_))) (fun r3 => brB_of (fun hb => h2.flt hw (by omega) (by omega) (-5) (abad _ (room _ (by decide) ?_))) (fun r4 => ?_))
  · unfold mRoom; rw [if_neg r1, if_neg r2, if_pos (of_decide_eq_true hb)]
  · unfold mRoom; rw [if_neg r1, if_neg r2, if_neg (of_decide_eq_false r3), if_pos (of_decide_eq_true hb)]
  have r3 := of_decide_eq_false r3
  have r4 := of_decide_eq_false r4
  have hroom : mRoom s0 c = 0 := by unfold mRoom; rw [if_neg r1, if_neg r2, if_neg (by omega), if_neg (by omega)]
  have nd := need_of hc48 hroom
  have hstep : mStep s0 = mDo { s0 with ip := mNext s0 c } c arg s0.ip := by
    rw [harg]
    unfold mStep; rw [if_neg hip, ← hc, if_neg (by omega), if_neg (fun h => h hc48), if_neg (fun h => by have := hab h.1; omega), if_neg (fun h => h hroom)]
  clear room hab harg
  rw [hstep] at aok abad athr
  refine ⟨fun p w' => p = topV s0 ∧ w' = w252, ?_, ?_⟩
  rotate_left
  · refine brB_of (fun hp => ?_) (fun hp => ⟨?_, rfl⟩)
    · have hp := of_decide_eq_true hp
      rw [wr_in (x := (s0.stack.length : Int) - 1) (by omega)]
      exact h2.getS (by omega) (by omega) ⟨rfl, rfl⟩
    · have hp := of_decide_eq_false hp
      have : s0.stack = [] := List.length_eq_zero_iff.1 (by omega)
      unfold topV getI; rw [this]; rfl
  rintro p w390 ⟨hp, rfl⟩
  refine ⟨fun q w' => (2 ≤ s0.stack.length → q = getI s0.stack ((s0.stack.length : Int) - 2)) ∧ w' = w390, ?_, ?_⟩
  rotate_left
  · refine brB_of (fun hp => ?_) (fun hp => ⟨fun h => ?_, rfl⟩)
    · have hp := of_decide_eq_true hp
      rw [wr_in (x := (s0.stack.length : Int) - 2) (by omega)]
      exact h2.getS (by omega) (by omega) ⟨fun _ => rfl, rfl⟩
    · have hp := of_decide_eq_false hp
      omega
  rintro q w394 ⟨hq, rfl⟩
  refine ⟨fun r w' => (3 ≤ s0.stack.length → r = getI s0.stack ((s0.stack.length : Int) - 3)) ∧ w' = w394, ?_, ?_⟩
  rotate_left
  · refine brB_of (fun hp => ?_) (fun hp => ⟨fun h => ?_, rfl⟩)
    · have hp := of_decide_eq_true hp
      rw [wr_in (x := (s0.stack.length : Int) - 3) (by omega)]
      exact h2.getS (by omega) (by omega) ⟨fun _ => rfl, rfl⟩
    · have hp := of_decide_eq_false hp
      omega
  rintro r w398 ⟨hr, rfl⟩
  refine ⟨S1.ip, h2.om.cell rfl, ?_⟩
  rw [m1, wr_in (x := s0.ip + 1) (by omega)]
  refine h2.ip (s0.ip + 1) fun w400 h3 => ?_
  obtain ⟨nx, hnx⟩ : ∃ nx, nx = mNext s0 c := ⟨_, rfl⟩
  rw [← hnx] at aok abad athr hstep
  have hnxr : s0.ip + 1 ≤ nx ∧ nx ≤ s0.ip + 2 := by rw [hnx]; unfold mNext; split <;> omega
  refine ⟨fun w' => ∃ S', RM w w' a z m S0 S' { s0 with ip := nx }, ?_, ?_⟩
  rotate_left
  · refine (refArg_any c _).mono ?_
    rintro e w402 ⟨rfl, rfl⟩
    refine ⟨_, rfl, brB_of (fun ha => ⟨_, h3.om.cell rfl, ?_⟩) (fun ha => ?_)⟩
    · rw [wr_in (by show _ ≤ s0.ip + 1 + 1 ∧ s0.ip + 1 + 1 ≤ _; omega)]
      have e : nx = s0.ip + 1 + 1 := by rw [hnx]; unfold mNext; rw [if_pos ha]; omega
      refine h3.ip _ fun w405 h4 => ?_
      rw [e]; exact ⟨_, h4⟩
    · have e : nx = s0.ip + 1 := by rw [hnx]; unfold mNext; rw [if_neg (by rw [ha]; decide)]
      rw [e]; exact ⟨_, h3⟩
  rintro w406 ⟨S6, h6⟩
  clear h3 h2 h
  have cs6 := h6.x.st.rd.capL
  have hlen6 : s0.stack.length ≤ S6.stack.cap := cs6.1
  refine ⟨S6.stack, h6.om.cell rfl, by omega, by omega, fun l hl => ?_⟩
  rw [sub0] at hl
  obtain ⟨N, hN⟩ : ∃ N : Nat, N = ((s0.stack.length : Int) - (opRow c).takes).toNat := ⟨_, rfl⟩
  rw [← hN] at hl
  have hNv : (N : Int) = (s0.stack.length : Int) - (opRow c).takes := by omega
  have hNle : N ≤ s0.stack.length := by omega
  have hpin : Cn.In p := by rw [hp]; exact hin.get _
  have hqin : 2 ≤ s0.stack.length → Cn.In q := fun h => by rw [hq h]; exact hin.get _
  have top0 : topV { s0 with ip := nx } = p := hp.symm
  have top2' : 2 ≤ s0.stack.length → topV (popV { s0 with ip := nx }) = q := fun h => (top_2 (s := { s0 with ip := nx }) h).trans (hq h).symm
  have top3' : 3 ≤ s0.stack.length → topV (popV (popV { s0 with ip := nx })) = r := fun h => (top_3 (s := { s0 with ip := nx }) h).trans (hr h).symm
  refine (risTwo_any c _).mono ?_
  rintro e w410 ⟨rfl, rfl⟩
  refine ⟨_, rfl, brB_of (fun htwo => ?_) (fun htwo => ?_)⟩
  · have hr2 : 11 ≤ c ∧ c ≤ 29 ∧ c ≠ 16 ∧ c ≠ 20 ∧ c ≠ 26 ∧ c ≠ 27 := by
      unfold Cn.risTwo at htwo
      have := of_decide_eq_true htwo; omega
    have ht := (trow (by omega)).2.2.2
    rw [if_neg (by omega)] at ht
    have hone := risOne_not htwo
    have hm : mDo { s0 with ip := nx } c arg s0.ip = mReck { s0 with ip := nx } c := mDo_reck (by omega)
    have hm2 : mReck { s0 with ip := nx } c = if Cn.isTwo c p = true then .ok (pushV (popV (popV { s0 with ip := nx })) [Cn.two c q p]) else .bad (-10) false := by
      unfold mReck; rw [if_neg (by rw [hone]; decide), top0, top2' (by omega)]
    refine (rtwo_any c q p hpin _).mono ?_
    rintro e w415 ⟨rfl, rfl⟩
    refine ⟨_, _, rfl, brB_of (fun hb => h6.flt hw (by omega) (by omega) (-10) (abad _ ?_)) (fun hb => ?_)⟩
    · have hb : Cn.isTwo c p = false := by simpa using hb
      rw [hm, hm2, if_neg (by rw [hb]; decide)]
    · have hb : Cn.isTwo c p = true := by simpa using hb
      refine h6.push (n := N) hNle [Cn.rtwo c q p] _ rfl (by simp) (by simp) (by show s0.stack.length ≤ _; omega) (fun w2 S2 _ _ h7 => h7.done hw.lt (aok _ ?_)) rfl hl
      rw [hm, hm2, if_pos hb, Cn.rtwo_two (hqin (by omega)), pop2, show N = s0.stack.length - 2 by omega]; rfl
  have htwo' : ¬ (11 ≤ c ∧ c ≤ 15 ∨ 17 ≤ c ∧ c ≤ 19 ∨ 21 ≤ c ∧ c ≤ 25 ∨ c = 28 ∨ c = 29) := by
    unfold Cn.risTwo at htwo
    have := of_decide_eq_false htwo; omega
  refine (risOne_any c _).mono ?_
  rintro e w478 ⟨rfl, rfl⟩
  refine ⟨_, rfl, brB_of (fun hone => ?_) (fun hone => ?_)⟩
  · have hr2 : c = 16 ∨ c = 20 ∨ c = 26 ∨ c = 27 := by
      unfold Cn.risOne at hone
      have := of_decide_eq_true hone; omega
    have ht := (trow (by omega)).2.2.2
    rw [if_pos (by omega)] at ht
    have hm : mDo { s0 with ip := nx } c arg s0.ip = mReck { s0 with ip := nx } c := mDo_reck (by omega)
    refine (rone_any c p _).mono ?_
    rintro e w481 ⟨rfl, rfl⟩
    refine ⟨_, _, rfl, ?_⟩
    refine h6.push (n := N) hNle [Cn.rone c p] _ rfl (by simp) (by simp) (by show s0.stack.length ≤ _; omega) (fun w2 S2 _ _ h7 => h7.done hw.lt (aok _ ?_)) rfl hl
    rw [hm]; unfold mReck
    rw [if_pos (by rw [isOne_eq]; exact hone), top0, rone_one, show N = s0.stack.length - 1 by omega]; rfl
  have hone' : ¬ (c = 16 ∨ c = 20 ∨ c = 26 ∨ c = 27) := by
    unfold Cn.risOne at hone
    have := of_decide_eq_false hone; omega
  have eqb : ∀ {n : Int}, (c == n) = true → c = n := fun h => by simpa using h
  have neb : ∀ {n : Int}, (c == n) = false → c ≠ n := fun h => by simpa using h
  clear htwo hone trow
  obtain ⟨a1, a2, a3, a4, a5⟩ := rows_d1 c.toNat (by omega)
  obtain ⟨a6, a7, a8⟩ := rows_d2 c.toNat (by omega)
  obtain ⟨a9, a10, a11⟩ := rows_d3 c.toNat (by omega)
  obtain ⟨a12, a13, a14⟩ := rows_g1 c.toNat (by omega)
  rw [ec] at a1 a2 a3 a4 a5 a6 a7 a8 a9 a10 a11 a12 a13 a14
  have lb6 : S6.back.len = s0.back.length := h6.x.bk.rd.len
  have lm6 : S6.mem.len = s0.mem.length := h6.x.me.rd.len
  have tB1 : ((s0.back.length : Int) - 1).toNat = s0.back.length - 1 := by omega
  have tB2 : ((s0.back.length : Int) - 2).toNat = s0.back.length - 2 := by omega
  have tkAll : N = s0.stack.length → s0.stack.take N = s0.stack := fun h => by rw [h, List.take_length]
  have L100 : ({ s0 with ip := nx } : StV).stack.length ≤ 10000 := by show s0.stack.length ≤ _; omega
  have B100 : ({ s0 with ip := nx } : StV).back.length ≤ 10000 := by show s0.back.length ≤ _; omega
  refine ⟨fun w' => ∃ S' s', RM w w' a z m S0 S' s' ∧ sF = s', (fun w924 h => by obtain ⟨S', s', h, e⟩ := h; exact h.done hw.lt e), ?_⟩
  refine brB_of (fun k => ?_) (fun q0 => ?_)
  · have k := eqb k
    have hn : nx = s0.ip + 1 := by rw [hnx, k]; rfl
    refine ⟨S6.ip, h6.om.cell rfl, ?_⟩
    rw [show S6.ip = nx from h6.x.nums.1, wr_in (by omega), show nx - 1 = s0.ip by omega]
    exact h6.ip s0.ip fun w1 h => h.sta 1 fun w2 h => ⟨_, _, h, aok _ (by rw [k]; rfl)⟩
  refine brB_of (fun k => ?_) (fun q1 => ?_)
  · have k := eqb k
    have hm : mDo { s0 with ip := nx } c arg s0.ip = mEnd { s0 with ip := nx } := by rw [k]; rfl
    refine ⟨S6.handler, h6.om.cell rfl, ?_⟩
    rw [show S6.handler = s0.handler from h6.x.nums.2.1]
    refine ⟨fun b w' => b = decide (s0.handler < 3 ∨ (s0.back.length : Int) ≠ s0.handler) ∧ w' = w406, ?_, ?_⟩
    rotate_left
    · refine brB_of (fun t => ⟨?_, rfl⟩) (fun t => ⟨?_, rfl⟩)
      · exact (decide_eq_true (Or.inl (of_decide_eq_true t))).symm
      · have t := of_decide_eq_false t
        rw [Bool.eq_iff_iff, bne_iff_ne, decide_eq_true_iff]
        exact ⟨Or.inr, fun h => h.resolve_left t⟩
    rintro b w514 ⟨rfl, rfl⟩
    refine brB_of (fun hb => h6.flt hw (by omega) (by omega) (-25) (abad _ ?_)) (fun hb => ?_)
    · rw [hm]; unfold mEnd; rw [if_pos (of_decide_eq_true hb)]
    have hb := of_decide_eq_false hb
    refine brB_of (fun hb48 => h6.flt hw (by omega) (by omega) (-3) (abad _ ?_)) (fun hb48 => ?_)
    · rw [hm]; unfold mEnd; rw [if_neg hb, if_pos (by have := of_decide_eq_true hb48; show 48 ≤ s0.stack.length; omega)]
    have hb48 := of_decide_eq_false hb48
    have hbe : s0.handler = (s0.back.length : Int) := by omega
    have hbe3 : 3 ≤ s0.back.length := by omega
    rw [hbe, wr_in (x := (s0.back.length : Int) - 3) (by omega), wr_in (x := (s0.back.length : Int) - 2) (by omega)]
    intro w582 hw582
    have h7 := h6.no (dw hw582)
    have rdb : ∀ w', RMB w w' a z m S0 S6.back s0.back → Rd intE w' S6.back s0.back := fun w' h => by
      obtain ⟨S', s', g, e, e'⟩ := h; have := g.x.bk.rd; rw [e, e'] at this; exact this
    have rdc : ∀ w', RMB w w' a z m S0 S6.back s0.back → w'.cell? ⟨m, 3, none⟩ = some S6.back.val := fun w' h => by
      obtain ⟨S', s', g, e, e'⟩ := h; rw [← e]; exact g.om.cell rfl
    refine ⟨fun w' => RMB w w' a z m S0 S6.back s0.back, ⟨_, _, h7, rfl, rfl⟩, S6.back, rdc, ?_⟩
    refine Rd.hix (S := fun w' => RMB w w' a z m S0 S6.back s0.back) ⟨_, _, h7, rfl, rfl⟩ rdb (i := (s0.back.length : Int) - 3) (by omega) (getI_at (by omega) (by omega)) fun a585 _ hc585 => ?_
    have g585 := hc585 0 _ rfl
    rw [Go.Proofs.YtkjpmkopnkkbmaaGreatDoor.add0] at g585
    refine ⟨_, g585, S6.back, rdc, ?_⟩
    refine Rd.hix (S := fun w' => RMB w w' a z m S0 S6.back s0.back) ⟨_, _, h7, rfl, rfl⟩ rdb (i := (s0.back.length : Int) - 2) (by omega) (getI_at (by omega) (by omega)) fun a588 _ hc588 => ?_
    have g588 := hc588 0 _ rfl
    rw [Go.Proofs.YtkjpmkopnkkbmaaGreatDoor.add0] at g588
    refine ⟨_, g588, ?_⟩
    refine h7.ip (getI s0.back ((s0.back.length : Int) - 3)) fun w590 h8 => ⟨⟨_, _, h8, rfl, rfl⟩, ?_⟩
    refine h8.hnd (getI s0.back ((s0.back.length : Int) - 2)) fun w591 h9 => ?_
    refine h9.cutB (i := (s0.back.length : Int) - 3) (by omega) (by show (s0.back.length : Int) - 3 ≤ (s0.back.length : Int); omega) ?_
    intro w594 S594 _ _ h10
    refine ⟨S594.stack, h10.om.cell rfl, ?_⟩
    refine h10.push (n := s0.stack.length) (Nat.le_refl _) [0] _ rfl (by simp) (by simp) L100 ?_ rfl h10.sl
    refine fun w2 S2 _ _ h => ⟨_, _, h, aok _ ?_⟩
    rw [hm]; unfold mEnd
    rw [if_neg hb, if_neg (by show ¬ 48 ≤ s0.stack.length; omega), popb3, topb2 (s := { s0 with ip := nx }) (by show 2 ≤ s0.back.length; omega), topb3 (s := { s0 with ip := nx }) (by show 3 ≤ s0.back.length; omega), List.take_length, show ((s0.back.length : Int) - 3).toNat = s0.back.length - 3 by omega]; rfl
  refine brB_of (fun k => ?_) (fun q2 => ?_)
  · have k := eqb k
    refine h6.push hNle [arg] _ rfl (by simp) (by simp) L100 ?_ rfl hl
    exact fun w2 S2 _ _ h => ⟨_, _, h, aok _ (by rw [k, tkAll (by have := (a12 (by omega)).1; omega)]; rfl)⟩
  refine brB_of (fun k => ?_) (fun q3 => ?_)
  · have k := eqb k
    exact h6.ip arg fun w1 h => ⟨_, _, h, aok _ (by rw [k]; rfl)⟩
  refine brB_of (fun k => ?_) (fun q4 => ?_)
  · have k := eqb k
    have hN1 : N = s0.stack.length - 1 := by have := a1 (by omega); omega
    have e4 : mDo { s0 with ip := nx } c arg s0.ip = if p ≠ 0 then .ok (popV { s0 with ip := nx }) else .ok { popV { s0 with ip := nx } with ip := arg } := by
      rw [hp, k]; rfl
    refine h6.cutS hNle hl fun w1 h => ?_
    refine brB_of (fun hp0 => h.ip arg fun w2 h => ⟨_, _, h, aok _ ?_⟩) (fun hp0 => ⟨_, _, h, aok _ ?_⟩)
    · rw [e4, if_neg (by simpa using hp0), hN1]; rfl
    · rw [e4, if_pos (by simpa using hp0), hN1]; rfl
  refine brB_of (fun k => ?_) (fun q5 => ?_)
  · have k := eqb k
    have hb1 := nd.b1 (Or.inl k)
    rw [wr_in (x := (s0.back.length : Int) - 1) (by omega)]
    refine h6.getB (i := (s0.back.length : Int) - 1) (by omega) (by show _ < (s0.back.length : Int); omega) ?_
    refine h6.ip _ fun w1 h => ?_
    refine h.cutB (i := (s0.back.length : Int) - 1) (by omega) (by show _ ≤ (s0.back.length : Int); omega) ?_
    refine fun w2 S2 _ _ h => ⟨_, _, h, aok _ ?_⟩
    rw [k, tB1]; rfl
  refine brB_of (fun k => ?_) (fun q6 => ?_)
  · have k := eqb k
    have hN1 : N = s0.stack.length - 1 := by have := a3 (by omega); omega
    refine h6.push hNle [p, p] _ rfl (by simp) (by simp) L100 ?_ rfl hl
    exact fun w2 S2 _ _ h => ⟨_, _, h, aok _ (by rw [k, hN1, hp]; rfl)⟩
  refine brB_of (fun k => ?_) (fun q7 => ?_)
  · have k := eqb k
    have hN1 : N = s0.stack.length - 1 := by have := a3 (by omega); omega
    refine h6.cutS hNle hl fun w1 h => ?_
    exact ⟨_, _, h, aok _ (by rw [k, hN1]; rfl)⟩
  refine brB_of (fun k => ?_) (fun q8 => ?_)
  · have k := eqb k
    have hn2 := nd.n2 (by omega)
    have hN1 : N = s0.stack.length - 2 := by have := a4 (by omega); omega
    have e8 : mDo { s0 with ip := nx } 8 arg s0.ip = .ok (pushV (popV (popV { s0 with ip := nx })) [topV { s0 with ip := nx }, topV (popV { s0 with ip := nx })]) := rfl
    refine h6.push hNle [p, q] _ rfl (by simp) (by simp) L100 ?_ rfl hl
    exact fun w2 S2 _ _ h => ⟨_, _, h, aok _ (by rw [k, e8, top0, top2' hn2, pop2, hN1]; rfl)⟩
  refine brB_of (fun k => ?_) (fun q9 => ?_)
  · have k := eqb k
    have hn2 := nd.n2 (by omega)
    have hN1 : N = s0.stack.length - 2 := by have := a4 (by omega); omega
    have e9 : mDo { s0 with ip := nx } 9 arg s0.ip = .ok (pushV (popV (popV { s0 with ip := nx })) [topV (popV { s0 with ip := nx }), topV { s0 with ip := nx }, topV (popV { s0 with ip := nx })]) := rfl
    refine h6.push hNle [q, p, q] _ rfl (by simp) (by simp) L100 ?_ rfl hl
    exact fun w2 S2 _ _ h => ⟨_, _, h, aok _ (by rw [k, e9, top0, top2' hn2, pop2, hN1]; rfl)⟩
  refine brB_of (fun k => ?_) (fun q10 => ?_)
  · have k := eqb k
    have hn3 := nd.n3 k
    have hN1 : N = s0.stack.length - 3 := by have := a5 (by omega); omega
    have e10 : mDo { s0 with ip := nx } 10 arg s0.ip = .ok (pushV (popV (popV (popV { s0 with ip := nx }))) [topV (popV { s0 with ip := nx }), topV { s0 with ip := nx }, topV (popV (popV { s0 with ip := nx }))]) := rfl
    refine h6.push hNle [q, p, r] _ rfl (by simp) (by simp) L100 ?_ rfl hl
    exact fun w2 S2 _ _ h => ⟨_, _, h, aok _ (by rw [k, e10, top0, top2' (by omega), top3' hn3, pop3, hN1]; rfl)⟩
  clear top3' a5 a4 a3 a2 a1
  refine ⟨fun b w' => b = decide (30 ≤ c ∧ c ≤ 32) ∧ w' = w406, ?_, ?_⟩
  rotate_left
  · refine brB_of (fun k => ?_) (fun k1 => brB_of (fun k => ?_) (fun k2 => ?_))
    · exact ⟨by rw [eqb k]; rfl, rfl⟩
    · exact ⟨by rw [eqb k]; rfl, rfl⟩
    · have k1 := neb k1
      have k2 := neb k2
      refine ⟨?_, rfl⟩
      rw [Bool.eq_iff_iff, beq_iff_eq, decide_eq_true_iff]; omega
  rintro b w639 ⟨rfl, rfl⟩
  refine brB_of (fun k => ?_) (fun qm => ?_)
  · have k := of_decide_eq_true k
    have hm : mDo { s0 with ip := nx } c arg s0.ip = mMem { s0 with ip := nx } c := by
      rcases (by omega : c = 30 ∨ c = 31 ∨ c = 32) with e | e | e <;> (rw [e]; rfl)
    refine ⟨fun b w' => b = decide (p < 0 ∨ (s0.mem.length : Int) ≤ p) ∧ w' = w639, ?_, ?_⟩
    rotate_left
    · refine brB_of (fun t => ⟨?_, rfl⟩) (fun t => ⟨S6.mem, h6.om.cell rfl, ?_, rfl⟩)
      · exact (decide_eq_true (Or.inl (of_decide_eq_true t))).symm
      · have t := of_decide_eq_false t
        rw [lm6, Bool.eq_iff_iff, decide_eq_true_iff, decide_eq_true_iff]
        exact ⟨Or.inr, fun h => h.resolve_left t⟩
    rintro b w642 ⟨rfl, rfl⟩
    refine brB_of (fun hb => h6.flt hw (by omega) (by omega) (-9) (abad _ ?_)) (fun hb => ?_)
    · rw [hm]; unfold mMem; rw [top0, if_pos (of_decide_eq_true hb)]
    have hb := of_decide_eq_false hb
    have hp0 : 0 ≤ p := by omega
    have hp1 : p < (s0.mem.length : Int) := by omega
    have lenN : (s0.stack.take N).length = N := by rw [List.length_take]; omega
    refine h6.cutS hNle hl fun w1 h => ?_
    refine brB_of (fun k30 => ?_) (fun k30 => ?_)
    · have k30 := eqb k30
      have hN1 : N = s0.stack.length - 1 := by have := a6 (by omega); omega
      refine ⟨S6.mem, h.om.cell rfl, ?_⟩
      refine h.getM hp0 hp1 ?_
      refine h.push (n := N) (by show N ≤ (s0.stack.take N).length; omega) [getI s0.mem p] _ rfl (by simp) (by simp) (by show (s0.stack.take N).length ≤ _; omega) ?_ rfl (lsub hl)
      refine fun w2 S2 _ _ h => ⟨_, _, h, aok _ ?_⟩
      rw [hm]; unfold mMem
      rw [top0, if_neg hb, if_pos k30, List.take_take, Nat.min_self, hN1]; rfl
    have hn2 := nd.n2 (by have := neb k30; omega)
    have hN1 : N = s0.stack.length - 2 := by have := neb k30; have := a7 (by omega); omega
    refine brB_of (fun k31 => ?_) (fun k31 => ?_)
    · refine ⟨S6.mem, h.om.cell rfl, ?_⟩
      refine h.setMem hp0 hp1 ?_
      refine fun w2 h => ⟨_, _, h, aok _ ?_⟩
      rw [hm]; unfold mMem
      rw [top0, top2' hn2, if_neg hb, if_neg (neb k30), if_pos (eqb k31), Int.zero_add, wr_in (x := q) (hqin hn2), pop2, hN1]
    · intro w689 hw689
      have h := h.no (dw hw689)
      refine ⟨S6.mem, held_Lw (h.om.cell rfl), S6.mem, held_Lw (h.om.cell rfl), ?_⟩
      refine h.x.me.rd.ix (i := p) hp0 (getI_at hp0 hp1) fun q1 _ hc1 => ?_
      have e := hc1 0 _ rfl
      rw [Go.Proofs.YtkjpmkopnkkbmaaGreatDoor.add0] at e
      refine ⟨_, held_Lw e, ?_⟩
      refine h.setMem hp0 hp1 ?_
      refine fun w2 h => ⟨_, _, h, aok _ ?_⟩
      rw [hm]; unfold mMem
      rw [top0, top2' hn2, if_neg hb, if_neg (neb k30), if_neg (neb k31), pop2, hN1]
  refine brB_of (fun k => ?_) (fun q33 => ?_)
  · have k := eqb k
    have hN1 : N = s0.stack.length - 1 := by have := a6 (by omega); omega
    refine h6.cutS hNle hl fun w1 h => ?_
    refine ⟨_, h.om.cell rfl, h.back [p] _ rfl (by simp) (by simp) B100 ?_ rfl⟩
    refine fun w2 S2 _ _ h => ⟨_, _, h, aok _ ?_⟩
    rw [k, hN1, hp]; rfl
  refine brB_of (fun k => ?_) (fun q34 => ?_)
  · have k := eqb k
    have hb1 := nd.b1 (by omega)
    rw [wr_in (x := (s0.back.length : Int) - 1) (by omega)]
    refine h6.getB (i := (s0.back.length : Int) - 1) (by omega) (by show _ < (s0.back.length : Int); omega) ?_
    refine h6.push hNle [getI s0.back ((s0.back.length : Int) - 1)] _ rfl (by simp) (by simp) L100 ?_ rfl hl
    intro w2 S2 _ _ h
    refine h.cutB (i := (s0.back.length : Int) - 1) (by omega) (by show _ ≤ (s0.back.length : Int); omega) ?_
    refine fun w2 S2 _ _ h => ⟨_, _, h, aok _ ?_⟩
    rw [k, tB1, tkAll (by have := (a12 (by omega)).1; omega)]; rfl
  refine brB_of (fun k => ?_) (fun q35 => ?_)
  · have k := eqb k
    have hb1 := nd.b1 (by omega)
    rw [wr_in (x := (s0.back.length : Int) - 1) (by omega)]
    refine h6.getB (i := (s0.back.length : Int) - 1) (by omega) (by show _ < (s0.back.length : Int); omega) ?_
    refine h6.push hNle [getI s0.back ((s0.back.length : Int) - 1)] _ rfl (by simp) (by simp) L100 ?_ rfl hl
    refine fun w2 S2 _ _ h => ⟨_, _, h, aok _ ?_⟩
    rw [k, tkAll (by have := (a12 (by omega)).1; omega)]; rfl
  refine brB_of (fun k => ?_) (fun q36 => ?_)
  · have k := eqb k
    have hn2 := nd.n2 (by omega)
    have hN1 : N = s0.stack.length - 2 := by have := a7 (by omega); omega
    have e36 : mDo { s0 with ip := nx } 36 arg s0.ip = .ok (backV (popV (popV { s0 with ip := nx })) [topV (popV { s0 with ip := nx }), topV { s0 with ip := nx }]) := rfl
    refine h6.cutS hNle hl fun w1 h => ?_
    refine ⟨_, h.om.cell rfl, h.back [q, p] _ rfl (by simp) (by simp) B100 ?_ rfl⟩
    refine fun w2 S2 _ _ h => ⟨_, _, h, aok _ ?_⟩
    rw [k, e36, top0, top2' hn2, pop2, hN1]; rfl
  refine ⟨fun b w' => b = decide (c = 37 ∨ c = 38) ∧ w' = w639, ?_, ?_⟩
  rotate_left
  · refine brB_of (fun k => ?_) (fun k1 => ?_)
    · exact ⟨by rw [eqb k]; rfl, rfl⟩
    · have k1 := neb k1
      refine ⟨?_, rfl⟩
      rw [Bool.eq_iff_iff, beq_iff_eq, decide_eq_true_iff]; omega
  rintro b w729 ⟨rfl, rfl⟩
  refine brB_of (fun k => ?_) (fun ql => ?_)
  · have k := of_decide_eq_true k
    have hb2 := nd.b2 (by omega)
    obtain ⟨ix, hix⟩ : ∃ ix, ix = getI s0.back ((s0.back.length : Int) - 1) := ⟨_, rfl⟩
    obtain ⟨lim, hlim⟩ : ∃ lim, lim = getI s0.back ((s0.back.length : Int) - 2) := ⟨_, rfl⟩
    refine h6.cutS hNle hl fun w1 h => ?_
    refine ⟨fun st w' => st = (if c = 38 then p else 1) ∧ w' = w1, ?_, ?_⟩
    rotate_left
    · exact brB_of (fun t => ⟨(if_pos (eqb t)).symm, rfl⟩) (fun t => ⟨(if_neg (neb t)).symm, rfl⟩)
    rintro st w732 ⟨hst, rfl⟩
    intro w733 hw733
    have h := h.no (dw hw733)
    rw [wr_in (x := (s0.back.length : Int) - 1) (by omega), wr_in (x := (s0.back.length : Int) - 2) (by omega)]
    refine ⟨S6.back, held_Lw (h.om.cell rfl), ?_⟩
    refine h.x.bk.rd.ix (i := (s0.back.length : Int) - 1) (by omega) (getI_at (by omega) (by show _ < (s0.back.length : Int); omega)) fun q1 _ hc1 => ?_
    have e1 := hc1 0 _ rfl
    rw [Go.Proofs.YtkjpmkopnkkbmaaGreatDoor.add0] at e1
    refine ⟨_, held_Lw e1, S6.back, held_Lw (h.om.cell rfl), ?_⟩
    refine h.x.bk.rd.ix (i := (s0.back.length : Int) - 2) (by omega) (getI_at (by omega) (by show _ < (s0.back.length : Int); omega)) fun q2 _ hc2 => ?_
    have e2 := hc2 0 _ rfl
    rw [Go.Proofs.YtkjpmkopnkkbmaaGreatDoor.add0] at e2
    refine ⟨_, held_Lw e2, ?_⟩
    show ∃ J113 : Bool → World → Prop, _
    rw [← hix, ← hlim]
    refine ⟨fun ends w' => ends = (if c = 38 then Cn.crosses (wr (ix - lim)) st else decide (wr (ix + st) = lim)) ∧ w' = w733, ?_, ?_⟩
    rotate_left
    · refine brB_of (fun t => (rcross_any _ _ _).mono ?_) (fun t => ⟨?_, rfl⟩)
      · rintro e w742 ⟨rfl, rfl⟩; exact ⟨_, rfl, (if_pos (eqb t)).symm, rfl⟩
      · rw [if_neg (neb t), Bool.eq_iff_iff, beq_iff_eq, decide_eq_true_iff]
    rintro ends w744 ⟨hends, rfl⟩
    have hm : mDo { s0 with ip := nx } c arg s0.ip = .ok (mLoopR { s0 with ip := nx, stack := s0.stack.take N, back := s0.back.take (s0.back.length - 2) } ix lim st arg ends) := by
      have tb1 : topB { s0 with ip := nx } = ix := hix.symm
      have tb2 : topB (popB { s0 with ip := nx }) = lim := (topb2 (s := { s0 with ip := nx }) hb2).trans hlim.symm
      rcases k with e | e
      · rw [if_neg (by omega)] at hst hends
        have e37 : mDo { s0 with ip := nx } 37 arg s0.ip = .ok (mLoopR (popB (popB { s0 with ip := nx })) (topB { s0 with ip := nx }) (topB (popB { s0 with ip := nx })) 1 arg (decide (wr (topB { s0 with ip := nx } + 1) = topB (popB { s0 with ip := nx })))) := rfl
        rw [e, e37, tb1, tb2, hends, hst, popb2, tkAll (by have e0 : (opRow c).takes = 0 := by { rw [e]; rfl }; omega)]
      · rw [if_pos e] at hst hends
        have e38 : mDo { s0 with ip := nx } 38 arg s0.ip = .ok (mLoopR (popV (popB (popB { s0 with ip := nx }))) (topB { s0 with ip := nx }) (topB (popB { s0 with ip := nx })) (topV { s0 with ip := nx }) arg (Cn.crosses (wr (topB { s0 with ip := nx } - topB (popB { s0 with ip := nx }))) (topV { s0 with ip := nx }))) := rfl
        rw [e, e38, tb1, tb2, top0, hends, hst, popb2, show N = s0.stack.length - 1 by have := (a10 (by omega)).1; omega]; rfl
    refine brB_of (fun t => ?_) (fun t => ?_)
    · refine h.cutB (i := (s0.back.length : Int) - 2) (by omega) (by show _ ≤ (s0.back.length : Int); omega) ?_
      refine fun w2 S2 _ _ h => ⟨_, _, h, aok _ ?_⟩
      rw [hm, t, tB2]; rfl
    · refine ⟨S6.back, h.om.cell rfl, ?_⟩
      refine h.setBack (i := (s0.back.length : Int) - 1) (by omega) (by show _ < (s0.back.length : Int); omega) ?_
      intro w751 h
      refine h.ip arg fun w752 h => ⟨_, _, h, aok _ ?_⟩
      obtain ⟨m2, hm2⟩ : ∃ m2, s0.back.length = m2 + 2 := ⟨s0.back.length - 2, by omega⟩
      have hl2 : s0.back.set ((s0.back.length : Int) - 1).toNat (wr (ix + st)) = s0.back.take (s0.back.length - 2) ++ [lim, wr (ix + st)] := by
        rw [tB1, hm2, show m2 + 2 - 1 = m2 + 1 by omega, show m2 + 2 - 2 = m2 by omega, set_last hm2, hlim, hm2, show (((m2 + 2 : Nat) : Int) - 2) = (m2 : Int) by omega]
      rw [hm, t]
      show Rs.ok _ = Rs.ok { s0 with ip := arg, stack := s0.stack.take N, back := s0.back.set ((s0.back.length : Int) - 1).toNat (wr (ix + st)) }
      rw [hl2]; rfl
  refine brB_of (fun k => ?_) (fun q39 => ?_)
  · have k := eqb k
    have hb3 := nd.b3 k
    rw [wr_in (x := (s0.back.length : Int) - 3) (by omega)]
    refine h6.getB (i := (s0.back.length : Int) - 3) (by omega) (by show _ < (s0.back.length : Int); omega) ?_
    refine h6.push hNle [getI s0.back ((s0.back.length : Int) - 3)] _ rfl (by simp) (by simp) L100 ?_ rfl hl
    refine fun w2 S2 _ _ h => ⟨_, _, h, aok _ ?_⟩
    rw [k, tkAll (by have := (a12 (by omega)).1; omega)]; rfl
  refine brB_of (fun k => ?_) (fun q40 => ?_)
  · have k := eqb k
    have hb2 := nd.b2 (by omega)
    rw [wr_in (x := (s0.back.length : Int) - 2) (by omega)]
    refine h6.cutB (i := (s0.back.length : Int) - 2) (by omega) (by show _ ≤ (s0.back.length : Int); omega) ?_
    refine fun w2 S2 _ _ h => ⟨_, _, h, aok _ ?_⟩
    rw [k, tB2]; rfl
  refine ⟨fun b w' => b = decide (c = 41 ∨ c = 42) ∧ w' = w729, ?_, ?_⟩
  rotate_left
  · refine brB_of (fun k => ?_) (fun k1 => ?_)
    · exact ⟨by rw [eqb k]; rfl, rfl⟩
    · have k1 := neb k1
      refine ⟨?_, rfl⟩
      rw [Bool.eq_iff_iff, beq_iff_eq, decide_eq_true_iff]; omega
  rintro b w764 ⟨rfl, rfl⟩
  refine brB_of (fun k => ?_) (fun qs => ?_)
  · have k := of_decide_eq_true k
    have hN1 : N = s0.stack.length - 1 := by have := a6 (by omega); omega
    have hm : mDo { s0 with ip := nx } c arg s0.ip = mSay { s0 with ip := nx } c := by rcases k with e | e <;> (rw [e]; rfl)
    have hout := ok.out
    intro b766 w767 hb766 hw767
    rw [byte_and] at hw767
    obtain ⟨l7, c7⟩ := lit8 (byteC p) (byte_lit _) hb766 hw767
    refine ⟨_, w767, u8_str (s := ⟨some ⟨b766, 0, none⟩, 1, 1⟩) l7.rd (by simp), ?_⟩
    have h7 := h6.no c7
    have hsz := mtext_size c p
    refine ⟨fun t w' => t = mText c p ∧ Chg No w767 w', ?_, ?_⟩
    rotate_left
    · refine brB_of (fun h42 => ?_) (fun h42 => ?_)
      · have h42 := eqb h42
        refine (rput_any p w767).mono ?_
        rintro x w19 ⟨rfl, rfl⟩
        have := putV_size p
        refine ⟨_, rfl, ?_, ?_, Chg.refl _ _⟩
        · show _ + (1 : Int) ≤ _; omega
        · unfold mText; rw [if_pos h42]
      · refine ⟨?_, Chg.refl _ _⟩
        unfold mText; rw [if_neg (neb h42)]
    rintro t w773 ⟨rfl, c773⟩
    have h8 := h7.no c773
    have ho : S6.out = s0.out := h6.x.nums.2.2.1
    refine ⟨S6.out, h8.om.cell rfl, ?_⟩
    rw [ho, wr_in (by omega)]
    refine brB_of (fun hf => h8.flt hw (by omega) (by omega) (-57) (abad _ ?_)) (fun hf => ?_)
    · have hf := of_decide_eq_true hf
      rw [hm]; unfold mSay; rw [top0, if_pos (by show 2000 < (s0.out.size : Int) + _; omega)]
    have hf := of_decide_eq_false hf
    refine h8.cutS hNle hl fun w1 h => ?_
    refine ⟨S6.out, h.om.cell rfl, by rw [ho]; omega, ?_⟩
    refine h.out _ fun w2 h => ⟨_, _, h, aok _ ?_⟩
    rw [hm]; unfold mSay; rw [top0, if_neg (by show ¬ 2000 < (s0.out.size : Int) + _; omega), ho, hN1]; rfl
  refine brB_of (fun k => ?_) (fun q43 => ?_)
  · have k := eqb k
    have hm : mDo { s0 with ip := nx } c arg s0.ip = .ok (mKey { s0 with ip := nx }) := by rw [k]; rfl
    have hNl : N = s0.stack.length := by have := (a12 (by omega)).1; omega
    have hrd : S6.read = s0.read := h6.x.nums.2.2.2.2.1
    have hinp : S6.inp = s0.inp := h6.x.nums.2.2.2.1
    have hrd0 := ok.rd
    have hin0 := ok.inp
    refine ⟨fun v w' => ∃ S', RM w w' a z m S0 S' { s0 with ip := nx, read := if (s0.inp.size : Int) ≤ s0.read then s0.read else s0.read + 1 } ∧ S'.stack = S6.stack ∧ v = (if (s0.inp.size : Int) ≤ s0.read then -1 else sb s0.inp s0.read), ?_, S6.read, h6.om.cell rfl, S6.inp, h6.om.cell rfl, ?_⟩
    rotate_left
    · rw [hrd, hinp]
      refine brB_of (fun t => ⟨S6.inp, h6.om.cell rfl, S6.read, h6.om.cell rfl, ?_⟩) (fun t => ?_)
      · have t := of_decide_eq_true t
        rw [hrd, hinp]
        refine ⟨hrd0.1, t, S6.read, h6.om.cell rfl, ?_⟩
        rw [hrd, wr_in (x := s0.read + 1) (by omega), wr_in (x := sb s0.inp s0.read) (by have := sb_byte s0.inp s0.read; omega)]
        refine h6.rdn (s0.read + 1) fun w817 h => ⟨{ S6 with read := s0.read + 1 }, ?_, rfl, (if_neg (by omega)).symm⟩
        rw [if_neg (by omega)]; exact h
      · have t := of_decide_eq_false t
        refine ⟨S6, ?_, rfl, (if_pos (by omega)).symm⟩
        rw [if_pos (by omega)]; exact h6
    rintro v w818 ⟨S', h, es, hv⟩
    refine h.push (n := N) hNle [v] _ rfl (by simp) (by simp) L100 ?_ rfl (by rw [es]; exact hl)
    refine fun w2 S2 _ _ h => ⟨_, _, h, aok _ ?_⟩
    rw [hm, hv, tkAll hNl]; unfold mKey
    by_cases t : (s0.inp.size : Int) ≤ s0.read
    · simp only [if_pos t]; rfl
    · simp only [if_neg t]; rfl
  refine brB_of (fun k => ?_) (fun q44 => ?_)
  · have k := eqb k
    have hN1 : N = s0.stack.length - 1 := by have := a6 (by omega); omega
    have hm : mDo { s0 with ip := nx } c arg s0.ip = if p < 64 ∨ (s0.mem.length : Int) ≤ p then .bad (-13) false else .ok { backV (popV { s0 with ip := nx }) [nx] with ip := p } := by rw [k, hp]; rfl
    refine ⟨fun b w' => b = decide (p < 64 ∨ (s0.mem.length : Int) ≤ p) ∧ w' = w764, ?_, ?_⟩
    rotate_left
    · refine brB_of (fun t => ⟨?_, rfl⟩) (fun t => ⟨S6.mem, h6.om.cell rfl, ?_, rfl⟩)
      · exact (decide_eq_true (Or.inl (of_decide_eq_true t))).symm
      · have t := of_decide_eq_false t
        rw [lm6, Bool.eq_iff_iff, decide_eq_true_iff, decide_eq_true_iff]
        exact ⟨Or.inr, fun h => h.resolve_left t⟩
    rintro b w826 ⟨rfl, rfl⟩
    refine brB_of (fun hb => h6.flt hw (by omega) (by omega) (-13) (abad _ ?_)) (fun hb => ?_)
    · rw [hm, if_pos (of_decide_eq_true hb)]
    have hb := of_decide_eq_false hb
    refine h6.cutS hNle hl fun w1 h => ?_
    refine ⟨_, h.om.cell rfl, S6.ip, h.om.cell rfl, ?_⟩
    rw [show S6.ip = nx from h6.x.nums.1]
    refine h.back [nx] _ rfl (by simp) (by simp) B100 ?_ rfl
    intro w2 S2 _ _ h
    refine h.ip p fun w3 h => ⟨_, _, h, aok _ ?_⟩
    rw [hm, if_neg hb, hN1]; rfl
  refine brB_of (fun k => ?_) (fun q45 => ?_)
  · have k := eqb k
    have hN1 : N = s0.stack.length - 1 := by have := a6 (by omega); omega
    have hm : mDo { s0 with ip := nx } c arg s0.ip = if p = 0 then .ok (popV { s0 with ip := nx }) else .bad p true := by rw [k, hp]; rfl
    refine h6.cutS hNle hl fun w1 h => ?_
    refine brB_of (fun t => ⟨S0.ip, h.oa.cell rfl, ?_⟩) (fun t => ⟨_, _, h, aok _ ?_⟩)
    · have t : p ≠ 0 := by simpa using t
      rw [show S0.ip = s0.ip from hw0.nums.1]
      refine h.ip s0.ip fun w2 h => h.thr hw.lt (by show (s0.stack.take N).length ≤ 1000; rw [List.length_take]; omega) (by show s0.back.length ≤ 1000; omega) p ?_
      rw [athr p (by rw [hm, if_neg t]), hN1]; rfl
    · have t : p = 0 := by simpa using t
      rw [hm, if_pos t, hN1]; rfl
  refine brB_of (fun k => ?_) (fun q46 => ?_)
  · have k := eqb k
    have hN1 : N = s0.stack.length - 1 := by have := a6 (by omega); omega
    have hll : l.len = N := by rw [hl]
    have hm : mDo { s0 with ip := nx } c arg s0.ip = .ok { s0 with ip := p, handler := (s0.back.length : Int) + 3, stack := s0.stack.take N, back := (s0.back ++ [nx, s0.handler, (N : Int)]) ++ [1] } := by
      have e46 : mDo { s0 with ip := nx } 46 arg s0.ip = .ok (mCatch (popV { s0 with ip := nx }) (topV { s0 with ip := nx })) := rfl
      have el : ((popV { s0 with ip := nx }).stack.length : Int) = (N : Int) := by rw [popV_len, hN1]
      rw [k, e46, top0]; unfold mCatch
      rw [el, hN1]; rfl
    refine h6.cutS hNle hl fun w1 h => ?_
    refine ⟨_, h.om.cell rfl, S6.ip, h.om.cell rfl, S6.handler, h.om.cell rfl, ?_⟩
    rw [show S6.ip = nx from h6.x.nums.1, show S6.handler = s0.handler from h6.x.nums.2.1, hll]
    refine h.back [nx, s0.handler, (N : Int)] _ rfl (by simp) (by simp) B100 ?_ rfl
    intro w2 S2 _ _ h
    have lb2 : (S2.back.len : Int) = (s0.back.length : Int) + 3 := by
      have := h.x.bk.rd.len
      simp only [List.length_append, List.length_cons, List.length_nil] at this
      omega
    refine ⟨S2.back, h.om.cell rfl, ?_⟩
    rw [lb2]
    refine h.hnd _ fun w3 h => ⟨_, h.om.cell rfl, ?_⟩
    refine h.back [1] _ rfl (by simp) (by simp) (by simp only [List.length_append, List.length_cons, List.length_nil]; omega) ?_ rfl
    intro w4 S4 _ _ h
    refine h.ip p fun w5 h => ⟨_, _, h, aok _ ?_⟩
    rw [hm]
  have k : c = 47 := c47 hc48 (neb q0) (neb q1) (neb q2) (neb q3) (neb q4) (neb q5) (neb q6) (neb q7) (neb q8) (neb q9) (neb q10) htwo' hone' (of_decide_eq_false qm) (neb q33) (neb q34) (neb q35) (neb q36) (of_decide_eq_false ql) (neb q39) (neb q40) (of_decide_eq_false qs) (neb q43) (neb q44) (neb q45) (neb q46)
  rw [k, mDo_47] at aok
  exact ⟨_, _, h6, aok _ rfl⟩
end Go.Proofs.YtkjpmkopnkkbmaaGreatDoor

/- All numbers of a machine fit 64 bits, step after step. No program in sight. -/
set_option maxRecDepth 100000
namespace Go.Proofs.YtkjpmkopnkkbmaaGreatDoor
open Go.RowKit

structure SIn (s : StV) : Prop where
  st : InL s.stack
  bk : InL s.back
  me : InL s.mem
  ha : Cn.In s.handler
theorem InL.tk {l : List Int} (h : InL l) (n : Nat) : InL (l.take n) := fun x hx => h x (List.mem_of_mem_take hx)
theorem InL.ap {l r : List Int} (h : InL l) (g : InL r) : InL (l ++ r) := fun x hx => (List.mem_append.1 hx).elim (h x) (g x)
theorem InL.c0 : InL [] := fun _ hx => by cases hx
theorem InL.cs {x : Int} {l : List Int} (h : Cn.In x) (g : InL l) : InL (x :: l) := fun y hy => by
  rcases List.mem_cons.1 hy with e | e
  · rw [e]; exact h
  · exact g y e
theorem in_sm {x : Int} (h : -100000 ≤ x ∧ x ≤ 100000) : Cn.In x := by unfold Cn.In; omega
theorem SIn.top {s : StV} (h : SIn s) : Cn.In (topV s) := h.st.get _
theorem SIn.topb {s : StV} (h : SIn s) : Cn.In (topB s) := h.bk.get _
theorem SIn.pop {s : StV} (h : SIn s) : SIn (popV s) := ⟨h.st.tk _, h.bk, h.me, h.ha⟩
theorem SIn.popb {s : StV} (h : SIn s) : SIn (popB s) := ⟨h.st, h.bk.tk _, h.me, h.ha⟩
theorem SIn.push {s : StV} (h : SIn s) {l : List Int} (g : InL l) : SIn (pushV s l) := ⟨h.st.ap g, h.bk, h.me, h.ha⟩
theorem SIn.back {s : StV} (h : SIn s) {l : List Int} (g : InL l) : SIn (backV s l) := ⟨h.st, h.bk.ap g, h.me, h.ha⟩
theorem sin_fault {s : StV} (h : SIn s) {c : Int} (hc : Cn.In c) : SIn (mFault s c) := by
  unfold mFault
  split
  · refine ⟨((h.st.tk _).ap ?_).ap (InL.cs hc InL.c0), h.bk.tk _, h.me, h.bk.get _⟩
    intro x hx
    rw [(List.mem_replicate.1 hx).2]; exact in0'
  · exact ⟨h.st, h.bk, h.me, h.ha⟩
theorem sin_do {s s' : StV} {c arg was : Int} (h : SIn s) (hip : -100000 ≤ s.ip ∧ s.ip ≤ 100000) (ha : Cn.In arg) (k1 : s.stack.length ≤ 48) (k2 : s.back.length ≤ 48) (he : mDo s c arg was = .ok s') : SIn s' := by
  have one : ∀ {x : Int}, Cn.In x → InL [x] := fun h => InL.cs h InL.c0
  unfold mDo at he
  by_cases h0 : c = 0
  · rw [if_pos h0] at he; cases he; exact ⟨h.st, h.bk, h.me, h.ha⟩
  rw [if_neg h0] at he
  by_cases h2 : c = 2
  · rw [if_pos h2] at he; cases he
    exact h.push (one ha)
  rw [if_neg h2] at he
  by_cases h4 : c = 4
  · rw [if_pos h4] at he
    split at he
    · cases he; exact h.pop
    · cases he; exact ⟨h.pop.st, h.bk, h.me, h.ha⟩
  rw [if_neg h4] at he
  by_cases h3 : c = 3
  · rw [if_pos h3] at he; cases he; exact ⟨h.st, h.bk, h.me, h.ha⟩
  rw [if_neg h3] at he
  by_cases h5 : c = 5
  · rw [if_pos h5] at he; cases he; exact ⟨h.st, h.popb.bk, h.me, h.ha⟩
  rw [if_neg h5] at he
  by_cases h6 : 6 ≤ c ∧ c ≤ 10
  · rw [if_pos h6] at he; cases he
    unfold mShuf
    split
    · exact h.pop.push (InL.cs h.top (one h.top))
    split
    · exact h.pop.pop.push (InL.cs h.top (one h.pop.top))
    split
    · exact h.pop.pop.push (InL.cs h.pop.top (InL.cs h.top (one h.pop.top)))
    split
    · exact h.pop.pop.pop.push (InL.cs h.pop.top (InL.cs h.top (one h.pop.pop.top)))
    · exact h.pop
  rw [if_neg h6] at he
  by_cases h30 : 30 ≤ c ∧ c ≤ 32
  · rw [if_pos h30] at he
    unfold mMem at he
    split at he
    · cases he
    split at he
    · cases he; exact h.pop.push (one (h.me.get _))
    · cases he
      exact ⟨h.pop.pop.st, h.bk, h.me.set _ (by rw [wr_wrap]; exact Cn.in_w _), h.ha⟩
  rw [if_neg h30] at he
  by_cases h33 : (33 ≤ c ∧ c ≤ 36) ∨ c = 39 ∨ c = 40
  · rw [if_pos h33] at he; cases he
    unfold mBacks
    split
    · exact h.pop.back (one h.top)
    split
    · exact h.popb.push (one h.topb)
    split
    · exact h.push (one h.topb)
    split
    · exact h.pop.pop.back (InL.cs h.pop.top (one h.top))
    split
    · exact h.push (one (h.bk.get _))
    · exact ⟨h.st, h.bk.tk _, h.me, h.ha⟩
  rw [if_neg h33] at he
  by_cases h37 : c = 37 ∨ c = 38
  · rw [if_pos h37] at he; cases he
    have lp : ∀ (s1 : StV) (index limit n : Int) (ends : Bool), SIn s1 → Cn.In limit → SIn (mLoopR s1 index limit n arg ends) := fun s1 index limit n ends g hl => by
      unfold mLoopR
      split
      · exact g
      · exact ⟨g.st, g.bk.ap (InL.cs hl (one (by rw [wr_wrap]; exact Cn.in_w _))), g.me, g.ha⟩
    unfold mLoop
    split
    · exact lp _ _ _ _ _ h.popb.popb.pop h.popb.topb
    · exact lp _ _ _ _ _ h.popb.popb h.popb.topb
  rw [if_neg h37] at he
  by_cases h41 : c = 41 ∨ c = 42
  · rw [if_pos h41] at he
    unfold mSay at he
    split at he
    · cases he
    · cases he
      exact ⟨h.pop.st, h.bk, h.me, h.ha⟩
  rw [if_neg h41] at he
  by_cases h43 : c = 43
  · rw [if_pos h43] at he; cases he
    unfold mKey
    split
    · exact h.push (one (in_sm (by omega)))
    · have := sb_byte s.inp s.read
      exact ⟨h.st.ap (one (in_sm (by omega))), h.bk, h.me, h.ha⟩
  rw [if_neg h43] at he
  by_cases h44 : (44 ≤ c ∧ c ≤ 46) ∨ c = 1
  · rw [if_pos h44] at he
    unfold mFlow at he
    split at he
    · split at he
      · cases he
      · cases he; exact ⟨h.pop.st, h.bk.ap (one (in_sm hip)), h.me, h.ha⟩
    split at he
    · split at he
      · cases he; exact h.pop
      · cases he
    split at he
    · cases he
      have p1 := popV_len s
      refine ⟨h.pop.st, (h.bk.ap (InL.cs (in_sm hip) (InL.cs h.ha (one (in_sm ?_))))).ap (one (in_sm (by omega))), h.me, in_sm ?_⟩
      · omega
      · show _ ≤ (s.back.length : Int) + 3 ∧ (s.back.length : Int) + 3 ≤ _; omega
    · unfold mEnd at he
      split at he
      · cases he
      split at he
      · cases he
      · cases he
        exact ⟨h.st.ap (one in0'), h.popb.popb.popb.bk, h.me, h.popb.topb⟩
  rw [if_neg h44] at he
  by_cases h47 : c = 47
  · rw [if_pos h47] at he; cases he; exact h
  rw [if_neg h47] at he
  unfold mReck at he
  split at he
  · cases he; exact h.pop.push (one (in_one _ _))
  split at he
  · cases he; exact h.pop.pop.push (one (in_two h.pop.top h.top))
  · cases he
theorem sin_adv {s : StV} (h : SIn s) (ok : MOk s) : SIn (mAdv s) := by
  have k3 := ok.me
  unfold mAdv
  have hrs := mStep_rs s
  cases hst : mStep s with
  | bad c t =>
    rw [hst] at hrs
    show SIn (mFault (if t = true then popV s else s) c)
    cases t with
    | false =>
      have hrs : -57 ≤ c ∧ c < 0 := hrs
      exact sin_fault h (in_sm (by omega))
    | true =>
      have hrs : _ ∧ c = topV s ∧ _ := hrs
      rw [hrs.2.1]
      exact sin_fault h.pop h.top
  | ok s' =>
    show SIn s'
    clear hrs
    unfold mStep at hst
    split at hst
    · cases hst
    next hip =>
    split at hst
    · split at hst
      · cases hst
      · cases hst
        exact ⟨h.st, h.bk.ap (InL.cs (in_sm (by omega)) InL.c0), h.me, h.ha⟩
    split at hst
    · cases hst
    split at hst
    · cases hst
    split at hst
    · cases hst
    refine sin_do (s := { s with ip := mNext s (getI s.mem s.ip) }) ⟨h.st, h.bk, h.me, h.ha⟩ ?_ ?_ ok.st ok.bk hst
    · show _ ≤ mNext s _ ∧ mNext s _ ≤ _
      unfold mNext; split <;> omega
    · unfold mArg; split
      · exact h.me.get _
      · exact in0'
end Go.Proofs.YtkjpmkopnkkbmaaGreatDoor

/- hollowayref9.Run: steps as long as there is fuel. -/
set_option maxRecDepth 100000
namespace Go.Proofs.YtkjpmkopnkkbmaaGreatDoor
open Go.RowKit

theorem rrun_any {D V : Nat → Prop} {w : World} (S0 : StC) {s0 : StV} (hw : Hd D V w S0 s0) (ok : MOk s0) (hin : SIn s0) (fuel : Int) (hf : fuel ≤ 1000000) :
    Calls Tryz.prog fn_hollowayref9_Run #[.agg (stC S0).toArray, .int .i64 fuel] w fun e w' => ∃ S' : StC, e = .returned (.tuple #[.agg (stC S').toArray, .int .i64 (runM s0 fuel).2]) ∧ (∀ w2, Chg V w' w2 → StIs (fun _ => True) w2 S' (runM s0 fuel).1) ∧ Chg No w w' := by
  refine (hollowayref9_Run_lift (K := fun v w' => ∃ S' : StC, v = .tuple #[.agg (stC S').toArray, .int .i64 (runM s0 fuel).2] ∧ (∀ w2, Chg V w' w2 → StIs (fun _ => True) w2 S' (runM s0 fuel).1) ∧ Chg No w w') ?_).mono (by rintro e w' ⟨v, rfl, S', rfl, h⟩; exact ⟨S', rfl, h⟩)
  unfold hollowayref9_Run_sh
  refine inSt S0 fun b12 w13 hb12 z13 o12 c13 => inSt st0 fun b14 w15 hb14 z15 o14 c15 => ?_
  have k15 := trN c13 c15
  have l12 := (o12.no c15).lt
  have l14 := o14.lt
  obtain ⟨I, hI⟩ : ∃ I : Int → World → Prop, I = fun n w' => ∃ (S : StC) (s : StV), n ≤ 1000000 ∧ runM s0 fuel = runM s n ∧ MOk s ∧ SIn s ∧ Ob w' b12 (stC S) T_api_State ∧ Ob w' b14 (stC st0) T_api_State ∧ Chg No w w' ∧ w15.heap.size ≤ w'.heap.size ∧ Hd (fun _ => True) (fun k => V k ∨ k = b12 ∨ k = b14) w' S s := ⟨_, rfl⟩
  refine ⟨I, fun n _ => n.toNat, ?_, ?_⟩
  · rw [hI]
    exact ⟨S0, s0, hf, rfl, ok, hin, o12.no c15, o14, k15, Nat.le_refl _, fun w'' c'' => (hw.is w'' (k15.trans c'' (fun _ _ h => h.elim) (fun k hk he => by
      rcases he with he | he | he
      · exact he
      · omega
      · omega))).wid (fun _ _ => trivial), fun k hk => by
      rcases hk with hk | hk | hk
      · have := hw.lt k hk; omega
      · omega
      · omega⟩
  intro n w16 h16
  rw [hI] at h16
  obtain ⟨S, s, hn1, hr, hok, hsi, p12, p14, c16, z16, hd⟩ := h16
  have h16 := hd.at (Chg.refl No w16)
  have hs : S.status = s.status := h16.nums.2.2.2.2.2.1
  refine ⟨S.status, p12.cell rfl, ?_⟩
  rw [hs]
  have key : ∀ b : Bool, b = decide (s.status = 0 ∧ 0 < n) → hollowayref9_Run_j1 b12 I n (fun n _ => n.toNat) w16 b14 b w16 (fun v w' => ∃ S' : StC, v = .tuple #[.agg (stC S').toArray, .int .i64 (runM s0 fuel).2] ∧ (∀ w2, Chg V w' w2 → StIs (fun _ => True) w2 S' (runM s0 fuel).1) ∧ Chg No w w') := by
    intro b hb
    unfold hollowayref9_Run_j1
    refine brB_of (fun t => ?_) (fun t => ?_)
    · rw [hb] at t
      obtain ⟨t1, t2⟩ := of_decide_eq_true t
      refine rdSt p12 ((rstep_any S hd hok hsi.st).mono ?_)
      rintro e w34 ⟨v, rfl, S2, rfl, h2, c34⟩
      have z34 := c34.size
      have l12' := p12.lt
      have l14' := p14.lt
      refine ⟨_, _, _, _, _, _, _, _, _, _, rfl, setSt S2 (p12.no c34) (by decide) rfl rfl fun w45 o45 c45 => ?_⟩
      have z45 := c45.size
      rw [wr_in (x := n - 1) (by omega)]
      refine ⟨?_, by show (n - 1).toNat < n.toNat; omega⟩
      rw [hI]
      have es : stepA s = mAdv s := if_pos t1
      rw [es] at h2
      refine ⟨S2, mAdv s, by omega, hr.trans (runM_go t1 t2), mok_adv hok, sin_adv hsi hok, o45, (p14.no c34).chg c45 (fun he => by omega), (trN c16 c34).trans c45 (fun _ _ h => h) (fun k hk he => by omega), by omega, fun w'' c'' => (h2 w'' (c45.trans c'' (fun _ _ h => Or.inr (Or.inl h)) (fun _ _ h => h))).wid (fun _ _ => trivial), fun k hk => by
        have := hd.lt k hk; omega⟩
    · have t' : ¬ (s.status = 0 ∧ 0 < n) := fun h => by rw [hb, decide_eq_true h] at t; cases t
      have hrr : runM s0 fuel = (s, n) := hr.trans (runM_stop (by omega))
      rw [hrr]
      refine rdSt p12 (setSt S p14 (by decide) rfl rfl fun w56 o56 c56 => rdSt o56 ⟨S, rfl, fun w2 c2 => hd.is w2 (c56.trans c2 (fun _ _ h => Or.inr (Or.inr h)) (fun _ _ h => Or.inl h)), c16.trans c56 (fun _ _ h => h) (fun k hk he => by omega)⟩)
  refine brB_of (fun t => key _ ?_) (fun t => key _ ?_)
  · have t : s.status = 0 := by simpa using t
    rw [Bool.eq_iff_iff, decide_eq_true_iff, decide_eq_true_iff]
    exact ⟨fun h => ⟨t, h⟩, fun h => h.2⟩
  · have t : ¬ s.status = 0 := by simpa using t
    exact (decide_eq_false (fun h => t h.1)).symm
end Go.Proofs.YtkjpmkopnkkbmaaGreatDoor

/- A machine that may be, one step on, may be. No program in sight. -/
set_option maxRecDepth 100000
namespace Go.Proofs.YtkjpmkopnkkbmaaGreatDoor
open Go.RowKit

theorem right_adv {s : StV} (h : RightS s) (ok : MOk s) : RightS (mAdv s) := by
  have g := mok_adv ok
  have hst := h.status
  refine ⟨g.st, g.bk, g.me, g.out, g.rd, ?_⟩
  have hrs := mStep_rs s
  unfold mAdv
  cases hm : mStep s with
  | bad k th =>
    show 0 ≤ (mFault (if th = true then popV s else s) k).status ∧ (mFault (if th = true then popV s else s) k).status ≤ 2
    have e : (if th = true then popV s else s).status = s.status := by split <;> rfl
    unfold mFault
    split
    · show 0 ≤ (if th = true then popV s else s).status ∧ (if th = true then popV s else s).status ≤ 2
      rw [e]; exact hst
    · show (0 : Int) ≤ 2 ∧ (2 : Int) ≤ 2
      exact ⟨by decide, by decide⟩
  | ok s' =>
    rw [hm] at hrs
    have hrs : s'.status = s.status ∨ getI s.mem s.ip = 0 := hrs
    show 0 ≤ s'.status ∧ s'.status ≤ 2
    rcases hrs with e | e
    · rw [e]; exact hst
    · unfold mStep at hm
      rw [e] at hm
      split at hm
      · cases hm
      rw [if_neg (by decide), if_neg (by decide)] at hm
      split at hm
      · cases hm
      split at hm
      · cases hm
      unfold mDo at hm
      rw [if_pos rfl] at hm
      injection hm with hm
      rw [← hm]
      show (0 : Int) ≤ 1 ∧ (1 : Int) ≤ 2
      exact ⟨by decide, by decide⟩
end Go.Proofs.YtkjpmkopnkkbmaaGreatDoor

/- InnerSteps: the walk. -/
set_option maxRecDepth 100000
namespace Go.Proofs.YtkjpmkopnkkbmaaGreatDoor
open Go.RowKit

/-- A state that reads as s, whatever is done to the blocks of V. -/
def Rdb (V : Nat → Prop) (w : World) (S : StC) (s : StV) : Prop := ∀ w2, Chg V w w2 → StIs (fun _ => True) w2 S s
theorem Rdb.at {V : Nat → Prop} {w w' : World} {S : StC} {s : StV} (h : Rdb V w S s) (c : Chg No w w') : StIs (fun _ => True) w' S s := h w' (c.mono (fun _ _ h => h.elim))
theorem Rdb.go {V V' X : Nat → Prop} {w w' : World} {S : StC} {s : StV} (h : Rdb V w S s) (c : Chg X w w') (hX : ∀ k, k < w.heap.size → X k → V k) (hV : ∀ k, k < w.heap.size → V' k → V k) : Rdb V' w' S s := fun w2 c2 => h w2 (c.trans c2 hX hV)
/-- An entry of a step's region: the answer, the document's answer, a new place. -/
def EntW (V : Nat → Prop) (lo0 : Nat) (t : StV) (e : Nat × List Value) (lo hi : Nat) (w : World) : Prop :=
  (e.1 = 1 → ∃ S : StC, e.2 = stC S ∧ StX (fun k => lo ≤ k ∧ k < hi) w S t) ∧
  (e.1 = 3 → ∃ S : StC, e.2 = stC S ∧ Rdb (fun k => V k ∨ (lo0 ≤ k ∧ (k < lo ∨ hi ≤ k))) w S t) ∧
  (e.1 = 4 ∨ e.1 = 5 → ∃ a : Nat, e.2 = [.pointer (some ⟨a, 0, none⟩)] ∧ Ob w a (stC st0) T_api_State ∧ lo ≤ a ∧ a < hi)
theorem EntW.no {V : Nat → Prop} {lo0 : Nat} {t : StV} {e : Nat × List Value} {lo hi : Nat} {w w' : World} (h : EntW V lo0 t e lo hi w) (c : Chg No w w') : EntW V lo0 t e lo hi w' := by
  obtain ⟨h1, h2, h3⟩ := h
  refine ⟨fun e => ?_, fun e => ?_, fun e => ?_⟩
  · obtain ⟨S, a, b⟩ := h1 e; exact ⟨S, a, b.no c⟩
  · obtain ⟨S, a, b⟩ := h2 e; exact ⟨S, a, b.go c (fun _ _ h => h.elim) (fun _ _ h => h)⟩
  · obtain ⟨S, a, b, d⟩ := h3 e; exact ⟨S, a, b.no c, d⟩
theorem runM_one (s : StV) : (runM s 1).1 = stepA s := by
  unfold stepA
  by_cases h : s.status = 0
  · rw [if_pos h, runM_go h (by decide), runM_stop (Or.inr (by decide))]
  · rw [if_neg h, runM_stop (Or.inl h)]
theorem innerSteps_walk {w : World} (S : StC) {s : StV} (h : StIs (fun _ => True) w S s) (hg : Gl w) (hi : SIn s) (n fuel : Int) :
    Calls Tryz.prog fn_hollowaylaw9_InnerSteps #[.agg (stC S).toArray, .int .i64 n, .int .i64 fuel] w fun e w' => e = .returned (.bool true) ∧ Chg No w w' := by
  refine (hollowaylaw9_InnerSteps_lift (K := fun v w' => v = .bool true ∧ Chg No w w') ?_).mono (by rintro e w' ⟨v, rfl, rfl, h⟩; exact ⟨rfl, h⟩)
  unfold hollowaylaw9_InnerSteps_sh
  refine inSt S fun b13 w14 hb13 z14 o13 c14 => ?_
  refine ⟨fun b' w' => (b' = false → LightS s ∧ 0 ≤ n ∧ n ≤ 60 ∧ fuel ≤ 300) ∧ Chg No w14 w', ?_, rdSt o13 ?_⟩
  rotate_left
  · refine (light9_any S (h.no c14)).mono ?_
    rintro e w26 ⟨b', rfl, hb, c26⟩
    have yes : (true = false → LightS s ∧ 0 ≤ n ∧ n ≤ 60 ∧ fuel ≤ 300) ∧ Chg No w14 w26 := ⟨(fun h => by cases h), c26⟩
    refine ⟨b', rfl, brB_of (fun _ => yes) (fun hl => brB_of (fun _ => yes) (fun h1 => brB_of (fun _ => yes) (fun h2 => brB_of (fun _ => yes) (fun h3 => ?_))))⟩
    have hl := hb.1 (by simpa using hl)
    have h1 := of_decide_eq_false h1
    have h2 := of_decide_eq_false h2
    have h3 := of_decide_eq_false h3
    refine (alive9_any (hg.no (trN c14 c26))).mono ?_
    rintro e w29 ⟨rfl, c29⟩
    exact ⟨_, rfl, fun _ => ⟨hl, by omega, by omega, by omega⟩, trN c26 c29⟩
  rintro b' w31 ⟨hb, c31⟩
  have k31 := trN c14 c31
  refine brB_of (fun _ => ?_) (fun hf => ?_)
  · refine (alive9_any (hg.no k31)).mono ?_
    rintro e w34 ⟨rfl, c34⟩
    exact ⟨_, rfl, rfl, trN k31 c34⟩
  obtain ⟨hL, hn0, hn1, hfu⟩ := hb hf
  have ok := hL.ok
  intro b36 w37 hb36 hw37
  have c37 := al hw37
  have z37 : w37.heap.size = w31.heap.size + 1 := by rw [hw37]; simp
  have o36 : Ob w37 b36 (bookI nilS nilS) T_hollowaybook_Book := by rw [hw37, hb36]; exact Ob.new w31 (bookI nilS nilS) T_hollowaybook_Book
  intro w38 hw38
  have c38 := dw hw38
  have z38 := c38.size
  have z31 := c31.size
  have k38 := trN (trN k31 c37) c38
  have p13 := ((o13.no c31).no c37).no c38
  have o36 := o36.no c38
  have lt13 := (o13.no c31).lt
  have alX : ∀ (i : Nat) (lg : List (Nat × List Value)) (w1 : World), (i = 2 ∨ i = 3) → Chg No w38 w1 → ZL (EntV fun _ => none) w38.heap.size lg w1 → ∀ (a : Nat) (w2 : World), a = w1.heap.size → w2 = World.alloc w1 (.cells (stC st0).toArray T_api_State) → Chg No w38 w2 ∧ True ∧ ZL (EntV fun _ => none) w38.heap.size (lg ++ [(i, [.pointer (some ⟨a, 0, none⟩)])]) w2 := by
    intro i lg w1 _ c1 hZ a w2 ha hw2
    have c2 := al hw2
    have z2 : w2.heap.size = w1.heap.size + 1 := by rw [hw2]; simp
    exact ⟨trN c1 c2, trivial, hZ.snoc c1.size c2.size (fun e a b h => h.no c2) ⟨a, rfl, by rw [hw2, ha]; exact Ob.new w1 (stC st0) T_api_State, by omega, by omega⟩⟩
  refine ⟨fun w' => Chg No w38 w', Chg.refl _ _, hdSt (fun w' c => p13.no c) (hdSt (fun w' c => p13.no c) ⟨ZL (EntV fun _ => none) w38.heap.size, ZL.nil _ _ _, fun lg w1 c1 hZ => alX 2 lg w1 (Or.inl rfl) c1 hZ, fun lg w1 c1 hZ => alX 3 lg w1 (Or.inr rfl) c1 hZ, ?_⟩)⟩
  intro lg w70 c70 hZ x71 inx y72 iny
  obtain ⟨rng, z1, z2⟩ := hZ
  have ne : ∀ {i j : Nat} {x y : List Value}, i ≠ j → (i, x) ≠ (j, y) := fun h e => h (congrArg Prod.fst e)
  obtain ⟨⟨x', hx', ox, lx1, lx2⟩, Ex1, Ex2⟩ := z1 _ inx
  obtain ⟨⟨y', hy', oy, ly1, ly2⟩, Ey1, Ey2⟩ := z1 _ iny
  have dxy := z2 _ inx _ iny (ne (by decide))
  generalize rng (2, [.pointer (some ⟨x71, 0, none⟩)]) = rx at *
  generalize rng (3, [.pointer (some ⟨y72, 0, none⟩)]) = ry at *
  obtain rfl : x71 = x' := by injection hx' with h1 _; injection h1 with h1; injection h1 with h1; injection h1
  obtain rfl : y72 = y' := by injection hy' with h1 _; injection h1 with h1; injection h1 with h1; injection h1
  have hxy : x71 ≠ y72 := fun he => by omega
  refine setSt S ox (by decide) rfl rfl fun w73 o73 c73 => ⟨c70.trans c73 (fun _ _ h => h) (fun k hk he => by omega), setSt S (oy.chg c73 (fun he => hxy he.symm)) (by decide) rfl rfl fun w74 o74 c74 => ?_⟩
  have p73 := o73.chg c74 (fun he => hxy he)
  have d74 : Chg (fun j => j = x71 ∨ j = y72) w70 w74 := c73.trans c74 (fun _ _ h => Or.inl h) (fun _ _ h => Or.inr h)
  have z70 := c70.size
  have z74 := d74.size
  have e74 : Chg No w38 w74 := c70.trans d74 (fun _ _ h => h) (fun k hk he => by omega)
  have k74 := trN k38 e74
  have lx := p73.lt
  have ly := o74.lt
  obtain ⟨I, hI⟩ : ∃ I : Int → World → Prop, I = fun i w' => ∃ (j : Nat) (X Y : StC) (t : StV) (D P : Nat → Prop), i = (j : Int) ∧ (j : Int) ≤ n ∧ Rdb (fun k => k = x71 ∨ k = y72 ∨ P k) w' X t ∧ Rdb (fun k => k = x71 ∨ k = y72 ∨ P k) w' Y t ∧ Ob w' x71 (stC X) T_api_State ∧ Ob w' y72 (stC Y) T_api_State ∧ Ob w' b13 (stC S) T_api_State ∧ BkJ D P w' b36 ∧
      (∀ k, P k → w31.heap.size ≤ k ∧ k ≠ x71 ∧ k ≠ y72 ∧ k < w'.heap.size) ∧ (∀ k, D k → w31.heap.size ≤ k ∧ k ≠ x71 ∧ k ≠ y72 ∧ k < w'.heap.size) ∧ RightS t ∧ MOk t ∧ SIn t ∧ Chg No w w' ∧ w74.heap.size ≤ w'.heap.size := ⟨_, rfl⟩
  refine ⟨I, fun i _ => n.toNat - i.toNat, ?_, ?_⟩
  · rw [hI]
    have kb0 : BkJ (fun k => k = b36) (fun k => k = b36) w74 b36 := BkJ.empty (o36.no e74) rfl rfl
    have rS : Rdb (fun k => k = x71 ∨ k = y72 ∨ k = b36) w74 S s := fun w2 c2 => h.no (k74.trans c2 (fun _ _ h => h) (fun k hk he => by have := k31.size; omega))
    refine ⟨0, S, S, s, fun k => k = b36, fun k => k = b36, rfl, hn0, rS, rS, p73, o74, p13.no e74, kb0, fun k hk => by omega, fun k hk => by omega, hL.right, ok, hi, k74, Nat.le_refl _⟩
  intro i w75 h75
  rw [hI] at h75
  obtain ⟨j, X, Y, t, D, P, rfl, hj, rX, rY, ox, oy, q13, kb, hP, hD, hR, hok, hin, k75, z75⟩ := h75
  have isX := rX.at (Chg.refl No w75)
  have r1 := hR.st
  have r2 := hR.bk
  have r3 := hR.me
  refine brB_of (fun hlt => ?_) (fun hge => ?_)
  · have hlt : (j : Int) < n := of_decide_eq_true hlt
    refine rdSt ox ((lentState_any X isX (by omega) (by omega) (by omega)).mono ?_)
    rintro e w88 ⟨M, rfl, xM, c88⟩
    refine ⟨_, _, _, _, _, _, _, _, _, _, rfl, varSt M fun b99 w101 hb99 z101 o99 c101 => ?_⟩
    intro w102 hw102
    have c102 := dw hw102
    have d102 := trN (trN c88 c101) c102
    have z88 := c88.size
    have z101' := c101.size
    have z102 := c102.size
    have xM := (xM.no c101).no c102
    have o99 := o99.no c102
    have ox := ox.no d102
    have oy := oy.no d102
    have q13 := q13.no d102
    have rX := rX.go (V' := fun k => k = x71 ∨ k = y72 ∨ P k) d102 (fun _ _ h => h.elim) (fun _ _ h => h)
    have rY := rY.go (V' := fun k => k = x71 ∨ k = y72 ∨ P k) d102 (fun _ _ h => h.elim) (fun _ _ h => h)
    obtain ⟨V, hV⟩ : ∃ V : Nat → Prop, V = fun k => k = x71 ∨ k = y72 ∨ P k := ⟨_, rfl⟩
    rw [← hV] at rX rY
    have hVl : ∀ k, V k → k < w75.heap.size ∧ w31.heap.size ≤ k := fun k hk => by
      rw [hV] at hk
      rcases hk with hk | hk | hk
      · omega
      · omega
      · have := hP k hk; omega
    have es : stepA t = if t.status = 0 then mAdv t else t := rfl
    have alA : ∀ (i : Nat) (lg : List (Nat × List Value)) (w1 : World), (i = 4 ∨ i = 5) → Chg No w102 w1 → ZL (EntW V w102.heap.size (stepA t)) w102.heap.size lg w1 → ∀ (a : Nat) (w2 : World), a = w1.heap.size → w2 = World.alloc w1 (.cells (stC st0).toArray T_api_State) → Chg No w102 w2 ∧ True ∧ ZL (EntW V w102.heap.size (stepA t)) w102.heap.size (lg ++ [(i, [.pointer (some ⟨a, 0, none⟩)])]) w2 := by
      intro i lg w1 hi4 c1 hZ a w2 ha hw2
      have c2 := al hw2
      have z2 : w2.heap.size = w1.heap.size + 1 := by rw [hw2]; simp
      refine ⟨trN c1 c2, trivial, hZ.snoc c1.size c2.size (fun e a b h => h.no c2) ⟨fun e => ?_, fun e => ?_, fun _ => ⟨a, rfl, by rw [hw2, ha]; exact Ob.new w1 (stC st0) T_api_State, by omega, by omega⟩⟩⟩
      · have e : i = 1 := e; omega
      · have e : i = 3 := e; omega
    refine ⟨fun w' => Chg No w102 w', Chg.refl _ _, hdSt (fun w' c => o99.no c) (hdSt (fun w' c => oy.no c) ⟨ZL (EntW V w102.heap.size (stepA t)) w102.heap.size, ZL.nil _ _ _, ?_⟩)⟩
    refine ⟨fun lg w1 c1 hZ => (istep_any M (xM.no c1).is hok (hg.no (trN (trN k75 d102) c1))).mono ?_, fun lg w1 c1 hZ => ?_, fun lg w1 c1 hZ => alA 4 lg w1 (Or.inl rfl) c1 hZ, fun lg w1 c1 hZ => alA 5 lg w1 (Or.inr rfl) c1 hZ, ?_⟩
    · rintro e w2 ⟨A, rfl, gA, c2⟩
      rw [runM_one] at gA
      exact ⟨_, _, _, _, _, _, _, _, _, _, rfl, trN c1 c2, trivial, hZ.snoc c1.size c2.size (fun e a b h => h.no c2) ⟨fun _ => ⟨A, rfl, gA⟩, (fun e => by cases e), (fun e => by rcases e with e | e <;> cases e)⟩⟩
    · have hdY : Hd (fun _ => True) (fun k => V k ∨ (w102.heap.size ≤ k ∧ k < w1.heap.size)) w1 Y t := ⟨rY.go c1 (fun _ _ h => h.elim) (fun k hk hv => by rcases hv with hv | hv; · { exact hv }; · omega), fun k hk => by
        have := c1.size
        rcases hk with hk | hk
        · have := hVl k hk; omega
        · exact hk.2⟩
      refine (rstep_any Y hdY hok hin.st).mono ?_
      rintro e w2 ⟨v, rfl, R, rfl, hR2, c2⟩
      refine ⟨_, _, _, _, _, _, _, _, _, _, rfl, trN c1 c2, trivial, hZ.snoc c1.size c2.size (fun e a b h => h.no c2) ⟨(fun e => by cases e), fun _ => ⟨R, rfl, fun w3 c3 => ?_⟩, (fun e => by rcases e with e | e <;> cases e)⟩⟩
      refine (hR2 w3 (c3.mono (fun k hk hx => ?_))).wid (fun _ _ => trivial)
      rcases hx with hx | hx
      · exact Or.inl hx
      · exact Or.inr (by omega)
    intro lg w162 c162 hZ n163 n164 s165 s166 s167 t168 t169 n170 n171 n172 inA n173 n174 s175 s176 s177 t178 t179 n180 n181 n182 inB a183 inx b184 iny
    obtain ⟨rng, z1, z2⟩ := hZ
    obtain ⟨A, hA⟩ : ∃ A : StC, A = ⟨n163, n164, s165, s166, s167, t168, t169, n170, n171, n172⟩ := ⟨_, rfl⟩
    obtain ⟨R, hRr⟩ : ∃ R : StC, R = ⟨n173, n174, s175, s176, s177, t178, t179, n180, n181, n182⟩ := ⟨_, rfl⟩
    have inA' : (1, stC A) ∈ lg := by rw [hA]; exact inA
    have inB' : (3, stC R) ∈ lg := by rw [hRr]; exact inB
    obtain ⟨EA, EA1, EA2⟩ := z1 _ inA'
    obtain ⟨EB, EB1, EB2⟩ := z1 _ inB'
    obtain ⟨Ex, Ex1, Ex2⟩ := z1 _ inx
    obtain ⟨Ey, Ey1, Ey2⟩ := z1 _ iny
    have dAx := z2 _ inA' _ inx (ne (by decide))
    have dAy := z2 _ inA' _ iny (ne (by decide))
    have dBx := z2 _ inB' _ inx (ne (by decide))
    have dBy := z2 _ inB' _ iny (ne (by decide))
    have dxy := z2 _ inx _ iny (ne (by decide))
    generalize rng (1, stC A) = rA at *
    generalize rng (3, stC R) = rB at *
    generalize rng (4, [.pointer (some ⟨a183, 0, none⟩)]) = rx' at *
    generalize rng (5, [.pointer (some ⟨b184, 0, none⟩)]) = ry' at *
    obtain ⟨A', hA', gA⟩ := EA.1 rfl
    obtain rfl := stC_inj hA'
    obtain ⟨R', hR', gR⟩ := EB.2.1 rfl
    obtain rfl := stC_inj hR'
    obtain ⟨x', hx', oa, la1, la2⟩ := Ex.2.2 (Or.inl rfl)
    obtain rfl : a183 = x' := by injection hx' with h1 _; injection h1 with h1; injection h1 with h1; injection h1
    obtain ⟨y', hy', ob, lb1, lb2⟩ := Ey.2.2 (Or.inr rfl)
    obtain rfl : b184 = y' := by injection hy' with h1 _; injection h1 with h1; injection h1 with h1; injection h1
    have hab : a183 ≠ b184 := fun he => by omega
    have z162 := c162.size
    refine setSt A oa (by decide) rfl (by rw [hA]; rfl) fun w185 o185 c185 => setSt R (ob.chg c185 (fun he => hab he.symm)) (by decide) rfl (by rw [hRr]; rfl) fun w186 ob c186 => ?_
    have oa := o185.chg c186 (fun he => hab he)
    have d186 : Chg (fun j => j = a183 ∨ j = b184) w162 w186 := c185.trans c186 (fun _ _ h => Or.inl h) (fun _ _ h => Or.inr h)
    have z186 := d186.size
    have e186 : Chg No w102 w186 := c162.trans d186 (fun _ _ h => h) (fun k hk he => by omega)
    have gA := gA.chg d186 (fun k hk he => by rcases he with he | he <;> omega)
    have gR := gR.go (V' := fun k => V k ∨ (w102.heap.size ≤ k ∧ (k < rB.1 ∨ rB.2 ≤ k))) d186 (fun k _ he => Or.inr (by rcases he with he | he <;> omega)) (fun _ _ h => h)
    have ox := ox.no e186
    have oy := oy.no e186
    have q13 := q13.no e186
    have o99 := o99.no e186
    have xM := xM.no e186
    have lt99 := o99.lt
    have rX := rX.go (V' := V) e186 (fun _ _ h => h.elim) (fun _ _ h => h)
    have k186 := trN (trN k75 d102) e186
    have f186 : Chg No w75 w186 := trN d102 e186
    have kb2 := kb.reset f186 (fun _ h => h.elim)
    obtain ⟨P2, hP2⟩ : ∃ P2 : Nat → Prop, P2 = fun k => (P k ∧ k < w75.heap.size) ∨ w186.heap.size ≤ k := ⟨_, rfl⟩
    rw [← hP2] at kb2
    have hP2' : ∀ k, P2 k → (P k ∧ k < w75.heap.size ∧ w31.heap.size ≤ k ∧ k ≠ x71 ∧ k ≠ y72) ∨ w186.heap.size ≤ k := fun k hk => by
      rw [hP2] at hk
      rcases hk with hk | hk
      · have := hP k hk.1
        exact Or.inl ⟨hk.1, hk.2, this.1, this.2.1, this.2.2.1⟩
      · exact Or.inr hk
    have hR' : RightS (stepA t) := by unfold stepA; split; · { exact right_adv hR hok }; · exact hR
    have hok' : MOk (stepA t) := by unfold stepA; split; · { exact mok_adv hok }; · exact hok
    have hin' : SIn (stepA t) := by unfold stepA; split; · { exact sin_adv hin hok }; · exact hin
    have q1 := hR'.st
    have q2 := hR'.bk
    have q3 := hR'.me
    refine ⟨fun w' => ∃ D', BkJ D' P2 w' b36 ∧ (∀ k, D' k → w31.heap.size ≤ k ∧ k ≠ x71 ∧ k ≠ y72) ∧ Chg P2 w186 w', ?_, ?_⟩
    rotate_left
    · refine brB_of (fun _ => ?_) (fun _ => ⟨_, kb2, fun k hk => ?_, Chg.refl _ _⟩)
      · refine rdSt oa ((kb2.state (fun k hk => Or.inr hk) (fun k hk => by rw [hP2]; exact Or.inr hk) gA (by omega) (by omega) (by omega) (D' := fun k => w31.heap.size ≤ k ∧ k ≠ x71 ∧ k ≠ y72) (fun k hk => ?_) (fun k hk => ⟨by omega, fun hx => ?_, fun hx => ?_⟩)).mono ?_)
        · rcases hk with hk | hk
          · have := hD k hk.1; omega
          · omega
        · rcases hx with hx | hx <;> omega
        · have := hP2' k hx; omega
        · rintro e w198 ⟨rfl, kb3, c198⟩
          exact ⟨rfl, _, kb3, fun k hk => hk, c198⟩
      · rcases hk with hk | hk
        · have := hD k hk.1; omega
        · omega
    rintro w199 ⟨D', kb3, hD', c199⟩
    have z199 := c199.size
    have nP : ∀ k, k < w186.heap.size → (k = x71 ∨ k = y72 ∨ k = b13 ∨ w75.heap.size ≤ k) → ¬ P2 k := fun k hk he hx => by have := hP2' k hx; omega
    have la := oa.lt
    have lb := ob.lt
    have oa := oa.chg c199 (nP _ (by omega) (by omega))
    have ob := ob.chg c199 (nP _ (by omega) (by omega))
    have ox := ox.chg c199 (nP _ (by omega) (by omega))
    have oy := oy.chg c199 (nP _ (by omega) (by omega))
    have q13 := q13.chg c199 (nP _ (by omega) (by omega))
    have o99 := o99.chg c199 (nP _ (by omega) (by omega))
    have gA := gA.chg c199 (fun k hk => nP _ (by omega) (by omega))
    have xM := xM.chg c199 (fun k hk => nP _ (by omega) (by omega))
    have PV : ∀ k, k < w186.heap.size → P2 k → V k := fun k hk hx => by
      rcases hP2' k hx with hx | hx
      · rw [hV]; exact Or.inr (Or.inr hx.1)
      · omega
    have rX := rX.go (V' := V) c199 PV (fun _ _ h => h)
    have gR := gR.go (V' := fun k => V k ∨ (w102.heap.size ≤ k ∧ (k < rB.1 ∨ rB.2 ≤ k))) c199 (fun k hk hx => Or.inl (PV k hk hx)) (fun _ _ h => h)
    have k199 : Chg No w w199 := k186.trans c199 (fun _ _ h => h) (fun k hk he => by have := k31.size; have := hP2' k he; omega)
    refine ⟨fun b w' => b = false ∧ Chg No w199 w', ?_, ?_⟩
    rotate_left
    · refine rdSt oa (rdSt ob ((sameState_any A R gA.is (gR.at (Chg.refl _ _))).mono ?_))
      rintro e w221 ⟨rfl, c221⟩
      refine ⟨_, rfl, brN_f (rdSt (o99.no c221) (rdSt (ox.no c221) ((staysState_any M X (xM.no c221) (rX.at c221)).mono ?_)))⟩
      rintro e w244 ⟨rfl, c244⟩
      have d244 := trN c221 c244
      refine ⟨_, rfl, brN_f (rdSt (oa.no d244) ((iright_any A (gA.no d244).is).mono ?_))⟩
      rintro e w257 ⟨br, rfl, hbr, c257⟩
      have : br = true := hbr.2 hR'
      subst this
      exact ⟨_, rfl, rfl, trN d244 c257⟩
    rintro b w259 ⟨rfl, c259⟩
    refine brB_f ?_
    intro w261 hw261
    have c261 := dw hw261
    have d261 := trN c259 c261
    have z261 := d261.size
    have oa := oa.no d261
    have ob := ob.no d261
    have ox := ox.no d261
    have oy := oy.no d261
    have q13 := q13.no d261
    refine ⟨fun w' => Ob w' a183 (stC A) T_api_State ∧ Ob w' b184 (stC R) T_api_State, ⟨oa, ob⟩, hdSt (fun w' h => h.1) (hdSt (fun w' h => h.2) ?_)⟩
    refine setSt A ox (by decide) rfl rfl fun w283 o283 c283 => ⟨⟨oa.chg c283 (fun he => by omega), ob.chg c283 (fun he => by omega)⟩, ?_⟩
    refine setSt R (oy.chg c283 (fun he => hxy he.symm)) (by decide) rfl rfl fun w284 o284 c284 => ?_
    have p283 := o283.chg c284 (fun he => hxy he)
    have d284 : Chg (fun j => j = x71 ∨ j = y72) w261 w284 := c283.trans c284 (fun _ _ h => Or.inl h) (fun _ _ h => Or.inr h)
    have z284 := d284.size
    have k284 : Chg No w w284 := (trN k199 d261).trans d284 (fun _ _ h => h) (fun k hk he => by have := k38.size; rcases he with he | he <;> omega)
    rw [wr_in (by omega)]
    refine ⟨?_, by show n.toNat - ((j : Int) + 1).toNat < n.toNat - (j : Int).toNat; omega⟩
    rw [hI]
    have kb4 := ((kb3.no d261).nar.chg d284 (fun k hk he => by have := hD' k hk.1; omega))
    refine ⟨j + 1, A, R, stepA t, _, _, by omega, by omega, ?_, ?_, p283, o284, q13.chg d284 (fun he => by omega), kb4, fun k hk => ?_, fun k hk => ?_, hR', hok', hin', k284, by omega⟩
    · have gA2 := (gA.no d261).chg d284 (fun k hk he => by rcases he with he | he <;> omega)
      exact fun w2 c2 => ((gA2.chg c2 (fun k hk he => by
        rcases he with he | he | he
        · omega
        · omega
        · have := hP2' k he.1; omega)).is).wid (fun _ _ => trivial)
    · refine (gR.go (V' := fun k => V k ∨ (w102.heap.size ≤ k ∧ (k < rB.1 ∨ rB.2 ≤ k))) d261 (fun _ _ h => h.elim) (fun _ _ h => h)).go d284 (fun k _ he => Or.inl (by rw [hV]; rcases he with he | he; · { exact Or.inl he }; · exact Or.inr (Or.inl he))) (fun k hk he => ?_)
      rcases he with he | he | he
      · exact Or.inl (by rw [hV]; exact Or.inl he)
      · exact Or.inl (by rw [hV]; exact Or.inr (Or.inl he))
      · rcases hP2' k he.1 with hx | hx
        · exact Or.inl (by rw [hV]; exact Or.inr (Or.inr hx.1))
        · exact Or.inr (by omega)
    · have := hP2' k hk.1; omega
    · have := hD' k hk.1; omega
  · refine rdSt q13 ((lentState_any S (h.no k75) (by have := ok.st; omega) (by have := ok.bk; omega) (by have := ok.me; omega)).mono ?_)
    rintro e w296 ⟨M, rfl, xM, c296⟩
    have z296 := c296.size
    refine ⟨_, _, _, _, _, _, _, _, _, _, rfl, varSt M fun b307 w309 hb307 z309 o307 c309 => rdSt o307 ?_⟩
    have k309 := trN (trN k75 c296) c309
    refine (irun_any M (xM.no c309).is ok (hg.no k309) fuel (by omega)).mono ?_
    rintro e w321 ⟨A, rfl, gA, c321⟩
    have z321 := c321.size
    refine ⟨_, _, _, _, _, _, _, _, _, _, _, rfl, varSt A fun b333 w335 hb333 z335 o333 c335 => rdSt ((((q13.no c296).no c309).no c321).no c335) ?_⟩
    have k335 := trN (trN k309 c321) c335
    have d335 := trN (trN (trN c296 c309) c321) c335
    refine (rrun_any (D := fun _ => True) (V := P) S ⟨fun w2 c2 => h.no (k335.trans c2 (fun _ _ h => h) (fun k hk he => by have := k31.size; have := hP k he; omega)), fun k hk => by have := hP k hk; have := d335.size; omega⟩ ok hi fuel (by omega)).mono ?_
    rintro e w347 ⟨R, rfl, gR, c347⟩
    have z347 := c347.size
    refine ⟨_, _, _, _, _, _, _, _, _, _, _, rfl, varSt R fun b359 w361 hb359 z361 o359 c361 => rdSt ((o333.no c347).no c361) ?_⟩
    have e361 := trN (trN d335 c347) c361
    have kb2 := kb.reset e361 (fun _ h => h.elim)
    have q13 := q13.no e361
    have o307 := (((o307.no c321).no c335).no c347).no c361
    have o333 := (o333.no c347).no c361
    have l307 := o307.lt
    have l333 := o333.lt
    have l359 := o359.lt
    have gA := ((gA.no c335).no c347).no c361
    have okF := mok_run ok fuel
    have f1 := okF.st
    have f2 := okF.bk
    have f3 := okF.me
    have nP : ∀ k, k < w361.heap.size → (k = b13 ∨ w75.heap.size ≤ k) → ¬ ((P k ∧ k < w75.heap.size) ∨ w361.heap.size ≤ k) := fun k hk he hx => by
      rcases hx with hx | hx
      · have := hP k hx.1; omega
      · omega
    refine (kb2.state (fun k hk => Or.inr hk) (fun k hk => Or.inr hk) gA (by omega) (by omega) (by omega) (D' := fun k => w31.heap.size ≤ k) (fun k hk => ?_) (fun k hk => ⟨by omega, fun hx => ?_, nP k (by omega) (by omega)⟩)).mono ?_
    · rcases hk with hk | hk
      · have := hD k hk.1; omega
      · omega
    · rcases hx with hx | hx <;> omega
    rintro e w373 ⟨rfl, kb3, c373⟩
    have q13 := q13.chg c373 (nP _ (by omega) (by omega))
    have o307 := o307.chg c373 (nP _ (by omega) (by omega))
    have o333 := o333.chg c373 (nP _ (by omega) (by omega))
    have o359 := o359.chg c373 (nP _ (by omega) (by omega))
    have gA := gA.chg c373 (fun k hk => nP _ (by omega) (by omega))
    have xM := ((((((xM.no c309).no c321).no c335).no c347).no c361)).chg c373 (fun k hk => nP _ (by omega) (by omega))
    have gR := gR w373 (c361.trans c373 (fun _ _ h => h.elim) (fun k hk hx => by
      rcases hx with hx | hx
      · exact hx.1
      · omega))
    have k373 : Chg No w w373 := (trN k75 e361).trans c373 (fun _ _ h => h) (fun k hk hx => by
      have := k31.size
      rcases hx with hx | hx
      · have := hP k hx.1; omega
      · omega)
    refine ⟨rfl, rdSt o333 (rdSt o359 ((sameState_any A R gA.is gR).mono ?_))⟩
    rintro e w395 ⟨rfl, c395⟩
    refine ⟨_, rfl, brB_t ?_⟩
    rw [beq_self_eq_true]
    refine brB_t (rdSt (o307.no c395) (rdSt (q13.no c395) ((staysState_any M S (xM.no c395) (h.no (trN k373 c395))).mono ?_)))
    rintro e w418 ⟨rfl, c418⟩
    have d418 := trN c395 c418
    refine ⟨_, rfl, brB_t ((kb3.no d418).apart.mono ?_)⟩
    rintro e w421 ⟨rfl, c421⟩
    exact ⟨_, rfl, rfl, (trN k373 d418).trans c421 (fun _ _ h => h) (fun k hk hx => by have := k31.size; omega)⟩
end Go.Proofs.YtkjpmkopnkkbmaaGreatDoor
