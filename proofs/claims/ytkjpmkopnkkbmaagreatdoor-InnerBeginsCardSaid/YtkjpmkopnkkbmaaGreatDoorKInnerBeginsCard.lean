/- The walk of InnerBeginsCard. -/
import Derived.Test.YtkjpmkopnkkbmaaGreatDoorJ6
import Derived.Test.YtkjpmkopnkkbmaaGreatDoorJM
import Derived.Test.YtkjpmkopnkkbmaaGreatDoorJN
import Derived.Test.YtkjpmkopnkkbmaaGreatDoorJS
import Derived.Test.YtkjpmkopnkkbmaaGreatDoorJ4
import Derived.Test.YtkjpmkopnkkbmaaGreatDoorJJ
import Derived.Test.YtkjpmkopnkkbmaaGreatDoorJ2

/- A book of numbers alone: what is put in leaves the lists as they were. -/
set_option maxRecDepth 100000
namespace Go.Proofs.YtkjpmkopnkkbmaaGreatDoor
open Go.RowKit

def BkJ (D P : Nat → Prop) (w : World) (b : Nat) : Prop := ∃ (A Bs : Sl) (ls was : List Sl) (xss : List (List Int)), (Ob w b (bookI A Bs) T_hollowaybook_Book ∧ KO D intE T_sl_int w b A Bs ls was xss ∧ D b ∧ ls.length ≤ 250) ∧ ∀ k, k = b ∨ A.blk = some k ∨ Bs.blk = some k → P k
theorem BkJ.all {D P : Nat → Prop} {w : World} {b : Nat} (h : BkJ D P w b) : BkI D w b := by
  obtain ⟨A, Bs, ls, was, xss, h, _⟩ := h
  exact ⟨A, Bs, ls, was, xss, h⟩
theorem BkJ.apart {D P : Nat → Prop} {w : World} {b : Nat} (h : BkJ D P w b) : Calls Tryz.prog fn_hollowaybook_Book_Apart #[.pointer (some ⟨b, 0, none⟩)] w fun e w' => e = .returned (.bool true) ∧ Chg D w w' := h.all.apart
theorem BkJ.chg {D P S : Nat → Prop} {w w' : World} {b : Nat} (h : BkJ D P w b) (c : Chg S w w') (hS : ∀ k, D k → ¬ S k) : BkJ D P w' b := by
  obtain ⟨A, Bs, ls, was, xss, ⟨ho, hk, hb, hfew⟩, hP⟩ := h
  exact ⟨A, Bs, ls, was, xss, ⟨ho.chg c (hS _ hb), hk.chg c hS, hb, hfew⟩, hP⟩
theorem BkJ.no {D P : Nat → Prop} {w w' : World} {b : Nat} (h : BkJ D P w b) (c : Chg No w w') : BkJ D P w' b := h.chg c (fun _ _ h => h)
theorem BkJ.empty {D P : Nat → Prop} {w : World} {b : Nat} (h : Ob w b (bookI nilS nilS) T_hollowaybook_Book) (hb : D b) (hp : P b) : BkJ D P w b := ⟨nilS, nilS, [], [], [], ⟨h, KO.empty _ _ _ _ _, hb, Nat.zero_le _⟩, fun k e => by
  rcases e with e | e | e
  · rw [e]; exact hp
  all_goals cases e⟩
theorem BkJ.nar {D P : Nat → Prop} {w : World} {b : Nat} (h : BkJ D P w b) : BkJ (fun k => D k ∧ k < w.heap.size) (fun k => P k ∧ k < w.heap.size) w b := by
  obtain ⟨A, Bs, ls, was, xss, ⟨h1, h2, h3, h4⟩, hP⟩ := h
  refine ⟨A, Bs, ls, was, xss, ⟨h1, h2.nar, ⟨h3, h1.lt⟩, h4⟩, fun k e => ⟨hP k e, ?_⟩⟩
  rcases e with e | e | e
  · rw [e]; exact h1.lt
  · exact h2.oA.lt e
  · exact h2.oB.lt e
theorem BkJ.wid {D D' P P' : Nat → Prop} {w : World} {b : Nat} (h : BkJ D P w b) (hd : ∀ k, D k → D' k) (hp : ∀ k, P k → P' k) : BkJ D' P' w b := by
  obtain ⟨A, Bs, ls, was, xss, ⟨h1, h2, h3, h4⟩, hP⟩ := h
  exact ⟨A, Bs, ls, was, xss, ⟨h1, h2.wid hd, hd _ h3, h4⟩, fun k e => hp _ (hP k e)⟩
theorem BkJ.ints {D P : Nat → Prop} {w : World} {b : Nat} (h : BkJ D P w b) (hD : ∀ k, w.heap.size ≤ k → D k) (hp : ∀ k, w.heap.size ≤ k → P k) {l : Sl} {xs : List Int} (hx : Ox intE w l xs) (hxs : xs.length ≤ 10000000) {D' : Nat → Prop} (hD' : ∀ k, D k → D' k) (hl : ∀ k, l.blk = some k → D' k ∧ ¬ D k) :
    Calls Tryz.prog fn_hollowaybook_Book_Ints #[.pointer (some ⟨b, 0, none⟩), l.val] w fun e w' => e = .returned (.tuple #[]) ∧ BkJ D' P w' b ∧ Chg P w w' := by
  refine (hollowaybook_Book_Ints_lift (K := fun r w' => r = .tuple #[] ∧ BkJ D' P w' b ∧ Chg P w w') ?_).mono (by rintro e w' ⟨r, rfl, rfl, h⟩; exact ⟨rfl, h⟩)
  unfold hollowaybook_Book_Ints_sh
  obtain ⟨A1, B1, l1, s1, x1, ⟨ho, hk, hb, hfew⟩, hPP⟩ := h
  have hw : KO D' intE T_sl_int w b A1 B1 l1 s1 x1 := hk.wid hD'
  have hll : ∀ k, l.blk = some k → D' k ∧ k ≠ b ∧ A1.blk ≠ some k ∧ B1.blk ≠ some k ∧ ¬ blksOf l1 k ∧ ¬ blksOf s1 k := fun k hlk => by
    obtain ⟨h1, h2⟩ := hl k hlk
    exact ⟨h1, fun e => h2 (e ▸ hb), fun e => h2 (hk.dA k e).1, fun e => h2 (hk.dB k e).1, fun e => h2 (hk.dl k e).1, fun e => h2 (hk.dw k e).1⟩
  refine addx_core (K := fun r w' => r = .tuple #[] ∧ BkJ D' P w' b ∧ Chg P w w') (TB := T_hollowaybook_Book) (cs := bookI A1 B1) slIntOk ho rfl rfl hw.half (fun k e => hD' k (hD k e)) hx hxs hll (G := fun s' w10 w14 => Ow intE w14 s' xs) (fun w10 c10 => ?_)
    (fun _ => ⟨rfl, ⟨A1, B1, l1, s1, x1, ⟨ho, hw, hD' b hb, hfew⟩, hPP⟩, Chg.refl _ _⟩)
    (fun hlt A' B' c' w10 w14 w' o' k'' hG c10 c14 c1420 hbk hA10 hAn hB14 ch => ?_)
  · refine (copyInts_any l xs w10 (hx.chg c10 (fun k hk he => ?_)).rd hxs).mono ?_
    · rcases he with he | he
      · exact (hll k hk).2.1 he
      · exact (hll k hk).2.2.1 he
    · rintro e w' ⟨s', rfl, h1, h2, h3⟩
      exact ⟨s', rfl, h1, fun k hk => ⟨h3 k hk, h1.lt hk⟩, h2⟩
  have z10 := c10.size
  have k' : KO D' intE T_sl_int w' b A' B' (l1 ++ [l]) (s1 ++ [c']) (x1 ++ [xs]) := by
    refine ⟨k''.oA, k''.oB, k''.len, k''.lenB, k''.ox, fun i s ys hs hy => ?_, k''.dis, k''.dA, k''.dB, k''.dl, k''.dw⟩
    rcases app_at hs with ⟨h5, h6⟩ | ⟨h5, rfl⟩
    · rw [List.getElem?_append_left (by have := hk.lenB; omega)] at hy
      refine (hk.rd i s ys h6 hy).chg ch (fun m hm he => ?_)
      have h9 : blksOf s1 m := ⟨i, s, h6, hm⟩
      rcases he with he | he | he
      · exact (hk.dw m h9).2.1 he
      · exact (hk.dA m he).2.2.2.2 h9
      · exact (hk.dB m he).2.2.2 h9
    · rcases app_at hy with ⟨h6, _⟩ | ⟨_, rfl⟩
      · have := hk.lenB; omega
      · refine (hG.chg c1420 (fun m hm he => ?_)).rd
        have hm' := hbk m hm
        rcases he with he | he
        · have := ho.lt; omega
        · have := hk.oB.lt he; omega
  refine ⟨rfl, ⟨A', B', l1 ++ [l], s1 ++ [c'], x1 ++ [xs], ⟨o', k', hD' b hb, by rw [List.length_append]; show l1.length + 1 ≤ 250; omega⟩, fun k e => ?_⟩, ch.mono (fun k _ e => hPP k e)⟩
  rcases e with e | e | e
  · exact hPP k (Or.inl e)
  · rcases hAn k e with e | e
    · exact hPP k (Or.inr (Or.inl e))
    · exact hp k e
  · rcases hB14 k e with e | e
    · exact hPP k (Or.inr (Or.inr e))
    · exact hp k (by have := c14.size; omega)
/-- The lists of a machine that are its own, put into the book. -/
theorem BkJ.state {D P : Nat → Prop} {w : World} {b : Nat} (h : BkJ D P w b) (hD : ∀ k, w.heap.size ≤ k → D k) (hp : ∀ k, w.heap.size ≤ k → P k) {S : StC} {s : StV} {F : Nat → Prop} (hs : StX F w S s) (h1 : s.stack.length ≤ 1000000) (h2 : s.back.length ≤ 1000000) (h3 : s.mem.length ≤ 1000000) {D' : Nat → Prop} (hD' : ∀ k, D k → D' k) (hF : ∀ k, F k → D' k ∧ ¬ D k ∧ ¬ P k) :
    Calls Tryz.prog fn_hollowaybook_Book_State #[.pointer (some ⟨b, 0, none⟩), .agg (stC S).toArray] w fun e w' => e = .returned (.tuple #[]) ∧ BkJ D' P w' b ∧ Chg P w w' := by
  refine (hollowaybook_Book_State_lift (K := fun r w' => r = .tuple #[] ∧ BkJ D' P w' b ∧ Chg P w w') ?_).mono (by rintro e w' ⟨r, rfl, rfl, h⟩; exact ⟨rfl, h⟩)
  unfold hollowaybook_Book_State_sh
  intro b11 w12 hb11 hw12
  have c12 := al hw12
  have z12 : w12.heap.size = w.heap.size + 1 := by rw [hw12]; simp
  have o12 : Ob w12 b11 (stC S) T_api_State := by rw [hw12, hb11]; exact Ob.new w (stC S) T_api_State
  have lt12 := o12.lt
  obtain ⟨E, hE⟩ : ∃ E : Nat → Prop, E = fun k => D k ∧ k ≠ b11 := ⟨_, rfl⟩
  obtain ⟨Q, hQ⟩ : ∃ Q : Nat → Prop, Q = fun k => P k ∧ k ≠ b11 := ⟨_, rfl⟩
  have hE1 : ∀ k, E k → D k ∧ k ≠ b11 := fun k hk => by rw [hE] at hk; exact hk
  have hQ1 : ∀ k, Q k → P k ∧ k ≠ b11 := fun k hk => by rw [hQ] at hk; exact hk
  have h12 : BkJ E Q w12 b := by
    have g := h.nar
    rw [hE, hQ]
    exact (g.no c12).wid (fun k hk => ⟨hk.1, by have := hk.2; omega⟩) (fun k hk => ⟨hk.1, by have := hk.2; omega⟩)
  have hEs : ∀ k, w12.heap.size ≤ k → E k := fun k hk => by rw [hE]; exact ⟨hD k (by omega), by omega⟩
  have hQs : ∀ k, w12.heap.size ≤ k → Q k := fun k hk => by rw [hQ]; exact ⟨hp k (by omega), by omega⟩
  have nE : ∀ k, F k → ¬ E k := fun k hk he => (hF k hk).2.1 (hE1 k he).1
  have nQ : ∀ k, F k → ¬ Q k := fun k hk he => (hF k hk).2.2 (hQ1 k he).1
  have hs12 := hs.no c12
  refine ⟨S.stack, o12.cell rfl, ?_⟩
  refine (h12.ints hEs hQs hs12.st (by omega) (D' := fun k => E k ∨ S.stack.blk = some k) (fun k hk => Or.inl hk) (fun k hk => ⟨Or.inr hk, nE k (hs.stD k hk).1⟩)).mono ?_
  rintro e w15 ⟨rfl, h15, c15⟩
  have z15 := c15.size
  have o15 := o12.chg c15 (fun he => (hQ1 _ he).2 rfl)
  have hs15 := hs12.chg c15 (fun k hk he => nQ k hk he)
  refine ⟨rfl, S.back, o15.cell rfl, ?_⟩
  refine (h15.ints (fun k hk => Or.inl (hEs k (by omega))) (fun k hk => hQs k (by omega)) hs15.bk (by omega) (D' := fun k => (E k ∨ S.stack.blk = some k) ∨ S.back.blk = some k) (fun k hk => Or.inl hk) (fun k hk => ⟨Or.inr hk, fun he => ?_⟩)).mono ?_
  · rcases he with he | he
    · exact nE k (hs.bkD k hk).1 he
    · exact (hs.stD k he).2.1 hk
  rintro e w18 ⟨rfl, h18, c18⟩
  have z18 := c18.size
  have o18 := o15.chg c18 (fun he => (hQ1 _ he).2 rfl)
  have hs18 := hs15.chg c18 (fun k hk he => nQ k hk he)
  refine ⟨rfl, S.mem, o18.cell rfl, ?_⟩
  refine (h18.ints (fun k hk => Or.inl (Or.inl (hEs k (by omega)))) (fun k hk => hQs k (by omega)) hs18.me (by omega) (D' := D') (fun k hk => ?_) (fun k hk => ⟨(hF k (hs.meD k hk)).1, fun he => ?_⟩)).mono ?_
  · rcases hk with (hk | hk) | hk
    · exact hD' k (hE1 k hk).1
    · exact (hF k (hs.stD k hk).1).1
    · exact (hF k (hs.bkD k hk).1).1
  · rcases he with (he | he) | he
    · exact nE k (hs.meD k hk) he
    · exact (hs.stD k he).2.2 hk
    · exact (hs.bkD k he).2 hk
  rintro e w21 ⟨rfl, h21, c21⟩
  exact ⟨rfl, rfl, h21.wid (fun k hk => hk) (fun k hk => (hQ1 k hk).1), (((c12.mono (fun _ _ h => h.elim)).trans c15 (U := P) (fun _ _ h => h) (fun k _ hk => (hQ1 k hk).1)).trans c18 (fun _ _ h => h) (fun k _ hk => (hQ1 k hk).1)).trans c21 (fun _ _ h => h) (fun k _ hk => (hQ1 k hk).1)⟩
end Go.Proofs.YtkjpmkopnkkbmaaGreatDoor

/- Machines whose lists have room behind them, in which a mark stands. -/
set_option maxRecDepth 100000
namespace Go.Proofs.YtkjpmkopnkkbmaaGreatDoor
open Go.RowKit

structure StLent (D : Nat → Prop) (w : World) (S : StC) (s : StV) : Prop where
  nums : StNums S s
  st : Lent w S.stack s.stack
  bk : Lent w S.back s.back
  me : Lent w S.mem s.mem
  stD : ∀ k, S.stack.blk = some k → D k
  bkD : ∀ k, S.back.blk = some k → D k
  meD : ∀ k, S.mem.blk = some k → D k
theorem StLent.is {D : Nat → Prop} {w : World} {S : StC} {s : StV} (h : StLent D w S s) : StIs D w S s := ⟨h.nums, h.st.rd, h.bk.rd, h.me.rd, h.stD, h.bkD, h.meD⟩
theorem StLent.chg {D S' : Nat → Prop} {w w' : World} {S : StC} {s : StV} (h : StLent D w S s) (c : Chg S' w w') (hS : ∀ k, D k → ¬ S' k) : StLent D w' S s :=
  ⟨h.nums, h.st.chg c (fun k hk => hS _ (h.stD k hk)), h.bk.chg c (fun k hk => hS _ (h.bkD k hk)), h.me.chg c (fun k hk => hS _ (h.meD k hk)), h.stD, h.bkD, h.meD⟩
theorem StLent.no {D : Nat → Prop} {w w' : World} {S : StC} {s : StV} (h : StLent D w S s) (c : Chg No w w') : StLent D w' S s := h.chg c (fun _ _ h => h)
theorem lentState_any {D : Nat → Prop} {w : World} (S : StC) {s : StV} (h : StIs D w S s) (h1 : s.stack.length ≤ 1000000) (h2 : s.back.length ≤ 1000000) (h3 : s.mem.length ≤ 1000000) : Calls Tryz.prog fn_hollowaybook_LentState #[.agg (stC S).toArray] w fun e w' => ∃ S' : StC, e = .returned (.agg (stC S').toArray) ∧ StLent (fun k => w.heap.size ≤ k ∧ k < w'.heap.size) w' S' s ∧ Chg No w w' := by
  refine (hollowaybook_LentState_lift (K := fun r w' => ∃ S' : StC, r = .agg (stC S').toArray ∧ StLent (fun k => w.heap.size ≤ k ∧ k < w'.heap.size) w' S' s ∧ Chg No w w') ?_).mono (by rintro e w' ⟨r, rfl, S', rfl, h⟩; exact ⟨S', rfl, h⟩)
  unfold hollowaybook_LentState_sh
  intro b11 w12 hb11 hw12 b13 w14 hb13 hw14
  have c12 := al hw12
  have c14 := al hw14
  have z12 : w12.heap.size = w.heap.size + 1 := by rw [hw12]; simp
  have z14 : w14.heap.size = w12.heap.size + 1 := by rw [hw14]; simp
  have o11 : Ob w14 b11 (stC S) T_api_State := by
    have : Ob w12 b11 (stC S) T_api_State := by rw [hw12, hb11]; exact Ob.new w (stC S) T_api_State
    exact this.no c14
  have o13 : Ob w14 b13 (stC st0) T_api_State := by rw [hw14, hb13]; exact Ob.new w12 (stC st0) T_api_State
  intro w15 hw15
  have c15 := dw hw15
  have k15 := trN (trN c12 c14) c15
  have z15 := c15.size
  have p11 := o11.no c15
  have p13 := o13.no c15
  have hd : ∀ {j : Nat} {u : Value}, (stC S)[j]? = some u → held (fun w' => Chg No w15 w') ⟨b11, j, none⟩ u := fun h => Ob.held (fun w' c => p11.no c) h
  refine ⟨fun w' => Chg No w15 w', Chg.refl _ _, S.stack, hd rfl, S.back, hd rfl, S.mem, hd rfl, ?_⟩
  refine (lentInts_any (h.st.no k15) h1).mono ?_
  rintro e w21 ⟨s22, rfl, g22, c21, n22⟩
  have k21 := trN k15 c21
  have z21 := c21.size
  refine ⟨s22, rfl, c21, ?_⟩
  refine (lentInts_any (h.bk.no k21) h2).mono ?_
  rintro e w24 ⟨s25, rfl, g25, c24, n25⟩
  have k24 := trN k21 c24
  have z24 := c24.size
  refine ⟨s25, rfl, trN c21 c24, ?_⟩
  refine (lentInts_any (h.me.no k24) h3).mono ?_
  rintro e w27 ⟨s28, rfl, g28, c27, n28⟩
  have k27 := trN k24 c27
  have z27 := c27.size
  have c1527 := trN (trN c21 c24) c27
  refine ⟨s28, rfl, c1527, (p11.no c1527).wr (by simp [stC]), fun w29 hw29 => ?_⟩
  obtain ⟨q11, d29⟩ := (p11.no c1527).up (k := 2) (vs := [s22.val]) (cs' := stC { S with stack := s22 }) (by simp [stC]) rfl hw29
  refine ⟨q11.wr (by simp [stC]), fun w30 hw30 => ?_⟩
  obtain ⟨q11, d30⟩ := q11.up (k := 3) (vs := [s25.val]) (cs' := stC { S with stack := s22, back := s25 }) (by simp [stC]) rfl hw30
  refine ⟨q11.wr (by simp [stC]), fun w31 hw31 => ?_⟩
  obtain ⟨q11, d31⟩ := q11.up (k := 4) (vs := [s28.val]) (cs' := stC { S with stack := s22, back := s25, mem := s28 }) (by simp [stC]) rfl hw31
  have d2731 : Chg (fun j => j = b11) w27 w31 := (d29.trans d30 (fun _ _ h => h) (fun _ _ h => h)).trans d31 (fun _ _ h => h) (fun _ _ h => h)
  have r13 := (p13.no c1527).chg d2731 (fun he => by omega)
  refine ⟨_, _, _, _, _, _, _, _, _, _, q11.cell rfl, q11.cell rfl, q11.cell rfl, q11.cell rfl, q11.cell rfl, q11.cell rfl, q11.cell rfl, q11.cell rfl, q11.cell rfl, q11.cell rfl, r13.wr (by simp [stC]), fun w42 hw42 => ?_⟩
  obtain ⟨r13, d42⟩ := r13.up (k := 0) (vs := stC { S with stack := s22, back := s25, mem := s28 }) (cs' := stC { S with stack := s22, back := s25, mem := s28 }) (by simp [stC]) rfl hw42
  have d2742 : Chg (fun j => j = b11 ∨ j = b13) w27 w42 := d2731.trans d42 (fun _ _ h => Or.inl h) (fun _ _ h => Or.inr h)
  have z42 := d2742.size
  have b22 : ∀ k, s22.blk = some k → w15.heap.size ≤ k ∧ k < w27.heap.size := fun k hk => by have := n22 k hk; omega
  have b25 : ∀ k, s25.blk = some k → w15.heap.size ≤ k ∧ k < w27.heap.size := fun k hk => by have := n25 k hk; omega
  have b28 : ∀ k, s28.blk = some k → w15.heap.size ≤ k ∧ k < w27.heap.size := fun k hk => by have := n28 k hk; omega
  have m : StLent (fun k => w15.heap.size ≤ k ∧ k < w27.heap.size) w27 { S with stack := s22, back := s25, mem := s28 } s :=
    ⟨h.nums, (g22.no c24).no c27, g25.no c27, g28, b22, b25, b28⟩
  have m' := m.chg d2742 (fun k hk he => by omega)
  refine ⟨_, _, _, _, _, _, _, _, _, _, r13.cell rfl, r13.cell rfl, r13.cell rfl, r13.cell rfl, r13.cell rfl, r13.cell rfl, r13.cell rfl, r13.cell rfl, r13.cell rfl, r13.cell rfl, { S with stack := s22, back := s25, mem := s28 }, rfl, ?_, k27.trans d2742 (fun _ _ h => h) (fun k hk he => by omega)⟩
  exact ⟨m'.nums, m'.st, m'.bk, m'.me, fun k hk => by have := m'.stD k hk; omega, fun k hk => by have := m'.bkD k hk; omega, fun k hk => by have := m'.meD k hk; omega⟩
theorem staysState_any {D D' : Nat → Prop} {w : World} (m S : StC) {s : StV} (hm : StLent D w m s) (h : StIs D' w S s) : Calls Tryz.prog fn_hollowaybook_StaysState #[.agg (stC m).toArray, .agg (stC S).toArray] w fun e w' => e = .returned (.bool true) ∧ Chg No w w' := by
  refine (hollowaybook_StaysState_lift (K := fun r w' => r = .bool true ∧ Chg No w w') ?_).mono (by rintro e w' ⟨r, rfl, rfl, h⟩; exact ⟨rfl, h⟩)
  unfold hollowaybook_StaysState_sh
  intro b21 w22 hb21 hw22 b23 w24 hb23 hw24
  have c22 := al hw22
  have c24 := al hw24
  have o21 : Ob w24 b21 (stC m) T_api_State := by
    have : Ob w22 b21 (stC m) T_api_State := by rw [hw22, hb21]; exact Ob.new w (stC m) T_api_State
    exact this.no c24
  have o23 : Ob w24 b23 (stC S) T_api_State := by rw [hw24, hb23]; exact Ob.new w22 (stC S) T_api_State
  have k24 := trN c22 c24
  refine ⟨_, _, _, _, _, _, _, _, _, _, o21.cell rfl, o21.cell rfl, o21.cell rfl, o21.cell rfl, o21.cell rfl, o21.cell rfl, o21.cell rfl, o21.cell rfl, o21.cell rfl, o21.cell rfl, ?_⟩
  refine ⟨_, _, _, _, _, _, _, _, _, _, o23.cell rfl, o23.cell rfl, o23.cell rfl, o23.cell rfl, o23.cell rfl, o23.cell rfl, o23.cell rfl, o23.cell rfl, o23.cell rfl, o23.cell rfl, (sameState_any m S (hm.no k24).is (h.no k24)).mono ?_⟩
  rintro e w46 ⟨rfl, c46⟩
  have k46 := trN k24 c46
  refine ⟨_, rfl, brB_t ⟨m.stack, (o21.no c46).cell rfl, S.stack, (o23.no c46).cell rfl, (staysInts_any (hm.no k46).st (h.no k46).st).mono ?_⟩⟩
  rintro e w51 ⟨rfl, c51⟩
  have k51 := trN k46 c51
  have d51 := trN c46 c51
  refine ⟨_, rfl, brB_t ⟨m.back, (o21.no d51).cell rfl, S.back, (o23.no d51).cell rfl, (staysInts_any (hm.no k51).bk (h.no k51).bk).mono ?_⟩⟩
  rintro e w56 ⟨rfl, c56⟩
  have k56 := trN k51 c56
  have d56 := trN d51 c56
  refine ⟨_, rfl, brB_t ⟨m.mem, (o21.no d56).cell rfl, S.mem, (o23.no d56).cell rfl, (staysInts_any (hm.no k56).me (h.no k56).me).mono ?_⟩⟩
  rintro e w61 ⟨rfl, c61⟩
  exact ⟨_, rfl, rfl, trN k56 c61⟩
end Go.Proofs.YtkjpmkopnkkbmaaGreatDoor

/- inner.Right, inner.Fault; states of their own. -/
set_option maxRecDepth 100000
namespace Go.Proofs.YtkjpmkopnkkbmaaGreatDoor
open Go.RowKit

theorem StOw.x {D : Nat → Prop} {w : World} {S : StC} {s : StV} (h : StOw D w S s) : StX D w S s :=
  ⟨h.nums, h.st.ox, h.bk.ox, h.me.ox, fun k hk => ⟨h.stD k hk, fun he => (h.bkD k he).2 hk, fun he => (h.meD k he).2.1 hk⟩, fun k hk => ⟨(h.bkD k hk).1, fun he => (h.meD k he).2.2 hk⟩, fun k hk => (h.meD k hk).1⟩
theorem iright_any {D : Nat → Prop} {w : World} (S : StC) {s : StV} (h : StIs D w S s) : Calls Tryz.prog fn_inner_Right #[.agg (stC S).toArray] w fun e w' => ∃ b : Bool, e = .returned (.bool b) ∧ (b = true ↔ RightS s) ∧ Chg No w w' := by
  refine (inner_Right_lift (K := fun r w' => ∃ b : Bool, r = .bool b ∧ (b = true ↔ RightS s) ∧ Chg No w w') ?_).mono (by rintro e w' ⟨r, rfl, b, rfl, h⟩; exact ⟨b, rfl, h⟩)
  unfold inner_Right_sh
  refine inSt S fun b11 w12 hb11 z12 o c => ?_
  obtain ⟨m1, m2, m3, m4, m5, m6, m7⟩ := h.nums
  have l1 := h.st.len
  have l2 := h.bk.len
  have l3 := h.me.len
  have no : ∀ {w' : World}, Chg No w w' → ¬ RightS s → ∃ b : Bool, Value.bool false = .bool b ∧ (b = true ↔ RightS s) ∧ Chg No w w' := fun c h => ⟨false, rfl, ⟨(fun h => by cases h), fun h' => absurd h' h⟩, c⟩
  refine ⟨fun b w' => b = decide (s.stack.length ≤ 48 ∧ s.back.length ≤ 48 ∧ s.mem.length ≤ 3000) ∧ w' = w12, ?_, S.stack, o.cell rfl, brB_of (fun h1 => ⟨S.back, o.cell rfl, brB_of (fun h2 => ⟨S.mem, o.cell rfl, ?_, rfl⟩) (fun h2 => ⟨?_, rfl⟩)⟩) (fun h1 => ⟨?_, rfl⟩)⟩
  rotate_left
  · have h1 := of_decide_eq_true h1
    have h2 := of_decide_eq_true h2
    rw [Bool.eq_iff_iff, decide_eq_true_iff, decide_eq_true_iff]; omega
  · have h2 := of_decide_eq_false h2
    exact (decide_eq_false (by omega)).symm
  · have h1 := of_decide_eq_false h1
    exact (decide_eq_false (by omega)).symm
  rintro b w16 ⟨rfl, rfl⟩
  refine brB_of (fun hl => ?_) (fun hl => no c fun hh => of_decide_eq_false hl ⟨hh.st, hh.bk, hh.me⟩)
  obtain ⟨h1, h2, h3⟩ := of_decide_eq_true hl
  refine ⟨S.out, o.cell rfl, brB_of (fun h4 => ?_) (fun h4 => no c fun hh => ?_)⟩
  rotate_left
  · have := of_decide_eq_false h4; have := hh.out; rw [m3] at *; omega
  have h4 := of_decide_eq_true h4
  refine ⟨S.read, o.cell rfl, brB_of (fun h5 => ?_) (fun h5 => no c fun hh => ?_)⟩
  rotate_left
  · have := of_decide_eq_false h5; have := hh.rd; omega
  have h5 := of_decide_eq_true h5
  refine ⟨S.read, o.cell rfl, S.inp, o.cell rfl, brB_of (fun h6 => ?_) (fun h6 => no c fun hh => ?_)⟩
  rotate_left
  · have := of_decide_eq_false h6; have := hh.rd; rw [m4] at *; omega
  have h6 := of_decide_eq_true h6
  refine ⟨S.status, o.cell rfl, brB_of (fun h7 => ?_) (fun h7 => no c fun hh => ?_)⟩
  rotate_left
  · have := of_decide_eq_false h7; have := hh.status; omega
  have h7 := of_decide_eq_true h7
  refine ⟨S.status, o.cell rfl, _, rfl, ?_, c⟩
  rw [decide_eq_true_iff]
  rw [m3] at h4
  rw [m4] at h6
  exact ⟨fun h8 => ⟨h1, h2, h3, by omega, by omega, by omega⟩, fun hh => by have := hh.status; omega⟩
theorem ifault_any {D : Nat → Prop} {w : World} (S : StC) {s : StV} (h : StIs D w S s) (n1 : s.stack.length ≤ 100) (n2 : s.back.length ≤ 100) (n3 : s.mem.length ≤ 1000000) (code : Int) :
    Calls Tryz.prog fn_inner_Fault #[.agg (stC S).toArray, .int .i64 code] w fun e w' => ∃ S' : StC, e = .returned (.agg (stC S').toArray) ∧ StX (fun k => w.heap.size ≤ k ∧ k < w'.heap.size) w' S' (mFault s code) ∧ Chg No w w' := by
  refine (inner_Fault_lift (K := fun r w' => ∃ S' : StC, r = .agg (stC S').toArray ∧ StX (fun k => w.heap.size ≤ k ∧ k < w'.heap.size) w' S' (mFault s code) ∧ Chg No w w') ?_).mono (by rintro e w' ⟨r, rfl, S, rfl, h⟩; exact ⟨S, rfl, h⟩)
  unfold inner_Fault_sh
  refine inSt S fun b12 w13 hb12 z13 o12 c13 => inSt st0 fun b14 w15 hb14 z15 o14 c15 => ?_
  have k15 := trN c13 c15
  refine rdSt (o12.no c15) ((icopy_any S (h.no k15) (by omega) (by omega) n3).mono ?_)
  rintro e w27 ⟨S1, rfl, h1, c27⟩
  have x1 := h1.x
  have z27 := c27.size
  refine ⟨_, _, _, _, _, _, _, _, _, _, rfl, (mfaulty_any S1 x1.nums x1.st x1.bk n1 n2 code).mono ?_⟩
  rintro e w39 ⟨S2, rfl, g, c39⟩
  have z39 := c39.size
  have l14 := o14.lt
  refine ⟨_, _, _, _, _, _, _, _, _, _, rfl, setSt S2 ((o14.no c27).no c39) (by decide) rfl rfl fun w50 o50 c50 => rdSt o50 ⟨S2, rfl, ?_, (trN (trN k15 c27) c39).trans c50 (fun _ _ h => h) (fun k hk he => by omega)⟩⟩
  have z50 := c50.size
  have hm : (mFault s code).mem = s.mem := by unfold mFault; split <;> rfl
  have m39 : Ox intE w39 S2.mem (mFault s code).mem := by rw [g.me, hm]; exact x1.me.no c39
  have x39 : StX (fun k => w15.heap.size ≤ k ∧ k < w39.heap.size) w39 S2 (mFault s code) := by
    refine ⟨g.nums, g.st, g.bk, m39, fun k hk => ?_, fun k hk => ?_, fun k hk => ?_⟩
    · rcases g.stB with e | e
      · rw [e] at hk
        have := x1.stD k hk
        rw [g.bkB, g.me]
        exact ⟨by omega, this.2⟩
      · have h1 := e k hk
        have h2 := g.st.lt k hk
        rw [g.bkB, g.me]
        exact ⟨by omega, fun he => by have := x1.bkD k he; omega, fun he => by have := x1.meD k he; omega⟩
    · rw [g.bkB] at hk
      have := x1.bkD k hk
      rw [g.me]
      exact ⟨by omega, this.2⟩
    · rw [g.me] at hk
      have := x1.meD k hk; omega
  exact (x39.chg c50 (fun k hk he => by omega)).wid (fun k hk => by omega)
end Go.Proofs.YtkjpmkopnkkbmaaGreatDoor

/- Recordings, in plain words. No program in sight. -/
set_option maxRecDepth 100000
namespace Go.Proofs.YtkjpmkopnkkbmaaGreatDoor
open Go.RowKit

/-- A step as it is recorded. -/
structure SnV where
  ip : Int
  cell : Int
  arg : Int
  next : Int
structure RcV where
  start : Int
  fin : Int
  loop : Bool
  steps : List SnV
/-! ### With more steps that may be done -/
/-! ### Which recordings may be -/
end Go.Proofs.YtkjpmkopnkkbmaaGreatDoor

/- Functions of Record, read without their frames; that each is enough. Printed by a program of mine (wip/lift/gen.py). -/
set_option maxRecDepth 100000
namespace Go.Proofs.YtkjpmkopnkkbmaaGreatDoor
open Go.RowKit

-- holloway/record.Loop
-- holloway/record.Cells
-- holloway/record.Right
-- holloway/record.After
-- holloway/record.next
-- holloway/record.arg
-- holloway/record.single
-- holloway/record.load
-- holloway/record.plain
-- holloway/record.place
end Go.Proofs.YtkjpmkopnkkbmaaGreatDoor

/- The package record: its small functions, a step as it is recorded. -/
set_option maxRecDepth 100000
namespace Go.Proofs.YtkjpmkopnkkbmaaGreatDoor
open Go.RowKit

def seC (x : SnV) : List Value := [.int .i64 x.ip, .int .i64 x.cell, .int .i64 x.arg, .int .i64 x.next]
def seE : Enc SnV := ⟨T_api_Seen, 4, 32, seC, by intro x; rfl, by intro x u hu; simp [seC] at hu; rcases hu with rfl | rfl | rfl | rfl <;> rfl, by decide⟩
theorem hdSt {Q : World → Prop} {b : Nat} {S : StC} {T : TypeId} {G : Int → Int → Sl → Sl → Sl → ByteArray → ByteArray → Int → Int → Int → Prop} (h : ∀ w', Q w' → Ob w' b (stC S) T) (g : G S.ip S.handler S.stack S.back S.mem S.out S.inp S.read S.status S.code) :
    ∃ n1 : Int, ∃ n2 : Int, ∃ s3 : Sl, ∃ s4 : Sl, ∃ s5 : Sl, ∃ t6 : ByteArray, ∃ t7 : ByteArray, ∃ n8 : Int, ∃ n9 : Int, ∃ n10 : Int, held Q ⟨b, 0, none⟩ (.int .i64 n1) ∧ held Q ⟨b, 1, none⟩ (.int .i64 n2) ∧ held Q ⟨b, 2, none⟩ (s3.val) ∧ held Q ⟨b, 3, none⟩ (s4.val) ∧ held Q ⟨b, 4, none⟩ (s5.val) ∧ held Q ⟨b, 5, none⟩ (.string t6) ∧ held Q ⟨b, 6, none⟩ (.string t7) ∧ held Q ⟨b, 7, none⟩ (.int .i64 n8) ∧ held Q ⟨b, 8, none⟩ (.int .i64 n9) ∧ held Q ⟨b, 9, none⟩ (.int .i64 n10) ∧ G n1 n2 s3 s4 s5 t6 t7 n8 n9 n10 :=
  ⟨_, _, _, _, _, _, _, _, _, _, Ob.held h rfl, Ob.held h rfl, Ob.held h rfl, Ob.held h rfl, Ob.held h rfl, Ob.held h rfl, Ob.held h rfl, Ob.held h rfl, Ob.held h rfl, Ob.held h rfl, g⟩
end Go.Proofs.YtkjpmkopnkkbmaaGreatDoor

/- The package record: Loop. -/
set_option maxRecDepth 100000
namespace Go.Proofs.YtkjpmkopnkkbmaaGreatDoor
open Go.RowKit

structure RcC where
  start : Int
  fin : Int
  loop : Bool
  steps : Sl
/-- A recording in memory; its steps in blocks of D. -/
structure RcOw (D : Nat → Prop) (w : World) (R : RcC) (r : RcV) : Prop where
  nums : R.start = r.start ∧ R.fin = r.fin ∧ R.loop = r.loop
  steps : Ox seE w R.steps r.steps
  stD : ∀ k, R.steps.blk = some k → D k
theorem RcOw.chg {D X : Nat → Prop} {w w' : World} {R : RcC} {r : RcV} (h : RcOw D w R r) (c : Chg X w w') (hX : ∀ k, D k → ¬ X k) : RcOw D w' R r := ⟨h.nums, h.steps.chg c (fun k hk => hX k (h.stD k hk)), h.stD⟩
theorem RcOw.no {D : Nat → Prop} {w w' : World} {R : RcC} {r : RcV} (h : RcOw D w R r) (c : Chg No w w') : RcOw D w' R r := h.chg c (fun _ _ h => h)
end Go.Proofs.YtkjpmkopnkkbmaaGreatDoor

/- Lists with room behind them, in which a mark stands, of any kind; blocks told apart by their types. -/
set_option maxRecDepth 100000
namespace Go.Proofs.YtkjpmkopnkkbmaaGreatDoor
open Go.RowKit

/-- s reads as these, and behind them stands the mark, in a block of its own. -/
def LentE {α : Type} (E : Enc α) (x : α) (w : World) (s : Sl) (xs : List α) : Prop := s.len = xs.length ∧ Ow E w ⟨s.ptr, xs.length + 1, s.cap⟩ (xs ++ [x])
theorem addz0 (q : Addr) : q.add 0 = q := by unfold Addr.add; simp
section
variable {α : Type} {E : Enc α} {x : α} {w w' : World} {s : Sl} {xs : List α}
theorem LentE.rd (h : LentE E x w s xs) : Rd E w s xs := by
  have ht := (h.2.take (n := xs.length) (by simp)).rd
  rw [List.take_left] at ht
  have : s = ⟨s.ptr, xs.length, s.cap⟩ := by rw [← h.1]
  rw [this]; exact ht
theorem LentE.chg {S : Nat → Prop} (h : LentE E x w s xs) (c : Chg S w w') (hS : ∀ k, s.blk = some k → ¬ S k) : LentE E x w' s xs := by
  refine ⟨h.1, h.2.chg c (fun k hk => hS k ?_)⟩
  rw [← hk]; unfold Sl.blk Sl.val; cases s.ptr <;> rfl
theorem LentE.no (h : LentE E x w s xs) (c : Chg No w w') : LentE E x w' s xs := h.chg c (fun _ _ h => h)
/-- The mark behind it. -/
theorem LentE.mark (h : LentE E x w s xs) {n : Int} {r : List Value} (hx : E.e x = .int .i64 n :: r) {G : Prop} (g : G) :
    0 ≤ (wr ((s.len : Int) + (1 : Int))) ∧ (wr ((s.len : Int) + (1 : Int))) ≤ (s.cap : Int) ∧ ∀ s6 : Sl, s6 = Sl.sub s.ptr s.cap 0 (Int.toNat (wr ((s.len : Int) + (1 : Int)))) E.sz →
    ∃ a7 : Addr, s6.ptr = some a7 ∧ 0 ≤ (s.len : Int) ∧ (s.len : Int) < (s6.len : Int) ∧ ∃ n8 : Int, w.cell? (Addr.add a7 (Int.toNat (s.len : Int) * E.sz)) = some (.int .i64 n8) ∧ (n8 = n ∧ G) := by
  have hc := h.2.rd.capL
  rw [List.length_append] at hc
  have h1 : [x].length = 1 := rfl
  have hc1 : xs.length + 1 ≤ s.cap := by have := hc.1; omega
  have hc2 : s.cap ≤ 9223372036854775807 := hc.2
  have hml := h.1
  rw [wr_of (by omega) (by omega)]
  refine ⟨by omega, by omega, ?_⟩
  intro s6 hs6
  rw [sub0] at hs6
  have e6 : s6 = ⟨s.ptr, xs.length + 1, s.cap⟩ := by rw [hs6]; congr 1; omega
  have h6 : Rd E w s6 (xs ++ [x]) := by rw [e6]; exact h.2.rd
  refine h6.ix (i := (s.len : Int)) (x := x) (by omega) (by rw [Int.toNat_natCast, hml, List.getElem?_append_right (Nat.le_refl _)]; simp) fun a ha hcell => ?_
  have q1 := hcell 0 (.int .i64 n) (by rw [hx]; rfl)
  rw [addz0] at q1
  exact ⟨n, q1, rfl, g⟩
end
/-- The block holds cells of this type. -/
def TyB (T : TypeId) (w : World) (k : Nat) : Prop := ∃ arr z, w.heap[k]? = some (.cells arr T z)
theorem Ow.ty {α : Type} {E : Enc α} {w : World} {s : Sl} {xs : List α} (h : Ow E w s xs) {k : Nat} (hk : s.blk = some k) : TyB E.t w k := by
  have h' : Own w E.t E.sz s.val xs.length (fl E xs) := h
  rcases h'.2 with ⟨hv, _⟩ | ⟨g, cap, cur, hv, _, hg, _⟩
  · exfalso
    have : s.val.ownBlock = some k := hk
    rw [hv] at this; cases this
  · have : s.val.ownBlock = some k := hk
    rw [hv] at this
    have e : g = k := by injection this
    subst e
    exact ⟨_, _, hg⟩
theorem TyB.chg {T : TypeId} {S : Nat → Prop} {w w' : World} {k : Nat} (h : TyB T w k) (c : Chg S w w') (hS : ¬ S k) : TyB T w' k := by
  obtain ⟨arr, z, h⟩ := h
  exact ⟨arr, z, c.row h hS⟩
theorem TyB.ne {T U : TypeId} {w : World} {k b : Nat} {cs : List Value} (h : TyB T w k) (o : Ob w b cs U) (hTU : T ≠ U) : k ≠ b := fun e => by
  obtain ⟨arr, z, h⟩ := h
  subst e
  have := h.symm.trans o
  simp at this
  exact hTU this.2.1
end Go.Proofs.YtkjpmkopnkkbmaaGreatDoor

/- Functions of Hollowaylaw13, read without their frames; that each is enough. Printed by a program of mine (wip/lift/gen.py). -/
set_option maxRecDepth 100000
namespace Go.Proofs.YtkjpmkopnkkbmaaGreatDoor
open Go.RowKit

-- holloway/hollowaylaw13.RecordStays
-- holloway/hollowaylaw13.RecordCells
-- holloway/hollowaylaw13.RecordTells
-- holloway/hollowaylaw13.alive
-- holloway/hollowaylaw13.same
end Go.Proofs.YtkjpmkopnkkbmaaGreatDoor

/- Lists of recorded steps, held against each other; which recordings may be; the first call of chapter 13's statements; RecordMost. -/
set_option maxRecDepth 100000
namespace Go.Proofs.YtkjpmkopnkkbmaaGreatDoor
open Go.RowKit

/-! ### Which recordings may be -/
end Go.Proofs.YtkjpmkopnkkbmaaGreatDoor

/- The first call of chapter 13's statements; RecordMost: the walk. -/
set_option maxRecDepth 100000
namespace Go.Proofs.YtkjpmkopnkkbmaaGreatDoor
open Go.RowKit

/-- hollowayref9.Enter: all but the return stack stays where it was. -/
theorem r9enter_any {D : Nat → Prop} {w : World} (S : StC) {s : StV} (h : StIs D w S s) (xt : Int) :
    Calls Tryz.prog fn_hollowayref9_Enter #[.agg (stC S).toArray, .int .i64 xt] w fun e w' => ∃ bS : Sl, e = .returned (.agg (stC ⟨xt, 0, S.stack, bS, S.mem, S.out, S.inp, S.read, 0, 0⟩).toArray) ∧ Ow intE w' bS [0] ∧ (∀ k, bS.blk = some k → w.heap.size ≤ k ∧ k < w'.heap.size) ∧ Chg No w w' := by
  refine (hollowayref9_Enter_lift (K := fun r w' => ∃ bS : Sl, r = .agg (stC ⟨xt, 0, S.stack, bS, S.mem, S.out, S.inp, S.read, 0, 0⟩).toArray ∧ Ow intE w' bS [0] ∧ (∀ k, bS.blk = some k → w.heap.size ≤ k ∧ k < w'.heap.size) ∧ Chg No w w') ?_).mono (by rintro e w' ⟨r, rfl, S, rfl, h⟩; exact ⟨S, rfl, h⟩)
  unfold hollowayref9_Enter_sh
  refine inSt S fun b12 w13 hb12 z13 o12 c13 => inSt st0 fun b14 w15 hb14 z15 o14 c15 => ?_
  intro b16 w17 hb16 hw17
  obtain ⟨l17, c17⟩ := litL [0] _ rfl hb16 hw17 (by simp)
  have hlt17 : b16 < w17.heap.size := l17.lt rfl
  have z17 := c17.size
  obtain ⟨bS, hbS⟩ : ∃ bS : Sl, bS = ⟨some ⟨b16, 0, none⟩, 1, 1⟩ := ⟨_, rfl⟩
  have hbb : ∀ k, bS.blk = some k → k = b16 := fun k hk => by rw [hbS] at hk; exact (Option.some.inj hk).symm
  have l17 : Ow intE w17 bS [0] := by rw [hbS]; exact l17
  rw [show (Value.slice (some ⟨b16, 0, none⟩) 1 1) = bS.val by rw [hbS]]
  refine setSt { S with ip := xt } ((o12.no c15).no c17) (by decide) rfl rfl fun w18 o18 c18 => setSt { S with ip := xt, handler := 0 } o18 (by decide) rfl rfl fun w19 o19 c19 => setSt { S with ip := xt, handler := 0, back := bS } o19 (by decide) rfl rfl fun w20 o20 c20 => setSt { S with ip := xt, handler := 0, back := bS, status := 0 } o20 (by decide) rfl rfl fun w21 o21 c21 => setSt { S with ip := xt, handler := 0, back := bS, status := 0, code := 0 } o21 (by decide) rfl rfl fun w22 o22 c22 => rdSt o22 ?_
  have d22 : Chg (fun j => j = b12) w17 w22 := (((c18.trans c19 (fun _ _ h => h) (fun _ _ h => h)).trans c20 (fun _ _ h => h) (fun _ _ h => h)).trans c21 (fun _ _ h => h) (fun _ _ h => h)).trans c22 (fun _ _ h => h) (fun _ _ h => h)
  have z22 := d22.size
  refine setSt { S with ip := xt, handler := 0, back := bS, status := 0, code := 0 } ((o14.no c17).chg d22 (fun he => by omega)) (by decide) rfl rfl fun w33 o33 c33 => rdSt o33 ?_
  have z33 := c33.size
  refine ⟨bS, rfl, (l17.chg d22 (fun k hk he => by have := hbb k hk; omega)).chg c33 (fun k hk he => by have := hbb k hk; omega), fun k hk => by have := hbb k hk; omega, ?_⟩
  exact ((trN (trN c13 c15) c17).trans d22 (fun _ _ h => h) (fun k hk he => by omega)).trans c33 (fun _ _ h => h) (fun k hk he => by omega)
end Go.Proofs.YtkjpmkopnkkbmaaGreatDoor

/- The document's own machine in memory: the state that was, the answer's, and the working one; what is pushed, cut and set. -/
set_option maxRecDepth 100000
namespace Go.Proofs.YtkjpmkopnkkbmaaGreatDoor
open Go.RowKit

structure RM (w0 w : World) (a z m : Nat) (S0 S : StC) (s : StV) : Prop where
  c : Chg No w0 w
  za : w0.heap.size ≤ a
  zz : w0.heap.size ≤ z
  zm : w0.heap.size ≤ m
  naz : a ≠ z
  nam : a ≠ m
  nzm : z ≠ m
  oa : Ob w a (stC S0) T_api_State
  oz : Ob w z (stC st0) T_api_State
  om : Ob w m (stC S) T_api_State
  x : StX (fun k => w0.heap.size ≤ k ∧ k ≠ a ∧ k ≠ z ∧ k ≠ m) w S s
section
variable {w0 w : World} {a z m : Nat} {S0 S : StC} {s : StV}
theorem RM.up {X : Nat → Prop} {w' : World} {S' : StC} {s' : StV} (h : RM w0 w a z m S0 S s) (c : Chg X w w') (hX : ∀ k, X k → w0.heap.size ≤ k ∧ k ≠ a ∧ k ≠ z) (om : Ob w' m (stC S') T_api_State)
    (x : StX (fun k => w0.heap.size ≤ k ∧ k ≠ a ∧ k ≠ z ∧ k ≠ m) w' S' s') : RM w0 w' a z m S0 S' s' :=
  ⟨h.c.trans c (fun _ _ h => h) (fun k hk hx => by have := (hX k hx).1; omega), h.za, h.zz, h.zm, h.naz, h.nam, h.nzm, h.oa.chg c (fun hx => (hX a hx).2.1 rfl), h.oz.chg c (fun hx => (hX z hx).2.2 rfl), om, x⟩
theorem RM.no {w' : World} (h : RM w0 w a z m S0 S s) (c : Chg No w w') : RM w0 w' a z m S0 S s := h.up c (fun _ h => h.elim) (h.om.no c) (h.x.no c)
/-- Cells of the working state written; its lists are as they were, or cut. -/
theorem RM.set (h : RM w0 w a z m S0 S s) (S' : StC) (s' : StV) {k n : Nat} {vs : List Value} {G : World → Prop} (hl : k + n ≤ 10) (hn : n = vs.length) (hc : wrL (stC S) k vs = stC S') (nums : StNums S' s')
    (e1 : ∃ n, n ≤ s.stack.length ∧ S'.stack = ⟨S.stack.ptr, n, S.stack.cap⟩ ∧ s'.stack = s.stack.take n) (e2 : ∃ n, n ≤ s.back.length ∧ S'.back = ⟨S.back.ptr, n, S.back.cap⟩ ∧ s'.back = s.back.take n) (e3 : S'.mem = S.mem ∧ s'.mem = s.mem)
    (g : ∀ w', RM w0 w' a z m S0 S' s' → G w') : wrOk w ⟨m, k, none⟩ n ∧ ∀ w' : World, w' = stW w ⟨m, k, none⟩ 0 vs → G w' := by
  refine setSt S' h.om hl hn hc fun w' o' c' => g w' ?_
  obtain ⟨n1, l1, f1, g1⟩ := e1
  obtain ⟨n2, l2, f2, g2⟩ := e2
  obtain ⟨f3, g3⟩ := e3
  have hb1 : S'.stack.blk = S.stack.blk := by rw [f1]; unfold Sl.blk Sl.val; cases S.stack.ptr <;> rfl
  have hb2 : S'.back.blk = S.back.blk := by rw [f2]; unfold Sl.blk Sl.val; cases S.back.ptr <;> rfl
  have xs := h.x.chg c' (fun k hk he => hk.2.2.2 he)
  refine h.up c' (fun k hk => by have hk : k = m := hk; rw [hk]; exact ⟨h.zm, h.nam.symm, h.nzm.symm⟩) o' ⟨nums, ?_, ?_, ?_, ?_, ?_, ?_⟩
  · rw [f1, g1]; exact xs.st.take l1
  · rw [f2, g2]; exact xs.bk.take l2
  · rw [f3, g3]; exact xs.me
  · rw [hb1, hb2, f3]; exact xs.stD
  · rw [hb2, f3]; exact xs.bkD
  · rw [f3]; exact xs.meD
/-- A list literal, appended to a part of the stack. -/
theorem RM.push (h : RM w0 w a z m S0 S s) {n : Nat} (hn : n ≤ s.stack.length) (ys : List Int) (cs : List Value) (hcs : cs = fl intE ys) (hne : ys ≠ []) (hl : ys.length ≤ 100) (hs : s.stack.length ≤ 10000) {G : World → Prop}
    (k : ∀ w2 S', S'.back = S.back → S'.mem = S.mem → RM w0 w2 a z m S0 S' { s with stack := s.stack.take n ++ ys } → G w2) {q : Nat} (hlen : q = ys.length) {l : Sl} (hq : l = ⟨S.stack.ptr, n, S.stack.cap⟩) :
    ∀ (b : Nat) (w1 : World), b = w.heap.size → w1 = World.alloc w (.cells cs.toArray T_int) → ∃ s4 : Sl, ∃ w5 : World, (Builtin.append_ #[T_sl_int, T_sl_int] T_sl_int #[l.val, .slice (some ⟨b, 0, none⟩) q q]).run Tryz.prog w1 = .ok (s4.val) w5 ∧
      wrOk w5 ⟨m, 2, none⟩ 1 ∧ ∀ w6 : World, w6 = stW w5 ⟨m, 2, none⟩ 0 [s4.val] → G w6 := by
  intro b w1 hb hw
  subst hlen hq
  obtain ⟨g, c1⟩ := litL ys cs hcs hb hw hl
  have h1 := h.no c1
  have hbk : (⟨S.stack.ptr, n, S.stack.cap⟩ : Sl).blk = S.stack.blk := by unfold Sl.blk Sl.val; cases S.stack.ptr <;> rfl
  have lt : (s.stack.take n).length ≤ 10000 := by rw [List.length_take]; omega
  refine appx_ok intOk rfl rfl (h1.x.st.take hn) g.rd rfl (fun _ => hne) (by show (_ + _) * 8 ≤ _; omega) (by unfold maxLen; omega) ?_
  intro s4 w5 g4 c5 b4 _
  rw [hbk] at b4 c5
  have hmst : ¬ S.stack.blk = some m := fun he => (h1.x.stD m he).1.2.2.2 rfl
  have ltm := h1.om.lt
  have zaa := h1.oa.lt
  have zzz := h1.oz.lt
  have o5 := h1.om.chg c5 hmst
  have ds4 : ∀ k, s4.blk = some k → (w0.heap.size ≤ k ∧ k ≠ a ∧ k ≠ z ∧ k ≠ m) ∧ S.back.blk ≠ some k ∧ S.mem.blk ≠ some k := fun k hk => by
    rcases b4 with hh | hh
    · exact h1.x.stD k (hh ▸ hk)
    · have := hh k hk
      have := h1.c.size
      exact ⟨⟨by omega, by omega, by omega, by omega⟩, fun he => by have := h1.x.bk.lt k he; omega, fun he => by have := h1.x.me.lt k he; omega⟩
  have h5 : RM w0 w5 a z m S0 S { s with stack := s.stack } ∨ True := Or.inr trivial
  clear h5
  refine setSt { S with stack := s4 } o5 (by decide) rfl rfl fun w6 o6 c6 => k w6 { S with stack := s4 } rfl rfl ?_
  have c56 : Chg (fun j => S.stack.blk = some j ∨ j = m) w1 w6 := c5.trans c6 (fun _ _ h => Or.inl h) (fun _ _ h => Or.inr h)
  refine h1.up c56 (fun j hj => ?_) o6 ⟨h.x.nums, g4.chg c6 (fun k hk he => (ds4 k hk).1.2.2.2 he), (h1.x.bk.chg c56 (fun k hk he => ?_)), (h1.x.me.chg c56 (fun k hk he => ?_)), ds4, h1.x.bkD, h1.x.meD⟩
  · rcases hj with hj | hj
    · exact ⟨(h1.x.stD j hj).1.1, (h1.x.stD j hj).1.2.1, (h1.x.stD j hj).1.2.2.1⟩
    · rw [hj]; exact ⟨h.zm, h.nam.symm, h.nzm.symm⟩
  · rcases he with he | he
    · exact (h1.x.stD k he).2.1 hk
    · exact (h1.x.bkD k hk).1.2.2.2 he
  · rcases he with he | he
    · exact (h1.x.stD k he).2.2 hk
    · exact (h1.x.meD k hk).2.2.2 he
/-- A list literal, appended to the return stack. -/
theorem RM.back (h : RM w0 w a z m S0 S s) (ys : List Int) (cs : List Value) (hcs : cs = fl intE ys) (hne : ys ≠ []) (hl : ys.length ≤ 100) (hs : s.back.length ≤ 10000) {G : World → Prop}
    (k : ∀ w2 S', S'.stack = S.stack → S'.mem = S.mem → RM w0 w2 a z m S0 S' { s with back := s.back ++ ys } → G w2) {q : Nat} (hlen : q = ys.length) :
    ∀ (b : Nat) (w1 : World), b = w.heap.size → w1 = World.alloc w (.cells cs.toArray T_int) → ∃ s4 : Sl, ∃ w5 : World, (Builtin.append_ #[T_sl_int, T_sl_int] T_sl_int #[S.back.val, .slice (some ⟨b, 0, none⟩) q q]).run Tryz.prog w1 = .ok (s4.val) w5 ∧
      wrOk w5 ⟨m, 3, none⟩ 1 ∧ ∀ w6 : World, w6 = stW w5 ⟨m, 3, none⟩ 0 [s4.val] → G w6 := by
  intro b w1 hb hw
  subst hlen
  obtain ⟨g, c1⟩ := litL ys cs hcs hb hw hl
  have h1 := h.no c1
  refine appx_ok intOk rfl rfl h1.x.bk g.rd rfl (fun _ => hne) (by show (_ + _) * 8 ≤ _; omega) (by unfold maxLen; omega) ?_
  intro s4 w5 g4 c5 b4 _
  have hmst : ¬ S.back.blk = some m := fun he => (h1.x.bkD m he).1.2.2.2 rfl
  have ltm := h1.om.lt
  have zaa := h1.oa.lt
  have zzz := h1.oz.lt
  have o5 := h1.om.chg c5 hmst
  have ds4 : ∀ k, s4.blk = some k → (w0.heap.size ≤ k ∧ k ≠ a ∧ k ≠ z ∧ k ≠ m) ∧ S.stack.blk ≠ some k ∧ S.mem.blk ≠ some k := fun k hk => by
    rcases b4 with hh | hh
    · have hk' := hh ▸ hk
      exact ⟨(h1.x.bkD k hk').1, fun he => (h1.x.stD k he).2.1 hk', (h1.x.bkD k hk').2⟩
    · have := hh k hk
      have := h1.c.size
      exact ⟨⟨by omega, by omega, by omega, by omega⟩, fun he => by have := h1.x.st.lt k he; omega, fun he => by have := h1.x.me.lt k he; omega⟩
  refine setSt { S with back := s4 } o5 (by decide) rfl rfl fun w6 o6 c6 => k w6 { S with back := s4 } rfl rfl ?_
  have c56 : Chg (fun j => S.back.blk = some j ∨ j = m) w1 w6 := c5.trans c6 (fun _ _ h => Or.inl h) (fun _ _ h => Or.inr h)
  refine h1.up c56 (fun j hj => ?_) o6 ⟨h.x.nums, (h1.x.st.chg c56 (fun k hk he => ?_)), g4.chg c6 (fun k hk he => (ds4 k hk).1.2.2.2 he), (h1.x.me.chg c56 (fun k hk he => ?_)), fun k hk => ⟨(h1.x.stD k hk).1, fun he => (ds4 k he).2.1 hk, (h1.x.stD k hk).2.2⟩, fun k hk => ⟨(ds4 k hk).1, (ds4 k hk).2.2⟩, h1.x.meD⟩
  · rcases hj with hj | hj
    · exact ⟨(h1.x.bkD j hj).1.1, (h1.x.bkD j hj).1.2.1, (h1.x.bkD j hj).1.2.2.1⟩
    · rw [hj]; exact ⟨h.zm, h.nam.symm, h.nzm.symm⟩
  · rcases he with he | he
    · exact (h1.x.stD k hk).2.1 he
    · exact (h1.x.stD k hk).1.2.2.2 he
  · rcases he with he | he
    · exact (h1.x.bkD k he).2 hk
    · exact (h1.x.meD k hk).2.2.2 he
/-- The working state, given as the answer. -/
theorem RM.fin (h : RM w0 w a z m S0 S s) {K : Value → World → Prop} (g : ∀ w', StX (fun k => w0.heap.size ≤ k) w' S s → Chg No w0 w' → K (.agg (stC S).toArray) w') {T : TypeId} :
    ∃ n1 : Int, ∃ n2 : Int, ∃ s3 : Sl, ∃ s4 : Sl, ∃ s5 : Sl, ∃ t6 : ByteArray, ∃ t7 : ByteArray, ∃ n8 : Int, ∃ n9 : Int, ∃ n10 : Int, w.cell? ⟨m, 0, none⟩ = some (.int .i64 n1) ∧ w.cell? ⟨m, 1, none⟩ = some (.int .i64 n2) ∧ w.cell? ⟨m, 2, none⟩ = some (s3.val) ∧ w.cell? ⟨m, 3, none⟩ = some (s4.val) ∧ w.cell? ⟨m, 4, none⟩ = some (s5.val) ∧ w.cell? ⟨m, 5, none⟩ = some (.string t6) ∧ w.cell? ⟨m, 6, none⟩ = some (.string t7) ∧ w.cell? ⟨m, 7, none⟩ = some (.int .i64 n8) ∧ w.cell? ⟨m, 8, none⟩ = some (.int .i64 n9) ∧ w.cell? ⟨m, 9, none⟩ = some (.int .i64 n10) ∧
    wrOk w ⟨z, 0, none⟩ 10 ∧ ∀ w' : World, w' = stW w ⟨z, 0, none⟩ 0 [.int .i64 n1, .int .i64 n2, s3.val, s4.val, s5.val, .string t6, .string t7, .int .i64 n8, .int .i64 n9, .int .i64 n10] →
    ∃ n1 : Int, ∃ n2 : Int, ∃ s3 : Sl, ∃ s4 : Sl, ∃ s5 : Sl, ∃ t6 : ByteArray, ∃ t7 : ByteArray, ∃ n8 : Int, ∃ n9 : Int, ∃ n10 : Int, w'.cell? ⟨z, 0, none⟩ = some (.int .i64 n1) ∧ w'.cell? ⟨z, 1, none⟩ = some (.int .i64 n2) ∧ w'.cell? ⟨z, 2, none⟩ = some (s3.val) ∧ w'.cell? ⟨z, 3, none⟩ = some (s4.val) ∧ w'.cell? ⟨z, 4, none⟩ = some (s5.val) ∧ w'.cell? ⟨z, 5, none⟩ = some (.string t6) ∧ w'.cell? ⟨z, 6, none⟩ = some (.string t7) ∧ w'.cell? ⟨z, 7, none⟩ = some (.int .i64 n8) ∧ w'.cell? ⟨z, 8, none⟩ = some (.int .i64 n9) ∧ w'.cell? ⟨z, 9, none⟩ = some (.int .i64 n10) ∧
    K (.agg #[.int .i64 n1, .int .i64 n2, s3.val, s4.val, s5.val, .string t6, .string t7, .int .i64 n8, .int .i64 n9, .int .i64 n10]) w' := by
  refine rdSt h.om (setSt S h.oz (by decide) rfl rfl fun w' o' c' => rdSt o' ?_)
  refine g w' ((h.x.chg c' (fun k hk he => hk.2.2.1 he)).wid (fun k hk => hk.1)) (h.c.trans c' (fun _ _ h => h) (fun k hk he => ?_))
  have he : k = z := he
  have := h.zz
  omega
end
end Go.Proofs.YtkjpmkopnkkbmaaGreatDoor

/- hollowayref9: Copy and Fault. -/
set_option maxRecDepth 100000
namespace Go.Proofs.YtkjpmkopnkkbmaaGreatDoor
open Go.RowKit

theorem nil_app {w : World} {l : Sl} {xs : List Int} (h : Rd intE w l xs) (hn : xs.length ≤ 100000) {G : Sl → World → Prop} (k : ∀ (s' : Sl) (w' : World), Ow intE w' s' xs → Chg No w w' → (∀ k, s'.blk = some k → w.heap.size ≤ k) → G s' w') :
    ∃ s' : Sl, ∃ w' : World, (Builtin.append_ #[T_sl_int, T_sl_int] T_sl_int #[.slice none 0 0, l.val]).run Tryz.prog w = .ok (s'.val) w' ∧ G s' w' := by
  refine app_ok intOk (s := nilS) (t := l) rfl rfl (Ow.nil _ _) h (by show (0 + xs.length) * 8 ≤ _; omega) (by show 0 + xs.length ≤ _; unfold maxLen; omega) ?_
  intro s' w' h' c' b'
  refine k s' w' h' ((Chg.refl No _).trans c' (fun _ _ h => h) (fun k _ he => by cases he)) fun k hk => ?_
  rcases b' with hh | hh
  · rw [hh] at hk; cases hk
  · have := Option.some.inj (hh.symm.trans hk); omega
/-- A state that reads as s, whatever is done to the blocks of V. -/
structure Hd (D V : Nat → Prop) (w : World) (S : StC) (s : StV) : Prop where
  is : ∀ w2, Chg V w w2 → StIs D w2 S s
  lt : ∀ k, V k → k < w.heap.size
theorem Hd.at {D V : Nat → Prop} {w w' : World} {S : StC} {s : StV} (h : Hd D V w S s) (c : Chg No w w') : StIs D w' S s := h.is w' (c.mono (fun _ _ h => h.elim))
theorem rfault_any {D V : Nat → Prop} {w0 w : World} (S : StC) {s : StV} (h0 : Hd D V w0 S s) (c0 : Chg No w0 w) (n1 : s.stack.length ≤ 1000) (n2 : s.back.length ≤ 1000) (c : Int) :
    Calls Tryz.prog fn_hollowayref9_Fault #[.agg (stC S).toArray, .int .i64 c] w fun e w' => ∃ S' : StC, e = .returned (.agg (stC S').toArray) ∧ (∀ (w2 : World) (X : Nat → Prop), Chg X w' w2 → (∀ k, w.heap.size ≤ k → ¬ X k) → Chg V w0 w2 → StIs (fun k => D k ∨ w0.heap.size ≤ k) w2 S' (mFault s c)) ∧ Chg No w w' := by
  refine (hollowayref9_Fault_lift (K := fun v w' => ∃ S' : StC, v = .agg (stC S').toArray ∧ (∀ (w2 : World) (X : Nat → Prop), Chg X w' w2 → (∀ k, w.heap.size ≤ k → ¬ X k) → Chg V w0 w2 → StIs (fun k => D k ∨ w0.heap.size ≤ k) w2 S' (mFault s c)) ∧ Chg No w w') ?_).mono (by rintro e w' ⟨v, rfl, n, rfl, h⟩; exact ⟨n, rfl, h⟩)
  have h := h0.at c0
  have z0 := c0.size
  unfold hollowayref9_Fault_sh
  obtain ⟨m1, m2, m3, m4, m5, m6, m7⟩ := h.nums
  have ls := h.st.len
  have lb := h.bk.len
  have cs := h.st.capL
  have cb := h.bk.capL
  refine inSt S fun b12 w13 hb12 z13 o12 c13 => inSt st0 fun b14 w15 hb14 z15 o14 c15 => ⟨S.handler, (o12.no c15).cell rfl, ?_⟩
  have k15 := trN c13 c15
  have p12 := o12.no c15
  have hbk := h.bk.no k15
  have hst := h.st.no k15
  rw [m2]
  have caught : (mCaught s).isSome = decide (3 ≤ s.handler ∧ s.handler ≤ s.back.length ∧ 0 ≤ getI s.back (s.handler - 1) ∧ getI s.back (s.handler - 1) < 48) := by
    unfold mCaught
    split
    · next hh => rw [decide_eq_true hh]; rfl
    · next hh => rw [decide_eq_false hh]; rfl
  refine ⟨fun b w' => b = (mCaught s).isSome ∧ w' = w15, ?_, ?_⟩
  rotate_left
  · refine brB_of (fun t1 => ⟨S.back, p12.cell rfl, brB_of (fun t2 => ⟨S.back, p12.cell rfl, ?_⟩) (fun t2 => ?_)⟩) (fun t1 => ?_)
    · have t1 := of_decide_eq_true t1
      have t2 := of_decide_eq_true t2
      rw [wr_in (by omega)]
      refine hbk.ix (i := s.handler - 1) (by omega) (getI_at (by omega) (by omega)) fun a19 _ hc => ?_
      have q := hc 0 _ rfl
      rw [Go.Proofs.YtkjpmkopnkkbmaaGreatDoor.add0] at q
      refine ⟨_, q, brB_of (fun t3 => ⟨S.back, p12.cell rfl, ?_⟩) (fun t3 => ⟨?_, rfl⟩)⟩
      · have t3 := of_decide_eq_true t3
        refine hbk.ix (i := s.handler - 1) (by omega) (getI_at (by omega) (by omega)) fun a22 _ hc => ?_
        have q := hc 0 _ rfl
        rw [Go.Proofs.YtkjpmkopnkkbmaaGreatDoor.add0] at q
        refine ⟨_, q, ?_, rfl⟩
        rw [caught, Bool.eq_iff_iff, decide_eq_true_iff, decide_eq_true_iff]
        exact ⟨fun t4 => ⟨by omega, by omega, by omega, t4⟩, fun t4 => t4.2.2.2⟩
      · have t3 := of_decide_eq_false t3
        rw [caught]; exact (decide_eq_false (by omega)).symm
    · have t1 := of_decide_eq_true t1
      have t2 := of_decide_eq_false t2
      exact ⟨by rw [caught]; exact (decide_eq_false (by omega)).symm, rfl⟩
    · have t1 := of_decide_eq_false t1
      exact ⟨by rw [caught]; exact (decide_eq_false (by omega)).symm, rfl⟩
  rintro b w24 ⟨rfl, rfl⟩
  refine brB_of (fun hx => ?_) (fun hx => ?_)
  · have hx' := hx
    rw [caught] at hx'
    have hcond := of_decide_eq_true hx'
    obtain ⟨k, hk⟩ : ∃ k : Nat, mCaught s = some k ∧ (k : Int) = getI s.back (s.handler - 1) := ⟨(getI s.back (s.handler - 1)).toNat, by unfold mCaught; rw [if_pos hcond], by omega⟩
    obtain ⟨hk, hk0⟩ := hk
    obtain ⟨h3, hle, hk1, hk48⟩ := hcond
    refine ⟨S.back, p12.cell rfl, ?_⟩
    rw [wr_in (x := s.handler - 1) (by omega), wr_in (x := s.handler - 2) (by omega), wr_in (x := s.handler - 3) (by omega)]
    refine hbk.ix (i := s.handler - 1) (by omega) (getI_at (by omega) (by omega)) fun a27 _ hc => ?_
    have q := hc 0 _ rfl
    rw [Go.Proofs.YtkjpmkopnkkbmaaGreatDoor.add0] at q
    refine ⟨_, q, ?_⟩
    intro w29 hw29
    have c29 := dw hw29
    have k29 := trN k15 c29
    have q12 := p12.no c29
    have q14 := o14.no c29
    have hb29 := hbk.no c29
    have zz := k29.size
    have z29 := c29.size
    refine ⟨fun w' => (∃ x, Ob w' b12 (stC { S with handler := x }) T_api_State) ∧ Rd intE w' S.back s.back, ⟨⟨_, q12⟩, hb29⟩, S.back, fun w' h => ?_, ?_⟩
    · obtain ⟨⟨x, o⟩, _⟩ := h; exact o.cell rfl
    refine Rd.hix (S := fun w' => (∃ x, Ob w' b12 (stC { S with handler := x }) T_api_State) ∧ Rd intE w' S.back s.back) ⟨⟨_, q12⟩, hb29⟩ (fun w' h => h.2) (i := s.handler - 2) (by omega) (getI_at (by omega) (by omega)) fun a32 _ hc32 => ?_
    have g32 := hc32 0 _ rfl
    rw [Go.Proofs.YtkjpmkopnkkbmaaGreatDoor.add0] at g32
    refine ⟨_, g32, S.back, fun w' h => ?_, ?_⟩
    · obtain ⟨⟨x, o⟩, _⟩ := h; exact o.cell rfl
    refine Rd.hix (S := fun w' => (∃ x, Ob w' b12 (stC { S with handler := x }) T_api_State) ∧ Rd intE w' S.back s.back) ⟨⟨_, q12⟩, hb29⟩ (fun w' h => h.2) (i := s.handler - 3) (by omega) (getI_at (by omega) (by omega)) fun a35 _ hc35 => ?_
    have g35 := hc35 0 _ rfl
    rw [Go.Proofs.YtkjpmkopnkkbmaaGreatDoor.add0] at g35
    refine ⟨_, g35, setSt { S with handler := getI s.back (s.handler - 2) } q12 (by decide) rfl rfl fun w37 o37 c37 => ?_⟩
    have hb37 : Rd intE w37 S.back s.back := h.bk.no (k29.trans c37 (fun _ _ h => h) (fun j hj he => by omega))
    have z37 := c37.size
    refine ⟨⟨⟨_, o37⟩, hb37⟩, setSt { S with handler := getI s.back (s.handler - 2), ip := getI s.back (s.handler - 3) } o37 (by decide) rfl rfl fun w38 o38 c38 => ⟨S.back, o38.cell rfl, by omega, by omega, fun s40 hs40 => ?_⟩⟩
    have z38 := c38.size
    have d38 : Chg (fun j => j = b12) w29 w38 := c37.trans c38 (fun _ _ h => h) (fun _ _ h => h)
    have n38 : Chg No w w38 := k29.trans d38 (fun _ _ h => h) (fun j hj he => by omega)
    have hb38 : Rd intE w38 S.back s.back := h.bk.no n38
    have ht40 : Rd intE w38 s40 (s.back.take (s.handler - 3).toNat) := by
      rw [hs40, sub0]; exact hb38.take (by omega)
    refine nil_app ht40 (by rw [List.length_take]; omega) fun s41 w42 g41 c42 b41 => ?_
    have z42 := c42.size
    refine setSt { S with handler := getI s.back (s.handler - 2), ip := getI s.back (s.handler - 3), back := s41 } (o38.no c42) (by decide) rfl rfl fun w43 o43 c43 => ⟨S.stack, o43.cell rfl, S.stack, o43.cell rfl, ?_⟩
    have z43 := c43.size
    have n43 : Chg No w w43 := (trN n38 c42).trans c43 (fun _ _ h => h) (fun j hj he => by omega)
    rw [ls]
    have hmin : imin (getI s.back (s.handler - 1)) (s.stack.length : Int) = ((min k s.stack.length : Nat) : Int) := by rw [← hk0]; unfold imin; split <;> omega
    rw [hmin]
    refine ⟨by omega, by omega, fun s46 hs46 => ?_⟩
    have hst43 := h.st.no n43
    have htk : s.stack.take (min k s.stack.length) = s.stack.take k := by
      rcases Nat.le_total k s.stack.length with h | h
      · rw [Nat.min_eq_left h]
      · rw [Nat.min_eq_right h, List.take_length, List.take_of_length_le h]
    have ht46 : Rd intE w43 s46 (s.stack.take k) := by
      rw [hs46, sub0, Int.toNat_natCast, ← htk]; exact hst43.take (by omega)
    refine nil_app ht46 (by rw [List.length_take]; omega) fun s47 w48 g47 c48 b47 => ?_
    refine ⟨fun l w' => ∃ j : Nat, Ow intE w' l (s.stack.take k ++ List.replicate j 0) ∧ min k s.stack.length + j ≤ k ∧ (∀ x, l.blk = some x → w43.heap.size ≤ x) ∧ Chg No w43 w', fun l _ => k - l.len, ⟨0, by simpa using g47, by omega, b47, c48⟩, ?_⟩
    rintro l50 w49 ⟨j, g50, hj, hl50, c49⟩
    have l50l := g50.rd.len
    rw [List.length_append, List.length_take, List.length_replicate] at l50l
    have z49 := c49.size
    refine brB_of (fun hlt' => ?_) (fun hlt' => ?_)
    · have hlt' : l50.len < k := by have := of_decide_eq_true hlt'; omega
      intro b51 w52 hb51 hw52
      obtain ⟨g52, c52⟩ := litL [0] _ rfl hb51 hw52 (by simp)
      refine app_ok intOk rfl rfl (g50.no c52) g52.rd (by show (_ + _) * 8 ≤ _; simp; omega) (by unfold maxLen; simp; omega) ?_
      intro s53 w54 g54 c54 b54
      have l54 := g54.rd.len
      simp only [List.length_append, List.length_take, List.length_replicate, List.length_cons, List.length_nil] at l54
      rw [List.append_assoc, show List.replicate j (0 : Int) ++ [0] = List.replicate (j + 1) 0 from (List.replicate_succ').symm] at g54
      have z52 := c52.size
      refine ⟨⟨j + 1, g54, by omega, fun x hx => ?_, (trN c49 c52).trans c54 (fun _ _ h => h) (fun x hx he => by have := hl50 x he; omega)⟩, by show k - s53.len < k - l50.len; omega⟩
      rcases b54 with hh | hh
      · exact hl50 x (hh ▸ hx)
      · have := Option.some.inj (hh.symm.trans hx); omega
    · have hlt' : ¬ l50.len < k := by have := of_decide_eq_false hlt'; omega
      intro b55 w56 hb55 hw56
      obtain ⟨g56, c56⟩ := litL [c] _ rfl hb55 hw56 (by simp)
      have z56 := c56.size
      refine app_ok intOk rfl rfl (g50.no c56) g56.rd (by show (_ + _) * 8 ≤ _; simp; omega) (by unfold maxLen; simp; omega) ?_
      intro s57 w58 g58 c58 b58
      have z58 := c58.size
      have hl57 : ∀ x, s57.blk = some x → w43.heap.size ≤ x := fun x hx => by
        rcases b58 with hh | hh
        · exact hl50 x (hh ▸ hx)
        · have := Option.some.inj (hh.symm.trans hx); omega
      have d58 : Chg (fun j => w43.heap.size ≤ j) w43 w58 := (trN c49 c56).trans c58 (fun _ _ h => h.elim) (fun x _ he => hl50 x he)
      have l12 := o43.lt
      have l14 := q14.lt
      have o58 := o43.chg d58 (fun he => by omega)
      have r14 : Ob w58 b14 (stC st0) T_api_State := ((((q14.chg d38 (fun he => by omega)).no c42).chg c43 (fun he => by omega))).chg d58 (fun he => by omega)
      have l41 : ∀ x, s41.blk = some x → x < w42.heap.size := fun x hx => g41.lt hx
      refine setSt { S with handler := getI s.back (s.handler - 2), ip := getI s.back (s.handler - 3), back := s41, stack := s57 } o58 (by decide) rfl rfl fun w59 o59 c59 => ?_
      refine rdSt o59 (setSt { S with handler := getI s.back (s.handler - 2), ip := getI s.back (s.handler - 3), back := s41, stack := s57 } (r14.chg c59 (fun he => by omega)) (by decide) rfl rfl fun w70 o70 c70 => rdSt o70 ⟨{ S with handler := getI s.back (s.handler - 2), ip := getI s.back (s.handler - 3), back := s41, stack := s57 }, rfl, ?_, ?_⟩)
      · have hf : mFault s c = { s with ip := getI s.back (s.handler - 3), handler := getI s.back (s.handler - 2), back := s.back.take (s.handler - 3).toNat, stack := (s.stack.take k ++ List.replicate (k - s.stack.length) 0) ++ [c] } := by unfold mFault; rw [hk]
        have hjk : j = k - s.stack.length := by omega
        rw [hf, ← hjk]
        have d70 : Chg (fun j => j = b12 ∨ j = b14) w58 w70 := c59.trans c70 (fun _ _ h => Or.inl h) (fun _ _ h => Or.inr h)
        intro w2 X cX hX e2
        have h2 := h0.is w2 e2
        refine ⟨⟨rfl, rfl, m3, m4, m5, m6, m7⟩, ((g58.chg d70 (fun x hx he => ?_)).chg cX (fun x hx => hX x (by have := hl57 x hx; omega))).rd, (((((g41.chg c43 (fun x hx he => ?_))).chg d58 (fun x hx he => ?_)).chg d70 (fun x hx he => ?_)).chg cX (fun x hx => hX x (by have := b41 x hx; omega))).rd, h2.me, fun x hx => Or.inr ?_, fun x hx => Or.inr ?_, fun x hx => Or.inl (h2.meD x hx)⟩
        · have := hl57 x hx; omega
        · have := b41 x hx; omega
        · have := l41 x hx; omega
        · have := b41 x hx; omega
        · have := hl57 x hx; omega
        · have := b41 x hx; omega
      · exact (((n43.trans d58 (fun _ _ h => h) (fun x hx he => by have := n43.size; omega)).trans c59 (fun _ _ h => h) (fun x hx he => by omega))).trans c70 (fun _ _ h => h) (fun x hx he => by omega)
  · have hnone : mCaught s = none := by
      cases h : mCaught s with
      | none => rfl
      | some k => rw [h] at hx; cases hx
    refine setSt { S with status := 2 } p12 (by decide) rfl rfl fun w81 o81 c81 => setSt { S with status := 2, code := c } o81 (by decide) rfl rfl fun w82 o82 c82 => rdSt o82 (setSt { S with status := 2, code := c } ((o14.chg c81 (fun he => by omega)).chg c82 (fun he => by omega)) (by decide) rfl rfl fun w93 o93 c93 => rdSt o93 ⟨{ S with status := 2, code := c }, rfl, ?_⟩)
    have zz := k15.size
    have n93 : Chg No w w93 := ((k15.trans c81 (fun _ _ h => h) (fun x hx he => by omega)).trans c82 (fun _ _ h => h) (fun x hx he => by omega)).trans c93 (fun _ _ h => h) (fun x hx he => by omega)
    have hf : mFault s c = { s with status := 2, code := c } := by unfold mFault; rw [hnone]
    rw [hf]
    refine ⟨fun w2 X cX hX e2 => ?_, n93⟩
    have h93 := h0.is w2 e2
    exact ⟨⟨m1, m2, m3, m4, m5, rfl, rfl⟩, h93.st, h93.bk, h93.me, fun x hx => Or.inl (h93.stD x hx), fun x hx => Or.inl (h93.bkD x hx), fun x hx => Or.inl (h93.meD x hx)⟩
end Go.Proofs.YtkjpmkopnkkbmaaGreatDoor

/- A log of what came behind what. -/
set_option maxRecDepth 100000
namespace Go.Proofs.YtkjpmkopnkkbmaaGreatDoor
open Go.RowKit

/-! ### A log -/
/-- What came behind what: each entry has a range of its own of the blocks that are new. -/
def ZL (E : Nat × List Value → Nat → Nat → World → Prop) (lo : Nat) (lg : List (Nat × List Value)) (w : World) : Prop :=
  ∃ rng : Nat × List Value → Nat × Nat, (∀ e ∈ lg, E e (rng e).1 (rng e).2 w ∧ lo ≤ (rng e).1 ∧ (rng e).2 ≤ w.heap.size) ∧ ∀ e ∈ lg, ∀ e' ∈ lg, e ≠ e' → (rng e).2 ≤ (rng e').1 ∨ (rng e').2 ≤ (rng e).1
theorem ZL.nil (E : Nat × List Value → Nat → Nat → World → Prop) (lo : Nat) (w : World) : ZL E lo [] w := ⟨fun _ => (0, 0), fun e h => by simp at h, fun e h => by simp at h⟩
open Classical in
theorem ZL.snoc {E : Nat × List Value → Nat → Nat → World → Prop} {lo : Nat} {lg : List (Nat × List Value)} {w w' : World} (h : ZL E lo lg w) (hlo : lo ≤ w.heap.size) (c : w.heap.size ≤ w'.heap.size) (up : ∀ e a b, E e a b w → E e a b w') {e : Nat × List Value} (he : E e w.heap.size w'.heap.size w') : ZL E lo (lg ++ [e]) w' := by
  obtain ⟨rng, h1, h2⟩ := h
  by_cases hm : e ∈ lg
  · refine ⟨rng, fun x hx => ?_, fun x hx y hy => ?_⟩
    · have hx : x ∈ lg := by
        rcases List.mem_append.1 hx with hx | hx
        · exact hx
        · have : x = e := by simpa using hx
          rw [this]; exact hm
      obtain ⟨g1, g2, g3⟩ := h1 x hx
      exact ⟨up _ _ _ g1, g2, by omega⟩
    · have hx : x ∈ lg := by
        rcases List.mem_append.1 hx with hx | hx
        · exact hx
        · have : x = e := by simpa using hx
          rw [this]; exact hm
      have hy : y ∈ lg := by
        rcases List.mem_append.1 hy with hy | hy
        · exact hy
        · have : y = e := by simpa using hy
          rw [this]; exact hm
      exact h2 x hx y hy
  · have new : ∀ x, x ∈ lg → x ≠ e := fun x hx he => hm (he ▸ hx)
    refine ⟨fun x => if x = e then (w.heap.size, w'.heap.size) else rng x, fun x hx => ?_, fun x hx y hy hxy => ?_⟩
    · by_cases hxe : x = e
      · simp only [if_pos hxe]; rw [hxe]; exact ⟨he, hlo, Nat.le_refl _⟩
      · have hx : x ∈ lg := by
          rcases List.mem_append.1 hx with hx | hx
          · exact hx
          · exact absurd (by simpa using hx) hxe
        obtain ⟨g1, g2, g3⟩ := h1 x hx
        simp only [if_neg hxe]
        exact ⟨up _ _ _ g1, g2, by omega⟩
    · by_cases hxe : x = e
      · have hye : y ≠ e := fun h => hxy (by rw [hxe, h])
        have hy : y ∈ lg := by
          rcases List.mem_append.1 hy with hy | hy
          · exact hy
          · exact absurd (by simpa using hy) hye
        obtain ⟨g1, g2, g3⟩ := h1 y hy
        simp only [if_pos hxe, if_neg hye]
        exact Or.inr g3
      · have hx : x ∈ lg := by
          rcases List.mem_append.1 hx with hx | hx
          · exact hx
          · exact absurd (by simpa using hx) hxe
        by_cases hye : y = e
        · obtain ⟨g1, g2, g3⟩ := h1 x hx
          simp only [if_pos hye, if_neg hxe]
          exact Or.inl g3
        · have hy : y ∈ lg := by
            rcases List.mem_append.1 hy with hy | hy
            · exact hy
            · exact absurd (by simpa using hy) hye
          simp only [if_neg hxe, if_neg hye]
          exact h2 x hx y hy hxy
end Go.Proofs.YtkjpmkopnkkbmaaGreatDoor

/- InnerBegins: the walk. -/
set_option maxRecDepth 100000
namespace Go.Proofs.YtkjpmkopnkkbmaaGreatDoor
open Go.RowKit

theorem BkJ.reset {D P X : Nat → Prop} {w w' : World} {b : Nat} (h : BkJ D P w b) (c : Chg X w w') (hX : ∀ k, X k → w.heap.size ≤ k) : BkJ (fun k => (D k ∧ k < w.heap.size) ∨ w'.heap.size ≤ k) (fun k => (P k ∧ k < w.heap.size) ∨ w'.heap.size ≤ k) w' b :=
  (h.nar.chg c (fun k hk hx => by have := hX k hx; omega)).wid (fun _ h => Or.inl h) (fun _ h => Or.inl h)
theorem stC_inj {a b : StC} (h : stC a = stC b) : a = b := by
  obtain ⟨a1, a2, ⟨p1, l1, c1⟩, ⟨p2, l2, c2⟩, ⟨p3, l3, c3⟩, a6, a7, a8, a9, a10⟩ := a
  obtain ⟨b1, b2, ⟨q1, m1, d1⟩, ⟨q2, m2, d2⟩, ⟨q3, m3, d3⟩, b6, b7, b8, b9, b10⟩ := b
  simp only [stC, List.cons.injEq, Value.int.injEq, Value.string.injEq, val_eq, Value.slice.injEq, and_true, true_and] at h
  obtain ⟨rfl, rfl, ⟨rfl, rfl, rfl⟩, ⟨rfl, rfl, rfl⟩, ⟨rfl, rfl, rfl⟩, rfl, rfl, rfl, rfl, rfl⟩ := h
  rfl
/-- An entry: a machine, or a new place for one. -/
def EntV (f : Nat → Option StV) (e : Nat × List Value) (lo hi : Nat) (w : World) : Prop := match f e.1 with
  | some s => ∃ S : StC, e.2 = stC S ∧ StX (fun k => lo ≤ k ∧ k < hi) w S s
  | none => ∃ a : Nat, e.2 = [.pointer (some ⟨a, 0, none⟩)] ∧ Ob w a (stC st0) T_api_State ∧ lo ≤ a ∧ a < hi
theorem EntV.no {f : Nat → Option StV} {e : Nat × List Value} {lo hi : Nat} {w w' : World} (h : EntV f e lo hi w) (c : Chg No w w') : EntV f e lo hi w' := by
  unfold EntV at h ⊢
  cases hf : f e.1 with
  | some r => rw [hf] at h; obtain ⟨R, h1, h2⟩ := h; exact ⟨R, h1, h2.no c⟩
  | none => rw [hf] at h; obtain ⟨a, h1, h2, h3⟩ := h; exact ⟨a, h1, h2.no c, h3⟩
theorem innerBegins_walk {w : World} (n : Int) (inp : ByteArray) (S : StC) {s : StV} (h : StIs (fun _ => True) w S s) (hg : Gl w) (xt code : Int) :
    Calls Tryz.prog fn_hollowaylaw9_InnerBegins #[.int .i64 n, .string inp, .agg (stC S).toArray, .int .i64 xt, .int .i64 code] w fun e w' => e = .returned (.bool true) ∧ Chg No w w' := by
  refine (hollowaylaw9_InnerBegins_lift (K := fun v w' => v = .bool true ∧ Chg No w w') ?_).mono (by rintro e w' ⟨v, rfl, rfl, h⟩; exact ⟨rfl, h⟩)
  unfold hollowaylaw9_InnerBegins_sh
  refine inSt S fun b15 w16 hb15 z16 o15 c16 => ?_
  have l1 := h.st.len
  have l2 := h.bk.len
  have l3 := h.me.len
  refine ⟨fun b' w' => (b' = false → s.stack.length ≤ 200 ∧ s.back.length ≤ 200 ∧ s.mem.length ≤ 4000) ∧ Chg No w16 w', ?_, ?_⟩
  rotate_left
  · have yes : (true = false → s.stack.length ≤ 200 ∧ s.back.length ≤ 200 ∧ s.mem.length ≤ 4000) ∧ Chg No w16 w16 := ⟨(fun h => by cases h), Chg.refl _ _⟩
    refine brB_of (fun _ => yes) (fun _ => ⟨S.mem, o15.cell rfl, brB_of (fun _ => yes) (fun t2 => ⟨S.stack, o15.cell rfl, brB_of (fun _ => yes) (fun t3 => ⟨S.back, o15.cell rfl, brB_of (fun _ => yes) (fun t4 => ⟨S.out, o15.cell rfl, brB_of (fun _ => yes) (fun _ => ⟨S.inp, o15.cell rfl, brB_of (fun _ => yes) (fun _ => brB_of (fun _ => yes) (fun _ => ?_))⟩)⟩)⟩)⟩)⟩)
    have t2 := of_decide_eq_false t2
    have t3 := of_decide_eq_false t3
    have t4 := of_decide_eq_false t4
    refine (alive9_any (hg.no c16)).mono ?_
    rintro e w23 ⟨rfl, c23⟩
    exact ⟨_, rfl, fun _ => ⟨by omega, by omega, by omega⟩, c23⟩
  rintro b' w25 ⟨hb, c25⟩
  have k25 := trN c16 c25
  refine brB_of (fun _ => ?_) (fun hf => ?_)
  · refine (alive9_any (hg.no k25)).mono ?_
    rintro e w28 ⟨rfl, c28⟩
    exact ⟨_, rfl, rfl, trN k25 c28⟩
  obtain ⟨n1, n2, n3⟩ := hb hf
  obtain ⟨M, hM⟩ : ∃ M : Nat, imin (imax n 0) 3000 = (M : Int) := ⟨(imin (imax n 0) 3000).toNat, by unfold imin imax; split <;> split <;> omega⟩
  have hM' : M ≤ 3000 := by unfold imin at hM; split at hM <;> omega
  have p15 := o15.no c25
  intro b30 w31 hb30 hw31
  have c31 := al hw31
  have z31 : w31.heap.size = w25.heap.size + 1 := by rw [hw31]; simp
  have o30 : Ob w31 b30 (bookI nilS nilS) T_hollowaybook_Book := by rw [hw31, hb30]; exact Ob.new w25 (bookI nilS nilS) T_hollowaybook_Book
  refine (iboot_any n inp hM w31).mono ?_
  rintro e w33 ⟨B, rfl, xB, c33⟩
  have z33 := c33.size
  have lt15 := p15.lt
  refine ⟨_, _, _, _, _, _, _, _, _, _, rfl, varSt B fun b44 w46 hb44 z46 o44 c46 => rdSt o44 ?_⟩
  have kb0 : BkJ (fun k => k = b30 ∨ w46.heap.size ≤ k) (fun k => k = b30 ∨ w46.heap.size ≤ k) w46 b30 := BkJ.empty ((o30.no c33).no c46) (Or.inl rfl) (Or.inl rfl)
  have xB46 := xB.no c46
  have k46 := trN (trN (trN k25 c31) c33) c46
  have lB : (bootV M inp).mem.length = M := by show (bootM M).length = M; rw [← bootP_end]; exact bootP_len M 48
  refine (kb0.state (fun k hk => Or.inr hk) (fun k hk => Or.inr hk) xB46 (Nat.zero_le _) (Nat.zero_le _) (by omega) (D' := fun k => (k = b30 ∨ w46.heap.size ≤ k) ∨ (w31.heap.size ≤ k ∧ k < w33.heap.size)) (fun k hk => Or.inl hk) (fun k hk => ⟨Or.inr hk, by omega, by omega⟩)).mono ?_
  rintro e w58 ⟨rfl, kb1, c58⟩
  have z58 := c58.size
  have q15 : Ob w58 b15 (stC S) T_api_State := ((((p15.no c31).no c33).no c46)).chg c58 (fun he => by omega)
  have q44 : Ob w58 b44 (stC B) T_api_State := o44.chg c58 (fun he => by omega)
  have xB58 := xB46.chg c58 (fun k hk he => by omega)
  have k58 : Chg No w w58 := k46.trans c58 (fun _ _ h => h) (fun k hk he => by have := k25.size; omega)
  refine ⟨rfl, fun b w' => b = false ∧ Chg No w58 w', ?_, ?_⟩
  rotate_left
  · intro w59 hw59
    have c59 := dw hw59
    have k59 := trN k58 c59
    have r15 := q15.no c59
    have r44 := q44.no c59
    refine ⟨fun w' => Chg No w59 w', Chg.refl _ _, hdSt (fun w' c => r44.no c) ?_⟩
    refine (r9boot_any n inp hM w59).mono ?_
    rintro e w72 ⟨R, rfl, xR, c72⟩
    refine ⟨_, _, _, _, _, _, _, _, _, _, rfl, c72, (sameState_any B R (xB58.no (trN c59 c72)).is xR.is).mono ?_⟩
    rintro e w84 ⟨rfl, c84⟩
    have d84 := trN c72 c84
    refine ⟨_, rfl, d84, brN_f (hdSt (fun w' c => r15.no c) (hdSt (fun w' c => r15.no c) ?_))⟩
    refine (iright_any S (h.no (trN k59 d84))).mono ?_
    rintro e w107 ⟨bi, rfl, hbi, c107⟩
    have d107 := trN d84 c107
    refine ⟨bi, rfl, d107, (r9right_any S (h.no (trN k59 d107))).mono ?_⟩
    rintro e w110 ⟨br, rfl, hbr, c110⟩
    have d110 := trN d107 c110
    have ebr : bi = br := by rw [Bool.eq_iff_iff, hbi, hbr]
    refine ⟨br, rfl, d110, ?_⟩
    rw [ebr, beq_self_eq_true]
    refine brN_f (hdSt (fun w' c => r15.no c) (hdSt (fun w' c => r15.no c) ?_))
    refine (icopy_any S (h.no (trN k59 d110)) (by omega) (by omega) (by omega)).mono ?_
    rintro e w133 ⟨C, rfl, xC, c133⟩
    have d133 := trN d110 c133
    refine ⟨_, _, _, _, _, _, _, _, _, _, rfl, d133, (sameState_any C S xC.is (h.no (trN k59 d133))).mono ?_⟩
    rintro e w145 ⟨rfl, c145⟩
    exact ⟨_, rfl, rfl, trN c59 (trN d133 c145)⟩
  rintro b w147 ⟨rfl, c147⟩
  have k147 := trN k58 c147
  refine brB_f (rdSt (q15.no c147) ?_)
  refine (icopy_any S (h.no k147) (by omega) (by omega) (by omega)).mono ?_
  rintro e w160 ⟨C, rfl, xC, c160⟩
  refine ⟨_, _, _, _, _, _, _, _, _, _, rfl, varSt C fun b171 w173 hb171 z173 o171 c173 => rdSt o171 ?_⟩
  have d173 := trN (trN c147 c160) c173
  have z147 := c147.size
  have z160 := c160.size
  have kb2 := kb1.reset d173 (fun _ h => h.elim)
  have s15 := q15.no d173
  have k173 := trN k58 d173
  refine (kb2.state (fun k hk => Or.inr hk) (fun k hk => Or.inr hk) (xC.x.no c173) (by omega) (by omega) (by omega) (D' := fun k => (w25.heap.size ≤ k ∧ k ≠ b44)) (fun k hk => by omega) (fun k hk => ⟨by omega, by omega, by omega⟩)).mono ?_
  rintro e w185 ⟨rfl, kb3, c185⟩
  have z185 := c185.size
  have u15 : Ob w185 b15 (stC S) T_api_State := s15.chg c185 (fun he => by omega)
  have k185 : Chg No w w185 := k173.trans c185 (fun _ _ h => h) (fun k hk he => by have := k25.size; omega)
  refine ⟨rfl, fun w' => ∃ D P, BkJ D P w' b30 ∧ Chg No w w' ∧ ∀ k, D k → w25.heap.size ≤ k, ?_, ?_⟩
  · rintro w430 ⟨D, P, kb, k430, hD⟩
    refine kb.apart.mono ?_
    rintro e w432 ⟨rfl, c432⟩
    exact ⟨_, rfl, rfl, k430.trans c432 (fun _ _ h => h) (fun k hk he => by have := hD k he; have := k25.size; omega)⟩
  refine rdSt u15 ((r9right_any S (h.no k185)).mono ?_)
  rintro e w197 ⟨br, rfl, hbr, c197⟩
  have k197 := trN k185 c197
  refine ⟨br, rfl, brB_of (fun ht => ?_) (fun _ => ⟨_, _, kb3.no c197, k197, fun k hk => hk.1⟩)⟩
  have hR := hbr.1 ht
  have r1 := hR.st
  have r2 := hR.bk
  have r3 := hR.me
  refine rdSt (u15.no c197) ((lentState_any S (h.no k197) (by omega) (by omega) (by omega)).mono ?_)
  rintro e w210 ⟨M1, rfl, xM, c210⟩
  refine ⟨_, _, _, _, _, _, _, _, _, _, rfl, varSt M1 fun b221 w223 hb221 z223 o221 c223 => ?_⟩
  intro w224 hw224
  have c224 := dw hw224
  have z197 := c197.size
  have z210 := c210.size
  have z223' := c223.size
  have z224 := c224.size
  have d224 := trN (trN (trN c197 c210) c223) c224
  have k224 := trN k185 d224
  have o221 := o221.no c224
  have xM := (xM.no c223).no c224
  have u15 := u15.no d224
  obtain ⟨f, hf'⟩ : ∃ f : Nat → Option StV, f = fun i => if i = 2 then some (enterV s xt) else if i = 5 then some (mFault s code) else none := ⟨_, rfl⟩
  have f2 : f 2 = some (enterV s xt) := by rw [hf']; rfl
  have f5 : f 5 = some (mFault s code) := by rw [hf']; rfl
  have f6 : f 6 = none := by rw [hf']; rfl
  have f7 : f 7 = none := by rw [hf']; rfl
  have alA : ∀ (i : Nat), f i = none → ∀ (lg : List (Nat × List Value)) (w1 : World), Chg No w224 w1 → ZL (EntV f) w224.heap.size lg w1 → ∀ (a : Nat) (w2 : World), a = w1.heap.size → w2 = World.alloc w1 (.cells (stC st0).toArray T_api_State) → Chg No w224 w2 ∧ True ∧ ZL (EntV f) w224.heap.size (lg ++ [(i, [.pointer (some ⟨a, 0, none⟩)])]) w2 := by
    intro i hi lg w1 c1 hZ a w2 ha hw2
    have c2 := al hw2
    have z2 : w2.heap.size = w1.heap.size + 1 := by rw [hw2]; simp
    refine ⟨trN c1 c2, trivial, hZ.snoc c1.size c2.size (fun e a b h => h.no c2) ?_⟩
    show EntV f (i, _) _ _ _
    unfold EntV
    rw [hi]
    exact ⟨a, rfl, by rw [hw2, ha]; exact Ob.new w1 (stC st0) T_api_State, by omega, by omega⟩
  refine ⟨fun w' => Chg No w224 w', Chg.refl _ _, hdSt (fun w' c => o221.no c) (hdSt (fun w' c => o221.no c) ⟨ZL (EntV f) w224.heap.size, ZL.nil _ _ _, ?_⟩)⟩
  refine ⟨fun lg w1 c1 hZ => (ienter_any M1 (xM.no c1).is (by omega) (by omega) (by omega) xt).mono ?_, fun lg w1 c1 hZ => (ifault_any M1 (xM.no c1).is (by omega) (by omega) (by omega) code).mono ?_, fun lg w1 c1 hZ => alA 6 f6 lg w1 c1 hZ, fun lg w1 c1 hZ => alA 7 f7 lg w1 c1 hZ, ?_⟩
  · rintro e w2 ⟨E, rfl, gE, c2⟩
    refine ⟨_, _, _, _, _, _, _, _, _, _, rfl, trN c1 c2, trivial, hZ.snoc c1.size c2.size (fun e a b h => h.no c2) ?_⟩
    show EntV f (2, stC E) _ _ _
    unfold EntV
    rw [f2]
    exact ⟨E, rfl, gE.x⟩
  · rintro e w2 ⟨E, rfl, gE, c2⟩
    refine ⟨_, _, _, _, _, _, _, _, _, _, rfl, trN c1 c2, trivial, hZ.snoc c1.size c2.size (fun e a b h => h.no c2) ?_⟩
    show EntV f (5, stC E) _ _ _
    unfold EntV
    rw [f5]
    exact ⟨E, rfl, gE⟩
  intro lg w284 c284 hZ n285 n286 s287 s288 s289 t290 t291 n292 n293 n294 inA n295 n296 s297 s298 s299 t300 t301 n302 n303 n304 inB x93 inx y94 iny
  obtain ⟨rng, z1, z2⟩ := hZ
  obtain ⟨A, hA⟩ : ∃ A : StC, A = ⟨n285, n286, s287, s288, s289, t290, t291, n292, n293, n294⟩ := ⟨_, rfl⟩
  obtain ⟨Q, hQ⟩ : ∃ Q : StC, Q = ⟨n295, n296, s297, s298, s299, t300, t301, n302, n303, n304⟩ := ⟨_, rfl⟩
  have inA' : (2, stC A) ∈ lg := by rw [hA]; exact inA
  have inB' : (5, stC Q) ∈ lg := by rw [hQ]; exact inB
  have ne : ∀ {i j : Nat} {x y : List Value}, i ≠ j → (i, x) ≠ (j, y) := fun h e => h (congrArg Prod.fst e)
  obtain ⟨EA, EA1, EA2⟩ := z1 _ inA'
  obtain ⟨EB, EB1, EB2⟩ := z1 _ inB'
  obtain ⟨Ex, Ex1, Ex2⟩ := z1 _ inx
  obtain ⟨Ey, Ey1, Ey2⟩ := z1 _ iny
  have dAB := z2 _ inA' _ inB' (ne (by decide))
  have dAx := z2 _ inA' _ inx (ne (by decide))
  have dAy := z2 _ inA' _ iny (ne (by decide))
  have dBx := z2 _ inB' _ inx (ne (by decide))
  have dBy := z2 _ inB' _ iny (ne (by decide))
  have dxy := z2 _ inx _ iny (ne (by decide))
  generalize rng (2, stC A) = rA at *
  generalize rng (5, stC Q) = rB at *
  generalize rng (6, [.pointer (some ⟨x93, 0, none⟩)]) = rx at *
  generalize rng (7, [.pointer (some ⟨y94, 0, none⟩)]) = ry at *
  unfold EntV at EA EB Ex Ey
  simp only [f2, f5, f6, f7] at EA EB Ex Ey
  obtain ⟨A', hA', gA⟩ := EA
  obtain rfl := stC_inj hA'
  obtain ⟨B', hB', gB⟩ := EB
  obtain rfl := stC_inj hB'
  obtain ⟨x', hx', ox, lx1, lx2⟩ := Ex
  obtain rfl : x93 = x' := by injection hx' with h1 _; injection h1 with h1; injection h1 with h1; injection h1
  obtain ⟨y', hy', oy, ly1, ly2⟩ := Ey
  obtain rfl : y94 = y' := by injection hy' with h1 _; injection h1 with h1; injection h1 with h1; injection h1
  have k284 := trN k224 c284
  have hxy : x93 ≠ y94 := fun he => by omega
  refine setSt A ox (by decide) rfl (by rw [hA]; rfl) fun w307 o307 c307 => setSt Q (oy.chg c307 (fun he => hxy he.symm)) (by decide) rfl (by rw [hQ]; rfl) fun w308 o308 c308 => ?_
  have p307 := o307.chg c308 (fun he => hxy he)
  have d308 : Chg (fun j => j = x93 ∨ j = y94) w284 w308 := c307.trans c308 (fun _ _ h => Or.inl h) (fun _ _ h => Or.inr h)
  have z284 := c284.size
  have z308 := d308.size
  have gA := gA.chg d308 (fun k hk he => by rcases he with he | he <;> omega)
  have gB := gB.chg d308 (fun k hk he => by rcases he with he | he <;> omega)
  have k308 : Chg No w w308 := k284.trans d308 (fun _ _ h => h) (fun k hk he => by have := k25.size; rcases he with he | he <;> omega)
  have e308 : Chg (fun j => j = x93 ∨ j = y94) w185 w308 := ((trN d224 c284).trans d308 (fun _ _ h => h.elim) (fun _ _ h => h))
  have kb4 := kb3.reset e308 (fun k hk => by rcases hk with hk | hk <;> omega)
  have v15 : Ob w308 b15 (stC S) T_api_State := (u15.no c284).chg d308 (fun he => by rcases he with he | he <;> omega)
  have v221 : Ob w308 b221 (stC M1) T_api_State := (o221.no c284).chg d308 (fun he => by have := o221.lt; rcases he with he | he <;> omega)
  have xM := (xM.no c284).chg d308 (fun k hk he => by rcases he with he | he <;> omega)
  have lt221 := o221.lt
  have lA : (enterV s xt).stack.length ≤ 48 ∧ (enterV s xt).back.length = 1 ∧ (enterV s xt).mem.length ≤ 3000 := ⟨r1, rfl, r3⟩
  have lQ : (mFault s code).stack.length ≤ 1000000 ∧ (mFault s code).back.length ≤ 1000000 ∧ (mFault s code).mem.length ≤ 1000000 := by
    unfold mFault
    split
    · next kk hk =>
      have hk48 : kk < 48 := by unfold mCaught at hk; split at hk; · { injection hk with hk; omega }; · cases hk
      refine ⟨?_, ?_, by show s.mem.length ≤ _; omega⟩
      · show ((s.stack.take kk ++ List.replicate (kk - s.stack.length) 0) ++ [code]).length ≤ _
        simp only [List.length_append, List.length_take, List.length_replicate, List.length_cons, List.length_nil]; omega
      · show (s.back.take _).length ≤ _
        rw [List.length_take]; omega
    · exact ⟨by show s.stack.length ≤ _; omega, by show s.back.length ≤ _; omega, by show s.mem.length ≤ _; omega⟩
  refine rdSt p307 ((kb4.state (fun k hk => Or.inr hk) (fun k hk => Or.inr hk) gA (by omega) (by omega) (by omega) (D' := fun k => ((w25.heap.size ≤ k ∧ k < w185.heap.size) ∨ w308.heap.size ≤ k) ∨ (rA.1 ≤ k ∧ k < rA.2)) (fun k hk => by omega) (fun k hk => ⟨Or.inr hk, by omega, by omega⟩)).mono ?_)
  rintro e w320 ⟨rfl, kb5, c320⟩
  have z320 := c320.size
  have gA := gA.chg c320 (fun k hk he => by omega)
  have gB := gB.chg c320 (fun k hk he => by omega)
  have p307 := p307.chg c320 (fun he => by omega)
  have o308 := o308.chg c320 (fun he => by omega)
  have v15 := v15.chg c320 (fun he => by omega)
  have v221 := v221.chg c320 (fun he => by omega)
  have xM := xM.chg c320 (fun k hk he => by omega)
  have k320 : Chg No w w320 := k308.trans c320 (fun _ _ h => h) (fun k hk he => by have := k25.size; omega)
  refine ⟨rfl, rdSt o308 ((kb5.state (fun k hk => Or.inl (Or.inr (by omega))) (fun k hk => Or.inr (by omega)) gB lQ.1 lQ.2.1 lQ.2.2 (D' := fun k => w25.heap.size ≤ k) (fun k hk => by omega) (fun k hk => ⟨by omega, by omega, by omega⟩)).mono ?_)⟩
  rintro e w332 ⟨rfl, kb6, c332⟩
  have z332 := c332.size
  have gA := gA.chg c332 (fun k hk he => by omega)
  have gB := gB.chg c332 (fun k hk he => by omega)
  have p307 := p307.chg c332 (fun he => by omega)
  have o308 := o308.chg c332 (fun he => by omega)
  have v15 := v15.chg c332 (fun he => by omega)
  have v221 := v221.chg c332 (fun he => by omega)
  have xM := xM.chg c332 (fun k hk he => by omega)
  have k332 : Chg No w w332 := k320.trans c332 (fun _ _ h => h) (fun k hk he => by have := k25.size; omega)
  refine ⟨rfl, fun b w' => b = false ∧ Chg No w332 w', ?_, ?_⟩
  · rintro b w428 ⟨rfl, c428⟩
    exact brB_f ⟨_, _, kb6.no c428, trN k332 c428, fun k hk => hk⟩
  intro w333 hw333
  have c333 := dw hw333
  have k333 := trN k332 c333
  have p307 := p307.no c333
  have o308 := o308.no c333
  have v15 := v15.no c333
  have v221 := v221.no c333
  refine ⟨fun w' => Chg No w333 w', Chg.refl _ _, hdSt (fun w' c => p307.no c) (hdSt (fun w' c => v15.no c) ?_)⟩
  refine (r9enter_any S (h.no k333) xt).mono ?_
  rintro e w356 ⟨bS, rfl, hbS, _, c356⟩
  obtain ⟨m1, m2, m3, m4, m5, m6, m7⟩ := h.nums
  have isE : StIs (fun _ => True) w356 ⟨xt, 0, S.stack, bS, S.mem, S.out, S.inp, S.read, 0, 0⟩ (enterV s xt) := by
    have g := h.no (trN k333 c356)
    exact ⟨⟨rfl, rfl, m3, m4, m5, rfl, rfl⟩, g.st, hbS.rd, g.me, fun _ _ => trivial, fun _ _ => trivial, fun _ _ => trivial⟩
  refine ⟨_, _, _, _, _, _, _, _, _, _, rfl, c356, (sameState_any A ⟨xt, 0, S.stack, bS, S.mem, S.out, S.inp, S.read, 0, 0⟩ (gA.no (trN c333 c356)).is isE).mono ?_⟩
  rintro e w368 ⟨rfl, c368⟩
  have d368 := trN c356 c368
  refine ⟨_, rfl, d368, brN_f (hdSt (fun w' c => o308.no c) (hdSt (fun w' c => v15.no c) ?_))⟩
  have hd0 : Hd (fun _ => True) No w S s := ⟨fun w2 c2 => h.no c2, fun k hk => hk.elim⟩
  refine (rfault_any S hd0 (trN k333 d368) (by omega) (by omega) code).mono ?_
  rintro e w391 ⟨R, rfl, hR2, c391⟩
  have d391 := trN d368 c391
  have isF := hR2 w391 No (Chg.refl _ _) (fun _ _ h => h) (trN k333 d391)
  refine ⟨_, _, _, _, _, _, _, _, _, _, rfl, d391, (sameState_any Q R (gB.no (trN c333 d391)).is isF).mono ?_⟩
  rintro e w403 ⟨rfl, c403⟩
  have d403 := trN d391 c403
  refine ⟨_, rfl, d403, brN_f (hdSt (fun w' c => v221.no c) (hdSt (fun w' c => v15.no c) ?_))⟩
  refine (staysState_any M1 S (xM.no (trN c333 d403)) (h.no (trN k333 d403))).mono ?_
  rintro e w426 ⟨rfl, c426⟩
  exact ⟨_, rfl, rfl, trN c333 (trN d403 c426)⟩
end Go.Proofs.YtkjpmkopnkkbmaaGreatDoor
