/- hollowayref9: Copy and Fault. -/
import Derived.Test.YtkjpmkopnkkbmaaGreatDoorRmA
import Derived.Test.YtkjpmkopnkkbmaaGreatDoorHix
set_option maxRecDepth 100000
namespace Go.Proofs.YtkjpmkopnkkbmaaGreatDoor
open Go.RowKit

theorem nil_app {w : World} {l : Sl} {xs : List Int} (h : Rd intE w l xs) (hn : xs.length ≤ 100000) {G : Sl → World → Prop} (k : ∀ (s' : Sl) (w' : World), Ow intE w' s' xs → Chg No w w' → (∀ k, s'.blk = some k → w.heap.size ≤ k) → G s' w') :
    ∃ s' : Sl, ∃ w' : World, (Builtin.append_ #[T_sl_int, T_sl_int] T_sl_int #[.slice none 0 0, l.val]).run Tryz.prog w = .ok (s'.val) w' ∧ G s' w' := by
  refine app_ok intOk (s := nilS) (t := l) rfl rfl (Ow.nil _ _) h (by show (0 + xs.length) * 8 ≤ _; omega) (by show 0 + xs.length ≤ _; unfold maxLen; omega) ?_
  intro s' w' h' c' b'
  refine k s' w' h' ((Chg.refl No _).trans c' (fun _ _ h => h) (fun k _ he => by cases he)) fun k hk => ?_
  rcases b' with hh | hh
  · rw [hh] at hk; cases hk
  · have := Option.some.inj (hh.symm.trans hk); omega
theorem rcopy_any {D : Nat → Prop} {w : World} (S : StC) {s : StV} (h : StIs D w S s) (h1 : s.stack.length ≤ 100000) (h2 : s.back.length ≤ 100000) (h3 : s.mem.length ≤ 100000) :
    Calls Tryz.prog fn_hollowayref9_Copy #[.agg (stC S).toArray] w fun e w' => ∃ S' : StC, e = .returned (.agg (stC S').toArray) ∧ StX (fun k => w.heap.size ≤ k ∧ k < w'.heap.size) w' S' s ∧ Chg No w w' := by
  refine (hollowayref9_Copy_lift (K := fun v w' => ∃ S' : StC, v = .agg (stC S').toArray ∧ StX (fun k => w.heap.size ≤ k ∧ k < w'.heap.size) w' S' s ∧ Chg No w w') ?_).mono (by rintro e w' ⟨v, rfl, n, rfl, h⟩; exact ⟨n, rfl, h⟩)
  unfold hollowayref9_Copy_sh
  refine inSt S fun b11 w12 hb11 z12 o11 c12 => inSt st0 fun b13 w14 hb13 z14 o13 c14 => ⟨S.stack, (o11.no c14).cell rfl, nil_app (h.st.no (trN c12 c14)) h1 fun s16 w17 g17 c17 b17 => ?_⟩
  have l16 : ∀ k, s16.blk = some k → k < w17.heap.size := fun k hk => g17.lt hk
  refine setSt { S with stack := s16 } ((o11.no c14).no c17) (by decide) rfl rfl fun w18 o18 c18 => ⟨S.back, o18.cell rfl, ?_⟩
  have z17 := c17.size
  have z18 := c18.size
  have n18 : Chg No w w18 := (trN (trN c12 c14) c17).trans c18 (fun _ _ h => h) (fun k hk he => by omega)
  refine nil_app (h.bk.no n18) h2 fun s20 w21 g21 c21 b21 => ?_
  have l20 : ∀ k, s20.blk = some k → k < w21.heap.size := fun k hk => g21.lt hk
  refine setSt { S with stack := s16, back := s20 } (o18.no c21) (by decide) rfl rfl fun w22 o22 c22 => ⟨S.mem, o22.cell rfl, ?_⟩
  have z21 := c21.size
  have z22 := c22.size
  have n22 : Chg No w w22 := (trN n18 c21).trans c22 (fun _ _ h => h) (fun k hk he => by omega)
  refine nil_app (h.me.no n22) h3 fun s24 w25 g25 c25 b25 => ?_
  have l24 : ∀ k, s24.blk = some k → k < w25.heap.size := fun k hk => g25.lt hk
  have z25 := c25.size
  refine setSt { S with stack := s16, back := s20, mem := s24 } (o22.no c25) (by decide) rfl rfl fun w26 o26 c26 => ?_
  have z26 := c26.size
  have n26 : Chg No w w26 := (trN n22 c25).trans c26 (fun _ _ h => h) (fun k hk he => by omega)
  have d18 : Chg (fun j => j = b11 ∨ j = b13) w17 w18 := c18.mono (fun _ _ h => Or.inl h)
  have d21 : Chg (fun j => j = b11 ∨ j = b13) w18 w22 := (c21.trans c22 (fun _ _ h => h.elim) (fun _ _ h => Or.inl h))
  have d25 : Chg (fun j => j = b11 ∨ j = b13) w22 w26 := (c25.trans c26 (fun _ _ h => h.elim) (fun _ _ h => Or.inl h))
  have e13 : Ob w26 b13 (stC st0) T_api_State := (((((o13.no c17).chg c18 (fun he => by omega)).no c21).chg c22 (fun he => by omega)).no c25).chg c26 (fun he => by omega)
  refine rdSt o26 (setSt { S with stack := s16, back := s20, mem := s24 } e13 (by decide) rfl rfl fun w37 o37 c37 => rdSt o37 ⟨{ S with stack := s16, back := s20, mem := s24 }, rfl, ?_, ?_⟩)
  · have z37 := c37.size
    have d37 : Chg (fun j => j = b11 ∨ j = b13) w26 w37 := c37.mono (fun _ _ h => Or.inr h)
    have q22 : Chg (fun j => j = b11 ∨ j = b13) w22 w37 := d25.trans d37 (fun _ _ h => h) (fun _ _ h => h)
    have q18 : Chg (fun j => j = b11 ∨ j = b13) w18 w37 := d21.trans q22 (fun _ _ h => h) (fun _ _ h => h)
    have q17 : Chg (fun j => j = b11 ∨ j = b13) w17 w37 := d18.trans q18 (fun _ _ h => h) (fun _ _ h => h)
    have q21 : Chg (fun j => j = b11 ∨ j = b13) w21 w37 := (c22.mono (fun _ _ h => Or.inl h)).trans q22 (fun _ _ h => h) (fun _ _ h => h)
    have q25 : Chg (fun j => j = b11 ∨ j = b13) w25 w37 := (c26.mono (fun _ _ h => Or.inl h)).trans d37 (fun _ _ h => h) (fun _ _ h => h)
    refine ⟨h.nums, (g17.chg q17 (fun k hk he => ?_)).ox, (g21.chg q21 (fun k hk he => ?_)).ox, (g25.chg q25 (fun k hk he => ?_)).ox, fun k hk => ⟨?_, fun he => ?_, fun he => ?_⟩, fun k hk => ⟨?_, fun he => ?_⟩, fun k hk => ?_⟩
    · have := b17 k hk; omega
    · have := b21 k hk; omega
    · have := b25 k hk; omega
    · have := b17 k hk; have := l16 k hk; omega
    · have := l16 k hk; have := b21 k he; omega
    · have := l16 k hk; have := b25 k he; omega
    · have := b21 k hk; have := l20 k hk; omega
    · have := l20 k hk; have := b25 k he; omega
    · have := b25 k hk; have := l24 k hk; omega
  · exact n26.trans c37 (fun _ _ h => h) (fun k hk he => by omega)
/-- A state that reads as s, whatever is done to the blocks of V. -/
structure Hd (D V : Nat → Prop) (w : World) (S : StC) (s : StV) : Prop where
  is : ∀ w2, Chg V w w2 → StIs D w2 S s
  lt : ∀ k, V k → k < w.heap.size
theorem Hd.at {D V : Nat → Prop} {w w' : World} {S : StC} {s : StV} (h : Hd D V w S s) (c : Chg No w w') : StIs D w' S s := h.is w' (c.mono (fun _ _ h => h.elim))
theorem rfault_any {D V : Nat → Prop} {w0 w : World} (S : StC) {s : StV} (h0 : Hd D V w0 S s) (c0 : Chg No w0 w) (n1 : s.stack.length ≤ 1000) (n2 : s.back.length ≤ 1000) (c : Int) :
    Calls Tryz.prog fn_hollowayref9_Fault #[.agg (stC S).toArray, .int .i64 c] w fun e w' => ∃ S' : StC, e = .returned (.agg (stC S').toArray) ∧ (∀ (w2 : World) (X : Nat → Prop), Chg X w' w2 → (∀ k, w.heap.size ≤ k → ¬ X k) → Chg V w0 w2 → StIs (fun k => D k ∨ w0.heap.size ≤ k) w2 S' (mFault s c)) ∧ Chg No w w' := by
  refine (hollowayref9_Fault_lift (K := fun v w' => ∃ S' : StC, v = .agg (stC S').toArray ∧ (∀ (w2 : World) (X : Nat → Prop), Chg X w' w2 → (∀ k, w.heap.size ≤ k → ¬ X k) → Chg V w0 w2 → StIs (fun k => D k ∨ w0.heap.size ≤ k) w2 S' (mFault s c)) ∧ Chg No w w') ?_).mono (by rintro e w' ⟨v, rfl, n, rfl, h⟩; exact ⟨n, rfl, h⟩)
  have h := h0.at c0
  have z0 := c0.size
  unfold hollowayref9_Fault_sh
  obtain ⟨m1, m2, m3, m4, m5, m6, m7⟩ := h.nums
  have ls := h.st.len
  have lb := h.bk.len
  have cs := h.st.capL
  have cb := h.bk.capL
  refine inSt S fun b12 w13 hb12 z13 o12 c13 => inSt st0 fun b14 w15 hb14 z15 o14 c15 => ⟨S.handler, (o12.no c15).cell rfl, ?_⟩
  have k15 := trN c13 c15
  have p12 := o12.no c15
  have hbk := h.bk.no k15
  have hst := h.st.no k15
  rw [m2]
  have caught : (mCaught s).isSome = decide (3 ≤ s.handler ∧ s.handler ≤ s.back.length ∧ 0 ≤ getI s.back (s.handler - 1) ∧ getI s.back (s.handler - 1) < 48) := by
    unfold mCaught
    split
    · next hh => rw [decide_eq_true hh]; rfl
    · next hh => rw [decide_eq_false hh]; rfl
  refine ⟨fun b w' => b = (mCaught s).isSome ∧ w' = w15, ?_, ?_⟩
  rotate_left
  · refine brB_of (fun t1 => ⟨S.back, p12.cell rfl, brB_of (fun t2 => ⟨S.back, p12.cell rfl, ?_⟩) (fun t2 => ?_)⟩) (fun t1 => ?_)
    · have t1 := of_decide_eq_true t1
      have t2 := of_decide_eq_true t2
      rw [wr_in (by omega)]
      refine hbk.ix (i := s.handler - 1) (by omega) (getI_at (by omega) (by omega)) fun a19 _ hc => ?_
      have q := hc 0 _ rfl
      rw [Go.Proofs.YtkjpmkopnkkbmaaGreatDoor.add0] at q
      refine ⟨_, q, brB_of (fun t3 => ⟨S.back, p12.cell rfl, ?_⟩) (fun t3 => ⟨?_, rfl⟩)⟩
      · have t3 := of_decide_eq_true t3
        refine hbk.ix (i := s.handler - 1) (by omega) (getI_at (by omega) (by omega)) fun a22 _ hc => ?_
        have q := hc 0 _ rfl
        rw [Go.Proofs.YtkjpmkopnkkbmaaGreatDoor.add0] at q
        refine ⟨_, q, ?_, rfl⟩
        rw [caught, Bool.eq_iff_iff, decide_eq_true_iff, decide_eq_true_iff]
        exact ⟨fun t4 => ⟨by omega, by omega, by omega, t4⟩, fun t4 => t4.2.2.2⟩
      · have t3 := of_decide_eq_false t3
        rw [caught]; exact (decide_eq_false (by omega)).symm
    · have t1 := of_decide_eq_true t1
      have t2 := of_decide_eq_false t2
      exact ⟨by rw [caught]; exact (decide_eq_false (by omega)).symm, rfl⟩
    · have t1 := of_decide_eq_false t1
      exact ⟨by rw [caught]; exact (decide_eq_false (by omega)).symm, rfl⟩
  rintro b w24 ⟨rfl, rfl⟩
  refine brB_of (fun hx => ?_) (fun hx => ?_)
  · have hx' := hx
    rw [caught] at hx'
    have hcond := of_decide_eq_true hx'
    obtain ⟨k, hk⟩ : ∃ k : Nat, mCaught s = some k ∧ (k : Int) = getI s.back (s.handler - 1) := ⟨(getI s.back (s.handler - 1)).toNat, by unfold mCaught; rw [if_pos hcond], by omega⟩
    obtain ⟨hk, hk0⟩ := hk
    obtain ⟨h3, hle, hk1, hk48⟩ := hcond
    refine ⟨S.back, p12.cell rfl, ?_⟩
    rw [wr_in (x := s.handler - 1) (by omega), wr_in (x := s.handler - 2) (by omega), wr_in (x := s.handler - 3) (by omega)]
    refine hbk.ix (i := s.handler - 1) (by omega) (getI_at (by omega) (by omega)) fun a27 _ hc => ?_
    have q := hc 0 _ rfl
    rw [Go.Proofs.YtkjpmkopnkkbmaaGreatDoor.add0] at q
    refine ⟨_, q, ?_⟩
    intro w29 hw29
    have c29 := dw hw29
    have k29 := trN k15 c29
    have q12 := p12.no c29
    have q14 := o14.no c29
    have hb29 := hbk.no c29
    have zz := k29.size
    have z29 := c29.size
    refine ⟨fun w' => (∃ x, Ob w' b12 (stC { S with handler := x }) T_api_State) ∧ Rd intE w' S.back s.back, ⟨⟨_, q12⟩, hb29⟩, S.back, fun w' h => ?_, ?_⟩
    · obtain ⟨⟨x, o⟩, _⟩ := h; exact o.cell rfl
    refine Rd.hix (S := fun w' => (∃ x, Ob w' b12 (stC { S with handler := x }) T_api_State) ∧ Rd intE w' S.back s.back) ⟨⟨_, q12⟩, hb29⟩ (fun w' h => h.2) (i := s.handler - 2) (by omega) (getI_at (by omega) (by omega)) fun a32 _ hc32 => ?_
    have g32 := hc32 0 _ rfl
    rw [Go.Proofs.YtkjpmkopnkkbmaaGreatDoor.add0] at g32
    refine ⟨_, g32, S.back, fun w' h => ?_, ?_⟩
    · obtain ⟨⟨x, o⟩, _⟩ := h; exact o.cell rfl
    refine Rd.hix (S := fun w' => (∃ x, Ob w' b12 (stC { S with handler := x }) T_api_State) ∧ Rd intE w' S.back s.back) ⟨⟨_, q12⟩, hb29⟩ (fun w' h => h.2) (i := s.handler - 3) (by omega) (getI_at (by omega) (by omega)) fun a35 _ hc35 => ?_
    have g35 := hc35 0 _ rfl
    rw [Go.Proofs.YtkjpmkopnkkbmaaGreatDoor.add0] at g35
    refine ⟨_, g35, setSt { S with handler := getI s.back (s.handler - 2) } q12 (by decide) rfl rfl fun w37 o37 c37 => ?_⟩
    have hb37 : Rd intE w37 S.back s.back := h.bk.no (k29.trans c37 (fun _ _ h => h) (fun j hj he => by omega))
    have z37 := c37.size
    refine ⟨⟨⟨_, o37⟩, hb37⟩, setSt { S with handler := getI s.back (s.handler - 2), ip := getI s.back (s.handler - 3) } o37 (by decide) rfl rfl fun w38 o38 c38 => ⟨S.back, o38.cell rfl, by omega, by omega, fun s40 hs40 => ?_⟩⟩
    have z38 := c38.size
    have d38 : Chg (fun j => j = b12) w29 w38 := c37.trans c38 (fun _ _ h => h) (fun _ _ h => h)
    have n38 : Chg No w w38 := k29.trans d38 (fun _ _ h => h) (fun j hj he => by omega)
    have hb38 : Rd intE w38 S.back s.back := h.bk.no n38
    have ht40 : Rd intE w38 s40 (s.back.take (s.handler - 3).toNat) := by
      rw [hs40, sub0]; exact hb38.take (by omega)
    refine nil_app ht40 (by rw [List.length_take]; omega) fun s41 w42 g41 c42 b41 => ?_
    have z42 := c42.size
    refine setSt { S with handler := getI s.back (s.handler - 2), ip := getI s.back (s.handler - 3), back := s41 } (o38.no c42) (by decide) rfl rfl fun w43 o43 c43 => ⟨S.stack, o43.cell rfl, S.stack, o43.cell rfl, ?_⟩
    have z43 := c43.size
    have n43 : Chg No w w43 := (trN n38 c42).trans c43 (fun _ _ h => h) (fun j hj he => by omega)
    rw [ls]
    have hmin : imin (getI s.back (s.handler - 1)) (s.stack.length : Int) = ((min k s.stack.length : Nat) : Int) := by rw [← hk0]; unfold imin; split <;> omega
    rw [hmin]
    refine ⟨by omega, by omega, fun s46 hs46 => ?_⟩
    have hst43 := h.st.no n43
    have htk : s.stack.take (min k s.stack.length) = s.stack.take k := by
      rcases Nat.le_total k s.stack.length with h | h
      · rw [Nat.min_eq_left h]
      · rw [Nat.min_eq_right h, List.take_length, List.take_of_length_le h]
    have ht46 : Rd intE w43 s46 (s.stack.take k) := by
      rw [hs46, sub0, Int.toNat_natCast, ← htk]; exact hst43.take (by omega)
    refine nil_app ht46 (by rw [List.length_take]; omega) fun s47 w48 g47 c48 b47 => ?_
    refine ⟨fun l w' => ∃ j : Nat, Ow intE w' l (s.stack.take k ++ List.replicate j 0) ∧ min k s.stack.length + j ≤ k ∧ (∀ x, l.blk = some x → w43.heap.size ≤ x) ∧ Chg No w43 w', fun l _ => k - l.len, ⟨0, by simpa using g47, by omega, b47, c48⟩, ?_⟩
    rintro l50 w49 ⟨j, g50, hj, hl50, c49⟩
    have l50l := g50.rd.len
    rw [List.length_append, List.length_take, List.length_replicate] at l50l
    have z49 := c49.size
    refine brB_of (fun hlt' => ?_) (fun hlt' => ?_)
    · have hlt' : l50.len < k := by have := of_decide_eq_true hlt'; omega
      intro b51 w52 hb51 hw52
      obtain ⟨g52, c52⟩ := litL [0] _ rfl hb51 hw52 (by simp)
      refine app_ok intOk rfl rfl (g50.no c52) g52.rd (by show (_ + _) * 8 ≤ _; simp; omega) (by unfold maxLen; simp; omega) ?_
      intro s53 w54 g54 c54 b54
      have l54 := g54.rd.len
      simp only [List.length_append, List.length_take, List.length_replicate, List.length_cons, List.length_nil] at l54
      rw [List.append_assoc, show List.replicate j (0 : Int) ++ [0] = List.replicate (j + 1) 0 from (List.replicate_succ').symm] at g54
      have z52 := c52.size
      refine ⟨⟨j + 1, g54, by omega, fun x hx => ?_, (trN c49 c52).trans c54 (fun _ _ h => h) (fun x hx he => by have := hl50 x he; omega)⟩, by show k - s53.len < k - l50.len; omega⟩
      rcases b54 with hh | hh
      · exact hl50 x (hh ▸ hx)
      · have := Option.some.inj (hh.symm.trans hx); omega
    · have hlt' : ¬ l50.len < k := by have := of_decide_eq_false hlt'; omega
      intro b55 w56 hb55 hw56
      obtain ⟨g56, c56⟩ := litL [c] _ rfl hb55 hw56 (by simp)
      have z56 := c56.size
      refine app_ok intOk rfl rfl (g50.no c56) g56.rd (by show (_ + _) * 8 ≤ _; simp; omega) (by unfold maxLen; simp; omega) ?_
      intro s57 w58 g58 c58 b58
      have z58 := c58.size
      have hl57 : ∀ x, s57.blk = some x → w43.heap.size ≤ x := fun x hx => by
        rcases b58 with hh | hh
        · exact hl50 x (hh ▸ hx)
        · have := Option.some.inj (hh.symm.trans hx); omega
      have d58 : Chg (fun j => w43.heap.size ≤ j) w43 w58 := (trN c49 c56).trans c58 (fun _ _ h => h.elim) (fun x _ he => hl50 x he)
      have l12 := o43.lt
      have l14 := q14.lt
      have o58 := o43.chg d58 (fun he => by omega)
      have r14 : Ob w58 b14 (stC st0) T_api_State := ((((q14.chg d38 (fun he => by omega)).no c42).chg c43 (fun he => by omega))).chg d58 (fun he => by omega)
      have l41 : ∀ x, s41.blk = some x → x < w42.heap.size := fun x hx => g41.lt hx
      refine setSt { S with handler := getI s.back (s.handler - 2), ip := getI s.back (s.handler - 3), back := s41, stack := s57 } o58 (by decide) rfl rfl fun w59 o59 c59 => ?_
      refine rdSt o59 (setSt { S with handler := getI s.back (s.handler - 2), ip := getI s.back (s.handler - 3), back := s41, stack := s57 } (r14.chg c59 (fun he => by omega)) (by decide) rfl rfl fun w70 o70 c70 => rdSt o70 ⟨{ S with handler := getI s.back (s.handler - 2), ip := getI s.back (s.handler - 3), back := s41, stack := s57 }, rfl, ?_, ?_⟩)
      · have hf : mFault s c = { s with ip := getI s.back (s.handler - 3), handler := getI s.back (s.handler - 2), back := s.back.take (s.handler - 3).toNat, stack := (s.stack.take k ++ List.replicate (k - s.stack.length) 0) ++ [c] } := by unfold mFault; rw [hk]
        have hjk : j = k - s.stack.length := by omega
        rw [hf, ← hjk]
        have d70 : Chg (fun j => j = b12 ∨ j = b14) w58 w70 := c59.trans c70 (fun _ _ h => Or.inl h) (fun _ _ h => Or.inr h)
        intro w2 X cX hX e2
        have h2 := h0.is w2 e2
        refine ⟨⟨rfl, rfl, m3, m4, m5, m6, m7⟩, ((g58.chg d70 (fun x hx he => ?_)).chg cX (fun x hx => hX x (by have := hl57 x hx; omega))).rd, (((((g41.chg c43 (fun x hx he => ?_))).chg d58 (fun x hx he => ?_)).chg d70 (fun x hx he => ?_)).chg cX (fun x hx => hX x (by have := b41 x hx; omega))).rd, h2.me, fun x hx => Or.inr ?_, fun x hx => Or.inr ?_, fun x hx => Or.inl (h2.meD x hx)⟩
        · have := hl57 x hx; omega
        · have := b41 x hx; omega
        · have := l41 x hx; omega
        · have := b41 x hx; omega
        · have := hl57 x hx; omega
        · have := b41 x hx; omega
      · exact (((n43.trans d58 (fun _ _ h => h) (fun x hx he => by have := n43.size; omega)).trans c59 (fun _ _ h => h) (fun x hx he => by omega))).trans c70 (fun _ _ h => h) (fun x hx he => by omega)
  · have hnone : mCaught s = none := by
      cases h : mCaught s with
      | none => rfl
      | some k => rw [h] at hx; cases hx
    refine setSt { S with status := 2 } p12 (by decide) rfl rfl fun w81 o81 c81 => setSt { S with status := 2, code := c } o81 (by decide) rfl rfl fun w82 o82 c82 => rdSt o82 (setSt { S with status := 2, code := c } ((o14.chg c81 (fun he => by omega)).chg c82 (fun he => by omega)) (by decide) rfl rfl fun w93 o93 c93 => rdSt o93 ⟨{ S with status := 2, code := c }, rfl, ?_⟩)
    have zz := k15.size
    have n93 : Chg No w w93 := ((k15.trans c81 (fun _ _ h => h) (fun x hx he => by omega)).trans c82 (fun _ _ h => h) (fun x hx he => by omega)).trans c93 (fun _ _ h => h) (fun x hx he => by omega)
    have hf : mFault s c = { s with status := 2, code := c } := by unfold mFault; rw [hnone]
    rw [hf]
    refine ⟨fun w2 X cX hX e2 => ?_, n93⟩
    have h93 := h0.is w2 e2
    exact ⟨⟨m1, m2, m3, m4, m5, rfl, rfl⟩, h93.st, h93.bk, h93.me, fun x hx => Or.inl (h93.stD x hx), fun x hx => Or.inl (h93.bkD x hx), fun x hx => Or.inl (h93.meD x hx)⟩
end Go.Proofs.YtkjpmkopnkkbmaaGreatDoor
