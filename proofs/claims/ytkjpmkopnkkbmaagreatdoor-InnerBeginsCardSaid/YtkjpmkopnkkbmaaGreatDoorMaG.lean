/- A machine in memory: faults that are caught. -/
import Derived.Test.YtkjpmkopnkkbmaaGreatDoorMaF
set_option maxRecDepth 100000
namespace Go.Proofs.YtkjpmkopnkkbmaaGreatDoor
open Go.RowKit

theorem Ox.qs {α : Type} {E : Enc α} {w w' : World} {s : Sl} {xs : List α} {b : Nat} (h : Ox E w s xs) (c : Chg (fun k => k = b) w w') (hb : s.blk ≠ some b) : Ox E w' s xs := h.chg c (fun k hk he => hb (by rw [hk]; exact congrArg some he))
theorem mcaught_any {w : World} (S : StC) {s : StV} (hb : Rd intE w S.back s.back) (hh : S.handler = s.handler) (n2 : s.back.length ≤ 1000) :
    Calls Tryz.prog fn_inner_caught #[.agg (stC S).toArray] w fun e w' => ∃ n : Int, e = .returned (.tuple #[.int .i64 n, .bool (mCaught s).isSome]) ∧ (∀ k, mCaught s = some k → n = k) ∧ Chg No w w' := by
  refine (inner_caught_lift (K := fun r w' => ∃ n : Int, r = .tuple #[.int .i64 n, .bool (mCaught s).isSome] ∧ (∀ k, mCaught s = some k → n = k) ∧ Chg No w w') ?_).mono (by rintro e w' ⟨r, rfl, n, rfl, h⟩; exact ⟨n, rfl, h⟩)
  unfold inner_caught_sh
  intro b11 w12 hb11 hw12
  have c12 := al hw12
  have o12 : Ob w12 b11 (stC S) T_api_State := by rw [hw12, hb11]; exact Ob.new w (stC S) T_api_State
  have lb := hb.len
  refine ⟨fun b w' => w' = w12 ∧ b = decide (s.handler < 3 ∨ (s.back.length : Int) < s.handler), ?_, ?_⟩
  · rintro b w16 ⟨rfl, rfl⟩
    refine brB_of (fun h => ?_) (fun h => ?_)
    · have h := of_decide_eq_true h
      have hn : mCaught s = none := by unfold mCaught; rw [if_neg (by omega)]
      rw [hn]
      exact ⟨0, rfl, (fun k hk => by cases hk), c12⟩
    · have h := of_decide_eq_false h
      refine ⟨S.back, o12.cell rfl, S.handler, o12.cell rfl, ?_⟩
      rw [hh, wr_in (by omega)]
      refine (hb.no c12).ix (i := s.handler - 1) (by omega) (getI_at (by omega) (by omega)) fun a _ hcell => ?_
      have q := hcell 0 _ rfl
      rw [add0] at q
      refine ⟨_, q, brB_of (fun h1 => ?_) (fun h1 => ?_)⟩
      · have h1 : 0 ≤ getI s.back (s.handler - 1) := by have := of_decide_eq_true h1; omega
        by_cases h2 : getI s.back (s.handler - 1) < 48
        · have hn : mCaught s = some (getI s.back (s.handler - 1)).toNat := by unfold mCaught; rw [if_pos (by omega)]
          rw [decide_eq_true h2, hn]
          exact ⟨_, rfl, (fun k hk => by cases hk; omega), c12⟩
        · have hn : mCaught s = none := by unfold mCaught; rw [if_neg (by omega)]
          rw [decide_eq_false h2, hn]
          exact ⟨_, rfl, (fun k hk => by cases hk), c12⟩
      · have h1 : ¬ 0 ≤ getI s.back (s.handler - 1) := by have := of_decide_eq_false h1; omega
        have hn : mCaught s = none := by unfold mCaught; rw [if_neg (by omega)]
        rw [hn]
        exact ⟨_, rfl, (fun k hk => by cases hk), c12⟩
  · refine ⟨S.handler, o12.cell rfl, ?_⟩
    rw [hh]
    refine brB_of (fun h => ?_) (fun h => ?_)
    · have h := of_decide_eq_true h
      exact ⟨rfl, (decide_eq_true (Or.inl h)).symm⟩
    · have h := of_decide_eq_false h
      refine ⟨S.handler, o12.cell rfl, S.back, o12.cell rfl, rfl, ?_⟩
      rw [hh, lb]
      exact decide_eq_decide.2 (by omega)
def sliceLen (o : Option Value) : Nat := match o with
  | some (.slice _ l _) => l
  | _ => 0
theorem sliceLen_val (s : Sl) : sliceLen (some s.val) = s.len := rfl
/-- A fault's machine: its stack may be a new list, its return stack is cut. -/
structure FtS (w w' : World) (S S' : StC) (s' : StV) : Prop where
  nums : StNums S' s'
  st : Ox intE w' S'.stack s'.stack
  bk : Ox intE w' S'.back s'.back
  stB : S'.stack.blk = S.stack.blk ∨ ∀ k, S'.stack.blk = some k → w.heap.size ≤ k
  bkB : S'.back.blk = S.back.blk
  me : S'.mem = S.mem
theorem mfaulty_any {w : World} (S : StC) {s : StV} (nums : StNums S s) (hs : Ox intE w S.stack s.stack) (hb : Ox intE w S.back s.back) (n1 : s.stack.length ≤ 100) (n2 : s.back.length ≤ 100) (c : Int) :
    Calls Tryz.prog fn_inner_faulty #[.agg (stC S).toArray, .int .i64 c] w fun e w' => ∃ S' : StC, e = .returned (.agg (stC S').toArray) ∧ FtS w w' S S' (mFault s c) ∧ Chg No w w' := by
  refine (inner_faulty_lift (K := fun r w' => ∃ S' : StC, r = .agg (stC S').toArray ∧ FtS w w' S S' (mFault s c) ∧ Chg No w w') ?_).mono (by rintro e w' ⟨r, rfl, S', rfl, h⟩; exact ⟨S', rfl, h⟩)
  unfold inner_faulty_sh
  obtain ⟨m1, m2, m3, m4, m5, m6, m7⟩ := nums
  intro b12 w13 hb12 hw13 b14 w15 hb14 hw15
  have c13 := al hw13
  have c15 := al hw15
  have z13 : w13.heap.size = w.heap.size + 1 := by rw [hw13]; simp
  have z15 : w15.heap.size = w13.heap.size + 1 := by rw [hw15]; simp
  have k15 := trN c13 c15
  have o12 : Ob w15 b12 (stC S) T_api_State := by
    have : Ob w13 b12 (stC S) T_api_State := by rw [hw13, hb12]; exact Ob.new w (stC S) T_api_State
    exact this.no c15
  have o14 : Ob w15 b14 (stC st0) T_api_State := by rw [hw15, hb14]; exact Ob.new w13 (stC st0) T_api_State
  refine ⟨_, _, _, _, _, _, _, _, _, _, o12.cell rfl, o12.cell rfl, o12.cell rfl, o12.cell rfl, o12.cell rfl, o12.cell rfl, o12.cell rfl, o12.cell rfl, o12.cell rfl, o12.cell rfl, (mcaught_any S (hb.no k15).rd m2 (by omega)).mono ?_⟩
  rintro e w27 ⟨n, rfl, hn, c27⟩
  have z27 := c27.size
  have k27 := trN k15 c27
  have p12 := o12.no c27
  have p14 := o14.no c27
  refine ⟨_, _, rfl, brB_of (fun hx => ?_) (fun hx => ?_)⟩
  · have hnone : mCaught s = none := by
      cases h : mCaught s with
      | none => rfl
      | some k => rw [h] at hx; cases hx
    refine ⟨p12.wr (by simp [stC]), fun w30 hw30 => ?_⟩
    obtain ⟨q12, d30⟩ := p12.up (k := 8) (vs := [.int .i64 2]) (cs' := stC { S with status := 2 }) (by simp [stC]) rfl hw30
    refine ⟨q12.wr (by simp [stC]), fun w31 hw31 => ?_⟩
    obtain ⟨q12, d31⟩ := q12.up (k := 9) (vs := [.int .i64 c]) (cs' := stC { S with status := 2, code := c }) (by simp [stC]) rfl hw31
    have d31' : Chg (fun k => k = b12) w27 w31 := d30.trans d31 (fun _ _ h => h) (fun _ _ h => h)
    have q14 := p14.chg d31' (fun he => by omega)
    refine ⟨_, _, _, _, _, _, _, _, _, _, q12.cell rfl, q12.cell rfl, q12.cell rfl, q12.cell rfl, q12.cell rfl, q12.cell rfl, q12.cell rfl, q12.cell rfl, q12.cell rfl, q12.cell rfl, q14.wr (by simp [stC]), fun w42 hw42 => ?_⟩
    obtain ⟨r14, d42⟩ := q14.up (k := 0) (vs := stC { S with status := 2, code := c }) (cs' := stC { S with status := 2, code := c }) (by simp [stC]) rfl hw42
    have e42 : Chg No w w42 := (k27.trans d31' (fun _ _ h => h) (fun k hk he => by omega)).trans d42 (fun _ _ h => h) (fun k hk he => by omega)
    refine ⟨_, _, _, _, _, _, _, _, _, _, r14.cell rfl, r14.cell rfl, r14.cell rfl, r14.cell rfl, r14.cell rfl, r14.cell rfl, r14.cell rfl, r14.cell rfl, r14.cell rfl, r14.cell rfl, { S with status := 2, code := c }, rfl, ?_, e42⟩
    have hf : mFault s c = { s with status := 2, code := c } := by unfold mFault; rw [hnone]
    rw [hf]
    exact ⟨⟨m1, m2, m3, m4, m5, rfl, rfl⟩, hs.no e42, hb.no e42, Or.inl rfl, rfl, rfl⟩
  obtain ⟨k, hk⟩ : ∃ k, mCaught s = some k := by
    cases h : mCaught s with
    | none => rw [h] at hx; cases hx
    | some k => exact ⟨k, rfl⟩
  have hnk := hn k hk
  subst hnk
  have hcond : 3 ≤ s.handler ∧ s.handler ≤ s.back.length ∧ k < 48 := by
    unfold mCaught at hk
    split at hk
    · next h => have := Option.some.inj hk; omega
    · cases hk
  obtain ⟨h3, hle, hk48⟩ := hcond
  have ls := hs.rd.len
  have lb := hb.rd.len
  have cb := hb.rd.capL
  have cs := hs.rd.capL
  have hltb : ∀ j, S.back.blk = some j → j < w.heap.size := hb.lt
  have hlts : ∀ j, S.stack.blk = some j → j < w.heap.size := hs.lt
  refine ⟨S.handler, p12.cell rfl, ?_⟩
  rw [m2, wr_in (x := s.handler - 3) (by omega), wr_in (x := s.handler - 3 + 1) (by omega)]
  intro w54 hw54
  have c54 := dw hw54
  have z54 := c54.size
  have k54 := trN k27 c54
  have q12 := p12.no c54
  have q14 := p14.no c54
  refine ⟨fun w' => (∃ x y, Ob w' b12 (stC { S with ip := x, handler := y }) T_api_State) ∧ Rd intE w' S.back s.back, ⟨⟨_, _, q12⟩, (hb.no k54).rd⟩, S.back, fun w' h => ?_, ?_⟩
  · obtain ⟨⟨x, y, o⟩, _⟩ := h; exact o.cell rfl
  refine Rd.hix (S := fun w' => (∃ x y, Ob w' b12 (stC { S with ip := x, handler := y }) T_api_State) ∧ Rd intE w' S.back s.back) ⟨⟨_, _, q12⟩, (hb.no k54).rd⟩ (fun w' h => h.2) (i := s.handler - 3) (by omega) (getI_at (by omega) (by omega)) fun a57 _ hc57 => ?_
  have g57 := hc57 0 _ rfl
  rw [add0] at g57
  refine ⟨_, g57, S.back, fun w' h => ?_, ?_⟩
  · obtain ⟨⟨x, y, o⟩, _⟩ := h; exact o.cell rfl
  rw [show s.handler - 3 + 1 = s.handler - 2 by omega]
  refine Rd.hix (S := fun w' => (∃ x y, Ob w' b12 (stC { S with ip := x, handler := y }) T_api_State) ∧ Rd intE w' S.back s.back) ⟨⟨_, _, q12⟩, (hb.no k54).rd⟩ (fun w' h => h.2) (i := s.handler - 2) (by omega) (getI_at (by omega) (by omega)) fun a60 _ hc60 => ?_
  have g60 := hc60 0 _ rfl
  rw [add0] at g60
  refine ⟨_, g60, S.back, fun w' h => ?_, ?_⟩
  · obtain ⟨⟨x, y, o⟩, _⟩ := h; exact o.cell rfl
  refine ⟨by omega, by omega, q12.wr (by simp [stC]), fun w63 hw63 => ?_⟩
  obtain ⟨r12, d63⟩ := q12.up (k := 0) (vs := [.int .i64 (getI s.back (s.handler - 3))]) (cs' := stC { S with ip := getI s.back (s.handler - 3) }) (by simp [stC]) rfl hw63
  have hb63 : Ox intE w63 S.back s.back := (hb.no k54).qs d63 (fun he => by have := hltb _ he; omega)
  refine ⟨⟨⟨_, _, r12⟩, hb63.rd⟩, r12.wr (by simp [stC]), fun w64 hw64 => ?_⟩
  obtain ⟨r12, d64⟩ := r12.up (k := 1) (vs := [.int .i64 (getI s.back (s.handler - 2))]) (cs' := stC { S with ip := getI s.back (s.handler - 3), handler := getI s.back (s.handler - 2) }) (by simp [stC]) rfl hw64
  have hb64 : Ox intE w64 S.back s.back := hb63.qs d64 (fun he => by have := hltb _ he; omega)
  rw [sub0]
  refine ⟨⟨⟨_, _, r12⟩, hb64.rd⟩, r12.wr (by simp [stC]), fun w65 hw65 => ?_⟩
  obtain ⟨bS, hbS⟩ : ∃ bS : Sl, bS = ⟨S.back.ptr, (s.handler - 3).toNat, S.back.cap⟩ := ⟨_, rfl⟩
  rw [← hbS] at hw65
  obtain ⟨r12, d65⟩ := r12.up (k := 3) (vs := [bS.val]) (cs' := stC { S with ip := getI s.back (s.handler - 3), handler := getI s.back (s.handler - 2), back := bS }) (by simp [stC]) rfl hw65
  have hbB : bS.blk = S.back.blk := by rw [hbS]; unfold Sl.blk Sl.val; dsimp only; cases S.back.ptr <;> rfl
  have hb65 : Ox intE w65 bS (s.back.take (s.handler - 3).toNat) := by
    have := (hb64.take (n := (s.handler - 3).toNat) (by omega))
    rw [← hbS] at this
    exact this.qs d65 (fun he => by have := hltb _ (hbB ▸ he); omega)
  have dd : Chg (fun k => k = b12) w54 w65 := (d63.trans d64 (fun _ _ h => h) (fun _ _ h => h)).trans d65 (fun _ _ h => h) (fun _ _ h => h)
  have z65 := dd.size
  have k65 : Chg No w w65 := k54.trans dd (fun _ _ h => h) (fun j hj he => by omega)
  have r14 := q14.chg dd (fun he => by omega)
  have hs65 := hs.no k65
  refine ⟨S.stack, r12.cell rfl, S.stack, r12.cell rfl, ?_⟩
  rw [ls]
  have hmin : imin (k : Int) (s.stack.length : Int) = ((min k s.stack.length : Nat) : Int) := by unfold imin; split <;> omega
  rw [hmin]
  refine ⟨by omega, by omega, fun s68 hs68 => ?_⟩
  rw [sub0, Int.toNat_natCast] at hs68
  have ht68 : Ox intE w65 s68 (s.stack.take (min k s.stack.length)) := by rw [hs68]; exact hs65.take (by omega)
  refine (clone_ints ht68.rd (by rw [List.length_take]; omega)).mono ?_
  rintro e w70 ⟨s71, rfl, g71, c70, n71, _⟩
  have z70 := c70.size
  have k70 := trN k65 c70
  have o70 := r12.no c70
  refine ⟨s71, rfl, o70.wr (by simp [stC]), fun w72 hw72 => ?_⟩
  obtain ⟨o72, d72⟩ := o70.up (k := 2) (vs := [s71.val]) (cs' := stC { S with ip := getI s.back (s.handler - 3), handler := getI s.back (s.handler - 2), back := bS, stack := s71 }) (by simp [stC]) rfl hw72
  have g72 := g71.ox.qs d72 (fun he => by have := n71 _ he; omega)
  have k72 : Chg No w w72 := k70.trans d72 (fun _ _ h => h) (fun j hj he => by omega)
  have htk : s.stack.take (min k s.stack.length) = s.stack.take k := by
    rcases Nat.le_total k s.stack.length with h | h
    · rw [Nat.min_eq_left h]
    · rw [Nat.min_eq_right h, List.take_length, List.take_of_length_le h]
  rw [htk] at g72
  have z72 := d72.size
  refine ⟨fun w' => ∃ (sl : Sl) (j : Nat), Ob w' b12 (stC { S with ip := getI s.back (s.handler - 3), handler := getI s.back (s.handler - 2), back := bS, stack := sl }) T_api_State ∧ Ob w' b14 (stC st0) T_api_State ∧ Ox intE w' sl (s.stack.take k ++ List.replicate j 0) ∧ min k s.stack.length + j ≤ k ∧ (∀ x, sl.blk = some x → w65.heap.size ≤ x) ∧ Chg No w w' ∧ Ox intE w' bS (s.back.take (s.handler - 3).toNat) ∧ w65.heap.size ≤ w'.heap.size,
    fun w' => k - sliceLen (w'.cell? ⟨b12, 2, none⟩), ⟨s71, 0, o72, (r14.no c70).chg d72 (fun he => by omega), by simpa using g72, by omega, n71, k72, (hb65.no c70).qs d72 (fun he => by have := hltb _ (hbB ▸ he); omega), by omega⟩, ?_⟩
  rintro w73 ⟨sl, j, o73, r73, g73, hj, hsl, k73, hb73, z73⟩
  have l73 := g73.rd.len
  rw [List.length_append, List.length_take, List.length_replicate] at l73
  refine ⟨sl, o73.cell rfl, brB_of (fun hlt => ?_) (fun hlt => ?_)⟩
  · have hlt : sl.len < k := by have := of_decide_eq_true hlt; omega
    refine ⟨sl, o73.cell rfl, ?_⟩
    intro b76 w77 hb76 hw77
    obtain ⟨g76, c77⟩ := litL [0] _ rfl hb76 hw77 (by simp)
    have z77 := c77.size
    refine appx_ok intOk rfl rfl (g73.no c77) g76.rd rfl (fun _ => by simp) (by show (_ + _) * 8 ≤ _; simp; omega) (by unfold maxLen; simp; omega) ?_
    intro s78 w79 g79 c79 b79 _
    have z79 := c79.size
    have hns : ∀ x, s78.blk = some x → w65.heap.size ≤ x := fun x hx => by
      rcases b79 with hh | hh
      · exact hsl x (hh ▸ hx)
      · have := hh x hx; omega
    have o79 := (o73.no c77).chg c79 (fun he => by have := hsl _ he; omega)
    have r79 := (r73.no c77).chg c79 (fun he => by have := hsl _ he; omega)
    have hb79 := (hb73.no c77).chg c79 (fun x hx he => by have := hsl x he; have := hltb _ (hbB ▸ hx); omega)
    have k79 : Chg No w w79 := (trN k73 c77).trans c79 (fun _ _ h => h) (fun x hx he => by have := hsl x he; have := k65.size; omega)
    refine ⟨o79.wr (by simp [stC]), fun w80 hw80 => ?_⟩
    obtain ⟨o80, d80⟩ := o79.up (k := 2) (vs := [s78.val]) (cs' := stC { S with ip := getI s.back (s.handler - 3), handler := getI s.back (s.handler - 2), back := bS, stack := s78 }) (by simp [stC]) rfl hw80
    have z80 := d80.size
    have g80 := g79.qs d80 (fun he => by have := hns _ he; omega)
    have l80 := g80.rd.len
    rw [List.append_assoc, show List.replicate j (0 : Int) ++ [0] = List.replicate (j + 1) 0 from (List.replicate_succ').symm] at g80
    refine ⟨⟨s78, j + 1, o80, r79.chg d80 (fun he => by omega), g80, by omega, hns, k79.trans d80 (fun _ _ h => h) (fun x hx he => by omega), hb79.qs d80 (fun he => by have := hltb _ (hbB ▸ he); omega), by omega⟩, ?_⟩
    have e1 : w80.cell? ⟨b12, 2, none⟩ = some s78.val := o80.cell rfl
    have e2 : w73.cell? ⟨b12, 2, none⟩ = some sl.val := o73.cell rfl
    show k - sliceLen (w80.cell? ⟨b12, 2, none⟩) < k - sliceLen (w73.cell? ⟨b12, 2, none⟩)
    rw [e1, e2, sliceLen_val, sliceLen_val, l80]
    simp only [List.length_append, List.length_take, List.length_replicate, List.length_singleton]
    omega
  · have hlt : k ≤ sl.len := by have := of_decide_eq_false hlt; omega
    have hjv : j = k - s.stack.length := by omega
    refine ⟨sl, o73.cell rfl, ?_⟩
    intro b82 w83 hb82 hw83
    obtain ⟨g82, c83⟩ := litL [c] _ rfl hb82 hw83 (by simp)
    have z83 := c83.size
    refine appx_ok intOk rfl rfl (g73.no c83) g82.rd rfl (fun _ => by simp) (by show (_ + _) * 8 ≤ _; simp; omega) (by unfold maxLen; simp; omega) ?_
    intro s84 w85 g85 c85 b85 _
    have z85 := c85.size
    have hns : ∀ x, s84.blk = some x → w65.heap.size ≤ x := fun x hx => by
      rcases b85 with hh | hh
      · exact hsl x (hh ▸ hx)
      · have := hh x hx; omega
    have o85 := (o73.no c83).chg c85 (fun he => by have := hsl _ he; omega)
    have r85 := (r73.no c83).chg c85 (fun he => by have := hsl _ he; omega)
    have hb85 := (hb73.no c83).chg c85 (fun x hx he => by have := hsl x he; have := hltb _ (hbB ▸ hx); omega)
    have k85 : Chg No w w85 := (trN k73 c83).trans c85 (fun _ _ h => h) (fun x hx he => by have := hsl x he; have := k65.size; omega)
    refine ⟨o85.wr (by simp [stC]), fun w86 hw86 => ?_⟩
    obtain ⟨o86, d86⟩ := o85.up (k := 2) (vs := [s84.val]) (cs' := stC { S with ip := getI s.back (s.handler - 3), handler := getI s.back (s.handler - 2), back := bS, stack := s84 }) (by simp [stC]) rfl hw86
    have g86 := g85.qs d86 (fun he => by have := hns _ he; omega)
    have r86 := r85.chg d86 (fun he => by omega)
    refine ⟨_, _, _, _, _, _, _, _, _, _, o86.cell rfl, o86.cell rfl, o86.cell rfl, o86.cell rfl, o86.cell rfl, o86.cell rfl, o86.cell rfl, o86.cell rfl, o86.cell rfl, o86.cell rfl, r86.wr (by simp [stC]), fun w97 hw97 => ?_⟩
    obtain ⟨r97, d97⟩ := r86.up (k := 0) (vs := stC { S with ip := getI s.back (s.handler - 3), handler := getI s.back (s.handler - 2), back := bS, stack := s84 }) (cs' := stC { S with ip := getI s.back (s.handler - 3), handler := getI s.back (s.handler - 2), back := bS, stack := s84 }) (by simp [stC]) rfl hw97
    have d97' : Chg (fun x => x = b12 ∨ x = b14) w85 w97 := d86.trans d97 (fun _ _ h => Or.inl h) (fun _ _ h => Or.inr h)
    refine ⟨_, _, _, _, _, _, _, _, _, _, r97.cell rfl, r97.cell rfl, r97.cell rfl, r97.cell rfl, r97.cell rfl, r97.cell rfl, r97.cell rfl, r97.cell rfl, r97.cell rfl, r97.cell rfl, { S with ip := getI s.back (s.handler - 3), handler := getI s.back (s.handler - 2), back := bS, stack := s84 }, rfl, ?_, k85.trans d97' (fun _ _ h => h) (fun x hx he => by omega)⟩
    have hf : mFault s c = { s with ip := getI s.back (s.handler - 3), handler := getI s.back (s.handler - 2), back := s.back.take (s.handler - 3).toNat, stack := (s.stack.take k ++ List.replicate (k - s.stack.length) 0) ++ [c] } := by unfold mFault; rw [hk]
    rw [hf]
    refine ⟨⟨rfl, rfl, m3, m4, m5, m6, m7⟩, ?_, hb85.chg d97' (fun x hx he => by have := hltb _ (hbB ▸ hx); omega), Or.inr (fun x hx => by have := hns x hx; have := k65.size; omega), hbB, rfl⟩
    rw [← hjv]
    exact g86.qs d97 (fun he => by have := hns _ he; omega)
end Go.Proofs.YtkjpmkopnkkbmaaGreatDoor
