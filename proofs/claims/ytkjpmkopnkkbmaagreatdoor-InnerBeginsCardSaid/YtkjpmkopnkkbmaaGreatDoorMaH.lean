/- A machine in memory: a step with its fault; inner.Run. -/
import Derived.Test.YtkjpmkopnkkbmaaGreatDoorMaG
set_option maxRecDepth 100000
namespace Go.Proofs.YtkjpmkopnkkbmaaGreatDoor
open Go.RowKit

theorem mMem_no (s : StV) (c c' : Int) : mMem s c ≠ .bad c' true := fun h => by
  unfold mMem at h
  split at h
  · cases h
  split at h <;> cases h
theorem mSay_no (s : StV) (c c' : Int) : mSay s c ≠ .bad c' true := fun h => by
  unfold mSay at h
  split at h <;> cases h
theorem mEnd_no (s : StV) (c' : Int) : mEnd s ≠ .bad c' true := fun h => by
  unfold mEnd at h
  split at h
  · cases h
  split at h <;> cases h
theorem mReck_no (s : StV) (c c' : Int) : mReck s c ≠ .bad c' true := fun h => by
  unfold mReck at h
  split at h
  · cases h
  split at h <;> cases h
theorem mFlow_thr {s : StV} {c c' : Int} (h : mFlow s c = .bad c' true) : c = 45 := by
  unfold mFlow at h
  split at h
  · split at h <;> cases h
  split at h
  · assumption
  split at h
  · cases h
  · exact absurd h (mEnd_no _ _)
/-- A word that throws took a cell. -/
theorem mDo_thr {s : StV} {c arg was c' : Int} (h : mDo s c arg was = .bad c' true) : c = 45 := by
  unfold mDo at h
  by_cases h0 : c = 0
  · rw [if_pos h0] at h; cases h
  rw [if_neg h0] at h
  by_cases h1 : c = 2
  · rw [if_pos h1] at h; cases h
  rw [if_neg h1] at h
  by_cases h2 : c = 4
  · rw [if_pos h2] at h; split at h <;> cases h
  rw [if_neg h2] at h
  by_cases h3 : c = 3
  · rw [if_pos h3] at h; cases h
  rw [if_neg h3] at h
  by_cases h4 : c = 5
  · rw [if_pos h4] at h; cases h
  rw [if_neg h4] at h
  by_cases h5 : 6 ≤ c ∧ c ≤ 10
  · rw [if_pos h5] at h; cases h
  rw [if_neg h5] at h
  by_cases h6 : 30 ≤ c ∧ c ≤ 32
  · rw [if_pos h6] at h; exact absurd h (mMem_no _ _ _)
  rw [if_neg h6] at h
  by_cases h7 : (33 ≤ c ∧ c ≤ 36) ∨ c = 39 ∨ c = 40
  · rw [if_pos h7] at h; cases h
  rw [if_neg h7] at h
  by_cases h8 : c = 37 ∨ c = 38
  · rw [if_pos h8] at h; cases h
  rw [if_neg h8] at h
  by_cases h9 : c = 41 ∨ c = 42
  · rw [if_pos h9] at h; exact absurd h (mSay_no _ _ _)
  rw [if_neg h9] at h
  by_cases h10 : c = 43
  · rw [if_pos h10] at h; cases h
  rw [if_neg h10] at h
  by_cases h11 : (44 ≤ c ∧ c ≤ 46) ∨ c = 1
  · rw [if_pos h11] at h; exact mFlow_thr h
  rw [if_neg h11] at h
  by_cases h12 : c = 47
  · rw [if_pos h12] at h; cases h
  rw [if_neg h12] at h
  exact absurd h (mReck_no _ _ _)
theorem mStep_thr {s : StV} {c' : Int} (h : mStep s = .bad c' true) : 1 ≤ s.stack.length := by
  unfold mStep at h
  split at h
  · cases h
  split at h
  · split at h <;> cases h
  split at h
  · cases h
  split at h
  · cases h
  split at h
  · cases h
  next hr _ hz =>
  have hc : 0 ≤ getI s.mem s.ip ∧ getI s.mem s.ip < 48 := Classical.byContradiction hr
  have hz : mRoom s (getI s.mem s.ip) = 0 := Classical.byContradiction hz
  have h45 := mDo_thr h
  exact (need_of hc hz).n1 (by omega)
section
variable {D : Nat → Prop} {w : World} {m : Nat} {S : StC} {s : StV} {th : Bool}
theorem MS.wid {C : Nat → Prop} (h : MS D w m S s th) (hd : ∀ k, D k → C k) : MS C w m S s th :=
  ⟨h.ob, h.nums, h.st, h.bk, h.me, hd _ h.dm, fun k hk => ⟨hd _ (h.dst k hk).1, (h.dst k hk).2⟩, fun k hk => ⟨hd _ (h.dbk k hk).1, (h.dbk k hk).2⟩, fun k hk => ⟨hd _ (h.dme k hk).1, (h.dme k hk).2⟩⟩
def Bm (m : Nat) (S : StC) : Nat → Prop := fun k => k = m ∨ S.stack.blk = some k ∨ S.back.blk = some k ∨ S.mem.blk = some k
theorem MS.own (h : MS D w m S s th) {k : Nat} (hk : Bm m S k) : D k := by
  rcases hk with rfl | hk | hk | hk
  · exact h.dm
  · exact (h.dst k hk).1
  · exact (h.dbk k hk).1
  · exact (h.dme k hk).1
theorem MS.bm {C : Nat → Prop} (h : MS D w m S s th) (hC : ∀ k, Bm m S k → C k) : MS C w m S s th :=
  ⟨h.ob, h.nums, h.st, h.bk, h.me, hC _ (Or.inl rfl), fun k hk => ⟨hC k (Or.inr (Or.inl hk)), (h.dst k hk).2⟩, fun k hk => ⟨hC k (Or.inr (Or.inr (Or.inl hk))), (h.dbk k hk).2⟩, fun k hk => ⟨hC k (Or.inr (Or.inr (Or.inr hk))), (h.dme k hk).2⟩⟩
theorem MS.chg {w' : World} {X : Nat → Prop} (h : MS D w m S s th) (c : Chg X w w') (hX : ∀ k, Bm m S k → ¬ X k) : MS D w' m S s th :=
  ⟨h.ob.chg c (hX _ (Or.inl rfl)), h.nums, h.st.chg c (fun k hk => hX k (Or.inr (Or.inl hk))), h.bk.chg c (fun k hk => hX k (Or.inr (Or.inr (Or.inl hk)))), h.me.chg c (fun k hk => hX k (Or.inr (Or.inr (Or.inr hk)))), h.dm, h.dst, h.dbk, h.dme⟩
theorem madv_any (h : MS D w m S s th) (hD : ∀ k, w.heap.size ≤ k → D k) (ok : MOk s) (hg : Gl w) (h0 : ¬ D 0) :
    Calls Tryz.prog fn_inner_machine_advance #[.pointer (some ⟨m, 0, none⟩)] w fun e w' => e = .returned (.tuple #[]) ∧ ∃ S' th', MS D w' m S' (mAdv s) th' ∧ Chg D w w' := by
  refine (inner_machine_advance_lift (K := fun r w' => r = .tuple #[] ∧ ∃ S' th', MS D w' m S' (mAdv s) th' ∧ Chg D w w') ?_).mono (by rintro e w' ⟨r, rfl, rfl, h⟩; exact ⟨rfl, h⟩)
  unfold inner_machine_advance_sh
  have k1 := ok.st
  have k2 := ok.bk
  have ltm := h.lt
  have lts := h.st.lt
  have ltb := h.bk.lt
  have ltx := h.me.lt
  have l0 := hg.lt
  refine ⟨_, _, _, _, _, _, _, _, _, _, h.ob.cell rfl, h.ob.cell rfl, h.ob.cell rfl, h.ob.cell rfl, h.ob.cell rfl, h.ob.cell rfl, h.ob.cell rfl, h.ob.cell rfl, h.ob.cell rfl, h.ob.cell rfl, ?_⟩
  intro b12 w13 hb12 hw13
  have hnw := fun (w2 : World) => newOb (w2 := w2) (T := T_api_State) (stC st0) (stC S) rfl hb12 hw13
  refine ⟨(hnw w13).1, fun w14 hw14 => ?_⟩
  obtain ⟨o12, c14⟩ := (hnw w14).2 hw14
  have z13 : w13.heap.size = w.heap.size + 1 := by rw [hw13]; simp
  have z14 : w13.heap.size ≤ w14.heap.size := by rw [hw14]; exact (Chg.st (S := fun _ => True) trivial).size
  intro w15 hw15
  have c15 := trN c14 (dw hw15)
  have z15 := (dw hw15).size
  have h15 := h.no c15
  have p12 := o12.no (dw hw15)
  have hO : ∀ w', Chg No w15 w' → Ob w' m (mcC S th) T_inner_machine := fun w' c => h15.ob.no c
  refine ⟨fun w' => Chg No w15 w', Chg.refl _ _, S.stack, Ob.held hO rfl, S.back, Ob.held hO rfl, ?_⟩
  refine (clone_ints h15.st.rd (by omega)).mono ?_
  rintro e w20 ⟨s21, rfl, g21, c20, n21, _⟩
  have z20 := c20.size
  have lt21 : ∀ k, s21.blk = some k → k < w20.heap.size := fun k hk => g21.lt hk
  refine ⟨s21, rfl, c20, ?_⟩
  refine (clone_ints (h15.bk.no c20).rd (by omega)).mono ?_
  rintro e w23 ⟨s24, rfl, g24, c23, n24, _⟩
  have z23 := c23.size
  have c1523 := trN c20 c23
  have g21 := g21.no c23
  have lt24 : ∀ k, s24.blk = some k → k < w23.heap.size := fun k hk => g24.lt hk
  have q12 := p12.no c1523
  refine ⟨s24, rfl, c1523, q12.wr (by simp [stC]), fun w25 hw25 => ?_⟩
  obtain ⟨q12, d25⟩ := q12.up (k := 2) (vs := [s21.val]) (cs' := stC { S with stack := s21 }) (by simp [stC]) rfl hw25
  refine ⟨q12.wr (by simp [stC]), fun w26 hw26 => ?_⟩
  obtain ⟨q12, d26⟩ := q12.up (k := 3) (vs := [s24.val]) (cs' := stC { S with stack := s21, back := s24 }) (by simp [stC]) rfl hw26
  have d26 : Chg (fun k => k = b12) w23 w26 := d25.trans d26 (fun _ _ h => h) (fun _ _ h => h)
  have z26 := d26.size
  have h26 : MS D w26 m S s th := (h15.no c1523).chg d26 (fun k hk he => by
    have he : k = b12 := he
    rcases hk with hk | hk | hk | hk
    · omega
    · have := lts k hk; omega
    · have := ltb k hk; omega
    · have := ltx k hk; omega)
  refine ⟨h26.wr (by omega), fun w27 hw27 => ?_⟩
  have g27 := h26.put (k := 10) (vs := [.bool false]) (S' := S) (s' := s) (th' := false) (by simp) rfl hw27 h26.nums rfl rfl rfl rfl rfl rfl
  have z27 := g27.size
  have dm27 : Chg (fun k => k = m) w26 w27 := by rw [hw27]; exact Chg.st (S := fun k => k = m) rfl
  have zz : w.heap.size < w27.heap.size := by omega
  have cA : Chg D w w27 := ((trN c15 c1523).trans d26 (fun _ _ h => h.elim) (fun k _ hk => by have hk : k = b12 := hk; rw [hk]; exact hD _ (by omega))).trans g27.2.2 (fun _ _ h => h) (fun _ _ h => h)
  have hsub : ∀ k, (Bm m S k ∨ w27.heap.size ≤ k) → D k := fun k hk => hk.elim h.own (fun hk => hD k (by omega))
  have q12 : Ob w27 b12 (stC { S with stack := s21, back := s24 }) T_api_State := q12.chg dm27 (fun he => by omega)
  have x21 : Ox intE w27 s21 s.stack := ((g21.ox.qs d26 (fun he => by have := n21 _ he; omega)).qs dm27 (fun he => by have := n21 _ he; omega))
  have x24 : Ox intE w27 s24 s.back := ((g24.ox.qs d26 (fun he => by have := n24 _ he; omega)).qs dm27 (fun he => by have := n24 _ he; omega))
  refine (mstep_any (D := fun k => Bm m S k ∨ w27.heap.size ≤ k) (g27.1.bm fun k hk => Or.inl hk) (fun k hk => Or.inr hk) ok).mono ?_
  rintro e w29 ⟨v30, rfl, hv⟩
  refine ⟨v30, rfl, ?_⟩
  cases hst : mStep s with
  | ok s' =>
    rw [hst] at hv
    obtain ⟨rfl, S', th', g⟩ := hv
    refine ⟨_, _, eq_nil _ _, brB_t ⟨rfl, S', th', ?_, cA.trans g.2.2 (fun _ _ h => h) (fun k _ hk => hsub k hk)⟩⟩
    have : mAdv s = s' := by unfold mAdv; rw [hst]
    rw [this]
    exact g.1.wid hsub
  | bad c t =>
    rw [hst] at hv
    obtain ⟨hc', ⟨d', hd', hE⟩, S', s', g, hm⟩ := hv
    obtain ⟨t', u', rfl⟩ := hE.if
    refine ⟨_, _, eq_if _ _ _ _, brB_f ?_⟩
    have z29 := g.size
    have nob : ∀ k, w.heap.size ≤ k → k < w27.heap.size → ¬ (Bm m S k ∨ w27.heap.size ≤ k) := fun k h1 h2 hh => by
      rcases hh with (hh | hh | hh | hh) | hh
      · omega
      · have := lts k hh; omega
      · have := ltb k hh; omega
      · have := ltx k hh; omega
      · omega
    have q29 := q12.chg g.2.2 (nob b12 (by omega) (by omega))
    have y21 := x21.chg g.2.2 (fun k hk => nob k (by have := n21 k hk; omega) (by have := lt21 k hk; omega))
    have y24 := x24.chg g.2.2 (fun k hk => nob k (by have := n24 k hk; omega) (by have := lt24 k hk; omega))
    have hme : Ox intE w29 S.mem s.mem := by have := g.1.me; rw [g.2.1, hm] at this; exact this
    have hadv : mAdv s = mFault (if t = true then popV s else s) c := by unfold mAdv; rw [hst]
    rw [hadv]
    have cB : Chg D w w29 := cA.trans g.2.2 (fun _ _ h => h) (fun k _ hk => hsub k hk)
    refine ⟨fun w' => ∃ sl : Sl, Ob w' b12 (stC { S with stack := sl, back := s24 }) T_api_State ∧ sl.blk = s21.blk ∧ Ox intE w' sl (if t = true then popV s else s).stack ∧ Chg (fun k => k = b12) w29 w', ?_, ?_⟩
    rotate_left
    · refine ⟨t, g.1.ob.cell rfl, ?_⟩
      cases ht : t with
      | false => exact brB_f ⟨s21, q29, rfl, y21, Chg.refl _ _⟩
      | true =>
        refine brB_t ?_
        subst ht
        have hne := mStep_thr hst
        have l21 := y21.rd.len
        have c21 := y21.rd.capL
        refine ⟨s21, q29.cell rfl, s21, q29.cell rfl, ?_⟩
        rw [wr_in (by omega)]
        refine ⟨by omega, by omega, fun s36 hs36 => ?_⟩
        rw [sub0, show ((s21.len : Int) - 1).toNat = s.stack.length - 1 by omega] at hs36
        have hb36 : s36.blk = s21.blk := by rw [hs36]; unfold Sl.blk Sl.val; dsimp only; cases s21.ptr <;> rfl
        refine ⟨q29.wr (by simp [stC]), fun w37 hw37 => ?_⟩
        obtain ⟨q37, d37⟩ := q29.up (k := 2) (vs := [s36.val]) (cs' := stC { S with stack := s36, back := s24 }) (by simp [stC]) rfl hw37
        have y36 : Ox intE w29 s36 (s.stack.take (s.stack.length - 1)) := by rw [hs36]; exact y21.take (by omega)
        exact ⟨s36, q37, hb36, y36.qs d37 (fun he => by have := n21 _ (hb36 ▸ he); omega), d37⟩
    · rintro w38 ⟨sl, o38, hb38, x38, d38⟩
      intro w39 hw39
      have c39 := dw hw39
      have z38 := d38.size
      have z39 := c39.size
      have hE39 := (hE.chg d38 (fun k hk he => by have he : k = b12 := he; omega)).no c39
      have cC : Chg D w w39 := (cB.trans d38 (fun _ _ h => h) (fun k _ hk => by have hk : k = b12 := hk; rw [hk]; exact hD _ (by omega))).trans c39 (fun _ _ h => h) (fun _ _ h => h.elim)
      have o39 := o38.no c39
      have y24' := (y24.qs d38 (fun he => by have := n24 _ he; omega)).no c39
      have hme39 := (hme.qs d38 (fun he => by have := ltx _ he; omega)).no c39
      have om39 := (g.1.ob.chg d38 (fun he => by have he : m = b12 := he; omega)).no c39
      have hO : ∀ w', Chg No w39 w' → Ob w' b12 (stC { S with stack := sl, back := s24 }) T_api_State := fun w' c => o39.no c
      refine ⟨fun w' => Chg No w39 w', Chg.refl _ _, _, _, _, _, _, _, _, _, _, _, Ob.held hO rfl, Ob.held hO rfl, Ob.held hO rfl, Ob.held hO rfl, Ob.held hO rfl, Ob.held hO rfl, Ob.held hO rfl, Ob.held hO rfl, Ob.held hO rfl, Ob.held hO rfl, ?_⟩
      refine (code_any hd' (hg.chg cC h0) hE39).mono ?_
      rintro e w52 ⟨rfl, c52⟩
      have z52 := c52.size
      obtain ⟨m1, m2, m3, m4, m5, m6, m7⟩ := h.nums
      have hst2 : (if t = true then popV s else s).stack.length ≤ 100 := by
        split
        · have := popV_len s; omega
        · omega
      have hbk2 : (if t = true then popV s else s).back = s.back := by split <;> rfl
      have hme2 : (if t = true then popV s else s).mem = s.mem := by split <;> rfl
      have hnum2 : StNums { S with stack := sl, back := s24 } (if t = true then popV s else s) := by
        split
        · exact ⟨m1, m2, m3, m4, m5, m6, m7⟩
        · exact ⟨m1, m2, m3, m4, m5, m6, m7⟩
      refine ⟨_, rfl, c52, ?_⟩
      refine (mfaulty_any { S with stack := sl, back := s24 } hnum2 ((x38.no c39).no c52) (by rw [hbk2]; exact y24'.no c52) hst2 (by rw [hbk2]; omega) c).mono ?_
      rintro e w55 ⟨S3, rfl, ft, c55⟩
      have c3955 := trN c52 c55
      have om55 := om39.no c3955
      refine ⟨_, _, _, _, _, _, _, _, _, _, rfl, c3955, om55.wr (by simp [mcC, stC]), fun w66 hw66 => ⟨rfl, S3, t, ?_, ?_⟩⟩
      · obtain ⟨o66, d66⟩ := om55.up (k := 0) (vs := stC S3) (cs' := mcC S3 t) (by simp [mcC, stC]) rfl hw66
        have bs : ∀ k, S3.stack.blk = some k → (w15.heap.size ≤ k ∧ k < w20.heap.size) ∨ w52.heap.size ≤ k := fun k hk => by
          rcases ft.stB with hh | hh
          · have hk2 : s21.blk = some k := by rw [← hb38]; exact hh ▸ hk
            exact Or.inl ⟨n21 k hk2, lt21 k hk2⟩
          · exact Or.inr (hh k hk)
        have bb : ∀ k, S3.back.blk = some k → w20.heap.size ≤ k ∧ k < w23.heap.size := fun k hk => by
          have hk2 : s24.blk = some k := ft.bkB ▸ hk
          exact ⟨n24 k hk2, lt24 k hk2⟩
        have bm : ∀ k, S3.mem.blk = some k → k < w.heap.size ∧ S.mem.blk = some k := fun k hk => by
          have hk2 : S.mem.blk = some k := ft.me ▸ hk
          exact ⟨ltx k hk2, hk2⟩
        have hmem3 : Ox intE w55 S3.mem (mFault (if t = true then popV s else s) c).mem := by
          have e1 : (mFault (if t = true then popV s else s) c).mem = s.mem := by
            rw [← hme2]; unfold mFault; split <;> rfl
          rw [ft.me, e1]; exact hme39.no c3955
        refine ⟨o66, ft.nums, ft.st.qs d66 (fun he => by have := bs _ he; omega), ft.bk.qs d66 (fun he => by have := bb _ he; omega), hmem3.qs d66 (fun he => (h.dme _ (bm _ he).2).2 rfl), h.dm, fun k hk => ⟨hD k (by have := bs k hk; omega), by have := bs k hk; omega, fun he => by have := bs k hk; have := bb k he; omega, fun he => by have := bs k hk; have := (bm k he).1; omega⟩,
          fun k hk => ⟨hD k (by have := bb k hk; omega), by have := bb k hk; omega, fun he => by have := bb k hk; have := (bm k he).1; omega⟩, fun k hk => ⟨(h.dme k (bm k hk).2).1, (h.dme k (bm k hk).2).2⟩⟩
      · have d66 : Chg (fun k => k = m) w55 w66 := by rw [hw66]; exact Chg.st (S := fun k => k = m) rfl
        exact (cC.trans c3955 (fun _ _ h => h) (fun _ _ h => h.elim)).trans d66 (fun _ _ h => h) (fun k _ hk => by have hk : k = m := hk; rw [hk]; exact h.dm)
end
end Go.Proofs.YtkjpmkopnkkbmaaGreatDoor
