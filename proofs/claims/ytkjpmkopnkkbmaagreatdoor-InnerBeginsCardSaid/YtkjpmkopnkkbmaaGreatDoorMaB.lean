/- A machine in memory: its operations. -/
import Derived.Test.YtkjpmkopnkkbmaaGreatDoorMaA
import Derived.Test.YtkjpmkopnkkbmaaGreatDoorHix
set_option maxRecDepth 100000
namespace Go.Proofs.YtkjpmkopnkkbmaaGreatDoor
open Go.RowKit

theorem popV_len (s : StV) : (popV s).stack.length = s.stack.length - 1 := by show (s.stack.take _).length = _; rw [List.length_take]; omega
theorem popB_len (s : StV) : (popB s).back.length = s.back.length - 1 := by show (s.back.take _).length = _; rw [List.length_take]; omega
theorem pushV_len (s : StV) (l : List Int) : (pushV s l).stack.length = s.stack.length + l.length := by show (s.stack ++ l).length = _; rw [List.length_append]
theorem backV_len (s : StV) (l : List Int) : (backV s l).back.length = s.back.length + l.length := by show (s.back ++ l).length = _; rw [List.length_append]
/-- What a method that may fail leaves. -/
def MX (D : Nat → Prop) (w : World) (m : Nat) (S : StC) (s : StV) (d : Nat) (r : Rs) (v : Value) (w' : World) : Prop := match r with
  | .ok s' => v = .nilIface ∧ ∃ S' th', MR D w m S w' S' s' th'
  | .bad c t => c ≠ 0 ∧ (∃ d', d' ≤ d ∧ ErrD w.heap.size w' d' v c) ∧ ∃ S' s', MR D w m S w' S' s' t ∧ s'.mem = s.mem
section
variable {D : Nat → Prop} {w : World} {m : Nat} {S : StC} {s : StV} {th : Bool}
theorem MX.ok {w' : World} {S' : StC} {s' : StV} {th' : Bool} (d : Nat) (h : MR D w m S w' S' s' th') : MX D w m S s d (.ok s') .nilIface w' := ⟨rfl, S', th', h⟩
theorem MX.bad {w1 w' : World} {S' : StC} {s' : StV} {t : Bool} {d d' : Nat} {v : Value} {c : Int} (h : MR D w m S w1 S' s' t) (hm : s'.mem = s.mem) (he : ErrD w1.heap.size w' d' v c) (hc : c ≠ 0) (hd : d' ≤ d) (k : Chg No w1 w') : MX D w m S s d (.bad c t) v w' :=
  ⟨hc, ⟨d', hd, he.lo h.size⟩, S', s', h.trans (MR.no h.1 k), hm⟩
theorem MX.pre {w1 w' : World} {S1 : StC} {s1 : StV} {t1 : Bool} {d : Nat} {r : Rs} {v : Value} (h : MR D w m S w1 S1 s1 t1) (hm : s1.mem = s.mem) (g : MX D w1 m S1 s1 d r v w') : MX D w m S s d r v w' := by
  cases r with
  | ok s' => obtain ⟨a, S', th', b⟩ := g; exact ⟨a, S', th', h.trans b⟩
  | bad c t => obtain ⟨a, ⟨d', e1, e2⟩, S', s', b, c⟩ := g; exact ⟨a, ⟨d', e1, e2.lo h.size⟩, S', s', h.trans b, c.trans hm⟩
theorem mshuf_any (h : MS D w m S s th) (hD : ∀ k, w.heap.size ≤ k → D k) (c : Int) (h1 : 1 ≤ s.stack.length) (h2 : c = 8 ∨ c = 9 → 2 ≤ s.stack.length) (h3 : c = 10 → 3 ≤ s.stack.length) (hn : s.stack.length ≤ 100) :
    Calls Tryz.prog fn_inner_machine_shuffle #[.pointer (some ⟨m, 0, none⟩), .int .i64 c] w fun e w' => e = .returned (.tuple #[]) ∧ ∃ S', MR D w m S w' S' (mShuf s c) th := by
  refine (inner_machine_shuffle_lift (K := fun r w' => r = .tuple #[] ∧ ∃ S', MR D w m S w' S' (mShuf s c) th) ?_).mono (by rintro e w' ⟨r, rfl, rfl, h⟩; exact ⟨rfl, h⟩)
  unfold inner_machine_shuffle_sh
  have l1 := popV_len s
  have l2 := popV_len (popV s)
  have l3 := popV_len (popV (popV s))
  refine (mpop_any h h1 (by omega)).mono ?_
  rintro e w4 ⟨rfl, S4, h4⟩
  have D4 := MS.up hD h4.size
  refine ⟨_, rfl, brB_of (fun hc => ?_) (fun hc => ?_)⟩
  · have hc : c = 6 := by simpa using hc
    refine mpushL h4.1 D4 [topV s, topV s] _ rfl (by simp) (by simp) (by omega) (fun w2 S2 g2 => ⟨rfl, S2, ?_⟩) rfl
    unfold mShuf; rw [if_pos hc]; exact h4.trans g2
  have c6 : c ≠ 6 := by simpa using hc
  refine brB_of (fun hc => ?_) (fun hc => ?_)
  · have hc : c = 8 := by simpa using hc
    have := h2 (Or.inl hc)
    refine (inner_machine_swapped_lift (K := fun r w' => r = .int .i64 (topV (popV s)) ∧ ∃ S', MR D w m S w' S' (popV (popV s)) th) ?_).mono ?_
    · unfold inner_machine_swapped_sh
      refine (mpop_any h4.1 (by omega) (by omega)).mono ?_
      rintro e w5 ⟨rfl, S5, h5⟩
      exact ⟨_, rfl, rfl, S5, h4.trans h5⟩
    rintro e w11 ⟨r, rfl, rfl, S5, h5⟩
    refine ⟨_, rfl, ?_⟩
    refine mpushL h5.1 (MS.up hD h5.size) [topV s, topV (popV s)] _ rfl (by simp) (by simp) (by omega) (fun w2 S2 g2 => ⟨rfl, S2, ?_⟩) rfl
    unfold mShuf; rw [if_neg c6, if_pos hc]; exact h5.trans g2
  have c8 : c ≠ 8 := by simpa using hc
  refine brB_of (fun hc => ?_) (fun hc => ?_)
  · have hc : c = 9 := by simpa using hc
    have := h2 (Or.inr hc)
    refine (mpop_any h4.1 (by omega) (by omega)).mono ?_
    rintro e w5 ⟨rfl, S5, h5⟩
    have h5' := h4.trans h5
    refine ⟨_, rfl, ?_⟩
    refine mpushL h5.1 (MS.up hD h5'.size) [topV (popV s), topV s, topV (popV s)] _ rfl (by simp) (by simp) (by omega) (fun w2 S2 g2 => ⟨rfl, S2, ?_⟩) rfl
    unfold mShuf; rw [if_neg c6, if_neg c8, if_pos hc]; exact h5'.trans g2
  have c9 : c ≠ 9 := by simpa using hc
  refine brB_of (fun hc => ?_) (fun hc => ?_)
  · have hc : c = 10 := by simpa using hc
    have := h3 hc
    refine (mpop_any h4.1 (by omega) (by omega)).mono ?_
    rintro e w5 ⟨rfl, S5, h5⟩
    refine ⟨_, rfl, (mpop_any h5.1 (by omega) (by omega)).mono ?_⟩
    rintro e w6 ⟨rfl, S6, h6⟩
    have h6' := (h4.trans h5).trans h6
    refine ⟨_, rfl, ?_⟩
    refine mpushL h6.1 (MS.up hD h6'.size) [topV (popV s), topV s, topV (popV (popV s))] _ rfl (by simp) (by simp) (by omega) (fun w2 S2 g2 => ⟨rfl, S2, ?_⟩) rfl
    unfold mShuf; rw [if_neg c6, if_neg c8, if_neg c9, if_pos hc]; exact h6'.trans g2
  have c10 : c ≠ 10 := by simpa using hc
  refine ⟨rfl, S4, ?_⟩
  unfold mShuf; rw [if_neg c6, if_neg c8, if_neg c9, if_neg c10]; exact h4
theorem getI_at {xs : List Int} {i : Int} (h0 : 0 ≤ i) (h1 : i < xs.length) : xs[i.toNat]? = some (getI xs i) := by
  unfold getI; rw [List.getD_eq_getElem?_getD, List.getElem?_eq_getElem (by omega)]; rfl
theorem mbacks_any (h : MS D w m S s th) (hD : ∀ k, w.heap.size ≤ k → D k) (c : Int) (h33 : c = 33 → 1 ≤ s.stack.length) (h34 : c = 34 ∨ c = 35 → 1 ≤ s.back.length) (h36 : c = 36 → 2 ≤ s.stack.length) (h39 : c = 39 → 3 ≤ s.back.length) (h40 : c = 40 → 2 ≤ s.back.length) (hr : (33 ≤ c ∧ c ≤ 36) ∨ c = 39 ∨ c = 40) (hn : s.stack.length ≤ 100) (hn2 : s.back.length ≤ 100) :
    Calls Tryz.prog fn_inner_machine_backs #[.pointer (some ⟨m, 0, none⟩), .int .i64 c] w fun e w' => e = .returned (.tuple #[]) ∧ ∃ S', MR D w m S w' S' (mBacks s c) th := by
  refine (inner_machine_backs_lift (K := fun r w' => r = .tuple #[] ∧ ∃ S', MR D w m S w' S' (mBacks s c) th) ?_).mono (by rintro e w' ⟨r, rfl, rfl, h⟩; exact ⟨rfl, h⟩)
  unfold inner_machine_backs_sh
  have l1 := popV_len s
  have l2 := popV_len (popV s)
  have lb := h.bk.rd.len
  have cb := h.bk.rd.capL
  refine brB_of (fun hc => ?_) (fun hc => ?_)
  · have hc : c = 33 := by simpa using hc
    refine (mpop_any h (h33 hc) (by omega)).mono ?_
    rintro e w4 ⟨rfl, S4, h4⟩
    refine ⟨_, rfl, ?_⟩
    refine mbackL h4.1 (MS.up hD h4.size) [topV s] _ rfl (by simp) (by simp) (by show s.back.length ≤ _; omega) (fun w2 S2 g2 => ⟨rfl, S2, ?_⟩) rfl
    unfold mBacks; rw [if_pos hc]; exact h4.trans g2
  have c33 : c ≠ 33 := by simpa using hc
  refine brB_of (fun hc => ?_) (fun hc => ?_)
  · have hc : c = 34 := by simpa using hc
    refine (mpopB_any h (h34 (Or.inl hc)) (by omega)).mono ?_
    rintro e w4 ⟨rfl, S4, h4⟩
    refine ⟨_, rfl, ?_⟩
    refine mpushL h4.1 (MS.up hD h4.size) [topB s] _ rfl (by simp) (by simp) (by show s.stack.length ≤ _; omega) (fun w2 S2 g2 => ⟨rfl, S2, ?_⟩) rfl
    unfold mBacks; rw [if_neg c33, if_pos hc]; exact h4.trans g2
  have c34 : c ≠ 34 := by simpa using hc
  have peek : ∀ (i : Int) (hi0 : 0 ≤ (s.back.length : Int) - i) (hi1 : 1 ≤ i) (hi2 : i ≤ 3), mBacks s c = pushV s [getI s.back ((s.back.length : Int) - i)] → ∀ w17 : World, w17 = World.drew w →
      ∃ S18 : World → Prop, S18 w17 ∧ ∃ s19 : Sl, held S18 ⟨m, 3, none⟩ (s19.val) ∧ ∃ s20 : Sl, held S18 ⟨m, 3, none⟩ (s20.val) ∧
        ∃ a21 : Addr, s19.ptr = some a21 ∧ 0 ≤ (wr ((s20.len : Int) - i)) ∧ (wr ((s20.len : Int) - i)) < (s19.len : Int) ∧
        ∃ n22 : Int, held S18 (Addr.add a21 (Int.toNat (wr ((s20.len : Int) - i)) * 1)) (.int .i64 n22) ∧
        ∀ (b23 : Nat) (w24 : World), b23 = w17.heap.size → w24 = World.alloc w17 (.cells #[.int .i64 n22] T_int) →
        S18 w24 ∧ Calls Tryz.prog fn_inner_machine_push #[.pointer (some ⟨m, 0, none⟩), .slice (some ⟨b23, 0, none⟩) 1 1] w24 fun e25 w26 => e25 = .returned (.tuple #[]) ∧
        (fun (r : Value) w' => r = .tuple #[] ∧ ∃ S', MR D w m S w' S' (mBacks s c) th) (.tuple #[]) w26 := fun i hi0 hi1 hi2 he w17 hw17 => by
    have c17 := dw hw17
    have h17 := h.no c17
    have hO : ∀ w', Chg No w17 w' → Ob w' m (mcC S th) T_inner_machine := fun w' c => h17.ob.no c
    refine ⟨fun w' => Chg No w17 w', Chg.refl _ _, S.back, Ob.held hO rfl, S.back, Ob.held hO rfl, ?_⟩
    rw [wr_in (by omega)]
    refine Rd.hix (S := fun w' => Chg No w17 w') (Chg.refl No w17) (fun w' c => h17.bk.rd.no c) (i := (S.back.len : Int) - i) (by omega) (x := getI s.back ((s.back.length : Int) - i)) (by rw [lb]; exact getI_at hi0 (by omega)) fun a _ hcell => ?_
    have q := hcell 0 _ rfl
    rw [add0] at q
    refine ⟨_, q, fun b w1 hb hw => ?_⟩
    obtain ⟨g, c1⟩ := litL [getI s.back ((s.back.length : Int) - i)] _ rfl hb hw (by simp)
    have k1 := trN c17 c1
    have := k1.size
    refine ⟨c1, (mpush_any (h.no k1) (fun k hk => hD k (by omega)) g.rd rfl (by simp) (by simp; omega)).mono ?_⟩
    rintro e w2 ⟨rfl, S2, h2⟩
    refine ⟨rfl, rfl, S2, ?_⟩
    rw [he]; exact h2.pre k1
  refine brB_of (fun hc => ?_) (fun hc => ?_)
  · have hc : c = 35 := by simpa using hc
    have := h34 (Or.inr hc)
    exact peek 1 (by omega) (by omega) (by omega) (by unfold mBacks; rw [if_neg c33, if_neg c34, if_pos hc]; rfl)
  have c35 : c ≠ 35 := by simpa using hc
  refine brB_of (fun hc => ?_) (fun hc => ?_)
  · have hc : c = 36 := by simpa using hc
    have := h36 hc
    refine (mpop_any h (by omega) (by omega)).mono ?_
    rintro e w4 ⟨rfl, S4, h4⟩
    refine ⟨_, rfl, (mpop_any h4.1 (by omega) (by omega)).mono ?_⟩
    rintro e w5 ⟨rfl, S5, h5⟩
    have h5' := h4.trans h5
    refine ⟨_, rfl, ?_⟩
    refine mbackL h5.1 (MS.up hD h5'.size) [topV (popV s), topV s] _ rfl (by simp) (by simp) (by show s.back.length ≤ _; omega) (fun w2 S2 g2 => ⟨rfl, S2, ?_⟩) rfl
    unfold mBacks; rw [if_neg c33, if_neg c34, if_neg c35, if_pos hc]; exact h5'.trans g2
  have c36 : c ≠ 36 := by simpa using hc
  refine brB_of (fun hc => ?_) (fun hc => ?_)
  · have hc : c = 39 := by simpa using hc
    have := h39 hc
    exact peek 3 (by omega) (by omega) (by omega) (by unfold mBacks; rw [if_neg c33, if_neg c34, if_neg c35, if_neg c36, if_pos hc])
  have c39 : c ≠ 39 := by simpa using hc
  have := h40 (by omega)
  intro w47 hw47
  have c47 := dw hw47
  have h47 := h.no c47
  refine ⟨S.back, held_Lw (h47.ob.cell rfl), S.back, held_Lw (h47.ob.cell rfl), ?_⟩
  rw [wr_in (by omega), sub0, show ((S.back.len : Int) - 2).toNat = s.back.length - 2 by omega]
  refine ⟨by omega, by omega, h47.wr (by omega), fun w50 hw50 => ⟨rfl, { S with back := ⟨S.back.ptr, s.back.length - 2, S.back.cap⟩ }, ?_⟩⟩
  obtain ⟨o8, c8⟩ := h47.ob.up (k := 3) (vs := [(⟨S.back.ptr, s.back.length - 2, S.back.cap⟩ : Sl).val]) (cs' := mcC { S with back := ⟨S.back.ptr, s.back.length - 2, S.back.cap⟩ } th) (by simp [mcC, stC]) rfl hw50
  have hb7 : (⟨S.back.ptr, s.back.length - 2, S.back.cap⟩ : Sl).blk = S.back.blk := by unfold Sl.blk Sl.val; dsimp only; cases S.back.ptr <;> rfl
  have ht : Ox intE w47 ⟨S.back.ptr, s.back.length - 2, S.back.cap⟩ (s.back.take (s.back.length - 2)) := h47.bk.take (by omega)
  unfold mBacks; rw [if_neg c33, if_neg c34, if_neg c35, if_neg c36, if_neg c39]
  exact ⟨⟨o8, h.nums, h47.st.chg c8 (fun k hk => (h.dst k hk).2.1), ht.chg c8 (fun k hk => (h.dbk k (hb7 ▸ hk)).2.1), h47.me.chg c8 (fun k hk => (h.dme k hk).2), h.dm, fun k hk => ⟨(h.dst k hk).1, (h.dst k hk).2.1, fun he => (h.dst k hk).2.2.1 (hb7 ▸ he), (h.dst k hk).2.2.2⟩, fun k hk => h.dbk k (hb7 ▸ hk), h.dme⟩, rfl, c47.trans c8 (fun _ _ h => h.elim) (fun k _ hk => by have hk : k = m := hk; rw [hk]; exact h.dm)⟩
end
end Go.Proofs.YtkjpmkopnkkbmaaGreatDoor
