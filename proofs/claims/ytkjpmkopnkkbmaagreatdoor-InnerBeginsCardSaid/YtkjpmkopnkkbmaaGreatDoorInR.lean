/- inner.Right, inner.Fault; states of their own. -/
import Derived.Test.YtkjpmkopnkkbmaaGreatDoorMaZ
import Derived.Test.YtkjpmkopnkkbmaaGreatDoorLwS
set_option maxRecDepth 100000
namespace Go.Proofs.YtkjpmkopnkkbmaaGreatDoor
open Go.RowKit

theorem StOw.x {D : Nat → Prop} {w : World} {S : StC} {s : StV} (h : StOw D w S s) : StX D w S s :=
  ⟨h.nums, h.st.ox, h.bk.ox, h.me.ox, fun k hk => ⟨h.stD k hk, fun he => (h.bkD k he).2 hk, fun he => (h.meD k he).2.1 hk⟩, fun k hk => ⟨(h.bkD k hk).1, fun he => (h.meD k he).2.2 hk⟩, fun k hk => (h.meD k hk).1⟩
theorem iright_any {D : Nat → Prop} {w : World} (S : StC) {s : StV} (h : StIs D w S s) : Calls Tryz.prog fn_inner_Right #[.agg (stC S).toArray] w fun e w' => ∃ b : Bool, e = .returned (.bool b) ∧ (b = true ↔ RightS s) ∧ Chg No w w' := by
  refine (inner_Right_lift (K := fun r w' => ∃ b : Bool, r = .bool b ∧ (b = true ↔ RightS s) ∧ Chg No w w') ?_).mono (by rintro e w' ⟨r, rfl, b, rfl, h⟩; exact ⟨b, rfl, h⟩)
  unfold inner_Right_sh
  refine inSt S fun b11 w12 hb11 z12 o c => ?_
  obtain ⟨m1, m2, m3, m4, m5, m6, m7⟩ := h.nums
  have l1 := h.st.len
  have l2 := h.bk.len
  have l3 := h.me.len
  have no : ∀ {w' : World}, Chg No w w' → ¬ RightS s → ∃ b : Bool, Value.bool false = .bool b ∧ (b = true ↔ RightS s) ∧ Chg No w w' := fun c h => ⟨false, rfl, ⟨(fun h => by cases h), fun h' => absurd h' h⟩, c⟩
  refine ⟨fun b w' => b = decide (s.stack.length ≤ 48 ∧ s.back.length ≤ 48 ∧ s.mem.length ≤ 3000) ∧ w' = w12, ?_, S.stack, o.cell rfl, brB_of (fun h1 => ⟨S.back, o.cell rfl, brB_of (fun h2 => ⟨S.mem, o.cell rfl, ?_, rfl⟩) (fun h2 => ⟨?_, rfl⟩)⟩) (fun h1 => ⟨?_, rfl⟩)⟩
  rotate_left
  · have h1 := of_decide_eq_true h1
    have h2 := of_decide_eq_true h2
    rw [Bool.eq_iff_iff, decide_eq_true_iff, decide_eq_true_iff]; omega
  · have h2 := of_decide_eq_false h2
    exact (decide_eq_false (by omega)).symm
  · have h1 := of_decide_eq_false h1
    exact (decide_eq_false (by omega)).symm
  rintro b w16 ⟨rfl, rfl⟩
  refine brB_of (fun hl => ?_) (fun hl => no c fun hh => of_decide_eq_false hl ⟨hh.st, hh.bk, hh.me⟩)
  obtain ⟨h1, h2, h3⟩ := of_decide_eq_true hl
  refine ⟨S.out, o.cell rfl, brB_of (fun h4 => ?_) (fun h4 => no c fun hh => ?_)⟩
  rotate_left
  · have := of_decide_eq_false h4; have := hh.out; rw [m3] at *; omega
  have h4 := of_decide_eq_true h4
  refine ⟨S.read, o.cell rfl, brB_of (fun h5 => ?_) (fun h5 => no c fun hh => ?_)⟩
  rotate_left
  · have := of_decide_eq_false h5; have := hh.rd; omega
  have h5 := of_decide_eq_true h5
  refine ⟨S.read, o.cell rfl, S.inp, o.cell rfl, brB_of (fun h6 => ?_) (fun h6 => no c fun hh => ?_)⟩
  rotate_left
  · have := of_decide_eq_false h6; have := hh.rd; rw [m4] at *; omega
  have h6 := of_decide_eq_true h6
  refine ⟨S.status, o.cell rfl, brB_of (fun h7 => ?_) (fun h7 => no c fun hh => ?_)⟩
  rotate_left
  · have := of_decide_eq_false h7; have := hh.status; omega
  have h7 := of_decide_eq_true h7
  refine ⟨S.status, o.cell rfl, _, rfl, ?_, c⟩
  rw [decide_eq_true_iff]
  rw [m3] at h4
  rw [m4] at h6
  exact ⟨fun h8 => ⟨h1, h2, h3, by omega, by omega, by omega⟩, fun hh => by have := hh.status; omega⟩
theorem ifault_any {D : Nat → Prop} {w : World} (S : StC) {s : StV} (h : StIs D w S s) (n1 : s.stack.length ≤ 100) (n2 : s.back.length ≤ 100) (n3 : s.mem.length ≤ 1000000) (code : Int) :
    Calls Tryz.prog fn_inner_Fault #[.agg (stC S).toArray, .int .i64 code] w fun e w' => ∃ S' : StC, e = .returned (.agg (stC S').toArray) ∧ StX (fun k => w.heap.size ≤ k ∧ k < w'.heap.size) w' S' (mFault s code) ∧ Chg No w w' := by
  refine (inner_Fault_lift (K := fun r w' => ∃ S' : StC, r = .agg (stC S').toArray ∧ StX (fun k => w.heap.size ≤ k ∧ k < w'.heap.size) w' S' (mFault s code) ∧ Chg No w w') ?_).mono (by rintro e w' ⟨r, rfl, S, rfl, h⟩; exact ⟨S, rfl, h⟩)
  unfold inner_Fault_sh
  refine inSt S fun b12 w13 hb12 z13 o12 c13 => inSt st0 fun b14 w15 hb14 z15 o14 c15 => ?_
  have k15 := trN c13 c15
  refine rdSt (o12.no c15) ((icopy_any S (h.no k15) (by omega) (by omega) n3).mono ?_)
  rintro e w27 ⟨S1, rfl, h1, c27⟩
  have x1 := h1.x
  have z27 := c27.size
  refine ⟨_, _, _, _, _, _, _, _, _, _, rfl, (mfaulty_any S1 x1.nums x1.st x1.bk n1 n2 code).mono ?_⟩
  rintro e w39 ⟨S2, rfl, g, c39⟩
  have z39 := c39.size
  have l14 := o14.lt
  refine ⟨_, _, _, _, _, _, _, _, _, _, rfl, setSt S2 ((o14.no c27).no c39) (by decide) rfl rfl fun w50 o50 c50 => rdSt o50 ⟨S2, rfl, ?_, (trN (trN k15 c27) c39).trans c50 (fun _ _ h => h) (fun k hk he => by omega)⟩⟩
  have z50 := c50.size
  have hm : (mFault s code).mem = s.mem := by unfold mFault; split <;> rfl
  have m39 : Ox intE w39 S2.mem (mFault s code).mem := by rw [g.me, hm]; exact x1.me.no c39
  have x39 : StX (fun k => w15.heap.size ≤ k ∧ k < w39.heap.size) w39 S2 (mFault s code) := by
    refine ⟨g.nums, g.st, g.bk, m39, fun k hk => ?_, fun k hk => ?_, fun k hk => ?_⟩
    · rcases g.stB with e | e
      · rw [e] at hk
        have := x1.stD k hk
        rw [g.bkB, g.me]
        exact ⟨by omega, this.2⟩
      · have h1 := e k hk
        have h2 := g.st.lt k hk
        rw [g.bkB, g.me]
        exact ⟨by omega, fun he => by have := x1.bkD k he; omega, fun he => by have := x1.meD k he; omega⟩
    · rw [g.bkB] at hk
      have := x1.bkD k hk
      rw [g.me]
      exact ⟨by omega, this.2⟩
    · rw [g.me] at hk
      have := x1.meD k hk; omega
  exact (x39.chg c50 (fun k hk he => by omega)).wid (fun k hk => by omega)
end Go.Proofs.YtkjpmkopnkkbmaaGreatDoor
