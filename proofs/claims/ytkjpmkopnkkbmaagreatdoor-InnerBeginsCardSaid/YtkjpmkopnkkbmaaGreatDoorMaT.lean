/- What the statements on a machine's steps come to, in plain words. No program in sight. -/
import Derived.Test.YtkjpmkopnkkbmaaGreatDoorMaS
set_option maxRecDepth 100000
namespace Go.Proofs.YtkjpmkopnkkbmaaGreatDoor
open Go.RowKit

/-! ### Fuel in two parts -/
theorem mRun_left : ∀ (a : Nat) (s : StV), (mRun a s).1.status = 0 → (mRun a s).2 = 0
  | 0, _, _ => rfl
  | a + 1, s, h => by
    by_cases hs : s.status = 0
    · rw [mRun_go a hs rfl] at h ⊢; exact mRun_left a _ h
    · rw [mRun_off _ hs] at h; exact absurd h hs
theorem mRun_parts : ∀ (a k : Nat) (s : StV), mRun (k + (mRun a s).2) (mRun a s).1 = mRun (a + k) s
  | 0, k, s => by show mRun (k + 0) s = mRun (0 + k) s; rw [Nat.zero_add]; rfl
  | a + 1, k, s => by
    by_cases hs : s.status = 0
    · rw [mRun_go a hs rfl, mRun_parts a k, show a + 1 + k = (a + k) + 1 by omega, mRun_go (a + k) hs rfl]
    · rw [mRun_off _ hs, mRun_off _ hs, mRun_off _ hs]
      show (s, k + (a + 1)) = (s, a + 1 + k); rw [Nat.add_comm]
theorem runM_parts {s : StV} {a b : Int} (ha : 0 ≤ a) (hb : 0 ≤ b) : runM (runM s a).1 (b + (runM s a).2) = runM s (a + b) ∧ ((runM s a).1.status = 0 → (runM s a).2 = 0) ∧ 0 ≤ (runM s a).2 ∧ (runM s a).2 ≤ a := by
  have hle : ∀ (a : Nat) (s : StV), (mRun a s).2 ≤ a := by
    intro a
    induction a with
    | zero => intro s; exact Nat.le_refl _
    | succ a ih =>
      intro s
      by_cases hs : s.status = 0
      · rw [mRun_go a hs rfl]; have := ih (mAdv s); omega
      · rw [mRun_off _ hs]; exact Nat.le_refl _
  have h := hle a.toNat s
  unfold runM
  rw [if_pos ha, if_pos (by omega), if_pos (by omega)]
  have e1 : (b + ((mRun a.toNat s).2 : Int)).toNat = b.toNat + (mRun a.toNat s).2 := by omega
  have e2 : (a + b).toNat = a.toNat + b.toNat := by omega
  rw [e1, e2, mRun_parts]
  refine ⟨rfl, fun h0 => ?_, by omega, by omega⟩
  have := mRun_left a.toNat s h0
  show ((mRun a.toNat s).2 : Int) = 0; omega

/-! ### Words that are called -/
theorem calls_law {s : StV} {at_ v : Int} (h64 : 64 ≤ at_) (hlen : at_ ≤ (s.mem.length : Int) - 5) (hst : s.stack.length < 48) (hbk : s.back.length < 48) :
    mRun 3 { s with ip := 0, status := 0, mem := (((s.mem.set at_.toNat 2).set (at_ + 1).toNat v).set (at_ + 2).toNat 5).set 0 at_ } =
      (⟨1, s.handler, s.stack ++ [v], s.back, (((s.mem.set at_.toNat 2).set (at_ + 1).toNat v).set (at_ + 2).toNat 5).set 0 at_, s.out, s.inp, s.read, 0, s.code⟩, 0) := by
  obtain ⟨ip, hd, st, bk, mem, out, inp, rd, status, code⟩ := s
  have hlen : at_ ≤ (mem.length : Int) - 5 := hlen
  have hst : st.length < 48 := hst
  have hbk : bk.length < 48 := hbk
  obtain ⟨M, hM⟩ : ∃ M, M = (((mem.set at_.toNat 2).set (at_ + 1).toNat v).set (at_ + 2).toNat 5).set 0 at_ := ⟨_, rfl⟩
  have hl : M.length = mem.length := by rw [hM]; simp
  have g0 : getI M 0 = at_ := by
    rw [hM]; unfold getI; rw [List.getD_eq_getElem?_getD, show Int.toNat 0 = 0 from rfl, List.getElem?_set_self (by simp; omega)]; rfl
  have g1 : getI M at_ = 2 := by
    rw [hM]; unfold getI; rw [List.getD_eq_getElem?_getD, List.getElem?_set_ne (by omega), List.getElem?_set_ne (by omega), List.getElem?_set_ne (by omega), List.getElem?_set_self (by omega)]; rfl
  have g2 : getI M (at_ + 1) = v := by
    rw [hM]; unfold getI; rw [List.getD_eq_getElem?_getD, List.getElem?_set_ne (by omega), List.getElem?_set_ne (by omega), List.getElem?_set_self (by simp; omega)]; rfl
  have g3 : getI M (at_ + 2) = 5 := by
    rw [hM]; unfold getI; rw [List.getD_eq_getElem?_getD, List.getElem?_set_ne (by omega), List.getElem?_set_self (by simp; omega)]; rfl
  show mRun 3 ⟨0, hd, st, bk, _, out, inp, rd, 0, code⟩ = _
  simp only []
  rw [← hM, run_call (x := at_) ⟨by omega, by omega, g0⟩ h64 hbk, run_lit (x := v) ⟨by omega, by omega, g1⟩ ⟨by omega, by omega, g2⟩ hst (by simp; omega), run_exit ⟨by omega, by omega, by rw [show at_ + 1 + 1 = at_ + 2 by omega]; exact g3⟩ (by simp; omega) hbk]
  rfl
end Go.Proofs.YtkjpmkopnkkbmaaGreatDoor
