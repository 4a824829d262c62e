/- Faults: what a step that is one comes to. No program in sight. -/
import Derived.Test.YtkjpmkopnkkbmaaGreatDoorMaU
set_option maxRecDepth 100000
namespace Go.Proofs.YtkjpmkopnkkbmaaGreatDoor
open Go.RowKit

/-- What a step may come to: a machine that runs on (or ends), a fault with a code of its own, or one that a word threw. -/
def RsOk (s : StV) (c : Int) : Rs → Prop
  | .ok s' => s'.status = s.status ∨ c = 0
  | .bad c' false => -57 ≤ c' ∧ c' < 0
  | .bad c' true => c = 45 ∧ c' = topV s ∧ c' ≠ 0 ∧ 1 ≤ s.stack.length
theorem rsOk_ok {s s' : StV} {c : Int} (h : s'.status = s.status) : RsOk s c (.ok s') := Or.inl h
theorem mMem_rs (s : StV) (c : Int) : RsOk s c (mMem s c) := by
  unfold mMem
  split
  · exact ⟨by decide, by decide⟩
  split
  · exact rsOk_ok rfl
  · exact rsOk_ok rfl
theorem mSay_rs (s : StV) (c : Int) : RsOk s c (mSay s c) := by
  unfold mSay
  split
  · exact ⟨by decide, by decide⟩
  · exact rsOk_ok rfl
theorem mEnd_rs (s : StV) (c : Int) : RsOk s c (mEnd s) := by
  unfold mEnd
  split
  · exact ⟨by decide, by decide⟩
  split
  · exact ⟨by decide, by decide⟩
  · exact rsOk_ok rfl
theorem mReck_rs (s : StV) (c : Int) : RsOk s c (mReck s c) := by
  unfold mReck
  split
  · exact rsOk_ok rfl
  split
  · exact rsOk_ok rfl
  · exact ⟨by decide, by decide⟩
theorem mFlow_rs {s : StV} {c : Int} (h1 : c = 45 → 1 ≤ s.stack.length) : RsOk s c (mFlow s c) := by
  unfold mFlow
  split
  · split
    · exact ⟨by decide, by decide⟩
    · exact rsOk_ok rfl
  split
  · next h45 =>
    split
    · exact rsOk_ok rfl
    · next hz => exact ⟨h45, rfl, hz, h1 h45⟩
  split
  · exact rsOk_ok rfl
  · exact mEnd_rs _ _
theorem mShuf_st (s : StV) (c : Int) : (mShuf s c).status = s.status := by
  unfold mShuf; repeat' split
  all_goals rfl
theorem mBacks_st (s : StV) (c : Int) : (mBacks s c).status = s.status := by
  unfold mBacks; repeat' split
  all_goals rfl
theorem mLoopR_st (s : StV) (i l n a : Int) (e : Bool) : (mLoopR s i l n a e).status = s.status := by
  unfold mLoopR; split <;> rfl
theorem mLoop_st (s : StV) (c a : Int) : (mLoop s c a).status = s.status := by
  unfold mLoop; split
  · rw [mLoopR_st]; rfl
  · rw [mLoopR_st]; rfl
theorem mKey_st (s : StV) : (mKey s).status = s.status := by unfold mKey; split <;> rfl
theorem mDo_rs {s : StV} {c arg was : Int} (h1 : c = 45 → 1 ≤ s.stack.length) : RsOk s c (mDo s c arg was) := by
  unfold mDo
  by_cases h0 : c = 0
  · rw [if_pos h0]; exact Or.inr h0
  rw [if_neg h0]
  by_cases h2 : c = 2
  · rw [if_pos h2]; exact rsOk_ok rfl
  rw [if_neg h2]
  by_cases h4 : c = 4
  · rw [if_pos h4]; split <;> exact rsOk_ok rfl
  rw [if_neg h4]
  by_cases h3 : c = 3
  · rw [if_pos h3]; exact rsOk_ok rfl
  rw [if_neg h3]
  by_cases h5 : c = 5
  · rw [if_pos h5]; exact rsOk_ok rfl
  rw [if_neg h5]
  by_cases h6 : 6 ≤ c ∧ c ≤ 10
  · rw [if_pos h6]; exact rsOk_ok (mShuf_st _ _)
  rw [if_neg h6]
  by_cases h7 : 30 ≤ c ∧ c ≤ 32
  · rw [if_pos h7]; exact mMem_rs _ _
  rw [if_neg h7]
  by_cases h8 : (33 ≤ c ∧ c ≤ 36) ∨ c = 39 ∨ c = 40
  · rw [if_pos h8]; exact rsOk_ok (mBacks_st _ _)
  rw [if_neg h8]
  by_cases h9 : c = 37 ∨ c = 38
  · rw [if_pos h9]; exact rsOk_ok (mLoop_st _ _ _)
  rw [if_neg h9]
  by_cases h10 : c = 41 ∨ c = 42
  · rw [if_pos h10]; exact mSay_rs _ _
  rw [if_neg h10]
  by_cases h11 : c = 43
  · rw [if_pos h11]; exact rsOk_ok (mKey_st _)
  rw [if_neg h11]
  by_cases h12 : (44 ≤ c ∧ c ≤ 46) ∨ c = 1
  · rw [if_pos h12]; exact mFlow_rs h1
  rw [if_neg h12]
  by_cases h13 : c = 47
  · rw [if_pos h13]; exact rsOk_ok rfl
  rw [if_neg h13]
  exact mReck_rs _ _
theorem mStep_rs (s : StV) : RsOk s (getI s.mem s.ip) (mStep s) := by
  unfold mStep
  split
  · exact ⟨by decide, by decide⟩
  split
  · split
    · exact ⟨by decide, by decide⟩
    · exact rsOk_ok rfl
  split
  · exact ⟨by decide, by decide⟩
  split
  · exact ⟨by decide, by decide⟩
  split
  · next hz =>
    have := mRoom_neg s (getI s.mem s.ip)
    show -57 ≤ mRoom s _ ∧ mRoom s _ < 0
    omega
  next hr _ hz =>
  have hr : 0 ≤ getI s.mem s.ip ∧ getI s.mem s.ip < 48 := Classical.byContradiction hr
  have hz : mRoom s (getI s.mem s.ip) = 0 := Classical.byContradiction hz
  exact mDo_rs (s := { s with ip := mNext s (getI s.mem s.ip) }) (fun h => (need_of hr hz).n1 (by omega))
/-- A machine that has no Handler: its fault ends it, and nothing else is changed. -/
theorem mAdv_rs {s : StV} (hh : s.handler < 3) (hs : s.status = 0) : ((mAdv s).status = 0 ∨ getI s.mem s.ip = 0 ∧ (mAdv s).status ≠ 2) ∨
    (∃ c, mAdv s = { s with status := 2, code := c } ∧ -57 ≤ c ∧ c < 0 ∧ mStep s = .bad c false) ∨ (getI s.mem s.ip = 45 ∧ 1 ≤ s.stack.length ∧ mAdv s = { popV s with status := 2, code := topV s } ∧ topV s ≠ 0) := by
  have h := mStep_rs s
  unfold mAdv
  cases hst : mStep s with
  | ok s' =>
    rw [hst] at h
    show (s'.status = 0 ∨ _) ∨ _
    by_cases h0 : s'.status = 0
    · exact Or.inl (Or.inl h0)
    · rcases h with h | h
      · exact absurd (h.trans hs) h0
      · refine Or.inl (Or.inr ⟨h, ?_⟩)
        show s'.status ≠ 2
        have hstep := hst
        unfold mStep at hstep
        rw [h] at hstep
        split at hstep
        · cases hstep
        split at hstep
        · split at hstep
          · cases hstep
          · cases hstep; exact fun he => h0 (hs)
        split at hstep
        · cases hstep
        split at hstep
        · cases hstep
        split at hstep
        · cases hstep
        unfold mDo at hstep
        rw [if_pos rfl] at hstep
        cases hstep
        show (1 : Int) ≠ 2
        decide
  | bad c th =>
    rw [hst] at h
    refine Or.inr ?_
    cases th with
    | false =>
      obtain ⟨h1, h2⟩ := h
      refine Or.inl ⟨c, ?_, h1, h2, rfl⟩
      show mFault s c = _
      unfold mFault
      have : mCaught s = none := by unfold mCaught; rw [if_neg (by omega)]
      rw [this]
    | true =>
      obtain ⟨h1, h2, h3, h4⟩ := h
      refine Or.inr ⟨h1, h4, ?_, by rw [← h2]; exact h3⟩
      show mFault (popV s) c = _
      unfold mFault
      have : mCaught (popV s) = none := by unfold mCaught; rw [if_neg (by show ¬ (3 ≤ s.handler ∧ _); omega)]
      rw [this, h2]
end Go.Proofs.YtkjpmkopnkkbmaaGreatDoor
