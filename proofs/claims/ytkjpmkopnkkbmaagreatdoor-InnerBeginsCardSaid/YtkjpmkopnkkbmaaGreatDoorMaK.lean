/- A machine stays small enough. -/
import Derived.Test.YtkjpmkopnkkbmaaGreatDoorMaE
set_option maxRecDepth 100000
namespace Go.Proofs.YtkjpmkopnkkbmaaGreatDoor
open Go.RowKit

theorem rows_g1 : ∀ n : Nat, n < 48 → (n = 2 ∨ n = 34 ∨ n = 35 ∨ n = 39 ∨ n = 43 → (opRow n).takes = 0 ∧ (opRow n).gives = 1) ∧ (n = 6 → (opRow n).takes = 1 ∧ (opRow n).gives = 2) ∧ (n = 9 → (opRow n).takes = 2 ∧ (opRow n).gives = 3) := by decide +kernel
theorem rows_g2 : ∀ n : Nat, n < 48 → (n = 33 ∨ n = 44 → (opRow n).backs = 0 ∧ (opRow n).givesBak = 1) ∧ (n = 36 → (opRow n).backs = 0 ∧ (opRow n).givesBak = 2) ∧ (n = 46 → (opRow n).backs = 0 ∧ (opRow n).givesBak = 4) := by decide +kernel
theorem mok_fault {s : StV} (h : MOk s) (c : Int) : MOk (mFault s c) := by
  unfold mFault
  cases hk : mCaught s with
  | none => exact ⟨h.st, h.bk, h.me, h.out, h.rd, h.inp⟩
  | some n =>
    have hn : n < 48 := by
      unfold mCaught at hk
      split at hk
      · next hh => have := Option.some.inj hk; omega
      · cases hk
    have := h.st
    have := h.bk
    refine ⟨?_, ?_, h.me, h.out, h.rd, h.inp⟩
    · show ((s.stack.take n ++ List.replicate (n - s.stack.length) 0) ++ [c]).length ≤ 48
      rw [List.length_append, List.length_append, List.length_take, List.length_replicate, List.length_singleton]; omega
    · show (s.back.take (s.handler - 3).toNat).length ≤ 48
      rw [List.length_take]; omega
theorem mok_popV {s : StV} (h : MOk s) : MOk (popV s) := ⟨by have := popV_len s; have := h.st; omega, h.bk, h.me, h.out, h.rd, h.inp⟩
theorem mok_popB {s : StV} (h : MOk s) : MOk (popB s) := ⟨h.st, by have := popB_len s; have := h.bk; omega, h.me, h.out, h.rd, h.inp⟩
theorem mok_push {s : StV} (h : MOk s) {l : List Int} (hl : s.stack.length + l.length ≤ 48) : MOk (pushV s l) := ⟨by rw [pushV_len]; exact hl, h.bk, h.me, h.out, h.rd, h.inp⟩
theorem mok_back {s : StV} (h : MOk s) {l : List Int} (hl : s.back.length + l.length ≤ 48) : MOk (backV s l) := ⟨h.st, by rw [backV_len]; exact hl, h.me, h.out, h.rd, h.inp⟩
theorem mok_nums {s s' : StV} (h : MOk s) (e1 : s'.stack = s.stack) (e2 : s'.back = s.back) (e3 : s'.mem = s.mem) (e4 : s'.out = s.out) (e5 : s'.inp = s.inp) (e6 : s'.read = s.read) : MOk s' :=
  ⟨by rw [e1]; exact h.st, by rw [e2]; exact h.bk, by rw [e3]; exact h.me, by rw [e4]; exact h.out, by rw [e5, e6]; exact h.rd, by rw [e5]; exact h.inp⟩
theorem mok_do {s s' : StV} {c arg was : Int} (h : MOk s) (hc : 0 ≤ c ∧ c < 48) (hz : mRoom s c = 0) (he : mDo s c arg was = .ok s') : MOk s' := by
  have nd := need_of hc hz
  obtain ⟨r1, r2, r3, r4⟩ := mRoom_no hz
  obtain ⟨a1, a2, a3⟩ := rows_g1 c.toNat (by omega)
  obtain ⟨a4, a5, a6⟩ := rows_g2 c.toNat (by omega)
  have e : ((c.toNat : Nat) : Int) = c := by omega
  rw [e] at a1 a2 a3 a4 a5 a6
  have k1 := h.st
  have k2 := h.bk
  have p1 := popV_len s
  have p2 := popV_len (popV s)
  have p3 := popV_len (popV (popV s))
  have q1 := popB_len s
  have q2 := popB_len (popB s)
  have q3 := popB_len (popB (popB s))
  unfold mDo at he
  by_cases h0 : c = 0
  · rw [if_pos h0] at he; cases he; exact mok_nums h rfl rfl rfl rfl rfl rfl
  rw [if_neg h0] at he
  by_cases h2 : c = 2
  · rw [if_pos h2] at he; cases he
    have := a1 (by omega)
    exact mok_push h (by show _ + 1 ≤ 48; omega)
  rw [if_neg h2] at he
  by_cases h4 : c = 4
  · rw [if_pos h4] at he
    split at he
    · cases he; exact mok_popV h
    · cases he; exact mok_nums (mok_popV h) rfl rfl rfl rfl rfl rfl
  rw [if_neg h4] at he
  by_cases h3 : c = 3
  · rw [if_pos h3] at he; cases he; exact mok_nums h rfl rfl rfl rfl rfl rfl
  rw [if_neg h3] at he
  by_cases h5 : c = 5
  · rw [if_pos h5] at he; cases he; exact mok_nums (mok_popB h) rfl rfl rfl rfl rfl rfl
  rw [if_neg h5] at he
  by_cases h6 : 6 ≤ c ∧ c ≤ 10
  · rw [if_pos h6] at he; cases he
    unfold mShuf
    split
    · next hx => have := a2 (by omega); have := nd.n1 (by omega); exact mok_push (mok_popV h) (by show _ + 2 ≤ 48; omega)
    split
    · next hx => have := nd.n2 (by omega); exact mok_push (mok_popV (mok_popV h)) (by show _ + 2 ≤ 48; omega)
    split
    · next hx => have := a3 (by omega); have := nd.n2 (by omega); exact mok_push (mok_popV (mok_popV h)) (by show _ + 3 ≤ 48; omega)
    split
    · next hx => have := nd.n3 (by omega); exact mok_push (mok_popV (mok_popV (mok_popV h))) (by show _ + 3 ≤ 48; omega)
    · exact mok_popV h
  rw [if_neg h6] at he
  by_cases h30 : 30 ≤ c ∧ c ≤ 32
  · rw [if_pos h30] at he
    unfold mMem at he
    split at he
    · cases he
    split at he
    · next hx => cases he; have := nd.n1 (by omega); exact mok_push (mok_popV h) (by show _ + 1 ≤ 48; omega)
    · cases he
      have g := mok_popV (mok_popV h)
      exact ⟨g.st, g.bk, by show (s.mem.set _ _).length ≤ _; rw [List.length_set]; exact h.me, g.out, g.rd, g.inp⟩
  rw [if_neg h30] at he
  by_cases h33 : (33 ≤ c ∧ c ≤ 36) ∨ c = 39 ∨ c = 40
  · rw [if_pos h33] at he; cases he
    unfold mBacks
    split
    · next hx => have := a4 (by omega); exact mok_back (mok_popV h) (by show s.back.length + 1 ≤ 48; omega)
    split
    · next hx => have := a1 (by omega); exact mok_push (mok_popB h) (by show s.stack.length + 1 ≤ 48; omega)
    split
    · next hx => have := a1 (by omega); exact mok_push h (by show s.stack.length + 1 ≤ 48; omega)
    split
    · next hx => have := a5 (by omega); exact mok_back (mok_popV (mok_popV h)) (by show s.back.length + 2 ≤ 48; omega)
    split
    · next hx => have := a1 (by omega); exact mok_push h (by show s.stack.length + 1 ≤ 48; omega)
    · exact ⟨h.st, by show (s.back.take _).length ≤ 48; rw [List.length_take]; omega, h.me, h.out, h.rd, h.inp⟩
  rw [if_neg h33] at he
  by_cases h37 : c = 37 ∨ c = 38
  · rw [if_pos h37] at he; cases he
    have hb := nd.b2 (by omega)
    have lp : ∀ (s1 : StV) (index limit n : Int) (ends : Bool), MOk s1 → s1.back.length + 2 ≤ 48 → MOk (mLoopR s1 index limit n arg ends) := fun s1 index limit n ends g hl => by
      unfold mLoopR
      split
      · exact g
      · exact mok_nums (mok_back (l := [limit, wr (index + n)]) g hl) rfl rfl rfl rfl rfl rfl
    unfold mLoop
    split
    · exact lp _ _ _ _ _ (mok_popV (mok_popB (mok_popB h))) (by show (popB (popB s)).back.length + 2 ≤ 48; omega)
    · exact lp _ _ _ _ _ (mok_popB (mok_popB h)) (by omega)
  rw [if_neg h37] at he
  by_cases h41 : c = 41 ∨ c = 42
  · rw [if_pos h41] at he
    unfold mSay at he
    split at he
    · cases he
    · next hx =>
      cases he
      have g := mok_popV h
      exact ⟨g.st, g.bk, g.me, by show (s.out ++ _).size ≤ 2000; rw [ByteArray.size_append]; omega, g.rd, g.inp⟩
  rw [if_neg h41] at he
  by_cases h43 : c = 43
  · rw [if_pos h43] at he; cases he
    have := a1 (by omega)
    unfold mKey
    split
    · exact mok_push h (by show s.stack.length + 1 ≤ 48; omega)
    · next hx =>
      have g := mok_push h (l := [sb s.inp s.read]) (by show s.stack.length + 1 ≤ 48; omega)
      have := h.rd
      exact ⟨g.st, g.bk, g.me, g.out, ⟨by show 0 ≤ s.read + 1; omega, by show s.read + 1 ≤ _; show s.read + 1 ≤ (s.inp.size : Int); omega⟩, g.inp⟩
  rw [if_neg h43] at he
  by_cases h44 : (44 ≤ c ∧ c ≤ 46) ∨ c = 1
  · rw [if_pos h44] at he
    unfold mFlow at he
    split at he
    · next hx =>
      split at he
      · cases he
      · cases he; have := a4 (by omega); exact mok_nums (mok_back (l := [s.ip]) (mok_popV h) (by show s.back.length + 1 ≤ 48; omega)) rfl rfl rfl rfl rfl rfl
    split at he
    · split at he
      · cases he; exact mok_popV h
      · cases he
    split at he
    · next hx =>
      cases he
      have := a6 (by omega)
      refine ⟨(mok_popV h).st, ?_, h.me, h.out, h.rd, h.inp⟩
      show ((s.back ++ _) ++ _).length ≤ 48
      rw [List.length_append, List.length_append]; show s.back.length + 3 + 1 ≤ 48; omega
    · unfold mEnd at he
      split at he
      · cases he
      split at he
      · cases he
      · next hx =>
        cases he
        refine ⟨?_, ?_, h.me, h.out, h.rd, h.inp⟩
        · show (s.stack ++ [0]).length ≤ 48
          rw [List.length_append]; show _ + 1 ≤ 48; omega
        · show (popB (popB (popB s))).back.length ≤ 48; omega
  rw [if_neg h44] at he
  by_cases h47 : c = 47
  · rw [if_pos h47] at he; cases he; exact h
  rw [if_neg h47] at he
  obtain ⟨o1, o2⟩ := nd.one (by omega)
  unfold mReck at he
  split at he
  · cases he; exact mok_push (mok_popV h) (by show _ + 1 ≤ 48; omega)
  split at he
  · cases he; exact mok_push (mok_popV (mok_popV h)) (by show _ + 1 ≤ 48; omega)
  · cases he
theorem mok_adv {s : StV} (h : MOk s) : MOk (mAdv s) := by
  unfold mAdv
  cases hst : mStep s with
  | bad c t =>
    show MOk (mFault (if t = true then popV s else s) c)
    apply mok_fault
    split
    · exact mok_popV h
    · exact h
  | ok s' =>
    show MOk s'
    unfold mStep at hst
    split at hst
    · cases hst
    split at hst
    · split at hst
      · cases hst
      · next hx =>
        cases hst
        exact mok_nums (mok_back (l := [s.ip + 1]) h (by show _ + 1 ≤ 48; omega)) rfl rfl rfl rfl rfl rfl
    split at hst
    · cases hst
    split at hst
    · cases hst
    split at hst
    · cases hst
    next hr _ hz =>
    have hz : mRoom s (getI s.mem s.ip) = 0 := Classical.byContradiction hz
    exact mok_do (mok_nums (s' := { s with ip := mNext s (getI s.mem s.ip) }) h rfl rfl rfl rfl rfl rfl) (Classical.byContradiction hr) hz hst
/-- Steps as long as there is fuel; what is left. -/
def runM (s : StV) (fuel : Int) : StV × Int := if 0 ≤ fuel then ((mRun fuel.toNat s).1, ((mRun fuel.toNat s).2 : Int)) else (s, fuel)
theorem runM_go {s : StV} {fuel : Int} (h0 : s.status = 0) (hf : 0 < fuel) : runM s fuel = runM (mAdv s) (fuel - 1) := by
  unfold runM
  rw [if_pos (by omega), if_pos (by omega)]
  have e : fuel.toNat = (fuel - 1).toNat + 1 := by omega
  rw [e]
  show ((mRun ((fuel - 1).toNat + 1) s).1, ((mRun ((fuel - 1).toNat + 1) s).2 : Int)) = _
  have : mRun ((fuel - 1).toNat + 1) s = mRun (fuel - 1).toNat (mAdv s) := by
    show (if s.status = 0 then _ else _) = _
    rw [if_pos h0]
  rw [this]
theorem runM_stop {s : StV} {fuel : Int} (h : s.status ≠ 0 ∨ fuel ≤ 0) : runM s fuel = (s, fuel) := by
  unfold runM
  by_cases hf : 0 ≤ fuel
  · rw [if_pos hf]
    rcases Nat.eq_zero_or_pos fuel.toNat with h0 | h0
    · rw [h0]; show (s, ((0 : Nat) : Int)) = _; congr 1; omega
    · obtain ⟨n, hn⟩ : ∃ n, fuel.toNat = n + 1 := ⟨fuel.toNat - 1, by omega⟩
      rw [hn]
      have : mRun (n + 1) s = (s, n + 1) := by
        show (if s.status = 0 then _ else _) = _
        rw [if_neg (by omega)]
      rw [this]; show (s, ((n + 1 : Nat) : Int)) = _; congr 1; omega
  · rw [if_neg hf]
theorem mok_mrun : ∀ (n : Nat) {s : StV}, MOk s → MOk (mRun n s).1
  | 0, _, h => h
  | n + 1, s, h => by
    show MOk (if s.status = 0 then mRun n (mAdv s) else (s, n + 1)).1
    split
    · exact mok_mrun n (mok_adv h)
    · exact h
theorem mok_run {s : StV} (h : MOk s) (fuel : Int) : MOk (runM s fuel).1 := by
  unfold runM
  split
  · exact mok_mrun _ h
  · exact h
end Go.Proofs.YtkjpmkopnkkbmaaGreatDoor
