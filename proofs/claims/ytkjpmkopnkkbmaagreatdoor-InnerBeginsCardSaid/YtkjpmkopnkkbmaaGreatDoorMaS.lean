/- A machine's steps, one operation at a time: what a run of one more step is. No program in sight. -/
import Derived.Test.YtkjpmkopnkkbmaaGreatDoorMaK
set_option maxRecDepth 100000
namespace Go.Proofs.YtkjpmkopnkkbmaaGreatDoor
open Go.RowKit

theorem mRun_go {s s' : StV} (n : Nat) (hs : s.status = 0) (h : mAdv s = s') : mRun (n + 1) s = mRun n s' := by
  show (if s.status = 0 then mRun n (mAdv s) else (s, n + 1)) = _
  rw [if_pos hs, h]
theorem mRun_off {s : StV} (n : Nat) (hs : s.status ≠ 0) : mRun n s = (s, n) := by
  cases n with
  | zero => rfl
  | succ n =>
    show (if s.status = 0 then mRun n (mAdv s) else (s, n + 1)) = _
    rw [if_neg hs]
/-- A step that does an operation. -/
theorem mStep_op {s : StV} (c t b g gb : Int) (hrow : (opRow c).takes = t ∧ (opRow c).backs = b ∧ (opRow c).gives = g ∧ (opRow c).givesBak = gb) (hr : 0 ≤ c ∧ c < 48) (h0 : 0 ≤ s.ip) (h1 : s.ip < s.mem.length) (hc : getI s.mem s.ip = c)
    (ha : opArg c = true → s.ip + 1 < s.mem.length) (hz : t ≤ s.stack.length ∧ b ≤ s.back.length ∧ (s.stack.length : Int) - t + g ≤ 48 ∧ (s.back.length : Int) - b + gb ≤ 48) : mStep s = mDo { s with ip := mNext s c } c (mArg s c) s.ip := by
  obtain ⟨r1, r2, r3, r4⟩ := hrow
  have hz0 : mRoom s c = 0 := by
    unfold mRoom
    rw [r1, r2, r3, r4, if_neg (by omega), if_neg (by omega), if_neg (by omega), if_neg (by omega)]
  unfold mStep
  rw [hc, if_neg (by omega), if_neg (by omega), if_neg (fun h => h hr), if_neg (fun h => by have := ha h.1; omega), if_neg (fun h => h hz0)]
theorem mAdv_op {s s' : StV} (c t b g gb : Int) (hrow : (opRow c).takes = t ∧ (opRow c).backs = b ∧ (opRow c).gives = g ∧ (opRow c).givesBak = gb) (hr : 0 ≤ c ∧ c < 48) (h0 : 0 ≤ s.ip) (h1 : s.ip < s.mem.length) (hc : getI s.mem s.ip = c)
    (ha : opArg c = true → s.ip + 1 < s.mem.length) (hz : t ≤ s.stack.length ∧ b ≤ s.back.length ∧ (s.stack.length : Int) - t + g ≤ 48 ∧ (s.back.length : Int) - b + gb ≤ 48) (hd : mDo { s with ip := mNext s c } c (mArg s c) s.ip = .ok s') : mAdv s = s' := by
  unfold mAdv
  rw [mStep_op c t b g gb hrow hr h0 h1 hc ha hz, hd]
theorem top1 (l : List Int) (a : Int) : getI (l ++ [a]) (((l ++ [a]).length : Int) - 1) = a := by
  unfold getI; rw [List.length_append, List.length_singleton, show ((l.length + 1 : Nat) : Int) - 1 = (l.length : Int) by omega, Int.toNat_natCast]; simp
theorem cut1 (l : List Int) (a : Int) : (l ++ [a]).take ((l ++ [a]).length - 1) = l := by
  rw [List.length_append, List.length_singleton, Nat.add_sub_cancel, List.take_left]
theorem top2 (l : List Int) (a b : Int) : getI (l ++ [a, b]) (((l ++ [a, b]).length : Int) - 1) = b := by
  have := top1 (l ++ [a]) b; rwa [List.append_assoc] at this
theorem cut2 (l : List Int) (a b : Int) : (l ++ [a, b]).take ((l ++ [a, b]).length - 1) = l ++ [a] := by
  have := cut1 (l ++ [a]) b; rwa [List.append_assoc] at this
theorem top3 (l : List Int) (a b c : Int) : getI (l ++ [a, b, c]) (((l ++ [a, b, c]).length : Int) - 1) = c := by
  have := top1 (l ++ [a, b]) c; rwa [List.append_assoc] at this
theorem cut3 (l : List Int) (a b c : Int) : (l ++ [a, b, c]).take ((l ++ [a, b, c]).length - 1) = l ++ [a, b] := by
  have := cut1 (l ++ [a, b]) c; rwa [List.append_assoc] at this
theorem top1n (l : List Int) (a : Int) : getI (l ++ [a]) (l.length : Int) = a := by unfold getI; simp
theorem top2n (l : List Int) (a b : Int) : getI (l ++ [a, b]) ((l.length : Int) + 2 - 1) = b := by
  unfold getI; rw [show ((l.length : Int) + 2 - 1).toNat = l.length + 1 by omega]; simp []
theorem top3n (l : List Int) (a b c : Int) : getI (l ++ [a, b, c]) ((l.length : Int) + 3 - 1) = c := by
  unfold getI; rw [show ((l.length : Int) + 3 - 1).toNat = l.length + 2 by omega]; simp []
theorem top2m (l : List Int) (a b : Int) : getI (l ++ [a, b]) ((l.length : Int) + 1) = b := by
  have := top2n l a b; rwa [show (l.length : Int) + 2 - 1 = l.length + 1 by omega] at this
theorem top3m (l : List Int) (a b c : Int) : getI (l ++ [a, b, c]) ((l.length : Int) + 2) = c := by
  have := top3n l a b c; rwa [show (l.length : Int) + 3 - 1 = l.length + 2 by omega] at this
theorem tk2 (l : List Int) (a b : Int) : (l ++ [a, b]).take (l.length + 1) = l ++ [a] := by rw [List.take_append, List.take_of_length_le (by omega)]; simp
theorem tk3 (l : List Int) (a b c : Int) : (l ++ [a, b, c]).take (l.length + 2) = l ++ [a, b] := by rw [List.take_append, List.take_of_length_le (by omega)]; simp
/-- What stands in a cell. -/
def OpAt (mem : List Int) (ip c : Int) : Prop := 0 ≤ ip ∧ ip < mem.length ∧ getI mem ip = c
/-- Cells that stand one behind the other. -/
def HasC (mem : List Int) : Int → List Int → Prop
  | _, [] => True
  | ip, x :: r => OpAt mem ip x ∧ HasC mem (ip + 1) r
section
variable {n : Nat} {ip hd rd code x a b d : Int} {st bk mem : List Int} {out inp : ByteArray}
theorem run_lit (h : OpAt mem ip 2) (hx : OpAt mem (ip + 1) x) (hl : st.length < 48) (hb : bk.length ≤ 48) :
    mRun (n + 1) ⟨ip, hd, st, bk, mem, out, inp, rd, 0, code⟩ = mRun n ⟨ip + 1 + 1, hd, st ++ [x], bk, mem, out, inp, rd, 0, code⟩ := by
  refine mRun_go n rfl (mAdv_op 2 0 0 1 0 ⟨rfl, rfl, rfl, rfl⟩ (by decide) h.1 h.2.1 h.2.2 (fun _ => hx.2.1) ?_ ?_)
  · refine ⟨?_, ?_, ?_, ?_⟩ <;> simp <;> omega
  · have hx := hx.2.2
    have e2 : ip + 2 = ip + 1 + 1 := by omega
    simp [mDo, mNext, mArg, opArg, pushV, hx, e2]
theorem run_branch (h : OpAt mem ip 3) (hx : OpAt mem (ip + 1) x) (hl : st.length ≤ 48) (hb : bk.length ≤ 48) :
    mRun (n + 1) ⟨ip, hd, st, bk, mem, out, inp, rd, 0, code⟩ = mRun n ⟨x, hd, st, bk, mem, out, inp, rd, 0, code⟩ := by
  refine mRun_go n rfl (mAdv_op 3 0 0 0 0 ⟨rfl, rfl, rfl, rfl⟩ (by decide) h.1 h.2.1 h.2.2 (fun _ => hx.2.1) ?_ ?_)
  · refine ⟨?_, ?_, ?_, ?_⟩ <;> simp <;> omega
  · have hx := hx.2.2
    have e2 : ip + 2 = ip + 1 + 1 := by omega
    simp [mDo, mArg, opArg, hx]
theorem run_halt (h : OpAt mem ip 0) (hl : st.length ≤ 48) (hb : bk.length ≤ 48) :
    mRun (n + 1) ⟨ip, hd, st, bk, mem, out, inp, rd, 0, code⟩ = (⟨ip, hd, st, bk, mem, out, inp, rd, 1, code⟩, n) := by
  rw [mRun_go n rfl (mAdv_op (s' := ⟨ip, hd, st, bk, mem, out, inp, rd, 1, code⟩) 0 0 0 0 0 ⟨rfl, rfl, rfl, rfl⟩ (by decide) h.1 h.2.1 h.2.2 (fun h => by cases h) ?_ ?_)]
  · exact mRun_off n (show (1 : Int) ≠ 0 by decide)
  · refine ⟨?_, ?_, ?_, ?_⟩ <;> simp <;> omega
  · simp [mDo]
/-- A word that is called. -/
theorem run_call (h : OpAt mem ip x) (h64 : 64 ≤ x) (hb : bk.length < 48) :
    mRun (n + 1) ⟨ip, hd, st, bk, mem, out, inp, rd, 0, code⟩ = mRun n ⟨x, hd, st, bk ++ [ip + 1], mem, out, inp, rd, 0, code⟩ := by
  obtain ⟨h0, h1, hc⟩ := h
  refine mRun_go n rfl ?_
  unfold mAdv mStep
  simp only []
  rw [if_neg (by omega), hc, if_pos h64, if_neg (by omega)]
  rfl
theorem run_exit (h : OpAt mem ip 5) (hl : st.length ≤ 48) (hb : bk.length < 48) :
    mRun (n + 1) ⟨ip, hd, st, bk ++ [a], mem, out, inp, rd, 0, code⟩ = mRun n ⟨a, hd, st, bk, mem, out, inp, rd, 0, code⟩ := by
  refine mRun_go n rfl (mAdv_op 5 0 1 0 0 ⟨rfl, rfl, rfl, rfl⟩ (by decide) h.1 h.2.1 h.2.2 (fun h => by cases h) ?_ ?_)
  · refine ⟨?_, ?_, ?_, ?_⟩ <;> simp <;> omega
  · simp [mDo, mNext, opArg, popB, topB, top1n]
theorem run_dup (h : OpAt mem ip 6) (hl : st.length < 47) (hb : bk.length ≤ 48) :
    mRun (n + 1) ⟨ip, hd, st ++ [a], bk, mem, out, inp, rd, 0, code⟩ = mRun n ⟨ip + 1, hd, st ++ [a, a], bk, mem, out, inp, rd, 0, code⟩ := by
  refine mRun_go n rfl (mAdv_op 6 1 0 2 0 ⟨rfl, rfl, rfl, rfl⟩ (by decide) h.1 h.2.1 h.2.2 (fun h => by cases h) ?_ ?_)
  · refine ⟨?_, ?_, ?_, ?_⟩ <;> simp <;> omega
  · simp [mDo, mNext, opArg, mShuf, popV, topV, pushV, top1n]
theorem run_drop (h : OpAt mem ip 7) (hl : st.length < 48) (hb : bk.length ≤ 48) :
    mRun (n + 1) ⟨ip, hd, st ++ [a], bk, mem, out, inp, rd, 0, code⟩ = mRun n ⟨ip + 1, hd, st, bk, mem, out, inp, rd, 0, code⟩ := by
  refine mRun_go n rfl (mAdv_op 7 1 0 0 0 ⟨rfl, rfl, rfl, rfl⟩ (by decide) h.1 h.2.1 h.2.2 (fun h => by cases h) ?_ ?_)
  · refine ⟨?_, ?_, ?_, ?_⟩ <;> simp <;> omega
  · simp [mDo, mNext, opArg, mShuf, popV]
theorem run_swap (h : OpAt mem ip 8) (hl : st.length < 47) (hb : bk.length ≤ 48) :
    mRun (n + 1) ⟨ip, hd, st ++ [a, b], bk, mem, out, inp, rd, 0, code⟩ = mRun n ⟨ip + 1, hd, st ++ [b, a], bk, mem, out, inp, rd, 0, code⟩ := by
  refine mRun_go n rfl (mAdv_op 8 2 0 2 0 ⟨rfl, rfl, rfl, rfl⟩ (by decide) h.1 h.2.1 h.2.2 (fun h => by cases h) ?_ ?_)
  · refine ⟨?_, ?_, ?_, ?_⟩ <;> simp <;> omega
  · simp [mDo, mNext, opArg, mShuf, popV, topV, pushV, top1n, top2n, tk2]
theorem run_copy (h : OpAt mem ip 9) (hl : st.length < 46) (hb : bk.length ≤ 48) :
    mRun (n + 1) ⟨ip, hd, st ++ [a, b], bk, mem, out, inp, rd, 0, code⟩ = mRun n ⟨ip + 1, hd, st ++ [a, b, a], bk, mem, out, inp, rd, 0, code⟩ := by
  refine mRun_go n rfl (mAdv_op 9 2 0 3 0 ⟨rfl, rfl, rfl, rfl⟩ (by decide) h.1 h.2.1 h.2.2 (fun h => by cases h) ?_ ?_)
  · refine ⟨?_, ?_, ?_, ?_⟩ <;> simp <;> omega
  · simp [mDo, mNext, opArg, mShuf, popV, topV, pushV, top1n, top2n, tk2]
theorem run_rot (h : OpAt mem ip 10) (hl : st.length < 46) (hb : bk.length ≤ 48) :
    mRun (n + 1) ⟨ip, hd, st ++ [a, b, d], bk, mem, out, inp, rd, 0, code⟩ = mRun n ⟨ip + 1, hd, st ++ [b, d, a], bk, mem, out, inp, rd, 0, code⟩ := by
  refine mRun_go n rfl (mAdv_op 10 3 0 3 0 ⟨rfl, rfl, rfl, rfl⟩ (by decide) h.1 h.2.1 h.2.2 (fun h => by cases h) ?_ ?_)
  · refine ⟨?_, ?_, ?_, ?_⟩ <;> simp <;> omega
  · simp [mDo, mNext, opArg, mShuf, popV, topV, pushV, top1n, top2n, top3n, tk2, tk3]
theorem run_fetch (h : OpAt mem ip 30) (hx : 0 ≤ a ∧ a < mem.length) (hl : st.length < 48) (hb : bk.length ≤ 48) :
    mRun (n + 1) ⟨ip, hd, st ++ [a], bk, mem, out, inp, rd, 0, code⟩ = mRun n ⟨ip + 1, hd, st ++ [getI mem a], bk, mem, out, inp, rd, 0, code⟩ := by
  refine mRun_go n rfl (mAdv_op 30 1 0 1 0 ⟨rfl, rfl, rfl, rfl⟩ (by decide) h.1 h.2.1 h.2.2 (fun h => by cases h) ?_ ?_)
  · refine ⟨?_, ?_, ?_, ?_⟩ <;> simp <;> omega
  · simp [mDo, mNext, opArg, mMem, popV, topV, pushV, top1n]; first | exact hx | (rw [if_neg (by omega)]; done)
theorem run_store (h : OpAt mem ip 31) (hx : 0 ≤ a ∧ a < mem.length) (hl : st.length < 47) (hb : bk.length ≤ 48) :
    mRun (n + 1) ⟨ip, hd, st ++ [b, a], bk, mem, out, inp, rd, 0, code⟩ = mRun n ⟨ip + 1, hd, st, bk, mem.set a.toNat (wr (0 + b)), out, inp, rd, 0, code⟩ := by
  refine mRun_go n rfl (mAdv_op 31 2 0 0 0 ⟨rfl, rfl, rfl, rfl⟩ (by decide) h.1 h.2.1 h.2.2 (fun h => by cases h) ?_ ?_)
  · refine ⟨?_, ?_, ?_, ?_⟩ <;> simp <;> omega
  · simp [mDo, mNext, opArg, mMem, popV, topV, top1n, top2n, tk2]; omega
theorem run_addto (h : OpAt mem ip 32) (hx : 0 ≤ a ∧ a < mem.length) (hl : st.length < 47) (hb : bk.length ≤ 48) :
    mRun (n + 1) ⟨ip, hd, st ++ [b, a], bk, mem, out, inp, rd, 0, code⟩ = mRun n ⟨ip + 1, hd, st, bk, mem.set a.toNat (wr (getI mem a + b)), out, inp, rd, 0, code⟩ := by
  refine mRun_go n rfl (mAdv_op 32 2 0 0 0 ⟨rfl, rfl, rfl, rfl⟩ (by decide) h.1 h.2.1 h.2.2 (fun h => by cases h) ?_ ?_)
  · refine ⟨?_, ?_, ?_, ?_⟩ <;> simp <;> omega
  · simp [mDo, mNext, opArg, mMem, popV, topV, top1n, top2n, tk2]; omega
theorem run_toBack (h : OpAt mem ip 33) (hl : st.length < 48) (hb : bk.length < 48) :
    mRun (n + 1) ⟨ip, hd, st ++ [a], bk, mem, out, inp, rd, 0, code⟩ = mRun n ⟨ip + 1, hd, st, bk ++ [a], mem, out, inp, rd, 0, code⟩ := by
  refine mRun_go n rfl (mAdv_op 33 1 0 0 1 ⟨rfl, rfl, rfl, rfl⟩ (by decide) h.1 h.2.1 h.2.2 (fun h => by cases h) ?_ ?_)
  · refine ⟨?_, ?_, ?_, ?_⟩ <;> simp <;> omega
  · simp [mDo, mNext, opArg, mBacks, popV, topV, backV, top1n]
theorem run_fromBack (h : OpAt mem ip 34) (hl : st.length < 48) (hb : bk.length < 48) :
    mRun (n + 1) ⟨ip, hd, st, bk ++ [a], mem, out, inp, rd, 0, code⟩ = mRun n ⟨ip + 1, hd, st ++ [a], bk, mem, out, inp, rd, 0, code⟩ := by
  refine mRun_go n rfl (mAdv_op 34 0 1 1 0 ⟨rfl, rfl, rfl, rfl⟩ (by decide) h.1 h.2.1 h.2.2 (fun h => by cases h) ?_ ?_)
  · refine ⟨?_, ?_, ?_, ?_⟩ <;> simp <;> omega
  · simp [mDo, mNext, opArg, mBacks, popB, topB, pushV, top1n]
theorem run_atBack (h : OpAt mem ip 35) (hl : st.length < 48) (hb : bk.length < 48) :
    mRun (n + 1) ⟨ip, hd, st, bk ++ [a], mem, out, inp, rd, 0, code⟩ = mRun n ⟨ip + 1, hd, st ++ [a], bk ++ [a], mem, out, inp, rd, 0, code⟩ := by
  refine mRun_go n rfl (mAdv_op 35 0 1 1 1 ⟨rfl, rfl, rfl, rfl⟩ (by decide) h.1 h.2.1 h.2.2 (fun h => by cases h) ?_ ?_)
  · refine ⟨?_, ?_, ?_, ?_⟩ <;> simp <;> omega
  · simp [mDo, mNext, opArg, mBacks, topB, pushV, top1n]
theorem run_begin (h : OpAt mem ip 36) (hl : st.length < 47) (hb : bk.length < 47) :
    mRun (n + 1) ⟨ip, hd, st ++ [a, b], bk, mem, out, inp, rd, 0, code⟩ = mRun n ⟨ip + 1, hd, st, bk ++ [a, b], mem, out, inp, rd, 0, code⟩ := by
  refine mRun_go n rfl (mAdv_op 36 2 0 0 2 ⟨rfl, rfl, rfl, rfl⟩ (by decide) h.1 h.2.1 h.2.2 (fun h => by cases h) ?_ ?_)
  · refine ⟨?_, ?_, ?_, ?_⟩ <;> simp <;> omega
  · simp [mDo, mNext, opArg, mBacks, popV, topV, backV, top1n, top2n, tk2]
theorem run_loopEnd (h : OpAt mem ip 37) (hx : OpAt mem (ip + 1) x) (he : wr (b + 1) = a) (hl : st.length ≤ 48) (hb : bk.length < 47) :
    mRun (n + 1) ⟨ip, hd, st, bk ++ [a, b], mem, out, inp, rd, 0, code⟩ = mRun n ⟨ip + 1 + 1, hd, st, bk, mem, out, inp, rd, 0, code⟩ := by
  refine mRun_go n rfl (mAdv_op 37 0 2 0 2 ⟨rfl, rfl, rfl, rfl⟩ (by decide) h.1 h.2.1 h.2.2 (fun _ => hx.2.1) ?_ ?_)
  · refine ⟨?_, ?_, ?_, ?_⟩ <;> simp <;> omega
  · have hx := hx.2.2
    have e2 : ip + 2 = ip + 1 + 1 := by omega
    simp [mDo, mNext, opArg, mLoop, mLoopR, popB, topB, top1n, top2n, tk2, e2, he]
theorem run_loopGo (h : OpAt mem ip 37) (hx : OpAt mem (ip + 1) x) (he : wr (b + 1) ≠ a) (hl : st.length ≤ 48) (hb : bk.length < 47) :
    mRun (n + 1) ⟨ip, hd, st, bk ++ [a, b], mem, out, inp, rd, 0, code⟩ = mRun n ⟨x, hd, st, bk ++ [a, wr (b + 1)], mem, out, inp, rd, 0, code⟩ := by
  refine mRun_go n rfl (mAdv_op 37 0 2 0 2 ⟨rfl, rfl, rfl, rfl⟩ (by decide) h.1 h.2.1 h.2.2 (fun _ => hx.2.1) ?_ ?_)
  · refine ⟨?_, ?_, ?_, ?_⟩ <;> simp <;> omega
  · have hx := hx.2.2
    have e2 : ip + 2 = ip + 1 + 1 := by omega
    simp [mDo, mNext, mArg, opArg, mLoop, mLoopR, backV, popB, topB, top1n, top2n, tk2, hx, e2, he]
theorem run_plusEnd (h : OpAt mem ip 38) (hx : OpAt mem (ip + 1) x) (he : Cn.crosses (wr (b - a)) d = true) (hl : st.length < 48) (hb : bk.length < 47) :
    mRun (n + 1) ⟨ip, hd, st ++ [d], bk ++ [a, b], mem, out, inp, rd, 0, code⟩ = mRun n ⟨ip + 1 + 1, hd, st, bk, mem, out, inp, rd, 0, code⟩ := by
  refine mRun_go n rfl (mAdv_op 38 1 2 0 2 ⟨rfl, rfl, rfl, rfl⟩ (by decide) h.1 h.2.1 h.2.2 (fun _ => hx.2.1) ?_ ?_)
  · refine ⟨?_, ?_, ?_, ?_⟩ <;> simp <;> omega
  · have hx := hx.2.2
    have e2 : ip + 2 = ip + 1 + 1 := by omega
    simp [mDo, mNext, opArg, mLoop, mLoopR, popV, topV, popB, topB, top1n, top2n, tk2, e2, he]
theorem run_plusGo (h : OpAt mem ip 38) (hx : OpAt mem (ip + 1) x) (he : Cn.crosses (wr (b - a)) d = false) (hl : st.length < 48) (hb : bk.length < 47) :
    mRun (n + 1) ⟨ip, hd, st ++ [d], bk ++ [a, b], mem, out, inp, rd, 0, code⟩ = mRun n ⟨x, hd, st, bk ++ [a, wr (b + d)], mem, out, inp, rd, 0, code⟩ := by
  refine mRun_go n rfl (mAdv_op 38 1 2 0 2 ⟨rfl, rfl, rfl, rfl⟩ (by decide) h.1 h.2.1 h.2.2 (fun _ => hx.2.1) ?_ ?_)
  · refine ⟨?_, ?_, ?_, ?_⟩ <;> simp <;> omega
  · have hx := hx.2.2
    have e2 : ip + 2 = ip + 1 + 1 := by omega
    simp [mDo, mNext, mArg, opArg, mLoop, mLoopR, backV, popV, topV, popB, topB, top1n, top2n, tk2, hx, e2, he]
theorem run_emit (h : OpAt mem ip 41) (ho : out.size < 2000) (hl : st.length < 48) (hb : bk.length ≤ 48) :
    mRun (n + 1) ⟨ip, hd, st ++ [a], bk, mem, out, inp, rd, 0, code⟩ = mRun n ⟨ip + 1, hd, st, bk, mem, out ++ bs [byteC a], inp, rd, 0, code⟩ := by
  refine mRun_go n rfl (mAdv_op 41 1 0 0 0 ⟨rfl, rfl, rfl, rfl⟩ (by decide) h.1 h.2.1 h.2.2 (fun h => by cases h) ?_ ?_)
  · refine ⟨?_, ?_, ?_, ?_⟩ <;> simp <;> omega
  · have hsz : (bs [byteC a]).size = 1 := rfl
    simp [mDo, mNext, opArg, mSay, mText, popV, topV, top1n, hsz]; omega
theorem run_keyNo (h : OpAt mem ip 43) (hk : (inp.size : Int) ≤ rd) (hl : st.length < 48) (hb : bk.length ≤ 48) :
    mRun (n + 1) ⟨ip, hd, st, bk, mem, out, inp, rd, 0, code⟩ = mRun n ⟨ip + 1, hd, st ++ [-1], bk, mem, out, inp, rd, 0, code⟩ := by
  refine mRun_go n rfl (mAdv_op 43 0 0 1 0 ⟨rfl, rfl, rfl, rfl⟩ (by decide) h.1 h.2.1 h.2.2 (fun h => by cases h) ?_ ?_)
  · refine ⟨?_, ?_, ?_, ?_⟩ <;> simp <;> omega
  · simp [mDo, mNext, opArg, mKey, pushV, hk]
theorem run_key (h : OpAt mem ip 43) (hk : ¬ (inp.size : Int) ≤ rd) (hl : st.length < 48) (hb : bk.length ≤ 48) :
    mRun (n + 1) ⟨ip, hd, st, bk, mem, out, inp, rd, 0, code⟩ = mRun n ⟨ip + 1, hd, st ++ [sb inp rd], bk, mem, out, inp, rd + 1, 0, code⟩ := by
  refine mRun_go n rfl (mAdv_op 43 0 0 1 0 ⟨rfl, rfl, rfl, rfl⟩ (by decide) h.1 h.2.1 h.2.2 (fun h => by cases h) ?_ ?_)
  · refine ⟨?_, ?_, ?_, ?_⟩ <;> simp <;> omega
  · simp [mDo, mNext, opArg, mKey, pushV, hk]
theorem run_nop (h : OpAt mem ip 47) (hl : st.length ≤ 48) (hb : bk.length ≤ 48) :
    mRun (n + 1) ⟨ip, hd, st, bk, mem, out, inp, rd, 0, code⟩ = mRun n ⟨ip + 1, hd, st, bk, mem, out, inp, rd, 0, code⟩ := by
  refine mRun_go n rfl (mAdv_op 47 0 0 0 0 ⟨rfl, rfl, rfl, rfl⟩ (by decide) h.1 h.2.1 h.2.2 (fun h => by cases h) ?_ ?_)
  · refine ⟨?_, ?_, ?_, ?_⟩ <;> simp <;> omega
  · simp [mDo, mNext, opArg]
theorem run_add (h : OpAt mem ip 11) (hl : st.length < 47) (hb : bk.length ≤ 48) :
    mRun (n + 1) ⟨ip, hd, st ++ [a, b], bk, mem, out, inp, rd, 0, code⟩ = mRun n ⟨ip + 1, hd, st ++ [wrap64 (a + b)], bk, mem, out, inp, rd, 0, code⟩ := by
  refine mRun_go n rfl (mAdv_op 11 2 0 1 0 ⟨rfl, rfl, rfl, rfl⟩ (by decide) h.1 h.2.1 h.2.2 (fun h => by cases h) ?_ ?_)
  · refine ⟨?_, ?_, ?_, ?_⟩ <;> simp <;> omega
  · simp [mDo, mNext, opArg, mReck, popV, topV, pushV, top1n, top2n, tk2, Cn.isOne, Cn.isTwo, Cn.two]
theorem run_mul (h : OpAt mem ip 13) (hl : st.length < 47) (hb : bk.length ≤ 48) :
    mRun (n + 1) ⟨ip, hd, st ++ [a, b], bk, mem, out, inp, rd, 0, code⟩ = mRun n ⟨ip + 1, hd, st ++ [wrap64 (a * b)], bk, mem, out, inp, rd, 0, code⟩ := by
  refine mRun_go n rfl (mAdv_op 13 2 0 1 0 ⟨rfl, rfl, rfl, rfl⟩ (by decide) h.1 h.2.1 h.2.2 (fun h => by cases h) ?_ ?_)
  · refine ⟨?_, ?_, ?_, ?_⟩ <;> simp <;> omega
  · simp [mDo, mNext, opArg, mReck, popV, topV, pushV, top1n, top2n, tk2, Cn.isOne, Cn.isTwo, Cn.two]
theorem run_negate (h : OpAt mem ip 16) (hl : st.length < 48) (hb : bk.length ≤ 48) :
    mRun (n + 1) ⟨ip, hd, st ++ [a], bk, mem, out, inp, rd, 0, code⟩ = mRun n ⟨ip + 1, hd, st ++ [wrap64 (-a)], bk, mem, out, inp, rd, 0, code⟩ := by
  refine mRun_go n rfl (mAdv_op 16 1 0 1 0 ⟨rfl, rfl, rfl, rfl⟩ (by decide) h.1 h.2.1 h.2.2 (fun h => by cases h) ?_ ?_)
  · refine ⟨?_, ?_, ?_, ?_⟩ <;> simp <;> omega
  · simp [mDo, mNext, opArg, mReck, popV, topV, pushV, top1n, Cn.isOne, Cn.one]
theorem run_invert (h : OpAt mem ip 20) (hl : st.length < 48) (hb : bk.length ≤ 48) :
    mRun (n + 1) ⟨ip, hd, st ++ [a], bk, mem, out, inp, rd, 0, code⟩ = mRun n ⟨ip + 1, hd, st ++ [Cn.one 20 a], bk, mem, out, inp, rd, 0, code⟩ := by
  refine mRun_go n rfl (mAdv_op 20 1 0 1 0 ⟨rfl, rfl, rfl, rfl⟩ (by decide) h.1 h.2.1 h.2.2 (fun h => by cases h) ?_ ?_)
  · refine ⟨?_, ?_, ?_, ?_⟩ <;> simp <;> omega
  · simp [mDo, mNext, opArg, mReck, popV, topV, pushV, top1n, Cn.isOne]
theorem run_throw0 (h : OpAt mem ip 45) (hl : st.length < 48) (hb : bk.length ≤ 48) :
    mRun (n + 1) ⟨ip, hd, st ++ [0], bk, mem, out, inp, rd, 0, code⟩ = mRun n ⟨ip + 1, hd, st, bk, mem, out, inp, rd, 0, code⟩ := by
  refine mRun_go n rfl (mAdv_op 45 1 0 0 0 ⟨rfl, rfl, rfl, rfl⟩ (by decide) h.1 h.2.1 h.2.2 (fun h => by cases h) ?_ ?_)
  · refine ⟨?_, ?_, ?_, ?_⟩ <;> simp <;> omega
  · simp [mDo, mNext, opArg, mFlow, popV, topV, top1n]
theorem run_catch (h : OpAt mem ip 46) (hl : st.length < 48) (hb : bk.length ≤ 44) :
    mRun (n + 1) ⟨ip, hd, st ++ [a], bk, mem, out, inp, rd, 0, code⟩ = mRun n ⟨a, (bk.length : Int) + 3, st, bk ++ [ip + 1, hd, (st.length : Int), 1], mem, out, inp, rd, 0, code⟩ := by
  refine mRun_go n rfl (mAdv_op 46 1 0 0 4 ⟨rfl, rfl, rfl, rfl⟩ (by decide) h.1 h.2.1 h.2.2 (fun h => by cases h) ?_ ?_)
  · refine ⟨?_, ?_, ?_, ?_⟩ <;> simp <;> omega
  · simp [mDo, mNext, opArg, mFlow, mCatch, popV, topV, backV, top1n]
theorem run_endCatch (h : OpAt mem ip 1) (hh : hd = (bk.length : Int) + 3) (hl : st.length < 48) (hb : bk.length ≤ 45) :
    mRun (n + 1) ⟨ip, hd, st, bk ++ [a, b, d], mem, out, inp, rd, 0, code⟩ = mRun n ⟨a, b, st ++ [0], bk, mem, out, inp, rd, 0, code⟩ := by
  refine mRun_go n rfl (mAdv_op 1 0 0 0 0 ⟨rfl, rfl, rfl, rfl⟩ (by decide) h.1 h.2.1 h.2.2 (fun h => by cases h) ?_ ?_)
  · refine ⟨?_, ?_, ?_, ?_⟩ <;> simp <;> omega
  · rw [hh]; simp [mDo, mNext, opArg, mFlow, mEnd, popB, topB, pushV, top1n, top2n, tk2, tk3]; first | done | (rw [if_neg (by omega), if_neg (by omega)])
end
end Go.Proofs.YtkjpmkopnkkbmaaGreatDoor
