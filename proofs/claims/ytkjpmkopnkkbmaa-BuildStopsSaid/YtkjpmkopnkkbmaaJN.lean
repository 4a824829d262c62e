/- A machine's steps in plain words; machines made. -/
import Derived.Test.YtkjpmkopnkkbmaaJM
import Derived.Test.YtkjpmkopnkkbmaaJ3
import Derived.Test.YtkjpmkopnkkbmaaJS

/- A machine's steps, one operation at a time: what a run of one more step is. No program in sight. -/
set_option maxRecDepth 100000
namespace Go.Proofs.Ytkjpmkopnkkbmaa
open Go.RowKit

theorem mRun_go {s s' : StV} (n : Nat) (hs : s.status = 0) (h : mAdv s = s') : mRun (n + 1) s = mRun n s' := by
  show (if s.status = 0 then mRun n (mAdv s) else (s, n + 1)) = _
  rw [if_pos hs, h]
theorem mRun_off {s : StV} (n : Nat) (hs : s.status ≠ 0) : mRun n s = (s, n) := by
  cases n with
  | zero => rfl
  | succ n =>
    show (if s.status = 0 then mRun n (mAdv s) else (s, n + 1)) = _
    rw [if_neg hs]
/-- A step that does an operation. -/
theorem mStep_op {s : StV} (c t b g gb : Int) (hrow : (opRow c).takes = t ∧ (opRow c).backs = b ∧ (opRow c).gives = g ∧ (opRow c).givesBak = gb) (hr : 0 ≤ c ∧ c < 48) (h0 : 0 ≤ s.ip) (h1 : s.ip < s.mem.length) (hc : getI s.mem s.ip = c)
    (ha : opArg c = true → s.ip + 1 < s.mem.length) (hz : t ≤ s.stack.length ∧ b ≤ s.back.length ∧ (s.stack.length : Int) - t + g ≤ 48 ∧ (s.back.length : Int) - b + gb ≤ 48) : mStep s = mDo { s with ip := mNext s c } c (mArg s c) s.ip := by
  obtain ⟨r1, r2, r3, r4⟩ := hrow
  have hz0 : mRoom s c = 0 := by
    unfold mRoom
    rw [r1, r2, r3, r4, if_neg (by omega), if_neg (by omega), if_neg (by omega), if_neg (by omega)]
  unfold mStep
  rw [hc, if_neg (by omega), if_neg (by omega), if_neg (fun h => h hr), if_neg (fun h => by have := ha h.1; omega), if_neg (fun h => h hz0)]
theorem mAdv_op {s s' : StV} (c t b g gb : Int) (hrow : (opRow c).takes = t ∧ (opRow c).backs = b ∧ (opRow c).gives = g ∧ (opRow c).givesBak = gb) (hr : 0 ≤ c ∧ c < 48) (h0 : 0 ≤ s.ip) (h1 : s.ip < s.mem.length) (hc : getI s.mem s.ip = c)
    (ha : opArg c = true → s.ip + 1 < s.mem.length) (hz : t ≤ s.stack.length ∧ b ≤ s.back.length ∧ (s.stack.length : Int) - t + g ≤ 48 ∧ (s.back.length : Int) - b + gb ≤ 48) (hd : mDo { s with ip := mNext s c } c (mArg s c) s.ip = .ok s') : mAdv s = s' := by
  unfold mAdv
  rw [mStep_op c t b g gb hrow hr h0 h1 hc ha hz, hd]
theorem top1 (l : List Int) (a : Int) : getI (l ++ [a]) (((l ++ [a]).length : Int) - 1) = a := by
  unfold getI; rw [List.length_append, List.length_singleton, show ((l.length + 1 : Nat) : Int) - 1 = (l.length : Int) by omega, Int.toNat_natCast]; simp
theorem cut1 (l : List Int) (a : Int) : (l ++ [a]).take ((l ++ [a]).length - 1) = l := by
  rw [List.length_append, List.length_singleton, Nat.add_sub_cancel, List.take_left]
theorem top2 (l : List Int) (a b : Int) : getI (l ++ [a, b]) (((l ++ [a, b]).length : Int) - 1) = b := by
  have := top1 (l ++ [a]) b; rwa [List.append_assoc] at this
theorem cut2 (l : List Int) (a b : Int) : (l ++ [a, b]).take ((l ++ [a, b]).length - 1) = l ++ [a] := by
  have := cut1 (l ++ [a]) b; rwa [List.append_assoc] at this
theorem top3 (l : List Int) (a b c : Int) : getI (l ++ [a, b, c]) (((l ++ [a, b, c]).length : Int) - 1) = c := by
  have := top1 (l ++ [a, b]) c; rwa [List.append_assoc] at this
theorem cut3 (l : List Int) (a b c : Int) : (l ++ [a, b, c]).take ((l ++ [a, b, c]).length - 1) = l ++ [a, b] := by
  have := cut1 (l ++ [a, b]) c; rwa [List.append_assoc] at this
theorem top1n (l : List Int) (a : Int) : getI (l ++ [a]) (l.length : Int) = a := by unfold getI; simp
theorem top2n (l : List Int) (a b : Int) : getI (l ++ [a, b]) ((l.length : Int) + 2 - 1) = b := by
  unfold getI; rw [show ((l.length : Int) + 2 - 1).toNat = l.length + 1 by omega]; simp []
theorem top3n (l : List Int) (a b c : Int) : getI (l ++ [a, b, c]) ((l.length : Int) + 3 - 1) = c := by
  unfold getI; rw [show ((l.length : Int) + 3 - 1).toNat = l.length + 2 by omega]; simp []
theorem top2m (l : List Int) (a b : Int) : getI (l ++ [a, b]) ((l.length : Int) + 1) = b := by
  have := top2n l a b; rwa [show (l.length : Int) + 2 - 1 = l.length + 1 by omega] at this
theorem top3m (l : List Int) (a b c : Int) : getI (l ++ [a, b, c]) ((l.length : Int) + 2) = c := by
  have := top3n l a b c; rwa [show (l.length : Int) + 3 - 1 = l.length + 2 by omega] at this
theorem tk2 (l : List Int) (a b : Int) : (l ++ [a, b]).take (l.length + 1) = l ++ [a] := by rw [List.take_append, List.take_of_length_le (by omega)]; simp
theorem tk3 (l : List Int) (a b c : Int) : (l ++ [a, b, c]).take (l.length + 2) = l ++ [a, b] := by rw [List.take_append, List.take_of_length_le (by omega)]; simp
/-- What stands in a cell. -/
def OpAt (mem : List Int) (ip c : Int) : Prop := 0 ≤ ip ∧ ip < mem.length ∧ getI mem ip = c
/-- Cells that stand one behind the other. -/
def HasC (mem : List Int) : Int → List Int → Prop
  | _, [] => True
  | ip, x :: r => OpAt mem ip x ∧ HasC mem (ip + 1) r
section
variable {n : Nat} {ip hd rd code x a b d : Int} {st bk mem : List Int} {out inp : ByteArray}
theorem run_lit (h : OpAt mem ip 2) (hx : OpAt mem (ip + 1) x) (hl : st.length < 48) (hb : bk.length ≤ 48) :
    mRun (n + 1) ⟨ip, hd, st, bk, mem, out, inp, rd, 0, code⟩ = mRun n ⟨ip + 1 + 1, hd, st ++ [x], bk, mem, out, inp, rd, 0, code⟩ := by
  refine mRun_go n rfl (mAdv_op 2 0 0 1 0 ⟨rfl, rfl, rfl, rfl⟩ (by decide) h.1 h.2.1 h.2.2 (fun _ => hx.2.1) ?_ ?_)
  · refine ⟨?_, ?_, ?_, ?_⟩ <;> simp <;> omega
  · have hx := hx.2.2
    have e2 : ip + 2 = ip + 1 + 1 := by omega
    simp [mDo, mNext, mArg, opArg, pushV, hx, e2]
theorem run_branch (h : OpAt mem ip 3) (hx : OpAt mem (ip + 1) x) (hl : st.length ≤ 48) (hb : bk.length ≤ 48) :
    mRun (n + 1) ⟨ip, hd, st, bk, mem, out, inp, rd, 0, code⟩ = mRun n ⟨x, hd, st, bk, mem, out, inp, rd, 0, code⟩ := by
  refine mRun_go n rfl (mAdv_op 3 0 0 0 0 ⟨rfl, rfl, rfl, rfl⟩ (by decide) h.1 h.2.1 h.2.2 (fun _ => hx.2.1) ?_ ?_)
  · refine ⟨?_, ?_, ?_, ?_⟩ <;> simp <;> omega
  · have hx := hx.2.2
    have e2 : ip + 2 = ip + 1 + 1 := by omega
    simp [mDo, mArg, opArg, hx]
theorem run_halt (h : OpAt mem ip 0) (hl : st.length ≤ 48) (hb : bk.length ≤ 48) :
    mRun (n + 1) ⟨ip, hd, st, bk, mem, out, inp, rd, 0, code⟩ = (⟨ip, hd, st, bk, mem, out, inp, rd, 1, code⟩, n) := by
  rw [mRun_go n rfl (mAdv_op (s' := ⟨ip, hd, st, bk, mem, out, inp, rd, 1, code⟩) 0 0 0 0 0 ⟨rfl, rfl, rfl, rfl⟩ (by decide) h.1 h.2.1 h.2.2 (fun h => by cases h) ?_ ?_)]
  · exact mRun_off n (show (1 : Int) ≠ 0 by decide)
  · refine ⟨?_, ?_, ?_, ?_⟩ <;> simp <;> omega
  · simp [mDo]
/-- A word that is called. -/
theorem run_call (h : OpAt mem ip x) (h64 : 64 ≤ x) (hb : bk.length < 48) :
    mRun (n + 1) ⟨ip, hd, st, bk, mem, out, inp, rd, 0, code⟩ = mRun n ⟨x, hd, st, bk ++ [ip + 1], mem, out, inp, rd, 0, code⟩ := by
  obtain ⟨h0, h1, hc⟩ := h
  refine mRun_go n rfl ?_
  unfold mAdv mStep
  simp only []
  rw [if_neg (by omega), hc, if_pos h64, if_neg (by omega)]
  rfl
theorem run_exit (h : OpAt mem ip 5) (hl : st.length ≤ 48) (hb : bk.length < 48) :
    mRun (n + 1) ⟨ip, hd, st, bk ++ [a], mem, out, inp, rd, 0, code⟩ = mRun n ⟨a, hd, st, bk, mem, out, inp, rd, 0, code⟩ := by
  refine mRun_go n rfl (mAdv_op 5 0 1 0 0 ⟨rfl, rfl, rfl, rfl⟩ (by decide) h.1 h.2.1 h.2.2 (fun h => by cases h) ?_ ?_)
  · refine ⟨?_, ?_, ?_, ?_⟩ <;> simp <;> omega
  · simp [mDo, mNext, opArg, popB, topB, top1n]
theorem run_dup (h : OpAt mem ip 6) (hl : st.length < 47) (hb : bk.length ≤ 48) :
    mRun (n + 1) ⟨ip, hd, st ++ [a], bk, mem, out, inp, rd, 0, code⟩ = mRun n ⟨ip + 1, hd, st ++ [a, a], bk, mem, out, inp, rd, 0, code⟩ := by
  refine mRun_go n rfl (mAdv_op 6 1 0 2 0 ⟨rfl, rfl, rfl, rfl⟩ (by decide) h.1 h.2.1 h.2.2 (fun h => by cases h) ?_ ?_)
  · refine ⟨?_, ?_, ?_, ?_⟩ <;> simp <;> omega
  · simp [mDo, mNext, opArg, mShuf, popV, topV, pushV, top1n]
theorem run_drop (h : OpAt mem ip 7) (hl : st.length < 48) (hb : bk.length ≤ 48) :
    mRun (n + 1) ⟨ip, hd, st ++ [a], bk, mem, out, inp, rd, 0, code⟩ = mRun n ⟨ip + 1, hd, st, bk, mem, out, inp, rd, 0, code⟩ := by
  refine mRun_go n rfl (mAdv_op 7 1 0 0 0 ⟨rfl, rfl, rfl, rfl⟩ (by decide) h.1 h.2.1 h.2.2 (fun h => by cases h) ?_ ?_)
  · refine ⟨?_, ?_, ?_, ?_⟩ <;> simp <;> omega
  · simp [mDo, mNext, opArg, mShuf, popV]
theorem run_swap (h : OpAt mem ip 8) (hl : st.length < 47) (hb : bk.length ≤ 48) :
    mRun (n + 1) ⟨ip, hd, st ++ [a, b], bk, mem, out, inp, rd, 0, code⟩ = mRun n ⟨ip + 1, hd, st ++ [b, a], bk, mem, out, inp, rd, 0, code⟩ := by
  refine mRun_go n rfl (mAdv_op 8 2 0 2 0 ⟨rfl, rfl, rfl, rfl⟩ (by decide) h.1 h.2.1 h.2.2 (fun h => by cases h) ?_ ?_)
  · refine ⟨?_, ?_, ?_, ?_⟩ <;> simp <;> omega
  · simp [mDo, mNext, opArg, mShuf, popV, topV, pushV, top1n, top2n, tk2]
theorem run_copy (h : OpAt mem ip 9) (hl : st.length < 46) (hb : bk.length ≤ 48) :
    mRun (n + 1) ⟨ip, hd, st ++ [a, b], bk, mem, out, inp, rd, 0, code⟩ = mRun n ⟨ip + 1, hd, st ++ [a, b, a], bk, mem, out, inp, rd, 0, code⟩ := by
  refine mRun_go n rfl (mAdv_op 9 2 0 3 0 ⟨rfl, rfl, rfl, rfl⟩ (by decide) h.1 h.2.1 h.2.2 (fun h => by cases h) ?_ ?_)
  · refine ⟨?_, ?_, ?_, ?_⟩ <;> simp <;> omega
  · simp [mDo, mNext, opArg, mShuf, popV, topV, pushV, top1n, top2n, tk2]
theorem run_rot (h : OpAt mem ip 10) (hl : st.length < 46) (hb : bk.length ≤ 48) :
    mRun (n + 1) ⟨ip, hd, st ++ [a, b, d], bk, mem, out, inp, rd, 0, code⟩ = mRun n ⟨ip + 1, hd, st ++ [b, d, a], bk, mem, out, inp, rd, 0, code⟩ := by
  refine mRun_go n rfl (mAdv_op 10 3 0 3 0 ⟨rfl, rfl, rfl, rfl⟩ (by decide) h.1 h.2.1 h.2.2 (fun h => by cases h) ?_ ?_)
  · refine ⟨?_, ?_, ?_, ?_⟩ <;> simp <;> omega
  · simp [mDo, mNext, opArg, mShuf, popV, topV, pushV, top1n, top2n, top3n, tk2, tk3]
theorem run_fetch (h : OpAt mem ip 30) (hx : 0 ≤ a ∧ a < mem.length) (hl : st.length < 48) (hb : bk.length ≤ 48) :
    mRun (n + 1) ⟨ip, hd, st ++ [a], bk, mem, out, inp, rd, 0, code⟩ = mRun n ⟨ip + 1, hd, st ++ [getI mem a], bk, mem, out, inp, rd, 0, code⟩ := by
  refine mRun_go n rfl (mAdv_op 30 1 0 1 0 ⟨rfl, rfl, rfl, rfl⟩ (by decide) h.1 h.2.1 h.2.2 (fun h => by cases h) ?_ ?_)
  · refine ⟨?_, ?_, ?_, ?_⟩ <;> simp <;> omega
  · simp [mDo, mNext, opArg, mMem, popV, topV, pushV, top1n]; first | exact hx | (rw [if_neg (by omega)]; done)
theorem run_store (h : OpAt mem ip 31) (hx : 0 ≤ a ∧ a < mem.length) (hl : st.length < 47) (hb : bk.length ≤ 48) :
    mRun (n + 1) ⟨ip, hd, st ++ [b, a], bk, mem, out, inp, rd, 0, code⟩ = mRun n ⟨ip + 1, hd, st, bk, mem.set a.toNat (wr (0 + b)), out, inp, rd, 0, code⟩ := by
  refine mRun_go n rfl (mAdv_op 31 2 0 0 0 ⟨rfl, rfl, rfl, rfl⟩ (by decide) h.1 h.2.1 h.2.2 (fun h => by cases h) ?_ ?_)
  · refine ⟨?_, ?_, ?_, ?_⟩ <;> simp <;> omega
  · simp [mDo, mNext, opArg, mMem, popV, topV, top1n, top2n, tk2]; omega
theorem run_addto (h : OpAt mem ip 32) (hx : 0 ≤ a ∧ a < mem.length) (hl : st.length < 47) (hb : bk.length ≤ 48) :
    mRun (n + 1) ⟨ip, hd, st ++ [b, a], bk, mem, out, inp, rd, 0, code⟩ = mRun n ⟨ip + 1, hd, st, bk, mem.set a.toNat (wr (getI mem a + b)), out, inp, rd, 0, code⟩ := by
  refine mRun_go n rfl (mAdv_op 32 2 0 0 0 ⟨rfl, rfl, rfl, rfl⟩ (by decide) h.1 h.2.1 h.2.2 (fun h => by cases h) ?_ ?_)
  · refine ⟨?_, ?_, ?_, ?_⟩ <;> simp <;> omega
  · simp [mDo, mNext, opArg, mMem, popV, topV, top1n, top2n, tk2]; omega
theorem run_toBack (h : OpAt mem ip 33) (hl : st.length < 48) (hb : bk.length < 48) :
    mRun (n + 1) ⟨ip, hd, st ++ [a], bk, mem, out, inp, rd, 0, code⟩ = mRun n ⟨ip + 1, hd, st, bk ++ [a], mem, out, inp, rd, 0, code⟩ := by
  refine mRun_go n rfl (mAdv_op 33 1 0 0 1 ⟨rfl, rfl, rfl, rfl⟩ (by decide) h.1 h.2.1 h.2.2 (fun h => by cases h) ?_ ?_)
  · refine ⟨?_, ?_, ?_, ?_⟩ <;> simp <;> omega
  · simp [mDo, mNext, opArg, mBacks, popV, topV, backV, top1n]
theorem run_fromBack (h : OpAt mem ip 34) (hl : st.length < 48) (hb : bk.length < 48) :
    mRun (n + 1) ⟨ip, hd, st, bk ++ [a], mem, out, inp, rd, 0, code⟩ = mRun n ⟨ip + 1, hd, st ++ [a], bk, mem, out, inp, rd, 0, code⟩ := by
  refine mRun_go n rfl (mAdv_op 34 0 1 1 0 ⟨rfl, rfl, rfl, rfl⟩ (by decide) h.1 h.2.1 h.2.2 (fun h => by cases h) ?_ ?_)
  · refine ⟨?_, ?_, ?_, ?_⟩ <;> simp <;> omega
  · simp [mDo, mNext, opArg, mBacks, popB, topB, pushV, top1n]
theorem run_atBack (h : OpAt mem ip 35) (hl : st.length < 48) (hb : bk.length < 48) :
    mRun (n + 1) ⟨ip, hd, st, bk ++ [a], mem, out, inp, rd, 0, code⟩ = mRun n ⟨ip + 1, hd, st ++ [a], bk ++ [a], mem, out, inp, rd, 0, code⟩ := by
  refine mRun_go n rfl (mAdv_op 35 0 1 1 1 ⟨rfl, rfl, rfl, rfl⟩ (by decide) h.1 h.2.1 h.2.2 (fun h => by cases h) ?_ ?_)
  · refine ⟨?_, ?_, ?_, ?_⟩ <;> simp <;> omega
  · simp [mDo, mNext, opArg, mBacks, topB, pushV, top1n]
theorem run_begin (h : OpAt mem ip 36) (hl : st.length < 47) (hb : bk.length < 47) :
    mRun (n + 1) ⟨ip, hd, st ++ [a, b], bk, mem, out, inp, rd, 0, code⟩ = mRun n ⟨ip + 1, hd, st, bk ++ [a, b], mem, out, inp, rd, 0, code⟩ := by
  refine mRun_go n rfl (mAdv_op 36 2 0 0 2 ⟨rfl, rfl, rfl, rfl⟩ (by decide) h.1 h.2.1 h.2.2 (fun h => by cases h) ?_ ?_)
  · refine ⟨?_, ?_, ?_, ?_⟩ <;> simp <;> omega
  · simp [mDo, mNext, opArg, mBacks, popV, topV, backV, top1n, top2n, tk2]
theorem run_loopEnd (h : OpAt mem ip 37) (hx : OpAt mem (ip + 1) x) (he : wr (b + 1) = a) (hl : st.length ≤ 48) (hb : bk.length < 47) :
    mRun (n + 1) ⟨ip, hd, st, bk ++ [a, b], mem, out, inp, rd, 0, code⟩ = mRun n ⟨ip + 1 + 1, hd, st, bk, mem, out, inp, rd, 0, code⟩ := by
  refine mRun_go n rfl (mAdv_op 37 0 2 0 2 ⟨rfl, rfl, rfl, rfl⟩ (by decide) h.1 h.2.1 h.2.2 (fun _ => hx.2.1) ?_ ?_)
  · refine ⟨?_, ?_, ?_, ?_⟩ <;> simp <;> omega
  · have hx := hx.2.2
    have e2 : ip + 2 = ip + 1 + 1 := by omega
    simp [mDo, mNext, opArg, mLoop, mLoopR, popB, topB, top1n, top2n, tk2, e2, he]
theorem run_loopGo (h : OpAt mem ip 37) (hx : OpAt mem (ip + 1) x) (he : wr (b + 1) ≠ a) (hl : st.length ≤ 48) (hb : bk.length < 47) :
    mRun (n + 1) ⟨ip, hd, st, bk ++ [a, b], mem, out, inp, rd, 0, code⟩ = mRun n ⟨x, hd, st, bk ++ [a, wr (b + 1)], mem, out, inp, rd, 0, code⟩ := by
  refine mRun_go n rfl (mAdv_op 37 0 2 0 2 ⟨rfl, rfl, rfl, rfl⟩ (by decide) h.1 h.2.1 h.2.2 (fun _ => hx.2.1) ?_ ?_)
  · refine ⟨?_, ?_, ?_, ?_⟩ <;> simp <;> omega
  · have hx := hx.2.2
    have e2 : ip + 2 = ip + 1 + 1 := by omega
    simp [mDo, mNext, mArg, opArg, mLoop, mLoopR, backV, popB, topB, top1n, top2n, tk2, hx, e2, he]
theorem run_plusEnd (h : OpAt mem ip 38) (hx : OpAt mem (ip + 1) x) (he : Cn.crosses (wr (b - a)) d = true) (hl : st.length < 48) (hb : bk.length < 47) :
    mRun (n + 1) ⟨ip, hd, st ++ [d], bk ++ [a, b], mem, out, inp, rd, 0, code⟩ = mRun n ⟨ip + 1 + 1, hd, st, bk, mem, out, inp, rd, 0, code⟩ := by
  refine mRun_go n rfl (mAdv_op 38 1 2 0 2 ⟨rfl, rfl, rfl, rfl⟩ (by decide) h.1 h.2.1 h.2.2 (fun _ => hx.2.1) ?_ ?_)
  · refine ⟨?_, ?_, ?_, ?_⟩ <;> simp <;> omega
  · have hx := hx.2.2
    have e2 : ip + 2 = ip + 1 + 1 := by omega
    simp [mDo, mNext, opArg, mLoop, mLoopR, popV, topV, popB, topB, top1n, top2n, tk2, e2, he]
theorem run_plusGo (h : OpAt mem ip 38) (hx : OpAt mem (ip + 1) x) (he : Cn.crosses (wr (b - a)) d = false) (hl : st.length < 48) (hb : bk.length < 47) :
    mRun (n + 1) ⟨ip, hd, st ++ [d], bk ++ [a, b], mem, out, inp, rd, 0, code⟩ = mRun n ⟨x, hd, st, bk ++ [a, wr (b + d)], mem, out, inp, rd, 0, code⟩ := by
  refine mRun_go n rfl (mAdv_op 38 1 2 0 2 ⟨rfl, rfl, rfl, rfl⟩ (by decide) h.1 h.2.1 h.2.2 (fun _ => hx.2.1) ?_ ?_)
  · refine ⟨?_, ?_, ?_, ?_⟩ <;> simp <;> omega
  · have hx := hx.2.2
    have e2 : ip + 2 = ip + 1 + 1 := by omega
    simp [mDo, mNext, mArg, opArg, mLoop, mLoopR, backV, popV, topV, popB, topB, top1n, top2n, tk2, hx, e2, he]
theorem run_emit (h : OpAt mem ip 41) (ho : out.size < 2000) (hl : st.length < 48) (hb : bk.length ≤ 48) :
    mRun (n + 1) ⟨ip, hd, st ++ [a], bk, mem, out, inp, rd, 0, code⟩ = mRun n ⟨ip + 1, hd, st, bk, mem, out ++ bs [byteC a], inp, rd, 0, code⟩ := by
  refine mRun_go n rfl (mAdv_op 41 1 0 0 0 ⟨rfl, rfl, rfl, rfl⟩ (by decide) h.1 h.2.1 h.2.2 (fun h => by cases h) ?_ ?_)
  · refine ⟨?_, ?_, ?_, ?_⟩ <;> simp <;> omega
  · have hsz : (bs [byteC a]).size = 1 := rfl
    simp [mDo, mNext, opArg, mSay, mText, popV, topV, top1n, hsz]; omega
theorem run_keyNo (h : OpAt mem ip 43) (hk : (inp.size : Int) ≤ rd) (hl : st.length < 48) (hb : bk.length ≤ 48) :
    mRun (n + 1) ⟨ip, hd, st, bk, mem, out, inp, rd, 0, code⟩ = mRun n ⟨ip + 1, hd, st ++ [-1], bk, mem, out, inp, rd, 0, code⟩ := by
  refine mRun_go n rfl (mAdv_op 43 0 0 1 0 ⟨rfl, rfl, rfl, rfl⟩ (by decide) h.1 h.2.1 h.2.2 (fun h => by cases h) ?_ ?_)
  · refine ⟨?_, ?_, ?_, ?_⟩ <;> simp <;> omega
  · simp [mDo, mNext, opArg, mKey, pushV, hk]
theorem run_key (h : OpAt mem ip 43) (hk : ¬ (inp.size : Int) ≤ rd) (hl : st.length < 48) (hb : bk.length ≤ 48) :
    mRun (n + 1) ⟨ip, hd, st, bk, mem, out, inp, rd, 0, code⟩ = mRun n ⟨ip + 1, hd, st ++ [sb inp rd], bk, mem, out, inp, rd + 1, 0, code⟩ := by
  refine mRun_go n rfl (mAdv_op 43 0 0 1 0 ⟨rfl, rfl, rfl, rfl⟩ (by decide) h.1 h.2.1 h.2.2 (fun h => by cases h) ?_ ?_)
  · refine ⟨?_, ?_, ?_, ?_⟩ <;> simp <;> omega
  · simp [mDo, mNext, opArg, mKey, pushV, hk]
theorem run_nop (h : OpAt mem ip 47) (hl : st.length ≤ 48) (hb : bk.length ≤ 48) :
    mRun (n + 1) ⟨ip, hd, st, bk, mem, out, inp, rd, 0, code⟩ = mRun n ⟨ip + 1, hd, st, bk, mem, out, inp, rd, 0, code⟩ := by
  refine mRun_go n rfl (mAdv_op 47 0 0 0 0 ⟨rfl, rfl, rfl, rfl⟩ (by decide) h.1 h.2.1 h.2.2 (fun h => by cases h) ?_ ?_)
  · refine ⟨?_, ?_, ?_, ?_⟩ <;> simp <;> omega
  · simp [mDo, mNext, opArg]
theorem run_add (h : OpAt mem ip 11) (hl : st.length < 47) (hb : bk.length ≤ 48) :
    mRun (n + 1) ⟨ip, hd, st ++ [a, b], bk, mem, out, inp, rd, 0, code⟩ = mRun n ⟨ip + 1, hd, st ++ [wrap64 (a + b)], bk, mem, out, inp, rd, 0, code⟩ := by
  refine mRun_go n rfl (mAdv_op 11 2 0 1 0 ⟨rfl, rfl, rfl, rfl⟩ (by decide) h.1 h.2.1 h.2.2 (fun h => by cases h) ?_ ?_)
  · refine ⟨?_, ?_, ?_, ?_⟩ <;> simp <;> omega
  · simp [mDo, mNext, opArg, mReck, popV, topV, pushV, top1n, top2n, tk2, Cn.isOne, Cn.isTwo, Cn.two]
theorem run_mul (h : OpAt mem ip 13) (hl : st.length < 47) (hb : bk.length ≤ 48) :
    mRun (n + 1) ⟨ip, hd, st ++ [a, b], bk, mem, out, inp, rd, 0, code⟩ = mRun n ⟨ip + 1, hd, st ++ [wrap64 (a * b)], bk, mem, out, inp, rd, 0, code⟩ := by
  refine mRun_go n rfl (mAdv_op 13 2 0 1 0 ⟨rfl, rfl, rfl, rfl⟩ (by decide) h.1 h.2.1 h.2.2 (fun h => by cases h) ?_ ?_)
  · refine ⟨?_, ?_, ?_, ?_⟩ <;> simp <;> omega
  · simp [mDo, mNext, opArg, mReck, popV, topV, pushV, top1n, top2n, tk2, Cn.isOne, Cn.isTwo, Cn.two]
theorem run_negate (h : OpAt mem ip 16) (hl : st.length < 48) (hb : bk.length ≤ 48) :
    mRun (n + 1) ⟨ip, hd, st ++ [a], bk, mem, out, inp, rd, 0, code⟩ = mRun n ⟨ip + 1, hd, st ++ [wrap64 (-a)], bk, mem, out, inp, rd, 0, code⟩ := by
  refine mRun_go n rfl (mAdv_op 16 1 0 1 0 ⟨rfl, rfl, rfl, rfl⟩ (by decide) h.1 h.2.1 h.2.2 (fun h => by cases h) ?_ ?_)
  · refine ⟨?_, ?_, ?_, ?_⟩ <;> simp <;> omega
  · simp [mDo, mNext, opArg, mReck, popV, topV, pushV, top1n, Cn.isOne, Cn.one]
theorem run_invert (h : OpAt mem ip 20) (hl : st.length < 48) (hb : bk.length ≤ 48) :
    mRun (n + 1) ⟨ip, hd, st ++ [a], bk, mem, out, inp, rd, 0, code⟩ = mRun n ⟨ip + 1, hd, st ++ [Cn.one 20 a], bk, mem, out, inp, rd, 0, code⟩ := by
  refine mRun_go n rfl (mAdv_op 20 1 0 1 0 ⟨rfl, rfl, rfl, rfl⟩ (by decide) h.1 h.2.1 h.2.2 (fun h => by cases h) ?_ ?_)
  · refine ⟨?_, ?_, ?_, ?_⟩ <;> simp <;> omega
  · simp [mDo, mNext, opArg, mReck, popV, topV, pushV, top1n, Cn.isOne]
theorem run_throw0 (h : OpAt mem ip 45) (hl : st.length < 48) (hb : bk.length ≤ 48) :
    mRun (n + 1) ⟨ip, hd, st ++ [0], bk, mem, out, inp, rd, 0, code⟩ = mRun n ⟨ip + 1, hd, st, bk, mem, out, inp, rd, 0, code⟩ := by
  refine mRun_go n rfl (mAdv_op 45 1 0 0 0 ⟨rfl, rfl, rfl, rfl⟩ (by decide) h.1 h.2.1 h.2.2 (fun h => by cases h) ?_ ?_)
  · refine ⟨?_, ?_, ?_, ?_⟩ <;> simp <;> omega
  · simp [mDo, mNext, opArg, mFlow, popV, topV, top1n]
theorem run_catch (h : OpAt mem ip 46) (hl : st.length < 48) (hb : bk.length ≤ 44) :
    mRun (n + 1) ⟨ip, hd, st ++ [a], bk, mem, out, inp, rd, 0, code⟩ = mRun n ⟨a, (bk.length : Int) + 3, st, bk ++ [ip + 1, hd, (st.length : Int), 1], mem, out, inp, rd, 0, code⟩ := by
  refine mRun_go n rfl (mAdv_op 46 1 0 0 4 ⟨rfl, rfl, rfl, rfl⟩ (by decide) h.1 h.2.1 h.2.2 (fun h => by cases h) ?_ ?_)
  · refine ⟨?_, ?_, ?_, ?_⟩ <;> simp <;> omega
  · simp [mDo, mNext, opArg, mFlow, mCatch, popV, topV, backV, top1n]
theorem run_endCatch (h : OpAt mem ip 1) (hh : hd = (bk.length : Int) + 3) (hl : st.length < 48) (hb : bk.length ≤ 45) :
    mRun (n + 1) ⟨ip, hd, st, bk ++ [a, b, d], mem, out, inp, rd, 0, code⟩ = mRun n ⟨a, b, st ++ [0], bk, mem, out, inp, rd, 0, code⟩ := by
  refine mRun_go n rfl (mAdv_op 1 0 0 0 0 ⟨rfl, rfl, rfl, rfl⟩ (by decide) h.1 h.2.1 h.2.2 (fun h => by cases h) ?_ ?_)
  · refine ⟨?_, ?_, ?_, ?_⟩ <;> simp <;> omega
  · rw [hh]; simp [mDo, mNext, opArg, mFlow, mEnd, popB, topB, pushV, top1n, top2n, tk2, tk3]; first | done | (rw [if_neg (by omega), if_neg (by omega)])
end
end Go.Proofs.Ytkjpmkopnkkbmaa

/- What the statements on a machine's steps come to, in plain words. No program in sight. -/
set_option maxRecDepth 100000
namespace Go.Proofs.Ytkjpmkopnkkbmaa
open Go.RowKit

/-! ### Fuel in two parts -/
theorem mRun_left : ∀ (a : Nat) (s : StV), (mRun a s).1.status = 0 → (mRun a s).2 = 0
  | 0, _, _ => rfl
  | a + 1, s, h => by
    by_cases hs : s.status = 0
    · rw [mRun_go a hs rfl] at h ⊢; exact mRun_left a _ h
    · rw [mRun_off _ hs] at h; exact absurd h hs
theorem mRun_parts : ∀ (a k : Nat) (s : StV), mRun (k + (mRun a s).2) (mRun a s).1 = mRun (a + k) s
  | 0, k, s => by show mRun (k + 0) s = mRun (0 + k) s; rw [Nat.zero_add]; rfl
  | a + 1, k, s => by
    by_cases hs : s.status = 0
    · rw [mRun_go a hs rfl, mRun_parts a k, show a + 1 + k = (a + k) + 1 by omega, mRun_go (a + k) hs rfl]
    · rw [mRun_off _ hs, mRun_off _ hs, mRun_off _ hs]
      show (s, k + (a + 1)) = (s, a + 1 + k); rw [Nat.add_comm]
theorem runM_parts {s : StV} {a b : Int} (ha : 0 ≤ a) (hb : 0 ≤ b) : runM (runM s a).1 (b + (runM s a).2) = runM s (a + b) ∧ ((runM s a).1.status = 0 → (runM s a).2 = 0) ∧ 0 ≤ (runM s a).2 ∧ (runM s a).2 ≤ a := by
  have hle : ∀ (a : Nat) (s : StV), (mRun a s).2 ≤ a := by
    intro a
    induction a with
    | zero => intro s; exact Nat.le_refl _
    | succ a ih =>
      intro s
      by_cases hs : s.status = 0
      · rw [mRun_go a hs rfl]; have := ih (mAdv s); omega
      · rw [mRun_off _ hs]; exact Nat.le_refl _
  have h := hle a.toNat s
  unfold runM
  rw [if_pos ha, if_pos (by omega), if_pos (by omega)]
  have e1 : (b + ((mRun a.toNat s).2 : Int)).toNat = b.toNat + (mRun a.toNat s).2 := by omega
  have e2 : (a + b).toNat = a.toNat + b.toNat := by omega
  rw [e1, e2, mRun_parts]
  refine ⟨rfl, fun h0 => ?_, by omega, by omega⟩
  have := mRun_left a.toNat s h0
  show ((mRun a.toNat s).2 : Int) = 0; omega

/-! ### Words that are called -/
theorem calls_law {s : StV} {at_ v : Int} (h64 : 64 ≤ at_) (hlen : at_ ≤ (s.mem.length : Int) - 5) (hst : s.stack.length < 48) (hbk : s.back.length < 48) :
    mRun 3 { s with ip := 0, status := 0, mem := (((s.mem.set at_.toNat 2).set (at_ + 1).toNat v).set (at_ + 2).toNat 5).set 0 at_ } =
      (⟨1, s.handler, s.stack ++ [v], s.back, (((s.mem.set at_.toNat 2).set (at_ + 1).toNat v).set (at_ + 2).toNat 5).set 0 at_, s.out, s.inp, s.read, 0, s.code⟩, 0) := by
  obtain ⟨ip, hd, st, bk, mem, out, inp, rd, status, code⟩ := s
  have hlen : at_ ≤ (mem.length : Int) - 5 := hlen
  have hst : st.length < 48 := hst
  have hbk : bk.length < 48 := hbk
  obtain ⟨M, hM⟩ : ∃ M, M = (((mem.set at_.toNat 2).set (at_ + 1).toNat v).set (at_ + 2).toNat 5).set 0 at_ := ⟨_, rfl⟩
  have hl : M.length = mem.length := by rw [hM]; simp
  have g0 : getI M 0 = at_ := by
    rw [hM]; unfold getI; rw [List.getD_eq_getElem?_getD, show Int.toNat 0 = 0 from rfl, List.getElem?_set_self (by simp; omega)]; rfl
  have g1 : getI M at_ = 2 := by
    rw [hM]; unfold getI; rw [List.getD_eq_getElem?_getD, List.getElem?_set_ne (by omega), List.getElem?_set_ne (by omega), List.getElem?_set_ne (by omega), List.getElem?_set_self (by omega)]; rfl
  have g2 : getI M (at_ + 1) = v := by
    rw [hM]; unfold getI; rw [List.getD_eq_getElem?_getD, List.getElem?_set_ne (by omega), List.getElem?_set_ne (by omega), List.getElem?_set_self (by simp; omega)]; rfl
  have g3 : getI M (at_ + 2) = 5 := by
    rw [hM]; unfold getI; rw [List.getD_eq_getElem?_getD, List.getElem?_set_ne (by omega), List.getElem?_set_self (by simp; omega)]; rfl
  show mRun 3 ⟨0, hd, st, bk, _, out, inp, rd, 0, code⟩ = _
  simp only []
  rw [← hM, run_call (x := at_) ⟨by omega, by omega, g0⟩ h64 hbk, run_lit (x := v) ⟨by omega, by omega, g1⟩ ⟨by omega, by omega, g2⟩ hst (by simp; omega), run_exit ⟨by omega, by omega, by rw [show at_ + 1 + 1 = at_ + 2 by omega]; exact g3⟩ (by simp; omega) hbk]
  rfl
end Go.Proofs.Ytkjpmkopnkkbmaa

/- Code that is laid into a memory; the memory at the beginning; laws on stacks, memory, loops. No program in sight. -/
set_option maxRecDepth 100000
namespace Go.Proofs.Ytkjpmkopnkkbmaa
open Go.RowKit

/-- A memory with code laid into it. -/
def lay (mem : List Int) (at_ : Nat) (code : List Int) : List Int := mem.take at_ ++ (code ++ mem.drop (at_ + code.length))
theorem lay_len {mem : List Int} {at_ : Nat} {code : List Int} (h : at_ + code.length ≤ mem.length) : (lay mem at_ code).length = mem.length := by
  unfold lay; simp; omega
theorem lay_nil (mem : List Int) (at_ : Nat) : lay mem at_ [] = mem := by
  unfold lay; simp
theorem lay_snoc {mem : List Int} {at_ : Nat} {code : List Int} {x : Int} (h : at_ + code.length < mem.length) : (lay mem at_ code).set (at_ + code.length) x = lay mem at_ (code ++ [x]) := by
  unfold lay
  have e1 : (mem.take at_).length = at_ := by rw [List.length_take]; omega
  have e2 : (mem.take at_ ++ (code ++ mem.drop (at_ + code.length))).set (at_ + code.length) x = mem.take at_ ++ (code ++ mem.drop (at_ + code.length)).set code.length x := by
    rw [List.set_append_right _ _ (by omega), e1, Nat.add_sub_cancel_left]
  rw [e2, List.set_append_right _ _ (Nat.le_refl _), Nat.sub_self, List.drop_eq_getElem_cons h, List.set_cons_zero, List.append_assoc, List.length_append, List.length_singleton]
  rfl
theorem lay_in {mem : List Int} {at_ : Nat} {code : List Int} (h : at_ + code.length ≤ mem.length) {i : Nat} (hi : i < code.length) : getI (lay mem at_ code) ((at_ + i : Nat) : Int) = code.getD i 0 := by
  unfold getI lay
  have e1 : (mem.take at_).length = at_ := by rw [List.length_take]; omega
  rw [Int.toNat_natCast, List.getD_eq_getElem?_getD, List.getElem?_append_right (by omega), e1, Nat.add_sub_cancel_left, List.getElem?_append_left hi, List.getD_eq_getElem?_getD]
theorem lay_out {mem : List Int} {at_ : Nat} {code : List Int} (h : at_ + code.length ≤ mem.length) {i : Int} (hi : i.toNat < at_ ∨ at_ + code.length ≤ i.toNat) : getI (lay mem at_ code) i = getI mem i := by
  unfold getI lay
  have e1 : (mem.take at_).length = at_ := by rw [List.length_take]; omega
  rw [List.getD_eq_getElem?_getD, List.getD_eq_getElem?_getD]
  rcases hi with hi | hi
  · rw [List.getElem?_append_left (by omega), List.getElem?_take_of_lt hi]
  · rw [List.getElem?_append_right (by omega), e1, List.getElem?_append_right (by omega), List.getElem?_drop]
    congr 2; omega
theorem bootM_len (n : Nat) : (bootM n).length = n := by unfold bootM; simp
theorem bootM_at {n : Nat} {i : Int} (h : i.toNat < n) : getI (bootM n) i = bootC i.toNat := by
  unfold getI bootM
  rw [List.getD_eq_getElem?_getD, List.getElem?_map, List.getElem?_range h]; rfl
theorem has_getI {mem : List Int} : ∀ {code : List Int} {at_ : Int}, 0 ≤ at_ → at_ + code.length ≤ mem.length → (∀ i : Nat, i < code.length → getI mem (at_ + i) = code.getD i 0) → HasC mem at_ code
  | [], _, _, _, _ => trivial
  | x :: r, at_, h0, hl, h => by
    rw [List.length_cons] at hl
    refine ⟨⟨h0, by omega, by simpa using h 0 (by simp)⟩, has_getI (by omega) (by omega) fun i hi => ?_⟩
    have := h (i + 1) (by simpa using hi)
    rw [show at_ + 1 + (i : Int) = at_ + ((i + 1 : Nat) : Int) by omega, this]; simp
theorem has_lay {mem : List Int} {at_ : Nat} {code : List Int} (h : at_ + code.length ≤ mem.length) : HasC (lay mem at_ code) at_ code :=
  has_getI (by omega) (by rw [lay_len h]; omega) fun i hi => by
    have := lay_in h hi
    rwa [show ((at_ : Int) + (i : Int)) = ((at_ + i : Nat) : Int) by omega]
theorem has_app {mem : List Int} : ∀ {a b : List Int} {at_ : Int}, HasC mem at_ (a ++ b) → HasC mem at_ a ∧ HasC mem (at_ + a.length) b
  | [], b, at_, h => ⟨trivial, by simpa using h⟩
  | x :: a, b, at_, h => by
    obtain ⟨h1, h2⟩ := h
    obtain ⟨h3, h4⟩ := has_app h2
    refine ⟨⟨h1, h3⟩, ?_⟩
    rw [List.length_cons, show at_ + ((a.length + 1 : Nat) : Int) = at_ + 1 + a.length by omega]; exact h4
/-- A machine with code at 200. -/
def stk (ip : Int) (l bk M : List Int) : StV := ⟨ip, 0, l, bk, M, bs [], bs [], 0, 0, 0⟩

theorem w64_in {x : Int} (h : -9223372036854775808 ≤ x ∧ x ≤ 9223372036854775807) : wrap64 x = x := by unfold wrap64; omega
theorem neg_neg_in {c : Int} (h : Cn.In c) : wrap64 (-(wrap64 (-c))) = c := by
  unfold Cn.In at h; unfold wrap64; omega
theorem inv_inv_in {c : Int} (h : Cn.In c) : Cn.one 20 (Cn.one 20 c) = c := by
  have e : ∀ x, Cn.one 20 x = wrap64 (-1 - x) := fun x => by
    exact Cn.not_law (a := x)
  rw [e, e]
  unfold Cn.In at h; unfold wrap64; omega

/-! ### Stacks -/
section
variable {l bk M : List Int} {a b c : Int}
theorem st_swap (h : HasC M 200 [8, 8]) (hl : l.length ≤ 30) (hb : bk.length ≤ 40) : mRun 2 (stk 200 (l ++ [a, b, c]) bk M) = (stk 202 (l ++ [a, b, c]) bk M, 0) := by
  have e : l ++ [a, b, c] = (l ++ [a]) ++ [b, c] := by simp
  rw [e]; unfold stk
  rw [run_swap h.1 (by simp; omega) (by omega), run_swap h.2.1 (by simp; omega) (by omega)]; rfl
theorem st_rot (h : HasC M 200 [10, 10, 10]) (hl : l.length ≤ 30) (hb : bk.length ≤ 40) : mRun 3 (stk 200 (l ++ [a, b, c]) bk M) = (stk 203 (l ++ [a, b, c]) bk M, 0) := by
  unfold stk
  rw [run_rot h.1 (by omega) (by omega), run_rot h.2.1 (by omega) (by omega), run_rot h.2.2.1 (by omega) (by omega)]; rfl
theorem st_dup (h : HasC M 200 [6, 7]) (hl : l.length ≤ 30) (hb : bk.length ≤ 40) : mRun 2 (stk 200 (l ++ [a, b, c]) bk M) = (stk 202 (l ++ [a, b, c]) bk M, 0) := by
  have e : l ++ [a, b, c] = (l ++ [a, b]) ++ [c] := by simp
  rw [e]; unfold stk
  have e2 : (l ++ [a, b]) ++ [c, c] = ((l ++ [a, b]) ++ [c]) ++ [c] := by simp
  rw [run_dup h.1 (by simp; omega) (by omega), e2, run_drop h.2.1 (by simp; omega) (by omega)]; rfl
theorem st_copy (h : HasC M 200 [9, 7]) (hl : l.length ≤ 30) (hb : bk.length ≤ 40) : mRun 2 (stk 200 (l ++ [a, b, c]) bk M) = (stk 202 (l ++ [a, b, c]) bk M, 0) := by
  have e : l ++ [a, b, c] = (l ++ [a]) ++ [b, c] := by simp
  rw [e]; unfold stk
  have e2 : (l ++ [a]) ++ [b, c, b] = ((l ++ [a]) ++ [b, c]) ++ [b] := by simp
  rw [run_copy h.1 (by simp; omega) (by omega), e2, run_drop h.2.1 (by simp; omega) (by omega)]; rfl
theorem st_over (h : HasC M 200 [33, 34]) (hl : l.length ≤ 30) (hb : bk.length ≤ 40) : mRun 2 (stk 200 (l ++ [a, b, c]) bk M) = (stk 202 (l ++ [a, b, c]) bk M, 0) := by
  have e : l ++ [a, b, c] = (l ++ [a, b]) ++ [c] := by simp
  rw [e]; unfold stk
  rw [run_toBack h.1 (by simp; omega) (by omega), run_fromBack h.2.1 (by simp; omega) (by omega)]; rfl
theorem st_neg (hc : Cn.In c) (h : HasC M 200 [16, 16]) (hl : l.length ≤ 30) (hb : bk.length ≤ 40) : mRun 2 (stk 200 (l ++ [a, b, c]) bk M) = (stk 202 (l ++ [a, b, c]) bk M, 0) := by
  have e : l ++ [a, b, c] = (l ++ [a, b]) ++ [c] := by simp
  rw [e]; unfold stk
  have e3 : wrap64 (-(wrap64 (-c))) = c := neg_neg_in hc
  rw [run_negate h.1 (by simp; omega) (by omega), run_negate h.2.1 (by simp; omega) (by omega), e3]; rfl
theorem st_inv (hc : Cn.In c) (h : HasC M 200 [20, 20]) (hl : l.length ≤ 30) (hb : bk.length ≤ 40) : mRun 2 (stk 200 (l ++ [a, b, c]) bk M) = (stk 202 (l ++ [a, b, c]) bk M, 0) := by
  have e : l ++ [a, b, c] = (l ++ [a, b]) ++ [c] := by simp
  rw [e]; unfold stk
  have e3 : Cn.one 20 (Cn.one 20 c) = c := inv_inv_in hc
  rw [run_invert h.1 (by simp; omega) (by omega), run_invert h.2.1 (by simp; omega) (by omega), e3]; rfl
theorem st_lit (h : HasC M 200 [2, b, 7]) (hl : l.length ≤ 30) (hb : bk.length ≤ 40) : mRun 2 (stk 200 (l ++ [a, b, c]) bk M) = (stk 203 (l ++ [a, b, c]) bk M, 0) := by
  unfold stk
  rw [run_lit h.1 h.2.1 (by simp; omega) (by omega), run_drop h.2.2.1 (by simp; omega) (by omega)]; rfl
theorem st_atBack (h : HasC M 200 [33, 35, 34, 7]) (hl : l.length ≤ 30) (hb : bk.length ≤ 40) : mRun 4 (stk 200 (l ++ [a, b, c]) bk M) = (stk 204 (l ++ [a, b, c]) bk M, 0) := by
  have e : l ++ [a, b, c] = (l ++ [a, b]) ++ [c] := by simp
  rw [e]; unfold stk
  rw [run_toBack h.1 (by simp; omega) (by omega), run_atBack h.2.1 (by simp; omega) (by omega), run_fromBack h.2.2.1 (by simp; omega) (by omega), run_drop h.2.2.2.1 (by simp; omega) (by omega)]; rfl
theorem st_copies (h : HasC M 200 [9, 9, 7, 7]) (hl : l.length ≤ 30) (hb : bk.length ≤ 40) : mRun 4 (stk 200 (l ++ [a, b, c]) bk M) = (stk 204 (l ++ [a, b, c]) bk M, 0) := by
  have e : l ++ [a, b, c] = (l ++ [a]) ++ [b, c] := by simp
  rw [e]; unfold stk
  have e2 : (l ++ [a]) ++ [b, c, b] = ((l ++ [a]) ++ [b]) ++ [c, b] := by simp
  have e3 : ((l ++ [a]) ++ [b]) ++ [c, b, c] = (((l ++ [a]) ++ [b]) ++ [c, b]) ++ [c] := by simp
  have e4 : ((l ++ [a]) ++ [b]) ++ [c, b] = ((l ++ [a]) ++ [b, c]) ++ [b] := by simp
  rw [run_copy h.1 (by simp; omega) (by omega), e2, run_copy h.2.1 (by simp; omega) (by omega), e3, run_drop h.2.2.1 (by simp; omega) (by omega), e4, run_drop h.2.2.2.1 (by simp; omega) (by omega)]; rfl
end

/-! ### Memory -/
theorem memory_law {M : List Int} {at_ v n : Int} (hv : Cn.In v) (h : HasC M 200 [2, v, 2, at_, 31, 2, n, 2, at_, 32, 2, at_, 30]) (h0 : 0 ≤ at_) (h1 : at_ < M.length) (ha : ¬ (200 ≤ at_ ∧ at_ < 220)) :
    mRun 8 (stk 200 [] [] M) = (stk 213 [wr (v + n)] [] (M.set at_.toNat (wr (v + n))), 0) := by
  have e0 : wr (0 + v) = v := by rw [Int.zero_add]; exact wr_in hv
  have keep : ∀ {i c x : Int}, OpAt M i c → (200 ≤ i ∧ i < 213) → OpAt (M.set at_.toNat x) i c := fun {i c x} ho hi => by
    obtain ⟨o1, o2, o3⟩ := ho
    refine ⟨o1, by rw [List.length_set]; exact o2, ?_⟩
    rw [← o3]; unfold getI
    rw [List.getD_eq_getElem?_getD, List.getD_eq_getElem?_getD, List.getElem?_set_ne (by omega)]
  have self : ∀ x, getI (M.set at_.toNat x) at_ = x := fun x => by
    unfold getI; rw [List.getD_eq_getElem?_getD, List.getElem?_set_self (by omega)]; rfl
  have ln : ∀ x, (M.set at_.toNat x).length = M.length := fun x => List.length_set
  obtain ⟨a0, a1, a2, a3, a4, a5, a6, a7, a8, a9, a10, a11, a12, -⟩ := h
  unfold stk
  rw [show ([] : List Int) = [] ++ [] from rfl]
  rw [run_lit a0 a1 (by simp) (by simp), run_lit a2 a3 (by simp) (by simp)]
  simp only [List.nil_append, List.append_nil, List.cons_append]
  rw [show [v, at_] = [] ++ [v, at_] from rfl, run_store a4 ⟨h0, h1⟩ (by simp) (by simp), e0, run_lit (keep a5 (by omega)) (keep a6 (by omega)) (by simp) (by simp), run_lit (keep a7 (by omega)) (keep a8 (by omega)) (by simp) (by simp)]
  simp only [List.nil_append, List.cons_append]
  rw [show [n, at_] = [] ++ [n, at_] from rfl, run_addto (keep a9 (by omega)) ⟨h0, by rw [ln]; exact h1⟩ (by simp) (by simp), self, List.set_set, run_lit (keep a10 (by omega)) (keep a11 (by omega)) (by simp) (by simp)]
  simp only [List.nil_append]
  rw [show [at_] = [] ++ [at_] from rfl, run_fetch (keep a12 (by omega)) ⟨h0, by rw [ln]; exact h1⟩ (by simp) (by simp), self]
  rfl

/-! ### Loops -/
theorem ceil_one {d s : Int} (h0 : 0 < d) (h1 : d ≤ s) : (d + s - 1) / s = 1 := by
  have : d + s - 1 = (d - 1) + 1 * s := by omega
  rw [this, Int.add_mul_ediv_right _ _ (by omega), Int.ediv_eq_zero_of_lt (by omega) (by omega)]; rfl
theorem ceil_more {d s : Int} (h1 : s < d) (hs : 0 < s) : (d + s - 1) / s = (d - s + s - 1) / s + 1 := by
  have : d + s - 1 = (d - s + s - 1) + 1 * s := by omega
  rw [this, Int.add_mul_ediv_right _ _ (by omega)]
theorem crosses_small {x n : Int} (h0 : -100000 ≤ x) (h1 : x < 0) (h2 : 1 ≤ n) (h3 : n ≤ 60) : Cn.crosses x n = decide (0 ≤ x + n) := by
  rw [Cn.crosses_eq (by constructor <;> omega) (by constructor <;> omega)]
  have e : wrap64 (x + n) = x + n := w64_in (by omega)
  rw [e, decide_eq_true h1, decide_eq_false (p := n < 0) (by omega)]
  by_cases h : 0 ≤ x + n
  · rw [decide_eq_true h, decide_eq_false (by omega)]; rfl
  · rw [decide_eq_false h, decide_eq_true (by omega)]; rfl
theorem plus_rounds {M : List Int} {limit step : Int} (h : HasC M 207 [2, 1, 11, 2, step, 38, 207, 0]) (hl : -1000 ≤ limit ∧ limit ≤ 1000) (hs : 1 ≤ step ∧ step ≤ 60) :
    ∀ (r : Nat) (j i : Int) (n : Nat), -2000 ≤ i → i < limit → limit - i ≤ r → 0 ≤ j → j ≤ 1000 - r → 4 * r + 1 ≤ n → ∃ k, mRun n (stk 207 [j] [limit, i] M) = (⟨214, 0, [j + (limit - i + step - 1) / step], [], M, bs [], bs [], 0, 1, 0⟩, k)
  | 0, j, i, n, h0, h1, h2, _, _, _ => by omega
  | r + 1, j, i, n, h0, h1, h2, h3, h4, h5 => by
    obtain ⟨a0, a1, a2, a3, a4, a5, a6, a7, -⟩ := h
    obtain ⟨m, rfl⟩ : ∃ m, n = m + 4 := ⟨n - 4, by omega⟩
    unfold stk
    rw [show m + 4 = (((m + 1) + 1) + 1) + 1 from rfl, run_lit a0 a1 (by simp) (by simp)]
    simp only [List.cons_append, List.nil_append]
    have ew : wrap64 (j + 1) = j + 1 := w64_in (by omega)
    rw [show [j, 1] = [] ++ [j, 1] from rfl, run_add a2 (by simp) (by simp), ew, run_lit a3 a4 (by simp) (by simp)]
    have ex : wr (i - limit) = i - limit := wr_in (by omega)
    have hc := crosses_small (x := i - limit) (n := step) (by omega) (by omega) hs.1 hs.2
    rw [show [limit, i] = [] ++ [limit, i] from rfl]
    by_cases hx : 0 ≤ i - limit + step
    · rw [decide_eq_true hx] at hc
      rw [run_plusEnd a5 a6 (by rw [ex]; exact hc) (by simp) (by simp)]
      obtain ⟨m', rfl⟩ : ∃ m', m = m' + 1 := ⟨m - 1, by omega⟩
      rw [run_halt a7 (by simp) (by simp), ceil_one (by omega) (by omega)]
      exact ⟨m', rfl⟩
    · rw [decide_eq_false hx] at hc
      rw [run_plusGo a5 a6 (by rw [ex]; exact hc) (by simp) (by simp)]
      have ei : wr (i + step) = i + step := wr_in (by omega)
      obtain ⟨k, hk⟩ := plus_rounds ⟨a0, a1, a2, a3, a4, a5, a6, a7, trivial⟩ hl hs r (j + 1) (i + step) m (by omega) (by omega) (by omega) (by omega) (by omega) (by omega)
      refine ⟨k, ?_⟩
      rw [ei]
      rw [ceil_more (d := limit - i) (by omega) (by omega), show limit - i - step = limit - (i + step) by omega]
      rw [show j + ((limit - (i + step) + step - 1) / step + 1) = j + 1 + (limit - (i + step) + step - 1) / step by omega]
      exact hk
theorem loop_rounds {M : List Int} {limit : Int} (h : HasC M 207 [2, 1, 11, 37, 207, 0]) (hl : -1000 ≤ limit ∧ limit ≤ 1000) :
    ∀ (r : Nat) (j i : Int) (n : Nat), -2000 ≤ i → i < limit → limit - i ≤ r → 0 ≤ j → j ≤ 1000 - r → 3 * r + 1 ≤ n → ∃ k, mRun n (stk 207 [j] [limit, i] M) = (⟨212, 0, [j + (limit - i)], [], M, bs [], bs [], 0, 1, 0⟩, k)
  | 0, j, i, n, h0, h1, h2, _, _, _ => by omega
  | r + 1, j, i, n, h0, h1, h2, h3, h4, h5 => by
    obtain ⟨a0, a1, a2, a3, a4, a5, -⟩ := h
    obtain ⟨m, rfl⟩ : ∃ m, n = m + 3 := ⟨n - 3, by omega⟩
    unfold stk
    rw [show m + 3 = ((m + 1) + 1) + 1 from rfl, run_lit a0 a1 (by simp) (by simp)]
    simp only [List.cons_append, List.nil_append]
    have ew : wrap64 (j + 1) = j + 1 := w64_in (by omega)
    have ei : wr (i + 1) = i + 1 := wr_in (by omega)
    rw [show [j, 1] = [] ++ [j, 1] from rfl, run_add a2 (by simp) (by simp), ew, show [limit, i] = [] ++ [limit, i] from rfl]
    by_cases hx : i + 1 = limit
    · rw [run_loopEnd a3 a4 (by rw [ei]; exact hx) (by simp) (by simp)]
      obtain ⟨m', rfl⟩ : ∃ m', m = m' + 1 := ⟨m - 1, by omega⟩
      rw [run_halt a5 (by simp) (by simp), show limit - i = 1 by omega]
      exact ⟨m', rfl⟩
    · rw [run_loopGo a3 a4 (by rw [ei]; exact hx) (by simp) (by simp), ei]
      obtain ⟨k, hk⟩ := loop_rounds ⟨a0, a1, a2, a3, a4, a5, trivial⟩ hl r (j + 1) (i + 1) m (by omega) (by omega) (by omega) (by omega) (by omega) (by omega)
      refine ⟨k, ?_⟩
      rw [show j + (limit - i) = j + 1 + (limit - (i + 1)) by omega]
      exact hk
theorem plus_law {M : List Int} {limit start step : Int} (h : HasC M 200 [2, 0, 2, limit, 2, start, 36, 2, 1, 11, 2, step, 38, 207, 0]) (hl : -1000 ≤ limit ∧ limit ≤ 1000) (hs : 1 ≤ step ∧ step ≤ 60) (h0 : -1000 ≤ start) (h1 : start < limit) (h2 : limit - start ≤ 60) :
    ∃ k, mRun 2000 (stk 200 [] [] M) = (⟨214, 0, [(limit - start + step - 1) / step], [], M, bs [], bs [], 0, 1, 0⟩, k) := by
  obtain ⟨a0, a1, a2, a3, a4, a5, a6, hr⟩ := h
  have hr : HasC M 207 [2, 1, 11, 2, step, 38, 207, 0] := hr
  obtain ⟨k, hk⟩ := plus_rounds hr hl hs 60 0 start 1996 (by omega) h1 (by omega) (by omega) (by omega) (by omega)
  refine ⟨k, ?_⟩
  rw [Int.zero_add] at hk
  rw [← hk]
  unfold stk
  rw [run_lit a0 a1 (by simp) (by simp), run_lit a2 a3 (by simp) (by simp), run_lit a4 a5 (by simp) (by simp)]
  simp only [List.cons_append, List.nil_append]
  rw [show [0, limit, start] = [0] ++ [limit, start] from rfl, run_begin a6 (by simp) (by simp)]
  rfl
theorem loop_law {M : List Int} {limit start : Int} (h : HasC M 200 [2, 0, 2, limit, 2, start, 36, 2, 1, 11, 37, 207, 0]) (hl : -1000 ≤ limit ∧ limit ≤ 1000) (h0 : -1000 ≤ start) (h1 : start < limit) (h2 : limit - start ≤ 60) :
    ∃ k, mRun 2000 (stk 200 [] [] M) = (⟨212, 0, [limit - start], [], M, bs [], bs [], 0, 1, 0⟩, k) := by
  obtain ⟨a0, a1, a2, a3, a4, a5, a6, hr⟩ := h
  have hr : HasC M 207 [2, 1, 11, 37, 207, 0] := hr
  obtain ⟨k, hk⟩ := loop_rounds hr hl 60 0 start 1996 (by omega) h1 (by omega) (by omega) (by omega) (by omega)
  refine ⟨k, ?_⟩
  rw [Int.zero_add] at hk
  rw [← hk]
  unfold stk
  rw [run_lit a0 a1 (by simp) (by simp), run_lit a2 a3 (by simp) (by simp), run_lit a4 a5 (by simp) (by simp)]
  simp only [List.cons_append, List.nil_append]
  rw [show [0, limit, start] = [0] ++ [limit, start] from rfl, run_begin a6 (by simp) (by simp)]
  rfl
end Go.Proofs.Ytkjpmkopnkkbmaa

/- Faults: what a step that is one comes to. No program in sight. -/
set_option maxRecDepth 100000
namespace Go.Proofs.Ytkjpmkopnkkbmaa
open Go.RowKit

/-- What a step may come to: a machine that runs on (or ends), a fault with a code of its own, or one that a word threw. -/
def RsOk (s : StV) (c : Int) : Rs → Prop
  | .ok s' => s'.status = s.status ∨ c = 0
  | .bad c' false => -57 ≤ c' ∧ c' < 0
  | .bad c' true => c = 45 ∧ c' = topV s ∧ c' ≠ 0 ∧ 1 ≤ s.stack.length
theorem rsOk_ok {s s' : StV} {c : Int} (h : s'.status = s.status) : RsOk s c (.ok s') := Or.inl h
theorem mMem_rs (s : StV) (c : Int) : RsOk s c (mMem s c) := by
  unfold mMem
  split
  · exact ⟨by decide, by decide⟩
  split
  · exact rsOk_ok rfl
  · exact rsOk_ok rfl
theorem mSay_rs (s : StV) (c : Int) : RsOk s c (mSay s c) := by
  unfold mSay
  split
  · exact ⟨by decide, by decide⟩
  · exact rsOk_ok rfl
theorem mEnd_rs (s : StV) (c : Int) : RsOk s c (mEnd s) := by
  unfold mEnd
  split
  · exact ⟨by decide, by decide⟩
  split
  · exact ⟨by decide, by decide⟩
  · exact rsOk_ok rfl
theorem mReck_rs (s : StV) (c : Int) : RsOk s c (mReck s c) := by
  unfold mReck
  split
  · exact rsOk_ok rfl
  split
  · exact rsOk_ok rfl
  · exact ⟨by decide, by decide⟩
theorem mFlow_rs {s : StV} {c : Int} (h1 : c = 45 → 1 ≤ s.stack.length) : RsOk s c (mFlow s c) := by
  unfold mFlow
  split
  · split
    · exact ⟨by decide, by decide⟩
    · exact rsOk_ok rfl
  split
  · next h45 =>
    split
    · exact rsOk_ok rfl
    · next hz => exact ⟨h45, rfl, hz, h1 h45⟩
  split
  · exact rsOk_ok rfl
  · exact mEnd_rs _ _
theorem mShuf_st (s : StV) (c : Int) : (mShuf s c).status = s.status := by
  unfold mShuf; repeat' split
  all_goals rfl
theorem mBacks_st (s : StV) (c : Int) : (mBacks s c).status = s.status := by
  unfold mBacks; repeat' split
  all_goals rfl
theorem mLoopR_st (s : StV) (i l n a : Int) (e : Bool) : (mLoopR s i l n a e).status = s.status := by
  unfold mLoopR; split <;> rfl
theorem mLoop_st (s : StV) (c a : Int) : (mLoop s c a).status = s.status := by
  unfold mLoop; split
  · rw [mLoopR_st]; rfl
  · rw [mLoopR_st]; rfl
theorem mKey_st (s : StV) : (mKey s).status = s.status := by unfold mKey; split <;> rfl
theorem mDo_rs {s : StV} {c arg was : Int} (h1 : c = 45 → 1 ≤ s.stack.length) : RsOk s c (mDo s c arg was) := by
  unfold mDo
  by_cases h0 : c = 0
  · rw [if_pos h0]; exact Or.inr h0
  rw [if_neg h0]
  by_cases h2 : c = 2
  · rw [if_pos h2]; exact rsOk_ok rfl
  rw [if_neg h2]
  by_cases h4 : c = 4
  · rw [if_pos h4]; split <;> exact rsOk_ok rfl
  rw [if_neg h4]
  by_cases h3 : c = 3
  · rw [if_pos h3]; exact rsOk_ok rfl
  rw [if_neg h3]
  by_cases h5 : c = 5
  · rw [if_pos h5]; exact rsOk_ok rfl
  rw [if_neg h5]
  by_cases h6 : 6 ≤ c ∧ c ≤ 10
  · rw [if_pos h6]; exact rsOk_ok (mShuf_st _ _)
  rw [if_neg h6]
  by_cases h7 : 30 ≤ c ∧ c ≤ 32
  · rw [if_pos h7]; exact mMem_rs _ _
  rw [if_neg h7]
  by_cases h8 : (33 ≤ c ∧ c ≤ 36) ∨ c = 39 ∨ c = 40
  · rw [if_pos h8]; exact rsOk_ok (mBacks_st _ _)
  rw [if_neg h8]
  by_cases h9 : c = 37 ∨ c = 38
  · rw [if_pos h9]; exact rsOk_ok (mLoop_st _ _ _)
  rw [if_neg h9]
  by_cases h10 : c = 41 ∨ c = 42
  · rw [if_pos h10]; exact mSay_rs _ _
  rw [if_neg h10]
  by_cases h11 : c = 43
  · rw [if_pos h11]; exact rsOk_ok (mKey_st _)
  rw [if_neg h11]
  by_cases h12 : (44 ≤ c ∧ c ≤ 46) ∨ c = 1
  · rw [if_pos h12]; exact mFlow_rs h1
  rw [if_neg h12]
  by_cases h13 : c = 47
  · rw [if_pos h13]; exact rsOk_ok rfl
  rw [if_neg h13]
  exact mReck_rs _ _
theorem mStep_rs (s : StV) : RsOk s (getI s.mem s.ip) (mStep s) := by
  unfold mStep
  split
  · exact ⟨by decide, by decide⟩
  split
  · split
    · exact ⟨by decide, by decide⟩
    · exact rsOk_ok rfl
  split
  · exact ⟨by decide, by decide⟩
  split
  · exact ⟨by decide, by decide⟩
  split
  · next hz =>
    have := mRoom_neg s (getI s.mem s.ip)
    show -57 ≤ mRoom s _ ∧ mRoom s _ < 0
    omega
  next hr _ hz =>
  have hr : 0 ≤ getI s.mem s.ip ∧ getI s.mem s.ip < 48 := Classical.byContradiction hr
  have hz : mRoom s (getI s.mem s.ip) = 0 := Classical.byContradiction hz
  exact mDo_rs (s := { s with ip := mNext s (getI s.mem s.ip) }) (fun h => (need_of hr hz).n1 (by omega))
/-- A machine that has no Handler: its fault ends it, and nothing else is changed. -/
theorem mAdv_rs {s : StV} (hh : s.handler < 3) (hs : s.status = 0) : ((mAdv s).status = 0 ∨ getI s.mem s.ip = 0 ∧ (mAdv s).status ≠ 2) ∨
    (∃ c, mAdv s = { s with status := 2, code := c } ∧ -57 ≤ c ∧ c < 0 ∧ mStep s = .bad c false) ∨ (getI s.mem s.ip = 45 ∧ 1 ≤ s.stack.length ∧ mAdv s = { popV s with status := 2, code := topV s } ∧ topV s ≠ 0) := by
  have h := mStep_rs s
  unfold mAdv
  cases hst : mStep s with
  | ok s' =>
    rw [hst] at h
    show (s'.status = 0 ∨ _) ∨ _
    by_cases h0 : s'.status = 0
    · exact Or.inl (Or.inl h0)
    · rcases h with h | h
      · exact absurd (h.trans hs) h0
      · refine Or.inl (Or.inr ⟨h, ?_⟩)
        show s'.status ≠ 2
        have hstep := hst
        unfold mStep at hstep
        rw [h] at hstep
        split at hstep
        · cases hstep
        split at hstep
        · split at hstep
          · cases hstep
          · cases hstep; exact fun he => h0 (hs)
        split at hstep
        · cases hstep
        split at hstep
        · cases hstep
        split at hstep
        · cases hstep
        unfold mDo at hstep
        rw [if_pos rfl] at hstep
        cases hstep
        show (1 : Int) ≠ 2
        decide
  | bad c th =>
    rw [hst] at h
    refine Or.inr ?_
    cases th with
    | false =>
      obtain ⟨h1, h2⟩ := h
      refine Or.inl ⟨c, ?_, h1, h2, rfl⟩
      show mFault s c = _
      unfold mFault
      have : mCaught s = none := by unfold mCaught; rw [if_neg (by omega)]
      rw [this]
    | true =>
      obtain ⟨h1, h2, h3, h4⟩ := h
      refine Or.inr ⟨h1, h4, ?_, by rw [← h2]; exact h3⟩
      show mFault (popV s) c = _
      unfold mFault
      have : mCaught (popV s) = none := by unfold mCaught; rw [if_neg (by show ¬ (3 ≤ s.handler ∧ _); omega)]
      rw [this, h2]
end Go.Proofs.Ytkjpmkopnkkbmaa

/- Words that are caught; talks; faults: what they come to. No program in sight. -/
set_option maxRecDepth 100000
namespace Go.Proofs.Ytkjpmkopnkkbmaa
open Go.RowKit

/-! ### Catch -/
def litsC (more : List Int) : List Int := more.flatMap fun m => [2, m]
theorem lits_run {M : List Int} {hd rd code : Int} {out inp : ByteArray} : ∀ (more : List Int) (ip : Int) (l bk : List Int) (n : Nat), HasC M ip (litsC more) → l.length + more.length ≤ 48 → bk.length ≤ 48 →
    mRun (n + more.length) ⟨ip, hd, l, bk, M, out, inp, rd, 0, code⟩ = mRun n ⟨ip + 2 * more.length, hd, l ++ more, bk, M, out, inp, rd, 0, code⟩
  | [], ip, l, bk, n, _, _, _ => by simp
  | x :: r, ip, l, bk, n, h, h1, h2 => by
    obtain ⟨a0, a1, hr⟩ := h
    have hr : HasC M (ip + 1 + 1) (litsC r) := hr
    rw [List.length_cons] at h1
    rw [List.length_cons, ← Nat.add_assoc, run_lit a0 a1 (by omega) h2, lits_run r _ _ _ n hr (by simp; omega) h2]
    congr 2
    · omega
    · simp
/-- What InnerCatch lays. -/
def catchC (more : List Int) (v : Int) : List Int := litsC more ++ [2, v, 45, 5]
theorem litsC_len (more : List Int) : (litsC more).length = 2 * more.length := by
  induction more with
  | nil => rfl
  | cons x r ih => show (2 :: x :: litsC r).length = _; rw [List.length_cons, List.length_cons, ih, List.length_cons]; omega
theorem mDo_throw {s : StV} {arg was v : Int} (h : topV s = v) (hv : v ≠ 0) : mDo s 45 arg was = .bad v true := by
  unfold mDo mFlow; rw [h]; simp [hv]
theorem mAdv_throw {ip hd rd code a : Int} {st bk mem : List Int} {out inp : ByteArray} (h : OpAt mem ip 45) (ha : a ≠ 0) (hl : st.length < 48) (hb : bk.length ≤ 48) :
    mAdv ⟨ip, hd, st ++ [a], bk, mem, out, inp, rd, 0, code⟩ = mFault ⟨ip, hd, st, bk, mem, out, inp, rd, 0, code⟩ a := by
  have e1 := mStep_op (s := ⟨ip, hd, st ++ [a], bk, mem, out, inp, rd, 0, code⟩) 45 1 0 0 0 ⟨rfl, rfl, rfl, rfl⟩ (by decide) h.1 h.2.1 h.2.2 (fun h => by cases h) (by refine ⟨?_, ?_, ?_, ?_⟩ <;> simp <;> omega)
  have e2 : mStep ⟨ip, hd, st ++ [a], bk, mem, out, inp, rd, 0, code⟩ = .bad a true := by
    rw [e1]; exact mDo_throw (top1 st a) ha
  have e3 : popV ⟨ip, hd, st ++ [a], bk, mem, out, inp, rd, 0, code⟩ = ⟨ip, hd, st, bk, mem, out, inp, rd, 0, code⟩ := by
    unfold popV; congr 1; exact cut1 _ _
  unfold mAdv
  rw [e2, ← e3]; rfl
section
variable {M l more : List Int} {v : Int}
theorem catch_head (h : HasC M 200 [2, 220, 46, 3, 205, 0]) (hm : HasC M 220 (litsC more)) (hl : l.length ≤ 10) (hn : more.length ≤ 20) (n : Nat) :
    mRun (n + 2 + more.length) (stk 200 l [] M) = mRun n ⟨220 + 2 * more.length, 3, l ++ more, [203, 0, l.length, 1], M, bs [], bs [], 0, 0, 0⟩ := by
  obtain ⟨a0, a1, a2, -⟩ := h
  unfold stk
  rw [show n + 2 + more.length = (n + more.length) + 1 + 1 by omega, run_lit a0 a1 (by omega) (by simp), run_catch a2 (by omega) (by simp)]
  rw [lits_run more 220 l _ n hm (by omega) (by simp)]
  rfl
/-- One that throws nothing. -/
theorem catch_zero (h : HasC M 200 [2, 220, 46, 3, 205, 0]) (h1 : OpAt M 1 1) (hm : HasC M 220 (catchC more 0)) (hl : l.length ≤ 10) (hn : more.length ≤ 20) :
    (∀ n, mRun (n + 4 + 2 + more.length) (stk 200 l [] M) = mRun n (stk 203 (l ++ more ++ [0]) [] M)) ∧ ∀ n, mRun (n + 6 + 2 + more.length) (stk 200 l [] M) = (⟨205, 0, l ++ more ++ [0], [], M, bs [], bs [], 0, 1, 0⟩, n) := by
  obtain ⟨m1, m2⟩ := has_app hm
  rw [litsC_len] at m2
  obtain ⟨b0, b1, b2, b3, -⟩ := m2
  have e : ∀ n, mRun (n + 4 + 2 + more.length) (stk 200 l [] M) = mRun n (stk 203 (l ++ more ++ [0]) [] M) := fun n => by
    rw [catch_head h m1 hl hn]
    rw [show ((220 : Int) + 2 * (more.length : Int)) = 220 + ((2 * more.length : Nat) : Int) by omega]
    rw [run_lit b0 b1 (by simp; omega) (by simp), run_throw0 b2 (by simp; omega) (by simp)]
    rw [show ([203, 0, (l.length : Int), 1] : List Int) = [203, 0, (l.length : Int)] ++ [1] from rfl, run_exit b3 (by simp; omega) (by simp)]
    rw [show ([203, 0, (l.length : Int)] : List Int) = [] ++ [203, 0, (l.length : Int)] from rfl, run_endCatch h1 (by rfl) (by simp; omega) (by simp)]
    rfl
  refine ⟨e, fun n => ?_⟩
  rw [show n + 6 + 2 + more.length = (n + 2) + 4 + 2 + more.length by omega, e]
  obtain ⟨_, _, _, a3, a4, a5, -⟩ := h
  have a3 : OpAt M 203 3 := a3
  have a4 : OpAt M (203 + 1) 205 := a4
  have a5 : OpAt M 205 0 := a5
  unfold stk
  rw [run_branch a3 a4 (by simp; omega) (by simp)]
  rw [run_halt a5 (by simp; omega) (by simp)]
/-- One that throws. -/
theorem catch_throws (h : HasC M 200 [2, 220, 46, 3, 205, 0]) (hm : HasC M 220 (catchC more v)) (hv : v ≠ 0) (hl : l.length ≤ 10) (hn : more.length ≤ 20) :
    (∀ n, mRun (n + 2 + 2 + more.length) (stk 200 l [] M) = mRun n (stk 203 (l ++ [v]) [] M)) ∧ ∀ n, mRun (n + 4 + 2 + more.length) (stk 200 l [] M) = (⟨205, 0, l ++ [v], [], M, bs [], bs [], 0, 1, 0⟩, n) := by
  obtain ⟨m1, m2⟩ := has_app hm
  rw [litsC_len] at m2
  obtain ⟨b0, b1, b2, b3, -⟩ := m2
  have e : ∀ n, mRun (n + 2 + 2 + more.length) (stk 200 l [] M) = mRun n (stk 203 (l ++ [v]) [] M) := fun n => by
    rw [catch_head h m1 hl hn]
    rw [show ((220 : Int) + 2 * (more.length : Int)) = 220 + ((2 * more.length : Nat) : Int) by omega]
    rw [run_lit b0 b1 (by simp; omega) (by simp)]
    refine mRun_go n rfl ?_
    rw [mAdv_throw b2 hv (by simp; omega) (by simp)]
    have e3 : mCaught (⟨220 + ((2 * more.length : Nat) : Int) + 1 + 1, 3, l ++ more, [203, 0, (l.length : Int), 1], M, bs [], bs [], 0, 0, 0⟩ : StV) = some l.length := by
      unfold mCaught
      have eg : getI [203, 0, (l.length : Int), 1] (3 - 1) = (l.length : Int) := rfl
      simp only [eg]
      rw [if_pos (by simp; omega)]; simp
    unfold mFault
    rw [e3]
    unfold stk
    simp only []
    congr 1
    · rw [List.take_left]; simp
  refine ⟨e, fun n => ?_⟩
  rw [show n + 4 + 2 + more.length = (n + 2) + 2 + 2 + more.length by omega, e]
  obtain ⟨_, _, _, a3, a4, a5, -⟩ := h
  have a3 : OpAt M 203 3 := a3
  have a4 : OpAt M (203 + 1) 205 := a4
  have a5 : OpAt M 205 0 := a5
  unfold stk
  rw [run_branch a3 a4 (by simp; omega) (by simp)]
  rw [run_halt a5 (by simp; omega) (by simp)]
end

/-! ### Talks -/
def emitsC (l : List Int) : List Int := l.flatMap fun x => [2, x, 41]
theorem emitsC_len (l : List Int) : (emitsC l).length = 3 * l.length := by
  induction l with
  | nil => rfl
  | cons x r ih => show (2 :: x :: 41 :: emitsC r).length = _; rw [List.length_cons, List.length_cons, List.length_cons, ih, List.length_cons]; omega
theorem emits_run {M : List Int} {inp : ByteArray} : ∀ (l : List Int) (ip : Int) (out : List UInt8) (n : Nat), HasC M ip (emitsC l) → out.length + l.length ≤ 1000 →
    mRun (n + 2 * l.length) ⟨ip, 0, [], [], M, bs out, inp, 0, 0, 0⟩ = mRun n ⟨ip + 3 * l.length, 0, [], [], M, bs (out ++ l.map byteC), inp, 0, 0, 0⟩
  | [], ip, out, n, _, _ => by simp
  | x :: r, ip, out, n, h, h1 => by
    obtain ⟨a0, a1, a2, hr⟩ := h
    have hr : HasC M (ip + 1 + 1 + 1) (emitsC r) := hr
    rw [List.length_cons] at h1
    have eo : bs out ++ bs [byteC x] = bs (out ++ [byteC x]) := by
      apply ByteArray.ext; rw [ByteArray.data_append]; simp
    have es : (bs out).size = out.length := rfl
    rw [List.length_cons, show n + 2 * (r.length + 1) = (n + 2 * r.length) + 1 + 1 by omega, run_lit a0 a1 (by simp) (by simp)]
    rw [run_emit a2 (by omega) (by simp) (by simp), eo, emits_run r _ _ n hr (by simp; omega)]
    congr 2
    · omega
    · simp
/-- Bytes that are asked for, and then none. -/
def keyV (inp : ByteArray) (i : Nat) : Int := if (inp.size : Int) ≤ i then -1 else sb inp i
theorem keys_run {M : List Int} {out inp : ByteArray} : ∀ (k : Nat) (ip : Int) (i : Nat) (n : Nat), HasC M ip (List.replicate k 43) → i + k ≤ 40 →
    mRun (n + k) ⟨ip, 0, (List.range i).map (keyV inp), [], M, out, inp, ((min i inp.size : Nat) : Int), 0, 0⟩ = mRun n ⟨ip + k, 0, (List.range (i + k)).map (keyV inp), [], M, out, inp, ((min (i + k) inp.size : Nat) : Int), 0, 0⟩
  | 0, ip, i, n, _, _ => by simp
  | k + 1, ip, i, n, h, h1 => by
    rw [List.replicate_succ] at h
    obtain ⟨a0, hr⟩ := h
    have hst : ((List.range i).map (keyV inp)) ++ [keyV inp i] = (List.range (i + 1)).map (keyV inp) := by rw [List.range_succ, List.map_append]; rfl
    have hlen : ((List.range i).map (keyV inp)).length = i := by simp
    have step : mRun (n + k + 1) ⟨ip, 0, (List.range i).map (keyV inp), [], M, out, inp, ((min i inp.size : Nat) : Int), 0, 0⟩ = mRun (n + k) ⟨ip + 1, 0, (List.range (i + 1)).map (keyV inp), [], M, out, inp, ((min (i + 1) inp.size : Nat) : Int), 0, 0⟩ := by
      by_cases hk : inp.size ≤ i
      · rw [run_keyNo a0 (by omega) (by omega) (by simp), ← hst]
        have : keyV inp i = -1 := by unfold keyV; rw [if_pos (by omega)]
        rw [this, show min i inp.size = min (i + 1) inp.size by omega]
      · rw [run_key a0 (by omega) (by omega) (by simp), ← hst]
        have : keyV inp i = sb inp ((min i inp.size : Nat) : Int) := by unfold keyV; rw [if_neg (by omega), Nat.min_eq_left (by omega)]
        rw [this, show ((min i inp.size : Nat) : Int) + 1 = ((min (i + 1) inp.size : Nat) : Int) by omega]
    rw [← Nat.add_assoc]
    have := keys_run (out := out) (inp := inp) k (ip + 1) (i + 1) n hr (by omega)
    have e1 := step.trans this
    rw [show i + 1 + k = i + (k + 1) by omega, show ip + 1 + (k : Int) = ip + ((k + 1 : Nat) : Int) by omega] at e1
    exact e1
theorem talks_law {M l : List Int} {inp : ByteArray} (h : HasC M 200 (emitsC l ++ (List.replicate 20 43 ++ [0]))) (hl : l.length ≤ 30) :
    ∃ k, mRun 500 ⟨200, 0, [], [], M, bs [], inp, 0, 0, 0⟩ = (⟨220 + 3 * l.length, 0, (List.range 20).map (keyV inp), [], M, bs (l.map byteC), inp, ((min 20 inp.size : Nat) : Int), 1, 0⟩, k) := by
  obtain ⟨h1, h2⟩ := has_app h
  obtain ⟨h3, h4⟩ := has_app h2
  rw [emitsC_len] at h3 h4
  rw [List.length_replicate] at h4
  obtain ⟨m, hm⟩ : ∃ m, 500 = (m + 1) + 20 + 2 * l.length := ⟨479 - 2 * l.length, by omega⟩
  refine ⟨m, ?_⟩
  rw [hm, emits_run l 200 [] _ h1 (by simp; omega)]
  have := keys_run (M := M) (out := bs (l.map byteC)) (inp := inp) 20 (200 + ((3 * l.length : Nat) : Int)) 0 (m + 1) h3 (by omega)
  rw [show (200 : Int) + 3 * (l.length : Int) = 200 + ((3 * l.length : Nat) : Int) by omega, List.nil_append]
  have e0 : ((min 0 inp.size : Nat) : Int) = 0 := by simp
  rw [e0] at this
  refine (show _ = _ from this).trans ?_
  rw [run_halt (by exact h4.1) (by simp) (by simp)]
  congr 2
  · omega
end Go.Proofs.Ytkjpmkopnkkbmaa

/- States held in blocks: made, read, written. -/
set_option maxRecDepth 100000
namespace Go.Proofs.Ytkjpmkopnkkbmaa
open Go.RowKit

theorem inSt {w : World} (S : StC) {G : Nat → World → Prop} (k : ∀ b w', b = w.heap.size → w'.heap.size = w.heap.size + 1 → Ob w' b (stC S) T_api_State → Chg No w w' → G b w') : ∀ (b : Nat) (w' : World), b = w.heap.size → w' = World.alloc w (.cells (stC S).toArray T_api_State) → G b w' := fun b w' hb hw =>
  k b w' hb (by rw [hw]; simp) (by rw [hw, hb]; exact Ob.new w (stC S) T_api_State) (al hw)
/-- A variable that is given a state. -/
theorem varSt {w : World} (S : StC) {G : Nat → World → Prop} (k : ∀ b w', b = w.heap.size → w.heap.size + 1 ≤ w'.heap.size → Ob w' b (stC S) T_api_State → Chg No w w' → G b w') : ∀ (b : Nat) (w1 : World), b = w.heap.size → w1 = World.alloc w (.cells (stC st0).toArray T_api_State) → wrOk w1 ⟨b, 0, none⟩ 10 ∧ ∀ w2 : World, w2 = stW w1 ⟨b, 0, none⟩ 0 (stC S) → G b w2 := fun b w1 hb hw => by
  have hn := fun (w2 : World) => newOb (w2 := w2) (T := T_api_State) (stC st0) (stC S) rfl hb hw
  refine ⟨(hn w1).1, fun w2 hw2 => ?_⟩
  obtain ⟨o, c⟩ := (hn w2).2 hw2
  exact k b w2 hb (by have := o.lt; omega) o c
theorem rdSt {w : World} {b : Nat} {S : StC} {T : TypeId} {G : Int → Int → Sl → Sl → Sl → ByteArray → ByteArray → Int → Int → Int → Prop} (o : Ob w b (stC S) T) (g : G S.ip S.handler S.stack S.back S.mem S.out S.inp S.read S.status S.code) :
    ∃ n1 : Int, ∃ n2 : Int, ∃ s3 : Sl, ∃ s4 : Sl, ∃ s5 : Sl, ∃ t6 : ByteArray, ∃ t7 : ByteArray, ∃ n8 : Int, ∃ n9 : Int, ∃ n10 : Int, w.cell? ⟨b, 0, none⟩ = some (.int .i64 n1) ∧ w.cell? ⟨b, 1, none⟩ = some (.int .i64 n2) ∧ w.cell? ⟨b, 2, none⟩ = some (s3.val) ∧ w.cell? ⟨b, 3, none⟩ = some (s4.val) ∧ w.cell? ⟨b, 4, none⟩ = some (s5.val) ∧ w.cell? ⟨b, 5, none⟩ = some (.string t6) ∧ w.cell? ⟨b, 6, none⟩ = some (.string t7) ∧ w.cell? ⟨b, 7, none⟩ = some (.int .i64 n8) ∧ w.cell? ⟨b, 8, none⟩ = some (.int .i64 n9) ∧ w.cell? ⟨b, 9, none⟩ = some (.int .i64 n10) ∧ G n1 n2 s3 s4 s5 t6 t7 n8 n9 n10 :=
  ⟨_, _, _, _, _, _, _, _, _, _, o.cell rfl, o.cell rfl, o.cell rfl, o.cell rfl, o.cell rfl, o.cell rfl, o.cell rfl, o.cell rfl, o.cell rfl, o.cell rfl, g⟩
/-- Cells of a state written anew. -/
theorem setSt {w : World} {b : Nat} {S : StC} (S' : StC) {k n : Nat} {vs : List Value} {G : World → Prop} (o : Ob w b (stC S) T_api_State) (hl : k + n ≤ 10) (hn : n = vs.length) (hc : wrL (stC S) k vs = stC S') (g : ∀ w', Ob w' b (stC S') T_api_State → Chg (fun j => j = b) w w' → G w') :
    wrOk w ⟨b, k, none⟩ n ∧ ∀ w' : World, w' = stW w ⟨b, k, none⟩ 0 vs → G w' := by
  subst hn
  refine ⟨o.wr (by simpa [stC] using hl), fun w' hw' => ?_⟩
  obtain ⟨o', c'⟩ := o.up (cs' := stC S') (by simpa [stC] using hl) hc hw'
  exact g w' o' c'
/-- A number written into a list. -/
theorem setOx {w : World} {s : Sl} {xs : List Int} (h : Ox intE w s xs) {i v : Int} (h0 : 0 ≤ i) (h1 : i < xs.length) {G : World → Prop} (g : ∀ w', Ox intE w' s (xs.set i.toNat v) → Chg (fun j => s.blk = some j) w w' → G w') :
    ∃ a : Addr, s.ptr = some a ∧ 0 ≤ i ∧ i < (s.len : Int) ∧ wrOk w (Addr.add a (Int.toNat i * 1)) 1 ∧ ∀ w' : World, w' = stW w (Addr.add a (Int.toNat i * 1)) 0 [.int .i64 v] → G w' := by
  have hlen := h.rd.len
  refine h.rd.ix (i := i) h0 (x := getI xs i) (by unfold getI; rw [List.getD_eq_getElem?_getD, List.getElem?_eq_getElem (by omega)]; rfl) fun a ha _ => ?_
  obtain ⟨f1, f2⟩ := h.set ha (k := i.toNat) (by omega) v
  refine ⟨f1, fun w' hw' => ?_⟩
  refine g w' (by rw [hw']; exact f2) ?_
  rw [hw']; exact Chg.st (S := fun j => s.blk = some j) (by rw [add_block]; exact blk_ptr ha)
theorem MOk.of {s : StV} (h : RightS s) (hi : s.inp.size ≤ 9223372036854775807) : MOk s := ⟨h.st, h.bk, h.me, h.out, h.rd, hi⟩
theorem LightS.ok {s : StV} (h : LightS s) : MOk s := MOk.of h.right (by have := h.inp; omega)
theorem Gl.no {w w' : World} (h : Gl w) (c : Chg No w w') : Gl w' := h.chg c (fun h => h)
end Go.Proofs.Ytkjpmkopnkkbmaa

/- inner.Boot, Enter, Step; the first call of chapter 9's statements. -/
set_option maxRecDepth 100000
namespace Go.Proofs.Ytkjpmkopnkkbmaa
open Go.RowKit

theorem brB_t' {b : Bool} {P Q : Prop} (h : b = true) (p : P) : brB b P Q := by rw [h]; exact brB_t p
theorem runM_eq {s s' : StV} {k m : Nat} (h : mRun k s = (s', m)) : runM s (k : Int) = (s', (m : Int)) := by
  unfold runM; rw [if_pos (by omega), Int.toNat_natCast, h]
/-- A memory at its beginning, so far. -/
def bootP (M k : Nat) : List Int := (List.range M).map fun q => if q < 64 + 2 * k then bootC q else 0
theorem bootP_len (M k : Nat) : (bootP M k).length = M := by unfold bootP; simp
theorem bootP_zero (M : Nat) : ((List.replicate M (0 : Int)).set 0 0).set 1 1 = bootP M 0 := by
  apply List.ext_getElem?
  intro q
  by_cases hq : q < M
  · unfold bootP
    rw [List.getElem?_map, List.getElem?_range hq]
    by_cases h1 : q = 1
    · subst h1; rw [List.getElem?_set_self (by simp; omega)]; rfl
    · rw [List.getElem?_set_ne (by omega)]
      by_cases h0 : q = 0
      · subst h0; rw [List.getElem?_set_self (by simp; omega)]; rfl
      · rw [List.getElem?_set_ne (by omega), List.getElem?_replicate, if_pos hq]
        show some (0 : Int) = some (if q < 64 + 2 * 0 then bootC q else 0)
        by_cases h64 : q < 64 + 2 * 0
        · rw [if_pos h64]; unfold bootC; rw [if_neg h1, if_neg (by omega)]
        · rw [if_neg h64]
  · rw [List.getElem?_eq_none (by simp; omega), List.getElem?_eq_none (by rw [bootP_len]; omega)]
theorem bootP_step (M k : Nat) (hk : k < 48) : ((bootP M k).set (64 + 2 * k) (k : Int)).set (64 + 2 * k + 1) 5 = bootP M (k + 1) := by
  apply List.ext_getElem?
  intro q
  by_cases hq : q < M
  · by_cases h1 : q = 64 + 2 * k + 1
    · subst h1
      rw [List.getElem?_set_self (by rw [List.length_set, bootP_len]; omega)]
      unfold bootP
      rw [List.getElem?_map, List.getElem?_range hq]
      show some (5 : Int) = some (if 64 + 2 * k + 1 < 64 + 2 * (k + 1) then bootC (64 + 2 * k + 1) else 0)
      rw [if_pos (by omega)]; unfold bootC; rw [if_neg (by omega), if_pos (by omega), if_neg (by omega)]
    · rw [List.getElem?_set_ne (by omega)]
      by_cases h0 : q = 64 + 2 * k
      · subst h0
        rw [List.getElem?_set_self (by rw [bootP_len]; omega)]
        unfold bootP
        rw [List.getElem?_map, List.getElem?_range hq]
        show some (k : Int) = some (if 64 + 2 * k < 64 + 2 * (k + 1) then bootC (64 + 2 * k) else 0)
        rw [if_pos (by omega)]; unfold bootC; rw [if_neg (by omega), if_pos (by omega), if_pos (by omega)]; congr 1; omega
      · rw [List.getElem?_set_ne (by omega)]
        unfold bootP
        rw [List.getElem?_map, List.getElem?_map, List.getElem?_range hq]
        show some (if q < 64 + 2 * k then bootC q else 0) = some (if q < 64 + 2 * (k + 1) then bootC q else 0)
        by_cases hlt : q < 64 + 2 * k
        · rw [if_pos hlt, if_pos (by omega)]
        · rw [if_neg hlt, if_neg (by omega)]
  · rw [List.getElem?_eq_none (by simp [bootP_len]; omega), List.getElem?_eq_none (by rw [bootP_len]; omega)]
theorem bootP_end (M : Nat) : bootP M 48 = bootM M := by
  unfold bootP bootM
  apply List.map_congr_left
  intro q _
  split
  · rfl
  · unfold bootC; rw [if_neg (by omega), if_neg (by omega)]
/-- A machine that runs from a cell on. -/
def enterV (s : StV) (xt : Int) : StV := ⟨xt, 0, s.stack, [0], s.mem, s.out, s.inp, s.read, 0, 0⟩
def aliveM : List Int := (((((bootM 300).set 192 2).set 193 3).set 194 6).set 195 13).set 196 5
theorem alive_run : mRun 99 ⟨192, 0, [], [0], aliveM, bs [], bs [], 0, 0, 0⟩ = (⟨0, 0, [9], [], aliveM, bs [], bs [], 0, 1, 0⟩, 94) := by
  have hl : aliveM.length = 300 := by unfold aliveM; simp [bootM_len]
  have a : ∀ {i c : Int}, 0 ≤ i → i < 300 → getI aliveM i = c → OpAt aliveM i c := fun h0 h1 h2 => ⟨h0, by omega, h2⟩
  rw [run_lit (x := 3) (a (by decide) (by decide) (by decide +kernel)) (a (by decide) (by decide) (by decide +kernel)) (by simp) (by simp)]
  rw [show ([] : List Int) ++ [3] = [] ++ [3] from rfl, run_dup (a (by decide) (by decide) (by decide +kernel)) (by simp) (by simp)]
  rw [run_mul (a (by decide) (by decide) (by decide +kernel)) (by simp) (by simp), show ([0] : List Int) = [] ++ [0] from rfl]
  rw [run_exit (a (by decide) (by decide) (by decide +kernel)) (by simp) (by simp), run_halt (a (by decide) (by decide) (by decide +kernel)) (by simp) (by simp)]
  have e : wrap64 (3 * 3) = 9 := by decide +kernel
  rw [e]; rfl
end Go.Proofs.Ytkjpmkopnkkbmaa
