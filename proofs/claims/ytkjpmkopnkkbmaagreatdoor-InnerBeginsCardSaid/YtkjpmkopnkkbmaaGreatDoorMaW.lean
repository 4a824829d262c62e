/- Words that are caught; talks; faults: what they come to. No program in sight. -/
import Derived.Test.YtkjpmkopnkkbmaaGreatDoorMaU
set_option maxRecDepth 100000
namespace Go.Proofs.YtkjpmkopnkkbmaaGreatDoor
open Go.RowKit

/-! ### Catch -/
def litsC (more : List Int) : List Int := more.flatMap fun m => [2, m]
theorem lits_run {M : List Int} {hd rd code : Int} {out inp : ByteArray} : ∀ (more : List Int) (ip : Int) (l bk : List Int) (n : Nat), HasC M ip (litsC more) → l.length + more.length ≤ 48 → bk.length ≤ 48 →
    mRun (n + more.length) ⟨ip, hd, l, bk, M, out, inp, rd, 0, code⟩ = mRun n ⟨ip + 2 * more.length, hd, l ++ more, bk, M, out, inp, rd, 0, code⟩
  | [], ip, l, bk, n, _, _, _ => by simp
  | x :: r, ip, l, bk, n, h, h1, h2 => by
    obtain ⟨a0, a1, hr⟩ := h
    have hr : HasC M (ip + 1 + 1) (litsC r) := hr
    rw [List.length_cons] at h1
    rw [List.length_cons, ← Nat.add_assoc, run_lit a0 a1 (by omega) h2, lits_run r _ _ _ n hr (by simp; omega) h2]
    congr 2
    · omega
    · simp
/-- What InnerCatch lays. -/
def catchC (more : List Int) (v : Int) : List Int := litsC more ++ [2, v, 45, 5]
theorem litsC_len (more : List Int) : (litsC more).length = 2 * more.length := by
  induction more with
  | nil => rfl
  | cons x r ih => show (2 :: x :: litsC r).length = _; rw [List.length_cons, List.length_cons, ih, List.length_cons]; omega
theorem mDo_throw {s : StV} {arg was v : Int} (h : topV s = v) (hv : v ≠ 0) : mDo s 45 arg was = .bad v true := by
  unfold mDo mFlow; rw [h]; simp [hv]
theorem mAdv_throw {ip hd rd code a : Int} {st bk mem : List Int} {out inp : ByteArray} (h : OpAt mem ip 45) (ha : a ≠ 0) (hl : st.length < 48) (hb : bk.length ≤ 48) :
    mAdv ⟨ip, hd, st ++ [a], bk, mem, out, inp, rd, 0, code⟩ = mFault ⟨ip, hd, st, bk, mem, out, inp, rd, 0, code⟩ a := by
  have e1 := mStep_op (s := ⟨ip, hd, st ++ [a], bk, mem, out, inp, rd, 0, code⟩) 45 1 0 0 0 ⟨rfl, rfl, rfl, rfl⟩ (by decide) h.1 h.2.1 h.2.2 (fun h => by cases h) (by refine ⟨?_, ?_, ?_, ?_⟩ <;> simp <;> omega)
  have e2 : mStep ⟨ip, hd, st ++ [a], bk, mem, out, inp, rd, 0, code⟩ = .bad a true := by
    rw [e1]; exact mDo_throw (top1 st a) ha
  have e3 : popV ⟨ip, hd, st ++ [a], bk, mem, out, inp, rd, 0, code⟩ = ⟨ip, hd, st, bk, mem, out, inp, rd, 0, code⟩ := by
    unfold popV; congr 1; exact cut1 _ _
  unfold mAdv
  rw [e2, ← e3]; rfl
section
variable {M l more : List Int} {v : Int}
theorem catch_head (h : HasC M 200 [2, 220, 46, 3, 205, 0]) (hm : HasC M 220 (litsC more)) (hl : l.length ≤ 10) (hn : more.length ≤ 20) (n : Nat) :
    mRun (n + 2 + more.length) (stk 200 l [] M) = mRun n ⟨220 + 2 * more.length, 3, l ++ more, [203, 0, l.length, 1], M, bs [], bs [], 0, 0, 0⟩ := by
  obtain ⟨a0, a1, a2, -⟩ := h
  unfold stk
  rw [show n + 2 + more.length = (n + more.length) + 1 + 1 by omega, run_lit a0 a1 (by omega) (by simp), run_catch a2 (by omega) (by simp)]
  rw [lits_run more 220 l _ n hm (by omega) (by simp)]
  rfl
/-- One that throws nothing. -/
theorem catch_zero (h : HasC M 200 [2, 220, 46, 3, 205, 0]) (h1 : OpAt M 1 1) (hm : HasC M 220 (catchC more 0)) (hl : l.length ≤ 10) (hn : more.length ≤ 20) :
    (∀ n, mRun (n + 4 + 2 + more.length) (stk 200 l [] M) = mRun n (stk 203 (l ++ more ++ [0]) [] M)) ∧ ∀ n, mRun (n + 6 + 2 + more.length) (stk 200 l [] M) = (⟨205, 0, l ++ more ++ [0], [], M, bs [], bs [], 0, 1, 0⟩, n) := by
  obtain ⟨m1, m2⟩ := has_app hm
  rw [litsC_len] at m2
  obtain ⟨b0, b1, b2, b3, -⟩ := m2
  have e : ∀ n, mRun (n + 4 + 2 + more.length) (stk 200 l [] M) = mRun n (stk 203 (l ++ more ++ [0]) [] M) := fun n => by
    rw [catch_head h m1 hl hn]
    rw [show ((220 : Int) + 2 * (more.length : Int)) = 220 + ((2 * more.length : Nat) : Int) by omega]
    rw [run_lit b0 b1 (by simp; omega) (by simp), run_throw0 b2 (by simp; omega) (by simp)]
    rw [show ([203, 0, (l.length : Int), 1] : List Int) = [203, 0, (l.length : Int)] ++ [1] from rfl, run_exit b3 (by simp; omega) (by simp)]
    rw [show ([203, 0, (l.length : Int)] : List Int) = [] ++ [203, 0, (l.length : Int)] from rfl, run_endCatch h1 (by rfl) (by simp; omega) (by simp)]
    rfl
  refine ⟨e, fun n => ?_⟩
  rw [show n + 6 + 2 + more.length = (n + 2) + 4 + 2 + more.length by omega, e]
  obtain ⟨_, _, _, a3, a4, a5, -⟩ := h
  have a3 : OpAt M 203 3 := a3
  have a4 : OpAt M (203 + 1) 205 := a4
  have a5 : OpAt M 205 0 := a5
  unfold stk
  rw [run_branch a3 a4 (by simp; omega) (by simp)]
  rw [run_halt a5 (by simp; omega) (by simp)]
/-- One that throws. -/
theorem catch_throws (h : HasC M 200 [2, 220, 46, 3, 205, 0]) (hm : HasC M 220 (catchC more v)) (hv : v ≠ 0) (hl : l.length ≤ 10) (hn : more.length ≤ 20) :
    (∀ n, mRun (n + 2 + 2 + more.length) (stk 200 l [] M) = mRun n (stk 203 (l ++ [v]) [] M)) ∧ ∀ n, mRun (n + 4 + 2 + more.length) (stk 200 l [] M) = (⟨205, 0, l ++ [v], [], M, bs [], bs [], 0, 1, 0⟩, n) := by
  obtain ⟨m1, m2⟩ := has_app hm
  rw [litsC_len] at m2
  obtain ⟨b0, b1, b2, b3, -⟩ := m2
  have e : ∀ n, mRun (n + 2 + 2 + more.length) (stk 200 l [] M) = mRun n (stk 203 (l ++ [v]) [] M) := fun n => by
    rw [catch_head h m1 hl hn]
    rw [show ((220 : Int) + 2 * (more.length : Int)) = 220 + ((2 * more.length : Nat) : Int) by omega]
    rw [run_lit b0 b1 (by simp; omega) (by simp)]
    refine mRun_go n rfl ?_
    rw [mAdv_throw b2 hv (by simp; omega) (by simp)]
    have e3 : mCaught (⟨220 + ((2 * more.length : Nat) : Int) + 1 + 1, 3, l ++ more, [203, 0, (l.length : Int), 1], M, bs [], bs [], 0, 0, 0⟩ : StV) = some l.length := by
      unfold mCaught
      have eg : getI [203, 0, (l.length : Int), 1] (3 - 1) = (l.length : Int) := rfl
      simp only [eg]
      rw [if_pos (by simp; omega)]; simp
    unfold mFault
    rw [e3]
    unfold stk
    simp only []
    congr 1
    · rw [List.take_left]; simp
  refine ⟨e, fun n => ?_⟩
  rw [show n + 4 + 2 + more.length = (n + 2) + 2 + 2 + more.length by omega, e]
  obtain ⟨_, _, _, a3, a4, a5, -⟩ := h
  have a3 : OpAt M 203 3 := a3
  have a4 : OpAt M (203 + 1) 205 := a4
  have a5 : OpAt M 205 0 := a5
  unfold stk
  rw [run_branch a3 a4 (by simp; omega) (by simp)]
  rw [run_halt a5 (by simp; omega) (by simp)]
end

/-! ### Talks -/
def emitsC (l : List Int) : List Int := l.flatMap fun x => [2, x, 41]
theorem emitsC_len (l : List Int) : (emitsC l).length = 3 * l.length := by
  induction l with
  | nil => rfl
  | cons x r ih => show (2 :: x :: 41 :: emitsC r).length = _; rw [List.length_cons, List.length_cons, List.length_cons, ih, List.length_cons]; omega
theorem emits_run {M : List Int} {inp : ByteArray} : ∀ (l : List Int) (ip : Int) (out : List UInt8) (n : Nat), HasC M ip (emitsC l) → out.length + l.length ≤ 1000 →
    mRun (n + 2 * l.length) ⟨ip, 0, [], [], M, bs out, inp, 0, 0, 0⟩ = mRun n ⟨ip + 3 * l.length, 0, [], [], M, bs (out ++ l.map byteC), inp, 0, 0, 0⟩
  | [], ip, out, n, _, _ => by simp
  | x :: r, ip, out, n, h, h1 => by
    obtain ⟨a0, a1, a2, hr⟩ := h
    have hr : HasC M (ip + 1 + 1 + 1) (emitsC r) := hr
    rw [List.length_cons] at h1
    have eo : bs out ++ bs [byteC x] = bs (out ++ [byteC x]) := by
      apply ByteArray.ext; rw [ByteArray.data_append]; simp
    have es : (bs out).size = out.length := rfl
    rw [List.length_cons, show n + 2 * (r.length + 1) = (n + 2 * r.length) + 1 + 1 by omega, run_lit a0 a1 (by simp) (by simp)]
    rw [run_emit a2 (by omega) (by simp) (by simp), eo, emits_run r _ _ n hr (by simp; omega)]
    congr 2
    · omega
    · simp
/-- Bytes that are asked for, and then none. -/
def keyV (inp : ByteArray) (i : Nat) : Int := if (inp.size : Int) ≤ i then -1 else sb inp i
theorem keys_run {M : List Int} {out inp : ByteArray} : ∀ (k : Nat) (ip : Int) (i : Nat) (n : Nat), HasC M ip (List.replicate k 43) → i + k ≤ 40 →
    mRun (n + k) ⟨ip, 0, (List.range i).map (keyV inp), [], M, out, inp, ((min i inp.size : Nat) : Int), 0, 0⟩ = mRun n ⟨ip + k, 0, (List.range (i + k)).map (keyV inp), [], M, out, inp, ((min (i + k) inp.size : Nat) : Int), 0, 0⟩
  | 0, ip, i, n, _, _ => by simp
  | k + 1, ip, i, n, h, h1 => by
    rw [List.replicate_succ] at h
    obtain ⟨a0, hr⟩ := h
    have hst : ((List.range i).map (keyV inp)) ++ [keyV inp i] = (List.range (i + 1)).map (keyV inp) := by rw [List.range_succ, List.map_append]; rfl
    have hlen : ((List.range i).map (keyV inp)).length = i := by simp
    have step : mRun (n + k + 1) ⟨ip, 0, (List.range i).map (keyV inp), [], M, out, inp, ((min i inp.size : Nat) : Int), 0, 0⟩ = mRun (n + k) ⟨ip + 1, 0, (List.range (i + 1)).map (keyV inp), [], M, out, inp, ((min (i + 1) inp.size : Nat) : Int), 0, 0⟩ := by
      by_cases hk : inp.size ≤ i
      · rw [run_keyNo a0 (by omega) (by omega) (by simp), ← hst]
        have : keyV inp i = -1 := by unfold keyV; rw [if_pos (by omega)]
        rw [this, show min i inp.size = min (i + 1) inp.size by omega]
      · rw [run_key a0 (by omega) (by omega) (by simp), ← hst]
        have : keyV inp i = sb inp ((min i inp.size : Nat) : Int) := by unfold keyV; rw [if_neg (by omega), Nat.min_eq_left (by omega)]
        rw [this, show ((min i inp.size : Nat) : Int) + 1 = ((min (i + 1) inp.size : Nat) : Int) by omega]
    rw [← Nat.add_assoc]
    have := keys_run (out := out) (inp := inp) k (ip + 1) (i + 1) n hr (by omega)
    have e1 := step.trans this
    rw [show i + 1 + k = i + (k + 1) by omega, show ip + 1 + (k : Int) = ip + ((k + 1 : Nat) : Int) by omega] at e1
    exact e1
theorem talks_law {M l : List Int} {inp : ByteArray} (h : HasC M 200 (emitsC l ++ (List.replicate 20 43 ++ [0]))) (hl : l.length ≤ 30) :
    ∃ k, mRun 500 ⟨200, 0, [], [], M, bs [], inp, 0, 0, 0⟩ = (⟨220 + 3 * l.length, 0, (List.range 20).map (keyV inp), [], M, bs (l.map byteC), inp, ((min 20 inp.size : Nat) : Int), 1, 0⟩, k) := by
  obtain ⟨h1, h2⟩ := has_app h
  obtain ⟨h3, h4⟩ := has_app h2
  rw [emitsC_len] at h3 h4
  rw [List.length_replicate] at h4
  obtain ⟨m, hm⟩ : ∃ m, 500 = (m + 1) + 20 + 2 * l.length := ⟨479 - 2 * l.length, by omega⟩
  refine ⟨m, ?_⟩
  rw [hm, emits_run l 200 [] _ h1 (by simp; omega)]
  have := keys_run (M := M) (out := bs (l.map byteC)) (inp := inp) 20 (200 + ((3 * l.length : Nat) : Int)) 0 (m + 1) h3 (by omega)
  rw [show (200 : Int) + 3 * (l.length : Int) = 200 + ((3 * l.length : Nat) : Int) by omega, List.nil_append]
  have e0 : ((min 0 inp.size : Nat) : Int) = 0 := by simp
  rw [e0] at this
  refine (show _ = _ from this).trans ?_
  rw [run_halt (by exact h4.1) (by simp) (by simp)]
  congr 2
  · omega
end Go.Proofs.YtkjpmkopnkkbmaaGreatDoor
