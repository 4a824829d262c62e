/- The lifted text of the package build; the places of a recording. -/
import Derived.Shelf.Sort.Plain
import Derived.Ground.Names2Prog
import Derived.Shelf.Slices.CompactI
import Derived.Shelf.Slices.In.SortNone
import Derived.Test.YtkjpmkopnkkbmaaProg
import Derived.Test.YtkjpmkopnkkbmaaJQ
import Derived.Lib.SlicesCompact
import Derived.Lib.RowBridge
import Derived.Test.YtkjpmkopnkkbmaaJ4
import Derived.Sort.OwnSortedInts
import Derived.Test.YtkjpmkopnkkbmaaJ5
import Derived.Test.YtkjpmkopnkkbmaaJ2
import Derived.Test.YtkjpmkopnkkbmaaJR

/- slices.Sort and slices.Compact at lists of numbers: the shelf's contracts at this program. (Laid by the kit's own tools; see mksol.py.) -/
set_option maxRecDepth 100000
namespace Go.Proofs.Ytkjpmkopnkkbmaa
def lays189_ren : Go.Shelf.Ren := ⟨fun | 189 => 49 | 125 => 66 | 257 => 65 | 128 => 90 | 129 => 91 | 294 => 81 | 295 => 82 | 296 => 83 | 297 => 84 | 298 => 85 | 299 => 86 | 216 => 87 | 300 => 88 | 301 => 89 | 328 => 93 | 329 => 94 | 330 => 95 | 331 => 96 | 332 => 97 | 215 => 98 | 343 => 100 | n => n, fun | 28 => 22 | 3 => 3 | 46 => 92 | 0 => 0 | 51 => 106 | 53 => 88 | 4 => 4 | 183 => 100 | 182 => 99 | 131 => 74 | 5 => 5 | 9 => 9 | 218 => 108 | 222 => 112 | 228 => 114 | 229 => 65 | n => n, fun | n => n⟩
theorem lays189 : Go.Proofs.Lays.n189 Try.prog lays189_ren := {
  mixed := by kernel_rfl
  f125 := Try.func66.trans (congrArg some (by kernel_rfl))
  f128 := Try.func90.trans (congrArg some (by kernel_rfl))
  f129 := Try.func91.trans (congrArg some (by kernel_rfl))
  f189 := Try.func49.trans (congrArg some (by kernel_rfl))
  f215 := Try.func98.trans (congrArg some (by kernel_rfl))
  f216 := Try.func87.trans (congrArg some (by kernel_rfl))
  f257 := Try.func65.trans (congrArg some (by kernel_rfl))
  f294 := Try.func81.trans (congrArg some (by kernel_rfl))
  f295 := Try.func82.trans (congrArg some (by kernel_rfl))
  f296 := Try.func83.trans (congrArg some (by kernel_rfl))
  f297 := Try.func84.trans (congrArg some (by kernel_rfl))
  f298 := Try.func85.trans (congrArg some (by kernel_rfl))
  f299 := Try.func86.trans (congrArg some (by kernel_rfl))
  f300 := Try.func88.trans (congrArg some (by kernel_rfl))
  f301 := Try.func89.trans (congrArg some (by kernel_rfl))
  f328 := Try.func93.trans (congrArg some (by kernel_rfl))
  f329 := Try.func94.trans (congrArg some (by kernel_rfl))
  f330 := Try.func95.trans (congrArg some (by kernel_rfl))
  f331 := Try.func96.trans (congrArg some (by kernel_rfl))
  f332 := Try.func97.trans (congrArg some (by kernel_rfl))
  f343 := Try.func100.trans (congrArg some (by kernel_rfl))
  t0 := Try.underlying0
  a0 := Try.isAgg0
  z0 := Try.sizeOf0
  v0 := Try.zeroValue0
  t3 := Try.underlying3
  a3 := Try.isAgg3
  z3 := Try.sizeOf3
  v3 := Try.zeroValue3
  t4 := Try.underlying4
  a4 := Try.isAgg4
  z4 := Try.sizeOf4
  v4 := Try.zeroValue4
  t5 := Try.underlying5
  a5 := Try.isAgg5
  z5 := Try.sizeOf5
  v5 := Try.zeroValue5
  t9 := Try.underlying9
  a9 := Try.isAgg9
  z9 := Try.sizeOf9
  v9 := Try.zeroValue9
  t28 := Try.underlying22
  a28 := Try.isAgg22
  z28 := Try.sizeOf22
  v28 := Try.zeroValue22
  t46 := Try.underlying92
  a46 := Try.isAgg92
  z46 := Try.sizeOf92
  v46 := Try.zeroValue92
  t51 := Try.underlying106
  a51 := Try.isAgg106
  z51 := Try.sizeOf106
  v51 := Try.zeroValue106
  t53 := Try.underlying88
  a53 := Try.isAgg88
  z53 := Try.sizeOf88
  v53 := Try.zeroValue88
  t131 := Try.underlying74
  a131 := Try.isAgg74
  z131 := Try.sizeOf74
  v131 := Try.zeroValue74
  t182 := Try.underlying99
  a182 := Try.isAgg99
  z182 := Try.sizeOf99
  v182 := Try.zeroValue99
  t183 := Try.underlying100
  a183 := Try.isAgg100
  z183 := Try.sizeOf100
  v183 := Try.zeroValue100
  t218 := Try.underlying108
  a218 := Try.isAgg108
  z218 := Try.sizeOf108
  v218 := Try.zeroValue108
  t222 := Try.underlying112
  a222 := Try.isAgg112
  z222 := Try.sizeOf112
  v222 := Try.zeroValue112
  t228 := Try.underlying114
  a228 := Try.isAgg114
  z228 := Try.sizeOf114
  v228 := Try.zeroValue114
  t229 := Try.underlying65
  a229 := Try.isAgg65
  z229 := Try.sizeOf65
  v229 := Try.zeroValue65 }
open Go.Sort Go.RowKit in
theorem slices_Sort_int (blk off cap : Nat) (zs : List Int) (w : World) (hH : Holds (Value.int .i64) w blk off zs.toArray) (hblk : blk < w.heap.size) (hsz : zs.length < 4611686018427387904) :
    Calls Try.prog 49 #[.slice (some ⟨blk, off, none⟩) zs.length cap] w fun e w' =>
      e = .returned (.tuple #[]) ∧ ∃ n os, w' = grow (putRow (Value.int .i64) (Sort.ahead w n) blk off (zs.mergeSort fun x y => decide (x ≤ y)).toArray) os := Any.slices_Sort_int lays189 blk off cap zs w hH hblk hsz
def laysNm220_ren : Go.Shelf.Ren := ⟨fun | 20 => 50 | n => n, fun | 22 => 22 | 3 => 3 | 4 => 4 | 0 => 0 | n => n, fun | n => n⟩
theorem laysNm220 : Go.Proofs.Lays2.n20 Try.prog laysNm220_ren := {
  mixed := by kernel_rfl
  f20 := Try.func50.trans (congrArg some (by kernel_rfl))
  t0 := Try.underlying0
  a0 := Try.isAgg0
  z0 := Try.sizeOf0
  v0 := Try.zeroValue0
  t3 := Try.underlying3
  a3 := Try.isAgg3
  z3 := Try.sizeOf3
  v3 := Try.zeroValue3
  t4 := Try.underlying4
  a4 := Try.isAgg4
  z4 := Try.sizeOf4
  v4 := Try.zeroValue4
  t22 := Try.underlying22
  a22 := Try.isAgg22
  z22 := Try.sizeOf22
  v22 := Try.zeroValue22
  i3 := by kernel_rfl }
open Go.RowKit Go.Lib Go.Sort in
theorem slices_Compact_int (blk off cap : Nat) (zs : List Int) (w : World) (hH : Holds (Value.int .i64) w blk off zs.toArray) (hsz : zs.length ≤ 9223372036854775807) (hcap : zs.length ≤ cap) :
    Calls Try.prog 50 #[.slice (some ⟨blk, off, none⟩) zs.length cap] w fun e w' => e = .returned (.slice (some ⟨blk, off, none⟩) (Lib.compact zs).length cap) ∧ ∃ q, w' = putRow (Value.int .i64) (Sort.ahead w q) blk off (Lib.compact zs ++ List.replicate (zs.length - (Lib.compact zs).length) 0).toArray := Any.slices_Compact_int laysNm220 blk off cap zs w hH hsz hcap
open Go.RowKit Go.Lib Go.Sort in
theorem slices_Compact_int_empty (a : Option Addr) (cap : Nat) (w : World) :
    Calls Try.prog 50 #[.slice a 0 cap] w fun e w' => e = .returned (.slice a 0 cap) ∧ w' = w := Any.slices_Compact_int_empty laysNm220 a cap w
open Go.RowKit Go.Sort in
theorem slices_Sort_int_none (p : Option Addr) (cap : Nat) (w : World) :
    Calls Try.prog 49 #[.slice p 0 cap] w fun e w' => e = .returned (.tuple #[]) ∧ w' = w := Any.slices_Sort_int_none lays189 p cap w
end Go.Proofs.Ytkjpmkopnkkbmaa

/- A cell that no recorded step looked at does not matter. No program in sight. -/
set_option maxRecDepth 100000
namespace Go.Proofs.Ytkjpmkopnkkbmaa
open Go.RowKit

/-- Two memories that differ at most in the cell a. -/
def Agr (a : Nat) (m m' : List Int) : Prop := m.length = m'.length ∧ ∀ n : Nat, n ≠ a → m.getD n 0 = m'.getD n 0
theorem Agr.get {a : Nat} {m m' : List Int} (h : Agr a m m') {i : Int} (hi : i.toNat ≠ a) : getI m' i = getI m i := (h.2 _ hi).symm
theorem agr_set (m : List Int) (a : Nat) (v : Int) : Agr a m (m.set a v) := by
  refine ⟨by simp, fun n hn => ?_⟩
  simp only [List.getD_eq_getElem?_getD, List.getElem?_set_ne (Ne.symm hn)]
theorem Agr.put {a : Nat} {m m' : List Int} (h : Agr a m m') (i : Nat) (v : Int) : Agr a (m.set i v) (m'.set i v) := by
  refine ⟨by simp [h.1], fun n hn => ?_⟩
  have e := h.2 n hn
  simp only [List.getD_eq_getElem?_getD, List.getElem?_set, h.1] at e ⊢
  by_cases hin : i = n
  · simp only [hin, if_true]
  · simp only [hin, if_false]; exact e
/-- A machine with another memory. -/
def wm (s : StV) (m : List Int) : StV := { s with mem := m }
def RsDf (a : Nat) (r r' : Rs) : Prop := match r with
  | .ok s => ∃ m, r' = .ok (wm s m) ∧ Agr a s.mem m
  | .bad c th => r' = .bad c th
theorem df_ok {a : Nat} {s : StV} {m : List Int} (h : Agr a s.mem m) : RsDf a (.ok s) (.ok (wm s m)) := ⟨m, rfl, h⟩
theorem mLoopR_mem (s : StV) (i l n a : Int) (e : Bool) : (mLoopR s i l n a e).mem = s.mem ∧ ∀ m, mLoopR (wm s m) i l n a e = wm (mLoopR s i l n a e) m := by
  unfold mLoopR; cases e <;> exact ⟨rfl, fun _ => rfl⟩
theorem mDo_df {a : Nat} {s : StV} {m : List Int} (h : Agr a s.mem m) {c arg was : Int} (h30 : c ≠ 30) (h32 : c ≠ 32) : RsDf a (mDo s c arg was) (mDo (wm s m) c arg was) := by
  unfold mDo
  by_cases h0 : c = 0
  · rw [if_pos h0, if_pos h0]; exact ⟨m, rfl, h⟩
  rw [if_neg h0, if_neg h0]
  by_cases h2 : c = 2
  · rw [if_pos h2, if_pos h2]; exact ⟨m, rfl, h⟩
  rw [if_neg h2, if_neg h2]
  by_cases h4 : c = 4
  · rw [if_pos h4, if_pos h4]
    show RsDf a (if topV s ≠ 0 then _ else _) (if topV s ≠ 0 then _ else _)
    split <;> exact ⟨m, rfl, h⟩
  rw [if_neg h4, if_neg h4]
  by_cases h3 : c = 3
  · rw [if_pos h3, if_pos h3]; exact ⟨m, rfl, h⟩
  rw [if_neg h3, if_neg h3]
  by_cases h5 : c = 5
  · rw [if_pos h5, if_pos h5]; exact ⟨m, rfl, h⟩
  rw [if_neg h5, if_neg h5]
  by_cases h6 : 6 ≤ c ∧ c ≤ 10
  · rw [if_pos h6, if_pos h6]
    unfold mShuf
    split
    · exact ⟨m, rfl, h⟩
    split
    · exact ⟨m, rfl, h⟩
    split
    · exact ⟨m, rfl, h⟩
    split
    · exact ⟨m, rfl, h⟩
    · exact ⟨m, rfl, h⟩
  rw [if_neg h6, if_neg h6]
  by_cases h7 : 30 ≤ c ∧ c ≤ 32
  · rw [if_pos h7, if_pos h7]
    have h31 : c = 31 := by omega
    unfold mMem
    show RsDf a (if topV s < 0 ∨ (s.mem.length : Int) ≤ topV s then _ else _) (if topV s < 0 ∨ (m.length : Int) ≤ topV s then _ else _)
    rw [← h.1]
    split
    · rfl
    exact ⟨m.set (topV s).toNat (wr (0 + topV (popV s))), rfl, h.put _ _⟩
  rw [if_neg h7, if_neg h7]
  by_cases h8 : (33 ≤ c ∧ c ≤ 36) ∨ c = 39 ∨ c = 40
  · rw [if_pos h8, if_pos h8]
    unfold mBacks
    split
    · exact ⟨m, rfl, h⟩
    split
    · exact ⟨m, rfl, h⟩
    split
    · exact ⟨m, rfl, h⟩
    split
    · exact ⟨m, rfl, h⟩
    split
    · exact ⟨m, rfl, h⟩
    · exact ⟨m, rfl, h⟩
  rw [if_neg h8, if_neg h8]
  by_cases h9 : c = 37 ∨ c = 38
  · rw [if_pos h9, if_pos h9]
    unfold mLoop
    split
    · have := mLoopR_mem (popV (popB (popB s))) (topB s) (topB (popB s)) (topV s) arg (Cn.crosses (wr (topB s - topB (popB s))) (topV s))
      exact ⟨m, congrArg Rs.ok (this.2 m), by rw [this.1]; exact h⟩
    · have := mLoopR_mem (popB (popB s)) (topB s) (topB (popB s)) 1 arg (decide (wr (topB s + 1) = topB (popB s)))
      exact ⟨m, congrArg Rs.ok (this.2 m), by rw [this.1]; exact h⟩
  rw [if_neg h9, if_neg h9]
  by_cases h10 : c = 41 ∨ c = 42
  · rw [if_pos h10, if_pos h10]
    unfold mSay
    show RsDf a (if 2000 < (s.out.size : Int) + (mText c (topV s)).size then _ else _) (if 2000 < (s.out.size : Int) + (mText c (topV s)).size then _ else _)
    split
    · rfl
    · exact ⟨m, rfl, h⟩
  rw [if_neg h10, if_neg h10]
  by_cases h11 : c = 43
  · rw [if_pos h11, if_pos h11]
    unfold mKey
    show RsDf a (.ok (if (s.inp.size : Int) ≤ s.read then _ else _)) (.ok (if (s.inp.size : Int) ≤ s.read then _ else _))
    split <;> exact ⟨m, rfl, h⟩
  rw [if_neg h11, if_neg h11]
  by_cases h12 : (44 ≤ c ∧ c ≤ 46) ∨ c = 1
  · rw [if_pos h12, if_pos h12]
    unfold mFlow
    split
    · show RsDf a (if topV s < 64 ∨ (s.mem.length : Int) ≤ topV s then _ else _) (if topV s < 64 ∨ (m.length : Int) ≤ topV s then _ else _)
      rw [← h.1]
      split
      · rfl
      · exact ⟨m, rfl, h⟩
    split
    · show RsDf a (if topV s = 0 then _ else _) (if topV s = 0 then _ else _)
      split
      · exact ⟨m, rfl, h⟩
      · rfl
    split
    · exact ⟨m, rfl, h⟩
    · unfold mEnd
      show RsDf a (if s.handler < 3 ∨ (s.back.length : Int) ≠ s.handler then _ else if 48 ≤ s.stack.length then _ else _) (if s.handler < 3 ∨ (s.back.length : Int) ≠ s.handler then _ else if 48 ≤ s.stack.length then _ else _)
      split
      · rfl
      split
      · rfl
      · exact ⟨m, rfl, h⟩
  rw [if_neg h12, if_neg h12]
  by_cases h13 : c = 47
  · rw [if_pos h13, if_pos h13]; exact ⟨m, rfl, h⟩
  rw [if_neg h13, if_neg h13]
  unfold mReck
  show RsDf a (if Cn.isOne c = true then _ else if Cn.isTwo c (topV s) = true then _ else _) (if Cn.isOne c = true then _ else if Cn.isTwo c (topV s) = true then _ else _)
  split
  · exact ⟨m, rfl, h⟩
  split
  · exact ⟨m, rfl, h⟩
  · rfl
theorem mStep_df {a : Nat} {s : StV} {m : List Int} (h : Agr a s.mem m) (h1 : s.ip.toNat ≠ a) (h2 : opArg (getI s.mem s.ip) = true → (s.ip + 1).toNat ≠ a) (h30 : getI s.mem s.ip ≠ 30) (h32 : getI s.mem s.ip ≠ 32) : RsDf a (mStep s) (mStep (wm s m)) := by
  have e := h.get h1
  unfold mStep
  show RsDf a (if s.ip < 0 ∨ (s.mem.length : Int) ≤ s.ip then _ else _) (if s.ip < 0 ∨ (m.length : Int) ≤ s.ip then Rs.bad (-9) false else
    if 64 ≤ getI m s.ip then (if 48 ≤ s.back.length then .bad (-5) false else .ok { backV (wm s m) [s.ip + 1] with ip := getI m s.ip }) else
    if ¬ (0 ≤ getI m s.ip ∧ getI m s.ip < 48) then .bad (-13) false else
    if opArg (getI m s.ip) = true ∧ (m.length : Int) ≤ s.ip + 1 then .bad (-9) false else
    if mRoom s (getI m s.ip) ≠ 0 then .bad (mRoom s (getI m s.ip)) false else
    mDo { wm s m with ip := mNext s (getI m s.ip) } (getI m s.ip) (mArg (wm s m) (getI m s.ip)) s.ip)
  rw [e, ← h.1]
  split
  · rfl
  split
  · split
    · rfl
    · exact ⟨m, rfl, h⟩
  split
  · rfl
  split
  · rfl
  split
  · rfl
  have ea : mArg (wm s m) (getI s.mem s.ip) = mArg s (getI s.mem s.ip) := by
    unfold mArg
    split
    · next ha => exact h.get (h2 ha)
    · rfl
  rw [ea]
  exact mDo_df (s := { s with ip := mNext s (getI s.mem s.ip) }) h h30 h32
theorem mFault_df {s : StV} (m : List Int) (c : Int) : mFault (wm s m) c = wm (mFault s c) m ∧ (mFault s c).mem = s.mem := by
  have e : mCaught (wm s m) = mCaught s := rfl
  unfold mFault
  rw [e]
  cases mCaught s <;> exact ⟨rfl, rfl⟩
theorem mAdv_df {a : Nat} {s : StV} {m : List Int} (h : Agr a s.mem m) (h1 : s.ip.toNat ≠ a) (h2 : opArg (getI s.mem s.ip) = true → (s.ip + 1).toNat ≠ a) (h30 : getI s.mem s.ip ≠ 30) (h32 : getI s.mem s.ip ≠ 32) : ∃ m', mAdv (wm s m) = wm (mAdv s) m' ∧ Agr a (mAdv s).mem m' := by
  have g := mStep_df h h1 h2 h30 h32
  unfold mAdv
  cases hs : mStep s with
  | ok s' =>
    rw [hs] at g
    obtain ⟨m', g1, g2⟩ := g
    rw [g1]
    exact ⟨m', rfl, g2⟩
  | bad c th =>
    rw [hs] at g
    have g : mStep (wm s m) = .bad c th := g
    rw [g]
    cases th with
    | true =>
      have := mFault_df (s := popV s) m c
      exact ⟨m, this.1, by show Agr a (mFault (popV s) c).mem m; rw [this.2]; exact h⟩
    | false =>
      have := mFault_df (s := s) m c
      exact ⟨m, this.1, by show Agr a (mFault s c).mem m; rw [this.2]; exact h⟩
theorem stepV_go {s : StV} (h : s.status = 0) : stepV s = mAdv s := by
  unfold stepV
  rw [runM_go h (by decide), runM_stop (Or.inr (by decide))]
/-- The cells that a step looked at. -/
def plsX (x : SnV) : List Int := x.ip :: (if arB x.cell = true then [x.ip + 1] else [])
def plsL : List SnV → List Int
  | [] => []
  | x :: r => plsX x ++ plsL r
theorem nextV_df {a : Nat} {s t : StV} {m : List Int} {x : SnV} (h : Agr a s.mem m) (hn : nextV s = some (x, t)) (ha : ((a : Nat) : Int) ∉ plsX x) (h30 : x.cell ≠ 30) (h32 : x.cell ≠ 32) : ∃ m', nextV (wm s m) = some (x, wm t m') ∧ Agr a t.mem m' := by
  have ru := nextV_run hn
  obtain ⟨r0, r1, r2, r3, r4, r5, r6, r7, r8, r9, r10⟩ := ru
  have n1 : s.ip.toNat ≠ a := fun he => ha (by unfold plsX; rw [r3]; exact List.mem_cons.2 (Or.inl (by omega)))
  have n2 : arB (getI s.mem s.ip) = true → (s.ip + 1).toNat ≠ a := fun hx he => ha (by
    unfold plsX
    rw [r7, if_pos hx, r3]
    exact List.mem_cons.2 (Or.inr (List.mem_cons.2 (Or.inl (by omega)))))
  have n3 : opArg (getI s.mem s.ip) = true → (s.ip + 1).toNat ≠ a := fun hx => n2 (by
    unfold arB
    have : getI s.mem s.ip < 64 := by
      unfold opArg at hx
      have hx := of_decide_eq_true hx
      omega
    rw [decide_eq_true this, hx]; rfl)
  rw [r7] at h30 h32
  have e := h.get n1
  obtain ⟨m', g1, g2⟩ := mAdv_df h n1 n3 h30 h32
  obtain ⟨m0, g3, _⟩ := mAdv_df (s := { s with handler := 0 }) (m := m) h n1 n3 h30 h32
  have e1 : stepV (wm s m) = wm (stepV s) m' := by rw [stepV_go r0, stepV_go (s := wm s m) r0]; exact g1
  have e2 : (stepV { wm s m with handler := 0 }).status = (stepV { s with handler := 0 }).status := by
    rw [stepV_go (s := { s with handler := 0 }) r0, stepV_go (s := { wm s m with handler := 0 }) r0]
    have := congrArg StV.status g3
    exact this
  refine ⟨m', ?_, by rw [r2]; exact g2⟩
  unfold nextV at hn
  split at hn
  · cases hn
  next k1 =>
  split at hn
  · cases hn
  next k2 =>
  split at hn
  · cases hn
  next k3 =>
  injection hn with hn
  injection hn with hx ht
  unfold nextV
  show (if s.ip < 0 ∨ (m.length : Int) ≤ s.ip ∨ s.status ≠ 0 ∨ plB (getI m s.ip) = false then none else
    if (stepV { wm s m with handler := 0 }).status = 2 then none else
    if placeB (stepV (wm s m)).ip = false then none else
    some ((⟨s.ip, getI m s.ip, if arB (getI m s.ip) = true then getI m (s.ip + 1) else 0, (stepV (wm s m)).ip⟩ : SnV), stepV (wm s m))) = _
  have e3 : (if arB (getI s.mem s.ip) = true then getI m (s.ip + 1) else 0) = (if arB (getI s.mem s.ip) = true then getI s.mem (s.ip + 1) else 0) := by
    split
    · next hx => exact h.get (n2 hx)
    · rfl
  rw [e, ← h.1, if_neg k1, e2, if_neg k2, e1, e3]
  show (if placeB (stepV s).ip = false then none else _) = _
  rw [if_neg k3, ← hx, ← ht]
  rfl
theorem recL_df {a : Nat} (start : Int) : ∀ (n : Nat) (s : StV) (l : List SnV) (m : List Int), Agr a s.mem m → ∃ r, (recL start n s l).steps = l ++ r ∧ (((a : Nat) : Int) ∉ plsL r → (∀ x ∈ r, x.cell ≠ 30 ∧ x.cell ≠ 32) → (recL start r.length (wm s m) l).steps = l ++ r)
  | 0, s, l, m, _ => ⟨[], by show l = _; simp, fun _ _ => by show l = _; simp⟩
  | n + 1, s, l, m, h => by
    by_cases hl : lpB start s l = true
    · refine ⟨[], ?_, fun _ _ => by show l = _; simp⟩
      unfold recL; rw [if_pos hl]; simp
    cases hn : nextV s with
    | none =>
      refine ⟨[], ?_, fun _ _ => by show l = _; simp⟩
      unfold recL; rw [if_neg hl, hn]; simp
    | some p =>
      obtain ⟨x, t⟩ := p
      have e1 : (recL start (n + 1) s l).steps = (recL start n t (l ++ [x])).steps := by
        unfold recL; rw [if_neg hl, hn]; cases n <;> rfl
      rw [e1]
      obtain ⟨r0, hr0⟩ := recL_pre start n t (l ++ [x])
      by_cases hc : ((a : Nat) : Int) ∉ plsX x ∧ x.cell ≠ 30 ∧ x.cell ≠ 32
      · obtain ⟨m', g1, g2⟩ := nextV_df h hn hc.1 hc.2.1 hc.2.2
        obtain ⟨r, h1, h2⟩ := recL_df start n t (l ++ [x]) m' g2
        refine ⟨x :: r, by rw [h1]; simp, fun ha hcl => ?_⟩
        have h3 := h2 (fun hm => ha (List.mem_append.2 (Or.inr hm))) (fun y hy => hcl y (List.mem_cons.2 (Or.inr hy)))
        have e2 : (recL start (r.length + 1) (wm s m) l).steps = (recL start r.length (wm t m') (l ++ [x])).steps := by
          have hl' : ¬ lpB start (wm s m) l = true := hl
          show (if lpB start (wm s m) l = true then _ else match nextV (wm s m) with
            | none => _
            | some (x, t) => recL start r.length t (l ++ [x]) : RcV).steps = _
          rw [if_neg hl', g1]
        show (recL start (r.length + 1) (wm s m) l).steps = _
        rw [e2, h3]; simp
      · refine ⟨x :: r0, by rw [hr0]; simp, fun ha hcl => absurd ⟨fun hm => ha (List.mem_append.2 (Or.inl hm)), hcl x (List.mem_cons.2 (Or.inl rfl))⟩ hc⟩
theorem recV_df {a : Nat} {s : StV} {m : List Int} (h : Agr a s.mem m) {most : Int} (ha : ((a : Nat) : Int) ∉ plsL (recV s most).steps) (hc : ∀ x ∈ (recV s most).steps, x.cell ≠ 30 ∧ x.cell ≠ 32) : (recV (wm s m) ((recV s most).steps.length : Int)).steps = (recV s most).steps := by
  obtain ⟨r, h1, h2⟩ := recL_df s.ip (mostN most) s [] m h
  have e : (recV s most).steps = r := by rw [show (recV s most) = recL s.ip (mostN most) s [] from rfl, h1]; simp
  have hle : (recV s most).steps.length ≤ 120 := by
    have h3 := (recL_len s.ip (mostN most) s []).2
    have h4 := (mostN_le most).1
    have h5 : (recV s most).steps.length = (recL s.ip (mostN most) s []).steps.length := rfl
    simp at h3; omega
  rw [e] at ha hc hle ⊢
  have e2 : mostN (r.length : Int) = r.length := by unfold mostN imin imax; split <;> split <;> omega
  have := h2 ha hc
  show (recL s.ip (mostN (r.length : Int)) (wm s m) []).steps = r
  rw [e2, this]; simp
/-- Steps of a recording stand at places. -/
theorem recL_place (start : Int) : ∀ (n : Nat) (s : StV) (l : List SnV), MOk s → (∀ x ∈ l, (0 ≤ x.ip ∧ x.ip < 3000)) → ∀ x ∈ (recL start n s l).steps, 0 ≤ x.ip ∧ x.ip < 3000
  | 0, s, l, _, h => h
  | n + 1, s, l, hm, h => by
    unfold recL
    split
    · exact h
    cases hn : nextV s with
    | none => exact h
    | some p =>
      obtain ⟨x, t⟩ := p
      obtain ⟨r0, r1, r2, r3, r4, r5, r6, _⟩ := nextV_run hn
      have k3 := hm.me
      refine recL_place start n t (l ++ [x]) (by rw [r2]; exact mok_adv hm) fun y hy => ?_
      rcases List.mem_append.1 hy with hy | hy
      · exact h y hy
      · rw [List.mem_singleton.1 hy, r3]; omega
theorem recV_place {s : StV} (hm : MOk s) (most : Int) : ∀ x ∈ (recV s most).steps, 0 ≤ x.ip ∧ x.ip < 3000 := recL_place s.ip _ s [] hm fun _ h => by cases h
end Go.Proofs.Ytkjpmkopnkkbmaa

/- Places that are sorted, each once. No program in sight. -/
set_option maxRecDepth 100000
namespace Go.Proofs.Ytkjpmkopnkkbmaa
open Go.RowKit

theorem uniq_lt : ∀ {l m : List Int}, l.Pairwise (· < ·) → m.Pairwise (· < ·) → (∀ x, x ∈ l ↔ x ∈ m) → l = m
  | [], [], _, _, _ => rfl
  | [], b :: m, _, _, h => absurd ((h b).2 (List.mem_cons.2 (Or.inl rfl))) (by simp)
  | a :: l, [], _, _, h => absurd ((h a).1 (List.mem_cons.2 (Or.inl rfl))) (by simp)
  | a :: l, b :: m, hl, hm, h => by
    obtain ⟨l1, l2⟩ := List.pairwise_cons.1 hl
    obtain ⟨m1, m2⟩ := List.pairwise_cons.1 hm
    have e : a = b := by
      rcases List.mem_cons.1 ((h a).1 (List.mem_cons.2 (Or.inl rfl))) with e | e
      · exact e
      rcases List.mem_cons.1 ((h b).2 (List.mem_cons.2 (Or.inl rfl))) with e' | e'
      · exact e'.symm
      · have := m1 a e; have := l1 b e'; omega
    subst e
    congr 1
    refine uniq_lt l2 m2 fun x => ⟨fun hx => ?_, fun hx => ?_⟩
    · rcases List.mem_cons.1 ((h x).1 (List.mem_cons.2 (Or.inr hx))) with e | e
      · have := l1 x hx; omega
      · exact e
    · rcases List.mem_cons.1 ((h x).2 (List.mem_cons.2 (Or.inr hx))) with e | e
      · have := m1 x hx; omega
      · exact e
theorem cUp (d : Array Int) (hs : ∀ i j, i ≤ j → j < d.size → d[i]! ≤ d[j]!) : ∀ m, m ≤ d.size → (Lib.compactUpTo d m).Pairwise (· < ·) ∧ ∀ x, x ∈ Lib.compactUpTo d m ↔ ∃ j, j < m ∧ d[j]! = x
  | 0, _ => ⟨List.Pairwise.nil, fun x => ⟨(fun h => by cases h), fun ⟨j, h, _⟩ => by omega⟩⟩
  | m + 1, hm => by
    obtain ⟨h1, h2⟩ := cUp d hs m (by omega)
    rw [Lib.compactUpTo_succ]
    by_cases hk : Lib.keeps d m = true
    · rw [if_pos hk]
      have hk' : m = 0 ∨ d[m]! ≠ d[m - 1]! := of_decide_eq_true hk
      refine ⟨List.pairwise_append.2 ⟨h1, List.pairwise_singleton _ _, fun a ha b hb => ?_⟩, fun x => ?_⟩
      · rw [List.mem_singleton.1 hb]
        obtain ⟨j, hj, rfl⟩ := (h2 a).1 ha
        have p1 := hs j (m - 1) (by omega) (by omega)
        have p2 := hs (m - 1) m (by omega) (by omega)
        have p3 := hk'.resolve_left (by omega)
        omega
      · rw [List.mem_append, List.mem_singleton, h2]
        refine ⟨fun h => ?_, fun ⟨j, hj, e⟩ => ?_⟩
        · rcases h with ⟨j, hj, e⟩ | h
          · exact ⟨j, by omega, e⟩
          · exact ⟨m, by omega, h.symm⟩
        · by_cases hjm : j = m
          · subst hjm; exact Or.inr e.symm
          · exact Or.inl ⟨j, by omega, e⟩
    · rw [if_neg hk, List.append_nil]
      have hk' : ¬ (m = 0 ∨ d[m]! ≠ d[m - 1]!) := fun h => hk (decide_eq_true h)
      have hm0 : m ≠ 0 := fun h => hk' (Or.inl h)
      have he : d[m]! = d[m - 1]! := Classical.byContradiction fun h => hk' (Or.inr h)
      refine ⟨h1, fun x => ?_⟩
      rw [h2]
      refine ⟨fun ⟨j, hj, e⟩ => ⟨j, by omega, e⟩, fun ⟨j, hj, e⟩ => ?_⟩
      by_cases hjm : j = m
      · exact ⟨m - 1, by omega, by rw [← he, ← hjm]; exact e⟩
      · exact ⟨j, by omega, e⟩
/-- A list, sorted, each of its numbers once. -/
def sortI (zs : List Int) : List Int := zs.mergeSort fun x y => decide (x ≤ y)
def onceI (zs : List Int) : List Int := Lib.compact (sortI zs)
theorem sortI_len (zs : List Int) : (sortI zs).length = zs.length := List.length_mergeSort _
theorem sortI_le (zs : List Int) : (sortI zs).Pairwise (· ≤ ·) := by
  have h := List.pairwise_mergeSort (le := fun x y : Int => decide (x ≤ y)) (fun a b c h1 h2 => by
    have h1 := of_decide_eq_true h1
    have h2 := of_decide_eq_true h2
    exact decide_eq_true (by omega)) (fun a b => by
    by_cases h : a ≤ b
    · simp [h]
    · simp [show b ≤ a by omega]) zs
  exact h.imp fun h => of_decide_eq_true h
theorem onceI_ok (zs : List Int) : (onceI zs).Pairwise (· < ·) ∧ ∀ x, x ∈ onceI zs ↔ x ∈ zs := by
  have hp := sortI_le zs
  obtain ⟨l, hl⟩ : ∃ l, l = sortI zs := ⟨_, rfl⟩
  have hm : ∀ x, x ∈ l ↔ x ∈ zs := fun x => by rw [hl]; exact List.mem_mergeSort
  unfold onceI
  rw [← hl] at hp ⊢
  have hg : ∀ j, j < l.length → l.toArray[j]! = l[j]! := fun j hj => by simp
  have hs : ∀ i j, i ≤ j → j < l.toArray.size → l.toArray[i]! ≤ l.toArray[j]! := fun i j hij hj => by
    have hj : j < l.length := by simpa using hj
    rw [hg i (by omega), hg j hj, List.getElem!_eq_getElem?_getD, List.getElem!_eq_getElem?_getD, List.getElem?_eq_getElem (by omega), List.getElem?_eq_getElem hj]
    show l[i] ≤ l[j]
    rcases Nat.lt_or_ge i j with h | h
    · exact List.pairwise_iff_getElem.1 hp i j (by omega) hj h
    · have : i = j := by omega
      subst this; exact Int.le_refl _
  obtain ⟨h1, h2⟩ := cUp l.toArray hs l.length (by simp)
  refine ⟨h1, fun x => ?_⟩
  show x ∈ Lib.compactUpTo l.toArray l.length ↔ _
  rw [h2 x, ← hm x]
  refine ⟨fun ⟨j, hj, e⟩ => ?_, fun h => ?_⟩
  · rw [hg j hj, List.getElem!_eq_getElem?_getD, List.getElem?_eq_getElem hj] at e
    have e : l[j] = x := e
    rw [← e]; exact List.getElem_mem hj
  · obtain ⟨j, hj, e⟩ := List.getElem_of_mem h
    refine ⟨j, hj, ?_⟩
    rw [hg j hj, List.getElem!_eq_getElem?_getD, List.getElem?_eq_getElem hj]
    exact e
/-- The marked ones of the first n places. -/
def inN (l : List Int) (n : Nat) : List Int := ((List.range n).map fun k => ((k : Nat) : Int)).filter fun x => decide (x ∈ l)
theorem inN_succ (l : List Int) (n : Nat) : inN l (n + 1) = inN l n ++ (if (n : Int) ∈ l then [(n : Int)] else []) := by
  unfold inN
  rw [List.range_succ, List.map_append, List.filter_append]
  congr 1
  by_cases h : (n : Int) ∈ l <;> simp [h]
theorem inN_ok (l : List Int) : ∀ n : Nat, (inN l n).Pairwise (· < ·) ∧ (∀ x, x ∈ inN l n ↔ x ∈ l ∧ 0 ≤ x ∧ x < n) ∧ (inN l n).length ≤ n
  | 0 => ⟨List.Pairwise.nil, fun x => ⟨(fun h => by cases h), fun h => by omega⟩, Nat.le_refl _⟩
  | n + 1 => by
    obtain ⟨h1, h2, h3⟩ := inN_ok l n
    rw [inN_succ]
    by_cases h : (n : Int) ∈ l
    · rw [if_pos h]
      refine ⟨List.pairwise_append.2 ⟨h1, List.pairwise_singleton _ _, fun a ha b hb => ?_⟩, fun x => ?_, by simp; omega⟩
      · rw [List.mem_singleton.1 hb]
        have := (h2 a).1 ha
        omega
      · rw [List.mem_append, List.mem_singleton, h2]
        refine ⟨fun g => ?_, fun g => ?_⟩
        · rcases g with g | g
          · exact ⟨g.1, by omega, by omega⟩
          · rw [g]; exact ⟨h, by omega, by omega⟩
        · by_cases hx : x = n
          · exact Or.inr hx
          · exact Or.inl ⟨g.1, by omega, by omega⟩
    · rw [if_neg h, List.append_nil]
      refine ⟨h1, fun x => ?_, by omega⟩
      rw [h2]
      refine ⟨fun g => ⟨g.1, by omega, by omega⟩, fun g => ⟨g.1, by omega, ?_⟩⟩
      have : x ≠ n := fun e => h (by rw [← e]; exact g.1)
      omega
theorem once_in {l : List Int} {n : Nat} (h : ∀ x ∈ l, 0 ≤ x ∧ x < n) : onceI l = inN l n := by
  obtain ⟨h1, h2⟩ := onceI_ok l
  obtain ⟨g1, g2, _⟩ := inN_ok l n
  refine uniq_lt h1 g1 fun x => ?_
  rw [h2, g2]
  exact ⟨fun g => ⟨g, h x g⟩, fun g => g.1⟩
theorem plsL_app (l r : List SnV) : plsL (l ++ r) = plsL l ++ plsL r := by
  induction l with
  | nil => rfl
  | cons x l ih => show plsX x ++ plsL (l ++ r) = _; rw [ih]; show _ = (plsX x ++ plsL l) ++ plsL r; rw [List.append_assoc]
theorem plsL_in {l : List SnV} (h : ∀ x ∈ l, 0 ≤ x.ip ∧ x.ip < 3000) : ∀ y ∈ plsL l, 0 ≤ y ∧ y < 3001 := by
  induction l with
  | nil => intro y hy; cases hy
  | cons x l ih =>
    intro y hy
    rcases List.mem_append.1 hy with hy | hy
    · have hx := h x (List.mem_cons.2 (Or.inl rfl))
      unfold plsX at hy
      rcases List.mem_cons.1 hy with hy | hy
      · omega
      · split at hy
        · rw [List.mem_singleton.1 hy]; omega
        · cases hy
    · exact ih (fun z hz => h z (List.mem_cons.2 (Or.inr hz))) y hy
theorem plsL_len (l : List SnV) : (plsL l).length ≤ 2 * l.length := by
  induction l with
  | nil => exact Nat.le_refl _
  | cons x l ih =>
    show (plsX x ++ plsL l).length ≤ _
    rw [List.length_append, List.length_cons]
    have : (plsX x).length ≤ 2 := by unfold plsX; split <;> simp
    omega
theorem onceI_len (l : List Int) : (onceI l).length ≤ l.length := by
  have := Lib.compact_length_le (sortI l)
  rw [sortI_len] at this
  exact this
end Go.Proofs.Ytkjpmkopnkkbmaa

/- slices.Sort and slices.Compact of a list of numbers that lies in a block of its own. -/
set_option maxRecDepth 100000
namespace Go.Proofs.Ytkjpmkopnkkbmaa
open Go.RowKit

theorem flI (xs : List Int) : fl intE xs = xs.map (Value.int .i64) := by
  induction xs with
  | nil => rfl
  | cons x xs ih => rw [fl_cons, ih]; rfl
theorem ow_cases {w : World} {s : Sl} {xs : List Int} (h : Ow intE w s xs) : (xs = [] ∧ s = nilS) ∨ ∃ g cur, s.val = .slice (some ⟨g, 0, none⟩) xs.length s.cap ∧ w.heap[g]? = some (.cells cur T_int (0, 0)) ∧ xs.length ≤ s.cap ∧ s.cap ≤ maxLen ∧ cur.size = s.cap * 1 ∧ cur.toList.take xs.length = xs.map (Value.int .i64) := by
  obtain ⟨ptr, len, cap⟩ := s
  rcases h.2 with ⟨h1, h2⟩ | ⟨g, cap', cur, h1, _, h3, h4, h5, h6, h7⟩
  · have h1 : Value.slice ptr len cap = .slice none 0 0 := h1
    injection h1 with e1 e2 e3
    subst e1 e2 e3
    exact Or.inl ⟨List.eq_nil_of_length_eq_zero h2, rfl⟩
  · have h1 : Value.slice ptr len cap = .slice (some ⟨g, 0, none⟩) xs.length cap' := h1
    injection h1 with e1 e2 e3
    subst e1 e2 e3
    refine Or.inr ⟨g, cur, rfl, h3, h4, h5, h6, ?_⟩
    rw [flI] at h7
    have h7 : cur.toList.take (xs.length * 1) = _ := h7
    rw [Nat.mul_one] at h7; exact h7
theorem sort_any {w : World} {s : Sl} {xs : List Int} (h : Ow intE w s xs) (hl : xs.length ≤ 100000000) :
    Calls Try.prog fn_slices_Sort_sl_int_int #[s.val] w fun e w' => e = .returned (.tuple #[]) ∧ Ow intE w' s (sortI xs) ∧ Chg (fun k => s.blk = some k) w w' := by
  rcases ow_cases h with ⟨rfl, rfl⟩ | ⟨g, cur, hv, hb, h4, h5, h6, h7⟩
  · refine (slices_Sort_int_none none 0 w).mono ?_
    rintro e w' ⟨rfl, rfl⟩
    have e0 : sortI [] = [] := by simp [sortI]
    rw [e0]
    exact ⟨rfl, Ow.nil _ _, Chg.refl _ _⟩
  · have hg : g < w.heap.size := (Array.getElem?_eq_some_iff.1 hb).1
    rw [hv]
    refine (slices_Sort_int g 0 s.cap xs w (holds_of_blockI hb h7) hg (by omega)).mono ?_
    rintro e w' ⟨rfl, n, os, rfl⟩
    refine ⟨rfl, ?_, Chg.grown (grownBy_sortedI _) (fun k hk => ?_)⟩
    · have o := ownsRow_sortedI (base := 0) (n := n) (os := os) (ts := sortI xs) (ss := xs) (sortI_len xs) (Nat.zero_le _) hb h4 h5 h6
      show World.ownsRow _ 0 T_int 1 s.val (sortI xs).length (fl intE (sortI xs))
      rw [flI, hv, sortI_len]; exact o
    · unfold Sl.blk; rw [hv]; exact hk
theorem compact_any {w : World} {s : Sl} {xs : List Int} (h : Ow intE w s xs) (hl : xs.length ≤ 100000000) :
    Calls Try.prog fn_slices_Compact_sl_int_int #[s.val] w fun e w' => ∃ s' : Sl, e = .returned s'.val ∧ Ow intE w' s' (Lib.compact xs) ∧ s'.blk = s.blk ∧ Chg (fun k => s.blk = some k) w w' := by
  rcases ow_cases h with ⟨rfl, rfl⟩ | ⟨g, cur, hv, hb, h4, h5, h6, h7⟩
  · refine (slices_Compact_int_empty none 0 w).mono ?_
    rintro e w' ⟨rfl, rfl⟩
    exact ⟨nilS, rfl, Ow.nil _ _, rfl, Chg.refl _ _⟩
  · have hc := Lib.compact_length_le xs
    obtain ⟨ys, hys⟩ : ∃ ys, ys = Lib.compact xs ++ List.replicate (xs.length - (Lib.compact xs).length) 0 := ⟨_, rfl⟩
    have hyl : ys.length = xs.length := by rw [hys]; simp; omega
    rw [hv]
    refine (slices_Compact_int g 0 s.cap xs w (holds_of_blockI hb h7) (by omega) h4).mono ?_
    rintro e w' ⟨rfl, q, rfl⟩
    rw [← hys, ← Sort.grow_empty (Sort.putRow (Value.int .i64) (Sort.ahead w q) g 0 ys.toArray)]
    have o := ownsRow_sortedI (base := 0) (n := q) (os := #[]) (ts := ys) (ss := xs) hyl (Nat.zero_le _) hb h4 h5 h6
    have o' : Ow intE (Sort.grow (Sort.putRow (Value.int .i64) (Sort.ahead w q) g 0 ys.toArray) #[]) ⟨some ⟨g, 0, none⟩, xs.length, s.cap⟩ ys := by
      show World.ownsRow _ 0 T_int 1 _ ys.length (fl intE ys)
      rw [flI, hyl]; exact o
    refine ⟨⟨some ⟨g, 0, none⟩, (Lib.compact xs).length, s.cap⟩, rfl, ?_, ?_, Chg.grown (grownBy_sortedI _) (fun k hk => ?_)⟩
    · have := o'.take (n := (Lib.compact xs).length) (by omega)
      rw [hys, List.take_left] at this
      rw [hys]; exact this
    · show some g = s.blk
      unfold Sl.blk; rw [hv]; rfl
    · unfold Sl.blk; rw [hv]; exact hk
end Go.Proofs.Ytkjpmkopnkkbmaa

/- The cells of code that a recording looked at: record.Cells, and the document's. -/
set_option maxRecDepth 100000
namespace Go.Proofs.Ytkjpmkopnkkbmaa
open Go.RowKit

/-- append(l, x), at a list in a block of its own. -/
theorem app1y {w w2 : World} {l : Sl} {b : Nat} {xs : List Int} {x : Int} (hb : b = w.heap.size) (hw : w2 = World.alloc w (.cells #[.int .i64 x] T_int)) (h : Ow intE w l xs) (hl : xs.length ≤ 10000000) {G : Sl → World → Prop}
    (k : ∀ (s' : Sl) (w' : World), Ow intE w' s' (xs ++ [x]) → Chg (fun k => l.blk = some k) w w' → (∀ k, s'.blk = some k → l.blk = some k ∨ w.heap.size ≤ k) → G s' w') :
    ∃ s' : Sl, ∃ w' : World, (Builtin.append_ #[T_sl_int, T_sl_int] T_sl_int #[l.val, .slice (some ⟨b, 0, none⟩) 1 1]).run Try.prog w2 = .ok s'.val w' ∧ G s' w' := by
  have h1 : Ow intE w2 ⟨some ⟨b, 0, none⟩, 1, 1⟩ [x] := by
    rw [hw, hb]; exact Ow.lit (E := intE) w [x] [.int .i64 x] rfl (by show 1 ≤ maxLen; unfold maxLen; omega)
  have h2 : Chg No w w2 := al hw
  have z2 := h2.size
  refine app_ok intOk (s := l) (t := ⟨some ⟨b, 0, none⟩, 1, 1⟩) rfl rfl (h.no h2) h1.rd (by show (xs.length + 1) * 8 ≤ _; omega) (by show xs.length + 1 ≤ _; unfold maxLen; omega) ?_
  intro s' w' h' c hbk
  refine k s' w' h' (h2.trans c (fun _ _ h => h.elim) (fun _ _ h => h)) (fun j hj => ?_)
  rcases hbk with hh | hh
  · exact Or.inl (hh ▸ hj)
  · have := Option.some.inj (hh.symm.trans hj)
    exact Or.inr (by omega)
theorem take_pls {xs : List SnV} {j : Nat} {x : SnV} (hx : xs[j]? = some x) : plsL (xs.take (j + 1)) = plsL (xs.take j) ++ plsX x := by
  have hj : j < xs.length := (List.getElem?_eq_some_iff.1 hx).1
  have e : xs.take (j + 1) = xs.take j ++ [x] := by
    rw [List.take_succ_eq_append_getElem hj, (List.getElem?_eq_some_iff.1 hx).2]
  rw [e, plsL_app]
  show _ ++ (plsX x ++ []) = _
  rw [List.append_nil]
theorem cells_rc {w : World} (R : RcC) {xs : List SnV} (hst : Rd seE w R.steps xs) (hin : ∀ x ∈ xs, 0 ≤ x.ip ∧ x.ip < 3000) (hl : xs.length ≤ 1000) :
    Calls Try.prog fn_record_Cells #[.agg (rcC R).toArray] w fun e w' => ∃ s : Sl, e = .returned s.val ∧ Ow intE w' s (onceI (plsL xs)) ∧ Chg No w w' ∧ (∀ k, s.blk = some k → w.heap.size ≤ k) := by
  refine (record_Cells_lift (K := fun v w' => ∃ s : Sl, v = s.val ∧ Ow intE w' s (onceI (plsL xs)) ∧ Chg No w w' ∧ (∀ k, s.blk = some k → w.heap.size ≤ k)) ?_).mono (by rintro e w' ⟨v, rfl, s, rfl, h⟩; exact ⟨s, rfl, h⟩)
  unfold record_Cells_sh
  have hlen := hst.len
  refine inRc R fun b5 w6 hb5 z6 o6 c6 => ⟨R.steps, o6.cell rfl, ?_⟩
  refine ⟨fun out n w' => ∃ j : Nat, n = j ∧ j ≤ xs.length ∧ Ow intE w' out (plsL (xs.take j)) ∧ (∀ k, out.blk = some k → w6.heap.size ≤ k) ∧ Chg No w6 w', fun _ n _ => xs.length - n.toNat, ⟨0, rfl, Nat.zero_le _, Ow.nil _ _, (fun k hk => by cases hk), Chg.refl _ _⟩, ?_⟩
  rintro out n w8 ⟨j, rfl, hj, hout, hnew, c8⟩
  have hpl := plsL_len (xs.take j)
  have hpl2 : (xs.take j).length ≤ 1000 := by rw [List.length_take]; omega
  refine brB_of (fun hlt => ?_) (fun hge => ?_)
  · have hlt : j < xs.length := by have := of_decide_eq_true hlt; omega
    obtain ⟨x, hx⟩ : ∃ x, xs[j]? = some x := ⟨_, List.getElem?_eq_getElem hlt⟩
    have hxin := hin x (List.mem_of_getElem? hx)
    have htk := take_pls hx
    refine ⟨fun out' w' => Ow intE w' out' (plsL (xs.take j) ++ plsX x) ∧ (∀ k, out'.blk = some k → w6.heap.size ≤ k) ∧ Chg No w6 w', ?_, ?_⟩
    · rintro out' w33 ⟨h1, h2, h3⟩
      rw [wr_in (by omega)]
      exact ⟨⟨j + 1, by omega, by omega, by rw [htk]; exact h1, h2, h3⟩, by show xs.length - Int.toNat ((j : Int) + 1) < xs.length - Int.toNat (j : Int); omega⟩
    refine (hst.no (trN c6 c8)).ix (i := (j : Int)) (by omega) (by rw [Int.toNat_natCast]; exact hx) fun ad _ hcell => ?_
    have q0 := hcell 0 _ rfl
    rw [add0] at q0
    refine ⟨x.ip, x.cell, x.arg, x.next, q0, hcell 1 _ rfl, hcell 2 _ rfl, hcell 3 _ rfl, varSn x fun b15 w17 hb15 z15 o17 c17 => ⟨x.ip, o17.cell rfl, ?_⟩⟩
    intro b20 w21 hb20 hw21
    have l17 := o17.lt
    have lout : ∀ k, out.blk = some k → k < w8.heap.size := fun k hk => hout.lt hk
    refine app1y hb20 hw21 (hout.no c17) (by omega) ?_
    intro s22 w23 h22 c23 b22
    have z23 := c23.size
    have z17 := c17.size
    have z8 := c8.size
    have o23 := o17.chg c23 (fun he => by have := lout _ he; omega)
    have k23 : Chg No w6 w23 := (trN c8 c17).trans c23 (fun _ _ h => h) (fun k hk he => by have := hnew k he; omega)
    have n22 : ∀ k, s22.blk = some k → w6.heap.size ≤ k := fun k hk => by
      rcases b22 k hk with e | e
      · exact hnew k e
      · omega
    refine ⟨x.cell, o23.cell rfl, (arg_rc _ w23).mono ?_⟩
    rintro e w26 ⟨rfl, rfl⟩
    refine ⟨_, rfl, brB_of (fun ha => ⟨x.ip, o23.cell rfl, ?_⟩) (fun ha => ?_)⟩
    · intro b29 w30 hb29 hw30
      refine app1y hb29 hw30 h22 (by rw [List.length_append, List.length_singleton]; omega) ?_
      intro s31 w32 h31 c32 b31
      rw [wr_in (by omega)] at h31
      refine ⟨?_, fun k hk => ?_, k23.trans c32 (fun _ _ h => h) (fun k hk he => by have := n22 k he; omega)⟩
      · unfold plsX
        rw [if_pos ha]
        rw [List.append_assoc] at h31
        exact h31
      · rcases b31 k hk with e | e
        · exact n22 k e
        · have := k23.size; omega
    · refine ⟨?_, n22, k23⟩
      unfold plsX
      rw [if_neg (by rw [ha]; decide)]
      exact h22
  · have hge : j = xs.length := by have := of_decide_eq_false hge; omega
    subst hge
    rw [List.take_length] at hout hpl
    refine (sort_any hout (by omega)).mono ?_
    rintro e w35 ⟨rfl, h35, c35⟩
    refine ⟨rfl, ?_⟩
    refine (compact_any h35 (by rw [sortI_len]; omega)).mono ?_
    rintro e w37 ⟨s', rfl, h37, b37, c37⟩
    refine ⟨s', rfl, s', rfl, h37, (((trN c6 c8).trans c35 (fun _ _ h => h) (fun k hk he => ?_)).trans c37 (fun _ _ h => h) (fun k hk he => ?_)), fun k hk => ?_⟩
    · have := hnew k he; omega
    · have := hnew k he; omega
    · rw [b37] at hk
      have := hnew k hk; omega
/-! ### The document's -/
/-- Flags as elements of lists. -/
def flE : Enc Bool := ⟨T_bool, 1, 1, fun b => [.bool b], by intro x; rfl, by intro x u hu; simp at hu; subst hu; rfl, by decide⟩
theorem flOk : EncOk Try.prog flE T_sl_bool := EncOk.of (z := .bool false) (by kernel_rfl) (by kernel_rfl) (by kernel_rfl)
theorem fl_rep_fl (n : Nat) : fl flE (List.replicate n false) = List.replicate n (Value.bool false) := by
  induction n with
  | zero => rfl
  | succ m ih => rw [List.replicate_succ, List.replicate_succ, fl_cons, ih]; rfl
/-- make([]bool, n). -/
theorem make_flags {w : World} {n : Int} {N : Nat} (hn : n = (N : Int)) (hN : N ≤ 1000000) : ∃ w' : World, (Instr.makeSlice T_sl_bool (.int .i64 n) (.int .i64 n)).run Try.prog w = .ok (⟨some ⟨w.heap.size, 0, none⟩, N, N⟩ : Sl).val w' ∧ Ow flE w' ⟨some ⟨w.heap.size, 0, none⟩, N, N⟩ (List.replicate N false) ∧ Chg No w w' := by
  subst hn
  obtain ⟨i, z, hi, hz, h1, h2, h3⟩ := flOk.info
  have hz0 : z = .bool false := by
    have e : (Try.prog.info? T_bool).bind (·.zero) = some (.bool false) := by kernel_rfl
    have hi' : Try.prog.info? T_bool = some i := hi
    rw [hi'] at e
    exact Option.some.inj (hz.symm.trans e)
  subst hz0
  have h1' : i.size = 1 := h1
  have h2' : i.bytes = 1 := h2
  have hr := run_make (P := Try.prog) w T_sl_bool T_bool i (.bool false) flOk.und hi hz .i64 .i64 (N : Int) (N : Int) (by omega) (by omega) (by rw [h2']; omega) (by omega)
  rw [Int.toNat_natCast, h1', Nat.mul_one] at hr
  have hz1 : (Value.bool false).cells = #[.bool false] := rfl
  rw [hz1] at hr
  refine ⟨_, hr, ?_, Chg.alloc _ _ _⟩
  have hm : madeCells #[Value.bool false] N = (List.replicate N (Value.bool false)).toArray := Array.ext' (by rw [madeOne])
  rw [hm]
  have := Ow.lit (E := flE) w (List.replicate N false) (List.replicate N (Value.bool false)) (fl_rep_fl N).symm (by rw [List.length_replicate]; unfold maxLen; omega)
  rw [List.length_replicate] at this
  exact this
def mkB (L : List Int) (N : Nat) : List Bool := (List.range N).map fun k => decide (((k : Nat) : Int) ∈ L)
theorem mkB_len (L : List Int) (N : Nat) : (mkB L N).length = N := by simp [mkB]
theorem mkB_at {L : List Int} {N k : Nat} (h : k < N) : (mkB L N)[k]? = some (decide (((k : Nat) : Int) ∈ L)) := by
  unfold mkB
  rw [List.getElem?_map, List.getElem?_range h]; rfl
theorem mkB_nil (N : Nat) : mkB [] N = List.replicate N false := by
  refine List.ext_getElem? fun k => ?_
  by_cases h : k < N
  · rw [mkB_at h, List.getElem?_replicate_of_lt h]; rfl
  · rw [List.getElem?_eq_none (by rw [mkB_len]; omega), List.getElem?_eq_none (by rw [List.length_replicate]; omega)]
theorem mkB_set {L : List Int} {N : Nat} {n : Int} (h0 : 0 ≤ n) (h1 : n < N) : (mkB L N).set n.toNat true = mkB (L ++ [n]) N := by
  refine List.ext_getElem? fun k => ?_
  by_cases h : k < N
  · rw [mkB_at h]
    by_cases hk : n.toNat = k
    · rw [← hk, List.getElem?_set_self (by rw [mkB_len]; omega)]
      rw [decide_eq_true (List.mem_append.2 (Or.inr (List.mem_singleton.2 (by omega))))]
    · rw [List.getElem?_set_ne hk, mkB_at h]
      congr 1
      refine decide_eq_decide.2 ⟨fun g => List.mem_append.2 (Or.inl g), fun g => ?_⟩
      rcases List.mem_append.1 g with g | g
      · exact g
      · have := List.mem_singleton.1 g; omega
  · rw [List.getElem?_eq_none (by rw [List.length_set, mkB_len]; omega), List.getElem?_eq_none (by rw [mkB_len]; omega)]
theorem arB_op (c : Int) : arB c = opArg c := by
  unfold arB
  by_cases h : c < 64
  · rw [decide_eq_true h]; rfl
  · rw [decide_eq_false h]; unfold opArg; rw [decide_eq_false (by omega)]; rfl
theorem rcells_any {w : World} (R : RcC) {xs : List SnV} (hst : Rd seE w R.steps xs) (hin : ∀ x ∈ xs, 0 ≤ x.ip ∧ x.ip < 3000) (hl : xs.length ≤ 1000) :
    Calls Try.prog fn_hollowayref9_Cells #[.agg (rcC R).toArray] w fun e w' => ∃ s : Sl, e = .returned s.val ∧ Ow intE w' s (inN (plsL xs) 3001) ∧ Chg No w w' ∧ (∀ k, s.blk = some k → w.heap.size ≤ k) := by
  refine (hollowayref9_Cells_lift (K := fun v w' => ∃ s : Sl, v = s.val ∧ Ow intE w' s (inN (plsL xs) 3001) ∧ Chg No w w' ∧ (∀ k, s.blk = some k → w.heap.size ≤ k)) ?_).mono (by rintro e w' ⟨v, rfl, s, rfl, h⟩; exact ⟨s, rfl, h⟩)
  unfold hollowayref9_Cells_sh
  have hlen := hst.len
  refine inRc R fun b5 w6 hb5 z6 o6 c6 => ?_
  obtain ⟨w8, hr, hB, c8⟩ := make_flags (w := w6) (n := 3001) (N := 3001) rfl (by omega)
  obtain ⟨s7, hs7⟩ : ∃ s7 : Sl, s7 = ⟨some ⟨w6.heap.size, 0, none⟩, 3001, 3001⟩ := ⟨_, rfl⟩
  rw [← hs7] at hr hB
  have hp7 : s7.blk = some w6.heap.size := by rw [hs7]; rfl
  have hl7 : s7.len = 3001 := by rw [hs7]
  have l5 := o6.lt
  refine ⟨s7, w8, hr, ?_⟩
  refine ⟨fun n w' => ∃ j : Nat, n = j ∧ j ≤ xs.length ∧ Ow flE w' s7 (mkB (plsL (xs.take j)) 3001) ∧ Ob w' b5 (rcC R) T_api_Recording ∧ Chg No w6 w', fun n _ => xs.length - n.toNat, ⟨0, rfl, Nat.zero_le _, by rw [List.take_zero]; show Ow flE w8 s7 (mkB [] 3001); rw [mkB_nil]; exact hB, o6.no c8, c8⟩, ?_⟩
  rintro n w9 ⟨j, rfl, hj, hB9, o9, c9⟩
  refine ⟨R.steps, o9.cell rfl, brB_of (fun hlt => ?_) (fun hge => ?_)⟩
  · have hlt : j < xs.length := by have := of_decide_eq_true hlt; omega
    obtain ⟨x, hx⟩ : ∃ x, xs[j]? = some x := ⟨_, List.getElem?_eq_getElem hlt⟩
    have hxin := hin x (List.mem_of_getElem? hx)
    have htk := take_pls hx
    refine ⟨fun w' => Ow flE w' s7 (mkB (plsL (xs.take j) ++ plsX x) 3001) ∧ Ob w' b5 (rcC R) T_api_Recording ∧ Chg No w6 w', ?_, R.steps, o9.cell rfl, ?_⟩
    · rintro w28 ⟨h1, h2, h3⟩
      rw [wr_in (by omega)]
      exact ⟨⟨j + 1, by omega, by omega, by rw [htk]; exact h1, h2, h3⟩, by show xs.length - Int.toNat ((j : Int) + 1) < xs.length - Int.toNat (j : Int); omega⟩
    have put : ∀ {wa : World} {L : List Int} {v : Int} {G : World → Prop}, 0 ≤ v → v < 3001 → Ow flE wa s7 (mkB L 3001) → Ob wa b5 (rcC R) T_api_Recording → Chg No w6 wa → (∀ wb, Ow flE wb s7 (mkB (L ++ [v]) 3001) → Ob wb b5 (rcC R) T_api_Recording → Chg No w6 wb → G wb) →
        ∃ a : Addr, s7.ptr = some a ∧ 0 ≤ v ∧ v < (s7.len : Int) ∧ wrOk wa (a.add (Int.toNat v * 1)) 1 ∧ ∀ wb : World, wb = stW wa (a.add (Int.toNat v * 1)) 0 [.bool true] → G wb := by
      intro wa L v G h0 h1 gB gO gC k
      refine gB.rd.ix (i := v) h0 (mkB_at (by omega)) fun a ha _ => ?_
      obtain ⟨f1, f2⟩ := gB.set1 ha (k := v.toNat) (j := 0) (x' := true) (u := .bool true) (mkB_at (by omega)) (by decide) rfl
      rw [add0] at f1 f2
      refine ⟨f1, fun wb hwb => ?_⟩
      have c : Chg (fun k => s7.blk = some k) wa wb := by rw [hwb]; exact Chg.st (S := fun k => s7.blk = some k) (by rw [add_block]; exact blk_ptr ha)
      refine k wb ?_ (gO.chg c (fun he => ?_)) (gC.trans c (fun _ _ h => h) (fun k hk he => ?_))
      · rw [hwb, ← mkB_set h0 (by omega)]; exact f2
      · rw [hp7] at he; injection he with he; omega
      · rw [hp7] at he; injection he with he; omega
    refine (hst.no (trN c6 c9)).ix (i := (j : Int)) (by omega) (by rw [Int.toNat_natCast]; exact hx) fun ad _ hcell => ?_
    have q0 := hcell 0 _ rfl
    rw [add0] at q0
    refine ⟨x.ip, q0, put hxin.1 (by omega) hB9 o9 c9 fun w16 hB16 o16 c16 => ⟨R.steps, o16.cell rfl, ?_⟩⟩
    refine (hst.no (trN c6 c16)).ix (i := (j : Int)) (by omega) (by rw [Int.toNat_natCast]; exact hx) fun ad' _ hcell' => ?_
    refine ⟨x.cell, hcell' 1 _ rfl, (refArg_any _ w16).mono ?_⟩
    rintro e w21 ⟨rfl, rfl⟩
    rw [← arB_op]
    refine ⟨_, rfl, brB_of (fun ha => ⟨R.steps, o16.cell rfl, ?_⟩) (fun ha => ?_)⟩
    · have q0' := hcell' 0 _ rfl
      rw [add0] at q0'
      refine (hst.no (trN c6 c16)).ix (i := (j : Int)) (by omega) (by rw [Int.toNat_natCast]; exact hx) fun ad2 _ hcell2 => ?_
      have q2 := hcell2 0 _ rfl
      rw [add0] at q2
      refine ⟨x.ip, q2, ?_⟩
      rw [wr_in (x := x.ip + 1) (by omega)]
      refine put (by omega) (by omega) hB16 o16 c16 fun w27 hB27 o27 c27 => ⟨?_, o27, c27⟩
      unfold plsX
      rw [if_pos ha]
      rw [List.append_assoc] at hB27
      exact hB27
    · refine ⟨?_, o16, c16⟩
      unfold plsX
      rw [if_neg (by rw [ha]; decide)]
      exact hB16
  · have hge : j = xs.length := by have := of_decide_eq_false hge; omega
    subst hge
    rw [List.take_length] at hB9
    obtain ⟨L, hL⟩ : ∃ L, L = plsL xs := ⟨_, rfl⟩
    rw [← hL] at hB9 ⊢
    refine ⟨fun out k w' => ∃ m : Nat, k = m ∧ m ≤ 3001 ∧ Ow intE w' out (inN L m) ∧ (∀ k, out.blk = some k → w9.heap.size ≤ k) ∧ Chg No w9 w', fun _ k _ => 3001 - k.toNat, ⟨0, rfl, Nat.zero_le _, Ow.nil _ _, (fun k hk => by cases hk), Chg.refl _ _⟩, ?_⟩
    rintro out k w29 ⟨m, rfl, hm, hout, hnew, c29⟩
    have hil := (inN_ok L m).2.2
    refine brB_of (fun hlt => ?_) (fun hge => ?_)
    · have hlt : m < 3001 := by have := of_decide_eq_true hlt; rw [hl7] at this; omega
      refine ⟨fun out' w' => Ow intE w' out' (inN L (m + 1)) ∧ (∀ k, out'.blk = some k → w9.heap.size ≤ k) ∧ Chg No w9 w', ?_, ?_⟩
      · rintro out' w38 ⟨h1, h2, h3⟩
        rw [wr_in (by omega)]
        exact ⟨⟨m + 1, by omega, by omega, h1, h2, h3⟩, by show 3001 - Int.toNat ((m : Int) + 1) < 3001 - Int.toNat (m : Int); omega⟩
      refine (hB9.no c29).rd.ix (i := (m : Int)) (by omega) (by rw [Int.toNat_natCast]; exact mkB_at hlt) fun a ha hcell => ?_
      have q0 := hcell 0 _ rfl
      rw [add0] at q0
      refine ⟨_, q0, brB_of (fun hb => ?_) (fun hb => ?_)⟩
      · have hmem := of_decide_eq_true hb
        intro b34 w35 hb34 hw35
        refine app1y hb34 hw35 hout (by omega) ?_
        intro s36 w37 h36 c37 b36
        refine ⟨by rw [inN_succ, if_pos hmem]; exact h36, fun k hk => ?_, c29.trans c37 (fun _ _ h => h) (fun k hk he => by have := hnew k he; omega)⟩
        rcases b36 k hk with e | e
        · exact hnew k e
        · have := c29.size; omega
      · have hmem := of_decide_eq_false hb
        exact ⟨by rw [inN_succ, if_neg hmem, List.append_nil]; exact hout, hnew, c29⟩
    · have hge : m = 3001 := by have := of_decide_eq_false hge; rw [hl7] at this; omega
      subst hge
      refine ⟨out, rfl, hout, trN (trN c6 c9) c29, fun k hk => ?_⟩
      have := hnew k hk
      have := c9.size
      omega
end Go.Proofs.Ytkjpmkopnkkbmaa

/- Lists with room behind them, in which a mark stands, of any kind; blocks told apart by their types. -/
set_option maxRecDepth 100000
namespace Go.Proofs.Ytkjpmkopnkkbmaa
open Go.RowKit

/-- s reads as these, and behind them stands the mark, in a block of its own. -/
def LentE {α : Type} (E : Enc α) (x : α) (w : World) (s : Sl) (xs : List α) : Prop := s.len = xs.length ∧ Ow E w ⟨s.ptr, xs.length + 1, s.cap⟩ (xs ++ [x])
theorem addz0 (q : Addr) : q.add 0 = q := by unfold Addr.add; simp
section
variable {α : Type} {E : Enc α} {x : α} {w w' : World} {s : Sl} {xs : List α}
theorem LentE.rd (h : LentE E x w s xs) : Rd E w s xs := by
  have ht := (h.2.take (n := xs.length) (by simp)).rd
  rw [List.take_left] at ht
  have : s = ⟨s.ptr, xs.length, s.cap⟩ := by rw [← h.1]
  rw [this]; exact ht
theorem LentE.chg {S : Nat → Prop} (h : LentE E x w s xs) (c : Chg S w w') (hS : ∀ k, s.blk = some k → ¬ S k) : LentE E x w' s xs := by
  refine ⟨h.1, h.2.chg c (fun k hk => hS k ?_)⟩
  rw [← hk]; unfold Sl.blk Sl.val; cases s.ptr <;> rfl
theorem LentE.no (h : LentE E x w s xs) (c : Chg No w w') : LentE E x w' s xs := h.chg c (fun _ _ h => h)
theorem lent_app {T : TypeId} {P : Program} (ok : EncOk P E T) (hE : E.bytes ≤ 64) {s4 : Sl} {b5 : Nat} {w0 w3 w6 : World} {n : Nat} (hn : xs.length = n) (h4 : Ow E w3 s4 xs) (c3 : Chg No w0 w3) (b4 : ∀ k, s4.blk = some k → w0.heap.size ≤ k) (hb5 : b5 = w3.heap.size) (hw6 : w6 = World.alloc w3 (.cells (E.e x).toArray E.t)) (hl : xs.length ≤ 1000000)
    {G : Sl → World → Prop} (k : ∀ (s' : Sl) (w' : World), LentE E x w' s' xs → Chg No w0 w' → Chg (fun k => s4.blk = some k) w3 w' → (∀ k, s'.blk = some k → (w0.heap.size ≤ k ∧ k < w'.heap.size) ∧ (s4.blk = some k ∨ w3.heap.size ≤ k)) → G s' w') :
    ∃ s7 : Sl, ∃ w8 : World, (Builtin.append_ #[T, T] T #[s4.val, .slice (some ⟨b5, 0, none⟩) 1 1]).run P w6 = .ok (s7.val) w8 ∧
    0 ≤ (n : Int) ∧ (n : Int) ≤ (s7.cap : Int) ∧ ∀ s9 : Sl, s9 = Sl.sub s7.ptr s7.cap 0 (Int.toNat (n : Int)) E.sz → G s9 w8 := by
  have c6 : Chg No w3 w6 := by rw [hw6]; exact Chg.alloc _ _ _
  have l6 : Ow E w6 ⟨some ⟨b5, 0, none⟩, 1, 1⟩ [x] := by
    rw [hw6, hb5]; exact Ow.lit (E := E) w3 [x] (E.e x) (by simp [fl]) (by show 1 ≤ maxLen; unfold maxLen; omega)
  have hmul : (xs.length + 1) * E.bytes ≤ (1000000 + 1) * 64 := Nat.mul_le_mul (by omega) hE
  refine app_ok ok rfl rfl (h4.no c6) l6.rd (by show (xs.length + 1) * E.bytes ≤ _; omega) (by show xs.length + 1 ≤ _; unfold maxLen; omega) ?_
  intro s7 w8 h8 c8 b8
  have hl7 := h8.rd.len
  have hc7 := h8.rd.capL
  rw [List.length_append] at hl7 hc7
  have h1 : [x].length = 1 := rfl
  refine ⟨by omega, by omega, ?_⟩
  intro s9 hs9
  rw [sub0, Int.toNat_natCast] at hs9
  have hbk : s9.blk = s7.blk := by rw [hs9]; unfold Sl.blk Sl.val; cases s7.ptr <;> rfl
  have z3 := c3.size
  have z6 := c6.size
  refine k s9 w8 ⟨by rw [hs9]; exact hn.symm, ?_⟩ ((c3.trans c6 (U := No) (fun _ _ h => h) (fun _ _ h => h)).trans c8 (fun _ _ h => h) (fun k hk he => by have := b4 k he; omega)) (c6.trans c8 (fun _ _ h => h.elim) (fun _ _ h => h)) fun k hk => ⟨⟨?_, h8.lt (hbk ▸ hk)⟩, ?_⟩
  · have e7 : (⟨s9.ptr, xs.length + 1, s9.cap⟩ : Sl) = s7 := by rw [hs9]; cases s7; simp at hl7 ⊢; omega
    rw [e7]; exact h8
  · rw [hbk] at hk
    rcases b8 with hh | hh
    · exact b4 k (hh ▸ hk)
    · have := Option.some.inj (hh.symm.trans hk); omega
  · rw [hbk] at hk
    rcases b8 with hh | hh
    · exact Or.inl (hh ▸ hk)
    · have := Option.some.inj (hh.symm.trans hk); exact Or.inr (by omega)
/-- The mark behind it. -/
theorem LentE.mark (h : LentE E x w s xs) {n : Int} {r : List Value} (hx : E.e x = .int .i64 n :: r) {G : Prop} (g : G) :
    0 ≤ (wr ((s.len : Int) + (1 : Int))) ∧ (wr ((s.len : Int) + (1 : Int))) ≤ (s.cap : Int) ∧ ∀ s6 : Sl, s6 = Sl.sub s.ptr s.cap 0 (Int.toNat (wr ((s.len : Int) + (1 : Int)))) E.sz →
    ∃ a7 : Addr, s6.ptr = some a7 ∧ 0 ≤ (s.len : Int) ∧ (s.len : Int) < (s6.len : Int) ∧ ∃ n8 : Int, w.cell? (Addr.add a7 (Int.toNat (s.len : Int) * E.sz)) = some (.int .i64 n8) ∧ (n8 = n ∧ G) := by
  have hc := h.2.rd.capL
  rw [List.length_append] at hc
  have h1 : [x].length = 1 := rfl
  have hc1 : xs.length + 1 ≤ s.cap := by have := hc.1; omega
  have hc2 : s.cap ≤ 9223372036854775807 := hc.2
  have hml := h.1
  rw [wr_of (by omega) (by omega)]
  refine ⟨by omega, by omega, ?_⟩
  intro s6 hs6
  rw [sub0] at hs6
  have e6 : s6 = ⟨s.ptr, xs.length + 1, s.cap⟩ := by rw [hs6]; congr 1; omega
  have h6 : Rd E w s6 (xs ++ [x]) := by rw [e6]; exact h.2.rd
  refine h6.ix (i := (s.len : Int)) (x := x) (by omega) (by rw [Int.toNat_natCast, hml, List.getElem?_append_right (Nat.le_refl _)]; simp) fun a ha hcell => ?_
  have q1 := hcell 0 (.int .i64 n) (by rw [hx]; rfl)
  rw [addz0] at q1
  exact ⟨n, q1, rfl, g⟩
end
/-- The block holds cells of this type. -/
def TyB (T : TypeId) (w : World) (k : Nat) : Prop := ∃ arr z, w.heap[k]? = some (.cells arr T z)
theorem Ow.ty {α : Type} {E : Enc α} {w : World} {s : Sl} {xs : List α} (h : Ow E w s xs) {k : Nat} (hk : s.blk = some k) : TyB E.t w k := by
  have h' : Own w E.t E.sz s.val xs.length (fl E xs) := h
  rcases h'.2 with ⟨hv, _⟩ | ⟨g, cap, cur, hv, _, hg, _⟩
  · exfalso
    have : s.val.ownBlock = some k := hk
    rw [hv] at this; cases this
  · have : s.val.ownBlock = some k := hk
    rw [hv] at this
    have e : g = k := by injection this
    subst e
    exact ⟨_, _, hg⟩
theorem TyB.chg {T : TypeId} {S : Nat → Prop} {w w' : World} {k : Nat} (h : TyB T w k) (c : Chg S w w') (hS : ¬ S k) : TyB T w' k := by
  obtain ⟨arr, z, h⟩ := h
  exact ⟨arr, z, c.row h hS⟩
theorem TyB.ne {T U : TypeId} {w : World} {k b : Nat} {cs : List Value} (h : TyB T w k) (o : Ob w b cs U) (hTU : T ≠ U) : k ≠ b := fun e => by
  obtain ⟨arr, z, h⟩ := h
  subst e
  have := h.symm.trans o
  simp at this
  exact hTU this.2.1
end Go.Proofs.Ytkjpmkopnkkbmaa

/- Lists of recorded steps, held against each other; which recordings may be; the first call of chapter 13's statements; RecordMost. -/
set_option maxRecDepth 100000
namespace Go.Proofs.Ytkjpmkopnkkbmaa
open Go.RowKit

theorem sn_eql (x y : SnV) (a b : Operand) (w : World) : ((do eqGuard .eql T_api_Seen a b (.agg (seC x).toArray) (.agg (seC y).toArray); binOp .eql T_api_Seen (.agg (seC x).toArray) (.agg (seC y).toArray) : Sem Value)).run Try.prog w = .ok (.bool (decide (x.ip = y.ip ∧ x.cell = y.cell ∧ x.arg = y.arg ∧ x.next = y.next))) w := by
  have u1 := Try.underlying3
  have hS : Try.prog.underlying T_api_Seen = some (.struct (Try.prog.fieldsOf T_api_Seen)) := by kernel_rfl
  have hp : Try.prog.stoodInHeld T_api_Seen = false := by kernel_rfl
  have hm : Try.prog.eqGuardType Try.prog.depth T_api_Seen = false := by kernel_rfl
  simp only [seC, Sem.run_bind, run_eqGuard_agg w .eql T_api_Seen a b _ _ hm, Result.andThen_ok, run_eql_struct]
  rw [show (10000 : Nat) = 9999 + 1 from rfl, run_equalIn_agg w 9999 T_api_Seen _ _ hS hp]
  simp only [Program.fieldsOf, Try.underlying40]
  go_simp
  by_cases g1 : x.ip = y.ip <;> by_cases g2 : x.cell = y.cell <;> by_cases g3 : x.arg = y.arg <;> by_cases g4 : x.next = y.next <;> simp [g1, g2, g3, g4]
/-! ### Which recordings may be -/
theorem single_rc (x : SnV) (hx : Cn.In x.ip) (w : World) : Calls Try.prog fn_record_single #[.agg (seC x).toArray] w fun e w' => e = .returned (.bool (singleB x)) ∧ Chg No w w' := by
  refine (record_single_lift (K := fun v w' => v = .bool (singleB x) ∧ Chg No w w') ?_).mono (by rintro e w' ⟨v, rfl, rfl, h⟩; exact ⟨rfl, h⟩)
  unfold record_single_sh
  intro b5 w6 hb5 hw6
  have c6 := al hw6
  have o6 : Ob w6 b5 (seC x) T_api_Seen := by rw [hw6, hb5]; exact Ob.new w (seC x) T_api_Seen
  obtain ⟨la, hla⟩ : ∃ la, la = (if arB x.cell = true then wr (x.ip + 1) else x.ip) := ⟨_, rfl⟩
  have hpl : placeB x.ip = true → la = (if arB x.cell = true then x.ip + 1 else x.ip) := fun hp => by
    unfold placeB at hp
    rw [hla]
    split
    · rw [wr_in]
      have h1 : 0 ≤ x.ip ∧ x.ip < 3000 := by simpa using hp
      omega
    · rfl
  have fin : singleB x = (plB x.cell && ((arB x.cell || decide (x.arg = 0)) && (placeB x.ip && (placeB la && placeB x.next)))) := by
    unfold singleB
    cases hp : placeB x.ip with
    | false => simp
    | true => rw [hpl hp]
  refine ⟨x.ip, o6.cell rfl, fun n w' => n = la ∧ w' = w6, ?_, x.cell, o6.cell rfl, ?_⟩
  · rintro n w13 ⟨rfl, rfl⟩
    refine ⟨x.cell, o6.cell rfl, (plain_rc _ w13).mono ?_⟩
    rintro e w16 ⟨rfl, rfl⟩
    refine ⟨_, rfl, brB_of (fun hp => ?_) (fun hp => ?_)⟩
    rotate_left
    · exact ⟨by rw [fin, hp]; rfl, c6⟩
    refine ⟨x.cell, o6.cell rfl, (arg_rc _ w13).mono ?_⟩
    rintro e w20 ⟨rfl, rfl⟩
    have tail : (arB x.cell || decide (x.arg = 0)) = true → ∃ n22 : Int, w13.cell? ⟨b5, 0, none⟩ = some (.int .i64 n22) ∧ Calls Try.prog fn_record_place #[.int .i64 n22] w13 fun e23 w24 => ∃ b25 : Bool, e23 = .returned (.bool b25) ∧
        brB b25 (Calls Try.prog fn_record_place #[.int .i64 n] w24 fun e27 w28 => ∃ b29 : Bool, e27 = .returned (.bool b29) ∧
        brB b29 (∃ n30 : Int, w28.cell? ⟨b5, 3, none⟩ = some (.int .i64 n30) ∧ Calls Try.prog fn_record_place #[.int .i64 n30] w28 fun e31 w32 => ∃ b33 : Bool, e31 = .returned (.bool b33) ∧
        (Value.bool b33 = .bool (singleB x) ∧ Chg No w w32)) (Value.bool false = .bool (singleB x) ∧ Chg No w w28)) (Value.bool false = .bool (singleB x) ∧ Chg No w w24) := fun ha => by
      refine ⟨x.ip, o6.cell rfl, (place_rc _ w13).mono ?_⟩
      rintro e w24 ⟨rfl, rfl⟩
      refine ⟨_, rfl, brB_of (fun h1 => ?_) (fun h1 => ⟨by rw [fin, hp, ha, h1]; rfl, c6⟩)⟩
      refine (place_rc _ w13).mono ?_
      rintro e w28 ⟨rfl, rfl⟩
      refine ⟨_, rfl, brB_of (fun h2 => ?_) (fun h2 => ⟨by rw [fin, hp, ha, h1, h2]; rfl, c6⟩)⟩
      refine ⟨x.next, o6.cell rfl, (place_rc _ w13).mono ?_⟩
      rintro e w32 ⟨rfl, rfl⟩
      exact ⟨_, rfl, by rw [fin, hp, ha, h1, h2]; rfl, c6⟩
    refine ⟨_, rfl, brB_of (fun ha => tail (by rw [ha]; rfl)) (fun ha => ⟨x.arg, o6.cell rfl, brB_of (fun h0 => tail ?_) (fun h0 => ⟨?_, c6⟩)⟩)⟩
    · have h0 : x.arg = 0 := by simpa using h0
      rw [decide_eq_true h0]; simp
    · have h0 : x.arg ≠ 0 := by simpa using h0
      rw [fin, hp, ha, decide_eq_false h0]; rfl
  · refine (arg_rc _ w6).mono ?_
    rintro e w10 ⟨rfl, rfl⟩
    refine ⟨_, rfl, brB_of (fun ha => ⟨x.ip, o6.cell rfl, by rw [hla, if_pos ha], rfl⟩) (fun ha => ⟨by rw [hla, if_neg (by rw [ha]; decide)], rfl⟩)⟩
theorem right_rc {D : Nat → Prop} {w : World} (R : RcC) {r : RcV} (hnum : R.start = r.start ∧ R.fin = r.fin ∧ R.loop = r.loop) (hst : Rd seE w R.steps r.steps) (hin : ∀ x ∈ r.steps, Cn.In x.ip) :
    Calls Try.prog fn_record_Right #[.agg (rcC R).toArray] w fun e w' => e = .returned (.bool (rightR r)) ∧ Chg No w w' := by
  refine (record_Right_lift (K := fun v w' => v = .bool (rightR r) ∧ Chg No w w') ?_).mono (by rintro e w' ⟨v, rfl, rfl, h⟩; exact ⟨rfl, h⟩)
  unfold record_Right_sh
  obtain ⟨m1, m2, m3⟩ := hnum
  have hl := hst.len
  refine inRc R fun b5 w6 hb5 z6 o6 c6 => ⟨R.start, o6.cell rfl, ?_⟩
  obtain ⟨bad, hbad⟩ : ∃ bad : Prop, bad = (120 < r.steps.length ∨ r.loop ≠ (decide (0 < r.steps.length) && decide (r.fin = r.start))) := ⟨_, rfl⟩
  have hf : bad → rightR r = false := fun hb => by
    rw [hbad] at hb
    unfold rightR
    by_cases h1 : 120 < r.steps.length
    · rw [if_pos h1]
    · rw [if_neg h1]
      rcases hb with hb | hb
      · exact absurd hb h1
      · rw [if_pos hb]
  refine ⟨fun b w' => (b = true → bad) ∧ (b = false → ¬ bad) ∧ w' = w6, ?_, R.steps, o6.cell rfl, ?_⟩
  rotate_left
  · refine brB_of (fun h1 => ?_) (fun h1 => ⟨R.loop, o6.cell rfl, R.steps, o6.cell rfl, brB_of (fun h2 => ⟨R.fin, o6.cell rfl, R.start, o6.cell rfl, ?_⟩) (fun h2 => ?_)⟩)
    · have h1 := of_decide_eq_true h1
      exact ⟨fun _ => by rw [hbad]; left; omega, (fun h => by cases h), rfl⟩
    · have h1 := of_decide_eq_false h1
      have h2 := of_decide_eq_true h2
      have e : (!(R.loop == (R.fin == R.start))) = true ↔ r.loop ≠ (decide (0 < r.steps.length) && decide (r.fin = r.start)) := by
        rw [m1, m2, m3, decide_eq_true (show 0 < r.steps.length by omega)]
        show (!(r.loop == decide (r.fin = r.start))) = true ↔ r.loop ≠ (true && decide (r.fin = r.start))
        cases r.loop <;> cases decide (r.fin = r.start) <;> simp
      refine ⟨fun h => by rw [hbad]; exact Or.inr (e.1 h), fun h hb => ?_, rfl⟩
      rw [hbad] at hb
      rcases hb with hb | hb
      · omega
      · rw [e.2 hb] at h; cases h
    · have h1 := of_decide_eq_false h1
      have h2 := of_decide_eq_false h2
      have e : (!(R.loop == false)) = true ↔ r.loop ≠ (decide (0 < r.steps.length) && decide (r.fin = r.start)) := by
        rw [m3, decide_eq_false (show ¬ 0 < r.steps.length by omega)]
        cases r.loop <;> simp
      refine ⟨fun h => by rw [hbad]; exact Or.inr (e.1 h), fun h hb => ?_, rfl⟩
      rw [hbad] at hb
      rcases hb with hb | hb
      · omega
      · rw [e.2 hb] at h; cases h
  rintro b w13 ⟨hb1, hb2, rfl⟩
  refine brB_of (fun hb => ⟨by rw [hf (hb1 hb)], c6⟩) (fun hb => ⟨R.steps, o6.cell rfl, ?_⟩)
  have hgood := hb2 hb
  rw [hbad] at hgood
  have h120 : r.steps.length ≤ 120 := by
    rcases Nat.lt_or_ge 120 r.steps.length with h | h
    · exact absurd (Or.inl h) hgood
    · exact h
  have hrr : rightR r = match rightL r.start r.start false r.steps with
      | none => false
      | some a => decide (a = r.fin) := by
    unfold rightR; rw [if_neg (by omega), if_neg (fun h => hgood (Or.inr h))]
    all_goals (cases rightL r.start r.start false r.steps <;> rfl)
  rw [m1]
  refine ⟨fun a n w' => ∃ j : Nat, n = j ∧ j ≤ r.steps.length ∧ rightL r.start r.start false r.steps = rightL r.start a (decide (0 < j)) (r.steps.drop j) ∧ Chg No w13 w', fun _ n _ => r.steps.length - n.toNat, ⟨0, rfl, Nat.zero_le _, rfl, Chg.refl _ _⟩, ?_⟩
  rintro a n w16 ⟨j, rfl, hj, hrl, c16⟩
  have k16 := trN c6 c16
  refine brB_of (fun hlt => ?_) (fun hge => ?_)
  · have hlt : j < r.steps.length := by have := of_decide_eq_true hlt; omega
    obtain ⟨x, hx⟩ : ∃ x, r.steps[j]? = some x := ⟨_, List.getElem?_eq_getElem hlt⟩
    have hxj : r.steps[j] = x := by rw [List.getElem?_eq_getElem hlt] at hx; exact Option.some.inj hx
    refine (hst.no k16).ix (i := (j : Int)) (by omega) (by rw [Int.toNat_natCast]; exact hx) fun ad _ hcell => ?_
    have q0 := hcell 0 _ rfl
    rw [add0] at q0
    refine ⟨x.ip, x.cell, x.arg, x.next, q0, hcell 1 _ rfl, hcell 2 _ rfl, hcell 3 _ rfl, varSn x fun b23 w25 hb23 z25 o23 c25 => ?_⟩
    obtain ⟨bd, hbd⟩ : ∃ bd : Prop, bd = (singleB x = false ∨ x.ip ≠ a ∨ (decide (0 < j) = true ∧ x.ip = r.start)) := ⟨_, rfl⟩
    have hstep : rightL r.start a (decide (0 < j)) (r.steps.drop j) = if singleB x = false ∨ x.ip ≠ a ∨ (decide (0 < j) = true ∧ x.ip = r.start) then none else rightL r.start x.next true (r.steps.drop (j + 1)) := by
      rw [List.drop_eq_getElem_cons hlt, hxj]; rfl
    refine ⟨fun b w' => (b = true → bd) ∧ (b = false → ¬ bd) ∧ Chg No w25 w', ?_, ?_⟩
    · rintro b w37 ⟨hd1, hd2, c37⟩
      have k37 := trN (trN k16 c25) c37
      refine brB_of (fun hb => ⟨?_, k37⟩) (fun hb => ⟨x.next, (o23.no c37).cell rfl, ?_⟩)
      · have := hd1 hb
        rw [hbd] at this
        rw [hrr, hrl, hstep, if_pos this]
      · have := hd2 hb
        rw [hbd] at this
        rw [wr_in (by omega)]
        refine ⟨⟨j + 1, by omega, by omega, ?_, trN (trN c16 c25) c37⟩, by show r.steps.length - Int.toNat ((j : Int) + 1) < r.steps.length - Int.toNat (j : Int); omega⟩
        rw [hrl, hstep, if_neg this, decide_eq_true (by omega)]
    · refine rdSn o23 ((single_rc x (hin x (by rw [← hxj]; exact List.getElem_mem hlt)) w25).mono ?_)
      rintro e w31 ⟨rfl, c31⟩
      have p23 := o23.no c31
      refine ⟨_, rfl, brB_of (fun h1 => ?_) (fun h1 => ⟨x.ip, p23.cell rfl, brB_of (fun h2 => ?_) (fun h2 => brB_of (fun h3 => ⟨x.ip, p23.cell rfl, R.start, (((o6.no c16).no c25).no c31).cell rfl, ?_⟩) (fun h3 => ?_))⟩)⟩
      · exact ⟨fun _ => by rw [hbd]; exact Or.inl (by simpa using h1), (fun h => by cases h), c31⟩
      · have h2 : x.ip ≠ a := by simpa using h2
        exact ⟨fun _ => by rw [hbd]; exact Or.inr (Or.inl h2), (fun h => by cases h), c31⟩
      · have h1 : singleB x = true := by simpa using h1
        have h2 : x.ip = a := by simpa using h2
        have h3 : 0 < j := by have := of_decide_eq_true h3; omega
        rw [m1]
        refine ⟨fun h => by rw [hbd]; exact Or.inr (Or.inr ⟨decide_eq_true h3, by simpa using h⟩), fun h hb => ?_, c31⟩
        rw [hbd] at hb
        rcases hb with hb | hb | ⟨_, hb⟩
        · rw [h1] at hb; cases hb
        · exact hb h2
        · rw [hb] at h; simp at h
      · have h1 : singleB x = true := by simpa using h1
        have h2 : x.ip = a := by simpa using h2
        have h3 : ¬ 0 < j := by have := of_decide_eq_false h3; omega
        refine ⟨(fun h => by cases h), fun _ hb => ?_, c31⟩
        rw [hbd] at hb
        rcases hb with hb | hb | ⟨hb, _⟩
        · rw [h1] at hb; cases hb
        · exact hb h2
        · exact h3 (of_decide_eq_true hb)
  · have hge : j = r.steps.length := by have := of_decide_eq_false hge; omega
    subst hge
    refine ⟨R.fin, (o6.no c16).cell rfl, ?_, k16⟩
    rw [hrr, hrl, List.drop_length, m2]
    show Value.bool (a == r.fin) = .bool (decide (a = r.fin))
    congr 1
end Go.Proofs.Ytkjpmkopnkkbmaa

/- Functions of Build, read without their frames; that each is enough. Printed by a program of mine (wip/lift/gen.py). -/
set_option maxRecDepth 100000
namespace Go.Proofs.Ytkjpmkopnkkbmaa
open Go.RowKit

-- holloway/build.Trace
def build_Trace_sh (r__Start1 : Int) (r__End2 : Int) (r__Loop3 : Bool) (r__Steps4 : Sl) (w : World) (K : Value → World → Prop) : Prop :=
 ∀ (b5 : Nat) (w6 : World), b5 = w.heap.size → w6 = World.alloc w (.cells #[.int .i64 r__Start1, .int .i64 r__End2, .bool r__Loop3, r__Steps4.val] T_api_Recording) →
 ∀ (b7 : Nat) (w8 : World), b7 = w6.heap.size → w8 = World.alloc w6 (.cells #[.int .i64 (0 : Int), .int .i64 (0 : Int), .int .i64 (0 : Int), .int .i64 (0 : Int), .int .i64 (0 : Int), .slice none 0 0, .slice none 0 0, .int .i64 (0 : Int), .slice none 0 0] T_api_Trace) →
 ∃ n_Start9 : Int, ∃ n_End10 : Int, ∃ b_Loop11 : Bool, ∃ s_Steps12 : Sl, w8.cell? ⟨b5, 0, none⟩ = some (.int .i64 n_Start9) ∧ w8.cell? ⟨b5, 1, none⟩ = some (.int .i64 n_End10) ∧ w8.cell? ⟨b5, 2, none⟩ = some (.bool b_Loop11) ∧ w8.cell? ⟨b5, 3, none⟩ = some (s_Steps12.val) ∧
 Calls Try.prog fn_build_Needs #[.agg #[.int .i64 n_Start9, .int .i64 n_End10, .bool b_Loop11, s_Steps12.val]] w8 fun e13 w14 => ∃ n15 : Int, ∃ n16 : Int, ∃ n17 : Int, ∃ n18 : Int, e13 = .returned (.tuple #[.int .i64 n15, .int .i64 n16, .int .i64 n17, .int .i64 n18]) ∧
 ∃ J4 : Bool → World → Prop, (∀ (b28 : Bool) (w27 : World), J4 b28 w27 →
 brB b28
 (wrOk w27 ⟨b7, 0, none⟩ 9 ∧ ∀ w29 : World, w29 = stW w27 ⟨b7, 0, none⟩ 0 [.int .i64 (0 : Int), .int .i64 (0 : Int), .int .i64 (0 : Int), .int .i64 (0 : Int), .int .i64 (0 : Int), .slice none 0 0, .slice none 0 0, .int .i64 (0 : Int), .slice none 0 0] →
 ∃ r_Start30 : Int, ∃ r_Slots31 : Int, ∃ r_Backs32 : Int, ∃ r_Grow33 : Int, ∃ r_GrowBack34 : Int, ∃ r_Ins35 : Sl, ∃ r_Outs36 : Sl, ∃ r_Last37 : Int, ∃ r_Cells38 : Sl, w29.cell? ⟨b7, 0, none⟩ = some (.int .i64 r_Start30) ∧ w29.cell? ⟨b7, 1, none⟩ = some (.int .i64 r_Slots31) ∧ w29.cell? ⟨b7, 2, none⟩ = some (.int .i64 r_Backs32) ∧ w29.cell? ⟨b7, 3, none⟩ = some (.int .i64 r_Grow33) ∧ w29.cell? ⟨b7, 4, none⟩ = some (.int .i64 r_GrowBack34) ∧ w29.cell? ⟨b7, 5, none⟩ = some (r_Ins35.val) ∧ w29.cell? ⟨b7, 6, none⟩ = some (r_Outs36.val) ∧ w29.cell? ⟨b7, 7, none⟩ = some (.int .i64 r_Last37) ∧ w29.cell? ⟨b7, 8, none⟩ = some (r_Cells38.val) ∧
 K (.tuple #[.agg #[.int .i64 r_Start30, .int .i64 r_Slots31, .int .i64 r_Backs32, .int .i64 r_Grow33, .int .i64 r_GrowBack34, r_Ins35.val, r_Outs36.val, .int .i64 r_Last37, r_Cells38.val], .bool false]) w29)
 (∀ (b39 : Nat) (w40 : World), b39 = w27.heap.size → w40 = World.alloc w27 (.map #[] 0) →
 ∀ (b41 : Nat) (w42 : World), b41 = w40.heap.size → w42 = World.alloc w40 (.cells #[.int .i64 (0 : Int), .int .i64 (0 : Int), .int .i64 (0 : Int), .int .i64 (0 : Int), .int .i64 (0 : Int), .slice none 0 0, .slice none 0 0, .int .i64 (0 : Int), .slice none 0 0, .slice none 0 0, .slice none 0 0, .map (some b39), .int .i64 (0 : Int), .int .i64 (0 : Int), .int .i64 (0 : Int), .int .i64 (0 : Int), .int .i64 (0 : Int), .int .i64 (0 : Int), .slice none 0 0, .slice none 0 0, .int .i64 (0 : Int)] T_build_builder) →
 ∀ w43 : World, w43 = World.drew w42 →
 ∃ S44 : World → Prop, S44 w43 ∧
 ∃ n45 : Int, held S44 ⟨b5, 0, none⟩ (.int .i64 n45) ∧
 ∃ n_Start46 : Int, ∃ n_End47 : Int, ∃ b_Loop48 : Bool, ∃ s_Steps49 : Sl, held S44 ⟨b5, 0, none⟩ (.int .i64 n_Start46) ∧ held S44 ⟨b5, 1, none⟩ (.int .i64 n_End47) ∧ held S44 ⟨b5, 2, none⟩ (.bool b_Loop48) ∧ held S44 ⟨b5, 3, none⟩ (s_Steps49.val) ∧
 Calls Try.prog fn_record_Cells #[.agg #[.int .i64 n_Start46, .int .i64 n_End47, .bool b_Loop48, s_Steps49.val]] w43 fun e50 w51 => ∃ s52 : Sl, e50 = .returned (s52.val) ∧
 S44 w51 ∧
 S44 w51 ∧
 wrOk w51 ⟨b41, 0, none⟩ 9 ∧ ∀ w53 : World, w53 = stW w51 ⟨b41, 0, none⟩ 0 [.int .i64 n45, .int .i64 n15, .int .i64 n17, .int .i64 n16, .int .i64 n18, .slice none 0 0, .slice none 0 0, .int .i64 (0 : Int), s52.val] →
 ∃ (I1 : Int → World → Prop) (μ1 : Int → World → Nat), I1 (wr (n15 - (1 : Int))) w53 ∧ ∀ (k55 : Int) (w54 : World), I1 k55 w54 →
 brB (decide (k55 ≥ (0 : Int)))
 (Calls Try.prog fn_build_builder_ins #[.pointer (some ⟨b41, 0, none⟩), .agg #[.int .i64 (2 : Int), .int .i64 k55, .int .i64 (0 : Int), .int .i64 (0 : Int), .int .i64 (0 : Int)]] w54 fun e56 w57 => ∃ n58 : Int, e56 = .returned (.int .i64 n58) ∧
 ∀ (b59 : Nat) (w60 : World), b59 = w57.heap.size → w60 = World.alloc w57 (.cells #[.int .i64 n58] T_int) →
 Calls Try.prog fn_build_builder_push #[.pointer (some ⟨b41, 0, none⟩), .slice (some ⟨b59, 0, none⟩) 1 1] w60 fun e61 w62 => e61 = .returned (.tuple #[]) ∧
 I1 (wr (k55 - (1 : Int))) w62 ∧ μ1 (wr (k55 - (1 : Int))) w62 < μ1 k55 w54)
 (∃ (I2 : Int → World → Prop) (μ2 : Int → World → Nat), I2 (wr (n17 - (1 : Int))) w54 ∧ ∀ (k64 : Int) (w63 : World), I2 k64 w63 →
 brB (decide (k64 ≥ (0 : Int)))
 (Calls Try.prog fn_build_builder_ins #[.pointer (some ⟨b41, 0, none⟩), .agg #[.int .i64 (3 : Int), .int .i64 k64, .int .i64 (0 : Int), .int .i64 (0 : Int), .int .i64 (0 : Int)]] w63 fun e65 w66 => ∃ n67 : Int, e65 = .returned (.int .i64 n67) ∧
 ∀ (b68 : Nat) (w69 : World), b68 = w66.heap.size → w69 = World.alloc w66 (.cells #[.int .i64 n67] T_int) →
 Calls Try.prog fn_build_builder_lay #[.pointer (some ⟨b41, 0, none⟩), .slice (some ⟨b68, 0, none⟩) 1 1] w69 fun e70 w71 => e70 = .returned (.tuple #[]) ∧
 I2 (wr (k64 - (1 : Int))) w71 ∧ μ2 (wr (k64 - (1 : Int))) w71 < μ2 k64 w63)
 (∃ s72 : Sl, w63.cell? ⟨b5, 3, none⟩ = some (s72.val) ∧
 ∃ (I3 : Int → World → Prop) (μ3 : Int → World → Nat), I3 (0 : Int) w63 ∧ ∀ (n74 : Int) (w73 : World), I3 n74 w73 →
 brB (decide (n74 < (s72.len : Int)))
 (∃ a75 : Addr, s72.ptr = some a75 ∧ 0 ≤ n74 ∧ n74 < (s72.len : Int) ∧
 ∃ n_Ip76 : Int, ∃ n_Cell77 : Int, ∃ n_Arg78 : Int, ∃ n_Next79 : Int, w73.cell? (Addr.add a75 (Int.toNat n74 * 4)) = some (.int .i64 n_Ip76) ∧ w73.cell? (Addr.add (Addr.add a75 (Int.toNat n74 * 4)) 1) = some (.int .i64 n_Cell77) ∧ w73.cell? (Addr.add (Addr.add a75 (Int.toNat n74 * 4)) 2) = some (.int .i64 n_Arg78) ∧ w73.cell? (Addr.add (Addr.add a75 (Int.toNat n74 * 4)) 3) = some (.int .i64 n_Next79) ∧
 ∀ (b80 : Nat) (w81 : World), b80 = w73.heap.size → w81 = World.alloc w73 (.cells #[.int .i64 (0 : Int), .int .i64 (0 : Int), .int .i64 (0 : Int), .int .i64 (0 : Int)] T_api_Seen) →
 wrOk w81 ⟨b80, 0, none⟩ 4 ∧ ∀ w82 : World, w82 = stW w81 ⟨b80, 0, none⟩ 0 [.int .i64 n_Ip76, .int .i64 n_Cell77, .int .i64 n_Arg78, .int .i64 n_Next79] →
 ∀ w83 : World, w83 = World.drew w82 →
 ∃ S84 : World → Prop, S84 w83 ∧
 ∃ n_Ip85 : Int, ∃ n_Cell86 : Int, ∃ n_Arg87 : Int, ∃ n_Next88 : Int, held S84 ⟨b80, 0, none⟩ (.int .i64 n_Ip85) ∧ held S84 ⟨b80, 1, none⟩ (.int .i64 n_Cell86) ∧ held S84 ⟨b80, 2, none⟩ (.int .i64 n_Arg87) ∧ held S84 ⟨b80, 3, none⟩ (.int .i64 n_Next88) ∧
 ∃ n89 : Int, held S84 ⟨b80, 0, none⟩ (.int .i64 n89) ∧
 Calls Try.prog fn_build_builder_out #[.pointer (some ⟨b41, 0, none⟩), .int .i64 n89, .int .i64 n74] w83 fun e90 w91 => ∃ n_Ip92 : Int, ∃ n_Steps93 : Int, ∃ s_Stack94 : Sl, ∃ s_Back95 : Sl, e90 = .returned (.agg #[.int .i64 n_Ip92, .int .i64 n_Steps93, s_Stack94.val, s_Back95.val]) ∧
 S84 w91 ∧
 wrOk w91 ⟨b41, 12, none⟩ 4 ∧ ∀ w96 : World, w96 = stW w91 ⟨b41, 12, none⟩ 0 [.int .i64 n_Ip85, .int .i64 n_Cell86, .int .i64 n_Arg87, .int .i64 n_Next88] →
 S84 w96 ∧
 wrOk w96 ⟨b41, 20, none⟩ 1 ∧ ∀ w97 : World, w97 = stW w96 ⟨b41, 20, none⟩ 0 [.int .i64 (-1 : Int)] →
 S84 w97 ∧
 wrOk w97 ⟨b41, 16, none⟩ 4 ∧ ∀ w98 : World, w98 = stW w97 ⟨b41, 16, none⟩ 0 [.int .i64 n_Ip92, .int .i64 n_Steps93, s_Stack94.val, s_Back95.val] →
 Calls Try.prog fn_build_builder_one #[.pointer (some ⟨b41, 0, none⟩), .int .i64 n74] w98 fun e99 w100 => e99 = .returned (.tuple #[]) ∧
 I3 (wr (n74 + (1 : Int))) w100 ∧ μ3 (wr (n74 + (1 : Int))) w100 < μ3 n74 w73)
 (∃ n101 : Int, w73.cell? ⟨b5, 1, none⟩ = some (.int .i64 n101) ∧
 ∃ s102 : Sl, w73.cell? ⟨b5, 3, none⟩ = some (s102.val) ∧
 Calls Try.prog fn_build_builder_out #[.pointer (some ⟨b41, 0, none⟩), .int .i64 n101, .int .i64 (s102.len : Int)] w73 fun e103 w104 => ∃ n_Ip105 : Int, ∃ n_Steps106 : Int, ∃ s_Stack107 : Sl, ∃ s_Back108 : Sl, e103 = .returned (.agg #[.int .i64 n_Ip105, .int .i64 n_Steps106, s_Stack107.val, s_Back108.val]) ∧
 Calls Try.prog fn_build_builder_add #[.pointer (some ⟨b41, 0, none⟩), .agg #[.int .i64 n_Ip105, .int .i64 n_Steps106, s_Stack107.val, s_Back108.val]] w104 fun e109 w110 => ∃ n111 : Int, e109 = .returned (.int .i64 n111) ∧
 wrOk w110 ⟨b41, 7, none⟩ 1 ∧ ∀ w112 : World, w112 = stW w110 ⟨b41, 7, none⟩ 0 [.int .i64 n111] →
 ∃ n_Start113 : Int, ∃ n_Slots114 : Int, ∃ n_Backs115 : Int, ∃ n_Grow116 : Int, ∃ n_GrowBack117 : Int, ∃ s_Ins118 : Sl, ∃ s_Outs119 : Sl, ∃ n_Last120 : Int, ∃ s_Cells121 : Sl, w112.cell? ⟨b41, 0, none⟩ = some (.int .i64 n_Start113) ∧ w112.cell? ⟨b41, 1, none⟩ = some (.int .i64 n_Slots114) ∧ w112.cell? ⟨b41, 2, none⟩ = some (.int .i64 n_Backs115) ∧ w112.cell? ⟨b41, 3, none⟩ = some (.int .i64 n_Grow116) ∧ w112.cell? ⟨b41, 4, none⟩ = some (.int .i64 n_GrowBack117) ∧ w112.cell? ⟨b41, 5, none⟩ = some (s_Ins118.val) ∧ w112.cell? ⟨b41, 6, none⟩ = some (s_Outs119.val) ∧ w112.cell? ⟨b41, 7, none⟩ = some (.int .i64 n_Last120) ∧ w112.cell? ⟨b41, 8, none⟩ = some (s_Cells121.val) ∧
 wrOk w112 ⟨b7, 0, none⟩ 9 ∧ ∀ w122 : World, w122 = stW w112 ⟨b7, 0, none⟩ 0 [.int .i64 n_Start113, .int .i64 n_Slots114, .int .i64 n_Backs115, .int .i64 n_Grow116, .int .i64 n_GrowBack117, s_Ins118.val, s_Outs119.val, .int .i64 n_Last120, s_Cells121.val] →
 ∃ r_Start123 : Int, ∃ r_Slots124 : Int, ∃ r_Backs125 : Int, ∃ r_Grow126 : Int, ∃ r_GrowBack127 : Int, ∃ r_Ins128 : Sl, ∃ r_Outs129 : Sl, ∃ r_Last130 : Int, ∃ r_Cells131 : Sl, w122.cell? ⟨b7, 0, none⟩ = some (.int .i64 r_Start123) ∧ w122.cell? ⟨b7, 1, none⟩ = some (.int .i64 r_Slots124) ∧ w122.cell? ⟨b7, 2, none⟩ = some (.int .i64 r_Backs125) ∧ w122.cell? ⟨b7, 3, none⟩ = some (.int .i64 r_Grow126) ∧ w122.cell? ⟨b7, 4, none⟩ = some (.int .i64 r_GrowBack127) ∧ w122.cell? ⟨b7, 5, none⟩ = some (r_Ins128.val) ∧ w122.cell? ⟨b7, 6, none⟩ = some (r_Outs129.val) ∧ w122.cell? ⟨b7, 7, none⟩ = some (.int .i64 r_Last130) ∧ w122.cell? ⟨b7, 8, none⟩ = some (r_Cells131.val) ∧
 K (.tuple #[.agg #[.int .i64 r_Start123, .int .i64 r_Slots124, .int .i64 r_Backs125, .int .i64 r_Grow126, .int .i64 r_GrowBack127, r_Ins128.val, r_Outs129.val, .int .i64 r_Last130, r_Cells131.val], .bool true]) w122))))) ∧
 ∃ n_Start19 : Int, ∃ n_End20 : Int, ∃ b_Loop21 : Bool, ∃ s_Steps22 : Sl, w14.cell? ⟨b5, 0, none⟩ = some (.int .i64 n_Start19) ∧ w14.cell? ⟨b5, 1, none⟩ = some (.int .i64 n_End20) ∧ w14.cell? ⟨b5, 2, none⟩ = some (.bool b_Loop21) ∧ w14.cell? ⟨b5, 3, none⟩ = some (s_Steps22.val) ∧
 Calls Try.prog fn_record_Right #[.agg #[.int .i64 n_Start19, .int .i64 n_End20, .bool b_Loop21, s_Steps22.val]] w14 fun e23 w24 => ∃ b25 : Bool, e23 = .returned (.bool b25) ∧
 brB (!b25)
 (J4 true w24)
 (∃ s26 : Sl, w24.cell? ⟨b5, 3, none⟩ = some (s26.val) ∧
 brB ((s26.len : Int) == (0 : Int))
 (J4 true w24)
 (brB (decide ((imax n15 n16) > (48 : Int)))
 (J4 true w24)
 (J4 (decide ((imax n17 n18) > (48 : Int))) w24)))
def build_Trace_an : An := ⟨[(7, [(9, .int .i64)]), (11, [(10, .int .i64)]), (15, [(86, .int .i64)])], [(5, (10, .st 0 (.st 1 (.st 2 (.st 3 (.st 4 (.st 5 (.st 6 (.st 7 (.ef 8 (.ef 9 .done))))))))), 1)), (17, (15, .st 0 (.st 1 (.st 2 (.st 3 (.st 4 (.st 5 (.st 6 (.st 7 (.ef 8 (.st 9 (.st 10 (.ef 11 (.st 12 (.st 13 (.ef 14 .done)))))))))))))), 1))], [(3, [(40, .bool)])]⟩
theorem build_Trace_lift {r__Start1 : Int} {r__End2 : Int} {r__Loop3 : Bool} {r__Steps4 : Sl} {w : World} {K : Value → World → Prop} (h : build_Trace_sh r__Start1 r__End2 r__Loop3 r__Steps4 w K) : Calls Try.prog fn_build_Trace #[.agg #[.int .i64 r__Start1, .int .i64 r__End2, .bool r__Loop3, r__Steps4.val]] w fun e w' => ∃ v, e = .returned v ∧ K v w' :=
   lift_calls (A := build_Trace_an) (c := bodyOf Try.f7) (args := [.agg #[.int .i64 r__Start1, .int .i64 r__End2, .bool r__Loop3, r__Steps4.val]]) orc orc_wide Try.func7 (by kernel_rfl) (by kernel_rfl) (Eq.mp (by kernel_rfl : build_Trace_sh r__Start1 r__End2 r__Loop3 r__Steps4 w K = wpc orc Try.f7.ntmps build_Trace_an (bodyOf Try.f7) (argl 0 [.agg #[.int .i64 r__Start1, .int .i64 r__End2, .bool r__Loop3, r__Steps4.val]]) w (retQ orc Try.f7.results.toList K)) h)

-- holloway/build.Needs
def build_Needs_sh (r__Start1 : Int) (r__End2 : Int) (r__Loop3 : Bool) (r__Steps4 : Sl) (w : World) (K : Value → World → Prop) : Prop :=
 ∀ (b5 : Nat) (w6 : World), b5 = w.heap.size → w6 = World.alloc w (.cells #[.int .i64 r__Start1, .int .i64 r__End2, .bool r__Loop3, r__Steps4.val] T_api_Recording) →
 ∃ n_Start7 : Int, ∃ n_End8 : Int, ∃ b_Loop9 : Bool, ∃ s_Steps10 : Sl, w6.cell? ⟨b5, 0, none⟩ = some (.int .i64 n_Start7) ∧ w6.cell? ⟨b5, 1, none⟩ = some (.int .i64 n_End8) ∧ w6.cell? ⟨b5, 2, none⟩ = some (.bool b_Loop9) ∧ w6.cell? ⟨b5, 3, none⟩ = some (s_Steps10.val) ∧
 Calls Try.prog fn_record_Right #[.agg #[.int .i64 n_Start7, .int .i64 n_End8, .bool b_Loop9, s_Steps10.val]] w6 fun e11 w12 => ∃ b13 : Bool, e11 = .returned (.bool b13) ∧
 brB (!b13)
 (K (.tuple #[.int .i64 (0 : Int), .int .i64 (0 : Int), .int .i64 (0 : Int), .int .i64 (0 : Int)]) w12)
 (∀ (b14 : Nat) (w15 : World), b14 = w12.heap.size → w15 = World.alloc w12 (.cells #[.int .i64 (0 : Int), .int .i64 (0 : Int), .int .i64 (0 : Int)] T_build_depth) →
 ∀ (b16 : Nat) (w17 : World), b16 = w15.heap.size → w17 = World.alloc w15 (.cells #[.int .i64 (0 : Int), .int .i64 (0 : Int), .int .i64 (0 : Int)] T_build_depth) →
 ∃ s18 : Sl, w17.cell? ⟨b5, 3, none⟩ = some (s18.val) ∧
 ∃ (I1 : Int → World → Prop) (μ1 : Int → World → Nat), I1 (0 : Int) w17 ∧ ∀ (n20 : Int) (w19 : World), I1 n20 w19 →
 brB (decide (n20 < (s18.len : Int)))
 (∃ J10 : World → Prop, (∀ (w61 : World), J10  w61 →
 I1 (wr (n20 + (1 : Int))) w61 ∧ μ1 (wr (n20 + (1 : Int))) w61 < μ1 n20 w19) ∧
 ∃ a21 : Addr, s18.ptr = some a21 ∧ 0 ≤ n20 ∧ n20 < (s18.len : Int) ∧
 ∃ n_Ip22 : Int, ∃ n_Cell23 : Int, ∃ n_Arg24 : Int, ∃ n_Next25 : Int, w19.cell? (Addr.add a21 (Int.toNat n20 * 4)) = some (.int .i64 n_Ip22) ∧ w19.cell? (Addr.add (Addr.add a21 (Int.toNat n20 * 4)) 1) = some (.int .i64 n_Cell23) ∧ w19.cell? (Addr.add (Addr.add a21 (Int.toNat n20 * 4)) 2) = some (.int .i64 n_Arg24) ∧ w19.cell? (Addr.add (Addr.add a21 (Int.toNat n20 * 4)) 3) = some (.int .i64 n_Next25) ∧
 ∀ (b26 : Nat) (w27 : World), b26 = w19.heap.size → w27 = World.alloc w19 (.cells #[.int .i64 (0 : Int), .int .i64 (0 : Int), .int .i64 (0 : Int), .int .i64 (0 : Int)] T_api_Seen) →
 wrOk w27 ⟨b26, 0, none⟩ 4 ∧ ∀ w28 : World, w28 = stW w27 ⟨b26, 0, none⟩ 0 [.int .i64 n_Ip22, .int .i64 n_Cell23, .int .i64 n_Arg24, .int .i64 n_Next25] →
 ∃ n_Ip29 : Int, ∃ n_Cell30 : Int, ∃ n_Arg31 : Int, ∃ n_Next32 : Int, w28.cell? ⟨b26, 0, none⟩ = some (.int .i64 n_Ip29) ∧ w28.cell? ⟨b26, 1, none⟩ = some (.int .i64 n_Cell30) ∧ w28.cell? ⟨b26, 2, none⟩ = some (.int .i64 n_Arg31) ∧ w28.cell? ⟨b26, 3, none⟩ = some (.int .i64 n_Next32) ∧
 Calls Try.prog fn_build_called #[.agg #[.int .i64 n_Ip29, .int .i64 n_Cell30, .int .i64 n_Arg31, .int .i64 n_Next32]] w28 fun e33 w34 => ∃ b35 : Bool, e33 = .returned (.bool b35) ∧
 brB b35
 (Calls Try.prog fn_build_depth_step #[.pointer (some ⟨b16, 0, none⟩), .int .i64 (0 : Int), .int .i64 (1 : Int)] w34 fun e36 w37 => e36 = .returned (.tuple #[]) ∧
 J10  w37)
 (∃ n38 : Int, w34.cell? ⟨b26, 1, none⟩ = some (.int .i64 n38) ∧
 Calls Try.prog fn_op_Takes #[.int .i64 n38] w34 fun e39 w40 => ∃ n41 : Int, ∃ n42 : Int, e39 = .returned (.tuple #[.int .i64 n41, .int .i64 n42]) ∧
 ∃ n43 : Int, w40.cell? ⟨b26, 1, none⟩ = some (.int .i64 n43) ∧
 Calls Try.prog fn_op_Gives #[.int .i64 n43] w40 fun e44 w45 => ∃ n46 : Int, ∃ n47 : Int, e44 = .returned (.tuple #[.int .i64 n46, .int .i64 n47]) ∧
 ∃ J17 : Int → World → Prop, (∀ (giveBack58 : Int) (w55 : World), J17 giveBack58 w55 →
 Calls Try.prog fn_build_depth_step #[.pointer (some ⟨b14, 0, none⟩), .int .i64 n41, .int .i64 n46] w55 fun e56 w57 => e56 = .returned (.tuple #[]) ∧
 Calls Try.prog fn_build_depth_step #[.pointer (some ⟨b16, 0, none⟩), .int .i64 n42, .int .i64 giveBack58] w57 fun e59 w60 => e59 = .returned (.tuple #[]) ∧
 J10  w60) ∧
 ∃ n_Ip48 : Int, ∃ n_Cell49 : Int, ∃ n_Arg50 : Int, ∃ n_Next51 : Int, w45.cell? ⟨b26, 0, none⟩ = some (.int .i64 n_Ip48) ∧ w45.cell? ⟨b26, 1, none⟩ = some (.int .i64 n_Cell49) ∧ w45.cell? ⟨b26, 2, none⟩ = some (.int .i64 n_Arg50) ∧ w45.cell? ⟨b26, 3, none⟩ = some (.int .i64 n_Next51) ∧
 Calls Try.prog fn_build_ends #[.agg #[.int .i64 n_Ip48, .int .i64 n_Cell49, .int .i64 n_Arg50, .int .i64 n_Next51]] w45 fun e52 w53 => ∃ b54 : Bool, e52 = .returned (.bool b54) ∧
 brB b54
 (J17 (0 : Int) w53)
 (J17 n47 w53)))
 (∀ w62 : World, w62 = World.drew w19 →
 ∃ n63 : Int, held (Lw w62) ⟨b14, 1, none⟩ (.int .i64 n63) ∧
 ∃ n64 : Int, held (Lw w62) ⟨b14, 2, none⟩ (.int .i64 n64) ∧
 ∃ n65 : Int, held (Lw w62) ⟨b16, 1, none⟩ (.int .i64 n65) ∧
 ∃ n66 : Int, held (Lw w62) ⟨b16, 2, none⟩ (.int .i64 n66) ∧
 K (.tuple #[.int .i64 n63, .int .i64 n64, .int .i64 n65, .int .i64 n66]) w62))
def build_Needs_an : An := ⟨[(5, [(20, .int .i64)])], [(16, (12, .st 0 (.st 1 (.st 2 (.st 3 (.st 4 (.st 5 (.st 6 (.st 7 (.st 8 (.st 9 (.st 10 (.st 11 .done))))))))))), 0))], [(13, [(13, .int .i64)]), (15, [])]⟩
theorem build_Needs_lift {r__Start1 : Int} {r__End2 : Int} {r__Loop3 : Bool} {r__Steps4 : Sl} {w : World} {K : Value → World → Prop} (h : build_Needs_sh r__Start1 r__End2 r__Loop3 r__Steps4 w K) : Calls Try.prog fn_build_Needs #[.agg #[.int .i64 r__Start1, .int .i64 r__End2, .bool r__Loop3, r__Steps4.val]] w fun e w' => ∃ v, e = .returned v ∧ K v w' :=
   lift_calls (A := build_Needs_an) (c := bodyOf Try.f8) (args := [.agg #[.int .i64 r__Start1, .int .i64 r__End2, .bool r__Loop3, r__Steps4.val]]) orc orc_wide Try.func8 (by kernel_rfl) (by kernel_rfl) (Eq.mp (by kernel_rfl : build_Needs_sh r__Start1 r__End2 r__Loop3 r__Steps4 w K = wpc orc Try.f8.ntmps build_Needs_an (bodyOf Try.f8) (argl 0 [.agg #[.int .i64 r__Start1, .int .i64 r__End2, .bool r__Loop3, r__Steps4.val]]) w (retQ orc Try.f8.results.toList K)) h)

-- (*holloway/build.builder).push
def build_builder_push_sh (b_1 : Nat) (l_2 : Sl) (w : World) (K : Value → World → Prop) : Prop :=
 ∃ s3 : Sl, w.cell? ⟨b_1, 9, none⟩ = some (s3.val) ∧
 ∃ s4 : Sl, ∃ w5 : World, (Builtin.append_ #[T_sl_int, T_sl_int] T_sl_int #[s3.val, l_2.val]).run Try.prog w = .ok (s4.val) w5 ∧
 wrOk w5 ⟨b_1, 9, none⟩ 1 ∧ ∀ w6 : World, w6 = stW w5 ⟨b_1, 9, none⟩ 0 [s4.val] →
 K (.tuple #[]) w6
def build_builder_push_an : An := ⟨[], [], []⟩
theorem build_builder_push_lift {b_1 : Nat} {l_2 : Sl} {w : World} {K : Value → World → Prop} (h : build_builder_push_sh b_1 l_2 w K) : Calls Try.prog fn_build_builder_push #[.pointer (some ⟨b_1, 0, none⟩), l_2.val] w fun e w' => ∃ v, e = .returned v ∧ K v w' :=
   lift_calls (A := build_builder_push_an) (c := bodyOf Try.f18) (args := [.pointer (some ⟨b_1, 0, none⟩), l_2.val]) orc orc_wide Try.func18 (by kernel_rfl) (by kernel_rfl) (Eq.mp (by kernel_rfl : build_builder_push_sh b_1 l_2 w K = wpc orc Try.f18.ntmps build_builder_push_an (bodyOf Try.f18) (argl 0 [.pointer (some ⟨b_1, 0, none⟩), l_2.val]) w (retQ orc Try.f18.results.toList K)) h)

-- (*holloway/build.builder).ins
def build_builder_ins_sh (b_1 : Nat) (i__Op2 : Int) (i__A3 : Int) (i__B4 : Int) (i__C5 : Int) (i__X6 : Int) (w : World) (K : Value → World → Prop) : Prop :=
 ∀ (b7 : Nat) (w8 : World), b7 = w.heap.size → w8 = World.alloc w (.cells #[.int .i64 i__Op2, .int .i64 i__A3, .int .i64 i__B4, .int .i64 i__C5, .int .i64 i__X6] T_api_Ins) →
 ∀ w9 : World, w9 = World.drew w8 →
 ∃ S10 : World → Prop, S10 w9 ∧
 ∃ s11 : Sl, held S10 ⟨b_1, 5, none⟩ (s11.val) ∧
 ∃ n_Op12 : Int, ∃ n_A13 : Int, ∃ n_B14 : Int, ∃ n_C15 : Int, ∃ n_X16 : Int, held S10 ⟨b7, 0, none⟩ (.int .i64 n_Op12) ∧ held S10 ⟨b7, 1, none⟩ (.int .i64 n_A13) ∧ held S10 ⟨b7, 2, none⟩ (.int .i64 n_B14) ∧ held S10 ⟨b7, 3, none⟩ (.int .i64 n_C15) ∧ held S10 ⟨b7, 4, none⟩ (.int .i64 n_X16) ∧
 ∀ (b17 : Nat) (w18 : World), b17 = w9.heap.size → w18 = World.alloc w9 (.cells #[.int .i64 n_Op12, .int .i64 n_A13, .int .i64 n_B14, .int .i64 n_C15, .int .i64 n_X16] T_api_Ins) →
 S10 w18 ∧
 ∃ s19 : Sl, ∃ w20 : World, (Builtin.append_ #[T_sl_api_Ins, T_sl_api_Ins] T_sl_api_Ins #[s11.val, .slice (some ⟨b17, 0, none⟩) 1 1]).run Try.prog w18 = .ok (s19.val) w20 ∧
 S10 w20 ∧
 wrOk w20 ⟨b_1, 5, none⟩ 1 ∧ ∀ w21 : World, w21 = stW w20 ⟨b_1, 5, none⟩ 0 [s19.val] →
 ∃ s22 : Sl, w21.cell? ⟨b_1, 5, none⟩ = some (s22.val) ∧
 K (.int .i64 (wr ((s22.len : Int) - (1 : Int)))) w21
def build_builder_ins_an : An := ⟨[], [(1, (9, .st 0 (.st 1 (.st 2 (.st 3 (.st 4 (.st 5 (.st 6 (.ef 7 (.ef 8 .done)))))))), 1))], []⟩
theorem build_builder_ins_lift {b_1 : Nat} {i__Op2 : Int} {i__A3 : Int} {i__B4 : Int} {i__C5 : Int} {i__X6 : Int} {w : World} {K : Value → World → Prop} (h : build_builder_ins_sh b_1 i__Op2 i__A3 i__B4 i__C5 i__X6 w K) : Calls Try.prog fn_build_builder_ins #[.pointer (some ⟨b_1, 0, none⟩), .agg #[.int .i64 i__Op2, .int .i64 i__A3, .int .i64 i__B4, .int .i64 i__C5, .int .i64 i__X6]] w fun e w' => ∃ v, e = .returned v ∧ K v w' :=
   lift_calls (A := build_builder_ins_an) (c := bodyOf Try.f19) (args := [.pointer (some ⟨b_1, 0, none⟩), .agg #[.int .i64 i__Op2, .int .i64 i__A3, .int .i64 i__B4, .int .i64 i__C5, .int .i64 i__X6]]) orc orc_wide Try.func19 (by kernel_rfl) (by kernel_rfl) (Eq.mp (by kernel_rfl : build_builder_ins_sh b_1 i__Op2 i__A3 i__B4 i__C5 i__X6 w K = wpc orc Try.f19.ntmps build_builder_ins_an (bodyOf Try.f19) (argl 0 [.pointer (some ⟨b_1, 0, none⟩), .agg #[.int .i64 i__Op2, .int .i64 i__A3, .int .i64 i__B4, .int .i64 i__C5, .int .i64 i__X6]]) w (retQ orc Try.f19.results.toList K)) h)

-- (*holloway/build.builder).lay
def build_builder_lay_sh (b_1 : Nat) (l_2 : Sl) (w : World) (K : Value → World → Prop) : Prop :=
 ∃ s3 : Sl, w.cell? ⟨b_1, 10, none⟩ = some (s3.val) ∧
 ∃ s4 : Sl, ∃ w5 : World, (Builtin.append_ #[T_sl_int, T_sl_int] T_sl_int #[s3.val, l_2.val]).run Try.prog w = .ok (s4.val) w5 ∧
 wrOk w5 ⟨b_1, 10, none⟩ 1 ∧ ∀ w6 : World, w6 = stW w5 ⟨b_1, 10, none⟩ 0 [s4.val] →
 K (.tuple #[]) w6
def build_builder_lay_an : An := ⟨[], [], []⟩
theorem build_builder_lay_lift {b_1 : Nat} {l_2 : Sl} {w : World} {K : Value → World → Prop} (h : build_builder_lay_sh b_1 l_2 w K) : Calls Try.prog fn_build_builder_lay #[.pointer (some ⟨b_1, 0, none⟩), l_2.val] w fun e w' => ∃ v, e = .returned v ∧ K v w' :=
   lift_calls (A := build_builder_lay_an) (c := bodyOf Try.f20) (args := [.pointer (some ⟨b_1, 0, none⟩), l_2.val]) orc orc_wide Try.func20 (by kernel_rfl) (by kernel_rfl) (Eq.mp (by kernel_rfl : build_builder_lay_sh b_1 l_2 w K = wpc orc Try.f20.ntmps build_builder_lay_an (bodyOf Try.f20) (argl 0 [.pointer (some ⟨b_1, 0, none⟩), l_2.val]) w (retQ orc Try.f20.results.toList K)) h)

-- (*holloway/build.builder).out
def build_builder_out_sh (b_1 : Nat) (ip2 : Int) (steps3 : Int) (w : World) (K : Value → World → Prop) : Prop :=
 ∀ (b4 : Nat) (w5 : World), b4 = w.heap.size → w5 = World.alloc w (.cells #[.int .i64 (0 : Int), .int .i64 (0 : Int), .slice none 0 0, .slice none 0 0] T_api_Out) →
 ∀ w6 : World, w6 = World.drew w5 →
 ∃ S7 : World → Prop, S7 w6 ∧
 ∃ s8 : Sl, held S7 ⟨b_1, 9, none⟩ (s8.val) ∧
 ∃ s9 : Sl, held S7 ⟨b_1, 10, none⟩ (s9.val) ∧
 Calls Try.prog fn_slices_Clone_sl_int_int #[s8.val] w6 fun e10 w11 => ∃ s12 : Sl, e10 = .returned (s12.val) ∧
 S7 w11 ∧
 Calls Try.prog fn_slices_Clone_sl_int_int #[s9.val] w11 fun e13 w14 => ∃ s15 : Sl, e13 = .returned (s15.val) ∧
 S7 w14 ∧
 wrOk w14 ⟨b4, 0, none⟩ 4 ∧ ∀ w16 : World, w16 = stW w14 ⟨b4, 0, none⟩ 0 [.int .i64 ip2, .int .i64 steps3, s12.val, s15.val] →
 ∃ r_Ip17 : Int, ∃ r_Steps18 : Int, ∃ r_Stack19 : Sl, ∃ r_Back20 : Sl, w16.cell? ⟨b4, 0, none⟩ = some (.int .i64 r_Ip17) ∧ w16.cell? ⟨b4, 1, none⟩ = some (.int .i64 r_Steps18) ∧ w16.cell? ⟨b4, 2, none⟩ = some (r_Stack19.val) ∧ w16.cell? ⟨b4, 3, none⟩ = some (r_Back20.val) ∧
 K (.agg #[.int .i64 r_Ip17, .int .i64 r_Steps18, r_Stack19.val, r_Back20.val]) w16
def build_builder_out_an : An := ⟨[], [(1, (12, .st 0 (.st 1 (.st 2 (.st 3 (.st 4 (.st 5 (.st 7 (.st 8 (.st 9 (.st 10 (.ef 6 (.ef 11 .done))))))))))), 1))], []⟩
theorem build_builder_out_lift {b_1 : Nat} {ip2 : Int} {steps3 : Int} {w : World} {K : Value → World → Prop} (h : build_builder_out_sh b_1 ip2 steps3 w K) : Calls Try.prog fn_build_builder_out #[.pointer (some ⟨b_1, 0, none⟩), .int .i64 ip2, .int .i64 steps3] w fun e w' => ∃ v, e = .returned v ∧ K v w' :=
   lift_calls (A := build_builder_out_an) (c := bodyOf Try.f21) (args := [.pointer (some ⟨b_1, 0, none⟩), .int .i64 ip2, .int .i64 steps3]) orc orc_wide Try.func21 (by kernel_rfl) (by kernel_rfl) (Eq.mp (by kernel_rfl : build_builder_out_sh b_1 ip2 steps3 w K = wpc orc Try.f21.ntmps build_builder_out_an (bodyOf Try.f21) (argl 0 [.pointer (some ⟨b_1, 0, none⟩), .int .i64 ip2, .int .i64 steps3]) w (retQ orc Try.f21.results.toList K)) h)

-- (*holloway/build.builder).one
def build_builder_one_sh (b_1 : Nat) (i_2 : Int) (w : World) (K : Value → World → Prop) : Prop :=
 ∃ n_Ip3 : Int, ∃ n_Cell4 : Int, ∃ n_Arg5 : Int, ∃ n_Next6 : Int, w.cell? ⟨b_1, 12, none⟩ = some (.int .i64 n_Ip3) ∧ w.cell? ⟨b_1, 13, none⟩ = some (.int .i64 n_Cell4) ∧ w.cell? ⟨b_1, 14, none⟩ = some (.int .i64 n_Arg5) ∧ w.cell? ⟨b_1, 15, none⟩ = some (.int .i64 n_Next6) ∧
 ∀ (b7 : Nat) (w8 : World), b7 = w.heap.size → w8 = World.alloc w (.cells #[.int .i64 (0 : Int), .int .i64 (0 : Int), .int .i64 (0 : Int), .int .i64 (0 : Int)] T_api_Seen) →
 wrOk w8 ⟨b7, 0, none⟩ 4 ∧ ∀ w9 : World, w9 = stW w8 ⟨b7, 0, none⟩ 0 [.int .i64 n_Ip3, .int .i64 n_Cell4, .int .i64 n_Arg5, .int .i64 n_Next6] →
 ∃ n_Ip10 : Int, ∃ n_Cell11 : Int, ∃ n_Arg12 : Int, ∃ n_Next13 : Int, w9.cell? ⟨b7, 0, none⟩ = some (.int .i64 n_Ip10) ∧ w9.cell? ⟨b7, 1, none⟩ = some (.int .i64 n_Cell11) ∧ w9.cell? ⟨b7, 2, none⟩ = some (.int .i64 n_Arg12) ∧ w9.cell? ⟨b7, 3, none⟩ = some (.int .i64 n_Next13) ∧
 Calls Try.prog fn_build_called #[.agg #[.int .i64 n_Ip10, .int .i64 n_Cell11, .int .i64 n_Arg12, .int .i64 n_Next13]] w9 fun e14 w15 => ∃ b16 : Bool, e14 = .returned (.bool b16) ∧
 brB b16
 (∃ n17 : Int, w15.cell? ⟨b7, 1, none⟩ = some (.int .i64 n17) ∧
 Calls Try.prog fn_build_builder_goes #[.pointer (some ⟨b_1, 0, none⟩), .int .i64 n17] w15 fun e18 w19 => e18 = .returned (.tuple #[]) ∧
 ∃ n20 : Int, w19.cell? ⟨b7, 0, none⟩ = some (.int .i64 n20) ∧
 Calls Try.prog fn_build_builder_number #[.pointer (some ⟨b_1, 0, none⟩), .int .i64 (wr (n20 + (1 : Int)))] w19 fun e21 w22 => ∃ n23 : Int, e21 = .returned (.int .i64 n23) ∧
 ∀ (b24 : Nat) (w25 : World), b24 = w22.heap.size → w25 = World.alloc w22 (.cells #[.int .i64 n23] T_int) →
 Calls Try.prog fn_build_builder_lay #[.pointer (some ⟨b_1, 0, none⟩), .slice (some ⟨b24, 0, none⟩) 1 1] w25 fun e26 w27 => e26 = .returned (.tuple #[]) ∧
 K (.tuple #[]) w27)
 (∃ J4 : Bool → World → Prop, (∀ (b31 : Bool) (w30 : World), J4 b31 w30 →
 brB b31
 (Calls Try.prog fn_build_builder_leads #[.pointer (some ⟨b_1, 0, none⟩)] w30 fun e32 w33 => e32 = .returned (.tuple #[]) ∧
 K (.tuple #[]) w33)
 (∃ n34 : Int, w30.cell? ⟨b7, 1, none⟩ = some (.int .i64 n34) ∧
 brB (n34 == (3 : Int))
 (∃ n35 : Int, w30.cell? ⟨b7, 2, none⟩ = some (.int .i64 n35) ∧
 Calls Try.prog fn_build_builder_goes #[.pointer (some ⟨b_1, 0, none⟩), .int .i64 n35] w30 fun e36 w37 => e36 = .returned (.tuple #[]) ∧
 K (.tuple #[]) w37)
 (∃ n38 : Int, w30.cell? ⟨b7, 1, none⟩ = some (.int .i64 n38) ∧
 brB (n38 == (4 : Int))
 (Calls Try.prog fn_build_builder_zero #[.pointer (some ⟨b_1, 0, none⟩)] w30 fun e39 w40 => e39 = .returned (.tuple #[]) ∧
 K (.tuple #[]) w40)
 (∃ J8 : Bool → World → Prop, (∀ (b44 : Bool) (w43 : World), J8 b44 w43 →
 brB b44
 (Calls Try.prog fn_build_builder_loop #[.pointer (some ⟨b_1, 0, none⟩)] w43 fun e45 w46 => e45 = .returned (.tuple #[]) ∧
 K (.tuple #[]) w46)
 (∃ n47 : Int, w43.cell? ⟨b7, 1, none⟩ = some (.int .i64 n47) ∧
 brB (n47 == (2 : Int))
 (∃ n48 : Int, w43.cell? ⟨b7, 0, none⟩ = some (.int .i64 n48) ∧
 Calls Try.prog fn_build_builder_goes #[.pointer (some ⟨b_1, 0, none⟩), .int .i64 (wr (n48 + (2 : Int)))] w43 fun e49 w50 => e49 = .returned (.tuple #[]) ∧
 ∃ n51 : Int, w50.cell? ⟨b7, 2, none⟩ = some (.int .i64 n51) ∧
 Calls Try.prog fn_build_builder_number #[.pointer (some ⟨b_1, 0, none⟩), .int .i64 n51] w50 fun e52 w53 => ∃ n54 : Int, e52 = .returned (.int .i64 n54) ∧
 ∀ (b55 : Nat) (w56 : World), b55 = w53.heap.size → w56 = World.alloc w53 (.cells #[.int .i64 n54] T_int) →
 Calls Try.prog fn_build_builder_push #[.pointer (some ⟨b_1, 0, none⟩), .slice (some ⟨b55, 0, none⟩) 1 1] w56 fun e57 w58 => e57 = .returned (.tuple #[]) ∧
 K (.tuple #[]) w58)
 (∃ n59 : Int, w43.cell? ⟨b7, 0, none⟩ = some (.int .i64 n59) ∧
 Calls Try.prog fn_build_builder_goes #[.pointer (some ⟨b_1, 0, none⟩), .int .i64 (wr (n59 + (1 : Int)))] w43 fun e60 w61 => e60 = .returned (.tuple #[]) ∧
 Calls Try.prog fn_build_builder_plain #[.pointer (some ⟨b_1, 0, none⟩), .int .i64 i_2] w61 fun e62 w63 => e62 = .returned (.tuple #[]) ∧
 K (.tuple #[]) w63))) ∧
 ∃ n41 : Int, w30.cell? ⟨b7, 1, none⟩ = some (.int .i64 n41) ∧
 brB (n41 == (37 : Int))
 (J8 (n41 == (37 : Int)) w30)
 (∃ n42 : Int, w30.cell? ⟨b7, 1, none⟩ = some (.int .i64 n42) ∧
 J8 (n42 == (38 : Int)) w30))))) ∧
 ∃ n28 : Int, w15.cell? ⟨b7, 1, none⟩ = some (.int .i64 n28) ∧
 brB (n28 == (5 : Int))
 (J4 (n28 == (5 : Int)) w15)
 (∃ n29 : Int, w15.cell? ⟨b7, 1, none⟩ = some (.int .i64 n29) ∧
 J4 (n29 == (44 : Int)) w15))
def build_builder_one_an : An := ⟨[], [], [(15, [(55, .bool)]), (8, [(32, .bool)])]⟩
theorem build_builder_one_lift {b_1 : Nat} {i_2 : Int} {w : World} {K : Value → World → Prop} (h : build_builder_one_sh b_1 i_2 w K) : Calls Try.prog fn_build_builder_one #[.pointer (some ⟨b_1, 0, none⟩), .int .i64 i_2] w fun e w' => ∃ v, e = .returned v ∧ K v w' :=
   lift_calls (A := build_builder_one_an) (c := bodyOf Try.f22) (args := [.pointer (some ⟨b_1, 0, none⟩), .int .i64 i_2]) orc orc_wide Try.func22 (by kernel_rfl) (by kernel_rfl) (Eq.mp (by kernel_rfl : build_builder_one_sh b_1 i_2 w K = wpc orc Try.f22.ntmps build_builder_one_an (bodyOf Try.f22) (argl 0 [.pointer (some ⟨b_1, 0, none⟩), .int .i64 i_2]) w (retQ orc Try.f22.results.toList K)) h)

-- (*holloway/build.builder).add
def build_builder_add_sh (b_1 : Nat) (x__Ip2 : Int) (x__Steps3 : Int) (x__Stack4 : Sl) (x__Back5 : Sl) (w : World) (K : Value → World → Prop) : Prop :=
 ∀ (b6 : Nat) (w7 : World), b6 = w.heap.size → w7 = World.alloc w (.cells #[.int .i64 x__Ip2, .int .i64 x__Steps3, x__Stack4.val, x__Back5.val] T_api_Out) →
 ∀ w8 : World, w8 = World.drew w7 →
 ∃ S9 : World → Prop, S9 w8 ∧
 ∃ s10 : Sl, held S9 ⟨b_1, 6, none⟩ (s10.val) ∧
 ∃ n_Ip11 : Int, ∃ n_Steps12 : Int, ∃ s_Stack13 : Sl, ∃ s_Back14 : Sl, held S9 ⟨b6, 0, none⟩ (.int .i64 n_Ip11) ∧ held S9 ⟨b6, 1, none⟩ (.int .i64 n_Steps12) ∧ held S9 ⟨b6, 2, none⟩ (s_Stack13.val) ∧ held S9 ⟨b6, 3, none⟩ (s_Back14.val) ∧
 ∀ (b15 : Nat) (w16 : World), b15 = w8.heap.size → w16 = World.alloc w8 (.cells #[.int .i64 n_Ip11, .int .i64 n_Steps12, s_Stack13.val, s_Back14.val] T_api_Out) →
 S9 w16 ∧
 ∃ s17 : Sl, ∃ w18 : World, (Builtin.append_ #[T_sl_api_Out, T_sl_api_Out] T_sl_api_Out #[s10.val, .slice (some ⟨b15, 0, none⟩) 1 1]).run Try.prog w16 = .ok (s17.val) w18 ∧
 S9 w18 ∧
 wrOk w18 ⟨b_1, 6, none⟩ 1 ∧ ∀ w19 : World, w19 = stW w18 ⟨b_1, 6, none⟩ 0 [s17.val] →
 ∃ s20 : Sl, w19.cell? ⟨b_1, 6, none⟩ = some (s20.val) ∧
 K (.int .i64 (wr ((s20.len : Int) - (1 : Int)))) w19
def build_builder_add_an : An := ⟨[], [(1, (9, .st 0 (.st 1 (.st 2 (.st 3 (.st 4 (.st 5 (.st 6 (.ef 7 (.ef 8 .done)))))))), 1))], []⟩
theorem build_builder_add_lift {b_1 : Nat} {x__Ip2 : Int} {x__Steps3 : Int} {x__Stack4 : Sl} {x__Back5 : Sl} {w : World} {K : Value → World → Prop} (h : build_builder_add_sh b_1 x__Ip2 x__Steps3 x__Stack4 x__Back5 w K) : Calls Try.prog fn_build_builder_add #[.pointer (some ⟨b_1, 0, none⟩), .agg #[.int .i64 x__Ip2, .int .i64 x__Steps3, x__Stack4.val, x__Back5.val]] w fun e w' => ∃ v, e = .returned v ∧ K v w' :=
   lift_calls (A := build_builder_add_an) (c := bodyOf Try.f23) (args := [.pointer (some ⟨b_1, 0, none⟩), .agg #[.int .i64 x__Ip2, .int .i64 x__Steps3, x__Stack4.val, x__Back5.val]]) orc orc_wide Try.func23 (by kernel_rfl) (by kernel_rfl) (Eq.mp (by kernel_rfl : build_builder_add_sh b_1 x__Ip2 x__Steps3 x__Stack4 x__Back5 w K = wpc orc Try.f23.ntmps build_builder_add_an (bodyOf Try.f23) (argl 0 [.pointer (some ⟨b_1, 0, none⟩), .agg #[.int .i64 x__Ip2, .int .i64 x__Steps3, x__Stack4.val, x__Back5.val]]) w (retQ orc Try.f23.results.toList K)) h)

-- holloway/build.called
def build_called_sh (x__Ip1 : Int) (x__Cell2 : Int) (x__Arg3 : Int) (x__Next4 : Int) (w : World) (K : Value → World → Prop) : Prop :=
 ∀ (b5 : Nat) (w6 : World), b5 = w.heap.size → w6 = World.alloc w (.cells #[.int .i64 x__Ip1, .int .i64 x__Cell2, .int .i64 x__Arg3, .int .i64 x__Next4] T_api_Seen) →
 ∃ n7 : Int, w6.cell? ⟨b5, 1, none⟩ = some (.int .i64 n7) ∧
 K (.bool (decide (n7 ≥ (64 : Int)))) w6
def build_called_an : An := ⟨[], [], []⟩
theorem build_called_lift {x__Ip1 : Int} {x__Cell2 : Int} {x__Arg3 : Int} {x__Next4 : Int} {w : World} {K : Value → World → Prop} (h : build_called_sh x__Ip1 x__Cell2 x__Arg3 x__Next4 w K) : Calls Try.prog fn_build_called #[.agg #[.int .i64 x__Ip1, .int .i64 x__Cell2, .int .i64 x__Arg3, .int .i64 x__Next4]] w fun e w' => ∃ v, e = .returned v ∧ K v w' :=
   lift_calls (A := build_called_an) (c := bodyOf Try.f24) (args := [.agg #[.int .i64 x__Ip1, .int .i64 x__Cell2, .int .i64 x__Arg3, .int .i64 x__Next4]]) orc orc_wide Try.func24 (by kernel_rfl) (by kernel_rfl) (Eq.mp (by kernel_rfl : build_called_sh x__Ip1 x__Cell2 x__Arg3 x__Next4 w K = wpc orc Try.f24.ntmps build_called_an (bodyOf Try.f24) (argl 0 [.agg #[.int .i64 x__Ip1, .int .i64 x__Cell2, .int .i64 x__Arg3, .int .i64 x__Next4]]) w (retQ orc Try.f24.results.toList K)) h)

-- (*holloway/build.depth).step
def build_depth_step_sh (d_1 : Nat) (takes2 : Int) (gives3 : Int) (w : World) (K : Value → World → Prop) : Prop :=
 ∀ w4 : World, w4 = World.drew w →
 ∃ n5 : Int, held (Lw w4) ⟨d_1, 1, none⟩ (.int .i64 n5) ∧
 ∃ n6 : Int, held (Lw w4) ⟨d_1, 0, none⟩ (.int .i64 n6) ∧
 wrOk w4 ⟨d_1, 1, none⟩ 1 ∧ ∀ w7 : World, w7 = stW w4 ⟨d_1, 1, none⟩ 0 [.int .i64 (imax n5 (wr (takes2 - n6)))] →
 ∃ n8 : Int, w7.cell? ⟨d_1, 0, none⟩ = some (.int .i64 n8) ∧
 wrOk w7 ⟨d_1, 0, none⟩ 1 ∧ ∀ w9 : World, w9 = stW w7 ⟨d_1, 0, none⟩ 0 [.int .i64 (wr (n8 + (wr (gives3 - takes2))))] →
 ∀ w10 : World, w10 = World.drew w9 →
 ∃ n11 : Int, held (Lw w10) ⟨d_1, 2, none⟩ (.int .i64 n11) ∧
 ∃ n12 : Int, held (Lw w10) ⟨d_1, 0, none⟩ (.int .i64 n12) ∧
 wrOk w10 ⟨d_1, 2, none⟩ 1 ∧ ∀ w13 : World, w13 = stW w10 ⟨d_1, 2, none⟩ 0 [.int .i64 (imax n11 n12)] →
 K (.tuple #[]) w13
def build_depth_step_an : An := ⟨[], [(0, (14, .st 0 (.st 1 (.st 2 (.st 3 (.st 4 (.st 5 (.st 6 (.st 7 (.st 8 (.st 9 (.st 10 (.st 11 (.st 12 (.st 13 .done))))))))))))), 0)), (2, (12, .st 0 (.st 1 (.st 2 (.st 3 (.st 4 (.st 5 (.st 6 (.st 7 (.st 8 (.st 9 (.st 10 (.st 11 .done))))))))))), 0))], []⟩
theorem build_depth_step_lift {d_1 : Nat} {takes2 : Int} {gives3 : Int} {w : World} {K : Value → World → Prop} (h : build_depth_step_sh d_1 takes2 gives3 w K) : Calls Try.prog fn_build_depth_step #[.pointer (some ⟨d_1, 0, none⟩), .int .i64 takes2, .int .i64 gives3] w fun e w' => ∃ v, e = .returned v ∧ K v w' :=
   lift_calls (A := build_depth_step_an) (c := bodyOf Try.f25) (args := [.pointer (some ⟨d_1, 0, none⟩), .int .i64 takes2, .int .i64 gives3]) orc orc_wide Try.func25 (by kernel_rfl) (by kernel_rfl) (Eq.mp (by kernel_rfl : build_depth_step_sh d_1 takes2 gives3 w K = wpc orc Try.f25.ntmps build_depth_step_an (bodyOf Try.f25) (argl 0 [.pointer (some ⟨d_1, 0, none⟩), .int .i64 takes2, .int .i64 gives3]) w (retQ orc Try.f25.results.toList K)) h)

-- holloway/build.ends
def build_ends_sh (x__Ip1 : Int) (x__Cell2 : Int) (x__Arg3 : Int) (x__Next4 : Int) (w : World) (K : Value → World → Prop) : Prop :=
 ∀ (b5 : Nat) (w6 : World), b5 = w.heap.size → w6 = World.alloc w (.cells #[.int .i64 x__Ip1, .int .i64 x__Cell2, .int .i64 x__Arg3, .int .i64 x__Next4] T_api_Seen) →
 ∃ n7 : Int, w6.cell? ⟨b5, 1, none⟩ = some (.int .i64 n7) ∧
 brB (n7 == (37 : Int))
 (∃ n8 : Int, w6.cell? ⟨b5, 3, none⟩ = some (.int .i64 n8) ∧
 ∃ n9 : Int, w6.cell? ⟨b5, 2, none⟩ = some (.int .i64 n9) ∧
 K (.bool (n8 != n9)) w6)
 (∃ n10 : Int, w6.cell? ⟨b5, 1, none⟩ = some (.int .i64 n10) ∧
 brB (n10 == (38 : Int))
 (∃ n11 : Int, w6.cell? ⟨b5, 3, none⟩ = some (.int .i64 n11) ∧
 ∃ n12 : Int, w6.cell? ⟨b5, 2, none⟩ = some (.int .i64 n12) ∧
 K (.bool (n11 != n12)) w6)
 (K (.bool false) w6))
def build_ends_an : An := ⟨[], [], []⟩
theorem build_ends_lift {x__Ip1 : Int} {x__Cell2 : Int} {x__Arg3 : Int} {x__Next4 : Int} {w : World} {K : Value → World → Prop} (h : build_ends_sh x__Ip1 x__Cell2 x__Arg3 x__Next4 w K) : Calls Try.prog fn_build_ends #[.agg #[.int .i64 x__Ip1, .int .i64 x__Cell2, .int .i64 x__Arg3, .int .i64 x__Next4]] w fun e w' => ∃ v, e = .returned v ∧ K v w' :=
   lift_calls (A := build_ends_an) (c := bodyOf Try.f28) (args := [.agg #[.int .i64 x__Ip1, .int .i64 x__Cell2, .int .i64 x__Arg3, .int .i64 x__Next4]]) orc orc_wide Try.func28 (by kernel_rfl) (by kernel_rfl) (Eq.mp (by kernel_rfl : build_ends_sh x__Ip1 x__Cell2 x__Arg3 x__Next4 w K = wpc orc Try.f28.ntmps build_ends_an (bodyOf Try.f28) (argl 0 [.agg #[.int .i64 x__Ip1, .int .i64 x__Cell2, .int .i64 x__Arg3, .int .i64 x__Next4]]) w (retQ orc Try.f28.results.toList K)) h)

-- (*holloway/build.builder).goes
def build_builder_goes_sh (b_1 : Nat) (ip2 : Int) (w : World) (K : Value → World → Prop) : Prop :=
 ∃ n3 : Int, w.cell? ⟨b_1, 15, none⟩ = some (.int .i64 n3) ∧
 brB (n3 != ip2)
 (Calls Try.prog fn_build_builder_never #[.pointer (some ⟨b_1, 0, none⟩)] w fun e4 w5 => e4 = .returned (.tuple #[]) ∧
 K (.tuple #[]) w5)
 (K (.tuple #[]) w)
def build_builder_goes_an : An := ⟨[], [], []⟩
theorem build_builder_goes_lift {b_1 : Nat} {ip2 : Int} {w : World} {K : Value → World → Prop} (h : build_builder_goes_sh b_1 ip2 w K) : Calls Try.prog fn_build_builder_goes #[.pointer (some ⟨b_1, 0, none⟩), .int .i64 ip2] w fun e w' => ∃ v, e = .returned v ∧ K v w' :=
   lift_calls (A := build_builder_goes_an) (c := bodyOf Try.f52) (args := [.pointer (some ⟨b_1, 0, none⟩), .int .i64 ip2]) orc orc_wide Try.func52 (by kernel_rfl) (by kernel_rfl) (Eq.mp (by kernel_rfl : build_builder_goes_sh b_1 ip2 w K = wpc orc Try.f52.ntmps build_builder_goes_an (bodyOf Try.f52) (argl 0 [.pointer (some ⟨b_1, 0, none⟩), .int .i64 ip2]) w (retQ orc Try.f52.results.toList K)) h)

-- (*holloway/build.builder).number
def build_builder_number_sh (b_1 : Nat) (v_2 : Int) (w : World) (K : Value → World → Prop) : Prop :=
 ∃ m3 : Option Nat, w.cell? ⟨b_1, 11, none⟩ = some (.map m3) ∧
 ∃ (v5 : Value) (b6 : Bool) (w4 : World), (Instr.lookup T_map_int_int (.map m3) (.int .i64 v_2) true).run Try.prog w = .ok (.tuple #[v5, .bool b6]) w4 ∧
 brB b6
 (K (v5) w4)
 (Calls Try.prog fn_build_builder_ins #[.pointer (some ⟨b_1, 0, none⟩), .agg #[.int .i64 (1 : Int), .int .i64 v_2, .int .i64 (0 : Int), .int .i64 (0 : Int), .int .i64 (0 : Int)]] w4 fun e7 w8 => ∃ n9 : Int, e7 = .returned (.int .i64 n9) ∧
 ∃ m10 : Option Nat, w8.cell? ⟨b_1, 11, none⟩ = some (.map m10) ∧
 ∃ w11 : World, (Instr.mapUpdate T_map_int_int (.map m10) (.int .i64 v_2) (.int .i64 n9)).run Try.prog w8 = .ok () w11 ∧
 K (.int .i64 n9) w11)
def build_builder_number_an : An := ⟨[], [], []⟩
theorem build_builder_number_lift {b_1 : Nat} {v_2 : Int} {w : World} {K : Value → World → Prop} (h : build_builder_number_sh b_1 v_2 w K) : Calls Try.prog fn_build_builder_number #[.pointer (some ⟨b_1, 0, none⟩), .int .i64 v_2] w fun e w' => ∃ v, e = .returned v ∧ K v w' :=
   lift_calls (A := build_builder_number_an) (c := bodyOf Try.f53) (args := [.pointer (some ⟨b_1, 0, none⟩), .int .i64 v_2]) orc orc_wide Try.func53 (by kernel_rfl) (by kernel_rfl) (Eq.mp (by kernel_rfl : build_builder_number_sh b_1 v_2 w K = wpc orc Try.f53.ntmps build_builder_number_an (bodyOf Try.f53) (argl 0 [.pointer (some ⟨b_1, 0, none⟩), .int .i64 v_2]) w (retQ orc Try.f53.results.toList K)) h)

-- (*holloway/build.builder).leads
def build_builder_leads_sh (b_1 : Nat) (w : World) (K : Value → World → Prop) : Prop :=
 ∃ n_Ip2 : Int, ∃ n_Cell3 : Int, ∃ n_Arg4 : Int, ∃ n_Next5 : Int, w.cell? ⟨b_1, 12, none⟩ = some (.int .i64 n_Ip2) ∧ w.cell? ⟨b_1, 13, none⟩ = some (.int .i64 n_Cell3) ∧ w.cell? ⟨b_1, 14, none⟩ = some (.int .i64 n_Arg4) ∧ w.cell? ⟨b_1, 15, none⟩ = some (.int .i64 n_Next5) ∧
 ∀ (b6 : Nat) (w7 : World), b6 = w.heap.size → w7 = World.alloc w (.cells #[.int .i64 (0 : Int), .int .i64 (0 : Int), .int .i64 (0 : Int), .int .i64 (0 : Int)] T_api_Seen) →
 wrOk w7 ⟨b6, 0, none⟩ 4 ∧ ∀ w8 : World, w8 = stW w7 ⟨b6, 0, none⟩ 0 [.int .i64 n_Ip2, .int .i64 n_Cell3, .int .i64 n_Arg4, .int .i64 n_Next5] →
 ∃ n9 : Int, w8.cell? ⟨b6, 3, none⟩ = some (.int .i64 n9) ∧
 Calls Try.prog fn_build_builder_number #[.pointer (some ⟨b_1, 0, none⟩), .int .i64 n9] w8 fun e10 w11 => ∃ n12 : Int, e10 = .returned (.int .i64 n12) ∧
 ∃ n13 : Int, w11.cell? ⟨b6, 1, none⟩ = some (.int .i64 n13) ∧
 brB (n13 == (5 : Int))
 (Calls Try.prog fn_build_builder_popBack #[.pointer (some ⟨b_1, 0, none⟩)] w11 fun e14 w15 => ∃ n16 : Int, e14 = .returned (.int .i64 n16) ∧
 Calls Try.prog fn_build_builder_guard #[.pointer (some ⟨b_1, 0, none⟩), .int .i64 (9 : Int), .int .i64 n16, .int .i64 n12] w15 fun e17 w18 => e17 = .returned (.tuple #[]) ∧
 K (.tuple #[]) w18)
 (Calls Try.prog fn_build_builder_pop #[.pointer (some ⟨b_1, 0, none⟩)] w11 fun e19 w20 => ∃ n21 : Int, e19 = .returned (.int .i64 n21) ∧
 Calls Try.prog fn_build_builder_guard #[.pointer (some ⟨b_1, 0, none⟩), .int .i64 (9 : Int), .int .i64 n21, .int .i64 n12] w20 fun e22 w23 => e22 = .returned (.tuple #[]) ∧
 ∃ J7 : World → Prop, (∀ (w27 : World), J7  w27 →
 Calls Try.prog fn_build_builder_guard #[.pointer (some ⟨b_1, 0, none⟩), .int .i64 (5 : Int), .int .i64 n12, .int .i64 (0 : Int)] w27 fun e28 w29 => e28 = .returned (.tuple #[]) ∧
 ∃ n30 : Int, w29.cell? ⟨b6, 0, none⟩ = some (.int .i64 n30) ∧
 Calls Try.prog fn_build_builder_number #[.pointer (some ⟨b_1, 0, none⟩), .int .i64 (wr (n30 + (1 : Int)))] w29 fun e31 w32 => ∃ n33 : Int, e31 = .returned (.int .i64 n33) ∧
 ∀ (b34 : Nat) (w35 : World), b34 = w32.heap.size → w35 = World.alloc w32 (.cells #[.int .i64 n33] T_int) →
 Calls Try.prog fn_build_builder_lay #[.pointer (some ⟨b_1, 0, none⟩), .slice (some ⟨b34, 0, none⟩) 1 1] w35 fun e36 w37 => e36 = .returned (.tuple #[]) ∧
 K (.tuple #[]) w37) ∧
 ∃ n24 : Int, w23.cell? ⟨b6, 3, none⟩ = some (.int .i64 n24) ∧
 brB (decide (n24 < (64 : Int)))
 (Calls Try.prog fn_build_builder_never #[.pointer (some ⟨b_1, 0, none⟩)] w23 fun e25 w26 => e25 = .returned (.tuple #[]) ∧
 J7  w26)
 (J7  w23))
def build_builder_leads_an : An := ⟨[], [], [(7, [])]⟩
theorem build_builder_leads_lift {b_1 : Nat} {w : World} {K : Value → World → Prop} (h : build_builder_leads_sh b_1 w K) : Calls Try.prog fn_build_builder_leads #[.pointer (some ⟨b_1, 0, none⟩)] w fun e w' => ∃ v, e = .returned v ∧ K v w' :=
   lift_calls (A := build_builder_leads_an) (c := bodyOf Try.f54) (args := [.pointer (some ⟨b_1, 0, none⟩)]) orc orc_wide Try.func54 (by kernel_rfl) (by kernel_rfl) (Eq.mp (by kernel_rfl : build_builder_leads_sh b_1 w K = wpc orc Try.f54.ntmps build_builder_leads_an (bodyOf Try.f54) (argl 0 [.pointer (some ⟨b_1, 0, none⟩)]) w (retQ orc Try.f54.results.toList K)) h)

-- (*holloway/build.builder).zero
def build_builder_zero_sh (b_1 : Nat) (w : World) (K : Value → World → Prop) : Prop :=
 Calls Try.prog fn_build_builder_pop #[.pointer (some ⟨b_1, 0, none⟩)] w fun e2 w3 => ∃ n4 : Int, e2 = .returned (.int .i64 n4) ∧
 ∀ w5 : World, w5 = World.drew w3 →
 ∃ n6 : Int, held (Lw w5) ⟨b_1, 14, none⟩ (.int .i64 n6) ∧
 ∃ n7 : Int, held (Lw w5) ⟨b_1, 12, none⟩ (.int .i64 n7) ∧
 brB (n6 == (wr (n7 + (2 : Int))))
 (∃ n8 : Int, w5.cell? ⟨b_1, 14, none⟩ = some (.int .i64 n8) ∧
 Calls Try.prog fn_build_builder_goes #[.pointer (some ⟨b_1, 0, none⟩), .int .i64 n8] w5 fun e9 w10 => e9 = .returned (.tuple #[]) ∧
 K (.tuple #[]) w10)
 (Calls Try.prog fn_build_builder_which #[.pointer (some ⟨b_1, 0, none⟩), .int .i64 n4, .int .i64 (8 : Int), .int .i64 (7 : Int)] w5 fun e11 w12 => e11 = .returned (.tuple #[]) ∧
 K (.tuple #[]) w12)
def build_builder_zero_an : An := ⟨[], [(1, (12, .st 0 (.st 1 (.st 2 (.st 3 (.st 4 (.st 5 (.st 6 (.st 7 (.st 8 (.st 9 (.st 10 (.st 11 .done))))))))))), 0))], []⟩
theorem build_builder_zero_lift {b_1 : Nat} {w : World} {K : Value → World → Prop} (h : build_builder_zero_sh b_1 w K) : Calls Try.prog fn_build_builder_zero #[.pointer (some ⟨b_1, 0, none⟩)] w fun e w' => ∃ v, e = .returned v ∧ K v w' :=
   lift_calls (A := build_builder_zero_an) (c := bodyOf Try.f55) (args := [.pointer (some ⟨b_1, 0, none⟩)]) orc orc_wide Try.func55 (by kernel_rfl) (by kernel_rfl) (Eq.mp (by kernel_rfl : build_builder_zero_sh b_1 w K = wpc orc Try.f55.ntmps build_builder_zero_an (bodyOf Try.f55) (argl 0 [.pointer (some ⟨b_1, 0, none⟩)]) w (retQ orc Try.f55.results.toList K)) h)

-- (*holloway/build.builder).loop
def build_builder_loop_sh (b_1 : Nat) (w : World) (K : Value → World → Prop) : Prop :=
 ∃ n_Ip2 : Int, ∃ n_Cell3 : Int, ∃ n_Arg4 : Int, ∃ n_Next5 : Int, w.cell? ⟨b_1, 12, none⟩ = some (.int .i64 n_Ip2) ∧ w.cell? ⟨b_1, 13, none⟩ = some (.int .i64 n_Cell3) ∧ w.cell? ⟨b_1, 14, none⟩ = some (.int .i64 n_Arg4) ∧ w.cell? ⟨b_1, 15, none⟩ = some (.int .i64 n_Next5) ∧
 ∀ (b6 : Nat) (w7 : World), b6 = w.heap.size → w7 = World.alloc w (.cells #[.int .i64 (0 : Int), .int .i64 (0 : Int), .int .i64 (0 : Int), .int .i64 (0 : Int)] T_api_Seen) →
 wrOk w7 ⟨b6, 0, none⟩ 4 ∧ ∀ w8 : World, w8 = stW w7 ⟨b6, 0, none⟩ 0 [.int .i64 n_Ip2, .int .i64 n_Cell3, .int .i64 n_Arg4, .int .i64 n_Next5] →
 Calls Try.prog fn_build_builder_popBack #[.pointer (some ⟨b_1, 0, none⟩)] w8 fun e9 w10 => ∃ n11 : Int, e9 = .returned (.int .i64 n11) ∧
 Calls Try.prog fn_build_builder_popBack #[.pointer (some ⟨b_1, 0, none⟩)] w10 fun e12 w13 => ∃ n14 : Int, e12 = .returned (.int .i64 n14) ∧
 ∃ J5 : Int → Int → World → Prop, (∀ (then60 : Int) (flag50 : Int) (w49 : World), J5 then60 flag50 w49 →
 Calls Try.prog fn_build_builder_which #[.pointer (some ⟨b_1, 0, none⟩), .int .i64 flag50, .int .i64 (8 : Int), .int .i64 (7 : Int)] w49 fun e51 w52 => e51 = .returned (.tuple #[]) ∧
 ∃ n_Ip53 : Int, ∃ n_Cell54 : Int, ∃ n_Arg55 : Int, ∃ n_Next56 : Int, w52.cell? ⟨b6, 0, none⟩ = some (.int .i64 n_Ip53) ∧ w52.cell? ⟨b6, 1, none⟩ = some (.int .i64 n_Cell54) ∧ w52.cell? ⟨b6, 2, none⟩ = some (.int .i64 n_Arg55) ∧ w52.cell? ⟨b6, 3, none⟩ = some (.int .i64 n_Next56) ∧
 Calls Try.prog fn_build_ends #[.agg #[.int .i64 n_Ip53, .int .i64 n_Cell54, .int .i64 n_Arg55, .int .i64 n_Next56]] w52 fun e57 w58 => ∃ b59 : Bool, e57 = .returned (.bool b59) ∧
 brB (!b59)
 (∀ (b61 : Nat) (w62 : World), b61 = w58.heap.size → w62 = World.alloc w58 (.cells #[.int .i64 n14, .int .i64 then60] T_int) →
 Calls Try.prog fn_build_builder_lay #[.pointer (some ⟨b_1, 0, none⟩), .slice (some ⟨b61, 0, none⟩) 2 2] w62 fun e63 w64 => e63 = .returned (.tuple #[]) ∧
 K (.tuple #[]) w64)
 (K (.tuple #[]) w58)) ∧
 ∃ n15 : Int, w13.cell? ⟨b6, 1, none⟩ = some (.int .i64 n15) ∧
 brB (n15 == (37 : Int))
 (Calls Try.prog fn_build_builder_number #[.pointer (some ⟨b_1, 0, none⟩), .int .i64 (1 : Int)] w13 fun e16 w17 => ∃ n18 : Int, e16 = .returned (.int .i64 n18) ∧
 Calls Try.prog fn_build_builder_calc #[.pointer (some ⟨b_1, 0, none⟩), .int .i64 (11 : Int), .int .i64 n11, .int .i64 n18] w17 fun e19 w20 => ∃ n21 : Int, e19 = .returned (.int .i64 n21) ∧
 Calls Try.prog fn_build_builder_calc #[.pointer (some ⟨b_1, 0, none⟩), .int .i64 (23 : Int), .int .i64 n21, .int .i64 n14] w20 fun e22 w23 => ∃ n24 : Int, e22 = .returned (.int .i64 n24) ∧
 J5 n21 n24 w23)
 (Calls Try.prog fn_build_builder_pop #[.pointer (some ⟨b_1, 0, none⟩)] w13 fun e25 w26 => ∃ n27 : Int, e25 = .returned (.int .i64 n27) ∧
 Calls Try.prog fn_build_builder_calc #[.pointer (some ⟨b_1, 0, none⟩), .int .i64 (11 : Int), .int .i64 n11, .int .i64 n27] w26 fun e28 w29 => ∃ n30 : Int, e28 = .returned (.int .i64 n30) ∧
 Calls Try.prog fn_build_builder_calc #[.pointer (some ⟨b_1, 0, none⟩), .int .i64 (12 : Int), .int .i64 n11, .int .i64 n14] w29 fun e31 w32 => ∃ n33 : Int, e31 = .returned (.int .i64 n33) ∧
 Calls Try.prog fn_build_builder_calc #[.pointer (some ⟨b_1, 0, none⟩), .int .i64 (11 : Int), .int .i64 n33, .int .i64 n27] w32 fun e34 w35 => ∃ n36 : Int, e34 = .returned (.int .i64 n36) ∧
 Calls Try.prog fn_build_builder_calc #[.pointer (some ⟨b_1, 0, none⟩), .int .i64 (19 : Int), .int .i64 n33, .int .i64 n36] w35 fun e37 w38 => ∃ n39 : Int, e37 = .returned (.int .i64 n39) ∧
 Calls Try.prog fn_build_builder_calc #[.pointer (some ⟨b_1, 0, none⟩), .int .i64 (19 : Int), .int .i64 n33, .int .i64 n27] w38 fun e40 w41 => ∃ n42 : Int, e40 = .returned (.int .i64 n42) ∧
 Calls Try.prog fn_build_builder_calc #[.pointer (some ⟨b_1, 0, none⟩), .int .i64 (17 : Int), .int .i64 n39, .int .i64 n42] w41 fun e43 w44 => ∃ n45 : Int, e43 = .returned (.int .i64 n45) ∧
 Calls Try.prog fn_build_builder_calc #[.pointer (some ⟨b_1, 0, none⟩), .int .i64 (27 : Int), .int .i64 n45, .int .i64 (0 : Int)] w44 fun e46 w47 => ∃ n48 : Int, e46 = .returned (.int .i64 n48) ∧
 J5 n30 n48 w47)
def build_builder_loop_an : An := ⟨[], [], [(13, [(5, .int .i64), (6, .int .i64)])]⟩
theorem build_builder_loop_lift {b_1 : Nat} {w : World} {K : Value → World → Prop} (h : build_builder_loop_sh b_1 w K) : Calls Try.prog fn_build_builder_loop #[.pointer (some ⟨b_1, 0, none⟩)] w fun e w' => ∃ v, e = .returned v ∧ K v w' :=
   lift_calls (A := build_builder_loop_an) (c := bodyOf Try.f56) (args := [.pointer (some ⟨b_1, 0, none⟩)]) orc orc_wide Try.func56 (by kernel_rfl) (by kernel_rfl) (Eq.mp (by kernel_rfl : build_builder_loop_sh b_1 w K = wpc orc Try.f56.ntmps build_builder_loop_an (bodyOf Try.f56) (argl 0 [.pointer (some ⟨b_1, 0, none⟩)]) w (retQ orc Try.f56.results.toList K)) h)

-- (*holloway/build.builder).plain
def build_builder_plain_sh (b_1 : Nat) (i_2 : Int) (w : World) (K : Value → World → Prop) : Prop :=
 ∃ n3 : Int, w.cell? ⟨b_1, 13, none⟩ = some (.int .i64 n3) ∧
 ∃ J3 : Bool → World → Prop, (∀ (b5 : Bool) (w4 : World), J3 b5 w4 →
 brB b5
 (Calls Try.prog fn_build_builder_shuffle #[.pointer (some ⟨b_1, 0, none⟩), .int .i64 n3] w4 fun e6 w7 => e6 = .returned (.tuple #[]) ∧
 K (.tuple #[]) w7)
 (∃ J8 : Bool → World → Prop, (∀ (b9 : Bool) (w8 : World), J8 b9 w8 →
 brB b9
 (Calls Try.prog fn_build_builder_backs #[.pointer (some ⟨b_1, 0, none⟩), .int .i64 n3] w8 fun e10 w11 => e10 = .returned (.tuple #[]) ∧
 K (.tuple #[]) w11)
 (brB (n3 == (30 : Int))
 (Calls Try.prog fn_build_builder_pop #[.pointer (some ⟨b_1, 0, none⟩)] w8 fun e12 w13 => ∃ n14 : Int, e12 = .returned (.int .i64 n14) ∧
 Calls Try.prog fn_build_builder_leave #[.pointer (some ⟨b_1, 0, none⟩)] w13 fun e15 w16 => ∃ n17 : Int, e15 = .returned (.int .i64 n17) ∧
 Calls Try.prog fn_build_builder_ins #[.pointer (some ⟨b_1, 0, none⟩), .agg #[.int .i64 (5 : Int), .int .i64 (0 : Int), .int .i64 n14, .int .i64 (0 : Int), .int .i64 n17]] w16 fun e18 w19 => ∃ n20 : Int, e18 = .returned (.int .i64 n20) ∧
 ∀ (b21 : Nat) (w22 : World), b21 = w19.heap.size → w22 = World.alloc w19 (.cells #[.int .i64 n20] T_int) →
 Calls Try.prog fn_build_builder_push #[.pointer (some ⟨b_1, 0, none⟩), .slice (some ⟨b21, 0, none⟩) 1 1] w22 fun e23 w24 => e23 = .returned (.tuple #[]) ∧
 K (.tuple #[]) w24)
 (∃ J16 : Bool → World → Prop, (∀ (b26 : Bool) (w25 : World), J16 b26 w25 →
 brB b26
 (Calls Try.prog fn_build_builder_store #[.pointer (some ⟨b_1, 0, none⟩), .int .i64 n3, .int .i64 i_2] w25 fun e27 w28 => e27 = .returned (.tuple #[]) ∧
 K (.tuple #[]) w28)
 (brB (n3 == (41 : Int))
 (Calls Try.prog fn_build_builder_pop #[.pointer (some ⟨b_1, 0, none⟩)] w25 fun e29 w30 => ∃ n31 : Int, e29 = .returned (.int .i64 n31) ∧
 Calls Try.prog fn_build_builder_guard #[.pointer (some ⟨b_1, 0, none⟩), .int .i64 (10 : Int), .int .i64 n31, .int .i64 (0 : Int)] w30 fun e32 w33 => e32 = .returned (.tuple #[]) ∧
 K (.tuple #[]) w33)
 (brB (n3 == (42 : Int))
 (Calls Try.prog fn_build_builder_pop #[.pointer (some ⟨b_1, 0, none⟩)] w25 fun e34 w35 => ∃ n36 : Int, e34 = .returned (.int .i64 n36) ∧
 Calls Try.prog fn_build_builder_guard #[.pointer (some ⟨b_1, 0, none⟩), .int .i64 (11 : Int), .int .i64 n36, .int .i64 (0 : Int)] w35 fun e37 w38 => e37 = .returned (.tuple #[]) ∧
 K (.tuple #[]) w38)
 (brB (n3 == (43 : Int))
 (Calls Try.prog fn_build_builder_ins #[.pointer (some ⟨b_1, 0, none⟩), .agg #[.int .i64 (12 : Int), .int .i64 (0 : Int), .int .i64 (0 : Int), .int .i64 (0 : Int), .int .i64 (0 : Int)]] w25 fun e39 w40 => ∃ n41 : Int, e39 = .returned (.int .i64 n41) ∧
 ∀ (b42 : Nat) (w43 : World), b42 = w40.heap.size → w43 = World.alloc w40 (.cells #[.int .i64 n41] T_int) →
 Calls Try.prog fn_build_builder_push #[.pointer (some ⟨b_1, 0, none⟩), .slice (some ⟨b42, 0, none⟩) 1 1] w43 fun e44 w45 => e44 = .returned (.tuple #[]) ∧
 K (.tuple #[]) w45)
 (brB (n3 == (47 : Int))
 (K (.tuple #[]) w25)
 (Calls Try.prog fn_build_builder_reckon #[.pointer (some ⟨b_1, 0, none⟩), .int .i64 n3] w25 fun e46 w47 => e46 = .returned (.tuple #[]) ∧
 K (.tuple #[]) w47)))))) ∧
 brB (n3 == (31 : Int))
 (J16 (n3 == (31 : Int)) w8)
 (J16 (n3 == (32 : Int)) w8)))) ∧
 brB (n3 == (33 : Int))
 (J8 (n3 == (33 : Int)) w4)
 (brB (n3 == (34 : Int))
 (J8 (n3 == (34 : Int)) w4)
 (brB (n3 == (35 : Int))
 (J8 (n3 == (35 : Int)) w4)
 (brB (n3 == (36 : Int))
 (J8 (n3 == (36 : Int)) w4)
 (brB (n3 == (39 : Int))
 (J8 (n3 == (39 : Int)) w4)
 (J8 (n3 == (40 : Int)) w4))))))) ∧
 brB (n3 == (7 : Int))
 (J3 (n3 == (7 : Int)) w)
 (brB (n3 == (6 : Int))
 (J3 (n3 == (6 : Int)) w)
 (brB (n3 == (8 : Int))
 (J3 (n3 == (8 : Int)) w)
 (brB (n3 == (9 : Int))
 (J3 (n3 == (9 : Int)) w)
 (J3 (n3 == (10 : Int)) w))))
def build_builder_plain_an : An := ⟨[], [], [(21, [(47, .bool)]), (15, [(24, .bool)]), (8, [(15, .bool)])]⟩
theorem build_builder_plain_lift {b_1 : Nat} {i_2 : Int} {w : World} {K : Value → World → Prop} (h : build_builder_plain_sh b_1 i_2 w K) : Calls Try.prog fn_build_builder_plain #[.pointer (some ⟨b_1, 0, none⟩), .int .i64 i_2] w fun e w' => ∃ v, e = .returned v ∧ K v w' :=
   lift_calls (A := build_builder_plain_an) (c := bodyOf Try.f57) (args := [.pointer (some ⟨b_1, 0, none⟩), .int .i64 i_2]) orc orc_wide Try.func57 (by kernel_rfl) (by kernel_rfl) (Eq.mp (by kernel_rfl : build_builder_plain_sh b_1 i_2 w K = wpc orc Try.f57.ntmps build_builder_plain_an (bodyOf Try.f57) (argl 0 [.pointer (some ⟨b_1, 0, none⟩), .int .i64 i_2]) w (retQ orc Try.f57.results.toList K)) h)

-- (*holloway/build.builder).never
def build_builder_never_sh (b_1 : Nat) (w : World) (K : Value → World → Prop) : Prop :=
 Calls Try.prog fn_build_builder_number #[.pointer (some ⟨b_1, 0, none⟩), .int .i64 (0 : Int)] w fun e2 w3 => ∃ n4 : Int, e2 = .returned (.int .i64 n4) ∧
 Calls Try.prog fn_build_builder_guard #[.pointer (some ⟨b_1, 0, none⟩), .int .i64 (7 : Int), .int .i64 n4, .int .i64 (0 : Int)] w3 fun e5 w6 => e5 = .returned (.tuple #[]) ∧
 K (.tuple #[]) w6
def build_builder_never_an : An := ⟨[], [], []⟩
theorem build_builder_never_lift {b_1 : Nat} {w : World} {K : Value → World → Prop} (h : build_builder_never_sh b_1 w K) : Calls Try.prog fn_build_builder_never #[.pointer (some ⟨b_1, 0, none⟩)] w fun e w' => ∃ v, e = .returned v ∧ K v w' :=
   lift_calls (A := build_builder_never_an) (c := bodyOf Try.f67) (args := [.pointer (some ⟨b_1, 0, none⟩)]) orc orc_wide Try.func67 (by kernel_rfl) (by kernel_rfl) (Eq.mp (by kernel_rfl : build_builder_never_sh b_1 w K = wpc orc Try.f67.ntmps build_builder_never_an (bodyOf Try.f67) (argl 0 [.pointer (some ⟨b_1, 0, none⟩)]) w (retQ orc Try.f67.results.toList K)) h)

-- (*holloway/build.builder).guard
def build_builder_guard_sh (b_1 : Nat) (op2 : Int) (p_3 : Int) (q_4 : Int) (w : World) (K : Value → World → Prop) : Prop :=
 Calls Try.prog fn_build_builder_leave #[.pointer (some ⟨b_1, 0, none⟩)] w fun e5 w6 => ∃ n7 : Int, e5 = .returned (.int .i64 n7) ∧
 Calls Try.prog fn_build_builder_ins #[.pointer (some ⟨b_1, 0, none⟩), .agg #[.int .i64 op2, .int .i64 (0 : Int), .int .i64 p_3, .int .i64 q_4, .int .i64 n7]] w6 fun e8 w9 => ∃ n10 : Int, e8 = .returned (.int .i64 n10) ∧
 K (.tuple #[]) w9
def build_builder_guard_an : An := ⟨[], [], []⟩
theorem build_builder_guard_lift {b_1 : Nat} {op2 : Int} {p_3 : Int} {q_4 : Int} {w : World} {K : Value → World → Prop} (h : build_builder_guard_sh b_1 op2 p_3 q_4 w K) : Calls Try.prog fn_build_builder_guard #[.pointer (some ⟨b_1, 0, none⟩), .int .i64 op2, .int .i64 p_3, .int .i64 q_4] w fun e w' => ∃ v, e = .returned v ∧ K v w' :=
   lift_calls (A := build_builder_guard_an) (c := bodyOf Try.f68) (args := [.pointer (some ⟨b_1, 0, none⟩), .int .i64 op2, .int .i64 p_3, .int .i64 q_4]) orc orc_wide Try.func68 (by kernel_rfl) (by kernel_rfl) (Eq.mp (by kernel_rfl : build_builder_guard_sh b_1 op2 p_3 q_4 w K = wpc orc Try.f68.ntmps build_builder_guard_an (bodyOf Try.f68) (argl 0 [.pointer (some ⟨b_1, 0, none⟩), .int .i64 op2, .int .i64 p_3, .int .i64 q_4]) w (retQ orc Try.f68.results.toList K)) h)

-- (*holloway/build.builder).popBack
def build_builder_popBack_sh (b_1 : Nat) (w : World) (K : Value → World → Prop) : Prop :=
 ∃ s2 : Sl, w.cell? ⟨b_1, 10, none⟩ = some (s2.val) ∧
 ∃ s3 : Sl, w.cell? ⟨b_1, 10, none⟩ = some (s3.val) ∧
 ∃ a4 : Addr, s3.ptr = some a4 ∧ 0 ≤ (wr ((s2.len : Int) - (1 : Int))) ∧ (wr ((s2.len : Int) - (1 : Int))) < (s3.len : Int) ∧
 ∃ n5 : Int, w.cell? (Addr.add a4 (Int.toNat (wr ((s2.len : Int) - (1 : Int))) * 1)) = some (.int .i64 n5) ∧
 ∃ s6 : Sl, w.cell? ⟨b_1, 10, none⟩ = some (s6.val) ∧
 0 ≤ (wr ((s2.len : Int) - (1 : Int))) ∧ (wr ((s2.len : Int) - (1 : Int))) ≤ (s6.cap : Int) ∧ ∀ s7 : Sl, s7 = Sl.sub s6.ptr s6.cap 0 (Int.toNat (wr ((s2.len : Int) - (1 : Int)))) 1 →
 wrOk w ⟨b_1, 10, none⟩ 1 ∧ ∀ w8 : World, w8 = stW w ⟨b_1, 10, none⟩ 0 [s7.val] →
 K (.int .i64 n5) w8
def build_builder_popBack_an : An := ⟨[], [], []⟩
theorem build_builder_popBack_lift {b_1 : Nat} {w : World} {K : Value → World → Prop} (h : build_builder_popBack_sh b_1 w K) : Calls Try.prog fn_build_builder_popBack #[.pointer (some ⟨b_1, 0, none⟩)] w fun e w' => ∃ v, e = .returned v ∧ K v w' :=
   lift_calls (A := build_builder_popBack_an) (c := bodyOf Try.f69) (args := [.pointer (some ⟨b_1, 0, none⟩)]) orc orc_wide Try.func69 (by kernel_rfl) (by kernel_rfl) (Eq.mp (by kernel_rfl : build_builder_popBack_sh b_1 w K = wpc orc Try.f69.ntmps build_builder_popBack_an (bodyOf Try.f69) (argl 0 [.pointer (some ⟨b_1, 0, none⟩)]) w (retQ orc Try.f69.results.toList K)) h)

-- (*holloway/build.builder).pop
def build_builder_pop_sh (b_1 : Nat) (w : World) (K : Value → World → Prop) : Prop :=
 ∃ s2 : Sl, w.cell? ⟨b_1, 9, none⟩ = some (s2.val) ∧
 ∃ s3 : Sl, w.cell? ⟨b_1, 9, none⟩ = some (s3.val) ∧
 ∃ a4 : Addr, s3.ptr = some a4 ∧ 0 ≤ (wr ((s2.len : Int) - (1 : Int))) ∧ (wr ((s2.len : Int) - (1 : Int))) < (s3.len : Int) ∧
 ∃ n5 : Int, w.cell? (Addr.add a4 (Int.toNat (wr ((s2.len : Int) - (1 : Int))) * 1)) = some (.int .i64 n5) ∧
 ∃ s6 : Sl, w.cell? ⟨b_1, 9, none⟩ = some (s6.val) ∧
 0 ≤ (wr ((s2.len : Int) - (1 : Int))) ∧ (wr ((s2.len : Int) - (1 : Int))) ≤ (s6.cap : Int) ∧ ∀ s7 : Sl, s7 = Sl.sub s6.ptr s6.cap 0 (Int.toNat (wr ((s2.len : Int) - (1 : Int)))) 1 →
 wrOk w ⟨b_1, 9, none⟩ 1 ∧ ∀ w8 : World, w8 = stW w ⟨b_1, 9, none⟩ 0 [s7.val] →
 K (.int .i64 n5) w8
def build_builder_pop_an : An := ⟨[], [], []⟩
theorem build_builder_pop_lift {b_1 : Nat} {w : World} {K : Value → World → Prop} (h : build_builder_pop_sh b_1 w K) : Calls Try.prog fn_build_builder_pop #[.pointer (some ⟨b_1, 0, none⟩)] w fun e w' => ∃ v, e = .returned v ∧ K v w' :=
   lift_calls (A := build_builder_pop_an) (c := bodyOf Try.f70) (args := [.pointer (some ⟨b_1, 0, none⟩)]) orc orc_wide Try.func70 (by kernel_rfl) (by kernel_rfl) (Eq.mp (by kernel_rfl : build_builder_pop_sh b_1 w K = wpc orc Try.f70.ntmps build_builder_pop_an (bodyOf Try.f70) (argl 0 [.pointer (some ⟨b_1, 0, none⟩)]) w (retQ orc Try.f70.results.toList K)) h)

-- (*holloway/build.builder).which
def build_builder_which_sh (b_1 : Nat) (flag2 : Int) (to3 : Int) (behind4 : Int) (w : World) (K : Value → World → Prop) : Prop :=
 ∃ n_Ip5 : Int, ∃ n_Cell6 : Int, ∃ n_Arg7 : Int, ∃ n_Next8 : Int, w.cell? ⟨b_1, 12, none⟩ = some (.int .i64 n_Ip5) ∧ w.cell? ⟨b_1, 13, none⟩ = some (.int .i64 n_Cell6) ∧ w.cell? ⟨b_1, 14, none⟩ = some (.int .i64 n_Arg7) ∧ w.cell? ⟨b_1, 15, none⟩ = some (.int .i64 n_Next8) ∧
 ∀ (b9 : Nat) (w10 : World), b9 = w.heap.size → w10 = World.alloc w (.cells #[.int .i64 (0 : Int), .int .i64 (0 : Int), .int .i64 (0 : Int), .int .i64 (0 : Int)] T_api_Seen) →
 wrOk w10 ⟨b9, 0, none⟩ 4 ∧ ∀ w11 : World, w11 = stW w10 ⟨b9, 0, none⟩ 0 [.int .i64 n_Ip5, .int .i64 n_Cell6, .int .i64 n_Arg7, .int .i64 n_Next8] →
 ∃ n12 : Int, w11.cell? ⟨b9, 3, none⟩ = some (.int .i64 n12) ∧
 ∃ n13 : Int, w11.cell? ⟨b9, 2, none⟩ = some (.int .i64 n13) ∧
 brB (n12 == n13)
 (Calls Try.prog fn_build_builder_guard #[.pointer (some ⟨b_1, 0, none⟩), .int .i64 to3, .int .i64 flag2, .int .i64 (0 : Int)] w11 fun e14 w15 => e14 = .returned (.tuple #[]) ∧
 K (.tuple #[]) w15)
 (∃ n16 : Int, w11.cell? ⟨b9, 3, none⟩ = some (.int .i64 n16) ∧
 ∃ n17 : Int, w11.cell? ⟨b9, 0, none⟩ = some (.int .i64 n17) ∧
 brB (n16 == (wr (n17 + (2 : Int))))
 (Calls Try.prog fn_build_builder_guard #[.pointer (some ⟨b_1, 0, none⟩), .int .i64 behind4, .int .i64 flag2, .int .i64 (0 : Int)] w11 fun e18 w19 => e18 = .returned (.tuple #[]) ∧
 K (.tuple #[]) w19)
 (Calls Try.prog fn_build_builder_never #[.pointer (some ⟨b_1, 0, none⟩)] w11 fun e20 w21 => e20 = .returned (.tuple #[]) ∧
 K (.tuple #[]) w21))
def build_builder_which_an : An := ⟨[], [], []⟩
theorem build_builder_which_lift {b_1 : Nat} {flag2 : Int} {to3 : Int} {behind4 : Int} {w : World} {K : Value → World → Prop} (h : build_builder_which_sh b_1 flag2 to3 behind4 w K) : Calls Try.prog fn_build_builder_which #[.pointer (some ⟨b_1, 0, none⟩), .int .i64 flag2, .int .i64 to3, .int .i64 behind4] w fun e w' => ∃ v, e = .returned v ∧ K v w' :=
   lift_calls (A := build_builder_which_an) (c := bodyOf Try.f71) (args := [.pointer (some ⟨b_1, 0, none⟩), .int .i64 flag2, .int .i64 to3, .int .i64 behind4]) orc orc_wide Try.func71 (by kernel_rfl) (by kernel_rfl) (Eq.mp (by kernel_rfl : build_builder_which_sh b_1 flag2 to3 behind4 w K = wpc orc Try.f71.ntmps build_builder_which_an (bodyOf Try.f71) (argl 0 [.pointer (some ⟨b_1, 0, none⟩), .int .i64 flag2, .int .i64 to3, .int .i64 behind4]) w (retQ orc Try.f71.results.toList K)) h)

-- (*holloway/build.builder).calc
def build_builder_calc_sh (b_1 : Nat) (op2 : Int) (p_3 : Int) (q_4 : Int) (w : World) (K : Value → World → Prop) : Prop :=
 ∀ (b5 : Nat) (w6 : World), b5 = w.heap.size → w6 = World.alloc w (.cells #[.int .i64 (0 : Int), .int .i64 (0 : Int), .int .i64 (0 : Int), .int .i64 (0 : Int), .int .i64 (0 : Int)] T_api_Ins) →
 wrOk w6 ⟨b5, 0, none⟩ 5 ∧ ∀ w7 : World, w7 = stW w6 ⟨b5, 0, none⟩ 0 [.int .i64 (4 : Int), .int .i64 op2, .int .i64 p_3, .int .i64 q_4, .int .i64 (0 : Int)] →
 ∃ J3 : World → Prop, (∀ (w13 : World), J3  w13 →
 ∃ n_Op14 : Int, ∃ n_A15 : Int, ∃ n_B16 : Int, ∃ n_C17 : Int, ∃ n_X18 : Int, w13.cell? ⟨b5, 0, none⟩ = some (.int .i64 n_Op14) ∧ w13.cell? ⟨b5, 1, none⟩ = some (.int .i64 n_A15) ∧ w13.cell? ⟨b5, 2, none⟩ = some (.int .i64 n_B16) ∧ w13.cell? ⟨b5, 3, none⟩ = some (.int .i64 n_C17) ∧ w13.cell? ⟨b5, 4, none⟩ = some (.int .i64 n_X18) ∧
 Calls Try.prog fn_build_builder_ins #[.pointer (some ⟨b_1, 0, none⟩), .agg #[.int .i64 n_Op14, .int .i64 n_A15, .int .i64 n_B16, .int .i64 n_C17, .int .i64 n_X18]] w13 fun e19 w20 => ∃ n21 : Int, e19 = .returned (.int .i64 n21) ∧
 K (.int .i64 n21) w20) ∧
 ∃ J5 : World → Prop, (∀ (w8 : World), J5  w8 →
 Calls Try.prog fn_build_builder_leave #[.pointer (some ⟨b_1, 0, none⟩)] w8 fun e9 w10 => ∃ n11 : Int, e9 = .returned (.int .i64 n11) ∧
 wrOk w10 ⟨b5, 4, none⟩ 1 ∧ ∀ w12 : World, w12 = stW w10 ⟨b5, 4, none⟩ 0 [.int .i64 n11] →
 J3  w12) ∧
 brB (op2 == (14 : Int))
 (J5  w7)
 (brB (op2 == (15 : Int))
 (J5  w7)
 (J3  w7))
def build_builder_calc_an : An := ⟨[], [], [(5, []), (6, [])]⟩
theorem build_builder_calc_lift {b_1 : Nat} {op2 : Int} {p_3 : Int} {q_4 : Int} {w : World} {K : Value → World → Prop} (h : build_builder_calc_sh b_1 op2 p_3 q_4 w K) : Calls Try.prog fn_build_builder_calc #[.pointer (some ⟨b_1, 0, none⟩), .int .i64 op2, .int .i64 p_3, .int .i64 q_4] w fun e w' => ∃ v, e = .returned v ∧ K v w' :=
   lift_calls (A := build_builder_calc_an) (c := bodyOf Try.f72) (args := [.pointer (some ⟨b_1, 0, none⟩), .int .i64 op2, .int .i64 p_3, .int .i64 q_4]) orc orc_wide Try.func72 (by kernel_rfl) (by kernel_rfl) (Eq.mp (by kernel_rfl : build_builder_calc_sh b_1 op2 p_3 q_4 w K = wpc orc Try.f72.ntmps build_builder_calc_an (bodyOf Try.f72) (argl 0 [.pointer (some ⟨b_1, 0, none⟩), .int .i64 op2, .int .i64 p_3, .int .i64 q_4]) w (retQ orc Try.f72.results.toList K)) h)

-- (*holloway/build.builder).shuffle
def build_builder_shuffle_sh (b_1 : Nat) (c_2 : Int) (w : World) (K : Value → World → Prop) : Prop :=
 Calls Try.prog fn_build_builder_pop #[.pointer (some ⟨b_1, 0, none⟩)] w fun e3 w4 => ∃ n5 : Int, e3 = .returned (.int .i64 n5) ∧
 brB (c_2 == (6 : Int))
 (∀ (b6 : Nat) (w7 : World), b6 = w4.heap.size → w7 = World.alloc w4 (.cells #[.int .i64 n5, .int .i64 n5] T_int) →
 Calls Try.prog fn_build_builder_push #[.pointer (some ⟨b_1, 0, none⟩), .slice (some ⟨b6, 0, none⟩) 2 2] w7 fun e8 w9 => e8 = .returned (.tuple #[]) ∧
 K (.tuple #[]) w9)
 (brB (c_2 == (8 : Int))
 (Calls Try.prog fn_build_builder_pop #[.pointer (some ⟨b_1, 0, none⟩)] w4 fun e10 w11 => ∃ n12 : Int, e10 = .returned (.int .i64 n12) ∧
 ∀ (b13 : Nat) (w14 : World), b13 = w11.heap.size → w14 = World.alloc w11 (.cells #[.int .i64 n5, .int .i64 n12] T_int) →
 Calls Try.prog fn_build_builder_push #[.pointer (some ⟨b_1, 0, none⟩), .slice (some ⟨b13, 0, none⟩) 2 2] w14 fun e15 w16 => e15 = .returned (.tuple #[]) ∧
 K (.tuple #[]) w16)
 (brB (c_2 == (9 : Int))
 (Calls Try.prog fn_build_builder_pop #[.pointer (some ⟨b_1, 0, none⟩)] w4 fun e17 w18 => ∃ n19 : Int, e17 = .returned (.int .i64 n19) ∧
 ∀ (b20 : Nat) (w21 : World), b20 = w18.heap.size → w21 = World.alloc w18 (.cells #[.int .i64 n19, .int .i64 n5, .int .i64 n19] T_int) →
 Calls Try.prog fn_build_builder_push #[.pointer (some ⟨b_1, 0, none⟩), .slice (some ⟨b20, 0, none⟩) 3 3] w21 fun e22 w23 => e22 = .returned (.tuple #[]) ∧
 K (.tuple #[]) w23)
 (brB (c_2 == (10 : Int))
 (Calls Try.prog fn_build_builder_pop #[.pointer (some ⟨b_1, 0, none⟩)] w4 fun e24 w25 => ∃ n26 : Int, e24 = .returned (.int .i64 n26) ∧
 Calls Try.prog fn_build_builder_pop #[.pointer (some ⟨b_1, 0, none⟩)] w25 fun e27 w28 => ∃ n29 : Int, e27 = .returned (.int .i64 n29) ∧
 ∀ (b30 : Nat) (w31 : World), b30 = w28.heap.size → w31 = World.alloc w28 (.cells #[.int .i64 n26, .int .i64 n5, .int .i64 n29] T_int) →
 Calls Try.prog fn_build_builder_push #[.pointer (some ⟨b_1, 0, none⟩), .slice (some ⟨b30, 0, none⟩) 3 3] w31 fun e32 w33 => e32 = .returned (.tuple #[]) ∧
 K (.tuple #[]) w33)
 (K (.tuple #[]) w4))))
def build_builder_shuffle_an : An := ⟨[], [], []⟩
theorem build_builder_shuffle_lift {b_1 : Nat} {c_2 : Int} {w : World} {K : Value → World → Prop} (h : build_builder_shuffle_sh b_1 c_2 w K) : Calls Try.prog fn_build_builder_shuffle #[.pointer (some ⟨b_1, 0, none⟩), .int .i64 c_2] w fun e w' => ∃ v, e = .returned v ∧ K v w' :=
   lift_calls (A := build_builder_shuffle_an) (c := bodyOf Try.f73) (args := [.pointer (some ⟨b_1, 0, none⟩), .int .i64 c_2]) orc orc_wide Try.func73 (by kernel_rfl) (by kernel_rfl) (Eq.mp (by kernel_rfl : build_builder_shuffle_sh b_1 c_2 w K = wpc orc Try.f73.ntmps build_builder_shuffle_an (bodyOf Try.f73) (argl 0 [.pointer (some ⟨b_1, 0, none⟩), .int .i64 c_2]) w (retQ orc Try.f73.results.toList K)) h)

-- (*holloway/build.builder).backs
def build_builder_backs_sh (b_1 : Nat) (c_2 : Int) (w : World) (K : Value → World → Prop) : Prop :=
 ∃ s3 : Sl, w.cell? ⟨b_1, 10, none⟩ = some (s3.val) ∧
 brB (c_2 == (33 : Int))
 (Calls Try.prog fn_build_builder_pop #[.pointer (some ⟨b_1, 0, none⟩)] w fun e4 w5 => ∃ n6 : Int, e4 = .returned (.int .i64 n6) ∧
 ∀ (b7 : Nat) (w8 : World), b7 = w5.heap.size → w8 = World.alloc w5 (.cells #[.int .i64 n6] T_int) →
 Calls Try.prog fn_build_builder_lay #[.pointer (some ⟨b_1, 0, none⟩), .slice (some ⟨b7, 0, none⟩) 1 1] w8 fun e9 w10 => e9 = .returned (.tuple #[]) ∧
 K (.tuple #[]) w10)
 (brB (c_2 == (34 : Int))
 (Calls Try.prog fn_build_builder_popBack #[.pointer (some ⟨b_1, 0, none⟩)] w fun e11 w12 => ∃ n13 : Int, e11 = .returned (.int .i64 n13) ∧
 ∀ (b14 : Nat) (w15 : World), b14 = w12.heap.size → w15 = World.alloc w12 (.cells #[.int .i64 n13] T_int) →
 Calls Try.prog fn_build_builder_push #[.pointer (some ⟨b_1, 0, none⟩), .slice (some ⟨b14, 0, none⟩) 1 1] w15 fun e16 w17 => e16 = .returned (.tuple #[]) ∧
 K (.tuple #[]) w17)
 (brB (c_2 == (35 : Int))
 (∃ s18 : Sl, w.cell? ⟨b_1, 10, none⟩ = some (s18.val) ∧
 ∃ a19 : Addr, s18.ptr = some a19 ∧ 0 ≤ (wr ((s3.len : Int) - (1 : Int))) ∧ (wr ((s3.len : Int) - (1 : Int))) < (s18.len : Int) ∧
 ∃ n20 : Int, w.cell? (Addr.add a19 (Int.toNat (wr ((s3.len : Int) - (1 : Int))) * 1)) = some (.int .i64 n20) ∧
 ∀ (b21 : Nat) (w22 : World), b21 = w.heap.size → w22 = World.alloc w (.cells #[.int .i64 n20] T_int) →
 Calls Try.prog fn_build_builder_push #[.pointer (some ⟨b_1, 0, none⟩), .slice (some ⟨b21, 0, none⟩) 1 1] w22 fun e23 w24 => e23 = .returned (.tuple #[]) ∧
 K (.tuple #[]) w24)
 (brB (c_2 == (36 : Int))
 (Calls Try.prog fn_build_builder_pop #[.pointer (some ⟨b_1, 0, none⟩)] w fun e25 w26 => ∃ n27 : Int, e25 = .returned (.int .i64 n27) ∧
 Calls Try.prog fn_build_builder_pop #[.pointer (some ⟨b_1, 0, none⟩)] w26 fun e28 w29 => ∃ n30 : Int, e28 = .returned (.int .i64 n30) ∧
 ∀ (b31 : Nat) (w32 : World), b31 = w29.heap.size → w32 = World.alloc w29 (.cells #[.int .i64 n30, .int .i64 n27] T_int) →
 Calls Try.prog fn_build_builder_lay #[.pointer (some ⟨b_1, 0, none⟩), .slice (some ⟨b31, 0, none⟩) 2 2] w32 fun e33 w34 => e33 = .returned (.tuple #[]) ∧
 K (.tuple #[]) w34)
 (brB (c_2 == (39 : Int))
 (∃ s35 : Sl, w.cell? ⟨b_1, 10, none⟩ = some (s35.val) ∧
 ∃ a36 : Addr, s35.ptr = some a36 ∧ 0 ≤ (wr ((wr ((s3.len : Int) - (1 : Int))) - (2 : Int))) ∧ (wr ((wr ((s3.len : Int) - (1 : Int))) - (2 : Int))) < (s35.len : Int) ∧
 ∃ n37 : Int, w.cell? (Addr.add a36 (Int.toNat (wr ((wr ((s3.len : Int) - (1 : Int))) - (2 : Int))) * 1)) = some (.int .i64 n37) ∧
 ∀ (b38 : Nat) (w39 : World), b38 = w.heap.size → w39 = World.alloc w (.cells #[.int .i64 n37] T_int) →
 Calls Try.prog fn_build_builder_push #[.pointer (some ⟨b_1, 0, none⟩), .slice (some ⟨b38, 0, none⟩) 1 1] w39 fun e40 w41 => e40 = .returned (.tuple #[]) ∧
 K (.tuple #[]) w41)
 (∃ s42 : Sl, w.cell? ⟨b_1, 10, none⟩ = some (s42.val) ∧
 0 ≤ (wr ((wr ((s3.len : Int) - (1 : Int))) - (1 : Int))) ∧ (wr ((wr ((s3.len : Int) - (1 : Int))) - (1 : Int))) ≤ (s42.cap : Int) ∧ ∀ s43 : Sl, s43 = Sl.sub s42.ptr s42.cap 0 (Int.toNat (wr ((wr ((s3.len : Int) - (1 : Int))) - (1 : Int)))) 1 →
 wrOk w ⟨b_1, 10, none⟩ 1 ∧ ∀ w44 : World, w44 = stW w ⟨b_1, 10, none⟩ 0 [s43.val] →
 K (.tuple #[]) w44)))))
def build_builder_backs_an : An := ⟨[], [], []⟩
theorem build_builder_backs_lift {b_1 : Nat} {c_2 : Int} {w : World} {K : Value → World → Prop} (h : build_builder_backs_sh b_1 c_2 w K) : Calls Try.prog fn_build_builder_backs #[.pointer (some ⟨b_1, 0, none⟩), .int .i64 c_2] w fun e w' => ∃ v, e = .returned v ∧ K v w' :=
   lift_calls (A := build_builder_backs_an) (c := bodyOf Try.f74) (args := [.pointer (some ⟨b_1, 0, none⟩), .int .i64 c_2]) orc orc_wide Try.func74 (by kernel_rfl) (by kernel_rfl) (Eq.mp (by kernel_rfl : build_builder_backs_sh b_1 c_2 w K = wpc orc Try.f74.ntmps build_builder_backs_an (bodyOf Try.f74) (argl 0 [.pointer (some ⟨b_1, 0, none⟩), .int .i64 c_2]) w (retQ orc Try.f74.results.toList K)) h)

-- (*holloway/build.builder).leave
def build_builder_leave_sh (b_1 : Nat) (w : World) (K : Value → World → Prop) : Prop :=
 ∃ n2 : Int, w.cell? ⟨b_1, 20, none⟩ = some (.int .i64 n2) ∧
 brB (decide (n2 < (0 : Int)))
 (∃ n_Ip3 : Int, ∃ n_Steps4 : Int, ∃ s_Stack5 : Sl, ∃ s_Back6 : Sl, w.cell? ⟨b_1, 16, none⟩ = some (.int .i64 n_Ip3) ∧ w.cell? ⟨b_1, 17, none⟩ = some (.int .i64 n_Steps4) ∧ w.cell? ⟨b_1, 18, none⟩ = some (s_Stack5.val) ∧ w.cell? ⟨b_1, 19, none⟩ = some (s_Back6.val) ∧
 Calls Try.prog fn_build_builder_add #[.pointer (some ⟨b_1, 0, none⟩), .agg #[.int .i64 n_Ip3, .int .i64 n_Steps4, s_Stack5.val, s_Back6.val]] w fun e7 w8 => ∃ n9 : Int, e7 = .returned (.int .i64 n9) ∧
 wrOk w8 ⟨b_1, 20, none⟩ 1 ∧ ∀ w10 : World, w10 = stW w8 ⟨b_1, 20, none⟩ 0 [.int .i64 n9] →
 ∃ n13 : Int, w10.cell? ⟨b_1, 20, none⟩ = some (.int .i64 n13) ∧
 K (.int .i64 n13) w10)
 (∃ n14 : Int, w.cell? ⟨b_1, 20, none⟩ = some (.int .i64 n14) ∧
 K (.int .i64 n14) w)
def build_builder_leave_an : An := ⟨[], [], []⟩
theorem build_builder_leave_lift {b_1 : Nat} {w : World} {K : Value → World → Prop} (h : build_builder_leave_sh b_1 w K) : Calls Try.prog fn_build_builder_leave #[.pointer (some ⟨b_1, 0, none⟩)] w fun e w' => ∃ v, e = .returned v ∧ K v w' :=
   lift_calls (A := build_builder_leave_an) (c := bodyOf Try.f75) (args := [.pointer (some ⟨b_1, 0, none⟩)]) orc orc_wide Try.func75 (by kernel_rfl) (by kernel_rfl) (Eq.mp (by kernel_rfl : build_builder_leave_sh b_1 w K = wpc orc Try.f75.ntmps build_builder_leave_an (bodyOf Try.f75) (argl 0 [.pointer (some ⟨b_1, 0, none⟩)]) w (retQ orc Try.f75.results.toList K)) h)

-- (*holloway/build.builder).store
def build_builder_store_sh (b_1 : Nat) (c_2 : Int) (i_3 : Int) (w : World) (K : Value → World → Prop) : Prop :=
 Calls Try.prog fn_build_builder_pop #[.pointer (some ⟨b_1, 0, none⟩)] w fun e4 w5 => ∃ n6 : Int, e4 = .returned (.int .i64 n6) ∧
 Calls Try.prog fn_build_builder_pop #[.pointer (some ⟨b_1, 0, none⟩)] w5 fun e7 w8 => ∃ n9 : Int, e7 = .returned (.int .i64 n9) ∧
 Calls Try.prog fn_build_builder_leave #[.pointer (some ⟨b_1, 0, none⟩)] w8 fun e10 w11 => ∃ n12 : Int, e10 = .returned (.int .i64 n12) ∧
 ∃ J4 : Int → World → Prop, (∀ (v30 : Int) (w19 : World), J4 v30 w19 →
 ∃ n20 : Int, w19.cell? ⟨b_1, 15, none⟩ = some (.int .i64 n20) ∧
 Calls Try.prog fn_build_builder_out #[.pointer (some ⟨b_1, 0, none⟩), .int .i64 n20, .int .i64 (wr (i_3 + (1 : Int)))] w19 fun e21 w22 => ∃ n_Ip23 : Int, ∃ n_Steps24 : Int, ∃ s_Stack25 : Sl, ∃ s_Back26 : Sl, e21 = .returned (.agg #[.int .i64 n_Ip23, .int .i64 n_Steps24, s_Stack25.val, s_Back26.val]) ∧
 Calls Try.prog fn_build_builder_add #[.pointer (some ⟨b_1, 0, none⟩), .agg #[.int .i64 n_Ip23, .int .i64 n_Steps24, s_Stack25.val, s_Back26.val]] w22 fun e27 w28 => ∃ n29 : Int, e27 = .returned (.int .i64 n29) ∧
 Calls Try.prog fn_build_builder_ins #[.pointer (some ⟨b_1, 0, none⟩), .agg #[.int .i64 (6 : Int), .int .i64 n29, .int .i64 n6, .int .i64 v30, .int .i64 n12]] w28 fun e31 w32 => ∃ n33 : Int, e31 = .returned (.int .i64 n33) ∧
 K (.tuple #[]) w32) ∧
 brB (c_2 == (32 : Int))
 (Calls Try.prog fn_build_builder_ins #[.pointer (some ⟨b_1, 0, none⟩), .agg #[.int .i64 (5 : Int), .int .i64 (0 : Int), .int .i64 n6, .int .i64 (0 : Int), .int .i64 n12]] w11 fun e13 w14 => ∃ n15 : Int, e13 = .returned (.int .i64 n15) ∧
 Calls Try.prog fn_build_builder_calc #[.pointer (some ⟨b_1, 0, none⟩), .int .i64 (11 : Int), .int .i64 n15, .int .i64 n9] w14 fun e16 w17 => ∃ n18 : Int, e16 = .returned (.int .i64 n18) ∧
 J4 n18 w17)
 (J4 n9 w11)
def build_builder_store_an : An := ⟨[], [], [(5, [(7, .int .i64)])]⟩
theorem build_builder_store_lift {b_1 : Nat} {c_2 : Int} {i_3 : Int} {w : World} {K : Value → World → Prop} (h : build_builder_store_sh b_1 c_2 i_3 w K) : Calls Try.prog fn_build_builder_store #[.pointer (some ⟨b_1, 0, none⟩), .int .i64 c_2, .int .i64 i_3] w fun e w' => ∃ v, e = .returned v ∧ K v w' :=
   lift_calls (A := build_builder_store_an) (c := bodyOf Try.f76) (args := [.pointer (some ⟨b_1, 0, none⟩), .int .i64 c_2, .int .i64 i_3]) orc orc_wide Try.func76 (by kernel_rfl) (by kernel_rfl) (Eq.mp (by kernel_rfl : build_builder_store_sh b_1 c_2 i_3 w K = wpc orc Try.f76.ntmps build_builder_store_an (bodyOf Try.f76) (argl 0 [.pointer (some ⟨b_1, 0, none⟩), .int .i64 c_2, .int .i64 i_3]) w (retQ orc Try.f76.results.toList K)) h)

-- (*holloway/build.builder).reckon
def build_builder_reckon_sh (b_1 : Nat) (c_2 : Int) (w : World) (K : Value → World → Prop) : Prop :=
 Calls Try.prog fn_build_builder_pop #[.pointer (some ⟨b_1, 0, none⟩)] w fun e3 w4 => ∃ n5 : Int, e3 = .returned (.int .i64 n5) ∧
 Calls Try.prog fn_cell_One #[.int .i64 c_2, .int .i64 (0 : Int)] w4 fun e6 w7 => ∃ n8 : Int, ∃ b9 : Bool, e6 = .returned (.tuple #[.int .i64 n8, .bool b9]) ∧
 brB b9
 (Calls Try.prog fn_build_builder_calc #[.pointer (some ⟨b_1, 0, none⟩), .int .i64 c_2, .int .i64 n5, .int .i64 (0 : Int)] w7 fun e10 w11 => ∃ n12 : Int, e10 = .returned (.int .i64 n12) ∧
 ∀ (b13 : Nat) (w14 : World), b13 = w11.heap.size → w14 = World.alloc w11 (.cells #[.int .i64 n12] T_int) →
 Calls Try.prog fn_build_builder_push #[.pointer (some ⟨b_1, 0, none⟩), .slice (some ⟨b13, 0, none⟩) 1 1] w14 fun e15 w16 => e15 = .returned (.tuple #[]) ∧
 K (.tuple #[]) w16)
 (Calls Try.prog fn_build_builder_pop #[.pointer (some ⟨b_1, 0, none⟩)] w7 fun e17 w18 => ∃ n19 : Int, e17 = .returned (.int .i64 n19) ∧
 Calls Try.prog fn_build_builder_calc #[.pointer (some ⟨b_1, 0, none⟩), .int .i64 c_2, .int .i64 n19, .int .i64 n5] w18 fun e20 w21 => ∃ n22 : Int, e20 = .returned (.int .i64 n22) ∧
 ∀ (b23 : Nat) (w24 : World), b23 = w21.heap.size → w24 = World.alloc w21 (.cells #[.int .i64 n22] T_int) →
 Calls Try.prog fn_build_builder_push #[.pointer (some ⟨b_1, 0, none⟩), .slice (some ⟨b23, 0, none⟩) 1 1] w24 fun e25 w26 => e25 = .returned (.tuple #[]) ∧
 K (.tuple #[]) w26)
def build_builder_reckon_an : An := ⟨[], [], []⟩
theorem build_builder_reckon_lift {b_1 : Nat} {c_2 : Int} {w : World} {K : Value → World → Prop} (h : build_builder_reckon_sh b_1 c_2 w K) : Calls Try.prog fn_build_builder_reckon #[.pointer (some ⟨b_1, 0, none⟩), .int .i64 c_2] w fun e w' => ∃ v, e = .returned v ∧ K v w' :=
   lift_calls (A := build_builder_reckon_an) (c := bodyOf Try.f77) (args := [.pointer (some ⟨b_1, 0, none⟩), .int .i64 c_2]) orc orc_wide Try.func77 (by kernel_rfl) (by kernel_rfl) (Eq.mp (by kernel_rfl : build_builder_reckon_sh b_1 c_2 w K = wpc orc Try.f77.ntmps build_builder_reckon_an (bodyOf Try.f77) (argl 0 [.pointer (some ⟨b_1, 0, none⟩), .int .i64 c_2]) w (retQ orc Try.f77.results.toList K)) h)

end Go.Proofs.Ytkjpmkopnkkbmaa
