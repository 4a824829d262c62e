/- A machine in memory: its steps. -/
import Derived.Test.YtkjpmkopnkkbmaaJJ
import Derived.Test.YtkjpmkopnkkbmaaJ3
import Derived.Test.YtkjpmkopnkkbmaaJI
import Derived.Test.YtkjpmkopnkkbmaaJ5
import Derived.Test.YtkjpmkopnkkbmaaJ2
import Derived.Test.YtkjpmkopnkkbmaaJ4

/- A machine's steps, in plain words. -/
set_option maxRecDepth 100000
namespace Go.Proofs.Ytkjpmkopnkkbmaa
open Go.RowKit

def topV (s : StV) : Int := getI s.stack ((s.stack.length : Int) - 1)
def topB (s : StV) : Int := getI s.back ((s.back.length : Int) - 1)
def popV (s : StV) : StV := { s with stack := s.stack.take (s.stack.length - 1) }
def popB (s : StV) : StV := { s with back := s.back.take (s.back.length - 1) }
def pushV (s : StV) (l : List Int) : StV := { s with stack := s.stack ++ l }
def backV (s : StV) (l : List Int) : StV := { s with back := s.back ++ l }
/-- What a step comes to: a machine, or a fault (and whether a word threw it). -/
inductive Rs where
  | ok (s : StV)
  | bad (c : Int) (th : Bool)
def mShuf (s : StV) (c : Int) : StV :=
  if c = 6 then pushV (popV s) [topV s, topV s] else
  if c = 8 then pushV (popV (popV s)) [topV s, topV (popV s)] else
  if c = 9 then pushV (popV (popV s)) [topV (popV s), topV s, topV (popV s)] else
  if c = 10 then pushV (popV (popV (popV s))) [topV (popV s), topV s, topV (popV (popV s))] else popV s
def mMem (s : StV) (c : Int) : Rs :=
  if topV s < 0 ∨ (s.mem.length : Int) ≤ topV s then .bad (-9) false else
  if c = 30 then .ok (pushV (popV s) [getI s.mem (topV s)]) else
  .ok { popV (popV s) with mem := s.mem.set (topV s).toNat (wr ((if c = 31 then 0 else getI s.mem (topV s)) + topV (popV s))) }
def mBacks (s : StV) (c : Int) : StV :=
  if c = 33 then backV (popV s) [topV s] else
  if c = 34 then pushV (popB s) [topB s] else
  if c = 35 then pushV s [topB s] else
  if c = 36 then backV (popV (popV s)) [topV (popV s), topV s] else
  if c = 39 then pushV s [getI s.back ((s.back.length : Int) - 3)] else { s with back := s.back.take (s.back.length - 2) }
def mLoopR (s : StV) (index limit n arg : Int) (ends : Bool) : StV := if ends = true then s else { backV s [limit, wr (index + n)] with ip := arg }
def mLoop (s : StV) (c arg : Int) : StV :=
  if c = 38 then mLoopR (popV (popB (popB s))) (topB s) (topB (popB s)) (topV s) arg (Cn.crosses (wr (topB s - topB (popB s))) (topV s))
  else mLoopR (popB (popB s)) (topB s) (topB (popB s)) 1 arg (decide (wr (topB s + 1) = topB (popB s)))
def mText (c v : Int) : ByteArray := if c = 42 then putV v ++ bs [32] else bs [byteC v]
def mSay (s : StV) (c : Int) : Rs :=
  if 2000 < (s.out.size : Int) + (mText c (topV s)).size then .bad (-57) false else .ok { popV s with out := s.out ++ mText c (topV s) }
def mKey (s : StV) : StV := if (s.inp.size : Int) ≤ s.read then pushV s [-1] else { pushV s [sb s.inp s.read] with read := s.read + 1 }
def mCatch (s : StV) (xt : Int) : StV :=
  { backV { backV s [s.ip, s.handler, (s.stack.length : Int)] with handler := (s.back.length : Int) + 3 } [1] with ip := xt }
def mEnd (s : StV) : Rs :=
  if s.handler < 3 ∨ (s.back.length : Int) ≠ s.handler then .bad (-25) false else
  if 48 ≤ s.stack.length then .bad (-3) false else
  .ok (pushV { popB (popB (popB s)) with handler := topB (popB s), ip := topB (popB (popB s)) } [0])
def mFlow (s : StV) (c : Int) : Rs :=
  if c = 44 then (if topV s < 64 ∨ (s.mem.length : Int) ≤ topV s then .bad (-13) false else .ok { backV (popV s) [s.ip] with ip := topV s }) else
  if c = 45 then (if topV s = 0 then .ok (popV s) else .bad (topV s) true) else
  if c = 46 then .ok (mCatch (popV s) (topV s)) else mEnd s
def mReck (s : StV) (c : Int) : Rs :=
  if Cn.isOne c = true then .ok (pushV (popV s) [Cn.one c (topV s)]) else
  if Cn.isTwo c (topV s) = true then .ok (pushV (popV (popV s)) [Cn.two c (topV (popV s)) (topV s)]) else .bad (-10) false
def mDo (s : StV) (c arg was : Int) : Rs :=
  if c = 0 then .ok { s with ip := was, status := 1 } else
  if c = 2 then .ok (pushV s [arg]) else
  if c = 4 then (if topV s ≠ 0 then .ok (popV s) else .ok { popV s with ip := arg }) else
  if c = 3 then .ok { s with ip := arg } else
  if c = 5 then .ok { popB s with ip := topB s } else
  if 6 ≤ c ∧ c ≤ 10 then .ok (mShuf s c) else
  if 30 ≤ c ∧ c ≤ 32 then mMem s c else
  if (33 ≤ c ∧ c ≤ 36) ∨ c = 39 ∨ c = 40 then .ok (mBacks s c) else
  if c = 37 ∨ c = 38 then .ok (mLoop s c arg) else
  if c = 41 ∨ c = 42 then mSay s c else
  if c = 43 then .ok (mKey s) else
  if (44 ≤ c ∧ c ≤ 46) ∨ c = 1 then mFlow s c else
  if c = 47 then .ok s else mReck s c
/-- Why an operation can't be done with so many cells; 0: it can. -/
def mRoom (s : StV) (c : Int) : Int :=
  if (s.stack.length : Int) < (opRow c).takes then -4 else
  if (s.back.length : Int) < (opRow c).backs then -6 else
  if 48 < (s.stack.length : Int) - (opRow c).takes + (opRow c).gives then -3 else
  if 48 < (s.back.length : Int) - (opRow c).backs + (opRow c).givesBak then -5 else 0
def mArg (s : StV) (c : Int) : Int := if opArg c = true then getI s.mem (s.ip + 1) else 0
def mNext (s : StV) (c : Int) : Int := if opArg c = true then s.ip + 2 else s.ip + 1
def mStep (s : StV) : Rs :=
  if s.ip < 0 ∨ (s.mem.length : Int) ≤ s.ip then .bad (-9) false else
  if 64 ≤ getI s.mem s.ip then (if 48 ≤ s.back.length then .bad (-5) false else .ok { backV s [s.ip + 1] with ip := getI s.mem s.ip }) else
  if ¬ (0 ≤ getI s.mem s.ip ∧ getI s.mem s.ip < 48) then .bad (-13) false else
  if opArg (getI s.mem s.ip) = true ∧ (s.mem.length : Int) ≤ s.ip + 1 then .bad (-9) false else
  if mRoom s (getI s.mem s.ip) ≠ 0 then .bad (mRoom s (getI s.mem s.ip)) false else
  mDo { s with ip := mNext s (getI s.mem s.ip) } (getI s.mem s.ip) (mArg s (getI s.mem s.ip)) s.ip
/-- Whether a fault is caught, and how many cells the stack has then. -/
def mCaught (s : StV) : Option Nat :=
  if 3 ≤ s.handler ∧ s.handler ≤ s.back.length ∧ 0 ≤ getI s.back (s.handler - 1) ∧ getI s.back (s.handler - 1) < 48 then some (getI s.back (s.handler - 1)).toNat else none
def mFault (s : StV) (c : Int) : StV := match mCaught s with
  | some n => { s with ip := getI s.back (s.handler - 3), handler := getI s.back (s.handler - 2), back := s.back.take (s.handler - 3).toNat, stack := (s.stack.take n ++ List.replicate (n - s.stack.length) 0) ++ [c] }
  | none => { s with status := 2, code := c }
def mAdv (s : StV) : StV := match mStep s with
  | .ok s' => s'
  | .bad c th => mFault (if th = true then popV s else s) c
def mRun : Nat → StV → StV × Nat
  | 0, s => (s, 0)
  | n + 1, s => if s.status = 0 then mRun n (mAdv s) else (s, n + 1)

/-- A machine that is small enough. -/
structure MOk (s : StV) : Prop where
  st : s.stack.length ≤ 48
  bk : s.back.length ≤ 48
  me : s.mem.length ≤ 3000
  out : s.out.size ≤ 2000
  rd : 0 ≤ s.read ∧ s.read ≤ s.inp.size
  inp : s.inp.size ≤ 9223372036854775807
theorem rows_small : ∀ n : Nat, n < 48 → (0 ≤ (opRow n).takes ∧ (opRow n).takes ≤ 3 ∧ 0 ≤ (opRow n).backs ∧ (opRow n).backs ≤ 3 ∧ 0 ≤ (opRow n).gives ∧ (opRow n).gives ≤ 3 ∧ 0 ≤ (opRow n).givesBak ∧ (opRow n).givesBak ≤ 4) ∧
    ((11 ≤ n ∧ n ≤ 29) → (opRow n).backs = 0 ∧ (opRow n).gives = 1 ∧ (opRow n).givesBak = 0 ∧ if n = 16 ∨ n = 20 ∨ n = 26 ∨ n = 27 then (opRow n).takes = 1 else (opRow n).takes = 2) := by decide +kernel
theorem mRoom_no {s : StV} {c : Int} (h : mRoom s c = 0) : (opRow c).takes ≤ s.stack.length ∧ (opRow c).backs ≤ s.back.length ∧ (s.stack.length : Int) - (opRow c).takes + (opRow c).gives ≤ 48 ∧ (s.back.length : Int) - (opRow c).backs + (opRow c).givesBak ≤ 48 := by
  unfold mRoom at h
  split at h
  · omega
  split at h
  · omega
  split at h
  · omega
  split at h
  · omega
  omega
theorem mRoom_neg (s : StV) (c : Int) : mRoom s c = 0 ∨ mRoom s c = -4 ∨ mRoom s c = -6 ∨ mRoom s c = -3 ∨ mRoom s c = -5 := by
  unfold mRoom
  repeat' split
  all_goals omega
end Go.Proofs.Ytkjpmkopnkkbmaa

/- A machine in memory: cells laid and taken, faults made, cells read. -/
set_option maxRecDepth 100000
namespace Go.Proofs.Ytkjpmkopnkkbmaa
open Go.RowKit

def mcC (S : StC) (th : Bool) : List Value := stC S ++ [.bool th]
section
variable {D : Nat → Prop} {w : World} {m : Nat} {S : StC} {s : StV} {th : Bool}
theorem litL {w w' : World} {b : Nat} (xs : List Int) (cs : List Value) (hcs : cs = fl intE xs) (hb : b = w.heap.size) (hw : w' = World.alloc w (.cells cs.toArray T_int)) (hl : xs.length ≤ 100) : Ow intE w' ⟨some ⟨b, 0, none⟩, xs.length, xs.length⟩ xs ∧ Chg No w w' := by
  rw [hw, hb]
  exact ⟨Ow.lit (E := intE) w xs cs hcs (by unfold maxLen; omega), Chg.alloc _ _ _⟩
theorem getI_last {xs : List Int} (h : 0 < xs.length) : xs[((xs.length : Int) - 1).toNat]? = some (getI xs ((xs.length : Int) - 1)) := by
  unfold getI; rw [List.getD_eq_getElem?_getD, List.getElem?_eq_getElem (by omega)]; rfl
end
end Go.Proofs.Ytkjpmkopnkkbmaa

/- A machine in memory: its operations. -/
set_option maxRecDepth 100000
namespace Go.Proofs.Ytkjpmkopnkkbmaa
open Go.RowKit

theorem popV_len (s : StV) : (popV s).stack.length = s.stack.length - 1 := by show (s.stack.take _).length = _; rw [List.length_take]; omega
theorem popB_len (s : StV) : (popB s).back.length = s.back.length - 1 := by show (s.back.take _).length = _; rw [List.length_take]; omega
theorem pushV_len (s : StV) (l : List Int) : (pushV s l).stack.length = s.stack.length + l.length := by show (s.stack ++ l).length = _; rw [List.length_append]
theorem backV_len (s : StV) (l : List Int) : (backV s l).back.length = s.back.length + l.length := by show (s.back ++ l).length = _; rw [List.length_append]
section
variable {D : Nat → Prop} {w : World} {m : Nat} {S : StC} {s : StV} {th : Bool}
theorem getI_at {xs : List Int} {i : Int} (h0 : 0 ≤ i) (h1 : i < xs.length) : xs[i.toNat]? = some (getI xs i) := by
  unfold getI; rw [List.getD_eq_getElem?_getD, List.getElem?_eq_getElem (by omega)]; rfl
end
end Go.Proofs.Ytkjpmkopnkkbmaa

/- A machine in memory: loops, texts, cells of memory, words that are called, caught. -/
set_option maxRecDepth 100000
namespace Go.Proofs.Ytkjpmkopnkkbmaa
open Go.RowKit

section
variable {D : Nat → Prop} {w : World} {m : Nat} {S : StC} {s : StV} {th : Bool}
theorem sb_byte (t : ByteArray) (i : Int) : 0 ≤ sb t i ∧ sb t i ≤ 255 := by
  unfold sb
  have h : ∀ x : UInt8, (x.toNat : Int) < 256 := fun x => by have := x.toNat_lt; omega
  constructor
  · exact Int.natCast_nonneg _
  · have := h ((t.data[i.toNat]?).getD 0); omega
theorem mtext_size (c v : Int) : (mText c v).size ≤ 22 := by
  unfold mText
  split
  · have := putV_size v
    rw [ByteArray.size_append]; show _ + 1 ≤ 22; omega
  · show 1 ≤ 22; omega
end
end Go.Proofs.Ytkjpmkopnkkbmaa

/- A machine in memory: what calls and catches; an operation; a step. -/
set_option maxRecDepth 100000
namespace Go.Proofs.Ytkjpmkopnkkbmaa
open Go.RowKit

section
variable {D : Nat → Prop} {w : World} {m : Nat} {S : StC} {s : StV} {th : Bool}
end
end Go.Proofs.Ytkjpmkopnkkbmaa

/- A machine in memory: an operation; a step. -/
set_option maxRecDepth 100000
namespace Go.Proofs.Ytkjpmkopnkkbmaa
open Go.RowKit

theorem rows_d1 : ∀ n : Nat, n < 48 → (n = 4 → (opRow n).takes = 1) ∧ (n = 5 → (opRow n).backs = 1) ∧ (n = 6 ∨ n = 7 → (opRow n).takes = 1) ∧ (n = 8 ∨ n = 9 → (opRow n).takes = 2) ∧ (n = 10 → (opRow n).takes = 3) := by decide +kernel
theorem rows_d2 : ∀ n : Nat, n < 48 → (n = 30 ∨ n = 33 ∨ n = 41 ∨ n = 42 ∨ n = 44 ∨ n = 45 ∨ n = 46 → (opRow n).takes = 1) ∧ (n = 31 ∨ n = 32 ∨ n = 36 → (opRow n).takes = 2) ∧ (n = 34 ∨ n = 35 → (opRow n).backs = 1) := by decide +kernel
theorem rows_d3 : ∀ n : Nat, n < 48 → (n = 37 ∨ n = 40 → (opRow n).backs = 2) ∧ (n = 38 → (opRow n).takes = 1 ∧ (opRow n).backs = 2) ∧ (n = 39 → (opRow n).backs = 3) := by decide +kernel
/-- How long the stacks must be. -/
structure NeedM (s : StV) (c : Int) : Prop where
  n1 : (c = 4 ∨ c = 6 ∨ c = 7 ∨ c = 30 ∨ c = 33 ∨ c = 38 ∨ c = 41 ∨ c = 42 ∨ c = 44 ∨ c = 45 ∨ c = 46) → 1 ≤ s.stack.length
  n2 : (c = 8 ∨ c = 9 ∨ c = 31 ∨ c = 32 ∨ c = 36) → 2 ≤ s.stack.length
  n3 : c = 10 → 3 ≤ s.stack.length
  b1 : (c = 5 ∨ c = 34 ∨ c = 35) → 1 ≤ s.back.length
  b2 : (c = 37 ∨ c = 38 ∨ c = 40) → 2 ≤ s.back.length
  b3 : c = 39 → 3 ≤ s.back.length
  one : 11 ≤ c ∧ c ≤ 29 → 1 ≤ s.stack.length ∧ (Cn.isOne c = false → 2 ≤ s.stack.length)
theorem isOne_ops {c : Int} (h : Cn.isOne c = false) : c ≠ 16 ∧ c ≠ 20 ∧ c ≠ 26 ∧ c ≠ 27 := by
  refine ⟨?_, ?_, ?_, ?_⟩ <;> (rintro rfl; revert h; decide)
theorem need_of {s : StV} {c : Int} (hc : 0 ≤ c ∧ c < 48) (h : mRoom s c = 0) : NeedM s c := by
  obtain ⟨r1, r2, _, _⟩ := mRoom_no h
  obtain ⟨a1, a2, a3, a4, a5⟩ := rows_d1 c.toNat (by omega)
  obtain ⟨a6, a7, a8⟩ := rows_d2 c.toNat (by omega)
  obtain ⟨a9, a10, a11⟩ := rows_d3 c.toNat (by omega)
  obtain ⟨_, t⟩ := rows_small c.toNat (by omega)
  have e : ((c.toNat : Nat) : Int) = c := by omega
  rw [e] at a1 a2 a3 a4 a5 a6 a7 a8 a9 a10 a11 t
  refine ⟨fun h => ?_, fun h => ?_, fun h => ?_, fun h => ?_, fun h => ?_, fun h => ?_, fun h => ?_⟩
  · rcases h with h | h | h | h | h | h | h | h | h | h | h
    · have := a1 (by omega); omega
    · have := a3 (by omega); omega
    · have := a3 (by omega); omega
    · have := a6 (by omega); omega
    · have := a6 (by omega); omega
    · have := (a10 (by omega)).1; omega
    · have := a6 (by omega); omega
    · have := a6 (by omega); omega
    · have := a6 (by omega); omega
    · have := a6 (by omega); omega
    · have := a6 (by omega); omega
  · rcases h with h | h | h | h | h
    · have := a4 (by omega); omega
    · have := a4 (by omega); omega
    · have := a7 (by omega); omega
    · have := a7 (by omega); omega
    · have := a7 (by omega); omega
  · have := a5 (by omega); omega
  · rcases h with h | h | h
    · have := a2 (by omega); omega
    · have := a8 (by omega); omega
    · have := a8 (by omega); omega
  · rcases h with h | h | h
    · have := a9 (by omega); omega
    · have := (a10 (by omega)).2; omega
    · have := a9 (by omega); omega
  · have := a11 (by omega); omega
  · obtain ⟨_, _, _, t4⟩ := t (by omega)
    split at t4
    · next hh =>
      refine ⟨by omega, fun h1 => ?_⟩
      have := isOne_ops h1
      omega
    · exact ⟨by omega, fun _ => by omega⟩
section
variable {D : Nat → Prop} {w : World} {m : Nat} {S : StC} {s : StV} {th : Bool}
end
end Go.Proofs.Ytkjpmkopnkkbmaa

/- A machine stays small enough. -/
set_option maxRecDepth 100000
namespace Go.Proofs.Ytkjpmkopnkkbmaa
open Go.RowKit

theorem rows_g1 : ∀ n : Nat, n < 48 → (n = 2 ∨ n = 34 ∨ n = 35 ∨ n = 39 ∨ n = 43 → (opRow n).takes = 0 ∧ (opRow n).gives = 1) ∧ (n = 6 → (opRow n).takes = 1 ∧ (opRow n).gives = 2) ∧ (n = 9 → (opRow n).takes = 2 ∧ (opRow n).gives = 3) := by decide +kernel
theorem rows_g2 : ∀ n : Nat, n < 48 → (n = 33 ∨ n = 44 → (opRow n).backs = 0 ∧ (opRow n).givesBak = 1) ∧ (n = 36 → (opRow n).backs = 0 ∧ (opRow n).givesBak = 2) ∧ (n = 46 → (opRow n).backs = 0 ∧ (opRow n).givesBak = 4) := by decide +kernel
theorem mok_fault {s : StV} (h : MOk s) (c : Int) : MOk (mFault s c) := by
  unfold mFault
  cases hk : mCaught s with
  | none => exact ⟨h.st, h.bk, h.me, h.out, h.rd, h.inp⟩
  | some n =>
    have hn : n < 48 := by
      unfold mCaught at hk
      split at hk
      · next hh => have := Option.some.inj hk; omega
      · cases hk
    have := h.st
    have := h.bk
    refine ⟨?_, ?_, h.me, h.out, h.rd, h.inp⟩
    · show ((s.stack.take n ++ List.replicate (n - s.stack.length) 0) ++ [c]).length ≤ 48
      rw [List.length_append, List.length_append, List.length_take, List.length_replicate, List.length_singleton]; omega
    · show (s.back.take (s.handler - 3).toNat).length ≤ 48
      rw [List.length_take]; omega
theorem mok_popV {s : StV} (h : MOk s) : MOk (popV s) := ⟨by have := popV_len s; have := h.st; omega, h.bk, h.me, h.out, h.rd, h.inp⟩
theorem mok_popB {s : StV} (h : MOk s) : MOk (popB s) := ⟨h.st, by have := popB_len s; have := h.bk; omega, h.me, h.out, h.rd, h.inp⟩
theorem mok_push {s : StV} (h : MOk s) {l : List Int} (hl : s.stack.length + l.length ≤ 48) : MOk (pushV s l) := ⟨by rw [pushV_len]; exact hl, h.bk, h.me, h.out, h.rd, h.inp⟩
theorem mok_back {s : StV} (h : MOk s) {l : List Int} (hl : s.back.length + l.length ≤ 48) : MOk (backV s l) := ⟨h.st, by rw [backV_len]; exact hl, h.me, h.out, h.rd, h.inp⟩
theorem mok_nums {s s' : StV} (h : MOk s) (e1 : s'.stack = s.stack) (e2 : s'.back = s.back) (e3 : s'.mem = s.mem) (e4 : s'.out = s.out) (e5 : s'.inp = s.inp) (e6 : s'.read = s.read) : MOk s' :=
  ⟨by rw [e1]; exact h.st, by rw [e2]; exact h.bk, by rw [e3]; exact h.me, by rw [e4]; exact h.out, by rw [e5, e6]; exact h.rd, by rw [e5]; exact h.inp⟩
theorem mok_do {s s' : StV} {c arg was : Int} (h : MOk s) (hc : 0 ≤ c ∧ c < 48) (hz : mRoom s c = 0) (he : mDo s c arg was = .ok s') : MOk s' := by
  have nd := need_of hc hz
  obtain ⟨r1, r2, r3, r4⟩ := mRoom_no hz
  obtain ⟨a1, a2, a3⟩ := rows_g1 c.toNat (by omega)
  obtain ⟨a4, a5, a6⟩ := rows_g2 c.toNat (by omega)
  have e : ((c.toNat : Nat) : Int) = c := by omega
  rw [e] at a1 a2 a3 a4 a5 a6
  have k1 := h.st
  have k2 := h.bk
  have p1 := popV_len s
  have p2 := popV_len (popV s)
  have p3 := popV_len (popV (popV s))
  have q1 := popB_len s
  have q2 := popB_len (popB s)
  have q3 := popB_len (popB (popB s))
  unfold mDo at he
  by_cases h0 : c = 0
  · rw [if_pos h0] at he; cases he; exact mok_nums h rfl rfl rfl rfl rfl rfl
  rw [if_neg h0] at he
  by_cases h2 : c = 2
  · rw [if_pos h2] at he; cases he
    have := a1 (by omega)
    exact mok_push h (by show _ + 1 ≤ 48; omega)
  rw [if_neg h2] at he
  by_cases h4 : c = 4
  · rw [if_pos h4] at he
    split at he
    · cases he; exact mok_popV h
    · cases he; exact mok_nums (mok_popV h) rfl rfl rfl rfl rfl rfl
  rw [if_neg h4] at he
  by_cases h3 : c = 3
  · rw [if_pos h3] at he; cases he; exact mok_nums h rfl rfl rfl rfl rfl rfl
  rw [if_neg h3] at he
  by_cases h5 : c = 5
  · rw [if_pos h5] at he; cases he; exact mok_nums (mok_popB h) rfl rfl rfl rfl rfl rfl
  rw [if_neg h5] at he
  by_cases h6 : 6 ≤ c ∧ c ≤ 10
  · rw [if_pos h6] at he; cases he
    unfold mShuf
    split
    · next hx => have := a2 (by omega); have := nd.n1 (by omega); exact mok_push (mok_popV h) (by show _ + 2 ≤ 48; omega)
    split
    · next hx => have := nd.n2 (by omega); exact mok_push (mok_popV (mok_popV h)) (by show _ + 2 ≤ 48; omega)
    split
    · next hx => have := a3 (by omega); have := nd.n2 (by omega); exact mok_push (mok_popV (mok_popV h)) (by show _ + 3 ≤ 48; omega)
    split
    · next hx => have := nd.n3 (by omega); exact mok_push (mok_popV (mok_popV (mok_popV h))) (by show _ + 3 ≤ 48; omega)
    · exact mok_popV h
  rw [if_neg h6] at he
  by_cases h30 : 30 ≤ c ∧ c ≤ 32
  · rw [if_pos h30] at he
    unfold mMem at he
    split at he
    · cases he
    split at he
    · next hx => cases he; have := nd.n1 (by omega); exact mok_push (mok_popV h) (by show _ + 1 ≤ 48; omega)
    · cases he
      have g := mok_popV (mok_popV h)
      exact ⟨g.st, g.bk, by show (s.mem.set _ _).length ≤ _; rw [List.length_set]; exact h.me, g.out, g.rd, g.inp⟩
  rw [if_neg h30] at he
  by_cases h33 : (33 ≤ c ∧ c ≤ 36) ∨ c = 39 ∨ c = 40
  · rw [if_pos h33] at he; cases he
    unfold mBacks
    split
    · next hx => have := a4 (by omega); exact mok_back (mok_popV h) (by show s.back.length + 1 ≤ 48; omega)
    split
    · next hx => have := a1 (by omega); exact mok_push (mok_popB h) (by show s.stack.length + 1 ≤ 48; omega)
    split
    · next hx => have := a1 (by omega); exact mok_push h (by show s.stack.length + 1 ≤ 48; omega)
    split
    · next hx => have := a5 (by omega); exact mok_back (mok_popV (mok_popV h)) (by show s.back.length + 2 ≤ 48; omega)
    split
    · next hx => have := a1 (by omega); exact mok_push h (by show s.stack.length + 1 ≤ 48; omega)
    · exact ⟨h.st, by show (s.back.take _).length ≤ 48; rw [List.length_take]; omega, h.me, h.out, h.rd, h.inp⟩
  rw [if_neg h33] at he
  by_cases h37 : c = 37 ∨ c = 38
  · rw [if_pos h37] at he; cases he
    have hb := nd.b2 (by omega)
    have lp : ∀ (s1 : StV) (index limit n : Int) (ends : Bool), MOk s1 → s1.back.length + 2 ≤ 48 → MOk (mLoopR s1 index limit n arg ends) := fun s1 index limit n ends g hl => by
      unfold mLoopR
      split
      · exact g
      · exact mok_nums (mok_back (l := [limit, wr (index + n)]) g hl) rfl rfl rfl rfl rfl rfl
    unfold mLoop
    split
    · exact lp _ _ _ _ _ (mok_popV (mok_popB (mok_popB h))) (by show (popB (popB s)).back.length + 2 ≤ 48; omega)
    · exact lp _ _ _ _ _ (mok_popB (mok_popB h)) (by omega)
  rw [if_neg h37] at he
  by_cases h41 : c = 41 ∨ c = 42
  · rw [if_pos h41] at he
    unfold mSay at he
    split at he
    · cases he
    · next hx =>
      cases he
      have g := mok_popV h
      exact ⟨g.st, g.bk, g.me, by show (s.out ++ _).size ≤ 2000; rw [ByteArray.size_append]; omega, g.rd, g.inp⟩
  rw [if_neg h41] at he
  by_cases h43 : c = 43
  · rw [if_pos h43] at he; cases he
    have := a1 (by omega)
    unfold mKey
    split
    · exact mok_push h (by show s.stack.length + 1 ≤ 48; omega)
    · next hx =>
      have g := mok_push h (l := [sb s.inp s.read]) (by show s.stack.length + 1 ≤ 48; omega)
      have := h.rd
      exact ⟨g.st, g.bk, g.me, g.out, ⟨by show 0 ≤ s.read + 1; omega, by show s.read + 1 ≤ _; show s.read + 1 ≤ (s.inp.size : Int); omega⟩, g.inp⟩
  rw [if_neg h43] at he
  by_cases h44 : (44 ≤ c ∧ c ≤ 46) ∨ c = 1
  · rw [if_pos h44] at he
    unfold mFlow at he
    split at he
    · next hx =>
      split at he
      · cases he
      · cases he; have := a4 (by omega); exact mok_nums (mok_back (l := [s.ip]) (mok_popV h) (by show s.back.length + 1 ≤ 48; omega)) rfl rfl rfl rfl rfl rfl
    split at he
    · split at he
      · cases he; exact mok_popV h
      · cases he
    split at he
    · next hx =>
      cases he
      have := a6 (by omega)
      refine ⟨(mok_popV h).st, ?_, h.me, h.out, h.rd, h.inp⟩
      show ((s.back ++ _) ++ _).length ≤ 48
      rw [List.length_append, List.length_append]; show s.back.length + 3 + 1 ≤ 48; omega
    · unfold mEnd at he
      split at he
      · cases he
      split at he
      · cases he
      · next hx =>
        cases he
        refine ⟨?_, ?_, h.me, h.out, h.rd, h.inp⟩
        · show (s.stack ++ [0]).length ≤ 48
          rw [List.length_append]; show _ + 1 ≤ 48; omega
        · show (popB (popB (popB s))).back.length ≤ 48; omega
  rw [if_neg h44] at he
  by_cases h47 : c = 47
  · rw [if_pos h47] at he; cases he; exact h
  rw [if_neg h47] at he
  obtain ⟨o1, o2⟩ := nd.one (by omega)
  unfold mReck at he
  split at he
  · cases he; exact mok_push (mok_popV h) (by show _ + 1 ≤ 48; omega)
  split at he
  · cases he; exact mok_push (mok_popV (mok_popV h)) (by show _ + 1 ≤ 48; omega)
  · cases he
theorem mok_adv {s : StV} (h : MOk s) : MOk (mAdv s) := by
  unfold mAdv
  cases hst : mStep s with
  | bad c t =>
    show MOk (mFault (if t = true then popV s else s) c)
    apply mok_fault
    split
    · exact mok_popV h
    · exact h
  | ok s' =>
    show MOk s'
    unfold mStep at hst
    split at hst
    · cases hst
    split at hst
    · split at hst
      · cases hst
      · next hx =>
        cases hst
        exact mok_nums (mok_back (l := [s.ip + 1]) h (by show _ + 1 ≤ 48; omega)) rfl rfl rfl rfl rfl rfl
    split at hst
    · cases hst
    split at hst
    · cases hst
    split at hst
    · cases hst
    next hr _ hz =>
    have hz : mRoom s (getI s.mem s.ip) = 0 := Classical.byContradiction hz
    exact mok_do (mok_nums (s' := { s with ip := mNext s (getI s.mem s.ip) }) h rfl rfl rfl rfl rfl rfl) (Classical.byContradiction hr) hz hst
/-- Steps as long as there is fuel; what is left. -/
def runM (s : StV) (fuel : Int) : StV × Int := if 0 ≤ fuel then ((mRun fuel.toNat s).1, ((mRun fuel.toNat s).2 : Int)) else (s, fuel)
theorem runM_go {s : StV} {fuel : Int} (h0 : s.status = 0) (hf : 0 < fuel) : runM s fuel = runM (mAdv s) (fuel - 1) := by
  unfold runM
  rw [if_pos (by omega), if_pos (by omega)]
  have e : fuel.toNat = (fuel - 1).toNat + 1 := by omega
  rw [e]
  show ((mRun ((fuel - 1).toNat + 1) s).1, ((mRun ((fuel - 1).toNat + 1) s).2 : Int)) = _
  have : mRun ((fuel - 1).toNat + 1) s = mRun (fuel - 1).toNat (mAdv s) := by
    show (if s.status = 0 then _ else _) = _
    rw [if_pos h0]
  rw [this]
theorem runM_stop {s : StV} {fuel : Int} (h : s.status ≠ 0 ∨ fuel ≤ 0) : runM s fuel = (s, fuel) := by
  unfold runM
  by_cases hf : 0 ≤ fuel
  · rw [if_pos hf]
    rcases Nat.eq_zero_or_pos fuel.toNat with h0 | h0
    · rw [h0]; show (s, ((0 : Nat) : Int)) = _; congr 1; omega
    · obtain ⟨n, hn⟩ : ∃ n, fuel.toNat = n + 1 := ⟨fuel.toNat - 1, by omega⟩
      rw [hn]
      have : mRun (n + 1) s = (s, n + 1) := by
        show (if s.status = 0 then _ else _) = _
        rw [if_neg (by omega)]
      rw [this]; show (s, ((n + 1 : Nat) : Int)) = _; congr 1; omega
  · rw [if_neg hf]
theorem mok_mrun : ∀ (n : Nat) {s : StV}, MOk s → MOk (mRun n s).1
  | 0, _, h => h
  | n + 1, s, h => by
    show MOk (if s.status = 0 then mRun n (mAdv s) else (s, n + 1)).1
    split
    · exact mok_mrun n (mok_adv h)
    · exact h
theorem mok_run {s : StV} (h : MOk s) (fuel : Int) : MOk (runM s fuel).1 := by
  unfold runM
  split
  · exact mok_mrun _ h
  · exact h
end Go.Proofs.Ytkjpmkopnkkbmaa

/- A machine in memory: a step. -/
set_option maxRecDepth 100000
namespace Go.Proofs.Ytkjpmkopnkkbmaa
open Go.RowKit

section
variable {D : Nat → Prop} {w : World} {m : Nat} {S : StC} {s : StV} {th : Bool}
theorem need_ip {s : StV} {c x : Int} (h : NeedM s c) : NeedM { s with ip := x } c := ⟨h.n1, h.n2, h.n3, h.b1, h.b2, h.b3, h.one⟩
theorem mok_ip {s : StV} {x : Int} (h : MOk s) : MOk { s with ip := x } := ⟨h.st, h.bk, h.me, h.out, h.rd, h.inp⟩
end
end Go.Proofs.Ytkjpmkopnkkbmaa

/- A machine in memory: faults that are caught. -/
set_option maxRecDepth 100000
namespace Go.Proofs.Ytkjpmkopnkkbmaa
open Go.RowKit

theorem Ox.qs {α : Type} {E : Enc α} {w w' : World} {s : Sl} {xs : List α} {b : Nat} (h : Ox E w s xs) (c : Chg (fun k => k = b) w w') (hb : s.blk ≠ some b) : Ox E w' s xs := h.chg c (fun k hk he => hb (by rw [hk]; exact congrArg some he))
def sliceLen (o : Option Value) : Nat := match o with
  | some (.slice _ l _) => l
  | _ => 0
theorem sliceLen_val (s : Sl) : sliceLen (some s.val) = s.len := rfl
/-- A fault's machine: its stack may be a new list, its return stack is cut. -/
structure FtS (w w' : World) (S S' : StC) (s' : StV) : Prop where
  nums : StNums S' s'
  st : Ox intE w' S'.stack s'.stack
  bk : Ox intE w' S'.back s'.back
  stB : S'.stack.blk = S.stack.blk ∨ ∀ k, S'.stack.blk = some k → w.heap.size ≤ k
  bkB : S'.back.blk = S.back.blk
  me : S'.mem = S.mem
end Go.Proofs.Ytkjpmkopnkkbmaa

/- A machine in memory: a step with its fault; inner.Run. -/
set_option maxRecDepth 100000
namespace Go.Proofs.Ytkjpmkopnkkbmaa
open Go.RowKit

theorem mMem_no (s : StV) (c c' : Int) : mMem s c ≠ .bad c' true := fun h => by
  unfold mMem at h
  split at h
  · cases h
  split at h <;> cases h
theorem mSay_no (s : StV) (c c' : Int) : mSay s c ≠ .bad c' true := fun h => by
  unfold mSay at h
  split at h <;> cases h
theorem mEnd_no (s : StV) (c' : Int) : mEnd s ≠ .bad c' true := fun h => by
  unfold mEnd at h
  split at h
  · cases h
  split at h <;> cases h
theorem mReck_no (s : StV) (c c' : Int) : mReck s c ≠ .bad c' true := fun h => by
  unfold mReck at h
  split at h
  · cases h
  split at h <;> cases h
theorem mFlow_thr {s : StV} {c c' : Int} (h : mFlow s c = .bad c' true) : c = 45 := by
  unfold mFlow at h
  split at h
  · split at h <;> cases h
  split at h
  · assumption
  split at h
  · cases h
  · exact absurd h (mEnd_no _ _)
/-- A word that throws took a cell. -/
theorem mDo_thr {s : StV} {c arg was c' : Int} (h : mDo s c arg was = .bad c' true) : c = 45 := by
  unfold mDo at h
  by_cases h0 : c = 0
  · rw [if_pos h0] at h; cases h
  rw [if_neg h0] at h
  by_cases h1 : c = 2
  · rw [if_pos h1] at h; cases h
  rw [if_neg h1] at h
  by_cases h2 : c = 4
  · rw [if_pos h2] at h; split at h <;> cases h
  rw [if_neg h2] at h
  by_cases h3 : c = 3
  · rw [if_pos h3] at h; cases h
  rw [if_neg h3] at h
  by_cases h4 : c = 5
  · rw [if_pos h4] at h; cases h
  rw [if_neg h4] at h
  by_cases h5 : 6 ≤ c ∧ c ≤ 10
  · rw [if_pos h5] at h; cases h
  rw [if_neg h5] at h
  by_cases h6 : 30 ≤ c ∧ c ≤ 32
  · rw [if_pos h6] at h; exact absurd h (mMem_no _ _ _)
  rw [if_neg h6] at h
  by_cases h7 : (33 ≤ c ∧ c ≤ 36) ∨ c = 39 ∨ c = 40
  · rw [if_pos h7] at h; cases h
  rw [if_neg h7] at h
  by_cases h8 : c = 37 ∨ c = 38
  · rw [if_pos h8] at h; cases h
  rw [if_neg h8] at h
  by_cases h9 : c = 41 ∨ c = 42
  · rw [if_pos h9] at h; exact absurd h (mSay_no _ _ _)
  rw [if_neg h9] at h
  by_cases h10 : c = 43
  · rw [if_pos h10] at h; cases h
  rw [if_neg h10] at h
  by_cases h11 : (44 ≤ c ∧ c ≤ 46) ∨ c = 1
  · rw [if_pos h11] at h; exact mFlow_thr h
  rw [if_neg h11] at h
  by_cases h12 : c = 47
  · rw [if_pos h12] at h; cases h
  rw [if_neg h12] at h
  exact absurd h (mReck_no _ _ _)
theorem mStep_thr {s : StV} {c' : Int} (h : mStep s = .bad c' true) : 1 ≤ s.stack.length := by
  unfold mStep at h
  split at h
  · cases h
  split at h
  · split at h <;> cases h
  split at h
  · cases h
  split at h
  · cases h
  split at h
  · cases h
  next hr _ hz =>
  have hc : 0 ≤ getI s.mem s.ip ∧ getI s.mem s.ip < 48 := Classical.byContradiction hr
  have hz : mRoom s (getI s.mem s.ip) = 0 := Classical.byContradiction hz
  have h45 := mDo_thr h
  exact (need_of hc hz).n1 (by omega)
section
variable {D : Nat → Prop} {w : World} {m : Nat} {S : StC} {s : StV} {th : Bool}
def Bm (m : Nat) (S : StC) : Nat → Prop := fun k => k = m ∨ S.stack.blk = some k ∨ S.back.blk = some k ∨ S.mem.blk = some k
end
end Go.Proofs.Ytkjpmkopnkkbmaa

/- inner.Run: steps as long as there is fuel. -/
set_option maxRecDepth 100000
namespace Go.Proofs.Ytkjpmkopnkkbmaa
open Go.RowKit

/-- A machine whose lists may be written: each in a block of its own. -/
structure StX (D : Nat → Prop) (w : World) (S : StC) (s : StV) : Prop where
  nums : StNums S s
  st : Ox intE w S.stack s.stack
  bk : Ox intE w S.back s.back
  me : Ox intE w S.mem s.mem
  stD : ∀ k, S.stack.blk = some k → D k ∧ S.back.blk ≠ some k ∧ S.mem.blk ≠ some k
  bkD : ∀ k, S.back.blk = some k → D k ∧ S.mem.blk ≠ some k
  meD : ∀ k, S.mem.blk = some k → D k
theorem StX.is {D : Nat → Prop} {w : World} {S : StC} {s : StV} (h : StX D w S s) : StIs D w S s := ⟨h.nums, h.st.rd, h.bk.rd, h.me.rd, fun k hk => (h.stD k hk).1, fun k hk => (h.bkD k hk).1, h.meD⟩
theorem StX.chg {D X : Nat → Prop} {w w' : World} {S : StC} {s : StV} (h : StX D w S s) (c : Chg X w w') (hX : ∀ k, D k → ¬ X k) : StX D w' S s :=
  ⟨h.nums, h.st.chg c (fun k hk => hX k (h.stD k hk).1), h.bk.chg c (fun k hk => hX k (h.bkD k hk).1), h.me.chg c (fun k hk => hX k (h.meD k hk)), h.stD, h.bkD, h.meD⟩
theorem StX.no {D : Nat → Prop} {w w' : World} {S : StC} {s : StV} (h : StX D w S s) (c : Chg No w w') : StX D w' S s := h.chg c (fun _ _ h => h)
theorem StX.wid {D C : Nat → Prop} {w : World} {S : StC} {s : StV} (h : StX D w S s) (hd : ∀ k, D k → C k) : StX C w S s :=
  ⟨h.nums, h.st, h.bk, h.me, fun k hk => ⟨hd k (h.stD k hk).1, (h.stD k hk).2⟩, fun k hk => ⟨hd k (h.bkD k hk).1, (h.bkD k hk).2⟩, fun k hk => hd k (h.meD k hk)⟩
end Go.Proofs.Ytkjpmkopnkkbmaa
