/- A machine's steps, in plain words. -/
import Derived.Test.YtkjpmkopnkkbmaaGreatDoorOps
import Derived.Test.YtkjpmkopnkkbmaaGreatDoorEvV
set_option maxRecDepth 100000
namespace Go.Proofs.YtkjpmkopnkkbmaaGreatDoor
open Go.RowKit

def topV (s : StV) : Int := getI s.stack ((s.stack.length : Int) - 1)
def topB (s : StV) : Int := getI s.back ((s.back.length : Int) - 1)
def popV (s : StV) : StV := { s with stack := s.stack.take (s.stack.length - 1) }
def popB (s : StV) : StV := { s with back := s.back.take (s.back.length - 1) }
def pushV (s : StV) (l : List Int) : StV := { s with stack := s.stack ++ l }
def backV (s : StV) (l : List Int) : StV := { s with back := s.back ++ l }
/-- What a step comes to: a machine, or a fault (and whether a word threw it). -/
inductive Rs where
  | ok (s : StV)
  | bad (c : Int) (th : Bool)
def mShuf (s : StV) (c : Int) : StV :=
  if c = 6 then pushV (popV s) [topV s, topV s] else
  if c = 8 then pushV (popV (popV s)) [topV s, topV (popV s)] else
  if c = 9 then pushV (popV (popV s)) [topV (popV s), topV s, topV (popV s)] else
  if c = 10 then pushV (popV (popV (popV s))) [topV (popV s), topV s, topV (popV (popV s))] else popV s
def mMem (s : StV) (c : Int) : Rs :=
  if topV s < 0 ∨ (s.mem.length : Int) ≤ topV s then .bad (-9) false else
  if c = 30 then .ok (pushV (popV s) [getI s.mem (topV s)]) else
  .ok { popV (popV s) with mem := s.mem.set (topV s).toNat (wr ((if c = 31 then 0 else getI s.mem (topV s)) + topV (popV s))) }
def mBacks (s : StV) (c : Int) : StV :=
  if c = 33 then backV (popV s) [topV s] else
  if c = 34 then pushV (popB s) [topB s] else
  if c = 35 then pushV s [topB s] else
  if c = 36 then backV (popV (popV s)) [topV (popV s), topV s] else
  if c = 39 then pushV s [getI s.back ((s.back.length : Int) - 3)] else { s with back := s.back.take (s.back.length - 2) }
def mLoopR (s : StV) (index limit n arg : Int) (ends : Bool) : StV := if ends = true then s else { backV s [limit, wr (index + n)] with ip := arg }
def mLoop (s : StV) (c arg : Int) : StV :=
  if c = 38 then mLoopR (popV (popB (popB s))) (topB s) (topB (popB s)) (topV s) arg (Cn.crosses (wr (topB s - topB (popB s))) (topV s))
  else mLoopR (popB (popB s)) (topB s) (topB (popB s)) 1 arg (decide (wr (topB s + 1) = topB (popB s)))
def mText (c v : Int) : ByteArray := if c = 42 then putV v ++ bs [32] else bs [byteC v]
def mSay (s : StV) (c : Int) : Rs :=
  if 2000 < (s.out.size : Int) + (mText c (topV s)).size then .bad (-57) false else .ok { popV s with out := s.out ++ mText c (topV s) }
def mKey (s : StV) : StV := if (s.inp.size : Int) ≤ s.read then pushV s [-1] else { pushV s [sb s.inp s.read] with read := s.read + 1 }
def mCatch (s : StV) (xt : Int) : StV :=
  { backV { backV s [s.ip, s.handler, (s.stack.length : Int)] with handler := (s.back.length : Int) + 3 } [1] with ip := xt }
def mEnd (s : StV) : Rs :=
  if s.handler < 3 ∨ (s.back.length : Int) ≠ s.handler then .bad (-25) false else
  if 48 ≤ s.stack.length then .bad (-3) false else
  .ok (pushV { popB (popB (popB s)) with handler := topB (popB s), ip := topB (popB (popB s)) } [0])
def mFlow (s : StV) (c : Int) : Rs :=
  if c = 44 then (if topV s < 64 ∨ (s.mem.length : Int) ≤ topV s then .bad (-13) false else .ok { backV (popV s) [s.ip] with ip := topV s }) else
  if c = 45 then (if topV s = 0 then .ok (popV s) else .bad (topV s) true) else
  if c = 46 then .ok (mCatch (popV s) (topV s)) else mEnd s
def mReck (s : StV) (c : Int) : Rs :=
  if Cn.isOne c = true then .ok (pushV (popV s) [Cn.one c (topV s)]) else
  if Cn.isTwo c (topV s) = true then .ok (pushV (popV (popV s)) [Cn.two c (topV (popV s)) (topV s)]) else .bad (-10) false
def mDo (s : StV) (c arg was : Int) : Rs :=
  if c = 0 then .ok { s with ip := was, status := 1 } else
  if c = 2 then .ok (pushV s [arg]) else
  if c = 4 then (if topV s ≠ 0 then .ok (popV s) else .ok { popV s with ip := arg }) else
  if c = 3 then .ok { s with ip := arg } else
  if c = 5 then .ok { popB s with ip := topB s } else
  if 6 ≤ c ∧ c ≤ 10 then .ok (mShuf s c) else
  if 30 ≤ c ∧ c ≤ 32 then mMem s c else
  if (33 ≤ c ∧ c ≤ 36) ∨ c = 39 ∨ c = 40 then .ok (mBacks s c) else
  if c = 37 ∨ c = 38 then .ok (mLoop s c arg) else
  if c = 41 ∨ c = 42 then mSay s c else
  if c = 43 then .ok (mKey s) else
  if (44 ≤ c ∧ c ≤ 46) ∨ c = 1 then mFlow s c else
  if c = 47 then .ok s else mReck s c
/-- Why an operation can't be done with so many cells; 0: it can. -/
def mRoom (s : StV) (c : Int) : Int :=
  if (s.stack.length : Int) < (opRow c).takes then -4 else
  if (s.back.length : Int) < (opRow c).backs then -6 else
  if 48 < (s.stack.length : Int) - (opRow c).takes + (opRow c).gives then -3 else
  if 48 < (s.back.length : Int) - (opRow c).backs + (opRow c).givesBak then -5 else 0
def mArg (s : StV) (c : Int) : Int := if opArg c = true then getI s.mem (s.ip + 1) else 0
def mNext (s : StV) (c : Int) : Int := if opArg c = true then s.ip + 2 else s.ip + 1
def mStep (s : StV) : Rs :=
  if s.ip < 0 ∨ (s.mem.length : Int) ≤ s.ip then .bad (-9) false else
  if 64 ≤ getI s.mem s.ip then (if 48 ≤ s.back.length then .bad (-5) false else .ok { backV s [s.ip + 1] with ip := getI s.mem s.ip }) else
  if ¬ (0 ≤ getI s.mem s.ip ∧ getI s.mem s.ip < 48) then .bad (-13) false else
  if opArg (getI s.mem s.ip) = true ∧ (s.mem.length : Int) ≤ s.ip + 1 then .bad (-9) false else
  if mRoom s (getI s.mem s.ip) ≠ 0 then .bad (mRoom s (getI s.mem s.ip)) false else
  mDo { s with ip := mNext s (getI s.mem s.ip) } (getI s.mem s.ip) (mArg s (getI s.mem s.ip)) s.ip
/-- Whether a fault is caught, and how many cells the stack has then. -/
def mCaught (s : StV) : Option Nat :=
  if 3 ≤ s.handler ∧ s.handler ≤ s.back.length ∧ 0 ≤ getI s.back (s.handler - 1) ∧ getI s.back (s.handler - 1) < 48 then some (getI s.back (s.handler - 1)).toNat else none
def mFault (s : StV) (c : Int) : StV := match mCaught s with
  | some n => { s with ip := getI s.back (s.handler - 3), handler := getI s.back (s.handler - 2), back := s.back.take (s.handler - 3).toNat, stack := (s.stack.take n ++ List.replicate (n - s.stack.length) 0) ++ [c] }
  | none => { s with status := 2, code := c }
def mAdv (s : StV) : StV := match mStep s with
  | .ok s' => s'
  | .bad c th => mFault (if th = true then popV s else s) c
def mRun : Nat → StV → StV × Nat
  | 0, s => (s, 0)
  | n + 1, s => if s.status = 0 then mRun n (mAdv s) else (s, n + 1)

/-- A machine that is small enough. -/
structure MOk (s : StV) : Prop where
  st : s.stack.length ≤ 48
  bk : s.back.length ≤ 48
  me : s.mem.length ≤ 3000
  out : s.out.size ≤ 2000
  rd : 0 ≤ s.read ∧ s.read ≤ s.inp.size
  inp : s.inp.size ≤ 1000000
theorem rows_small : ∀ n : Nat, n < 48 → (0 ≤ (opRow n).takes ∧ (opRow n).takes ≤ 3 ∧ 0 ≤ (opRow n).backs ∧ (opRow n).backs ≤ 3 ∧ 0 ≤ (opRow n).gives ∧ (opRow n).gives ≤ 3 ∧ 0 ≤ (opRow n).givesBak ∧ (opRow n).givesBak ≤ 4) ∧
    ((11 ≤ n ∧ n ≤ 29) → (opRow n).backs = 0 ∧ (opRow n).gives = 1 ∧ (opRow n).givesBak = 0 ∧ if n = 16 ∨ n = 20 ∨ n = 26 ∨ n = 27 then (opRow n).takes = 1 else (opRow n).takes = 2) := by decide +kernel
theorem mRoom_no {s : StV} {c : Int} (h : mRoom s c = 0) : (opRow c).takes ≤ s.stack.length ∧ (opRow c).backs ≤ s.back.length ∧ (s.stack.length : Int) - (opRow c).takes + (opRow c).gives ≤ 48 ∧ (s.back.length : Int) - (opRow c).backs + (opRow c).givesBak ≤ 48 := by
  unfold mRoom at h
  split at h
  · omega
  split at h
  · omega
  split at h
  · omega
  split at h
  · omega
  omega
theorem mRoom_neg (s : StV) (c : Int) : mRoom s c = 0 ∨ mRoom s c = -4 ∨ mRoom s c = -6 ∨ mRoom s c = -3 ∨ mRoom s c = -5 := by
  unfold mRoom
  repeat' split
  all_goals omega
end Go.Proofs.YtkjpmkopnkkbmaaGreatDoor
