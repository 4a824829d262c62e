/- What a trace does, in plain words: values, instructions, exits. No program in sight. -/
import Derived.Test.YtkjpmkopnkkbmaaGreatDoorCellNums
import Derived.Test.YtkjpmkopnkkbmaaGreatDoorBase
import Derived.Test.YtkjpmkopnkkbmaaGreatDoorLiftH
set_option maxRecDepth 100000
namespace Go.Proofs.YtkjpmkopnkkbmaaGreatDoor
open Go.RowKit

structure In5 where
  a : Int
  b : Int
  c : Int
  d : Int
  e : Int
structure OuV where
  ip : Int
  steps : Int
  stack : List Int
  back : List Int
structure TrG where
  start : Int
  slots : Int
  backs : Int
  grow : Int
  growBack : Int
  ins : List In5
  outs : List OuV
  last : Int
  cells : List Int
structure StV where
  ip : Int
  handler : Int
  stack : List Int
  back : List Int
  mem : List Int
  out : ByteArray
  inp : ByteArray
  read : Int
  status : Int
  code : Int
/-- The digits of a number, ahead of some that are there. -/
def dg : Nat → Nat → List UInt8 → List UInt8
  | 0, _, out => out
  | f + 1, n, out => if n = 0 ∧ out ≠ [] then out else dg f (n / 10) (UInt8.ofNat (48 + n % 10) :: out)
theorem dg_zero : ∀ (f : Nat) (out : List UInt8), out ≠ [] → dg f 0 out = out
  | 0, _, _ => rfl
  | f + 1, out, h => by unfold dg; rw [if_pos ⟨rfl, h⟩]
theorem dg_len : ∀ (f n : Nat) (out : List UInt8), (dg f n out).length ≤ out.length + f
  | 0, _, _ => Nat.le_refl _
  | f + 1, n, out => by
    unfold dg; split
    · omega
    · have := dg_len f (n / 10) (UInt8.ofNat (48 + n % 10) :: out); rw [List.length_cons] at this; omega
/-- How large a number is, without its sign. -/
def absN (v : Int) : Nat := if v < 0 then (IntKind.wrap .u64 (0 - IntKind.wrap .u64 v)).toNat else (IntKind.wrap .u64 v).toNat
def putV (v : Int) : ByteArray := if v < 0 then bs [45] ++ bs (dg 20 (absN v) []) else bs (dg 20 (absN v) [])
def byteC (v : Int) : UInt8 := UInt8.ofNat (IntKind.wrap .u8 v).toNat
def sayV (op v : Int) : ByteArray := if op = 11 then putV v ++ bs [32] else bs [byteC v]
def getI (l : List Int) (i : Int) : Int := l.getD i.toNat 0
/-- A trace while it runs: the machine, the registers, the watched cell that was hit. -/
structure En where
  s : StV
  regs : List Int
  hit : Int
def valV (ats : List Int) (p : Int) (e : En) : Int := getI e.regs (getI ats p)
def setV (ats : List Int) (p v : Int) (e : En) : En := { e with regs := e.regs.set (getI ats p).toNat v }
/-- What it does to a cell of the memory. -/
def memV (ats wl : List Int) (place : Int) (i : In5) (e : En) : Int × En :=
  let a := valV ats i.c e
  if a < 0 ∨ (e.s.mem.length : Int) ≤ a then (i.e, e) else
  if i.a = 5 then (-1, setV ats place (getI e.s.mem a) e) else
  let e' : En := { e with s := { e.s with mem := e.s.mem.set a.toNat (valV ats i.d e) } }
  if a ∈ wl then (i.b, { e' with hit := a }) else (-1, e')
def calcV (ats : List Int) (place : Int) (i : In5) (e : En) : Int × En :=
  let b := valV ats i.c e
  if Cn.isOne i.b = true then (-1, setV ats place (Cn.one i.b b) e) else
  if Cn.isTwo i.b (valV ats i.d e) = true then (-1, setV ats place (Cn.two i.b b (valV ats i.d e)) e) else (i.e, e)
def tellV (ats : List Int) (i : In5) (e : En) : Int × En :=
  let t := sayV i.a (valV ats i.c e)
  if 2000 < (e.s.out.size : Int) + t.size then (i.e, e) else (-1, { e with s := { e.s with out := e.s.out ++ t } })
def askV (ats : List Int) (place : Int) (e : En) : Int × En :=
  if (e.s.inp.size : Int) ≤ e.s.read then (-1, setV ats place (-1) e) else
  (-1, setV ats place (sb e.s.inp e.s.read) { e with s := { e.s with read := e.s.read + 1 } })
def insV (ats wl : List Int) (place : Int) (i : In5) (e : En) : Int × En :=
  if i.a = 1 then (-1, setV ats place i.b e) else
  if i.a = 2 then (-1, setV ats place (getI e.s.stack ((e.s.stack.length : Int) - 1 - i.b)) e) else
  if i.a = 3 then (-1, setV ats place (getI e.s.back ((e.s.back.length : Int) - 1 - i.b)) e) else
  if i.a = 4 then calcV ats place i e else
  if i.a = 5 ∨ i.a = 6 then memV ats wl place i e else
  if i.a = 7 then (if valV ats i.c e ≠ 0 then -1 else i.e, e) else
  if i.a = 8 then (if valV ats i.c e = 0 then -1 else i.e, e) else
  if i.a = 9 then (if valV ats i.c e = valV ats i.d e then -1 else i.e, e) else
  if i.a = 10 ∨ i.a = 11 then tellV ats i e else askV ats place e
/-- All instructions from a place on: the exit, and what there is then. -/
def goV (ats wl : List Int) (last : Int) : List In5 → Int → En → Int × En
  | [], _, e => (last, e)
  | i :: r, place, e => if 0 ≤ (insV ats wl place i e).1 then insV ats wl place i e else goV ats wl last r (place + 1) (insV ats wl place i e).2
def valsV (ats : List Int) (l : List Int) (e : En) : List Int := l.map fun p => valV ats p e
def ou0 : OuV := ⟨0, 0, [], []⟩
def outAt (t : TrG) (x : Int) : OuV := t.outs.getD x.toNat ou0
/-- The machine behind an exit. -/
def leaveV (t : TrG) (ats : List Int) (x : Int) (e : En) : StV :=
  { e.s with ip := (outAt t x).ip, stack := e.s.stack.take (e.s.stack.length - t.slots.toNat) ++ valsV ats (outAt t x).stack e, back := e.s.back.take (e.s.back.length - t.backs.toNat) ++ valsV ats (outAt t x).back e }
def mayV (t : TrG) (s : StV) : Bool := decide (s.status = 0 ∧ s.ip = t.start ∧ t.slots ≤ s.stack.length ∧ (s.stack.length : Int) + t.grow ≤ 48 ∧ t.backs ≤ s.back.length ∧ (s.back.length : Int) + t.growBack ≤ 48)
/-- Places may be looked at. -/
def InsOk (n ns nb : Nat) (place : Int) (i : In5) : Prop :=
  (0 ≤ place ∧ place < n) ∧ (i.a = 2 → 0 ≤ i.b ∧ i.b < ns) ∧ (i.a = 3 → 0 ≤ i.b ∧ i.b < nb) ∧ (4 ≤ i.a ∧ i.a ≤ 11 → 0 ≤ i.c ∧ i.c < n) ∧ ((i.a = 4 ∧ Cn.isOne i.b = false) ∨ i.a = 6 ∨ i.a = 9 → 0 ≤ i.d ∧ i.d < n)
/-- Every place has a register. -/
def AtOk (ats : List Int) (m : Nat) : Prop := ∀ q : Nat, q < ats.length → 0 ≤ ats.getD q 0 ∧ ats.getD q 0 < m
theorem setV_regs (ats : List Int) (p v : Int) (e : En) : (setV ats p v e).regs.length = e.regs.length := by unfold setV; simp
def Keeps (e e' : En) : Prop := e'.regs.length = e.regs.length ∧ e'.s.stack = e.s.stack ∧ e'.s.back = e.s.back ∧ e'.s.inp = e.s.inp ∧ e'.s.mem.length = e.s.mem.length
theorem Keeps.refl (e : En) : Keeps e e := ⟨rfl, rfl, rfl, rfl, rfl⟩
theorem setV_keeps (ats : List Int) (p v : Int) (e : En) : Keeps e (setV ats p v e) := ⟨by unfold setV; simp, rfl, rfl, rfl, rfl⟩
theorem calcV_keeps (ats : List Int) (place : Int) (i : In5) (e : En) : Keeps e (calcV ats place i e).2 := by
  unfold calcV; dsimp only; split
  · exact setV_keeps _ _ _ _
  · split
    · exact setV_keeps _ _ _ _
    · exact Keeps.refl _
theorem memV_keeps (ats wl : List Int) (place : Int) (i : In5) (e : En) : Keeps e (memV ats wl place i e).2 := by
  unfold memV; dsimp only; split
  · exact Keeps.refl _
  · split
    · exact setV_keeps _ _ _ _
    · split <;> exact ⟨rfl, rfl, rfl, rfl, by simp⟩
theorem tellV_keeps (ats : List Int) (i : In5) (e : En) : Keeps e (tellV ats i e).2 := by
  unfold tellV; dsimp only; split
  · exact Keeps.refl _
  · exact ⟨rfl, rfl, rfl, rfl, rfl⟩
theorem askV_keeps (ats : List Int) (place : Int) (e : En) : Keeps e (askV ats place e).2 := by
  unfold askV; split
  · exact setV_keeps _ _ _ _
  · exact ⟨by unfold setV; simp, rfl, rfl, rfl, rfl⟩
theorem insV_keeps (ats wl : List Int) (place : Int) (i : In5) (e : En) : Keeps e (insV ats wl place i e).2 := by
  unfold insV
  repeat' split
  all_goals first | exact setV_keeps _ _ _ _ | exact calcV_keeps _ _ _ _ | exact memV_keeps _ _ _ _ _ | exact tellV_keeps _ _ _ | exact askV_keeps _ _ _ | exact Keeps.refl _
end Go.Proofs.YtkjpmkopnkkbmaaGreatDoor
