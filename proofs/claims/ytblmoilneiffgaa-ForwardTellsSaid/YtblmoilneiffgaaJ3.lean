/- Plain numbers, plain traces: what a trace does, which may be. No program in sight. -/
import Derived.WalkKit
import Derived.Test.YtblmoilneiffgaaJ1

/- The plain numbers of the package cell: what each function computes, in plain Lean, and the laws that the statements ask of them. No program is in sight here. -/
namespace Go.Proofs.Ytblmoilneiffgaa
open Go.RowKit

namespace Cn
/-- Flag. -/
def flag (b : Bool) : Int := if b then -1 else 0
/-- Does the rest have the wrong sign? -/
def odd (a b : Int) : Prop := a.tmod b ≠ 0 ∧ ¬ (a.tmod b < 0 ↔ b < 0)
instance (a b : Int) : Decidable (odd a b) := by unfold odd; infer_instance
/-- Floor: the quotient, rounded down. -/
def quo (a b : Int) : Int := if b = 0 then 0 else if b = -1 then wrap64 (-a) else if odd a b then wrap64 (wrap64 (a.tdiv b) - 1) else wrap64 (a.tdiv b)
/-- Floor: the rest. -/
def rem (a b : Int) : Int := if b = 0 then 0 else if b = -1 then 0 else if odd a b then wrap64 (a.tmod b + b) else a.tmod b
/-- shift: to the left, or to the right; zeros come in. -/
def shift (op a n : Int) : Int := if n < 0 ∨ 64 ≤ n then 0 else if op = 21 then wrap64 (a * 2 ^ n.toNat) else wrap64 (IntKind.u64.wrap a / 2 ^ n.toNat)
/-- compare. -/
def cmp (op a b : Int) : Int := if op = 23 then flag (a == b) else if op = 24 then flag (decide (a < b)) else flag (decide (IntKind.u64.wrap a < IntKind.u64.wrap b))
/-- Two. -/
def two (op a b : Int) : Int :=
  if op = 11 then wrap64 (a + b) else if op = 12 then wrap64 (a - b) else if op = 13 then wrap64 (a * b) else if op = 14 then quo a b else if op = 15 then rem a b
  else if op = 17 then bits .and .i64 a b else if op = 18 then bits .or .i64 a b else if op = 19 then bits .xor .i64 a b
  else if op = 21 then shift op a b else if op = 22 then shift op a b else if op = 23 then cmp op a b else if op = 24 then cmp op a b else if op = 25 then cmp op a b
  else if op = 28 then min a b else if op = 29 then max a b else 0
def isTwo (op b : Int) : Bool :=
  if op = 11 then true else if op = 12 then true else if op = 13 then true else if op = 14 then b != 0 else if op = 15 then b != 0
  else if op = 17 then true else if op = 18 then true else if op = 19 then true else if op = 21 then true else if op = 22 then true
  else if op = 23 then true else if op = 24 then true else if op = 25 then true else if op = 28 then true else if op = 29 then true else false
/-- One. -/
def one (op a : Int) : Int := if op = 16 then wrap64 (-a) else if op = 20 then bits .xor .i64 (-1) a else if op = 26 then flag (a == 0) else if op = 27 then flag (decide (a < 0)) else 0
def isOne (op : Int) : Bool := if op = 16 then true else if op = 20 then true else if op = 26 then true else if op = 27 then true else false
def risTwo (op : Int) : Bool := decide ((11 ≤ op ∧ op ≤ 15) ∨ (17 ≤ op ∧ op ≤ 19) ∨ (21 ≤ op ∧ op ≤ 25) ∨ op = 28 ∨ op = 29)
def risOne (op : Int) : Bool := decide (op = 16 ∨ op = 20 ∨ op = 26 ∨ op = 27)
def rr (a b : Int) : Int := wrap64 (a - wrap64 (wrap64 (a.tdiv b) * b))
def rodd (a b : Int) : Prop := rr a b ≠ 0 ∧ ¬ (rr a b < 0 ↔ b < 0)
instance (a b : Int) : Decidable (rodd a b) := by unfold rodd; infer_instance
def rquo (a b : Int) : Int := if rodd a b then wrap64 (wrap64 (a.tdiv b) - 1) else wrap64 (a.tdiv b)
def rrem (a b : Int) : Int := if rodd a b then wrap64 (rr a b + b) else rr a b
def rshift (op a n : Int) : Int := if n < 0 ∨ 63 < n then 0 else if op = 21 then wrap64 (IntKind.u64.wrap (a * 2 ^ n.toNat)) else wrap64 (IntKind.u64.wrap a / 2 ^ n.toNat)
def rtwo (op a b : Int) : Int :=
  if op = 11 then wrap64 (a + b) else if op = 12 then wrap64 (a - b) else if op = 13 then wrap64 (a * b) else if op = 14 then if b = 0 then 0 else rquo a b else if op = 15 then if b = 0 then 0 else rrem a b
  else if op = 17 then bits .and .i64 a b else if op = 18 then bits .or .i64 a b else if op = 19 then bits .xor .i64 a b
  else if op = 21 then rshift op a b else if op = 22 then rshift op a b else if op = 23 then cmp op a b else if op = 24 then cmp op a b else if op = 25 then cmp op a b
  else if op = 28 then min a b else if op = 29 then max a b else 0
theorem risTwo_no {op : Int} (h : (!risTwo op) = true) : op < 11 ∨ op = 16 ∨ op = 20 ∨ op = 26 ∨ op = 27 ∨ 29 < op := by
  simp only [risTwo, Bool.not_eq_true', decide_eq_false_iff_not] at h; omega
theorem rtwo_none1 {op : Int} (a b : Int) (h : (!risTwo op) = true) : (0 : Int) = rtwo op a b := by
  have h := risTwo_no h
  unfold rtwo
  repeat rw [if_neg (by omega)]
theorem rtwo_none2 {op : Int} (b : Int) (h : (!risTwo op) = true) : false = isTwo op b := by
  have h := risTwo_no h
  unfold isTwo
  repeat rw [if_neg (by omega)]
theorem rtwo_max {op : Int} (h : (!risTwo op) = false) (h1 : (op == 11) = false) (h2 : (op == 12) = false) (h3 : (op == 13) = false) (h4 : (op == 14) = false) (h5 : (op == 15) = false) (h6 : (op == 17) = false) (h7 : (op == 18) = false) (h8 : (op == 19) = false)
    (h9 : (op == 21) = false) (h10 : (op == 22) = false) (h11 : (op == 23) = false) (h12 : (op == 24) = false) (h13 : (op == 25) = false) (h14 : (op == 28) = false) : op = 29 := by
  simp only [beq_eq_false_iff_ne] at *
  simp only [risTwo, Bool.not_eq_false', decide_eq_true_eq] at h
  omega
theorem w0 : wrap64 0 = 0 := by unfold wrap64; omega
end Cn
end Go.Proofs.Ytblmoilneiffgaa

/- What a trace does, in plain words: values, instructions, exits. No program in sight. -/
set_option maxRecDepth 100000
namespace Go.Proofs.Ytblmoilneiffgaa
open Go.RowKit

structure In5 where
  a : Int
  b : Int
  c : Int
  d : Int
  e : Int
structure OuV where
  ip : Int
  steps : Int
  stack : List Int
  back : List Int
structure TrG where
  start : Int
  slots : Int
  backs : Int
  grow : Int
  growBack : Int
  ins : List In5
  outs : List OuV
  last : Int
  cells : List Int
structure StV where
  ip : Int
  handler : Int
  stack : List Int
  back : List Int
  mem : List Int
  out : ByteArray
  inp : ByteArray
  read : Int
  status : Int
  code : Int
/-- The digits of a number, ahead of some that are there. -/
def dg : Nat → Nat → List UInt8 → List UInt8
  | 0, _, out => out
  | f + 1, n, out => if n = 0 ∧ out ≠ [] then out else dg f (n / 10) (UInt8.ofNat (48 + n % 10) :: out)
/-- How large a number is, without its sign. -/
def absN (v : Int) : Nat := if v < 0 then (IntKind.wrap .u64 (0 - IntKind.wrap .u64 v)).toNat else (IntKind.wrap .u64 v).toNat
def putV (v : Int) : ByteArray := if v < 0 then bs [45] ++ bs (dg 20 (absN v) []) else bs (dg 20 (absN v) [])
def byteC (v : Int) : UInt8 := UInt8.ofNat (IntKind.wrap .u8 v).toNat
def sayV (op v : Int) : ByteArray := if op = 11 then putV v ++ bs [32] else bs [byteC v]
def getI (l : List Int) (i : Int) : Int := l.getD i.toNat 0
/-- A trace while it runs: the machine, the registers, the watched cell that was hit. -/
structure En where
  s : StV
  regs : List Int
  hit : Int
def valV (ats : List Int) (p : Int) (e : En) : Int := getI e.regs (getI ats p)
def setV (ats : List Int) (p v : Int) (e : En) : En := { e with regs := e.regs.set (getI ats p).toNat v }
/-- What it does to a cell of the memory. -/
def memV (ats wl : List Int) (place : Int) (i : In5) (e : En) : Int × En :=
  let a := valV ats i.c e
  if a < 0 ∨ (e.s.mem.length : Int) ≤ a then (i.e, e) else
  if i.a = 5 then (-1, setV ats place (getI e.s.mem a) e) else
  let e' : En := { e with s := { e.s with mem := e.s.mem.set a.toNat (valV ats i.d e) } }
  if a ∈ wl then (i.b, { e' with hit := a }) else (-1, e')
def calcV (ats : List Int) (place : Int) (i : In5) (e : En) : Int × En :=
  let b := valV ats i.c e
  if Cn.isOne i.b = true then (-1, setV ats place (Cn.one i.b b) e) else
  if Cn.isTwo i.b (valV ats i.d e) = true then (-1, setV ats place (Cn.two i.b b (valV ats i.d e)) e) else (i.e, e)
def tellV (ats : List Int) (i : In5) (e : En) : Int × En :=
  let t := sayV i.a (valV ats i.c e)
  if 2000 < (e.s.out.size : Int) + t.size then (i.e, e) else (-1, { e with s := { e.s with out := e.s.out ++ t } })
def askV (ats : List Int) (place : Int) (e : En) : Int × En :=
  if (e.s.inp.size : Int) ≤ e.s.read then (-1, setV ats place (-1) e) else
  (-1, setV ats place (sb e.s.inp e.s.read) { e with s := { e.s with read := e.s.read + 1 } })
def insV (ats wl : List Int) (place : Int) (i : In5) (e : En) : Int × En :=
  if i.a = 1 then (-1, setV ats place i.b e) else
  if i.a = 2 then (-1, setV ats place (getI e.s.stack ((e.s.stack.length : Int) - 1 - i.b)) e) else
  if i.a = 3 then (-1, setV ats place (getI e.s.back ((e.s.back.length : Int) - 1 - i.b)) e) else
  if i.a = 4 then calcV ats place i e else
  if i.a = 5 ∨ i.a = 6 then memV ats wl place i e else
  if i.a = 7 then (if valV ats i.c e ≠ 0 then -1 else i.e, e) else
  if i.a = 8 then (if valV ats i.c e = 0 then -1 else i.e, e) else
  if i.a = 9 then (if valV ats i.c e = valV ats i.d e then -1 else i.e, e) else
  if i.a = 10 ∨ i.a = 11 then tellV ats i e else askV ats place e
/-- All instructions from a place on: the exit, and what there is then. -/
def goV (ats wl : List Int) (last : Int) : List In5 → Int → En → Int × En
  | [], _, e => (last, e)
  | i :: r, place, e => if 0 ≤ (insV ats wl place i e).1 then insV ats wl place i e else goV ats wl last r (place + 1) (insV ats wl place i e).2
def valsV (ats : List Int) (l : List Int) (e : En) : List Int := l.map fun p => valV ats p e
def ou0 : OuV := ⟨0, 0, [], []⟩
def outAt (t : TrG) (x : Int) : OuV := t.outs.getD x.toNat ou0
/-- The machine behind an exit. -/
def leaveV (t : TrG) (ats : List Int) (x : Int) (e : En) : StV :=
  { e.s with ip := (outAt t x).ip, stack := e.s.stack.take (e.s.stack.length - t.slots.toNat) ++ valsV ats (outAt t x).stack e, back := e.s.back.take (e.s.back.length - t.backs.toNat) ++ valsV ats (outAt t x).back e }
def mayV (t : TrG) (s : StV) : Bool := decide (s.status = 0 ∧ s.ip = t.start ∧ t.slots ≤ s.stack.length ∧ (s.stack.length : Int) + t.grow ≤ 48 ∧ t.backs ≤ s.back.length ∧ (s.back.length : Int) + t.growBack ≤ 48)
/-- Places may be looked at. -/
def InsOk (n ns nb : Nat) (place : Int) (i : In5) : Prop :=
  (0 ≤ place ∧ place < n) ∧ (i.a = 2 → 0 ≤ i.b ∧ i.b < ns) ∧ (i.a = 3 → 0 ≤ i.b ∧ i.b < nb) ∧ (4 ≤ i.a ∧ i.a ≤ 11 → 0 ≤ i.c ∧ i.c < n) ∧ ((i.a = 4 ∧ Cn.isOne i.b = false) ∨ i.a = 6 ∨ i.a = 9 → 0 ≤ i.d ∧ i.d < n)
/-- Every place has a register. -/
def AtOk (ats : List Int) (m : Nat) : Prop := ∀ q : Nat, q < ats.length → 0 ≤ ats.getD q 0 ∧ ats.getD q 0 < m
def Keeps (e e' : En) : Prop := e'.regs.length = e.regs.length ∧ e'.s.stack = e.s.stack ∧ e'.s.back = e.s.back ∧ e'.s.inp = e.s.inp ∧ e'.s.mem.length = e.s.mem.length
theorem Keeps.refl (e : En) : Keeps e e := ⟨rfl, rfl, rfl, rfl, rfl⟩
end Go.Proofs.Ytblmoilneiffgaa

/- Which traces may be, in plain words. No program in sight. -/
set_option maxRecDepth 100000
namespace Go.Proofs.Ytblmoilneiffgaa
open Go.RowKit

def givesV (op : Int) : Bool := decide (op = 1 ∨ op = 2 ∨ op = 3 ∨ op = 4 ∨ op = 5 ∨ op = 12)
/-- The places that an instruction names. -/
def usesV (i : In5) : List Int :=
  if i.a = 4 then (if Cn.risTwo i.b = true then [i.c, i.d] else [i.c]) else
  if i.a = 5 ∨ i.a = 7 ∨ i.a = 8 ∨ i.a = 10 ∨ i.a = 11 then [i.c] else
  if i.a = 6 ∨ i.a = 9 then [i.c, i.d] else []
/-- The exits that an instruction names. -/
def outsV (i : In5) : List Int :=
  if i.a = 4 then (if i.b = 14 ∨ i.b = 15 then [i.e] else []) else
  if i.a = 5 ∨ i.a = 7 ∨ i.a = 8 ∨ i.a = 9 ∨ i.a = 10 ∨ i.a = 11 then [i.e] else
  if i.a = 6 then [i.e, i.b] else []
def in0 : In5 := ⟨0, 0, 0, 0, 0⟩
def insAt (t : TrG) (p : Int) : In5 := t.ins.getD p.toNat in0
/-- Places ahead of one, that give. -/
def NamedV (t : TrG) (l : List Int) (than : Nat) : Prop := ∀ p ∈ l, 0 ≤ p ∧ p < than ∧ givesV (insAt t p).a = true
/-- An exit that may be named at a place. -/
def OutV (t : TrG) (x : Int) (k : Nat) : Prop := 0 ≤ x ∧ x < t.outs.length ∧ NamedV t (outAt t x).stack k ∧ NamedV t (outAt t x).back k
def EachV (t : TrG) (k : Nat) (i : In5) : Prop :=
  (1 ≤ i.a ∧ i.a ≤ 12) ∧ (i.a = 4 → Cn.risTwo i.b = true ∨ Cn.risOne i.b = true) ∧ (i.a = 2 → 0 ≤ i.b ∧ i.b ≤ t.slots - 1) ∧ (i.a = 3 → 0 ≤ i.b ∧ i.b ≤ t.backs - 1) ∧ NamedV t (usesV i) k ∧ ∀ x ∈ outsV i, OutV t x k
def ExitV (t : TrG) (o : OuV) : Prop := (0 ≤ o.steps ∧ o.steps ≤ 120) ∧ (0 ≤ o.ip ∧ o.ip ≤ 2999) ∧ (o.stack.length : Int) ≤ t.slots + t.grow ∧ (o.back.length : Int) ≤ t.backs + t.growBack
def HeadV (t : TrG) : Prop := t.ins.length ≤ 1000 ∧ t.outs.length ≤ 300 ∧ (0 ≤ t.start ∧ t.start ≤ 2999) ∧ (0 ≤ t.slots ∧ t.slots ≤ 48) ∧ (0 ≤ t.grow ∧ t.grow ≤ 48) ∧ (0 ≤ t.backs ∧ t.backs ≤ 48) ∧ (0 ≤ t.growBack ∧ t.growBack ≤ 48)
def CellsV (l : List Int) : Prop := ∀ (k : Nat) (c : Int), l[k]? = some c → (0 ≤ c ∧ c ≤ 2999) ∧ ∀ (j : Nat) (d : Int), k = j + 1 → l[j]? = some d → d < c
structure RightV (t : TrG) : Prop where
  head : HeadV t
  each : ∀ (k : Nat) (i : In5), t.ins[k]? = some i → EachV t k i
  exits : ∀ (k : Nat) (o : OuV), t.outs[k]? = some o → ExitV t o
  cells : CellsV t.cells
  last : OutV t t.last t.ins.length
  lastS : 1 ≤ (outAt t t.last).steps
theorem isTwo_of {op b : Int} (h : Cn.isTwo op b = true) : Cn.risTwo op = true := by
  by_cases hr : Cn.risTwo op = true
  · exact hr
  · have h1 : (!Cn.risTwo op) = true := by simpa using hr
    rw [← Cn.rtwo_none2 b h1] at h; cases h
theorem isOne_eq (op : Int) : Cn.isOne op = Cn.risOne op := by
  unfold Cn.isOne Cn.risOne
  rw [Bool.eq_iff_iff]; simp
theorem isTwo_eq {op b : Int} (h : Cn.risTwo op = true) : Cn.isTwo op b = !(decide ((op = 14 ∨ op = 15) ∧ b = 0)) := by
  unfold Cn.risTwo at h
  have h := of_decide_eq_true h
  have h' : op = 11 ∨ op = 12 ∨ op = 13 ∨ op = 14 ∨ op = 15 ∨ op = 17 ∨ op = 18 ∨ op = 19 ∨ op = 21 ∨ op = 22 ∨ op = 23 ∨ op = 24 ∨ op = 25 ∨ op = 28 ∨ op = 29 := by omega
  rcases h' with rfl | rfl | rfl | rfl | rfl | rfl | rfl | rfl | rfl | rfl | rfl | rfl | rfl | rfl | rfl <;> simp [Cn.isTwo] <;> rfl
/-- A trace that may be can be run: every place names what is there. -/
theorem RightV.ins {t : TrG} (h : RightV t) {ats : List Int} (hl : ats.length = t.ins.length) {ns nb : Nat} (hs : t.slots ≤ ns) (hb : t.backs ≤ nb) {k : Nat} {i : In5} (hi : t.ins[k]? = some i) : InsOk ats.length ns nb k i := by
  have hk : k < t.ins.length := (List.getElem?_eq_some_iff.1 hi).1
  obtain ⟨h1, h2, h3, h4, h5, h6⟩ := h.each k i hi
  have use : ∀ p ∈ usesV i, 0 ≤ p ∧ p < ats.length := fun p hp => by
    obtain ⟨a, b, _⟩ := h5 p hp; omega
  refine ⟨by omega, fun e => ?_, fun e => ?_, fun e => ?_, fun e => ?_⟩
  · have := h3 e; omega
  · have := h4 e; omega
  · apply use
    unfold usesV
    split
    · split <;> simp
    · split
      · simp
      · rw [if_pos (by omega)]; simp
  · apply use
    unfold usesV
    rcases e with ⟨e, e2⟩ | e | e
    · rw [if_pos e]
      rcases h2 e with h | h
      · rw [if_pos h]; simp
      · rw [isOne_eq, h] at e2; cases e2
    · rw [if_neg (by omega), if_neg (by omega), if_pos (by omega)]; simp
    · rw [if_neg (by omega), if_neg (by omega), if_pos (by omega)]; simp
end Go.Proofs.Ytblmoilneiffgaa

/- An instruction by what it names: its outcome, out of the values alone. No program in sight. -/
set_option maxRecDepth 100000
namespace Go.Proofs.Ytblmoilneiffgaa
open Go.RowKit

inductive Oc where
  | go (s : StV) (v : Option Int)
  | ex
  | hit (s : StV) (a : Int)
/-- What an instruction does, by its operation, its A and the values of B and C. -/
def ocV (op a b c : Int) (s : StV) (wl : List Int) : Oc :=
  if op = 1 then .go s (some a) else
  if op = 2 then .go s (some (getI s.stack ((s.stack.length : Int) - 1 - a))) else
  if op = 3 then .go s (some (getI s.back ((s.back.length : Int) - 1 - a))) else
  if op = 4 then (if Cn.isOne a = true then .go s (some (Cn.one a b)) else if Cn.isTwo a c = true then .go s (some (Cn.two a b c)) else .ex) else
  if op = 5 then (if b < 0 ∨ (s.mem.length : Int) ≤ b then .ex else .go s (some (getI s.mem b))) else
  if op = 6 then (if b < 0 ∨ (s.mem.length : Int) ≤ b then .ex else if b ∈ wl then .hit { s with mem := s.mem.set b.toNat c } b else .go { s with mem := s.mem.set b.toNat c } none) else
  if op = 7 then (if b ≠ 0 then .go s none else .ex) else
  if op = 8 then (if b = 0 then .go s none else .ex) else
  if op = 9 then (if b = c then .go s none else .ex) else
  if op = 10 ∨ op = 11 then (if 2000 < (s.out.size : Int) + (sayV op b).size then .ex else .go { s with out := s.out ++ sayV op b } none) else
  if (s.inp.size : Int) ≤ s.read then .go s (some (-1)) else .go { s with read := s.read + 1 } (some (sb s.inp s.read))
/-- B is looked at only where it is named, C likewise. -/
theorem ocV_uses {i : In5} {b b' c c' : Int} {s : StV} {wl : List Int} (h0 : i.a = 4 → Cn.risTwo i.b = true ∨ Cn.risOne i.b = true) (hb : i.c ∈ usesV i → b = b') (hc : (usesV i).length = 2 → c = c') : ocV i.a i.b b c s wl = ocV i.a i.b b' c' s wl := by
  have u1 : (4 ≤ i.a ∧ i.a ≤ 11) → b = b' := fun h => by
    apply hb; unfold usesV
    split
    · split <;> simp
    · split
      · simp
      · rw [if_pos (by omega)]; simp
  have u2 : i.a = 6 ∨ i.a = 9 → c = c' := fun h => by
    apply hc; unfold usesV
    rw [if_neg (by omega), if_neg (by omega), if_pos h]; rfl
  unfold ocV
  by_cases e1 : i.a = 1
  · rw [if_pos e1, if_pos e1]
  rw [if_neg e1, if_neg e1]
  by_cases e2 : i.a = 2
  · rw [if_pos e2, if_pos e2]
  rw [if_neg e2, if_neg e2]
  by_cases e3 : i.a = 3
  · rw [if_pos e3, if_pos e3]
  rw [if_neg e3, if_neg e3]
  by_cases e4 : i.a = 4
  · rw [if_pos e4, if_pos e4, u1 (by omega)]
    by_cases c1 : Cn.isOne i.b = true
    · rw [if_pos c1, if_pos c1]
    · have h2 : Cn.risTwo i.b = true := (h0 e4).resolve_right (fun hh => c1 (by rw [isOne_eq]; exact hh))
      rw [hc (by unfold usesV; rw [if_pos e4, if_pos h2]; rfl)]
  rw [if_neg e4, if_neg e4]
  by_cases e5 : i.a = 5
  · rw [if_pos e5, if_pos e5, u1 (by omega)]
  rw [if_neg e5, if_neg e5]
  by_cases e6 : i.a = 6
  · rw [if_pos e6, if_pos e6, u1 (by omega), u2 (by omega)]
  rw [if_neg e6, if_neg e6]
  by_cases e7 : i.a = 7
  · rw [if_pos e7, if_pos e7, u1 (by omega)]
  rw [if_neg e7, if_neg e7]
  by_cases e8 : i.a = 8
  · rw [if_pos e8, if_pos e8, u1 (by omega)]
  rw [if_neg e8, if_neg e8]
  by_cases e9 : i.a = 9
  · rw [if_pos e9, if_pos e9, u1 (by omega), u2 (by omega)]
  rw [if_neg e9, if_neg e9]
  by_cases e10 : i.a = 10 ∨ i.a = 11
  · rw [if_pos e10, if_pos e10, u1 (by omega)]
  rw [if_neg e10, if_neg e10]
/-! ### Places that are registers -/
def idA (n : Nat) : List Int := (List.range n).map fun (k : Nat) => (k : Int)
theorem idA_len (n : Nat) : (idA n).length = n := by unfold idA; simp
theorem idA_at {n : Nat} {p : Int} (h0 : 0 ≤ p) (h1 : p < n) : getI (idA n) p = p := by
  unfold getI idA
  rw [List.getD_eq_getElem?_getD, List.getElem?_map, List.getElem?_range (by omega)]
  simp; omega
theorem val_id {n : Nat} {p : Int} {e : En} (h0 : 0 ≤ p) (h1 : p < n) : valV (idA n) p e = getI e.regs p := by unfold valV; rw [idA_at h0 h1]
theorem val_same {n : Nat} {p v : Int} {e : En} (h0 : 0 ≤ p) (h1 : p < n) (hr : e.regs.length = n) : valV (idA n) p (setV (idA n) p v e) = v := by
  rw [val_id h0 h1]; unfold setV; rw [idA_at h0 h1]; unfold getI
  rw [List.getD_eq_getElem?_getD, List.getElem?_set_self (by omega)]; rfl
theorem val_ne {n : Nat} {p q v : Int} {e : En} (h0 : 0 ≤ p) (h1 : p < n) (k0 : 0 ≤ q) (k1 : q < n) (hn : q ≠ p) : valV (idA n) q (setV (idA n) p v e) = valV (idA n) q e := by
  rw [val_id k0 k1, val_id k0 k1]; unfold setV; rw [idA_at h0 h1]; unfold getI
  rw [List.getD_eq_getElem?_getD, List.getElem?_set_ne (by omega), List.getD_eq_getElem?_getD]
/-- A machine that goes in, in n registers. -/
def en0 (n : Nat) (s : StV) : En := ⟨s, List.replicate n 0, -1⟩
/-- What a trace does, in registers: the exit, and what there is then. -/
def runA (v : TrG) (ats : List Int) (n : Nat) (s : StV) (wl : List Int) : Int × En := goV ats wl v.last v.ins 0 (en0 n s)
/-- What a trace does, in as many registers as it has places: the exit, and what there is then. -/
def runG (t : TrG) (s : StV) (wl : List Int) : Int × En := runA t (idA t.ins.length) t.ins.length s wl
def endV (t : TrG) (g : Int × En) : StV := leaveV t (idA t.ins.length) g.1 g.2
end Go.Proofs.Ytblmoilneiffgaa

/- The plain laws of the package cell: what the statements ask of the numbers. No program is in sight here. -/
namespace Go.Proofs.Ytblmoilneiffgaa
open Go.RowKit
namespace Cn
/-- A number of 64 bits. -/
def In (a : Int) : Prop := -9223372036854775808 ≤ a ∧ a ≤ 9223372036854775807

end Cn
end Go.Proofs.Ytblmoilneiffgaa

/- Reckoning ahead, in plain words; what it keeps. No program in sight. -/
set_option maxRecDepth 100000
namespace Go.Proofs.Ytblmoilneiffgaa
open Go.RowKit

/-- A place's place. -/
def ofV (m : List Int) (p : Int) : Int := if p < 0 ∨ (m.length : Int) ≤ p then p else getI m p
def insM (m : List Int) (i : In5) : In5 :=
  if (usesV i).length = 2 then { i with c := ofV m i.c, d := ofV m i.d } else
  if (usesV i).length = 1 then { i with c := ofV m i.c } else i
def outM (m : List Int) (o : OuV) : OuV := { o with stack := o.stack.map (ofV m), back := o.back.map (ofV m) }
def atL (l : List In5) (p : Int) : In5 := l.getD p.toNat in0
def ConV (l : List In5) (p : Int) : Prop := 0 ≤ p ∧ p < l.length ∧ (atL l p).a = 1
instance (l : List In5) (p : Int) : Decidable (ConV l p) := by unfold ConV; infer_instance
def AllCon (l : List In5) (ps : List Int) : Prop := ∀ p ∈ ps, ConV l p
instance (l : List In5) (ps : List Int) : Decidable (AllCon l ps) := by unfold AllCon; infer_instance
theorem ofV_app {m : List Int} (r : List Int) {p : Int} (h0 : 0 ≤ p) (h1 : p < m.length) : ofV (m ++ r) p = ofV m p := by
  unfold ofV
  rw [if_neg (by rw [List.length_append]; omega), if_neg (by omega)]
  unfold getI
  rw [List.getD_eq_getElem?_getD, List.getD_eq_getElem?_getD, List.getElem?_append_left (by omega)]
theorem ofV_in {m : List Int} {p : Int} (h0 : 0 ≤ p) (h1 : p < m.length) : ofV m p = getI m p := by unfold ofV; rw [if_neg (by omega)]
theorem ofV_end {m : List Int} {x p : Int} (h : p = m.length) : ofV (m ++ [x]) p = x := by
  subst h
  rw [ofV_in (by omega) (by rw [List.length_append]; simp; omega)]
  unfold getI; rw [List.getD_eq_getElem?_getD, Int.toNat_natCast, List.getElem?_append_right (Nat.le_refl _)]; simp
theorem atL_app {l : List In5} (r : List In5) {p : Int} (h0 : 0 ≤ p) (h1 : p < l.length) : atL (l ++ r) p = atL l p := by
  unfold atL
  rw [List.getD_eq_getElem?_getD, List.getD_eq_getElem?_getD, List.getElem?_append_left (by omega)]
theorem atL_end {l : List In5} {i : In5} {p : Int} (h : p = l.length) : atL (l ++ [i]) p = i := by
  subst h
  unfold atL; rw [List.getD_eq_getElem?_getD, Int.toNat_natCast, List.getElem?_append_right (Nat.le_refl _)]; simp
theorem insM_op (m : List Int) (i : In5) : (insM m i).a = i.a ∧ (insM m i).b = i.b ∧ (insM m i).e = i.e := by
  unfold insM; split
  · exact ⟨rfl, rfl, rfl⟩
  · split <;> exact ⟨rfl, rfl, rfl⟩
theorem usesV_cases (i : In5) : ((usesV i).length = 0 ∧ usesV i = []) ∨ ((usesV i).length = 1 ∧ usesV i = [i.c]) ∨ ((usesV i).length = 2 ∧ usesV i = [i.c, i.d]) := by
  unfold usesV
  repeat' split
  all_goals first | exact Or.inl ⟨rfl, rfl⟩ | exact Or.inr (Or.inl ⟨rfl, rfl⟩) | exact Or.inr (Or.inr ⟨rfl, rfl⟩)
theorem usesV_kind (i : In5) (c d : Int) : (usesV { i with c := c, d := d }).length = (usesV i).length := by
  unfold usesV
  dsimp only
  repeat' split
  all_goals first | rfl | (exfalso; omega) | (rename_i h1 h2; exact absurd h1 h2)
theorem usesV_kind' (i : In5) (c : Int) : (usesV { i with c := c }).length = (usesV i).length := usesV_kind i c i.d
theorem insM_kind (m : List Int) (i : In5) : (usesV (insM m i)).length = (usesV i).length := by
  unfold insM; split
  · exact usesV_kind _ _ _
  · split
    · exact usesV_kind' _ _
    · rfl
theorem insM_uses (m : List Int) (i : In5) : usesV (insM m i) = (usesV i).map (ofV m) := by
  have hk := insM_kind m i
  rcases usesV_cases i with ⟨h1, h2⟩ | ⟨h1, h2⟩ | ⟨h1, h2⟩
  · rw [h2]
    rw [h1] at hk
    exact List.length_eq_zero_iff.1 hk
  · rw [h1] at hk
    rcases usesV_cases (insM m i) with ⟨g1, g2⟩ | ⟨g1, g2⟩ | ⟨g1, g2⟩
    · omega
    · rw [g2, h2]
      have : (insM m i).c = ofV m i.c := by unfold insM; rw [if_neg (by omega), if_pos h1]
      rw [this]; rfl
    · omega
  · rw [h1] at hk
    rcases usesV_cases (insM m i) with ⟨g1, g2⟩ | ⟨g1, g2⟩ | ⟨g1, g2⟩
    · omega
    · omega
    · rw [g2, h2]
      have a1 : (insM m i).c = ofV m i.c := by unfold insM; rw [if_pos h1]
      have a2 : (insM m i).d = ofV m i.d := by unfold insM; rw [if_pos h1]
      rw [a1, a2]; rfl
theorem outsV_op {i j : In5} (h1 : i.a = j.a) (h2 : i.b = j.b) (h3 : i.e = j.e) : outsV i = outsV j := by unfold outsV; rw [h1, h2, h3]
/-- Places ahead of one, that give, by a list of instructions. -/
def NamL (l : List In5) (ps : List Int) (than : Nat) : Prop := ∀ p ∈ ps, 0 ≤ p ∧ p < than ∧ givesV (atL l p).a = true
theorem named_iff {t : TrG} {ps : List Int} {k : Nat} : NamedV t ps k ↔ NamL t.ins ps k := Iff.rfl
theorem NamL.app {l : List In5} {ps : List Int} {k : Nat} (h : NamL l ps k) (hk : k ≤ l.length) (r : List In5) : NamL (l ++ r) ps k := fun p hp => by
  obtain ⟨a, b, c⟩ := h p hp
  exact ⟨a, b, by rw [atL_app r a (by omega)]; exact c⟩
/-- What is known of the map, behind the first k instructions of ti. -/
structure MapOk (ti : List In5) (k : Nat) (l : List In5) (m : List Int) : Prop where
  len : m.length = k
  le : l.length ≤ k
  pl : ∀ p : Int, 0 ≤ p → p < k → givesV (atL ti p).a = true → (0 ≤ ofV m p ∧ ofV m p < l.length) ∧ givesV (atL l (ofV m p)).a = true
theorem MapOk.named {ti l : List In5} {k : Nat} {m : List Int} (h : MapOk ti k l m) {ps : List Int} (hp : NamL ti ps k) : NamL l (ps.map (ofV m)) l.length := fun q hq => by
  obtain ⟨p, hp', rfl⟩ := List.mem_map.1 hq
  obtain ⟨a, b, c⟩ := hp p hp'
  obtain ⟨d, e⟩ := h.pl p a b c
  exact ⟨d.1, d.2, e⟩
theorem MapOk.snoc {ti l : List In5} {k : Nat} {m : List Int} (h : MapOk ti k l m) {i i' : In5} (hi : ti[k]? = some i) (hg : givesV i.a = true → givesV i'.a = true) : MapOk ti (k + 1) (l ++ [i']) (m ++ [(l.length : Int)]) := by
  refine ⟨by rw [List.length_append, h.len]; rfl, by rw [List.length_append]; have := h.le; simp; omega, fun p h0 h1 hp => ?_⟩
  by_cases hk : p = k
  · rw [ofV_end (by rw [h.len]; exact hk), atL_end rfl]
    refine ⟨by rw [List.length_append]; simp; omega, hg ?_⟩
    subst hk
    have : atL ti (k : Int) = i := by unfold atL; rw [List.getD_eq_getElem?_getD, Int.toNat_natCast, hi]; rfl
    rw [← this]; exact hp
  · obtain ⟨a, b⟩ := h.pl p h0 (by omega) hp
    rw [ofV_app _ h0 (by rw [h.len]; omega)]
    exact ⟨⟨a.1, by rw [List.length_append]; omega⟩, by rw [atL_app _ a.1 a.2]; exact b⟩
theorem MapOk.skip {ti l : List In5} {k : Nat} {m : List Int} (h : MapOk ti k l m) {i : In5} (hi : ti[k]? = some i) (hg : givesV i.a = false) (x : Int) : MapOk ti (k + 1) l (m ++ [x]) := by
  refine ⟨by rw [List.length_append, h.len]; rfl, by have := h.le; omega, fun p h0 h1 hp => ?_⟩
  by_cases hk : p = k
  · subst hk
    have : atL ti (k : Int) = i := by unfold atL; rw [List.getD_eq_getElem?_getD, Int.toNat_natCast, hi]; rfl
    rw [this, hg] at hp; cases hp
  · rw [ofV_app _ h0 (by rw [h.len]; omega)]
    exact h.pl p h0 (by omega) hp
theorem MapOk.nil (ti : List In5) : MapOk ti 0 [] [] := ⟨rfl, Nat.le_refl _, fun p h0 h1 => by omega⟩
theorem map_of_app {m : List Int} (r : List Int) {l : List In5} {ps : List Int} {k : Nat} (hk : m.length = k) (h : NamL l ps k) : ps.map (ofV (m ++ r)) = ps.map (ofV m) := by
  apply List.map_congr_left
  intro p hp
  obtain ⟨a, b, _⟩ := h p hp
  exact ofV_app r a (by omega)
end Go.Proofs.Ytblmoilneiffgaa

/- Reckoning ahead: the trace that is reckoned ahead does what the trace does. No program in sight. -/
set_option maxRecDepth 100000
namespace Go.Proofs.Ytblmoilneiffgaa
open Go.RowKit

/-- The values of places that give are those of their places in the other trace. -/
def SimV (ti : List In5) (k : Nat) (m : List Int) (n n' : Nat) (e e' : En) : Prop := ∀ p : Int, 0 ≤ p → p < k → givesV (atL ti p).a = true → valV (idA n') (ofV m p) e' = valV (idA n) p e
theorem atL_get {l : List In5} {k : Nat} {i : In5} (h : l[k]? = some i) : atL l (k : Int) = i := by
  unfold atL; rw [List.getD_eq_getElem?_getD, Int.toNat_natCast, h]; rfl
theorem SimV.vals {ti : List In5} {k : Nat} {m : List Int} {n n' : Nat} {e e' : En} (h : SimV ti k m n n' e e') {ps : List Int} (hp : NamL ti ps k) : valsV (idA n') (ps.map (ofV m)) e' = valsV (idA n) ps e := by
  unfold valsV
  rw [List.map_map]
  apply List.map_congr_left
  intro p hp'
  obtain ⟨a, b, c⟩ := hp p hp'
  exact h p a b c
/-- What an instruction names, and its values. -/
theorem SimV.uses {t : TrG} {k : Nat} {m : List Int} {n n' : Nat} {e e' : En} (h : SimV t.ins k m n n' e e') {wl : List Int} {s : StV} {i : In5} (hi : EachV t k i) : ocV i.a i.b (valV (idA n) i.c e) (valV (idA n) i.d e) s wl = ocV i.a i.b (valV (idA n') (insM m i).c e') (valV (idA n') (insM m i).d e') s wl := by
  obtain ⟨h1, h2, h3, h4, h5, h6⟩ := hi
  apply ocV_uses h2
  · intro hc
    obtain ⟨a, b, c⟩ := h5 _ hc
    have := h _ a b c
    rw [← this]
    rcases usesV_cases i with ⟨g1, g2⟩ | ⟨g1, g2⟩ | ⟨g1, g2⟩
    · rw [g2] at hc; cases hc
    · unfold insM; rw [if_neg (by omega), if_pos g1]
    · unfold insM; rw [if_pos g1]
  · intro hc
    rcases usesV_cases i with ⟨g1, g2⟩ | ⟨g1, g2⟩ | ⟨g1, g2⟩
    · omega
    · omega
    · obtain ⟨a, b, c⟩ := h5 i.d (by rw [g2]; simp)
      have := h _ a b c
      rw [← this]
      unfold insM; rw [if_pos g1]
/-- Behind a step, in which the trace's instruction has no value. -/
theorem SimV.none {ti : List In5} {k : Nat} {m : List Int} {n n' : Nat} {e e' : En} (h : SimV ti k m n n' e e') (hl : m.length = k) {i : In5} (hi : ti[k]? = some i) (hg : givesV i.a = false) (x : Int) (s s' : StV) : SimV ti (k + 1) (m ++ [x]) n n' { e with s := s } { e' with s := s' } := by
  intro p h0 h1 hp
  by_cases hk : p = k
  · subst hk
    rw [atL_get hi, hg] at hp; cases hp
  · rw [ofV_app _ h0 (by omega)]
    exact h p h0 (by omega) hp
/-- Behind a step, in which the trace's instruction has a value, which the other trace has at its end. -/
theorem SimV.some {ti : List In5} {k : Nat} {m : List Int} {n n' l : Nat} {e e' : En} (h : SimV ti k m n n' e e') (hl : m.length = k) (hk : k < n) (hl' : l < n') (hr : e.regs.length = n) (hr' : e'.regs.length = n')
    (hm : ∀ p : Int, 0 ≤ p → p < k → givesV (atL ti p).a = true → 0 ≤ ofV m p ∧ ofV m p < l) (v : Int) (s s' : StV) :
    SimV ti (k + 1) (m ++ [(l : Int)]) n n' (setV (idA n) k v { e with s := s }) (setV (idA n') l v { e' with s := s' }) := by
  intro p h0 h1 hp
  by_cases hpk : p = k
  · subst hpk
    rw [ofV_end (by rw [hl]), val_same (e := { e' with s := s' }) (by omega) (by omega) hr', val_same (e := { e with s := s }) (by omega) (by omega) hr]
  · obtain ⟨a, b⟩ := hm p h0 (by omega) hp
    rw [ofV_app _ h0 (by omega), val_ne (by omega) (by omega) a (by omega) (by omega), val_ne (by omega) (by omega) h0 (by omega) hpk]
    exact h p h0 (by omega) hp
/-- The instruction has its value in the other trace at a place that is there. -/
theorem SimV.have {ti : List In5} {k : Nat} {m : List Int} {n n' : Nat} {e e' : En} (h : SimV ti k m n n' e e') (hl : m.length = k) (hk : k < n) (hr : e.regs.length = n) {q : Int} (v : Int) (s s' : StV) (hq : valV (idA n') q e' = v) :
    SimV ti (k + 1) (m ++ [q]) n n' (setV (idA n) k v { e with s := s }) { e' with s := s' } := by
  intro p h0 h1 hp
  by_cases hpk : p = k
  · subst hpk
    rw [ofV_end (by rw [hl]), val_same (e := { e with s := s }) (by omega) (by omega) hr]
    exact hq
  · rw [ofV_app _ h0 (by omega), val_ne (by omega) (by omega) h0 (by omega) hpk]
    exact h p h0 (by omega) hp
section
variable {ats wl : List Int} {last : Int} {i : In5} {r : List In5} {q : Int} {e : En} {s : StV}
end
/-- An exit, in the other trace: the same machine. -/
theorem SimV.leave {t a : TrG} {k : Nat} {m m' : List Int} {n n' : Nat} {e e' : En} (h : SimV t.ins k m n n' e e') (hl : m.length = k) {x x' : Int} (hx : OutV t x k) (ho : outAt a x' = outM (m ++ m') (outAt t x)) (h1 : a.slots = t.slots) (h2 : a.backs = t.backs) (hs : e'.s = e.s) :
    leaveV a (idA n') x' e' = leaveV t (idA n) x e := by
  obtain ⟨x0, x1, x2, x3⟩ := hx
  unfold leaveV
  rw [ho, h1, h2, hs]
  unfold outM
  dsimp only
  rw [map_of_app m' hl (named_iff.1 x2), map_of_app m' hl (named_iff.1 x3), h.vals (named_iff.1 x2), h.vals (named_iff.1 x3)]
end Go.Proofs.Ytblmoilneiffgaa

/- Numbers of 64 bits, bit by bit: the plain laws that the statements of chapter 1 ask. No program is in sight here. -/
namespace Go.Proofs.Ytblmoilneiffgaa
open Go.RowKit
namespace Cn

def B (a : Int) : BitVec 64 := BitVec.ofInt 64 a
theorem part (x y : BitVec 64) : x = (x &&& ~~~y) + (x &&& y) := by
  rw [BitVec.add_eq_or_of_and_eq_zero _ _ (by ext i; simp; grind)]
  ext i; simp; grind
end Cn
end Go.Proofs.Ytblmoilneiffgaa

/- All numbers of a run fit 64 bits. No program in sight. -/
set_option maxRecDepth 100000
namespace Go.Proofs.Ytblmoilneiffgaa
open Go.RowKit

theorem in0' : Cn.In 0 := by unfold Cn.In; omega
/-- All of them fit. -/
def InL (l : List Int) : Prop := ∀ x ∈ l, Cn.In x
theorem InL.get {l : List Int} (h : InL l) (i : Int) : Cn.In (getI l i) := by
  unfold getI
  rw [List.getD_eq_getElem?_getD]
  cases hx : l[i.toNat]? with
  | none => exact in0'
  | some x => exact h x (List.mem_of_getElem? hx)
theorem InL.set {l : List Int} (h : InL l) (i : Nat) {x : Int} (hx : Cn.In x) : InL (l.set i x) := fun y hy => by
  rcases List.mem_or_eq_of_mem_set hy with h' | h'
  · exact h y h'
  · rw [h']; exact hx
structure EnIn (e : En) : Prop where
  regs : InL e.regs
  mem : InL e.s.mem
  st : InL e.s.stack
  bk : InL e.s.back
theorem EnIn.set {e : En} (h : EnIn e) (ats : List Int) (p : Int) {v : Int} (hv : Cn.In v) : EnIn (setV ats p v e) := ⟨h.regs.set _ hv, h.mem, h.st, h.bk⟩
theorem EnIn.val {e : En} (h : EnIn e) (ats : List Int) (p : Int) : Cn.In (valV ats p e) := h.regs.get _
end Go.Proofs.Ytblmoilneiffgaa

/- What is asked of a pass over traces; of a run's exit. No program in sight. -/
set_option maxRecDepth 100000
namespace Go.Proofs.Ytblmoilneiffgaa
open Go.RowKit

/-- Its constants fit. -/
def InT (v : TrG) : Prop := ∀ i ∈ v.ins, i.a = 1 → Cn.In i.b
structure PassOk (f : TrG → TrG) : Prop where
  right : ∀ v, RightV v → RightV (f v)
  nums : ∀ v, (f v).start = v.start ∧ (f v).slots = v.slots ∧ (f v).backs = v.backs ∧ (f v).grow = v.grow ∧ (f v).growBack = v.growBack
  inT : ∀ v, RightV v → InT v → InT (f v)
  runs : ∀ v s wl, RightV v → endV (f v) (runG (f v) s wl) = endV v (runG v s wl) ∧ (runG (f v) s wl).2.hit = (runG v s wl).2.hit ∧ (outAt (f v) (runG (f v) s wl).1).steps = (outAt v (runG v s wl).1).steps
theorem PassOk.may {f : TrG → TrG} (h : PassOk f) (v : TrG) (s : StV) : mayV (f v) s = mayV v s := by
  obtain ⟨h1, h2, h3, h4, h5⟩ := h.nums v
  unfold mayV; rw [h1, h2, h3, h4, h5]
/-! ### Reckoning ahead -/
end Go.Proofs.Ytblmoilneiffgaa

/- Which traces may be, as a test that can be reckoned. No program in sight. -/
set_option maxRecDepth 100000
namespace Go.Proofs.Ytblmoilneiffgaa
open Go.RowKit

def namedB (t : TrG) (l : List Int) (k : Nat) : Bool := l.all fun p => decide (0 ≤ p) && (decide (p < (k : Int)) && givesV (insAt t p).a)
def outB (t : TrG) (x : Int) (k : Nat) : Bool := decide (0 ≤ x) && (decide (x < (t.outs.length : Int)) && (namedB t (outAt t x).stack k && namedB t (outAt t x).back k))
def eachB (t : TrG) (k : Nat) (i : In5) : Bool :=
  decide (1 ≤ i.a) && (decide (i.a ≤ 12) && ((!decide (i.a = 4) || (Cn.risTwo i.b || Cn.risOne i.b)) && ((!decide (i.a = 2) || (decide (0 ≤ i.b) && decide (i.b ≤ t.slots - 1))) && ((!decide (i.a = 3) || (decide (0 ≤ i.b) && decide (i.b ≤ t.backs - 1))) && (namedB t (usesV i) k && (outsV i).all fun x => outB t x k)))))
def exitB (t : TrG) (o : OuV) : Bool := decide (0 ≤ o.steps) && (decide (o.steps ≤ 120) && (decide (0 ≤ o.ip) && (decide (o.ip ≤ 2999) && (decide ((o.stack.length : Int) ≤ t.slots + t.grow) && decide ((o.back.length : Int) ≤ t.backs + t.growBack)))))
def headB (t : TrG) : Bool := decide (t.ins.length ≤ 1000) && (decide (t.outs.length ≤ 300) && (decide (0 ≤ t.start) && (decide (t.start ≤ 2999) && (decide (0 ≤ t.slots) && (decide (t.slots ≤ 48) && (decide (0 ≤ t.grow) && (decide (t.grow ≤ 48) && (decide (0 ≤ t.backs) && (decide (t.backs ≤ 48) && (decide (0 ≤ t.growBack) && decide (t.growBack ≤ 48)))))))))))
def eachL (t : TrG) : Nat → List In5 → Bool
  | _, [] => true
  | k, i :: r => eachB t k i && eachL t (k + 1) r
/-- Of a trace without cells of code. -/
def rightB (t : TrG) : Bool := headB t && (eachL t 0 t.ins && (t.outs.all (exitB t) && (t.cells.isEmpty && (outB t t.last t.ins.length && decide (1 ≤ (outAt t t.last).steps)))))
theorem namedB_ok {t : TrG} {l : List Int} {k : Nat} (h : namedB t l k = true) : NamedV t l k := fun p hp => by
  have := List.all_eq_true.1 h p hp
  simpa [and_assoc] using this
theorem outB_ok {t : TrG} {x : Int} {k : Nat} (h : outB t x k = true) : OutV t x k := by
  unfold outB at h
  simp only [Bool.and_eq_true, decide_eq_true_eq] at h
  exact ⟨h.1, h.2.1, namedB_ok h.2.2.1, namedB_ok h.2.2.2⟩
theorem eachB_ok {t : TrG} {k : Nat} {i : In5} (h : eachB t k i = true) : EachV t k i := by
  unfold eachB at h
  simp only [Bool.and_eq_true, Bool.or_eq_true, Bool.not_eq_true', decide_eq_true_eq, decide_eq_false_iff_not] at h
  obtain ⟨h1, h2, h3, h4, h5, h6, h7⟩ := h
  exact ⟨⟨h1, h2⟩, fun e => h3.resolve_left (fun n => n e), fun e => h4.resolve_left (fun n => n e), fun e => h5.resolve_left (fun n => n e), namedB_ok h6, fun x hx => outB_ok (List.all_eq_true.1 h7 x hx)⟩
theorem eachL_ok {t : TrG} : ∀ (l : List In5) (k : Nat), eachL t k l = true → ∀ (j : Nat) (i : In5), l[j]? = some i → EachV t (k + j) i
  | [], k, _, j, i, h => by simp at h
  | x :: r, k, h, j, i, hi => by
    unfold eachL at h
    rw [Bool.and_eq_true] at h
    cases j with
    | zero =>
      have : x = i := by simpa using hi
      subst this; exact eachB_ok h.1
    | succ j =>
      have := eachL_ok r (k + 1) h.2 j i (by simpa using hi)
      rw [show k + (j + 1) = k + 1 + j by omega]; exact this
theorem rightB_ok {t : TrG} (h : rightB t = true) : RightV t := by
  unfold rightB at h
  simp only [Bool.and_eq_true, decide_eq_true_eq] at h
  obtain ⟨h1, h2, h3, h4, h5, h6⟩ := h
  unfold headB at h1
  simp only [Bool.and_eq_true, decide_eq_true_eq] at h1
  obtain ⟨a1, a2, a3, a4, a5, a6, a7, a8, a9, a10, a11, a12⟩ := h1
  refine ⟨⟨a1, a2, ⟨a3, a4⟩, ⟨a5, a6⟩, ⟨a7, a8⟩, ⟨a9, a10⟩, a11, a12⟩, fun k i hi => ?_, fun k o ho => ?_, fun k c hc => ?_, outB_ok h5, h6⟩
  · have := eachL_ok t.ins 0 h2 k i hi
    rw [Nat.zero_add] at this; exact this
  · have := List.all_eq_true.1 h3 o (List.mem_of_getElem? ho)
    unfold exitB at this
    simp only [Bool.and_eq_true, decide_eq_true_eq] at this
    obtain ⟨b1, b2, b3, b4, b5, b6⟩ := this
    exact ⟨⟨b1, b2⟩, ⟨b3, b4⟩, b5, b6⟩
  · rw [List.isEmpty_iff.1 h4] at hc; simp at hc
end Go.Proofs.Ytblmoilneiffgaa
