/- Plain numbers, plain traces: what a trace does, which may be. No program in sight. -/
import Derived.WalkKit
import Derived.Test.YtblmoilneiffgaaGreatJ1

/- The plain numbers of the package cell: what each function computes, in plain Lean, and the laws that the statements ask of them. No program is in sight here. -/
namespace Go.Proofs.YtblmoilneiffgaaGreat
open Go.RowKit

namespace Cn
def flag (b : Bool) : Int := if b then -1 else 0
def odd (a b : Int) : Prop := a.tmod b ≠ 0 ∧ ¬ (a.tmod b < 0 ↔ b < 0)
instance (a b : Int) : Decidable (odd a b) := by unfold odd; infer_instance
def quo (a b : Int) : Int := if b = 0 then 0 else if b = -1 then wrap64 (-a) else if odd a b then wrap64 (wrap64 (a.tdiv b) - 1) else wrap64 (a.tdiv b)
def rem (a b : Int) : Int := if b = 0 then 0 else if b = -1 then 0 else if odd a b then wrap64 (a.tmod b + b) else a.tmod b
def shift (op a n : Int) : Int := if n < 0 ∨ 64 ≤ n then 0 else if op = 21 then wrap64 (a * 2 ^ n.toNat) else wrap64 (IntKind.u64.wrap a / 2 ^ n.toNat)
def cmp (op a b : Int) : Int := if op = 23 then flag (a == b) else if op = 24 then flag (decide (a < b)) else flag (decide (IntKind.u64.wrap a < IntKind.u64.wrap b))
def two (op a b : Int) : Int :=
  if op = 11 then wrap64 (a + b) else if op = 12 then wrap64 (a - b) else if op = 13 then wrap64 (a * b) else if op = 14 then quo a b else if op = 15 then rem a b
  else if op = 17 then bits .and .i64 a b else if op = 18 then bits .or .i64 a b else if op = 19 then bits .xor .i64 a b
  else if op = 21 then shift op a b else if op = 22 then shift op a b else if op = 23 then cmp op a b else if op = 24 then cmp op a b else if op = 25 then cmp op a b
  else if op = 28 then min a b else if op = 29 then max a b else 0
def isTwo (op b : Int) : Bool :=
  if op = 11 then true else if op = 12 then true else if op = 13 then true else if op = 14 then b != 0 else if op = 15 then b != 0
  else if op = 17 then true else if op = 18 then true else if op = 19 then true else if op = 21 then true else if op = 22 then true
  else if op = 23 then true else if op = 24 then true else if op = 25 then true else if op = 28 then true else if op = 29 then true else false
def one (op a : Int) : Int := if op = 16 then wrap64 (-a) else if op = 20 then bits .xor .i64 (-1) a else if op = 26 then flag (a == 0) else if op = 27 then flag (decide (a < 0)) else 0
def isOne (op : Int) : Bool := if op = 16 then true else if op = 20 then true else if op = 26 then true else if op = 27 then true else false
def rone (op a : Int) : Int := if op = 16 then wrap64 (-a) else if op = 20 then wrap64 (-1 - a) else if op = 26 then flag (a == 0) else if op = 27 then flag (decide (a < 0)) else 0
def risTwo (op : Int) : Bool := decide ((11 ≤ op ∧ op ≤ 15) ∨ (17 ≤ op ∧ op ≤ 19) ∨ (21 ≤ op ∧ op ≤ 25) ∨ op = 28 ∨ op = 29)
def risOne (op : Int) : Bool := decide (op = 16 ∨ op = 20 ∨ op = 26 ∨ op = 27)
def rr (a b : Int) : Int := wrap64 (a - wrap64 (wrap64 (a.tdiv b) * b))
def rodd (a b : Int) : Prop := rr a b ≠ 0 ∧ ¬ (rr a b < 0 ↔ b < 0)
instance (a b : Int) : Decidable (rodd a b) := by unfold rodd; infer_instance
def rquo (a b : Int) : Int := if rodd a b then wrap64 (wrap64 (a.tdiv b) - 1) else wrap64 (a.tdiv b)
def rrem (a b : Int) : Int := if rodd a b then wrap64 (rr a b + b) else rr a b
def rshift (op a n : Int) : Int := if n < 0 ∨ 63 < n then 0 else if op = 21 then wrap64 (IntKind.u64.wrap (a * 2 ^ n.toNat)) else wrap64 (IntKind.u64.wrap a / 2 ^ n.toNat)
def rtwo (op a b : Int) : Int :=
  if op = 11 then wrap64 (a + b) else if op = 12 then wrap64 (a - b) else if op = 13 then wrap64 (a * b) else if op = 14 then if b = 0 then 0 else rquo a b else if op = 15 then if b = 0 then 0 else rrem a b
  else if op = 17 then bits .and .i64 a b else if op = 18 then bits .or .i64 a b else if op = 19 then bits .xor .i64 a b
  else if op = 21 then rshift op a b else if op = 22 then rshift op a b else if op = 23 then cmp op a b else if op = 24 then cmp op a b else if op = 25 then cmp op a b
  else if op = 28 then min a b else if op = 29 then max a b else 0
theorem risTwo_no {op : Int} (h : (!risTwo op) = true) : op < 11 ∨ op = 16 ∨ op = 20 ∨ op = 26 ∨ op = 27 ∨ 29 < op := by
  simp only [risTwo, Bool.not_eq_true', decide_eq_false_iff_not] at h; omega
theorem rtwo_none1 {op : Int} (a b : Int) (h : (!risTwo op) = true) : (0 : Int) = rtwo op a b := by
  have h := risTwo_no h
  unfold rtwo
  repeat rw [if_neg (by omega)]
theorem rtwo_none2 {op : Int} (b : Int) (h : (!risTwo op) = true) : false = isTwo op b := by
  have h := risTwo_no h
  unfold isTwo
  repeat rw [if_neg (by omega)]
theorem rtwo_max {op : Int} (h : (!risTwo op) = false) (h1 : (op == 11) = false) (h2 : (op == 12) = false) (h3 : (op == 13) = false) (h4 : (op == 14) = false) (h5 : (op == 15) = false) (h6 : (op == 17) = false) (h7 : (op == 18) = false) (h8 : (op == 19) = false)
    (h9 : (op == 21) = false) (h10 : (op == 22) = false) (h11 : (op == 23) = false) (h12 : (op == 24) = false) (h13 : (op == 25) = false) (h14 : (op == 28) = false) : op = 29 := by
  simp only [beq_eq_false_iff_ne] at *
  simp only [risTwo, Bool.not_eq_false', decide_eq_true_eq] at h
  omega
theorem w0 : wrap64 0 = 0 := by unfold wrap64; omega
end Cn
end Go.Proofs.YtblmoilneiffgaaGreat

/- What a trace does, in plain words: values, instructions, exits. No program in sight. -/
set_option maxRecDepth 100000
namespace Go.Proofs.YtblmoilneiffgaaGreat
open Go.RowKit

structure In5 where
  a : Int
  b : Int
  c : Int
  d : Int
  e : Int
structure OuV where
  ip : Int
  steps : Int
  stack : List Int
  back : List Int
structure TrG where
  start : Int
  slots : Int
  backs : Int
  grow : Int
  growBack : Int
  ins : List In5
  outs : List OuV
  last : Int
  cells : List Int
structure StV where
  ip : Int
  handler : Int
  stack : List Int
  back : List Int
  mem : List Int
  out : ByteArray
  inp : ByteArray
  read : Int
  status : Int
  code : Int
def dg : Nat → Nat → List UInt8 → List UInt8
  | 0, _, out => out
  | f + 1, n, out => if n = 0 ∧ out ≠ [] then out else dg f (n / 10) (UInt8.ofNat (48 + n % 10) :: out)
theorem dg_zero : ∀ (f : Nat) (out : List UInt8), out ≠ [] → dg f 0 out = out
  | 0, _, _ => rfl
  | f + 1, out, h => by unfold dg; rw [if_pos ⟨rfl, h⟩]
theorem dg_len : ∀ (f n : Nat) (out : List UInt8), (dg f n out).length ≤ out.length + f
  | 0, _, _ => Nat.le_refl _
  | f + 1, n, out => by
    unfold dg; split
    · omega
    · have := dg_len f (n / 10) (UInt8.ofNat (48 + n % 10) :: out); rw [List.length_cons] at this; omega
def absN (v : Int) : Nat := if v < 0 then (IntKind.wrap .u64 (0 - IntKind.wrap .u64 v)).toNat else (IntKind.wrap .u64 v).toNat
def putV (v : Int) : ByteArray := if v < 0 then bs [45] ++ bs (dg 20 (absN v) []) else bs (dg 20 (absN v) [])
def byteC (v : Int) : UInt8 := UInt8.ofNat (IntKind.wrap .u8 v).toNat
def sayV (op v : Int) : ByteArray := if op = 11 then putV v ++ bs [32] else bs [byteC v]
def getI (l : List Int) (i : Int) : Int := l.getD i.toNat 0
structure En where
  s : StV
  regs : List Int
  hit : Int
def valV (ats : List Int) (p : Int) (e : En) : Int := getI e.regs (getI ats p)
def setV (ats : List Int) (p v : Int) (e : En) : En := { e with regs := e.regs.set (getI ats p).toNat v }
def memV (ats wl : List Int) (place : Int) (i : In5) (e : En) : Int × En :=
  let a := valV ats i.c e
  if a < 0 ∨ (e.s.mem.length : Int) ≤ a then (i.e, e) else
  if i.a = 5 then (-1, setV ats place (getI e.s.mem a) e) else
  let e' : En := { e with s := { e.s with mem := e.s.mem.set a.toNat (valV ats i.d e) } }
  if a ∈ wl then (i.b, { e' with hit := a }) else (-1, e')
def calcV (ats : List Int) (place : Int) (i : In5) (e : En) : Int × En :=
  let b := valV ats i.c e
  if Cn.isOne i.b = true then (-1, setV ats place (Cn.one i.b b) e) else
  if Cn.isTwo i.b (valV ats i.d e) = true then (-1, setV ats place (Cn.two i.b b (valV ats i.d e)) e) else (i.e, e)
def tellV (ats : List Int) (i : In5) (e : En) : Int × En :=
  let t := sayV i.a (valV ats i.c e)
  if 2000 < (e.s.out.size : Int) + t.size then (i.e, e) else (-1, { e with s := { e.s with out := e.s.out ++ t } })
def askV (ats : List Int) (place : Int) (e : En) : Int × En :=
  if (e.s.inp.size : Int) ≤ e.s.read then (-1, setV ats place (-1) e) else
  (-1, setV ats place (sb e.s.inp e.s.read) { e with s := { e.s with read := e.s.read + 1 } })
def insV (ats wl : List Int) (place : Int) (i : In5) (e : En) : Int × En :=
  if i.a = 1 then (-1, setV ats place i.b e) else
  if i.a = 2 then (-1, setV ats place (getI e.s.stack ((e.s.stack.length : Int) - 1 - i.b)) e) else
  if i.a = 3 then (-1, setV ats place (getI e.s.back ((e.s.back.length : Int) - 1 - i.b)) e) else
  if i.a = 4 then calcV ats place i e else
  if i.a = 5 ∨ i.a = 6 then memV ats wl place i e else
  if i.a = 7 then (if valV ats i.c e ≠ 0 then -1 else i.e, e) else
  if i.a = 8 then (if valV ats i.c e = 0 then -1 else i.e, e) else
  if i.a = 9 then (if valV ats i.c e = valV ats i.d e then -1 else i.e, e) else
  if i.a = 10 ∨ i.a = 11 then tellV ats i e else askV ats place e
def goV (ats wl : List Int) (last : Int) : List In5 → Int → En → Int × En
  | [], _, e => (last, e)
  | i :: r, place, e => if 0 ≤ (insV ats wl place i e).1 then insV ats wl place i e else goV ats wl last r (place + 1) (insV ats wl place i e).2
def valsV (ats : List Int) (l : List Int) (e : En) : List Int := l.map fun p => valV ats p e
def ou0 : OuV := ⟨0, 0, [], []⟩
def outAt (t : TrG) (x : Int) : OuV := t.outs.getD x.toNat ou0
def leaveV (t : TrG) (ats : List Int) (x : Int) (e : En) : StV :=
  { e.s with ip := (outAt t x).ip, stack := e.s.stack.take (e.s.stack.length - t.slots.toNat) ++ valsV ats (outAt t x).stack e, back := e.s.back.take (e.s.back.length - t.backs.toNat) ++ valsV ats (outAt t x).back e }
def mayV (t : TrG) (s : StV) : Bool := decide (s.status = 0 ∧ s.ip = t.start ∧ t.slots ≤ s.stack.length ∧ (s.stack.length : Int) + t.grow ≤ 48 ∧ t.backs ≤ s.back.length ∧ (s.back.length : Int) + t.growBack ≤ 48)
def InsOk (n ns nb : Nat) (place : Int) (i : In5) : Prop :=
  (0 ≤ place ∧ place < n) ∧ (i.a = 2 → 0 ≤ i.b ∧ i.b < ns) ∧ (i.a = 3 → 0 ≤ i.b ∧ i.b < nb) ∧ (4 ≤ i.a ∧ i.a ≤ 11 → 0 ≤ i.c ∧ i.c < n) ∧ ((i.a = 4 ∧ Cn.isOne i.b = false) ∨ i.a = 6 ∨ i.a = 9 → 0 ≤ i.d ∧ i.d < n)
def AtOk (ats : List Int) (m : Nat) : Prop := ∀ q : Nat, q < ats.length → 0 ≤ ats.getD q 0 ∧ ats.getD q 0 < m
theorem setV_regs (ats : List Int) (p v : Int) (e : En) : (setV ats p v e).regs.length = e.regs.length := by unfold setV; simp
def Keeps (e e' : En) : Prop := e'.regs.length = e.regs.length ∧ e'.s.stack = e.s.stack ∧ e'.s.back = e.s.back ∧ e'.s.inp = e.s.inp ∧ e'.s.mem.length = e.s.mem.length
theorem Keeps.refl (e : En) : Keeps e e := ⟨rfl, rfl, rfl, rfl, rfl⟩
theorem setV_keeps (ats : List Int) (p v : Int) (e : En) : Keeps e (setV ats p v e) := ⟨by unfold setV; simp, rfl, rfl, rfl, rfl⟩
theorem calcV_keeps (ats : List Int) (place : Int) (i : In5) (e : En) : Keeps e (calcV ats place i e).2 := by
  unfold calcV; dsimp only; split
  · exact setV_keeps _ _ _ _
  · split
    · exact setV_keeps _ _ _ _
    · exact Keeps.refl _
theorem memV_keeps (ats wl : List Int) (place : Int) (i : In5) (e : En) : Keeps e (memV ats wl place i e).2 := by
  unfold memV; dsimp only; split
  · exact Keeps.refl _
  · split
    · exact setV_keeps _ _ _ _
    · split <;> exact ⟨rfl, rfl, rfl, rfl, by simp⟩
theorem tellV_keeps (ats : List Int) (i : In5) (e : En) : Keeps e (tellV ats i e).2 := by
  unfold tellV; dsimp only; split
  · exact Keeps.refl _
  · exact ⟨rfl, rfl, rfl, rfl, rfl⟩
theorem askV_keeps (ats : List Int) (place : Int) (e : En) : Keeps e (askV ats place e).2 := by
  unfold askV; split
  · exact setV_keeps _ _ _ _
  · exact ⟨by unfold setV; simp, rfl, rfl, rfl, rfl⟩
theorem insV_keeps (ats wl : List Int) (place : Int) (i : In5) (e : En) : Keeps e (insV ats wl place i e).2 := by
  unfold insV
  repeat' split
  all_goals first | exact setV_keeps _ _ _ _ | exact calcV_keeps _ _ _ _ | exact memV_keeps _ _ _ _ _ | exact tellV_keeps _ _ _ | exact askV_keeps _ _ _ | exact Keeps.refl _
end Go.Proofs.YtblmoilneiffgaaGreat

/- Which traces may be, in plain words. No program in sight. -/
set_option maxRecDepth 100000
namespace Go.Proofs.YtblmoilneiffgaaGreat
open Go.RowKit

def givesV (op : Int) : Bool := decide (op = 1 ∨ op = 2 ∨ op = 3 ∨ op = 4 ∨ op = 5 ∨ op = 12)
def usesV (i : In5) : List Int :=
  if i.a = 4 then (if Cn.risTwo i.b = true then [i.c, i.d] else [i.c]) else
  if i.a = 5 ∨ i.a = 7 ∨ i.a = 8 ∨ i.a = 10 ∨ i.a = 11 then [i.c] else
  if i.a = 6 ∨ i.a = 9 then [i.c, i.d] else []
def outsV (i : In5) : List Int :=
  if i.a = 4 then (if i.b = 14 ∨ i.b = 15 then [i.e] else []) else
  if i.a = 5 ∨ i.a = 7 ∨ i.a = 8 ∨ i.a = 9 ∨ i.a = 10 ∨ i.a = 11 then [i.e] else
  if i.a = 6 then [i.e, i.b] else []
def in0 : In5 := ⟨0, 0, 0, 0, 0⟩
def insAt (t : TrG) (p : Int) : In5 := t.ins.getD p.toNat in0
def NamedV (t : TrG) (l : List Int) (than : Nat) : Prop := ∀ p ∈ l, 0 ≤ p ∧ p < than ∧ givesV (insAt t p).a = true
def OutV (t : TrG) (x : Int) (k : Nat) : Prop := 0 ≤ x ∧ x < t.outs.length ∧ NamedV t (outAt t x).stack k ∧ NamedV t (outAt t x).back k
def EachV (t : TrG) (k : Nat) (i : In5) : Prop :=
  (1 ≤ i.a ∧ i.a ≤ 12) ∧ (i.a = 4 → Cn.risTwo i.b = true ∨ Cn.risOne i.b = true) ∧ (i.a = 2 → 0 ≤ i.b ∧ i.b ≤ t.slots - 1) ∧ (i.a = 3 → 0 ≤ i.b ∧ i.b ≤ t.backs - 1) ∧ NamedV t (usesV i) k ∧ ∀ x ∈ outsV i, OutV t x k
def ExitV (t : TrG) (o : OuV) : Prop := (0 ≤ o.steps ∧ o.steps ≤ 120) ∧ (0 ≤ o.ip ∧ o.ip ≤ 2999) ∧ (o.stack.length : Int) ≤ t.slots + t.grow ∧ (o.back.length : Int) ≤ t.backs + t.growBack
def HeadV (t : TrG) : Prop := t.ins.length ≤ 1000 ∧ t.outs.length ≤ 300 ∧ (0 ≤ t.start ∧ t.start ≤ 2999) ∧ (0 ≤ t.slots ∧ t.slots ≤ 48) ∧ (0 ≤ t.grow ∧ t.grow ≤ 48) ∧ (0 ≤ t.backs ∧ t.backs ≤ 48) ∧ (0 ≤ t.growBack ∧ t.growBack ≤ 48)
def CellsV (l : List Int) : Prop := ∀ (k : Nat) (c : Int), l[k]? = some c → (0 ≤ c ∧ c ≤ 2999) ∧ ∀ (j : Nat) (d : Int), k = j + 1 → l[j]? = some d → d < c
structure RightV (t : TrG) : Prop where
  head : HeadV t
  each : ∀ (k : Nat) (i : In5), t.ins[k]? = some i → EachV t k i
  exits : ∀ (k : Nat) (o : OuV), t.outs[k]? = some o → ExitV t o
  cells : CellsV t.cells
  last : OutV t t.last t.ins.length
  lastS : 1 ≤ (outAt t t.last).steps
theorem isTwo_of {op b : Int} (h : Cn.isTwo op b = true) : Cn.risTwo op = true := by
  by_cases hr : Cn.risTwo op = true
  · exact hr
  · have h1 : (!Cn.risTwo op) = true := by simpa using hr
    rw [← Cn.rtwo_none2 b h1] at h; cases h
theorem isOne_eq (op : Int) : Cn.isOne op = Cn.risOne op := by
  unfold Cn.isOne Cn.risOne
  rw [Bool.eq_iff_iff]; simp
theorem risOne_not {op : Int} (h : Cn.risTwo op = true) : Cn.isOne op = false := by
  rw [isOne_eq]; unfold Cn.risTwo at h; unfold Cn.risOne
  have h := of_decide_eq_true h
  apply decide_eq_false; omega
theorem isTwo_eq {op b : Int} (h : Cn.risTwo op = true) : Cn.isTwo op b = !(decide ((op = 14 ∨ op = 15) ∧ b = 0)) := by
  unfold Cn.risTwo at h
  have h := of_decide_eq_true h
  have h' : op = 11 ∨ op = 12 ∨ op = 13 ∨ op = 14 ∨ op = 15 ∨ op = 17 ∨ op = 18 ∨ op = 19 ∨ op = 21 ∨ op = 22 ∨ op = 23 ∨ op = 24 ∨ op = 25 ∨ op = 28 ∨ op = 29 := by omega
  rcases h' with rfl | rfl | rfl | rfl | rfl | rfl | rfl | rfl | rfl | rfl | rfl | rfl | rfl | rfl | rfl <;> simp [Cn.isTwo] <;> rfl
theorem RightV.ins {t : TrG} (h : RightV t) {ats : List Int} (hl : ats.length = t.ins.length) {ns nb : Nat} (hs : t.slots ≤ ns) (hb : t.backs ≤ nb) {k : Nat} {i : In5} (hi : t.ins[k]? = some i) : InsOk ats.length ns nb k i := by
  have hk : k < t.ins.length := (List.getElem?_eq_some_iff.1 hi).1
  obtain ⟨h1, h2, h3, h4, h5, h6⟩ := h.each k i hi
  have use : ∀ p ∈ usesV i, 0 ≤ p ∧ p < ats.length := fun p hp => by
    obtain ⟨a, b, _⟩ := h5 p hp; omega
  refine ⟨by omega, fun e => ?_, fun e => ?_, fun e => ?_, fun e => ?_⟩
  · have := h3 e; omega
  · have := h4 e; omega
  · apply use
    unfold usesV
    split
    · split <;> simp
    · split
      · simp
      · rw [if_pos (by omega)]; simp
  · apply use
    unfold usesV
    rcases e with ⟨e, e2⟩ | e | e
    · rw [if_pos e]
      rcases h2 e with h | h
      · rw [if_pos h]; simp
      · rw [isOne_eq, h] at e2; cases e2
    · rw [if_neg (by omega), if_neg (by omega), if_pos (by omega)]; simp
    · rw [if_neg (by omega), if_neg (by omega), if_pos (by omega)]; simp
theorem RightV.exOk {t : TrG} (h : RightV t) {n : Nat} (hn : n = t.ins.length) {x : Int} {k : Nat} (hk : k ≤ t.ins.length) (ho : OutV t x k) : (0 ≤ x ∧ x < t.outs.length) ∧ (∀ p ∈ (outAt t x).stack, 0 ≤ p ∧ p < n) ∧ (∀ p ∈ (outAt t x).back, 0 ≤ p ∧ p < n) ∧ (outAt t x).stack.length ≤ 100000 ∧ (outAt t x).back.length ≤ 100000 := by
  obtain ⟨h1, h2, h3, h4⟩ := ho
  have hv : t.outs[x.toNat]? = some (outAt t x) := by
    unfold outAt; rw [List.getD_eq_getElem?_getD, List.getElem?_eq_getElem (by omega)]; rfl
  obtain ⟨_, _, e3, e4⟩ := h.exits _ _ hv
  obtain ⟨_, _, _, q1, q2, q3, q4⟩ := h.head
  exact ⟨⟨h1, h2⟩, fun p hp => by obtain ⟨a, b, _⟩ := h3 p hp; omega, fun p hp => by obtain ⟨a, b, _⟩ := h4 p hp; omega, by omega, by omega⟩
theorem neg1 {p : Prop} (h : (0 : Int) ≤ -1) : p := absurd h (by decide)
theorem insV_exit {ats wl : List Int} {t : TrG} {k : Nat} {i : In5} {e : En} (hr : EachV t k i) (h : 0 ≤ (insV ats wl k i e).1) : (insV ats wl k i e).1 ∈ outsV i := by
  obtain ⟨h1, h2, _⟩ := hr
  unfold insV at h ⊢
  unfold outsV
  by_cases e1 : i.a = 1
  · rw [if_pos e1] at h; exact neg1 h
  rw [if_neg e1] at h ⊢
  by_cases e2 : i.a = 2
  · rw [if_pos e2] at h; exact neg1 h
  rw [if_neg e2] at h ⊢
  by_cases e3 : i.a = 3
  · rw [if_pos e3] at h; exact neg1 h
  rw [if_neg e3] at h ⊢
  by_cases e4 : i.a = 4
  · rw [if_pos e4] at h ⊢
    rw [if_pos e4]
    unfold calcV at h ⊢
    dsimp only at h ⊢
    by_cases c1 : Cn.isOne i.b = true
    · rw [if_pos c1] at h; exact neg1 h
    rw [if_neg c1] at h ⊢
    have h2' : Cn.risTwo i.b = true := (h2 e4).resolve_right (fun hh => c1 (by rw [isOne_eq]; exact hh))
    by_cases c2 : Cn.isTwo i.b (valV ats i.d e) = true
    · rw [if_pos c2] at h; exact neg1 h
    rw [if_neg c2] at h ⊢
    rw [isTwo_eq h2'] at c2
    have c2 : (i.b = 14 ∨ i.b = 15) ∧ valV ats i.d e = 0 := by
      rcases hd : decide ((i.b = 14 ∨ i.b = 15) ∧ valV ats i.d e = 0) with _ | _
      · rw [hd] at c2; exact absurd rfl c2
      · exact of_decide_eq_true hd
    rw [if_pos c2.1]; simp
  rw [if_neg e4] at h ⊢
  rw [if_neg e4]
  by_cases e56 : i.a = 5 ∨ i.a = 6
  · rw [if_pos e56] at h ⊢
    unfold memV at h ⊢
    dsimp only at h ⊢
    have hx : i.e ∈ (if i.a = 5 ∨ i.a = 7 ∨ i.a = 8 ∨ i.a = 9 ∨ i.a = 10 ∨ i.a = 11 then [i.e] else if i.a = 6 then [i.e, i.b] else []) := by
      rcases e56 with e5 | e6
      · rw [if_pos (by omega)]; simp
      · rw [if_neg (by omega), if_pos e6]; simp
    by_cases c1 : valV ats i.c e < 0 ∨ (e.s.mem.length : Int) ≤ valV ats i.c e
    · rw [if_pos c1]; exact hx
    rw [if_neg c1] at h ⊢
    by_cases c2 : i.a = 5
    · rw [if_pos c2] at h; exact neg1 h
    rw [if_neg c2] at h ⊢
    by_cases c3 : valV ats i.c e ∈ wl
    · rw [if_pos c3, if_neg (by omega), if_pos (by omega)]; simp
    · rw [if_neg c3] at h; exact neg1 h
  rw [if_neg e56] at h ⊢
  by_cases e7 : i.a = 7
  · rw [if_pos e7] at h ⊢
    rw [if_pos (by omega)]
    dsimp only at h ⊢
    split at h
    · exact neg1 h
    · next hh => rw [if_neg hh]; simp
  rw [if_neg e7] at h ⊢
  by_cases e8 : i.a = 8
  · rw [if_pos e8] at h ⊢
    rw [if_pos (by omega)]
    dsimp only at h ⊢
    split at h
    · exact neg1 h
    · next hh => rw [if_neg hh]; simp
  rw [if_neg e8] at h ⊢
  by_cases e9 : i.a = 9
  · rw [if_pos e9] at h ⊢
    rw [if_pos (by omega)]
    dsimp only at h ⊢
    split at h
    · exact neg1 h
    · next hh => rw [if_neg hh]; simp
  rw [if_neg e9] at h ⊢
  by_cases e10 : i.a = 10 ∨ i.a = 11
  · rw [if_pos e10] at h ⊢
    rw [if_pos (by omega)]
    unfold tellV at h ⊢
    dsimp only at h ⊢
    split at h
    · next hh => rw [if_pos hh]; simp
    · exact neg1 h
  rw [if_neg e10] at h
  unfold askV at h
  split at h <;> exact neg1 h
end Go.Proofs.YtblmoilneiffgaaGreat

/- An instruction by what it names: its outcome, out of the values alone. No program in sight. -/
set_option maxRecDepth 100000
namespace Go.Proofs.YtblmoilneiffgaaGreat
open Go.RowKit

inductive Oc where
  | go (s : StV) (v : Option Int)
  | ex
  | hit (s : StV) (a : Int)
def ocV (op a b c : Int) (s : StV) (wl : List Int) : Oc :=
  if op = 1 then .go s (some a) else
  if op = 2 then .go s (some (getI s.stack ((s.stack.length : Int) - 1 - a))) else
  if op = 3 then .go s (some (getI s.back ((s.back.length : Int) - 1 - a))) else
  if op = 4 then (if Cn.isOne a = true then .go s (some (Cn.one a b)) else if Cn.isTwo a c = true then .go s (some (Cn.two a b c)) else .ex) else
  if op = 5 then (if b < 0 ∨ (s.mem.length : Int) ≤ b then .ex else .go s (some (getI s.mem b))) else
  if op = 6 then (if b < 0 ∨ (s.mem.length : Int) ≤ b then .ex else if b ∈ wl then .hit { s with mem := s.mem.set b.toNat c } b else .go { s with mem := s.mem.set b.toNat c } none) else
  if op = 7 then (if b ≠ 0 then .go s none else .ex) else
  if op = 8 then (if b = 0 then .go s none else .ex) else
  if op = 9 then (if b = c then .go s none else .ex) else
  if op = 10 ∨ op = 11 then (if 2000 < (s.out.size : Int) + (sayV op b).size then .ex else .go { s with out := s.out ++ sayV op b } none) else
  if (s.inp.size : Int) ≤ s.read then .go s (some (-1)) else .go { s with read := s.read + 1 } (some (sb s.inp s.read))
def putOc (ats : List Int) (place : Int) (i : In5) (e : En) : Oc → Int × En
  | .go s none => (-1, { e with s := s })
  | .go s (some v) => (-1, setV ats place v { e with s := s })
  | .ex => (i.e, e)
  | .hit s a => (i.b, { e with s := s, hit := a })
theorem insV_oc (ats wl : List Int) (place : Int) (i : In5) (e : En) : insV ats wl place i e = putOc ats place i e (ocV i.a i.b (valV ats i.c e) (valV ats i.d e) e.s wl) := by
  unfold insV ocV
  by_cases e1 : i.a = 1
  · rw [if_pos e1, if_pos e1]; rfl
  rw [if_neg e1, if_neg e1]
  by_cases e2 : i.a = 2
  · rw [if_pos e2, if_pos e2]; rfl
  rw [if_neg e2, if_neg e2]
  by_cases e3 : i.a = 3
  · rw [if_pos e3, if_pos e3]; rfl
  rw [if_neg e3, if_neg e3]
  by_cases e4 : i.a = 4
  · rw [if_pos e4, if_pos e4]; unfold calcV; dsimp only
    by_cases c1 : Cn.isOne i.b = true
    · rw [if_pos c1, if_pos c1]; rfl
    rw [if_neg c1, if_neg c1]
    by_cases c2 : Cn.isTwo i.b (valV ats i.d e) = true
    · rw [if_pos c2, if_pos c2]; rfl
    · rw [if_neg c2, if_neg c2]; rfl
  rw [if_neg e4, if_neg e4]
  by_cases e5 : i.a = 5
  · rw [if_pos (Or.inl e5), if_pos e5]; unfold memV; dsimp only
    by_cases c1 : valV ats i.c e < 0 ∨ (e.s.mem.length : Int) ≤ valV ats i.c e
    · rw [if_pos c1, if_pos c1]; rfl
    · rw [if_neg c1, if_neg c1, if_pos e5]; rfl
  rw [if_neg e5]
  by_cases e6 : i.a = 6
  · rw [if_pos (Or.inr e6), if_pos e6]; unfold memV; dsimp only
    by_cases c1 : valV ats i.c e < 0 ∨ (e.s.mem.length : Int) ≤ valV ats i.c e
    · rw [if_pos c1, if_pos c1]; rfl
    · rw [if_neg c1, if_neg c1, if_neg e5]
      by_cases c2 : valV ats i.c e ∈ wl
      · rw [if_pos c2, if_pos c2]; rfl
      · rw [if_neg c2, if_neg c2]; rfl
  rw [if_neg (by omega), if_neg e6]
  by_cases e7 : i.a = 7
  · rw [if_pos e7, if_pos e7]
    by_cases c1 : valV ats i.c e ≠ 0
    · rw [if_pos c1, if_pos c1]; rfl
    · rw [if_neg c1, if_neg c1]; rfl
  rw [if_neg e7, if_neg e7]
  by_cases e8 : i.a = 8
  · rw [if_pos e8, if_pos e8]
    by_cases c1 : valV ats i.c e = 0
    · rw [if_pos c1, if_pos c1]; rfl
    · rw [if_neg c1, if_neg c1]; rfl
  rw [if_neg e8, if_neg e8]
  by_cases e9 : i.a = 9
  · rw [if_pos e9, if_pos e9]
    by_cases c1 : valV ats i.c e = valV ats i.d e
    · rw [if_pos c1, if_pos c1]; rfl
    · rw [if_neg c1, if_neg c1]; rfl
  rw [if_neg e9, if_neg e9]
  by_cases e10 : i.a = 10 ∨ i.a = 11
  · rw [if_pos e10, if_pos e10]; unfold tellV; dsimp only
    by_cases c1 : 2000 < (e.s.out.size : Int) + (sayV i.a (valV ats i.c e)).size
    · rw [if_pos c1, if_pos c1]; rfl
    · rw [if_neg c1, if_neg c1]; rfl
  rw [if_neg e10, if_neg e10]
  unfold askV
  by_cases c1 : (e.s.inp.size : Int) ≤ e.s.read
  · rw [if_pos c1, if_pos c1]; rfl
  · rw [if_neg c1, if_neg c1]; rfl
theorem ocV_uses {i : In5} {b b' c c' : Int} {s : StV} {wl : List Int} (h0 : i.a = 4 → Cn.risTwo i.b = true ∨ Cn.risOne i.b = true) (hb : i.c ∈ usesV i → b = b') (hc : (usesV i).length = 2 → c = c') : ocV i.a i.b b c s wl = ocV i.a i.b b' c' s wl := by
  have u1 : (4 ≤ i.a ∧ i.a ≤ 11) → b = b' := fun h => by
    apply hb; unfold usesV
    split
    · split <;> simp
    · split
      · simp
      · rw [if_pos (by omega)]; simp
  have u2 : i.a = 6 ∨ i.a = 9 → c = c' := fun h => by
    apply hc; unfold usesV
    rw [if_neg (by omega), if_neg (by omega), if_pos h]; rfl
  unfold ocV
  by_cases e1 : i.a = 1
  · rw [if_pos e1, if_pos e1]
  rw [if_neg e1, if_neg e1]
  by_cases e2 : i.a = 2
  · rw [if_pos e2, if_pos e2]
  rw [if_neg e2, if_neg e2]
  by_cases e3 : i.a = 3
  · rw [if_pos e3, if_pos e3]
  rw [if_neg e3, if_neg e3]
  by_cases e4 : i.a = 4
  · rw [if_pos e4, if_pos e4, u1 (by omega)]
    by_cases c1 : Cn.isOne i.b = true
    · rw [if_pos c1, if_pos c1]
    · have h2 : Cn.risTwo i.b = true := (h0 e4).resolve_right (fun hh => c1 (by rw [isOne_eq]; exact hh))
      rw [hc (by unfold usesV; rw [if_pos e4, if_pos h2]; rfl)]
  rw [if_neg e4, if_neg e4]
  by_cases e5 : i.a = 5
  · rw [if_pos e5, if_pos e5, u1 (by omega)]
  rw [if_neg e5, if_neg e5]
  by_cases e6 : i.a = 6
  · rw [if_pos e6, if_pos e6, u1 (by omega), u2 (by omega)]
  rw [if_neg e6, if_neg e6]
  by_cases e7 : i.a = 7
  · rw [if_pos e7, if_pos e7, u1 (by omega)]
  rw [if_neg e7, if_neg e7]
  by_cases e8 : i.a = 8
  · rw [if_pos e8, if_pos e8, u1 (by omega)]
  rw [if_neg e8, if_neg e8]
  by_cases e9 : i.a = 9
  · rw [if_pos e9, if_pos e9, u1 (by omega), u2 (by omega)]
  rw [if_neg e9, if_neg e9]
  by_cases e10 : i.a = 10 ∨ i.a = 11
  · rw [if_pos e10, if_pos e10, u1 (by omega)]
  rw [if_neg e10, if_neg e10]
def OcG (op : Int) : Oc → Prop
  | .go _ none => givesV op = false
  | .go _ (some _) => givesV op = true
  | .ex => True
  | .hit _ _ => givesV op = false
theorem ocV_gives {op : Int} (a b c : Int) (s : StV) (wl : List Int) (h : 1 ≤ op ∧ op ≤ 12) : OcG op (ocV op a b c s wl) := by
  have g1 : (op = 1 ∨ op = 2 ∨ op = 3 ∨ op = 4 ∨ op = 5 ∨ op = 12) → givesV op = true := fun h => decide_eq_true h
  have g0 : ¬ (op = 1 ∨ op = 2 ∨ op = 3 ∨ op = 4 ∨ op = 5 ∨ op = 12) → givesV op = false := fun h => decide_eq_false h
  unfold ocV
  by_cases e1 : op = 1
  · rw [if_pos e1]; exact g1 (by omega)
  rw [if_neg e1]
  by_cases e2 : op = 2
  · rw [if_pos e2]; exact g1 (by omega)
  rw [if_neg e2]
  by_cases e3 : op = 3
  · rw [if_pos e3]; exact g1 (by omega)
  rw [if_neg e3]
  by_cases e4 : op = 4
  · rw [if_pos e4]
    by_cases c1 : Cn.isOne a = true
    · rw [if_pos c1]; exact g1 (by omega)
    rw [if_neg c1]
    by_cases c2 : Cn.isTwo a c = true
    · rw [if_pos c2]; exact g1 (by omega)
    · rw [if_neg c2]; exact True.intro
  rw [if_neg e4]
  by_cases e5 : op = 5
  · rw [if_pos e5]
    by_cases c1 : b < 0 ∨ (s.mem.length : Int) ≤ b
    · rw [if_pos c1]; exact True.intro
    · rw [if_neg c1]; exact g1 (by omega)
  rw [if_neg e5]
  by_cases e6 : op = 6
  · rw [if_pos e6]
    by_cases c1 : b < 0 ∨ (s.mem.length : Int) ≤ b
    · rw [if_pos c1]; exact True.intro
    rw [if_neg c1]
    by_cases c2 : b ∈ wl
    · rw [if_pos c2]; exact g0 (by omega)
    · rw [if_neg c2]; exact g0 (by omega)
  rw [if_neg e6]
  by_cases e7 : op = 7
  · rw [if_pos e7]
    by_cases c1 : b ≠ 0
    · rw [if_pos c1]; exact g0 (by omega)
    · rw [if_neg c1]; exact True.intro
  rw [if_neg e7]
  by_cases e8 : op = 8
  · rw [if_pos e8]
    by_cases c1 : b = 0
    · rw [if_pos c1]; exact g0 (by omega)
    · rw [if_neg c1]; exact True.intro
  rw [if_neg e8]
  by_cases e9 : op = 9
  · rw [if_pos e9]
    by_cases c1 : b = c
    · rw [if_pos c1]; exact g0 (by omega)
    · rw [if_neg c1]; exact True.intro
  rw [if_neg e9]
  by_cases e10 : op = 10 ∨ op = 11
  · rw [if_pos e10]
    by_cases c1 : 2000 < (s.out.size : Int) + (sayV op b).size
    · rw [if_pos c1]; exact True.intro
    · rw [if_neg c1]; exact g0 (by omega)
  rw [if_neg e10]
  by_cases c1 : (s.inp.size : Int) ≤ s.read
  · rw [if_pos c1]; exact g1 (by omega)
  · rw [if_neg c1]; exact g1 (by omega)
/-! ### Places that are registers -/
def idA (n : Nat) : List Int := (List.range n).map fun (k : Nat) => (k : Int)
theorem idA_at {n : Nat} {p : Int} (h0 : 0 ≤ p) (h1 : p < n) : getI (idA n) p = p := by
  unfold getI idA
  rw [List.getD_eq_getElem?_getD, List.getElem?_map, List.getElem?_range (by omega)]
  simp; omega
theorem val_id {n : Nat} {p : Int} {e : En} (h0 : 0 ≤ p) (h1 : p < n) : valV (idA n) p e = getI e.regs p := by unfold valV; rw [idA_at h0 h1]
theorem val_same {n : Nat} {p v : Int} {e : En} (h0 : 0 ≤ p) (h1 : p < n) (hr : e.regs.length = n) : valV (idA n) p (setV (idA n) p v e) = v := by
  rw [val_id h0 h1]; unfold setV; rw [idA_at h0 h1]; unfold getI
  rw [List.getD_eq_getElem?_getD, List.getElem?_set_self (by omega)]; rfl
theorem val_ne {n : Nat} {p q v : Int} {e : En} (h0 : 0 ≤ p) (h1 : p < n) (k0 : 0 ≤ q) (k1 : q < n) (hn : q ≠ p) : valV (idA n) q (setV (idA n) p v e) = valV (idA n) q e := by
  rw [val_id k0 k1, val_id k0 k1]; unfold setV; rw [idA_at h0 h1]; unfold getI
  rw [List.getD_eq_getElem?_getD, List.getElem?_set_ne (by omega), List.getD_eq_getElem?_getD]
def en0 (n : Nat) (s : StV) : En := ⟨s, List.replicate n 0, -1⟩
def runA (v : TrG) (ats : List Int) (n : Nat) (s : StV) (wl : List Int) : Int × En := goV ats wl v.last v.ins 0 (en0 n s)
def runG (t : TrG) (s : StV) (wl : List Int) : Int × En := runA t (idA t.ins.length) t.ins.length s wl
def endV (t : TrG) (g : Int × En) : StV := leaveV t (idA t.ins.length) g.1 g.2
end Go.Proofs.YtblmoilneiffgaaGreat

/- Reckoning ahead, in plain words; what it keeps. No program in sight. -/
set_option maxRecDepth 100000
namespace Go.Proofs.YtblmoilneiffgaaGreat
open Go.RowKit

def ofV (m : List Int) (p : Int) : Int := if p < 0 ∨ (m.length : Int) ≤ p then p else getI m p
def insM (m : List Int) (i : In5) : In5 :=
  if (usesV i).length = 2 then { i with c := ofV m i.c, d := ofV m i.d } else
  if (usesV i).length = 1 then { i with c := ofV m i.c } else i
def outM (m : List Int) (o : OuV) : OuV := { o with stack := o.stack.map (ofV m), back := o.back.map (ofV m) }
def atL (l : List In5) (p : Int) : In5 := l.getD p.toNat in0
def ConV (l : List In5) (p : Int) : Prop := 0 ≤ p ∧ p < l.length ∧ (atL l p).a = 1
instance (l : List In5) (p : Int) : Decidable (ConV l p) := by unfold ConV; infer_instance
def AllCon (l : List In5) (ps : List Int) : Prop := ∀ p ∈ ps, ConV l p
instance (l : List In5) (ps : List Int) : Decidable (AllCon l ps) := by unfold AllCon; infer_instance
theorem ofV_app {m : List Int} (r : List Int) {p : Int} (h0 : 0 ≤ p) (h1 : p < m.length) : ofV (m ++ r) p = ofV m p := by
  unfold ofV
  rw [if_neg (by rw [List.length_append]; omega), if_neg (by omega)]
  unfold getI
  rw [List.getD_eq_getElem?_getD, List.getD_eq_getElem?_getD, List.getElem?_append_left (by omega)]
theorem ofV_in {m : List Int} {p : Int} (h0 : 0 ≤ p) (h1 : p < m.length) : ofV m p = getI m p := by unfold ofV; rw [if_neg (by omega)]
theorem ofV_end {m : List Int} {x p : Int} (h : p = m.length) : ofV (m ++ [x]) p = x := by
  subst h
  rw [ofV_in (by omega) (by rw [List.length_append]; simp; omega)]
  unfold getI; rw [List.getD_eq_getElem?_getD, Int.toNat_natCast, List.getElem?_append_right (Nat.le_refl _)]; simp
theorem atL_app {l : List In5} (r : List In5) {p : Int} (h0 : 0 ≤ p) (h1 : p < l.length) : atL (l ++ r) p = atL l p := by
  unfold atL
  rw [List.getD_eq_getElem?_getD, List.getD_eq_getElem?_getD, List.getElem?_append_left (by omega)]
theorem usesV_cases (i : In5) : ((usesV i).length = 0 ∧ usesV i = []) ∨ ((usesV i).length = 1 ∧ usesV i = [i.c]) ∨ ((usesV i).length = 2 ∧ usesV i = [i.c, i.d]) := by
  unfold usesV
  repeat' split
  all_goals first | exact Or.inl ⟨rfl, rfl⟩ | exact Or.inr (Or.inl ⟨rfl, rfl⟩) | exact Or.inr (Or.inr ⟨rfl, rfl⟩)
def NamL (l : List In5) (ps : List Int) (than : Nat) : Prop := ∀ p ∈ ps, 0 ≤ p ∧ p < than ∧ givesV (atL l p).a = true
theorem named_iff {t : TrG} {ps : List Int} {k : Nat} : NamedV t ps k ↔ NamL t.ins ps k := Iff.rfl
theorem NamL.app {l : List In5} {ps : List Int} {k : Nat} (h : NamL l ps k) (hk : k ≤ l.length) (r : List In5) : NamL (l ++ r) ps k := fun p hp => by
  obtain ⟨a, b, c⟩ := h p hp
  exact ⟨a, b, by rw [atL_app r a (by omega)]; exact c⟩
structure MapOk (ti : List In5) (k : Nat) (l : List In5) (m : List Int) : Prop where
  len : m.length = k
  le : l.length ≤ k
  pl : ∀ p : Int, 0 ≤ p → p < k → givesV (atL ti p).a = true → (0 ≤ ofV m p ∧ ofV m p < l.length) ∧ givesV (atL l (ofV m p)).a = true
theorem MapOk.named {ti l : List In5} {k : Nat} {m : List Int} (h : MapOk ti k l m) {ps : List Int} (hp : NamL ti ps k) : NamL l (ps.map (ofV m)) l.length := fun q hq => by
  obtain ⟨p, hp', rfl⟩ := List.mem_map.1 hq
  obtain ⟨a, b, c⟩ := hp p hp'
  obtain ⟨d, e⟩ := h.pl p a b c
  exact ⟨d.1, d.2, e⟩
theorem MapOk.skip {ti l : List In5} {k : Nat} {m : List Int} (h : MapOk ti k l m) {i : In5} (hi : ti[k]? = some i) (hg : givesV i.a = false) (x : Int) : MapOk ti (k + 1) l (m ++ [x]) := by
  refine ⟨by rw [List.length_append, h.len]; rfl, by have := h.le; omega, fun p h0 h1 hp => ?_⟩
  by_cases hk : p = k
  · subst hk
    have : atL ti (k : Int) = i := by unfold atL; rw [List.getD_eq_getElem?_getD, Int.toNat_natCast, hi]; rfl
    rw [this, hg] at hp; cases hp
  · rw [ofV_app _ h0 (by rw [h.len]; omega)]
    exact h.pl p h0 (by omega) hp
theorem MapOk.nil (ti : List In5) : MapOk ti 0 [] [] := ⟨rfl, Nat.le_refl _, fun p h0 h1 => by omega⟩
theorem map_of_app {m : List Int} (r : List Int) {l : List In5} {ps : List Int} {k : Nat} (hk : m.length = k) (h : NamL l ps k) : ps.map (ofV (m ++ r)) = ps.map (ofV m) := by
  apply List.map_congr_left
  intro p hp
  obtain ⟨a, b, _⟩ := h p hp
  exact ofV_app r a (by omega)
end Go.Proofs.YtblmoilneiffgaaGreat

/- Reckoning ahead: the trace that is reckoned ahead does what the trace does. No program in sight. -/
set_option maxRecDepth 100000
namespace Go.Proofs.YtblmoilneiffgaaGreat
open Go.RowKit

theorem goV_cons (ats wl : List Int) (last : Int) (i : In5) (r : List In5) (q : Int) (e : En) : goV ats wl last (i :: r) q e = if 0 ≤ (insV ats wl q i e).1 then insV ats wl q i e else goV ats wl last r (q + 1) (insV ats wl q i e).2 := rfl
def SimV (ti : List In5) (k : Nat) (m : List Int) (n n' : Nat) (e e' : En) : Prop := ∀ p : Int, 0 ≤ p → p < k → givesV (atL ti p).a = true → valV (idA n') (ofV m p) e' = valV (idA n) p e
theorem atL_get {l : List In5} {k : Nat} {i : In5} (h : l[k]? = some i) : atL l (k : Int) = i := by
  unfold atL; rw [List.getD_eq_getElem?_getD, Int.toNat_natCast, h]; rfl
theorem SimV.vals {ti : List In5} {k : Nat} {m : List Int} {n n' : Nat} {e e' : En} (h : SimV ti k m n n' e e') {ps : List Int} (hp : NamL ti ps k) : valsV (idA n') (ps.map (ofV m)) e' = valsV (idA n) ps e := by
  unfold valsV
  rw [List.map_map]
  apply List.map_congr_left
  intro p hp'
  obtain ⟨a, b, c⟩ := hp p hp'
  exact h p a b c
theorem SimV.uses {t : TrG} {k : Nat} {m : List Int} {n n' : Nat} {e e' : En} (h : SimV t.ins k m n n' e e') {wl : List Int} {s : StV} {i : In5} (hi : EachV t k i) : ocV i.a i.b (valV (idA n) i.c e) (valV (idA n) i.d e) s wl = ocV i.a i.b (valV (idA n') (insM m i).c e') (valV (idA n') (insM m i).d e') s wl := by
  obtain ⟨h1, h2, h3, h4, h5, h6⟩ := hi
  apply ocV_uses h2
  · intro hc
    obtain ⟨a, b, c⟩ := h5 _ hc
    have := h _ a b c
    rw [← this]
    rcases usesV_cases i with ⟨g1, g2⟩ | ⟨g1, g2⟩ | ⟨g1, g2⟩
    · rw [g2] at hc; cases hc
    · unfold insM; rw [if_neg (by omega), if_pos g1]
    · unfold insM; rw [if_pos g1]
  · intro hc
    rcases usesV_cases i with ⟨g1, g2⟩ | ⟨g1, g2⟩ | ⟨g1, g2⟩
    · omega
    · omega
    · obtain ⟨a, b, c⟩ := h5 i.d (by rw [g2]; simp)
      have := h _ a b c
      rw [← this]
      unfold insM; rw [if_pos g1]
theorem SimV.none {ti : List In5} {k : Nat} {m : List Int} {n n' : Nat} {e e' : En} (h : SimV ti k m n n' e e') (hl : m.length = k) {i : In5} (hi : ti[k]? = some i) (hg : givesV i.a = false) (x : Int) (s s' : StV) : SimV ti (k + 1) (m ++ [x]) n n' { e with s := s } { e' with s := s' } := by
  intro p h0 h1 hp
  by_cases hk : p = k
  · subst hk
    rw [atL_get hi, hg] at hp; cases hp
  · rw [ofV_app _ h0 (by omega)]
    exact h p h0 (by omega) hp
theorem SimV.some {ti : List In5} {k : Nat} {m : List Int} {n n' l : Nat} {e e' : En} (h : SimV ti k m n n' e e') (hl : m.length = k) (hk : k < n) (hl' : l < n') (hr : e.regs.length = n) (hr' : e'.regs.length = n')
    (hm : ∀ p : Int, 0 ≤ p → p < k → givesV (atL ti p).a = true → 0 ≤ ofV m p ∧ ofV m p < l) (v : Int) (s s' : StV) :
    SimV ti (k + 1) (m ++ [(l : Int)]) n n' (setV (idA n) k v { e with s := s }) (setV (idA n') l v { e' with s := s' }) := by
  intro p h0 h1 hp
  by_cases hpk : p = k
  · subst hpk
    rw [ofV_end (by rw [hl]), val_same (e := { e' with s := s' }) (by omega) (by omega) hr', val_same (e := { e with s := s }) (by omega) (by omega) hr]
  · obtain ⟨a, b⟩ := hm p h0 (by omega) hp
    rw [ofV_app _ h0 (by omega), val_ne (by omega) (by omega) a (by omega) (by omega), val_ne (by omega) (by omega) h0 (by omega) hpk]
    exact h p h0 (by omega) hp
theorem SimV.have {ti : List In5} {k : Nat} {m : List Int} {n n' : Nat} {e e' : En} (h : SimV ti k m n n' e e') (hl : m.length = k) (hk : k < n) (hr : e.regs.length = n) {q : Int} (v : Int) (s s' : StV) (hq : valV (idA n') q e' = v) :
    SimV ti (k + 1) (m ++ [q]) n n' (setV (idA n) k v { e with s := s }) { e' with s := s' } := by
  intro p h0 h1 hp
  by_cases hpk : p = k
  · subst hpk
    rw [ofV_end (by rw [hl]), val_same (e := { e with s := s }) (by omega) (by omega) hr]
    exact hq
  · rw [ofV_app _ h0 (by omega), val_ne (by omega) (by omega) h0 (by omega) hpk]
    exact h p h0 (by omega) hp
theorem set_len (ats : List Int) (p v : Int) (e : En) : (setV ats p v e).regs.length = e.regs.length := by unfold setV; simp
theorem oc_ne {s : StV} {v : Option Int} {p : Prop} (h : Oc.go s v = Oc.ex) : p := by cases h
theorem oc_ne' {s s' : StV} {v : Option Int} {a : Int} {p : Prop} (h : Oc.go s v = Oc.hit s' a) : p := by cases h
theorem oc_ne2' {s : StV} {a : Int} {p : Prop} (h : Oc.ex = Oc.hit s a) : p := by cases h
theorem ocV_ex {i : In5} {b c : Int} {s : StV} {wl : List Int} (h0 : i.a = 4 → Cn.risTwo i.b = true ∨ Cn.risOne i.b = true) (h : ocV i.a i.b b c s wl = .ex) : i.e ∈ outsV i := by
  unfold ocV at h
  unfold outsV
  by_cases e1 : i.a = 1
  · rw [if_pos e1] at h; exact oc_ne h
  rw [if_neg e1] at h
  by_cases e2 : i.a = 2
  · rw [if_pos e2] at h; exact oc_ne h
  rw [if_neg e2] at h
  by_cases e3 : i.a = 3
  · rw [if_pos e3] at h; exact oc_ne h
  rw [if_neg e3] at h
  by_cases e4 : i.a = 4
  · rw [if_pos e4] at h
    rw [if_pos e4]
    by_cases c1 : Cn.isOne i.b = true
    · rw [if_pos c1] at h; exact oc_ne h
    rw [if_neg c1] at h
    have h2' : Cn.risTwo i.b = true := (h0 e4).resolve_right (fun hh => c1 (by rw [isOne_eq]; exact hh))
    by_cases c2 : Cn.isTwo i.b c = true
    · rw [if_pos c2] at h; exact oc_ne h
    rw [isTwo_eq h2'] at c2
    have c2 : (i.b = 14 ∨ i.b = 15) ∧ c = 0 := by
      rcases hd : decide ((i.b = 14 ∨ i.b = 15) ∧ c = 0) with _ | _
      · rw [hd] at c2; exact absurd rfl c2
      · exact of_decide_eq_true hd
    rw [if_pos c2.1]; simp
  rw [if_neg e4] at h
  rw [if_neg e4]
  by_cases e5 : i.a = 5 ∨ i.a = 7 ∨ i.a = 8 ∨ i.a = 9 ∨ i.a = 10 ∨ i.a = 11
  · rw [if_pos e5]; simp
  rw [if_neg e5]
  by_cases e6 : i.a = 6
  · rw [if_pos e6]; simp
  rw [if_neg (by omega), if_neg (by omega), if_neg (by omega), if_neg (by omega), if_neg (by omega), if_neg (by omega)] at h
  by_cases c1 : (s.inp.size : Int) ≤ s.read
  · rw [if_pos c1] at h; exact oc_ne h
  · rw [if_neg c1] at h; exact oc_ne h
theorem ocV_hit {i : In5} {b c : Int} {s s' : StV} {a : Int} {wl : List Int} (h : ocV i.a i.b b c s wl = .hit s' a) : i.a = 6 ∧ i.b ∈ outsV i := by
  unfold ocV at h
  by_cases e1 : i.a = 1
  · rw [if_pos e1] at h; exact oc_ne' h
  rw [if_neg e1] at h
  by_cases e2 : i.a = 2
  · rw [if_pos e2] at h; exact oc_ne' h
  rw [if_neg e2] at h
  by_cases e3 : i.a = 3
  · rw [if_pos e3] at h; exact oc_ne' h
  rw [if_neg e3] at h
  by_cases e4 : i.a = 4
  · rw [if_pos e4] at h
    by_cases c1 : Cn.isOne i.b = true
    · rw [if_pos c1] at h; exact oc_ne' h
    rw [if_neg c1] at h
    by_cases c2 : Cn.isTwo i.b c = true
    · rw [if_pos c2] at h; exact oc_ne' h
    · rw [if_neg c2] at h; exact oc_ne2' h
  rw [if_neg e4] at h
  by_cases e5 : i.a = 5
  · rw [if_pos e5] at h
    by_cases c1 : b < 0 ∨ (s.mem.length : Int) ≤ b
    · rw [if_pos c1] at h; exact oc_ne2' h
    · rw [if_neg c1] at h; exact oc_ne' h
  rw [if_neg e5] at h
  by_cases e6 : i.a = 6
  · refine ⟨e6, ?_⟩
    unfold outsV
    rw [if_neg e4, if_neg (by omega), if_pos e6]; simp
  rw [if_neg e6] at h
  by_cases e7 : i.a = 7
  · rw [if_pos e7] at h
    by_cases c1 : b ≠ 0
    · rw [if_pos c1] at h; exact oc_ne' h
    · rw [if_neg c1] at h; exact oc_ne2' h
  rw [if_neg e7] at h
  by_cases e8 : i.a = 8
  · rw [if_pos e8] at h
    by_cases c1 : b = 0
    · rw [if_pos c1] at h; exact oc_ne' h
    · rw [if_neg c1] at h; exact oc_ne2' h
  rw [if_neg e8] at h
  by_cases e9 : i.a = 9
  · rw [if_pos e9] at h
    by_cases c1 : b = c
    · rw [if_pos c1] at h; exact oc_ne' h
    · rw [if_neg c1] at h; exact oc_ne2' h
  rw [if_neg e9] at h
  by_cases e10 : i.a = 10 ∨ i.a = 11
  · rw [if_pos e10] at h
    by_cases c1 : 2000 < (s.out.size : Int) + (sayV i.a b).size
    · rw [if_pos c1] at h; exact oc_ne2' h
    · rw [if_neg c1] at h; exact oc_ne' h
  rw [if_neg e10] at h
  by_cases c1 : (s.inp.size : Int) ≤ s.read
  · rw [if_pos c1] at h; exact oc_ne' h
  · rw [if_neg c1] at h; exact oc_ne' h
section
variable {ats wl : List Int} {last : Int} {i : In5} {r : List In5} {q : Int} {e : En} {s : StV}
theorem goV_go (h : ocV i.a i.b (valV ats i.c e) (valV ats i.d e) e.s wl = .go s none) : goV ats wl last (i :: r) q e = goV ats wl last r (q + 1) { e with s := s } := by
  rw [goV_cons, insV_oc, h]; rfl
theorem goV_val {v : Int} (h : ocV i.a i.b (valV ats i.c e) (valV ats i.d e) e.s wl = .go s (some v)) : goV ats wl last (i :: r) q e = goV ats wl last r (q + 1) (setV ats q v { e with s := s }) := by
  rw [goV_cons, insV_oc, h]; rfl
theorem goV_ex (h : ocV i.a i.b (valV ats i.c e) (valV ats i.d e) e.s wl = .ex) (h0 : 0 ≤ i.e) : goV ats wl last (i :: r) q e = (i.e, e) := by
  rw [goV_cons, insV_oc, h]; exact if_pos h0
theorem goV_hit {a : Int} (h : ocV i.a i.b (valV ats i.c e) (valV ats i.d e) e.s wl = .hit s a) (h0 : 0 ≤ i.b) : goV ats wl last (i :: r) q e = (i.b, { e with s := s, hit := a }) := by
  rw [goV_cons, insV_oc, h]; exact if_pos h0
end
theorem SimV.leave {t a : TrG} {k : Nat} {m m' : List Int} {n n' : Nat} {e e' : En} (h : SimV t.ins k m n n' e e') (hl : m.length = k) {x x' : Int} (hx : OutV t x k) (ho : outAt a x' = outM (m ++ m') (outAt t x)) (h1 : a.slots = t.slots) (h2 : a.backs = t.backs) (hs : e'.s = e.s) :
    leaveV a (idA n') x' e' = leaveV t (idA n) x e := by
  obtain ⟨x0, x1, x2, x3⟩ := hx
  unfold leaveV
  rw [ho, h1, h2, hs]
  unfold outM
  dsimp only
  rw [map_of_app m' hl (named_iff.1 x2), map_of_app m' hl (named_iff.1 x3), h.vals (named_iff.1 x2), h.vals (named_iff.1 x3)]
end Go.Proofs.YtblmoilneiffgaaGreat

/- The plain laws of the package cell: what the statements ask of the numbers. No program is in sight here. -/
namespace Go.Proofs.YtblmoilneiffgaaGreat
open Go.RowKit
namespace Cn
def In (a : Int) : Prop := -9223372036854775808 ≤ a ∧ a ≤ 9223372036854775807

theorem in_w (n : Int) : In (wrap64 n) := by unfold In wrap64; omega

theorem tmod_sign {a b : Int} : (0 ≤ a → 0 ≤ a.tmod b) ∧ (a ≤ 0 → a.tmod b ≤ 0) := by
  refine ⟨fun h => Int.tmod_nonneg b h, fun h => ?_⟩
  have := Int.tmod_nonneg (a := -a) b (by omega)
  rw [Int.neg_tmod] at this; omega
theorem split_eq (a b : Int) : a.tdiv b * b + a.tmod b = a := by
  have := Int.mul_tdiv_add_tmod a b
  rw [Int.mul_comm]; omega

theorem rr_eq {a b : Int} (ha : In a) : rr a b = a.tmod b := by
  have hs := split_eq a b
  have hm : In (a.tmod b) := by
    have hg := @tmod_sign a b
    have : (a.tmod b).natAbs ≤ a.natAbs := by rw [Int.natAbs_tmod]; exact Nat.mod_le _ _
    unfold In at *; omega
  unfold rr
  generalize a.tdiv b = q at *
  generalize a.tmod b = r at *
  unfold In at *
  have e : wrap64 (wrap64 q * b) = wrap64 (q * b) := by
    unfold wrap64
    have : (q + 9223372036854775808) % 18446744073709551616 = q + 9223372036854775808 - 18446744073709551616 * ((q + 9223372036854775808) / 18446744073709551616) := by omega
    rw [this, show (q + 9223372036854775808 - 18446744073709551616 * ((q + 9223372036854775808) / 18446744073709551616) - 9223372036854775808) * b = q * b + (18446744073709551616 * (-((q + 9223372036854775808) / 18446744073709551616) * b)) from by
      rw [show q + 9223372036854775808 - 18446744073709551616 * ((q + 9223372036854775808) / 18446744073709551616) - 9223372036854775808 = q + 18446744073709551616 * (-((q + 9223372036854775808) / 18446744073709551616)) from by omega, Int.add_mul, Int.mul_assoc]]
    omega
  rw [e]
  unfold wrap64
  omega
theorem rtwo_two {op a b : Int} (ha : In a) : rtwo op a b = two op a b := by
  have hq : b ≠ 0 → rquo a b = quo a b ∧ rrem a b = rem a b := by
    intro h0
    have hr := rr_eq (b := b) ha
    have ho : rodd a b ↔ odd a b := by unfold rodd odd; rw [hr]
    unfold rquo rrem quo rem
    rw [if_neg h0, if_neg h0]
    by_cases h1 : b = -1
    · subst h1
      have h2 : a.tmod (-1) = 0 := by simp
      have h3 : ¬ odd a (-1) := by unfold odd; rw [h2]; simp
      rw [if_pos rfl, if_pos rfl, if_neg (fun h => h3 (ho.1 h)), if_neg (fun h => h3 (ho.1 h)), hr, h2]
      simp
    · rw [if_neg h1, if_neg h1, hr]
      by_cases h3 : odd a b
      · rw [if_pos h3, if_pos h3, if_pos (ho.2 h3), if_pos (ho.2 h3)]; exact ⟨rfl, rfl⟩
      · rw [if_neg h3, if_neg h3, if_neg (fun h => h3 (ho.1 h)), if_neg (fun h => h3 (ho.1 h))]; exact ⟨rfl, rfl⟩
  have hz : quo a 0 = 0 ∧ rem a 0 = 0 := ⟨rfl, rfl⟩
  have hw : ∀ n : Int, wrap64 (IntKind.u64.wrap n) = wrap64 n := by intro n; rw [IntKind.wrap_u64]; unfold wrap64; omega
  have hsh : rshift op a b = shift op a b := by
    unfold rshift shift
    rw [hw]
    by_cases h : b < 0 ∨ 63 < b
    · have h' : b < 0 ∨ 64 ≤ b := by omega
      rw [if_pos h, if_pos h']
    · have h' : ¬ (b < 0 ∨ 64 ≤ b) := by omega
      rw [if_neg h, if_neg h']
  unfold rtwo two
  rw [hsh]
  by_cases h0 : b = 0
  · subst h0; simp [hz]
  · simp [h0, hq h0]
end Cn
end Go.Proofs.YtblmoilneiffgaaGreat

/- Numbers of 64 bits, bit by bit: the plain laws that the statements of chapter 1 ask. No program is in sight here. -/
namespace Go.Proofs.YtblmoilneiffgaaGreat
open Go.RowKit
namespace Cn

def B (a : Int) : BitVec 64 := BitVec.ofInt 64 a
theorem wrap_toNat (r : BitVec 64) : IntKind.i64.wrap (r.toNat : Int) = r.toInt := by
  rw [IntKind.wrap_i64, BitVec.toInt_eq_toNat_cond]
  have := r.isLt
  split <;> omega
theorem bits_and (a b : Int) : bits .and .i64 a b = (B a &&& B b).toInt := wrap_toNat _
theorem bits_or (a b : Int) : bits .or .i64 a b = (B a ||| B b).toInt := wrap_toNat _
theorem bits_xor (a b : Int) : bits .xor .i64 a b = (B a ^^^ B b).toInt := wrap_toNat _
theorem B_w (a : Int) : (B a).toInt = wrap64 a := by
  unfold B
  rw [BitVec.toInt_ofInt, Int.bmod_def]; unfold wrap64; omega
theorem w_B {a : Int} {x : BitVec 64} (h : B a = x) : wrap64 a = x.toInt := by rw [← h, B_w]
theorem B_add (a b : Int) : B (a + b) = B a + B b := BitVec.ofInt_add a b
theorem B_neg (a : Int) : B (-a) = - B a := BitVec.ofInt_neg
theorem B_sub (a b : Int) : B (a - b) = B a - B b := by
  rw [Int.sub_eq_add_neg, B_add, B_neg, BitVec.sub_eq_add_neg]

theorem not_law {a : Int} : bits .xor .i64 (-1) a = wrap64 (-1 - a) := by
  rw [bits_xor]
  refine (w_B ?_).symm
  rw [B_sub]
  have h1 : B (-1) = BitVec.allOnes 64 := by decide
  rw [h1, BitVec.allOnes_sub_eq_not, BitVec.allOnes_xor]

end Cn
end Go.Proofs.YtblmoilneiffgaaGreat

/- All numbers of a run fit 64 bits. No program in sight. -/
set_option maxRecDepth 100000
namespace Go.Proofs.YtblmoilneiffgaaGreat
open Go.RowKit

theorem in0' : Cn.In 0 := by unfold Cn.In; omega
theorem in_bv (x : BitVec 64) : Cn.In x.toInt := by
  unfold Cn.In
  have h1 := x.toInt_lt
  have h2 := x.le_toInt
  omega
theorem in_flag (b : Bool) : Cn.In (Cn.flag b) := by unfold Cn.flag Cn.In; split <;> omega
theorem in_cmp (op a b : Int) : Cn.In (Cn.cmp op a b) := by
  unfold Cn.cmp; split
  · exact in_flag _
  · split <;> exact in_flag _
theorem in_shift (op a b : Int) : Cn.In (Cn.shift op a b) := by
  unfold Cn.shift; split
  · exact in0'
  · split <;> exact Cn.in_w _
theorem in_quo (a b : Int) : Cn.In (Cn.quo a b) := by
  unfold Cn.quo; split
  · exact in0'
  · split
    · exact Cn.in_w _
    · split <;> exact Cn.in_w _
theorem in_rem {a : Int} (ha : Cn.In a) (b : Int) : Cn.In (Cn.rem a b) := by
  unfold Cn.rem; split
  · exact in0'
  · split
    · exact in0'
    · split
      · exact Cn.in_w _
      · have h := Cn.tmod_sign (a := a) (b := b)
        have h2 := Cn.split_eq a b
        unfold Cn.In at *
        have h3 : (a.tmod b).natAbs ≤ a.natAbs := by rw [Int.natAbs_tmod]; exact Nat.mod_le _ _
        omega
theorem in_two {op a b : Int} (ha : Cn.In a) (hb : Cn.In b) : Cn.In (Cn.two op a b) := by
  unfold Cn.two
  by_cases e11 : op = 11
  · rw [if_pos e11]; exact Cn.in_w _
  rw [if_neg e11]
  by_cases e12 : op = 12
  · rw [if_pos e12]; exact Cn.in_w _
  rw [if_neg e12]
  by_cases e13 : op = 13
  · rw [if_pos e13]; exact Cn.in_w _
  rw [if_neg e13]
  by_cases e14 : op = 14
  · rw [if_pos e14]; exact in_quo _ _
  rw [if_neg e14]
  by_cases e15 : op = 15
  · rw [if_pos e15]; exact in_rem ha _
  rw [if_neg e15]
  by_cases e17 : op = 17
  · rw [if_pos e17]; rw [Cn.bits_and]; exact in_bv _
  rw [if_neg e17]
  by_cases e18 : op = 18
  · rw [if_pos e18]; rw [Cn.bits_or]; exact in_bv _
  rw [if_neg e18]
  by_cases e19 : op = 19
  · rw [if_pos e19]; rw [Cn.bits_xor]; exact in_bv _
  rw [if_neg e19]
  by_cases e21 : op = 21
  · rw [if_pos e21]; exact in_shift _ _ _
  rw [if_neg e21]
  by_cases e22 : op = 22
  · rw [if_pos e22]; exact in_shift _ _ _
  rw [if_neg e22]
  by_cases e23 : op = 23
  · rw [if_pos e23]; exact in_cmp _ _ _
  rw [if_neg e23]
  by_cases e24 : op = 24
  · rw [if_pos e24]; exact in_cmp _ _ _
  rw [if_neg e24]
  by_cases e25 : op = 25
  · rw [if_pos e25]; exact in_cmp _ _ _
  rw [if_neg e25]
  by_cases e28 : op = 28
  · rw [if_pos e28]; unfold Cn.In at *; omega
  rw [if_neg e28]
  by_cases e29 : op = 29
  · rw [if_pos e29]; unfold Cn.In at *; omega
  rw [if_neg e29]
  exact in0'
theorem in_one (op a : Int) : Cn.In (Cn.one op a) := by
  unfold Cn.one
  by_cases e16 : op = 16
  · rw [if_pos e16]; exact Cn.in_w _
  rw [if_neg e16]
  by_cases e20 : op = 20
  · rw [if_pos e20]; rw [Cn.bits_xor]; exact in_bv _
  rw [if_neg e20]
  by_cases e26 : op = 26
  · rw [if_pos e26]; exact in_flag _
  rw [if_neg e26]
  by_cases e27 : op = 27
  · rw [if_pos e27]; exact in_flag _
  rw [if_neg e27]
  exact in0'
theorem rone_one (op a : Int) : Cn.rone op a = Cn.one op a := by
  unfold Cn.rone Cn.one; rw [Cn.not_law]
def InL (l : List Int) : Prop := ∀ x ∈ l, Cn.In x
theorem InL.get {l : List Int} (h : InL l) (i : Int) : Cn.In (getI l i) := by
  unfold getI
  rw [List.getD_eq_getElem?_getD]
  cases hx : l[i.toNat]? with
  | none => exact in0'
  | some x => exact h x (List.mem_of_getElem? hx)
theorem InL.set {l : List Int} (h : InL l) (i : Nat) {x : Int} (hx : Cn.In x) : InL (l.set i x) := fun y hy => by
  rcases List.mem_or_eq_of_mem_set hy with h' | h'
  · exact h y h'
  · rw [h']; exact hx
structure EnIn (e : En) : Prop where
  regs : InL e.regs
  mem : InL e.s.mem
  st : InL e.s.stack
  bk : InL e.s.back
theorem EnIn.set {e : En} (h : EnIn e) (ats : List Int) (p : Int) {v : Int} (hv : Cn.In v) : EnIn (setV ats p v e) := ⟨h.regs.set _ hv, h.mem, h.st, h.bk⟩
theorem EnIn.val {e : En} (h : EnIn e) (ats : List Int) (p : Int) : Cn.In (valV ats p e) := h.regs.get _
def OcIn (s : StV) : Oc → Prop
  | .go s' v => (InL s.mem → InL s'.mem) ∧ s'.stack = s.stack ∧ s'.back = s.back ∧ ∀ x, v = some x → Cn.In x
  | .ex => True
  | .hit s' a => (InL s.mem → InL s'.mem) ∧ s'.stack = s.stack ∧ s'.back = s.back ∧ 0 ≤ a
theorem ocV_in {op a b c : Int} {s : StV} (wl : List Int) (ha : op = 1 → Cn.In a) (hb : Cn.In b) (hc : Cn.In c) (hm : InL s.mem) (hst : InL s.stack) (hbk : InL s.back) : OcIn s (ocV op a b c s wl) := by
  have go : ∀ {x : Int}, Cn.In x → OcIn s (.go s (some x)) := fun h => ⟨id, rfl, rfl, fun y hy => by cases hy; exact h⟩
  have go0 : OcIn s (.go s none) := ⟨id, rfl, rfl, fun y hy => by cases hy⟩
  unfold ocV
  by_cases e1 : op = 1
  · rw [if_pos e1]; exact go (ha e1)
  rw [if_neg e1]
  by_cases e2 : op = 2
  · rw [if_pos e2]; exact go (hst.get _)
  rw [if_neg e2]
  by_cases e3 : op = 3
  · rw [if_pos e3]; exact go (hbk.get _)
  rw [if_neg e3]
  by_cases e4 : op = 4
  · rw [if_pos e4]
    by_cases c1 : Cn.isOne a = true
    · rw [if_pos c1]; exact go (in_one _ _)
    rw [if_neg c1]
    by_cases c2 : Cn.isTwo a c = true
    · rw [if_pos c2]; exact go (in_two hb hc)
    · rw [if_neg c2]; exact True.intro
  rw [if_neg e4]
  by_cases e5 : op = 5
  · rw [if_pos e5]
    by_cases c1 : b < 0 ∨ (s.mem.length : Int) ≤ b
    · rw [if_pos c1]; exact True.intro
    · rw [if_neg c1]; exact go (hm.get _)
  rw [if_neg e5]
  by_cases e6 : op = 6
  · rw [if_pos e6]
    by_cases c1 : b < 0 ∨ (s.mem.length : Int) ≤ b
    · rw [if_pos c1]; exact True.intro
    rw [if_neg c1]
    by_cases c2 : b ∈ wl
    · rw [if_pos c2]; exact ⟨fun h => h.set _ hc, rfl, rfl, by omega⟩
    · rw [if_neg c2]; exact ⟨fun h => h.set _ hc, rfl, rfl, fun y hy => by cases hy⟩
  rw [if_neg e6]
  by_cases e7 : op = 7
  · rw [if_pos e7]
    by_cases c1 : b ≠ 0
    · rw [if_pos c1]; exact go0
    · rw [if_neg c1]; exact True.intro
  rw [if_neg e7]
  by_cases e8 : op = 8
  · rw [if_pos e8]
    by_cases c1 : b = 0
    · rw [if_pos c1]; exact go0
    · rw [if_neg c1]; exact True.intro
  rw [if_neg e8]
  by_cases e9 : op = 9
  · rw [if_pos e9]
    by_cases c1 : b = c
    · rw [if_pos c1]; exact go0
    · rw [if_neg c1]; exact True.intro
  rw [if_neg e9]
  by_cases e10 : op = 10 ∨ op = 11
  · rw [if_pos e10]
    by_cases c1 : 2000 < (s.out.size : Int) + (sayV op b).size
    · rw [if_pos c1]; exact True.intro
    · rw [if_neg c1]; exact ⟨id, rfl, rfl, fun y hy => by cases hy⟩
  rw [if_neg e10]
  by_cases c1 : (s.inp.size : Int) ≤ s.read
  · rw [if_pos c1]; exact go (by unfold Cn.In; omega)
  · rw [if_neg c1]
    refine ⟨id, rfl, rfl, fun y hy => ?_⟩
    cases hy
    unfold Cn.In sb
    have := ((s.inp.data[s.read.toNat]?).getD 0).toNat_lt
    omega
theorem go_in {ats : List Int} {q : Int} {e : En} {s : StV} {v : Option Int} (h : EnIn e) (ho : OcIn e.s (.go s v)) : EnIn (match v with | none => { e with s := s } | some x => setV ats q x { e with s := s }) := by
  obtain ⟨h1, h2, h3, h4⟩ := ho
  have hb : EnIn { e with s := s } := ⟨h.regs, h1 h.mem, by show InL s.stack; rw [h2]; exact h.st, by show InL s.back; rw [h3]; exact h.bk⟩
  cases v with
  | none => exact hb
  | some x => exact hb.set ats q (h4 x rfl)
end Go.Proofs.YtblmoilneiffgaaGreat

/- What is asked of a pass over traces; of a run's exit. No program in sight. -/
set_option maxRecDepth 100000
namespace Go.Proofs.YtblmoilneiffgaaGreat
open Go.RowKit

def InT (v : TrG) : Prop := ∀ i ∈ v.ins, i.a = 1 → Cn.In i.b
structure PassOk (f : TrG → TrG) : Prop where
  right : ∀ v, RightV v → RightV (f v)
  nums : ∀ v, (f v).start = v.start ∧ (f v).slots = v.slots ∧ (f v).backs = v.backs ∧ (f v).grow = v.grow ∧ (f v).growBack = v.growBack
  inT : ∀ v, RightV v → InT v → InT (f v)
  runs : ∀ v s wl, RightV v → endV (f v) (runG (f v) s wl) = endV v (runG v s wl) ∧ (runG (f v) s wl).2.hit = (runG v s wl).2.hit ∧ (outAt (f v) (runG (f v) s wl).1).steps = (outAt v (runG v s wl).1).steps
theorem PassOk.may {f : TrG → TrG} (h : PassOk f) (v : TrG) (s : StV) : mayV (f v) s = mayV v s := by
  obtain ⟨h1, h2, h3, h4, h5⟩ := h.nums v
  unfold mayV; rw [h1, h2, h3, h4, h5]
theorem goV_out {t : TrG} (hr : RightV t) (ats wl : List Int) : ∀ (r : List In5) (k : Nat) (e : En), t.ins.drop k = r → k ≤ t.ins.length → ∃ j, j ≤ t.ins.length ∧ OutV t (goV ats wl t.last r k e).1 j
  | [], k, e, _, _ => ⟨t.ins.length, Nat.le_refl _, hr.last⟩
  | i :: r, k, e, hd, hk => by
    have hi : t.ins[k]? = some i := by rw [← List.head?_drop, hd]; rfl
    have hd' : t.ins.drop (k + 1) = r := by rw [← List.drop_drop, hd]; rfl
    have hlt : k < t.ins.length := (List.getElem?_eq_some_iff.1 hi).1
    have hE := hr.each k i hi
    rw [goV_cons]
    split
    · next h => exact ⟨k, hk, hE.2.2.2.2.2 _ (insV_exit hE h)⟩
    · exact goV_out hr ats wl r (k + 1) _ hd' (by omega)
theorem runG_out {t : TrG} (hr : RightV t) (s : StV) (wl : List Int) : 0 ≤ (runG t s wl).1 ∧ (runG t s wl).1 < t.outs.length := by
  obtain ⟨j, _, h⟩ := goV_out hr (idA t.ins.length) wl t.ins 0 (en0 t.ins.length s) rfl (Nat.zero_le _)
  exact ⟨h.1, h.2.1⟩
/-! ### Reckoning ahead -/
end Go.Proofs.YtblmoilneiffgaaGreat

/- Which traces may be, as a test that can be reckoned. No program in sight. -/
set_option maxRecDepth 100000
namespace Go.Proofs.YtblmoilneiffgaaGreat
open Go.RowKit

def namedB (t : TrG) (l : List Int) (k : Nat) : Bool := l.all fun p => decide (0 ≤ p) && (decide (p < (k : Int)) && givesV (insAt t p).a)
def outB (t : TrG) (x : Int) (k : Nat) : Bool := decide (0 ≤ x) && (decide (x < (t.outs.length : Int)) && (namedB t (outAt t x).stack k && namedB t (outAt t x).back k))
def eachB (t : TrG) (k : Nat) (i : In5) : Bool :=
  decide (1 ≤ i.a) && (decide (i.a ≤ 12) && ((!decide (i.a = 4) || (Cn.risTwo i.b || Cn.risOne i.b)) && ((!decide (i.a = 2) || (decide (0 ≤ i.b) && decide (i.b ≤ t.slots - 1))) && ((!decide (i.a = 3) || (decide (0 ≤ i.b) && decide (i.b ≤ t.backs - 1))) && (namedB t (usesV i) k && (outsV i).all fun x => outB t x k)))))
def exitB (t : TrG) (o : OuV) : Bool := decide (0 ≤ o.steps) && (decide (o.steps ≤ 120) && (decide (0 ≤ o.ip) && (decide (o.ip ≤ 2999) && (decide ((o.stack.length : Int) ≤ t.slots + t.grow) && decide ((o.back.length : Int) ≤ t.backs + t.growBack)))))
def headB (t : TrG) : Bool := decide (t.ins.length ≤ 1000) && (decide (t.outs.length ≤ 300) && (decide (0 ≤ t.start) && (decide (t.start ≤ 2999) && (decide (0 ≤ t.slots) && (decide (t.slots ≤ 48) && (decide (0 ≤ t.grow) && (decide (t.grow ≤ 48) && (decide (0 ≤ t.backs) && (decide (t.backs ≤ 48) && (decide (0 ≤ t.growBack) && decide (t.growBack ≤ 48)))))))))))
def eachL (t : TrG) : Nat → List In5 → Bool
  | _, [] => true
  | k, i :: r => eachB t k i && eachL t (k + 1) r
def rightB (t : TrG) : Bool := headB t && (eachL t 0 t.ins && (t.outs.all (exitB t) && (t.cells.isEmpty && (outB t t.last t.ins.length && decide (1 ≤ (outAt t t.last).steps)))))
theorem namedB_ok {t : TrG} {l : List Int} {k : Nat} (h : namedB t l k = true) : NamedV t l k := fun p hp => by
  have := List.all_eq_true.1 h p hp
  simpa [and_assoc] using this
theorem outB_ok {t : TrG} {x : Int} {k : Nat} (h : outB t x k = true) : OutV t x k := by
  unfold outB at h
  simp only [Bool.and_eq_true, decide_eq_true_eq] at h
  exact ⟨h.1, h.2.1, namedB_ok h.2.2.1, namedB_ok h.2.2.2⟩
theorem eachB_ok {t : TrG} {k : Nat} {i : In5} (h : eachB t k i = true) : EachV t k i := by
  unfold eachB at h
  simp only [Bool.and_eq_true, Bool.or_eq_true, Bool.not_eq_true', decide_eq_true_eq, decide_eq_false_iff_not] at h
  obtain ⟨h1, h2, h3, h4, h5, h6, h7⟩ := h
  exact ⟨⟨h1, h2⟩, fun e => h3.resolve_left (fun n => n e), fun e => h4.resolve_left (fun n => n e), fun e => h5.resolve_left (fun n => n e), namedB_ok h6, fun x hx => outB_ok (List.all_eq_true.1 h7 x hx)⟩
theorem eachL_ok {t : TrG} : ∀ (l : List In5) (k : Nat), eachL t k l = true → ∀ (j : Nat) (i : In5), l[j]? = some i → EachV t (k + j) i
  | [], k, _, j, i, h => by simp at h
  | x :: r, k, h, j, i, hi => by
    unfold eachL at h
    rw [Bool.and_eq_true] at h
    cases j with
    | zero =>
      have : x = i := by simpa using hi
      subst this; exact eachB_ok h.1
    | succ j =>
      have := eachL_ok r (k + 1) h.2 j i (by simpa using hi)
      rw [show k + (j + 1) = k + 1 + j by omega]; exact this
theorem rightB_ok {t : TrG} (h : rightB t = true) : RightV t := by
  unfold rightB at h
  simp only [Bool.and_eq_true, decide_eq_true_eq] at h
  obtain ⟨h1, h2, h3, h4, h5, h6⟩ := h
  unfold headB at h1
  simp only [Bool.and_eq_true, decide_eq_true_eq] at h1
  obtain ⟨a1, a2, a3, a4, a5, a6, a7, a8, a9, a10, a11, a12⟩ := h1
  refine ⟨⟨a1, a2, ⟨a3, a4⟩, ⟨a5, a6⟩, ⟨a7, a8⟩, ⟨a9, a10⟩, a11, a12⟩, fun k i hi => ?_, fun k o ho => ?_, fun k c hc => ?_, outB_ok h5, h6⟩
  · have := eachL_ok t.ins 0 h2 k i hi
    rw [Nat.zero_add] at this; exact this
  · have := List.all_eq_true.1 h3 o (List.mem_of_getElem? ho)
    unfold exitB at this
    simp only [Bool.and_eq_true, decide_eq_true_eq] at this
    obtain ⟨b1, b2, b3, b4, b5, b6⟩ := this
    exact ⟨⟨b1, b2⟩, ⟨b3, b4⟩, b5, b6⟩
  · rw [List.isEmpty_iff.1 h4] at hc; simp at hc
end Go.Proofs.YtblmoilneiffgaaGreat
