/- An instruction by what it names: its outcome, out of the values alone. No program in sight. -/
import Derived.Test.YtblmoilneiffgaaEvP
set_option maxRecDepth 100000
namespace Go.Proofs.Ytblmoilneiffgaa
open Go.RowKit

inductive Oc where
  | go (s : StV) (v : Option Int)
  | ex
  | hit (s : StV) (a : Int)
/-- What an instruction does, by its operation, its A and the values of B and C. -/
def ocV (op a b c : Int) (s : StV) (wl : List Int) : Oc :=
  if op = 1 then .go s (some a) else
  if op = 2 then .go s (some (getI s.stack ((s.stack.length : Int) - 1 - a))) else
  if op = 3 then .go s (some (getI s.back ((s.back.length : Int) - 1 - a))) else
  if op = 4 then (if Cn.isOne a = true then .go s (some (Cn.one a b)) else if Cn.isTwo a c = true then .go s (some (Cn.two a b c)) else .ex) else
  if op = 5 then (if b < 0 ∨ (s.mem.length : Int) ≤ b then .ex else .go s (some (getI s.mem b))) else
  if op = 6 then (if b < 0 ∨ (s.mem.length : Int) ≤ b then .ex else if b ∈ wl then .hit { s with mem := s.mem.set b.toNat c } b else .go { s with mem := s.mem.set b.toNat c } none) else
  if op = 7 then (if b ≠ 0 then .go s none else .ex) else
  if op = 8 then (if b = 0 then .go s none else .ex) else
  if op = 9 then (if b = c then .go s none else .ex) else
  if op = 10 ∨ op = 11 then (if 2000 < (s.out.size : Int) + (sayV op b).size then .ex else .go { s with out := s.out ++ sayV op b } none) else
  if (s.inp.size : Int) ≤ s.read then .go s (some (-1)) else .go { s with read := s.read + 1 } (some (sb s.inp s.read))
/-- What is told of an outcome. -/
def putOc (ats : List Int) (place : Int) (i : In5) (e : En) : Oc → Int × En
  | .go s none => (-1, { e with s := s })
  | .go s (some v) => (-1, setV ats place v { e with s := s })
  | .ex => (i.e, e)
  | .hit s a => (i.b, { e with s := s, hit := a })
theorem insV_oc (ats wl : List Int) (place : Int) (i : In5) (e : En) : insV ats wl place i e = putOc ats place i e (ocV i.a i.b (valV ats i.c e) (valV ats i.d e) e.s wl) := by
  unfold insV ocV
  by_cases e1 : i.a = 1
  · rw [if_pos e1, if_pos e1]; rfl
  rw [if_neg e1, if_neg e1]
  by_cases e2 : i.a = 2
  · rw [if_pos e2, if_pos e2]; rfl
  rw [if_neg e2, if_neg e2]
  by_cases e3 : i.a = 3
  · rw [if_pos e3, if_pos e3]; rfl
  rw [if_neg e3, if_neg e3]
  by_cases e4 : i.a = 4
  · rw [if_pos e4, if_pos e4]; unfold calcV; dsimp only
    by_cases c1 : Cn.isOne i.b = true
    · rw [if_pos c1, if_pos c1]; rfl
    rw [if_neg c1, if_neg c1]
    by_cases c2 : Cn.isTwo i.b (valV ats i.d e) = true
    · rw [if_pos c2, if_pos c2]; rfl
    · rw [if_neg c2, if_neg c2]; rfl
  rw [if_neg e4, if_neg e4]
  by_cases e5 : i.a = 5
  · rw [if_pos (Or.inl e5), if_pos e5]; unfold memV; dsimp only
    by_cases c1 : valV ats i.c e < 0 ∨ (e.s.mem.length : Int) ≤ valV ats i.c e
    · rw [if_pos c1, if_pos c1]; rfl
    · rw [if_neg c1, if_neg c1, if_pos e5]; rfl
  rw [if_neg e5]
  by_cases e6 : i.a = 6
  · rw [if_pos (Or.inr e6), if_pos e6]; unfold memV; dsimp only
    by_cases c1 : valV ats i.c e < 0 ∨ (e.s.mem.length : Int) ≤ valV ats i.c e
    · rw [if_pos c1, if_pos c1]; rfl
    · rw [if_neg c1, if_neg c1, if_neg e5]
      by_cases c2 : valV ats i.c e ∈ wl
      · rw [if_pos c2, if_pos c2]; rfl
      · rw [if_neg c2, if_neg c2]; rfl
  rw [if_neg (by omega), if_neg e6]
  by_cases e7 : i.a = 7
  · rw [if_pos e7, if_pos e7]
    by_cases c1 : valV ats i.c e ≠ 0
    · rw [if_pos c1, if_pos c1]; rfl
    · rw [if_neg c1, if_neg c1]; rfl
  rw [if_neg e7, if_neg e7]
  by_cases e8 : i.a = 8
  · rw [if_pos e8, if_pos e8]
    by_cases c1 : valV ats i.c e = 0
    · rw [if_pos c1, if_pos c1]; rfl
    · rw [if_neg c1, if_neg c1]; rfl
  rw [if_neg e8, if_neg e8]
  by_cases e9 : i.a = 9
  · rw [if_pos e9, if_pos e9]
    by_cases c1 : valV ats i.c e = valV ats i.d e
    · rw [if_pos c1, if_pos c1]; rfl
    · rw [if_neg c1, if_neg c1]; rfl
  rw [if_neg e9, if_neg e9]
  by_cases e10 : i.a = 10 ∨ i.a = 11
  · rw [if_pos e10, if_pos e10]; unfold tellV; dsimp only
    by_cases c1 : 2000 < (e.s.out.size : Int) + (sayV i.a (valV ats i.c e)).size
    · rw [if_pos c1, if_pos c1]; rfl
    · rw [if_neg c1, if_neg c1]; rfl
  rw [if_neg e10, if_neg e10]
  unfold askV
  by_cases c1 : (e.s.inp.size : Int) ≤ e.s.read
  · rw [if_pos c1, if_pos c1]; rfl
  · rw [if_neg c1, if_neg c1]; rfl
/-- B is looked at only where it is named, C likewise. -/
theorem ocV_uses {i : In5} {b b' c c' : Int} {s : StV} {wl : List Int} (h0 : i.a = 4 → Cn.risTwo i.b = true ∨ Cn.risOne i.b = true) (hb : i.c ∈ usesV i → b = b') (hc : (usesV i).length = 2 → c = c') : ocV i.a i.b b c s wl = ocV i.a i.b b' c' s wl := by
  have u1 : (4 ≤ i.a ∧ i.a ≤ 11) → b = b' := fun h => by
    apply hb; unfold usesV
    split
    · split <;> simp
    · split
      · simp
      · rw [if_pos (by omega)]; simp
  have u2 : i.a = 6 ∨ i.a = 9 → c = c' := fun h => by
    apply hc; unfold usesV
    rw [if_neg (by omega), if_neg (by omega), if_pos h]; rfl
  unfold ocV
  by_cases e1 : i.a = 1
  · rw [if_pos e1, if_pos e1]
  rw [if_neg e1, if_neg e1]
  by_cases e2 : i.a = 2
  · rw [if_pos e2, if_pos e2]
  rw [if_neg e2, if_neg e2]
  by_cases e3 : i.a = 3
  · rw [if_pos e3, if_pos e3]
  rw [if_neg e3, if_neg e3]
  by_cases e4 : i.a = 4
  · rw [if_pos e4, if_pos e4, u1 (by omega)]
    by_cases c1 : Cn.isOne i.b = true
    · rw [if_pos c1, if_pos c1]
    · have h2 : Cn.risTwo i.b = true := (h0 e4).resolve_right (fun hh => c1 (by rw [isOne_eq]; exact hh))
      rw [hc (by unfold usesV; rw [if_pos e4, if_pos h2]; rfl)]
  rw [if_neg e4, if_neg e4]
  by_cases e5 : i.a = 5
  · rw [if_pos e5, if_pos e5, u1 (by omega)]
  rw [if_neg e5, if_neg e5]
  by_cases e6 : i.a = 6
  · rw [if_pos e6, if_pos e6, u1 (by omega), u2 (by omega)]
  rw [if_neg e6, if_neg e6]
  by_cases e7 : i.a = 7
  · rw [if_pos e7, if_pos e7, u1 (by omega)]
  rw [if_neg e7, if_neg e7]
  by_cases e8 : i.a = 8
  · rw [if_pos e8, if_pos e8, u1 (by omega)]
  rw [if_neg e8, if_neg e8]
  by_cases e9 : i.a = 9
  · rw [if_pos e9, if_pos e9, u1 (by omega), u2 (by omega)]
  rw [if_neg e9, if_neg e9]
  by_cases e10 : i.a = 10 ∨ i.a = 11
  · rw [if_pos e10, if_pos e10, u1 (by omega)]
  rw [if_neg e10, if_neg e10]
def OcG (op : Int) : Oc → Prop
  | .go _ none => givesV op = false
  | .go _ (some _) => givesV op = true
  | .ex => True
  | .hit _ _ => givesV op = false
/-- Instructions give a value just if they are of the kind that gives. -/
theorem ocV_gives {op : Int} (a b c : Int) (s : StV) (wl : List Int) (h : 1 ≤ op ∧ op ≤ 12) : OcG op (ocV op a b c s wl) := by
  have g1 : (op = 1 ∨ op = 2 ∨ op = 3 ∨ op = 4 ∨ op = 5 ∨ op = 12) → givesV op = true := fun h => decide_eq_true h
  have g0 : ¬ (op = 1 ∨ op = 2 ∨ op = 3 ∨ op = 4 ∨ op = 5 ∨ op = 12) → givesV op = false := fun h => decide_eq_false h
  unfold ocV
  by_cases e1 : op = 1
  · rw [if_pos e1]; exact g1 (by omega)
  rw [if_neg e1]
  by_cases e2 : op = 2
  · rw [if_pos e2]; exact g1 (by omega)
  rw [if_neg e2]
  by_cases e3 : op = 3
  · rw [if_pos e3]; exact g1 (by omega)
  rw [if_neg e3]
  by_cases e4 : op = 4
  · rw [if_pos e4]
    by_cases c1 : Cn.isOne a = true
    · rw [if_pos c1]; exact g1 (by omega)
    rw [if_neg c1]
    by_cases c2 : Cn.isTwo a c = true
    · rw [if_pos c2]; exact g1 (by omega)
    · rw [if_neg c2]; exact True.intro
  rw [if_neg e4]
  by_cases e5 : op = 5
  · rw [if_pos e5]
    by_cases c1 : b < 0 ∨ (s.mem.length : Int) ≤ b
    · rw [if_pos c1]; exact True.intro
    · rw [if_neg c1]; exact g1 (by omega)
  rw [if_neg e5]
  by_cases e6 : op = 6
  · rw [if_pos e6]
    by_cases c1 : b < 0 ∨ (s.mem.length : Int) ≤ b
    · rw [if_pos c1]; exact True.intro
    rw [if_neg c1]
    by_cases c2 : b ∈ wl
    · rw [if_pos c2]; exact g0 (by omega)
    · rw [if_neg c2]; exact g0 (by omega)
  rw [if_neg e6]
  by_cases e7 : op = 7
  · rw [if_pos e7]
    by_cases c1 : b ≠ 0
    · rw [if_pos c1]; exact g0 (by omega)
    · rw [if_neg c1]; exact True.intro
  rw [if_neg e7]
  by_cases e8 : op = 8
  · rw [if_pos e8]
    by_cases c1 : b = 0
    · rw [if_pos c1]; exact g0 (by omega)
    · rw [if_neg c1]; exact True.intro
  rw [if_neg e8]
  by_cases e9 : op = 9
  · rw [if_pos e9]
    by_cases c1 : b = c
    · rw [if_pos c1]; exact g0 (by omega)
    · rw [if_neg c1]; exact True.intro
  rw [if_neg e9]
  by_cases e10 : op = 10 ∨ op = 11
  · rw [if_pos e10]
    by_cases c1 : 2000 < (s.out.size : Int) + (sayV op b).size
    · rw [if_pos c1]; exact True.intro
    · rw [if_neg c1]; exact g0 (by omega)
  rw [if_neg e10]
  by_cases c1 : (s.inp.size : Int) ≤ s.read
  · rw [if_pos c1]; exact g1 (by omega)
  · rw [if_neg c1]; exact g1 (by omega)
/-! ### Places that are registers -/
def idA (n : Nat) : List Int := (List.range n).map fun (k : Nat) => (k : Int)
theorem idA_len (n : Nat) : (idA n).length = n := by unfold idA; simp
theorem idA_at {n : Nat} {p : Int} (h0 : 0 ≤ p) (h1 : p < n) : getI (idA n) p = p := by
  unfold getI idA
  rw [List.getD_eq_getElem?_getD, List.getElem?_map, List.getElem?_range (by omega)]
  simp; omega
theorem idA_ok (n : Nat) : AtOk (idA n) n := fun q hq => by
  rw [idA_len] at hq
  have := idA_at (n := n) (p := q) (by omega) (by omega)
  unfold getI at this
  rw [Int.toNat_natCast] at this
  rw [this]; omega
theorem val_id {n : Nat} {p : Int} {e : En} (h0 : 0 ≤ p) (h1 : p < n) : valV (idA n) p e = getI e.regs p := by unfold valV; rw [idA_at h0 h1]
theorem val_same {n : Nat} {p v : Int} {e : En} (h0 : 0 ≤ p) (h1 : p < n) (hr : e.regs.length = n) : valV (idA n) p (setV (idA n) p v e) = v := by
  rw [val_id h0 h1]; unfold setV; rw [idA_at h0 h1]; unfold getI
  rw [List.getD_eq_getElem?_getD, List.getElem?_set_self (by omega)]; rfl
theorem val_ne {n : Nat} {p q v : Int} {e : En} (h0 : 0 ≤ p) (h1 : p < n) (k0 : 0 ≤ q) (k1 : q < n) (hn : q ≠ p) : valV (idA n) q (setV (idA n) p v e) = valV (idA n) q e := by
  rw [val_id k0 k1, val_id k0 k1]; unfold setV; rw [idA_at h0 h1]; unfold getI
  rw [List.getD_eq_getElem?_getD, List.getElem?_set_ne (by omega), List.getD_eq_getElem?_getD]
/-- A machine that goes in, in n registers. -/
def en0 (n : Nat) (s : StV) : En := ⟨s, List.replicate n 0, -1⟩
/-- What a trace does, in registers: the exit, and what there is then. -/
def runA (v : TrG) (ats : List Int) (n : Nat) (s : StV) (wl : List Int) : Int × En := goV ats wl v.last v.ins 0 (en0 n s)
/-- What a trace does, in as many registers as it has places: the exit, and what there is then. -/
def runG (t : TrG) (s : StV) (wl : List Int) : Int × En := runA t (idA t.ins.length) t.ins.length s wl
def endV (t : TrG) (g : Int × En) : StV := leaveV t (idA t.ins.length) g.1 g.2
end Go.Proofs.Ytblmoilneiffgaa
