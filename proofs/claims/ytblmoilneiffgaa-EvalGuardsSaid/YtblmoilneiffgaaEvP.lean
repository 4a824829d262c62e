/- Which traces may be, in plain words. No program in sight. -/
import Derived.Test.YtblmoilneiffgaaEvV
set_option maxRecDepth 100000
namespace Go.Proofs.Ytblmoilneiffgaa
open Go.RowKit

def givesV (op : Int) : Bool := decide (op = 1 ∨ op = 2 ∨ op = 3 ∨ op = 4 ∨ op = 5 ∨ op = 12)
/-- The places that an instruction names. -/
def usesV (i : In5) : List Int :=
  if i.a = 4 then (if Cn.risTwo i.b = true then [i.c, i.d] else [i.c]) else
  if i.a = 5 ∨ i.a = 7 ∨ i.a = 8 ∨ i.a = 10 ∨ i.a = 11 then [i.c] else
  if i.a = 6 ∨ i.a = 9 then [i.c, i.d] else []
/-- The exits that an instruction names. -/
def outsV (i : In5) : List Int :=
  if i.a = 4 then (if i.b = 14 ∨ i.b = 15 then [i.e] else []) else
  if i.a = 5 ∨ i.a = 7 ∨ i.a = 8 ∨ i.a = 9 ∨ i.a = 10 ∨ i.a = 11 then [i.e] else
  if i.a = 6 then [i.e, i.b] else []
def in0 : In5 := ⟨0, 0, 0, 0, 0⟩
def insAt (t : TrG) (p : Int) : In5 := t.ins.getD p.toNat in0
/-- Places ahead of one, that give. -/
def NamedV (t : TrG) (l : List Int) (than : Nat) : Prop := ∀ p ∈ l, 0 ≤ p ∧ p < than ∧ givesV (insAt t p).a = true
/-- An exit that may be named at a place. -/
def OutV (t : TrG) (x : Int) (k : Nat) : Prop := 0 ≤ x ∧ x < t.outs.length ∧ NamedV t (outAt t x).stack k ∧ NamedV t (outAt t x).back k
def EachV (t : TrG) (k : Nat) (i : In5) : Prop :=
  (1 ≤ i.a ∧ i.a ≤ 12) ∧ (i.a = 4 → Cn.risTwo i.b = true ∨ Cn.risOne i.b = true) ∧ (i.a = 2 → 0 ≤ i.b ∧ i.b ≤ t.slots - 1) ∧ (i.a = 3 → 0 ≤ i.b ∧ i.b ≤ t.backs - 1) ∧ NamedV t (usesV i) k ∧ ∀ x ∈ outsV i, OutV t x k
def ExitV (t : TrG) (o : OuV) : Prop := (0 ≤ o.steps ∧ o.steps ≤ 120) ∧ (0 ≤ o.ip ∧ o.ip ≤ 2999) ∧ (o.stack.length : Int) ≤ t.slots + t.grow ∧ (o.back.length : Int) ≤ t.backs + t.growBack
def HeadV (t : TrG) : Prop := t.ins.length ≤ 1000 ∧ t.outs.length ≤ 300 ∧ (0 ≤ t.start ∧ t.start ≤ 2999) ∧ (0 ≤ t.slots ∧ t.slots ≤ 48) ∧ (0 ≤ t.grow ∧ t.grow ≤ 48) ∧ (0 ≤ t.backs ∧ t.backs ≤ 48) ∧ (0 ≤ t.growBack ∧ t.growBack ≤ 48)
def CellsV (l : List Int) : Prop := ∀ (k : Nat) (c : Int), l[k]? = some c → (0 ≤ c ∧ c ≤ 2999) ∧ ∀ (j : Nat) (d : Int), k = j + 1 → l[j]? = some d → d < c
structure RightV (t : TrG) : Prop where
  head : HeadV t
  each : ∀ (k : Nat) (i : In5), t.ins[k]? = some i → EachV t k i
  exits : ∀ (k : Nat) (o : OuV), t.outs[k]? = some o → ExitV t o
  cells : CellsV t.cells
  last : OutV t t.last t.ins.length
  lastS : 1 ≤ (outAt t t.last).steps
theorem isTwo_of {op b : Int} (h : Cn.isTwo op b = true) : Cn.risTwo op = true := by
  by_cases hr : Cn.risTwo op = true
  · exact hr
  · have h1 : (!Cn.risTwo op) = true := by simpa using hr
    rw [← Cn.rtwo_none2 b h1] at h; cases h
theorem isOne_eq (op : Int) : Cn.isOne op = Cn.risOne op := by
  unfold Cn.isOne Cn.risOne
  rw [Bool.eq_iff_iff]; simp
theorem risOne_not {op : Int} (h : Cn.risTwo op = true) : Cn.isOne op = false := by
  rw [isOne_eq]; unfold Cn.risTwo at h; unfold Cn.risOne
  have h := of_decide_eq_true h
  apply decide_eq_false; omega
theorem isTwo_eq {op b : Int} (h : Cn.risTwo op = true) : Cn.isTwo op b = !(decide ((op = 14 ∨ op = 15) ∧ b = 0)) := by
  unfold Cn.risTwo at h
  have h := of_decide_eq_true h
  have h' : op = 11 ∨ op = 12 ∨ op = 13 ∨ op = 14 ∨ op = 15 ∨ op = 17 ∨ op = 18 ∨ op = 19 ∨ op = 21 ∨ op = 22 ∨ op = 23 ∨ op = 24 ∨ op = 25 ∨ op = 28 ∨ op = 29 := by omega
  rcases h' with rfl | rfl | rfl | rfl | rfl | rfl | rfl | rfl | rfl | rfl | rfl | rfl | rfl | rfl | rfl <;> simp [Cn.isTwo] <;> rfl
/-- A trace that may be can be run: every place names what is there. -/
theorem RightV.ins {t : TrG} (h : RightV t) {ats : List Int} (hl : ats.length = t.ins.length) {ns nb : Nat} (hs : t.slots ≤ ns) (hb : t.backs ≤ nb) {k : Nat} {i : In5} (hi : t.ins[k]? = some i) : InsOk ats.length ns nb k i := by
  have hk : k < t.ins.length := (List.getElem?_eq_some_iff.1 hi).1
  obtain ⟨h1, h2, h3, h4, h5, h6⟩ := h.each k i hi
  have use : ∀ p ∈ usesV i, 0 ≤ p ∧ p < ats.length := fun p hp => by
    obtain ⟨a, b, _⟩ := h5 p hp; omega
  refine ⟨by omega, fun e => ?_, fun e => ?_, fun e => ?_, fun e => ?_⟩
  · have := h3 e; omega
  · have := h4 e; omega
  · apply use
    unfold usesV
    split
    · split <;> simp
    · split
      · simp
      · rw [if_pos (by omega)]; simp
  · apply use
    unfold usesV
    rcases e with ⟨e, e2⟩ | e | e
    · rw [if_pos e]
      rcases h2 e with h | h
      · rw [if_pos h]; simp
      · rw [isOne_eq, h] at e2; cases e2
    · rw [if_neg (by omega), if_neg (by omega), if_pos (by omega)]; simp
    · rw [if_neg (by omega), if_neg (by omega), if_pos (by omega)]; simp
theorem RightV.exOk {t : TrG} (h : RightV t) {n : Nat} (hn : n = t.ins.length) {x : Int} {k : Nat} (hk : k ≤ t.ins.length) (ho : OutV t x k) : (0 ≤ x ∧ x < t.outs.length) ∧ (∀ p ∈ (outAt t x).stack, 0 ≤ p ∧ p < n) ∧ (∀ p ∈ (outAt t x).back, 0 ≤ p ∧ p < n) ∧ (outAt t x).stack.length ≤ 100000 ∧ (outAt t x).back.length ≤ 100000 := by
  obtain ⟨h1, h2, h3, h4⟩ := ho
  have hv : t.outs[x.toNat]? = some (outAt t x) := by
    unfold outAt; rw [List.getD_eq_getElem?_getD, List.getElem?_eq_getElem (by omega)]; rfl
  obtain ⟨_, _, e3, e4⟩ := h.exits _ _ hv
  obtain ⟨_, _, _, q1, q2, q3, q4⟩ := h.head
  exact ⟨⟨h1, h2⟩, fun p hp => by obtain ⟨a, b, _⟩ := h3 p hp; omega, fun p hp => by obtain ⟨a, b, _⟩ := h4 p hp; omega, by omega, by omega⟩
theorem neg1 {p : Prop} (h : (0 : Int) ≤ -1) : p := absurd h (by decide)
theorem insV_exit {ats wl : List Int} {t : TrG} {k : Nat} {i : In5} {e : En} (hr : EachV t k i) (h : 0 ≤ (insV ats wl k i e).1) : (insV ats wl k i e).1 ∈ outsV i := by
  obtain ⟨h1, h2, _⟩ := hr
  unfold insV at h ⊢
  unfold outsV
  by_cases e1 : i.a = 1
  · rw [if_pos e1] at h; exact neg1 h
  rw [if_neg e1] at h ⊢
  by_cases e2 : i.a = 2
  · rw [if_pos e2] at h; exact neg1 h
  rw [if_neg e2] at h ⊢
  by_cases e3 : i.a = 3
  · rw [if_pos e3] at h; exact neg1 h
  rw [if_neg e3] at h ⊢
  by_cases e4 : i.a = 4
  · rw [if_pos e4] at h ⊢
    rw [if_pos e4]
    unfold calcV at h ⊢
    dsimp only at h ⊢
    by_cases c1 : Cn.isOne i.b = true
    · rw [if_pos c1] at h; exact neg1 h
    rw [if_neg c1] at h ⊢
    have h2' : Cn.risTwo i.b = true := (h2 e4).resolve_right (fun hh => c1 (by rw [isOne_eq]; exact hh))
    by_cases c2 : Cn.isTwo i.b (valV ats i.d e) = true
    · rw [if_pos c2] at h; exact neg1 h
    rw [if_neg c2] at h ⊢
    rw [isTwo_eq h2'] at c2
    have c2 : (i.b = 14 ∨ i.b = 15) ∧ valV ats i.d e = 0 := by
      rcases hd : decide ((i.b = 14 ∨ i.b = 15) ∧ valV ats i.d e = 0) with _ | _
      · rw [hd] at c2; exact absurd rfl c2
      · exact of_decide_eq_true hd
    rw [if_pos c2.1]; simp
  rw [if_neg e4] at h ⊢
  rw [if_neg e4]
  by_cases e56 : i.a = 5 ∨ i.a = 6
  · rw [if_pos e56] at h ⊢
    unfold memV at h ⊢
    dsimp only at h ⊢
    have hx : i.e ∈ (if i.a = 5 ∨ i.a = 7 ∨ i.a = 8 ∨ i.a = 9 ∨ i.a = 10 ∨ i.a = 11 then [i.e] else if i.a = 6 then [i.e, i.b] else []) := by
      rcases e56 with e5 | e6
      · rw [if_pos (by omega)]; simp
      · rw [if_neg (by omega), if_pos e6]; simp
    by_cases c1 : valV ats i.c e < 0 ∨ (e.s.mem.length : Int) ≤ valV ats i.c e
    · rw [if_pos c1]; exact hx
    rw [if_neg c1] at h ⊢
    by_cases c2 : i.a = 5
    · rw [if_pos c2] at h; exact neg1 h
    rw [if_neg c2] at h ⊢
    by_cases c3 : valV ats i.c e ∈ wl
    · rw [if_pos c3, if_neg (by omega), if_pos (by omega)]; simp
    · rw [if_neg c3] at h; exact neg1 h
  rw [if_neg e56] at h ⊢
  by_cases e7 : i.a = 7
  · rw [if_pos e7] at h ⊢
    rw [if_pos (by omega)]
    dsimp only at h ⊢
    split at h
    · exact neg1 h
    · next hh => rw [if_neg hh]; simp
  rw [if_neg e7] at h ⊢
  by_cases e8 : i.a = 8
  · rw [if_pos e8] at h ⊢
    rw [if_pos (by omega)]
    dsimp only at h ⊢
    split at h
    · exact neg1 h
    · next hh => rw [if_neg hh]; simp
  rw [if_neg e8] at h ⊢
  by_cases e9 : i.a = 9
  · rw [if_pos e9] at h ⊢
    rw [if_pos (by omega)]
    dsimp only at h ⊢
    split at h
    · exact neg1 h
    · next hh => rw [if_neg hh]; simp
  rw [if_neg e9] at h ⊢
  by_cases e10 : i.a = 10 ∨ i.a = 11
  · rw [if_pos e10] at h ⊢
    rw [if_pos (by omega)]
    unfold tellV at h ⊢
    dsimp only at h ⊢
    split at h
    · next hh => rw [if_pos hh]; simp
    · exact neg1 h
  rw [if_neg e10] at h
  unfold askV at h
  split at h <;> exact neg1 h
end Go.Proofs.Ytblmoilneiffgaa
