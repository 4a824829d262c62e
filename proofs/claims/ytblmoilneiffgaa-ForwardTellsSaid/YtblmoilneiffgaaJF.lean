/- Maps; taking away what is known: the plain law, the package forward. -/
import Derived.Test.YtblmoilneiffgaaJ3
import Derived.Test.YtblmoilneiffgaaJ2
import Derived.WideKeyRuns
import Derived.Test.YtblmoilneiffgaaJD
import Derived.Test.YtblmoilneiffgaaJB
import Derived.Test.YtblmoilneiffgaaJE
import Derived.Test.YtblmoilneiffgaaJ8
import Derived.Test.YtblmoilneiffgaaJC

/- Taking away what is known, in plain words; what it keeps. No program in sight. -/
set_option maxRecDepth 100000
namespace Go.Proofs.Ytblmoilneiffgaa
open Go.RowKit

/-- What is known at a place: values of the cells of addresses, guards that hold. -/
structure Kn where
  cells : Int → Option Int
  facts : Int → Int → Bool
  alikes : Int → Int → Bool
def kn0 : Kn := ⟨fun _ => none, fun _ _ => false, fun _ _ => false⟩
/-- The place that has its value, or a guard that is known. -/
def saysV (k : Kn) (i : In5) : Option Int :=
  if i.a = 5 then k.cells i.c else
  if i.a = 7 ∨ i.a = 8 then (if k.facts i.a i.c = true then some (-1) else none) else
  if i.a = 9 then (if k.alikes (min i.c i.d) (max i.c i.d) = true then some (-1) else none) else none
def learnV (k : Kn) (i : In5) (place : Int) : Kn :=
  if i.a = 6 then { k with cells := fun x => if x = i.c then some i.d else none } else
  if i.a = 5 then { k with cells := fun x => if x = i.c then some place else k.cells x } else
  if i.a = 7 ∨ i.a = 8 then { k with facts := fun o x => decide (o = i.a ∧ x = i.c) || k.facts o x } else
  if i.a = 9 then { k with alikes := fun x y => decide (x = min i.c i.d ∧ y = max i.c i.d) || k.alikes x y } else k
structure FwQ where
  l : List In5
  m : List Int
  k : Kn
def fwq0 : FwQ := ⟨[], [], kn0⟩
def fwdS (q : FwQ) (i : In5) : FwQ := match saysV q.k (insM q.m i) with
  | some p => ⟨q.l, q.m ++ [p], q.k⟩
  | none => ⟨q.l ++ [insM q.m i], q.m ++ [(q.l.length : Int)], learnV q.k (insM q.m i) q.l.length⟩
def fwdL (r : List In5) (q : FwQ) : FwQ := r.foldl fwdS q
/-- The trace without what is known, of one that may be. -/
def fwdT (t : TrG) : TrG := { t with ins := (fwdL t.ins fwq0).l, outs := t.outs.map (outM (fwdL t.ins fwq0).m) }

theorem fwdS_some {q : FwQ} {i : In5} {p : Int} (h : saysV q.k (insM q.m i) = some p) : fwdS q i = ⟨q.l, q.m ++ [p], q.k⟩ := by unfold fwdS; rw [h]
theorem fwdS_none {q : FwQ} {i : In5} (h : saysV q.k (insM q.m i) = none) : fwdS q i = ⟨q.l ++ [insM q.m i], q.m ++ [(q.l.length : Int)], learnV q.k (insM q.m i) q.l.length⟩ := by unfold fwdS; rw [h]
theorem fwdL_more : ∀ (r : List In5) (q : FwQ), ∃ (l : List In5) (m : List Int), (fwdL r q).l = q.l ++ l ∧ (fwdL r q).m = q.m ++ m
  | [], q => ⟨[], [], by simp [fwdL]⟩
  | i :: r, q => by
    obtain ⟨l, m, h1, h2⟩ := fwdL_more r (fwdS q i)
    have e : fwdL (i :: r) q = fwdL r (fwdS q i) := rfl
    rw [e, h1, h2]
    cases hs : saysV q.k (insM q.m i) with
    | some p => rw [fwdS_some hs]; exact ⟨l, p :: m, by simp⟩
    | none => rw [fwdS_none hs]; exact ⟨insM q.m i :: l, (q.l.length : Int) :: m, by simp⟩
/-- What is known lies at places that are there. -/
structure KnS (k : Kn) (l : List In5) : Prop where
  cells : ∀ b p, k.cells b = some p → (0 ≤ b ∧ b < l.length) ∧ (0 ≤ p ∧ p < l.length) ∧ givesV (atL l p).a = true
  facts : ∀ o b, k.facts o b = true → (0 ≤ b ∧ b < l.length) ∧ (o = 7 ∨ o = 8)
  alikes : ∀ x y, k.alikes x y = true → (0 ≤ x ∧ x < l.length) ∧ 0 ≤ y ∧ y < l.length
theorem KnS.zero (l : List In5) : KnS kn0 l := ⟨fun _ _ h => (by cases h), fun _ _ h => (by cases h), fun _ _ h => (by cases h)⟩
theorem KnS.app {k : Kn} {l : List In5} (h : KnS k l) (r : List In5) : KnS k (l ++ r) := by
  refine ⟨fun b p hb => ?_, fun o b hb => ?_, fun x y hb => ?_⟩
  · obtain ⟨h1, h2, h3⟩ := h.cells b p hb
    rw [List.length_append]
    exact ⟨⟨h1.1, by omega⟩, ⟨h2.1, by omega⟩, by rw [atL_app r h2.1 h2.2]; exact h3⟩
  · obtain ⟨h1, h2⟩ := h.facts o b hb
    rw [List.length_append]
    exact ⟨⟨h1.1, by omega⟩, h2⟩
  · obtain ⟨h1, h2, h3⟩ := h.alikes x y hb
    rw [List.length_append]
    exact ⟨⟨h1.1, by omega⟩, h2, by omega⟩
/-- What it names, by the kinds of it. -/
theorem uses_load {i : In5} (h : i.a = 5 ∨ i.a = 7 ∨ i.a = 8) : usesV i = [i.c] := by unfold usesV; rw [if_neg (by omega), if_pos (by omega)]
theorem uses_two {i : In5} (h : i.a = 6 ∨ i.a = 9) : usesV i = [i.c, i.d] := by unfold usesV; rw [if_neg (by omega), if_neg (by omega), if_pos h]
theorem learn_ok {k : Kn} {l : List In5} (h : KnS k l) {j : In5} (hn : NamL l (usesV j) l.length) : KnS (learnV k j l.length) (l ++ [j]) := by
  have ha := h.app [j]
  have hll : (l ++ [j]).length = l.length + 1 := by simp
  have e0 := ha.cells
  have e1 := ha.facts
  have e2 := ha.alikes
  unfold learnV
  by_cases h6 : j.a = 6
  · rw [if_pos h6]
    rw [uses_two (Or.inl h6)] at hn
    obtain ⟨c0, c1, _⟩ := hn j.c (by simp)
    obtain ⟨d0, d1, d2⟩ := hn j.d (by simp)
    refine ⟨fun b p hb => ?_, e1, e2⟩
    dsimp only at hb
    split at hb
    · next hbc =>
      cases hb; subst hbc
      rw [hll]
      exact ⟨⟨c0, by omega⟩, ⟨d0, by omega⟩, by rw [atL_app _ d0 (by omega)]; exact d2⟩
    · cases hb
  rw [if_neg h6]
  by_cases h5 : j.a = 5
  · rw [if_pos h5]
    rw [uses_load (Or.inl h5)] at hn
    obtain ⟨c0, c1, _⟩ := hn j.c (by simp)
    refine ⟨fun b p hb => ?_, e1, e2⟩
    dsimp only at hb
    split at hb
    · next hbc =>
      cases hb; subst hbc
      rw [hll]
      exact ⟨⟨c0, by omega⟩, ⟨by omega, by omega⟩, by rw [atL_end rfl, h5]; rfl⟩
    · exact e0 b p hb
  rw [if_neg h5]
  by_cases h7 : j.a = 7 ∨ j.a = 8
  · rw [if_pos h7]
    rw [uses_load (Or.inr h7)] at hn
    obtain ⟨c0, c1, _⟩ := hn j.c (by simp)
    refine ⟨e0, fun o b hb => ?_, e2⟩
    dsimp only at hb
    rw [Bool.or_eq_true] at hb
    rcases hb with hb | hb
    · obtain ⟨rfl, rfl⟩ := of_decide_eq_true hb
      rw [hll]; exact ⟨⟨c0, by omega⟩, h7⟩
    · exact e1 o b hb
  rw [if_neg h7]
  by_cases h9 : j.a = 9
  · rw [if_pos h9]
    rw [uses_two (Or.inr h9)] at hn
    obtain ⟨c0, c1, _⟩ := hn j.c (by simp)
    obtain ⟨d0, d1, _⟩ := hn j.d (by simp)
    refine ⟨e0, e1, fun x y hb => ?_⟩
    dsimp only at hb
    rw [Bool.or_eq_true] at hb
    rcases hb with hb | hb
    · obtain ⟨rfl, rfl⟩ := of_decide_eq_true hb
      rw [hll]; omega
    · exact e2 x y hb
  · rw [if_neg h9]; exact ha
/-- What is known, behind the first k instructions. -/
structure FwOk (ti : List In5) (k : Nat) (q : FwQ) : Prop where
  map : MapOk ti k q.l q.m
  kn : KnS q.k q.l
theorem says_gives {k : Kn} {l : List In5} (h : KnS k l) {j : In5} {p : Int} (hs : saysV k j = some p) : (j.a = 5 ∧ k.cells j.c = some p) ∨ (givesV j.a = false ∧ ((j.a = 7 ∨ j.a = 8) ∧ k.facts j.a j.c = true ∨ j.a = 9 ∧ k.alikes (min j.c j.d) (max j.c j.d) = true)) := by
  unfold saysV at hs
  split at hs
  · next h5 => exact Or.inl ⟨h5, hs⟩
  · split at hs
    · next h7 =>
      split at hs
      · next hf => exact Or.inr ⟨decide_eq_false (by omega), Or.inl ⟨h7, hf⟩⟩
      · cases hs
    · split at hs
      · next h9 =>
        split at hs
        · next hf => exact Or.inr ⟨decide_eq_false (by omega), Or.inr ⟨h9, hf⟩⟩
        · cases hs
      · cases hs
theorem fwdS_ok {t : TrG} {k : Nat} {q : FwQ} (h : FwOk t.ins k q) {i : In5} (hi : t.ins[k]? = some i) (he : EachV t k i) : FwOk t.ins (k + 1) (fwdS q i) := by
  obtain ⟨o1, o2, o3⟩ := insM_op q.m i
  cases hs : saysV q.k (insM q.m i) with
  | some p =>
    rw [fwdS_some hs]
    refine ⟨?_, h.kn⟩
    rcases says_gives h.kn hs with ⟨h5, hc⟩ | ⟨hg, _⟩
    · obtain ⟨_, p2, p3⟩ := h.kn.cells _ _ hc
      refine ⟨by rw [List.length_append, h.map.len]; rfl, by have := h.map.le; dsimp only; omega, fun x h0 h1 hx => ?_⟩
      by_cases hk : x = k
      · rw [ofV_end (by rw [h.map.len]; exact hk)]; exact ⟨p2, p3⟩
      · rw [ofV_app _ h0 (by rw [h.map.len]; omega)]
        exact h.map.pl x h0 (by omega) hx
    · exact h.map.skip hi (by rw [← o1]; exact hg) p
  | none =>
    rw [fwdS_none hs]
    refine ⟨h.map.snoc hi (fun hg => by rw [o1]; exact hg), learn_ok h.kn ?_⟩
    rw [insM_uses]
    exact h.map.named (named_iff.1 he.2.2.2.2.1)
theorem fwdL_ok {t : TrG} (hr : RightV t) : ∀ (r : List In5) (k : Nat) (q : FwQ), t.ins.drop k = r → FwOk t.ins k q → FwOk t.ins (k + r.length) (fwdL r q)
  | [], k, q, _, h => h
  | i :: r, k, q, hd, h => by
    have hi : t.ins[k]? = some i := by rw [← List.head?_drop, hd]; rfl
    have hd' : t.ins.drop (k + 1) = r := by rw [← List.drop_drop, hd]; rfl
    have := fwdL_ok hr r (k + 1) _ hd' (fwdS_ok h hi (hr.each k i hi))
    rw [List.length_cons, ← Nat.add_assoc, Nat.add_right_comm]
    exact this
theorem fw0_ok (ti : List In5) : FwOk ti 0 fwq0 := ⟨MapOk.nil _, KnS.zero _⟩
theorem fwdT_ok {t : TrG} (hr : RightV t) : FwOk t.ins t.ins.length (fwdL t.ins fwq0) := by
  have := fwdL_ok hr t.ins 0 fwq0 rfl (fw0_ok _)
  rw [Nat.zero_add] at this; exact this
theorem fwdT_out (t : TrG) {x : Int} (h0 : 0 ≤ x) (h1 : x < t.outs.length) : outAt (fwdT t) x = outM (fwdL t.ins fwq0).m (outAt t x) := by
  unfold outAt fwdT
  dsimp only
  rw [List.getD_eq_getElem?_getD, List.getD_eq_getElem?_getD, List.getElem?_map, List.getElem?_eq_getElem (by omega)]; rfl
/-- An exit that was named, in the other trace. -/
theorem fwdT_named {t : TrG} {x : Int} {k : Nat} {l : List In5} {m : List Int} (hm : MapOk t.ins k l m) (hx : OutV t x k) {l' : List In5} {m' : List Int} (hl : (fwdT t).ins = l ++ l') (hm' : (fwdL t.ins fwq0).m = m ++ m') : OutV (fwdT t) x l.length := by
  obtain ⟨h0, h1, h2, h3⟩ := hx
  refine ⟨h0, by unfold fwdT; simpa using h1, ?_, ?_⟩
  · rw [fwdT_out t h0 h1, named_iff, hl]
    unfold outM; dsimp only
    rw [hm', map_of_app m' hm.len (named_iff.1 h2)]
    exact (hm.named (named_iff.1 h2)).app (Nat.le_refl _) _
  · rw [fwdT_out t h0 h1, named_iff, hl]
    unfold outM; dsimp only
    rw [hm', map_of_app m' hm.len (named_iff.1 h3)]
    exact (hm.named (named_iff.1 h3)).app (Nat.le_refl _) _
/-- Every instruction of it may be. -/
theorem fwdL_each {t : TrG} (hr : RightV t) : ∀ (r : List In5) (k : Nat) (q : FwQ), t.ins.drop k = r → FwOk t.ins k q → fwdL r q = fwdL t.ins fwq0 →
    (∀ (j : Nat) (i : In5), q.l[j]? = some i → EachV (fwdT t) j i ∧ (i.a = 1 → ∃ j ∈ t.ins, j.a = 1 ∧ j.b = i.b)) → ∀ (j : Nat) (i : In5), (fwdL r q).l[j]? = some i → EachV (fwdT t) j i ∧ (i.a = 1 → ∃ j ∈ t.ins, j.a = 1 ∧ j.b = i.b)
  | [], k, q, _, _, _, h, j, i, hji => h j i hji
  | i :: r, k, q, hd, hq, he, h, j, i', hji => by
    have hi : t.ins[k]? = some i := by rw [← List.head?_drop, hd]; rfl
    have hd' : t.ins.drop (k + 1) = r := by rw [← List.drop_drop, hd]; rfl
    have hstep : fwdL (i :: r) q = fwdL r (fwdS q i) := rfl
    refine fwdL_each hr r (k + 1) _ hd' (fwdS_ok hq hi (hr.each k i hi)) (by rw [← he, hstep]) (fun j i' hj => ?_) j i' (by rw [hstep] at hji; exact hji)
    cases hs : saysV q.k (insM q.m i) with
    | some p => rw [fwdS_some hs] at hj; exact h j i' hj
    | none =>
      rw [fwdS_none hs] at hj
      dsimp only at hj
      by_cases hjl : j < q.l.length
      · rw [List.getElem?_append_left hjl] at hj; exact h j i' hj
      · rw [List.getElem?_append_right (by omega)] at hj
        have hj0 : j - q.l.length = 0 := by
          rcases Nat.eq_zero_or_pos (j - q.l.length) with h | h
          · exact h
          · rw [List.getElem?_eq_none (by simp; omega)] at hj; cases hj
        rw [hj0] at hj
        obtain rfl := Option.some.inj hj
        have hjj : j = q.l.length := by omega
        subst hjj
        obtain ⟨l', m', h1, h2⟩ := fwdL_more (i :: r) q
        rw [he] at h1 h2
        have hl' : (fwdT t).ins = q.l ++ l' := h1
        obtain ⟨a1, a2, a3, a4, a5, a6⟩ := hr.each k i hi
        obtain ⟨o1, o2, o3⟩ := insM_op q.m i
        refine ⟨⟨by rw [o1]; exact a1, by rw [o1, o2]; exact a2, by rw [o1, o2]; exact a3, by rw [o1, o2]; exact a4, ?_, fun x hx => ?_⟩, fun h1 => ⟨i, List.mem_of_getElem? hi, by rw [← o1]; exact h1, o2.symm⟩⟩
        · rw [named_iff, hl', insM_uses]
          exact (hq.map.named (named_iff.1 a5)).app (Nat.le_refl _) _
        · rw [outsV_op o1 o2 o3] at hx
          exact fwdT_named hq.map (a6 x hx) hl' h2
theorem fwdT_right {t : TrG} (hr : RightV t) : RightV (fwdT t) := by
  have hm := (fwdT_ok hr).map
  obtain ⟨q1, q2, q3⟩ := hr.head
  refine ⟨⟨by have := hm.le; show (fwdL t.ins fwq0).l.length ≤ 1000; omega, by unfold fwdT; simpa using q2, q3⟩, fun k i hi => ?_, fun k o ho => ?_, hr.cells, ?_, ?_⟩
  · exact (fwdL_each hr t.ins 0 fwq0 rfl (fw0_ok _) rfl (fun j i h => by simp [fwq0] at h) k i hi).1
  · unfold fwdT at ho
    dsimp only at ho
    rw [List.getElem?_map] at ho
    obtain ⟨o', ho', rfl⟩ := Option.map_eq_some_iff.1 ho
    obtain ⟨e1, e2, e3, e4⟩ := hr.exits k o' ho'
    exact ⟨e1, e2, by unfold outM; dsimp only; rw [List.length_map]; exact e3, by unfold outM; dsimp only; rw [List.length_map]; exact e4⟩
  · exact fwdT_named hm hr.last (l' := []) (m' := []) (by unfold fwdT; simp) (by simp)
  · show 1 ≤ (outAt (fwdT t) t.last).steps
    rw [fwdT_out t hr.last.1 hr.last.2.1]
    exact hr.lastS
end Go.Proofs.Ytblmoilneiffgaa

/- Taking away what is known: the trace that is left does what the trace does. No program in sight. -/
set_option maxRecDepth 100000
namespace Go.Proofs.Ytblmoilneiffgaa
open Go.RowKit

/-- What is known, is so. -/
structure KnD (k : Kn) (n' : Nat) (e' : En) : Prop where
  cells : ∀ b p, k.cells b = some p → (0 ≤ valV (idA n') b e' ∧ valV (idA n') b e' < e'.s.mem.length) ∧ getI e'.s.mem (valV (idA n') b e') = valV (idA n') p e'
  facts : ∀ o b, k.facts o b = true → (o = 7 → valV (idA n') b e' ≠ 0) ∧ (o = 8 → valV (idA n') b e' = 0)
  alikes : ∀ x y, k.alikes x y = true → valV (idA n') x e' = valV (idA n') y e'
theorem KnD.zero (n' : Nat) (e' : En) : KnD kn0 n' e' := ⟨fun _ _ h => (by cases h), fun _ _ h => (by cases h), fun _ _ h => (by cases h)⟩
/-- What is known stays so, while values stay, and the memory. -/
theorem KnD.keep {k : Kn} {l : List In5} {n' : Nat} {e e' : En} (h : KnD k n' e) (hs : KnS k l) (hv : ∀ p : Int, 0 ≤ p → p < l.length → valV (idA n') p e' = valV (idA n') p e) (hm : e'.s.mem = e.s.mem) : KnD k n' e' := by
  refine ⟨fun b p hb => ?_, fun o b hb => ?_, fun x y hb => ?_⟩
  · obtain ⟨⟨a1, a2⟩, ⟨a3, a4⟩, _⟩ := hs.cells b p hb
    rw [hv b a1 a2, hv p a3 a4, hm]
    exact h.cells b p hb
  · obtain ⟨⟨a1, a2⟩, _⟩ := hs.facts o b hb
    rw [hv b a1 a2]
    exact h.facts o b hb
  · obtain ⟨⟨a1, a2⟩, a3, a4⟩ := hs.alikes x y hb
    rw [hv x a1 a2, hv y a3 a4]
    exact h.alikes x y hb
end Go.Proofs.Ytblmoilneiffgaa

/- Maps in memory, over any program: what they say, behind updates too. -/
set_option maxRecDepth 100000
namespace Go.Proofs.Ytblmoilneiffgaa
open Go.RowKit

theorem gObj {P : Program} {w : World} {r : Nat} {es : Array MapEntry} {clock : Nat} (hb : w.heap[r]? = some (.map es clock)) : (getObj r).run P w = .ok (.map es clock) w := by
  simp [getObj, Sem.run, hb]
theorem sObj {P : Program} {w : World} {r : Nat} {es : Array MapEntry} {clock : Nat} (o : Obj) (hb : w.heap[r]? = some (.map es clock)) : (setObj r o).run P w = .ok () { w with heap := w.heap.setIfInBounds r o } := by
  simp [setObj, Sem.run, hb]
theorem hpSet {w : World} {r : Nat} {o o' : Obj} (hb : w.heap[r]? = some o) : (w.heap.setIfInBounds r o')[r]? = some o' ∧ ∀ r', r' ≠ r → (w.heap.setIfInBounds r o')[r']? = w.heap[r']? := by
  have hlt : r < w.heap.size := (Array.getElem?_eq_some_iff.1 hb).1
  exact ⟨by simp [hlt], fun r' hne => by simp [Ne.symm hne]⟩
section
variable {P : Program} {κ ν : Type} [DecidableEq κ]
def ixK (ks : List κ) (k : κ) : Option Nat := ks.findIdx? fun a => decide (a = k)
theorem ixK_nil (k : κ) : ixK [] k = none := rfl
theorem ixK_cons (a : κ) (ks : List κ) (k : κ) : ixK (a :: ks) k = if a = k then some 0 else (ixK ks k).map (· + 1) := by
  unfold ixK; rw [List.findIdx?_cons]
  by_cases h : a = k
  · rw [if_pos h, if_pos (decide_eq_true h)]
  · rw [if_neg h, if_neg (by simpa using h)]
def gtK (xs : List (κ × ν)) (k : κ) : Option ν := (xs.find? fun p => decide (p.1 = k)).map (·.2)
theorem gtK_cons (a : κ × ν) (xs : List (κ × ν)) (k : κ) : gtK (a :: xs) k = if a.1 = k then some a.2 else gtK xs k := by
  unfold gtK; rw [List.find?_cons]
  by_cases h : a.1 = k
  · rw [if_pos h, decide_eq_true h]; rfl
  · rw [if_neg h, decide_eq_false h]
theorem ix_gt : ∀ (xs : List (κ × ν)) (k : κ), (ixK (xs.map (·.1)) k = none ∧ gtK xs k = none) ∨ ∃ j v, ixK (xs.map (·.1)) k = some j ∧ gtK xs k = some v ∧ xs[j]? = some (k, v)
  | [], k => Or.inl ⟨rfl, rfl⟩
  | a :: xs, k => by
    rw [List.map_cons, ixK_cons, gtK_cons]
    by_cases h : a.1 = k
    · rw [if_pos h, if_pos h]
      exact Or.inr ⟨0, a.2, rfl, rfl, by subst h; rfl⟩
    · rw [if_neg h, if_neg h]
      rcases ix_gt xs k with ⟨h1, h2⟩ | ⟨j, v, h1, h2, h3⟩
      · exact Or.inl ⟨by rw [h1]; rfl, h2⟩
      · exact Or.inr ⟨j + 1, v, by rw [h1]; rfl, h2, h3⟩
theorem gt_set : ∀ (xs : List (κ × ν)) (k : κ) (v : ν) (j : Nat), ixK (xs.map (·.1)) k = some j → ∀ q, gtK (xs.set j (k, v)) q = if q = k then some v else gtK xs q
  | [], k, v, j, h, q => by cases h
  | a :: xs, k, v, j, h, q => by
    rw [List.map_cons, ixK_cons] at h
    by_cases ha : a.1 = k
    · rw [if_pos ha] at h
      cases h
      rw [List.set_cons_zero, gtK_cons, gtK_cons]
      by_cases hq : q = k
      · rw [if_pos hq, if_pos hq.symm]
      · rw [if_neg hq, if_neg (fun e => hq e.symm), if_neg (fun e => hq (by rw [← e, ha]))]
    · rw [if_neg ha] at h
      obtain ⟨i, hi, rfl⟩ := Option.map_eq_some_iff.1 h
      rw [List.set_cons_succ, gtK_cons, gtK_cons, gt_set xs k v i hi q]
      by_cases hq : q = k
      · rw [if_pos hq, if_neg (fun e => ha (by rw [e, hq])), if_pos hq]
      · rw [if_neg hq, if_neg hq]
theorem gt_new : ∀ (xs : List (κ × ν)) (k : κ) (v : ν), ixK (xs.map (·.1)) k = none → ∀ q, gtK (xs ++ [(k, v)]) q = if q = k then some v else gtK xs q
  | [], k, v, _, q => by
    show gtK [(k, v)] q = _
    rw [gtK_cons]
    by_cases hq : q = k
    · rw [if_pos hq, if_pos hq.symm]
    · rw [if_neg hq, if_neg (fun e => hq e.symm)]
  | a :: xs, k, v, h, q => by
    rw [List.map_cons, ixK_cons] at h
    by_cases ha : a.1 = k
    · rw [if_pos ha] at h; cases h
    · rw [if_neg ha] at h
      have hn : ixK (xs.map (·.1)) k = none := by
        cases hh : ixK (xs.map (·.1)) k with
        | none => rfl
        | some j => rw [hh] at h; cases h
      rw [List.cons_append, gtK_cons, gtK_cons, gt_new xs k v hn q]
      by_cases hq : q = k
      · rw [if_pos hq, if_neg (fun e => ha (by rw [e, hq])), if_pos hq]
      · rw [if_neg hq, if_neg hq]
/-- What is asked of a kind of keys. -/
structure KeyOk (P : Program) (kt : TypeId) (eK : κ → Value) : Prop where
  find : ∀ (w : World) (es : List MapEntry) (ks : List κ) (k : κ), es.map (·.key) = ks.map eK → (Instr.findKey kt (eK k) es).run P w = .ok ((ixK ks k).bind fun j => (es[j]?).map fun e => (j, e.val)) w
  check : ∀ (w : World) (b : Bool) (k : κ), (Instr.checkKey b 10000 kt (eK k)).run P w = .ok () w
  same : ∀ k : κ, Instr.sameBits 10000 (eK k) (eK k) = true
/-- Block b is a map that says f. -/
def MpIs (eK : κ → Value) (eV : ν → Value) (w : World) (b : Nat) (f : κ → Option ν) : Prop :=
  ∃ (es : Array MapEntry) (clock : Nat) (xs : List (κ × ν)), w.heap[b]? = some (.map es clock) ∧ es.toList.map (·.key) = (xs.map (·.1)).map eK ∧ es.toList.map (·.val) = (xs.map (·.2)).map eV ∧ ∀ k, f k = gtK xs k
variable {eK : κ → Value} {eV : ν → Value} {w : World} {b : Nat} {f : κ → Option ν}
theorem MpIs.chg {S : Nat → Prop} {w' : World} (h : MpIs eK eV w b f) (c : Chg S w w') (hS : ¬ S b) : MpIs eK eV w' b f := by
  obtain ⟨es, clock, xs, h1, h2⟩ := h
  exact ⟨es, clock, xs, c.row h1 hS, h2⟩
theorem MpIs.no {w' : World} (h : MpIs eK eV w b f) (c : Chg No w w') : MpIs eK eV w' b f := h.chg c (fun h => h)
theorem MpIs.lt (h : MpIs eK eV w b f) : b < w.heap.size := by
  obtain ⟨es, clock, xs, h1, _⟩ := h
  exact (Array.getElem?_eq_some_iff.1 h1).1
theorem MpIs.new (eK : κ → Value) (eV : ν → Value) {w' : World} (hb : b = w.heap.size) (hw : w' = World.alloc w (.map #[] 0)) : MpIs eK eV w' b fun _ => none := by
  subst hb hw
  exact ⟨#[], 0, [], heap_alloc_new w _, rfl, rfl, fun k => rfl⟩
omit [DecidableEq κ] in
theorem es_at {es : Array MapEntry} {xs : List (κ × ν)} (h1 : es.toList.map (·.key) = (xs.map (·.1)).map eK) (h2 : es.toList.map (·.val) = (xs.map (·.2)).map eV) {j : Nat} {k : κ} {v : ν} (hx : xs[j]? = some (k, v)) : ∃ e, es.toList[j]? = some e ∧ e.key = eK k ∧ e.val = eV v := by
  have a1 : (es.toList.map (·.key))[j]? = some (eK k) := by rw [h1]; simp [hx]
  have a2 : (es.toList.map (·.val))[j]? = some (eV v) := by rw [h2]; simp [hx]
  rw [List.getElem?_map] at a1 a2
  obtain ⟨e, he, hk⟩ := Option.map_eq_some_iff.1 a1
  rw [he] at a2
  exact ⟨e, he, hk, by simpa using a2⟩
theorem mp_lookup {T kt et : TypeId} (hT : P.underlying T = some (.map kt et)) (ok : KeyOk P kt eK) {z : ν} (hz : ∀ w, (zeroValue et).run P w = .ok (eV z) w) (h : MpIs eK eV w b f) (k : κ) (two : Bool) :
    (Instr.lookup T (.map (some b)) (eK k) two).run P w = .ok (if two = true then .tuple #[eV ((f k).getD z), .bool (f k).isSome] else eV ((f k).getD z)) w := by
  obtain ⟨es, clock, xs, h1, h2, h3, h4⟩ := h
  have hf := ok.find w es.toList (xs.map (·.1)) k h2
  unfold Instr.lookup
  simp only [Sem.run_bind, run_underlying hT, Result.andThen_ok, gObj h1, Sem.run_pure, ok.check, hf]
  rw [h4 k]
  rcases ix_gt xs k with ⟨g1, g2⟩ | ⟨j, v, g1, g2, g3⟩
  · rw [g1, g2]
    simp only [Option.bind_none, Sem.run_bind, hz, Result.andThen_ok, Sem.run_pure]
    rfl
  · obtain ⟨e, e1, e2, e3⟩ := es_at h2 h3 g3
    rw [g1, g2]
    simp only [Option.bind_some, e1, Option.map_some, Sem.run_pure, Result.andThen_ok, e3]
    rfl
theorem mp_update {T kt et : TypeId} (hT : P.underlying T = some (.map kt et)) (ok : KeyOk P kt eK) (h : MpIs eK eV w b f) (k : κ) (v : ν) :
    ∃ w', (Instr.mapUpdate T (.map (some b)) (eK k) (eV v)).run P w = .ok () w' ∧ MpIs eK eV w' b (fun q => if q = k then some v else f q) ∧ Chg (fun j => j = b) w w' := by
  obtain ⟨es, clock, xs, h1, h2, h3, h4⟩ := h
  have hf := ok.find w es.toList (xs.map (·.1)) k h2
  have hset : ∀ o, Chg (fun j => j = b) w { w with heap := w.heap.setIfInBounds b o } := fun o => ⟨rfl, rfl, rfl, by simp, fun q _ hq => (hpSet h1).2 q hq⟩
  unfold Instr.mapUpdate
  simp only [Sem.run_bind, run_underlying hT, Result.andThen_ok, gObj h1, Sem.run_pure, ok.check, hf]
  rcases ix_gt xs k with ⟨g1, g2⟩ | ⟨j, u, g1, g2, g3⟩
  · rw [g1]
    simp only [Option.bind_none]
    refine ⟨_, sObj _ h1, ⟨_, _, xs ++ [(k, v)], (hpSet h1).1, by simp [h2], by simp [h3], fun q => ?_⟩, hset _⟩
    rw [gt_new xs k v g1 q]; dsimp only; rw [h4 q]
  · obtain ⟨e, e1, e2, e3⟩ := es_at h2 h3 g3
    rw [g1]
    have e1' : es[j]? = some e := by simpa using e1
    have hks : (Instr.keyThatStays (((es[j]?).map (·.key)).getD (eK k)) (eK k)).run P w = .ok (eK k) w := by
      rw [e1']
      simp only [Option.map_some, Option.getD_some, e2]
      unfold Instr.keyThatStays
      rw [ok.same k]; rfl
    simp only [Option.bind_some, e1, Option.map_some, Sem.run_bind, hks, Result.andThen_ok]
    have hmod : (es.modify j fun e => { e with key := eK k, val := eV v }).toList = es.toList.set j { e with key := eK k, val := eV v } := by
      apply List.ext_getElem?
      intro q
      rw [List.getElem?_set]
      have hlt : j < es.toList.length := (List.getElem?_eq_some_iff.1 e1).1
      by_cases hq : j = q
      · subst hq
        rw [if_pos rfl, if_pos hlt]
        have : j < es.size := by simpa using hlt
        have hej : es[j] = e := by
          have := (Array.getElem?_eq_some_iff.1 e1').2; exact this
        simp [Array.getElem?_modify, this, hej]
      · rw [if_neg hq]
        simp [Array.getElem?_modify, hq]
    refine ⟨_, sObj _ h1, ⟨_, _, xs.set j (k, v), (hpSet h1).1, ?_, ?_, fun q => ?_⟩, hset _⟩
    · rw [hmod, List.map_set, h2, List.map_set, List.map_set]
    · rw [hmod, List.map_set, h3, List.map_set, List.map_set]
    · rw [gt_set xs k v j g1 q]; dsimp only; rw [h4 q]
theorem mp_clear {T kt et ty : TypeId} (hT : P.underlying T = some (.map kt et)) (h : MpIs eK eV w b f) :
    ∃ w', (Builtin.clear_ #[T] ty #[.map (some b)]).run P w = .ok (.tuple #[]) w' ∧ MpIs eK eV w' b (fun _ => none) ∧ Chg (fun j => j = b) w w' := by
  obtain ⟨es, clock, xs, h1, h2, h3, h4⟩ := h
  refine ⟨{ w with heap := w.heap.setIfInBounds b (.map #[] clock) }, ?_, ⟨#[], clock, [], (hpSet h1).1, rfl, rfl, fun k => rfl⟩, ⟨rfl, rfl, rfl, by simp, fun q _ hq => (hpSet h1).2 q hq⟩⟩
  unfold Builtin.clear_
  simp only [Sem.run_bind]
  have e1 : (#[T] : Array TypeId)[0]? = some T := rfl
  have e2 : (#[Value.map (some b)] : Array Value)[0]? = some (.map (some b)) := rfl
  rw [e1, e2]
  simp only [Sem.run_bind, run_underlying hT, Result.andThen_ok, gObj h1, sObj _ h1, Sem.run_pure]
end
/-! ### Keys: numbers, pairs of numbers -/
section
variable {P : Program}
def ekI (k : Int) : Value := .int .i64 k
def ekP (k : Int × Int) : Value := .agg #[.int .i64 k.1, .int .i64 k.2]
theorem findNow_ints (k : Int) : ∀ (es : List MapEntry) (ks : List Int) (i : Nat), es.map (·.key) = ks.map ekI → Instr.findNow (.int .i64) (ekI k) es i = some ((ixK ks k).bind fun j => (es[j]?).map fun e => (i + j, e.val))
  | [], [], i, _ => rfl
  | [], _ :: _, i, h => by simp at h
  | _ :: _, [], i, h => by simp at h
  | e :: es, a :: ks, i, h => by
    simp only [List.map_cons, List.cons.injEq] at h
    rw [ixK_cons]
    unfold Instr.findNow
    rw [h.1]
    by_cases ha : a = k
    · rw [if_pos ha]
      have : Instr.sameNow (.int .i64) (ekI k) (ekI a) = some true := by simp [Instr.sameNow, ekI, ha]
      rw [this]; rfl
    · rw [if_neg ha]
      have : Instr.sameNow (.int .i64) (ekI k) (ekI a) = some false := by
        simp only [Instr.sameNow, ekI, if_true]
        congr 1
        simpa using fun e => ha e.symm
      rw [this]
      show Instr.findNow _ _ es (i + 1) = _
      rw [findNow_ints k es ks (i + 1) h.2]
      cases ixK ks k with
      | none => rfl
      | some j => simp [Nat.add_assoc, Nat.add_comm 1 j]
theorem ints_keyOk {kt : TypeId} (hk : P.underlying kt = some (.int .i64)) : KeyOk P kt ekI := by
  refine ⟨fun w es ks k h => ?_, fun w b k => ?_, fun k => ?_⟩
  · have := findNow_ints k es ks 0 h
    simp only [Nat.zero_add] at this
    simp [Instr.findKey, run_underlying hk, Result.andThen, this]
  · unfold Instr.checkKey
    simp only [Sem.run_bind, run_underlying hk, Result.andThen_ok, ekI, Sem.run_pure]
  · simp [Instr.sameBits, ekI]
theorem findAsking_pairs {kt : TypeId} (heq : ∀ (w : World) (a c : Int × Int), (Op.equal kt (ekP a) (ekP c)).run P w = .ok (decide (a = c)) w) (w : World) (k : Int × Int) : ∀ (es : List MapEntry) (ks : List (Int × Int)) (i : Nat), es.map (·.key) = ks.map ekP → (Instr.findAsking kt (ekP k) es i).run P w = .ok ((ixK ks k).bind fun j => (es[j]?).map fun e => (i + j, e.val)) w
  | [], [], i, _ => by simp [Instr.findAsking, ixK_nil, Sem.run_pure]
  | [], _ :: _, i, h => by simp at h
  | _ :: _, [], i, h => by simp at h
  | e :: es, a :: ks, i, h => by
    simp only [List.map_cons, List.cons.injEq] at h
    rw [ixK_cons]
    unfold Instr.findAsking
    rw [h.1]
    simp only [Sem.run_bind, heq, Result.andThen_ok]
    by_cases ha : a = k
    · rw [if_pos ha, if_pos (by simpa using ha.symm)]; rfl
    · rw [if_neg ha, if_neg (by simpa using fun e => ha e.symm)]
      rw [findAsking_pairs heq w k es ks (i + 1) h.2]
      cases ixK ks k with
      | none => rfl
      | some j => simp [Nat.add_assoc, Nat.add_comm 1 j]
theorem equal_pairs {kt e : TypeId} {i : TypeInfo} (hk : P.underlying kt = some (.array 2 e)) (he : P.underlying e = some (.int .i64)) (hi : P.info? e = some i) (hc : P.cellsOf e = 1) (hagg : ∀ w, (isAgg e).run P w = .ok false w) (w : World) (a c : Int × Int) : (Op.equal kt (ekP a) (ekP c)).run P w = .ok (decide (a = c)) w := by
  have hp0 : ∀ (x y : Value) (w : World), (part e #[x, y] 0).run P w = .ok x w := fun x y w => by simp [part, Sem.run_bind, hagg, Result.andThen_ok, Sem.run_pure]
  have hp1 : ∀ (x y : Value) (w : World), (part e #[x, y] 1).run P w = .ok y w := fun x y w => by simp [part, Sem.run_bind, hagg, Result.andThen_ok, Sem.run_pure]
  have heq : ∀ (d : Nat) (x y : Int) (w : World), (Op.equalIn (d + 1) e (.int .i64 x) (.int .i64 y)).run P w = .ok (x == y) w := fun d x y w => by
    unfold Op.equalIn
    simp only [Sem.run_bind, run_underlying he, Result.andThen_ok, if_true, Sem.run_pure]
  unfold Op.equal
  have hm : Op.maxDepth = 9998 + 1 + 1 := rfl
  rw [hm, ekP, ekP, run_equalIn_array w (9998 + 1) _ _ hk hi, hc]
  show (Op.eqItems (9998 + 1) e 1 _ _ [0, 1]).run P w = _
  obtain ⟨a1, a2⟩ := a
  obtain ⟨c1, c2⟩ := c
  have e0 : (0 * 1 : Nat) = 0 := rfl
  have e1 : (1 * 1 : Nat) = 1 := rfl
  unfold Op.eqItems
  rw [e0]
  simp only [Sem.run_bind, hp0, Result.andThen_ok, heq]
  by_cases h1 : a1 = c1
  · subst h1
    have hb : (a1 == a1) = true := by simp
    rw [hb]
    simp only [Bool.not_true, Bool.false_eq_true, if_false]
    unfold Op.eqItems
    rw [e1]
    simp only [Sem.run_bind, hp1, Result.andThen_ok, heq]
    by_cases h2 : a2 = c2
    · subst h2
      have hb : (a2 == a2) = true := by simp
      rw [hb]
      simp [Op.eqItems, Sem.run_pure]
    · have hb : (a2 == c2) = false := by simpa using h2
      rw [hb]
      simp [Sem.run_pure, h2]
  · have hb : (a1 == c1) = false := by simpa using h1
    rw [hb]
    simp [Sem.run_pure, h1]
theorem pairs_keyOk {kt e : TypeId} {i : TypeInfo} (hk : P.underlying kt = some (.array 2 e)) (he : P.underlying e = some (.int .i64)) (hi : P.info? e = some i) (hc : P.cellsOf e = 1) (hagg : ∀ w, (isAgg e).run P w = .ok false w) (hck : ∀ (w : World) (b : Bool) (k : Int × Int), (Instr.checkKey b 10000 kt (ekP k)).run P w = .ok () w) : KeyOk P kt ekP := by
  refine ⟨fun w es ks k h => ?_, hck, fun k => ?_⟩
  · rw [run_findKey_eq w (by rw [hk])]
    have := findAsking_pairs (fun w a c => equal_pairs hk he hi hc hagg w a c) w k es ks 0 h
    simp only [Nat.zero_add] at this
    exact this
  · simp [Instr.sameBits, ekP]
end
end Go.Proofs.Ytblmoilneiffgaa

/- Package forward: what is known, in maps. -/
set_option maxRecDepth 100000
namespace Go.Proofs.Ytblmoilneiffgaa
open Go.RowKit

def ebo (b : Bool) : Value := .bool b
def knC (b1 b2 b3 : Nat) : List Value := [.map (some b1), .map (some b2), .map (some b3)]
theorem und_mi : Try.prog.underlying T_map_int_int = some (.map T_int T_int) := by kernel_rfl
theorem und_mp : Try.prog.underlying T_map_2_int_bool = some (.map T_2_int T_bool) := by kernel_rfl
theorem keyI : KeyOk Try.prog T_int ekI := ints_keyOk (by kernel_rfl)
theorem keyP : KeyOk Try.prog T_2_int ekP := by
  obtain ⟨i, hi⟩ : ∃ i, Try.prog.info? T_int = some i := Option.isSome_iff_exists.1 (by kernel_rfl)
  refine pairs_keyOk (e := T_int) (i := i) (by kernel_rfl) (by kernel_rfl) hi (by kernel_rfl) (fun w => by kernel_rfl) (fun w b k => ?_)
  obtain ⟨a, c⟩ := k
  cases b <;> kernel_rfl
theorem zI (w : World) : (zeroValue T_int).run Try.prog w = .ok (ekI 0) w := by kernel_rfl
theorem zB (w : World) : (zeroValue T_bool).run Try.prog w = .ok (ebo false) w := by kernel_rfl
def KnB (b1 b2 b3 : Nat) : Nat → Prop := fun k => k = b1 ∨ k = b2 ∨ k = b3
/-- These maps say what is known; they are made behind w0. -/
structure KnAt (w0 w : World) (b1 b2 b3 : Nat) (k : Kn) : Prop where
  c : MpIs ekI ekI w b1 k.cells
  f : MpIs ekP ebo w b2 fun q => if k.facts q.1 q.2 = true then some true else none
  a : MpIs ekP ebo w b3 fun q => if k.alikes q.1 q.2 = true then some true else none
  ne : b1 ≠ b2 ∧ b1 ≠ b3 ∧ b2 ≠ b3
  new : w0.heap.size ≤ b1 ∧ w0.heap.size ≤ b2 ∧ w0.heap.size ≤ b3
  base : Chg No w0 w
section
variable {w0 w : World} {b1 b2 b3 : Nat} {k : Kn}
theorem KnAt.lt (h : KnAt w0 w b1 b2 b3 k) : b1 < w.heap.size ∧ b2 < w.heap.size ∧ b3 < w.heap.size := ⟨h.c.lt, h.f.lt, h.a.lt⟩
theorem KnAt.chg {S : Nat → Prop} {w' : World} (h : KnAt w0 w b1 b2 b3 k) (c : Chg S w w') (hS : ∀ j, S j → ¬ KnB b1 b2 b3 j ∧ w0.heap.size ≤ j) : KnAt w0 w' b1 b2 b3 k :=
  ⟨h.c.chg c (fun hs => (hS _ hs).1 (Or.inl rfl)), h.f.chg c (fun hs => (hS _ hs).1 (Or.inr (Or.inl rfl))), h.a.chg c (fun hs => (hS _ hs).1 (Or.inr (Or.inr rfl))), h.ne, h.new, h.base.trans c (fun _ _ h => h) (fun j hj he => by have := (hS j he).2; omega)⟩
theorem KnAt.no {w' : World} (h : KnAt w0 w b1 b2 b3 k) (c : Chg No w w') : KnAt w0 w' b1 b2 b3 k := h.chg c (fun _ h => h.elim)
theorem MpIs.to {κ ν : Type} [DecidableEq κ] {eK : κ → Value} {eV : ν → Value} {w : World} {b : Nat} {f g : κ → Option ν} (h : MpIs eK eV w b f) (e : ∀ q, f q = g q) : MpIs eK eV w b g := by
  obtain ⟨es, clock, xs, h1, h2, h3, h4⟩ := h
  exact ⟨es, clock, xs, h1, h2, h3, fun q => (e q).symm.trans (h4 q)⟩
theorem nothing_any (w : World) : Calls Try.prog fn_forward_nothing #[] w fun e w' => ∃ b1 b2 b3 : Nat, e = .returned (.agg (knC b1 b2 b3).toArray) ∧ KnAt w w' b1 b2 b3 kn0 := by
  refine (forward_nothing_lift (K := fun r w' => ∃ b1 b2 b3 : Nat, r = .agg (knC b1 b2 b3).toArray ∧ KnAt w w' b1 b2 b3 kn0) ?_).mono (by rintro e w' ⟨r, rfl, b1, b2, b3, rfl, h⟩; exact ⟨b1, b2, b3, rfl, h⟩)
  unfold forward_nothing_sh
  intro b1 w2 hb1 hw2 b3 w4 hb3 hw4 b5 w6 hb5 hw6 b7 w8 hb7 hw8
  have c2 := al hw2
  have c4 := al hw4
  have c6 := al hw6
  have c8 := al hw8
  have z2 : w2.heap.size = w.heap.size + 1 := by rw [hw2]; simp
  have z4 : w4.heap.size = w2.heap.size + 1 := by rw [hw4]; simp
  have z6 : w6.heap.size = w4.heap.size + 1 := by rw [hw6]; simp
  have o1 : Ob w8 b1 [.map none, .map none, .map none] T_forward_known := by
    have : Ob w2 b1 [.map none, .map none, .map none] T_forward_known := by rw [hw2, hb1]; exact Ob.new w [.map none, .map none, .map none] T_forward_known
    exact ((this.no c4).no c6).no c8
  have m3 : MpIs ekI ekI w8 b3 (fun _ => none) := ((MpIs.new ekI ekI hb3 hw4).no c6).no c8
  have m5 : MpIs ekP ebo w8 b5 (fun _ => none) := (MpIs.new ekP ebo hb5 hw6).no c8
  have m7 : MpIs ekP ebo w8 b7 (fun _ => none) := MpIs.new ekP ebo hb7 hw8
  refine ⟨o1.wr (by simp), fun w9 hw9 => ?_⟩
  obtain ⟨o9, c9⟩ := o1.up (k := 0) (vs := knC b3 b5 b7) (cs' := knC b3 b5 b7) (by simp [knC]) rfl hw9
  refine ⟨_, _, _, o9.cell rfl, o9.cell rfl, o9.cell rfl, b3, b5, b7, rfl, m3.chg c9 (by omega), (m5.chg c9 (by omega)).to (fun q => rfl), (m7.chg c9 (by omega)).to (fun q => rfl), ⟨by omega, by omega, by omega⟩, ⟨by omega, by omega, by omega⟩, ?_⟩
  exact (trN (trN (trN c2 c4) c6) c8).trans c9 (fun _ _ h => h) (fun j hj he => by omega)
theorem pair_any (a b : Int) (w : World) : Calls Try.prog fn_forward_pair #[.int .i64 a, .int .i64 b] w fun e w' => e = .returned (.agg #[.int .i64 (min a b), .int .i64 (max a b)]) ∧ Chg No w w' := by
  refine (forward_pair_lift (K := fun r w' => r = .agg #[.int .i64 (min a b), .int .i64 (max a b)] ∧ Chg No w w') ?_).mono (by rintro e w' ⟨r, rfl, rfl, h⟩; exact ⟨rfl, h⟩)
  unfold forward_pair_sh
  intro b3 w4 hb3 hw4
  rw [imin_eq, imax_eq]
  have hn := fun (w2 : World) => newOb (w2 := w2) (T := T_2_int) [.int .i64 0, .int .i64 0] [.int .i64 (min a b), .int .i64 (max a b)] rfl hb3 hw4
  refine ⟨(hn w4).1, fun w5 hw5 => ?_⟩
  obtain ⟨o5, c5⟩ := (hn w5).2 hw5
  exact ⟨_, _, o5.cell rfl, o5.cell rfl, rfl, c5⟩
theorem says78 (k : Kn) {i : In5} (h : i.a = 7 ∨ i.a = 8) : saysV k i = if k.facts i.a i.c = true then some (-1) else none := by
  have h5 : ¬ i.a = 5 := by omega
  unfold saysV; rw [if_neg h5, if_pos h]
theorem says9 (k : Kn) {i : In5} (h : i.a = 9) : saysV k i = if k.alikes (min i.c i.d) (max i.c i.d) = true then some (-1) else none := by
  have h5 : ¬ i.a = 5 := by omega
  have h7 : ¬ (i.a = 7 ∨ i.a = 8) := by omega
  unfold saysV; rw [if_neg h5, if_neg h7, if_pos h]
/-- What an instruction says that is known. -/
def SayAns (w0 : World) (b1 b2 b3 : Nat) (k : Kn) (i : In5) (w : World) (r : Value) (w' : World) : Prop :=
  ∃ (n : Int) (b : Bool), r = .tuple #[.int .i64 n, .bool b] ∧ b = (saysV k i).isSome ∧ (∀ p, saysV k i = some p → n = p) ∧ KnAt w0 w' b1 b2 b3 k ∧ Chg No w w'
theorem says_any (h : KnAt w0 w b1 b2 b3 k) (i : In5) : Calls Try.prog fn_forward_known_says #[.agg (knC b1 b2 b3).toArray, .agg (insC i).toArray] w fun e w' => ∃ r, e = .returned r ∧ SayAns w0 b1 b2 b3 k i w r w' := by
  refine (forward_known_says_lift (K := fun r w' => SayAns w0 b1 b2 b3 k i w r w') ?_).mono (by rintro e w' ⟨r, rfl, h⟩; exact ⟨r, rfl, h⟩)
  unfold forward_known_says_sh
  intro b9 w10 hb9 hw10 b11 w12 hb11 hw12
  have c10 := al hw10
  have c12 := al hw12
  have o9 : Ob w12 b9 (knC b1 b2 b3) T_forward_known := by
    have : Ob w10 b9 (knC b1 b2 b3) T_forward_known := by rw [hw10, hb9]; exact Ob.new w (knC b1 b2 b3) T_forward_known
    exact this.no c12
  have o11 : Ob w12 b11 (insC i) T_api_Ins := by rw [hw12, hb11]; exact Ob.new w10 (insC i) T_api_Ins
  have k12 := trN c10 c12
  have h12 := h.no k12
  refine ⟨i.a, o11.cell rfl, fun w19 => w19 = w12 ∧ (i.a = 7 ∨ i.a = 8), ?_, ?_⟩
  · rintro w19 ⟨rfl, h78⟩ w20 hw20
    have c20 := dw hw20
    have p9 := o9.no c20
    have p11 := o11.no c20
    have h20 := h12.no c20
    refine ⟨fun w' => Chg No w20 w', Chg.refl _ _, _, Ob.held (fun w' c => p9.no c) rfl, _, Ob.held (fun w' c => p11.no c) rfl, _, Ob.held (fun w' c => p11.no c) rfl, Chg.refl _ _, ?_⟩
    have hl := mp_lookup und_mp keyP zB h20.f (i.a, i.c) false
    refine ⟨_, w20, hl, Chg.refl _ _, -1, _, rfl, ?_, fun p hp => ?_, h20, trN k12 c20⟩
    · rw [says78 k h78]
      by_cases hf : k.facts i.a i.c = true
      · rw [if_pos hf, if_pos hf]; rfl
      · rw [if_neg hf, if_neg hf]; rfl
    · rw [says78 k h78] at hp
      by_cases hf : k.facts i.a i.c = true
      · rw [if_pos hf] at hp; exact Option.some.inj hp
      · rw [if_neg hf] at hp; cases hp
  · refine brB_of (fun h5 => ?_) (fun h5 => ?_)
    · have h5 : i.a = 5 := by simpa using h5
      have hl := mp_lookup und_mi keyI zI h12.c i.c true
      refine ⟨_, o9.cell rfl, _, o11.cell rfl, _, _, w12, hl, _, _, rfl, ?_, fun p hp => ?_, h12, k12⟩
      · unfold saysV; rw [if_pos h5]
      · unfold saysV at hp; rw [if_pos h5] at hp
        rw [hp]; rfl
    have h5 : i.a ≠ 5 := by simpa using h5
    refine brB_of (fun h7 => ⟨rfl, Or.inl (by simpa using h7)⟩) (fun h7 => brB_of (fun h8 => ⟨rfl, Or.inr (by simpa using h8)⟩) (fun h8 => ?_))
    have h7 : i.a ≠ 7 := by simpa using h7
    have h8 : i.a ≠ 8 := by simpa using h8
    refine brB_of (fun h9 => ?_) (fun h9 => ?_)
    · have h9 : i.a = 9 := by simpa using h9
      intro w27 hw27
      have c27 := dw hw27
      have p9 := o9.no c27
      have p11 := o11.no c27
      have h27 := h12.no c27
      refine ⟨fun w' => Chg No w27 w', Chg.refl _ _, _, Ob.held (fun w' c => p9.no c) rfl, _, Ob.held (fun w' c => p11.no c) rfl, _, Ob.held (fun w' c => p11.no c) rfl, (pair_any i.c i.d w27).mono ?_⟩
      rintro e w33 ⟨rfl, c33⟩
      have h33 := h27.no c33
      have hl := mp_lookup und_mp keyP zB h33.a (min i.c i.d, max i.c i.d) false
      refine ⟨_, _, rfl, c33, _, w33, hl, c33, -1, _, rfl, ?_, fun p hp => ?_, h33, trN (trN k12 c27) c33⟩
      · rw [says9 k h9]
        by_cases hf : k.alikes (min i.c i.d) (max i.c i.d) = true
        · rw [if_pos hf, if_pos hf]; rfl
        · rw [if_neg hf, if_neg hf]; rfl
      · rw [says9 k h9] at hp
        by_cases hf : k.alikes (min i.c i.d) (max i.c i.d) = true
        · rw [if_pos hf] at hp; exact Option.some.inj hp
        · rw [if_neg hf] at hp; cases hp
    · have h9 : i.a ≠ 9 := by simpa using h9
      have hs : saysV k i = none := by unfold saysV; rw [if_neg h5, if_neg (by omega), if_neg h9]
      exact ⟨-1, false, rfl, by rw [hs]; rfl, fun p hp => (by rw [hs] at hp; cases hp), h12, k12⟩
/-- What it learns. -/
def LrnAns (w0 : World) (b1 b2 b3 : Nat) (k : Kn) (w : World) (r : Value) (w' : World) : Prop := r = .tuple #[] ∧ KnAt w0 w' b1 b2 b3 k ∧ Chg (KnB b1 b2 b3) w w'
theorem learn_any (h : KnAt w0 w b1 b2 b3 k) (i : In5) (place : Int) : Calls Try.prog fn_forward_known_learn #[.agg (knC b1 b2 b3).toArray, .agg (insC i).toArray, .int .i64 place] w fun e w' => e = .returned (.tuple #[]) ∧ KnAt w0 w' b1 b2 b3 (learnV k i place) ∧ Chg (KnB b1 b2 b3) w w' := by
  refine (forward_known_learn_lift (K := fun r w' => LrnAns w0 b1 b2 b3 (learnV k i place) w r w') ?_).mono (by rintro e w' ⟨r, rfl, rfl, h⟩; exact ⟨rfl, h⟩)
  unfold forward_known_learn_sh
  intro b10 w11 hb10 hw11 b12 w13 hb12 hw13
  have c11 := al hw11
  have c13 := al hw13
  have o10 : Ob w13 b10 (knC b1 b2 b3) T_forward_known := by
    have : Ob w11 b10 (knC b1 b2 b3) T_forward_known := by rw [hw11, hb10]; exact Ob.new w (knC b1 b2 b3) T_forward_known
    exact this.no c13
  have o12 : Ob w13 b12 (insC i) T_api_Ins := by rw [hw13, hb12]; exact Ob.new w11 (insC i) T_api_Ins
  have k13 := trN c11 c13
  have h13 := h.no k13
  obtain ⟨l1, l2, l3⟩ := h.lt
  have z11 : w11.heap.size = w.heap.size + 1 := by rw [hw11]; simp
  obtain ⟨n1, n2, n3⟩ := h.ne
  have hb1ne : b1 ≠ b10 ∧ b1 ≠ b12 := by omega
  have tail : ∀ {w1 w' : World} {k' : Kn}, KnAt w0 w' b1 b2 b3 k' → Chg No w w1 → Chg (KnB b1 b2 b3) w1 w' → LrnAns w0 b1 b2 b3 k' w (.tuple #[]) w' := fun h c1 c2 => ⟨rfl, h, c1.trans c2 (fun _ _ h => h.elim) (fun _ _ h => h)⟩
  refine ⟨i.a, o12.cell rfl, fun pl w23 => ∃ f : Int → Option Int, MpIs ekI ekI w23 b1 f ∧ Ob w23 b10 (knC b1 b2 b3) T_forward_known ∧ Ob w23 b12 (insC i) T_api_Ins ∧ Chg (fun j => j = b1) w13 w23 ∧ learnV k i place = { k with cells := fun x => if x = i.c then some pl else f x }, ?_, ?_⟩
  · rintro pl w23 ⟨f, hm, p10, p12, c23, hL⟩
    obtain ⟨w27, hu, hm27, c27⟩ := mp_update und_mi keyI hm i.c pl
    refine ⟨_, p10.cell rfl, _, p12.cell rfl, w27, hu, ?_⟩
    have c1327 : Chg (fun j => j = b1) w13 w27 := c23.trans c27 (fun _ _ h => h) (fun _ _ h => h)
    rw [hL]
    refine tail ⟨hm27, h13.f.chg c1327 (by omega), h13.a.chg c1327 (by omega), h13.ne, h13.new, h13.base.trans c1327 (fun _ _ h => h) (fun j hj he => by have := h.new.1; omega)⟩ k13 (c1327.mono (fun _ _ h => Or.inl h))
  · refine brB_of (fun h6 => ?_) (fun h6 => ?_)
    · have h6 : i.a = 6 := by simpa using h6
      obtain ⟨w21, hcl, hm21, c21⟩ := mp_clear (ty := T_x) und_mi h13.c
      have p12 := o12.chg c21 (by omega)
      refine ⟨_, o10.cell rfl, _, w21, hcl, _, p12.cell rfl, _, hm21, o10.chg c21 (by omega), p12, c21, ?_⟩
      unfold learnV; rw [if_pos h6]
    have h6 : i.a ≠ 6 := by simpa using h6
    refine brB_of (fun h5 => ?_) (fun h5 => ?_)
    · have h5 : i.a = 5 := by simpa using h5
      refine ⟨_, h13.c, o10, o12, Chg.refl _ _, ?_⟩
      unfold learnV; rw [if_neg h6, if_pos h5]
    have h5 : i.a ≠ 5 := by simpa using h5
    have j1 : ∀ b : Bool, (b = true → i.a = 7 ∨ i.a = 8) → (b = false → i.a ≠ 7 ∧ i.a ≠ 8) → forward_known_learn_j1 b10 b12 i.a b w13 (fun r w' => LrnAns w0 b1 b2 b3 (learnV k i place) w r w') := by
      intro b hb1 hb2
      unfold forward_known_learn_j1
      refine brB_of (fun hb => ?_) (fun hb => ?_)
      · have h78 := hb1 hb
        obtain ⟨w31, hu, hm31, c31⟩ := mp_update und_mp keyP h13.f (i.a, i.c) true
        refine ⟨_, o10.cell rfl, _, o12.cell rfl, _, o12.cell rfl, w31, hu, ?_⟩
        have hL : learnV k i place = { k with facts := fun o x => decide (o = i.a ∧ x = i.c) || k.facts o x } := by unfold learnV; rw [if_neg h6, if_neg h5, if_pos h78]
        rw [hL]
        refine tail ⟨h13.c.chg c31 (by omega), hm31.to (fun q => ?_), h13.a.chg c31 (by omega), h13.ne, h13.new, h13.base.trans c31 (fun _ _ h => h) (fun j hj he => by have := h.new.2.1; omega)⟩ k13 (c31.mono (fun _ _ h => Or.inr (Or.inl h)))
        obtain ⟨q1, q2⟩ := q
        dsimp only
        by_cases hq : (q1, q2) = (i.a, i.c)
        · have hq' : q1 = i.a ∧ q2 = i.c := by simpa using hq
          rw [if_pos hq]; exact (if_pos (show (decide (q1 = i.a ∧ q2 = i.c) || k.facts q1 q2) = true by rw [decide_eq_true hq']; rfl)).symm
        · have hq' : ¬ (q1 = i.a ∧ q2 = i.c) := by simpa using hq
          rw [if_neg hq]
          by_cases hf : k.facts q1 q2 = true
          · rw [if_pos hf]; exact (if_pos (show (decide (q1 = i.a ∧ q2 = i.c) || k.facts q1 q2) = true by rw [hf]; simp)).symm
          · rw [if_neg hf]; exact (if_neg (show ¬ (decide (q1 = i.a ∧ q2 = i.c) || k.facts q1 q2) = true by rw [decide_eq_false hq']; exact hf)).symm
      · obtain ⟨h7, h8⟩ := hb2 hb
        refine brB_of (fun h9 => ?_) (fun h9 => ?_)
        · have h9 : i.a = 9 := by simpa using h9
          intro w32 hw32
          have c32 := dw hw32
          have p10 := o10.no c32
          have p12 := o12.no c32
          have h32 := h13.no c32
          refine ⟨fun w' => Chg No w32 w', Chg.refl _ _, _, Ob.held (fun w' c => p10.no c) rfl, _, Ob.held (fun w' c => p12.no c) rfl, _, Ob.held (fun w' c => p12.no c) rfl, (pair_any i.c i.d w32).mono ?_⟩
          rintro e w38 ⟨rfl, c38⟩
          have h38 := h32.no c38
          obtain ⟨w41, hu, hm41, c41⟩ := mp_update und_mp keyP h38.a (min i.c i.d, max i.c i.d) true
          refine ⟨_, _, rfl, c38, w41, hu, ?_⟩
          have hL : learnV k i place = { k with alikes := fun x y => decide (x = min i.c i.d ∧ y = max i.c i.d) || k.alikes x y } := by unfold learnV; rw [if_neg h6, if_neg h5, if_neg (by omega), if_pos h9]
          rw [hL]
          refine tail ⟨h38.c.chg c41 (by omega), h38.f.chg c41 (by omega), hm41.to (fun q => ?_), h13.ne, h13.new, h38.base.trans c41 (fun _ _ h => h) (fun j hj he => by have := h.new.2.2; omega)⟩ (trN (trN k13 c32) c38) (c41.mono (fun _ _ h => Or.inr (Or.inr h)))
          obtain ⟨q1, q2⟩ := q
          dsimp only
          by_cases hq : (q1, q2) = (min i.c i.d, max i.c i.d)
          · have hq' : q1 = min i.c i.d ∧ q2 = max i.c i.d := by simpa using hq
            rw [if_pos hq]; exact (if_pos (show (decide (q1 = min i.c i.d ∧ q2 = max i.c i.d) || k.alikes q1 q2) = true by rw [decide_eq_true hq']; rfl)).symm
          · have hq' : ¬ (q1 = min i.c i.d ∧ q2 = max i.c i.d) := by simpa using hq
            rw [if_neg hq]
            by_cases hf : k.alikes q1 q2 = true
            · rw [if_pos hf]; exact (if_pos (show (decide (q1 = min i.c i.d ∧ q2 = max i.c i.d) || k.alikes q1 q2) = true by rw [hf]; simp)).symm
            · rw [if_neg hf]; exact (if_neg (show ¬ (decide (q1 = min i.c i.d ∧ q2 = max i.c i.d) || k.alikes q1 q2) = true by rw [decide_eq_false hq']; exact hf)).symm
        · have h9 : i.a ≠ 9 := by simpa using h9
          have hL : learnV k i place = k := by unfold learnV; rw [if_neg h6, if_neg h5, if_neg (by omega), if_neg h9]
          rw [hL]
          exact tail h13 k13 (Chg.refl _ _)
    refine brB_of (fun h7 => ?_) (fun h7 => ?_)
    · exact j1 _ (fun _ => Or.inl (by simpa using h7)) (fun h => by rw [h] at h7; cases h7)
    · have h7 : i.a ≠ 7 := by simpa using h7
      exact j1 _ (fun h => Or.inr (by simpa using h)) (fun h => ⟨h7, by simpa using h⟩)
end
end Go.Proofs.Ytblmoilneiffgaa

/- forward.Do. -/
set_option maxRecDepth 100000
namespace Go.Proofs.Ytblmoilneiffgaa
open Go.RowKit

theorem fwdL_snoc (r : List In5) (i : In5) (q : FwQ) : fwdL (r ++ [i]) q = fwdS (fwdL r q) i := by unfold fwdL; rw [List.foldl_append]; rfl
theorem fwdL_len : ∀ (r : List In5) (q : FwQ), (fwdL r q).l.length ≤ q.l.length + r.length ∧ (fwdL r q).m.length = q.m.length + r.length
  | [], q => ⟨Nat.le_refl _, rfl⟩
  | i :: r, q => by
    have := fwdL_len r (fwdS q i)
    have h : fwdL (i :: r) q = fwdL r (fwdS q i) := rfl
    have h2 : (fwdS q i).l.length ≤ q.l.length + 1 ∧ (fwdS q i).m.length = q.m.length + 1 := by
      cases hs : saysV q.k (insM q.m i) with
      | some p => rw [fwdS_some hs]; simp
      | none => rw [fwdS_none hs]; simp
    rw [h, List.length_cons]; omega
theorem wdo_any {D : Nat → Prop} {w : World} (t : TrP) {v : TrG} (ht : TrIs D w t v) : Calls Try.prog fn_forward_Do #[.agg (trP t).toArray] w fun e w' => ∃ r, e = .returned r ∧ PassAns fwdT t v w r w' := by
  refine (forward_Do_lift (K := fun r w' => PassAns fwdT t v w r w') ?_).mono (by rintro e w' ⟨r, rfl, h⟩; exact ⟨r, rfl, h⟩)
  unfold forward_Do_sh
  intro b10 w11 hb10 hw11 b12 w13 hb12 hw13
  have c11 := al hw11
  have c13 := al hw13
  have z11 : w11.heap.size = w.heap.size + 1 := by rw [hw11]; simp
  have z13 : w13.heap.size = w11.heap.size + 1 := by rw [hw13]; simp
  have o10 : Ob w13 b10 (trP t) T_api_Trace := by
    have : Ob w11 b10 (trP t) T_api_Trace := by rw [hw11, hb10]; exact Ob.new w (trP t) T_api_Trace
    exact this.no c13
  have o12 : Ob w13 b12 (trP ⟨0, 0, 0, 0, 0, nilS, nilS, 0, nilS⟩) T_api_Trace := by rw [hw13, hb12]; exact Ob.new w11 (trP ⟨0, 0, 0, 0, 0, nilS, nilS, 0, nilS⟩) T_api_Trace
  have k13 := trN c11 c13
  refine ⟨_, _, _, _, _, _, _, _, _, o10.cell rfl, o10.cell rfl, o10.cell rfl, o10.cell rfl, o10.cell rfl, o10.cell rfl, o10.cell rfl, o10.cell rfl, o10.cell rfl, (iright_any t (ht.no k13)).mono ?_⟩
  rintro e w24 ⟨b, rfl, hb, c24⟩
  have k24 := trN k13 c24
  have p10 := o10.no c24
  have p12 := o12.no c24
  have z24 := c24.size
  refine ⟨b, rfl, brB_of (fun hno => ?_) (fun hyes => ?_)⟩
  · have hR : ¬ RightV v := fun h => by rw [hb.2 h] at hno; cases hno
    refine ⟨_, _, _, _, _, _, _, _, _, p10.cell rfl, p10.cell rfl, p10.cell rfl, p10.cell rfl, p10.cell rfl, p10.cell rfl, p10.cell rfl, p10.cell rfl, p10.cell rfl, p12.wr (by simp [trP]), fun w35 hw35 => ?_⟩
    obtain ⟨q12, c35⟩ := p12.up (k := 0) (vs := trP t) (cs' := trP t) (by simp [trP]) rfl hw35
    refine ⟨_, _, _, _, _, _, _, _, _, q12.cell rfl, q12.cell rfl, q12.cell rfl, q12.cell rfl, q12.cell rfl, q12.cell rfl, q12.cell rfl, q12.cell rfl, q12.cell rfl, t, rfl, k24.trans c35 (fun _ _ h => h) (fun k hk he => by omega), Or.inl ⟨hR, rfl⟩⟩
  have hR := hb.1 (by simpa using hyes)
  obtain ⟨q1, q2, q3⟩ := hR.head
  have hil := ht.ins.len
  refine (nothing_any w24).mono ?_
  rintro e w46 ⟨b1, b2, b3, rfl, h46⟩
  refine ⟨_, _, _, rfl, ?_⟩
  intro b50 w51 hb50 hw51
  have hn := fun (w2 : World) => newOb (w2 := w2) (T := T_forward_known) [.map none, .map none, .map none] (knC b1 b2 b3) rfl hb50 hw51
  refine ⟨(hn w51).1, fun w52 hw52 => ?_⟩
  obtain ⟨o52, c52⟩ := (hn w52).2 hw52
  have h52 := h46.no c52
  have k52 := trN k24 h52.base
  have r10 := p10.no h52.base
  have z46 := h46.base.size
  have z52 := c52.size
  obtain ⟨l1, l2, l3⟩ := h46.lt
  have hb50lt := o52.lt
  have kbl : ∀ j, KnB b1 b2 b3 j → j < b50 := fun j hj => by rcases hj with h | h | h <;> omega
  refine ⟨t.ins, r10.cell rfl, ?_⟩
  refine ⟨fun l m n w' => ∃ k : Nat, n = k ∧ k ≤ v.ins.length ∧ Ow insE w' l (fwdL (v.ins.take k) fwq0).l ∧ Ow intE w' m (fwdL (v.ins.take k) fwq0).m ∧ (∀ j, l.blk = some j → w52.heap.size ≤ j) ∧ (∀ j, m.blk = some j → w52.heap.size ≤ j ∧ l.blk ≠ some j) ∧ Ob w' b50 (knC b1 b2 b3) T_forward_known ∧ KnAt w24 w' b1 b2 b3 (fwdL (v.ins.take k) fwq0).k ∧ w52.heap.size ≤ w'.heap.size, fun _ _ n _ => v.ins.length - n.toNat, ⟨0, rfl, Nat.zero_le _, Ow.nil _ _, Ow.nil _ _, (fun j hj => by cases hj), (fun j hj => by cases hj), o52, h52, Nat.le_refl _⟩, ?_⟩
  rintro l m n w54 ⟨k, rfl, hk, hl, hm, hlb, hmb, o54, h54, z54⟩
  have k54 := trN k24 h54.base
  refine brB_of (fun hlt => ?_) (fun hlt => ?_)
  · have hlt : k < v.ins.length := by simp at hlt; omega
    obtain ⟨i, hi⟩ : ∃ i, v.ins[k]? = some i := ⟨_, List.getElem?_eq_getElem hlt⟩
    have htk : v.ins.take (k + 1) = v.ins.take k ++ [i] := by rw [List.take_add_one, hi]; rfl
    have hfl := fwdL_len (v.ins.take k) fwq0
    have e0 : fwq0.l.length = 0 := rfl
    have e1 : fwq0.m.length = 0 := rfl
    rw [List.length_take, e0, e1] at hfl
    have hlen1 : (fwdL (v.ins.take k) fwq0).l.length ≤ 1000 := by omega
    have hlen2 : (fwdL (v.ins.take k) fwq0).m.length ≤ 1000 := by omega
    obtain ⟨q, hq⟩ : ∃ q, q = fwdL (v.ins.take k) fwq0 := ⟨_, rfl⟩
    have hq' : fwdL (v.ins.take (k + 1)) fwq0 = fwdS q i := by rw [htk, fwdL_snoc, hq]
    rw [← hq] at hl hm hlen1 hlen2 h54
    refine ⟨fun l' m' w' => Ow insE w' l' (fwdS q i).l ∧ Ow intE w' m' (fwdS q i).m ∧ (∀ j, l'.blk = some j → w52.heap.size ≤ j) ∧ (∀ j, m'.blk = some j → w52.heap.size ≤ j ∧ l'.blk ≠ some j) ∧ Ob w' b50 (knC b1 b2 b3) T_forward_known ∧ KnAt w24 w' b1 b2 b3 (fwdS q i).k ∧ w52.heap.size ≤ w'.heap.size, ?_, ?_⟩
    · rintro l' m' w119 ⟨a1, a2, a3, a4, a5, a6, a7⟩
      rw [wr_in (by omega)]
      exact ⟨⟨k + 1, by omega, by omega, by rw [hq']; exact a1, by rw [hq']; exact a2, a3, a4, a5, by rw [hq']; exact a6, a7⟩, by show v.ins.length - Int.toNat ((k : Int) + 1) < v.ins.length - Int.toNat (k : Int); omega⟩
    refine (ht.ins.no k54).ix (i := (k : Int)) (by omega) (by rw [Int.toNat_natCast]; exact hi) fun a _ hcell => ?_
    have g0 := hcell 0 _ rfl
    rw [add0] at g0
    refine ⟨_, _, _, _, _, g0, hcell 1 _ rfl, hcell 2 _ rfl, hcell 3 _ rfl, hcell 4 _ rfl, ?_⟩
    intro b62 w63 hb62 hw63
    have hn := fun (w2 : World) => newOb (w2 := w2) (T := T_api_Ins) (insC ⟨0, 0, 0, 0, 0⟩) (insC i) rfl hb62 hw63
    refine ⟨(hn w63).1, fun w64 hw64 => ?_⟩
    obtain ⟨o64, c64⟩ := (hn w64).2 hw64
    refine ⟨_, _, _, _, _, o64.cell rfl, o64.cell rfl, o64.cell rfl, o64.cell rfl, o64.cell rfl, (mins_any (hm.no c64).rd i).mono ?_⟩
    rintro e w72 ⟨rfl, c72⟩
    have o72 := o64.no c72
    refine ⟨_, _, _, _, _, rfl, o72.wr (by simp [insC]), fun w78 hw78 => ?_⟩
    obtain ⟨o78, c78⟩ := o72.up (k := 0) (vs := insC (insM q.m i)) (cs' := insC (insM q.m i)) (by simp [insC]) rfl hw78
    have z64 := c64.size
    have z72 := c72.size
    have z78 := c78.size
    have hb62ge : b62 = w54.heap.size := hb62
    have c5478 : Chg No w54 w78 := (trN c64 c72).trans c78 (fun _ _ h => h) (fun k hk he => by omega)
    have hl78 := hl.no c5478
    have hm78 := hm.no c5478
    have h78 := h54.no c5478
    have p50 := o54.no c5478
    refine ⟨_, _, _, p50.cell rfl, p50.cell rfl, p50.cell rfl, ?_⟩
    refine ⟨_, _, _, _, _, o78.cell rfl, o78.cell rfl, o78.cell rfl, o78.cell rfl, o78.cell rfl, (says_any h78 (insM q.m i)).mono ?_⟩
    rintro e w88 ⟨r, rfl, p, bb, rfl, hbb, hp, h88, c88⟩
    have o88 := o78.no c88
    have p50' := p50.no c88
    have hl88 := hl78.no c88
    have hm88 := hm78.no c88
    have z88 := c88.size
    have hmlt : ∀ j, m.blk = some j → j < w54.heap.size := fun j hj => hm.lt hj
    have hllt : ∀ j, l.blk = some j → j < w54.heap.size := fun j hj => hl.lt hj
    refine ⟨_, _, rfl, brB_of (fun hb1 => ?_) (fun hb1 => ?_)⟩
    · rw [hbb] at hb1
      obtain ⟨p', hsy⟩ := Option.isSome_iff_exists.1 hb1
      have hpp := hp p' hsy
      subst hpp
      rw [fwdS_some hsy]
      intro b91 w92 hb91 hw92
      refine app1_gen mapOk (by decide) (x := p) rfl hb91 hw92 hm88 h88.base (fun j hj => by have := (hmb j hj).1; omega) (by omega) ?_
      intro s93 w94 g93 c94 cl b93
      have z94 := cl.size
      refine ⟨hl88.chg cl (fun j hj he => (hmb j he).2 hj), g93, hlb, fun j hj => ?_, p50'.chg cl (fun he => by have := (hmb _ he).1; omega), h88.chg cl (fun j hj => ⟨fun hk => by have := kbl j hk; have := (hmb j hj).1; omega, by have := (hmb j hj).1; omega⟩), by omega⟩
      rcases (b93 j hj).2 with h | h
      · exact hmb j h
      · exact ⟨by omega, fun he => by have := hllt j he; omega⟩
    · have hsy : saysV q.k (insM q.m i) = none := by
        rw [hbb] at hb1
        cases hh : saysV q.k (insM q.m i) with
        | none => rfl
        | some p' => rw [hh] at hb1; cases hb1
      rw [fwdS_none hsy]
      have hll : l.len = q.l.length := hl88.rd.len
      rw [hll]
      refine ⟨_, _, _, p50'.cell rfl, p50'.cell rfl, p50'.cell rfl, ?_⟩
      refine ⟨_, _, _, _, _, o88.cell rfl, o88.cell rfl, o88.cell rfl, o88.cell rfl, o88.cell rfl, (learn_any h88 (insM q.m i) (q.l.length : Int)).mono ?_⟩
      rintro e w105 ⟨rfl, h105, c105⟩
      have z105 := c105.size
      have o105 := o88.chg c105 (fun he => by have := kbl _ he; omega)
      have p50'' := p50'.chg c105 (fun he => by have := kbl _ he; omega)
      have hl105 := hl88.chg c105 (fun j hj he => by have := kbl j he; have := hlb j hj; omega)
      have hm105 := hm88.chg c105 (fun j hj he => by have := kbl j he; have := (hmb j hj).1; omega)
      refine ⟨rfl, ?_⟩
      intro b106 w107 hb106 hw107
      refine app1_gen mapOk (by decide) (x := (q.l.length : Int)) rfl hb106 hw107 hm105 h105.base (fun j hj => by have := (hmb j hj).1; omega) (by omega) ?_
      intro s108 w109 g108 c109 cl b108
      have z109 := cl.size
      have o109 := o105.chg cl (fun he => by have := hmlt _ he; omega)
      have hl109 := hl105.chg cl (fun j hj he => (hmb j he).2 hj)
      have h109 := h105.chg cl (fun j hj => ⟨fun hk => by have := kbl j hk; have := (hmb j hj).1; omega, by have := (hmb j hj).1; omega⟩)
      have p109 := p50''.chg cl (fun he => by have := (hmb _ he).1; omega)
      refine ⟨_, _, _, _, _, o109.cell rfl, o109.cell rfl, o109.cell rfl, o109.cell rfl, o109.cell rfl, ?_⟩
      intro b115 w116 hb115 hw116
      refine app1_gen insOk (by decide) (x := insM q.m i) rfl hb115 hw116 hl109 c109 (fun j hj => by have := hlb j hj; omega) (by omega) ?_
      intro s117 w118 g117 c118 cl2 b117
      have z118 := cl2.size
      have s108lt := fun j hj => g108.lt (k := j) hj
      refine ⟨g117, g108.chg cl2 (fun j hj he => ?_), fun j hj => ?_, fun j hj => ⟨?_, fun he => ?_⟩, p109.chg cl2 (fun he => by have := hlb _ he; omega), h109.chg cl2 (fun j hj => ⟨fun hk => by have := kbl j hk; have := hlb j hj; omega, by have := hlb j hj; omega⟩), by omega⟩
      · rcases (b108 j hj).2 with h | h
        · exact (hmb j h).2 he
        · have := hllt j he; omega
      · rcases (b117 j hj).2 with h | h
        · exact hlb j h
        · omega
      · rcases (b108 j hj).2 with h | h
        · exact (hmb j h).1
        · omega
      · rcases (b117 j he).2 with h | h
        · rcases (b108 j hj).2 with h' | h'
          · exact (hmb j h').2 h
          · have := hllt j h; omega
        · have := s108lt j hj; omega
  have hlt : k = v.ins.length := by simp at hlt; omega
  subst hlt
  rw [List.take_length] at hl hm
  intro w120 hw120
  have c120 := dw hw120
  have k120 := trN k54 c120
  have z120 := c120.size
  have r10 := (p10.no h54.base).no c120
  have r12 := (p12.no h54.base).no c120
  obtain ⟨os, hos, hov⟩ := ht.outs
  refine ⟨fun w' => Chg No w120 w', Chg.refl _ _, t.outs, Ob.held (fun w' c => r10.no c) rfl, t.cells, Ob.held (fun w' c => r10.no c) rfl, (mouts_any (hm.no c120).rd (hos.no k120) (hov.chg k120 (fun _ _ h => h)) (by omega) (fun o ho => ?_)).mono ?_⟩
  · obtain ⟨j, hj⟩ := List.getElem?_of_mem ho
    obtain ⟨_, _, e3, e4⟩ := hR.exits j o hj
    obtain ⟨_, a1, a2, a3, a4⟩ := q3
    constructor <;> omega
  rintro e w125 ⟨r, rfl, s126, os', rfl, g126, hov', c125, n126⟩
  have k125 := trN k120 c125
  have hcl := cells_few hR.cells
  refine ⟨s126, rfl, c125, (clone_ints (ht.cells.no k125) (by omega)).mono ?_⟩
  rintro e w128 ⟨s129, rfl, g129, c128, n129, _⟩
  have k128 := trN k125 c128
  have t10 := (r10.no c125).no c128
  have t12 := (r12.no c125).no c128
  have z125 := c125.size
  have z128 := c128.size
  refine ⟨s129, rfl, trN c125 c128, t10.wr (by simp [trP]), fun w130 hw130 => ?_⟩
  obtain ⟨u10, c130⟩ := t10.up (k := 5) (vs := [l.val]) (cs' := trP { t with ins := l }) (by simp [trP]) rfl hw130
  refine ⟨u10.wr (by simp [trP]), fun w131 hw131 => ?_⟩
  obtain ⟨v10, c131⟩ := u10.up (k := 6) (vs := [s126.val]) (cs' := trP { t with ins := l, outs := s126 }) (by simp [trP]) rfl hw131
  refine ⟨v10.wr (by simp [trP]), fun w132 hw132 => ?_⟩
  obtain ⟨x10, c132⟩ := v10.up (k := 8) (vs := [s129.val]) (cs' := trP { t with ins := l, outs := s126, cells := s129 }) (by simp [trP]) rfl hw132
  have cX : Chg (fun k => k = b10) w128 w132 := (c130.trans c131 (fun _ _ h => h) (fun _ _ h => h)).trans c132 (fun _ _ h => h) (fun _ _ h => h)
  have x12 := t12.chg cX (fun he => by omega)
  refine ⟨_, _, _, _, _, _, _, _, _, x10.cell rfl, x10.cell rfl, x10.cell rfl, x10.cell rfl, x10.cell rfl, x10.cell rfl, x10.cell rfl, x10.cell rfl, x10.cell rfl, x12.wr (by simp [trP]), fun w142 hw142 => ?_⟩
  obtain ⟨y12, c142⟩ := x12.up (k := 0) (vs := trP { t with ins := l, outs := s126, cells := s129 }) (cs' := trP { t with ins := l, outs := s126, cells := s129 }) (by simp [trP]) rfl hw142
  have cY : Chg (fun k => k = b10 ∨ k = b12) w128 w142 := cX.trans c142 (fun _ _ h => Or.inl h) (fun _ _ h => Or.inr h)
  refine ⟨_, _, _, _, _, _, _, _, _, y12.cell rfl, y12.cell rfl, y12.cell rfl, y12.cell rfl, y12.cell rfl, y12.cell rfl, y12.cell rfl, y12.cell rfl, y12.cell rfl, { t with ins := l, outs := s126, cells := s129 }, rfl, k128.trans cY (fun _ _ h => h) (fun k hk he => by omega), Or.inr ⟨hR, ?_⟩⟩
  have g126lt := fun j hj => g126.lt (k := j) hj
  have hllt := fun j hj => hl.lt (k := j) hj
  refine ⟨ht.nums, ((((hl.no c120).no c125).no c128).chg cY (fun j hj he => by have := hlb j hj; omega)), ⟨os', (g126.no c128).chg cY (fun j hj he => by have := n126 j hj; omega), ((hov'.chg c128 (fun _ _ h => h)).chg cY (fun j hj he => by have := hj.1; omega)).mono (fun j hj => ⟨by have := hj.1; omega, (fun he => by have := hllt j he; have := hj.1; omega), hj.2.2, (fun he => by have := n129 j he; have := hj.2.1; omega), by have := hj.2.1; have := cY.size; omega⟩)⟩, g129.chg cY (fun j hj he => by have := n129 j hj; omega), fun j hj => ?_, fun j hj => ⟨?_, fun he => ?_⟩, fun j hj => ⟨?_, fun he => ?_, fun he => ?_⟩⟩
  · have := hlb j hj; omega
  · have := n126 j hj; omega
  · have := n126 j hj; have := hllt j he; omega
  · have := n129 j hj; omega
  · have := n129 j hj; have := hllt j he; omega
  · have := n129 j hj; have := g126lt j he; omega
end Go.Proofs.Ytblmoilneiffgaa

/- forward.Left; the law's first call (chapter 18). -/
set_option maxRecDepth 100000
namespace Go.Proofs.Ytblmoilneiffgaa
open Go.RowKit

/-- How much of it is known. -/
def leftW : List In5 → Int → Kn → Nat
  | [], _, _ => 0
  | i :: r, p, k => match saysV k i with
    | some _ => leftW r (p + 1) k + 1
    | none => leftW r (p + 1) (learnV k i p)
theorem leftW_some {i : In5} {r : List In5} {p q : Int} {k : Kn} (h : saysV k i = some q) : leftW (i :: r) p k = leftW r (p + 1) k + 1 := by
  show (match saysV k i with | some _ => leftW r (p + 1) k + 1 | none => leftW r (p + 1) (learnV k i p)) = _
  rw [h]
theorem leftW_none {i : In5} {r : List In5} {p : Int} {k : Kn} (h : saysV k i = none) : leftW (i :: r) p k = leftW r (p + 1) (learnV k i p) := by
  show (match saysV k i with | some _ => leftW r (p + 1) k + 1 | none => leftW r (p + 1) (learnV k i p)) = _
  rw [h]
theorem leftW_le : ∀ (r : List In5) (p : Int) (k : Kn), leftW r p k ≤ r.length
  | [], _, _ => Nat.le_refl _
  | i :: r, p, k => by
    unfold leftW
    split
    · have := leftW_le r (p + 1) k; simp; omega
    · have := leftW_le r (p + 1) (learnV k i p); simp; omega
theorem wleft_any {D : Nat → Prop} {w : World} (t : TrP) {v : TrG} (ht : TrIs D w t v) : Calls Try.prog fn_forward_Left #[.agg (trP t).toArray] w fun e w' => e = .returned (.int .i64 (leftW v.ins 0 kn0 : Nat)) ∧ Chg No w w' := by
  refine (forward_Left_lift (K := fun r w' => r = .int .i64 (leftW v.ins 0 kn0 : Nat) ∧ Chg No w w') ?_).mono (by rintro e w' ⟨r, rfl, rfl, h⟩; exact ⟨rfl, h⟩)
  unfold forward_Left_sh
  intro b10 w11 hb10 hw11
  have o11 : Ob w11 b10 (trP t) T_api_Trace := by rw [hw11, hb10]; exact Ob.new w (trP t) T_api_Trace
  have c11 := al hw11
  have hil := ht.ins.len
  have hic := ht.ins.capL
  refine (nothing_any w11).mono ?_
  rintro e w13 ⟨b1, b2, b3, rfl, h13⟩
  refine ⟨_, _, _, rfl, ?_⟩
  intro b17 w18 hb17 hw18
  have hn := fun (w2 : World) => newOb (w2 := w2) (T := T_forward_known) [.map none, .map none, .map none] (knC b1 b2 b3) rfl hb17 hw18
  refine ⟨(hn w18).1, fun w19 hw19 => ?_⟩
  obtain ⟨o19, c19⟩ := (hn w19).2 hw19
  have h19 := h13.no c19
  obtain ⟨l1, l2, l3⟩ := h13.lt
  have kbl : ∀ j, KnB b1 b2 b3 j → j < b17 := fun j hj => by rcases hj with h | h | h <;> omega
  have hle := leftW_le v.ins 0 kn0
  refine ⟨t.ins, (o11.no h19.base).cell rfl, fun c n w' => ∃ (k : Nat) (kn : Kn) (m : Nat), n = k ∧ k ≤ v.ins.length ∧ c = (m : Nat) ∧ m + leftW (v.ins.drop k) k kn = leftW v.ins 0 kn0 ∧ KnAt w11 w' b1 b2 b3 kn ∧ Ob w' b17 (knC b1 b2 b3) T_forward_known, fun _ n _ => v.ins.length - n.toNat, ⟨0, kn0, 0, rfl, Nat.zero_le _, rfl, by simp, h19, o19⟩, ?_⟩
  rintro c n w21 ⟨k, kn, m, rfl, hk, rfl, hm, h21, o21⟩
  have k21 := trN c11 h21.base
  refine brB_of (fun hlt => ?_) (fun hlt => ?_)
  · have hlt : k < v.ins.length := by simp at hlt; omega
    obtain ⟨i, hi⟩ : ∃ i, v.ins[k]? = some i := ⟨_, List.getElem?_eq_getElem hlt⟩
    have hdr : v.ins.drop k = i :: v.ins.drop (k + 1) := by
      rw [List.drop_eq_getElem_cons hlt]
      rw [List.getElem?_eq_getElem hlt] at hi
      cases hi; rfl
    rw [hdr] at hm
    refine ⟨fun c w' => ∃ (kn' : Kn) (m' : Nat), c = (m' : Nat) ∧ m' + leftW (v.ins.drop (k + 1)) ((k : Int) + 1) kn' = leftW v.ins 0 kn0 ∧ KnAt w11 w' b1 b2 b3 kn' ∧ Ob w' b17 (knC b1 b2 b3) T_forward_known, ?_, ?_⟩
    · rintro c w55 ⟨kn', m', rfl, h1, h2, h3⟩
      rw [wr_in (by omega)]
      exact ⟨⟨k + 1, kn', m', by omega, by omega, rfl, h1, h2, h3⟩, by show v.ins.length - Int.toNat ((k : Int) + 1) < v.ins.length - Int.toNat (k : Int); omega⟩
    · refine (ht.ins.no k21).ix (i := (k : Int)) (by omega) (by rw [Int.toNat_natCast]; exact hi) fun a _ hcell => ?_
      have g0 := hcell 0 _ rfl
      rw [add0] at g0
      refine ⟨_, _, _, _, _, g0, hcell 1 _ rfl, hcell 2 _ rfl, hcell 3 _ rfl, hcell 4 _ rfl, ?_⟩
      intro b29 w30 hb29 hw30
      have hn := fun (w2 : World) => newOb (w2 := w2) (T := T_api_Ins) (insC ⟨0, 0, 0, 0, 0⟩) (insC i) rfl hb29 hw30
      refine ⟨(hn w30).1, fun w31 hw31 => ?_⟩
      obtain ⟨o31, c31⟩ := (hn w31).2 hw31
      have h31 := h21.no c31
      have p17 := o21.no c31
      have hb17lt := o21.lt
      refine ⟨_, _, _, p17.cell rfl, p17.cell rfl, p17.cell rfl, ?_⟩
      refine ⟨_, _, _, _, _, o31.cell rfl, o31.cell rfl, o31.cell rfl, o31.cell rfl, o31.cell rfl, (says_any h31 i).mono ?_⟩
      rintro e w41 ⟨r, rfl, p, bb, rfl, hbb, hp, h41, c41⟩
      have p17' := p17.no c41
      have o41 := o31.no c41
      refine ⟨_, _, rfl, brB_of (fun hb1 => ?_) (fun hb1 => ?_)⟩
      · rw [hbb] at hb1
        obtain ⟨p', hsy⟩ := Option.isSome_iff_exists.1 hb1
        rw [leftW_some hsy] at hm
        rw [wr_in (by omega)]
        exact ⟨kn, m + 1, by omega, by omega, h41, p17'⟩
      · have hsy : saysV kn i = none := by
          rw [hbb] at hb1
          cases hh : saysV kn i with
          | none => rfl
          | some p' => rw [hh] at hb1; cases hb1
        rw [leftW_none hsy] at hm
        refine ⟨_, _, _, p17'.cell rfl, p17'.cell rfl, p17'.cell rfl, ?_⟩
        refine ⟨_, _, _, _, _, o41.cell rfl, o41.cell rfl, o41.cell rfl, o41.cell rfl, o41.cell rfl, (learn_any h41 i (k : Int)).mono ?_⟩
        rintro e w54 ⟨rfl, h54, c54⟩
        exact ⟨rfl, _, m, rfl, hm, h54, p17'.chg c54 (fun he => by have := kbl _ he; omega)⟩
  · have hlt : k = v.ins.length := by simp at hlt; omega
    subst hlt
    rw [List.drop_length] at hm
    have hm : m = leftW v.ins 0 kn0 := by simpa [leftW] using hm
    rw [hm]
    exact ⟨rfl, k21⟩
def al18 : TrG := ⟨5, 1, 0, 1, 0, [⟨2, 0, 0, 0, 0⟩, ⟨5, 0, 0, 0, 0⟩, ⟨5, 0, 0, 0, 0⟩], [⟨5, 0, [], []⟩, ⟨5, 1, [1, 2], []⟩], 1, []⟩
theorem alive18_any (w : World) : Calls Try.prog fn_hollowaylaw18_alive #[] w fun e w' => e = .returned (.bool true) ∧ Chg No w w' := by
  refine (hollowaylaw18_alive_lift (K := fun v w' => v = .bool true ∧ Chg No w w') ?_).mono (by rintro e w' ⟨v, rfl, rfl, h⟩; exact ⟨rfl, h⟩)
  unfold hollowaylaw18_alive_sh
  intro b1 w2 hb1 hw2 b3 w4 hb3 hw4 b5 w6 hb5 hw6 b7 w8 hb7 hw8
  obtain ⟨g2, c2⟩ := litIns al18.ins _ rfl hb1 hw2 (by decide)
  obtain ⟨g4, c4⟩ := lit2 1 2 hb3 hw4
  obtain ⟨g6, c6⟩ := litOus [⟨5, 0, nilS, nilS⟩, ⟨5, 1, ⟨some ⟨b3, 0, none⟩, 2, 2⟩, nilS⟩] _ rfl hb5 hw6 (by simp)
  have hn := fun (w2 : World) => newOb (w2 := w2) (T := T_api_Trace) (trP ⟨0, 0, 0, 0, 0, nilS, nilS, 0, nilS⟩) (trP ⟨5, 1, 0, 1, 0, ⟨some ⟨b1, 0, none⟩, 3, 3⟩, ⟨some ⟨b5, 0, none⟩, 2, 2⟩, 1, nilS⟩) rfl hb7 hw8
  refine ⟨(hn w8).1, fun w9 hw9 => ?_⟩
  obtain ⟨o9, c9⟩ := (hn w9).2 hw9
  have k9 : Chg No w w9 := trN (trN (trN c2 c4) c6) c9
  have ht9 : TrIs Any w9 ⟨5, 1, 0, 1, 0, ⟨some ⟨b1, 0, none⟩, 3, 3⟩, ⟨some ⟨b5, 0, none⟩, 2, 2⟩, 1, nilS⟩ al18 :=
    tris ⟨rfl, rfl, rfl, rfl, rfl, rfl⟩ (((g2.no c4).no c6).no c9).rd (g6.no c9).rd (ous_cons ⟨rfl, rfl⟩ (Rd.nil _ _) (Rd.nil _ _) (ous_cons ⟨rfl, rfl⟩ ((g4.no c6).no c9).rd (Rd.nil _ _) (ous_nil _))) (Rd.nil _ _)
  have hR : RightV al18 := rightB_ok (by decide +kernel)
  refine ⟨_, _, _, _, _, _, _, _, _, o9.cell rfl, o9.cell rfl, o9.cell rfl, o9.cell rfl, o9.cell rfl, o9.cell rfl, o9.cell rfl, o9.cell rfl, o9.cell rfl, (wdo_any _ ht9).mono ?_⟩
  rintro e w20 ⟨r, rfl, t', rfl, c20, h20⟩
  have h20 : TrOw (fun k => w9.heap.size ≤ k) w20 t' (fwdT al18) := by
    rcases h20 with ⟨hno, _⟩ | ⟨_, h⟩
    · exact absurd hR hno
    · exact h
  refine ⟨_, _, _, _, _, _, _, _, _, rfl, ?_⟩
  intro b30 w31 hb30 hw31
  have hn := fun (w2 : World) => newOb (w2 := w2) (T := T_api_Trace) (trP ⟨0, 0, 0, 0, 0, nilS, nilS, 0, nilS⟩) (trP t') rfl hb30 hw31
  refine ⟨(hn w31).1, fun w32 hw32 => ?_⟩
  obtain ⟨o32, c32⟩ := (hn w32).2 hw32
  refine (rtwo_any 11 1 1 (by omega) w32).mono ?_
  rintro e w34 ⟨rfl, rfl⟩
  have e0 : Cn.rtwo 11 1 1 = 2 := by decide +kernel
  refine ⟨_, _, rfl, ?_⟩
  rw [e0]
  have k32 := trN (trN k9 c20) c32
  have o9' := (o9.no c20).no c32
  refine ⟨_, _, _, _, _, _, _, _, _, o9'.cell rfl, o9'.cell rfl, o9'.cell rfl, o9'.cell rfl, o9'.cell rfl, o9'.cell rfl, o9'.cell rfl, o9'.cell rfl, o9'.cell rfl, (wleft_any _ ((ht9.no c20).no c32)).mono ?_⟩
  rintro e w45 ⟨rfl, c45⟩
  have e1 : leftW al18.ins 0 kn0 = 1 := by decide +kernel
  refine ⟨_, rfl, ?_⟩
  rw [e1]
  have o45 := o32.no c45
  have ha := ((h20.is).no c32).no c45
  refine brB_t ⟨_, _, _, _, _, _, _, _, _, o45.cell rfl, o45.cell rfl, o45.cell rfl, o45.cell rfl, o45.cell rfl, o45.cell rfl, o45.cell rfl, o45.cell rfl, o45.cell rfl, (wleft_any _ ha).mono ?_⟩
  rintro e w57 ⟨rfl, c57⟩
  have hR' : RightV (fwdT al18) := fwdT_right hR
  have e2 : leftW (fwdT al18).ins 0 kn0 = 0 := by decide +kernel
  refine ⟨_, rfl, ?_⟩
  rw [e2]
  have o57 := o45.no c57
  refine brB_t ⟨_, _, _, _, _, _, _, _, _, o57.cell rfl, o57.cell rfl, o57.cell rfl, o57.cell rfl, o57.cell rfl, o57.cell rfl, o57.cell rfl, o57.cell rfl, o57.cell rfl, (rright_any _ (ha.no c57)).mono ?_⟩
  rintro e w69 ⟨b, rfl, hb, c69⟩
  rw [hb.2 hR']
  have o69 := o57.no c69
  refine ⟨_, rfl, brB_t ⟨t'.ins, o69.cell rfl, ?_⟩⟩
  have hl := h20.ins.rd.len
  have e3 : (fwdT al18).ins.length = 2 := by decide +kernel
  rw [hl, e3]
  exact brB_t ⟨rfl, trN (trN (trN k32 c45) c57) c69⟩
end Go.Proofs.Ytblmoilneiffgaa
