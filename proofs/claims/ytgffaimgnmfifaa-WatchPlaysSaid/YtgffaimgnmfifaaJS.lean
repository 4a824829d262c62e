/- Small machines; how arguments are opened. -/
import Derived.Test.YtgffaimgnmfifaaJ2
import Derived.ChangeArms
import Derived.ChangeSlices

/- From what a statement's frame tells of an argument to what the walks ask of it: slices of any elements. Over any program. -/
namespace Go.Proofs.Ytgffaimgnmfifaa
open Go.RowKit

section
variable {H : Type} {enc : TypeId × Value → H} {P : Program} {w : World} {base : Nat} {sp : Nat → Bool} {held : Bool}
/-- What elements of a type read as: each is some x that meets Q. -/
def ElOk {α : Type} (enc : TypeId × Value → H) (P : Program) (w : World) (base : Nat) (sp : Nat → Bool) (held : Bool) (E : Enc α) (e : TypeId) (Q : α → Prop) : Prop :=
  P.cellsOf e = E.sz ∧ ∀ (n : Nat) (cs : List Value) (y : DataW H × List MemPlace), cs.length = E.sz → DataW.trod enc P w base sp held n e cs = some y → ∃ x, cs = E.e x ∧ Q x
theorem open_cells {α : Type} {E : Enc α} {t e : TypeId} {Q : α → Prop} (ht : P.underlying t = some (.slice e)) (he : ElOk enc P w base sp held E e Q) {n : Nat} {cs : List Value} {y : DataW H × List MemPlace} (h : DataW.trod enc P w base sp held n t cs = some y) :
    ∃ (s : Sl) (xs : List α), cs = [s.val] ∧ Rd E w s xs ∧ ∀ x ∈ xs, Q x := by
  rcases DataW.trod_slice ht h with ⟨h0, _⟩ | ⟨a, len, cap, elems, rest, m, _, rfl, _, _, hl, hm, hlen, hel, _, _⟩
  · exact ⟨nilS, [], h0, Rd.nil E w, fun x hx => by simp at hx⟩
  have each : ∀ k, k ≤ len → ∃ xs : List α, xs.length = k ∧ (∀ x ∈ xs, Q x) ∧ ∀ j u, (fl E xs)[j]? = some u → w.cell? (a.add j) = some u := by
    intro k
    induction k with
    | zero => exact fun _ => ⟨[], rfl, (fun x hx => by simp at hx), fun j u hu => by simp [fl] at hu⟩
    | succ k ih =>
      intro hk
      obtain ⟨xs, h1, h2, h3⟩ := ih (by omega)
      have hb := hel k (by omega)
      rw [List.getElem?_eq_getElem (by omega), Option.bind_eq_some_iff] at hb
      obtain ⟨cs', hcs, hy⟩ := hb
      obtain ⟨_, hcl, hcell⟩ := World.cells?_some hcs
      obtain ⟨x, rfl, hq⟩ := he.2 _ _ _ (by rw [hcl, he.1]) hy
      refine ⟨xs ++ [x], by rw [List.length_append, h1]; rfl, fun z hz => ?_, fun j u hu => ?_⟩
      · rcases List.mem_append.1 hz with hz | hz
        · exact h2 z hz
        · rw [List.mem_singleton.1 hz]; exact hq
      · rw [fl_append, fl_one] at hu
        by_cases hj : j < (fl E xs).length
        · rw [List.getElem?_append_left hj] at hu; exact h3 j u hu
        · rw [List.getElem?_append_right (by omega)] at hu
          have hi : j - (fl E xs).length < E.sz := by
            have := (List.getElem?_eq_some_iff.1 hu).1
            rw [E.len] at this; exact this
          have := hcell (j - (fl E xs).length) (by rw [he.1]; exact hi)
          rw [hu, add_add, he.1] at this
          rw [fl_length, h1] at this hj
          rw [← this]; congr 2; omega
  obtain ⟨xs, h1, h2, h3⟩ := each len (Nat.le_refl _)
  refine ⟨⟨some a, len, cap⟩, xs, rfl, ⟨some a, cap, by rw [h1], by omega, hm, (fun h => by simp at h), fun j u hu => ⟨a, rfl, h3 j u hu⟩⟩, h2⟩
/-- An argument. -/
theorem open_sl {α : Type} {E : Enc α} {t e : TypeId} {Q : α → Prop} {a : Option Addr} {len cap : Nat} {d : DataW H} {ps : List MemPlace} (ht : P.underlying t = some (.slice e)) (he : ElOk enc P w base sp held E e Q) (h : DataW.Trod enc P w base sp held t (.slice a len cap) d ps) :
    ∃ xs : List α, Rd E w ⟨a, len, cap⟩ xs ∧ ∀ x ∈ xs, Q x := by
  obtain ⟨n, hn⟩ := h
  obtain ⟨s, xs, h1, h2, h3⟩ := open_cells ht he hn
  have hs : s = ⟨a, len, cap⟩ := by
    cases s
    simp [Value.cells, Sl.val] at h1
    obtain ⟨rfl, rfl, rfl⟩ := h1; rfl
  exact ⟨xs, hs ▸ h2, h3⟩
/-- A struct's fields. -/
theorem open_fields {fs : Array Field} {t : TypeId} (ht : P.underlying t = some (.struct fs)) {n : Nat} {cs : List Value} {y : DataW H × List MemPlace} (h : DataW.trod enc P w base sp held n t cs = some y) :
    cs.length = P.cellsOf t ∧ ∃ m, ∀ (i : Nat) (f : Field), fs[i]? = some f → ∃ z, DataW.trod enc P w base sp held m f.type ((cs.drop f.offset).take (P.cellsOf f.type)) = some z := by
  obtain ⟨xs, m, _, _, h1, h2, h3⟩ := DataW.trod_struct ht h
  refine ⟨h1, m, fun i f hf => ?_⟩
  have hi : i < xs.length := by rw [h2]; exact (Array.getElem?_eq_some_iff.1 hf).1
  exact ⟨xs[i], by rw [h3 i f hf]; exact List.getElem?_eq_getElem hi⟩
/-- A number that fits its kind. -/
def I64 (n : Int) : Prop := (Lit.int .i64 n).wf = true
theorem I64.le {n : Int} (h : I64 n) : -9223372036854775808 ≤ n ∧ n ≤ 9223372036854775807 := by
  unfold I64 Lit.wf at h
  rw [Bool.and_eq_true, decide_eq_true_iff, decide_eq_true_iff] at h
  have e1 : IntKind.i64.min = -9223372036854775808 := by decide
  have e2 : IntKind.i64.max = 9223372036854775807 := by decide
  rw [e1, e2] at h
  exact h
end
end Go.Proofs.Ytgffaimgnmfifaa
