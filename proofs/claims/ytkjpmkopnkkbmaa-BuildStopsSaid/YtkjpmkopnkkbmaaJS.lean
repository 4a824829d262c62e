/- Small machines; how arguments are opened. -/
import Derived.Test.YtkjpmkopnkkbmaaJ5
import Derived.Test.YtkjpmkopnkkbmaaJ6
import Derived.Test.YtkjpmkopnkkbmaaJA
import Derived.Test.YtkjpmkopnkkbmaaJR
import Derived.Test.YtkjpmkopnkkbmaaJ2
import Derived.ChangeArms
import Derived.ChangeSlices
import Derived.Test.YtkjpmkopnkkbmaaJ3

/- Small machines; machines alike; a machine at its beginning. -/
set_option maxRecDepth 100000
namespace Go.Proofs.Ytkjpmkopnkkbmaa
open Go.RowKit

/-- A machine that may be. -/
structure RightS (s : StV) : Prop where
  st : s.stack.length ≤ 48
  bk : s.back.length ≤ 48
  me : s.mem.length ≤ 3000
  out : s.out.size ≤ 2000
  rd : 0 ≤ s.read ∧ s.read ≤ s.inp.size
  status : 0 ≤ s.status ∧ s.status ≤ 2
theorem r9right_any {D : Nat → Prop} {w : World} (S : StC) {s : StV} (h : StIs D w S s) : Calls Try.prog fn_hollowayref9_Right #[.agg (stC S).toArray] w fun e w' => ∃ b : Bool, e = .returned (.bool b) ∧ (b = true ↔ RightS s) ∧ Chg No w w' := by
  refine (hollowayref9_Right_lift (K := fun r w' => ∃ b : Bool, r = .bool b ∧ (b = true ↔ RightS s) ∧ Chg No w w') ?_).mono (by rintro e w' ⟨r, rfl, b, rfl, h⟩; exact ⟨b, rfl, h⟩)
  unfold hollowayref9_Right_sh
  intro b11 w12 hb11 hw12
  have o : Ob w12 b11 (stC S) T_api_State := by rw [hw12, hb11]; exact Ob.new w (stC S) T_api_State
  have c := al hw12
  obtain ⟨m1, m2, m3, m4, m5, m6, m7⟩ := h.nums
  have l1 := h.st.len
  have l2 := h.bk.len
  have l3 := h.me.len
  have no : ¬ RightS s → ∃ b : Bool, Value.bool false = .bool b ∧ (b = true ↔ RightS s) ∧ Chg No w w12 := fun h => ⟨false, rfl, ⟨(fun h => by cases h), fun h' => absurd h' h⟩, c⟩
  refine ⟨S.stack, o.cell rfl, brB_of (fun h1 => ?_) (fun h1 => no fun hh => ?_)⟩
  rotate_left
  · have := of_decide_eq_false h1; have := hh.st; omega
  have h1 := of_decide_eq_true h1
  refine ⟨S.back, o.cell rfl, brB_of (fun h2 => ?_) (fun h2 => no fun hh => ?_)⟩
  rotate_left
  · have := of_decide_eq_false h2; have := hh.bk; omega
  have h2 := of_decide_eq_true h2
  refine ⟨S.mem, o.cell rfl, brB_of (fun h3 => ?_) (fun h3 => no fun hh => ?_)⟩
  rotate_left
  · have := of_decide_eq_false h3; have := hh.me; omega
  have h3 := of_decide_eq_true h3
  refine ⟨S.out, o.cell rfl, brB_of (fun h4 => ?_) (fun h4 => no fun hh => ?_)⟩
  rotate_left
  · have := of_decide_eq_false h4; have := hh.out; rw [m3] at *; omega
  have h4 := of_decide_eq_true h4
  refine ⟨S.read, o.cell rfl, brB_of (fun h5 => ?_) (fun h5 => no fun hh => ?_)⟩
  rotate_left
  · have := of_decide_eq_false h5; have := hh.rd; omega
  have h5 := of_decide_eq_true h5
  refine ⟨S.read, o.cell rfl, S.inp, o.cell rfl, brB_of (fun h6 => ?_) (fun h6 => no fun hh => ?_)⟩
  rotate_left
  · have := of_decide_eq_false h6; have := hh.rd; rw [m4] at *; omega
  have h6 := of_decide_eq_true h6
  refine ⟨S.status, o.cell rfl, brB_of (fun h7 => ?_) (fun h7 => no fun hh => ?_)⟩
  rotate_left
  · have := of_decide_eq_false h7; have := hh.status; omega
  have h7 := of_decide_eq_true h7
  rw [m3] at h4
  rw [m4] at h6
  refine ⟨S.status, o.cell rfl, _, rfl, ⟨fun h8 => ?_, fun hh => ?_⟩, c⟩
  · have h8 := of_decide_eq_true h8
    exact ⟨by omega, by omega, by omega, by omega, by omega, by omega⟩
  · have := hh.status
    apply decide_eq_true; omega
/-- A small machine. -/
structure LightS (s : StV) : Prop where
  right : RightS s
  me : s.mem.length ≤ 700
  inp : s.inp.size ≤ 300
/-! ### A machine at its beginning -/
def bootC (k : Nat) : Int := if k = 1 then 1 else if 64 ≤ k ∧ k < 160 then (if k % 2 = 0 then ((k : Int) - 64) / 2 else 5) else 0
def bootM (M : Nat) : List Int := (List.range M).map bootC
def bootV (M : Nat) (inp : ByteArray) : StV := ⟨0, 0, [], [], bootM M, bs [], inp, 0, 1, 0⟩
theorem bootM_of {xs : List Int} {M : Nat} (hl : xs.length = M) (h : ∀ q : Nat, q < M → xs[q]? = some (bootC q)) : xs = bootM M := by
  apply List.ext_getElem?
  intro q
  by_cases hq : q < M
  · rw [h q hq]; unfold bootM
    rw [List.getElem?_map, List.getElem?_range hq]; rfl
  · rw [List.getElem?_eq_none (by omega), List.getElem?_eq_none (by unfold bootM; simp; omega)]
end Go.Proofs.Ytkjpmkopnkkbmaa

/- From what a statement's frame tells of an argument to what the walks ask of it: slices of any elements. Over any program. -/
namespace Go.Proofs.Ytkjpmkopnkkbmaa
open Go.RowKit

section
variable {H : Type} {enc : TypeId × Value → H} {P : Program} {w : World} {base : Nat} {sp : Nat → Bool} {held : Bool}
/-- What elements of a type read as: each is some x that meets Q. -/
def ElOk {α : Type} (enc : TypeId × Value → H) (P : Program) (w : World) (base : Nat) (sp : Nat → Bool) (held : Bool) (E : Enc α) (e : TypeId) (Q : α → Prop) : Prop :=
  P.cellsOf e = E.sz ∧ ∀ (n : Nat) (cs : List Value) (y : DataW H × List MemPlace), cs.length = E.sz → DataW.trod enc P w base sp held n e cs = some y → ∃ x, cs = E.e x ∧ Q x
theorem open_cells {α : Type} {E : Enc α} {t e : TypeId} {Q : α → Prop} (ht : P.underlying t = some (.slice e)) (he : ElOk enc P w base sp held E e Q) {n : Nat} {cs : List Value} {y : DataW H × List MemPlace} (h : DataW.trod enc P w base sp held n t cs = some y) :
    ∃ (s : Sl) (xs : List α), cs = [s.val] ∧ Rd E w s xs ∧ ∀ x ∈ xs, Q x := by
  rcases DataW.trod_slice ht h with ⟨h0, _⟩ | ⟨a, len, cap, elems, rest, m, _, rfl, _, _, hl, hm, hlen, hel, _, _⟩
  · exact ⟨nilS, [], h0, Rd.nil E w, fun x hx => by simp at hx⟩
  have each : ∀ k, k ≤ len → ∃ xs : List α, xs.length = k ∧ (∀ x ∈ xs, Q x) ∧ ∀ j u, (fl E xs)[j]? = some u → w.cell? (a.add j) = some u := by
    intro k
    induction k with
    | zero => exact fun _ => ⟨[], rfl, (fun x hx => by simp at hx), fun j u hu => by simp [fl] at hu⟩
    | succ k ih =>
      intro hk
      obtain ⟨xs, h1, h2, h3⟩ := ih (by omega)
      have hb := hel k (by omega)
      rw [List.getElem?_eq_getElem (by omega), Option.bind_eq_some_iff] at hb
      obtain ⟨cs', hcs, hy⟩ := hb
      obtain ⟨_, hcl, hcell⟩ := World.cells?_some hcs
      obtain ⟨x, rfl, hq⟩ := he.2 _ _ _ (by rw [hcl, he.1]) hy
      refine ⟨xs ++ [x], by rw [List.length_append, h1]; rfl, fun z hz => ?_, fun j u hu => ?_⟩
      · rcases List.mem_append.1 hz with hz | hz
        · exact h2 z hz
        · rw [List.mem_singleton.1 hz]; exact hq
      · rw [fl_append, fl_one] at hu
        by_cases hj : j < (fl E xs).length
        · rw [List.getElem?_append_left hj] at hu; exact h3 j u hu
        · rw [List.getElem?_append_right (by omega)] at hu
          have hi : j - (fl E xs).length < E.sz := by
            have := (List.getElem?_eq_some_iff.1 hu).1
            rw [E.len] at this; exact this
          have := hcell (j - (fl E xs).length) (by rw [he.1]; exact hi)
          rw [hu, add_add, he.1] at this
          rw [fl_length, h1] at this hj
          rw [← this]; congr 2; omega
  obtain ⟨xs, h1, h2, h3⟩ := each len (Nat.le_refl _)
  refine ⟨⟨some a, len, cap⟩, xs, rfl, ⟨some a, cap, by rw [h1], by omega, hm, (fun h => by simp at h), fun j u hu => ⟨a, rfl, h3 j u hu⟩⟩, h2⟩
/-- An argument. -/
theorem open_sl {α : Type} {E : Enc α} {t e : TypeId} {Q : α → Prop} {a : Option Addr} {len cap : Nat} {d : DataW H} {ps : List MemPlace} (ht : P.underlying t = some (.slice e)) (he : ElOk enc P w base sp held E e Q) (h : DataW.Trod enc P w base sp held t (.slice a len cap) d ps) :
    ∃ xs : List α, Rd E w ⟨a, len, cap⟩ xs ∧ ∀ x ∈ xs, Q x := by
  obtain ⟨n, hn⟩ := h
  obtain ⟨s, xs, h1, h2, h3⟩ := open_cells ht he hn
  have hs : s = ⟨a, len, cap⟩ := by
    cases s
    simp [Value.cells, Sl.val] at h1
    obtain ⟨rfl, rfl, rfl⟩ := h1; rfl
  exact ⟨xs, hs ▸ h2, h3⟩
/-- A struct's fields. -/
theorem open_fields {fs : Array Field} {t : TypeId} (ht : P.underlying t = some (.struct fs)) {n : Nat} {cs : List Value} {y : DataW H × List MemPlace} (h : DataW.trod enc P w base sp held n t cs = some y) :
    cs.length = P.cellsOf t ∧ ∃ m, ∀ (i : Nat) (f : Field), fs[i]? = some f → ∃ z, DataW.trod enc P w base sp held m f.type ((cs.drop f.offset).take (P.cellsOf f.type)) = some z := by
  obtain ⟨xs, m, _, _, h1, h2, h3⟩ := DataW.trod_struct ht h
  refine ⟨h1, m, fun i f hf => ?_⟩
  have hi : i < xs.length := by rw [h2]; exact (Array.getElem?_eq_some_iff.1 hf).1
  exact ⟨xs[i], by rw [h3 i f hf]; exact List.getElem?_eq_getElem hi⟩
/-- A number that fits its kind. -/
def I64 (n : Int) : Prop := (Lit.int .i64 n).wf = true
theorem I64.le {n : Int} (h : I64 n) : -9223372036854775808 ≤ n ∧ n ≤ 9223372036854775807 := by
  unfold I64 Lit.wf at h
  rw [Bool.and_eq_true, decide_eq_true_iff, decide_eq_true_iff] at h
  have e1 : IntKind.i64.min = -9223372036854775808 := by decide
  have e2 : IntKind.i64.max = 9223372036854775807 := by decide
  rw [e1, e2] at h
  exact h
end
end Go.Proofs.Ytkjpmkopnkkbmaa

/- Numbers and machines, as a statement's frame tells of them. -/
set_option maxRecDepth 100000
namespace Go.Proofs.Ytkjpmkopnkkbmaa
open Go.RowKit Go.WideShapes

theorem int_open {H : Type} (enc : TypeId × Value → H) (w : World) (base : Nat) (sp : Nat → Bool) (held : Bool) : ElOk enc Try.prog w base sp held intE T_int Cn.In := by
  refine ⟨by kernel_rfl, fun n cs y hl h => ?_⟩
  obtain ⟨m, rfl, _, hw⟩ := DataW.trod_int Try.underlying3 h
  have hw : I64 m := hw
  exact ⟨m, rfl, hw.le⟩
theorem state_open {H : Type} (enc : TypeId × Value → H) (W : World) {v : Value} {d : DataW H} {p : List MemPlace} (hv : Value.okWide Try.prog W .any 0 T_api_State v) (h : DataW.Trod enc Try.prog W 0 (fun _ => true) true T_api_State v d p) :
    ∃ S : StC, v = .agg (stC S).toArray ∧ ∃ s : StV, StIs (fun _ => True) W S s ∧ (∀ x ∈ s.stack, Cn.In x) ∧ (∀ x ∈ s.back, Cn.In x) ∧ (∀ x ∈ s.mem, Cn.In x) ∧ Cn.In s.handler := by
  obtain ⟨cs, rfl, hsz⟩ := okWide_struct Try.underlying24 hv
  obtain ⟨n, hn⟩ := h
  obtain ⟨_, m, hf⟩ := open_fields Try.underlying24 hn
  have hcc : Try.prog.cellsOf T_api_State = 10 := by kernel_rfl
  rw [hcc] at hsz
  obtain ⟨l, rfl⟩ : ∃ l : List Value, cs = l.toArray := ⟨cs.toList, by simp⟩
  have hl : l.length = 10 := by simpa using hsz
  obtain ⟨c0, c1, c2, c3, c4, c5, c6, c7, c8, c9, rfl⟩ : ∃ c0 c1 c2 c3 c4 c5 c6 c7 c8 c9, l = [c0, c1, c2, c3, c4, c5, c6, c7, c8, c9] := by
    match l, hl with
    | [c0, c1, c2, c3, c4, c5, c6, c7, c8, c9], _ => exact ⟨_, _, _, _, _, _, _, _, _, _, rfl⟩
  have s1 : Try.prog.cellsOf 3 = 1 := by kernel_rfl
  have s2 : Try.prog.cellsOf 22 = 1 := by kernel_rfl
  have s3 : Try.prog.cellsOf 9 = 1 := by kernel_rfl
  obtain ⟨z0, h0⟩ := hf 0 _ rfl
  obtain ⟨z1, h1⟩ := hf 1 _ rfl
  obtain ⟨z2, h2⟩ := hf 2 _ rfl
  obtain ⟨z3, h3⟩ := hf 3 _ rfl
  obtain ⟨z4, h4⟩ := hf 4 _ rfl
  obtain ⟨z5, h5⟩ := hf 5 _ rfl
  obtain ⟨z6, h6⟩ := hf 6 _ rfl
  obtain ⟨z7, h7⟩ := hf 7 _ rfl
  obtain ⟨z8, h8⟩ := hf 8 _ rfl
  obtain ⟨z9, h9⟩ := hf 9 _ rfl
  obtain ⟨x0, e0, _⟩ := DataW.trod_int Try.underlying3 h0
  obtain ⟨x1, e1, _, hw1⟩ := DataW.trod_int Try.underlying3 h1
  have hw1 : I64 x1 := hw1
  obtain ⟨q2, l2, e2, r2, i2⟩ := open_cells Try.underlying22 (int_open enc W 0 (fun _ => true) true) h2
  obtain ⟨q3, l3, e3, r3, i3⟩ := open_cells Try.underlying22 (int_open enc W 0 (fun _ => true) true) h3
  obtain ⟨q4, l4, e4, r4, i4⟩ := open_cells Try.underlying22 (int_open enc W 0 (fun _ => true) true) h4
  obtain ⟨x5, e5, _⟩ := DataW.trod_string Try.underlying9 h5
  obtain ⟨x6, e6, _⟩ := DataW.trod_string Try.underlying9 h6
  obtain ⟨x7, e7, _⟩ := DataW.trod_int Try.underlying3 h7
  obtain ⟨x8, e8, _⟩ := DataW.trod_int Try.underlying3 h8
  obtain ⟨x9, e9, _⟩ := DataW.trod_int Try.underlying3 h9
  simp [Value.cells, s1, s2, s3] at e0 e1 e2 e3 e4 e5 e6 e7 e8 e9
  exact ⟨⟨x0, x1, q2, q3, q4, x5, x6, x7, x8, x9⟩, by rw [e0, e1, e2, e3, e4, e5, e6, e7, e8, e9]; rfl, ⟨x0, x1, l2, l3, l4, x5, x6, x7, x8, x9⟩, ⟨⟨rfl, rfl, rfl, rfl, rfl, rfl, rfl⟩, r2, r3, r4, fun _ _ => trivial, fun _ _ => trivial, fun _ _ => trivial⟩, i2, i3, i4, hw1.le⟩
end Go.Proofs.Ytkjpmkopnkkbmaa
