/- What the laws of traces ask; how arguments are opened. -/
import Derived.Test.YtblmoilneiffgaaJ5
import Derived.Test.YtblmoilneiffgaaJ7
import Derived.Test.YtblmoilneiffgaaJ6
import Derived.Test.YtblmoilneiffgaaJA
import Derived.Test.YtblmoilneiffgaaJ4
import Derived.Laws.StructEq
import Derived.Test.YtblmoilneiffgaaJ3
import Derived.Test.YtblmoilneiffgaaJC
import Derived.Test.YtblmoilneiffgaaJ2
import Derived.ChangeArms
import Derived.ChangeSlices

/- What the statements about traces ask: small machines, small traces, machines alike, a machine at its beginning, how a run ended. -/
set_option maxRecDepth 100000
namespace Go.Proofs.Ytblmoilneiffgaa
open Go.RowKit

theorem sameState_any {D D' : Nat → Prop} {w : World} (S S' : StC) {s : StV} (h : StIs D w S s) (h' : StIs D' w S' s) : Calls Try.prog fn_hollowaybook_SameState #[.agg (stC S).toArray, .agg (stC S').toArray] w fun e w' => e = .returned (.bool true) ∧ Chg No w w' := by
  refine (hollowaybook_SameState_lift (K := fun r w' => r = .bool true ∧ Chg No w w') ?_).mono (by rintro e w' ⟨r, rfl, rfl, h⟩; exact ⟨rfl, h⟩)
  unfold hollowaybook_SameState_sh
  intro b21 w22 hb21 hw22 b23 w24 hb23 hw24
  have o21 : Ob w24 b21 (stC S) T_api_State := by
    have : Ob w22 b21 (stC S) T_api_State := by rw [hw22, hb21]; exact Ob.new w (stC S) T_api_State
    exact this.no (al hw24)
  have o23 : Ob w24 b23 (stC S') T_api_State := by rw [hw24, hb23]; exact Ob.new w22 (stC S') T_api_State
  have c24 := trN (al hw22) (al hw24)
  obtain ⟨m1, m2, m3, m4, m5, m6, m7⟩ := h.nums
  obtain ⟨n1, n2, n3, n4, n5, n6, n7⟩ := h'.nums
  have eqI : ∀ {x y : Int} {A B : Prop}, x = y → A → brB (x == y) A B := fun h k => by rw [show (_ == _) = true from by simpa using h]; exact brB_t k
  have eqS : ∀ {x y : ByteArray} {A B : Prop}, x = y → A → brB (x.toList == y.toList) A B := fun h k => by rw [show (_ == _) = true from by simp [h]]; exact brB_t k
  refine ⟨S.ip, o21.cell rfl, S'.ip, o23.cell rfl, eqI (m1.trans n1.symm) ⟨S.handler, o21.cell rfl, S'.handler, o23.cell rfl, eqI (m2.trans n2.symm) ?_⟩⟩
  refine ⟨S.stack, o21.cell rfl, S'.stack, o23.cell rfl, (sameInts_ok _ _ s.stack _ (h.st.no c24) (h'.st.no c24)).mono ?_⟩
  rintro e w32 ⟨rfl, c32⟩
  have k32 := trN c24 c32
  refine ⟨_, rfl, brB_t ⟨S.back, (o21.no c32).cell rfl, S'.back, (o23.no c32).cell rfl, (sameInts_ok _ _ s.back _ (h.bk.no k32) (h'.bk.no k32)).mono ?_⟩⟩
  rintro e w37 ⟨rfl, c37⟩
  have k37 := trN k32 c37
  have c37' := trN c32 c37
  refine ⟨_, rfl, brB_t ⟨S.mem, (o21.no c37').cell rfl, S'.mem, (o23.no c37').cell rfl, (sameInts_ok _ _ s.mem _ (h.me.no k37) (h'.me.no k37)).mono ?_⟩⟩
  rintro e w42 ⟨rfl, c42⟩
  have c42' := trN c37' c42
  have p21 := o21.no c42'
  have p23 := o23.no c42'
  refine ⟨_, rfl, brB_t ⟨S.out, p21.cell rfl, S'.out, p23.cell rfl, eqS (m3.trans n3.symm) ⟨S.inp, p21.cell rfl, S'.inp, p23.cell rfl, eqS (m4.trans n4.symm) ⟨S.read, p21.cell rfl, S'.read, p23.cell rfl, eqI (m5.trans n5.symm) ⟨S.status, p21.cell rfl, S'.status, p23.cell rfl, eqI (m6.trans n6.symm) ⟨S.code, p21.cell rfl, S'.code, p23.cell rfl, ?_, trN k37 c42⟩⟩⟩⟩⟩⟩
  rw [m7, n7]; simp
/-! ### A machine at its beginning -/
end Go.Proofs.Ytblmoilneiffgaa

/- The law's first call (chapter 15), EvalGuards. -/
set_option maxRecDepth 100000
namespace Go.Proofs.Ytblmoilneiffgaa
open Go.RowKit

/-- Literals. -/
theorem litIns {w w' : World} {b : Nat} (xs : List In5) (cs : List Value) (hcs : cs = fl insE xs) (hb : b = w.heap.size) (hw : w' = World.alloc w (.cells cs.toArray T_api_Ins)) (hl : xs.length ≤ 100) : Ow insE w' ⟨some ⟨b, 0, none⟩, xs.length, xs.length⟩ xs ∧ Chg No w w' := by
  rw [hw, hb]
  exact ⟨Ow.lit (E := insE) w xs cs hcs (by unfold maxLen; omega), Chg.alloc _ _ _⟩
theorem litOus {w w' : World} {b : Nat} (xs : List OuC) (cs : List Value) (hcs : cs = fl ouE xs) (hb : b = w.heap.size) (hw : w' = World.alloc w (.cells cs.toArray T_api_Out)) (hl : xs.length ≤ 100) : Ow ouE w' ⟨some ⟨b, 0, none⟩, xs.length, xs.length⟩ xs ∧ Chg No w w' := by
  rw [hw, hb]
  exact ⟨Ow.lit (E := ouE) w xs cs hcs (by unfold maxLen; omega), Chg.alloc _ _ _⟩
def Any : Nat → Prop := fun _ => True
theorem ous_nil (w : World) : OusIs Any w [] [] := ⟨rfl, fun i o v h => by simp at h⟩
theorem ous_cons {w : World} {o : OuC} {v : OuV} {os : List OuC} {vs : List OuV} (h1 : o.ip = v.ip ∧ o.steps = v.steps) (h2 : Rd intE w o.stack v.stack) (h3 : Rd intE w o.back v.back) (h : OusIs Any w os vs) : OusIs Any w (o :: os) (v :: vs) := by
  refine ⟨by simp [h.1], fun i o' v' ho hv => ?_⟩
  cases i with
  | zero =>
    have ho : o = o' := by simpa using ho
    have hv : v = v' := by simpa using hv
    subst ho hv
    exact ⟨h1.1, h1.2, h2, h3, fun _ _ => trivial, fun _ _ => trivial⟩
  | succ i => exact h.2 i o' v' (by simpa using ho) (by simpa using hv)
/-- A trace's cells and what it says. -/
theorem tris {w : World} {t : TrP} {v : TrG} {os : List OuC} (h1 : t.start = v.start ∧ t.slots = v.slots ∧ t.backs = v.backs ∧ t.grow = v.grow ∧ t.growBack = v.growBack ∧ t.last = v.last) (h2 : Rd insE w t.ins v.ins) (h3 : Rd ouE w t.outs os) (h4 : OusIs Any w os v.outs) (h5 : Rd intE w t.cells v.cells) : TrIs Any w t v :=
  ⟨h1, h2, ⟨os, h3, h4⟩, h5, fun _ _ => trivial, fun _ _ => trivial, fun _ _ => trivial⟩
theorem stis {w : World} {S : StC} {s : StV} (h : StNums S s) (h1 : Rd intE w S.stack s.stack) (h2 : Rd intE w S.back s.back) (h3 : Rd intE w S.mem s.mem) : StIs Any w S s := ⟨h, h1, h2, h3, fun _ _ => trivial, fun _ _ => trivial, fun _ _ => trivial⟩
end Go.Proofs.Ytblmoilneiffgaa

/- From what a statement's frame tells of an argument to what the walks ask of it: slices of any elements. Over any program. -/
namespace Go.Proofs.Ytblmoilneiffgaa
open Go.RowKit

section
variable {H : Type} {enc : TypeId × Value → H} {P : Program} {w : World} {base : Nat} {sp : Nat → Bool} {held : Bool}
/-- What elements of a type read as: each is some x that meets Q. -/
def ElOk {α : Type} (enc : TypeId × Value → H) (P : Program) (w : World) (base : Nat) (sp : Nat → Bool) (held : Bool) (E : Enc α) (e : TypeId) (Q : α → Prop) : Prop :=
  P.cellsOf e = E.sz ∧ ∀ (n : Nat) (cs : List Value) (y : DataW H × List MemPlace), cs.length = E.sz → DataW.trod enc P w base sp held n e cs = some y → ∃ x, cs = E.e x ∧ Q x
theorem open_cells {α : Type} {E : Enc α} {t e : TypeId} {Q : α → Prop} (ht : P.underlying t = some (.slice e)) (he : ElOk enc P w base sp held E e Q) {n : Nat} {cs : List Value} {y : DataW H × List MemPlace} (h : DataW.trod enc P w base sp held n t cs = some y) :
    ∃ (s : Sl) (xs : List α), cs = [s.val] ∧ Rd E w s xs ∧ ∀ x ∈ xs, Q x := by
  rcases DataW.trod_slice ht h with ⟨h0, _⟩ | ⟨a, len, cap, elems, rest, m, _, rfl, _, _, hl, hm, hlen, hel, _, _⟩
  · exact ⟨nilS, [], h0, Rd.nil E w, fun x hx => by simp at hx⟩
  have each : ∀ k, k ≤ len → ∃ xs : List α, xs.length = k ∧ (∀ x ∈ xs, Q x) ∧ ∀ j u, (fl E xs)[j]? = some u → w.cell? (a.add j) = some u := by
    intro k
    induction k with
    | zero => exact fun _ => ⟨[], rfl, (fun x hx => by simp at hx), fun j u hu => by simp [fl] at hu⟩
    | succ k ih =>
      intro hk
      obtain ⟨xs, h1, h2, h3⟩ := ih (by omega)
      have hb := hel k (by omega)
      rw [List.getElem?_eq_getElem (by omega), Option.bind_eq_some_iff] at hb
      obtain ⟨cs', hcs, hy⟩ := hb
      obtain ⟨_, hcl, hcell⟩ := World.cells?_some hcs
      obtain ⟨x, rfl, hq⟩ := he.2 _ _ _ (by rw [hcl, he.1]) hy
      refine ⟨xs ++ [x], by rw [List.length_append, h1]; rfl, fun z hz => ?_, fun j u hu => ?_⟩
      · rcases List.mem_append.1 hz with hz | hz
        · exact h2 z hz
        · rw [List.mem_singleton.1 hz]; exact hq
      · rw [fl_append, fl_one] at hu
        by_cases hj : j < (fl E xs).length
        · rw [List.getElem?_append_left hj] at hu; exact h3 j u hu
        · rw [List.getElem?_append_right (by omega)] at hu
          have hi : j - (fl E xs).length < E.sz := by
            have := (List.getElem?_eq_some_iff.1 hu).1
            rw [E.len] at this; exact this
          have := hcell (j - (fl E xs).length) (by rw [he.1]; exact hi)
          rw [hu, add_add, he.1] at this
          rw [fl_length, h1] at this hj
          rw [← this]; congr 2; omega
  obtain ⟨xs, h1, h2, h3⟩ := each len (Nat.le_refl _)
  refine ⟨⟨some a, len, cap⟩, xs, rfl, ⟨some a, cap, by rw [h1], by omega, hm, (fun h => by simp at h), fun j u hu => ⟨a, rfl, h3 j u hu⟩⟩, h2⟩
/-- An argument. -/
theorem open_sl {α : Type} {E : Enc α} {t e : TypeId} {Q : α → Prop} {a : Option Addr} {len cap : Nat} {d : DataW H} {ps : List MemPlace} (ht : P.underlying t = some (.slice e)) (he : ElOk enc P w base sp held E e Q) (h : DataW.Trod enc P w base sp held t (.slice a len cap) d ps) :
    ∃ xs : List α, Rd E w ⟨a, len, cap⟩ xs ∧ ∀ x ∈ xs, Q x := by
  obtain ⟨n, hn⟩ := h
  obtain ⟨s, xs, h1, h2, h3⟩ := open_cells ht he hn
  have hs : s = ⟨a, len, cap⟩ := by
    cases s
    simp [Value.cells, Sl.val] at h1
    obtain ⟨rfl, rfl, rfl⟩ := h1; rfl
  exact ⟨xs, hs ▸ h2, h3⟩
/-- A number that fits its kind. -/
def I64 (n : Int) : Prop := (Lit.int .i64 n).wf = true
theorem I64.le {n : Int} (h : I64 n) : -9223372036854775808 ≤ n ∧ n ≤ 9223372036854775807 := by
  unfold I64 Lit.wf at h
  rw [Bool.and_eq_true, decide_eq_true_iff, decide_eq_true_iff] at h
  have e1 : IntKind.i64.min = -9223372036854775808 := by decide
  have e2 : IntKind.i64.max = 9223372036854775807 := by decide
  rw [e1, e2] at h
  exact h
end
end Go.Proofs.Ytblmoilneiffgaa

/- Numbers, machines and traces, as a statement's frame tells of them. -/
set_option maxRecDepth 100000
namespace Go.Proofs.Ytblmoilneiffgaa
open Go.RowKit Go.WideShapes

theorem int_open {H : Type} (enc : TypeId × Value → H) (w : World) (base : Nat) (sp : Nat → Bool) (held : Bool) : ElOk enc Try.prog w base sp held intE T_int Cn.In := by
  refine ⟨by kernel_rfl, fun n cs y hl h => ?_⟩
  obtain ⟨m, rfl, _, hw⟩ := DataW.trod_int Try.underlying3 h
  have hw : I64 m := hw
  exact ⟨m, rfl, hw.le⟩
end Go.Proofs.Ytblmoilneiffgaa
