/- What the laws of traces ask; how arguments are opened. -/
import Derived.Test.YtblmoilneiffgaaGreatJ5
import Derived.Test.YtblmoilneiffgaaGreatJ7
import Derived.Test.YtblmoilneiffgaaGreatJ6
import Derived.Test.YtblmoilneiffgaaGreatJA
import Derived.Test.YtblmoilneiffgaaGreatJ4
import Derived.Laws.StructEq
import Derived.Test.YtblmoilneiffgaaGreatJ3
import Derived.Test.YtblmoilneiffgaaGreatJC
import Derived.Test.YtblmoilneiffgaaGreatJ2
import Derived.ChangeArms
import Derived.ChangeSlices

/- What the statements about traces ask: small machines, small traces, machines alike, a machine at its beginning, how a run ended. -/
set_option maxRecDepth 100000
namespace Go.Proofs.YtblmoilneiffgaaGreat
open Go.RowKit

theorem done_eql (x1 n1 x2 n2 : Int) (h1 h2 : Bool) (x y : Operand) (w : World) : ((do eqGuard .eql T_eval_Done x y (.agg #[.int .i64 x1, .int .i64 n1, .bool h1]) (.agg #[.int .i64 x2, .int .i64 n2, .bool h2]); binOp .eql T_eval_Done (.agg #[.int .i64 x1, .int .i64 n1, .bool h1]) (.agg #[.int .i64 x2, .int .i64 n2, .bool h2]) : Sem Value)).run Tryz.prog w = .ok (.bool (decide (x1 = x2 ∧ n1 = n2 ∧ h1 = h2))) w := by
  have u1 := Tryz.underlying3
  have u3 := Tryz.underlying4
  have hS : Tryz.prog.underlying T_eval_Done = some (.struct (Tryz.prog.fieldsOf T_eval_Done)) := by kernel_rfl
  have hp : Tryz.prog.stoodInHeld T_eval_Done = false := by kernel_rfl
  have hm : Tryz.prog.eqGuardType Tryz.prog.depth T_eval_Done = false := by kernel_rfl
  simp only [Sem.run_bind, run_eqGuard_agg w .eql T_eval_Done x y _ _ hm, Result.andThen_ok, run_eql_struct]
  rw [show (10000 : Nat) = 9999 + 1 from rfl, run_equalIn_agg w 9999 T_eval_Done _ _ hS hp]
  simp only [Program.fieldsOf, Tryz.underlying50]
  go_simp
  by_cases g1 : x1 = x2 <;> by_cases g2 : n1 = n2 <;> by_cases g3 : h1 = h2 <;> simp [g1, g2, g3]
structure RightS (s : StV) : Prop where
  st : s.stack.length ≤ 48
  bk : s.back.length ≤ 48
  me : s.mem.length ≤ 3000
  out : s.out.size ≤ 2000
  rd : 0 ≤ s.read ∧ s.read ≤ s.inp.size
  status : 0 ≤ s.status ∧ s.status ≤ 2
theorem r9right_any {D : Nat → Prop} {w : World} (S : StC) {s : StV} (h : StIs D w S s) : Calls Tryz.prog fn_hollowayref9_Right #[.agg (stC S).toArray] w fun e w' => ∃ b : Bool, e = .returned (.bool b) ∧ (b = true ↔ RightS s) ∧ Chg No w w' := by
  refine (hollowayref9_Right_lift (K := fun r w' => ∃ b : Bool, r = .bool b ∧ (b = true ↔ RightS s) ∧ Chg No w w') ?_).mono (by rintro e w' ⟨r, rfl, b, rfl, h⟩; exact ⟨b, rfl, h⟩)
  unfold hollowayref9_Right_sh
  intro b11 w12 hb11 hw12
  have o : Ob w12 b11 (stC S) T_api_State := by rw [hw12, hb11]; exact Ob.new w (stC S) T_api_State
  have c := al hw12
  obtain ⟨m1, m2, m3, m4, m5, m6, m7⟩ := h.nums
  have l1 := h.st.len
  have l2 := h.bk.len
  have l3 := h.me.len
  have no : ¬ RightS s → ∃ b : Bool, Value.bool false = .bool b ∧ (b = true ↔ RightS s) ∧ Chg No w w12 := fun h => ⟨false, rfl, ⟨(fun h => by cases h), fun h' => absurd h' h⟩, c⟩
  refine ⟨S.stack, o.cell rfl, brB_of (fun h1 => ?_) (fun h1 => no fun hh => ?_)⟩
  rotate_left
  · have := of_decide_eq_false h1; have := hh.st; omega
  have h1 := of_decide_eq_true h1
  refine ⟨S.back, o.cell rfl, brB_of (fun h2 => ?_) (fun h2 => no fun hh => ?_)⟩
  rotate_left
  · have := of_decide_eq_false h2; have := hh.bk; omega
  have h2 := of_decide_eq_true h2
  refine ⟨S.mem, o.cell rfl, brB_of (fun h3 => ?_) (fun h3 => no fun hh => ?_)⟩
  rotate_left
  · have := of_decide_eq_false h3; have := hh.me; omega
  have h3 := of_decide_eq_true h3
  refine ⟨S.out, o.cell rfl, brB_of (fun h4 => ?_) (fun h4 => no fun hh => ?_)⟩
  rotate_left
  · have := of_decide_eq_false h4; have := hh.out; rw [m3] at *; omega
  have h4 := of_decide_eq_true h4
  refine ⟨S.read, o.cell rfl, brB_of (fun h5 => ?_) (fun h5 => no fun hh => ?_)⟩
  rotate_left
  · have := of_decide_eq_false h5; have := hh.rd; omega
  have h5 := of_decide_eq_true h5
  refine ⟨S.read, o.cell rfl, S.inp, o.cell rfl, brB_of (fun h6 => ?_) (fun h6 => no fun hh => ?_)⟩
  rotate_left
  · have := of_decide_eq_false h6; have := hh.rd; rw [m4] at *; omega
  have h6 := of_decide_eq_true h6
  refine ⟨S.status, o.cell rfl, brB_of (fun h7 => ?_) (fun h7 => no fun hh => ?_)⟩
  rotate_left
  · have := of_decide_eq_false h7; have := hh.status; omega
  have h7 := of_decide_eq_true h7
  rw [m3] at h4
  rw [m4] at h6
  refine ⟨S.status, o.cell rfl, _, rfl, ⟨fun h8 => ?_, fun hh => ?_⟩, c⟩
  · have h8 := of_decide_eq_true h8
    exact ⟨by omega, by omega, by omega, by omega, by omega, by omega⟩
  · have := hh.status
    apply decide_eq_true; omega
structure LightS (s : StV) : Prop where
  right : RightS s
  me : s.mem.length ≤ 700
  inp : s.inp.size ≤ 300
theorem LightS.tx {s : StV} (h : LightS s) : TxOk s := ⟨by have := h.right.out; omega, by have := h.inp; omega, h.right.rd.1⟩
theorem light9_any {D : Nat → Prop} {w : World} (S : StC) {s : StV} (h : StIs D w S s) : Calls Tryz.prog fn_hollowaylaw9_Light #[.agg (stC S).toArray] w fun e w' => ∃ b : Bool, e = .returned (.bool b) ∧ (b = true ↔ LightS s) ∧ Chg No w w' := by
  refine (hollowaylaw9_Light_lift (K := fun r w' => ∃ b : Bool, r = .bool b ∧ (b = true ↔ LightS s) ∧ Chg No w w') ?_).mono (by rintro e w' ⟨r, rfl, b, rfl, h⟩; exact ⟨b, rfl, h⟩)
  unfold hollowaylaw9_Light_sh
  intro b11 w12 hb11 hw12
  have o : Ob w12 b11 (stC S) T_api_State := by rw [hw12, hb11]; exact Ob.new w (stC S) T_api_State
  have c := al hw12
  obtain ⟨m1, m2, m3, m4, m5, m6, m7⟩ := h.nums
  have l3 := h.me.len
  have no : ¬ LightS s → ∃ b : Bool, Value.bool false = .bool b ∧ (b = true ↔ LightS s) ∧ Chg No w w12 := fun h => ⟨false, rfl, ⟨(fun h => by cases h), fun h' => absurd h' h⟩, c⟩
  refine ⟨S.mem, o.cell rfl, brB_of (fun h3 => ?_) (fun h3 => no fun hh => ?_)⟩
  rotate_left
  · have := of_decide_eq_false h3; have := hh.me; omega
  have h3 := of_decide_eq_true h3
  refine ⟨S.inp, o.cell rfl, brB_of (fun h4 => ?_) (fun h4 => no fun hh => ?_)⟩
  rotate_left
  · have := of_decide_eq_false h4; have := hh.inp; rw [m4] at *; omega
  have h4 := of_decide_eq_true h4
  rw [m4] at h4
  refine ⟨_, _, _, _, _, _, _, _, _, _, o.cell rfl, o.cell rfl, o.cell rfl, o.cell rfl, o.cell rfl, o.cell rfl, o.cell rfl, o.cell rfl, o.cell rfl, o.cell rfl, (r9right_any S (h.no c)).mono ?_⟩
  rintro e w26 ⟨b, rfl, hb, c26⟩
  exact ⟨b, rfl, b, rfl, ⟨fun h => ⟨hb.1 h, by omega, by omega⟩, fun h => hb.2 h.right⟩, trN c c26⟩
structure LightT (v : TrG) : Prop where
  ins : v.ins.length ≤ 120
  outs : v.outs.length ≤ 60
  cells : v.cells.length ≤ 100
  each : ∀ (k : Nat) (o : OuV), v.outs[k]? = some o → o.stack.length ≤ 60 ∧ o.back.length ≤ 60
theorem light14_any {D : Nat → Prop} {w : World} (t : TrP) {v : TrG} (ht : TrIs D w t v) : Calls Tryz.prog fn_hollowaylaw14_Light #[.agg (trP t).toArray] w fun e w' => ∃ b : Bool, e = .returned (.bool b) ∧ (b = true → LightT v) ∧ Chg No w w' := by
  refine (hollowaylaw14_Light_lift (K := fun r w' => ∃ b : Bool, r = .bool b ∧ (b = true → LightT v) ∧ Chg No w w') ?_).mono (by rintro e w' ⟨r, rfl, b, rfl, h⟩; exact ⟨b, rfl, h⟩)
  unfold hollowaylaw14_Light_sh
  intro b10 w11 hb10 hw11
  have o : Ob w11 b10 (trP t) T_api_Trace := by rw [hw11, hb10]; exact Ob.new w (trP t) T_api_Trace
  have c := al hw11
  have l1 := ht.ins.len
  have l3 := ht.cells.len
  obtain ⟨os, hos, hov⟩ := ht.outs
  have l2 := hos.len
  have l2c := hos.capL
  have hl := hov.1
  have no : ∃ b : Bool, Value.bool false = .bool b ∧ (b = true → LightT v) ∧ Chg No w w11 := ⟨false, rfl, (fun h => by cases h), c⟩
  refine ⟨fun n w' => ∃ k : Nat, n = k ∧ k ≤ v.outs.length ∧ k ≤ 100 ∧ (∀ (j : Nat) (o : OuV), j < k → v.outs[j]? = some o → o.stack.length ≤ 60 ∧ o.back.length ≤ 60) ∧ w' = w11, fun n _ => v.outs.length - n.toNat, ⟨0, rfl, Nat.zero_le _, Nat.zero_le _, fun j _ h => by omega, rfl⟩, ?_⟩
  rintro n w12 ⟨k, rfl, hk, hk100, hall, rfl⟩
  have fin : (k = v.outs.length ∨ k = 100) → hollowaylaw14_Light_j1 (fun n w' => ∃ k : Nat, n = k ∧ k ≤ v.outs.length ∧ k ≤ 100 ∧ (∀ (j : Nat) (o : OuV), j < k → v.outs[j]? = some o → o.stack.length ≤ 60 ∧ o.back.length ≤ 60) ∧ w' = w12) (k : Int) (fun n _ => v.outs.length - n.toNat) w12 b10 false w12 (fun r w' => ∃ b : Bool, r = .bool b ∧ (b = true → LightT v) ∧ Chg No w w') := by
    intro hend
    unfold hollowaylaw14_Light_j1
    refine brB_f ⟨t.ins, o.cell rfl, brB_of (fun h1 => ?_) (fun _ => no)⟩
    have h1 := of_decide_eq_true h1
    refine ⟨t.outs, o.cell rfl, brB_of (fun h2 => ?_) (fun _ => no)⟩
    have h2 := of_decide_eq_true h2
    refine ⟨t.cells, o.cell rfl, _, rfl, fun h3 => ?_, c⟩
    have h3 := of_decide_eq_true h3
    refine ⟨by omega, by omega, by omega, fun j ov hj => hall j ov ?_ hj⟩
    have := (List.getElem?_eq_some_iff.1 hj).1
    omega
  refine ⟨t.outs, o.cell rfl, brB_of (fun hlt => ?_) (fun hlt => ?_)⟩
  · have hlt : k < v.outs.length := by simp at hlt; omega
    by_cases h100 : k = 100
    · rw [show decide ((k : Int) < 100) = false from decide_eq_false (by omega)]
      exact fin (Or.inr h100)
    · rw [show decide ((k : Int) < 100) = true from decide_eq_true (by omega)]
      obtain ⟨oc, ho⟩ : ∃ o, os[k]? = some o := ⟨_, List.getElem?_eq_getElem (by omega)⟩
      obtain ⟨ov, hovk⟩ : ∃ o, v.outs[k]? = some o := ⟨_, List.getElem?_eq_getElem hlt⟩
      obtain ⟨u1, u2, u3, u4, _, _⟩ := hov.2 _ _ _ ho hovk
      have l4 := u3.len
      have l5 := u4.len
      unfold hollowaylaw14_Light_j1
      refine brB_t ⟨fun b w' => (b = false → ov.stack.length ≤ 60 ∧ ov.back.length ≤ 60) ∧ w' = w12, ?_, ?_⟩
      · rintro b w25 ⟨hb, rfl⟩
        refine brB_of (fun _ => no) (fun hf => ?_)
        rw [wr_in (by omega)]
        refine ⟨⟨k + 1, by omega, by omega, by omega, fun j o' hj ho' => ?_, rfl⟩, by show v.outs.length - Int.toNat ((k : Int) + 1) < v.outs.length - Int.toNat (k : Int); omega⟩
        by_cases hjk : j = k
        · subst hjk
          rw [hovk] at ho'; cases ho'
          exact hb hf
        · exact hall j o' (by omega) ho'
      · refine ⟨t.outs, o.cell rfl, (hos.no c).ix (i := (k : Int)) (by omega) (by rw [Int.toNat_natCast]; exact ho) fun a _ hcell => ⟨oc.stack, hcell 2 _ rfl, brB_of (fun _ => ⟨(fun h => by cases h), rfl⟩) (fun h60 => ?_)⟩⟩
        have h60 := of_decide_eq_false h60
        refine ⟨t.outs, o.cell rfl, (hos.no c).ix (i := (k : Int)) (by omega) (by rw [Int.toNat_natCast]; exact ho) fun a _ hcell => ⟨oc.back, hcell 3 _ rfl, fun h61 => ?_, rfl⟩⟩
        have h61 := of_decide_eq_false h61
        omega
  · have hlt : k = v.outs.length := by simp at hlt; omega
    exact fin (Or.inl hlt)
theorem sameState_any {D D' : Nat → Prop} {w : World} (S S' : StC) {s : StV} (h : StIs D w S s) (h' : StIs D' w S' s) : Calls Tryz.prog fn_hollowaybook_SameState #[.agg (stC S).toArray, .agg (stC S').toArray] w fun e w' => e = .returned (.bool true) ∧ Chg No w w' := by
  refine (hollowaybook_SameState_lift (K := fun r w' => r = .bool true ∧ Chg No w w') ?_).mono (by rintro e w' ⟨r, rfl, rfl, h⟩; exact ⟨rfl, h⟩)
  unfold hollowaybook_SameState_sh
  intro b21 w22 hb21 hw22 b23 w24 hb23 hw24
  have o21 : Ob w24 b21 (stC S) T_api_State := by
    have : Ob w22 b21 (stC S) T_api_State := by rw [hw22, hb21]; exact Ob.new w (stC S) T_api_State
    exact this.no (al hw24)
  have o23 : Ob w24 b23 (stC S') T_api_State := by rw [hw24, hb23]; exact Ob.new w22 (stC S') T_api_State
  have c24 := trN (al hw22) (al hw24)
  obtain ⟨m1, m2, m3, m4, m5, m6, m7⟩ := h.nums
  obtain ⟨n1, n2, n3, n4, n5, n6, n7⟩ := h'.nums
  have eqI : ∀ {x y : Int} {A B : Prop}, x = y → A → brB (x == y) A B := fun h k => by rw [show (_ == _) = true from by simpa using h]; exact brB_t k
  have eqS : ∀ {x y : ByteArray} {A B : Prop}, x = y → A → brB (x.toList == y.toList) A B := fun h k => by rw [show (_ == _) = true from by simp [h]]; exact brB_t k
  refine ⟨S.ip, o21.cell rfl, S'.ip, o23.cell rfl, eqI (m1.trans n1.symm) ⟨S.handler, o21.cell rfl, S'.handler, o23.cell rfl, eqI (m2.trans n2.symm) ?_⟩⟩
  refine ⟨S.stack, o21.cell rfl, S'.stack, o23.cell rfl, (sameInts_ok _ _ s.stack _ (h.st.no c24) (h'.st.no c24)).mono ?_⟩
  rintro e w32 ⟨rfl, c32⟩
  have k32 := trN c24 c32
  refine ⟨_, rfl, brB_t ⟨S.back, (o21.no c32).cell rfl, S'.back, (o23.no c32).cell rfl, (sameInts_ok _ _ s.back _ (h.bk.no k32) (h'.bk.no k32)).mono ?_⟩⟩
  rintro e w37 ⟨rfl, c37⟩
  have k37 := trN k32 c37
  have c37' := trN c32 c37
  refine ⟨_, rfl, brB_t ⟨S.mem, (o21.no c37').cell rfl, S'.mem, (o23.no c37').cell rfl, (sameInts_ok _ _ s.mem _ (h.me.no k37) (h'.me.no k37)).mono ?_⟩⟩
  rintro e w42 ⟨rfl, c42⟩
  have c42' := trN c37' c42
  have p21 := o21.no c42'
  have p23 := o23.no c42'
  refine ⟨_, rfl, brB_t ⟨S.out, p21.cell rfl, S'.out, p23.cell rfl, eqS (m3.trans n3.symm) ⟨S.inp, p21.cell rfl, S'.inp, p23.cell rfl, eqS (m4.trans n4.symm) ⟨S.read, p21.cell rfl, S'.read, p23.cell rfl, eqI (m5.trans n5.symm) ⟨S.status, p21.cell rfl, S'.status, p23.cell rfl, eqI (m6.trans n6.symm) ⟨S.code, p21.cell rfl, S'.code, p23.cell rfl, ?_, trN k37 c42⟩⟩⟩⟩⟩⟩
  rw [m7, n7]; simp
/-! ### A machine at its beginning -/
end Go.Proofs.YtblmoilneiffgaaGreat

/- The law's first call (chapter 15), EvalGuards. -/
set_option maxRecDepth 100000
namespace Go.Proofs.YtblmoilneiffgaaGreat
open Go.RowKit

theorem litIns {w w' : World} {b : Nat} (xs : List In5) (cs : List Value) (hcs : cs = fl insE xs) (hb : b = w.heap.size) (hw : w' = World.alloc w (.cells cs.toArray T_api_Ins)) (hl : xs.length ≤ 100) : Ow insE w' ⟨some ⟨b, 0, none⟩, xs.length, xs.length⟩ xs ∧ Chg No w w' := by
  rw [hw, hb]
  exact ⟨Ow.lit (E := insE) w xs cs hcs (by unfold maxLen; omega), Chg.alloc _ _ _⟩
theorem litOus {w w' : World} {b : Nat} (xs : List OuC) (cs : List Value) (hcs : cs = fl ouE xs) (hb : b = w.heap.size) (hw : w' = World.alloc w (.cells cs.toArray T_api_Out)) (hl : xs.length ≤ 100) : Ow ouE w' ⟨some ⟨b, 0, none⟩, xs.length, xs.length⟩ xs ∧ Chg No w w' := by
  rw [hw, hb]
  exact ⟨Ow.lit (E := ouE) w xs cs hcs (by unfold maxLen; omega), Chg.alloc _ _ _⟩
def Any : Nat → Prop := fun _ => True
theorem stis {w : World} {S : StC} {s : StV} (h : StNums S s) (h1 : Rd intE w S.stack s.stack) (h2 : Rd intE w S.back s.back) (h3 : Rd intE w S.mem s.mem) : StIs Any w S s := ⟨h, h1, h2, h3, fun _ _ => trivial, fun _ _ => trivial, fun _ _ => trivial⟩
def alT : TrG := ⟨5, 1, 0, 0, 0, [⟨2, 0, 0, 0, 0⟩, ⟨4, 11, 0, 0, 0⟩], [⟨7, 2, [1], []⟩], 0, []⟩
end Go.Proofs.YtblmoilneiffgaaGreat

/- From what a statement's frame tells of an argument to what the walks ask of it: slices of any elements. Over any program. -/
namespace Go.Proofs.YtblmoilneiffgaaGreat
open Go.RowKit

section
variable {H : Type} {enc : TypeId × Value → H} {P : Program} {w : World} {base : Nat} {sp : Nat → Bool} {held : Bool}
def ElOk {α : Type} (enc : TypeId × Value → H) (P : Program) (w : World) (base : Nat) (sp : Nat → Bool) (held : Bool) (E : Enc α) (e : TypeId) (Q : α → Prop) : Prop :=
  P.cellsOf e = E.sz ∧ ∀ (n : Nat) (cs : List Value) (y : DataW H × List MemPlace), cs.length = E.sz → DataW.trod enc P w base sp held n e cs = some y → ∃ x, cs = E.e x ∧ Q x
theorem open_cells {α : Type} {E : Enc α} {t e : TypeId} {Q : α → Prop} (ht : P.underlying t = some (.slice e)) (he : ElOk enc P w base sp held E e Q) {n : Nat} {cs : List Value} {y : DataW H × List MemPlace} (h : DataW.trod enc P w base sp held n t cs = some y) :
    ∃ (s : Sl) (xs : List α), cs = [s.val] ∧ Rd E w s xs ∧ ∀ x ∈ xs, Q x := by
  rcases DataW.trod_slice ht h with ⟨h0, _⟩ | ⟨a, len, cap, elems, rest, m, _, rfl, _, _, hl, hm, hlen, hel, _, _⟩
  · exact ⟨nilS, [], h0, Rd.nil E w, fun x hx => by simp at hx⟩
  have each : ∀ k, k ≤ len → ∃ xs : List α, xs.length = k ∧ (∀ x ∈ xs, Q x) ∧ ∀ j u, (fl E xs)[j]? = some u → w.cell? (a.add j) = some u := by
    intro k
    induction k with
    | zero => exact fun _ => ⟨[], rfl, (fun x hx => by simp at hx), fun j u hu => by simp [fl] at hu⟩
    | succ k ih =>
      intro hk
      obtain ⟨xs, h1, h2, h3⟩ := ih (by omega)
      have hb := hel k (by omega)
      rw [List.getElem?_eq_getElem (by omega), Option.bind_eq_some_iff] at hb
      obtain ⟨cs', hcs, hy⟩ := hb
      obtain ⟨_, hcl, hcell⟩ := World.cells?_some hcs
      obtain ⟨x, rfl, hq⟩ := he.2 _ _ _ (by rw [hcl, he.1]) hy
      refine ⟨xs ++ [x], by rw [List.length_append, h1]; rfl, fun z hz => ?_, fun j u hu => ?_⟩
      · rcases List.mem_append.1 hz with hz | hz
        · exact h2 z hz
        · rw [List.mem_singleton.1 hz]; exact hq
      · rw [fl_append, fl_one] at hu
        by_cases hj : j < (fl E xs).length
        · rw [List.getElem?_append_left hj] at hu; exact h3 j u hu
        · rw [List.getElem?_append_right (by omega)] at hu
          have hi : j - (fl E xs).length < E.sz := by
            have := (List.getElem?_eq_some_iff.1 hu).1
            rw [E.len] at this; exact this
          have := hcell (j - (fl E xs).length) (by rw [he.1]; exact hi)
          rw [hu, add_add, he.1] at this
          rw [fl_length, h1] at this hj
          rw [← this]; congr 2; omega
  obtain ⟨xs, h1, h2, h3⟩ := each len (Nat.le_refl _)
  refine ⟨⟨some a, len, cap⟩, xs, rfl, ⟨some a, cap, by rw [h1], by omega, hm, (fun h => by simp at h), fun j u hu => ⟨a, rfl, h3 j u hu⟩⟩, h2⟩
theorem open_sl {α : Type} {E : Enc α} {t e : TypeId} {Q : α → Prop} {a : Option Addr} {len cap : Nat} {d : DataW H} {ps : List MemPlace} (ht : P.underlying t = some (.slice e)) (he : ElOk enc P w base sp held E e Q) (h : DataW.Trod enc P w base sp held t (.slice a len cap) d ps) :
    ∃ xs : List α, Rd E w ⟨a, len, cap⟩ xs ∧ ∀ x ∈ xs, Q x := by
  obtain ⟨n, hn⟩ := h
  obtain ⟨s, xs, h1, h2, h3⟩ := open_cells ht he hn
  have hs : s = ⟨a, len, cap⟩ := by
    cases s
    simp [Value.cells, Sl.val] at h1
    obtain ⟨rfl, rfl, rfl⟩ := h1; rfl
  exact ⟨xs, hs ▸ h2, h3⟩
theorem open_fields {fs : Array Field} {t : TypeId} (ht : P.underlying t = some (.struct fs)) {n : Nat} {cs : List Value} {y : DataW H × List MemPlace} (h : DataW.trod enc P w base sp held n t cs = some y) :
    cs.length = P.cellsOf t ∧ ∃ m, ∀ (i : Nat) (f : Field), fs[i]? = some f → ∃ z, DataW.trod enc P w base sp held m f.type ((cs.drop f.offset).take (P.cellsOf f.type)) = some z := by
  obtain ⟨xs, m, _, _, h1, h2, h3⟩ := DataW.trod_struct ht h
  refine ⟨h1, m, fun i f hf => ?_⟩
  have hi : i < xs.length := by rw [h2]; exact (Array.getElem?_eq_some_iff.1 hf).1
  exact ⟨xs[i], by rw [h3 i f hf]; exact List.getElem?_eq_getElem hi⟩
def I64 (n : Int) : Prop := (Lit.int .i64 n).wf = true
theorem I64.le {n : Int} (h : I64 n) : -9223372036854775808 ≤ n ∧ n ≤ 9223372036854775807 := by
  unfold I64 Lit.wf at h
  rw [Bool.and_eq_true, decide_eq_true_iff, decide_eq_true_iff] at h
  have e1 : IntKind.i64.min = -9223372036854775808 := by decide
  have e2 : IntKind.i64.max = 9223372036854775807 := by decide
  rw [e1, e2] at h
  exact h
end
end Go.Proofs.YtblmoilneiffgaaGreat

/- Numbers, machines and traces, as a statement's frame tells of them. -/
set_option maxRecDepth 100000
namespace Go.Proofs.YtblmoilneiffgaaGreat
open Go.RowKit Go.WideShapes

theorem int_open {H : Type} (enc : TypeId × Value → H) (w : World) (base : Nat) (sp : Nat → Bool) (held : Bool) : ElOk enc Tryz.prog w base sp held intE T_int Cn.In := by
  refine ⟨by kernel_rfl, fun n cs y hl h => ?_⟩
  obtain ⟨m, rfl, _, hw⟩ := DataW.trod_int Tryz.underlying3 h
  have hw : I64 m := hw
  exact ⟨m, rfl, hw.le⟩
theorem ins_open {H : Type} (enc : TypeId × Value → H) (w : World) (base : Nat) (sp : Nat → Bool) (held : Bool) : ElOk enc Tryz.prog w base sp held insE T_api_Ins (fun i => Cn.In i.b) := by
  refine ⟨by kernel_rfl, fun n cs y hl h => ?_⟩
  obtain ⟨_, m, hf⟩ := open_fields Tryz.underlying68 h
  have hl : cs.length = 5 := hl
  obtain ⟨c0, c1, c2, c3, c4, rfl⟩ : ∃ c0 c1 c2 c3 c4, cs = [c0, c1, c2, c3, c4] := by
    match cs, hl with
    | [c0, c1, c2, c3, c4], _ => exact ⟨_, _, _, _, _, rfl⟩
  have s1 : Tryz.prog.cellsOf 3 = 1 := by kernel_rfl
  obtain ⟨z0, h0⟩ := hf 0 _ rfl
  obtain ⟨z1, h1⟩ := hf 1 _ rfl
  obtain ⟨z2, h2⟩ := hf 2 _ rfl
  obtain ⟨z3, h3⟩ := hf 3 _ rfl
  obtain ⟨z4, h4⟩ := hf 4 _ rfl
  obtain ⟨x0, e0, _⟩ := DataW.trod_int Tryz.underlying3 h0
  obtain ⟨x1, e1, _, hw⟩ := DataW.trod_int Tryz.underlying3 h1
  obtain ⟨x2, e2, _⟩ := DataW.trod_int Tryz.underlying3 h2
  obtain ⟨x3, e3, _⟩ := DataW.trod_int Tryz.underlying3 h3
  obtain ⟨x4, e4, _⟩ := DataW.trod_int Tryz.underlying3 h4
  have hw : I64 x1 := hw
  simp [s1] at e0 e1 e2 e3 e4
  exact ⟨⟨x0, x1, x2, x3, x4⟩, by rw [e0, e1, e2, e3, e4]; rfl, hw.le⟩
theorem out_open {H : Type} (enc : TypeId × Value → H) (w : World) (base : Nat) (sp : Nat → Bool) (held : Bool) : ElOk enc Tryz.prog w base sp held ouE T_api_Out (fun o => ∃ xs ys, Rd intE w o.stack xs ∧ Rd intE w o.back ys) := by
  refine ⟨by kernel_rfl, fun n cs y hl h => ?_⟩
  obtain ⟨_, m, hf⟩ := open_fields Tryz.underlying39 h
  have hl : cs.length = 4 := hl
  obtain ⟨c0, c1, c2, c3, rfl⟩ : ∃ c0 c1 c2 c3, cs = [c0, c1, c2, c3] := by
    match cs, hl with
    | [c0, c1, c2, c3], _ => exact ⟨_, _, _, _, rfl⟩
  have s1 : Tryz.prog.cellsOf 3 = 1 := by kernel_rfl
  have s2 : Tryz.prog.cellsOf 24 = 1 := by kernel_rfl
  obtain ⟨z0, h0⟩ := hf 0 _ rfl
  obtain ⟨z1, h1⟩ := hf 1 _ rfl
  obtain ⟨z2, h2⟩ := hf 2 _ rfl
  obtain ⟨z3, h3⟩ := hf 3 _ rfl
  obtain ⟨x0, e0, _⟩ := DataW.trod_int Tryz.underlying3 h0
  obtain ⟨x1, e1, _⟩ := DataW.trod_int Tryz.underlying3 h1
  obtain ⟨s, xs, e2, hr, _⟩ := open_cells Tryz.underlying24 (int_open enc w base sp held) h2
  obtain ⟨s', ys, e3, hr', _⟩ := open_cells Tryz.underlying24 (int_open enc w base sp held) h3
  simp [s1, s2] at e0 e1 e2 e3
  exact ⟨⟨x0, x1, s, s'⟩, by rw [e0, e1, e2, e3]; rfl, xs, ys, hr, hr'⟩
theorem outs_of {w : World} : ∀ os : List OuC, (∀ o ∈ os, ∃ xs ys, Rd intE w o.stack xs ∧ Rd intE w o.back ys) → ∃ vs, OusIs (fun _ => True) w os vs
  | [], _ => ⟨[], rfl, fun i o v h => by simp at h⟩
  | o :: os, h => by
    obtain ⟨vs, hl, hv⟩ := outs_of os (fun x hx => h x (List.mem_cons_of_mem _ hx))
    obtain ⟨xs, ys, h1, h2⟩ := h o (by simp)
    refine ⟨⟨o.ip, o.steps, xs, ys⟩ :: vs, by simp [hl], fun i o' v ho hv' => ?_⟩
    cases i with
    | zero =>
      have ho : o = o' := by simpa using ho
      have hv' : (⟨o.ip, o.steps, xs, ys⟩ : OuV) = v := by simpa using hv'
      subst ho hv'
      exact ⟨rfl, rfl, h1, h2, fun _ _ => trivial, fun _ _ => trivial⟩
    | succ i => exact hv i o' v (by simpa using ho) (by simpa using hv')
theorem trace_open {H : Type} (enc : TypeId × Value → H) (W : World) {v : Value} {d : DataW H} {p : List MemPlace} (hv : Value.okWide Tryz.prog W .any 0 T_api_Trace v) (h : DataW.Trod enc Tryz.prog W 0 (fun _ => true) true T_api_Trace v d p) :
    ∃ t : TrP, v = .agg (trP t).toArray ∧ ∃ g : TrG, TrIs (fun _ => True) W t g ∧ ∀ i ∈ g.ins, Cn.In i.b := by
  obtain ⟨cs, rfl, hsz⟩ := okWide_struct Tryz.underlying26 hv
  obtain ⟨n, hn⟩ := h
  obtain ⟨_, m, hf⟩ := open_fields Tryz.underlying26 hn
  have hcc : Tryz.prog.cellsOf T_api_Trace = 9 := by kernel_rfl
  rw [hcc] at hsz
  obtain ⟨l, rfl⟩ : ∃ l : List Value, cs = l.toArray := ⟨cs.toList, by simp⟩
  have hl : l.length = 9 := by simpa using hsz
  obtain ⟨c0, c1, c2, c3, c4, c5, c6, c7, c8, rfl⟩ : ∃ c0 c1 c2 c3 c4 c5 c6 c7 c8, l = [c0, c1, c2, c3, c4, c5, c6, c7, c8] := by
    match l, hl with
    | [c0, c1, c2, c3, c4, c5, c6, c7, c8], _ => exact ⟨_, _, _, _, _, _, _, _, _, rfl⟩
  have s1 : Tryz.prog.cellsOf 3 = 1 := by kernel_rfl
  have s2 : Tryz.prog.cellsOf 24 = 1 := by kernel_rfl
  have s3 : Tryz.prog.cellsOf 22 = 1 := by kernel_rfl
  have s4 : Tryz.prog.cellsOf 23 = 1 := by kernel_rfl
  obtain ⟨z0, h0⟩ := hf 0 _ rfl
  obtain ⟨z1, h1⟩ := hf 1 _ rfl
  obtain ⟨z2, h2⟩ := hf 2 _ rfl
  obtain ⟨z3, h3⟩ := hf 3 _ rfl
  obtain ⟨z4, h4⟩ := hf 4 _ rfl
  obtain ⟨z5, h5⟩ := hf 5 _ rfl
  obtain ⟨z6, h6⟩ := hf 6 _ rfl
  obtain ⟨z7, h7⟩ := hf 7 _ rfl
  obtain ⟨z8, h8⟩ := hf 8 _ rfl
  obtain ⟨x0, e0, _⟩ := DataW.trod_int Tryz.underlying3 h0
  obtain ⟨x1, e1, _⟩ := DataW.trod_int Tryz.underlying3 h1
  obtain ⟨x2, e2, _⟩ := DataW.trod_int Tryz.underlying3 h2
  obtain ⟨x3, e3, _⟩ := DataW.trod_int Tryz.underlying3 h3
  obtain ⟨x4, e4, _⟩ := DataW.trod_int Tryz.underlying3 h4
  obtain ⟨si, is, e5, hi, hin⟩ := open_cells Tryz.underlying22 (ins_open enc W 0 (fun _ => true) true) h5
  obtain ⟨so, os, e6, ho, hos⟩ := open_cells Tryz.underlying23 (out_open enc W 0 (fun _ => true) true) h6
  obtain ⟨x7, e7, _⟩ := DataW.trod_int Tryz.underlying3 h7
  obtain ⟨sc, ks, e8, hc, _⟩ := open_cells Tryz.underlying24 (int_open enc W 0 (fun _ => true) true) h8
  obtain ⟨vs, hvs⟩ := outs_of os hos
  simp [Value.cells, s1, s2, s3, s4] at e0 e1 e2 e3 e4 e5 e6 e7 e8
  refine ⟨⟨x0, x1, x2, x3, x4, si, so, x7, sc⟩, by rw [e0, e1, e2, e3, e4, e5, e6, e7, e8]; rfl, ⟨x0, x1, x2, x3, x4, is, vs, x7, ks⟩, ⟨⟨rfl, rfl, rfl, rfl, rfl, rfl⟩, hi, ⟨os, ho, hvs⟩, hc, fun _ _ => trivial, fun _ _ => trivial, fun _ _ => trivial⟩, hin⟩
theorem state_open {H : Type} (enc : TypeId × Value → H) (W : World) {v : Value} {d : DataW H} {p : List MemPlace} (hv : Value.okWide Tryz.prog W .any 0 T_api_State v) (h : DataW.Trod enc Tryz.prog W 0 (fun _ => true) true T_api_State v d p) :
    ∃ S : StC, v = .agg (stC S).toArray ∧ ∃ s : StV, StIs (fun _ => True) W S s ∧ (∀ x ∈ s.stack, Cn.In x) ∧ (∀ x ∈ s.back, Cn.In x) ∧ (∀ x ∈ s.mem, Cn.In x) := by
  obtain ⟨cs, rfl, hsz⟩ := okWide_struct Tryz.underlying28 hv
  obtain ⟨n, hn⟩ := h
  obtain ⟨_, m, hf⟩ := open_fields Tryz.underlying28 hn
  have hcc : Tryz.prog.cellsOf T_api_State = 10 := by kernel_rfl
  rw [hcc] at hsz
  obtain ⟨l, rfl⟩ : ∃ l : List Value, cs = l.toArray := ⟨cs.toList, by simp⟩
  have hl : l.length = 10 := by simpa using hsz
  obtain ⟨c0, c1, c2, c3, c4, c5, c6, c7, c8, c9, rfl⟩ : ∃ c0 c1 c2 c3 c4 c5 c6 c7 c8 c9, l = [c0, c1, c2, c3, c4, c5, c6, c7, c8, c9] := by
    match l, hl with
    | [c0, c1, c2, c3, c4, c5, c6, c7, c8, c9], _ => exact ⟨_, _, _, _, _, _, _, _, _, _, rfl⟩
  have s1 : Tryz.prog.cellsOf 3 = 1 := by kernel_rfl
  have s2 : Tryz.prog.cellsOf 24 = 1 := by kernel_rfl
  have s3 : Tryz.prog.cellsOf 9 = 1 := by kernel_rfl
  obtain ⟨z0, h0⟩ := hf 0 _ rfl
  obtain ⟨z1, h1⟩ := hf 1 _ rfl
  obtain ⟨z2, h2⟩ := hf 2 _ rfl
  obtain ⟨z3, h3⟩ := hf 3 _ rfl
  obtain ⟨z4, h4⟩ := hf 4 _ rfl
  obtain ⟨z5, h5⟩ := hf 5 _ rfl
  obtain ⟨z6, h6⟩ := hf 6 _ rfl
  obtain ⟨z7, h7⟩ := hf 7 _ rfl
  obtain ⟨z8, h8⟩ := hf 8 _ rfl
  obtain ⟨z9, h9⟩ := hf 9 _ rfl
  obtain ⟨x0, e0, _⟩ := DataW.trod_int Tryz.underlying3 h0
  obtain ⟨x1, e1, _⟩ := DataW.trod_int Tryz.underlying3 h1
  obtain ⟨q2, l2, e2, r2, i2⟩ := open_cells Tryz.underlying24 (int_open enc W 0 (fun _ => true) true) h2
  obtain ⟨q3, l3, e3, r3, i3⟩ := open_cells Tryz.underlying24 (int_open enc W 0 (fun _ => true) true) h3
  obtain ⟨q4, l4, e4, r4, i4⟩ := open_cells Tryz.underlying24 (int_open enc W 0 (fun _ => true) true) h4
  obtain ⟨x5, e5, _⟩ := DataW.trod_string Tryz.underlying9 h5
  obtain ⟨x6, e6, _⟩ := DataW.trod_string Tryz.underlying9 h6
  obtain ⟨x7, e7, _⟩ := DataW.trod_int Tryz.underlying3 h7
  obtain ⟨x8, e8, _⟩ := DataW.trod_int Tryz.underlying3 h8
  obtain ⟨x9, e9, _⟩ := DataW.trod_int Tryz.underlying3 h9
  simp [Value.cells, s1, s2, s3] at e0 e1 e2 e3 e4 e5 e6 e7 e8 e9
  exact ⟨⟨x0, x1, q2, q3, q4, x5, x6, x7, x8, x9⟩, by rw [e0, e1, e2, e3, e4, e5, e6, e7, e8, e9]; rfl, ⟨x0, x1, l2, l3, l4, x5, x6, x7, x8, x9⟩, ⟨⟨rfl, rfl, rfl, rfl, rfl, rfl, rfl⟩, r2, r3, r4, fun _ _ => trivial, fun _ _ => trivial, fun _ _ => trivial⟩, i2, i3, i4⟩
end Go.Proofs.YtblmoilneiffgaaGreat
