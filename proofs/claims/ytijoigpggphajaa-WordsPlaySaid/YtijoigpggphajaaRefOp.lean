/- hollowayref1's table of operations: Op, Name, Arg, Plain, IsTwo, IsOne, Moves say what op's own table says. -/
import Derived.Test.YtijoigpggphajaaOpFind
import Derived.Test.YtijoigpggphajaaBytes
set_option maxRecDepth 100000
namespace Go.Proofs.Ytijoigpggphajaa
open Go.RowKit

theorem refOp_any (op : Int) (w : World) : Calls Try.prog fn_hollowayref1_Op #[.int .i64 op] w fun e w' => e = .returned (.bool (decide (0 ≤ op ∧ op < 48))) ∧ w = w' := by
  refine (hollowayref1_Op_lift (K := fun v w' => v = .bool (decide (0 ≤ op ∧ op < 48)) ∧ w = w') ?_).mono (by rintro e w' ⟨v, rfl, rfl, h⟩; exact ⟨rfl, h⟩)
  unfold hollowayref1_Op_sh
  refine brB_of (fun h => ⟨?_, rfl⟩) (fun h => ⟨?_, rfl⟩)
  · simp at h; simp [h]
  · simp at h; simp; omega
theorem refArg_any (op : Int) (w : World) : Calls Try.prog fn_hollowayref1_Arg #[.int .i64 op] w fun e w' => e = .returned (.bool (opArg op)) ∧ w = w' := by
  refine (hollowayref1_Arg_lift (K := fun v w' => v = .bool (opArg op) ∧ w = w') ?_).mono (by rintro e w' ⟨v, rfl, rfl, h⟩; exact ⟨rfl, h⟩)
  unfold hollowayref1_Arg_sh
  unfold opArg
  repeat' (first | refine brB_of (fun _ => ?_) (fun _ => ?_))
  all_goals (refine ⟨?_, rfl⟩; first | congr 1 | skip)
  all_goals (rw [Bool.eq_iff_iff]; simp only [decide_eq_true_eq, decide_eq_false_iff_not, beq_iff_eq, beq_eq_false_iff_ne, bne_iff_ne, ne_eq, bne_eq_false_iff_eq, Bool.not_eq_true', Bool.false_eq_true, false_iff, true_iff, not_and, not_or, Decidable.not_not] at *; omega)
theorem refPlain_any (op : Int) (w : World) : Calls Try.prog fn_hollowayref1_Plain #[.int .i64 op] w fun e w' => e = .returned (.bool (opPlain op)) ∧ w = w' := by
  refine (hollowayref1_Plain_lift (K := fun v w' => v = .bool (opPlain op) ∧ w = w') ?_).mono (by rintro e w' ⟨v, rfl, rfl, h⟩; exact ⟨rfl, h⟩)
  unfold hollowayref1_Plain_sh
  refine (refOp_any op w).mono ?_
  rintro e w3 ⟨rfl, rfl⟩
  refine ⟨_, rfl, ?_⟩
  unfold opPlain
  repeat' (first | refine brB_of (fun _ => ?_) (fun _ => ?_))
  all_goals (refine ⟨?_, rfl⟩; first | congr 1 | skip)
  all_goals (rw [Bool.eq_iff_iff]; simp only [decide_eq_true_eq, decide_eq_false_iff_not, beq_iff_eq, beq_eq_false_iff_ne, bne_iff_ne, ne_eq, bne_eq_false_iff_eq, Bool.not_eq_true', Bool.false_eq_true, false_iff, true_iff, not_and, not_or, Decidable.not_not] at *; omega)
def isTwo (op : Int) : Bool := decide (11 ≤ op ∧ op ≤ 15 ∨ 17 ≤ op ∧ op ≤ 19 ∨ 21 ≤ op ∧ op ≤ 25 ∨ op = 28 ∨ op = 29)
def isOne (op : Int) : Bool := decide (op = 16 ∨ op = 20 ∨ op = 26 ∨ op = 27)
theorem isTwo_any (op : Int) (w : World) : Calls Try.prog fn_hollowayref1_IsTwo #[.int .i64 op] w fun e w' => e = .returned (.bool (isTwo op)) ∧ w = w' := by
  refine (hollowayref1_IsTwo_lift (K := fun v w' => v = .bool (isTwo op) ∧ w = w') ?_).mono (by rintro e w' ⟨v, rfl, rfl, h⟩; exact ⟨rfl, h⟩)
  unfold hollowayref1_IsTwo_sh
  unfold isTwo
  repeat' (first | refine brB_of (fun _ => ?_) (fun _ => ?_))
  all_goals (refine ⟨?_, rfl⟩; first | congr 1 | skip)
  all_goals (rw [Bool.eq_iff_iff]; simp only [decide_eq_true_eq, decide_eq_false_iff_not, beq_iff_eq, beq_eq_false_iff_ne, bne_iff_ne, ne_eq, bne_eq_false_iff_eq, Bool.not_eq_true', Bool.false_eq_true, false_iff, true_iff, not_and, not_or, Decidable.not_not] at *; omega)
theorem isOne_any (op : Int) (w : World) : Calls Try.prog fn_hollowayref1_IsOne #[.int .i64 op] w fun e w' => e = .returned (.bool (isOne op)) ∧ w = w' := by
  refine (hollowayref1_IsOne_lift (K := fun v w' => v = .bool (isOne op) ∧ w = w') ?_).mono (by rintro e w' ⟨v, rfl, rfl, h⟩; exact ⟨rfl, h⟩)
  unfold hollowayref1_IsOne_sh
  unfold isOne
  repeat' (first | refine brB_of (fun _ => ?_) (fun _ => ?_))
  all_goals (refine ⟨?_, rfl⟩; first | congr 1 | skip)
  all_goals (rw [Bool.eq_iff_iff]; simp only [decide_eq_true_eq, decide_eq_false_iff_not, beq_iff_eq, beq_eq_false_iff_ne, bne_iff_ne, ne_eq, bne_eq_false_iff_eq, Bool.not_eq_true', Bool.false_eq_true, false_iff, true_iff, not_and, not_or, Decidable.not_not] at *; omega)
def movesV (op : Int) : Value := .tuple #[.int .i64 (opRow op).takes, .int .i64 (opRow op).backs, .int .i64 (opRow op).gives, .int .i64 (opRow op).givesBak]
theorem moves_any (op : Int) (w : World) : Calls Try.prog fn_hollowayref1_Moves #[.int .i64 op] w fun e w' => e = .returned (movesV op) ∧ w = w' := by
  refine (hollowayref1_Moves_lift (K := fun v w' => v = movesV op ∧ w = w') ?_).mono (by rintro e w' ⟨v, rfl, rfl, h⟩; exact ⟨rfl, h⟩)
  unfold hollowayref1_Moves_sh
  refine (isTwo_any op w).mono ?_
  rintro e w3 ⟨rfl, rfl⟩
  refine ⟨_, rfl, brB_of (fun h => ?_) (fun h2 => ?_)⟩
  · have h := of_decide_eq_true h
    have h : op = 11 ∨ op = 12 ∨ op = 13 ∨ op = 14 ∨ op = 15 ∨ op = 17 ∨ op = 18 ∨ op = 19 ∨ op = 21 ∨ op = 22 ∨ op = 23 ∨ op = 24 ∨ op = 25 ∨ op = 28 ∨ op = 29 := by omega
    rcases h with rfl | rfl | rfl | rfl | rfl | rfl | rfl | rfl | rfl | rfl | rfl | rfl | rfl | rfl | rfl <;> exact ⟨rfl, rfl⟩
  have h2 := of_decide_eq_false h2
  refine (isOne_any op w).mono ?_
  rintro e w6 ⟨rfl, rfl⟩
  refine ⟨_, rfl, brB_of (fun h => ?_) (fun h1 => ?_)⟩
  · have h := of_decide_eq_true h
    rcases h with rfl | rfl | rfl | rfl <;> exact ⟨rfl, rfl⟩
  have h1 := of_decide_eq_false h1
  have eqb : ∀ {n : Int}, (op == n) = true → op = n := fun h => by simpa using h
  have neb : ∀ {n : Int}, (op == n) = false → op ≠ n := fun h => by simpa using h
  refine brB_of (fun h => by obtain rfl := eqb h; exact ⟨rfl, rfl⟩) (fun h5 => ?_)
  have h5 := neb h5
  refine ⟨fun b w' => b = decide (op = 2 ∨ op = 43) ∧ w = w', ?_, ?_⟩
  · rintro b w8 ⟨rfl, rfl⟩
    refine brB_of (fun h => ?_) (fun h6 => ?_)
    · rcases of_decide_eq_true h with rfl | rfl <;> exact ⟨rfl, rfl⟩
    have h6 := of_decide_eq_false h6
    refine ⟨fun b w' => b = decide (op = 4 ∨ op = 7 ∨ op = 41 ∨ op = 42 ∨ op = 45) ∧ w = w', ?_, ?_⟩
    · rintro b w8 ⟨rfl, rfl⟩
      refine brB_of (fun h => ?_) (fun h7 => ?_)
      · rcases of_decide_eq_true h with rfl | rfl | rfl | rfl | rfl <;> exact ⟨rfl, rfl⟩
      have h7 := of_decide_eq_false h7
      refine brB_of (fun h => by obtain rfl := eqb h; exact ⟨rfl, rfl⟩) (fun h8 => ?_)
      refine brB_of (fun h => by obtain rfl := eqb h; exact ⟨rfl, rfl⟩) (fun h9 => ?_)
      refine brB_of (fun h => by obtain rfl := eqb h; exact ⟨rfl, rfl⟩) (fun h10 => ?_)
      refine brB_of (fun h => by obtain rfl := eqb h; exact ⟨rfl, rfl⟩) (fun h11 => ?_)
      refine brB_of (fun h => by obtain rfl := eqb h; exact ⟨rfl, rfl⟩) (fun h12 => ?_)
      have h8 := neb h8; have h9 := neb h9; have h10 := neb h10; have h11 := neb h11; have h12 := neb h12
      refine ⟨fun b w' => b = decide (op = 31 ∨ op = 32) ∧ w = w', ?_, ?_⟩
      · rintro b w8 ⟨rfl, rfl⟩
        refine brB_of (fun h => ?_) (fun h13 => ?_)
        · rcases of_decide_eq_true h with rfl | rfl <;> exact ⟨rfl, rfl⟩
        have h13 := of_decide_eq_false h13
        refine ⟨fun b w' => b = decide (op = 33 ∨ op = 44) ∧ w = w', ?_, ?_⟩
        · rintro b w8 ⟨rfl, rfl⟩
          refine brB_of (fun h => ?_) (fun h14 => ?_)
          · rcases of_decide_eq_true h with rfl | rfl <;> exact ⟨rfl, rfl⟩
          have h14 := of_decide_eq_false h14
          refine brB_of (fun h => by obtain rfl := eqb h; exact ⟨rfl, rfl⟩) (fun h15 => ?_)
          refine brB_of (fun h => by obtain rfl := eqb h; exact ⟨rfl, rfl⟩) (fun h16 => ?_)
          refine brB_of (fun h => by obtain rfl := eqb h; exact ⟨rfl, rfl⟩) (fun h17 => ?_)
          refine brB_of (fun h => by obtain rfl := eqb h; exact ⟨rfl, rfl⟩) (fun h18 => ?_)
          refine brB_of (fun h => by obtain rfl := eqb h; exact ⟨rfl, rfl⟩) (fun h19 => ?_)
          refine brB_of (fun h => by obtain rfl := eqb h; exact ⟨rfl, rfl⟩) (fun h20 => ?_)
          refine brB_of (fun h => by obtain rfl := eqb h; exact ⟨rfl, rfl⟩) (fun h21 => ?_)
          refine brB_of (fun h => by obtain rfl := eqb h; exact ⟨rfl, rfl⟩) (fun h22 => ?_)
          have h15 := neb h15; have h16 := neb h16; have h17 := neb h17; have h18 := neb h18; have h19 := neb h19; have h20 := neb h20; have h21 := neb h21; have h22 := neb h22
          refine ⟨?_, rfl⟩
          rcases (by omega : op = 0 ∨ op = 1 ∨ op = 3 ∨ op = 47 ∨ ¬ (0 ≤ op ∧ op < 48)) with rfl | rfl | rfl | rfl | h
          · rfl
          · rfl
          · rfl
          · rfl
          · unfold movesV; rw [opRow_no h]; rfl
        · refine brB_of (fun h => ⟨?_, rfl⟩) (fun h => ⟨?_, rfl⟩)
          · simp at h; simp [h]
          · simp at h; simp [h]; rw [Bool.eq_iff_iff]; simp
      · refine brB_of (fun h => ⟨?_, rfl⟩) (fun h => ⟨?_, rfl⟩)
        · simp at h; simp [h]
        · simp at h; simp [h]; rw [Bool.eq_iff_iff]; simp
    · repeat' (first | refine brB_of (fun _ => ?_) (fun _ => ?_))
      all_goals (refine ⟨?_, rfl⟩; first | congr 1 | skip)
      all_goals (rw [Bool.eq_iff_iff]; simp only [decide_eq_true_eq, decide_eq_false_iff_not, beq_iff_eq, beq_eq_false_iff_ne, bne_iff_ne, ne_eq, bne_eq_false_iff_eq, Bool.not_eq_true', Bool.false_eq_true, false_iff, true_iff, not_and, not_or, Decidable.not_not] at *; omega)
  · refine brB_of (fun h => ⟨?_, rfl⟩) (fun h => ⟨?_, rfl⟩)
    · simp at h; simp [h]
    · simp at h; simp [h]; rw [Bool.eq_iff_iff]; simp

def refNames : List Value := opRows.map fun r => .string (bs r.name)
theorem rname_text (op : Int) (w : World) (K : Value → World → Prop) (h : ∀ (b : Nat) (w3 : World), b = w.heap.size → w3 = World.alloc w (.cells refNames.toArray T_string) →
    ∃ J4 : Bool → World → Prop, (∀ (b5 : Bool) (w4 : World), J4 b5 w4 →
 brB b5
 (K (.string (bs [])) w4)
 (∃ a6 : Addr, (some ⟨b, 0, none⟩) = some a6 ∧ 0 ≤ op ∧ op < (48 : Int) ∧
 ∃ t7 : ByteArray, w4.cell? (Addr.add a6 (Int.toNat op * 1)) = some (.string t7) ∧
 K (.string t7) w4)) ∧
 brB (decide (op < (0 : Int)))
 (J4 true w3)
 (J4 (decide (op ≥ (48 : Int))) w3)) : hollowayref1_Name_sh op w K := h
theorem refName_any (op : Int) (w : World) : Calls Try.prog fn_hollowayref1_Name #[.int .i64 op] w fun e w' => e = .returned (.string (bs (opRow op).name)) ∧ Chg No w w' := by
  refine (hollowayref1_Name_lift (K := fun v w' => v = .string (bs (opRow op).name) ∧ Chg No w w') ?_).mono (by rintro e w' ⟨v, rfl, rfl, h⟩; exact ⟨rfl, h⟩)
  refine rname_text op w _ fun b w3 hb hw3 => ?_
  have ho : Ob w3 b refNames T_string := by rw [hw3, hb]; exact Ob.new _ _ _
  have hc : Chg No w w3 := by rw [hw3]; exact Chg.alloc _ _ _
  refine ⟨fun b w' => b = decide (¬ (0 ≤ op ∧ op < 48)) ∧ w' = w3, ?_, ?_⟩
  · rintro b5 w4 ⟨rfl, rfl⟩
    refine brB_of (fun h => ?_) (fun h => ?_)
    · have h := of_decide_eq_true h
      rw [opRow_no h]
      exact ⟨rfl, hc⟩
    · have h : 0 ≤ op ∧ op < 48 := by have := of_decide_eq_false h; omega
      have hlt : op.toNat < opRows.length := by rw [opRows_length]; omega
      have hx : refNames[op.toNat]? = some (.string (bs (opRow op).name)) := by
        unfold refNames opRow
        rw [if_pos h, List.getElem?_map, List.getD_eq_getElem?_getD, List.getElem?_eq_getElem hlt]; rfl
      refine ⟨_, rfl, h.1, h.2, _, ?_, rfl, hc⟩
      rw [add_mk, Nat.zero_add, Nat.mul_one]
      exact ho.cell hx
  · refine brB_of (fun h => ⟨?_, rfl⟩) (fun h => ⟨?_, rfl⟩)
    · simp at h; symm; apply decide_eq_true; omega
    · simp at h; rw [Bool.eq_iff_iff]; simp; omega
end Go.Proofs.Ytijoigpggphajaa
