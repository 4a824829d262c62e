/- The packages ir, fold: their contracts. -/
import Derived.Test.YtblmoilneiffgaaGreatJ7
import Derived.Test.YtblmoilneiffgaaGreatJ5
import Derived.Test.YtblmoilneiffgaaGreatJB
import Derived.Test.YtblmoilneiffgaaGreatJ3

/- Package ir: what an instruction names, which traces may be. -/
set_option maxRecDepth 100000
namespace Go.Proofs.YtblmoilneiffgaaGreat
open Go.RowKit

theorem isTwo_one (op : Int) : Cn.isTwo op 1 = Cn.risTwo op := by
  by_cases h : Cn.risTwo op = true
  · rw [isTwo_eq h, h]; simp
  · have h' : Cn.risTwo op = false := by simpa using h
    rw [h']
    cases hh : Cn.isTwo op 1 with
    | false => rfl
    | true => exact absurd (isTwo_of hh) h
theorem itwo_any (op : Int) (w : World) : Calls Tryz.prog fn_ir_two #[.int .i64 op] w fun e w' => e = .returned (.bool (Cn.risTwo op)) ∧ Chg No w w' := by
  refine (ir_two_lift (K := fun r w' => r = .bool (Cn.risTwo op) ∧ Chg No w w') ?_).mono (by rintro e w' ⟨r, rfl, rfl, h⟩; exact ⟨rfl, h⟩)
  unfold ir_two_sh
  refine (two_any op 1 1 w).mono ?_
  rintro e w' ⟨rfl, c⟩
  exact ⟨_, _, rfl, by rw [isTwo_one], Chg.qt c⟩
theorem ione_any (op : Int) (w : World) : Calls Tryz.prog fn_ir_one #[.int .i64 op] w fun e w' => e = .returned (.bool (Cn.risOne op)) ∧ w = w' := by
  refine (ir_one_lift (K := fun r w' => r = .bool (Cn.risOne op) ∧ w = w') ?_).mono (by rintro e w' ⟨r, rfl, rfl, h⟩; exact ⟨rfl, h⟩)
  unfold ir_one_sh
  refine (one_any op 1 w).mono ?_
  rintro e w' ⟨rfl, rfl⟩
  exact ⟨_, _, rfl, by rw [isOne_eq], rfl⟩
theorem igives_any (op : Int) (w : World) : Calls Tryz.prog fn_ir_Gives #[.int .i64 op] w fun e w' => e = .returned (.bool (givesV op)) ∧ w = w' := by
  refine (ir_Gives_lift (K := fun r w' => r = .bool (givesV op) ∧ w = w') ?_).mono (by rintro e w' ⟨r, rfl, rfl, h⟩; exact ⟨rfl, h⟩)
  unfold ir_Gives_sh
  have eqb : ∀ {n : Int}, (op == n) = true → op = n := fun h => by simpa using h
  have neb : ∀ {n : Int}, (op == n) = false → op ≠ n := fun h => by simpa using h
  have yes : givesV op = true → Value.bool true = .bool (givesV op) ∧ w = w := fun h => ⟨by rw [h], rfl⟩
  have no : givesV op = false → Value.bool false = .bool (givesV op) ∧ w = w := fun h => ⟨by rw [h], rfl⟩
  have j : ∀ b : Bool, b = decide (op = 1 ∨ op = 2 ∨ op = 3) → ir_Gives_j1 op b w (fun r w' => r = .bool (givesV op) ∧ w = w') := by
    rintro b rfl
    unfold ir_Gives_j1
    refine brB_of (fun h => yes (decide_eq_true (by have := of_decide_eq_true h; omega))) (fun h => ?_)
    have h := of_decide_eq_false h
    refine brB_of (fun h4 => ?_) (fun h4 => ?_)
    · exact brB_of (fun _ => yes (decide_eq_true (by have := eqb h4; omega))) (fun h4' => absurd (eqb h4) (neb h4'))
    · refine brB_of (fun h5 => yes (decide_eq_true (by have := eqb h5; omega))) (fun h5 => brB_of (fun h12 => yes (decide_eq_true (by have := eqb h12; omega))) (fun h12 => no (decide_eq_false ?_)))
      have := neb h4; have := neb h5; have := neb h12; omega
  refine brB_of (fun h1 => ?_) (fun h1 => brB_of (fun h2 => ?_) (fun h2 => ?_))
  · exact j _ (by rw [h1]; symm; exact decide_eq_true (by have := eqb h1; omega))
  · exact j _ (by rw [h2]; symm; exact decide_eq_true (by have := eqb h2; omega))
  · have := neb h1
    have := neb h2
    refine j _ ?_
    rw [Bool.eq_iff_iff]; simp; omega
theorem iuses_any (i : In5) (w : World) : Calls Tryz.prog fn_ir_Uses #[.agg (insC i).toArray] w fun e w' => ∃ r, e = .returned r ∧ NewI w w' r (usesV i) := by
  refine (ir_Uses_lift (K := fun r w' => NewI w w' r (usesV i)) ?_).mono (by rintro e w' ⟨r, rfl, h⟩; exact ⟨r, rfl, h⟩)
  unfold ir_Uses_sh
  intro b6 w7 hb6 hw7
  have o7 : Ob w7 b6 (insC i) T_api_Ins := by rw [hw7, hb6]; exact Ob.new w (insC i) T_api_Ins
  have c7 := al hw7
  have eqb : ∀ {n : Int}, (i.a == n) = true → i.a = n := fun h => by simpa using h
  have neb : ∀ {n : Int}, (i.a == n) = false → i.a ≠ n := fun h => by simpa using h
  refine ⟨i.a, o7.cell rfl, fun w' => usesV i = [i.c] ∧ Chg No w7 w', ?_, fun w' => usesV i = [i.c, i.d] ∧ Chg No w7 w', ?_, ?_⟩
  · rintro w33 ⟨hu, c33⟩
    rw [hu]
    exact ⟨i.c, (o7.no c33).cell rfl, fun b15 w16 hb hw => NewI.one (trN c7 c33) hb hw⟩
  · rintro w28 ⟨hu, c28⟩
    rw [hu]
    exact ⟨i.c, (o7.no c28).cell rfl, i.d, (o7.no c28).cell rfl, fun b15 w16 hb hw => NewI.two (trN c7 c28) hb hw⟩
  · refine brB_of (fun h4 => ?_) (fun h4 => ?_)
    · have h4 := eqb h4
      refine ⟨i.b, o7.cell rfl, (itwo_any i.b w7).mono ?_⟩
      rintro e w23 ⟨rfl, c23⟩
      refine ⟨_, rfl, brB_of (fun h2 => ?_) (fun h2 => ?_)⟩
      · have h2 : Cn.risTwo i.b = false := by simpa using h2
        have hu : usesV i = [i.c] := by unfold usesV; rw [if_pos h4, if_neg (by rw [h2]; decide)]
        rw [hu]
        exact ⟨i.c, (o7.no c23).cell rfl, fun b15 w16 hb hw => NewI.one (trN c7 c23) hb hw⟩
      · have h2 : Cn.risTwo i.b = true := by simpa using h2
        exact ⟨by unfold usesV; rw [if_pos h4, if_pos h2], c23⟩
    · have h4 := neb h4
      have two : i.a = 6 ∨ i.a = 9 → usesV i = [i.c, i.d] ∧ Chg No w7 w7 := fun h => ⟨by unfold usesV; rw [if_neg h4, if_neg (by omega), if_pos h], Chg.refl _ _⟩
      have j : ¬ (i.a = 6 ∨ i.a = 9) → ∀ b : Bool, b = decide (i.a = 5 ∨ i.a = 7 ∨ i.a = 8) → ir_Uses_j1 (fun w' => usesV i = [i.c] ∧ Chg No w7 w') i.a b w7 (fun r w' => NewI w w' r (usesV i)) := by
        rintro h69 b rfl
        have one : i.a = 5 ∨ i.a = 7 ∨ i.a = 8 ∨ i.a = 10 ∨ i.a = 11 → usesV i = [i.c] ∧ Chg No w7 w7 := fun h => ⟨by unfold usesV; rw [if_neg h4, if_pos h], Chg.refl _ _⟩
        unfold ir_Uses_j1
        refine brB_of (fun h => one (by have := of_decide_eq_true h; omega)) (fun h => ?_)
        have h := of_decide_eq_false h
        have none : i.a ≠ 10 → i.a ≠ 11 → NewI w w7 (.slice none 0 0) (usesV i) := fun h10 h11 => by
          have hu : usesV i = [] := by unfold usesV; rw [if_neg h4, if_neg (by omega), if_neg h69]
          rw [hu]; exact NewI.nil c7
        refine brB_of (fun h10 => brB_of (fun _ => one (by have := eqb h10; omega)) (fun h' => absurd (eqb h10) (neb h'))) (fun h10 => brB_of (fun h11 => one (by have := eqb h11; omega)) (fun h11 => none (neb h10) (neb h11)))
      have g : ¬ (i.a = 6 ∨ i.a = 9) → brB (i.a == (5 : Int)) (ir_Uses_j1 (fun w' => usesV i = [i.c] ∧ Chg No w7 w') i.a (i.a == (5 : Int)) w7 (fun r w' => NewI w w' r (usesV i))) (brB (i.a == (7 : Int)) (ir_Uses_j1 (fun w' => usesV i = [i.c] ∧ Chg No w7 w') i.a (i.a == (7 : Int)) w7 (fun r w' => NewI w w' r (usesV i))) (ir_Uses_j1 (fun w' => usesV i = [i.c] ∧ Chg No w7 w') i.a (i.a == (8 : Int)) w7 (fun r w' => NewI w w' r (usesV i)))) := by
        intro h69
        refine brB_of (fun h5 => j h69 _ ?_) (fun h5 => brB_of (fun h7 => j h69 _ ?_) (fun h7 => j h69 _ ?_))
        · rw [h5]; symm; exact decide_eq_true (by have := eqb h5; omega)
        · rw [h7]; symm; exact decide_eq_true (by have := eqb h7; omega)
        · have := neb h5; have := neb h7
          rw [Bool.eq_iff_iff]; simp; omega
      refine brB_of (fun h6 => brB_of (fun _ => two (Or.inl (eqb h6))) (fun h' => absurd (eqb h6) (neb h'))) (fun h6 => brB_of (fun h9 => two (Or.inr (eqb h9))) (fun h9 => g (by have := neb h6; have := neb h9; omega)))
theorem iouts_any (i : In5) (w : World) : Calls Tryz.prog fn_ir_Outs #[.agg (insC i).toArray] w fun e w' => ∃ r, e = .returned r ∧ NewI w w' r (outsV i) := by
  refine (ir_Outs_lift (K := fun r w' => NewI w w' r (outsV i)) ?_).mono (by rintro e w' ⟨r, rfl, h⟩; exact ⟨r, rfl, h⟩)
  unfold ir_Outs_sh
  intro b6 w7 hb6 hw7
  have o7 : Ob w7 b6 (insC i) T_api_Ins := by rw [hw7, hb6]; exact Ob.new w (insC i) T_api_Ins
  have c7 := al hw7
  have eqb : ∀ {n : Int}, (i.a == n) = true → i.a = n := fun h => by simpa using h
  have neb : ∀ {n : Int}, (i.a == n) = false → i.a ≠ n := fun h => by simpa using h
  refine ⟨i.a, o7.cell rfl, fun w' => outsV i = [i.e] ∧ w' = w7, ?_, ?_⟩
  · rintro w21 ⟨hu, rfl⟩
    rw [hu]
    exact ⟨i.e, o7.cell rfl, fun b15 w16 hb hw => NewI.one c7 hb hw⟩
  · refine brB_of (fun h4 => ?_) (fun h4 => ?_)
    · have h4 := eqb h4
      refine ⟨fun b w' => b = decide (¬ (i.b = 14 ∨ i.b = 15)) ∧ w' = w7, ?_, ?_⟩
      · rintro b w19 ⟨rfl, rfl⟩
        refine brB_of (fun h => ?_) (fun h => ⟨?_, rfl⟩)
        · have h := of_decide_eq_true h
          have hu : outsV i = [] := by unfold outsV; rw [if_pos h4, if_neg h]
          rw [hu]; exact NewI.nil c7
        · have h := Decidable.not_not.1 (of_decide_eq_false h)
          unfold outsV; rw [if_pos h4, if_pos h]
      · refine ⟨i.b, o7.cell rfl, brB_of (fun h => ⟨i.b, o7.cell rfl, ?_, rfl⟩) (fun h => ⟨?_, rfl⟩)⟩
        · have h : i.b ≠ 14 := by simpa using h
          rw [Bool.eq_iff_iff]; simp; omega
        · have h : i.b = 14 := by simpa using h
          symm; apply decide_eq_false; omega
    · have h4 := neb h4
      have one : i.a = 5 ∨ i.a = 7 ∨ i.a = 8 ∨ i.a = 9 ∨ i.a = 10 ∨ i.a = 11 → outsV i = [i.e] ∧ w7 = w7 := fun h => ⟨by unfold outsV; rw [if_neg h4, if_pos h], rfl⟩
      have j : ¬ (i.a = 5 ∨ i.a = 7 ∨ i.a = 8 ∨ i.a = 9) → ∀ b : Bool, b = decide (i.a = 10 ∨ i.a = 11) → ir_Outs_j1 (fun w' => outsV i = [i.e] ∧ w' = w7) i.a b6 b w7 (fun r w' => NewI w w' r (outsV i)) := by
        rintro h5 b rfl
        unfold ir_Outs_j1
        refine brB_of (fun h => one (by have := of_decide_eq_true h; omega)) (fun h => ?_)
        have h := of_decide_eq_false h
        refine brB_of (fun h6 => ?_) (fun h6 => ?_)
        · have hu : outsV i = [i.e, i.b] := by unfold outsV; rw [if_neg h4, if_neg (by omega), if_pos (eqb h6)]
          rw [hu]
          exact ⟨i.e, o7.cell rfl, i.b, o7.cell rfl, fun b15 w16 hb hw => NewI.two c7 hb hw⟩
        · have hu : outsV i = [] := by unfold outsV; rw [if_neg h4, if_neg (by omega), if_neg (neb h6)]
          rw [hu]; exact NewI.nil c7
      have g : ∀ {n : Int}, i.a = n → (n = 5 ∨ n = 7 ∨ n = 8) → brB (i.a == n) (outsV i = [i.e] ∧ w7 = w7) (brB (i.a == (10 : Int)) (ir_Outs_j1 (fun w' => outsV i = [i.e] ∧ w' = w7) i.a b6 (i.a == (10 : Int)) w7 (fun r w' => NewI w w' r (outsV i))) (ir_Outs_j1 (fun w' => outsV i = [i.e] ∧ w' = w7) i.a b6 (i.a == (11 : Int)) w7 (fun r w' => NewI w w' r (outsV i)))) := fun h hn => by
        rw [show (i.a == _) = true from by simpa using h]
        exact brB_t (one (by omega))
      refine brB_of (fun h5 => g (eqb h5) (by omega)) (fun h5 => brB_of (fun h7 => g (eqb h7) (by omega)) (fun h7 => brB_of (fun h8 => g (eqb h8) (by omega)) (fun h8 => brB_of (fun h9 => one (by have := eqb h9; omega)) (fun h9 => ?_))))
      have hn : ¬ (i.a = 5 ∨ i.a = 7 ∨ i.a = 8 ∨ i.a = 9) := by have := neb h5; have := neb h7; have := neb h8; have := neb h9; omega
      refine brB_of (fun h10 => j hn _ ?_) (fun h10 => j hn _ ?_)
      · rw [h10]; symm; exact decide_eq_true (Or.inl (eqb h10))
      · have := neb h10
        rw [Bool.eq_iff_iff]; simp; omega
theorem between_any (x l m : Int) (w : World) : Calls Tryz.prog fn_ir_between #[.int .i64 x, .int .i64 l, .int .i64 m] w fun e w' => e = .returned (.bool (decide (l ≤ x ∧ x ≤ m))) ∧ w = w' := by
  refine (ir_between_lift (K := fun r w' => r = .bool (decide (l ≤ x ∧ x ≤ m)) ∧ w = w') ?_).mono (by rintro e w' ⟨r, rfl, rfl, h⟩; exact ⟨rfl, h⟩)
  unfold ir_between_sh
  refine brB_of (fun h => ?_) (fun h => ?_)
  all_goals
    refine ⟨?_, rfl⟩
    congr 1
    rw [Bool.eq_iff_iff]; simp at *; omega
theorem iplaces_any {D : Nat → Prop} {w : World} (t : TrP) {v : TrG} (ht : TrIs D w t v) {l : Sl} {xs : List Int} (hl : Rd intE w l xs) {k : Nat} (hk : k ≤ v.ins.length) :
    Calls Tryz.prog fn_ir_places #[.agg (trP t).toArray, l.val, .int .i64 (k : Int)] w fun e w' => ∃ b : Bool, e = .returned (.bool b) ∧ (b = true ↔ NamedV v xs k) ∧ Chg No w w' := by
  refine (ir_places_lift (K := fun r w' => ∃ b : Bool, r = .bool b ∧ (b = true ↔ NamedV v xs k) ∧ Chg No w w') ?_).mono (by rintro e w' ⟨r, rfl, b, rfl, h⟩; exact ⟨b, rfl, h⟩)
  unfold ir_places_sh
  intro b12 w13 hb12 hw13
  have o13 : Ob w13 b12 (trP t) T_api_Trace := by rw [hw13, hb12]; exact Ob.new w (trP t) T_api_Trace
  have c13 := al hw13
  have hll := hl.len
  have hcap := hl.capL
  have hil := ht.ins.len
  refine ⟨fun n w' => ∃ j : Nat, n = j ∧ j ≤ xs.length ∧ NamedV v (xs.take j) k ∧ w' = w13, fun n _ => xs.length - n.toNat, ⟨0, rfl, Nat.zero_le _, (fun p hp => by simp at hp), rfl⟩, ?_⟩
  rintro n w14 ⟨j, rfl, hj, hn, rfl⟩
  refine brB_of (fun hlt => ?_) (fun hlt => ?_)
  · have hlt : j < xs.length := by simp at hlt; omega
    obtain ⟨x, hx⟩ : ∃ x, xs[j]? = some x := ⟨_, List.getElem?_eq_getElem hlt⟩
    refine (hl.no c13).ix (i := (j : Int)) (by omega) (by rw [Int.toNat_natCast]; exact hx) fun a _ hcell => ?_
    have q1 := hcell 0 _ rfl
    rw [add0] at q1
    refine ⟨x, q1, fun b w' => (b = false ↔ (0 ≤ x ∧ x < k ∧ givesV (insAt v x).a = true)) ∧ w' = w14, ?_, ?_⟩
    · rintro b w29 ⟨hb, rfl⟩
      refine brB_of (fun ht' => ?_) (fun hf => ?_)
      · refine ⟨false, rfl, ⟨(fun h => by cases h), fun h => ?_⟩, c13⟩
        have := hb.2 (h x (List.mem_of_getElem? hx))
        rw [this] at ht'; cases ht'
      · rw [wr_in (by omega)]
        refine ⟨⟨j + 1, by omega, by omega, fun p hp => ?_, rfl⟩, by show xs.length - Int.toNat ((j : Int) + 1) < xs.length - Int.toNat (j : Int); omega⟩
        rw [List.take_add_one, hx] at hp
        rcases List.mem_append.1 hp with hp | hp
        · exact hn p hp
        · have : p = x := by simpa using hp
          rw [this]; exact hb.1 hf
    · refine brB_of (fun h0 => ⟨⟨(fun h => by cases h), fun h => ?_⟩, rfl⟩) (fun h0 => brB_of (fun h1 => ⟨⟨(fun h => by cases h), fun h => ?_⟩, rfl⟩) (fun h1 => ?_))
      · have h0 := of_decide_eq_true h0; omega
      · have h1 := of_decide_eq_true h1; omega
      have h0 := of_decide_eq_false h0
      have h1 := of_decide_eq_false h1
      refine ⟨t.ins, o13.cell rfl, (ht.ins.no c13).ix (i := x) (by omega) (insAt_ix (by omega) (by omega)) fun a' _ hcell' => ?_⟩
      have q2 := hcell' 0 _ rfl
      rw [add0] at q2
      refine ⟨_, q2, (igives_any _ _).mono ?_⟩
      rintro e w27 ⟨rfl, rfl⟩
      refine ⟨_, rfl, ⟨fun h => ⟨by omega, by omega, by simpa using h⟩, fun h => by rw [h.2.2]; rfl⟩, rfl⟩
  · have hlt : j = xs.length := by simp at hlt; omega
    subst hlt
    rw [List.take_length] at hn
    exact ⟨true, rfl, ⟨fun _ => hn, fun _ => rfl⟩, c13⟩
theorem inamed_any {D : Nat → Prop} {w : World} (t : TrP) {v : TrG} (ht : TrIs D w t v) (x : Int) {k : Nat} (hk : k ≤ v.ins.length) :
    Calls Tryz.prog fn_ir_named #[.agg (trP t).toArray, .int .i64 x, .int .i64 (k : Int)] w fun e w' => ∃ b : Bool, e = .returned (.bool b) ∧ (b = true ↔ OutV v x k) ∧ Chg No w w' := by
  refine (ir_named_lift (K := fun r w' => ∃ b : Bool, r = .bool b ∧ (b = true ↔ OutV v x k) ∧ Chg No w w') ?_).mono (by rintro e w' ⟨r, rfl, b, rfl, h⟩; exact ⟨b, rfl, h⟩)
  unfold ir_named_sh
  intro b12 w13 hb12 hw13 w14 hw14
  have o13 : Ob w13 b12 (trP t) T_api_Trace := by rw [hw13, hb12]; exact Ob.new w (trP t) T_api_Trace
  have c13 := al hw13
  have c14 := dw hw14
  have o14 := o13.no c14
  have k14 := trN c13 c14
  have hd : ∀ {j : Nat} {u : Value}, (trP t)[j]? = some u → held (fun w' => Chg No w14 w') ⟨b12, j, none⟩ u := fun h => Ob.held (fun w' c => o14.no c) h
  obtain ⟨os, hos, hov⟩ := ht.outs
  have hol := hos.len
  have hovl := hov.1
  refine ⟨fun w' => Chg No w14 w', Chg.refl _ _, brB_of (fun h0 => ?_) (fun h0 => ⟨false, rfl, ⟨(fun h => by cases h), fun h => ?_⟩, k14⟩)⟩
  rotate_left
  · have h0 := of_decide_eq_false h0
    exact absurd h.1 h0
  have h0 := of_decide_eq_true h0
  refine ⟨t.outs, hd rfl, brB_of (fun h1 => ?_) (fun h1 => ⟨false, rfl, ⟨(fun h => by cases h), fun h => ?_⟩, k14⟩)⟩
  rotate_left
  · have h1 := of_decide_eq_false h1
    have := h.2.1
    omega
  have h1 := of_decide_eq_true h1
  have hxl : x < v.outs.length := by omega
  obtain ⟨o, ho⟩ : ∃ o, os[x.toNat]? = some o := ⟨_, List.getElem?_eq_getElem (by omega)⟩
  obtain ⟨_, _, u3, u4, _, _⟩ := hov.2 _ _ _ ho (outAt_ix h0 hxl)
  have ix : ∀ {j : Nat} {u : Value} {G : Addr → Prop}, (ouC o)[j]? = some u → (∀ a, held (fun w' => Chg No w14 w') (Addr.add (Addr.add a (Int.toNat x * 4)) j) u → G a) → ∃ a : Addr, t.outs.ptr = some a ∧ 0 ≤ x ∧ x < (t.outs.len : Int) ∧ G a := fun hj kk =>
    (hos.no k14).ix h0 ho fun a ha hcell => kk a fun w' c => by
      obtain ⟨a2, ha2, hc2⟩ := ((hos.no k14).no c).at ho
      rw [ha] at ha2; cases ha2
      exact hc2 _ _ hj
  refine ⟨_, _, _, _, _, _, _, _, _, hd rfl, hd rfl, hd rfl, hd rfl, hd rfl, hd rfl, hd rfl, hd rfl, hd rfl, t.outs, hd rfl, ix (j := 2) rfl fun a q => ⟨o.stack, q, ?_⟩⟩
  refine (iplaces_any t (ht.no k14) (u3.no k14) hk).mono ?_
  rintro e w30 ⟨b, rfl, hb, c30⟩
  refine ⟨b, rfl, c30, brB_of (fun hbt => ?_) (fun hbf => ⟨false, rfl, ⟨fun h => (by cases h), fun h => ?_⟩, trN k14 c30⟩)⟩
  rotate_left
  · have := hb.2 h.2.2.1
    rw [this] at hbf; cases hbf
  refine ⟨_, _, _, _, _, _, _, _, _, hd rfl, hd rfl, hd rfl, hd rfl, hd rfl, hd rfl, hd rfl, hd rfl, hd rfl, t.outs, hd rfl, ix (j := 3) rfl fun a q => ⟨o.back, q, ?_⟩⟩
  refine (iplaces_any t (ht.no (trN k14 c30)) (u4.no (trN k14 c30)) hk).mono ?_
  rintro e w45 ⟨b2, rfl, hb2, c45⟩
  exact ⟨b2, rfl, b2, rfl, ⟨fun h => ⟨h0, hxl, hb.1 hbt, hb2.1 h⟩, fun h => hb2.2 h.2.2.2⟩, trN (trN k14 c30) c45⟩
def SinV (t : TrG) (i : In5) : Prop := (1 ≤ i.a ∧ i.a ≤ 12) ∧ (i.a = 4 → Cn.risTwo i.b = true ∨ Cn.risOne i.b = true) ∧ (i.a = 2 → 0 ≤ i.b ∧ i.b ≤ t.slots - 1) ∧ (i.a = 3 → 0 ≤ i.b ∧ i.b ≤ t.backs - 1)
theorem isingle_any {D : Nat → Prop} {w : World} (t : TrP) {v : TrG} (ht : TrIs D w t v) (hh : HeadV v) (i : In5) : Calls Tryz.prog fn_ir_single #[.agg (trP t).toArray, .agg (insC i).toArray] w fun e w' => ∃ b : Bool, e = .returned (.bool b) ∧ (b = true ↔ SinV v i) ∧ Chg No w w' := by
  refine (ir_single_lift (K := fun r w' => ∃ b : Bool, r = .bool b ∧ (b = true ↔ SinV v i) ∧ Chg No w w') ?_).mono (by rintro e w' ⟨r, rfl, b, rfl, h⟩; exact ⟨b, rfl, h⟩)
  unfold ir_single_sh
  intro b15 w16 hb15 hw16 b17 w18 hb17 hw18
  have o15 : Ob w18 b15 (trP t) T_api_Trace := by
    have : Ob w16 b15 (trP t) T_api_Trace := by rw [hw16, hb15]; exact Ob.new w (trP t) T_api_Trace
    exact this.no (al hw18)
  have o17 : Ob w18 b17 (insC i) T_api_Ins := by rw [hw18, hb17]; exact Ob.new w16 (insC i) T_api_Ins
  have c18 := trN (al hw16) (al hw18)
  have eqb : ∀ {n : Int}, (i.a == n) = true → i.a = n := fun h => by simpa using h
  have neb : ∀ {n : Int}, (i.a == n) = false → i.a ≠ n := fun h => by simpa using h
  obtain ⟨n1, n2, n3, n4, n5, n6⟩ := ht.nums
  obtain ⟨q1, q2, q3, q4, q5, q6, q7⟩ := hh
  refine ⟨i.a, o17.cell rfl, brB_of (fun h4 => ?_) (fun h4 => brB_of (fun h2 => ?_) (fun h2 => brB_of (fun h3 => ?_) (fun h3 => ?_)))⟩
  · have h4 := eqb h4
    refine ⟨i.b, o17.cell rfl, (itwo_any _ _).mono ?_⟩
    rintro e w22 ⟨rfl, c22⟩
    refine ⟨_, rfl, brB_of (fun h => ⟨true, rfl, ⟨fun _ => ⟨by omega, fun _ => Or.inl h, fun h => by omega, fun h => by omega⟩, fun _ => rfl⟩, trN c18 c22⟩) (fun h => ⟨i.b, (o17.no c22).cell rfl, (ione_any _ _).mono ?_⟩)⟩
    rintro e w26 ⟨rfl, rfl⟩
    refine ⟨_, rfl, _, rfl, ⟨fun h1 => ⟨by omega, fun _ => Or.inr h1, fun h => by omega, fun h => by omega⟩, fun hs => ?_⟩, trN c18 c22⟩
    rcases hs.2.1 h4 with h' | h'
    · rw [h] at h'; cases h'
    · exact h'
  · have h2 := eqb h2
    refine ⟨i.b, o17.cell rfl, t.slots, o15.cell rfl, ?_⟩
    rw [n2, wr_in (by omega)]
    refine (between_any _ _ _ _).mono ?_
    rintro e w33 ⟨rfl, rfl⟩
    refine ⟨_, rfl, _, rfl, ⟨fun h => ⟨by omega, fun h => by omega, fun _ => of_decide_eq_true h, fun h => by omega⟩, fun h => decide_eq_true (h.2.2.1 h2)⟩, c18⟩
  · have h3 := eqb h3
    refine ⟨i.b, o17.cell rfl, t.backs, o15.cell rfl, ?_⟩
    rw [n3, wr_in (by omega)]
    refine (between_any _ _ _ _).mono ?_
    rintro e w33 ⟨rfl, rfl⟩
    refine ⟨_, rfl, _, rfl, ⟨fun h => ⟨by omega, fun h => by omega, fun h => by omega, fun _ => of_decide_eq_true h⟩, fun h => decide_eq_true (h.2.2.2 h3)⟩, c18⟩
  · have h4 := neb h4
    have h2 := neb h2
    have h3 := neb h3
    refine ⟨i.a, o17.cell rfl, (between_any _ _ _ _).mono ?_⟩
    rintro e w33 ⟨rfl, rfl⟩
    refine ⟨_, rfl, _, rfl, ⟨fun h => ⟨of_decide_eq_true h, fun h => absurd h h4, fun h => absurd h h2, fun h => absurd h h3⟩, fun h => decide_eq_true h.1⟩, c18⟩
theorem iout_any {D : Nat → Prop} {w : World} (t : TrP) {v : TrG} (ht : TrIs D w t v) (hh : HeadV v) (o : OuC) {ov : OuV} (h1 : o.ip = ov.ip) (h2 : o.steps = ov.steps) (h3 : Rd intE w o.stack ov.stack) (h4 : Rd intE w o.back ov.back) : Calls Tryz.prog fn_ir_out #[.agg (trP t).toArray, .agg (ouC o).toArray] w fun e w' => ∃ b : Bool, e = .returned (.bool b) ∧ (b = true ↔ ExitV v ov) ∧ Chg No w w' := by
  refine (ir_out_lift (K := fun r w' => ∃ b : Bool, r = .bool b ∧ (b = true ↔ ExitV v ov) ∧ Chg No w w') ?_).mono (by rintro e w' ⟨r, rfl, b, rfl, h⟩; exact ⟨b, rfl, h⟩)
  unfold ir_out_sh
  intro b14 w15 hb14 hw15 b16 w17 hb16 hw17
  have o14 : Ob w17 b14 (trP t) T_api_Trace := by
    have : Ob w15 b14 (trP t) T_api_Trace := by rw [hw15, hb14]; exact Ob.new w (trP t) T_api_Trace
    exact this.no (al hw17)
  have o16 : Ob w17 b16 (ouC o) T_api_Out := by rw [hw17, hb16]; exact Ob.new w15 (ouC o) T_api_Out
  have c17 := trN (al hw15) (al hw17)
  obtain ⟨n1, n2, n3, n4, n5, n6⟩ := ht.nums
  obtain ⟨q1, q2, q3, q4, q5, q6, q7⟩ := hh
  have l3 := h3.len
  have l4 := h4.len
  have no : ¬ ExitV v ov → ∃ b : Bool, Value.bool false = .bool b ∧ (b = true ↔ ExitV v ov) ∧ Chg No w w17 := fun h => ⟨false, rfl, ⟨(fun h => by cases h), fun h' => absurd h' h⟩, c17⟩
  refine ⟨o.steps, o16.cell rfl, (between_any _ _ _ _).mono ?_⟩
  rintro e w20 ⟨rfl, rfl⟩
  refine ⟨_, rfl, brB_of (fun g1 => ?_) (fun g1 => no fun h => ?_)⟩
  rotate_left
  · have g1 := of_decide_eq_false g1
    have := h.1; omega
  have g1 := of_decide_eq_true g1
  refine ⟨o.ip, o16.cell rfl, (between_any _ _ _ _).mono ?_⟩
  rintro e w24 ⟨rfl, rfl⟩
  refine ⟨_, rfl, brB_of (fun g2 => ?_) (fun g2 => no fun h => ?_)⟩
  rotate_left
  · have g2 := of_decide_eq_false g2
    have := h.2.1; omega
  have g2 := of_decide_eq_true g2
  refine ⟨o.stack, o16.cell rfl, t.slots, o14.cell rfl, t.grow, o14.cell rfl, ?_⟩
  rw [wr_in (x := t.slots + t.grow) (by omega)]
  refine brB_of (fun g3 => ?_) (fun g3 => no fun h => ?_)
  rotate_left
  · have g3 := of_decide_eq_false g3
    have := h.2.2.1; omega
  have g3 := of_decide_eq_true g3
  refine ⟨o.back, o16.cell rfl, t.backs, o14.cell rfl, t.growBack, o14.cell rfl, ?_⟩
  rw [wr_in (x := t.backs + t.growBack) (by omega)]
  refine ⟨_, rfl, ⟨fun g4 => ⟨by omega, by omega, by omega, ?_⟩, fun h => ?_⟩, c17⟩
  · have := of_decide_eq_true g4; omega
  · have := h.2.2.2
    apply decide_eq_true; omega
theorem ihead_any {D : Nat → Prop} {w : World} (t : TrP) {v : TrG} (ht : TrIs D w t v) : Calls Tryz.prog fn_ir_head #[.agg (trP t).toArray] w fun e w' => ∃ b : Bool, e = .returned (.bool b) ∧ (b = true ↔ HeadV v) ∧ Chg No w w' := by
  refine (ir_head_lift (K := fun r w' => ∃ b : Bool, r = .bool b ∧ (b = true ↔ HeadV v) ∧ Chg No w w') ?_).mono (by rintro e w' ⟨r, rfl, b, rfl, h⟩; exact ⟨b, rfl, h⟩)
  unfold ir_head_sh
  intro b10 w11 hb10 hw11
  have o10 : Ob w11 b10 (trP t) T_api_Trace := by rw [hw11, hb10]; exact Ob.new w (trP t) T_api_Trace
  have c11 := al hw11
  obtain ⟨n1, n2, n3, n4, n5, n6⟩ := ht.nums
  have l1 := ht.ins.len
  obtain ⟨os, hos, hov⟩ := ht.outs
  have l2 := hos.len
  have l2' := hov.1
  refine ⟨fun b w' => b = decide ((0 ≤ v.slots ∧ v.slots ≤ 48) ∧ (0 ≤ v.grow ∧ v.grow ≤ 48) ∧ (0 ≤ v.backs ∧ v.backs ≤ 48) ∧ (0 ≤ v.growBack ∧ v.growBack ≤ 48)) ∧ w' = w11, ?_, ?_⟩
  · rintro b w28 ⟨rfl, rfl⟩
    have no : ¬ HeadV v → ∃ b : Bool, Value.bool false = .bool b ∧ (b = true ↔ HeadV v) ∧ Chg No w w28 := fun h => ⟨false, rfl, ⟨(fun h => by cases h), fun h' => absurd h' h⟩, c11⟩
    refine brB_of (fun g => ?_) (fun g => no fun h => ?_)
    rotate_left
    · have g := of_decide_eq_false g
      exact g ⟨h.2.2.2.1, h.2.2.2.2.1, h.2.2.2.2.2.1, h.2.2.2.2.2.2⟩
    have g := of_decide_eq_true g
    refine ⟨t.ins, o10.cell rfl, brB_of (fun g1 => ?_) (fun g1 => no fun h => ?_)⟩
    rotate_left
    · have g1 := of_decide_eq_false g1
      have := h.1; omega
    have g1 := of_decide_eq_true g1
    refine ⟨t.outs, o10.cell rfl, brB_of (fun g2 => ?_) (fun g2 => no fun h => ?_)⟩
    rotate_left
    · have g2 := of_decide_eq_false g2
      have := h.2.1; omega
    have g2 := of_decide_eq_true g2
    refine ⟨t.start, o10.cell rfl, (between_any _ _ _ _).mono ?_⟩
    rintro e w34 ⟨rfl, rfl⟩
    refine ⟨_, rfl, _, rfl, ⟨fun g3 => ?_, fun h => ?_⟩, c11⟩
    · have g3 := of_decide_eq_true g3
      exact ⟨by omega, by omega, by omega, g.1, g.2.1, g.2.2.1, g.2.2.2⟩
    · have := h.2.2.1
      apply decide_eq_true; omega
  · have no : ∀ {b : Bool}, ¬ ((0 ≤ v.slots ∧ v.slots ≤ 48) ∧ (0 ≤ v.grow ∧ v.grow ≤ 48) ∧ (0 ≤ v.backs ∧ v.backs ≤ 48) ∧ (0 ≤ v.growBack ∧ v.growBack ≤ 48)) → false = decide ((0 ≤ v.slots ∧ v.slots ≤ 48) ∧ (0 ≤ v.grow ∧ v.grow ≤ 48) ∧ (0 ≤ v.backs ∧ v.backs ≤ 48) ∧ (0 ≤ v.growBack ∧ v.growBack ≤ 48)) ∧ w11 = w11 := fun h => ⟨(decide_eq_false h).symm, rfl⟩
    refine ⟨t.slots, o10.cell rfl, (between_any _ _ _ _).mono ?_⟩
    rintro e w14 ⟨rfl, rfl⟩
    refine ⟨_, rfl, brB_of (fun g1 => ?_) (fun g1 => no (b := true) fun h => ?_)⟩
    rotate_left
    · have g1 := of_decide_eq_false g1; rw [n2] at g1; exact g1 h.1
    have g1 := of_decide_eq_true g1
    refine ⟨t.grow, o10.cell rfl, (between_any _ _ _ _).mono ?_⟩
    rintro e w14 ⟨rfl, rfl⟩
    refine ⟨_, rfl, brB_of (fun g2 => ?_) (fun g2 => no (b := true) fun h => ?_)⟩
    rotate_left
    · have g2 := of_decide_eq_false g2; rw [n4] at g2; exact g2 h.2.1
    have g2 := of_decide_eq_true g2
    refine ⟨t.backs, o10.cell rfl, (between_any _ _ _ _).mono ?_⟩
    rintro e w14 ⟨rfl, rfl⟩
    refine ⟨_, rfl, brB_of (fun g3 => ?_) (fun g3 => no (b := true) fun h => ?_)⟩
    rotate_left
    · have g3 := of_decide_eq_false g3; rw [n3] at g3; exact g3 h.2.2.1
    have g3 := of_decide_eq_true g3
    refine ⟨t.growBack, o10.cell rfl, (between_any _ _ _ _).mono ?_⟩
    rintro e w14 ⟨rfl, rfl⟩
    refine ⟨_, rfl, ?_, rfl⟩
    rw [Bool.eq_iff_iff]; simp; omega
theorem icells_any {w : World} {l : Sl} {xs : List Int} (hl : Rd intE w l xs) : Calls Tryz.prog fn_ir_cells #[l.val] w fun e w' => ∃ b : Bool, e = .returned (.bool b) ∧ (b = true ↔ CellsV xs) ∧ w = w' := by
  refine (ir_cells_lift (K := fun r w' => ∃ b : Bool, r = .bool b ∧ (b = true ↔ CellsV xs) ∧ w = w') ?_).mono (by rintro e w' ⟨r, rfl, b, rfl, h⟩; exact ⟨b, rfl, h⟩)
  unfold ir_cells_sh
  have hll := hl.len
  have hcap := hl.capL
  refine ⟨fun last n w' => ∃ k : Nat, n = k ∧ k ≤ xs.length ∧ (k = 0 → last = -1) ∧ (∀ m : Nat, k = m + 1 → xs[m]? = some last) ∧ -1 ≤ last ∧ (∀ (j : Nat) (c : Int), j < k → xs[j]? = some c → (0 ≤ c ∧ c ≤ 2999) ∧ ∀ (m : Nat) (d : Int), j = m + 1 → xs[m]? = some d → d < c) ∧ w = w', fun _ n _ => xs.length - n.toNat, ⟨0, rfl, Nat.zero_le _, fun _ => rfl, fun m h => by omega, by decide, fun j c h => by omega, rfl⟩, ?_⟩
  rintro last n w2 ⟨k, rfl, hk, h0, hs, hge, hall, rfl⟩
  refine brB_of (fun hlt => ?_) (fun hlt => ?_)
  · have hlt : k < xs.length := by simp at hlt; omega
    obtain ⟨c, hc⟩ : ∃ x, xs[k]? = some x := ⟨_, List.getElem?_eq_getElem hlt⟩
    refine hl.ix (i := (k : Int)) (by omega) (by rw [Int.toNat_natCast]; exact hc) fun a _ hcell => ?_
    have q1 := hcell 0 _ rfl
    rw [add0] at q1
    refine ⟨c, q1, fun b w' => (b = false ↔ last < c ∧ c < 3000) ∧ w = w', ?_, ?_⟩
    · rintro b w7 ⟨hb, rfl⟩
      refine brB_of (fun hbt => ⟨false, rfl, ⟨(fun h => by cases h), fun h => ?_⟩, rfl⟩) (fun hbf => ?_)
      · have hcc := h k c hc
        have : b = false := hb.2 ⟨by
          rcases Nat.eq_zero_or_pos k with hk0 | hk0
          · have := h0 hk0; omega
          · obtain ⟨m, rfl⟩ : ∃ m, k = m + 1 := ⟨k - 1, by omega⟩
            exact hcc.2 m last rfl (hs m rfl), by omega⟩
        rw [this] at hbt; cases hbt
      · have hcc := hb.1 hbf
        rw [wr_in (by omega)]
        refine ⟨⟨k + 1, by omega, by omega, fun h => by omega, fun m hm => ?_, by omega, fun j c' hj hc' => ?_, rfl⟩, by show xs.length - Int.toNat ((k : Int) + 1) < xs.length - Int.toNat (k : Int); omega⟩
        · obtain rfl : k = m := by omega
          exact hc
        · by_cases hjk : j = k
          · subst hjk
            rw [hc] at hc'; cases hc'
            refine ⟨by omega, fun m d hm hd => ?_⟩
            have := hs m hm
            rw [hd] at this; cases this
            exact hcc.1
          · exact hall j c' (by omega) hc'
    · refine brB_of (fun h1 => ⟨⟨(fun h => by cases h), fun h => ?_⟩, rfl⟩) (fun h1 => ⟨⟨fun h => ?_, fun h => ?_⟩, rfl⟩)
      · have h1 := of_decide_eq_true h1; omega
      · have h1 := of_decide_eq_false h1; have h := of_decide_eq_false h; omega
      · apply decide_eq_false; omega
  · have hlt : k = xs.length := by simp at hlt; omega
    subst hlt
    exact ⟨true, rfl, ⟨fun _ j c hc => hall j c (List.getElem?_eq_some_iff.1 hc).1 hc, fun _ => rfl⟩, rfl⟩
theorem iright_any {D : Nat → Prop} {w : World} (t : TrP) {v : TrG} (ht : TrIs D w t v) :
    Calls Tryz.prog fn_ir_Right #[.agg (trP t).toArray] w fun e w' => ∃ b : Bool, e = .returned (.bool b) ∧ (b = true ↔ RightV v) ∧ Chg No w w' := by
  refine (ir_Right_lift (K := fun r w' => ∃ b : Bool, r = .bool b ∧ (b = true ↔ RightV v) ∧ Chg No w w') ?_).mono (by rintro e w' ⟨r, rfl, b, rfl, h⟩; exact ⟨b, rfl, h⟩)
  unfold ir_Right_sh
  intro b10 w11 hb10 hw11
  have o11 : Ob w11 b10 (trP t) T_api_Trace := by rw [hw11, hb10]; exact Ob.new w (trP t) T_api_Trace
  have c11 := al hw11
  have hil := ht.ins.len
  have hic := ht.ins.capL
  obtain ⟨os, hos, hov⟩ := ht.outs
  have hol := hos.len
  have hoc := hos.capL
  have hovl := hov.1
  obtain ⟨n1, n2, n3, n4, n5, n6⟩ := ht.nums
  have no : ∀ {w' : World}, Chg No w w' → ¬ RightV v → ∃ b : Bool, Value.bool false = .bool b ∧ (b = true ↔ RightV v) ∧ Chg No w w' := fun c h => ⟨false, rfl, ⟨(fun h => by cases h), fun h' => absurd h' h⟩, c⟩
  refine ⟨fun b w' => (b = false ↔ HeadV v ∧ CellsV v.cells ∧ OutV v v.last v.ins.length ∧ 1 ≤ (outAt v v.last).steps) ∧ Chg No w11 w', ?_, ?_⟩
  · rintro b w46 ⟨hb, c46⟩
    have k46 := trN c11 c46
    refine brB_of (fun hbt => no k46 fun h => ?_) (fun hbf => ?_)
    · rw [hb.2 ⟨h.head, h.cells, h.last, h.lastS⟩] at hbt; cases hbt
    obtain ⟨hhead, hcells, hlast, hlastS⟩ := hb.1 hbf
    refine ⟨t.outs, (o11.no c46).cell rfl, fun n w' => ∃ k : Nat, n = k ∧ k ≤ v.outs.length ∧ (∀ (j : Nat) (o : OuV), j < k → v.outs[j]? = some o → ExitV v o) ∧ Chg No w11 w', fun n _ => v.outs.length - n.toNat, ⟨0, rfl, Nat.zero_le _, fun j i h => by omega, c46⟩, ?_⟩
    rintro n w49 ⟨k, rfl, hk, hexit, c49⟩
    have k49 := trN c11 c49
    refine brB_of (fun hlt => ?_) (fun hlt => ?_)
    · have hlt : k < v.outs.length := by simp at hlt; omega
      obtain ⟨o, ho⟩ : ∃ o, os[k]? = some o := ⟨_, List.getElem?_eq_getElem (by omega)⟩
      obtain ⟨ov, hovk⟩ : ∃ o, v.outs[k]? = some o := ⟨_, List.getElem?_eq_getElem hlt⟩
      obtain ⟨u1, u2, u3, u4, _, _⟩ := hov.2 _ _ _ ho hovk
      refine (hos.no k49).ix (i := (k : Int)) (by omega) (by rw [Int.toNat_natCast]; exact ho) fun a _ hcell => ?_
      have g0 := hcell 0 _ rfl
      rw [add0] at g0
      refine ⟨_, _, _, _, g0, hcell 1 _ rfl, hcell 2 _ rfl, hcell 3 _ rfl, ?_⟩
      intro b56 w57 hb56 hw57
      have hn := fun (w2 : World) => newOb (w2 := w2) (T := T_api_Out) (ouC ⟨0, 0, nilS, nilS⟩) (ouC o) rfl hb56 hw57
      refine ⟨(hn w57).1, fun w58 hw58 => ?_⟩
      obtain ⟨o56, c58⟩ := (hn w58).2 hw58
      have k58 := trN k49 c58
      have o58 := (o11.no c49).no c58
      refine ⟨_, _, _, _, _, _, _, _, _, o58.cell rfl, o58.cell rfl, o58.cell rfl, o58.cell rfl, o58.cell rfl, o58.cell rfl, o58.cell rfl, o58.cell rfl, o58.cell rfl, _, _, _, _, o56.cell rfl, o56.cell rfl, o56.cell rfl, o56.cell rfl, ?_⟩
      refine (iout_any t (ht.no k58) hhead o u1 u2 (u3.no k58) (u4.no k58)).mono ?_
      rintro e w73 ⟨b2, rfl, hb2, c73⟩
      refine ⟨b2, rfl, brB_of (fun hn => no (trN k58 c73) fun h => ?_) (fun hn => ?_)⟩
      · have := hb2.2 (h.exits k ov hovk)
        rw [this] at hn; cases hn
      · have hn : b2 = true := by simpa using hn
        rw [wr_in (by omega)]
        refine ⟨⟨k + 1, by omega, by omega, fun j o' hj ho' => ?_, trN (trN c49 c58) c73⟩, by show v.outs.length - Int.toNat ((k : Int) + 1) < v.outs.length - Int.toNat (k : Int); omega⟩
        by_cases hjk : j = k
        · subst hjk
          rw [hovk] at ho'; cases ho'
          exact hb2.1 hn
        · exact hexit j o' (by omega) ho'
    · have hlt : k = v.outs.length := by simp at hlt; omega
      subst hlt
      refine ⟨t.ins, (o11.no c49).cell rfl, fun n w' => ∃ k : Nat, n = k ∧ k ≤ v.ins.length ∧ (∀ (j : Nat) (i : In5), j < k → v.ins[j]? = some i → EachV v j i) ∧ Chg No w11 w', fun n _ => v.ins.length - n.toNat, ⟨0, rfl, Nat.zero_le _, fun j i h => by omega, c49⟩, ?_⟩
      rintro n w76 ⟨k, rfl, hk, hall, c76⟩
      have k76 := trN c11 c76
      refine brB_of (fun hlt => ?_) (fun hlt => ?_)
      · have hlt : k < v.ins.length := by simp at hlt; omega
        obtain ⟨i, hiv⟩ : ∃ i, v.ins[k]? = some i := ⟨_, List.getElem?_eq_getElem hlt⟩
        refine (ht.ins.no k76).ix (i := (k : Int)) (by omega) (by rw [Int.toNat_natCast]; exact hiv) fun a _ hcell => ?_
        have g0 := hcell 0 _ rfl
        rw [add0] at g0
        refine ⟨_, _, _, _, _, g0, hcell 1 _ rfl, hcell 2 _ rfl, hcell 3 _ rfl, hcell 4 _ rfl, ?_⟩
        intro b84 w85 hb84 hw85
        have hn := fun (w2 : World) => newOb (w2 := w2) (T := T_api_Ins) (insC ⟨0, 0, 0, 0, 0⟩) (insC i) rfl hb84 hw85
        refine ⟨(hn w85).1, fun w86 hw86 => ?_⟩
        obtain ⟨o84, c86⟩ := (hn w86).2 hw86
        have k86 := trN k76 c86
        have o86 := (o11.no c76).no c86
        refine ⟨fun b w' => (b = false ↔ EachA v k i) ∧ Chg No w86 w', ?_, ?_⟩
        · rintro b w126 ⟨hb, c126⟩
          have k126 := trN k86 c126
          refine brB_of (fun hbt => no k126 fun h => ?_) (fun hbf => ?_)
          · rw [hb.2 (eachV_iff.1 (h.each k i hiv)).1] at hbt; cases hbt
          have hA := hb.1 hbf
          have o126 := o84.no c126
          refine ⟨_, _, _, _, _, o126.cell rfl, o126.cell rfl, o126.cell rfl, o126.cell rfl, o126.cell rfl, (iouts_any i w126).mono ?_⟩
          rintro e w134 ⟨r, rfl, s135, rfl, g135, c134, _⟩
          have hsl := g135.rd.len
          have hsc := g135.rd.capL
          refine ⟨s135, rfl, fun n w' => ∃ j : Nat, n = j ∧ j ≤ (outsV i).length ∧ (∀ x ∈ (outsV i).take j, OutV v x k) ∧ Chg No w134 w', fun n _ => (outsV i).length - n.toNat, ⟨0, rfl, Nat.zero_le _, fun x hx => by simp at hx, Chg.refl _ _⟩, ?_⟩
          rintro n w136 ⟨j, rfl, hj, hout, c136⟩
          have k136 := trN (trN k126 c134) c136
          refine brB_of (fun hlt2 => ?_) (fun hlt2 => ?_)
          · have hlt2 : j < (outsV i).length := by simp at hlt2; omega
            obtain ⟨x, hx⟩ : ∃ x, (outsV i)[j]? = some x := ⟨_, List.getElem?_eq_getElem hlt2⟩
            have o136 := ((o86.no c126).no c134).no c136
            refine (g135.no c136).rd.ix (i := (j : Int)) (by omega) (by rw [Int.toNat_natCast]; exact hx) fun a _ hcell' => ?_
            have q1 := hcell' 0 _ rfl
            rw [add0] at q1
            refine ⟨x, q1, _, _, _, _, _, _, _, _, _, o136.cell rfl, o136.cell rfl, o136.cell rfl, o136.cell rfl, o136.cell rfl, o136.cell rfl, o136.cell rfl, o136.cell rfl, o136.cell rfl, (inamed_any t (ht.no k136) x (by omega)).mono ?_⟩
            rintro e w150 ⟨b2, rfl, hb2, c150⟩
            refine ⟨b2, rfl, brB_of (fun hn => no (trN k136 c150) fun h => ?_) (fun hn => ?_)⟩
            · have := hb2.2 ((h.each k i hiv).2.2.2.2.2 x (List.mem_of_getElem? hx))
              rw [this] at hn; cases hn
            · have hn : b2 = true := by simpa using hn
              rw [wr_in (by omega)]
              refine ⟨⟨j + 1, by omega, by omega, fun y hy => ?_, trN c136 c150⟩, by show (outsV i).length - Int.toNat ((j : Int) + 1) < (outsV i).length - Int.toNat (j : Int); omega⟩
              rw [List.take_add_one, hx] at hy
              rcases List.mem_append.1 hy with hy | hy
              · exact hout y hy
              · have : y = x := by simpa using hy
                rw [this]; exact hb2.1 hn
          · have hlt2 : j = (outsV i).length := by simp at hlt2; omega
            subst hlt2
            rw [List.take_length] at hout
            rw [wr_in (by omega)]
            refine ⟨⟨k + 1, by omega, by omega, fun j i' hj hi' => ?_, trN (trN (trN (trN c76 c86) c126) c134) c136⟩, by show v.ins.length - Int.toNat ((k : Int) + 1) < v.ins.length - Int.toNat (k : Int); omega⟩
            by_cases hjk : j = k
            · subst hjk
              rw [hiv] at hi'; cases hi'
              exact eachV_iff.2 ⟨hA, hout⟩
            · exact hall j i' (by omega) hi'
        · intro w87 hw87
          have c87 := dw hw87
          have k87 := trN k86 c87
          have p84 := o84.no c87
          have p10 := o86.no c87
          have hd : ∀ {j : Nat} {u : Value}, (trP t)[j]? = some u → held (fun w' => Chg No w87 w') ⟨b10, j, none⟩ u := fun h => Ob.held (fun w' c => p10.no c) h
          have hi : ∀ {j : Nat} {u : Value}, (insC i)[j]? = some u → held (fun w' => Chg No w87 w') ⟨b84, j, none⟩ u := fun h => Ob.held (fun w' c => p84.no c) h
          refine ⟨fun w' => Chg No w87 w', Chg.refl _ _, _, _, _, _, _, _, _, _, _, hd rfl, hd rfl, hd rfl, hd rfl, hd rfl, hd rfl, hd rfl, hd rfl, hd rfl, _, _, _, _, _, hi rfl, hi rfl, hi rfl, hi rfl, hi rfl, (isingle_any t (ht.no k87) hhead i).mono ?_⟩
          rintro e w104 ⟨b1, rfl, hb1, c104⟩
          refine ⟨b1, rfl, c104, brB_of (fun hn => ⟨⟨(fun h => by cases h), fun h => ?_⟩, trN c87 c104⟩) (fun hn => ?_)⟩
          · have := hb1.2 ⟨h.1, h.2.1, h.2.2.1, h.2.2.2.1⟩
            rw [this] at hn; cases hn
          have hn : b1 = true := by simpa using hn
          obtain ⟨s1, s2, s3, s4⟩ := hb1.1 hn
          refine ⟨_, _, _, _, _, _, _, _, _, hd rfl, hd rfl, hd rfl, hd rfl, hd rfl, hd rfl, hd rfl, hd rfl, hd rfl, _, _, _, _, _, hi rfl, hi rfl, hi rfl, hi rfl, hi rfl, (iuses_any i w104).mono ?_⟩
          rintro e w121 ⟨r, rfl, s122, rfl, g122, c121, _⟩
          have k121 := trN (trN k87 c104) c121
          refine ⟨s122, rfl, trN c104 c121, (iplaces_any t (ht.no k121) g122.rd (by omega)).mono ?_⟩
          rintro e w124 ⟨b2, rfl, hb2, c124⟩
          exact ⟨b2, rfl, ⟨fun h => ⟨s1, s2, s3, s4, hb2.1 (by simpa using h)⟩, fun h => by rw [hb2.2 h.2.2.2.2]; rfl⟩, trN (trN (trN c87 c104) c121) c124⟩
      · have hlt : k = v.ins.length := by simp at hlt; omega
        subst hlt
        exact ⟨true, rfl, ⟨fun _ => ⟨hhead, fun k i hi => hall k i (List.getElem?_eq_some_iff.1 hi).1 hi, fun k o ho => hexit k o (List.getElem?_eq_some_iff.1 ho).1 ho, hcells, hlast, hlastS⟩, fun _ => rfl⟩, k76⟩
  · have bad : ∀ {w' : World}, Chg No w11 w' → ¬ (HeadV v ∧ CellsV v.cells ∧ OutV v v.last v.ins.length ∧ 1 ≤ (outAt v v.last).steps) → (true = false ↔ HeadV v ∧ CellsV v.cells ∧ OutV v v.last v.ins.length ∧ 1 ≤ (outAt v v.last).steps) ∧ Chg No w11 w' := fun c h => ⟨⟨(fun h => by cases h), fun h' => absurd h' h⟩, c⟩
    refine ⟨_, _, _, _, _, _, _, _, _, o11.cell rfl, o11.cell rfl, o11.cell rfl, o11.cell rfl, o11.cell rfl, o11.cell rfl, o11.cell rfl, o11.cell rfl, o11.cell rfl, (ihead_any t (ht.no c11)).mono ?_⟩
    rintro e w22 ⟨b1, rfl, hb1, c22⟩
    refine ⟨b1, rfl, brB_of (fun hn => bad c22 fun h => ?_) (fun hn => ?_)⟩
    · rw [hb1.2 h.1] at hn; cases hn
    have hhead := hb1.1 (by simpa using hn)
    refine ⟨t.cells, (o11.no c22).cell rfl, (icells_any (ht.cells.no (trN c11 c22))).mono ?_⟩
    rintro e w26 ⟨b2, rfl, hb2, rfl⟩
    refine ⟨b2, rfl, brB_of (fun hn => bad c22 fun h => ?_) (fun hn => ?_)⟩
    · rw [hb2.2 h.2.1] at hn; cases hn
    have hcells := hb2.1 (by simpa using hn)
    have o22 := o11.no c22
    refine ⟨_, _, _, _, _, _, _, _, _, o22.cell rfl, o22.cell rfl, o22.cell rfl, o22.cell rfl, o22.cell rfl, o22.cell rfl, o22.cell rfl, o22.cell rfl, o22.cell rfl, t.last, o22.cell rfl, t.ins, o22.cell rfl, ?_⟩
    rw [hil]
    refine (inamed_any t (ht.no (trN c11 c22)) t.last (Nat.le_refl _)).mono ?_
    rintro e w40 ⟨b3, rfl, hb3, c40⟩
    rw [n6] at hb3
    have c40' := trN c22 c40
    refine ⟨b3, rfl, brB_of (fun hn => bad c40' fun h => ?_) (fun hn => ?_)⟩
    · rw [hb3.2 h.2.2.1] at hn; cases hn
    have hlast := hb3.1 (by simpa using hn)
    obtain ⟨o, ho⟩ : ∃ o, os[v.last.toNat]? = some o := ⟨_, List.getElem?_eq_getElem (by have := hlast.1; have := hlast.2.1; omega)⟩
    obtain ⟨u1, u2, _⟩ := hov.2 _ _ _ ho (outAt_ix hlast.1 hlast.2.1)
    have o40 := o11.no c40'
    refine ⟨t.outs, o40.cell rfl, v.last, by have := o40.cell (k := 7) (v := .int .i64 t.last) rfl; rw [n6] at this; exact this, (hos.no (trN c11 c40')).ix hlast.1 ho fun a _ hcell' => ⟨o.steps, hcell' 1 _ rfl, ⟨fun h => ?_, fun h => ?_⟩, c40'⟩⟩
    · have h := of_decide_eq_false h
      exact ⟨hhead, hcells, hlast, by rw [← u2]; omega⟩
    · apply decide_eq_false
      rw [u2]; have := h.2.2.2; omega
end Go.Proofs.YtblmoilneiffgaaGreat

/- Maps of places (fold.Map), over the lifted text; what a pass over traces answers. -/
set_option maxRecDepth 100000
namespace Go.Proofs.YtblmoilneiffgaaGreat
open Go.RowKit

theorem insOk : EncOk Tryz.prog insE T_sl_api_Ins := EncOk.of (z := .agg #[.int .i64 0, .int .i64 0, .int .i64 0, .int .i64 0, .int .i64 0]) (by kernel_rfl) (by kernel_rfl) (by kernel_rfl)
theorem ousOk : EncOk Tryz.prog ouE T_sl_api_Out := EncOk.of (z := .agg #[.int .i64 0, .int .i64 0, .slice none 0 0, .slice none 0 0]) (by kernel_rfl) (by kernel_rfl) (by kernel_rfl)
theorem OusIs.mono {D D' : Nat → Prop} {w : World} {os : List OuC} {vs : List OuV} (h : OusIs D w os vs) (hd : ∀ k, D k → D' k) : OusIs D' w os vs :=
  ⟨h.1, fun i o v ho hv => by obtain ⟨a, b, c, d, e, f⟩ := h.2 i o v ho hv; exact ⟨a, b, c, d, fun k hk => hd _ (e k hk), fun k hk => hd _ (f k hk)⟩⟩
structure TrOw (D : Nat → Prop) (w : World) (t : TrP) (v : TrG) : Prop where
  nums : t.start = v.start ∧ t.slots = v.slots ∧ t.backs = v.backs ∧ t.grow = v.grow ∧ t.growBack = v.growBack ∧ t.last = v.last
  ins : Ow insE w t.ins v.ins
  outs : ∃ os, Ow ouE w t.outs os ∧ OusIs (fun k => D k ∧ t.ins.blk ≠ some k ∧ t.outs.blk ≠ some k ∧ t.cells.blk ≠ some k ∧ k < w.heap.size) w os v.outs
  cells : Ow intE w t.cells v.cells
  insD : ∀ k, t.ins.blk = some k → D k
  outsD : ∀ k, t.outs.blk = some k → D k ∧ t.ins.blk ≠ some k
  cellsD : ∀ k, t.cells.blk = some k → D k ∧ t.ins.blk ≠ some k ∧ t.outs.blk ≠ some k
theorem TrOw.is {D : Nat → Prop} {w : World} {t : TrP} {v : TrG} (h : TrOw D w t v) : TrIs D w t v := by
  obtain ⟨os, h1, h2⟩ := h.outs
  exact ⟨h.nums, h.ins.rd, ⟨os, h1.rd, h2.mono (fun k hk => hk.1)⟩, h.cells.rd, h.insD, fun k hk => (h.outsD k hk).1, fun k hk => (h.cellsD k hk).1⟩
theorem TrOw.chg {D S : Nat → Prop} {w w' : World} {t : TrP} {v : TrG} (h : TrOw D w t v) (c : Chg S w w') (hS : ∀ k, D k → ¬ S k) : TrOw D w' t v := by
  obtain ⟨os, h1, h2⟩ := h.outs
  exact ⟨h.nums, h.ins.chg c (fun k hk => hS _ (h.insD k hk)), ⟨os, h1.chg c (fun k hk => hS _ (h.outsD k hk).1), (h2.chg c (fun k hk => hS _ hk.1)).mono (fun k hk => ⟨hk.1, hk.2.1, hk.2.2.1, hk.2.2.2.1, by have := hk.2.2.2.2; have := c.size; omega⟩)⟩, h.cells.chg c (fun k hk => hS _ (h.cellsD k hk).1), h.insD, h.outsD, h.cellsD⟩
theorem TrOw.no {D : Nat → Prop} {w w' : World} {t : TrP} {v : TrG} (h : TrOw D w t v) (c : Chg No w w') : TrOw D w' t v := h.chg c (fun _ _ h => h)
theorem TrOw.wid {D D' : Nat → Prop} {w : World} {t : TrP} {v : TrG} (h : TrOw D w t v) (hd : ∀ k, D k → D' k) : TrOw D' w t v := by
  obtain ⟨os, h1, h2⟩ := h.outs
  exact ⟨h.nums, h.ins, ⟨os, h1, h2.mono (fun k hk => ⟨hd _ hk.1, hk.2⟩)⟩, h.cells, fun k hk => hd _ (h.insD k hk), fun k hk => ⟨hd _ (h.outsD k hk).1, (h.outsD k hk).2⟩, fun k hk => ⟨hd _ (h.cellsD k hk).1, (h.cellsD k hk).2⟩⟩
theorem TrOw.nar {D : Nat → Prop} {w : World} {t : TrP} {v : TrG} (h : TrOw D w t v) : TrOw (fun k => D k ∧ k < w.heap.size) w t v := by
  obtain ⟨os, h1, h2⟩ := h.outs
  exact ⟨h.nums, h.ins, ⟨os, h1, h2.mono (fun k hk => ⟨⟨hk.1, hk.2.2.2.2⟩, hk.2⟩)⟩, h.cells, fun k hk => ⟨h.insD k hk, h.ins.lt hk⟩, fun k hk => ⟨⟨(h.outsD k hk).1, h1.lt hk⟩, (h.outsD k hk).2⟩, fun k hk => ⟨⟨(h.cellsD k hk).1, h.cells.lt hk⟩, (h.cellsD k hk).2⟩⟩
end Go.Proofs.YtblmoilneiffgaaGreat
