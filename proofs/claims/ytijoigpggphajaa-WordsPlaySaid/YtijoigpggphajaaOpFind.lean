/- The contracts of op.Of and of the law's first call; OpBalance's walk. -/
import Derived.Test.YtijoigpggphajaaOps
import Derived.Test.YtijoigpggphajaaStrs
import Derived.Test.YtijoigpggphajaaShHollowaylaw6
set_option maxRecDepth 100000
namespace Go.Proofs.Ytijoigpggphajaa
open Go.RowKit

theorem bl_eq (a b : ByteArray) : (a.toList == b.toList) = decide (a = b) := by
  rw [Bool.eq_iff_iff]
  simp only [beq_iff_eq, decide_eq_true_eq]
  constructor
  · intro h
    rw [ByteArray.toList_eq, ByteArray.toList_eq] at h
    exact Go.WideShapes.bytes_inj h
  · rintro rfl; rfl
/-- The name of operation number k. -/
def opName (k : Nat) : ByteArray := bs (opRows.getD k noRow).name
theorem opName_row (op : Int) (h : 0 ≤ op) (h' : op < 48) : bs (opRow op).name = opName op.toNat := by unfold opRow opName; rw [if_pos ⟨h, h'⟩]
/-- What Of answers. -/
def OfAns (s : ByteArray) (v : Value) : Prop :=
  (∃ k : Nat, k < 48 ∧ v = .tuple #[.int .i64 k, .bool true] ∧ upS (opName k) = upS s ∧ ∀ j : Nat, j < k → upS (opName j) ≠ upS s) ∨ (v = .tuple #[.int .i64 0, .bool false] ∧ ∀ j : Nat, j < 48 → upS (opName j) ≠ upS s)
theorem opName_size : ∀ k : Nat, (opName k).size ≤ 10 := by
  intro k
  by_cases hk : k < 48
  · have : (List.range 48).all (fun k => decide ((opName k).size ≤ 10)) = true := by decide +kernel
    exact of_decide_eq_true (List.all_eq_true.1 this k (List.mem_range.2 hk))
  · unfold opName
    rw [List.getD_eq_getElem?_getD, List.getElem?_eq_none (by rw [opRows_length]; omega)]
    decide
theorem opFind_any (s : ByteArray) (w : World) (hs : s.size ≤ 281474976710656) : Calls Try.prog fn_op_Of #[.string s] w fun e w' => (∃ v, e = .returned v ∧ OfAns s v) ∧ Chg No w w' := by
  refine (op_Of_lift (K := fun v w' => OfAns s v ∧ Chg No w w') ?_).mono (by rintro e w' ⟨v, rfl, h1, h2⟩; exact ⟨⟨v, rfl, h1⟩, h2⟩)
  unfold op_Of_sh
  refine (clone_str s w hs).mono ?_
  rintro e w3 ⟨rfl, h3⟩
  refine ⟨_, rfl, ?_⟩
  refine (table_any w3).mono ?_
  rintro e w6 ⟨rfl, h6⟩
  refine ⟨_, rfl, ?_⟩
  have h36 : Chg No w w6 := h3.trans h6 (fun _ _ h => h) (fun _ _ h => h)
  refine ⟨fun n w' => ∃ k : Nat, n = k ∧ k ≤ 48 ∧ (∀ j : Nat, j < k → upS (opName j) ≠ upS s) ∧ Chg No w w', fun n _ => 48 - n.toNat, ⟨0, rfl, by omega, fun j h => by omega, h36⟩, ?_⟩
  rintro n w8 ⟨k, rfl, hk, hj, h8⟩
  refine brB_of (fun hlt => ?_) (fun hlt => ?_)
  · have hlt : k < 48 := by simp at hlt; omega
    have hx : opRows[(k : Int).toNat]? = some (opRows.getD k noRow) := by
      rw [Int.toNat_natCast, List.getD_eq_getElem?_getD, List.getElem?_eq_getElem (by rw [opRows_length]; exact hlt)]; rfl
    have hrun := index_rows (P := Try.prog) (E := rowE) (orc.tok T_48_op_row _ rfl) rfl (orc.tok T_op_row _ rfl) rfl rfl opRows_length (show (0 : Int) ≤ k by omega) hx w8
    refine ⟨_, _, _, _, _, w8, hrun, fun b w17 hb h17 => ?_⟩
    have ho : Ob w17 b (rowE.e noRow) T_op_row := by rw [h17, hb]; exact Ob.new w8 (rowE.e noRow) T_op_row
    refine ⟨ho.wr (by simp [rowE]), fun w18 h18 => ?_⟩
    have h4 : Ob w18 b (rowE.e (opRows.getD k noRow)) T_op_row := by
      have := Ob.st (vs := rowE.e (opRows.getD k noRow)) (k := 0) (i := 0) ho
      rw [wrL_whole (by rw [rowE.len, rowE.len])] at this
      rw [h18]; exact this
    have hc : Chg No w w18 := by
      rw [h18, h17]
      refine (h8.trans (Chg.alloc No _ _) (fun _ _ h => h) (fun _ _ h => h)).trans (Chg.st (S := fun k => k = b) rfl) (fun _ _ h => h) (fun x hx h => ?_)
      subst h; have := h8.size; omega
    refine ⟨_, h4.cell rfl, ?_⟩
    refine (same_any (opName k) s w18 (by have := opName_size k; omega)).mono ?_
    rintro e w21 ⟨rfl, h21⟩
    have hc2 : Chg No w w21 := hc.trans (Chg.qt (S := No) h21) (fun _ _ h => h) (fun _ _ h => h)
    refine ⟨_, rfl, ?_⟩
    refine brB_of (fun he => ?_) (fun he => ?_)
    · exact ⟨Or.inl ⟨k, hlt, rfl, of_decide_eq_true he, hj⟩, hc2⟩
    · have he := of_decide_eq_false he
      rw [wr_of (by omega) (by omega)]
      refine ⟨⟨k + 1, by omega, by omega, fun j hj' => ?_, hc2⟩, by show 48 - Int.toNat ((k : Int) + 1) < 48 - Int.toNat (k : Int); omega⟩
      rcases Nat.lt_succ_iff_lt_or_eq.1 hj' with h | rfl
      · exact hj j h
      · exact he
  · have hlt : k = 48 := by simp at hlt; omega
    subst hlt
    exact ⟨Or.inr ⟨rfl, hj⟩, h8⟩
/-- The names are all different, letters great or small. -/
theorem opName_inj {i j : Nat} (hi : i < 48) (hj : j < 48) (h : upS (opName i) = upS (opName j)) : i = j := by
  have : (List.range 48).all (fun i => (List.range 48).all fun j => decide (upS (opName i) = upS (opName j) → i = j)) = true := by decide +kernel
  exact of_decide_eq_true (List.all_eq_true.1 (List.all_eq_true.1 this i (List.mem_range.2 hi)) j (List.mem_range.2 hj)) h
/-- Of finds the operation of a name. -/
theorem OfAns.found {s : ByteArray} {v : Value} (h : OfAns s v) {k : Nat} (hk : k < 48) (hs : upS (opName k) = upS s) : v = .tuple #[.int .i64 k, .bool true] := by
  rcases h with ⟨j, hj, rfl, h1, _⟩ | ⟨_, h1⟩
  · rw [opName_inj hj hk (h1.trans hs.symm)]
  · exact absurd hs (h1 k hk)

theorem alive6_any (w : World) : Calls Try.prog fn_hollowaylaw6_alive #[] w fun e w' => e = .returned (.bool true) ∧ Chg No w w' := by
  refine (hollowaylaw6_alive_lift (K := fun v w' => v = .bool true ∧ Chg No w w') ?_).mono (by rintro e w' ⟨v, rfl, rfl, h⟩; exact ⟨rfl, h⟩)
  unfold hollowaylaw6_alive_sh
  refine (opFind_any _ w (by decide)).mono ?_
  rintro e w2 ⟨⟨v, rfl, hv⟩, h2⟩
  rw [hv.found (k := 6) (by decide) (by decide +kernel)]
  refine ⟨_, _, rfl, ?_⟩
  refine (takes_any _ w2).mono ?_
  rintro e w6 ⟨rfl, h6⟩
  refine ⟨_, _, rfl, brB_t (brB_t (brB_t (brB_t ?_)))⟩
  refine (name_any _ w6).mono ?_
  rintro e w10 ⟨rfl, h10⟩
  refine ⟨_, rfl, ?_⟩
  rw [bl_eq, decide_eq_true (by rfl)]
  refine brB_t ?_
  refine (right_any _ _).mono ?_
  rintro e w13 ⟨rfl, rfl⟩
  refine ⟨_, rfl, brB_t ?_⟩
  refine (right_any _ _).mono ?_
  rintro e w13 ⟨rfl, rfl⟩
  exact ⟨_, rfl, rfl, (h2.trans h6 (fun _ _ h => h) (fun _ _ h => h)).trans h10 (fun _ _ h => h) (fun _ _ h => h)⟩

theorem opRow_bound (op : Int) : 0 ≤ (opRow op).takes ∧ (opRow op).takes ≤ 4 ∧ 0 ≤ (opRow op).backs ∧ (opRow op).backs ≤ 4 ∧ 0 ≤ (opRow op).gives ∧ (opRow op).gives ≤ 4 ∧ 0 ≤ (opRow op).givesBak ∧ (opRow op).givesBak ≤ 4 := by
  have h : ∀ r ∈ opRows, 0 ≤ r.takes ∧ r.takes ≤ 4 ∧ 0 ≤ r.backs ∧ r.backs ≤ 4 ∧ 0 ≤ r.gives ∧ r.gives ≤ 4 ∧ 0 ≤ r.givesBak ∧ r.givesBak ≤ 4 := by decide +kernel
  unfold opRow
  split
  · rename_i hr
    have hlt : op.toNat < opRows.length := by rw [opRows_length]; omega
    rw [List.getD_eq_getElem?_getD, List.getElem?_eq_getElem hlt]
    exact h _ (List.getElem_mem _)
  · decide
theorem opRow_no {op : Int} (h : ¬ (0 ≤ op ∧ op < 48)) : opRow op = noRow := by unfold opRow; rw [if_neg h]

theorem opBalance_walk (a b : Int) (w : World) : Calls Try.prog fn_hollowaylaw6_OpBalance #[.int .i64 a, .int .i64 b] w fun e w' => e = .returned (.bool true) ∧ Chg No w w' := by
  refine (hollowaylaw6_OpBalance_lift (K := fun v w' => v = .bool true ∧ Chg No w w') ?_).mono (by rintro e w' ⟨v, rfl, rfl, h⟩; exact ⟨rfl, h⟩)
  have tr : ∀ {x y z : World}, Chg No x y → Chg No y z → Chg No x z := fun h k => h.trans k (fun _ _ h => h) (fun _ _ h => h)
  unfold hollowaylaw6_OpBalance_sh
  refine (alive6_any w).mono ?_
  rintro e w4 ⟨rfl, h4⟩
  refine ⟨_, rfl, brB_f ?_⟩
  refine (takes_any _ _).mono ?_
  rintro e w7 ⟨rfl, h7⟩
  refine ⟨_, _, rfl, ?_⟩
  refine (gives_any _ _).mono ?_
  rintro e w11 ⟨rfl, h11⟩
  refine ⟨_, _, rfl, ?_⟩
  have hb := opRow_bound a
  have hc := tr (tr h4 h7) h11
  refine ⟨fun c w' => c = false ∧ Chg No w w', ?_, ?_⟩
  · rintro c w17 ⟨rfl, h17⟩
    refine brB_f ⟨fun c w' => c = false ∧ Chg No w w', ?_, ?_⟩
    · rintro c w31 ⟨rfl, h31⟩
      refine brB_f ?_
      refine (right_any _ _).mono ?_
      rintro e w34 ⟨rfl, rfl⟩
      refine ⟨_, rfl, ?_⟩
      have rest : ∀ (x : World), Chg No w x → Calls Try.prog fn_op_Right #[.int .i64 a] x fun e36 w37 => ∃ b38 : Bool, e36 = .returned (.bool b38) ∧ brB b38 (Value.bool true = .bool true ∧ Chg No w w37)
          (Calls Try.prog fn_op_Name #[.int .i64 a] w37 fun e39 w40 => ∃ t41 : ByteArray, e39 = .returned (.string t41) ∧ brB (t41.toList == (bs []).toList)
            (Calls Try.prog fn_op_Plain #[.int .i64 a] w40 fun e42 w43 => ∃ b44 : Bool, e42 = .returned (.bool b44) ∧ brB (!b44)
              (Calls Try.prog fn_op_Arg #[.int .i64 a] w43 fun e45 w46 => ∃ b47 : Bool, e45 = .returned (.bool b47) ∧ (Value.bool (!b47) = .bool true ∧ Chg No w w46)) (Value.bool false = .bool true ∧ Chg No w w43)) (Value.bool false = .bool true ∧ Chg No w w40)) := by
        intro x hx
        refine (right_any _ _).mono ?_
        rintro e w37 ⟨rfl, rfl⟩
        refine ⟨_, rfl, brB_of (fun h => ⟨rfl, hx⟩) (fun h => ?_)⟩
        have h := of_decide_eq_false h
        refine (name_any _ _).mono ?_
        rintro e w40 ⟨rfl, h40⟩
        refine ⟨_, rfl, ?_⟩
        rw [bl_eq, opRow_no h, decide_eq_true (by rfl)]
        refine brB_t ?_
        refine (plain_any _ _).mono ?_
        rintro e w43 ⟨rfl, rfl⟩
        refine ⟨_, rfl, ?_⟩
        have hp : opPlain a = false := by unfold opPlain; apply decide_eq_false; omega
        rw [hp]
        refine brB_t ?_
        refine (arg_any _ _).mono ?_
        rintro e w43 ⟨rfl, rfl⟩
        refine ⟨_, rfl, ?_, tr hx h40⟩
        have hp : opArg a = false := by unfold opArg; apply decide_eq_false; omega
        rw [hp]; rfl
      refine brB_of (fun h => ?_) (fun h => ?_)
      · have h : 0 ≤ a := by simp at h; omega
        have he : (decide (0 ≤ a ∧ a < 48) == decide (a < 48)) = true := by simp [h]
        rw [he]
        exact brB_t (rest _ h31)
      · have h : ¬ 0 ≤ a := by simp at h; omega
        have he : (decide (0 ≤ a ∧ a < 48) == false) = true := by simp [h]
        rw [he]
        exact brB_t (rest _ h31)
    · refine (right_any _ _).mono ?_
      rintro e w20 ⟨rfl, rfl⟩
      refine ⟨_, rfl, brB_of (fun ha => ?_) (fun _ => ⟨rfl, h17⟩)⟩
      refine (right_any _ _).mono ?_
      rintro e w20 ⟨rfl, rfl⟩
      refine ⟨_, rfl, brB_of (fun hb => ?_) (fun _ => ⟨rfl, h17⟩)⟩
      refine brB_of (fun hab => ?_) (fun _ => ⟨rfl, h17⟩)
      have ha := of_decide_eq_true ha
      have hb := of_decide_eq_true hb
      have hab : a ≠ b := by simpa using hab
      refine (name_any _ _).mono ?_
      rintro e w26 ⟨rfl, h26⟩
      refine ⟨_, rfl, ?_⟩
      refine (name_any _ _).mono ?_
      rintro e w29 ⟨rfl, h29⟩
      refine ⟨_, rfl, ?_, tr (tr h17 h26) h29⟩
      rw [bl_eq, opName_row a ha.1 ha.2, opName_row b hb.1 hb.2]
      apply decide_eq_false
      intro h
      have := opName_inj (i := a.toNat) (j := b.toNat) (by omega) (by omega) (by rw [h])
      omega
  · have d : ∀ {p : Prop} [Decidable p], ¬ p → decide p = false := fun h => decide_eq_false h
    rw [d (by omega), d (by omega), d (by omega), d (by omega), d (by omega), d (by omega), d (by omega), d (by omega)]
    refine brB_f (brB_f (brB_f (brB_f (brB_f (brB_f (brB_f (brB_f ?_)))))))
    refine (right_any _ _).mono ?_
    rintro e w15 ⟨rfl, rfl⟩
    refine ⟨_, rfl, brB_of (fun h => ⟨?_, hc⟩) (fun _ => ⟨rfl, hc⟩)⟩
    have h : ¬ (0 ≤ a ∧ a < 48) := by simp at h; omega
    rw [opRow_no h]
    decide +kernel
end Go.Proofs.Ytijoigpggphajaa
