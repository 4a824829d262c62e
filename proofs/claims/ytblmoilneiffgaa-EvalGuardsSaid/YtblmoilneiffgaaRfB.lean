/- The document's own answer to traces (hollowayref15): what is named, which traces may be. -/
import Derived.Test.YtblmoilneiffgaaRfA
import Derived.Test.YtblmoilneiffgaaShHollowayref15
set_option maxRecDepth 100000
namespace Go.Proofs.Ytblmoilneiffgaa
open Go.RowKit

theorem rgives_any (op : Int) (w : World) : Calls Try.prog fn_hollowayref15_Gives #[.int .i64 op] w fun e w' => e = .returned (.bool (givesV op)) ∧ w = w' := by
  refine (hollowayref15_Gives_lift (K := fun r w' => r = .bool (givesV op) ∧ w = w') ?_).mono (by rintro e w' ⟨r, rfl, rfl, h⟩; exact ⟨rfl, h⟩)
  unfold hollowayref15_Gives_sh
  repeat' refine brB_of (fun _ => ?_) (fun _ => ?_)
  all_goals
    refine ⟨?_, rfl⟩
    congr 1
    rw [Bool.eq_iff_iff]; unfold givesV; simp at *; omega
theorem within_any (x m : Int) (w : World) : Calls Try.prog fn_hollowayref15_within #[.int .i64 x, .int .i64 m] w fun e w' => e = .returned (.bool (decide (0 ≤ x ∧ x ≤ m))) ∧ w = w' := by
  refine (hollowayref15_within_lift (K := fun r w' => r = .bool (decide (0 ≤ x ∧ x ≤ m)) ∧ w = w') ?_).mono (by rintro e w' ⟨r, rfl, rfl, h⟩; exact ⟨rfl, h⟩)
  unfold hollowayref15_within_sh
  refine brB_of (fun h => ?_) (fun h => ?_)
  all_goals
    refine ⟨?_, rfl⟩
    congr 1
    rw [Bool.eq_iff_iff]; simp at *; omega
/-- A literal of one number, of two. -/
theorem lit1 {w w' : World} {b : Nat} (x : Int) (hb : b = w.heap.size) (hw : w' = World.alloc w (.cells #[.int .i64 x] T_int)) : Ow intE w' ⟨some ⟨b, 0, none⟩, 1, 1⟩ [x] ∧ Chg No w w' := by
  rw [hw, hb]
  exact ⟨Ow.lit (E := intE) w [x] [.int .i64 x] rfl (by show 1 ≤ maxLen; unfold maxLen; omega), Chg.alloc _ _ _⟩
theorem lit2 {w w' : World} {b : Nat} (x y : Int) (hb : b = w.heap.size) (hw : w' = World.alloc w (.cells #[.int .i64 x, .int .i64 y] T_int)) : Ow intE w' ⟨some ⟨b, 0, none⟩, 2, 2⟩ [x, y] ∧ Chg No w w' := by
  rw [hw, hb]
  exact ⟨Ow.lit (E := intE) w [x, y] [.int .i64 x, .int .i64 y] rfl (by show 2 ≤ maxLen; unfold maxLen; omega), Chg.alloc _ _ _⟩
/-- A list that is new. -/
def NewI (w w' : World) (r : Value) (xs : List Int) : Prop := ∃ s : Sl, r = s.val ∧ Ow intE w' s xs ∧ Chg No w w' ∧ ∀ k, s.blk = some k → w.heap.size ≤ k
theorem NewI.one {w0 w w' : World} {b : Nat} {x : Int} (c : Chg No w0 w) (hb : b = w.heap.size) (hw : w' = World.alloc w (.cells #[.int .i64 x] T_int)) : NewI w0 w' (.slice (some ⟨b, 0, none⟩) 1 1) [x] := by
  obtain ⟨h1, h2⟩ := lit1 x hb hw
  have := c.size
  exact ⟨⟨some ⟨b, 0, none⟩, 1, 1⟩, rfl, h1, trN c h2, fun k hk => by have : b = k := Option.some.inj hk; omega⟩
theorem NewI.two {w0 w w' : World} {b : Nat} {x y : Int} (c : Chg No w0 w) (hb : b = w.heap.size) (hw : w' = World.alloc w (.cells #[.int .i64 x, .int .i64 y] T_int)) : NewI w0 w' (.slice (some ⟨b, 0, none⟩) 2 2) [x, y] := by
  obtain ⟨h1, h2⟩ := lit2 x y hb hw
  have := c.size
  exact ⟨⟨some ⟨b, 0, none⟩, 2, 2⟩, rfl, h1, trN c h2, fun k hk => by have : b = k := Option.some.inj hk; omega⟩
theorem NewI.nil {w w' : World} (c : Chg No w w') : NewI w w' (.slice none 0 0) [] := ⟨nilS, rfl, Ow.nil _ _, c, fun k hk => by cases hk⟩
theorem ruses_any (i : In5) (w : World) : Calls Try.prog fn_hollowayref15_Uses #[.agg (insC i).toArray] w fun e w' => ∃ r, e = .returned r ∧ NewI w w' r (usesV i) := by
  refine (hollowayref15_Uses_lift (K := fun r w' => NewI w w' r (usesV i)) ?_).mono (by rintro e w' ⟨r, rfl, h⟩; exact ⟨r, rfl, h⟩)
  unfold hollowayref15_Uses_sh
  intro b6 w7 hb6 hw7
  have o7 : Ob w7 b6 (insC i) T_api_Ins := by rw [hw7, hb6]; exact Ob.new w (insC i) T_api_Ins
  have c7 := al hw7
  have eqb : ∀ {n : Int}, (i.a == n) = true → i.a = n := fun h => by simpa using h
  have neb : ∀ {n : Int}, (i.a == n) = false → i.a ≠ n := fun h => by simpa using h
  refine ⟨i.a, o7.cell rfl, brB_of (fun h4 => ?_) (fun h4 => ?_)⟩
  · have h4 := eqb h4
    refine ⟨i.b, o7.cell rfl, (risTwo_any i.b w7).mono ?_⟩
    rintro e w11 ⟨rfl, rfl⟩
    refine ⟨_, rfl, brB_of (fun h2 => ?_) (fun h2 => ?_)⟩
    · have hu : usesV i = [i.c, i.d] := by unfold usesV; rw [if_pos h4, if_pos h2]
      rw [hu]
      exact ⟨i.c, o7.cell rfl, i.d, o7.cell rfl, fun b15 w16 hb hw => NewI.two c7 hb hw⟩
    · have hu : usesV i = [i.c] := by unfold usesV; rw [if_pos h4, if_neg (by rw [h2]; decide)]
      rw [hu]
      exact ⟨i.c, o7.cell rfl, fun b15 w16 hb hw => NewI.one c7 hb hw⟩
  · have h4 := neb h4
    refine ⟨fun b w' => b = decide (i.a = 5 ∨ i.a = 7 ∨ i.a = 8 ∨ i.a = 10 ∨ i.a = 11) ∧ w' = w7, ?_, ?_⟩
    · rintro b w20 ⟨rfl, rfl⟩
      refine brB_of (fun h5 => ?_) (fun h5 => ?_)
      · have h5 := of_decide_eq_true h5
        have hu : usesV i = [i.c] := by unfold usesV; rw [if_neg h4, if_pos h5]
        rw [hu]
        exact ⟨i.c, o7.cell rfl, fun b15 w16 hb hw => NewI.one c7 hb hw⟩
      · have h5 := of_decide_eq_false h5
        refine ⟨fun b w' => b = decide (i.a = 6 ∨ i.a = 9) ∧ w' = w20, ?_, ?_⟩
        · rintro b w25 ⟨rfl, rfl⟩
          refine brB_of (fun h6 => ?_) (fun h6 => ?_)
          · have h6 := of_decide_eq_true h6
            have hu : usesV i = [i.c, i.d] := by unfold usesV; rw [if_neg h4, if_neg h5, if_pos h6]
            rw [hu]
            exact ⟨i.c, o7.cell rfl, i.d, o7.cell rfl, fun b15 w16 hb hw => NewI.two c7 hb hw⟩
          · have h6 := of_decide_eq_false h6
            have hu : usesV i = [] := by unfold usesV; rw [if_neg h4, if_neg h5, if_neg h6]
            rw [hu]
            exact NewI.nil c7
        · refine brB_of (fun h => ⟨?_, rfl⟩) (fun h => ⟨?_, rfl⟩)
          all_goals rw [Bool.eq_iff_iff]; simp at *; omega
    · refine brB_of (fun h => ⟨?_, rfl⟩) (fun h => brB_of (fun h => ⟨?_, rfl⟩) (fun h => brB_of (fun h => ⟨?_, rfl⟩) (fun h => brB_of (fun h => ⟨?_, rfl⟩) (fun h => ⟨?_, rfl⟩))))
      all_goals rw [Bool.eq_iff_iff]; simp at *; omega
theorem routs_any (i : In5) (w : World) : Calls Try.prog fn_hollowayref15_Outs #[.agg (insC i).toArray] w fun e w' => ∃ r, e = .returned r ∧ NewI w w' r (outsV i) := by
  refine (hollowayref15_Outs_lift (K := fun r w' => NewI w w' r (outsV i)) ?_).mono (by rintro e w' ⟨r, rfl, h⟩; exact ⟨r, rfl, h⟩)
  unfold hollowayref15_Outs_sh
  intro b6 w7 hb6 hw7
  have o7 : Ob w7 b6 (insC i) T_api_Ins := by rw [hw7, hb6]; exact Ob.new w (insC i) T_api_Ins
  have c7 := al hw7
  have eqb : ∀ {n : Int}, (i.a == n) = true → i.a = n := fun h => by simpa using h
  have neb : ∀ {n : Int}, (i.a == n) = false → i.a ≠ n := fun h => by simpa using h
  refine ⟨i.a, o7.cell rfl, brB_of (fun h4 => ?_) (fun h4 => ?_)⟩
  · have h4 := eqb h4
    refine ⟨fun b w' => b = decide (i.b = 14 ∨ i.b = 15) ∧ w' = w7, ?_, ?_⟩
    · rintro b w11 ⟨rfl, rfl⟩
      refine brB_of (fun h5 => ?_) (fun h5 => ?_)
      · have h5 := of_decide_eq_true h5
        have hu : outsV i = [i.e] := by unfold outsV; rw [if_pos h4, if_pos h5]
        rw [hu]
        exact ⟨i.e, o7.cell rfl, fun b15 w16 hb hw => NewI.one c7 hb hw⟩
      · have h5 := of_decide_eq_false h5
        have hu : outsV i = [] := by unfold outsV; rw [if_pos h4, if_neg h5]
        rw [hu]
        exact NewI.nil c7
    · refine ⟨i.b, o7.cell rfl, brB_of (fun h => ⟨?_, rfl⟩) (fun h => ⟨i.b, o7.cell rfl, ?_, rfl⟩)⟩
      all_goals rw [Bool.eq_iff_iff]; simp at *; omega
  · have h4 := neb h4
    refine ⟨fun b w' => b = decide (i.a = 5 ∨ i.a = 7 ∨ i.a = 8 ∨ i.a = 9 ∨ i.a = 10 ∨ i.a = 11) ∧ w' = w7, ?_, ?_⟩
    · rintro b w20 ⟨rfl, rfl⟩
      refine brB_of (fun h5 => ?_) (fun h5 => ?_)
      · have h5 := of_decide_eq_true h5
        have hu : outsV i = [i.e] := by unfold outsV; rw [if_neg h4, if_pos h5]
        rw [hu]
        exact ⟨i.e, o7.cell rfl, fun b15 w16 hb hw => NewI.one c7 hb hw⟩
      · have h5 := of_decide_eq_false h5
        refine brB_of (fun h6 => ?_) (fun h6 => ?_)
        · have hu : outsV i = [i.e, i.b] := by unfold outsV; rw [if_neg h4, if_neg h5, if_pos (eqb h6)]
          rw [hu]
          exact ⟨i.e, o7.cell rfl, i.b, o7.cell rfl, fun b15 w16 hb hw => NewI.two c7 hb hw⟩
        · have hu : outsV i = [] := by unfold outsV; rw [if_neg h4, if_neg h5, if_neg (neb h6)]
          rw [hu]
          exact NewI.nil c7
    · refine brB_of (fun h => ⟨?_, rfl⟩) (fun h => brB_of (fun h => ⟨?_, rfl⟩) (fun h => brB_of (fun h => ⟨?_, rfl⟩) (fun h => brB_of (fun h => ⟨?_, rfl⟩) (fun h => brB_of (fun h => ⟨?_, rfl⟩) (fun h => ⟨?_, rfl⟩)))))
      all_goals rw [Bool.eq_iff_iff]; simp at *; omega
theorem insAt_get {t : TrG} {k : Nat} {i : In5} (h : t.ins[k]? = some i) : insAt t (k : Int) = i := by
  unfold insAt; rw [List.getD_eq_getElem?_getD, Int.toNat_natCast, h]; rfl
theorem insAt_ix {t : TrG} {p : Int} (h0 : 0 ≤ p) (h1 : p < t.ins.length) : t.ins[p.toNat]? = some (insAt t p) := by
  unfold insAt; rw [List.getD_eq_getElem?_getD, List.getElem?_eq_getElem (by omega)]; rfl
theorem outAt_ix {t : TrG} {p : Int} (h0 : 0 ≤ p) (h1 : p < t.outs.length) : t.outs[p.toNat]? = some (outAt t p) := by
  unfold outAt; rw [List.getD_eq_getElem?_getD, List.getElem?_eq_getElem (by omega)]; rfl
theorem rnamed_any {D : Nat → Prop} {w : World} (t : TrP) {v : TrG} (ht : TrIs D w t v) {l : Sl} {xs : List Int} (hl : Rd intE w l xs) {k : Nat} (hk : k ≤ v.ins.length) :
    Calls Try.prog fn_hollowayref15_named #[.agg (trP t).toArray, l.val, .int .i64 (k : Int)] w fun e w' => ∃ b : Bool, e = .returned (.bool b) ∧ (b = true ↔ NamedV v xs k) ∧ Chg No w w' := by
  refine (hollowayref15_named_lift (K := fun r w' => ∃ b : Bool, r = .bool b ∧ (b = true ↔ NamedV v xs k) ∧ Chg No w w') ?_).mono (by rintro e w' ⟨r, rfl, b, rfl, h⟩; exact ⟨b, rfl, h⟩)
  unfold hollowayref15_named_sh
  intro b12 w13 hb12 hw13
  have o13 : Ob w13 b12 (trP t) T_api_Trace := by rw [hw13, hb12]; exact Ob.new w (trP t) T_api_Trace
  have c13 := al hw13
  have hll := hl.len
  have hcap := hl.capL
  have hil := ht.ins.len
  refine ⟨fun n w' => ∃ j : Nat, n = j ∧ j ≤ xs.length ∧ NamedV v (xs.take j) k ∧ Chg No w13 w', fun n _ => xs.length - n.toNat, ⟨0, rfl, Nat.zero_le _, (fun p hp => by simp at hp), Chg.refl _ _⟩, ?_⟩
  rintro n w14 ⟨j, rfl, hj, hn, c14⟩
  refine brB_of (fun hlt => ?_) (fun hlt => ?_)
  · have hlt : j < xs.length := by simp at hlt; omega
    obtain ⟨x, hx⟩ : ∃ x, xs[j]? = some x := ⟨_, List.getElem?_eq_getElem hlt⟩
    have k14 := trN c13 c14
    refine ⟨fun b w' => (b = false ↔ (0 ≤ x ∧ x < k ∧ givesV (insAt v x).a = true)) ∧ Chg No w14 w', ?_, ?_⟩
    · rintro b w29 ⟨hb, c29⟩
      refine brB_of (fun ht' => ?_) (fun hf => ?_)
      · refine ⟨false, rfl, ⟨(fun h => by cases h), fun h => ?_⟩, trN k14 c29⟩
        have := hb.2 (h x (List.mem_of_getElem? hx))
        rw [this] at ht'; cases ht'
      · rw [wr_in (by omega)]
        refine ⟨⟨j + 1, by omega, by omega, fun p hp => ?_, trN c14 c29⟩, by show xs.length - Int.toNat ((j : Int) + 1) < xs.length - Int.toNat (j : Int); omega⟩
        rw [List.take_add_one, hx] at hp
        rcases List.mem_append.1 hp with hp | hp
        · exact hn p hp
        · have : p = x := by simpa using hp
          rw [this]; exact hb.1 hf
    · intro w16 hw16
      have c16 := dw hw16
      have k16 := trN k14 c16
      have hl16 := hl.no k16
      have o16 := (o13.no c14).no c16
      have ix : ∀ {G : Addr → Prop}, (∀ a, held (Lw w16) (Addr.add a (Int.toNat (j : Int) * 1)) (.int .i64 x) → G a) → ∃ a : Addr, l.ptr = some a ∧ 0 ≤ (j : Int) ∧ (j : Int) < (l.len : Int) ∧ G a := fun kk =>
        hl16.ix (i := (j : Int)) (by omega) (by rw [Int.toNat_natCast]; exact hx) fun a _ hcell => kk a (by
          have q := hcell 0 _ rfl
          rw [add0] at q; exact held_Lw q)
      refine ix fun a q1 => ⟨x, q1, brB_of (fun h0 => ?_) (fun h0 => ?_)⟩
      · have h0 := of_decide_eq_true h0
        exact ⟨⟨(fun h => by cases h), fun h => by omega⟩, c16⟩
      have h0 := of_decide_eq_false h0
      refine ix fun a q1 => ⟨x, q1, brB_of (fun h1 => ?_) (fun h1 => ?_)⟩
      · have h1 := of_decide_eq_true h1
        exact ⟨⟨(fun h => by cases h), fun h => by omega⟩, c16⟩
      have h1 := of_decide_eq_false h1
      refine ⟨t.ins, held_Lw (o16.cell rfl), ix fun a q1 => ⟨x, q1, ?_⟩⟩
      refine (ht.ins.no k16).ix (i := x) (by omega) (insAt_ix (by omega) (by omega)) fun a' _ hcell' => ?_
      have q2 := hcell' 0 _ rfl
      rw [add0] at q2
      refine ⟨_, held_Lw q2, (rgives_any _ _).mono ?_⟩
      rintro e w27 ⟨rfl, rfl⟩
      refine ⟨_, rfl, ⟨fun h => ⟨by omega, by omega, by simpa using h⟩, fun h => by rw [h.2.2]; rfl⟩, c16⟩
  · have hlt : j = xs.length := by simp at hlt; omega
    subst hlt
    rw [List.take_length] at hn
    exact ⟨true, rfl, ⟨fun _ => hn, fun _ => rfl⟩, trN c13 c14⟩
theorem rout_any {D : Nat → Prop} {w : World} (t : TrP) {v : TrG} (ht : TrIs D w t v) (x : Int) {k : Nat} (hk : k ≤ v.ins.length) :
    Calls Try.prog fn_hollowayref15_out #[.agg (trP t).toArray, .int .i64 x, .int .i64 (k : Int)] w fun e w' => ∃ b : Bool, e = .returned (.bool b) ∧ (b = true ↔ OutV v x k) ∧ Chg No w w' := by
  refine (hollowayref15_out_lift (K := fun r w' => ∃ b : Bool, r = .bool b ∧ (b = true ↔ OutV v x k) ∧ Chg No w w') ?_).mono (by rintro e w' ⟨r, rfl, b, rfl, h⟩; exact ⟨b, rfl, h⟩)
  unfold hollowayref15_out_sh
  intro b12 w13 hb12 hw13 w14 hw14
  have o13 : Ob w13 b12 (trP t) T_api_Trace := by rw [hw13, hb12]; exact Ob.new w (trP t) T_api_Trace
  have c13 := al hw13
  have c14 := dw hw14
  have o14 := o13.no c14
  have k14 := trN c13 c14
  have hd : ∀ {j : Nat} {u : Value}, (trP t)[j]? = some u → held (fun w' => Chg No w14 w') ⟨b12, j, none⟩ u := fun h => Ob.held (fun w' c => o14.no c) h
  obtain ⟨os, hos, hov⟩ := ht.outs
  have hol := hos.len
  have hovl := hov.1
  refine ⟨fun w' => Chg No w14 w', Chg.refl _ _, brB_of (fun h0 => ?_) (fun h0 => ⟨false, rfl, ⟨(fun h => by cases h), fun h => ?_⟩, k14⟩)⟩
  rotate_left
  · have h0 := of_decide_eq_false h0
    exact absurd h.1 h0
  have h0 := of_decide_eq_true h0
  refine ⟨t.outs, hd rfl, brB_of (fun h1 => ?_) (fun h1 => ⟨false, rfl, ⟨(fun h => by cases h), fun h => ?_⟩, k14⟩)⟩
  rotate_left
  · have h1 := of_decide_eq_false h1
    have := h.2.1
    omega
  have h1 := of_decide_eq_true h1
  have hxl : x < v.outs.length := by omega
  obtain ⟨o, ho⟩ : ∃ o, os[x.toNat]? = some o := ⟨_, List.getElem?_eq_getElem (by omega)⟩
  obtain ⟨_, _, u3, u4, _, _⟩ := hov.2 _ _ _ ho (outAt_ix h0 hxl)
  have ix : ∀ {j : Nat} {u : Value} {G : Addr → Prop}, (ouC o)[j]? = some u → (∀ a, held (fun w' => Chg No w14 w') (Addr.add (Addr.add a (Int.toNat x * 4)) j) u → G a) → ∃ a : Addr, t.outs.ptr = some a ∧ 0 ≤ x ∧ x < (t.outs.len : Int) ∧ G a := fun hj kk =>
    (hos.no k14).ix h0 ho fun a ha hcell => kk a fun w' c => by
      obtain ⟨a2, ha2, hc2⟩ := ((hos.no k14).no c).at ho
      rw [ha] at ha2; cases ha2
      exact hc2 _ _ hj
  refine ⟨_, _, _, _, _, _, _, _, _, hd rfl, hd rfl, hd rfl, hd rfl, hd rfl, hd rfl, hd rfl, hd rfl, hd rfl, t.outs, hd rfl, ix (j := 2) rfl fun a q => ⟨o.stack, q, ?_⟩⟩
  refine (rnamed_any t (ht.no k14) (u3.no k14) hk).mono ?_
  rintro e w30 ⟨b, rfl, hb, c30⟩
  refine ⟨b, rfl, c30, brB_of (fun hbt => ?_) (fun hbf => ⟨false, rfl, ⟨fun h => (by cases h), fun h => ?_⟩, trN k14 c30⟩)⟩
  rotate_left
  · have := hb.2 h.2.2.1
    rw [this] at hbf; cases hbf
  refine ⟨_, _, _, _, _, _, _, _, _, hd rfl, hd rfl, hd rfl, hd rfl, hd rfl, hd rfl, hd rfl, hd rfl, hd rfl, t.outs, hd rfl, ix (j := 3) rfl fun a q => ⟨o.back, q, ?_⟩⟩
  refine (rnamed_any t (ht.no (trN k14 c30)) (u4.no (trN k14 c30)) hk).mono ?_
  rintro e w45 ⟨b2, rfl, hb2, c45⟩
  exact ⟨b2, rfl, b2, rfl, ⟨fun h => ⟨h0, hxl, hb.1 hbt, hb2.1 h⟩, fun h => hb2.2 h.2.2.2⟩, trN (trN k14 c30) c45⟩
theorem rmay_any {D D' : Nat → Prop} {w : World} (t : TrP) (S : StC) {v : TrG} {s : StV} (ht : TrIs D w t v) (h : StIs D' w S s) (h1 : 0 ≤ v.grow ∧ v.grow ≤ 1000000) (h2 : 0 ≤ v.growBack ∧ v.growBack ≤ 1000000) (h3 : s.stack.length ≤ 1000000) (h4 : s.back.length ≤ 1000000) :
    Calls Try.prog fn_hollowayref15_May #[.agg (trP t).toArray, .agg (stC S).toArray] w fun e w' => e = .returned (.bool (mayV v s)) ∧ Chg No w w' := by
  refine (hollowayref15_May_lift (K := fun r w' => r = .bool (mayV v s) ∧ Chg No w w') ?_).mono (by rintro e w' ⟨r, rfl, rfl, h⟩; exact ⟨rfl, h⟩)
  unfold hollowayref15_May_sh
  intro b20 w21 hb20 hw21 b22 w23 hb22 hw23
  have o21 : Ob w21 b20 (trP t) T_api_Trace := by rw [hw21, hb20]; exact Ob.new w (trP t) T_api_Trace
  have o22 : Ob w23 b22 (stC S) T_api_State := by rw [hw23, hb22]; exact Ob.new w21 (stC S) T_api_State
  have o23 := o21.no (al hw23)
  have c23 := trN (al hw21) (al hw23)
  obtain ⟨n1, n2, n3, n4, n5, n6⟩ := ht.nums
  obtain ⟨m1, m2, m3, m4, m5, m6, m7⟩ := h.nums
  have l1 := h.st.len
  have l2 := h.bk.len
  have no : ¬ (s.status = 0 ∧ s.ip = v.start ∧ v.slots ≤ s.stack.length ∧ (s.stack.length : Int) + v.grow ≤ 48 ∧ v.backs ≤ s.back.length ∧ (s.back.length : Int) + v.growBack ≤ 48) → Value.bool false = .bool (mayV v s) := fun hh => by rw [show mayV v s = false from decide_eq_false hh]
  refine ⟨S.status, o22.cell rfl, brB_of (fun hb1 => ?_) (fun hb1 => ⟨no fun hh => ?_, c23⟩)⟩
  rotate_left
  · have : S.status ≠ 0 := by simpa using hb1
    omega
  have hb1 : S.status = 0 := by simpa using hb1
  refine ⟨S.ip, o22.cell rfl, t.start, o23.cell rfl, brB_of (fun hb2 => ?_) (fun hb2 => ⟨no fun hh => ?_, c23⟩)⟩
  rotate_left
  · have : S.ip ≠ t.start := by simpa using hb2
    omega
  have hb2 : S.ip = t.start := by simpa using hb2
  refine ⟨S.stack, o22.cell rfl, t.slots, o23.cell rfl, brB_of (fun hb3 => ?_) (fun hb3 => ⟨no fun hh => ?_, c23⟩)⟩
  rotate_left
  · have := of_decide_eq_false hb3
    omega
  have hb3 := of_decide_eq_true hb3
  refine ⟨S.stack, o22.cell rfl, t.grow, o23.cell rfl, ?_⟩
  rw [wr_in (x := (S.stack.len : Int) + t.grow) (by omega)]
  refine brB_of (fun hb4 => ?_) (fun hb4 => ⟨no fun hh => ?_, c23⟩)
  rotate_left
  · have := of_decide_eq_false hb4
    omega
  have hb4 := of_decide_eq_true hb4
  refine ⟨S.back, o22.cell rfl, t.backs, o23.cell rfl, brB_of (fun hb5 => ?_) (fun hb5 => ⟨no fun hh => ?_, c23⟩)⟩
  rotate_left
  · have := of_decide_eq_false hb5
    omega
  have hb5 := of_decide_eq_true hb5
  refine ⟨S.back, o22.cell rfl, t.growBack, o23.cell rfl, ?_, c23⟩
  rw [wr_in (x := (S.back.len : Int) + t.growBack) (by omega)]
  congr 1
  unfold mayV
  rw [Bool.eq_iff_iff]; simp; omega
end Go.Proofs.Ytblmoilneiffgaa
