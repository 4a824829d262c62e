/- Lists of recorded steps, held against each other; which recordings may be; the first call of chapter 13's statements; RecordMost. -/
import Derived.Test.YtkjpmkopnkkbmaaGreatDoorRcB
import Derived.Test.YtkjpmkopnkkbmaaGreatDoorLenE
import Derived.Test.YtkjpmkopnkkbmaaGreatDoorShHollowaylaw13
set_option maxRecDepth 100000
namespace Go.Proofs.YtkjpmkopnkkbmaaGreatDoor
open Go.RowKit

theorem sn_eql (x y : SnV) (a b : Operand) (w : World) : ((do eqGuard .eql T_api_Seen a b (.agg (seC x).toArray) (.agg (seC y).toArray); binOp .eql T_api_Seen (.agg (seC x).toArray) (.agg (seC y).toArray) : Sem Value)).run Tryz.prog w = .ok (.bool (decide (x.ip = y.ip ∧ x.cell = y.cell ∧ x.arg = y.arg ∧ x.next = y.next))) w := by
  have u1 := Tryz.underlying3
  have hS : Tryz.prog.underlying T_api_Seen = some (.struct (Tryz.prog.fieldsOf T_api_Seen)) := by kernel_rfl
  have hp : Tryz.prog.stoodInHeld T_api_Seen = false := by kernel_rfl
  have hm : Tryz.prog.eqGuardType Tryz.prog.depth T_api_Seen = false := by kernel_rfl
  simp only [seC, Sem.run_bind, run_eqGuard_agg w .eql T_api_Seen a b _ _ hm, Result.andThen_ok, run_eql_struct]
  rw [show (10000 : Nat) = 9999 + 1 from rfl, run_equalIn_agg w 9999 T_api_Seen _ _ hS hp]
  simp only [Program.fieldsOf, Tryz.underlying52]
  go_simp
  by_cases g1 : x.ip = y.ip <;> by_cases g2 : x.cell = y.cell <;> by_cases g3 : x.arg = y.arg <;> by_cases g4 : x.next = y.next <;> simp [g1, g2, g3, g4]
theorem sameSeens_ok : SameOk Tryz.prog seE fn_hollowaybook_SameSeens := by
  intro s t xs w hs ht
  refine (hollowaybook_SameSeens_lift (K := fun r w' => r = .bool true ∧ Chg No w w') ?_).mono (by rintro e w' ⟨r, rfl, rfl, h⟩; exact ⟨rfl, h⟩)
  unfold hollowaybook_SameSeens_sh
  have h1 := hs.len
  have h2 := ht.len
  have hc := hs.capL
  have e1 : ((s.len : Int) != (t.len : Int)) = false := by rw [h1, h2]; simp
  rw [e1]
  refine brB_f ?_
  refine ⟨fun n w' => ∃ k : Nat, n = k ∧ k ≤ xs.length ∧ Chg No w w', fun n _ => xs.length - n.toNat, ⟨0, rfl, Nat.zero_le _, Chg.refl _ _⟩, ?_⟩
  rintro n w3 ⟨k, rfl, hk, hch⟩
  refine brB_of (fun hlt => ?_) (fun hlt => ⟨rfl, hch⟩)
  have hlt : k < xs.length := by simp at hlt; omega
  intro w5 hw5
  have c5 : Chg No w w5 := hch.trans (by rw [hw5]; exact Chg.drew No _) (fun _ _ h => h) (fun _ _ h => h)
  obtain ⟨x, hx⟩ : ∃ x, xs[k]? = some x := ⟨_, List.getElem?_eq_getElem hlt⟩
  refine (hs.no c5).ix (i := (k : Int)) (by omega) (by rw [Int.toNat_natCast]; exact hx) fun a ha hcell => ?_
  have q1 := hcell 0 _ rfl
  rw [add0] at q1
  refine ⟨_, _, _, _, held_Lw q1, held_Lw (hcell 1 _ rfl), held_Lw (hcell 2 _ rfl), held_Lw (hcell 3 _ rfl), ?_⟩
  refine (ht.no c5).ix (i := (k : Int)) (by omega) (by rw [Int.toNat_natCast]; exact hx) fun a' ha' hcell' => ?_
  have q2 := hcell' 0 _ rfl
  rw [add0] at q2
  refine ⟨_, _, _, _, held_Lw q2, held_Lw (hcell' 1 _ rfl), held_Lw (hcell' 2 _ rfl), held_Lw (hcell' 3 _ rfl), ?_⟩
  refine ⟨_, _, sn_eql x x _ _ _, ?_⟩
  rw [show (!decide (x.ip = x.ip ∧ x.cell = x.cell ∧ x.arg = x.arg ∧ x.next = x.next)) = false by simp]
  refine brB_f ?_
  rw [wr_of (by omega) (by omega)]
  exact ⟨⟨k + 1, by omega, by omega, c5⟩, by show xs.length - Int.toNat ((k : Int) + 1) < xs.length - Int.toNat (k : Int); omega⟩
/-! ### Which recordings may be -/
theorem single_rc (x : SnV) (hx : Cn.In x.ip) (w : World) : Calls Tryz.prog fn_record_single #[.agg (seC x).toArray] w fun e w' => e = .returned (.bool (singleB x)) ∧ Chg No w w' := by
  refine (record_single_lift (K := fun v w' => v = .bool (singleB x) ∧ Chg No w w') ?_).mono (by rintro e w' ⟨v, rfl, rfl, h⟩; exact ⟨rfl, h⟩)
  unfold record_single_sh
  intro b5 w6 hb5 hw6
  have c6 := al hw6
  have o6 : Ob w6 b5 (seC x) T_api_Seen := by rw [hw6, hb5]; exact Ob.new w (seC x) T_api_Seen
  obtain ⟨la, hla⟩ : ∃ la, la = (if arB x.cell = true then wr (x.ip + 1) else x.ip) := ⟨_, rfl⟩
  have hpl : placeB x.ip = true → la = (if arB x.cell = true then x.ip + 1 else x.ip) := fun hp => by
    unfold placeB at hp
    rw [hla]
    split
    · rw [wr_in]
      have h1 : 0 ≤ x.ip ∧ x.ip < 3000 := by simpa using hp
      omega
    · rfl
  have fin : singleB x = (plB x.cell && ((arB x.cell || decide (x.arg = 0)) && (placeB x.ip && (placeB la && placeB x.next)))) := by
    unfold singleB
    cases hp : placeB x.ip with
    | false => simp
    | true => rw [hpl hp]
  refine ⟨x.ip, o6.cell rfl, fun n w' => n = la ∧ w' = w6, ?_, x.cell, o6.cell rfl, ?_⟩
  · rintro n w13 ⟨rfl, rfl⟩
    refine ⟨x.cell, o6.cell rfl, (plain_rc _ w13).mono ?_⟩
    rintro e w16 ⟨rfl, rfl⟩
    refine ⟨_, rfl, brB_of (fun hp => ?_) (fun hp => ?_)⟩
    rotate_left
    · exact ⟨by rw [fin, hp]; rfl, c6⟩
    refine ⟨x.cell, o6.cell rfl, (arg_rc _ w13).mono ?_⟩
    rintro e w20 ⟨rfl, rfl⟩
    have tail : (arB x.cell || decide (x.arg = 0)) = true → ∃ n22 : Int, w13.cell? ⟨b5, 0, none⟩ = some (.int .i64 n22) ∧ Calls Tryz.prog fn_record_place #[.int .i64 n22] w13 fun e23 w24 => ∃ b25 : Bool, e23 = .returned (.bool b25) ∧
        brB b25 (Calls Tryz.prog fn_record_place #[.int .i64 n] w24 fun e27 w28 => ∃ b29 : Bool, e27 = .returned (.bool b29) ∧
        brB b29 (∃ n30 : Int, w28.cell? ⟨b5, 3, none⟩ = some (.int .i64 n30) ∧ Calls Tryz.prog fn_record_place #[.int .i64 n30] w28 fun e31 w32 => ∃ b33 : Bool, e31 = .returned (.bool b33) ∧
        (Value.bool b33 = .bool (singleB x) ∧ Chg No w w32)) (Value.bool false = .bool (singleB x) ∧ Chg No w w28)) (Value.bool false = .bool (singleB x) ∧ Chg No w w24) := fun ha => by
      refine ⟨x.ip, o6.cell rfl, (place_rc _ w13).mono ?_⟩
      rintro e w24 ⟨rfl, rfl⟩
      refine ⟨_, rfl, brB_of (fun h1 => ?_) (fun h1 => ⟨by rw [fin, hp, ha, h1]; rfl, c6⟩)⟩
      refine (place_rc _ w13).mono ?_
      rintro e w28 ⟨rfl, rfl⟩
      refine ⟨_, rfl, brB_of (fun h2 => ?_) (fun h2 => ⟨by rw [fin, hp, ha, h1, h2]; rfl, c6⟩)⟩
      refine ⟨x.next, o6.cell rfl, (place_rc _ w13).mono ?_⟩
      rintro e w32 ⟨rfl, rfl⟩
      exact ⟨_, rfl, by rw [fin, hp, ha, h1, h2]; rfl, c6⟩
    refine ⟨_, rfl, brB_of (fun ha => tail (by rw [ha]; rfl)) (fun ha => ⟨x.arg, o6.cell rfl, brB_of (fun h0 => tail ?_) (fun h0 => ⟨?_, c6⟩)⟩)⟩
    · have h0 : x.arg = 0 := by simpa using h0
      rw [decide_eq_true h0]; simp
    · have h0 : x.arg ≠ 0 := by simpa using h0
      rw [fin, hp, ha, decide_eq_false h0]; rfl
  · refine (arg_rc _ w6).mono ?_
    rintro e w10 ⟨rfl, rfl⟩
    refine ⟨_, rfl, brB_of (fun ha => ⟨x.ip, o6.cell rfl, by rw [hla, if_pos ha], rfl⟩) (fun ha => ⟨by rw [hla, if_neg (by rw [ha]; decide)], rfl⟩)⟩
theorem right_rc {D : Nat → Prop} {w : World} (R : RcC) {r : RcV} (hnum : R.start = r.start ∧ R.fin = r.fin ∧ R.loop = r.loop) (hst : Rd seE w R.steps r.steps) (hin : ∀ x ∈ r.steps, Cn.In x.ip) :
    Calls Tryz.prog fn_record_Right #[.agg (rcC R).toArray] w fun e w' => e = .returned (.bool (rightR r)) ∧ Chg No w w' := by
  refine (record_Right_lift (K := fun v w' => v = .bool (rightR r) ∧ Chg No w w') ?_).mono (by rintro e w' ⟨v, rfl, rfl, h⟩; exact ⟨rfl, h⟩)
  unfold record_Right_sh
  obtain ⟨m1, m2, m3⟩ := hnum
  have hl := hst.len
  refine inRc R fun b5 w6 hb5 z6 o6 c6 => ⟨R.start, o6.cell rfl, ?_⟩
  obtain ⟨bad, hbad⟩ : ∃ bad : Prop, bad = (120 < r.steps.length ∨ r.loop ≠ (decide (0 < r.steps.length) && decide (r.fin = r.start))) := ⟨_, rfl⟩
  have hf : bad → rightR r = false := fun hb => by
    rw [hbad] at hb
    unfold rightR
    by_cases h1 : 120 < r.steps.length
    · rw [if_pos h1]
    · rw [if_neg h1]
      rcases hb with hb | hb
      · exact absurd hb h1
      · rw [if_pos hb]
  refine ⟨fun b w' => (b = true → bad) ∧ (b = false → ¬ bad) ∧ w' = w6, ?_, R.steps, o6.cell rfl, ?_⟩
  rotate_left
  · refine brB_of (fun h1 => ?_) (fun h1 => ⟨R.loop, o6.cell rfl, R.steps, o6.cell rfl, brB_of (fun h2 => ⟨R.fin, o6.cell rfl, R.start, o6.cell rfl, ?_⟩) (fun h2 => ?_)⟩)
    · have h1 := of_decide_eq_true h1
      exact ⟨fun _ => by rw [hbad]; left; omega, (fun h => by cases h), rfl⟩
    · have h1 := of_decide_eq_false h1
      have h2 := of_decide_eq_true h2
      have e : (!(R.loop == (R.fin == R.start))) = true ↔ r.loop ≠ (decide (0 < r.steps.length) && decide (r.fin = r.start)) := by
        rw [m1, m2, m3, decide_eq_true (show 0 < r.steps.length by omega)]
        show (!(r.loop == decide (r.fin = r.start))) = true ↔ r.loop ≠ (true && decide (r.fin = r.start))
        cases r.loop <;> cases decide (r.fin = r.start) <;> simp
      refine ⟨fun h => by rw [hbad]; exact Or.inr (e.1 h), fun h hb => ?_, rfl⟩
      rw [hbad] at hb
      rcases hb with hb | hb
      · omega
      · rw [e.2 hb] at h; cases h
    · have h1 := of_decide_eq_false h1
      have h2 := of_decide_eq_false h2
      have e : (!(R.loop == false)) = true ↔ r.loop ≠ (decide (0 < r.steps.length) && decide (r.fin = r.start)) := by
        rw [m3, decide_eq_false (show ¬ 0 < r.steps.length by omega)]
        cases r.loop <;> simp
      refine ⟨fun h => by rw [hbad]; exact Or.inr (e.1 h), fun h hb => ?_, rfl⟩
      rw [hbad] at hb
      rcases hb with hb | hb
      · omega
      · rw [e.2 hb] at h; cases h
  rintro b w13 ⟨hb1, hb2, rfl⟩
  refine brB_of (fun hb => ⟨by rw [hf (hb1 hb)], c6⟩) (fun hb => ⟨R.steps, o6.cell rfl, ?_⟩)
  have hgood := hb2 hb
  rw [hbad] at hgood
  have h120 : r.steps.length ≤ 120 := by
    rcases Nat.lt_or_ge 120 r.steps.length with h | h
    · exact absurd (Or.inl h) hgood
    · exact h
  have hrr : rightR r = match rightL r.start r.start false r.steps with
      | none => false
      | some a => decide (a = r.fin) := by
    unfold rightR; rw [if_neg (by omega), if_neg (fun h => hgood (Or.inr h))]
    all_goals (cases rightL r.start r.start false r.steps <;> rfl)
  rw [m1]
  refine ⟨fun a n w' => ∃ j : Nat, n = j ∧ j ≤ r.steps.length ∧ rightL r.start r.start false r.steps = rightL r.start a (decide (0 < j)) (r.steps.drop j) ∧ Chg No w13 w', fun _ n _ => r.steps.length - n.toNat, ⟨0, rfl, Nat.zero_le _, rfl, Chg.refl _ _⟩, ?_⟩
  rintro a n w16 ⟨j, rfl, hj, hrl, c16⟩
  have k16 := trN c6 c16
  refine brB_of (fun hlt => ?_) (fun hge => ?_)
  · have hlt : j < r.steps.length := by have := of_decide_eq_true hlt; omega
    obtain ⟨x, hx⟩ : ∃ x, r.steps[j]? = some x := ⟨_, List.getElem?_eq_getElem hlt⟩
    have hxj : r.steps[j] = x := by rw [List.getElem?_eq_getElem hlt] at hx; exact Option.some.inj hx
    refine (hst.no k16).ix (i := (j : Int)) (by omega) (by rw [Int.toNat_natCast]; exact hx) fun ad _ hcell => ?_
    have q0 := hcell 0 _ rfl
    rw [add0] at q0
    refine ⟨x.ip, x.cell, x.arg, x.next, q0, hcell 1 _ rfl, hcell 2 _ rfl, hcell 3 _ rfl, varSn x fun b23 w25 hb23 z25 o23 c25 => ?_⟩
    obtain ⟨bd, hbd⟩ : ∃ bd : Prop, bd = (singleB x = false ∨ x.ip ≠ a ∨ (decide (0 < j) = true ∧ x.ip = r.start)) := ⟨_, rfl⟩
    have hstep : rightL r.start a (decide (0 < j)) (r.steps.drop j) = if singleB x = false ∨ x.ip ≠ a ∨ (decide (0 < j) = true ∧ x.ip = r.start) then none else rightL r.start x.next true (r.steps.drop (j + 1)) := by
      rw [List.drop_eq_getElem_cons hlt, hxj]; rfl
    refine ⟨fun b w' => (b = true → bd) ∧ (b = false → ¬ bd) ∧ Chg No w25 w', ?_, ?_⟩
    · rintro b w37 ⟨hd1, hd2, c37⟩
      have k37 := trN (trN k16 c25) c37
      refine brB_of (fun hb => ⟨?_, k37⟩) (fun hb => ⟨x.next, (o23.no c37).cell rfl, ?_⟩)
      · have := hd1 hb
        rw [hbd] at this
        rw [hrr, hrl, hstep, if_pos this]
      · have := hd2 hb
        rw [hbd] at this
        rw [wr_in (by omega)]
        refine ⟨⟨j + 1, by omega, by omega, ?_, trN (trN c16 c25) c37⟩, by show r.steps.length - Int.toNat ((j : Int) + 1) < r.steps.length - Int.toNat (j : Int); omega⟩
        rw [hrl, hstep, if_neg this, decide_eq_true (by omega)]
    · refine rdSn o23 ((single_rc x (hin x (by rw [← hxj]; exact List.getElem_mem hlt)) w25).mono ?_)
      rintro e w31 ⟨rfl, c31⟩
      have p23 := o23.no c31
      refine ⟨_, rfl, brB_of (fun h1 => ?_) (fun h1 => ⟨x.ip, p23.cell rfl, brB_of (fun h2 => ?_) (fun h2 => brB_of (fun h3 => ⟨x.ip, p23.cell rfl, R.start, (((o6.no c16).no c25).no c31).cell rfl, ?_⟩) (fun h3 => ?_))⟩)⟩
      · exact ⟨fun _ => by rw [hbd]; exact Or.inl (by simpa using h1), (fun h => by cases h), c31⟩
      · have h2 : x.ip ≠ a := by simpa using h2
        exact ⟨fun _ => by rw [hbd]; exact Or.inr (Or.inl h2), (fun h => by cases h), c31⟩
      · have h1 : singleB x = true := by simpa using h1
        have h2 : x.ip = a := by simpa using h2
        have h3 : 0 < j := by have := of_decide_eq_true h3; omega
        rw [m1]
        refine ⟨fun h => by rw [hbd]; exact Or.inr (Or.inr ⟨decide_eq_true h3, by simpa using h⟩), fun h hb => ?_, c31⟩
        rw [hbd] at hb
        rcases hb with hb | hb | ⟨_, hb⟩
        · rw [h1] at hb; cases hb
        · exact hb h2
        · rw [hb] at h; simp at h
      · have h1 : singleB x = true := by simpa using h1
        have h2 : x.ip = a := by simpa using h2
        have h3 : ¬ 0 < j := by have := of_decide_eq_false h3; omega
        refine ⟨(fun h => by cases h), fun _ hb => ?_, c31⟩
        rw [hbd] at hb
        rcases hb with hb | hb | ⟨hb, _⟩
        · rw [h1] at hb; cases hb
        · exact hb h2
        · exact h3 (of_decide_eq_true hb)
  · have hge : j = r.steps.length := by have := of_decide_eq_false hge; omega
    subst hge
    refine ⟨R.fin, (o6.no c16).cell rfl, ?_, k16⟩
    rw [hrr, hrl, List.drop_length, m2]
    show Value.bool (a == r.fin) = .bool (decide (a = r.fin))
    congr 1
end Go.Proofs.YtkjpmkopnkkbmaaGreatDoor
