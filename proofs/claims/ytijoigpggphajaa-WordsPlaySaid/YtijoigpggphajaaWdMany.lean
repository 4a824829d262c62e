/- WordsMany: the walk. -/
import Derived.Test.YtijoigpggphajaaWdLaws
set_option maxRecDepth 100000
namespace Go.Proofs.Ytijoigpggphajaa
open Go.RowKit

/-- The dictionary behind k words more of a name. -/
def mny (name : ByteArray) : Nat → List Wd
  | 0 => newL
  | k + 1 => addL (mny name k) ⟨name, 500 + (k : Int), 0, false⟩
theorem mny_len {name : ByteArray} (h : wordOk name = true) : ∀ k, (mny name k).length = min (newL.length + k) 200
  | 0 => by have := newL_short; show newL.length = _; omega
  | k + 1 => by
    have ih := mny_len h k
    show (addL (mny name k) _).length = _
    unfold addL
    rw [if_neg (by simp [h])]
    split
    · omega
    · rw [List.length_append]; simp; omega
theorem mny_take {name : ByteArray} (h : wordOk name = true) : ∀ k, (mny name k).take newL.length = newL
  | 0 => by show newL.take newL.length = newL; rw [List.take_length]
  | k + 1 => by
    have ih := mny_take h k
    have hl := mny_len h k
    have := newL_short
    show (addL (mny name k) _).take _ = _
    unfold addL
    rw [if_neg (by simp [h])]
    split
    · exact ih
    · rw [List.take_append_of_le_length (by omega)]; exact ih
theorem mny_names {name : ByteArray} (h : wordOk name = true) : ∀ k, ∀ x ∈ mny name k, x.name.size ≤ 9223372036854775807
  | 0 => fun x hx => by have := (newL_ok x hx).1; omega
  | k + 1 => fun x hx => by
    have ih := mny_names h k
    have hx : x ∈ addL (mny name k) ⟨name, 500 + (k : Int), 0, false⟩ := hx
    unfold addL at hx
    rw [if_neg (by simp [h])] at hx
    split at hx
    · exact ih x hx
    · rcases List.mem_append.1 hx with hx | hx
      · exact ih x hx
      · rw [List.mem_singleton.1 hx]; have := wordOk_size h; show name.size ≤ _; omega
theorem imin_eq (a b : Int) : imin a b = if a ≤ b then a else b := by
  unfold imin
  split <;> split <;> omega
theorem wordsMany_walk (n : Int) (name : ByteArray) (hsz : name.size ≤ 9223372036854775807) (w : World) : Calls Try.prog fn_hollowaylaw7_WordsMany #[.int .i64 n, .string name] w fun e w' => e = .returned (.bool true) ∧ Chg No w w' := by
  refine (hollowaylaw7_WordsMany_lift (K := fun v w' => v = .bool true ∧ Chg No w w') ?_).mono (by rintro e w' ⟨v, rfl, rfl, h⟩; exact ⟨rfl, h⟩)
  unfold hollowaylaw7_WordsMany_sh
  refine ⟨fun b w' => (b = false → 0 ≤ n ∧ n ≤ 300 ∧ wordOk name = true) ∧ Chg No w w', ?_, ?_⟩
  · rintro b w6 ⟨hb, h6⟩
    refine brB_of (fun _ => ?_) (fun hf => ?_)
    · refine (alive7_any w6).mono ?_
      rintro e w9 ⟨rfl, h9⟩
      exact ⟨_, rfl, rfl, trN h6 h9⟩
    obtain ⟨hn0, hn3, hok⟩ := hb hf
    have hlen := newL_short
    refine (wnew_any w6).mono ?_
    rintro e w15 ⟨p, rfl, h15, hc15⟩
    refine ⟨_, rfl, brB_f ?_⟩
    refine (wfind_any name h15 (mny_names hok 0)).mono ?_
    rintro e w18 ⟨rfl, hc18⟩
    refine ⟨_, _, _, _, _, rfl, ?_⟩
    intro b24 w25 hb24 hw25
    obtain ⟨f1, f2⟩ := wput ((fnd name newL).getD wd0) hb24 hw25
    refine ⟨f1, fun w26 hw26 => ?_⟩
    obtain ⟨f3, f4⟩ := f2 w26 hw26
    have hc26 : Chg No w w26 := trN (trN (trN h6 hc15) hc18) f4
    have hd26 : WdsAt (fun k => w.heap.size ≤ k ∧ k ≠ b24) w26 p newL := by
      have h18 := (h15.no hc18).nar.wid (C := fun k => w.heap.size ≤ k ∧ k ≠ b24) (fun k hk => ⟨by have := h6.size; have := hk.1; omega, by have := hk.2; omega⟩)
      exact h18.no f4
    refine (wlen_any hd26).mono ?_
    rintro e w28 ⟨rfl, rfl⟩
    refine ⟨_, rfl, ?_⟩
    refine ⟨fun i w' => ∃ k : Nat, i = k ∧ (k : Int) ≤ n ∧ WdsAt (fun k => w.heap.size ≤ k ∧ k ≠ b24) w' p (mny name k) ∧ Ob w' b24 (wdC ((fnd name newL).getD wd0)) T_api_Word ∧ Chg No w w', fun i _ => (n - i).toNat, ⟨0, rfl, hn0, hd26, f3, hc26⟩, ?_⟩
    rintro i w30 ⟨k, rfl, hk, hd, ho, hc⟩
    have hblt := ho.lt
    refine brB_of (fun hlt => ?_) (fun hlt => ?_)
    · have hlt : (k : Int) < n := of_decide_eq_true hlt
      rw [wr_of (x := (500 : Int) + k) (by omega) (by omega), wr_of (x := (newL.length : Int) + k) (by omega) (by omega)]
      obtain ⟨x, hx⟩ : ∃ x : Wd, x = ⟨name, 500 + (k : Int), 0, false⟩ := ⟨_, rfl⟩
      show Calls _ _ #[_, .agg (wdC ⟨name, 500 + (k : Int), 0, false⟩).toArray] _ _
      rw [← hx]
      have hcs := hc.size
      refine (wadd_any x hd (fun j hj => ⟨by omega, by omega⟩) (by rw [hx]; exact hsz)).mono ?_
      rintro e w33 ⟨rfl, hd33, hc33⟩
      have hmy : addL (mny name k) x = mny name (k + 1) := by rw [hx]; rfl
      rw [hmy] at hd33
      have ho33 := ho.chg hc33 (fun h => h.2 rfl)
      have hcw33 : Chg No w w33 := hc.trans hc33 (fun _ _ h => h) (fun j hj h => by have := h.1; omega)
      refine ⟨_, rfl, ?_⟩
      refine (wfind_any name hd33 (mny_names hok _)).mono ?_
      rintro e w36 ⟨rfl, hc36⟩
      refine ⟨_, _, _, _, _, rfl, ?_⟩
      intro b42 w43 hb42 hw43
      obtain ⟨g1, g2⟩ := wput ((fnd name (mny name (k + 1))).getD wd0) hb42 hw43
      refine ⟨g1, fun w44 hw44 => ?_⟩
      obtain ⟨g3, g4⟩ := g2 w44 hw44
      have hcw44 : Chg No w w44 := trN (trN hcw33 hc36) g4
      have hd44 := (hd33.no hc36).no g4
      have ho44 := (ho33.no hc36).no g4
      have hl := mny_len hok k
      refine ⟨fun t w' => t = false ∧ w44 = w', ?_, ?_⟩
      · rintro t w46 ⟨rfl, rfl⟩
        refine brB_f ?_
        rw [wr_of (by omega) (by omega)]
        exact ⟨⟨k + 1, by omega, by omega, hd44, ho44, hcw44⟩, by show Int.toNat (n - ((k : Int) + 1)) < Int.toNat (n - (k : Int)); omega⟩
      · by_cases hroom : newL.length + k < 200
        · have hm1 : mny name (k + 1) = mny name k ++ [x] := by
            rw [← hmy]; unfold addL; rw [if_neg (by rw [hx]; simp [hok]), if_neg (by omega)]
          have hcode : addC (mny name k) x = 0 := by unfold addC; rw [if_neg (by rw [hx]; simp [hok]), if_neg (by omega)]
          have hfd : fnd name (mny name (k + 1)) = some x := by rw [hm1, fnd_app, if_pos (by rw [hx])]
          rw [hcode, decide_eq_true (show (newL.length : Int) + k < 200 by omega), decide_eq_false (show ¬ ((newL.length : Int) + k ≥ 200) by omega)]
          rw [hfd] at g3 ⊢
          refine brB_t (brB_f (brB_f ⟨_, g3.cell rfl, ?_⟩))
          have he : (x.xt != 500 + (k : Int)) = false := by rw [hx]; simp
          show brB (x.xt != 500 + (k : Int)) _ _
          rw [he]
          exact brB_f (brB_f ⟨rfl, rfl⟩)
        · have hcode : addC (mny name k) x = -8 := by unfold addC; rw [if_neg (by rw [hx]; simp [hok]), if_pos (by omega)]
          rw [hcode, decide_eq_false (show ¬ (newL.length : Int) + k < 200 by omega), decide_eq_true (show ((newL.length : Int) + k ≥ 200) by omega)]
          exact brB_f (brB_t ⟨rfl, rfl⟩)
    · have hlt : (k : Int) = n := by have := of_decide_eq_false hlt; omega
      have hl := mny_len hok k
      refine ⟨fun t w' => t = false ∧ WdsAt (fun k => w.heap.size ≤ k ∧ k ≠ b24) w' p newL ∧ Ob w' b24 (wdC ((fnd name newL).getD wd0)) T_api_Word ∧ Chg No w w', ?_, ?_⟩
      · rintro t w54 ⟨rfl, hd54, ho54, hc54⟩
        refine brB_f ?_
        refine (wfind_any name hd54 (mny_names hok 0)).mono ?_
        rintro e w57 ⟨rfl, hc57⟩
        refine ⟨_, _, _, _, _, rfl, ?_⟩
        intro b63 w64 hb63 hw64
        obtain ⟨g1, g2⟩ := wput ((fnd name newL).getD wd0) hb63 hw64
        refine ⟨g1, fun w65 hw65 => ?_⟩
        obtain ⟨g3, g4⟩ := g2 w65 hw65
        have ho65 := (ho54.no hc57).no g4
        rw [show ((fnd name newL).isSome == (fnd name newL).isSome) = true from by simp]
        refine brB_t ⟨_, _, _, _, g3.cell rfl, g3.cell rfl, g3.cell rfl, g3.cell rfl, _, _, _, _, ho65.cell rfl, ho65.cell rfl, ho65.cell rfl, ho65.cell rfl, true, w65, wd_same ((fnd name newL).getD wd0) _ _ w65, rfl, trN (trN hc54 hc57) g4⟩
      · refine (wlen_any hd).mono ?_
        rintro e w49 ⟨rfl, rfl⟩
        refine ⟨_, rfl, ?_⟩
        rw [wr_of (x := (newL.length : Int) + n) (by omega) (by omega), imin_eq]
        have he : (((mny name k).length : Int) != if (newL.length : Int) + n ≤ 200 then (newL.length : Int) + n else 200) = false := by
          simp only [bne_eq_false_iff_eq]; split <;> omega
        rw [he]
        refine brB_f ?_
        refine (wcut_any (newL.length : Int) hd).mono ?_
        rintro e w52 ⟨rfl, hd52, hc52⟩
        have hin : 0 ≤ (newL.length : Int) ∧ (newL.length : Int) ≤ (mny name k).length := by omega
        rw [if_pos hin, Int.toNat_natCast, mny_take hok] at hd52
        refine ⟨_, rfl, ?_, hd52, ho.chg hc52 (fun h => h.2 rfl), hc.trans hc52 (fun _ _ h => h) (fun j hj h => by have := h.1; omega)⟩
        rw [decide_eq_true hin]; rfl
  · refine brB_of (fun h => ⟨(fun h => Bool.noConfusion h), Chg.refl _ _⟩) (fun h1 => brB_of (fun h => ⟨(fun h => Bool.noConfusion h), Chg.refl _ _⟩) (fun h2 => ?_))
    refine (ref_word name hsz w).mono ?_
    rintro e w4 ⟨rfl, rfl⟩
    refine ⟨_, rfl, brB_of (fun _ => ⟨(fun h => Bool.noConfusion h), Chg.refl _ _⟩) (fun h3 => ?_)⟩
    refine (alive7_any w).mono ?_
    rintro e w4 ⟨rfl, h4⟩
    have h1 := of_decide_eq_false h1
    have h2 := of_decide_eq_false h2
    refine ⟨_, rfl, fun _ => ⟨by omega, by omega, by simpa using h3⟩, h4⟩
end Go.Proofs.Ytijoigpggphajaa
