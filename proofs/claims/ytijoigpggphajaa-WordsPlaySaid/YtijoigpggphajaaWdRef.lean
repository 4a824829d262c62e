/- hollowayref1.Words: the words that are there at first. -/
import Derived.Test.YtijoigpggphajaaWdNil
set_option maxRecDepth 100000
namespace Go.Proofs.Ytijoigpggphajaa
open Go.RowKit

theorem newTo_step (k : Nat) (hk : k < 48) (hf : isFirst k = true) : newTo (k + 1) = newTo k ++ [⟨opName k, 64 + 2 * (k : Int), k, false⟩] := by
  have h : (List.range 48).all (fun k => wordOk (opName k) && decide ((newTo k).length < 200)) = true := by decide +kernel
  have h1 := List.all_eq_true.1 h k (List.mem_range.2 hk)
  rw [Bool.and_eq_true] at h1
  have h2 := of_decide_eq_true h1.2
  rw [newTo_succ, if_pos hf]
  unfold addL
  rw [if_neg (by simp [h1.1]), if_neg (by omega)]
theorem refWords_any (w : World) : Calls Try.prog fn_hollowayref1_Words #[] w fun e w' => ∃ s : Sl, e = .returned s.val ∧ Ow wdE w' s newL ∧ Chg No w w' ∧ (∀ k, s.blk = some k → w.heap.size ≤ k) := by
  refine (hollowayref1_Words_lift (K := fun r w' => ∃ s : Sl, r = s.val ∧ Ow wdE w' s newL ∧ Chg No w w' ∧ (∀ k, s.blk = some k → w.heap.size ≤ k)) ?_).mono (by rintro e w' ⟨r, rfl, n, rfl, h⟩; exact ⟨n, rfl, h⟩)
  unfold hollowayref1_Words_sh
  refine ⟨fun o n w' => ∃ k : Nat, n = k ∧ k ≤ 48 ∧ Ow wdE w' o (newTo k) ∧ (∀ k, o.blk = some k → w.heap.size ≤ k) ∧ Chg No w w', fun _ n _ => 48 - n.toNat, ⟨0, rfl, by omega, Ow.nil _ _, (fun k hk => by cases hk), Chg.refl _ _⟩, ?_⟩
  rintro o n w1 ⟨k, rfl, hk, ho, hob, hc⟩
  refine brB_of (fun hlt => ?_) (fun hlt => ?_)
  · have hlt : k < 48 := by simp at hlt; omega
    refine ⟨fun o' w' => Ow wdE w' o' (newTo (k + 1)) ∧ (∀ k, o'.blk = some k → w.heap.size ≤ k) ∧ Chg No w w', ?_, ?_⟩
    · rintro o' w18 ⟨h1, h2, h3⟩
      rw [wr_of (by omega) (by omega)]
      exact ⟨⟨k + 1, by omega, by omega, h1, h2, h3⟩, by show 48 - Int.toNat ((k : Int) + 1) < 48 - Int.toNat (k : Int); omega⟩
    refine (refArg_any _ _).mono ?_
    rintro e w4 ⟨rfl, rfl⟩
    refine ⟨_, rfl, ?_⟩
    have skip : isFirst k = false → Ow wdE w1 o (newTo (k + 1)) ∧ (∀ k, o.blk = some k → w.heap.size ≤ k) ∧ Chg No w w1 := fun hf => by
      rw [newTo_succ, if_neg (by rw [hf]; decide)]
      exact ⟨ho, hob, hc⟩
    have eqb : ∀ {n : Int}, ((k : Int) == n) = true → (k : Int) = n := fun h => by simpa using h
    have neb : ∀ {n : Int}, ((k : Int) == n) = false → (k : Int) ≠ n := fun h => by simpa using h
    have no : ∀ {K}, isFirst k = false → hollowayref1_Words_j1 (fun o' w' => Ow wdE w' o' (newTo (k + 1)) ∧ (∀ k, o'.blk = some k → w.heap.size ≤ k) ∧ Chg No w w') o k true w1 K := fun hf => brB_t (skip hf)
    have isF : isFirst k = (!opArg k && decide ((k : Int) ≠ 5 ∧ (k : Int) ≠ 36 ∧ (k : Int) ≠ 39 ∧ (k : Int) ≠ 40 ∧ (k : Int) ≠ 47) && (decide ((k : Int) = 45 ∨ (k : Int) = 46) || opPlain k)) := rfl
    have pl : opPlain k = decide (0 ≤ (k : Int) ∧ (k : Int) < 48 ∧ (k : Int) ≠ 0 ∧ (k : Int) ≠ 1 ∧ (k : Int) ≠ 45 ∧ (k : Int) ≠ 46) := rfl
    refine brB_of (fun h => no (by rw [isF, h]; rfl)) (fun ha => ?_)
    refine brB_of (fun h => no (by have := eqb h; rw [isF, pl, ha, decide_eq_false (p := (k : Int) = 45 ∨ (k : Int) = 46) (by omega), decide_eq_false (p := 0 ≤ (k : Int) ∧ _) (by omega)]; simp)) (fun h0 => ?_)
    refine brB_of (fun h => no (by have := eqb h; rw [isF, pl, ha, decide_eq_false (p := (k : Int) = 45 ∨ (k : Int) = 46) (by omega), decide_eq_false (p := 0 ≤ (k : Int) ∧ _) (by omega)]; simp)) (fun h1 => ?_)
    have out : ((k : Int) = 5 ∨ (k : Int) = 36 ∨ (k : Int) = 39 ∨ (k : Int) = 40 ∨ (k : Int) = 47) → isFirst k = false := fun h => by
      rw [isF, decide_eq_false (p := (k : Int) ≠ 5 ∧ _) (by omega)]; simp
    refine brB_of (fun h => no (out (Or.inl (eqb h)))) (fun h5 => ?_)
    refine brB_of (fun h => no (out (by have := eqb h; omega))) (fun h36 => ?_)
    refine brB_of (fun h => no (out (by have := eqb h; omega))) (fun h39 => ?_)
    refine brB_of (fun h => no (out (by have := eqb h; omega))) (fun h40 => ?_)
    unfold hollowayref1_Words_j1
    refine brB_of (fun h => skip (out (by have := eqb h; omega))) (fun h47 => ?_)
    have hf : isFirst k = true := by
      have := neb h0; have := neb h1; have := neb h5; have := neb h36; have := neb h39; have := neb h40; have := neb h47
      rw [isF, pl, ha, decide_eq_true (p := (k : Int) ≠ 5 ∧ _) (by omega)]
      simp; omega
    refine (refName_any _ _).mono ?_
    rintro e w12 ⟨rfl, c12⟩
    refine ⟨_, rfl, ?_⟩
    rw [opName_row _ (by omega) (by omega), Int.toNat_natCast, wr_of (x := (2 : Int) * k) (by omega) (by omega), wr_of (by omega) (by omega)]
    intro b14 w15 hb hw
    have c15 : Chg No w12 w15 := by rw [hw]; exact Chg.alloc _ _ _
    have hlit : Ow wdE w15 ⟨some ⟨b14, 0, none⟩, 1, 1⟩ [⟨opName k, 64 + 2 * (k : Int), k, false⟩] := by
      rw [hw, hb]
      exact Ow.lit (E := wdE) w12 [⟨opName k, 64 + 2 * (k : Int), k, false⟩] (wdC ⟨opName k, 64 + 2 * (k : Int), k, false⟩) (by rw [fl_one]; rfl) (by show 1 ≤ maxLen; unfold maxLen; omega)
    have hlk : (newTo k).length < 200 := by
      have h : (List.range 48).all (fun k => decide ((newTo k).length < 200)) = true := by decide +kernel
      exact of_decide_eq_true (List.all_eq_true.1 h k (List.mem_range.2 hlt))
    refine app_ok wdOk rfl rfl ((ho.no c12).no c15) hlit.rd (by show ((newTo k).length + 1) * 40 ≤ _; omega) (by show (newTo k).length + 1 ≤ _; unfold maxLen; omega) ?_
    intro s' w17 h' c17 hbk
    have s1 := hc.size
    have s12 := c12.size
    have s15 := c15.size
    refine ⟨by rw [newTo_step k hlt hf]; exact h', fun i hi => ?_, ?_⟩
    · rcases hbk with hh | hh
      · exact hob i (hh ▸ hi)
      · have := Option.some.inj (hh.symm.trans hi); omega
    · exact ((hc.trans c12 (U := No) (fun _ _ h => h) (fun _ _ h => h)).trans c15 (fun _ _ h => h) (fun _ _ h => h)).trans c17 (fun _ _ h => h) (fun i hi he => by have := hob i he; omega)
  · have hlt : k = 48 := by simp at hlt; omega
    subst hlt
    exact ⟨o, rfl, ho, hc, hob⟩
end Go.Proofs.Ytijoigpggphajaa
