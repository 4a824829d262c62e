/- OpTells and OpNames: the walks. -/
import Derived.Test.YtijoigpggphajaaRefOp
set_option maxRecDepth 100000
namespace Go.Proofs.Ytijoigpggphajaa
open Go.RowKit

theorem beq_eq {α : Type} [BEq α] [LawfulBEq α] (a : α) : (a == a) = true := by simp
theorem opTells_walk (o : Int) (s : ByteArray) (w : World) : Calls Try.prog fn_hollowaylaw6_OpTells #[.int .i64 o, .string s] w fun e w' => e = .returned (.bool true) ∧ Chg No w w' := by
  refine (hollowaylaw6_OpTells_lift (K := fun v w' => v = .bool true ∧ Chg No w w') ?_).mono (by rintro e w' ⟨v, rfl, rfl, h⟩; exact ⟨rfl, h⟩)
  have tr : ∀ {x y z : World}, Chg No x y → Chg No y z → Chg No x z := fun h k => h.trans k (fun _ _ h => h) (fun _ _ h => h)
  unfold hollowaylaw6_OpTells_sh
  refine ⟨fun b w' => (b = false → s.size ≤ 60) ∧ Chg No w w', ?_, ?_⟩
  · rintro b w6 ⟨hb, h6⟩
    refine brB_of (fun _ => ?_) (fun hf => ?_)
    · refine (alive6_any w6).mono ?_
      rintro e w9 ⟨rfl, h9⟩
      exact ⟨_, rfl, rfl, tr h6 h9⟩
    have hs := hb hf
    refine (takes_any _ _).mono ?_
    rintro e w12 ⟨rfl, h12⟩
    refine ⟨_, _, rfl, ?_⟩
    refine (gives_any _ _).mono ?_
    rintro e w16 ⟨rfl, h16⟩
    refine ⟨_, _, rfl, ?_⟩
    refine (moves_any _ _).mono ?_
    rintro e w20 ⟨rfl, rfl⟩
    refine ⟨_, _, _, _, rfl, ?_⟩
    refine (opFind_any s _ (by omega)).mono ?_
    rintro e w26 ⟨⟨v, rfl, hv⟩, h26⟩
    have h26 := tr (tr (tr h6 h12) h16) h26
    -- what the loop finds is what Of answers
    obtain ⟨n, ok, rfl, hno⟩ : ∃ (n : Int) (ok : Bool), v = .tuple #[.int .i64 n, .bool ok] ∧ ∀ want is, (∀ j : Nat, j < 48 → upS (opName j) = upS s → want = (j : Int) ∧ is = true) → ((∀ j : Nat, j < 48 → upS (opName j) ≠ upS s) → want = 0 ∧ is = false) → n = want ∧ ok = is := by
      rcases hv with ⟨k, hk, rfl, h1, _⟩ | ⟨rfl, h1⟩
      · exact ⟨_, _, rfl, fun want is ha _ => by obtain ⟨rfl, rfl⟩ := ha k hk h1; exact ⟨rfl, rfl⟩⟩
      · exact ⟨_, _, rfl, fun want is _ hb => by obtain ⟨rfl, rfl⟩ := hb h1; exact ⟨rfl, rfl⟩⟩
    refine ⟨_, _, rfl, ?_⟩
    refine ⟨fun want is n w' => ∃ k : Nat, n = k ∧ k ≤ 48 ∧ (∀ j : Nat, j < k → upS (opName j) = upS s → want = (j : Int) ∧ is = true) ∧ ((∀ j : Nat, j < k → upS (opName j) ≠ upS s) → want = 0 ∧ is = false) ∧ Chg No w w', fun _ _ n _ => 48 - n.toNat, ⟨0, rfl, by omega, fun j h => by omega, fun _ => ⟨rfl, rfl⟩, h26⟩, ?_⟩
    rintro want is k30 w29 ⟨k, rfl, hk, hj, hn, h29⟩
    refine brB_of (fun hlt => ?_) (fun hlt => ?_)
    · have hlt : k < 48 := by simp at hlt; omega
      refine ⟨fun want' is' w' => (if upS (opName k) = upS s then want' = (k : Int) ∧ is' = true else want' = want ∧ is' = is) ∧ Chg No w w', ?_, ?_⟩
      · rintro want' is' w37 ⟨hi, h37⟩
        rw [wr_of (by omega) (by omega)]
        refine ⟨⟨k + 1, by omega, by omega, fun j hj' he => ?_, fun ha => ?_, h37⟩, by show 48 - Int.toNat ((k : Int) + 1) < 48 - Int.toNat (k : Int); omega⟩
        · rcases Nat.lt_succ_iff_lt_or_eq.1 hj' with h | rfl
          · have hjk : upS (opName k) ≠ upS s := fun h2 => by have := opName_inj (by omega) hlt (he.trans h2.symm); omega
            rw [if_neg hjk] at hi
            obtain ⟨rfl, rfl⟩ := hi
            exact hj j h he
          · rw [if_pos he] at hi; exact hi
        · rw [if_neg (ha k (by omega))] at hi
          obtain ⟨rfl, rfl⟩ := hi
          exact hn fun j h => ha j (by omega)
      · refine (refName_any _ _).mono ?_
        rintro e w32 ⟨rfl, h32⟩
        refine ⟨_, rfl, ?_⟩
        rw [opName_row _ (by omega) (by omega), Int.toNat_natCast]
        refine (refSame_any (opName k) s _ (by have := opName_size k; omega) (by omega)).mono ?_
        rintro e w35 ⟨rfl, h35⟩
        have h35 := tr (tr h29 h32) h35
        refine ⟨_, rfl, brB_of (fun he => ⟨?_, h35⟩) (fun he => ⟨?_, h35⟩)⟩
        · rw [if_pos (of_decide_eq_true he)]; exact ⟨rfl, rfl⟩
        · rw [if_neg (of_decide_eq_false he)]; exact ⟨rfl, rfl⟩
    · have hlt : k = 48 := by simp at hlt; omega
      subst hlt
      obtain ⟨rfl, rfl⟩ := hno want is hj hn
      refine (name_any _ _).mono ?_
      rintro e w39 ⟨rfl, h39⟩
      refine ⟨_, rfl, ?_⟩
      have hsz : (bs (opRow o).name).size ≤ 10 := by
        by_cases hr : 0 ≤ o ∧ o < 48
        · rw [opName_row _ hr.1 hr.2]; exact opName_size _
        · rw [opRow_no hr]; decide
      refine (opFind_any _ _ (by omega)).mono ?_
      rintro e w42 ⟨⟨v, rfl, hv2⟩, h42⟩
      obtain ⟨m, hin, rfl, hmi⟩ : ∃ (m : Int) (hin : Bool), v = .tuple #[.int .i64 m, .bool hin] ∧ hin = decide (0 ≤ o ∧ o < 48) ∧ (hin = true → m = o) := by
        by_cases hr : 0 ≤ o ∧ o < 48
        · refine ⟨o, true, ?_, by rw [decide_eq_true hr], fun _ => rfl⟩
          rw [hv2.found (k := o.toNat) (by omega) (by rw [opName_row _ hr.1 hr.2]), Int.toNat_of_nonneg hr.1]
        · rcases hv2 with ⟨k, hk, rfl, h1, _⟩ | ⟨rfl, h1⟩
          · exfalso
            rw [opRow_no hr] at h1
            have hall : (List.range 48).all (fun k => decide (upS (opName k) ≠ upS (bs noRow.name))) = true := by decide +kernel
            exact of_decide_eq_true (List.all_eq_true.1 hall k (List.mem_range.2 hk)) h1
          · exact ⟨0, false, rfl, by rw [decide_eq_false hr], fun h => by cases h⟩
      obtain ⟨hmi, hmo⟩ := hmi
      have h42 := tr (tr h29 h39) h42
      refine ⟨_, _, rfl, ?_⟩
      refine (right_any _ _).mono ?_
      rintro e w46 ⟨rfl, rfl⟩
      refine ⟨_, rfl, ?_⟩
      refine (refOp_any _ _).mono ?_
      rintro e w49 ⟨rfl, rfl⟩
      refine ⟨_, rfl, ?_⟩
      rw [beq_eq]; refine brB_t ?_
      refine (name_any _ _).mono ?_
      rintro e w52 ⟨rfl, h52⟩
      refine ⟨_, rfl, ?_⟩
      refine (refName_any _ _).mono ?_
      rintro e w55 ⟨rfl, h55⟩
      refine ⟨_, rfl, ?_⟩
      have h55 := tr (tr h42 h52) h55
      rw [beq_eq]; refine brB_t ?_
      refine (arg_any _ _).mono ?_
      rintro e w58 ⟨rfl, rfl⟩
      refine ⟨_, rfl, ?_⟩
      refine (refArg_any _ _).mono ?_
      rintro e w58 ⟨rfl, rfl⟩
      refine ⟨_, rfl, ?_⟩
      rw [beq_eq]; refine brB_t ?_
      rw [beq_eq]; refine brB_t ?_
      rw [beq_eq]; refine brB_t ?_
      rw [beq_eq]; refine brB_t ?_
      rw [beq_eq]; refine brB_t ?_
      refine (plain_any _ _).mono ?_
      rintro e w58 ⟨rfl, rfl⟩
      refine ⟨_, rfl, ?_⟩
      refine (refPlain_any _ _).mono ?_
      rintro e w58 ⟨rfl, rfl⟩
      refine ⟨_, rfl, ?_⟩
      rw [beq_eq]; refine brB_t ?_
      rw [beq_eq]; refine brB_t ?_
      rw [beq_eq]; refine brB_t ?_
      refine (refOp_any _ _).mono ?_
      rintro e w58 ⟨rfl, rfl⟩
      refine ⟨_, rfl, ?_⟩
      rw [hmi, beq_eq]; refine brB_t ?_
      refine brB_of (fun h => ⟨rfl, h55⟩) (fun h => ⟨?_, h55⟩)
      rw [hmo (by rw [hmi]; simpa using h), beq_eq]
  · refine brB_of (fun h => ⟨(fun h => Bool.noConfusion h), Chg.refl _ _⟩) (fun h => ?_)
    refine (alive6_any w).mono ?_
    rintro e w4 ⟨rfl, h4⟩
    exact ⟨_, rfl, fun _ => by simp at h; omega, h4⟩

/-! ### OpNames -/
/-- A great letter, made small as the law does it. -/
def lowC (c : UInt8) : UInt8 := if 65 ≤ c.toNat ∧ c.toNat ≤ 90 then c + 32 else c
theorem lowC_toNat (c : UInt8) : (lowC c).toNat = if 65 ≤ c.toNat ∧ c.toNat ≤ 90 then c.toNat + 32 else c.toNat := by
  unfold lowC
  split
  · rw [UInt8.toNat_add]; simp; omega
  · rfl
theorem upS_low (l : List UInt8) : upS (bs (l.map lowC)) = upS (bs l) := by
  unfold upS
  show (l.map lowC).toArray.toList.map _ = l.toArray.toList.map _
  rw [List.toList_toArray, List.toList_toArray, List.map_map]
  apply List.map_congr_left
  intro c _
  show upB ((lowC c).toNat : Int) = upB (c.toNat : Int)
  rw [lowC_toNat]
  unfold upB
  split
  · rw [if_pos (by omega), if_neg (by omega)]; simp
  · rfl
theorem upS_app (a b : ByteArray) : upS (a ++ b) = upS a ++ upS b := by
  unfold upS
  rw [← List.map_append]
  congr 1
theorem opNames_walk (o : Int) (more : ByteArray) (w : World) : Calls Try.prog fn_hollowaylaw6_OpNames #[.int .i64 o, .string more] w fun e w' => e = .returned (.bool true) ∧ Chg No w w' := by
  refine (hollowaylaw6_OpNames_lift (K := fun v w' => v = .bool true ∧ Chg No w w') ?_).mono (by rintro e w' ⟨v, rfl, rfl, h⟩; exact ⟨rfl, h⟩)
  have tr : ∀ {x y z : World}, Chg No x y → Chg No y z → Chg No x z := fun h k => h.trans k (fun _ _ h => h) (fun _ _ h => h)
  unfold hollowaylaw6_OpNames_sh
  refine ⟨fun b w' => (b = false → more.size ≤ 20 ∧ 0 ≤ o ∧ o < 48) ∧ Chg No w w', ?_, ?_⟩
  · rintro b w6 ⟨hb, h6⟩
    refine brB_of (fun _ => ?_) (fun hf => ?_)
    · refine (alive6_any w6).mono ?_
      rintro e w9 ⟨rfl, h9⟩
      exact ⟨_, rfl, rfl, tr h6 h9⟩
    obtain ⟨hm, ho, ho'⟩ := hb hf
    refine (name_any _ _).mono ?_
    rintro e w15 ⟨rfl, h15⟩
    refine ⟨_, rfl, ?_⟩
    have hnm := opName_row o ho ho'
    have hsz := opName_size o.toNat
    obtain ⟨s, hs⟩ : ∃ s, s = bs (opRow o).name := ⟨_, rfl⟩
    rw [← hs] at hnm ⊢
    rw [← hnm] at hsz
    have hsz2 : s.data.toList.length = s.size := by rw [Array.length_toList]; rfl
    obtain ⟨sl, w18, hcv, hby, hc18⟩ := bytes_of s w15
    refine ⟨sl, w18, hcv, ?_⟩
    have h18 := tr (tr h6 h15) hc18
    have hblt : w15.heap.size < w18.heap.size := hby.lt
    obtain ⟨b, hbe⟩ : ∃ b, b = w15.heap.size := ⟨_, rfl⟩
    rw [← hbe] at hby
    have hnew : w.heap.size ≤ b := by rw [hbe]; exact (tr h6 h15).size
    refine ⟨fun n w' => ∃ k : Nat, n = k ∧ k ≤ s.size ∧ By w' sl b (mapTo lowC s.data.toList k) ∧ Chg No w w', fun n _ => s.size - n.toNat, ⟨0, rfl, Nat.zero_le _, by rw [mapTo_zero]; exact hby, h18⟩, ?_⟩
    rintro n w19 ⟨k, rfl, hk, hb4, hc4⟩
    have hlen : sl.len = s.size := by rw [hb4.len, mapTo_length, hsz2]
    refine brB_of (fun hlt => ?_) (fun hlt => ?_)
    · have hlt : k < s.size := by simp at hlt; omega
      obtain ⟨c, hcc⟩ : ∃ c, s.data.toList[k]? = some c := ⟨_, List.getElem?_eq_getElem (by omega)⟩
      have hcell : ∀ x, By x sl b (mapTo lowC s.data.toList k) → x.cell? (Addr.add ⟨b, 0, none⟩ (Int.toNat (k : Int) * 1)) = some (.int .u8 (c.toNat : Int)) := by
        intro x hx; rw [addr_k]; exact hx.cell (by rw [mapTo_get]; exact hcc)
      have hix : ∀ {Q : Addr → Prop}, Q ⟨b, 0, none⟩ → ∃ a, sl.ptr = some a ∧ 0 ≤ (k : Int) ∧ (k : Int) < (sl.len : Int) ∧ Q a := fun h => ⟨_, hb4.ptr, by omega, by omega, h⟩
      refine ⟨fun w' => By w' sl b (mapTo lowC s.data.toList (k + 1)) ∧ Chg No w w', ?_, ?_⟩
      · rintro w31 ⟨h1, h2⟩
        rw [wr_of (by omega) (by omega)]
        exact ⟨⟨k + 1, by omega, by omega, h1, h2⟩, by show s.size - Int.toNat ((k : Int) + 1) < s.size - Int.toNat (k : Int); omega⟩
      refine ⟨fun t w' => t = decide (65 ≤ c.toNat ∧ c.toNat ≤ 90) ∧ By w' sl b (mapTo lowC s.data.toList k) ∧ Chg No w w', ?_, ?_⟩
      · rintro t w25 ⟨rfl, h1, h2⟩
        refine brB_of (fun ht => ?_) (fun ht => ?_)
        · have ht := of_decide_eq_true ht
          refine hix ⟨_, hcell _ h1, hix ⟨?_, ?_⟩⟩
          · rw [addr_k]; exact h1.wr (by rw [mapTo_length]; omega)
          · rintro w30 rfl
            have hu : IntKind.wrap .u8 ((c.toNat : Int) + 32) = ((lowC c).toNat : Int) := by
              rw [wrap_u8 (by omega) (by omega), lowC_toNat, if_pos ht]; simp
            rw [hu, addr_k]
            refine ⟨?_, ?_⟩
            · have := h1.set (k := k) (by rw [mapTo_length]; omega) (lowC c)
              rw [← mapTo_succ lowC _ hcc] at this
              exact this
            · refine h2.trans (Chg.st (S := fun k => k = b) rfl) (fun _ _ h => h) (fun x hx h => ?_)
              subst h; omega
        · have ht := of_decide_eq_false ht
          exact ⟨by rw [mapTo_same lowC _ hcc (by unfold lowC; rw [if_neg ht])]; exact h1, h2⟩
      · refine hix ⟨_, hcell _ hb4, ?_⟩
        refine brB_of (fun h => ?_) (fun h => ?_)
        · refine hix ⟨_, hcell _ hb4, ?_, hb4, hc4⟩
          have h := of_decide_eq_true h
          rw [Bool.eq_iff_iff]; simp; omega
        · have h := of_decide_eq_false h
          exact ⟨by symm; apply decide_eq_false; omega, hb4, hc4⟩
    · have hlt : k = s.size := by simp at hlt; omega
      subst hlt
      have h := hb4.str
      rw [← hsz2, mapTo_all] at h
      refine ⟨_, w19, h, ?_⟩
      have hlow : upS (opName o.toNat) = upS (bs (s.data.toList.map lowC)) := by rw [upS_low, ← hnm]
      refine (opFind_any _ _ (by show (s.data.toList.map lowC).length ≤ _; rw [List.length_map]; omega)).mono ?_
      rintro e w35 ⟨⟨v, rfl, hv⟩, h35⟩
      rw [hv.found (k := o.toNat) (by omega) hlow]
      refine ⟨_, _, rfl, ?_⟩
      refine (name_any _ _).mono ?_
      rintro e w39 ⟨rfl, h39⟩
      rw [← hs]
      refine ⟨_, rfl, by omega, ?_⟩
      refine (opFind_any _ _ (by rw [ByteArray.size_append]; omega)).mono ?_
      rintro e w42 ⟨⟨v, rfl, hv2⟩, h42⟩
      have h42 := tr (tr (tr hc4 h35) h39) h42
      have hne : ∃ (y : Int) (is : Bool), v = .tuple #[.int .i64 y, .bool is] ∧ (more = bs [] ∨ is = false ∨ y ≠ o) := by
        rcases hv2 with ⟨j, hj, rfl, h1, _⟩ | ⟨rfl, h1⟩
        · refine ⟨_, _, rfl, ?_⟩
          by_cases hjo : (j : Int) = o
          · left
            have : j = o.toNat := by omega
            rw [this, ← hnm, upS_app] at h1
            have h2 := congrArg List.length h1
            rw [List.length_append, upS_length, upS_length] at h2
            have h3 : more.size = 0 := by omega
            apply ByteArray.ext
            exact Array.eq_empty_of_size_eq_zero h3
          · exact Or.inr (Or.inr hjo)
        · exact ⟨_, _, rfl, Or.inr (Or.inl rfl)⟩
      obtain ⟨y, is, rfl, hne⟩ := hne
      refine ⟨_, _, rfl, brB_t ?_⟩
      rw [Int.toNat_of_nonneg ho, beq_eq]
      refine brB_t ?_
      rw [bl_eq]
      refine brB_of (fun h => ⟨rfl, h42⟩) (fun h => brB_of (fun h2 => ⟨rfl, h42⟩) (fun h2 => ⟨?_, h42⟩))
      have h := of_decide_eq_false h
      have h2 : is = true := by simpa using h2
      rcases hne with h3 | h3 | h3
      · exact absurd h3 h
      · rw [h3] at h2; cases h2
      · rw [bne_iff_ne.2 h3]
  · refine (right_any o w).mono ?_
    rintro e w4 ⟨rfl, rfl⟩
    refine ⟨_, rfl, brB_of (fun _ => ⟨(fun h => Bool.noConfusion h), Chg.refl _ _⟩) (fun h1 => brB_of (fun _ => ⟨(fun h => Bool.noConfusion h), Chg.refl _ _⟩) (fun h => ?_))⟩
    refine (alive6_any w).mono ?_
    rintro e w4 ⟨rfl, h4⟩
    refine ⟨_, rfl, fun _ => ?_, h4⟩
    simp at h h1; omega
end Go.Proofs.Ytijoigpggphajaa
