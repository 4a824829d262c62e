/- The book of lists: each list is grown (growX), over any kind. -/
import Derived.Test.YtkjpmkopnkkbmaaGreatDoorBookB
set_option maxRecDepth 100000
namespace Go.Proofs.YtkjpmkopnkkbmaaGreatDoor
open Go.RowKit

variable {α : Type} {P : Program}
/-- A grown form of list s (which reads marks): what it reads, where it lies. -/
theorem grow_core {E : Enc α} {T TT : TypeId} {fM : FuncId} {mk : Int → Int → α} (ok : EncOk P E T) (okk : EncOk P (slE T) TT) (hby : E.bytes ≤ 1000)
    {ls : List Sl} (hM : ls = [] ∨ MarkOk P E mk fM) {w : World} {b o : Nat} {A : Sl} (hA : w.cell? ⟨b, o, none⟩ = some A.val) (rA : Rd (slE T) w A ls) (hsm : ls.length ≤ 100000)
    (h1 : ∀ (i : Nat) (s : Sl), ls[i]? = some s → Ox E w s (marks (mk i) 0 s.len) ∧ s.len ≤ 10000000)
    (dis : ∀ (i j : Nat) (s t : Sl) (k : Nat), ls[i]? = some s → ls[j]? = some t → s.blk = some k → t.blk = some k → i = j) (hb : ¬ blksOf ls b) (hAb : ∀ k, A.blk = some k → ¬ blksOf ls k) {K : Value → World → Prop}
    (k : ∀ (out : Sl) (outs : List Sl) (w' : World), Rd (slE T) w' out outs → outs.length = ls.length → (∀ (i : Nat) (t : Sl), outs[i]? = some t → t.len ≤ 20000000 ∧ Rd E w' t (marks (mk i) 0 t.len)) → (∀ (i : Nat) (s : Sl), ls[i]? = some s → Rd E w' s (marks (mk i) 0 s.len)) → Chg (blksOf ls) w w' → K out.val w') :
    ∃ (I1 : Sl → Int → World → Prop) (μ1 : Sl → Int → World → Nat), I1 (⟨none, 0, 0⟩ : Sl) (0 : Int) w ∧ ∀ (out16 : Sl) (i3 : Int) (w2 : World), I1 out16 i3 w2 →
      ∃ s4 : Sl, w2.cell? ⟨b, o, none⟩ = some (s4.val) ∧
      brB (decide (i3 < (s4.len : Int)))
      (∃ s5 : Sl, w2.cell? ⟨b, o, none⟩ = some (s5.val) ∧
      ∃ a6 : Addr, s5.ptr = some a6 ∧ 0 ≤ i3 ∧ i3 < (s5.len : Int) ∧
      ∃ s7 : Sl, w2.cell? (Addr.add a6 (Int.toNat i3 * 1)) = some (s7.val) ∧
      ∃ (I2 : Sl → Int → World → Prop) (μ2 : Sl → Int → World → Nat), I2 s7 (0 : Int) w2 ∧ ∀ (l10 : Sl) (n9 : Int) (w8 : World), I2 l10 n9 w8 →
      brB (decide (n9 < (12 : Int)))
      (Calls P fM #[.int .i64 i3, .int .i64 (l10.len : Int), .int .i64 (1 : Int)] w8 fun e11 w12 => ∃ s13 : Sl, e11 = .returned (s13.val) ∧
      ∃ s14 : Sl, ∃ w15 : World, (Builtin.append_ #[T, T] T #[l10.val, s13.val]).run P w12 = .ok (s14.val) w15 ∧
      I2 s14 (wr (n9 + (1 : Int))) w15 ∧ μ2 s14 (wr (n9 + (1 : Int))) w15 < μ2 l10 n9 w8)
      (Calls P fM #[.int .i64 i3, .int .i64 (l10.len : Int), .int .i64 (60 : Int)] w8 fun e17 w18 => ∃ s19 : Sl, e17 = .returned (s19.val) ∧
      ∃ s20 : Sl, ∃ w21 : World, (Builtin.append_ #[T, T] T #[l10.val, s19.val]).run P w18 = .ok (s20.val) w21 ∧
      ∀ (b22 : Nat) (w23 : World), b22 = w21.heap.size → w23 = World.alloc w21 (.cells #[s20.val] T) →
      ∃ s24 : Sl, ∃ w25 : World, (Builtin.append_ #[TT, TT] TT #[out16.val, .slice (some ⟨b22, 0, none⟩) 1 1]).run P w23 = .ok (s24.val) w25 ∧
      I1 s24 (wr (i3 + (1 : Int))) w25 ∧ μ1 s24 (wr (i3 + (1 : Int))) w25 < μ1 out16 i3 w2))
      (K (out16.val) w2) := by
  have hlen := rA.len
  have old : ∀ k, blksOf ls k → k < w.heap.size := by
    rintro k ⟨i, t, ht, hk⟩; exact (h1 i t ht).1.lt k hk
  refine ⟨fun out n w' => ∃ (j : Nat) (outs : List Sl), n = j ∧ j ≤ ls.length ∧ outs.length = j ∧ Ow (slE T) w' out outs ∧ (∀ k, out.blk = some k → w.heap.size ≤ k) ∧
      (∀ (i : Nat) (t : Sl), outs[i]? = some t → t.len ≤ 20000000 ∧ Rd E w' t (marks (mk i) 0 t.len) ∧ (∀ k, t.blk = some k → k < w'.heap.size ∧ out.blk ≠ some k ∧ ((∃ s, ls[i]? = some s ∧ s.blk = some k) ∨ w.heap.size ≤ k))) ∧
      (∀ (i : Nat) (s : Sl), i < j → ls[i]? = some s → Rd E w' s (marks (mk i) 0 s.len)) ∧ (∀ (i : Nat) (s : Sl), j ≤ i → ls[i]? = some s → Ox E w' s (marks (mk i) 0 s.len)) ∧ Chg (blksOf ls) w w', fun _ n _ => ls.length - n.toNat,
    ⟨0, [], rfl, Nat.zero_le _, rfl, Ow.nil _ _, (fun k hk => by cases hk), (fun i t hi => by simp at hi), fun i s h => by omega, fun i s _ hs => (h1 i s hs).1, Chg.refl _ _⟩, ?_⟩
  rintro out n w2 ⟨j, outs, rfl, hj, hol, ho, hob, hos, hdone, htodo, hc⟩
  have rA2 : ∀ w', Chg (blksOf ls) w w' → Rd (slE T) w' A ls := fun w' hw' => rA.chg hw' hAb
  have cA2 : ∀ w', Chg (blksOf ls) w w' → w'.cell? ⟨b, o, none⟩ = some A.val := fun w' hw' => hw'.cell hA hb
  refine ⟨A, cA2 w2 hc, brB_of (fun hlt => ?_) (fun hlt => ?_)⟩
  · have hlt : j < ls.length := by simp at hlt; omega
    have hM' : MarkOk P E mk fM := hM.resolve_left fun e => by rw [e] at hlt; simp at hlt
    obtain ⟨s, hs⟩ : ∃ s, ls[j]? = some s := ⟨_, List.getElem?_eq_getElem hlt⟩
    obtain ⟨a, ha, h0, hlt', hcell⟩ := sl_cell (rA2 w2 hc) hs
    have hsmall := (h1 j s hs).2
    have s2 := hc.size
    have bs : ∀ k, s.blk = some k → blksOf ls k := fun k hk => ⟨j, s, hs, hk⟩
    refine ⟨A, cA2 w2 hc, a, ha, h0, hlt', s, hcell, ?_⟩
    -- what holds while list j grows: l reads d marks more; s still reads; only s's block and new ones are touched
    have hI : ∀ (d : Nat) (l : Sl) (w8 : World), (Ox E w8 l (marks (mk j) 0 (s.len + d)) ∧ Rd E w8 s (marks (mk j) 0 s.len) ∧ (l.blk = s.blk ∧ l.ptr = s.ptr ∧ l.cap = s.cap ∨ ∀ k, l.blk = some k → w2.heap.size ≤ k) ∧ Chg (fun k => s.blk = some k) w2 w8) → s.len + d ≤ 15000000 →
        ∀ (m : Nat), m ≤ 60 → 0 < m → ∀ {G : Sl → World → Prop}, (∀ (s14 : Sl) (w15 : World), (Ox E w15 s14 (marks (mk j) 0 (s.len + (d + m))) ∧ Rd E w15 s (marks (mk j) 0 s.len) ∧ (s14.blk = s.blk ∧ s14.ptr = s.ptr ∧ s14.cap = s.cap ∨ ∀ k, s14.blk = some k → w2.heap.size ≤ k) ∧ Chg (fun k => s.blk = some k) w2 w15) → G s14 w15) →
        Calls P fM #[.int .i64 j, .int .i64 (l.len : Int), .int .i64 (m : Int)] w8 fun e11 w12 => ∃ s13 : Sl, e11 = .returned (s13.val) ∧ ∃ s14 : Sl, ∃ w15 : World, (Builtin.append_ #[T, T] T #[l.val, s13.val]).run P w12 = .ok (s14.val) w15 ∧ G s14 w15 := by
      rintro d l w8 ⟨hx, hrs, hbl, hch⟩ hd m hm hm0 G hG
      have hll : l.len = s.len + d := by rw [hx.rd.len, marks_len]
      rw [hll]
      refine (hM' j (s.len + d) m w8 (by omega) (by omega)).mono ?_
      rintro e w12 ⟨s13, rfl, h13, c12, f13⟩
      refine ⟨s13, rfl, ?_⟩
      have hml := marks_len (mk j) 0 (s.len + d)
      have hml2 := marks_len (mk j) (s.len + d) m
      obtain ⟨y, hy⟩ : ∃ y, (marks (mk j) (s.len + d) m)[0]? = some y := ⟨_, List.getElem?_eq_getElem (by omega)⟩
      obtain ⟨a13, ha13, _⟩ := h13.rd.at hy
      have s8 := hch.size
      have s12 := c12.size
      refine appk_ok ok rfl rfl (hx.no c12) h13.rd ha13 (fun _ he => by rw [he] at hml2; simp at hml2; omega) (by
        rw [hml, hml2]
        have : (s.len + d + m) * E.bytes ≤ 20000000 * 1000 := Nat.mul_le_mul (by omega) hby
        omega) (by rw [hml, hml2]; unfold maxLen; omega) ?_
      intro s14 w15 h14 c15 _ hroom hkeep hnew
      rw [marks_app, Nat.add_assoc] at h14
      rw [hml, hml2] at hroom hnew
      refine hG s14 w15 ⟨h14, ?_, ?_, ?_⟩
      · rcases hbl with ⟨e1, e2, e3⟩ | e1
        · have h9 := hkeep.take (n := s.len) (by rw [hml]; omega)
          have e9 : (⟨l.ptr, s.len, l.cap⟩ : Sl) = s := by rw [e2, e3]
          rw [e9, ← marks_app, List.take_left' (marks_len _ _ _)] at h9
          exact h9
        · refine (hrs.no c12).chg c15 (fun k hk he => ?_)
          have := e1 k he; have := old k (bs k hk); omega
      · by_cases hr : s.len + d + m ≤ l.cap
        · obtain ⟨e4, e5⟩ := hroom hr
          rcases hbl with ⟨e1, e2, e3⟩ | e1
          · exact Or.inl ⟨by have : s14.blk = l.blk := by { unfold Sl.blk Sl.val; rw [e4]; cases l.ptr <;> rfl }
                             rw [this, e1], e4.trans e2, e5.trans e3⟩
          · right; intro k hk
            refine e1 k ?_
            rw [← hk]; unfold Sl.blk Sl.val; rw [e4]; cases l.ptr <;> rfl
        · right; intro k hk; have := hnew (by omega) k hk; omega
      · refine (hch.trans c12 (U := fun k => s.blk = some k) (fun _ _ h => h) (fun _ _ h => h.elim)).trans c15 (fun _ _ h => h) (fun k hk he => ?_)
        rcases hbl with ⟨e1, _, _⟩ | e1
        · rw [e1] at he; exact he
        · have := e1 k he; omega
    refine ⟨fun l n w' => ∃ d : Nat, n = d ∧ d ≤ 12 ∧ (Ox E w' l (marks (mk j) 0 (s.len + d)) ∧ Rd E w' s (marks (mk j) 0 s.len) ∧ (l.blk = s.blk ∧ l.ptr = s.ptr ∧ l.cap = s.cap ∨ ∀ k, l.blk = some k → w2.heap.size ≤ k) ∧ Chg (fun k => s.blk = some k) w2 w'), fun _ n _ => 12 - n.toNat,
      ⟨0, rfl, by omega, htodo j s (Nat.le_refl _) hs, (htodo j s (Nat.le_refl _) hs).rd, Or.inl ⟨rfl, rfl, rfl⟩, Chg.refl _ _⟩, ?_⟩
    rintro l n w8 ⟨d, rfl, hd, hinv⟩
    refine brB_of (fun hlt2 => ?_) (fun hlt2 => ?_)
    · have hlt2 : d < 12 := by simp at hlt2; omega
      refine hI d l w8 hinv (by omega) 1 (by omega) (by omega) fun s14 w15 h => ?_
      rw [wr_of (by omega) (by omega)]
      exact ⟨⟨d + 1, by omega, by omega, h⟩, by show 12 - Int.toNat ((d : Int) + 1) < 12 - Int.toNat (d : Int); omega⟩
    · have hlt2 : d = 12 := by simp at hlt2; omega
      subst hlt2
      refine hI 12 l w8 hinv (by omega) 60 (by omega) (by omega) fun s20 w21 h => ?_
      obtain ⟨hx, hrs, hbl, hch⟩ := h
      intro b22 w23 hb22 hw23
      have c23 : Chg No w21 w23 := by rw [hw23]; exact Chg.alloc _ _ _
      have hlit : Ow (slE T) w23 ⟨some ⟨b22, 0, none⟩, 1, 1⟩ [s20] := by
        rw [hw23, hb22]
        exact Ow.lit (E := slE T) w21 [s20] ((slE T).e s20) (by rw [fl_one]) (by show 1 ≤ maxLen; unfold maxLen; omega)
      have s21 := hch.size
      have s23 := c23.size
      have ho21 : Ow (slE T) w21 out outs := ho.chg hch (fun k hk he => by have := hob k hk; have := old k (bs k he); omega)
      refine app_ok okk rfl rfl (ho21.no c23) hlit.rd (by rw [hol]; show (j + 1) * 24 ≤ _; omega) (by rw [hol]; show j + 1 ≤ _; unfold maxLen; omega) ?_
      intro s24 w25 h24 c25 hbk
      have s25 := c25.size
      have hl20 : s20.len = s.len + (12 + 60) := by rw [hx.rd.len, marks_len]
      have b20 : ∀ k, s20.blk = some k → k < w21.heap.size ∧ out.blk ≠ some k ∧ ((∃ s, ls[j]? = some s ∧ s.blk = some k) ∨ w.heap.size ≤ k) := by
        intro k hk
        refine ⟨hx.lt k hk, fun he => ?_, ?_⟩
        · have h7 := hob k he
          have h8 := ho.lt he
          rcases hbl with ⟨e1, _, _⟩ | e1
          · have := old k (bs k (e1 ▸ hk)); omega
          · have := e1 k hk; omega
        · rcases hbl with ⟨e1, _, _⟩ | e1
          · exact Or.inl ⟨s, hs, e1 ▸ hk⟩
          · exact Or.inr (by have := e1 k hk; omega)
      have hb24 : ∀ k, k < w23.heap.size → out.blk ≠ some k → s24.blk ≠ some k := by
        intro k hk hne he
        rcases hbk with hh | hh
        · exact hne (hh ▸ he)
        · have := Option.some.inj (hh.symm.trans he); omega
      rw [wr_of (by omega) (by omega)]
      refine ⟨⟨j + 1, outs ++ [s20], by omega, by omega, by rw [List.length_append, hol]; rfl, h24, fun k hk => ?_, fun i t hi => ?_, fun i t hi ht => ?_, fun i t hi ht => ?_, ?_⟩, by show ls.length - Int.toNat ((j : Int) + 1) < ls.length - Int.toNat (j : Int); omega⟩
      · rcases hbk with hh | hh
        · exact hob k (hh ▸ hk)
        · have := Option.some.inj (hh.symm.trans hk); omega
      · by_cases hij : i < j
        · rw [List.getElem?_append_left (by omega)] at hi
          obtain ⟨h5, h6, h7⟩ := hos i t hi
          refine ⟨h5, ((h6.chg hch (fun k hk he => ?_)).no c23).chg c25 (fun k hk he => (h7 k hk).2.1 he), fun k hk => ⟨by have := (h7 k hk).1; omega, hb24 k (by have := (h7 k hk).1; omega) (h7 k hk).2.1, (h7 k hk).2.2⟩⟩
          rcases (h7 k hk).2.2 with ⟨s', hs', hk'⟩ | h9
          · have := dis i j s' s k hs' hs hk' he; omega
          · have := old k (bs k he); omega
        · have hi2 : i = j := by
            have := (List.getElem?_eq_some_iff.1 hi).1
            rw [List.length_append, hol] at this; simp at this; omega
          subst hi2
          rw [List.getElem?_append_right (by omega), hol, Nat.sub_self] at hi
          cases hi
          refine ⟨by omega, ?_, fun k hk => ⟨by have := (b20 k hk).1; omega, hb24 k (by have := (b20 k hk).1; omega) (b20 k hk).2.1, (b20 k hk).2.2⟩⟩
          rw [hl20]
          exact (hx.rd.no c23).chg c25 (fun k hk he => (b20 k hk).2.1 he)
      · have base : Rd E w21 t (marks (mk i) 0 t.len) := by
          rcases Nat.lt_succ_iff_lt_or_eq.1 hi with hh | rfl
          · refine (hdone i t hh ht).chg hch (fun k hk he => ?_)
            have := dis i j t s k ht hs hk he; omega
          · rw [hs] at ht; cases ht; exact hrs
        exact (base.no c23).chg c25 (fun k hk he => by have := hob k he; have := old k ⟨i, t, ht, hk⟩; omega)
      · have base : Ox E w21 t (marks (mk i) 0 t.len) := by
          refine (htodo i t (by omega) ht).chg hch (fun k hk he => ?_)
          have := dis i j t s k ht hs hk he; omega
        exact (base.no c23).chg c25 (fun k hk he => by have := hob k he; have := old k ⟨i, t, ht, hk⟩; omega)
      · have d1 : Chg (blksOf ls) w w21 := hc.trans hch (fun _ _ h => h) (fun k _ hk => bs k hk)
        have d2 : Chg (blksOf ls) w w23 := d1.trans c23 (fun _ _ h => h) (fun _ _ h => h.elim)
        exact d2.trans c25 (fun _ _ h => h) (fun k hk he => by have := hob k he; omega)
  · have hlt : j = ls.length := by simp at hlt; omega
    subst hlt
    exact k out outs w2 ho.rd hol (fun i t hi => ⟨(hos i t hi).1, (hos i t hi).2.1⟩) (fun i s hs => hdone i s (List.getElem?_eq_some_iff.1 hs).1 hs) hc
end Go.Proofs.YtkjpmkopnkkbmaaGreatDoor
