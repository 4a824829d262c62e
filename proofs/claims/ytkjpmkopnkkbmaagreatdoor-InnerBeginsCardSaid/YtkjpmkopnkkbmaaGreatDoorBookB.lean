/- The book of lists: each list is marked (putX), over any kind. -/
import Derived.Test.YtkjpmkopnkkbmaaGreatDoorBook
set_option maxRecDepth 100000
namespace Go.Proofs.YtkjpmkopnkkbmaaGreatDoor
open Go.RowKit

variable {α : Type} {P : Program}
/-- The blocks of these lists. -/
def blksOf (ls : List Sl) : Nat → Prop := fun k => ∃ (i : Nat) (s : Sl), ls[i]? = some s ∧ s.blk = some k
theorem marks_set (mk : Int → α) (xs : List α) (q : Nat) (hq : q < xs.length) : (marks mk 0 q ++ xs.drop q).set q (mk (q : Int)) = marks mk 0 (q + 1) ++ xs.drop (q + 1) := by
  have hl := marks_len mk 0 q
  rw [List.set_append_right _ _ (by omega), hl, Nat.sub_self, marks_succ, List.append_assoc, Nat.zero_add]
  congr 1
  rw [List.drop_eq_getElem_cons hq]; rfl
theorem put_core {E : Enc α} {eT : TypeId} {fM : FuncId} {mk : Int → Int → α} {Q : (World → Prop) → Addr → (List Value → Prop) → Prop} (hQ : ∀ (w : World) (p : Addr) (x : α) (F : List Value → Prop), (∀ (j : Nat) (u : Value), (E.e x)[j]? = some u → w.cell? (p.add j) = some u) → F (E.e x) → Q (Lw w) p F)
    {ls : List Sl} (hM : ls = [] ∨ MarkOk P E mk fM) {w : World} {b o : Nat} {A : Sl} {xss : List (List α)} (hA : w.cell? ⟨b, o, none⟩ = some A.val) (rA : Rd (slE eT) w A ls) (hl : ls.length = xss.length) (hsm : ls.length ≤ 100000)
    (h1 : ∀ (i : Nat) (s : Sl) (xs : List α), ls[i]? = some s → xss[i]? = some xs → Ox E w s xs ∧ xs.length ≤ 10000000)
    (dis : ∀ (i j : Nat) (s t : Sl) (k : Nat), ls[i]? = some s → ls[j]? = some t → s.blk = some k → t.blk = some k → i = j) (hb : ¬ blksOf ls b) (hAb : ∀ k, A.blk = some k → ¬ blksOf ls k) {K : Value → World → Prop}
    (k : ∀ w', (∀ (i : Nat) (s : Sl), ls[i]? = some s → Ox E w' s (marks (mk i) 0 s.len)) → Chg (blksOf ls) w w' → K (.tuple #[]) w') :
    ∃ (I1 : Int → World → Prop) (μ1 : Int → World → Nat), I1 (0 : Int) w ∧ ∀ (i3 : Int) (w2 : World), I1 i3 w2 →
      ∃ s4 : Sl, w2.cell? ⟨b, o, none⟩ = some (s4.val) ∧
      brB (decide (i3 < (s4.len : Int)))
      (∃ s5 : Sl, w2.cell? ⟨b, o, none⟩ = some (s5.val) ∧
      ∃ a6 : Addr, s5.ptr = some a6 ∧ 0 ≤ i3 ∧ i3 < (s5.len : Int) ∧
      ∃ s7 : Sl, w2.cell? (Addr.add a6 (Int.toNat i3 * 1)) = some (s7.val) ∧
      Calls P fM #[.int .i64 i3, .int .i64 (0 : Int), .int .i64 (s7.len : Int)] w2 fun e8 w9 => ∃ s10 : Sl, e8 = .returned (s10.val) ∧
      ∃ (I2 : Int → World → Prop) (μ2 : Int → World → Nat), I2 (0 : Int) w9 ∧ ∀ (k12 : Int) (w11 : World), I2 k12 w11 →
      brB (decide (k12 < (s10.len : Int)))
      (∀ w13 : World, w13 = World.drew w11 →
      ∃ s14 : Sl, held (Lw w13) ⟨b, o, none⟩ (s14.val) ∧
      ∃ a15 : Addr, s14.ptr = some a15 ∧ 0 ≤ i3 ∧ i3 < (s14.len : Int) ∧
      ∃ s16 : Sl, held (Lw w13) (Addr.add a15 (Int.toNat i3 * 1)) (s16.val) ∧
      ∃ a17 : Addr, s10.ptr = some a17 ∧ 0 ≤ k12 ∧ k12 < (s10.len : Int) ∧
      Q (Lw w13) (Addr.add a17 (Int.toNat k12 * E.sz)) fun cs =>
      ∃ a22 : Addr, s16.ptr = some a22 ∧ 0 ≤ k12 ∧ k12 < (s16.len : Int) ∧
      wrOk w13 (Addr.add a22 (Int.toNat k12 * E.sz)) E.sz ∧ ∀ w23 : World, w23 = stW w13 (Addr.add a22 (Int.toNat k12 * E.sz)) 0 cs →
      I2 (wr (k12 + (1 : Int))) w23 ∧ μ2 (wr (k12 + (1 : Int))) w23 < μ2 k12 w11)
      (I1 (wr (i3 + (1 : Int))) w11 ∧ μ1 (wr (i3 + (1 : Int))) w11 < μ1 i3 w2))
      (K (.tuple #[]) w2) := by
  have hlen := rA.len
  have lenOf : ∀ (i : Nat) (s : Sl) (xs : List α), ls[i]? = some s → xss[i]? = some xs → s.len = xs.length := fun i s xs hs hxs => (h1 i s xs hs hxs).1.rd.len
  refine ⟨fun n w' => ∃ j : Nat, n = j ∧ j ≤ ls.length ∧ (∀ (i : Nat) (s : Sl), i < j → ls[i]? = some s → Ox E w' s (marks (mk i) 0 s.len)) ∧ (∀ (i : Nat) (s : Sl) (xs : List α), j ≤ i → ls[i]? = some s → xss[i]? = some xs → Ox E w' s xs) ∧ Chg (blksOf ls) w w', fun n _ => ls.length - n.toNat, ⟨0, rfl, Nat.zero_le _, fun i s h => by omega, fun i s xs _ hs hxs => (h1 i s xs hs hxs).1, Chg.refl _ _⟩, ?_⟩
  rintro n w2 ⟨j, rfl, hj, hdone, htodo, hc⟩
  have rA2 : ∀ w', Chg (blksOf ls) w w' → Rd (slE eT) w' A ls := fun w' hw' => rA.chg hw' hAb
  have cA2 : ∀ w', Chg (blksOf ls) w w' → w'.cell? ⟨b, o, none⟩ = some A.val := fun w' hw' => hw'.cell hA hb
  refine ⟨A, cA2 w2 hc, brB_of (fun hlt => ?_) (fun hlt => ?_)⟩
  · have hlt : j < ls.length := by simp at hlt; omega
    have hM' : MarkOk P E mk fM := hM.resolve_left fun e => by rw [e] at hlt; simp at hlt
    obtain ⟨s, hs⟩ : ∃ s, ls[j]? = some s := ⟨_, List.getElem?_eq_getElem hlt⟩
    obtain ⟨xs, hxs⟩ : ∃ xs, xss[j]? = some xs := ⟨_, List.getElem?_eq_getElem (by omega)⟩
    have hsl := lenOf j s xs hs hxs
    have hxl := (h1 j s xs hs hxs).2
    obtain ⟨a, ha, h0, hlt', hcell⟩ := sl_cell (rA2 w2 hc) hs
    refine ⟨A, cA2 w2 hc, a, ha, h0, hlt', s, hcell, ?_⟩
    refine (hM' j 0 s.len w2 (by omega) (by omega)).mono ?_
    rintro e w9 ⟨s10, rfl, h10, c9, f10⟩
    have hl10 : s10.len = xs.length := by rw [h10.rd.len, marks_len, hsl]
    have cw9 : Chg (blksOf ls) w w9 := hc.trans c9 (fun _ _ h => h) (fun _ _ h => h.elim)
    have hs9 := hc.size
    have old : ∀ k, blksOf ls k → k < w.heap.size := by
      rintro k ⟨i, t, ht, hk⟩
      obtain ⟨ys, hys⟩ : ∃ ys, xss[i]? = some ys := ⟨_, List.getElem?_eq_getElem (by have := (List.getElem?_eq_some_iff.1 ht).1; omega)⟩
      exact (h1 i t ys ht hys).1.lt k hk
    refine ⟨s10, rfl, ?_⟩
    refine ⟨fun n w' => ∃ q : Nat, n = q ∧ q ≤ xs.length ∧ Ox E w' s (marks (mk j) 0 q ++ xs.drop q) ∧ Rd E w' s10 (marks (mk j) 0 s.len) ∧ (∀ (i : Nat) (t : Sl), i < j → ls[i]? = some t → Ox E w' t (marks (mk i) 0 t.len)) ∧ (∀ (i : Nat) (t : Sl) (ys : List α), j + 1 ≤ i → ls[i]? = some t → xss[i]? = some ys → Ox E w' t ys) ∧ Chg (blksOf ls) w w', fun n _ => xs.length - n.toNat,
      ⟨0, rfl, Nat.zero_le _, (htodo j s xs (Nat.le_refl _) hs hxs).no c9, h10.rd, fun i t hi ht => (hdone i t hi ht).no c9, fun i t ys hi ht hys => (htodo i t ys (by omega) ht hys).no c9, cw9⟩, ?_⟩
    rintro n w11 ⟨q, rfl, hq, hox, hr10, hd, ht, hcc⟩
    refine brB_of (fun hlt2 => ?_) (fun hlt2 => ?_)
    · have hlt2 : q < xs.length := by simp at hlt2; omega
      intro w13 hw13
      have c13 : Chg No w11 w13 := by rw [hw13]; exact Chg.drew _ _
      have cc13 : Chg (blksOf ls) w w13 := hcc.trans c13 (fun _ _ h => h) (fun _ _ h => h.elim)
      obtain ⟨a2, ha2, h02, hlt3, hcell2⟩ := sl_cell (rA2 w13 cc13) hs
      refine ⟨A, held_Lw (cA2 w13 cc13), a2, ha2, h02, hlt3, s, held_Lw hcell2, ?_⟩
      have hmq : (marks (mk j) 0 s.len)[q]? = some (mk j q) := marks_at _ _ _ (by omega)
      refine (hr10.no c13).ix (i := (q : Int)) (by omega) (by rw [Int.toNat_natCast]; exact hmq) fun a17 ha17 hc17 => hQ w13 _ (mk j q) _ hc17 ?_
      have hox13 := hox.no c13
      have hml := marks_len (mk j) 0 q
      have hlen2 : (marks (mk j) 0 q ++ xs.drop q).length = xs.length := by rw [List.length_append, hml, List.length_drop]; omega
      have hsp : ∃ a22, s.ptr = some a22 := by
        obtain ⟨y, hy⟩ : ∃ y, (marks (mk j) 0 q ++ xs.drop q)[q]? = some y := ⟨_, List.getElem?_eq_getElem (by omega)⟩
        obtain ⟨a22, ha22, _⟩ := hox13.rd.at hy
        exact ⟨a22, ha22⟩
      obtain ⟨a22, ha22⟩ := hsp
      obtain ⟨hwr, hset⟩ := hox13.set ha22 (k := q) (by omega) (mk j q)
      rw [marks_set _ _ _ hlt2] at hset
      refine ⟨a22, ha22, by omega, by omega, by rw [Int.toNat_natCast]; exact hwr, ?_⟩
      intro w23 hw23
      rw [Int.toNat_natCast] at hw23
      rw [← hw23] at hset
      have hbs := blk_ptr ha22
      have c23 : Chg (fun k => k = a22.block) w13 w23 := by rw [hw23]; exact Chg.st (S := fun k => k = a22.block) (by rw [add_block])
      have hin : blksOf ls a22.block := ⟨j, s, hs, hbs⟩
      rw [wr_of (by omega) (by omega)]
      refine ⟨⟨q + 1, by omega, by omega, hset, (hr10.no c13).chg c23 (fun i hi he => ?_), fun i t hi ht' => ((hd i t hi ht').no c13).chg c23 (fun m hm he => ?_), fun i t ys hi ht' hys => ((ht i t ys hi ht' hys).no c13).chg c23 (fun m hm he => ?_), ?_⟩, by show xs.length - Int.toNat ((q : Int) + 1) < xs.length - Int.toNat (q : Int); omega⟩
      · have := f10 i hi; have := old _ hin; omega
      · have := dis i j t s m ht' hs hm (by rw [he]; exact hbs); omega
      · have := dis i j t s m ht' hs hm (by rw [he]; exact hbs); omega
      · exact cc13.trans c23 (fun _ _ h => h) (fun m _ hm => by rw [hm]; exact hin)
    · have hlt2 : q = xs.length := by simp at hlt2; omega
      subst hlt2
      rw [List.drop_length, List.append_nil, ← hsl] at hox
      rw [wr_of (by omega) (by omega)]
      refine ⟨⟨j + 1, by omega, by omega, fun i t hi ht' => ?_, ht, hcc⟩, by show ls.length - Int.toNat ((j : Int) + 1) < ls.length - Int.toNat (j : Int); omega⟩
      rcases Nat.lt_succ_iff_lt_or_eq.1 hi with hh | rfl
      · exact hd i t hh ht'
      · rw [hs] at ht'; cases ht'; exact hox
  · have hlt : j = ls.length := by simp at hlt; omega
    subst hlt
    exact k w2 (fun i s hs => hdone i s (List.getElem?_eq_some_iff.1 hs).1 hs) hc
end Go.Proofs.YtkjpmkopnkkbmaaGreatDoor
