/- The book of lists over any kind; lists that are lent. -/
import Derived.Test.YtgffaimgnmfifaaJ2

/- The book of lists (hollowaybook), one kind of lists at a time and over any kind: marks, still, marked. -/
set_option maxRecDepth 100000
namespace Go.Proofs.Ytgffaimgnmfifaa
open Go.RowKit

variable {α : Type} {P : Program}
/-- A slice as an element of a list. -/
def slE (t : TypeId) : Enc Sl := ⟨t, 1, 24, fun s => [s.val], by intro x; rfl, by intro x u hu; simp at hu; subst hu; rw [val_eq]; rfl, by decide⟩
/-- Marks from number f on, m of them. -/
def marks (mk : Int → α) (f m : Nat) : List α := (List.range m).map fun j => mk (((f + j : Nat) : Int))
theorem marks_len (mk : Int → α) (f m : Nat) : (marks mk f m).length = m := by unfold marks; simp
theorem marks_succ (mk : Int → α) (f m : Nat) : marks mk f (m + 1) = marks mk f m ++ [mk ((f + m : Nat) : Int)] := by unfold marks; rw [List.range_succ, List.map_append]; rfl
theorem marks_app (mk : Int → α) (m n : Nat) : marks mk 0 m ++ marks mk m n = marks mk 0 (m + n) := by
  induction n with
  | zero => simp [marks]
  | succ n ih => rw [marks_succ, ← List.append_assoc, ih, ← Nat.add_assoc, marks_succ]; simp
theorem marks_at (mk : Int → α) (m k : Nat) (hk : k < m) : (marks mk 0 m)[k]? = some (mk (k : Int)) := by
  unfold marks; rw [List.getElem?_map, List.getElem?_range hk]; simp
theorem mark_core {E : Enc α} {T : TypeId} (ok : EncOk P E T) (hby : E.bytes ≤ 1000) (mk : Int → α) (f m : Nat) (hf : f + m ≤ 100000000) {w : World} {K : Value → World → Prop}
    (k : ∀ (s' : Sl) (w' : World), Ow E w' s' (marks mk f m) → Chg No w w' → (∀ j, s'.blk = some j → w.heap.size ≤ j) → K s'.val w') :
    ∃ (I1 : Sl → Int → World → Prop) (μ1 : Sl → Int → World → Nat), I1 (⟨none, 0, 0⟩ : Sl) (f : Int) w ∧ ∀ (out6 : Sl) (k5 : Int) (w4 : World), I1 out6 k5 w4 →
      brB (decide (k5 < (wr ((f : Int) + (m : Int)))))
      (∀ (b7 : Nat) (w8 : World), b7 = w4.heap.size → w8 = World.alloc w4 (.cells (E.e (mk k5)).toArray E.t) →
        ∃ s9 : Sl, ∃ w10 : World, (Builtin.append_ #[T, T] T #[out6.val, .slice (some ⟨b7, 0, none⟩) 1 1]).run P w8 = .ok (s9.val) w10 ∧
        I1 s9 (wr (k5 + (1 : Int))) w10 ∧ μ1 s9 (wr (k5 + (1 : Int))) w10 < μ1 out6 k5 w4)
      (K (out6.val) w4) := by
  refine ⟨fun o n w' => ∃ j : Nat, n = ((f + j : Nat) : Int) ∧ j ≤ m ∧ Ow E w' o (marks mk f j) ∧ (∀ j, o.blk = some j → w.heap.size ≤ j) ∧ Chg No w w', fun o n _ => f + m - n.toNat, ⟨0, rfl, Nat.zero_le _, Ow.nil _ _, (fun k hk => by cases hk), Chg.refl _ _⟩, ?_⟩
  rintro o n w4 ⟨j, rfl, hj, ho, hob, hc⟩
  rw [wr_of (x := (f : Int) + m) (by omega) (by omega)]
  refine brB_of (fun hlt => ?_) (fun hlt => ?_)
  · have hlt : j < m := by simp at hlt; omega
    intro b7 w8 hb hw
    have c8 : Chg No w4 w8 := by rw [hw]; exact Chg.alloc _ _ _
    have hlit : Ow E w8 ⟨some ⟨b7, 0, none⟩, 1, 1⟩ [mk ((f + j : Nat) : Int)] := by
      rw [hw, hb]
      exact Ow.lit w4 [mk ((f + j : Nat) : Int)] (E.e (mk ((f + j : Nat) : Int))) (by rw [fl_one]) (by show 1 ≤ maxLen; unfold maxLen; omega)
    have hml := marks_len mk f j
    refine app_ok ok rfl rfl (ho.no c8) hlit.rd (by
      rw [hml]
      have : (j + 1) * E.bytes ≤ 100000000 * 1000 := Nat.mul_le_mul (by omega) hby
      show (j + 1) * E.bytes ≤ _; omega) (by rw [hml]; show j + 1 ≤ _; unfold maxLen; omega) ?_
    intro o' w10 ho' c10 hbk
    have s4 := hc.size
    have s8 := c8.size
    rw [wr_of (by omega) (by omega)]
    refine ⟨⟨j + 1, by omega, by omega, by rw [marks_succ]; exact ho', fun i hi => ?_, ?_⟩, ?_⟩
    · rcases hbk with hh | hh
      · rw [hh] at hi; exact hob i hi
      · have := Option.some.inj (hh.symm.trans hi); omega
    · exact (hc.trans c8 (U := No) (fun _ _ h => h) (fun _ _ h => h)).trans c10 (fun _ _ h => h) (fun i hi he => by have := hob i he; omega)
    · show f + m - Int.toNat (((f + j : Nat) : Int) + 1) < f + m - Int.toNat ((f + j : Nat) : Int); omega
  · have hlt : j = m := by simp at hlt; omega
    subst hlt
    exact k o w4 ho hc hob
/-- What is asked of a kind's SameX and markX. -/
def SameOk (P : Program) (E : Enc α) (fS : FuncId) : Prop := ∀ (s t : Sl) (xs : List α) (w : World), Rd E w s xs → Rd E w t xs → Calls P fS #[s.val, t.val] w fun e w' => e = .returned (.bool true) ∧ Chg No w w'
def MarkOk (P : Program) (E : Enc α) (mk : Int → Int → α) (fM : FuncId) : Prop := ∀ (i f m : Nat) (w : World), i ≤ 100000 → f + m ≤ 100000000 → Calls P fM #[.int .i64 i, .int .i64 f, .int .i64 m] w fun e w' => ∃ s : Sl, e = .returned s.val ∧ Ow E w' s (marks (mk i) f m) ∧ Chg No w w' ∧ (∀ j, s.blk = some j → w.heap.size ≤ j)
theorem sl_cell {eT : TypeId} {w : World} {A : Sl} {ls : List Sl} (h : Rd (slE eT) w A ls) {i : Nat} {s : Sl} (hs : ls[i]? = some s) : ∃ a, A.ptr = some a ∧ 0 ≤ (i : Int) ∧ (i : Int) < (A.len : Int) ∧ w.cell? (a.add ((i : Int).toNat * 1)) = some s.val := by
  have hlt : i < ls.length := (List.getElem?_eq_some_iff.1 hs).1
  obtain ⟨a, ha, hc⟩ := h.at hs
  have e0 : ∀ q : Addr, q.add 0 = q := fun q => by unfold Addr.add; simp
  have := hc 0 _ rfl
  rw [e0] at this
  exact ⟨a, ha, by omega, by rw [h.len]; omega, by rw [Int.toNat_natCast]; exact this⟩
theorem still_core {E : Enc α} {eT : TypeId} {fS : FuncId} (hS : SameOk P E fS) {w : World} {b o : Nat} {A Bs : Sl} {ls was : List Sl} {xss : List (List α)} (hA : w.cell? ⟨b, o, none⟩ = some A.val) (hB : w.cell? ⟨b, o + 1, none⟩ = some Bs.val)
    (rA : Rd (slE eT) w A ls) (rB : Rd (slE eT) w Bs was) (hl : ls.length = xss.length) (hw : was.length = xss.length) (hsm : ls.length ≤ 100000)
    (r1 : ∀ (i : Nat) (s : Sl) (xs : List α), ls[i]? = some s → xss[i]? = some xs → Rd E w s xs) (r2 : ∀ (i : Nat) (s : Sl) (xs : List α), was[i]? = some s → xss[i]? = some xs → Rd E w s xs) {K : Value → World → Prop} (k : ∀ w', Chg No w w' → K (.bool true) w') :
    ∃ (I1 : Int → World → Prop) (μ1 : Int → World → Nat), I1 (0 : Int) w ∧ ∀ (i3 : Int) (w2 : World), I1 i3 w2 →
      ∃ s4 : Sl, w2.cell? ⟨b, o, none⟩ = some (s4.val) ∧
      brB (decide (i3 < (s4.len : Int)))
      (∀ w5 : World, w5 = World.drew w2 →
      ∃ s6 : Sl, held (Lw w5) ⟨b, o, none⟩ (s6.val) ∧
      ∃ a7 : Addr, s6.ptr = some a7 ∧ 0 ≤ i3 ∧ i3 < (s6.len : Int) ∧
      ∃ s8 : Sl, held (Lw w5) (Addr.add a7 (Int.toNat i3 * 1)) (s8.val) ∧
      ∃ s9 : Sl, held (Lw w5) ⟨b, o + 1, none⟩ (s9.val) ∧
      ∃ a10 : Addr, s9.ptr = some a10 ∧ 0 ≤ i3 ∧ i3 < (s9.len : Int) ∧
      ∃ s11 : Sl, held (Lw w5) (Addr.add a10 (Int.toNat i3 * 1)) (s11.val) ∧
      Calls P fS #[s8.val, s11.val] w5 fun e12 w13 => ∃ b14 : Bool, e12 = .returned (.bool b14) ∧
      brB (!b14)
      (K (.bool false) w13)
      (I1 (wr (i3 + (1 : Int))) w13 ∧ μ1 (wr (i3 + (1 : Int))) w13 < μ1 i3 w2))
      (K (.bool true) w2) := by
  refine ⟨fun n w' => ∃ j : Nat, n = j ∧ j ≤ ls.length ∧ Chg No w w', fun n _ => ls.length - n.toNat, ⟨0, rfl, Nat.zero_le _, Chg.refl _ _⟩, ?_⟩
  rintro n w2 ⟨j, rfl, hj, hc⟩
  have hlen := rA.len
  refine ⟨A, hc.cell hA (fun h => h), brB_of (fun hlt => ?_) (fun hlt => k w2 hc)⟩
  have hlt : j < ls.length := by simp at hlt; omega
  intro w5 hw5
  have c5 : Chg No w w5 := hc.trans (by rw [hw5]; exact Chg.drew No _) (fun _ _ h => h) (fun _ _ h => h)
  obtain ⟨s, hs⟩ : ∃ s, ls[j]? = some s := ⟨_, List.getElem?_eq_getElem hlt⟩
  obtain ⟨t, ht⟩ : ∃ t, was[j]? = some t := ⟨_, List.getElem?_eq_getElem (by omega)⟩
  obtain ⟨xs, hxs⟩ : ∃ xs, xss[j]? = some xs := ⟨_, List.getElem?_eq_getElem (by omega)⟩
  obtain ⟨a, ha, h0, h1, hcell⟩ := sl_cell (rA.no c5) hs
  obtain ⟨a', ha', h0', h1', hcell'⟩ := sl_cell (rB.no c5) ht
  refine ⟨A, held_Lw (c5.cell hA (fun h => h)), a, ha, h0, h1, s, held_Lw hcell, Bs, held_Lw (c5.cell hB (fun h => h)), a', ha', h0', h1', t, held_Lw hcell', ?_⟩
  refine (hS s t xs w5 ((r1 j s xs hs hxs).no c5) ((r2 j t xs ht hxs).no c5)).mono ?_
  rintro e w13 ⟨rfl, c13⟩
  refine ⟨true, rfl, brB_f ?_⟩
  rw [wr_of (by omega) (by omega)]
  exact ⟨⟨j + 1, by omega, by omega, c5.trans c13 (fun _ _ h => h) (fun _ _ h => h)⟩, by show ls.length - Int.toNat ((j : Int) + 1) < ls.length - Int.toNat (j : Int); omega⟩
theorem marked_core {E : Enc α} {eT : TypeId} {fS fM : FuncId} {mk : Int → Int → α} (hS : SameOk P E fS) (hM : MarkOk P E mk fM) {w : World} {A : Sl} {ls : List Sl} (rA : Rd (slE eT) w A ls) (hsm : ls.length ≤ 100000)
    (r1 : ∀ (i : Nat) (s : Sl), ls[i]? = some s → s.len ≤ 100000000 ∧ Rd E w s (marks (mk i) 0 s.len)) {K : Value → World → Prop} (k : ∀ w', Chg No w w' → K (.bool true) w') :
    ∃ (I1 : Int → World → Prop) (μ1 : Int → World → Nat), I1 (0 : Int) w ∧ ∀ (i3 : Int) (w2 : World), I1 i3 w2 →
      brB (decide (i3 < (A.len : Int)))
      (∀ w4 : World, w4 = World.drew w2 →
      ∃ S5 : World → Prop, S5 w4 ∧
      ∃ a6 : Addr, A.ptr = some a6 ∧ 0 ≤ i3 ∧ i3 < (A.len : Int) ∧
      ∃ s7 : Sl, held S5 (Addr.add a6 (Int.toNat i3 * 1)) (s7.val) ∧
      ∃ a8 : Addr, A.ptr = some a8 ∧ 0 ≤ i3 ∧ i3 < (A.len : Int) ∧
      ∃ s9 : Sl, held S5 (Addr.add a8 (Int.toNat i3 * 1)) (s9.val) ∧
      Calls P fM #[.int .i64 i3, .int .i64 (0 : Int), .int .i64 (s9.len : Int)] w4 fun e10 w11 => ∃ s12 : Sl, e10 = .returned (s12.val) ∧
      S5 w11 ∧
      Calls P fS #[s7.val, s12.val] w11 fun e13 w14 => ∃ b15 : Bool, e13 = .returned (.bool b15) ∧
      brB (!b15)
      (K (.bool false) w14)
      (I1 (wr (i3 + (1 : Int))) w14 ∧ μ1 (wr (i3 + (1 : Int))) w14 < μ1 i3 w2))
      (K (.bool true) w2) := by
  refine ⟨fun n w' => ∃ j : Nat, n = j ∧ j ≤ ls.length ∧ Chg No w w', fun n _ => ls.length - n.toNat, ⟨0, rfl, Nat.zero_le _, Chg.refl _ _⟩, ?_⟩
  rintro n w2 ⟨j, rfl, hj, hc⟩
  have hlen := rA.len
  refine brB_of (fun hlt => ?_) (fun hlt => k w2 hc)
  have hlt : j < ls.length := by simp at hlt; omega
  intro w4 hw4
  have c4 : Chg No w w4 := hc.trans (by rw [hw4]; exact Chg.drew No _) (fun _ _ h => h) (fun _ _ h => h)
  obtain ⟨s, hs⟩ : ∃ s, ls[j]? = some s := ⟨_, List.getElem?_eq_getElem hlt⟩
  obtain ⟨hsl, hr⟩ := r1 j s hs
  obtain ⟨a, ha, h0, h1, _⟩ := sl_cell (rA.no c4) hs
  have hh : held (fun w' => Chg No w w') (Addr.add a ((j : Int).toNat * 1)) s.val := fun w' hw' => by
    obtain ⟨a2, ha2, _, _, hcell⟩ := sl_cell (rA.no hw') hs
    rw [ha] at ha2; cases ha2; exact hcell
  refine ⟨fun w' => Chg No w w', c4, a, ha, h0, h1, s, hh, a, ha, h0, h1, s, hh, ?_⟩
  refine (hM j 0 s.len w4 (by omega) (by omega)).mono ?_
  rintro e w11 ⟨s12, rfl, h12, c11, _⟩
  have cw11 : Chg No w w11 := c4.trans c11 (fun _ _ h => h) (fun _ _ h => h)
  refine ⟨s12, rfl, cw11, ?_⟩
  refine (hS s s12 _ w11 (hr.no cw11) h12.rd).mono ?_
  rintro e w14 ⟨rfl, c14⟩
  refine ⟨true, rfl, brB_f ?_⟩
  rw [wr_of (by omega) (by omega)]
  exact ⟨⟨j + 1, by omega, by omega, cw11.trans c14 (fun _ _ h => h) (fun _ _ h => h)⟩, by show ls.length - Int.toNat ((j : Int) + 1) < ls.length - Int.toNat (j : Int); omega⟩
end Go.Proofs.Ytgffaimgnmfifaa
