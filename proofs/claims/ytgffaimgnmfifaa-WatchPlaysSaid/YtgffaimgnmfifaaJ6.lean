/- The book of lists over any kind; lists that are lent. -/
import Derived.Test.YtgffaimgnmfifaaJ2
import Derived.Test.YtgffaimgnmfifaaJ4
import Derived.Test.YtgffaimgnmfifaaJA

/- The book of lists (hollowaybook), one kind of lists at a time and over any kind: marks, still, marked. -/
set_option maxRecDepth 100000
namespace Go.Proofs.Ytgffaimgnmfifaa
open Go.RowKit

variable {α : Type} {P : Program}
/-- A slice as an element of a list. -/
def slE (t : TypeId) : Enc Sl := ⟨t, 1, 24, fun s => [s.val], by intro x; rfl, by intro x u hu; simp at hu; subst hu; rw [val_eq]; rfl, by decide⟩
/-- Marks from number f on, m of them. -/
def marks (mk : Int → α) (f m : Nat) : List α := (List.range m).map fun j => mk (((f + j : Nat) : Int))
theorem marks_len (mk : Int → α) (f m : Nat) : (marks mk f m).length = m := by unfold marks; simp
theorem marks_succ (mk : Int → α) (f m : Nat) : marks mk f (m + 1) = marks mk f m ++ [mk ((f + m : Nat) : Int)] := by unfold marks; rw [List.range_succ, List.map_append]; rfl
theorem marks_app (mk : Int → α) (m n : Nat) : marks mk 0 m ++ marks mk m n = marks mk 0 (m + n) := by
  induction n with
  | zero => simp [marks]
  | succ n ih => rw [marks_succ, ← List.append_assoc, ih, ← Nat.add_assoc, marks_succ]; simp
theorem marks_at (mk : Int → α) (m k : Nat) (hk : k < m) : (marks mk 0 m)[k]? = some (mk (k : Int)) := by
  unfold marks; rw [List.getElem?_map, List.getElem?_range hk]; simp
theorem mark_core {E : Enc α} {T : TypeId} (ok : EncOk P E T) (hby : E.bytes ≤ 1000) (mk : Int → α) (f m : Nat) (hf : f + m ≤ 100000000) {w : World} {K : Value → World → Prop}
    (k : ∀ (s' : Sl) (w' : World), Ow E w' s' (marks mk f m) → Chg No w w' → (∀ j, s'.blk = some j → w.heap.size ≤ j) → K s'.val w') :
    ∃ (I1 : Sl → Int → World → Prop) (μ1 : Sl → Int → World → Nat), I1 (⟨none, 0, 0⟩ : Sl) (f : Int) w ∧ ∀ (out6 : Sl) (k5 : Int) (w4 : World), I1 out6 k5 w4 →
      brB (decide (k5 < (wr ((f : Int) + (m : Int)))))
      (∀ (b7 : Nat) (w8 : World), b7 = w4.heap.size → w8 = World.alloc w4 (.cells (E.e (mk k5)).toArray E.t) →
        ∃ s9 : Sl, ∃ w10 : World, (Builtin.append_ #[T, T] T #[out6.val, .slice (some ⟨b7, 0, none⟩) 1 1]).run P w8 = .ok (s9.val) w10 ∧
        I1 s9 (wr (k5 + (1 : Int))) w10 ∧ μ1 s9 (wr (k5 + (1 : Int))) w10 < μ1 out6 k5 w4)
      (K (out6.val) w4) := by
  refine ⟨fun o n w' => ∃ j : Nat, n = ((f + j : Nat) : Int) ∧ j ≤ m ∧ Ow E w' o (marks mk f j) ∧ (∀ j, o.blk = some j → w.heap.size ≤ j) ∧ Chg No w w', fun o n _ => f + m - n.toNat, ⟨0, rfl, Nat.zero_le _, Ow.nil _ _, (fun k hk => by cases hk), Chg.refl _ _⟩, ?_⟩
  rintro o n w4 ⟨j, rfl, hj, ho, hob, hc⟩
  rw [wr_of (x := (f : Int) + m) (by omega) (by omega)]
  refine brB_of (fun hlt => ?_) (fun hlt => ?_)
  · have hlt : j < m := by simp at hlt; omega
    intro b7 w8 hb hw
    have c8 : Chg No w4 w8 := by rw [hw]; exact Chg.alloc _ _ _
    have hlit : Ow E w8 ⟨some ⟨b7, 0, none⟩, 1, 1⟩ [mk ((f + j : Nat) : Int)] := by
      rw [hw, hb]
      exact Ow.lit w4 [mk ((f + j : Nat) : Int)] (E.e (mk ((f + j : Nat) : Int))) (by rw [fl_one]) (by show 1 ≤ maxLen; unfold maxLen; omega)
    have hml := marks_len mk f j
    refine app_ok ok rfl rfl (ho.no c8) hlit.rd (by
      rw [hml]
      have : (j + 1) * E.bytes ≤ 100000000 * 1000 := Nat.mul_le_mul (by omega) hby
      show (j + 1) * E.bytes ≤ _; omega) (by rw [hml]; show j + 1 ≤ _; unfold maxLen; omega) ?_
    intro o' w10 ho' c10 hbk
    have s4 := hc.size
    have s8 := c8.size
    rw [wr_of (by omega) (by omega)]
    refine ⟨⟨j + 1, by omega, by omega, by rw [marks_succ]; exact ho', fun i hi => ?_, ?_⟩, ?_⟩
    · rcases hbk with hh | hh
      · rw [hh] at hi; exact hob i hi
      · have := Option.some.inj (hh.symm.trans hi); omega
    · exact (hc.trans c8 (U := No) (fun _ _ h => h) (fun _ _ h => h)).trans c10 (fun _ _ h => h) (fun i hi he => by have := hob i he; omega)
    · show f + m - Int.toNat (((f + j : Nat) : Int) + 1) < f + m - Int.toNat ((f + j : Nat) : Int); omega
  · have hlt : j = m := by simp at hlt; omega
    subst hlt
    exact k o w4 ho hc hob
/-- What is asked of a kind's SameX and markX. -/
def SameOk (P : Program) (E : Enc α) (fS : FuncId) : Prop := ∀ (s t : Sl) (xs : List α) (w : World), Rd E w s xs → Rd E w t xs → Calls P fS #[s.val, t.val] w fun e w' => e = .returned (.bool true) ∧ Chg No w w'
def MarkOk (P : Program) (E : Enc α) (mk : Int → Int → α) (fM : FuncId) : Prop := ∀ (i f m : Nat) (w : World), i ≤ 100000 → f + m ≤ 100000000 → Calls P fM #[.int .i64 i, .int .i64 f, .int .i64 m] w fun e w' => ∃ s : Sl, e = .returned s.val ∧ Ow E w' s (marks (mk i) f m) ∧ Chg No w w' ∧ (∀ j, s.blk = some j → w.heap.size ≤ j)
theorem sl_cell {eT : TypeId} {w : World} {A : Sl} {ls : List Sl} (h : Rd (slE eT) w A ls) {i : Nat} {s : Sl} (hs : ls[i]? = some s) : ∃ a, A.ptr = some a ∧ 0 ≤ (i : Int) ∧ (i : Int) < (A.len : Int) ∧ w.cell? (a.add ((i : Int).toNat * 1)) = some s.val := by
  have hlt : i < ls.length := (List.getElem?_eq_some_iff.1 hs).1
  obtain ⟨a, ha, hc⟩ := h.at hs
  have e0 : ∀ q : Addr, q.add 0 = q := fun q => by unfold Addr.add; simp
  have := hc 0 _ rfl
  rw [e0] at this
  exact ⟨a, ha, by omega, by rw [h.len]; omega, by rw [Int.toNat_natCast]; exact this⟩
theorem still_core {E : Enc α} {eT : TypeId} {fS : FuncId} (hS : SameOk P E fS) {w : World} {b o : Nat} {A Bs : Sl} {ls was : List Sl} {xss : List (List α)} (hA : w.cell? ⟨b, o, none⟩ = some A.val) (hB : w.cell? ⟨b, o + 1, none⟩ = some Bs.val)
    (rA : Rd (slE eT) w A ls) (rB : Rd (slE eT) w Bs was) (hl : ls.length = xss.length) (hw : was.length = xss.length) (hsm : ls.length ≤ 100000)
    (r1 : ∀ (i : Nat) (s : Sl) (xs : List α), ls[i]? = some s → xss[i]? = some xs → Rd E w s xs) (r2 : ∀ (i : Nat) (s : Sl) (xs : List α), was[i]? = some s → xss[i]? = some xs → Rd E w s xs) {K : Value → World → Prop} (k : ∀ w', Chg No w w' → K (.bool true) w') :
    ∃ (I1 : Int → World → Prop) (μ1 : Int → World → Nat), I1 (0 : Int) w ∧ ∀ (i3 : Int) (w2 : World), I1 i3 w2 →
      ∃ s4 : Sl, w2.cell? ⟨b, o, none⟩ = some (s4.val) ∧
      brB (decide (i3 < (s4.len : Int)))
      (∀ w5 : World, w5 = World.drew w2 →
      ∃ s6 : Sl, held (Lw w5) ⟨b, o, none⟩ (s6.val) ∧
      ∃ a7 : Addr, s6.ptr = some a7 ∧ 0 ≤ i3 ∧ i3 < (s6.len : Int) ∧
      ∃ s8 : Sl, held (Lw w5) (Addr.add a7 (Int.toNat i3 * 1)) (s8.val) ∧
      ∃ s9 : Sl, held (Lw w5) ⟨b, o + 1, none⟩ (s9.val) ∧
      ∃ a10 : Addr, s9.ptr = some a10 ∧ 0 ≤ i3 ∧ i3 < (s9.len : Int) ∧
      ∃ s11 : Sl, held (Lw w5) (Addr.add a10 (Int.toNat i3 * 1)) (s11.val) ∧
      Calls P fS #[s8.val, s11.val] w5 fun e12 w13 => ∃ b14 : Bool, e12 = .returned (.bool b14) ∧
      brB (!b14)
      (K (.bool false) w13)
      (I1 (wr (i3 + (1 : Int))) w13 ∧ μ1 (wr (i3 + (1 : Int))) w13 < μ1 i3 w2))
      (K (.bool true) w2) := by
  refine ⟨fun n w' => ∃ j : Nat, n = j ∧ j ≤ ls.length ∧ Chg No w w', fun n _ => ls.length - n.toNat, ⟨0, rfl, Nat.zero_le _, Chg.refl _ _⟩, ?_⟩
  rintro n w2 ⟨j, rfl, hj, hc⟩
  have hlen := rA.len
  refine ⟨A, hc.cell hA (fun h => h), brB_of (fun hlt => ?_) (fun hlt => k w2 hc)⟩
  have hlt : j < ls.length := by simp at hlt; omega
  intro w5 hw5
  have c5 : Chg No w w5 := hc.trans (by rw [hw5]; exact Chg.drew No _) (fun _ _ h => h) (fun _ _ h => h)
  obtain ⟨s, hs⟩ : ∃ s, ls[j]? = some s := ⟨_, List.getElem?_eq_getElem hlt⟩
  obtain ⟨t, ht⟩ : ∃ t, was[j]? = some t := ⟨_, List.getElem?_eq_getElem (by omega)⟩
  obtain ⟨xs, hxs⟩ : ∃ xs, xss[j]? = some xs := ⟨_, List.getElem?_eq_getElem (by omega)⟩
  obtain ⟨a, ha, h0, h1, hcell⟩ := sl_cell (rA.no c5) hs
  obtain ⟨a', ha', h0', h1', hcell'⟩ := sl_cell (rB.no c5) ht
  refine ⟨A, held_Lw (c5.cell hA (fun h => h)), a, ha, h0, h1, s, held_Lw hcell, Bs, held_Lw (c5.cell hB (fun h => h)), a', ha', h0', h1', t, held_Lw hcell', ?_⟩
  refine (hS s t xs w5 ((r1 j s xs hs hxs).no c5) ((r2 j t xs ht hxs).no c5)).mono ?_
  rintro e w13 ⟨rfl, c13⟩
  refine ⟨true, rfl, brB_f ?_⟩
  rw [wr_of (by omega) (by omega)]
  exact ⟨⟨j + 1, by omega, by omega, c5.trans c13 (fun _ _ h => h) (fun _ _ h => h)⟩, by show ls.length - Int.toNat ((j : Int) + 1) < ls.length - Int.toNat (j : Int); omega⟩
theorem marked_core {E : Enc α} {eT : TypeId} {fS fM : FuncId} {mk : Int → Int → α} (hS : SameOk P E fS) (hM : MarkOk P E mk fM) {w : World} {A : Sl} {ls : List Sl} (rA : Rd (slE eT) w A ls) (hsm : ls.length ≤ 100000)
    (r1 : ∀ (i : Nat) (s : Sl), ls[i]? = some s → s.len ≤ 100000000 ∧ Rd E w s (marks (mk i) 0 s.len)) {K : Value → World → Prop} (k : ∀ w', Chg No w w' → K (.bool true) w') :
    ∃ (I1 : Int → World → Prop) (μ1 : Int → World → Nat), I1 (0 : Int) w ∧ ∀ (i3 : Int) (w2 : World), I1 i3 w2 →
      brB (decide (i3 < (A.len : Int)))
      (∀ w4 : World, w4 = World.drew w2 →
      ∃ S5 : World → Prop, S5 w4 ∧
      ∃ a6 : Addr, A.ptr = some a6 ∧ 0 ≤ i3 ∧ i3 < (A.len : Int) ∧
      ∃ s7 : Sl, held S5 (Addr.add a6 (Int.toNat i3 * 1)) (s7.val) ∧
      ∃ a8 : Addr, A.ptr = some a8 ∧ 0 ≤ i3 ∧ i3 < (A.len : Int) ∧
      ∃ s9 : Sl, held S5 (Addr.add a8 (Int.toNat i3 * 1)) (s9.val) ∧
      Calls P fM #[.int .i64 i3, .int .i64 (0 : Int), .int .i64 (s9.len : Int)] w4 fun e10 w11 => ∃ s12 : Sl, e10 = .returned (s12.val) ∧
      S5 w11 ∧
      Calls P fS #[s7.val, s12.val] w11 fun e13 w14 => ∃ b15 : Bool, e13 = .returned (.bool b15) ∧
      brB (!b15)
      (K (.bool false) w14)
      (I1 (wr (i3 + (1 : Int))) w14 ∧ μ1 (wr (i3 + (1 : Int))) w14 < μ1 i3 w2))
      (K (.bool true) w2) := by
  refine ⟨fun n w' => ∃ j : Nat, n = j ∧ j ≤ ls.length ∧ Chg No w w', fun n _ => ls.length - n.toNat, ⟨0, rfl, Nat.zero_le _, Chg.refl _ _⟩, ?_⟩
  rintro n w2 ⟨j, rfl, hj, hc⟩
  have hlen := rA.len
  refine brB_of (fun hlt => ?_) (fun hlt => k w2 hc)
  have hlt : j < ls.length := by simp at hlt; omega
  intro w4 hw4
  have c4 : Chg No w w4 := hc.trans (by rw [hw4]; exact Chg.drew No _) (fun _ _ h => h) (fun _ _ h => h)
  obtain ⟨s, hs⟩ : ∃ s, ls[j]? = some s := ⟨_, List.getElem?_eq_getElem hlt⟩
  obtain ⟨hsl, hr⟩ := r1 j s hs
  obtain ⟨a, ha, h0, h1, _⟩ := sl_cell (rA.no c4) hs
  have hh : held (fun w' => Chg No w w') (Addr.add a ((j : Int).toNat * 1)) s.val := fun w' hw' => by
    obtain ⟨a2, ha2, _, _, hcell⟩ := sl_cell (rA.no hw') hs
    rw [ha] at ha2; cases ha2; exact hcell
  refine ⟨fun w' => Chg No w w', c4, a, ha, h0, h1, s, hh, a, ha, h0, h1, s, hh, ?_⟩
  refine (hM j 0 s.len w4 (by omega) (by omega)).mono ?_
  rintro e w11 ⟨s12, rfl, h12, c11, _⟩
  have cw11 : Chg No w w11 := c4.trans c11 (fun _ _ h => h) (fun _ _ h => h)
  refine ⟨s12, rfl, cw11, ?_⟩
  refine (hS s s12 _ w11 (hr.no cw11) h12.rd).mono ?_
  rintro e w14 ⟨rfl, c14⟩
  refine ⟨true, rfl, brB_f ?_⟩
  rw [wr_of (by omega) (by omega)]
  exact ⟨⟨j + 1, by omega, by omega, cw11.trans c14 (fun _ _ h => h) (fun _ _ h => h)⟩, by show ls.length - Int.toNat ((j : Int) + 1) < ls.length - Int.toNat (j : Int); omega⟩
end Go.Proofs.Ytgffaimgnmfifaa

/- The book of lists: each list is marked (putX), over any kind. -/
set_option maxRecDepth 100000
namespace Go.Proofs.Ytgffaimgnmfifaa
open Go.RowKit

variable {α : Type} {P : Program}
/-- The blocks of these lists. -/
def blksOf (ls : List Sl) : Nat → Prop := fun k => ∃ (i : Nat) (s : Sl), ls[i]? = some s ∧ s.blk = some k
theorem marks_set (mk : Int → α) (xs : List α) (q : Nat) (hq : q < xs.length) : (marks mk 0 q ++ xs.drop q).set q (mk (q : Int)) = marks mk 0 (q + 1) ++ xs.drop (q + 1) := by
  have hl := marks_len mk 0 q
  rw [List.set_append_right _ _ (by omega), hl, Nat.sub_self, marks_succ, List.append_assoc, Nat.zero_add]
  congr 1
  rw [List.drop_eq_getElem_cons hq]; rfl
theorem put_core {E : Enc α} {eT : TypeId} {fM : FuncId} {mk : Int → Int → α} {Q : (World → Prop) → Addr → (List Value → Prop) → Prop} (hQ : ∀ (w : World) (p : Addr) (x : α) (F : List Value → Prop), (∀ (j : Nat) (u : Value), (E.e x)[j]? = some u → w.cell? (p.add j) = some u) → F (E.e x) → Q (Lw w) p F)
    {ls : List Sl} (hM : ls = [] ∨ MarkOk P E mk fM) {w : World} {b o : Nat} {A : Sl} {xss : List (List α)} (hA : w.cell? ⟨b, o, none⟩ = some A.val) (rA : Rd (slE eT) w A ls) (hl : ls.length = xss.length) (hsm : ls.length ≤ 100000)
    (h1 : ∀ (i : Nat) (s : Sl) (xs : List α), ls[i]? = some s → xss[i]? = some xs → Ox E w s xs ∧ xs.length ≤ 10000000)
    (dis : ∀ (i j : Nat) (s t : Sl) (k : Nat), ls[i]? = some s → ls[j]? = some t → s.blk = some k → t.blk = some k → i = j) (hb : ¬ blksOf ls b) (hAb : ∀ k, A.blk = some k → ¬ blksOf ls k) {K : Value → World → Prop}
    (k : ∀ w', (∀ (i : Nat) (s : Sl), ls[i]? = some s → Ox E w' s (marks (mk i) 0 s.len)) → Chg (blksOf ls) w w' → K (.tuple #[]) w') :
    ∃ (I1 : Int → World → Prop) (μ1 : Int → World → Nat), I1 (0 : Int) w ∧ ∀ (i3 : Int) (w2 : World), I1 i3 w2 →
      ∃ s4 : Sl, w2.cell? ⟨b, o, none⟩ = some (s4.val) ∧
      brB (decide (i3 < (s4.len : Int)))
      (∃ s5 : Sl, w2.cell? ⟨b, o, none⟩ = some (s5.val) ∧
      ∃ a6 : Addr, s5.ptr = some a6 ∧ 0 ≤ i3 ∧ i3 < (s5.len : Int) ∧
      ∃ s7 : Sl, w2.cell? (Addr.add a6 (Int.toNat i3 * 1)) = some (s7.val) ∧
      Calls P fM #[.int .i64 i3, .int .i64 (0 : Int), .int .i64 (s7.len : Int)] w2 fun e8 w9 => ∃ s10 : Sl, e8 = .returned (s10.val) ∧
      ∃ (I2 : Int → World → Prop) (μ2 : Int → World → Nat), I2 (0 : Int) w9 ∧ ∀ (k12 : Int) (w11 : World), I2 k12 w11 →
      brB (decide (k12 < (s10.len : Int)))
      (∀ w13 : World, w13 = World.drew w11 →
      ∃ s14 : Sl, held (Lw w13) ⟨b, o, none⟩ (s14.val) ∧
      ∃ a15 : Addr, s14.ptr = some a15 ∧ 0 ≤ i3 ∧ i3 < (s14.len : Int) ∧
      ∃ s16 : Sl, held (Lw w13) (Addr.add a15 (Int.toNat i3 * 1)) (s16.val) ∧
      ∃ a17 : Addr, s10.ptr = some a17 ∧ 0 ≤ k12 ∧ k12 < (s10.len : Int) ∧
      Q (Lw w13) (Addr.add a17 (Int.toNat k12 * E.sz)) fun cs =>
      ∃ a22 : Addr, s16.ptr = some a22 ∧ 0 ≤ k12 ∧ k12 < (s16.len : Int) ∧
      wrOk w13 (Addr.add a22 (Int.toNat k12 * E.sz)) E.sz ∧ ∀ w23 : World, w23 = stW w13 (Addr.add a22 (Int.toNat k12 * E.sz)) 0 cs →
      I2 (wr (k12 + (1 : Int))) w23 ∧ μ2 (wr (k12 + (1 : Int))) w23 < μ2 k12 w11)
      (I1 (wr (i3 + (1 : Int))) w11 ∧ μ1 (wr (i3 + (1 : Int))) w11 < μ1 i3 w2))
      (K (.tuple #[]) w2) := by
  have hlen := rA.len
  have lenOf : ∀ (i : Nat) (s : Sl) (xs : List α), ls[i]? = some s → xss[i]? = some xs → s.len = xs.length := fun i s xs hs hxs => (h1 i s xs hs hxs).1.rd.len
  refine ⟨fun n w' => ∃ j : Nat, n = j ∧ j ≤ ls.length ∧ (∀ (i : Nat) (s : Sl), i < j → ls[i]? = some s → Ox E w' s (marks (mk i) 0 s.len)) ∧ (∀ (i : Nat) (s : Sl) (xs : List α), j ≤ i → ls[i]? = some s → xss[i]? = some xs → Ox E w' s xs) ∧ Chg (blksOf ls) w w', fun n _ => ls.length - n.toNat, ⟨0, rfl, Nat.zero_le _, fun i s h => by omega, fun i s xs _ hs hxs => (h1 i s xs hs hxs).1, Chg.refl _ _⟩, ?_⟩
  rintro n w2 ⟨j, rfl, hj, hdone, htodo, hc⟩
  have rA2 : ∀ w', Chg (blksOf ls) w w' → Rd (slE eT) w' A ls := fun w' hw' => rA.chg hw' hAb
  have cA2 : ∀ w', Chg (blksOf ls) w w' → w'.cell? ⟨b, o, none⟩ = some A.val := fun w' hw' => hw'.cell hA hb
  refine ⟨A, cA2 w2 hc, brB_of (fun hlt => ?_) (fun hlt => ?_)⟩
  · have hlt : j < ls.length := by simp at hlt; omega
    have hM' : MarkOk P E mk fM := hM.resolve_left fun e => by rw [e] at hlt; simp at hlt
    obtain ⟨s, hs⟩ : ∃ s, ls[j]? = some s := ⟨_, List.getElem?_eq_getElem hlt⟩
    obtain ⟨xs, hxs⟩ : ∃ xs, xss[j]? = some xs := ⟨_, List.getElem?_eq_getElem (by omega)⟩
    have hsl := lenOf j s xs hs hxs
    have hxl := (h1 j s xs hs hxs).2
    obtain ⟨a, ha, h0, hlt', hcell⟩ := sl_cell (rA2 w2 hc) hs
    refine ⟨A, cA2 w2 hc, a, ha, h0, hlt', s, hcell, ?_⟩
    refine (hM' j 0 s.len w2 (by omega) (by omega)).mono ?_
    rintro e w9 ⟨s10, rfl, h10, c9, f10⟩
    have hl10 : s10.len = xs.length := by rw [h10.rd.len, marks_len, hsl]
    have cw9 : Chg (blksOf ls) w w9 := hc.trans c9 (fun _ _ h => h) (fun _ _ h => h.elim)
    have hs9 := hc.size
    have old : ∀ k, blksOf ls k → k < w.heap.size := by
      rintro k ⟨i, t, ht, hk⟩
      obtain ⟨ys, hys⟩ : ∃ ys, xss[i]? = some ys := ⟨_, List.getElem?_eq_getElem (by have := (List.getElem?_eq_some_iff.1 ht).1; omega)⟩
      exact (h1 i t ys ht hys).1.lt k hk
    refine ⟨s10, rfl, ?_⟩
    refine ⟨fun n w' => ∃ q : Nat, n = q ∧ q ≤ xs.length ∧ Ox E w' s (marks (mk j) 0 q ++ xs.drop q) ∧ Rd E w' s10 (marks (mk j) 0 s.len) ∧ (∀ (i : Nat) (t : Sl), i < j → ls[i]? = some t → Ox E w' t (marks (mk i) 0 t.len)) ∧ (∀ (i : Nat) (t : Sl) (ys : List α), j + 1 ≤ i → ls[i]? = some t → xss[i]? = some ys → Ox E w' t ys) ∧ Chg (blksOf ls) w w', fun n _ => xs.length - n.toNat,
      ⟨0, rfl, Nat.zero_le _, (htodo j s xs (Nat.le_refl _) hs hxs).no c9, h10.rd, fun i t hi ht => (hdone i t hi ht).no c9, fun i t ys hi ht hys => (htodo i t ys (by omega) ht hys).no c9, cw9⟩, ?_⟩
    rintro n w11 ⟨q, rfl, hq, hox, hr10, hd, ht, hcc⟩
    refine brB_of (fun hlt2 => ?_) (fun hlt2 => ?_)
    · have hlt2 : q < xs.length := by simp at hlt2; omega
      intro w13 hw13
      have c13 : Chg No w11 w13 := by rw [hw13]; exact Chg.drew _ _
      have cc13 : Chg (blksOf ls) w w13 := hcc.trans c13 (fun _ _ h => h) (fun _ _ h => h.elim)
      obtain ⟨a2, ha2, h02, hlt3, hcell2⟩ := sl_cell (rA2 w13 cc13) hs
      refine ⟨A, held_Lw (cA2 w13 cc13), a2, ha2, h02, hlt3, s, held_Lw hcell2, ?_⟩
      have hmq : (marks (mk j) 0 s.len)[q]? = some (mk j q) := marks_at _ _ _ (by omega)
      refine (hr10.no c13).ix (i := (q : Int)) (by omega) (by rw [Int.toNat_natCast]; exact hmq) fun a17 ha17 hc17 => hQ w13 _ (mk j q) _ hc17 ?_
      have hox13 := hox.no c13
      have hml := marks_len (mk j) 0 q
      have hlen2 : (marks (mk j) 0 q ++ xs.drop q).length = xs.length := by rw [List.length_append, hml, List.length_drop]; omega
      have hsp : ∃ a22, s.ptr = some a22 := by
        obtain ⟨y, hy⟩ : ∃ y, (marks (mk j) 0 q ++ xs.drop q)[q]? = some y := ⟨_, List.getElem?_eq_getElem (by omega)⟩
        obtain ⟨a22, ha22, _⟩ := hox13.rd.at hy
        exact ⟨a22, ha22⟩
      obtain ⟨a22, ha22⟩ := hsp
      obtain ⟨hwr, hset⟩ := hox13.set ha22 (k := q) (by omega) (mk j q)
      rw [marks_set _ _ _ hlt2] at hset
      refine ⟨a22, ha22, by omega, by omega, by rw [Int.toNat_natCast]; exact hwr, ?_⟩
      intro w23 hw23
      rw [Int.toNat_natCast] at hw23
      rw [← hw23] at hset
      have hbs := blk_ptr ha22
      have c23 : Chg (fun k => k = a22.block) w13 w23 := by rw [hw23]; exact Chg.st (S := fun k => k = a22.block) (by rw [add_block])
      have hin : blksOf ls a22.block := ⟨j, s, hs, hbs⟩
      rw [wr_of (by omega) (by omega)]
      refine ⟨⟨q + 1, by omega, by omega, hset, (hr10.no c13).chg c23 (fun i hi he => ?_), fun i t hi ht' => ((hd i t hi ht').no c13).chg c23 (fun m hm he => ?_), fun i t ys hi ht' hys => ((ht i t ys hi ht' hys).no c13).chg c23 (fun m hm he => ?_), ?_⟩, by show xs.length - Int.toNat ((q : Int) + 1) < xs.length - Int.toNat (q : Int); omega⟩
      · have := f10 i hi; have := old _ hin; omega
      · have := dis i j t s m ht' hs hm (by rw [he]; exact hbs); omega
      · have := dis i j t s m ht' hs hm (by rw [he]; exact hbs); omega
      · exact cc13.trans c23 (fun _ _ h => h) (fun m _ hm => by rw [hm]; exact hin)
    · have hlt2 : q = xs.length := by simp at hlt2; omega
      subst hlt2
      rw [List.drop_length, List.append_nil, ← hsl] at hox
      rw [wr_of (by omega) (by omega)]
      refine ⟨⟨j + 1, by omega, by omega, fun i t hi ht' => ?_, ht, hcc⟩, by show ls.length - Int.toNat ((j : Int) + 1) < ls.length - Int.toNat (j : Int); omega⟩
      rcases Nat.lt_succ_iff_lt_or_eq.1 hi with hh | rfl
      · exact hd i t hh ht'
      · rw [hs] at ht'; cases ht'; exact hox
  · have hlt : j = ls.length := by simp at hlt; omega
    subst hlt
    exact k w2 (fun i s hs => hdone i s (List.getElem?_eq_some_iff.1 hs).1 hs) hc
end Go.Proofs.Ytgffaimgnmfifaa

/- The book of lists: each list is grown (growX), over any kind. -/
set_option maxRecDepth 100000
namespace Go.Proofs.Ytgffaimgnmfifaa
open Go.RowKit

variable {α : Type} {P : Program}
/-- A grown form of list s (which reads marks): what it reads, where it lies. -/
theorem grow_core {E : Enc α} {T TT : TypeId} {fM : FuncId} {mk : Int → Int → α} (ok : EncOk P E T) (okk : EncOk P (slE T) TT) (hby : E.bytes ≤ 1000)
    {ls : List Sl} (hM : ls = [] ∨ MarkOk P E mk fM) {w : World} {b o : Nat} {A : Sl} (hA : w.cell? ⟨b, o, none⟩ = some A.val) (rA : Rd (slE T) w A ls) (hsm : ls.length ≤ 100000)
    (h1 : ∀ (i : Nat) (s : Sl), ls[i]? = some s → Ox E w s (marks (mk i) 0 s.len) ∧ s.len ≤ 10000000)
    (dis : ∀ (i j : Nat) (s t : Sl) (k : Nat), ls[i]? = some s → ls[j]? = some t → s.blk = some k → t.blk = some k → i = j) (hb : ¬ blksOf ls b) (hAb : ∀ k, A.blk = some k → ¬ blksOf ls k) {K : Value → World → Prop}
    (k : ∀ (out : Sl) (outs : List Sl) (w' : World), Rd (slE T) w' out outs → outs.length = ls.length → (∀ (i : Nat) (t : Sl), outs[i]? = some t → t.len ≤ 20000000 ∧ Rd E w' t (marks (mk i) 0 t.len)) → (∀ (i : Nat) (s : Sl), ls[i]? = some s → Rd E w' s (marks (mk i) 0 s.len)) → Chg (blksOf ls) w w' → K out.val w') :
    ∃ (I1 : Sl → Int → World → Prop) (μ1 : Sl → Int → World → Nat), I1 (⟨none, 0, 0⟩ : Sl) (0 : Int) w ∧ ∀ (out16 : Sl) (i3 : Int) (w2 : World), I1 out16 i3 w2 →
      ∃ s4 : Sl, w2.cell? ⟨b, o, none⟩ = some (s4.val) ∧
      brB (decide (i3 < (s4.len : Int)))
      (∃ s5 : Sl, w2.cell? ⟨b, o, none⟩ = some (s5.val) ∧
      ∃ a6 : Addr, s5.ptr = some a6 ∧ 0 ≤ i3 ∧ i3 < (s5.len : Int) ∧
      ∃ s7 : Sl, w2.cell? (Addr.add a6 (Int.toNat i3 * 1)) = some (s7.val) ∧
      ∃ (I2 : Sl → Int → World → Prop) (μ2 : Sl → Int → World → Nat), I2 s7 (0 : Int) w2 ∧ ∀ (l10 : Sl) (n9 : Int) (w8 : World), I2 l10 n9 w8 →
      brB (decide (n9 < (12 : Int)))
      (Calls P fM #[.int .i64 i3, .int .i64 (l10.len : Int), .int .i64 (1 : Int)] w8 fun e11 w12 => ∃ s13 : Sl, e11 = .returned (s13.val) ∧
      ∃ s14 : Sl, ∃ w15 : World, (Builtin.append_ #[T, T] T #[l10.val, s13.val]).run P w12 = .ok (s14.val) w15 ∧
      I2 s14 (wr (n9 + (1 : Int))) w15 ∧ μ2 s14 (wr (n9 + (1 : Int))) w15 < μ2 l10 n9 w8)
      (Calls P fM #[.int .i64 i3, .int .i64 (l10.len : Int), .int .i64 (60 : Int)] w8 fun e17 w18 => ∃ s19 : Sl, e17 = .returned (s19.val) ∧
      ∃ s20 : Sl, ∃ w21 : World, (Builtin.append_ #[T, T] T #[l10.val, s19.val]).run P w18 = .ok (s20.val) w21 ∧
      ∀ (b22 : Nat) (w23 : World), b22 = w21.heap.size → w23 = World.alloc w21 (.cells #[s20.val] T) →
      ∃ s24 : Sl, ∃ w25 : World, (Builtin.append_ #[TT, TT] TT #[out16.val, .slice (some ⟨b22, 0, none⟩) 1 1]).run P w23 = .ok (s24.val) w25 ∧
      I1 s24 (wr (i3 + (1 : Int))) w25 ∧ μ1 s24 (wr (i3 + (1 : Int))) w25 < μ1 out16 i3 w2))
      (K (out16.val) w2) := by
  have hlen := rA.len
  have old : ∀ k, blksOf ls k → k < w.heap.size := by
    rintro k ⟨i, t, ht, hk⟩; exact (h1 i t ht).1.lt k hk
  refine ⟨fun out n w' => ∃ (j : Nat) (outs : List Sl), n = j ∧ j ≤ ls.length ∧ outs.length = j ∧ Ow (slE T) w' out outs ∧ (∀ k, out.blk = some k → w.heap.size ≤ k) ∧
      (∀ (i : Nat) (t : Sl), outs[i]? = some t → t.len ≤ 20000000 ∧ Rd E w' t (marks (mk i) 0 t.len) ∧ (∀ k, t.blk = some k → k < w'.heap.size ∧ out.blk ≠ some k ∧ ((∃ s, ls[i]? = some s ∧ s.blk = some k) ∨ w.heap.size ≤ k))) ∧
      (∀ (i : Nat) (s : Sl), i < j → ls[i]? = some s → Rd E w' s (marks (mk i) 0 s.len)) ∧ (∀ (i : Nat) (s : Sl), j ≤ i → ls[i]? = some s → Ox E w' s (marks (mk i) 0 s.len)) ∧ Chg (blksOf ls) w w', fun _ n _ => ls.length - n.toNat,
    ⟨0, [], rfl, Nat.zero_le _, rfl, Ow.nil _ _, (fun k hk => by cases hk), (fun i t hi => by simp at hi), fun i s h => by omega, fun i s _ hs => (h1 i s hs).1, Chg.refl _ _⟩, ?_⟩
  rintro out n w2 ⟨j, outs, rfl, hj, hol, ho, hob, hos, hdone, htodo, hc⟩
  have rA2 : ∀ w', Chg (blksOf ls) w w' → Rd (slE T) w' A ls := fun w' hw' => rA.chg hw' hAb
  have cA2 : ∀ w', Chg (blksOf ls) w w' → w'.cell? ⟨b, o, none⟩ = some A.val := fun w' hw' => hw'.cell hA hb
  refine ⟨A, cA2 w2 hc, brB_of (fun hlt => ?_) (fun hlt => ?_)⟩
  · have hlt : j < ls.length := by simp at hlt; omega
    have hM' : MarkOk P E mk fM := hM.resolve_left fun e => by rw [e] at hlt; simp at hlt
    obtain ⟨s, hs⟩ : ∃ s, ls[j]? = some s := ⟨_, List.getElem?_eq_getElem hlt⟩
    obtain ⟨a, ha, h0, hlt', hcell⟩ := sl_cell (rA2 w2 hc) hs
    have hsmall := (h1 j s hs).2
    have s2 := hc.size
    have bs : ∀ k, s.blk = some k → blksOf ls k := fun k hk => ⟨j, s, hs, hk⟩
    refine ⟨A, cA2 w2 hc, a, ha, h0, hlt', s, hcell, ?_⟩
    -- what holds while list j grows: l reads d marks more; s still reads; only s's block and new ones are touched
    have hI : ∀ (d : Nat) (l : Sl) (w8 : World), (Ox E w8 l (marks (mk j) 0 (s.len + d)) ∧ Rd E w8 s (marks (mk j) 0 s.len) ∧ (l.blk = s.blk ∧ l.ptr = s.ptr ∧ l.cap = s.cap ∨ ∀ k, l.blk = some k → w2.heap.size ≤ k) ∧ Chg (fun k => s.blk = some k) w2 w8) → s.len + d ≤ 15000000 →
        ∀ (m : Nat), m ≤ 60 → 0 < m → ∀ {G : Sl → World → Prop}, (∀ (s14 : Sl) (w15 : World), (Ox E w15 s14 (marks (mk j) 0 (s.len + (d + m))) ∧ Rd E w15 s (marks (mk j) 0 s.len) ∧ (s14.blk = s.blk ∧ s14.ptr = s.ptr ∧ s14.cap = s.cap ∨ ∀ k, s14.blk = some k → w2.heap.size ≤ k) ∧ Chg (fun k => s.blk = some k) w2 w15) → G s14 w15) →
        Calls P fM #[.int .i64 j, .int .i64 (l.len : Int), .int .i64 (m : Int)] w8 fun e11 w12 => ∃ s13 : Sl, e11 = .returned (s13.val) ∧ ∃ s14 : Sl, ∃ w15 : World, (Builtin.append_ #[T, T] T #[l.val, s13.val]).run P w12 = .ok (s14.val) w15 ∧ G s14 w15 := by
      rintro d l w8 ⟨hx, hrs, hbl, hch⟩ hd m hm hm0 G hG
      have hll : l.len = s.len + d := by rw [hx.rd.len, marks_len]
      rw [hll]
      refine (hM' j (s.len + d) m w8 (by omega) (by omega)).mono ?_
      rintro e w12 ⟨s13, rfl, h13, c12, f13⟩
      refine ⟨s13, rfl, ?_⟩
      have hml := marks_len (mk j) 0 (s.len + d)
      have hml2 := marks_len (mk j) (s.len + d) m
      obtain ⟨y, hy⟩ : ∃ y, (marks (mk j) (s.len + d) m)[0]? = some y := ⟨_, List.getElem?_eq_getElem (by omega)⟩
      obtain ⟨a13, ha13, _⟩ := h13.rd.at hy
      have s8 := hch.size
      have s12 := c12.size
      refine appk_ok ok rfl rfl (hx.no c12) h13.rd ha13 (fun _ he => by rw [he] at hml2; simp at hml2; omega) (by
        rw [hml, hml2]
        have : (s.len + d + m) * E.bytes ≤ 20000000 * 1000 := Nat.mul_le_mul (by omega) hby
        omega) (by rw [hml, hml2]; unfold maxLen; omega) ?_
      intro s14 w15 h14 c15 _ hroom hkeep hnew
      rw [marks_app, Nat.add_assoc] at h14
      rw [hml, hml2] at hroom hnew
      refine hG s14 w15 ⟨h14, ?_, ?_, ?_⟩
      · rcases hbl with ⟨e1, e2, e3⟩ | e1
        · have h9 := hkeep.take (n := s.len) (by rw [hml]; omega)
          have e9 : (⟨l.ptr, s.len, l.cap⟩ : Sl) = s := by rw [e2, e3]
          rw [e9, ← marks_app, List.take_left' (marks_len _ _ _)] at h9
          exact h9
        · refine (hrs.no c12).chg c15 (fun k hk he => ?_)
          have := e1 k he; have := old k (bs k hk); omega
      · by_cases hr : s.len + d + m ≤ l.cap
        · obtain ⟨e4, e5⟩ := hroom hr
          rcases hbl with ⟨e1, e2, e3⟩ | e1
          · exact Or.inl ⟨by have : s14.blk = l.blk := by { unfold Sl.blk Sl.val; rw [e4]; cases l.ptr <;> rfl }
                             rw [this, e1], e4.trans e2, e5.trans e3⟩
          · right; intro k hk
            refine e1 k ?_
            rw [← hk]; unfold Sl.blk Sl.val; rw [e4]; cases l.ptr <;> rfl
        · right; intro k hk; have := hnew (by omega) k hk; omega
      · refine (hch.trans c12 (U := fun k => s.blk = some k) (fun _ _ h => h) (fun _ _ h => h.elim)).trans c15 (fun _ _ h => h) (fun k hk he => ?_)
        rcases hbl with ⟨e1, _, _⟩ | e1
        · rw [e1] at he; exact he
        · have := e1 k he; omega
    refine ⟨fun l n w' => ∃ d : Nat, n = d ∧ d ≤ 12 ∧ (Ox E w' l (marks (mk j) 0 (s.len + d)) ∧ Rd E w' s (marks (mk j) 0 s.len) ∧ (l.blk = s.blk ∧ l.ptr = s.ptr ∧ l.cap = s.cap ∨ ∀ k, l.blk = some k → w2.heap.size ≤ k) ∧ Chg (fun k => s.blk = some k) w2 w'), fun _ n _ => 12 - n.toNat,
      ⟨0, rfl, by omega, htodo j s (Nat.le_refl _) hs, (htodo j s (Nat.le_refl _) hs).rd, Or.inl ⟨rfl, rfl, rfl⟩, Chg.refl _ _⟩, ?_⟩
    rintro l n w8 ⟨d, rfl, hd, hinv⟩
    refine brB_of (fun hlt2 => ?_) (fun hlt2 => ?_)
    · have hlt2 : d < 12 := by simp at hlt2; omega
      refine hI d l w8 hinv (by omega) 1 (by omega) (by omega) fun s14 w15 h => ?_
      rw [wr_of (by omega) (by omega)]
      exact ⟨⟨d + 1, by omega, by omega, h⟩, by show 12 - Int.toNat ((d : Int) + 1) < 12 - Int.toNat (d : Int); omega⟩
    · have hlt2 : d = 12 := by simp at hlt2; omega
      subst hlt2
      refine hI 12 l w8 hinv (by omega) 60 (by omega) (by omega) fun s20 w21 h => ?_
      obtain ⟨hx, hrs, hbl, hch⟩ := h
      intro b22 w23 hb22 hw23
      have c23 : Chg No w21 w23 := by rw [hw23]; exact Chg.alloc _ _ _
      have hlit : Ow (slE T) w23 ⟨some ⟨b22, 0, none⟩, 1, 1⟩ [s20] := by
        rw [hw23, hb22]
        exact Ow.lit (E := slE T) w21 [s20] ((slE T).e s20) (by rw [fl_one]) (by show 1 ≤ maxLen; unfold maxLen; omega)
      have s21 := hch.size
      have s23 := c23.size
      have ho21 : Ow (slE T) w21 out outs := ho.chg hch (fun k hk he => by have := hob k hk; have := old k (bs k he); omega)
      refine app_ok okk rfl rfl (ho21.no c23) hlit.rd (by rw [hol]; show (j + 1) * 24 ≤ _; omega) (by rw [hol]; show j + 1 ≤ _; unfold maxLen; omega) ?_
      intro s24 w25 h24 c25 hbk
      have s25 := c25.size
      have hl20 : s20.len = s.len + (12 + 60) := by rw [hx.rd.len, marks_len]
      have b20 : ∀ k, s20.blk = some k → k < w21.heap.size ∧ out.blk ≠ some k ∧ ((∃ s, ls[j]? = some s ∧ s.blk = some k) ∨ w.heap.size ≤ k) := by
        intro k hk
        refine ⟨hx.lt k hk, fun he => ?_, ?_⟩
        · have h7 := hob k he
          have h8 := ho.lt he
          rcases hbl with ⟨e1, _, _⟩ | e1
          · have := old k (bs k (e1 ▸ hk)); omega
          · have := e1 k hk; omega
        · rcases hbl with ⟨e1, _, _⟩ | e1
          · exact Or.inl ⟨s, hs, e1 ▸ hk⟩
          · exact Or.inr (by have := e1 k hk; omega)
      have hb24 : ∀ k, k < w23.heap.size → out.blk ≠ some k → s24.blk ≠ some k := by
        intro k hk hne he
        rcases hbk with hh | hh
        · exact hne (hh ▸ he)
        · have := Option.some.inj (hh.symm.trans he); omega
      rw [wr_of (by omega) (by omega)]
      refine ⟨⟨j + 1, outs ++ [s20], by omega, by omega, by rw [List.length_append, hol]; rfl, h24, fun k hk => ?_, fun i t hi => ?_, fun i t hi ht => ?_, fun i t hi ht => ?_, ?_⟩, by show ls.length - Int.toNat ((j : Int) + 1) < ls.length - Int.toNat (j : Int); omega⟩
      · rcases hbk with hh | hh
        · exact hob k (hh ▸ hk)
        · have := Option.some.inj (hh.symm.trans hk); omega
      · by_cases hij : i < j
        · rw [List.getElem?_append_left (by omega)] at hi
          obtain ⟨h5, h6, h7⟩ := hos i t hi
          refine ⟨h5, ((h6.chg hch (fun k hk he => ?_)).no c23).chg c25 (fun k hk he => (h7 k hk).2.1 he), fun k hk => ⟨by have := (h7 k hk).1; omega, hb24 k (by have := (h7 k hk).1; omega) (h7 k hk).2.1, (h7 k hk).2.2⟩⟩
          rcases (h7 k hk).2.2 with ⟨s', hs', hk'⟩ | h9
          · have := dis i j s' s k hs' hs hk' he; omega
          · have := old k (bs k he); omega
        · have hi2 : i = j := by
            have := (List.getElem?_eq_some_iff.1 hi).1
            rw [List.length_append, hol] at this; simp at this; omega
          subst hi2
          rw [List.getElem?_append_right (by omega), hol, Nat.sub_self] at hi
          cases hi
          refine ⟨by omega, ?_, fun k hk => ⟨by have := (b20 k hk).1; omega, hb24 k (by have := (b20 k hk).1; omega) (b20 k hk).2.1, (b20 k hk).2.2⟩⟩
          rw [hl20]
          exact (hx.rd.no c23).chg c25 (fun k hk he => (b20 k hk).2.1 he)
      · have base : Rd E w21 t (marks (mk i) 0 t.len) := by
          rcases Nat.lt_succ_iff_lt_or_eq.1 hi with hh | rfl
          · refine (hdone i t hh ht).chg hch (fun k hk he => ?_)
            have := dis i j t s k ht hs hk he; omega
          · rw [hs] at ht; cases ht; exact hrs
        exact (base.no c23).chg c25 (fun k hk he => by have := hob k he; have := old k ⟨i, t, ht, hk⟩; omega)
      · have base : Ox E w21 t (marks (mk i) 0 t.len) := by
          refine (htodo i t (by omega) ht).chg hch (fun k hk he => ?_)
          have := dis i j t s k ht hs hk he; omega
        exact (base.no c23).chg c25 (fun k hk he => by have := hob k he; have := old k ⟨i, t, ht, hk⟩; omega)
      · have d1 : Chg (blksOf ls) w w21 := hc.trans hch (fun _ _ h => h) (fun k _ hk => bs k hk)
        have d2 : Chg (blksOf ls) w w23 := d1.trans c23 (fun _ _ h => h) (fun _ _ h => h.elim)
        exact d2.trans c25 (fun _ _ h => h) (fun k hk he => by have := hob k he; omega)
  · have hlt : j = ls.length := by simp at hlt; omega
    subst hlt
    exact k out outs w2 ho.rd hol (fun i t hi => ⟨(hos i t hi).1, (hos i t hi).2.1⟩) (fun i s hs => hdone i s (List.getElem?_eq_some_iff.1 hs).1 hs) hc
end Go.Proofs.Ytgffaimgnmfifaa

/- The book of lists over any kind: lists as put in, marked, grown; one more list. -/
set_option maxRecDepth 100000
namespace Go.Proofs.Ytgffaimgnmfifaa
open Go.RowKit

section
variable {α : Type}
/-- A kind's lists in the book b (at cells o, o + 1), as they were put in. -/
structure KB (E : Enc α) (T : TypeId) (w : World) (b o : Nat) (A Bs : Sl) (ls was : List Sl) (xss : List (List α)) : Prop where
  cA : w.cell? ⟨b, o, none⟩ = some A.val
  cB : w.cell? ⟨b, o + 1, none⟩ = some Bs.val
  rA : Rd (slE T) w A ls
  rB : Rd (slE T) w Bs was
  len : ls.length = xss.length
  lenB : was.length = xss.length
  few : ls.length ≤ 100000
  ox : ∀ (i : Nat) (s : Sl) (xs : List α), ls[i]? = some s → xss[i]? = some xs → Ox E w s xs ∧ xs.length ≤ 10000000
  rd : ∀ (i : Nat) (s : Sl) (xs : List α), was[i]? = some s → xss[i]? = some xs → Rd E w s xs
  dis : ∀ (i j : Nat) (s t : Sl) (k : Nat), ls[i]? = some s → ls[j]? = some t → s.blk = some k → t.blk = some k → i = j
  nb : ¬ blksOf ls b
  nA : ∀ k, A.blk = some k → ¬ blksOf ls k
/-- The same lists, marked. -/
structure KM (E : Enc α) (T : TypeId) (mk : Int → Int → α) (w : World) (b o : Nat) (A : Sl) (ls : List Sl) : Prop where
  cA : w.cell? ⟨b, o, none⟩ = some A.val
  rA : Rd (slE T) w A ls
  few : ls.length ≤ 100000
  ox : ∀ (i : Nat) (s : Sl), ls[i]? = some s → Ox E w s (marks (mk i) 0 s.len) ∧ s.len ≤ 10000000
  dis : ∀ (i j : Nat) (s t : Sl) (k : Nat), ls[i]? = some s → ls[j]? = some t → s.blk = some k → t.blk = some k → i = j
  nb : ¬ blksOf ls b
  nA : ∀ k, A.blk = some k → ¬ blksOf ls k
variable {w : World} {b : Nat} {A Bs : Sl} {ls was : List Sl}
theorem KB.marked {E : Enc α} {T : TypeId} {mk : Int → Int → α} {o : Nat} {xss : List (List α)} (h : KB E T w b o A Bs ls was xss) {w' : World} (c : Chg (blksOf ls) w w') (hm : ∀ (i : Nat) (s : Sl), ls[i]? = some s → Ox E w' s (marks (mk i) 0 s.len)) : KM E T mk w' b o A ls := by
  refine ⟨c.cell h.cA h.nb, h.rA.chg c h.nA, h.few, fun i s hs => ⟨hm i s hs, ?_⟩, h.dis, h.nb, h.nA⟩
  obtain ⟨xs, hxs⟩ : ∃ xs, xss[i]? = some xs := ⟨_, List.getElem?_eq_getElem (by have := (List.getElem?_eq_some_iff.1 hs).1; have := h.len; omega)⟩
  obtain ⟨h1, h2⟩ := h.ox i s xs hs hxs
  rw [h1.rd.len]; exact h2
/-- Grown forms of the lists: marked all through. -/
def Grown' (E : Enc α) (T : TypeId) (mk : Int → Int → α) (w : World) (out : Sl) (n : Nat) : Prop := ∃ outs : List Sl, Rd (slE T) w out outs ∧ outs.length = n ∧ ∀ (i : Nat) (t : Sl), outs[i]? = some t → t.len ≤ 20000000 ∧ Rd E w t (marks (mk i) 0 t.len)
/-- The book's lists read as marks. -/
def Marked' (E : Enc α) (mk : Int → Int → α) (w : World) (ls : List Sl) : Prop := ∀ (i : Nat) (s : Sl), ls[i]? = some s → Rd E w s (marks (mk i) 0 s.len)
end
section
variable {α : Type} {w w' : World} {b o : Nat} {A Bs : Sl} {ls was : List Sl}
theorem KB.no {E : Enc α} {T : TypeId} {xss : List (List α)} (h : KB E T w b o A Bs ls was xss) (c : Chg No w w') : KB E T w' b o A Bs ls was xss :=
  ⟨c.cell h.cA (fun h => h), c.cell h.cB (fun h => h), h.rA.no c, h.rB.no c, h.len, h.lenB, h.few, fun i s xs hs hx => ⟨(h.ox i s xs hs hx).1.no c, (h.ox i s xs hs hx).2⟩, fun i s xs hs hx => (h.rd i s xs hs hx).no c, h.dis, h.nb, h.nA⟩
theorem Grown'.no {E : Enc α} {T : TypeId} {mk : Int → Int → α} {out : Sl} {n : Nat} (h : Grown' E T mk w out n) (c : Chg No w w') : Grown' E T mk w' out n := by
  obtain ⟨outs, h1, h2, h3⟩ := h
  exact ⟨outs, h1.no c, h2, fun i t ht => ⟨(h3 i t ht).1, (h3 i t ht).2.no c⟩⟩
/-- The book's own lists, read as marks, as a list of lists. -/
theorem Marked'.asGrown {E : Enc α} {T : TypeId} {mk : Int → Int → α} (hm : Marked' E mk w ls) (rA : Rd (slE T) w A ls) (hl : ∀ (i : Nat) (s : Sl), ls[i]? = some s → s.len ≤ 20000000) : Grown' E T mk w A ls.length :=
  ⟨ls, rA, rfl, fun i s hs => ⟨hl i s hs, hm i s hs⟩⟩
theorem brN_f {P Q : Prop} (h : Q) : brB (!true) P Q := brB_f h
end
section
variable {α : Type} {P : Program}
/-- A kind's lists in the book, all in blocks of D, each where no other of them lies. -/
structure KO (D : Nat → Prop) (E : Enc α) (T : TypeId) (w : World) (b : Nat) (A Bs : Sl) (ls was : List Sl) (xss : List (List α)) : Prop where
  oA : Ow (slE T) w A ls
  oB : Ow (slE T) w Bs was
  len : ls.length = xss.length
  lenB : was.length = xss.length
  ox : ∀ (i : Nat) (s : Sl) (xs : List α), ls[i]? = some s → xss[i]? = some xs → Ox E w s xs ∧ xs.length ≤ 10000000
  rd : ∀ (i : Nat) (s : Sl) (xs : List α), was[i]? = some s → xss[i]? = some xs → Rd E w s xs
  dis : ∀ (i j : Nat) (s t : Sl) (k : Nat), ls[i]? = some s → ls[j]? = some t → s.blk = some k → t.blk = some k → i = j
  dA : ∀ k, A.blk = some k → D k ∧ k ≠ b ∧ Bs.blk ≠ some k ∧ ¬ blksOf ls k ∧ ¬ blksOf was k
  dB : ∀ k, Bs.blk = some k → D k ∧ k ≠ b ∧ ¬ blksOf ls k ∧ ¬ blksOf was k
  dl : ∀ k, blksOf ls k → D k ∧ k ≠ b ∧ k < w.heap.size
  dw : ∀ k, blksOf was k → D k ∧ k ≠ b ∧ k < w.heap.size ∧ ¬ blksOf ls k
theorem blksOf_app {ls : List Sl} {l : Sl} {k : Nat} (h : blksOf (ls ++ [l]) k) : blksOf ls k ∨ l.blk = some k := by
  obtain ⟨i, s, hs, hk⟩ := h
  by_cases hi : i < ls.length
  · rw [List.getElem?_append_left hi] at hs; exact Or.inl ⟨i, s, hs, hk⟩
  · have hi2 : i = ls.length := by have := (List.getElem?_eq_some_iff.1 hs).1; simp at this; omega
    subst hi2
    rw [List.getElem?_append_right (Nat.le_refl _), Nat.sub_self] at hs
    cases hs; exact Or.inr hk
theorem app_at {β : Type} {xs : List β} {x y : β} {i : Nat} (h : (xs ++ [x])[i]? = some y) : (i < xs.length ∧ xs[i]? = some y) ∨ (i = xs.length ∧ y = x) := by
  by_cases hi : i < xs.length
  · rw [List.getElem?_append_left hi] at h; exact Or.inl ⟨hi, h⟩
  · have hi2 : i = xs.length := by have := (List.getElem?_eq_some_iff.1 h).1; simp at this; omega
    subst hi2
    rw [List.getElem?_append_right (Nat.le_refl _), Nat.sub_self] at h
    cases h; exact Or.inr ⟨rfl, rfl⟩
theorem add_core {D : Nat → Prop} {E : Enc α} {T TT TB : TypeId} {fC : FuncId} (okk : EncOk P (slE T) TT)
    (hC : ∀ (s : Sl) (xs : List α) (w : World), Rd E w s xs → xs.length ≤ 10000000 → Calls P fC #[s.val] w fun e w' => ∃ s' : Sl, e = .returned s'.val ∧ Ow E w' s' xs ∧ Chg No w w' ∧ (∀ k, s'.blk = some k → w.heap.size ≤ k))
    {w : World} {b o : Nat} {cs : List Value} {A Bs : Sl} {ls was : List Sl} {xss : List (List α)} (ho : Ob w b cs TB) (hcA : cs[o]? = some A.val) (hcB : cs[o + 1]? = some Bs.val) (h : KO D E T w b A Bs ls was xss) (hD : ∀ k, w.heap.size ≤ k → D k)
    {l : Sl} {xs : List α} (hx : Ox E w l xs) (hxs : xs.length ≤ 10000000) (hl : ∀ k, l.blk = some k → D k ∧ k ≠ b ∧ A.blk ≠ some k ∧ Bs.blk ≠ some k ∧ ¬ blksOf ls k ∧ ¬ blksOf was k) {K : Value → World → Prop}
    (kfull : 250 ≤ ls.length → K (.tuple #[]) w)
    (k : ls.length < 250 → ∀ (A' B' c' : Sl) (w' : World), Ob w' b ((cs.set o A'.val).set (o + 1) B'.val) TB → KO D E T w' b A' B' (ls ++ [l]) (was ++ [c']) (xss ++ [xs]) → Chg (fun k => k = b ∨ A.blk = some k ∨ Bs.blk = some k) w w' → K (.tuple #[]) w') :
    ∃ s3 : Sl, w.cell? ⟨b, o, none⟩ = some (s3.val) ∧
      brB (decide ((s3.len : Int) < (250 : Int)))
      (∃ s4 : Sl, w.cell? ⟨b, o, none⟩ = some (s4.val) ∧
      ∀ (b5 : Nat) (w6 : World), b5 = w.heap.size → w6 = World.alloc w (.cells #[l.val] T) →
      ∃ s7 : Sl, ∃ w8 : World, (Builtin.append_ #[TT, TT] TT #[s4.val, .slice (some ⟨b5, 0, none⟩) 1 1]).run P w6 = .ok (s7.val) w8 ∧
      wrOk w8 ⟨b, o, none⟩ 1 ∧ ∀ w9 : World, w9 = stW w8 ⟨b, o, none⟩ 0 [s7.val] →
      ∀ w10 : World, w10 = World.drew w9 →
      ∃ S11 : World → Prop, S11 w10 ∧
      ∃ s12 : Sl, held S11 ⟨b, o + 1, none⟩ (s12.val) ∧
      Calls P fC #[l.val] w10 fun e13 w14 => ∃ s15 : Sl, e13 = .returned (s15.val) ∧
      S11 w14 ∧
      ∀ (b16 : Nat) (w17 : World), b16 = w14.heap.size → w17 = World.alloc w14 (.cells #[s15.val] T) →
      S11 w17 ∧
      ∃ s18 : Sl, ∃ w19 : World, (Builtin.append_ #[TT, TT] TT #[s12.val, .slice (some ⟨b16, 0, none⟩) 1 1]).run P w17 = .ok (s18.val) w19 ∧
      S11 w19 ∧
      wrOk w19 ⟨b, o + 1, none⟩ 1 ∧ ∀ w20 : World, w20 = stW w19 ⟨b, o + 1, none⟩ 0 [s18.val] →
      K (.tuple #[]) w20)
      (K (.tuple #[]) w) := by
  have hlen := h.oA.rd.len
  have oLt : o < cs.length := (List.getElem?_eq_some_iff.1 hcA).1
  have oLt1 : o + 1 < cs.length := (List.getElem?_eq_some_iff.1 hcB).1
  refine ⟨A, ho.cell hcA, brB_of (fun hlt => ?_) (fun hlt => kfull (by simp at hlt; omega))⟩
  have hlt : ls.length < 250 := by simp at hlt; omega
  have hll := h.len
  have hlB := h.lenB
  refine ⟨A, ho.cell hcA, ?_⟩
  intro b5 w6 hb5 hw6
  have c6 : Chg No w w6 := by rw [hw6]; exact Chg.alloc _ _ _
  have hlit : Ow (slE T) w6 ⟨some ⟨b5, 0, none⟩, 1, 1⟩ [l] := by
    rw [hw6, hb5]
    exact Ow.lit (E := slE T) w [l] ((slE T).e l) (by rw [fl_one]) (by show 1 ≤ maxLen; unfold maxLen; omega)
  refine app_ok okk rfl rfl (h.oA.no c6) hlit.rd (by show (ls.length + 1) * 24 ≤ _; omega) (by show ls.length + 1 ≤ _; unfold maxLen; omega) ?_
  intro A' w8 hA' c8 hbkA
  have bLt := ho.lt
  have s6 := c6.size
  have s8 := c8.size
  have o8 : Ob w8 b cs TB := (ho.no c6).chg c8 (fun he => (h.dA b he).2.1 rfl)
  refine ⟨o8.wr (by omega), ?_⟩
  intro w9 hw9
  have o9 : Ob w9 b (cs.set o A'.val) TB := by
    have := Ob.st (vs := [A'.val]) (k := o) (i := 0) o8
    rw [hw9]; exact this
  have c9 : Chg (fun k => k = b) w8 w9 := by rw [hw9]; exact Chg.st (S := fun k => k = b) rfl
  intro w10 hw10
  have c10 : Chg No w9 w10 := by rw [hw10]; exact Chg.drew _ _
  have o10 := o9.no c10
  have s9 := c9.size
  have s10 := c10.size
  have cB1 : (cs.set o A'.val)[o + 1]? = some Bs.val := by rw [List.getElem?_set_ne (by omega)]; exact hcB
  -- from w to w10: A's block and the book's own
  have cw10 : Chg (fun k => k = b ∨ A.blk = some k) w w10 := ((c6.trans c8 (U := fun k => k = b ∨ A.blk = some k) (fun _ _ h => h.elim) (fun _ _ h => Or.inr h)).trans c9 (fun _ _ h => h) (fun _ _ h => Or.inl h)).trans c10 (fun _ _ h => h) (fun _ _ h => h.elim)
  have nA' : ∀ k, A'.blk = some k → A.blk = some k ∨ k = w6.heap.size := fun k hk => by
    rcases hbkA with hh | hh
    · exact Or.inl (hh ▸ hk)
    · exact Or.inr (Option.some.inj (hh.symm.trans hk)).symm
  have lOld : ∀ k, l.blk = some k → k < w.heap.size := hx.lt
  have l10 : Ox E w10 l xs := hx.chg cw10 (fun k hk he => by rcases he with he | he; exact (hl k hk).2.1 he; exact (hl k hk).2.2.1 he)
  refine ⟨fun w' => Ob w' b (cs.set o A'.val) TB, o10, Bs, fun w' hw' => hw'.cell cB1, ?_⟩
  refine (hC l xs w10 l10.rd hxs).mono ?_
  rintro e w14 ⟨s15, rfl, h15, c14, f15⟩
  refine ⟨s15, rfl, o10.no c14, ?_⟩
  intro b16 w17 hb16 hw17
  have c17 : Chg No w14 w17 := by rw [hw17]; exact Chg.alloc _ _ _
  have s14 := c14.size
  have s17 := c17.size
  have hlit2 : Ow (slE T) w17 ⟨some ⟨b16, 0, none⟩, 1, 1⟩ [s15] := by
    rw [hw17, hb16]
    exact Ow.lit (E := slE T) w14 [s15] ((slE T).e s15) (by rw [fl_one]) (by show 1 ≤ maxLen; unfold maxLen; omega)
  have cw17 : Chg (fun k => k = b ∨ A.blk = some k) w w17 := (cw10.trans c14 (fun _ _ h => h) (fun _ _ h => h.elim)).trans c17 (fun _ _ h => h) (fun _ _ h => h.elim)
  have hB17 : Ow (slE T) w17 Bs was := h.oB.chg cw17 (fun k hk he => by rcases he with he | he; exact (h.dB k hk).2.1 he; exact (h.dA k he).2.2.1 hk)
  refine ⟨(o10.no c14).no c17, ?_⟩
  refine app_ok okk rfl rfl hB17 hlit2.rd (by show (was.length + 1) * 24 ≤ _; omega) (by show was.length + 1 ≤ _; unfold maxLen; omega) ?_
  intro B' w19 hB' c19 hbkB
  have s19 := c19.size
  have o19 : Ob w19 b (cs.set o A'.val) TB := ((o10.no c14).no c17).chg c19 (fun he => (h.dB b he).2.1 rfl)
  refine ⟨o19, o19.wr (by rw [List.length_set]; omega), ?_⟩
  intro w20 hw20
  have o20 : Ob w20 b ((cs.set o A'.val).set (o + 1) B'.val) TB := by
    have := Ob.st (vs := [B'.val]) (k := o + 1) (i := 0) o19
    rw [hw20]; exact this
  have c20 : Chg (fun k => k = b) w19 w20 := by rw [hw20]; exact Chg.st (S := fun k => k = b) rfl
  have s20 := c20.size
  have nB' : ∀ k, B'.blk = some k → Bs.blk = some k ∨ k = w17.heap.size := fun k hk => by
    rcases hbkB with hh | hh
    · exact Or.inl (hh ▸ hk)
    · exact Or.inr (Option.some.inj (hh.symm.trans hk)).symm
  have cw20 : Chg (fun k => k = b ∨ A.blk = some k ∨ Bs.blk = some k) w w20 := (cw17.trans c19 (U := fun k => k = b ∨ A.blk = some k ∨ Bs.blk = some k) (fun _ _ h => by rcases h with h | h; exact Or.inl h; exact Or.inr (Or.inl h)) (fun _ _ h => Or.inr (Or.inr h))).trans c20 (fun _ _ h => h) (fun _ _ h => Or.inl h)
  have c1020 : Chg (fun k => k = b ∨ Bs.blk = some k) w10 w20 := ((c14.trans c17 (U := fun k => k = b ∨ Bs.blk = some k) (fun _ _ h => h.elim) (fun _ _ h => h.elim)).trans c19 (fun _ _ h => h) (fun _ _ h => Or.inr h)).trans c20 (fun _ _ h => h) (fun _ _ h => Or.inl h)
  have bOld : ∀ k, Bs.blk = some k → k < w.heap.size := fun k hk => h.oB.lt hk
  have aOld : ∀ k, A.blk = some k → k < w.heap.size := fun k hk => h.oA.lt hk
  have f15' : ∀ k, s15.blk = some k → w10.heap.size ≤ k ∧ k < w14.heap.size := fun k hk => ⟨f15 k hk, h15.lt hk⟩
  have A'20 : Ow (slE T) w20 A' (ls ++ [l]) := by
    refine (((hA'.chg c9 (fun k hk he => ?_)).no c10).chg c1020 (fun k hk he => ?_))
    · rcases nA' k hk with h5 | h5
      · exact (h.dA k h5).2.1 he
      · omega
    · rcases nA' k hk with h5 | h5
      · rcases he with he | he
        · exact (h.dA k h5).2.1 he
        · exact (h.dA k h5).2.2.1 he
      · rcases he with he | he
        · omega
        · have := bOld k he; omega
  have lsK : ∀ k, blksOf (ls ++ [l]) k → D k ∧ k ≠ b ∧ k < w.heap.size ∧ A.blk ≠ some k ∧ Bs.blk ≠ some k ∧ ¬ blksOf was k := by
    intro k hk
    rcases blksOf_app hk with h5 | h5
    · exact ⟨(h.dl k h5).1, (h.dl k h5).2.1, (h.dl k h5).2.2, fun e => (h.dA k e).2.2.2.1 h5, fun e => (h.dB k e).2.2.1 h5, fun e => (h.dw k e).2.2.2 h5⟩
    · exact ⟨(hl k h5).1, (hl k h5).2.1, lOld k h5, (hl k h5).2.2.1, (hl k h5).2.2.2.1, (hl k h5).2.2.2.2.2⟩
  have wasK : ∀ k, blksOf (was ++ [s15]) k → (blksOf was k ∧ k < w.heap.size) ∨ (w10.heap.size ≤ k ∧ k < w14.heap.size) := by
    intro k hk
    rcases blksOf_app hk with h5 | h5
    · exact Or.inl ⟨h5, (h.dw k h5).2.2.1⟩
    · exact Or.inr (f15' k h5)
  refine k hlt A' B' s15 w20 o20 ⟨A'20, ?_, by simp [hll], by simp [hlB], fun i s ys hs hy => ?_, fun i s ys hs hy => ?_, fun i j s t m hs ht hm hn => ?_, fun m hm => ?_, fun m hm => ?_, fun m hm => ⟨(lsK m hm).1, (lsK m hm).2.1, by have := (lsK m hm).2.2.1; omega⟩, fun m hm => ?_⟩ cw20
  · refine hB'.chg c20 (fun m hm he => ?_)
    rcases nB' m hm with h5 | h5
    · exact (h.dB m h5).2.1 he
    · omega
  · rcases app_at hs with ⟨h5, h6⟩ | ⟨h5, rfl⟩
    · rw [List.getElem?_append_left (by omega)] at hy
      obtain ⟨h7, h8⟩ := h.ox i s ys h6 hy
      refine ⟨h7.chg cw20 (fun m hm he => ?_), h8⟩
      have h9 : blksOf ls m := ⟨i, s, h6, hm⟩
      rcases he with he | he | he
      · exact (h.dl m h9).2.1 he
      · exact (h.dA m he).2.2.2.1 h9
      · exact (h.dB m he).2.2.1 h9
    · rcases app_at hy with ⟨h6, _⟩ | ⟨_, rfl⟩
      · omega
      · refine ⟨hx.chg cw20 (fun m hm he => ?_), hxs⟩
        have h9 := hl m hm
        rcases he with he | he | he
        · exact h9.2.1 he
        · exact h9.2.2.1 he
        · exact h9.2.2.2.1 he
  · rcases app_at hs with ⟨h5, h6⟩ | ⟨h5, rfl⟩
    · rw [List.getElem?_append_left (by omega)] at hy
      refine (h.rd i s ys h6 hy).chg cw20 (fun m hm he => ?_)
      have h9 : blksOf was m := ⟨i, s, h6, hm⟩
      rcases he with he | he | he
      · exact (h.dw m h9).2.1 he
      · exact (h.dA m he).2.2.2.2 h9
      · exact (h.dB m he).2.2.2 h9
    · rcases app_at hy with ⟨h6, _⟩ | ⟨_, rfl⟩
      · omega
      · refine (((h15.no c17).chg c19 (fun m hm he => ?_)).chg c20 (fun m hm he => ?_)).rd
        · have := f15' m hm; have := bOld m he; omega
        · have := f15' m hm; omega
  · rcases app_at hs with ⟨h5, h6⟩ | ⟨h5, rfl⟩
    · rcases app_at ht with ⟨h7, h8⟩ | ⟨h7, rfl⟩
      · exact h.dis i j s t m h6 h8 hm hn
      · exact absurd ⟨i, s, h6, hm⟩ (hl m hn).2.2.2.2.1
    · rcases app_at ht with ⟨h7, h8⟩ | ⟨h7, rfl⟩
      · exact absurd ⟨j, t, h8, hn⟩ (hl m hm).2.2.2.2.1
      · omega
  · rcases nA' m hm with h5 | h5
    · refine ⟨(h.dA m h5).1, (h.dA m h5).2.1, fun e => ?_, fun e => (lsK m e).2.2.2.1 h5, fun e => ?_⟩
      · rcases nB' m e with h6 | h6
        · exact (h.dA m h5).2.2.1 h6
        · have := aOld m h5; omega
      · rcases wasK m e with h6 | h6
        · exact (h.dA m h5).2.2.2.2 h6.1
        · have := aOld m h5; omega
    · have hAl := hA'.lt hm
      refine ⟨hD m (by omega), by omega, fun e => ?_, fun e => by have := (lsK m e).2.2.1; omega, fun e => ?_⟩
      · rcases nB' m e with h6 | h6
        · have := bOld m h6; omega
        · omega
      · rcases wasK m e with h6 | h6
        · omega
        · omega
  · rcases nB' m hm with h5 | h5
    · refine ⟨(h.dB m h5).1, (h.dB m h5).2.1, fun e => (lsK m e).2.2.2.2.1 h5, fun e => ?_⟩
      rcases wasK m e with h6 | h6
      · exact (h.dB m h5).2.2.2 h6.1
      · have := bOld m h5; omega
    · refine ⟨hD m (by omega), by omega, fun e => by have := (lsK m e).2.2.1; omega, fun e => ?_⟩
      rcases wasK m e with h6 | h6 <;> omega
  · rcases wasK m hm with h6 | h6
    · exact ⟨(h.dw m h6.1).1, (h.dw m h6.1).2.1, by omega, fun e => (lsK m e).2.2.2.2.2 h6.1⟩
    · exact ⟨hD m (by omega), by omega, by omega, fun e => by have := (lsK m e).2.2.1; omega⟩
end
section
theorem noBlks (k : Nat) : ¬ blksOf [] k := by rintro ⟨i, s, hs, _⟩; simp at hs
theorem KO.empty {α : Type} (D : Nat → Prop) (E : Enc α) (T : TypeId) (w : World) (b : Nat) : KO D E T w b nilS nilS [] [] [] :=
  ⟨Ow.nil _ _, Ow.nil _ _, rfl, rfl, (fun i s xs hs => by simp at hs), (fun i s xs hs => by simp at hs), (fun i j s t k hs => by simp at hs), (fun k hk => by cases hk), (fun k hk => by cases hk), fun k hk => absurd hk (noBlks k), fun k hk => absurd hk (noBlks k)⟩
theorem KO.nar {α : Type} {D : Nat → Prop} {E : Enc α} {T : TypeId} {w : World} {b : Nat} {A Bs : Sl} {ls was : List Sl} {xss : List (List α)} (h : KO D E T w b A Bs ls was xss) : KO (fun k => D k ∧ k < w.heap.size) E T w b A Bs ls was xss :=
  ⟨h.oA, h.oB, h.len, h.lenB, h.ox, h.rd, h.dis, fun k e => ⟨⟨(h.dA k e).1, h.oA.lt e⟩, (h.dA k e).2⟩, fun k e => ⟨⟨(h.dB k e).1, h.oB.lt e⟩, (h.dB k e).2⟩, fun k e => ⟨⟨(h.dl k e).1, (h.dl k e).2.2⟩, (h.dl k e).2⟩, fun k e => ⟨⟨(h.dw k e).1, (h.dw k e).2.2.1⟩, (h.dw k e).2⟩⟩
theorem KO.wid {α : Type} {D D' : Nat → Prop} {E : Enc α} {T : TypeId} {w : World} {b : Nat} {A Bs : Sl} {ls was : List Sl} {xss : List (List α)} (h : KO D E T w b A Bs ls was xss) (hd : ∀ k, D k → D' k) : KO D' E T w b A Bs ls was xss :=
  ⟨h.oA, h.oB, h.len, h.lenB, h.ox, h.rd, h.dis, fun k e => ⟨hd _ (h.dA k e).1, (h.dA k e).2⟩, fun k e => ⟨hd _ (h.dB k e).1, (h.dB k e).2⟩, fun k e => ⟨hd _ (h.dl k e).1, (h.dl k e).2⟩, fun k e => ⟨hd _ (h.dw k e).1, (h.dw k e).2⟩⟩
end
end Go.Proofs.Ytgffaimgnmfifaa

/- hollowaybook.SameInts. -/
set_option maxRecDepth 100000
namespace Go.Proofs.Ytgffaimgnmfifaa
open Go.RowKit

theorem addr0 (q : Addr) : q.add 0 = q := by unfold Addr.add; simp
theorem sameInts_ok : SameOk Try.prog intE fn_hollowaybook_SameInts := by
  intro s t xs w hs ht
  refine (hollowaybook_SameInts_lift (K := fun r w' => r = .bool true ∧ Chg No w w') ?_).mono (by rintro e w' ⟨r, rfl, rfl, h⟩; exact ⟨rfl, h⟩)
  unfold hollowaybook_SameInts_sh
  have h1 := hs.len
  have h2 := ht.len
  have hc := hs.capL
  have e1 : ((s.len : Int) != (t.len : Int)) = false := by rw [h1, h2]; simp
  rw [e1]
  refine brB_f ?_
  refine ⟨fun n w' => ∃ k : Nat, n = k ∧ k ≤ xs.length ∧ Chg No w w', fun n _ => xs.length - n.toNat, ⟨0, rfl, Nat.zero_le _, Chg.refl _ _⟩, ?_⟩
  rintro n w3 ⟨k, rfl, hk, hch⟩
  refine brB_of (fun hlt => ?_) (fun hlt => ⟨rfl, hch⟩)
  have hlt : k < xs.length := by simp at hlt; omega
  intro w5 hw5
  have c5 : Chg No w w5 := hch.trans (by rw [hw5]; exact Chg.drew No _) (fun _ _ h => h) (fun _ _ h => h)
  obtain ⟨x, hx⟩ : ∃ x, xs[k]? = some x := ⟨_, List.getElem?_eq_getElem hlt⟩
  refine (hs.no c5).ix (i := (k : Int)) (by omega) (by rw [Int.toNat_natCast]; exact hx) fun a ha hcell => ?_
  have q1 := hcell 0 _ rfl
  rw [addr0] at q1
  refine ⟨x, held_Lw q1, ?_⟩
  refine (ht.no c5).ix (i := (k : Int)) (by omega) (by rw [Int.toNat_natCast]; exact hx) fun a' ha' hcell' => ?_
  have q2 := hcell' 0 _ rfl
  rw [addr0] at q2
  refine ⟨x, held_Lw q2, ?_⟩
  have e2 : (!(x == x)) = false := by simp
  rw [e2]
  refine brB_f ?_
  rw [wr_of (by omega) (by omega)]
  exact ⟨⟨k + 1, by omega, by omega, c5⟩, by show xs.length - Int.toNat ((k : Int) + 1) < xs.length - Int.toNat (k : Int); omega⟩
end Go.Proofs.Ytgffaimgnmfifaa

/- The book's kind numbers. -/
set_option maxRecDepth 100000
namespace Go.Proofs.Ytgffaimgnmfifaa
open Go.RowKit

section
def mkI (i k : Int) : Int := wr ((wr ((wr ((-1000000 : Int) * i)) - k)) - (7 : Int))
theorem markInts_ok : MarkOk Try.prog intE mkI fn_hollowaybook_markInts := by
  intro i f m w hi hf
  refine (hollowaybook_markInts_lift (K := fun r w' => ∃ s : Sl, r = s.val ∧ Ow intE w' s (marks (mkI i) f m) ∧ Chg No w w' ∧ (∀ j, s.blk = some j → w.heap.size ≤ j)) ?_).mono (by rintro e w' ⟨r, rfl, s, rfl, h⟩; exact ⟨s, rfl, h⟩)
  unfold hollowaybook_markInts_sh
  exact mark_core (K := fun r w' => ∃ s : Sl, r = s.val ∧ Ow intE w' s (marks (mkI i) f m) ∧ Chg No w w' ∧ (∀ j, s.blk = some j → w.heap.size ≤ j)) intOk (by decide) (mkI i) f m hf fun s' w' h1 h2 h3 => ⟨s', rfl, h1, h2, h3⟩
theorem add0 (q : Addr) : q.add 0 = q := by unfold Addr.add; simp
/-- What an element's cells are asked as, when it is marked. -/
def qI (S : World → Prop) (p : Addr) (F : List Value → Prop) : Prop := ∃ n : Int, held S p (.int .i64 n) ∧ F [.int .i64 n]
theorem qI_ok (w : World) (p : Addr) (x : Int) (F : List Value → Prop) (h : ∀ (j : Nat) (u : Value), (intE.e x)[j]? = some u → w.cell? (p.add j) = some u) (hF : F (intE.e x)) : qI (Lw w) p F := by
  have := h 0 _ rfl
  rw [add0] at this
  exact ⟨x, held_Lw this, hF⟩
end
section
variable {α : Type}
variable {w : World} {b : Nat} {A Bs : Sl} {ls was : List Sl}
theorem stillInts_any {xss : List (List Int)} (h : KB intE T_sl_int w b 2 A Bs ls was xss) : Calls Try.prog fn_hollowaybook_Book_stillInts #[.pointer (some ⟨b, 0, none⟩)] w fun e w' => e = .returned (.bool true) ∧ Chg No w w' := by
  refine (hollowaybook_Book_stillInts_lift (K := fun r w' => r = .bool true ∧ Chg No w w') ?_).mono (by rintro e w' ⟨r, rfl, rfl, h⟩; exact ⟨rfl, h⟩)
  unfold hollowaybook_Book_stillInts_sh
  exact still_core (K := fun r w' => r = .bool true ∧ Chg No w w') sameInts_ok h.cA h.cB h.rA h.rB h.len h.lenB h.few (fun i s xs hs hx => (h.ox i s xs hs hx).1.rd) h.rd fun w' c => ⟨rfl, c⟩
theorem putInts_any {xss : List (List Int)} (h : KB intE T_sl_int w b 2 A Bs ls was xss) : Calls Try.prog fn_hollowaybook_Book_putInts #[.pointer (some ⟨b, 0, none⟩)] w fun e w' => e = .returned (.tuple #[]) ∧ KM intE T_sl_int mkI w' b 2 A ls ∧ Chg (blksOf ls) w w' := by
  refine (hollowaybook_Book_putInts_lift (K := fun r w' => r = .tuple #[] ∧ KM intE T_sl_int mkI w' b 2 A ls ∧ Chg (blksOf ls) w w') ?_).mono (by rintro e w' ⟨r, rfl, rfl, h⟩; exact ⟨rfl, h⟩)
  unfold hollowaybook_Book_putInts_sh
  exact put_core (Q := qI) (mk := mkI) (K := fun r w' => r = .tuple #[] ∧ KM intE T_sl_int mkI w' b 2 A ls ∧ Chg (blksOf ls) w w') qI_ok (Or.inr markInts_ok) h.cA h.rA h.len h.few h.ox h.dis h.nb h.nA fun w' hm c => ⟨rfl, h.marked c hm, c⟩
theorem slIntOk : EncOk Try.prog (slE T_sl_int) T_sl_sl_int := EncOk.of (z := .slice none 0 0) (by kernel_rfl) (by kernel_rfl) (by kernel_rfl)
theorem growInts_any (h : KM intE T_sl_int mkI w b 2 A ls) : Calls Try.prog fn_hollowaybook_Book_growInts #[.pointer (some ⟨b, 0, none⟩)] w fun e w' => ∃ out : Sl, e = .returned out.val ∧ Grown' intE T_sl_int mkI w' out ls.length ∧ Marked' intE mkI w' ls ∧ Chg (blksOf ls) w w' := by
  refine (hollowaybook_Book_growInts_lift (K := fun r w' => ∃ out : Sl, r = out.val ∧ Grown' intE T_sl_int mkI w' out ls.length ∧ Marked' intE mkI w' ls ∧ Chg (blksOf ls) w w') ?_).mono (by rintro e w' ⟨r, rfl, s, rfl, h⟩; exact ⟨s, rfl, h⟩)
  unfold hollowaybook_Book_growInts_sh
  exact grow_core (mk := mkI) (K := fun r w' => ∃ out : Sl, r = out.val ∧ Grown' intE T_sl_int mkI w' out ls.length ∧ Marked' intE mkI w' ls ∧ Chg (blksOf ls) w w') intOk slIntOk (by decide) (Or.inr markInts_ok) h.cA h.rA h.few h.ox h.dis h.nb h.nA fun out outs w' h1 h2 h3 h4 h5 => ⟨out, rfl, ⟨outs, h1, h2, h3⟩, h4, h5⟩
theorem markedInts_any {n : Nat} (hn : n ≤ 100000) {out : Sl} (h : Grown' intE T_sl_int mkI w out n) : Calls Try.prog fn_hollowaybook_markedInts #[out.val] w fun e w' => e = .returned (.bool true) ∧ Chg No w w' := by
  refine (hollowaybook_markedInts_lift (K := fun r w' => r = .bool true ∧ Chg No w w') ?_).mono (by rintro e w' ⟨r, rfl, rfl, h⟩; exact ⟨rfl, h⟩)
  unfold hollowaybook_markedInts_sh
  obtain ⟨outs, h1, h2, h3⟩ := h
  exact marked_core (mk := mkI) (K := fun r w' => r = .bool true ∧ Chg No w w') sameInts_ok markInts_ok h1 (by omega) (fun i s hs => ⟨by have := (h3 i s hs).1; omega, (h3 i s hs).2⟩) fun w' c => ⟨rfl, c⟩
end
section
theorem copyInts_any (s : Sl) (xs : List Int) (w : World) (h : Rd intE w s xs) (hl : xs.length ≤ 10000000) : Calls Try.prog fn_hollowaybook_copyInts #[s.val] w fun e w' => ∃ s' : Sl, e = .returned s'.val ∧ Ow intE w' s' xs ∧ Chg No w w' ∧ (∀ k, s'.blk = some k → w.heap.size ≤ k) := by
  refine (hollowaybook_copyInts_lift (K := fun r w' => ∃ s' : Sl, r = s'.val ∧ Ow intE w' s' xs ∧ Chg No w w' ∧ (∀ k, s'.blk = some k → w.heap.size ≤ k)) ?_).mono (by rintro e w' ⟨r, rfl, s', rfl, h⟩; exact ⟨s', rfl, h⟩)
  unfold hollowaybook_copyInts_sh
  refine app_ok intOk (s := nilS) rfl rfl (Ow.nil intE w) h (by simp only [List.length_nil, Nat.zero_add]; show xs.length * 8 ≤ _; omega) (by simp only [List.length_nil, Nat.zero_add]; unfold maxLen; omega) ?_
  intro s' w' h' c hbk
  refine ⟨s', rfl, by simpa using h', c.mono (fun k _ hk => by cases hk), fun k hk => ?_⟩
  rcases hbk with hh | hh
  · rw [hh] at hk; cases hk
  · have := Option.some.inj (hh.symm.trans hk); omega
end
end Go.Proofs.Ytgffaimgnmfifaa

/- The book's functions for a kind of which nothing was put in. -/
set_option maxRecDepth 100000
namespace Go.Proofs.Ytgffaimgnmfifaa
open Go.RowKit

theorem noLen : decide ((0 : Int) < ((nilS.len : Nat) : Int)) = false := rfl
theorem stillTexts_nil {w : World} {b : Nat} (h : w.cell? ⟨b, 0, none⟩ = some nilS.val) : Calls Try.prog fn_hollowaybook_Book_stillTexts #[.pointer (some ⟨b, 0, none⟩)] w fun e w' => e = .returned (.bool true) ∧ w = w' := by
  refine (hollowaybook_Book_stillTexts_lift (K := fun r w' => r = .bool true ∧ w = w') ?_).mono (by rintro e w' ⟨r, rfl, rfl, h⟩; exact ⟨rfl, h⟩)
  unfold hollowaybook_Book_stillTexts_sh
  refine ⟨fun n w' => n = 0 ∧ w = w', fun _ _ => 0, ⟨rfl, rfl⟩, ?_⟩
  rintro n w2 ⟨rfl, rfl⟩
  refine ⟨nilS, h, ?_⟩
  rw [noLen]
  exact brB_f ⟨rfl, rfl⟩
theorem putTexts_nil {w : World} {b : Nat} (h : w.cell? ⟨b, 0, none⟩ = some nilS.val) : Calls Try.prog fn_hollowaybook_Book_putTexts #[.pointer (some ⟨b, 0, none⟩)] w fun e w' => e = .returned (.tuple #[]) ∧ w = w' := by
  refine (hollowaybook_Book_putTexts_lift (K := fun r w' => r = .tuple #[] ∧ w = w') ?_).mono (by rintro e w' ⟨r, rfl, rfl, h⟩; exact ⟨rfl, h⟩)
  unfold hollowaybook_Book_putTexts_sh
  refine ⟨fun n w' => n = 0 ∧ w = w', fun _ _ => 0, ⟨rfl, rfl⟩, ?_⟩
  rintro n w2 ⟨rfl, rfl⟩
  refine ⟨nilS, h, ?_⟩
  rw [noLen]
  exact brB_f ⟨rfl, rfl⟩
theorem growTexts_nil {w : World} {b : Nat} (h : w.cell? ⟨b, 0, none⟩ = some nilS.val) : Calls Try.prog fn_hollowaybook_Book_growTexts #[.pointer (some ⟨b, 0, none⟩)] w fun e w' => e = .returned nilS.val ∧ w = w' := by
  refine (hollowaybook_Book_growTexts_lift (K := fun r w' => r = nilS.val ∧ w = w') ?_).mono (by rintro e w' ⟨r, rfl, rfl, h⟩; exact ⟨rfl, h⟩)
  unfold hollowaybook_Book_growTexts_sh
  refine ⟨fun o n w' => o = nilS ∧ n = 0 ∧ w = w', fun _ _ _ => 0, ⟨rfl, rfl, rfl⟩, ?_⟩
  rintro o n w2 ⟨rfl, rfl, rfl⟩
  refine ⟨nilS, h, ?_⟩
  rw [noLen]
  exact brB_f ⟨rfl, rfl⟩
theorem markedTexts_nil (w : World) : Calls Try.prog fn_hollowaybook_markedTexts #[nilS.val] w fun e w' => e = .returned (.bool true) ∧ w = w' := by
  refine (hollowaybook_markedTexts_lift (K := fun r w' => r = .bool true ∧ w = w') ?_).mono (by rintro e w' ⟨r, rfl, rfl, h⟩; exact ⟨rfl, h⟩)
  unfold hollowaybook_markedTexts_sh
  refine ⟨fun n w' => n = 0 ∧ w = w', fun _ _ => 0, ⟨rfl, rfl⟩, ?_⟩
  rintro n w2 ⟨rfl, rfl⟩
  rw [noLen]
  exact brB_f ⟨rfl, rfl⟩
theorem stillInts_nil {w : World} {b : Nat} (h : w.cell? ⟨b, 2, none⟩ = some nilS.val) : Calls Try.prog fn_hollowaybook_Book_stillInts #[.pointer (some ⟨b, 0, none⟩)] w fun e w' => e = .returned (.bool true) ∧ w = w' := by
  refine (hollowaybook_Book_stillInts_lift (K := fun r w' => r = .bool true ∧ w = w') ?_).mono (by rintro e w' ⟨r, rfl, rfl, h⟩; exact ⟨rfl, h⟩)
  unfold hollowaybook_Book_stillInts_sh
  refine ⟨fun n w' => n = 0 ∧ w = w', fun _ _ => 0, ⟨rfl, rfl⟩, ?_⟩
  rintro n w2 ⟨rfl, rfl⟩
  refine ⟨nilS, h, ?_⟩
  rw [noLen]
  exact brB_f ⟨rfl, rfl⟩
theorem putInts_nil {w : World} {b : Nat} (h : w.cell? ⟨b, 2, none⟩ = some nilS.val) : Calls Try.prog fn_hollowaybook_Book_putInts #[.pointer (some ⟨b, 0, none⟩)] w fun e w' => e = .returned (.tuple #[]) ∧ w = w' := by
  refine (hollowaybook_Book_putInts_lift (K := fun r w' => r = .tuple #[] ∧ w = w') ?_).mono (by rintro e w' ⟨r, rfl, rfl, h⟩; exact ⟨rfl, h⟩)
  unfold hollowaybook_Book_putInts_sh
  refine ⟨fun n w' => n = 0 ∧ w = w', fun _ _ => 0, ⟨rfl, rfl⟩, ?_⟩
  rintro n w2 ⟨rfl, rfl⟩
  refine ⟨nilS, h, ?_⟩
  rw [noLen]
  exact brB_f ⟨rfl, rfl⟩
theorem growInts_nil {w : World} {b : Nat} (h : w.cell? ⟨b, 2, none⟩ = some nilS.val) : Calls Try.prog fn_hollowaybook_Book_growInts #[.pointer (some ⟨b, 0, none⟩)] w fun e w' => e = .returned nilS.val ∧ w = w' := by
  refine (hollowaybook_Book_growInts_lift (K := fun r w' => r = nilS.val ∧ w = w') ?_).mono (by rintro e w' ⟨r, rfl, rfl, h⟩; exact ⟨rfl, h⟩)
  unfold hollowaybook_Book_growInts_sh
  refine ⟨fun o n w' => o = nilS ∧ n = 0 ∧ w = w', fun _ _ _ => 0, ⟨rfl, rfl, rfl⟩, ?_⟩
  rintro o n w2 ⟨rfl, rfl, rfl⟩
  refine ⟨nilS, h, ?_⟩
  rw [noLen]
  exact brB_f ⟨rfl, rfl⟩
theorem markedInts_nil (w : World) : Calls Try.prog fn_hollowaybook_markedInts #[nilS.val] w fun e w' => e = .returned (.bool true) ∧ w = w' := by
  refine (hollowaybook_markedInts_lift (K := fun r w' => r = .bool true ∧ w = w') ?_).mono (by rintro e w' ⟨r, rfl, rfl, h⟩; exact ⟨rfl, h⟩)
  unfold hollowaybook_markedInts_sh
  refine ⟨fun n w' => n = 0 ∧ w = w', fun _ _ => 0, ⟨rfl, rfl⟩, ?_⟩
  rintro n w2 ⟨rfl, rfl⟩
  rw [noLen]
  exact brB_f ⟨rfl, rfl⟩
theorem stillWords_nil {w : World} {b : Nat} (h : w.cell? ⟨b, 4, none⟩ = some nilS.val) : Calls Try.prog fn_hollowaybook_Book_stillWords #[.pointer (some ⟨b, 0, none⟩)] w fun e w' => e = .returned (.bool true) ∧ w = w' := by
  refine (hollowaybook_Book_stillWords_lift (K := fun r w' => r = .bool true ∧ w = w') ?_).mono (by rintro e w' ⟨r, rfl, rfl, h⟩; exact ⟨rfl, h⟩)
  unfold hollowaybook_Book_stillWords_sh
  refine ⟨fun n w' => n = 0 ∧ w = w', fun _ _ => 0, ⟨rfl, rfl⟩, ?_⟩
  rintro n w2 ⟨rfl, rfl⟩
  refine ⟨nilS, h, ?_⟩
  rw [noLen]
  exact brB_f ⟨rfl, rfl⟩
theorem putWords_nil {w : World} {b : Nat} (h : w.cell? ⟨b, 4, none⟩ = some nilS.val) : Calls Try.prog fn_hollowaybook_Book_putWords #[.pointer (some ⟨b, 0, none⟩)] w fun e w' => e = .returned (.tuple #[]) ∧ w = w' := by
  refine (hollowaybook_Book_putWords_lift (K := fun r w' => r = .tuple #[] ∧ w = w') ?_).mono (by rintro e w' ⟨r, rfl, rfl, h⟩; exact ⟨rfl, h⟩)
  unfold hollowaybook_Book_putWords_sh
  refine ⟨fun n w' => n = 0 ∧ w = w', fun _ _ => 0, ⟨rfl, rfl⟩, ?_⟩
  rintro n w2 ⟨rfl, rfl⟩
  refine ⟨nilS, h, ?_⟩
  rw [noLen]
  exact brB_f ⟨rfl, rfl⟩
theorem growWords_nil {w : World} {b : Nat} (h : w.cell? ⟨b, 4, none⟩ = some nilS.val) : Calls Try.prog fn_hollowaybook_Book_growWords #[.pointer (some ⟨b, 0, none⟩)] w fun e w' => e = .returned nilS.val ∧ w = w' := by
  refine (hollowaybook_Book_growWords_lift (K := fun r w' => r = nilS.val ∧ w = w') ?_).mono (by rintro e w' ⟨r, rfl, rfl, h⟩; exact ⟨rfl, h⟩)
  unfold hollowaybook_Book_growWords_sh
  refine ⟨fun o n w' => o = nilS ∧ n = 0 ∧ w = w', fun _ _ _ => 0, ⟨rfl, rfl, rfl⟩, ?_⟩
  rintro o n w2 ⟨rfl, rfl, rfl⟩
  refine ⟨nilS, h, ?_⟩
  rw [noLen]
  exact brB_f ⟨rfl, rfl⟩
theorem markedWords_nil (w : World) : Calls Try.prog fn_hollowaybook_markedWords #[nilS.val] w fun e w' => e = .returned (.bool true) ∧ w = w' := by
  refine (hollowaybook_markedWords_lift (K := fun r w' => r = .bool true ∧ w = w') ?_).mono (by rintro e w' ⟨r, rfl, rfl, h⟩; exact ⟨rfl, h⟩)
  unfold hollowaybook_markedWords_sh
  refine ⟨fun n w' => n = 0 ∧ w = w', fun _ _ => 0, ⟨rfl, rfl⟩, ?_⟩
  rintro n w2 ⟨rfl, rfl⟩
  rw [noLen]
  exact brB_f ⟨rfl, rfl⟩
theorem stillSeens_nil {w : World} {b : Nat} (h : w.cell? ⟨b, 6, none⟩ = some nilS.val) : Calls Try.prog fn_hollowaybook_Book_stillSeens #[.pointer (some ⟨b, 0, none⟩)] w fun e w' => e = .returned (.bool true) ∧ w = w' := by
  refine (hollowaybook_Book_stillSeens_lift (K := fun r w' => r = .bool true ∧ w = w') ?_).mono (by rintro e w' ⟨r, rfl, rfl, h⟩; exact ⟨rfl, h⟩)
  unfold hollowaybook_Book_stillSeens_sh
  refine ⟨fun n w' => n = 0 ∧ w = w', fun _ _ => 0, ⟨rfl, rfl⟩, ?_⟩
  rintro n w2 ⟨rfl, rfl⟩
  refine ⟨nilS, h, ?_⟩
  rw [noLen]
  exact brB_f ⟨rfl, rfl⟩
theorem putSeens_nil {w : World} {b : Nat} (h : w.cell? ⟨b, 6, none⟩ = some nilS.val) : Calls Try.prog fn_hollowaybook_Book_putSeens #[.pointer (some ⟨b, 0, none⟩)] w fun e w' => e = .returned (.tuple #[]) ∧ w = w' := by
  refine (hollowaybook_Book_putSeens_lift (K := fun r w' => r = .tuple #[] ∧ w = w') ?_).mono (by rintro e w' ⟨r, rfl, rfl, h⟩; exact ⟨rfl, h⟩)
  unfold hollowaybook_Book_putSeens_sh
  refine ⟨fun n w' => n = 0 ∧ w = w', fun _ _ => 0, ⟨rfl, rfl⟩, ?_⟩
  rintro n w2 ⟨rfl, rfl⟩
  refine ⟨nilS, h, ?_⟩
  rw [noLen]
  exact brB_f ⟨rfl, rfl⟩
theorem growSeens_nil {w : World} {b : Nat} (h : w.cell? ⟨b, 6, none⟩ = some nilS.val) : Calls Try.prog fn_hollowaybook_Book_growSeens #[.pointer (some ⟨b, 0, none⟩)] w fun e w' => e = .returned nilS.val ∧ w = w' := by
  refine (hollowaybook_Book_growSeens_lift (K := fun r w' => r = nilS.val ∧ w = w') ?_).mono (by rintro e w' ⟨r, rfl, rfl, h⟩; exact ⟨rfl, h⟩)
  unfold hollowaybook_Book_growSeens_sh
  refine ⟨fun o n w' => o = nilS ∧ n = 0 ∧ w = w', fun _ _ _ => 0, ⟨rfl, rfl, rfl⟩, ?_⟩
  rintro o n w2 ⟨rfl, rfl, rfl⟩
  refine ⟨nilS, h, ?_⟩
  rw [noLen]
  exact brB_f ⟨rfl, rfl⟩
theorem markedSeens_nil (w : World) : Calls Try.prog fn_hollowaybook_markedSeens #[nilS.val] w fun e w' => e = .returned (.bool true) ∧ w = w' := by
  refine (hollowaybook_markedSeens_lift (K := fun r w' => r = .bool true ∧ w = w') ?_).mono (by rintro e w' ⟨r, rfl, rfl, h⟩; exact ⟨rfl, h⟩)
  unfold hollowaybook_markedSeens_sh
  refine ⟨fun n w' => n = 0 ∧ w = w', fun _ _ => 0, ⟨rfl, rfl⟩, ?_⟩
  rintro n w2 ⟨rfl, rfl⟩
  rw [noLen]
  exact brB_f ⟨rfl, rfl⟩
theorem stillCodes_nil {w : World} {b : Nat} (h : w.cell? ⟨b, 8, none⟩ = some nilS.val) : Calls Try.prog fn_hollowaybook_Book_stillCodes #[.pointer (some ⟨b, 0, none⟩)] w fun e w' => e = .returned (.bool true) ∧ w = w' := by
  refine (hollowaybook_Book_stillCodes_lift (K := fun r w' => r = .bool true ∧ w = w') ?_).mono (by rintro e w' ⟨r, rfl, rfl, h⟩; exact ⟨rfl, h⟩)
  unfold hollowaybook_Book_stillCodes_sh
  refine ⟨fun n w' => n = 0 ∧ w = w', fun _ _ => 0, ⟨rfl, rfl⟩, ?_⟩
  rintro n w2 ⟨rfl, rfl⟩
  refine ⟨nilS, h, ?_⟩
  rw [noLen]
  exact brB_f ⟨rfl, rfl⟩
theorem putCodes_nil {w : World} {b : Nat} (h : w.cell? ⟨b, 8, none⟩ = some nilS.val) : Calls Try.prog fn_hollowaybook_Book_putCodes #[.pointer (some ⟨b, 0, none⟩)] w fun e w' => e = .returned (.tuple #[]) ∧ w = w' := by
  refine (hollowaybook_Book_putCodes_lift (K := fun r w' => r = .tuple #[] ∧ w = w') ?_).mono (by rintro e w' ⟨r, rfl, rfl, h⟩; exact ⟨rfl, h⟩)
  unfold hollowaybook_Book_putCodes_sh
  refine ⟨fun n w' => n = 0 ∧ w = w', fun _ _ => 0, ⟨rfl, rfl⟩, ?_⟩
  rintro n w2 ⟨rfl, rfl⟩
  refine ⟨nilS, h, ?_⟩
  rw [noLen]
  exact brB_f ⟨rfl, rfl⟩
theorem growCodes_nil {w : World} {b : Nat} (h : w.cell? ⟨b, 8, none⟩ = some nilS.val) : Calls Try.prog fn_hollowaybook_Book_growCodes #[.pointer (some ⟨b, 0, none⟩)] w fun e w' => e = .returned nilS.val ∧ w = w' := by
  refine (hollowaybook_Book_growCodes_lift (K := fun r w' => r = nilS.val ∧ w = w') ?_).mono (by rintro e w' ⟨r, rfl, rfl, h⟩; exact ⟨rfl, h⟩)
  unfold hollowaybook_Book_growCodes_sh
  refine ⟨fun o n w' => o = nilS ∧ n = 0 ∧ w = w', fun _ _ _ => 0, ⟨rfl, rfl, rfl⟩, ?_⟩
  rintro o n w2 ⟨rfl, rfl, rfl⟩
  refine ⟨nilS, h, ?_⟩
  rw [noLen]
  exact brB_f ⟨rfl, rfl⟩
theorem markedCodes_nil (w : World) : Calls Try.prog fn_hollowaybook_markedCodes #[nilS.val] w fun e w' => e = .returned (.bool true) ∧ w = w' := by
  refine (hollowaybook_markedCodes_lift (K := fun r w' => r = .bool true ∧ w = w') ?_).mono (by rintro e w' ⟨r, rfl, rfl, h⟩; exact ⟨rfl, h⟩)
  unfold hollowaybook_markedCodes_sh
  refine ⟨fun n w' => n = 0 ∧ w = w', fun _ _ => 0, ⟨rfl, rfl⟩, ?_⟩
  rintro n w2 ⟨rfl, rfl⟩
  rw [noLen]
  exact brB_f ⟨rfl, rfl⟩
theorem stillExits_nil {w : World} {b : Nat} (h : w.cell? ⟨b, 10, none⟩ = some nilS.val) : Calls Try.prog fn_hollowaybook_Book_stillExits #[.pointer (some ⟨b, 0, none⟩)] w fun e w' => e = .returned (.bool true) ∧ w = w' := by
  refine (hollowaybook_Book_stillExits_lift (K := fun r w' => r = .bool true ∧ w = w') ?_).mono (by rintro e w' ⟨r, rfl, rfl, h⟩; exact ⟨rfl, h⟩)
  unfold hollowaybook_Book_stillExits_sh
  refine ⟨fun n w' => n = 0 ∧ w = w', fun _ _ => 0, ⟨rfl, rfl⟩, ?_⟩
  rintro n w2 ⟨rfl, rfl⟩
  refine ⟨nilS, h, ?_⟩
  rw [noLen]
  exact brB_f ⟨rfl, rfl⟩
theorem putExits_nil {w : World} {b : Nat} (h : w.cell? ⟨b, 10, none⟩ = some nilS.val) : Calls Try.prog fn_hollowaybook_Book_putExits #[.pointer (some ⟨b, 0, none⟩)] w fun e w' => e = .returned (.tuple #[]) ∧ w = w' := by
  refine (hollowaybook_Book_putExits_lift (K := fun r w' => r = .tuple #[] ∧ w = w') ?_).mono (by rintro e w' ⟨r, rfl, rfl, h⟩; exact ⟨rfl, h⟩)
  unfold hollowaybook_Book_putExits_sh
  refine ⟨fun n w' => n = 0 ∧ w = w', fun _ _ => 0, ⟨rfl, rfl⟩, ?_⟩
  rintro n w2 ⟨rfl, rfl⟩
  refine ⟨nilS, h, ?_⟩
  rw [noLen]
  exact brB_f ⟨rfl, rfl⟩
theorem growExits_nil {w : World} {b : Nat} (h : w.cell? ⟨b, 10, none⟩ = some nilS.val) : Calls Try.prog fn_hollowaybook_Book_growExits #[.pointer (some ⟨b, 0, none⟩)] w fun e w' => e = .returned nilS.val ∧ w = w' := by
  refine (hollowaybook_Book_growExits_lift (K := fun r w' => r = nilS.val ∧ w = w') ?_).mono (by rintro e w' ⟨r, rfl, rfl, h⟩; exact ⟨rfl, h⟩)
  unfold hollowaybook_Book_growExits_sh
  refine ⟨fun o n w' => o = nilS ∧ n = 0 ∧ w = w', fun _ _ _ => 0, ⟨rfl, rfl, rfl⟩, ?_⟩
  rintro o n w2 ⟨rfl, rfl, rfl⟩
  refine ⟨nilS, h, ?_⟩
  rw [noLen]
  exact brB_f ⟨rfl, rfl⟩
theorem markedExits_nil (w : World) : Calls Try.prog fn_hollowaybook_markedExits #[nilS.val] w fun e w' => e = .returned (.bool true) ∧ w = w' := by
  refine (hollowaybook_markedExits_lift (K := fun r w' => r = .bool true ∧ w = w') ?_).mono (by rintro e w' ⟨r, rfl, rfl, h⟩; exact ⟨rfl, h⟩)
  unfold hollowaybook_markedExits_sh
  refine ⟨fun n w' => n = 0 ∧ w = w', fun _ _ => 0, ⟨rfl, rfl⟩, ?_⟩
  rintro n w2 ⟨rfl, rfl⟩
  rw [noLen]
  exact brB_f ⟨rfl, rfl⟩
end Go.Proofs.Ytgffaimgnmfifaa

/- A book of numbers alone. -/
set_option maxRecDepth 100000
namespace Go.Proofs.Ytgffaimgnmfifaa
open Go.RowKit

section
/-- A book of numbers alone. -/
def bookI (A Bs : Sl) : List Value := [nilS.val, nilS.val, A.val, Bs.val, nilS.val, nilS.val, nilS.val, nilS.val, nilS.val, nilS.val, nilS.val, nilS.val]
def BkI (D : Nat → Prop) (w : World) (b : Nat) : Prop := ∃ (A Bs : Sl) (ls was : List Sl) (xss : List (List Int)), Ob w b (bookI A Bs) T_hollowaybook_Book ∧ KO D intE T_sl_int w b A Bs ls was xss ∧ D b ∧ ls.length ≤ 250
theorem bookInts_any {D : Nat → Prop} {w : World} {b : Nat} (h : BkI D w b) (hD : ∀ k, w.heap.size ≤ k → D k) {l : Sl} {xs : List Int} (hx : Ox intE w l xs) (hxs : xs.length ≤ 10000000) {D' : Nat → Prop} (hD' : ∀ k, D k → D' k) (hl : ∀ k, l.blk = some k → D' k ∧ ¬ D k) :
    Calls Try.prog fn_hollowaybook_Book_Ints #[.pointer (some ⟨b, 0, none⟩), l.val] w fun e w' => e = .returned (.tuple #[]) ∧ BkI D' w' b ∧ Chg D w w' := by
  refine (hollowaybook_Book_Ints_lift (K := fun r w' => r = .tuple #[] ∧ BkI D' w' b ∧ Chg D w w') ?_).mono (by rintro e w' ⟨r, rfl, rfl, h⟩; exact ⟨rfl, h⟩)
  unfold hollowaybook_Book_Ints_sh
  obtain ⟨A, Bs, ls, was, xss, ho, hk, hb, hfew⟩ := h
  have hk' : KO D' intE T_sl_int w b A Bs ls was xss := ⟨hk.oA, hk.oB, hk.len, hk.lenB, hk.ox, hk.rd, hk.dis, fun k h => ⟨hD' k (hk.dA k h).1, (hk.dA k h).2⟩, fun k h => ⟨hD' k (hk.dB k h).1, (hk.dB k h).2⟩, fun k h => ⟨hD' k (hk.dl k h).1, (hk.dl k h).2⟩, fun k h => ⟨hD' k (hk.dw k h).1, (hk.dw k h).2⟩⟩
  have hll : ∀ k, l.blk = some k → D' k ∧ k ≠ b ∧ A.blk ≠ some k ∧ Bs.blk ≠ some k ∧ ¬ blksOf ls k ∧ ¬ blksOf was k := fun k hlk => by
    obtain ⟨h1, h2⟩ := hl k hlk
    exact ⟨h1, fun e => h2 (e ▸ hb), fun e => h2 (hk.dA k e).1, fun e => h2 (hk.dB k e).1, fun e => h2 (hk.dl k e).1, fun e => h2 (hk.dw k e).1⟩
  exact add_core (K := fun r w' => r = .tuple #[] ∧ BkI D' w' b ∧ Chg D w w') (TB := T_hollowaybook_Book) (cs := bookI A Bs) slIntOk copyInts_any ho rfl rfl hk' (fun k h => hD' k (hD k h)) hx hxs hll
    (fun _ => ⟨rfl, ⟨A, Bs, ls, was, xss, ho, hk', hD' b hb, hfew⟩, Chg.refl _ _⟩)
    (fun hlt A' B' c' w' o' k' ch => ⟨rfl, ⟨A', B', ls ++ [l], was ++ [c'], xss ++ [xs], o', k', hD' b hb, by rw [List.length_append]; show ls.length + 1 ≤ 250; omega⟩, ch.mono (fun k _ h => by
      rcases h with rfl | h | h
      · exact hb
      · exact (hk.dA k h).1
      · exact (hk.dB k h).1)⟩)
theorem BkI.chg {D S : Nat → Prop} {w w' : World} {b : Nat} (h : BkI D w b) (c : Chg S w w') (hS : ∀ k, D k → ¬ S k) : BkI D w' b := by
  obtain ⟨A, Bs, ls, was, xss, ho, hk, hb, hfew⟩ := h
  refine ⟨A, Bs, ls, was, xss, ho.chg c (hS _ hb), ⟨hk.oA.chg c (fun k e => hS _ (hk.dA k e).1), hk.oB.chg c (fun k e => hS _ (hk.dB k e).1), hk.len, hk.lenB, fun i s xs hs hx => ⟨(hk.ox i s xs hs hx).1.chg c (fun k e => hS _ (hk.dl k ⟨i, s, hs, e⟩).1), (hk.ox i s xs hs hx).2⟩, fun i s xs hs hx => (hk.rd i s xs hs hx).chg c (fun k e => hS _ (hk.dw k ⟨i, s, hs, e⟩).1), hk.dis, hk.dA, hk.dB, fun k e => ⟨(hk.dl k e).1, (hk.dl k e).2.1, Nat.lt_of_lt_of_le (hk.dl k e).2.2 c.size⟩, fun k e => ⟨(hk.dw k e).1, (hk.dw k e).2.1, Nat.lt_of_lt_of_le (hk.dw k e).2.2.1 c.size, (hk.dw k e).2.2.2⟩⟩, hb, hfew⟩
end
section
theorem apartInts_any {w : World} {b : Nat} {A Bs : Sl} {ls was : List Sl} {xss : List (List Int)} (hc : ∀ j : Nat, j = 0 ∨ j = 4 ∨ j = 6 ∨ j = 8 ∨ j = 10 → w.cell? ⟨b, j, none⟩ = some nilS.val) (h : KB intE T_sl_int w b 2 A Bs ls was xss) :
    Calls Try.prog fn_hollowaybook_Book_Apart #[.pointer (some ⟨b, 0, none⟩)] w fun e w' => e = .returned (.bool true) ∧ Chg (blksOf ls) w w' := by
  refine (hollowaybook_Book_Apart_lift (K := fun r w' => r = .bool true ∧ Chg (blksOf ls) w w') ?_).mono (by rintro e w' ⟨r, rfl, rfl, h⟩; exact ⟨rfl, h⟩)
  unfold hollowaybook_Book_Apart_sh
  refine (stillTexts_nil (hc 0 (by omega))).mono ?_
  rintro e w3 ⟨rfl, rfl⟩
  refine ⟨_, rfl, brN_f ?_⟩
  refine (stillInts_any h).mono ?_
  rintro e wS ⟨rfl, cS⟩
  have hcS : ∀ j : Nat, j = 0 ∨ j = 4 ∨ j = 6 ∨ j = 8 ∨ j = 10 → wS.cell? ⟨b, j, none⟩ = some nilS.val := fun j hj => cS.cell (hc j hj) (fun h => h)
  refine ⟨_, rfl, brN_f ?_⟩
  refine (stillWords_nil (hcS 4 (by omega))).mono ?_
  rintro e w3 ⟨rfl, rfl⟩
  refine ⟨_, rfl, brN_f ?_⟩
  refine (stillSeens_nil (hcS 6 (by omega))).mono ?_
  rintro e w3 ⟨rfl, rfl⟩
  refine ⟨_, rfl, brN_f ?_⟩
  refine (stillCodes_nil (hcS 8 (by omega))).mono ?_
  rintro e w3 ⟨rfl, rfl⟩
  refine ⟨_, rfl, brN_f ?_⟩
  refine (stillExits_nil (hcS 10 (by omega))).mono ?_
  rintro e w3 ⟨rfl, rfl⟩
  refine ⟨_, rfl, brN_f ?_⟩
  refine (putExits_nil (hcS 10 (by omega))).mono ?_
  rintro e w3 ⟨rfl, rfl⟩
  refine ⟨rfl, ?_⟩
  refine (putTexts_nil (hcS 0 (by omega))).mono ?_
  rintro e w3 ⟨rfl, rfl⟩
  refine ⟨rfl, ?_⟩
  refine (putInts_any (h.no cS)).mono ?_
  rintro e wP ⟨rfl, hmP, cP⟩
  have hcP : ∀ j : Nat, j = 0 ∨ j = 4 ∨ j = 6 ∨ j = 8 ∨ j = 10 → wP.cell? ⟨b, j, none⟩ = some nilS.val := fun j hj => cP.cell (hcS j hj) h.nb
  refine ⟨rfl, ?_⟩
  refine (putWords_nil (hcP 4 (by omega))).mono ?_
  rintro e w3 ⟨rfl, rfl⟩
  refine ⟨rfl, ?_⟩
  refine (putSeens_nil (hcP 6 (by omega))).mono ?_
  rintro e w3 ⟨rfl, rfl⟩
  refine ⟨rfl, ?_⟩
  refine (putCodes_nil (hcP 8 (by omega))).mono ?_
  rintro e w3 ⟨rfl, rfl⟩
  refine ⟨rfl, ?_⟩
  refine (growTexts_nil (hcP 0 (by omega))).mono ?_
  rintro e w3 ⟨rfl, rfl⟩
  refine ⟨nilS, rfl, ?_⟩
  refine (growInts_any hmP).mono ?_
  rintro e wG ⟨out, rfl, hgG, hkG, cG⟩
  have hcG : ∀ j : Nat, j = 0 ∨ j = 4 ∨ j = 6 ∨ j = 8 ∨ j = 10 → wG.cell? ⟨b, j, none⟩ = some nilS.val := fun j hj => cG.cell (hcP j hj) h.nb
  have hAG : wG.cell? ⟨b, 2, none⟩ = some A.val := cG.cell hmP.cA h.nb
  have hown : Grown' intE T_sl_int mkI wG A ls.length := hkG.asGrown (hmP.rA.chg cG h.nA) (fun i s hs => by have := (hmP.ox i s hs).2; omega)
  have cwG : Chg (blksOf ls) w wG := (cS.trans cP (U := blksOf ls) (fun _ _ h => h.elim) (fun _ _ h => h)).trans cG (fun _ _ h => h) (fun _ _ h => h)
  refine ⟨out, rfl, ?_⟩
  refine (growWords_nil (hcG 4 (by omega))).mono ?_
  rintro e w3 ⟨rfl, rfl⟩
  refine ⟨nilS, rfl, ?_⟩
  refine (growSeens_nil (hcG 6 (by omega))).mono ?_
  rintro e w3 ⟨rfl, rfl⟩
  refine ⟨nilS, rfl, ?_⟩
  refine (growCodes_nil (hcG 8 (by omega))).mono ?_
  rintro e w3 ⟨rfl, rfl⟩
  refine ⟨nilS, rfl, ?_⟩
  refine (growExits_nil (hcG 10 (by omega))).mono ?_
  rintro e w3 ⟨rfl, rfl⟩
  refine ⟨nilS, rfl, ?_⟩
  refine (markedTexts_nil _).mono ?_
  rintro e w3 ⟨rfl, rfl⟩
  refine ⟨_, rfl, brB_t ⟨nilS, hcG 0 (by omega), ?_⟩⟩
  refine (markedTexts_nil _).mono ?_
  rintro e w3 ⟨rfl, rfl⟩
  refine ⟨_, rfl, brB_t ?_⟩
  refine (markedInts_any h.few hgG).mono ?_
  rintro e wM ⟨rfl, cM⟩
  refine ⟨_, rfl, brB_t ⟨A, cM.cell hAG (fun h => h), ?_⟩⟩
  refine (markedInts_any h.few (hown.no cM)).mono ?_
  rintro e wN ⟨rfl, cN⟩
  have cMN : Chg No wG wN := cM.trans cN (fun _ _ h => h) (fun _ _ h => h)
  have hcN : ∀ j : Nat, j = 0 ∨ j = 4 ∨ j = 6 ∨ j = 8 ∨ j = 10 → wN.cell? ⟨b, j, none⟩ = some nilS.val := fun j hj => cMN.cell (hcG j hj) (fun h => h)
  refine ⟨_, rfl, brB_t ?_⟩
  refine (markedWords_nil _).mono ?_
  rintro e w3 ⟨rfl, rfl⟩
  refine ⟨_, rfl, brB_t ⟨nilS, hcN 4 (by omega), ?_⟩⟩
  refine (markedWords_nil _).mono ?_
  rintro e w3 ⟨rfl, rfl⟩
  refine ⟨_, rfl, brB_t ?_⟩
  refine (markedSeens_nil _).mono ?_
  rintro e w3 ⟨rfl, rfl⟩
  refine ⟨_, rfl, brB_t ⟨nilS, hcN 6 (by omega), ?_⟩⟩
  refine (markedSeens_nil _).mono ?_
  rintro e w3 ⟨rfl, rfl⟩
  refine ⟨_, rfl, brB_t ?_⟩
  refine (markedCodes_nil _).mono ?_
  rintro e w3 ⟨rfl, rfl⟩
  refine ⟨_, rfl, brB_t ⟨nilS, hcN 8 (by omega), ?_⟩⟩
  refine (markedCodes_nil _).mono ?_
  rintro e w3 ⟨rfl, rfl⟩
  refine ⟨_, rfl, brB_t ?_⟩
  refine (markedExits_nil _).mono ?_
  rintro e w3 ⟨rfl, rfl⟩
  refine ⟨_, rfl, brB_t ⟨nilS, hcN 10 (by omega), ?_⟩⟩
  refine (markedExits_nil _).mono ?_
  rintro e w3 ⟨rfl, rfl⟩
  exact ⟨_, rfl, rfl, cwG.trans cMN (fun _ _ h => h) (fun _ _ h => h.elim)⟩
theorem BkI.apart {D : Nat → Prop} {w : World} {b : Nat} (h : BkI D w b) : Calls Try.prog fn_hollowaybook_Book_Apart #[.pointer (some ⟨b, 0, none⟩)] w fun e w' => e = .returned (.bool true) ∧ Chg D w w' := by
  obtain ⟨A, Bs, ls, was, xss, ho, hk, hb, hfew⟩ := h
  have hB : KB intE T_sl_int w b 2 A Bs ls was xss := ⟨ho.cell rfl, ho.cell rfl, hk.oA.rd, hk.oB.rd, hk.len, hk.lenB, by omega, hk.ox, hk.rd, hk.dis, fun e => (hk.dl b e).2.1 rfl, fun k e => (hk.dA k e).2.2.2.1⟩
  refine (apartInts_any (fun j hj => ?_) hB).mono ?_
  · rcases hj with rfl | rfl | rfl | rfl | rfl <;> exact ho.cell rfl
  · rintro e w' ⟨rfl, c⟩
    exact ⟨rfl, c.mono (fun k _ h => (hk.dl k h).1)⟩
end
section
theorem BkI.empty {D : Nat → Prop} {w : World} {b : Nat} (h : Ob w b (bookI nilS nilS) T_hollowaybook_Book) (hb : D b) : BkI D w b := ⟨nilS, nilS, [], [], [], h, KO.empty _ _ _ _ _, hb, Nat.zero_le _⟩
theorem BkI.nar {D : Nat → Prop} {w : World} {b : Nat} (h : BkI D w b) : BkI (fun k => D k ∧ k < w.heap.size) w b := by
  obtain ⟨A, Bs, ls, was, xss, h1, h2, h3, h4⟩ := h
  exact ⟨A, Bs, ls, was, xss, h1, h2.nar, ⟨h3, h1.lt⟩, h4⟩
theorem BkI.wid {D D' : Nat → Prop} {w : World} {b : Nat} (h : BkI D w b) (hd : ∀ k, D k → D' k) : BkI D' w b := by
  obtain ⟨A, Bs, ls, was, xss, h1, h2, h3, h4⟩ := h
  exact ⟨A, Bs, ls, was, xss, h1, h2.wid hd, hd _ h3, h4⟩
end
end Go.Proofs.Ytgffaimgnmfifaa

/- The book of several kinds: what a list's copy is, is told apart; where grown lists lie. (Printed from BkG, Book, BookC, then added to.) -/
set_option maxRecDepth 100000
namespace Go.Proofs.Ytgffaimgnmfifaa
open Go.RowKit

section
variable {α : Type} {P : Program}
/-- A kind's lists in the book, all in blocks of D, each where no other of them lies; of the copies only where they lie. -/
structure KH (D : Nat → Prop) (E : Enc α) (T : TypeId) (w : World) (b : Nat) (A Bs : Sl) (ls was : List Sl) (xss : List (List α)) : Prop where
  oA : Ow (slE T) w A ls
  oB : Ow (slE T) w Bs was
  len : ls.length = xss.length
  lenB : was.length = xss.length
  ox : ∀ (i : Nat) (s : Sl) (xs : List α), ls[i]? = some s → xss[i]? = some xs → Ox E w s xs ∧ xs.length ≤ 10000000
  dis : ∀ (i j : Nat) (s t : Sl) (k : Nat), ls[i]? = some s → ls[j]? = some t → s.blk = some k → t.blk = some k → i = j
  dA : ∀ k, A.blk = some k → D k ∧ k ≠ b ∧ Bs.blk ≠ some k ∧ ¬ blksOf ls k ∧ ¬ blksOf was k
  dB : ∀ k, Bs.blk = some k → D k ∧ k ≠ b ∧ ¬ blksOf ls k ∧ ¬ blksOf was k
  dl : ∀ k, blksOf ls k → D k ∧ k ≠ b ∧ k < w.heap.size
  dw : ∀ k, blksOf was k → D k ∧ k ≠ b ∧ k < w.heap.size ∧ ¬ blksOf ls k
theorem addx_core {D : Nat → Prop} {E : Enc α} {T TT TB : TypeId} {fC : FuncId} (okk : EncOk P (slE T) TT)
    {w : World} {b o : Nat} {cs : List Value} {A Bs : Sl} {ls was : List Sl} {xss : List (List α)} (ho : Ob w b cs TB) (hcA : cs[o]? = some A.val) (hcB : cs[o + 1]? = some Bs.val) (h : KH D E T w b A Bs ls was xss) (hD : ∀ k, w.heap.size ≤ k → D k)
    {l : Sl} {xs : List α} (hx : Ox E w l xs) (hxs : xs.length ≤ 10000000) (hl : ∀ k, l.blk = some k → D k ∧ k ≠ b ∧ A.blk ≠ some k ∧ Bs.blk ≠ some k ∧ ¬ blksOf ls k ∧ ¬ blksOf was k) {G : Sl → World → World → Prop} (hC : ∀ w10, Chg (fun k => k = b ∨ A.blk = some k) w w10 → Calls P fC #[l.val] w10 fun e w' => ∃ s' : Sl, e = .returned s'.val ∧ G s' w10 w' ∧ (∀ k, s'.blk = some k → w10.heap.size ≤ k ∧ k < w'.heap.size) ∧ Chg No w10 w') {K : Value → World → Prop}
    (kfull : 250 ≤ ls.length → K (.tuple #[]) w)
    (k : ls.length < 250 → ∀ (A' B' c' : Sl) (w10 w14 w' : World), Ob w' b ((cs.set o A'.val).set (o + 1) B'.val) TB → KH D E T w' b A' B' (ls ++ [l]) (was ++ [c']) (xss ++ [xs]) → G c' w10 w14 → Chg (fun k => k = b ∨ A.blk = some k) w w10 → Chg No w10 w14 → Chg (fun k => k = b ∨ Bs.blk = some k) w14 w' → (∀ k, c'.blk = some k → w10.heap.size ≤ k ∧ k < w14.heap.size) → (∀ k, A'.blk = some k → k < w10.heap.size) → (∀ k, A'.blk = some k → A.blk = some k ∨ w.heap.size ≤ k) → (∀ k, B'.blk = some k → Bs.blk = some k ∨ w14.heap.size ≤ k) → Chg (fun k => k = b ∨ A.blk = some k ∨ Bs.blk = some k) w w' → K (.tuple #[]) w') :
    ∃ s3 : Sl, w.cell? ⟨b, o, none⟩ = some (s3.val) ∧
      brB (decide ((s3.len : Int) < (250 : Int)))
      (∃ s4 : Sl, w.cell? ⟨b, o, none⟩ = some (s4.val) ∧
      ∀ (b5 : Nat) (w6 : World), b5 = w.heap.size → w6 = World.alloc w (.cells #[l.val] T) →
      ∃ s7 : Sl, ∃ w8 : World, (Builtin.append_ #[TT, TT] TT #[s4.val, .slice (some ⟨b5, 0, none⟩) 1 1]).run P w6 = .ok (s7.val) w8 ∧
      wrOk w8 ⟨b, o, none⟩ 1 ∧ ∀ w9 : World, w9 = stW w8 ⟨b, o, none⟩ 0 [s7.val] →
      ∀ w10 : World, w10 = World.drew w9 →
      ∃ S11 : World → Prop, S11 w10 ∧
      ∃ s12 : Sl, held S11 ⟨b, o + 1, none⟩ (s12.val) ∧
      Calls P fC #[l.val] w10 fun e13 w14 => ∃ s15 : Sl, e13 = .returned (s15.val) ∧
      S11 w14 ∧
      ∀ (b16 : Nat) (w17 : World), b16 = w14.heap.size → w17 = World.alloc w14 (.cells #[s15.val] T) →
      S11 w17 ∧
      ∃ s18 : Sl, ∃ w19 : World, (Builtin.append_ #[TT, TT] TT #[s12.val, .slice (some ⟨b16, 0, none⟩) 1 1]).run P w17 = .ok (s18.val) w19 ∧
      S11 w19 ∧
      wrOk w19 ⟨b, o + 1, none⟩ 1 ∧ ∀ w20 : World, w20 = stW w19 ⟨b, o + 1, none⟩ 0 [s18.val] →
      K (.tuple #[]) w20)
      (K (.tuple #[]) w) := by
  have hlen := h.oA.rd.len
  have oLt : o < cs.length := (List.getElem?_eq_some_iff.1 hcA).1
  have oLt1 : o + 1 < cs.length := (List.getElem?_eq_some_iff.1 hcB).1
  refine ⟨A, ho.cell hcA, brB_of (fun hlt => ?_) (fun hlt => kfull (by simp at hlt; omega))⟩
  have hlt : ls.length < 250 := by simp at hlt; omega
  have hll := h.len
  have hlB := h.lenB
  refine ⟨A, ho.cell hcA, ?_⟩
  intro b5 w6 hb5 hw6
  have c6 : Chg No w w6 := by rw [hw6]; exact Chg.alloc _ _ _
  have hlit : Ow (slE T) w6 ⟨some ⟨b5, 0, none⟩, 1, 1⟩ [l] := by
    rw [hw6, hb5]
    exact Ow.lit (E := slE T) w [l] ((slE T).e l) (by rw [fl_one]) (by show 1 ≤ maxLen; unfold maxLen; omega)
  refine app_ok okk rfl rfl (h.oA.no c6) hlit.rd (by show (ls.length + 1) * 24 ≤ _; omega) (by show ls.length + 1 ≤ _; unfold maxLen; omega) ?_
  intro A' w8 hA' c8 hbkA
  have bLt := ho.lt
  have s6 := c6.size
  have s8 := c8.size
  have o8 : Ob w8 b cs TB := (ho.no c6).chg c8 (fun he => (h.dA b he).2.1 rfl)
  refine ⟨o8.wr (by omega), ?_⟩
  intro w9 hw9
  have o9 : Ob w9 b (cs.set o A'.val) TB := by
    have := Ob.st (vs := [A'.val]) (k := o) (i := 0) o8
    rw [hw9]; exact this
  have c9 : Chg (fun k => k = b) w8 w9 := by rw [hw9]; exact Chg.st (S := fun k => k = b) rfl
  intro w10 hw10
  have c10 : Chg No w9 w10 := by rw [hw10]; exact Chg.drew _ _
  have o10 := o9.no c10
  have s9 := c9.size
  have s10 := c10.size
  have cB1 : (cs.set o A'.val)[o + 1]? = some Bs.val := by rw [List.getElem?_set_ne (by omega)]; exact hcB
  -- from w to w10: A's block and the book's own
  have cw10 : Chg (fun k => k = b ∨ A.blk = some k) w w10 := ((c6.trans c8 (U := fun k => k = b ∨ A.blk = some k) (fun _ _ h => h.elim) (fun _ _ h => Or.inr h)).trans c9 (fun _ _ h => h) (fun _ _ h => Or.inl h)).trans c10 (fun _ _ h => h) (fun _ _ h => h.elim)
  have nA' : ∀ k, A'.blk = some k → A.blk = some k ∨ k = w6.heap.size := fun k hk => by
    rcases hbkA with hh | hh
    · exact Or.inl (hh ▸ hk)
    · exact Or.inr (Option.some.inj (hh.symm.trans hk)).symm
  have lOld : ∀ k, l.blk = some k → k < w.heap.size := hx.lt
  have _l10 : Ox E w10 l xs := hx.chg cw10 (fun k hk he => by rcases he with he | he; exact (hl k hk).2.1 he; exact (hl k hk).2.2.1 he)
  refine ⟨fun w' => Ob w' b (cs.set o A'.val) TB, o10, Bs, fun w' hw' => hw'.cell cB1, ?_⟩
  refine (hC w10 cw10).mono ?_
  rintro e w14 ⟨s15, rfl, hG, f15', c14⟩
  refine ⟨s15, rfl, o10.no c14, ?_⟩
  intro b16 w17 hb16 hw17
  have c17 : Chg No w14 w17 := by rw [hw17]; exact Chg.alloc _ _ _
  have s14 := c14.size
  have s17 := c17.size
  have hlit2 : Ow (slE T) w17 ⟨some ⟨b16, 0, none⟩, 1, 1⟩ [s15] := by
    rw [hw17, hb16]
    exact Ow.lit (E := slE T) w14 [s15] ((slE T).e s15) (by rw [fl_one]) (by show 1 ≤ maxLen; unfold maxLen; omega)
  have cw17 : Chg (fun k => k = b ∨ A.blk = some k) w w17 := (cw10.trans c14 (fun _ _ h => h) (fun _ _ h => h.elim)).trans c17 (fun _ _ h => h) (fun _ _ h => h.elim)
  have hB17 : Ow (slE T) w17 Bs was := h.oB.chg cw17 (fun k hk he => by rcases he with he | he; exact (h.dB k hk).2.1 he; exact (h.dA k he).2.2.1 hk)
  refine ⟨(o10.no c14).no c17, ?_⟩
  refine app_ok okk rfl rfl hB17 hlit2.rd (by show (was.length + 1) * 24 ≤ _; omega) (by show was.length + 1 ≤ _; unfold maxLen; omega) ?_
  intro B' w19 hB' c19 hbkB
  have s19 := c19.size
  have o19 : Ob w19 b (cs.set o A'.val) TB := ((o10.no c14).no c17).chg c19 (fun he => (h.dB b he).2.1 rfl)
  refine ⟨o19, o19.wr (by rw [List.length_set]; omega), ?_⟩
  intro w20 hw20
  have o20 : Ob w20 b ((cs.set o A'.val).set (o + 1) B'.val) TB := by
    have := Ob.st (vs := [B'.val]) (k := o + 1) (i := 0) o19
    rw [hw20]; exact this
  have c20 : Chg (fun k => k = b) w19 w20 := by rw [hw20]; exact Chg.st (S := fun k => k = b) rfl
  have s20 := c20.size
  have nB' : ∀ k, B'.blk = some k → Bs.blk = some k ∨ k = w17.heap.size := fun k hk => by
    rcases hbkB with hh | hh
    · exact Or.inl (hh ▸ hk)
    · exact Or.inr (Option.some.inj (hh.symm.trans hk)).symm
  have cw20 : Chg (fun k => k = b ∨ A.blk = some k ∨ Bs.blk = some k) w w20 := (cw17.trans c19 (U := fun k => k = b ∨ A.blk = some k ∨ Bs.blk = some k) (fun _ _ h => by rcases h with h | h; exact Or.inl h; exact Or.inr (Or.inl h)) (fun _ _ h => Or.inr (Or.inr h))).trans c20 (fun _ _ h => h) (fun _ _ h => Or.inl h)
  have c1020 : Chg (fun k => k = b ∨ Bs.blk = some k) w10 w20 := ((c14.trans c17 (U := fun k => k = b ∨ Bs.blk = some k) (fun _ _ h => h.elim) (fun _ _ h => h.elim)).trans c19 (fun _ _ h => h) (fun _ _ h => Or.inr h)).trans c20 (fun _ _ h => h) (fun _ _ h => Or.inl h)
  have bOld : ∀ k, Bs.blk = some k → k < w.heap.size := fun k hk => h.oB.lt hk
  have aOld : ∀ k, A.blk = some k → k < w.heap.size := fun k hk => h.oA.lt hk
  have A'20 : Ow (slE T) w20 A' (ls ++ [l]) := by
    refine (((hA'.chg c9 (fun k hk he => ?_)).no c10).chg c1020 (fun k hk he => ?_))
    · rcases nA' k hk with h5 | h5
      · exact (h.dA k h5).2.1 he
      · omega
    · rcases nA' k hk with h5 | h5
      · rcases he with he | he
        · exact (h.dA k h5).2.1 he
        · exact (h.dA k h5).2.2.1 he
      · rcases he with he | he
        · omega
        · have := bOld k he; omega
  have lsK : ∀ k, blksOf (ls ++ [l]) k → D k ∧ k ≠ b ∧ k < w.heap.size ∧ A.blk ≠ some k ∧ Bs.blk ≠ some k ∧ ¬ blksOf was k := by
    intro k hk
    rcases blksOf_app hk with h5 | h5
    · exact ⟨(h.dl k h5).1, (h.dl k h5).2.1, (h.dl k h5).2.2, fun e => (h.dA k e).2.2.2.1 h5, fun e => (h.dB k e).2.2.1 h5, fun e => (h.dw k e).2.2.2 h5⟩
    · exact ⟨(hl k h5).1, (hl k h5).2.1, lOld k h5, (hl k h5).2.2.1, (hl k h5).2.2.2.1, (hl k h5).2.2.2.2.2⟩
  have wasK : ∀ k, blksOf (was ++ [s15]) k → (blksOf was k ∧ k < w.heap.size) ∨ (w10.heap.size ≤ k ∧ k < w14.heap.size) := by
    intro k hk
    rcases blksOf_app hk with h5 | h5
    · exact Or.inl ⟨h5, (h.dw k h5).2.2.1⟩
    · exact Or.inr (f15' k h5)
  have c1420 : Chg (fun k => k = b ∨ Bs.blk = some k) w14 w20 := (c17.trans c19 (U := fun k => k = b ∨ Bs.blk = some k) (fun _ _ h => h.elim) (fun _ _ h => Or.inr h)).trans c20 (fun _ _ h => h) (fun _ _ h => Or.inl h)
  refine k hlt A' B' s15 w10 w14 w20 o20 ⟨A'20, ?_, by simp [hll], by simp [hlB], fun i s ys hs hy => ?_, fun i j s t m hs ht hm hn => ?_, fun m hm => ?_, fun m hm => ?_, fun m hm => ⟨(lsK m hm).1, (lsK m hm).2.1, by have := (lsK m hm).2.2.1; omega⟩, fun m hm => ?_⟩ hG cw10 c14 c1420 f15' (fun k hk => by have := hA'.lt hk; omega) (fun k hk => (nA' k hk).imp (fun h => h) (fun h => by omega)) (fun k hk => (nB' k hk).imp (fun h => h) (fun h => by omega)) cw20
  · refine hB'.chg c20 (fun m hm he => ?_)
    rcases nB' m hm with h5 | h5
    · exact (h.dB m h5).2.1 he
    · omega
  · rcases app_at hs with ⟨h5, h6⟩ | ⟨h5, rfl⟩
    · rw [List.getElem?_append_left (by omega)] at hy
      obtain ⟨h7, h8⟩ := h.ox i s ys h6 hy
      refine ⟨h7.chg cw20 (fun m hm he => ?_), h8⟩
      have h9 : blksOf ls m := ⟨i, s, h6, hm⟩
      rcases he with he | he | he
      · exact (h.dl m h9).2.1 he
      · exact (h.dA m he).2.2.2.1 h9
      · exact (h.dB m he).2.2.1 h9
    · rcases app_at hy with ⟨h6, _⟩ | ⟨_, rfl⟩
      · omega
      · refine ⟨hx.chg cw20 (fun m hm he => ?_), hxs⟩
        have h9 := hl m hm
        rcases he with he | he | he
        · exact h9.2.1 he
        · exact h9.2.2.1 he
        · exact h9.2.2.2.1 he
  · rcases app_at hs with ⟨h5, h6⟩ | ⟨h5, rfl⟩
    · rcases app_at ht with ⟨h7, h8⟩ | ⟨h7, rfl⟩
      · exact h.dis i j s t m h6 h8 hm hn
      · exact absurd ⟨i, s, h6, hm⟩ (hl m hn).2.2.2.2.1
    · rcases app_at ht with ⟨h7, h8⟩ | ⟨h7, rfl⟩
      · exact absurd ⟨j, t, h8, hn⟩ (hl m hm).2.2.2.2.1
      · omega
  · rcases nA' m hm with h5 | h5
    · refine ⟨(h.dA m h5).1, (h.dA m h5).2.1, fun e => ?_, fun e => (lsK m e).2.2.2.1 h5, fun e => ?_⟩
      · rcases nB' m e with h6 | h6
        · exact (h.dA m h5).2.2.1 h6
        · have := aOld m h5; omega
      · rcases wasK m e with h6 | h6
        · exact (h.dA m h5).2.2.2.2 h6.1
        · have := aOld m h5; omega
    · have hAl := hA'.lt hm
      refine ⟨hD m (by omega), by omega, fun e => ?_, fun e => by have := (lsK m e).2.2.1; omega, fun e => ?_⟩
      · rcases nB' m e with h6 | h6
        · have := bOld m h6; omega
        · omega
      · rcases wasK m e with h6 | h6
        · omega
        · omega
  · rcases nB' m hm with h5 | h5
    · refine ⟨(h.dB m h5).1, (h.dB m h5).2.1, fun e => (lsK m e).2.2.2.2.1 h5, fun e => ?_⟩
      rcases wasK m e with h6 | h6
      · exact (h.dB m h5).2.2.2 h6.1
      · have := bOld m h5; omega
    · refine ⟨hD m (by omega), by omega, fun e => by have := (lsK m e).2.2.1; omega, fun e => ?_⟩
      rcases wasK m e with h6 | h6 <;> omega
  · rcases wasK m hm with h6 | h6
    · exact ⟨(h.dw m h6.1).1, (h.dw m h6.1).2.1, by omega, fun e => (lsK m e).2.2.2.2.2 h6.1⟩
    · exact ⟨hD m (by omega), by omega, by omega, fun e => by have := (lsK m e).2.2.1; omega⟩
theorem growx_core {E : Enc α} {T TT : TypeId} {fM : FuncId} {mk : Int → Int → α} (ok : EncOk P E T) (okk : EncOk P (slE T) TT) (hby : E.bytes ≤ 1000)
    {ls : List Sl} (hM : ls = [] ∨ MarkOk P E mk fM) {w : World} {b o : Nat} {A : Sl} (hA : w.cell? ⟨b, o, none⟩ = some A.val) (rA : Rd (slE T) w A ls) (hsm : ls.length ≤ 100000)
    (h1 : ∀ (i : Nat) (s : Sl), ls[i]? = some s → Ox E w s (marks (mk i) 0 s.len) ∧ s.len ≤ 10000000)
    (dis : ∀ (i j : Nat) (s t : Sl) (k : Nat), ls[i]? = some s → ls[j]? = some t → s.blk = some k → t.blk = some k → i = j) (hb : ¬ blksOf ls b) (hAb : ∀ k, A.blk = some k → ¬ blksOf ls k) {K : Value → World → Prop}
    (k : ∀ (out : Sl) (outs : List Sl) (w' : World), Rd (slE T) w' out outs → outs.length = ls.length → (∀ (i : Nat) (t : Sl), outs[i]? = some t → t.len ≤ 20000000 ∧ Rd E w' t (marks (mk i) 0 t.len)) → (∀ k, out.blk = some k → w.heap.size ≤ k) → (∀ (i : Nat) (t : Sl) (k : Nat), outs[i]? = some t → t.blk = some k → blksOf ls k ∨ w.heap.size ≤ k) → (∀ (i : Nat) (s : Sl), ls[i]? = some s → Rd E w' s (marks (mk i) 0 s.len)) → Chg (blksOf ls) w w' → K out.val w') :
    ∃ (I1 : Sl → Int → World → Prop) (μ1 : Sl → Int → World → Nat), I1 (⟨none, 0, 0⟩ : Sl) (0 : Int) w ∧ ∀ (out16 : Sl) (i3 : Int) (w2 : World), I1 out16 i3 w2 →
      ∃ s4 : Sl, w2.cell? ⟨b, o, none⟩ = some (s4.val) ∧
      brB (decide (i3 < (s4.len : Int)))
      (∃ s5 : Sl, w2.cell? ⟨b, o, none⟩ = some (s5.val) ∧
      ∃ a6 : Addr, s5.ptr = some a6 ∧ 0 ≤ i3 ∧ i3 < (s5.len : Int) ∧
      ∃ s7 : Sl, w2.cell? (Addr.add a6 (Int.toNat i3 * 1)) = some (s7.val) ∧
      ∃ (I2 : Sl → Int → World → Prop) (μ2 : Sl → Int → World → Nat), I2 s7 (0 : Int) w2 ∧ ∀ (l10 : Sl) (n9 : Int) (w8 : World), I2 l10 n9 w8 →
      brB (decide (n9 < (12 : Int)))
      (Calls P fM #[.int .i64 i3, .int .i64 (l10.len : Int), .int .i64 (1 : Int)] w8 fun e11 w12 => ∃ s13 : Sl, e11 = .returned (s13.val) ∧
      ∃ s14 : Sl, ∃ w15 : World, (Builtin.append_ #[T, T] T #[l10.val, s13.val]).run P w12 = .ok (s14.val) w15 ∧
      I2 s14 (wr (n9 + (1 : Int))) w15 ∧ μ2 s14 (wr (n9 + (1 : Int))) w15 < μ2 l10 n9 w8)
      (Calls P fM #[.int .i64 i3, .int .i64 (l10.len : Int), .int .i64 (60 : Int)] w8 fun e17 w18 => ∃ s19 : Sl, e17 = .returned (s19.val) ∧
      ∃ s20 : Sl, ∃ w21 : World, (Builtin.append_ #[T, T] T #[l10.val, s19.val]).run P w18 = .ok (s20.val) w21 ∧
      ∀ (b22 : Nat) (w23 : World), b22 = w21.heap.size → w23 = World.alloc w21 (.cells #[s20.val] T) →
      ∃ s24 : Sl, ∃ w25 : World, (Builtin.append_ #[TT, TT] TT #[out16.val, .slice (some ⟨b22, 0, none⟩) 1 1]).run P w23 = .ok (s24.val) w25 ∧
      I1 s24 (wr (i3 + (1 : Int))) w25 ∧ μ1 s24 (wr (i3 + (1 : Int))) w25 < μ1 out16 i3 w2))
      (K (out16.val) w2) := by
  have hlen := rA.len
  have old : ∀ k, blksOf ls k → k < w.heap.size := by
    rintro k ⟨i, t, ht, hk⟩; exact (h1 i t ht).1.lt k hk
  refine ⟨fun out n w' => ∃ (j : Nat) (outs : List Sl), n = j ∧ j ≤ ls.length ∧ outs.length = j ∧ Ow (slE T) w' out outs ∧ (∀ k, out.blk = some k → w.heap.size ≤ k) ∧
      (∀ (i : Nat) (t : Sl), outs[i]? = some t → t.len ≤ 20000000 ∧ Rd E w' t (marks (mk i) 0 t.len) ∧ (∀ k, t.blk = some k → k < w'.heap.size ∧ out.blk ≠ some k ∧ ((∃ s, ls[i]? = some s ∧ s.blk = some k) ∨ w.heap.size ≤ k))) ∧
      (∀ (i : Nat) (s : Sl), i < j → ls[i]? = some s → Rd E w' s (marks (mk i) 0 s.len)) ∧ (∀ (i : Nat) (s : Sl), j ≤ i → ls[i]? = some s → Ox E w' s (marks (mk i) 0 s.len)) ∧ Chg (blksOf ls) w w', fun _ n _ => ls.length - n.toNat,
    ⟨0, [], rfl, Nat.zero_le _, rfl, Ow.nil _ _, (fun k hk => by cases hk), (fun i t hi => by simp at hi), fun i s h => by omega, fun i s _ hs => (h1 i s hs).1, Chg.refl _ _⟩, ?_⟩
  rintro out n w2 ⟨j, outs, rfl, hj, hol, ho, hob, hos, hdone, htodo, hc⟩
  have rA2 : ∀ w', Chg (blksOf ls) w w' → Rd (slE T) w' A ls := fun w' hw' => rA.chg hw' hAb
  have cA2 : ∀ w', Chg (blksOf ls) w w' → w'.cell? ⟨b, o, none⟩ = some A.val := fun w' hw' => hw'.cell hA hb
  refine ⟨A, cA2 w2 hc, brB_of (fun hlt => ?_) (fun hlt => ?_)⟩
  · have hlt : j < ls.length := by simp at hlt; omega
    have hM' : MarkOk P E mk fM := hM.resolve_left fun e => by rw [e] at hlt; simp at hlt
    obtain ⟨s, hs⟩ : ∃ s, ls[j]? = some s := ⟨_, List.getElem?_eq_getElem hlt⟩
    obtain ⟨a, ha, h0, hlt', hcell⟩ := sl_cell (rA2 w2 hc) hs
    have hsmall := (h1 j s hs).2
    have s2 := hc.size
    have bs : ∀ k, s.blk = some k → blksOf ls k := fun k hk => ⟨j, s, hs, hk⟩
    refine ⟨A, cA2 w2 hc, a, ha, h0, hlt', s, hcell, ?_⟩
    -- what holds while list j grows: l reads d marks more; s still reads; only s's block and new ones are touched
    have hI : ∀ (d : Nat) (l : Sl) (w8 : World), (Ox E w8 l (marks (mk j) 0 (s.len + d)) ∧ Rd E w8 s (marks (mk j) 0 s.len) ∧ (l.blk = s.blk ∧ l.ptr = s.ptr ∧ l.cap = s.cap ∨ ∀ k, l.blk = some k → w2.heap.size ≤ k) ∧ Chg (fun k => s.blk = some k) w2 w8) → s.len + d ≤ 15000000 →
        ∀ (m : Nat), m ≤ 60 → 0 < m → ∀ {G : Sl → World → Prop}, (∀ (s14 : Sl) (w15 : World), (Ox E w15 s14 (marks (mk j) 0 (s.len + (d + m))) ∧ Rd E w15 s (marks (mk j) 0 s.len) ∧ (s14.blk = s.blk ∧ s14.ptr = s.ptr ∧ s14.cap = s.cap ∨ ∀ k, s14.blk = some k → w2.heap.size ≤ k) ∧ Chg (fun k => s.blk = some k) w2 w15) → G s14 w15) →
        Calls P fM #[.int .i64 j, .int .i64 (l.len : Int), .int .i64 (m : Int)] w8 fun e11 w12 => ∃ s13 : Sl, e11 = .returned (s13.val) ∧ ∃ s14 : Sl, ∃ w15 : World, (Builtin.append_ #[T, T] T #[l.val, s13.val]).run P w12 = .ok (s14.val) w15 ∧ G s14 w15 := by
      rintro d l w8 ⟨hx, hrs, hbl, hch⟩ hd m hm hm0 G hG
      have hll : l.len = s.len + d := by rw [hx.rd.len, marks_len]
      rw [hll]
      refine (hM' j (s.len + d) m w8 (by omega) (by omega)).mono ?_
      rintro e w12 ⟨s13, rfl, h13, c12, f13⟩
      refine ⟨s13, rfl, ?_⟩
      have hml := marks_len (mk j) 0 (s.len + d)
      have hml2 := marks_len (mk j) (s.len + d) m
      obtain ⟨y, hy⟩ : ∃ y, (marks (mk j) (s.len + d) m)[0]? = some y := ⟨_, List.getElem?_eq_getElem (by omega)⟩
      obtain ⟨a13, ha13, _⟩ := h13.rd.at hy
      have s8 := hch.size
      have s12 := c12.size
      refine appk_ok ok rfl rfl (hx.no c12) h13.rd ha13 (fun _ he => by rw [he] at hml2; simp at hml2; omega) (by
        rw [hml, hml2]
        have : (s.len + d + m) * E.bytes ≤ 20000000 * 1000 := Nat.mul_le_mul (by omega) hby
        omega) (by rw [hml, hml2]; unfold maxLen; omega) ?_
      intro s14 w15 h14 c15 _ hroom hkeep hnew
      rw [marks_app, Nat.add_assoc] at h14
      rw [hml, hml2] at hroom hnew
      refine hG s14 w15 ⟨h14, ?_, ?_, ?_⟩
      · rcases hbl with ⟨e1, e2, e3⟩ | e1
        · have h9 := hkeep.take (n := s.len) (by rw [hml]; omega)
          have e9 : (⟨l.ptr, s.len, l.cap⟩ : Sl) = s := by rw [e2, e3]
          rw [e9, ← marks_app, List.take_left' (marks_len _ _ _)] at h9
          exact h9
        · refine (hrs.no c12).chg c15 (fun k hk he => ?_)
          have := e1 k he; have := old k (bs k hk); omega
      · by_cases hr : s.len + d + m ≤ l.cap
        · obtain ⟨e4, e5⟩ := hroom hr
          rcases hbl with ⟨e1, e2, e3⟩ | e1
          · exact Or.inl ⟨by have : s14.blk = l.blk := by { unfold Sl.blk Sl.val; rw [e4]; cases l.ptr <;> rfl }
                             rw [this, e1], e4.trans e2, e5.trans e3⟩
          · right; intro k hk
            refine e1 k ?_
            rw [← hk]; unfold Sl.blk Sl.val; rw [e4]; cases l.ptr <;> rfl
        · right; intro k hk; have := hnew (by omega) k hk; omega
      · refine (hch.trans c12 (U := fun k => s.blk = some k) (fun _ _ h => h) (fun _ _ h => h.elim)).trans c15 (fun _ _ h => h) (fun k hk he => ?_)
        rcases hbl with ⟨e1, _, _⟩ | e1
        · rw [e1] at he; exact he
        · have := e1 k he; omega
    refine ⟨fun l n w' => ∃ d : Nat, n = d ∧ d ≤ 12 ∧ (Ox E w' l (marks (mk j) 0 (s.len + d)) ∧ Rd E w' s (marks (mk j) 0 s.len) ∧ (l.blk = s.blk ∧ l.ptr = s.ptr ∧ l.cap = s.cap ∨ ∀ k, l.blk = some k → w2.heap.size ≤ k) ∧ Chg (fun k => s.blk = some k) w2 w'), fun _ n _ => 12 - n.toNat,
      ⟨0, rfl, by omega, htodo j s (Nat.le_refl _) hs, (htodo j s (Nat.le_refl _) hs).rd, Or.inl ⟨rfl, rfl, rfl⟩, Chg.refl _ _⟩, ?_⟩
    rintro l n w8 ⟨d, rfl, hd, hinv⟩
    refine brB_of (fun hlt2 => ?_) (fun hlt2 => ?_)
    · have hlt2 : d < 12 := by simp at hlt2; omega
      refine hI d l w8 hinv (by omega) 1 (by omega) (by omega) fun s14 w15 h => ?_
      rw [wr_of (by omega) (by omega)]
      exact ⟨⟨d + 1, by omega, by omega, h⟩, by show 12 - Int.toNat ((d : Int) + 1) < 12 - Int.toNat (d : Int); omega⟩
    · have hlt2 : d = 12 := by simp at hlt2; omega
      subst hlt2
      refine hI 12 l w8 hinv (by omega) 60 (by omega) (by omega) fun s20 w21 h => ?_
      obtain ⟨hx, hrs, hbl, hch⟩ := h
      intro b22 w23 hb22 hw23
      have c23 : Chg No w21 w23 := by rw [hw23]; exact Chg.alloc _ _ _
      have hlit : Ow (slE T) w23 ⟨some ⟨b22, 0, none⟩, 1, 1⟩ [s20] := by
        rw [hw23, hb22]
        exact Ow.lit (E := slE T) w21 [s20] ((slE T).e s20) (by rw [fl_one]) (by show 1 ≤ maxLen; unfold maxLen; omega)
      have s21 := hch.size
      have s23 := c23.size
      have ho21 : Ow (slE T) w21 out outs := ho.chg hch (fun k hk he => by have := hob k hk; have := old k (bs k he); omega)
      refine app_ok okk rfl rfl (ho21.no c23) hlit.rd (by rw [hol]; show (j + 1) * 24 ≤ _; omega) (by rw [hol]; show j + 1 ≤ _; unfold maxLen; omega) ?_
      intro s24 w25 h24 c25 hbk
      have s25 := c25.size
      have hl20 : s20.len = s.len + (12 + 60) := by rw [hx.rd.len, marks_len]
      have b20 : ∀ k, s20.blk = some k → k < w21.heap.size ∧ out.blk ≠ some k ∧ ((∃ s, ls[j]? = some s ∧ s.blk = some k) ∨ w.heap.size ≤ k) := by
        intro k hk
        refine ⟨hx.lt k hk, fun he => ?_, ?_⟩
        · have h7 := hob k he
          have h8 := ho.lt he
          rcases hbl with ⟨e1, _, _⟩ | e1
          · have := old k (bs k (e1 ▸ hk)); omega
          · have := e1 k hk; omega
        · rcases hbl with ⟨e1, _, _⟩ | e1
          · exact Or.inl ⟨s, hs, e1 ▸ hk⟩
          · exact Or.inr (by have := e1 k hk; omega)
      have hb24 : ∀ k, k < w23.heap.size → out.blk ≠ some k → s24.blk ≠ some k := by
        intro k hk hne he
        rcases hbk with hh | hh
        · exact hne (hh ▸ he)
        · have := Option.some.inj (hh.symm.trans he); omega
      rw [wr_of (by omega) (by omega)]
      refine ⟨⟨j + 1, outs ++ [s20], by omega, by omega, by rw [List.length_append, hol]; rfl, h24, fun k hk => ?_, fun i t hi => ?_, fun i t hi ht => ?_, fun i t hi ht => ?_, ?_⟩, by show ls.length - Int.toNat ((j : Int) + 1) < ls.length - Int.toNat (j : Int); omega⟩
      · rcases hbk with hh | hh
        · exact hob k (hh ▸ hk)
        · have := Option.some.inj (hh.symm.trans hk); omega
      · by_cases hij : i < j
        · rw [List.getElem?_append_left (by omega)] at hi
          obtain ⟨h5, h6, h7⟩ := hos i t hi
          refine ⟨h5, ((h6.chg hch (fun k hk he => ?_)).no c23).chg c25 (fun k hk he => (h7 k hk).2.1 he), fun k hk => ⟨by have := (h7 k hk).1; omega, hb24 k (by have := (h7 k hk).1; omega) (h7 k hk).2.1, (h7 k hk).2.2⟩⟩
          rcases (h7 k hk).2.2 with ⟨s', hs', hk'⟩ | h9
          · have := dis i j s' s k hs' hs hk' he; omega
          · have := old k (bs k he); omega
        · have hi2 : i = j := by
            have := (List.getElem?_eq_some_iff.1 hi).1
            rw [List.length_append, hol] at this; simp at this; omega
          subst hi2
          rw [List.getElem?_append_right (by omega), hol, Nat.sub_self] at hi
          cases hi
          refine ⟨by omega, ?_, fun k hk => ⟨by have := (b20 k hk).1; omega, hb24 k (by have := (b20 k hk).1; omega) (b20 k hk).2.1, (b20 k hk).2.2⟩⟩
          rw [hl20]
          exact (hx.rd.no c23).chg c25 (fun k hk he => (b20 k hk).2.1 he)
      · have base : Rd E w21 t (marks (mk i) 0 t.len) := by
          rcases Nat.lt_succ_iff_lt_or_eq.1 hi with hh | rfl
          · refine (hdone i t hh ht).chg hch (fun k hk he => ?_)
            have := dis i j t s k ht hs hk he; omega
          · rw [hs] at ht; cases ht; exact hrs
        exact (base.no c23).chg c25 (fun k hk he => by have := hob k he; have := old k ⟨i, t, ht, hk⟩; omega)
      · have base : Ox E w21 t (marks (mk i) 0 t.len) := by
          refine (htodo i t (by omega) ht).chg hch (fun k hk he => ?_)
          have := dis i j t s k ht hs hk he; omega
        exact (base.no c23).chg c25 (fun k hk he => by have := hob k he; have := old k ⟨i, t, ht, hk⟩; omega)
      · have d1 : Chg (blksOf ls) w w21 := hc.trans hch (fun _ _ h => h) (fun k _ hk => bs k hk)
        have d2 : Chg (blksOf ls) w w23 := d1.trans c23 (fun _ _ h => h) (fun _ _ h => h.elim)
        exact d2.trans c25 (fun _ _ h => h) (fun k hk he => by have := hob k he; omega)
  · have hlt : j = ls.length := by simp at hlt; omega
    subst hlt
    exact k out outs w2 ho.rd hol (fun i t hi => ⟨(hos i t hi).1, (hos i t hi).2.1⟩) hob (fun i t q hi hq => ((hos i t hi).2.2 q hq).2.2.imp (fun ⟨s, hs, hk⟩ => ⟨i, s, hs, hk⟩) (fun h => h)) (fun i s hs => hdone i s (List.getElem?_eq_some_iff.1 hs).1 hs) hc
theorem stillx_core {eT : TypeId} {fS : FuncId} {w : World} {b o : Nat} {A Bs : Sl} {ls was : List Sl} (hA : w.cell? ⟨b, o, none⟩ = some A.val) (hB : w.cell? ⟨b, o + 1, none⟩ = some Bs.val)
    (rA : Rd (slE eT) w A ls) (rB : Rd (slE eT) w Bs was) (hl : was.length = ls.length) (hsm : ls.length ≤ 100000)
    (hS : ∀ (j : Nat) (s t : Sl), ls[j]? = some s → was[j]? = some t → ∀ w', Chg No w w' → Calls P fS #[s.val, t.val] w' fun e w'' => e = .returned (.bool true) ∧ Chg No w' w'') {K : Value → World → Prop} (k : ∀ w', Chg No w w' → K (.bool true) w') :
    ∃ (I1 : Int → World → Prop) (μ1 : Int → World → Nat), I1 (0 : Int) w ∧ ∀ (i3 : Int) (w2 : World), I1 i3 w2 →
      ∃ s4 : Sl, w2.cell? ⟨b, o, none⟩ = some (s4.val) ∧
      brB (decide (i3 < (s4.len : Int)))
      (∀ w5 : World, w5 = World.drew w2 →
      ∃ s6 : Sl, held (Lw w5) ⟨b, o, none⟩ (s6.val) ∧
      ∃ a7 : Addr, s6.ptr = some a7 ∧ 0 ≤ i3 ∧ i3 < (s6.len : Int) ∧
      ∃ s8 : Sl, held (Lw w5) (Addr.add a7 (Int.toNat i3 * 1)) (s8.val) ∧
      ∃ s9 : Sl, held (Lw w5) ⟨b, o + 1, none⟩ (s9.val) ∧
      ∃ a10 : Addr, s9.ptr = some a10 ∧ 0 ≤ i3 ∧ i3 < (s9.len : Int) ∧
      ∃ s11 : Sl, held (Lw w5) (Addr.add a10 (Int.toNat i3 * 1)) (s11.val) ∧
      Calls P fS #[s8.val, s11.val] w5 fun e12 w13 => ∃ b14 : Bool, e12 = .returned (.bool b14) ∧
      brB (!b14)
      (K (.bool false) w13)
      (I1 (wr (i3 + (1 : Int))) w13 ∧ μ1 (wr (i3 + (1 : Int))) w13 < μ1 i3 w2))
      (K (.bool true) w2) := by
  refine ⟨fun n w' => ∃ j : Nat, n = j ∧ j ≤ ls.length ∧ Chg No w w', fun n _ => ls.length - n.toNat, ⟨0, rfl, Nat.zero_le _, Chg.refl _ _⟩, ?_⟩
  rintro n w2 ⟨j, rfl, hj, hc⟩
  have hlen := rA.len
  refine ⟨A, hc.cell hA (fun h => h), brB_of (fun hlt => ?_) (fun hlt => k w2 hc)⟩
  have hlt : j < ls.length := by simp at hlt; omega
  intro w5 hw5
  have c5 : Chg No w w5 := hc.trans (by rw [hw5]; exact Chg.drew No _) (fun _ _ h => h) (fun _ _ h => h)
  obtain ⟨s, hs⟩ : ∃ s, ls[j]? = some s := ⟨_, List.getElem?_eq_getElem hlt⟩
  obtain ⟨t, ht⟩ : ∃ t, was[j]? = some t := ⟨_, List.getElem?_eq_getElem (by omega)⟩
  obtain ⟨a, ha, h0, h1, hcell⟩ := sl_cell (rA.no c5) hs
  obtain ⟨a', ha', h0', h1', hcell'⟩ := sl_cell (rB.no c5) ht
  refine ⟨A, held_Lw (c5.cell hA (fun h => h)), a, ha, h0, h1, s, held_Lw hcell, Bs, held_Lw (c5.cell hB (fun h => h)), a', ha', h0', h1', t, held_Lw hcell', ?_⟩
  refine (hS j s t hs ht w5 c5).mono ?_
  rintro e w13 ⟨rfl, c13⟩
  refine ⟨true, rfl, brB_f ?_⟩
  rw [wr_of (by omega) (by omega)]
  exact ⟨⟨j + 1, by omega, by omega, c5.trans c13 (fun _ _ h => h) (fun _ _ h => h)⟩, by show ls.length - Int.toNat ((j : Int) + 1) < ls.length - Int.toNat (j : Int); omega⟩
theorem markedx_core {E : Enc α} {eT : TypeId} {fS fM : FuncId} {mk : Int → Int → α} (hS : ∀ (i n : Nat) (s t : Sl) (w : World), Rd E w s (marks (mk i) 0 n) → Rd E w t (marks (mk i) 0 n) → Calls P fS #[s.val, t.val] w fun e w' => e = .returned (.bool true) ∧ Chg No w w') (hM : MarkOk P E mk fM) {w : World} {A : Sl} {ls : List Sl} (rA : Rd (slE eT) w A ls) (hsm : ls.length ≤ 100000)
    (r1 : ∀ (i : Nat) (s : Sl), ls[i]? = some s → s.len ≤ 100000000 ∧ Rd E w s (marks (mk i) 0 s.len)) {K : Value → World → Prop} (k : ∀ w', Chg No w w' → K (.bool true) w') :
    ∃ (I1 : Int → World → Prop) (μ1 : Int → World → Nat), I1 (0 : Int) w ∧ ∀ (i3 : Int) (w2 : World), I1 i3 w2 →
      brB (decide (i3 < (A.len : Int)))
      (∀ w4 : World, w4 = World.drew w2 →
      ∃ S5 : World → Prop, S5 w4 ∧
      ∃ a6 : Addr, A.ptr = some a6 ∧ 0 ≤ i3 ∧ i3 < (A.len : Int) ∧
      ∃ s7 : Sl, held S5 (Addr.add a6 (Int.toNat i3 * 1)) (s7.val) ∧
      ∃ a8 : Addr, A.ptr = some a8 ∧ 0 ≤ i3 ∧ i3 < (A.len : Int) ∧
      ∃ s9 : Sl, held S5 (Addr.add a8 (Int.toNat i3 * 1)) (s9.val) ∧
      Calls P fM #[.int .i64 i3, .int .i64 (0 : Int), .int .i64 (s9.len : Int)] w4 fun e10 w11 => ∃ s12 : Sl, e10 = .returned (s12.val) ∧
      S5 w11 ∧
      Calls P fS #[s7.val, s12.val] w11 fun e13 w14 => ∃ b15 : Bool, e13 = .returned (.bool b15) ∧
      brB (!b15)
      (K (.bool false) w14)
      (I1 (wr (i3 + (1 : Int))) w14 ∧ μ1 (wr (i3 + (1 : Int))) w14 < μ1 i3 w2))
      (K (.bool true) w2) := by
  refine ⟨fun n w' => ∃ j : Nat, n = j ∧ j ≤ ls.length ∧ Chg No w w', fun n _ => ls.length - n.toNat, ⟨0, rfl, Nat.zero_le _, Chg.refl _ _⟩, ?_⟩
  rintro n w2 ⟨j, rfl, hj, hc⟩
  have hlen := rA.len
  refine brB_of (fun hlt => ?_) (fun hlt => k w2 hc)
  have hlt : j < ls.length := by simp at hlt; omega
  intro w4 hw4
  have c4 : Chg No w w4 := hc.trans (by rw [hw4]; exact Chg.drew No _) (fun _ _ h => h) (fun _ _ h => h)
  obtain ⟨s, hs⟩ : ∃ s, ls[j]? = some s := ⟨_, List.getElem?_eq_getElem hlt⟩
  obtain ⟨hsl, hr⟩ := r1 j s hs
  obtain ⟨a, ha, h0, h1, _⟩ := sl_cell (rA.no c4) hs
  have hh : held (fun w' => Chg No w w') (Addr.add a ((j : Int).toNat * 1)) s.val := fun w' hw' => by
    obtain ⟨a2, ha2, _, _, hcell⟩ := sl_cell (rA.no hw') hs
    rw [ha] at ha2; cases ha2; exact hcell
  refine ⟨fun w' => Chg No w w', c4, a, ha, h0, h1, s, hh, a, ha, h0, h1, s, hh, ?_⟩
  refine (hM j 0 s.len w4 (by omega) (by omega)).mono ?_
  rintro e w11 ⟨s12, rfl, h12, c11, _⟩
  have cw11 : Chg No w w11 := c4.trans c11 (fun _ _ h => h) (fun _ _ h => h)
  refine ⟨s12, rfl, cw11, ?_⟩
  refine (hS j s.len s s12 w11 (hr.no cw11) h12.rd).mono ?_
  rintro e w14 ⟨rfl, c14⟩
  refine ⟨true, rfl, brB_f ?_⟩
  rw [wr_of (by omega) (by omega)]
  exact ⟨⟨j + 1, by omega, by omega, cw11.trans c14 (fun _ _ h => h) (fun _ _ h => h)⟩, by show ls.length - Int.toNat ((j : Int) + 1) < ls.length - Int.toNat (j : Int); omega⟩
end
section
variable {α : Type} {w w' : World} {b o : Nat} {A Bs : Sl} {ls was : List Sl} {E : Enc α} {T : TypeId} {D D' S : Nat → Prop} {xss : List (List α)} {mk : Int → Int → α}
theorem KO.half (h : KO D E T w b A Bs ls was xss) : KH D E T w b A Bs ls was xss := ⟨h.oA, h.oB, h.len, h.lenB, h.ox, h.dis, h.dA, h.dB, h.dl, h.dw⟩
theorem KH.chg (h : KH D E T w b A Bs ls was xss) (c : Chg S w w') (hS : ∀ k, D k → ¬ S k) : KH D E T w' b A Bs ls was xss :=
  ⟨h.oA.chg c (fun k e => hS _ (h.dA k e).1), h.oB.chg c (fun k e => hS _ (h.dB k e).1), h.len, h.lenB, fun i s xs hs hx => ⟨(h.ox i s xs hs hx).1.chg c (fun k e => hS _ (h.dl k ⟨i, s, hs, e⟩).1), (h.ox i s xs hs hx).2⟩, h.dis, h.dA, h.dB, fun k e => ⟨(h.dl k e).1, (h.dl k e).2.1, Nat.lt_of_lt_of_le (h.dl k e).2.2 c.size⟩, fun k e => ⟨(h.dw k e).1, (h.dw k e).2.1, Nat.lt_of_lt_of_le (h.dw k e).2.2.1 c.size, (h.dw k e).2.2.2⟩⟩
theorem KO.chg (h : KO D E T w b A Bs ls was xss) (c : Chg S w w') (hS : ∀ k, D k → ¬ S k) : KO D E T w' b A Bs ls was xss := by
  have g := h.half.chg c hS
  exact ⟨g.oA, g.oB, g.len, g.lenB, g.ox, fun i s xs hs hx => (h.rd i s xs hs hx).chg c (fun k e => hS _ (h.dw k ⟨i, s, hs, e⟩).1), g.dis, g.dA, g.dB, g.dl, g.dw⟩
theorem KH.nar (h : KH D E T w b A Bs ls was xss) : KH (fun k => D k ∧ k < w.heap.size) E T w b A Bs ls was xss :=
  ⟨h.oA, h.oB, h.len, h.lenB, h.ox, h.dis, fun k e => ⟨⟨(h.dA k e).1, h.oA.lt e⟩, (h.dA k e).2⟩, fun k e => ⟨⟨(h.dB k e).1, h.oB.lt e⟩, (h.dB k e).2⟩, fun k e => ⟨⟨(h.dl k e).1, (h.dl k e).2.2⟩, (h.dl k e).2⟩, fun k e => ⟨⟨(h.dw k e).1, (h.dw k e).2.2.1⟩, (h.dw k e).2⟩⟩
theorem KH.wid (h : KH D E T w b A Bs ls was xss) (hd : ∀ k, D k → D' k) : KH D' E T w b A Bs ls was xss :=
  ⟨h.oA, h.oB, h.len, h.lenB, h.ox, h.dis, fun k e => ⟨hd _ (h.dA k e).1, (h.dA k e).2⟩, fun k e => ⟨hd _ (h.dB k e).1, (h.dB k e).2⟩, fun k e => ⟨hd _ (h.dl k e).1, (h.dl k e).2⟩, fun k e => ⟨hd _ (h.dw k e).1, (h.dw k e).2⟩⟩
theorem KH.empty (D : Nat → Prop) (E : Enc α) (T : TypeId) (w : World) (b : Nat) : KH D E T w b nilS nilS [] [] [] := (KO.empty D E T w b).half
/-- What putting in marks needs. -/
structure KP (E : Enc α) (T : TypeId) (w : World) (b o : Nat) (A : Sl) (ls : List Sl) (xss : List (List α)) : Prop where
  cA : w.cell? ⟨b, o, none⟩ = some A.val
  rA : Rd (slE T) w A ls
  len : ls.length = xss.length
  few : ls.length ≤ 100000
  ox : ∀ (i : Nat) (s : Sl) (xs : List α), ls[i]? = some s → xss[i]? = some xs → Ox E w s xs ∧ xs.length ≤ 10000000
  dis : ∀ (i j : Nat) (s t : Sl) (k : Nat), ls[i]? = some s → ls[j]? = some t → s.blk = some k → t.blk = some k → i = j
  nb : ¬ blksOf ls b
  nA : ∀ k, A.blk = some k → ¬ blksOf ls k
theorem KP.chg (h : KP E T w b o A ls xss) (c : Chg S w w') (hb : ¬ S b) (hA : ∀ k, A.blk = some k → ¬ S k) (hl : ∀ k, blksOf ls k → ¬ S k) : KP E T w' b o A ls xss :=
  ⟨c.cell h.cA hb, h.rA.chg c hA, h.len, h.few, fun i s xs hs hx => ⟨(h.ox i s xs hs hx).1.chg c (fun k e => hl k ⟨i, s, hs, e⟩), (h.ox i s xs hs hx).2⟩, h.dis, h.nb, h.nA⟩
theorem KP.marked (h : KP E T w b o A ls xss) (c : Chg (blksOf ls) w w') (hm : ∀ (i : Nat) (s : Sl), ls[i]? = some s → Ox E w' s (marks (mk i) 0 s.len)) : KM E T mk w' b o A ls := by
  refine ⟨c.cell h.cA h.nb, h.rA.chg c h.nA, h.few, fun i s hs => ⟨hm i s hs, ?_⟩, h.dis, h.nb, h.nA⟩
  obtain ⟨xs, hxs⟩ : ∃ xs, xss[i]? = some xs := ⟨_, List.getElem?_eq_getElem (by have := (List.getElem?_eq_some_iff.1 hs).1; have := h.len; omega)⟩
  obtain ⟨h1, h2⟩ := h.ox i s xs hs hxs
  rw [h1.rd.len]; exact h2
theorem KM.chg (h : KM E T mk w b o A ls) (c : Chg S w w') (hb : ¬ S b) (hA : ∀ k, A.blk = some k → ¬ S k) (hl : ∀ k, blksOf ls k → ¬ S k) : KM E T mk w' b o A ls :=
  ⟨c.cell h.cA hb, h.rA.chg c hA, h.few, fun i s hs => ⟨(h.ox i s hs).1.chg c (fun k e => hl k ⟨i, s, hs, e⟩), (h.ox i s hs).2⟩, h.dis, h.nb, h.nA⟩
/-- Grown forms of the lists: what they read, where they lie. -/
structure GrX (E : Enc α) (T : TypeId) (mk : Int → Int → α) (w : World) (N : Nat) (ls : List Sl) (out : Sl) : Prop where
  outs : ∃ outs : List Sl, Rd (slE T) w out outs ∧ outs.length = ls.length ∧ ∀ (i : Nat) (t : Sl), outs[i]? = some t → (t.len ≤ 20000000 ∧ Rd E w t (marks (mk i) 0 t.len)) ∧ ∀ k, t.blk = some k → blksOf ls k ∨ N ≤ k
  new : ∀ k, out.blk = some k → N ≤ k
theorem GrX.chg {N : Nat} {out : Sl} (h : GrX E T mk w N ls out) (c : Chg S w w') (hl : ∀ k, blksOf ls k → ¬ S k) (hN : ∀ k, S k → k < N) : GrX E T mk w' N ls out := by
  obtain ⟨outs, h1, h2, h3⟩ := h.outs
  refine ⟨⟨outs, h1.chg c (fun k e he => by have := h.new k e; have := hN k he; omega), h2, fun i t ht => ?_⟩, h.new⟩
  obtain ⟨⟨x1, x2⟩, x3⟩ := h3 i t ht
  refine ⟨⟨x1, x2.chg c (fun k e he => ?_)⟩, x3⟩
  rcases x3 k e with y | y
  · exact hl k y he
  · have := hN k he; omega
theorem GrX.old {N : Nat} {out : Sl} (h : GrX E T mk w N ls out) : Grown' E T mk w out ls.length := by
  obtain ⟨outs, h1, h2, h3⟩ := h.outs
  exact ⟨outs, h1, h2, fun i t ht => (h3 i t ht).1⟩
theorem Marked'.chg (h : Marked' E mk w ls) (c : Chg S w w') (hl : ∀ k, blksOf ls k → ¬ S k) : Marked' E mk w' ls := fun i s hs => (h i s hs).chg c (fun k e => hl k ⟨i, s, hs, e⟩)
end
end Go.Proofs.Ytgffaimgnmfifaa

/- hollowaybook.LentInts, StaysInts: lists with room behind them, in which a mark stands. -/
set_option maxRecDepth 100000
namespace Go.Proofs.Ytgffaimgnmfifaa
open Go.RowKit

/-- s reads as these, and behind them stands the mark, in a block of its own. -/
def Lent (w : World) (s : Sl) (xs : List Int) : Prop := s.len = xs.length ∧ Ow intE w ⟨s.ptr, xs.length + 1, s.cap⟩ (xs ++ [-77])
theorem Lent.rd {w : World} {s : Sl} {xs : List Int} (h : Lent w s xs) : Rd intE w s xs := by
  have ht := (h.2.take (n := xs.length) (by simp)).rd
  rw [List.take_left] at ht
  have : s = ⟨s.ptr, xs.length, s.cap⟩ := by rw [← h.1]
  rw [this]; exact ht
theorem Lent.chg {S : Nat → Prop} {w w' : World} {s : Sl} {xs : List Int} (h : Lent w s xs) (c : Chg S w w') (hS : ∀ k, s.blk = some k → ¬ S k) : Lent w' s xs := by
  refine ⟨h.1, h.2.chg c (fun k hk => hS k ?_)⟩
  rw [← hk]; unfold Sl.blk Sl.val; cases s.ptr <;> rfl
theorem Lent.no {w w' : World} {s : Sl} {xs : List Int} (h : Lent w s xs) (c : Chg No w w') : Lent w' s xs := h.chg c (fun _ _ h => h)
theorem lentInts_any {w : World} {l : Sl} {xs : List Int} (h : Rd intE w l xs) (hl : xs.length ≤ 1000000) : Calls Try.prog fn_hollowaybook_LentInts #[l.val] w fun e w' => ∃ s : Sl, e = .returned s.val ∧ Lent w' s xs ∧ Chg No w w' ∧ (∀ k, s.blk = some k → w.heap.size ≤ k ∧ k < w'.heap.size) := by
  refine (hollowaybook_LentInts_lift (K := fun r w' => ∃ s : Sl, r = s.val ∧ Lent w' s xs ∧ Chg No w w' ∧ (∀ k, s.blk = some k → w.heap.size ≤ k ∧ k < w'.heap.size)) ?_).mono (by rintro e w' ⟨r, rfl, s', rfl, h⟩; exact ⟨s', rfl, h⟩)
  unfold hollowaybook_LentInts_sh
  refine (copyInts_any l xs w h (by omega)).mono ?_
  rintro e w3 ⟨s4, rfl, h4, c3, b4⟩
  refine ⟨s4, rfl, ?_⟩
  intro b5 w6 hb5 hw6
  have c6 : Chg No w3 w6 := by rw [hw6]; exact Chg.alloc _ _ _
  have l6 : Ow intE w6 ⟨some ⟨b5, 0, none⟩, 1, 1⟩ [-77] := by
    rw [hw6, hb5]; exact Ow.lit (E := intE) w3 [-77] [.int .i64 (-77)] rfl (by show 1 ≤ maxLen; unfold maxLen; omega)
  refine app_ok intOk rfl rfl (h4.no c6) l6.rd (by show (xs.length + 1) * 8 ≤ _; omega) (by show xs.length + 1 ≤ _; unfold maxLen; omega) ?_
  intro s7 w8 h8 c8 b8
  have hl7 := h8.rd.len
  have hc7 := h8.rd.capL
  rw [List.length_append] at hl7 hc7
  have hll := h.len
  refine ⟨by omega, by show (l.len : Int) ≤ s7.cap; have : [(-77 : Int)].length = 1 := rfl; omega, ?_⟩
  intro s9 hs9
  rw [sub0, Int.toNat_natCast, hll] at hs9
  have hbk : s9.blk = s7.blk := by rw [hs9]; unfold Sl.blk Sl.val; cases s7.ptr <;> rfl
  have z3 := c3.size
  have z6 := c6.size
  refine ⟨s9, rfl, ⟨by rw [hs9], ?_⟩, (c3.trans c6 (U := No) (fun _ _ h => h) (fun _ _ h => h)).trans c8 (fun _ _ h => h) (fun k hk he => by have := b4 k he; omega), fun k hk => ⟨?_, h8.lt (hbk ▸ hk)⟩⟩
  · have e7 : (⟨s9.ptr, xs.length + 1, s9.cap⟩ : Sl) = s7 := by rw [hs9]; cases s7; simp at hl7 ⊢; omega
    rw [e7]; exact h8
  · rw [hbk] at hk
    rcases b8 with hh | hh
    · exact b4 k (hh ▸ hk)
    · have := Option.some.inj (hh.symm.trans hk); omega
theorem staysInts_any {w : World} {m l : Sl} {xs : List Int} (hm : Lent w m xs) (hl : Rd intE w l xs) : Calls Try.prog fn_hollowaybook_StaysInts #[m.val, l.val] w fun e w' => e = .returned (.bool true) ∧ Chg No w w' := by
  refine (hollowaybook_StaysInts_lift (K := fun r w' => r = .bool true ∧ Chg No w w') ?_).mono (by rintro e w' ⟨r, rfl, rfl, h⟩; exact ⟨rfl, h⟩)
  unfold hollowaybook_StaysInts_sh
  refine (sameInts_ok m l xs w hm.rd hl).mono ?_
  rintro e w4 ⟨rfl, c4⟩
  have m4 := hm.no c4
  have hc := m4.2.rd.capL
  rw [List.length_append] at hc
  have h1 : [(-77 : Int)].length = 1 := rfl
  have hc1 : xs.length + 1 ≤ m.cap := by have := hc.1; omega
  have hc2 : m.cap ≤ 9223372036854775807 := hc.2
  have hml := hm.1
  refine ⟨_, rfl, brB_t ?_⟩
  rw [wr_of (by omega) (by omega)]
  refine ⟨by omega, by omega, ?_⟩
  intro s6 hs6
  rw [sub0] at hs6
  have e6 : s6 = ⟨m.ptr, xs.length + 1, m.cap⟩ := by rw [hs6]; congr 1; omega
  have h6 : Rd intE w4 s6 (xs ++ [-77]) := by rw [e6]; exact m4.2.rd
  have e7 : m.len = xs.length := hml
  refine h6.ix (i := (m.len : Int)) (x := -77) (by omega) (by rw [Int.toNat_natCast, e7, List.getElem?_append_right (Nat.le_refl _)]; simp) fun a ha hcell => ?_
  have q1 := hcell 0 _ rfl
  rw [add0] at q1
  exact ⟨-77, q1, by simp, c4⟩
end Go.Proofs.Ytgffaimgnmfifaa
