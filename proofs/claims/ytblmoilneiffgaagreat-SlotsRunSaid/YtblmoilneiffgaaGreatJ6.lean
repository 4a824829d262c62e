/- The book of lists over any kind; lists that are lent. -/
import Derived.Test.YtblmoilneiffgaaGreatJ2
import Derived.Test.YtblmoilneiffgaaGreatJ4
import Derived.Test.YtblmoilneiffgaaGreatJA

/- The book of lists (hollowaybook), one kind of lists at a time and over any kind: marks, still, marked. -/
set_option maxRecDepth 100000
namespace Go.Proofs.YtblmoilneiffgaaGreat
open Go.RowKit

variable {α : Type} {P : Program}
def slE (t : TypeId) : Enc Sl := ⟨t, 1, 24, fun s => [s.val], by intro x; rfl, by intro x u hu; simp at hu; subst hu; rw [val_eq]; rfl, by decide⟩
def marks (mk : Int → α) (f m : Nat) : List α := (List.range m).map fun j => mk (((f + j : Nat) : Int))
theorem marks_len (mk : Int → α) (f m : Nat) : (marks mk f m).length = m := by unfold marks; simp
theorem marks_succ (mk : Int → α) (f m : Nat) : marks mk f (m + 1) = marks mk f m ++ [mk ((f + m : Nat) : Int)] := by unfold marks; rw [List.range_succ, List.map_append]; rfl
theorem marks_app (mk : Int → α) (m n : Nat) : marks mk 0 m ++ marks mk m n = marks mk 0 (m + n) := by
  induction n with
  | zero => simp [marks]
  | succ n ih => rw [marks_succ, ← List.append_assoc, ih, ← Nat.add_assoc, marks_succ]; simp
theorem marks_at (mk : Int → α) (m k : Nat) (hk : k < m) : (marks mk 0 m)[k]? = some (mk (k : Int)) := by
  unfold marks; rw [List.getElem?_map, List.getElem?_range hk]; simp
theorem mark_core {E : Enc α} {T : TypeId} (ok : EncOk P E T) (hby : E.bytes ≤ 1000) (mk : Int → α) (f m : Nat) (hf : f + m ≤ 100000000) {w : World} {K : Value → World → Prop}
    (k : ∀ (s' : Sl) (w' : World), Ow E w' s' (marks mk f m) → Chg No w w' → (∀ j, s'.blk = some j → w.heap.size ≤ j) → K s'.val w') :
    ∃ (I1 : Sl → Int → World → Prop) (μ1 : Sl → Int → World → Nat), I1 (⟨none, 0, 0⟩ : Sl) (f : Int) w ∧ ∀ (out6 : Sl) (k5 : Int) (w4 : World), I1 out6 k5 w4 →
      brB (decide (k5 < (wr ((f : Int) + (m : Int)))))
      (∀ (b7 : Nat) (w8 : World), b7 = w4.heap.size → w8 = World.alloc w4 (.cells (E.e (mk k5)).toArray E.t) →
        ∃ s9 : Sl, ∃ w10 : World, (Builtin.append_ #[T, T] T #[out6.val, .slice (some ⟨b7, 0, none⟩) 1 1]).run P w8 = .ok (s9.val) w10 ∧
        I1 s9 (wr (k5 + (1 : Int))) w10 ∧ μ1 s9 (wr (k5 + (1 : Int))) w10 < μ1 out6 k5 w4)
      (K (out6.val) w4) := by
  refine ⟨fun o n w' => ∃ j : Nat, n = ((f + j : Nat) : Int) ∧ j ≤ m ∧ Ow E w' o (marks mk f j) ∧ (∀ j, o.blk = some j → w.heap.size ≤ j) ∧ Chg No w w', fun o n _ => f + m - n.toNat, ⟨0, rfl, Nat.zero_le _, Ow.nil _ _, (fun k hk => by cases hk), Chg.refl _ _⟩, ?_⟩
  rintro o n w4 ⟨j, rfl, hj, ho, hob, hc⟩
  rw [wr_of (x := (f : Int) + m) (by omega) (by omega)]
  refine brB_of (fun hlt => ?_) (fun hlt => ?_)
  · have hlt : j < m := by simp at hlt; omega
    intro b7 w8 hb hw
    have c8 : Chg No w4 w8 := by rw [hw]; exact Chg.alloc _ _ _
    have hlit : Ow E w8 ⟨some ⟨b7, 0, none⟩, 1, 1⟩ [mk ((f + j : Nat) : Int)] := by
      rw [hw, hb]
      exact Ow.lit w4 [mk ((f + j : Nat) : Int)] (E.e (mk ((f + j : Nat) : Int))) (by rw [fl_one]) (by show 1 ≤ maxLen; unfold maxLen; omega)
    have hml := marks_len mk f j
    refine app_ok ok rfl rfl (ho.no c8) hlit.rd (by
      rw [hml]
      have : (j + 1) * E.bytes ≤ 100000000 * 1000 := Nat.mul_le_mul (by omega) hby
      show (j + 1) * E.bytes ≤ _; omega) (by rw [hml]; show j + 1 ≤ _; unfold maxLen; omega) ?_
    intro o' w10 ho' c10 hbk
    have s4 := hc.size
    have s8 := c8.size
    rw [wr_of (by omega) (by omega)]
    refine ⟨⟨j + 1, by omega, by omega, by rw [marks_succ]; exact ho', fun i hi => ?_, ?_⟩, ?_⟩
    · rcases hbk with hh | hh
      · rw [hh] at hi; exact hob i hi
      · have := Option.some.inj (hh.symm.trans hi); omega
    · exact (hc.trans c8 (U := No) (fun _ _ h => h) (fun _ _ h => h)).trans c10 (fun _ _ h => h) (fun i hi he => by have := hob i he; omega)
    · show f + m - Int.toNat (((f + j : Nat) : Int) + 1) < f + m - Int.toNat ((f + j : Nat) : Int); omega
  · have hlt : j = m := by simp at hlt; omega
    subst hlt
    exact k o w4 ho hc hob
def SameOk (P : Program) (E : Enc α) (fS : FuncId) : Prop := ∀ (s t : Sl) (xs : List α) (w : World), Rd E w s xs → Rd E w t xs → Calls P fS #[s.val, t.val] w fun e w' => e = .returned (.bool true) ∧ Chg No w w'
def MarkOk (P : Program) (E : Enc α) (mk : Int → Int → α) (fM : FuncId) : Prop := ∀ (i f m : Nat) (w : World), i ≤ 100000 → f + m ≤ 100000000 → Calls P fM #[.int .i64 i, .int .i64 f, .int .i64 m] w fun e w' => ∃ s : Sl, e = .returned s.val ∧ Ow E w' s (marks (mk i) f m) ∧ Chg No w w' ∧ (∀ j, s.blk = some j → w.heap.size ≤ j)
theorem sl_cell {eT : TypeId} {w : World} {A : Sl} {ls : List Sl} (h : Rd (slE eT) w A ls) {i : Nat} {s : Sl} (hs : ls[i]? = some s) : ∃ a, A.ptr = some a ∧ 0 ≤ (i : Int) ∧ (i : Int) < (A.len : Int) ∧ w.cell? (a.add ((i : Int).toNat * 1)) = some s.val := by
  have hlt : i < ls.length := (List.getElem?_eq_some_iff.1 hs).1
  obtain ⟨a, ha, hc⟩ := h.at hs
  have e0 : ∀ q : Addr, q.add 0 = q := fun q => by unfold Addr.add; simp
  have := hc 0 _ rfl
  rw [e0] at this
  exact ⟨a, ha, by omega, by rw [h.len]; omega, by rw [Int.toNat_natCast]; exact this⟩
theorem still_core {E : Enc α} {eT : TypeId} {fS : FuncId} (hS : SameOk P E fS) {w : World} {b o : Nat} {A Bs : Sl} {ls was : List Sl} {xss : List (List α)} (hA : w.cell? ⟨b, o, none⟩ = some A.val) (hB : w.cell? ⟨b, o + 1, none⟩ = some Bs.val)
    (rA : Rd (slE eT) w A ls) (rB : Rd (slE eT) w Bs was) (hl : ls.length = xss.length) (hw : was.length = xss.length) (hsm : ls.length ≤ 100000)
    (r1 : ∀ (i : Nat) (s : Sl) (xs : List α), ls[i]? = some s → xss[i]? = some xs → Rd E w s xs) (r2 : ∀ (i : Nat) (s : Sl) (xs : List α), was[i]? = some s → xss[i]? = some xs → Rd E w s xs) {K : Value → World → Prop} (k : ∀ w', Chg No w w' → K (.bool true) w') :
    ∃ (I1 : Int → World → Prop) (μ1 : Int → World → Nat), I1 (0 : Int) w ∧ ∀ (i3 : Int) (w2 : World), I1 i3 w2 →
      ∃ s4 : Sl, w2.cell? ⟨b, o, none⟩ = some (s4.val) ∧
      brB (decide (i3 < (s4.len : Int)))
      (∀ w5 : World, w5 = World.drew w2 →
      ∃ s6 : Sl, held (Lw w5) ⟨b, o, none⟩ (s6.val) ∧
      ∃ a7 : Addr, s6.ptr = some a7 ∧ 0 ≤ i3 ∧ i3 < (s6.len : Int) ∧
      ∃ s8 : Sl, held (Lw w5) (Addr.add a7 (Int.toNat i3 * 1)) (s8.val) ∧
      ∃ s9 : Sl, held (Lw w5) ⟨b, o + 1, none⟩ (s9.val) ∧
      ∃ a10 : Addr, s9.ptr = some a10 ∧ 0 ≤ i3 ∧ i3 < (s9.len : Int) ∧
      ∃ s11 : Sl, held (Lw w5) (Addr.add a10 (Int.toNat i3 * 1)) (s11.val) ∧
      Calls P fS #[s8.val, s11.val] w5 fun e12 w13 => ∃ b14 : Bool, e12 = .returned (.bool b14) ∧
      brB (!b14)
      (K (.bool false) w13)
      (I1 (wr (i3 + (1 : Int))) w13 ∧ μ1 (wr (i3 + (1 : Int))) w13 < μ1 i3 w2))
      (K (.bool true) w2) := by
  refine ⟨fun n w' => ∃ j : Nat, n = j ∧ j ≤ ls.length ∧ Chg No w w', fun n _ => ls.length - n.toNat, ⟨0, rfl, Nat.zero_le _, Chg.refl _ _⟩, ?_⟩
  rintro n w2 ⟨j, rfl, hj, hc⟩
  have hlen := rA.len
  refine ⟨A, hc.cell hA (fun h => h), brB_of (fun hlt => ?_) (fun hlt => k w2 hc)⟩
  have hlt : j < ls.length := by simp at hlt; omega
  intro w5 hw5
  have c5 : Chg No w w5 := hc.trans (by rw [hw5]; exact Chg.drew No _) (fun _ _ h => h) (fun _ _ h => h)
  obtain ⟨s, hs⟩ : ∃ s, ls[j]? = some s := ⟨_, List.getElem?_eq_getElem hlt⟩
  obtain ⟨t, ht⟩ : ∃ t, was[j]? = some t := ⟨_, List.getElem?_eq_getElem (by omega)⟩
  obtain ⟨xs, hxs⟩ : ∃ xs, xss[j]? = some xs := ⟨_, List.getElem?_eq_getElem (by omega)⟩
  obtain ⟨a, ha, h0, h1, hcell⟩ := sl_cell (rA.no c5) hs
  obtain ⟨a', ha', h0', h1', hcell'⟩ := sl_cell (rB.no c5) ht
  refine ⟨A, held_Lw (c5.cell hA (fun h => h)), a, ha, h0, h1, s, held_Lw hcell, Bs, held_Lw (c5.cell hB (fun h => h)), a', ha', h0', h1', t, held_Lw hcell', ?_⟩
  refine (hS s t xs w5 ((r1 j s xs hs hxs).no c5) ((r2 j t xs ht hxs).no c5)).mono ?_
  rintro e w13 ⟨rfl, c13⟩
  refine ⟨true, rfl, brB_f ?_⟩
  rw [wr_of (by omega) (by omega)]
  exact ⟨⟨j + 1, by omega, by omega, c5.trans c13 (fun _ _ h => h) (fun _ _ h => h)⟩, by show ls.length - Int.toNat ((j : Int) + 1) < ls.length - Int.toNat (j : Int); omega⟩
theorem marked_core {E : Enc α} {eT : TypeId} {fS fM : FuncId} {mk : Int → Int → α} (hS : SameOk P E fS) (hM : MarkOk P E mk fM) {w : World} {A : Sl} {ls : List Sl} (rA : Rd (slE eT) w A ls) (hsm : ls.length ≤ 100000)
    (r1 : ∀ (i : Nat) (s : Sl), ls[i]? = some s → s.len ≤ 100000000 ∧ Rd E w s (marks (mk i) 0 s.len)) {K : Value → World → Prop} (k : ∀ w', Chg No w w' → K (.bool true) w') :
    ∃ (I1 : Int → World → Prop) (μ1 : Int → World → Nat), I1 (0 : Int) w ∧ ∀ (i3 : Int) (w2 : World), I1 i3 w2 →
      brB (decide (i3 < (A.len : Int)))
      (∀ w4 : World, w4 = World.drew w2 →
      ∃ S5 : World → Prop, S5 w4 ∧
      ∃ a6 : Addr, A.ptr = some a6 ∧ 0 ≤ i3 ∧ i3 < (A.len : Int) ∧
      ∃ s7 : Sl, held S5 (Addr.add a6 (Int.toNat i3 * 1)) (s7.val) ∧
      ∃ a8 : Addr, A.ptr = some a8 ∧ 0 ≤ i3 ∧ i3 < (A.len : Int) ∧
      ∃ s9 : Sl, held S5 (Addr.add a8 (Int.toNat i3 * 1)) (s9.val) ∧
      Calls P fM #[.int .i64 i3, .int .i64 (0 : Int), .int .i64 (s9.len : Int)] w4 fun e10 w11 => ∃ s12 : Sl, e10 = .returned (s12.val) ∧
      S5 w11 ∧
      Calls P fS #[s7.val, s12.val] w11 fun e13 w14 => ∃ b15 : Bool, e13 = .returned (.bool b15) ∧
      brB (!b15)
      (K (.bool false) w14)
      (I1 (wr (i3 + (1 : Int))) w14 ∧ μ1 (wr (i3 + (1 : Int))) w14 < μ1 i3 w2))
      (K (.bool true) w2) := by
  refine ⟨fun n w' => ∃ j : Nat, n = j ∧ j ≤ ls.length ∧ Chg No w w', fun n _ => ls.length - n.toNat, ⟨0, rfl, Nat.zero_le _, Chg.refl _ _⟩, ?_⟩
  rintro n w2 ⟨j, rfl, hj, hc⟩
  have hlen := rA.len
  refine brB_of (fun hlt => ?_) (fun hlt => k w2 hc)
  have hlt : j < ls.length := by simp at hlt; omega
  intro w4 hw4
  have c4 : Chg No w w4 := hc.trans (by rw [hw4]; exact Chg.drew No _) (fun _ _ h => h) (fun _ _ h => h)
  obtain ⟨s, hs⟩ : ∃ s, ls[j]? = some s := ⟨_, List.getElem?_eq_getElem hlt⟩
  obtain ⟨hsl, hr⟩ := r1 j s hs
  obtain ⟨a, ha, h0, h1, _⟩ := sl_cell (rA.no c4) hs
  have hh : held (fun w' => Chg No w w') (Addr.add a ((j : Int).toNat * 1)) s.val := fun w' hw' => by
    obtain ⟨a2, ha2, _, _, hcell⟩ := sl_cell (rA.no hw') hs
    rw [ha] at ha2; cases ha2; exact hcell
  refine ⟨fun w' => Chg No w w', c4, a, ha, h0, h1, s, hh, a, ha, h0, h1, s, hh, ?_⟩
  refine (hM j 0 s.len w4 (by omega) (by omega)).mono ?_
  rintro e w11 ⟨s12, rfl, h12, c11, _⟩
  have cw11 : Chg No w w11 := c4.trans c11 (fun _ _ h => h) (fun _ _ h => h)
  refine ⟨s12, rfl, cw11, ?_⟩
  refine (hS s s12 _ w11 (hr.no cw11) h12.rd).mono ?_
  rintro e w14 ⟨rfl, c14⟩
  refine ⟨true, rfl, brB_f ?_⟩
  rw [wr_of (by omega) (by omega)]
  exact ⟨⟨j + 1, by omega, by omega, cw11.trans c14 (fun _ _ h => h) (fun _ _ h => h)⟩, by show ls.length - Int.toNat ((j : Int) + 1) < ls.length - Int.toNat (j : Int); omega⟩
end Go.Proofs.YtblmoilneiffgaaGreat

/- The book of lists: each list is marked (putX), over any kind. -/
set_option maxRecDepth 100000
namespace Go.Proofs.YtblmoilneiffgaaGreat
open Go.RowKit

variable {α : Type} {P : Program}
def blksOf (ls : List Sl) : Nat → Prop := fun k => ∃ (i : Nat) (s : Sl), ls[i]? = some s ∧ s.blk = some k
theorem marks_set (mk : Int → α) (xs : List α) (q : Nat) (hq : q < xs.length) : (marks mk 0 q ++ xs.drop q).set q (mk (q : Int)) = marks mk 0 (q + 1) ++ xs.drop (q + 1) := by
  have hl := marks_len mk 0 q
  rw [List.set_append_right _ _ (by omega), hl, Nat.sub_self, marks_succ, List.append_assoc, Nat.zero_add]
  congr 1
  rw [List.drop_eq_getElem_cons hq]; rfl
theorem put_core {E : Enc α} {eT : TypeId} {fM : FuncId} {mk : Int → Int → α} {Q : (World → Prop) → Addr → (List Value → Prop) → Prop} (hQ : ∀ (w : World) (p : Addr) (x : α) (F : List Value → Prop), (∀ (j : Nat) (u : Value), (E.e x)[j]? = some u → w.cell? (p.add j) = some u) → F (E.e x) → Q (Lw w) p F)
    {ls : List Sl} (hM : ls = [] ∨ MarkOk P E mk fM) {w : World} {b o : Nat} {A : Sl} {xss : List (List α)} (hA : w.cell? ⟨b, o, none⟩ = some A.val) (rA : Rd (slE eT) w A ls) (hl : ls.length = xss.length) (hsm : ls.length ≤ 100000)
    (h1 : ∀ (i : Nat) (s : Sl) (xs : List α), ls[i]? = some s → xss[i]? = some xs → Ox E w s xs ∧ xs.length ≤ 10000000)
    (dis : ∀ (i j : Nat) (s t : Sl) (k : Nat), ls[i]? = some s → ls[j]? = some t → s.blk = some k → t.blk = some k → i = j) (hb : ¬ blksOf ls b) (hAb : ∀ k, A.blk = some k → ¬ blksOf ls k) {K : Value → World → Prop}
    (k : ∀ w', (∀ (i : Nat) (s : Sl), ls[i]? = some s → Ox E w' s (marks (mk i) 0 s.len)) → Chg (blksOf ls) w w' → K (.tuple #[]) w') :
    ∃ (I1 : Int → World → Prop) (μ1 : Int → World → Nat), I1 (0 : Int) w ∧ ∀ (i3 : Int) (w2 : World), I1 i3 w2 →
      ∃ s4 : Sl, w2.cell? ⟨b, o, none⟩ = some (s4.val) ∧
      brB (decide (i3 < (s4.len : Int)))
      (∃ s5 : Sl, w2.cell? ⟨b, o, none⟩ = some (s5.val) ∧
      ∃ a6 : Addr, s5.ptr = some a6 ∧ 0 ≤ i3 ∧ i3 < (s5.len : Int) ∧
      ∃ s7 : Sl, w2.cell? (Addr.add a6 (Int.toNat i3 * 1)) = some (s7.val) ∧
      Calls P fM #[.int .i64 i3, .int .i64 (0 : Int), .int .i64 (s7.len : Int)] w2 fun e8 w9 => ∃ s10 : Sl, e8 = .returned (s10.val) ∧
      ∃ (I2 : Int → World → Prop) (μ2 : Int → World → Nat), I2 (0 : Int) w9 ∧ ∀ (k12 : Int) (w11 : World), I2 k12 w11 →
      brB (decide (k12 < (s10.len : Int)))
      (∀ w13 : World, w13 = World.drew w11 →
      ∃ s14 : Sl, held (Lw w13) ⟨b, o, none⟩ (s14.val) ∧
      ∃ a15 : Addr, s14.ptr = some a15 ∧ 0 ≤ i3 ∧ i3 < (s14.len : Int) ∧
      ∃ s16 : Sl, held (Lw w13) (Addr.add a15 (Int.toNat i3 * 1)) (s16.val) ∧
      ∃ a17 : Addr, s10.ptr = some a17 ∧ 0 ≤ k12 ∧ k12 < (s10.len : Int) ∧
      Q (Lw w13) (Addr.add a17 (Int.toNat k12 * E.sz)) fun cs =>
      ∃ a22 : Addr, s16.ptr = some a22 ∧ 0 ≤ k12 ∧ k12 < (s16.len : Int) ∧
      wrOk w13 (Addr.add a22 (Int.toNat k12 * E.sz)) E.sz ∧ ∀ w23 : World, w23 = stW w13 (Addr.add a22 (Int.toNat k12 * E.sz)) 0 cs →
      I2 (wr (k12 + (1 : Int))) w23 ∧ μ2 (wr (k12 + (1 : Int))) w23 < μ2 k12 w11)
      (I1 (wr (i3 + (1 : Int))) w11 ∧ μ1 (wr (i3 + (1 : Int))) w11 < μ1 i3 w2))
      (K (.tuple #[]) w2) := by
  have hlen := rA.len
  have lenOf : ∀ (i : Nat) (s : Sl) (xs : List α), ls[i]? = some s → xss[i]? = some xs → s.len = xs.length := fun i s xs hs hxs => (h1 i s xs hs hxs).1.rd.len
  refine ⟨fun n w' => ∃ j : Nat, n = j ∧ j ≤ ls.length ∧ (∀ (i : Nat) (s : Sl), i < j → ls[i]? = some s → Ox E w' s (marks (mk i) 0 s.len)) ∧ (∀ (i : Nat) (s : Sl) (xs : List α), j ≤ i → ls[i]? = some s → xss[i]? = some xs → Ox E w' s xs) ∧ Chg (blksOf ls) w w', fun n _ => ls.length - n.toNat, ⟨0, rfl, Nat.zero_le _, fun i s h => by omega, fun i s xs _ hs hxs => (h1 i s xs hs hxs).1, Chg.refl _ _⟩, ?_⟩
  rintro n w2 ⟨j, rfl, hj, hdone, htodo, hc⟩
  have rA2 : ∀ w', Chg (blksOf ls) w w' → Rd (slE eT) w' A ls := fun w' hw' => rA.chg hw' hAb
  have cA2 : ∀ w', Chg (blksOf ls) w w' → w'.cell? ⟨b, o, none⟩ = some A.val := fun w' hw' => hw'.cell hA hb
  refine ⟨A, cA2 w2 hc, brB_of (fun hlt => ?_) (fun hlt => ?_)⟩
  · have hlt : j < ls.length := by simp at hlt; omega
    have hM' : MarkOk P E mk fM := hM.resolve_left fun e => by rw [e] at hlt; simp at hlt
    obtain ⟨s, hs⟩ : ∃ s, ls[j]? = some s := ⟨_, List.getElem?_eq_getElem hlt⟩
    obtain ⟨xs, hxs⟩ : ∃ xs, xss[j]? = some xs := ⟨_, List.getElem?_eq_getElem (by omega)⟩
    have hsl := lenOf j s xs hs hxs
    have hxl := (h1 j s xs hs hxs).2
    obtain ⟨a, ha, h0, hlt', hcell⟩ := sl_cell (rA2 w2 hc) hs
    refine ⟨A, cA2 w2 hc, a, ha, h0, hlt', s, hcell, ?_⟩
    refine (hM' j 0 s.len w2 (by omega) (by omega)).mono ?_
    rintro e w9 ⟨s10, rfl, h10, c9, f10⟩
    have hl10 : s10.len = xs.length := by rw [h10.rd.len, marks_len, hsl]
    have cw9 : Chg (blksOf ls) w w9 := hc.trans c9 (fun _ _ h => h) (fun _ _ h => h.elim)
    have hs9 := hc.size
    have old : ∀ k, blksOf ls k → k < w.heap.size := by
      rintro k ⟨i, t, ht, hk⟩
      obtain ⟨ys, hys⟩ : ∃ ys, xss[i]? = some ys := ⟨_, List.getElem?_eq_getElem (by have := (List.getElem?_eq_some_iff.1 ht).1; omega)⟩
      exact (h1 i t ys ht hys).1.lt k hk
    refine ⟨s10, rfl, ?_⟩
    refine ⟨fun n w' => ∃ q : Nat, n = q ∧ q ≤ xs.length ∧ Ox E w' s (marks (mk j) 0 q ++ xs.drop q) ∧ Rd E w' s10 (marks (mk j) 0 s.len) ∧ (∀ (i : Nat) (t : Sl), i < j → ls[i]? = some t → Ox E w' t (marks (mk i) 0 t.len)) ∧ (∀ (i : Nat) (t : Sl) (ys : List α), j + 1 ≤ i → ls[i]? = some t → xss[i]? = some ys → Ox E w' t ys) ∧ Chg (blksOf ls) w w', fun n _ => xs.length - n.toNat,
      ⟨0, rfl, Nat.zero_le _, (htodo j s xs (Nat.le_refl _) hs hxs).no c9, h10.rd, fun i t hi ht => (hdone i t hi ht).no c9, fun i t ys hi ht hys => (htodo i t ys (by omega) ht hys).no c9, cw9⟩, ?_⟩
    rintro n w11 ⟨q, rfl, hq, hox, hr10, hd, ht, hcc⟩
    refine brB_of (fun hlt2 => ?_) (fun hlt2 => ?_)
    · have hlt2 : q < xs.length := by simp at hlt2; omega
      intro w13 hw13
      have c13 : Chg No w11 w13 := by rw [hw13]; exact Chg.drew _ _
      have cc13 : Chg (blksOf ls) w w13 := hcc.trans c13 (fun _ _ h => h) (fun _ _ h => h.elim)
      obtain ⟨a2, ha2, h02, hlt3, hcell2⟩ := sl_cell (rA2 w13 cc13) hs
      refine ⟨A, held_Lw (cA2 w13 cc13), a2, ha2, h02, hlt3, s, held_Lw hcell2, ?_⟩
      have hmq : (marks (mk j) 0 s.len)[q]? = some (mk j q) := marks_at _ _ _ (by omega)
      refine (hr10.no c13).ix (i := (q : Int)) (by omega) (by rw [Int.toNat_natCast]; exact hmq) fun a17 ha17 hc17 => hQ w13 _ (mk j q) _ hc17 ?_
      have hox13 := hox.no c13
      have hml := marks_len (mk j) 0 q
      have hlen2 : (marks (mk j) 0 q ++ xs.drop q).length = xs.length := by rw [List.length_append, hml, List.length_drop]; omega
      have hsp : ∃ a22, s.ptr = some a22 := by
        obtain ⟨y, hy⟩ : ∃ y, (marks (mk j) 0 q ++ xs.drop q)[q]? = some y := ⟨_, List.getElem?_eq_getElem (by omega)⟩
        obtain ⟨a22, ha22, _⟩ := hox13.rd.at hy
        exact ⟨a22, ha22⟩
      obtain ⟨a22, ha22⟩ := hsp
      obtain ⟨hwr, hset⟩ := hox13.set ha22 (k := q) (by omega) (mk j q)
      rw [marks_set _ _ _ hlt2] at hset
      refine ⟨a22, ha22, by omega, by omega, by rw [Int.toNat_natCast]; exact hwr, ?_⟩
      intro w23 hw23
      rw [Int.toNat_natCast] at hw23
      rw [← hw23] at hset
      have hbs := blk_ptr ha22
      have c23 : Chg (fun k => k = a22.block) w13 w23 := by rw [hw23]; exact Chg.st (S := fun k => k = a22.block) (by rw [add_block])
      have hin : blksOf ls a22.block := ⟨j, s, hs, hbs⟩
      rw [wr_of (by omega) (by omega)]
      refine ⟨⟨q + 1, by omega, by omega, hset, (hr10.no c13).chg c23 (fun i hi he => ?_), fun i t hi ht' => ((hd i t hi ht').no c13).chg c23 (fun m hm he => ?_), fun i t ys hi ht' hys => ((ht i t ys hi ht' hys).no c13).chg c23 (fun m hm he => ?_), ?_⟩, by show xs.length - Int.toNat ((q : Int) + 1) < xs.length - Int.toNat (q : Int); omega⟩
      · have := f10 i hi; have := old _ hin; omega
      · have := dis i j t s m ht' hs hm (by rw [he]; exact hbs); omega
      · have := dis i j t s m ht' hs hm (by rw [he]; exact hbs); omega
      · exact cc13.trans c23 (fun _ _ h => h) (fun m _ hm => by rw [hm]; exact hin)
    · have hlt2 : q = xs.length := by simp at hlt2; omega
      subst hlt2
      rw [List.drop_length, List.append_nil, ← hsl] at hox
      rw [wr_of (by omega) (by omega)]
      refine ⟨⟨j + 1, by omega, by omega, fun i t hi ht' => ?_, ht, hcc⟩, by show ls.length - Int.toNat ((j : Int) + 1) < ls.length - Int.toNat (j : Int); omega⟩
      rcases Nat.lt_succ_iff_lt_or_eq.1 hi with hh | rfl
      · exact hd i t hh ht'
      · rw [hs] at ht'; cases ht'; exact hox
  · have hlt : j = ls.length := by simp at hlt; omega
    subst hlt
    exact k w2 (fun i s hs => hdone i s (List.getElem?_eq_some_iff.1 hs).1 hs) hc
end Go.Proofs.YtblmoilneiffgaaGreat

/- The book of lists: each list is grown (growX), over any kind. -/
set_option maxRecDepth 100000
namespace Go.Proofs.YtblmoilneiffgaaGreat
open Go.RowKit

variable {α : Type} {P : Program}
end Go.Proofs.YtblmoilneiffgaaGreat

/- The book of lists over any kind: lists as put in, marked, grown; one more list. -/
set_option maxRecDepth 100000
namespace Go.Proofs.YtblmoilneiffgaaGreat
open Go.RowKit

section
variable {α : Type}
structure KB (E : Enc α) (T : TypeId) (w : World) (b o : Nat) (A Bs : Sl) (ls was : List Sl) (xss : List (List α)) : Prop where
  cA : w.cell? ⟨b, o, none⟩ = some A.val
  cB : w.cell? ⟨b, o + 1, none⟩ = some Bs.val
  rA : Rd (slE T) w A ls
  rB : Rd (slE T) w Bs was
  len : ls.length = xss.length
  lenB : was.length = xss.length
  few : ls.length ≤ 100000
  ox : ∀ (i : Nat) (s : Sl) (xs : List α), ls[i]? = some s → xss[i]? = some xs → Ox E w s xs ∧ xs.length ≤ 10000000
  rd : ∀ (i : Nat) (s : Sl) (xs : List α), was[i]? = some s → xss[i]? = some xs → Rd E w s xs
  dis : ∀ (i j : Nat) (s t : Sl) (k : Nat), ls[i]? = some s → ls[j]? = some t → s.blk = some k → t.blk = some k → i = j
  nb : ¬ blksOf ls b
  nA : ∀ k, A.blk = some k → ¬ blksOf ls k
structure KM (E : Enc α) (T : TypeId) (mk : Int → Int → α) (w : World) (b o : Nat) (A : Sl) (ls : List Sl) : Prop where
  cA : w.cell? ⟨b, o, none⟩ = some A.val
  rA : Rd (slE T) w A ls
  few : ls.length ≤ 100000
  ox : ∀ (i : Nat) (s : Sl), ls[i]? = some s → Ox E w s (marks (mk i) 0 s.len) ∧ s.len ≤ 10000000
  dis : ∀ (i j : Nat) (s t : Sl) (k : Nat), ls[i]? = some s → ls[j]? = some t → s.blk = some k → t.blk = some k → i = j
  nb : ¬ blksOf ls b
  nA : ∀ k, A.blk = some k → ¬ blksOf ls k
variable {w : World} {b : Nat} {A Bs : Sl} {ls was : List Sl}
theorem KB.marked {E : Enc α} {T : TypeId} {mk : Int → Int → α} {o : Nat} {xss : List (List α)} (h : KB E T w b o A Bs ls was xss) {w' : World} (c : Chg (blksOf ls) w w') (hm : ∀ (i : Nat) (s : Sl), ls[i]? = some s → Ox E w' s (marks (mk i) 0 s.len)) : KM E T mk w' b o A ls := by
  refine ⟨c.cell h.cA h.nb, h.rA.chg c h.nA, h.few, fun i s hs => ⟨hm i s hs, ?_⟩, h.dis, h.nb, h.nA⟩
  obtain ⟨xs, hxs⟩ : ∃ xs, xss[i]? = some xs := ⟨_, List.getElem?_eq_getElem (by have := (List.getElem?_eq_some_iff.1 hs).1; have := h.len; omega)⟩
  obtain ⟨h1, h2⟩ := h.ox i s xs hs hxs
  rw [h1.rd.len]; exact h2
def Grown' (E : Enc α) (T : TypeId) (mk : Int → Int → α) (w : World) (out : Sl) (n : Nat) : Prop := ∃ outs : List Sl, Rd (slE T) w out outs ∧ outs.length = n ∧ ∀ (i : Nat) (t : Sl), outs[i]? = some t → t.len ≤ 20000000 ∧ Rd E w t (marks (mk i) 0 t.len)
def Marked' (E : Enc α) (mk : Int → Int → α) (w : World) (ls : List Sl) : Prop := ∀ (i : Nat) (s : Sl), ls[i]? = some s → Rd E w s (marks (mk i) 0 s.len)
end
section
variable {α : Type} {w w' : World} {b o : Nat} {A Bs : Sl} {ls was : List Sl}
theorem KB.no {E : Enc α} {T : TypeId} {xss : List (List α)} (h : KB E T w b o A Bs ls was xss) (c : Chg No w w') : KB E T w' b o A Bs ls was xss :=
  ⟨c.cell h.cA (fun h => h), c.cell h.cB (fun h => h), h.rA.no c, h.rB.no c, h.len, h.lenB, h.few, fun i s xs hs hx => ⟨(h.ox i s xs hs hx).1.no c, (h.ox i s xs hs hx).2⟩, fun i s xs hs hx => (h.rd i s xs hs hx).no c, h.dis, h.nb, h.nA⟩
theorem Grown'.no {E : Enc α} {T : TypeId} {mk : Int → Int → α} {out : Sl} {n : Nat} (h : Grown' E T mk w out n) (c : Chg No w w') : Grown' E T mk w' out n := by
  obtain ⟨outs, h1, h2, h3⟩ := h
  exact ⟨outs, h1.no c, h2, fun i t ht => ⟨(h3 i t ht).1, (h3 i t ht).2.no c⟩⟩
theorem Marked'.asGrown {E : Enc α} {T : TypeId} {mk : Int → Int → α} (hm : Marked' E mk w ls) (rA : Rd (slE T) w A ls) (hl : ∀ (i : Nat) (s : Sl), ls[i]? = some s → s.len ≤ 20000000) : Grown' E T mk w A ls.length :=
  ⟨ls, rA, rfl, fun i s hs => ⟨hl i s hs, hm i s hs⟩⟩
theorem brN_f {P Q : Prop} (h : Q) : brB (!true) P Q := brB_f h
end
section
variable {α : Type} {P : Program}
structure KO (D : Nat → Prop) (E : Enc α) (T : TypeId) (w : World) (b : Nat) (A Bs : Sl) (ls was : List Sl) (xss : List (List α)) : Prop where
  oA : Ow (slE T) w A ls
  oB : Ow (slE T) w Bs was
  len : ls.length = xss.length
  lenB : was.length = xss.length
  ox : ∀ (i : Nat) (s : Sl) (xs : List α), ls[i]? = some s → xss[i]? = some xs → Ox E w s xs ∧ xs.length ≤ 10000000
  rd : ∀ (i : Nat) (s : Sl) (xs : List α), was[i]? = some s → xss[i]? = some xs → Rd E w s xs
  dis : ∀ (i j : Nat) (s t : Sl) (k : Nat), ls[i]? = some s → ls[j]? = some t → s.blk = some k → t.blk = some k → i = j
  dA : ∀ k, A.blk = some k → D k ∧ k ≠ b ∧ Bs.blk ≠ some k ∧ ¬ blksOf ls k ∧ ¬ blksOf was k
  dB : ∀ k, Bs.blk = some k → D k ∧ k ≠ b ∧ ¬ blksOf ls k ∧ ¬ blksOf was k
  dl : ∀ k, blksOf ls k → D k ∧ k ≠ b ∧ k < w.heap.size
  dw : ∀ k, blksOf was k → D k ∧ k ≠ b ∧ k < w.heap.size ∧ ¬ blksOf ls k
theorem blksOf_app {ls : List Sl} {l : Sl} {k : Nat} (h : blksOf (ls ++ [l]) k) : blksOf ls k ∨ l.blk = some k := by
  obtain ⟨i, s, hs, hk⟩ := h
  by_cases hi : i < ls.length
  · rw [List.getElem?_append_left hi] at hs; exact Or.inl ⟨i, s, hs, hk⟩
  · have hi2 : i = ls.length := by have := (List.getElem?_eq_some_iff.1 hs).1; simp at this; omega
    subst hi2
    rw [List.getElem?_append_right (Nat.le_refl _), Nat.sub_self] at hs
    cases hs; exact Or.inr hk
theorem app_at {β : Type} {xs : List β} {x y : β} {i : Nat} (h : (xs ++ [x])[i]? = some y) : (i < xs.length ∧ xs[i]? = some y) ∨ (i = xs.length ∧ y = x) := by
  by_cases hi : i < xs.length
  · rw [List.getElem?_append_left hi] at h; exact Or.inl ⟨hi, h⟩
  · have hi2 : i = xs.length := by have := (List.getElem?_eq_some_iff.1 h).1; simp at this; omega
    subst hi2
    rw [List.getElem?_append_right (Nat.le_refl _), Nat.sub_self] at h
    cases h; exact Or.inr ⟨rfl, rfl⟩
end
section
theorem noBlks (k : Nat) : ¬ blksOf [] k := by rintro ⟨i, s, hs, _⟩; simp at hs
theorem KO.empty {α : Type} (D : Nat → Prop) (E : Enc α) (T : TypeId) (w : World) (b : Nat) : KO D E T w b nilS nilS [] [] [] :=
  ⟨Ow.nil _ _, Ow.nil _ _, rfl, rfl, (fun i s xs hs => by simp at hs), (fun i s xs hs => by simp at hs), (fun i j s t k hs => by simp at hs), (fun k hk => by cases hk), (fun k hk => by cases hk), fun k hk => absurd hk (noBlks k), fun k hk => absurd hk (noBlks k)⟩
theorem KO.nar {α : Type} {D : Nat → Prop} {E : Enc α} {T : TypeId} {w : World} {b : Nat} {A Bs : Sl} {ls was : List Sl} {xss : List (List α)} (h : KO D E T w b A Bs ls was xss) : KO (fun k => D k ∧ k < w.heap.size) E T w b A Bs ls was xss :=
  ⟨h.oA, h.oB, h.len, h.lenB, h.ox, h.rd, h.dis, fun k e => ⟨⟨(h.dA k e).1, h.oA.lt e⟩, (h.dA k e).2⟩, fun k e => ⟨⟨(h.dB k e).1, h.oB.lt e⟩, (h.dB k e).2⟩, fun k e => ⟨⟨(h.dl k e).1, (h.dl k e).2.2⟩, (h.dl k e).2⟩, fun k e => ⟨⟨(h.dw k e).1, (h.dw k e).2.2.1⟩, (h.dw k e).2⟩⟩
theorem KO.wid {α : Type} {D D' : Nat → Prop} {E : Enc α} {T : TypeId} {w : World} {b : Nat} {A Bs : Sl} {ls was : List Sl} {xss : List (List α)} (h : KO D E T w b A Bs ls was xss) (hd : ∀ k, D k → D' k) : KO D' E T w b A Bs ls was xss :=
  ⟨h.oA, h.oB, h.len, h.lenB, h.ox, h.rd, h.dis, fun k e => ⟨hd _ (h.dA k e).1, (h.dA k e).2⟩, fun k e => ⟨hd _ (h.dB k e).1, (h.dB k e).2⟩, fun k e => ⟨hd _ (h.dl k e).1, (h.dl k e).2⟩, fun k e => ⟨hd _ (h.dw k e).1, (h.dw k e).2⟩⟩
end
end Go.Proofs.YtblmoilneiffgaaGreat

/- The book's kind numbers. -/
set_option maxRecDepth 100000
namespace Go.Proofs.YtblmoilneiffgaaGreat
open Go.RowKit

section
def mkI (i k : Int) : Int := wr ((wr ((wr ((-1000000 : Int) * i)) - k)) - (7 : Int))
theorem markInts_ok : MarkOk Tryz.prog intE mkI fn_hollowaybook_markInts := by
  intro i f m w hi hf
  refine (hollowaybook_markInts_lift (K := fun r w' => ∃ s : Sl, r = s.val ∧ Ow intE w' s (marks (mkI i) f m) ∧ Chg No w w' ∧ (∀ j, s.blk = some j → w.heap.size ≤ j)) ?_).mono (by rintro e w' ⟨r, rfl, s, rfl, h⟩; exact ⟨s, rfl, h⟩)
  unfold hollowaybook_markInts_sh
  exact mark_core (K := fun r w' => ∃ s : Sl, r = s.val ∧ Ow intE w' s (marks (mkI i) f m) ∧ Chg No w w' ∧ (∀ j, s.blk = some j → w.heap.size ≤ j)) intOk (by decide) (mkI i) f m hf fun s' w' h1 h2 h3 => ⟨s', rfl, h1, h2, h3⟩
theorem add0 (q : Addr) : q.add 0 = q := by unfold Addr.add; simp
theorem sameInts_ok : SameOk Tryz.prog intE fn_hollowaybook_SameInts := by
  intro s t xs w hs ht
  refine (hollowaybook_SameInts_lift (K := fun r w' => r = .bool true ∧ Chg No w w') ?_).mono (by rintro e w' ⟨r, rfl, rfl, h⟩; exact ⟨rfl, h⟩)
  unfold hollowaybook_SameInts_sh
  have h1 := hs.len
  have h2 := ht.len
  have hc := hs.capL
  have e1 : ((s.len : Int) != (t.len : Int)) = false := by rw [h1, h2]; simp
  rw [e1]
  refine brB_f ?_
  refine ⟨fun n w' => ∃ k : Nat, n = k ∧ k ≤ xs.length ∧ Chg No w w', fun n _ => xs.length - n.toNat, ⟨0, rfl, Nat.zero_le _, Chg.refl _ _⟩, ?_⟩
  rintro n w3 ⟨k, rfl, hk, hch⟩
  refine brB_of (fun hlt => ?_) (fun hlt => ⟨rfl, hch⟩)
  have hlt : k < xs.length := by simp at hlt; omega
  intro w5 hw5
  have c5 : Chg No w w5 := hch.trans (by rw [hw5]; exact Chg.drew No _) (fun _ _ h => h) (fun _ _ h => h)
  obtain ⟨x, hx⟩ : ∃ x, xs[k]? = some x := ⟨_, List.getElem?_eq_getElem hlt⟩
  refine (hs.no c5).ix (i := (k : Int)) (by omega) (by rw [Int.toNat_natCast]; exact hx) fun a ha hcell => ?_
  have q1 := hcell 0 _ rfl
  rw [add0] at q1
  refine ⟨x, held_Lw q1, ?_⟩
  refine (ht.no c5).ix (i := (k : Int)) (by omega) (by rw [Int.toNat_natCast]; exact hx) fun a' ha' hcell' => ?_
  have q2 := hcell' 0 _ rfl
  rw [add0] at q2
  refine ⟨x, held_Lw q2, ?_⟩
  have e2 : (!(x == x)) = false := by simp
  rw [e2]
  refine brB_f ?_
  rw [wr_of (by omega) (by omega)]
  exact ⟨⟨k + 1, by omega, by omega, c5⟩, by show xs.length - Int.toNat ((k : Int) + 1) < xs.length - Int.toNat (k : Int); omega⟩
def qI (S : World → Prop) (p : Addr) (F : List Value → Prop) : Prop := ∃ n : Int, held S p (.int .i64 n) ∧ F [.int .i64 n]
theorem qI_ok (w : World) (p : Addr) (x : Int) (F : List Value → Prop) (h : ∀ (j : Nat) (u : Value), (intE.e x)[j]? = some u → w.cell? (p.add j) = some u) (hF : F (intE.e x)) : qI (Lw w) p F := by
  have := h 0 _ rfl
  rw [add0] at this
  exact ⟨x, held_Lw this, hF⟩
end
section
variable {α : Type}
variable {w : World} {b : Nat} {A Bs : Sl} {ls was : List Sl}
theorem stillInts_any {xss : List (List Int)} (h : KB intE T_sl_int w b 2 A Bs ls was xss) : Calls Tryz.prog fn_hollowaybook_Book_stillInts #[.pointer (some ⟨b, 0, none⟩)] w fun e w' => e = .returned (.bool true) ∧ Chg No w w' := by
  refine (hollowaybook_Book_stillInts_lift (K := fun r w' => r = .bool true ∧ Chg No w w') ?_).mono (by rintro e w' ⟨r, rfl, rfl, h⟩; exact ⟨rfl, h⟩)
  unfold hollowaybook_Book_stillInts_sh
  exact still_core (K := fun r w' => r = .bool true ∧ Chg No w w') sameInts_ok h.cA h.cB h.rA h.rB h.len h.lenB h.few (fun i s xs hs hx => (h.ox i s xs hs hx).1.rd) h.rd fun w' c => ⟨rfl, c⟩
theorem slIntOk : EncOk Tryz.prog (slE T_sl_int) T_sl_sl_int := EncOk.of (z := .slice none 0 0) (by kernel_rfl) (by kernel_rfl) (by kernel_rfl)
theorem markedInts_any {n : Nat} (hn : n ≤ 100000) {out : Sl} (h : Grown' intE T_sl_int mkI w out n) : Calls Tryz.prog fn_hollowaybook_markedInts #[out.val] w fun e w' => e = .returned (.bool true) ∧ Chg No w w' := by
  refine (hollowaybook_markedInts_lift (K := fun r w' => r = .bool true ∧ Chg No w w') ?_).mono (by rintro e w' ⟨r, rfl, rfl, h⟩; exact ⟨rfl, h⟩)
  unfold hollowaybook_markedInts_sh
  obtain ⟨outs, h1, h2, h3⟩ := h
  exact marked_core (mk := mkI) (K := fun r w' => r = .bool true ∧ Chg No w w') sameInts_ok markInts_ok h1 (by omega) (fun i s hs => ⟨by have := (h3 i s hs).1; omega, (h3 i s hs).2⟩) fun w' c => ⟨rfl, c⟩
end
section
theorem copyInts_any (s : Sl) (xs : List Int) (w : World) (h : Rd intE w s xs) (hl : xs.length ≤ 10000000) : Calls Tryz.prog fn_hollowaybook_copyInts #[s.val] w fun e w' => ∃ s' : Sl, e = .returned s'.val ∧ Ow intE w' s' xs ∧ Chg No w w' ∧ (∀ k, s'.blk = some k → w.heap.size ≤ k) := by
  refine (hollowaybook_copyInts_lift (K := fun r w' => ∃ s' : Sl, r = s'.val ∧ Ow intE w' s' xs ∧ Chg No w w' ∧ (∀ k, s'.blk = some k → w.heap.size ≤ k)) ?_).mono (by rintro e w' ⟨r, rfl, s', rfl, h⟩; exact ⟨s', rfl, h⟩)
  unfold hollowaybook_copyInts_sh
  refine app_ok intOk (s := nilS) rfl rfl (Ow.nil intE w) h (by simp only [List.length_nil, Nat.zero_add]; show xs.length * 8 ≤ _; omega) (by simp only [List.length_nil, Nat.zero_add]; unfold maxLen; omega) ?_
  intro s' w' h' c hbk
  refine ⟨s', rfl, by simpa using h', c.mono (fun k _ hk => by cases hk), fun k hk => ?_⟩
  rcases hbk with hh | hh
  · rw [hh] at hk; cases hk
  · have := Option.some.inj (hh.symm.trans hk); omega
end
end Go.Proofs.YtblmoilneiffgaaGreat

/- hollowaybook.LentInts, StaysInts: lists with room behind them, in which a mark stands. -/
set_option maxRecDepth 100000
namespace Go.Proofs.YtblmoilneiffgaaGreat
open Go.RowKit

def Lent (w : World) (s : Sl) (xs : List Int) : Prop := s.len = xs.length ∧ Ow intE w ⟨s.ptr, xs.length + 1, s.cap⟩ (xs ++ [-77])
theorem Lent.rd {w : World} {s : Sl} {xs : List Int} (h : Lent w s xs) : Rd intE w s xs := by
  have ht := (h.2.take (n := xs.length) (by simp)).rd
  rw [List.take_left] at ht
  have : s = ⟨s.ptr, xs.length, s.cap⟩ := by rw [← h.1]
  rw [this]; exact ht
theorem Lent.chg {S : Nat → Prop} {w w' : World} {s : Sl} {xs : List Int} (h : Lent w s xs) (c : Chg S w w') (hS : ∀ k, s.blk = some k → ¬ S k) : Lent w' s xs := by
  refine ⟨h.1, h.2.chg c (fun k hk => hS k ?_)⟩
  rw [← hk]; unfold Sl.blk Sl.val; cases s.ptr <;> rfl
theorem Lent.no {w w' : World} {s : Sl} {xs : List Int} (h : Lent w s xs) (c : Chg No w w') : Lent w' s xs := h.chg c (fun _ _ h => h)
theorem lentInts_any {w : World} {l : Sl} {xs : List Int} (h : Rd intE w l xs) (hl : xs.length ≤ 1000000) : Calls Tryz.prog fn_hollowaybook_LentInts #[l.val] w fun e w' => ∃ s : Sl, e = .returned s.val ∧ Lent w' s xs ∧ Chg No w w' ∧ (∀ k, s.blk = some k → w.heap.size ≤ k ∧ k < w'.heap.size) := by
  refine (hollowaybook_LentInts_lift (K := fun r w' => ∃ s : Sl, r = s.val ∧ Lent w' s xs ∧ Chg No w w' ∧ (∀ k, s.blk = some k → w.heap.size ≤ k ∧ k < w'.heap.size)) ?_).mono (by rintro e w' ⟨r, rfl, s', rfl, h⟩; exact ⟨s', rfl, h⟩)
  unfold hollowaybook_LentInts_sh
  refine (copyInts_any l xs w h (by omega)).mono ?_
  rintro e w3 ⟨s4, rfl, h4, c3, b4⟩
  refine ⟨s4, rfl, ?_⟩
  intro b5 w6 hb5 hw6
  have c6 : Chg No w3 w6 := by rw [hw6]; exact Chg.alloc _ _ _
  have l6 : Ow intE w6 ⟨some ⟨b5, 0, none⟩, 1, 1⟩ [-77] := by
    rw [hw6, hb5]; exact Ow.lit (E := intE) w3 [-77] [.int .i64 (-77)] rfl (by show 1 ≤ maxLen; unfold maxLen; omega)
  refine app_ok intOk rfl rfl (h4.no c6) l6.rd (by show (xs.length + 1) * 8 ≤ _; omega) (by show xs.length + 1 ≤ _; unfold maxLen; omega) ?_
  intro s7 w8 h8 c8 b8
  have hl7 := h8.rd.len
  have hc7 := h8.rd.capL
  rw [List.length_append] at hl7 hc7
  have hll := h.len
  refine ⟨by omega, by show (l.len : Int) ≤ s7.cap; have : [(-77 : Int)].length = 1 := rfl; omega, ?_⟩
  intro s9 hs9
  rw [sub0, Int.toNat_natCast, hll] at hs9
  have hbk : s9.blk = s7.blk := by rw [hs9]; unfold Sl.blk Sl.val; cases s7.ptr <;> rfl
  have z3 := c3.size
  have z6 := c6.size
  refine ⟨s9, rfl, ⟨by rw [hs9], ?_⟩, (c3.trans c6 (U := No) (fun _ _ h => h) (fun _ _ h => h)).trans c8 (fun _ _ h => h) (fun k hk he => by have := b4 k he; omega), fun k hk => ⟨?_, h8.lt (hbk ▸ hk)⟩⟩
  · have e7 : (⟨s9.ptr, xs.length + 1, s9.cap⟩ : Sl) = s7 := by rw [hs9]; cases s7; simp at hl7 ⊢; omega
    rw [e7]; exact h8
  · rw [hbk] at hk
    rcases b8 with hh | hh
    · exact b4 k (hh ▸ hk)
    · have := Option.some.inj (hh.symm.trans hk); omega
theorem staysInts_any {w : World} {m l : Sl} {xs : List Int} (hm : Lent w m xs) (hl : Rd intE w l xs) : Calls Tryz.prog fn_hollowaybook_StaysInts #[m.val, l.val] w fun e w' => e = .returned (.bool true) ∧ Chg No w w' := by
  refine (hollowaybook_StaysInts_lift (K := fun r w' => r = .bool true ∧ Chg No w w') ?_).mono (by rintro e w' ⟨r, rfl, rfl, h⟩; exact ⟨rfl, h⟩)
  unfold hollowaybook_StaysInts_sh
  refine (sameInts_ok m l xs w hm.rd hl).mono ?_
  rintro e w4 ⟨rfl, c4⟩
  have m4 := hm.no c4
  have hc := m4.2.rd.capL
  rw [List.length_append] at hc
  have h1 : [(-77 : Int)].length = 1 := rfl
  have hc1 : xs.length + 1 ≤ m.cap := by have := hc.1; omega
  have hc2 : m.cap ≤ 9223372036854775807 := hc.2
  have hml := hm.1
  refine ⟨_, rfl, brB_t ?_⟩
  rw [wr_of (by omega) (by omega)]
  refine ⟨by omega, by omega, ?_⟩
  intro s6 hs6
  rw [sub0] at hs6
  have e6 : s6 = ⟨m.ptr, xs.length + 1, m.cap⟩ := by rw [hs6]; congr 1; omega
  have h6 : Rd intE w4 s6 (xs ++ [-77]) := by rw [e6]; exact m4.2.rd
  have e7 : m.len = xs.length := hml
  refine h6.ix (i := (m.len : Int)) (x := -77) (by omega) (by rw [Int.toNat_natCast, e7, List.getElem?_append_right (Nat.le_refl _)]; simp) fun a ha hcell => ?_
  have q1 := hcell 0 _ rfl
  rw [add0] at q1
  exact ⟨-77, q1, by simp, c4⟩
end Go.Proofs.YtblmoilneiffgaaGreat
