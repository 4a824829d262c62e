/- Stacks of package pile: the contracts of its functions. -/
import Derived.Test.YticdjlkpkhahfaaBkI
import Derived.Test.YticdjlkpkhahfaaShPile
import Derived.Test.YticdjlkpkhahfaaShHollowaylaw5
import Derived.Test.YticdjlkpkhahfaaZeros
import Derived.Test.YticdjlkpkhahfaaSet1
set_option maxRecDepth 100000
namespace Go.Proofs.Yticdjlkpkhahfaa
open Go.RowKit

theorem trN {x y z : World} (h : Chg No x y) (k : Chg No y z) : Chg No x z := h.trans k (fun _ _ h => h) (fun _ _ h => h)
/-- append(nil, numbers..). -/
theorem appNilI {w : World} {v : Value} {t : Sl} {xs : List Int} (hv : v = t.val) (h : Rd intE w t xs) (hl : xs.length ≤ 1000000) {G : Sl → World → Prop} (k : ∀ (s' : Sl) (w' : World), Ow intE w' s' xs → Chg No w w' → (∀ k, s'.blk = some k → w.heap.size ≤ k) → G s' w') :
    ∃ s' : Sl, ∃ w' : World, (Builtin.append_ #[T_sl_int, T_sl_int] T_sl_int #[.slice none 0 0, v]).run Try.prog w = .ok s'.val w' ∧ G s' w' := by
  refine app_ok intOk (s := nilS) rfl hv (Ow.nil intE w) h (by simp only [List.length_nil, Nat.zero_add]; show xs.length * 8 ≤ _; omega) (by simp only [List.length_nil, Nat.zero_add]; unfold maxLen; omega) ?_
  intro s' w' h' c hbk
  refine k s' w' (by simpa using h') (c.mono (fun k _ hk => by cases hk)) (fun j hj => ?_)
  rcases hbk with hh | hh
  · rw [hh] at hj; cases hj
  · have := Option.some.inj (hh.symm.trans hj); omega
/-- append(numbers, numbers..). -/
theorem appI {w : World} {s : Sl} {v y : Value} {t : Sl} {xs ys : List Int} (hv : v = s.val) (hy : y = t.val) (ho : Ow intE w s xs) (h : Rd intE w t ys) (hl : xs.length + ys.length ≤ 2000000) {G : Sl → World → Prop} (k : ∀ (s' : Sl) (w' : World), Ow intE w' s' (xs ++ ys) → Chg (fun k => s.blk = some k) w w' → (s'.blk = s.blk ∨ s'.blk = some w.heap.size) → G s' w') :
    ∃ s' : Sl, ∃ w' : World, (Builtin.append_ #[T_sl_int, T_sl_int] T_sl_int #[v, y]).run Try.prog w = .ok s'.val w' ∧ G s' w' :=
  app_ok intOk hv hy ho h (by show (xs.length + ys.length) * 8 ≤ _; omega) (by unfold maxLen; omega) k
theorem litI {w w' : World} {b : Nat} (xs : List Int) (hb : b = w.heap.size) (hw : w' = World.alloc w (.cells (fl intE xs).toArray T_int)) (hm : xs.length ≤ 1000) : Ow intE w' ⟨some ⟨b, 0, none⟩, xs.length, xs.length⟩ xs ∧ Chg No w w' := by
  rw [hw, hb]
  exact ⟨Ow.lit (E := intE) w xs (fl intE xs) rfl (by unfold maxLen; omega), Chg.alloc _ _ _⟩

/-- At p lies a stack for so many cells, which holds l; it and its slice lie in blocks of B. -/
def PsAt (B : Nat → Prop) (w : World) (p : Nat) (most : Nat) (l : List Int) : Prop :=
  ∃ s : Sl, Ob w p [.int .i64 most, s.val] T_pile_Pile ∧ Ow intE w s l ∧ B p ∧ (∀ k, s.blk = some k → B k ∧ k ≠ p) ∧ l.length ≤ most ∧ most ≤ 1000
theorem PsAt.chg {B S : Nat → Prop} {w w' : World} {p m : Nat} {l : List Int} (h : PsAt B w p m l) (c : Chg S w w') (hS : ∀ k, B k → ¬ S k) : PsAt B w' p m l := by
  obtain ⟨s, h1, h2, h3, h4, h5⟩ := h
  exact ⟨s, h1.chg c (hS _ h3), h2.chg c (fun k hk => hS _ (h4 k hk).1), h3, h4, h5⟩
theorem PsAt.no {B : Nat → Prop} {w w' : World} {p m : Nat} {l : List Int} (h : PsAt B w p m l) (c : Chg No w w') : PsAt B w' p m l := h.chg c (fun _ _ h => h)
theorem PsAt.nar {B : Nat → Prop} {w : World} {p m : Nat} {l : List Int} (h : PsAt B w p m l) : PsAt (fun k => B k ∧ k < w.heap.size) w p m l := by
  obtain ⟨s, h1, h2, h3, h4, h5⟩ := h
  exact ⟨s, h1, h2, ⟨h3, h1.lt⟩, fun k hk => ⟨⟨(h4 k hk).1, h2.lt hk⟩, (h4 k hk).2⟩, h5⟩
theorem PsAt.wid {B C : Nat → Prop} {w : World} {p m : Nat} {l : List Int} (h : PsAt B w p m l) (hc : ∀ k, B k → C k) : PsAt C w p m l := by
  obtain ⟨s, h1, h2, h3, h4, h5⟩ := h
  exact ⟨s, h1, h2, hc _ h3, fun k hk => ⟨hc _ (h4 k hk).1, (h4 k hk).2⟩, h5⟩
theorem PsAt.len {B : Nat → Prop} {w : World} {p m : Nat} {l : List Int} (h : PsAt B w p m l) : l.length ≤ m ∧ m ≤ 1000 := by
  obtain ⟨s, h1, h2, h3, h4, h5⟩ := h; exact h5
theorem pnew_any (most : Int) (M : Nat) (hM : imin (imax most 0) 1000 = (M : Int)) (t : Sl) (xs : List Int) (w : World) (h : Rd intE w t xs) (hs : xs.length ≤ 1000000) :
    Calls Try.prog fn_pile_New #[.int .i64 most, t.val] w fun e w' => ∃ p : Nat, e = .returned (.pointer (some ⟨p, 0, none⟩)) ∧ PsAt (fun k => w.heap.size ≤ k) w' p M (xs.take M) ∧ Chg No w w' := by
  refine (pile_New_lift (K := fun v w' => ∃ p : Nat, v = .pointer (some ⟨p, 0, none⟩) ∧ PsAt (fun k => w.heap.size ≤ k) w' p M (xs.take M) ∧ Chg No w w') ?_).mono (by rintro e w' ⟨v, rfl, p, rfl, h⟩; exact ⟨p, rfl, h⟩)
  unfold pile_New_sh
  rw [hM]
  have hlen := h.len
  have hcap := h.capL
  have hM1 : M ≤ 1000 := by
    unfold imin imax at hM
    split at hM <;> split at hM <;> omega
  have hn : ∃ n : Nat, imin (t.len : Int) (M : Int) = (n : Int) ∧ n ≤ xs.length ∧ n ≤ M ∧ xs.take M = xs.take n := by
    unfold imin
    split
    · exact ⟨M, rfl, by omega, by omega, rfl⟩
    · exact ⟨t.len, rfl, by omega, by omega, by rw [List.take_of_length_le (by omega), List.take_of_length_le (by omega)]⟩
  obtain ⟨n, e1, e2, e3, e4⟩ := hn
  rw [e1, e4]
  refine ⟨by omega, by omega, ?_⟩
  intro s3 hs3
  rw [sub0, Int.toNat_natCast] at hs3
  have ht := h.take e2
  rw [← hs3] at ht
  refine (clone_ints ht (by rw [List.length_take]; omega)).mono ?_
  rintro e w5 ⟨s6, rfl, h6, c5, b6, _⟩
  refine ⟨s6, rfl, ?_⟩
  intro b7 w8 hb hw
  have c8 : Chg No w5 w8 := by rw [hw]; exact Chg.alloc _ _ _
  have z5 := c5.size
  refine ⟨b7, rfl, ⟨s6, ?_, h6.no c8, by omega, fun k hk => ⟨b6 k hk, by have := h6.lt hk; omega⟩, by rw [List.length_take]; omega, hM1⟩, trN c5 c8⟩
  rw [hw, hb]; exact Ob.new w5 [.int .i64 (M : Int), s6.val] T_pile_Pile
/-- The slice of a stack put in anew. -/
theorem PsAt.put {B S : Nat → Prop} {w w1 w2 : World} {p m : Nat} {l' : List Int} {s s' : Sl} (ho : Ob w p [.int .i64 m, s.val] T_pile_Pile) (hp : B p) (hm : l'.length ≤ m ∧ m ≤ 1000) (c : Chg S w w1) (hS : ∀ k, S k → B k ∧ k ≠ p) (h' : Ow intE w1 s' l') (hb : ∀ k, s'.blk = some k → B k ∧ k ≠ p) (hw : w2 = stW w1 ⟨p, 1, none⟩ 0 [s'.val]) :
    wrOk w1 ⟨p, 1, none⟩ 1 ∧ PsAt B w2 p m l' ∧ Chg B w w2 := by
  have o1 := ho.chg c (fun h => (hS p h).2 rfl)
  have c2 : Chg (fun k => k = p) w1 w2 := by rw [hw]; exact Chg.st (S := fun k => k = p) rfl
  refine ⟨o1.wr (by simp), ⟨s', ?_, h'.chg c2 (fun k hk he => (hb k hk).2 he), hp, hb, hm⟩, c.trans c2 (fun k _ hk => (hS k hk).1) (fun k _ hk => by rw [hk]; exact hp)⟩
  have := Ob.st (vs := [s'.val]) (k := 1) (i := 0) o1
  rw [hw]; exact this
theorem ppush_any {B : Nat → Prop} {w : World} {p m : Nat} {l : List Int} (h : PsAt B w p m l) (hB : ∀ k, w.heap.size ≤ k → B k) {t : Sl} {ys : List Int} (ht : Rd intE w t ys) :
    Calls Try.prog fn_pile_Pile_Push #[.pointer (some ⟨p, 0, none⟩), t.val] w fun e w' => e = .returned (.bool (decide (l.length + ys.length ≤ m))) ∧ PsAt B w' p m (if l.length + ys.length ≤ m then l ++ ys else l) ∧ Chg B w w' := by
  refine (pile_Pile_Push_lift (K := fun v w' => v = .bool (decide (l.length + ys.length ≤ m)) ∧ PsAt B w' p m (if l.length + ys.length ≤ m then l ++ ys else l) ∧ Chg B w w') ?_).mono (by rintro e w' ⟨v, rfl, rfl, h⟩; exact ⟨rfl, h⟩)
  unfold pile_Pile_Push_sh
  intro w3 hw3
  have q3 : Chg No w w3 := by rw [hw3]; exact Chg.drew _ _
  have z3 : w3.heap.size = w.heap.size := by rw [hw3]; rfl
  have h' := h.no q3
  obtain ⟨s, h1, h2, h3, h4, h5⟩ := h.no q3
  have hlen := h2.rd.len
  have hcap := h2.rd.capL
  have htl := ht.len
  refine ⟨m, held_Lw (h1.cell rfl), s, held_Lw (h1.cell rfl), ?_⟩
  rw [wr_of (by omega) (by omega)]
  refine brB_of (fun hf => ?_) (fun hf => ?_)
  · have hf : ¬ (l.length + ys.length ≤ m) := by have := of_decide_eq_true hf; omega
    rw [if_neg hf, decide_eq_false hf]
    exact ⟨rfl, h', q3.mono (fun _ _ h => h.elim)⟩
  · have hf : l.length + ys.length ≤ m := by have := of_decide_eq_false hf; omega
    rw [if_pos hf, decide_eq_true hf]
    refine ⟨s, h1.cell rfl, appI rfl rfl h2 (ht.no q3) (by omega) ?_⟩
    intro s7 w8 h8 c8 b8
    have hb : ∀ k, s7.blk = some k → B k ∧ k ≠ p := fun k hk => by
      rcases b8 with hh | hh
      · exact h4 k (hh ▸ hk)
      · have := Option.some.inj (hh.symm.trans hk); have := h1.lt; exact ⟨hB k (by omega), by omega⟩
    have hp := fun w2 (hw : w2 = stW w8 ⟨p, 1, none⟩ 0 [s7.val]) => PsAt.put h1 h3 ⟨by rw [List.length_append]; exact hf, h5.2⟩ c8 (fun k hk => h4 k hk) h8 hb hw
    refine ⟨(hp _ rfl).1, fun w9 hw9 => ⟨rfl, (hp w9 hw9).2.1, q3.trans (hp w9 hw9).2.2 (fun _ _ h => h.elim) (fun _ _ h => h)⟩⟩
def popV (s : Sl) (b : Bool) : Value := .tuple #[s.val, .bool b]
theorem ppop_any {B : Nat → Prop} {w : World} {p m : Nat} {l : List Int} (n : Int) (h : PsAt B w p m l) :
    Calls Try.prog fn_pile_Pile_Pop #[.pointer (some ⟨p, 0, none⟩), .int .i64 n] w fun e w' => ∃ s : Sl, e = .returned (popV s (decide (0 ≤ n ∧ n ≤ l.length))) ∧ Ow intE w' s (if 0 ≤ n ∧ n ≤ l.length then l.drop (l.length - n.toNat) else []) ∧ (∀ k, s.blk = some k → w.heap.size ≤ k) ∧ PsAt B w' p m (if 0 ≤ n ∧ n ≤ l.length then l.take (l.length - n.toNat) else l) ∧ Chg B w w' := by
  refine (pile_Pile_Pop_lift (K := fun v w' => ∃ s : Sl, v = popV s (decide (0 ≤ n ∧ n ≤ l.length)) ∧ Ow intE w' s (if 0 ≤ n ∧ n ≤ l.length then l.drop (l.length - n.toNat) else []) ∧ (∀ k, s.blk = some k → w.heap.size ≤ k) ∧ PsAt B w' p m (if 0 ≤ n ∧ n ≤ l.length then l.take (l.length - n.toNat) else l) ∧ Chg B w w') ?_).mono (by rintro e w' ⟨v, rfl, p, rfl, h⟩; exact ⟨p, rfl, h⟩)
  unfold pile_Pile_Pop_sh
  have h' := h
  obtain ⟨s, h1, h2, h3, h4, h5⟩ := h
  have hlen := h2.rd.len
  have hcap := h2.rd.capL
  refine ⟨fun b w' => b = decide (¬ (0 ≤ n ∧ n ≤ l.length)) ∧ w = w', ?_, ?_⟩
  · rintro b w4 ⟨rfl, rfl⟩
    refine brB_of (fun hf => ?_) (fun hf => ?_)
    · have hf := of_decide_eq_true hf
      rw [if_neg hf, if_neg hf, decide_eq_false hf]
      exact ⟨nilS, rfl, Ow.nil _ _, (fun k hk => by cases hk), h', Chg.refl _ _⟩
    · have hf : 0 ≤ n ∧ n ≤ l.length := Decidable.not_not.1 (of_decide_eq_false hf)
      rw [if_pos hf, if_pos hf, decide_eq_true hf]
      have e1 : wr ((s.len : Int) - n) = ((l.length - n.toNat : Nat) : Int) := by rw [wr_of (by omega) (by omega)]; omega
      refine ⟨s, h1.cell rfl, s, h1.cell rfl, ?_⟩
      rw [e1]
      refine ⟨by omega, by omega, ?_⟩
      intro s8 hs8
      rw [Int.toNat_natCast, hlen] at hs8
      have hd := h2.rd.drop (m := l.length - n.toNat) (by omega)
      have hd' : Rd intE w s8 (l.drop (l.length - n.toNat)) := by rw [hs8]; exact hd
      refine (clone_ints hd' (by rw [List.length_drop]; omega)).mono ?_
      rintro e w10 ⟨s11, rfl, h11, c10, b11, _⟩
      refine ⟨s11, rfl, s, (h1.no c10).cell rfl, by omega, by omega, ?_⟩
      intro s13 hs13
      rw [sub0, Int.toNat_natCast] at hs13
      have ht := h2.take (n := l.length - n.toNat) (by omega)
      rw [← hs13] at ht
      have hbk : s13.blk = s.blk := by rw [hs13]; unfold Sl.blk Sl.val; cases s.ptr <;> rfl
      have hp := fun w2 (hw : w2 = stW w10 ⟨p, 1, none⟩ 0 [s13.val]) => PsAt.put (B := B) h1 h3 ⟨by rw [List.length_take]; omega, h5.2⟩ c10 (fun k hk => hk.elim) (ht.no c10) (fun k hk => h4 k (hbk ▸ hk)) hw
      have z10 := c10.size
      refine ⟨(hp _ rfl).1, fun w14 hw14 => ⟨s11, rfl, ?_, b11, (hp w14 hw14).2.1, (hp w14 hw14).2.2⟩⟩
      have c14 : Chg (fun k => k = p) w10 w14 := by rw [hw14]; exact Chg.st (S := fun k => k = p) rfl
      exact h11.chg c14 (fun k hk he => by have := b11 k hk; have := h1.lt; omega)
  · refine brB_of (fun h => ⟨?_, rfl⟩) (fun h => ⟨s, h1.cell rfl, ?_, rfl⟩)
    · have h := of_decide_eq_true h
      symm; apply decide_eq_true; omega
    · have h := of_decide_eq_false h
      rw [Bool.eq_iff_iff]; simp; omega
/-- Where a cell from the top lies. -/
theorem pplace_any {B : Nat → Prop} {w : World} {p m : Nat} {l : List Int} (k : Int) (h : PsAt B w p m l) : Calls Try.prog fn_pile_Pile_place #[.pointer (some ⟨p, 0, none⟩), .int .i64 k] w fun e w' => e = .returned (.int .i64 (if 0 ≤ k ∧ k < l.length then (l.length : Int) - 1 - k else -1)) ∧ w = w' := by
  refine (pile_Pile_place_lift (K := fun v w' => v = .int .i64 (if 0 ≤ k ∧ k < l.length then (l.length : Int) - 1 - k else -1) ∧ w = w') ?_).mono (by rintro e w' ⟨v, rfl, rfl, h⟩; exact ⟨rfl, h⟩)
  unfold pile_Pile_place_sh
  obtain ⟨s, h1, h2, h3, h4, h5⟩ := h
  have hlen := h2.rd.len
  have hcap := h2.rd.capL
  refine ⟨fun b w' => b = decide (¬ (0 ≤ k ∧ k < l.length)) ∧ w = w', ?_, ?_⟩
  · rintro b w4 ⟨rfl, rfl⟩
    refine brB_of (fun hf => ?_) (fun hf => ?_)
    · have hf := of_decide_eq_true hf
      rw [if_neg hf]; exact ⟨rfl, rfl⟩
    · have hf : 0 ≤ k ∧ k < l.length := Decidable.not_not.1 (of_decide_eq_false hf)
      rw [if_pos hf]
      refine ⟨s, h1.cell rfl, ?_, rfl⟩
      rw [hlen, wr_of (x := (l.length : Int) - 1) (by omega) (by omega), wr_of (by omega) (by omega)]
  · refine brB_of (fun h => ⟨?_, rfl⟩) (fun h => ⟨s, h1.cell rfl, ?_, rfl⟩)
    · have h := of_decide_eq_true h
      symm; apply decide_eq_true; omega
    · have h := of_decide_eq_false h
      rw [Bool.eq_iff_iff]; simp; omega
def peekV (l : List Int) (k : Int) : Value := if 0 ≤ k ∧ k < l.length then .tuple #[.int .i64 (l.getD (l.length - 1 - k.toNat) 0), .bool true] else .tuple #[.int .i64 0, .bool false]
theorem ppeek_any {B : Nat → Prop} {w : World} {p m : Nat} {l : List Int} (k : Int) (h : PsAt B w p m l) : Calls Try.prog fn_pile_Pile_Peek #[.pointer (some ⟨p, 0, none⟩), .int .i64 k] w fun e w' => e = .returned (peekV l k) ∧ w = w' := by
  refine (pile_Pile_Peek_lift (K := fun v w' => v = peekV l k ∧ w = w') ?_).mono (by rintro e w' ⟨v, rfl, rfl, h⟩; exact ⟨rfl, h⟩)
  unfold pile_Pile_Peek_sh peekV
  refine (pplace_any k h).mono ?_
  rintro e w4 ⟨rfl, rfl⟩
  refine ⟨_, rfl, ?_⟩
  by_cases hf : 0 ≤ k ∧ k < l.length
  · rw [if_pos hf, if_pos hf]
    refine brB_of (fun h => by have := of_decide_eq_true h; omega) (fun _ => ?_)
    obtain ⟨s, h1, h2, h3, h4, h5⟩ := h
    have e1 : Int.toNat ((l.length : Int) - 1 - k) = l.length - 1 - k.toNat := by omega
    refine ⟨s, h1.cell rfl, h2.rd.ix (by omega) (x := l.getD (l.length - 1 - k.toNat) 0) ?_ fun a ha hcell => ?_⟩
    · rw [e1, List.getD_eq_getElem?_getD, List.getElem?_eq_getElem (by omega)]; rfl
    · have q1 := hcell 0 _ rfl
      rw [add0] at q1
      exact ⟨_, q1, rfl, rfl⟩
  · rw [if_neg hf, if_neg hf]
    exact brB_of (fun _ => ⟨rfl, rfl⟩) (fun h => by have := of_decide_eq_false h; omega)
theorem pset_any {B : Nat → Prop} {w : World} {p m : Nat} {l : List Int} (k v : Int) (h : PsAt B w p m l) : Calls Try.prog fn_pile_Pile_Set #[.pointer (some ⟨p, 0, none⟩), .int .i64 k, .int .i64 v] w fun e w' => e = .returned (.bool (decide (0 ≤ k ∧ k < l.length))) ∧ PsAt B w' p m (if 0 ≤ k ∧ k < l.length then l.set (l.length - 1 - k.toNat) v else l) ∧ Chg B w w' := by
  refine (pile_Pile_Set_lift (K := fun r w' => r = .bool (decide (0 ≤ k ∧ k < l.length)) ∧ PsAt B w' p m (if 0 ≤ k ∧ k < l.length then l.set (l.length - 1 - k.toNat) v else l) ∧ Chg B w w') ?_).mono (by rintro e w' ⟨v, rfl, rfl, h⟩; exact ⟨rfl, h⟩)
  unfold pile_Pile_Set_sh
  refine (pplace_any k h).mono ?_
  rintro e w4 ⟨rfl, rfl⟩
  refine ⟨_, rfl, ?_⟩
  by_cases hf : 0 ≤ k ∧ k < l.length
  · rw [if_pos hf, if_pos hf, decide_eq_true hf]
    refine brB_of (fun h => by have := of_decide_eq_true h; omega) (fun _ => ?_)
    obtain ⟨s, h1, h2, h3, h4, h5⟩ := h
    have hlen := h2.rd.len
    have e1 : Int.toNat ((l.length : Int) - 1 - k) = l.length - 1 - k.toNat := by omega
    obtain ⟨x, hx⟩ : ∃ x, l[l.length - 1 - k.toNat]? = some x := ⟨_, List.getElem?_eq_getElem (by omega)⟩
    obtain ⟨a, ha, _⟩ := h2.rd.at hx
    obtain ⟨f1, f2⟩ := h2.set1 ha (k := l.length - 1 - k.toNat) (j := 0) (x' := v) (u := .int .i64 v) hx (by decide) rfl
    rw [add0] at f1 f2
    refine ⟨s, h1.cell rfl, a, ha, by omega, by omega, by rw [e1]; exact f1, fun w9 hw9 => ⟨rfl, ?_, ?_⟩⟩
    · have hb := blk_ptr ha
      have c9 : Chg (fun k => k = a.block) w w9 := by rw [hw9]; exact Chg.st (S := fun k => k = a.block) (by rw [add_block])
      refine ⟨s, h1.chg c9 (fun he => (h4 _ hb).2 he.symm), ?_, h3, h4, by rw [List.length_set]; exact h5.1, h5.2⟩
      rw [hw9, e1]; exact f2
    · have hb := blk_ptr ha
      rw [hw9]; exact (Chg.st (S := fun k => k = a.block) (by rw [add_block])).mono (fun j _ hj => by rw [hj]; exact (h4 _ hb).1)
  · rw [if_neg hf, if_neg hf, decide_eq_false hf]
    exact brB_of (fun _ => ⟨rfl, h, Chg.refl _ _⟩) (fun h => by have := of_decide_eq_false h; omega)
theorem plen_any {B : Nat → Prop} {w : World} {p m : Nat} {l : List Int} (h : PsAt B w p m l) : Calls Try.prog fn_pile_Pile_Len #[.pointer (some ⟨p, 0, none⟩)] w fun e w' => e = .returned (.int .i64 l.length) ∧ w = w' := by
  refine (pile_Pile_Len_lift (K := fun v w' => v = .int .i64 l.length ∧ w = w') ?_).mono (by rintro e w' ⟨v, rfl, rfl, h⟩; exact ⟨rfl, h⟩)
  obtain ⟨s, h1, h2, _⟩ := h
  exact ⟨s, h1.cell rfl, by rw [h2.rd.len], rfl⟩
theorem pall_any {B : Nat → Prop} {w : World} {p m : Nat} {l : List Int} (h : PsAt B w p m l) : Calls Try.prog fn_pile_Pile_All #[.pointer (some ⟨p, 0, none⟩)] w fun e w' => ∃ s' : Sl, e = .returned s'.val ∧ Ow intE w' s' l ∧ Chg No w w' ∧ (∀ k, s'.blk = some k → w.heap.size ≤ k) := by
  refine (pile_Pile_All_lift (K := fun r w' => ∃ s' : Sl, r = s'.val ∧ Ow intE w' s' l ∧ Chg No w w' ∧ (∀ k, s'.blk = some k → w.heap.size ≤ k)) ?_).mono (by rintro e w' ⟨v, rfl, s', rfl, h⟩; exact ⟨s', rfl, h⟩)
  unfold pile_Pile_All_sh
  obtain ⟨s, h1, h2, _, _, h5⟩ := h
  refine ⟨s, h1.cell rfl, (clone_ints h2.rd (by omega)).mono ?_⟩
  rintro e w' ⟨s', rfl, h1, h2, h3, _⟩
  exact ⟨s', rfl, s', rfl, h1, h2, h3⟩
theorem pcopy_any {B : Nat → Prop} {w : World} {p m : Nat} {l : List Int} (h : PsAt B w p m l) : Calls Try.prog fn_pile_Pile_Copy #[.pointer (some ⟨p, 0, none⟩)] w fun e w' => ∃ q : Nat, e = .returned (.pointer (some ⟨q, 0, none⟩)) ∧ PsAt (fun k => w.heap.size ≤ k) w' q m l ∧ Chg No w w' := by
  refine (pile_Pile_Copy_lift (K := fun r w' => ∃ q : Nat, r = .pointer (some ⟨q, 0, none⟩) ∧ PsAt (fun k => w.heap.size ≤ k) w' q m l ∧ Chg No w w') ?_).mono (by rintro e w' ⟨v, rfl, s', rfl, h⟩; exact ⟨s', rfl, h⟩)
  unfold pile_Pile_Copy_sh
  intro w2 hw2
  have q2 : Chg No w w2 := by rw [hw2]; exact Chg.drew _ _
  have h2 := h.no q2
  have h5 := h.len
  refine ⟨fun w' => Chg No w2 w', Chg.refl _ _, m, ?_, ?_⟩
  · intro w' hw'
    obtain ⟨s, g1, _⟩ := h2.no hw'
    exact g1.cell rfl
  refine (pall_any h2).mono ?_
  rintro e w6 ⟨s7, rfl, h7, c6, b7⟩
  refine ⟨s7, rfl, c6, ?_⟩
  intro b8 w9 hb8 hw9
  have c9 : Chg No w6 w9 := by rw [hw9]; exact Chg.alloc _ _ _
  have z2 := q2.size
  have z6 := c6.size
  refine ⟨b8, rfl, ⟨s7, ?_, h7.no c9, by omega, fun k hk => ⟨by have := b7 k hk; omega, by have := h7.lt hk; omega⟩, h5⟩, trN (trN q2 c6) c9⟩
  rw [hw9, hb8]; exact Ob.new w6 [.int .i64 (m : Int), s7.val] T_pile_Pile
theorem fl_zeros : ∀ m : Nat, fl intE (List.replicate m 0) = List.replicate m (Value.int .i64 0)
  | 0 => rfl
  | m + 1 => by rw [List.replicate_succ, List.replicate_succ, fl_cons, fl_zeros m]; rfl
theorem appZ {w : World} {s : Sl} {v : Value} {xs : List Int} {n : Int} {m : Nat} (hv : v = s.val) (hn : n = (m : Int)) (ho : Ow intE w s xs) (hl : xs.length + m ≤ 1000000) {G : Sl → World → Prop} (k : ∀ (s' : Sl) (w' : World), Ow intE w' s' (xs ++ List.replicate m 0) → Chg (fun k => s.blk = some k) w w' → (s'.blk = s.blk ∨ s'.blk = some w.heap.size) → G s' w') :
    ∃ s' : Sl, ∃ w' : World, (Builtin.append_ #[T_sl_int, T_int] T_sl_int #[v, .int .i64 n]).run Try.prog w = .ok s'.val w' ∧ G s' w' := by
  subst hv hn
  obtain ⟨i, z, hi, hz, h1, h2, h3⟩ := intOk.info
  have hz0 : z = .int .i64 0 := by
    have e : (Try.prog.info? T_int).bind (·.zero) = some (.int .i64 0) := by kernel_rfl
    have hi' : Try.prog.info? T_int = some i := hi
    rw [hi'] at e
    exact Option.some.inj (hz.symm.trans e)
  subst hz0
  obtain ⟨v', w', hr, ho', hg, hbk⟩ := run_append_zeros (P := Try.prog) w T_sl_int T_int T_sl_int T_int i (.int .i64 0) intOk.und Try.underlying3 hi hz h1 rfl rfl s.val xs.length (fl intE xs) ho m hl (by rw [h2]; decide)
  obtain ⟨ao, cap, rfl⟩ := Own.form ho'
  have hf : fl intE xs ++ List.replicate m (Value.int .i64 0) = fl intE (xs ++ List.replicate m 0) := by
    rw [fl_append, fl_zeros]
  refine ⟨⟨ao, xs.length + m, cap⟩, w', hr, k _ _ ?_ (Chg.grown hg (fun k hk => hk)) hbk⟩
  unfold Ow
  rw [List.length_append, List.length_replicate, ← hf]
  exact ho'
def cutL (l : List Int) (n : Nat) : List Int := l.take n ++ List.replicate (n - l.length) 0
theorem cutL_len (l : List Int) (n : Nat) : (cutL l n).length = n := by
  unfold cutL; rw [List.length_append, List.length_take, List.length_replicate]; omega
theorem pcut_any {B : Nat → Prop} {w : World} {p m : Nat} {l : List Int} (n : Int) (h : PsAt B w p m l) (hB : ∀ k, w.heap.size ≤ k → B k) :
    Calls Try.prog fn_pile_Pile_Cut #[.pointer (some ⟨p, 0, none⟩), .int .i64 n] w fun e w' => e = .returned (.bool (decide (0 ≤ n ∧ n ≤ m))) ∧ PsAt B w' p m (if 0 ≤ n ∧ n ≤ m then cutL l n.toNat else l) ∧ Chg B w w' := by
  refine (pile_Pile_Cut_lift (K := fun r w' => r = .bool (decide (0 ≤ n ∧ n ≤ m)) ∧ PsAt B w' p m (if 0 ≤ n ∧ n ≤ m then cutL l n.toNat else l) ∧ Chg B w w') ?_).mono (by rintro e w' ⟨v, rfl, rfl, h⟩; exact ⟨rfl, h⟩)
  unfold pile_Pile_Cut_sh
  have h' := h
  obtain ⟨s, h1, h2, h3, h4, h5⟩ := h
  have hlen := h2.rd.len
  have hcap := h2.rd.capL
  refine ⟨fun b w' => b = decide (¬ (0 ≤ n ∧ n ≤ m)) ∧ w = w', ?_, ?_⟩
  · rintro b w4 ⟨rfl, rfl⟩
    refine brB_of (fun hf => ?_) (fun hf => ?_)
    · have hf := of_decide_eq_true hf
      rw [if_neg hf, decide_eq_false hf]
      exact ⟨rfl, h', Chg.refl _ _⟩
    have hf : 0 ≤ n ∧ n ≤ m := Decidable.not_not.1 (of_decide_eq_false hf)
    rw [if_pos hf, decide_eq_true hf]
    refine ⟨fun w10 => PsAt B w10 p m (l.take n.toNat) ∧ Chg B w w10, ?_, ?_⟩
    · rintro w10 ⟨g, c10⟩
      intro w11 hw11
      have q11 : Chg No w10 w11 := by rw [hw11]; exact Chg.drew _ _
      have z11 : w11.heap.size = w10.heap.size := by rw [hw11]; rfl
      have z10 := c10.size
      obtain ⟨t, g1, g2, g3, g4, g5⟩ := g.no q11
      have gl := g2.rd.len
      have hlt : (l.take n.toNat).length ≤ n.toNat := by rw [List.length_take]; omega
      have hlt' : (l.take n.toNat).length = min n.toNat l.length := List.length_take
      refine ⟨fun w' => Chg (fun k => t.blk = some k) w11 w', Chg.refl _ _, t, ?_, t, ?_, ?_⟩
      · exact fun w' hw' => (g1.chg hw' (fun he => (g4 _ he).2 rfl)).cell rfl
      · exact fun w' hw' => (g1.chg hw' (fun he => (g4 _ he).2 rfl)).cell rfl
      refine appZ rfl (m := n.toNat - (l.take n.toNat).length) (by rw [gl, wr_of (by omega) (by omega)]; omega) g2 (by omega) ?_
      intro s15 w16 h16 c16 b16
      have hb : ∀ k, s15.blk = some k → B k ∧ k ≠ p := fun k hk => by
        rcases b16 with hh | hh
        · exact g4 k (hh ▸ hk)
        · have := Option.some.inj (hh.symm.trans hk); have := g1.lt; exact ⟨hB k (by omega), by omega⟩
      have hcl : l.take n.toNat ++ List.replicate (n.toNat - (l.take n.toNat).length) 0 = cutL l n.toNat := by
        unfold cutL; congr 2; rw [List.length_take]; omega
      rw [hcl] at h16
      have hp := fun w2 (hw : w2 = stW w16 ⟨p, 1, none⟩ 0 [s15.val]) => PsAt.put (B := B) g1 g3 ⟨by rw [cutL_len]; omega, h5.2⟩ c16 (fun k hk => g4 k hk) h16 hb hw
      refine ⟨c16, (hp _ rfl).1, fun w17 hw17 => ⟨rfl, (hp w17 hw17).2.1, (c10.trans q11 (fun _ _ h => h) (fun _ _ h => h.elim)).trans (hp w17 hw17).2.2 (fun _ _ h => h) (fun _ _ h => h)⟩⟩
    · refine ⟨s, h1.cell rfl, brB_of (fun hlt => ?_) (fun hlt => ?_)⟩
      · have hlt := of_decide_eq_true hlt
        refine ⟨s, h1.cell rfl, hf.1, by omega, ?_⟩
        intro s8 hs8
        rw [sub0] at hs8
        have ht := h2.take (n := n.toNat) (by omega)
        rw [← hs8] at ht
        have hbk : s8.blk = s.blk := by rw [hs8]; unfold Sl.blk Sl.val; cases s.ptr <;> rfl
        have hp := fun w2 (hw : w2 = stW w ⟨p, 1, none⟩ 0 [s8.val]) => PsAt.put (B := B) (S := No) h1 h3 ⟨by rw [List.length_take]; omega, h5.2⟩ (Chg.refl _ _) (fun k hk => hk.elim) ht (fun k hk => h4 k (hbk ▸ hk)) hw
        exact ⟨(hp _ rfl).1, fun w9 hw9 => ⟨(hp w9 hw9).2.1, (hp w9 hw9).2.2⟩⟩
      · have hlt := of_decide_eq_false hlt
        rw [List.take_of_length_le (by omega)]
        exact ⟨h', Chg.refl _ _⟩
  · refine brB_of (fun h => ⟨?_, rfl⟩) (fun h => ⟨m, h1.cell rfl, ?_, rfl⟩)
    · have h := of_decide_eq_true h
      symm; apply decide_eq_true; omega
    · have h := of_decide_eq_false h
      rw [Bool.eq_iff_iff]; simp; omega
end Go.Proofs.Yticdjlkpkhahfaa
