/- The first call of the statements of chapter 5; the walk of PileBack. -/
import Derived.Test.YtaikagkakajdfaaPileB
import Derived.Test.YtaikagkakajdfaaRowArgs
namespace Go.Proofs.Ytaikagkakajdfaa
open Go.RowKit

/-- A stack of the call's own: it and its cells lie in blocks of F, which are newer than w0; what is old is as it was. -/
def Our (w0 w : World) (F : Nat → Prop) (b : Nat) (most : Nat) (xs : List Int) : Prop :=
  ∃ v, PileAt w b v most xs ∧ Chg No w0 w ∧ F b ∧ (∀ k, v.ownBlock = some k → F k) ∧ ∀ k, F k → w0.heap.size ≤ k ∧ k < w.heap.size
/-- The blocks of F, and those that have come since w. -/
def More (F : Nat → Prop) (w w' : World) : Nat → Prop := fun k => F k ∨ (w.heap.size ≤ k ∧ k < w'.heap.size)

theorem Chg.later {S : Nat → Prop} {w0 w w' : World} (h : Chg No w0 w) (c : Chg S w w') (hS : ∀ k, S k → w0.heap.size ≤ k) : Chg No w0 w' :=
  h.trans c (fun _ _ h => h) (fun x hx hs => by have := hS x hs; omega)
theorem Our.new {w0 w w' : World} {most : Nat} {xs : List Int} {e : Ending} (h : NewPile most xs w e w') (c : Chg No w0 w) : ∃ b, e = .returned (.pointer (some ⟨b, 0, none⟩)) ∧ Our w0 w' (More No w w') b most xs := by
  obtain ⟨b, v, he, hp, hc, hb, hv⟩ := h
  have := c.size
  refine ⟨b, he, v, hp, c.later hc (fun _ h => h.elim), Or.inr ⟨hb, hp.lt⟩, fun k hk => Or.inr ⟨hv k hk, Own.lt hp.2.1 hk⟩, fun k hk => ?_⟩
  rcases hk with hk | hk
  · exact hk.elim
  · omega
theorem Our.lt {w0 w : World} {F : Nat → Prop} {b most : Nat} {xs : List Int} (h : Our w0 w F b most xs) {k : Nat} (hk : F k) : w0.heap.size ≤ k ∧ k < w.heap.size := h.choose_spec.2.2.2.2 k hk
theorem Our.chg {w0 w : World} {F : Nat → Prop} {b most : Nat} {xs : List Int} (h : Our w0 w F b most xs) : Chg No w0 w := h.choose_spec.2.1
/-- Something else has changed. -/
theorem Our.other {S : Nat → Prop} {w0 w w' : World} {F : Nat → Prop} {b most : Nat} {xs : List Int} (h : Our w0 w F b most xs) (c : Chg S w w') (hF : ∀ k, F k → ¬ S k) (hS : ∀ k, S k → w0.heap.size ≤ k) : Our w0 w' F b most xs := by
  obtain ⟨v, hp, hc, hb, hv, hk⟩ := h
  exact ⟨v, hp.chg c (hF b hb) (fun k h => hF k (hv k h)), hc.later c hS, hb, hv, fun k h => ⟨(hk k h).1, by have := c.size; have := (hk k h).2; omega⟩⟩
theorem Our.no {w0 w w' : World} {F : Nat → Prop} {b most : Nat} {xs : List Int} (h : Our w0 w F b most xs) (c : Chg No w w') : Our w0 w' F b most xs := h.other c (fun _ _ h => h) (fun _ h => h.elim)
theorem Our.qt {w0 w w' : World} {F : Nat → Prop} {b most : Nat} {xs : List Int} (h : Our w0 w F b most xs) (c : Qt w w') : Our w0 w' F b most xs := h.no (Chg.qt c)
theorem Our.alloc {w0 w : World} {F : Nat → Prop} {b most : Nat} {xs : List Int} (h : Our w0 w F b most xs) (o : Obj) : Our w0 (w.alloc o) F b most xs := h.no (Chg.alloc _ _ _)
theorem RdI.lit (w : World) (xs : List Int) (n : Nat) (hn : xs.length = n) (hm : n ≤ 1000) : RdI (w.alloc (.cells (is xs).toArray 3)) (.slice (some ⟨w.heap.size, 0, none⟩) n n) xs := by
  subst hn
  have := Own.lit w 3 1 (is xs).toArray xs.length (by unfold maxLen; omega) (by simp [is])
  exact Own.rd (by simpa using this)
/-- What was there when the call began reads as it did. -/
theorem RdI.old {w0 w : World} {v : Value} {xs : List Int} (h : RdI w0 v xs) (c : Chg No w0 w) : RdI w v xs := h.no c

/-- The slice lies in a block that has come between w and w'. -/
def Fresh (w w' : World) (v : Value) : Prop := ∀ k, v.ownBlock = some k → w.heap.size ≤ k ∧ k < w'.heap.size
theorem push_our (w0 : World) (F : Nat → Prop) (b : Nat) (y : Value) (most : Nat) (xs ys : List Int) (w : World) (h : Our w0 w F b most xs) (hy : RdI w y ys) :
    Calls Try.prog 16 #[.pointer (some ⟨b, 0, none⟩), y] w fun e w' =>
      e = .returned (.bool (decide (xs.length + ys.length ≤ most))) ∧ Our w0 w' (More F w w') b most (if xs.length + ys.length ≤ most then xs ++ ys else xs) ∧ Chg F w w' := by
  obtain ⟨v, hp, hc, hb, hv, hk⟩ := h
  refine (push_any b v y most xs ys w hp hy).mono fun e w' ⟨he, v', hp', hc', hv'⟩ => ?_
  have hc2 : Chg F w w' := hc'.mono (fun k _ h => by rcases h with rfl | h; exact hb; exact hv k h)
  refine ⟨he, ⟨v', hp', hc.later hc2 (fun k h => (hk k h).1), Or.inl hb, fun k h => ?_, fun k h => ?_⟩, hc2⟩
  · rcases hv' with e | ⟨j, hj, e⟩
    · exact Or.inl (hv k (by rw [← e]; exact h))
    · rw [h] at e; cases e; exact Or.inr ⟨hj, Own.lt hp'.2.1 h⟩
  · have h1 := hc.size
    have h2 := hc2.size
    rcases h with h | h
    · have := hk k h; omega
    · omega
theorem pop_our (w0 : World) (F : Nat → Prop) (b : Nat) (most : Nat) (xs : List Int) (n : Nat) (w : World) (h : Our w0 w F b most xs) (hn : n ≤ xs.length) :
    Calls Try.prog 18 #[.pointer (some ⟨b, 0, none⟩), .int .i64 n] w fun e w' =>
      ∃ ao len cap, e = .returned (.tuple #[.slice ao len cap, .bool true]) ∧ len = n ∧ RdI w' (.slice ao len cap) (xs.drop (xs.length - n)) ∧ Our w0 w' F b most (xs.take (xs.length - n)) ∧ Fresh w w' (.slice ao len cap) ∧ Chg F w w' := by
  obtain ⟨v, hp, hc, hb, hv, hk⟩ := h
  refine (pop_yes b v most xs n w hp hn).mono fun e w' ⟨v', ⟨ao, cap, he, ho, hnew, hp', hc'⟩, hv'⟩ => ?_
  have hc2 : Chg F w w' := hc'.mono (fun k _ h => by subst h; exact hb)
  refine ⟨ao, _, cap, he, ?_, ho.rd, ⟨v', hp', hc.later hc2 (fun k h => (hk k h).1), hb, fun k h => hv k (by rw [← hv']; exact h), fun k h => ?_⟩, fun k hk => ⟨hnew k hk, Own.lt ho hk⟩, hc2⟩
  · rw [List.length_drop]; omega
  · have h2 := hc2.size; have := hk k h; omega
theorem all_our (w0 : World) (F : Nat → Prop) (b : Nat) (most : Nat) (xs : List Int) (w : World) (h : Our w0 w F b most xs) :
    Calls Try.prog 15 #[.pointer (some ⟨b, 0, none⟩)] w fun e w' => ∃ ao cap, e = .returned (.slice ao xs.length cap) ∧ RdI w' (.slice ao xs.length cap) xs ∧ Our w0 w' F b most xs ∧ Fresh w w' (.slice ao xs.length cap) ∧ Chg No w w' := by
  obtain ⟨v, hp, _⟩ := id h
  exact (all_any b v most xs w hp).mono fun e w' ⟨ao, cap, he, ho, hc', hn⟩ => ⟨ao, cap, he, ho.rd, h.no hc', fun k hk => ⟨hn k hk, Own.lt ho hk⟩, hc'⟩
theorem len_our (w0 : World) (F : Nat → Prop) (b : Nat) (most : Nat) (xs : List Int) (w : World) (h : Our w0 w F b most xs) :
    Calls Try.prog 19 #[.pointer (some ⟨b, 0, none⟩)] w fun e w' => e = .returned (.int .i64 xs.length) ∧ w = w' := by
  obtain ⟨v, hp, _⟩ := h
  exact len_any b v most xs w hp

set_option maxRecDepth 100000 in
set_option maxHeartbeats 1000000 in
theorem alive5_any (w : World) : Calls Try.prog 13 #[] w fun e w' => e = .returned (.bool true) ∧ Chg No w w' := by
  go_enter Try.func13, Try.ntmps13
  go_wp2_with fail
  refine (new_any 3 3 _ [1, 2] _ (by exact RdI.lit _ [1, 2] 2 rfl (by omega)) (by unfold Fits; simp) (by omega)).mono ?_
  intro e w1 hnew
  obtain ⟨b, rfl, hour⟩ := Our.new (w0 := w) hnew (Chg.alloc _ _ _)
  have HO := Lib.hid hour
  clear hnew hour
  rw [show ([1, 2] : List Int).take 3 = [1, 2] from rfl] at HO
  go_wp2_with fail
  refine (push_our w _ b _ 3 [1, 2] [3, 4] _ (HO.out.alloc _) (by exact RdI.lit _ [3, 4] 2 rfl (by omega))).mono ?_
  rintro e w2 ⟨rfl, ho2, _⟩
  have HO2 := Lib.hid ho2
  clear ho2 HO
  rw [if_neg (by decide)] at HO2
  rw [show decide (([1, 2] : List Int).length + ([3, 4] : List Int).length ≤ 3) = false from by decide]
  go_wp2_with fail
  refine (push_our w _ b _ 3 [1, 2] [3] _ (HO2.out.alloc _) (by exact RdI.lit _ [3] 1 rfl (by omega))).mono ?_
  rintro e w3 ⟨rfl, ho3, _⟩
  rw [show decide (([1, 2] : List Int).length + ([3] : List Int).length ≤ 3) = true from by decide]
  rw [if_pos (by decide)] at ho3
  have HO3 := Lib.hid ho3
  clear ho3 HO2
  go_wp2_with fail
  refine (pop_our w _ b 3 [1, 2, 3] 2 _ HO3.out (by decide)).mono ?_
  rintro e w4 ⟨ao, len, cap, rfl, rfl, hr, ho4, _, _⟩
  obtain ⟨q, off, rfl, hcell⟩ := RdI.at (xs := [2, 3]) hr (by decide)
  have c0 : w4.cell? ⟨q, off, none⟩ = some (.int .i64 2) := by simpa using hcell 0 (by decide)
  have c1 : w4.cell? ⟨q, off + 1, none⟩ = some (.int .i64 3) := by simpa using hcell 1 (by decide)
  have HO4 := Lib.hid ho4
  clear ho4 HO3 hcell hr
  go_wp2_with fail
  refine (len_our w _ b 3 [1] _ HO4.out).mono ?_
  rintro e w5 ⟨rfl, rfl⟩
  go_wp2
  go_ret
  exact ⟨rfl, HO4.out.chg⟩

set_option maxRecDepth 100000 in
set_option maxHeartbeats 2000000 in
theorem pileBack_walk (most : Int) (f l : Value) (xs ys : List Int) (w : World) (hf : RdI w f xs) (hl : RdI w l ys) :
    Calls Try.prog 3 #[.int .i64 most, f, l] w fun e w' => e = .returned (.bool true) ∧ Chg No w w' := by
  obtain ⟨fo, fc, rfl, _⟩ := id hf
  obtain ⟨lo, lc, rfl, _⟩ := id hl
  obtain ⟨_, hf1, hf2, _⟩ := RdI.cells hf
  obtain ⟨_, hl1, hl2, _⟩ := RdI.cells hl
  unfold maxLen at hf2 hl2
  have HF := Lib.hid hf
  have HL := Lib.hid hl
  clear hf hl
  by_cases h1 : xs.length ≤ 60 ∧ ys.length ≤ 60
  · obtain ⟨h1, h2⟩ := h1
    obtain ⟨M, hM⟩ : ∃ M : Nat, (M : Int) = min (max most 0) 1000 := ⟨(min (max most 0) 1000).toNat, by omega⟩
    have HM := Lib.hid hM
    clear hM
    go_enter Try.func3, Try.ntmps3
    go_wp2_with (go_at_call 13; refine (alive5_any _).mono ?_; rintro e w1 ⟨rfl, hc1⟩)
    refine (new_any most M _ xs _ (HF.out.old hc1) (Fits.of (by omega)) HM.out).mono ?_
    intro e w2 hnew
    obtain ⟨b, rfl, ho⟩ := Our.new (w0 := w) hnew hc1
    have HO := Lib.hid ho
    obtain ⟨zs, hzs⟩ : ∃ zs, zs = xs.take M := ⟨_, rfl⟩
    rw [← hzs] at HO
    have hz1 : zs.length ≤ 60 := by rw [hzs, List.length_take]; omega
    have hz2 := Lib.hid (show zs.length = min M xs.length by rw [hzs, List.length_take])
    clear hnew ho hzs hc1 HF
    go_wp2_with fail
    refine (all_our w _ b M zs _ HO.out).mono ?_
    rintro e w3 ⟨ao, ac, rfl, hr3, ho3, hn3, hc3⟩
    have HO3 := Lib.hid ho3
    have HR3 := Lib.hid hr3
    have hn3' : ∀ k, (Value.slice ao zs.length ac).ownBlock = some k → ¬ More No w1 w2 k := fun k hk hF => by have h1 := hn3 k hk; have h2 := (HO.out.lt (k := k) hF).2; omega
    have HN3 := Lib.hid hn3'
    have HF3 := Lib.hid hn3
    clear hn3'
    clear hr3 ho3 hn3 hc3 HO
    go_wp2_with fail
    refine (push_our w _ b _ M zs ys _ HO3.out (HL.out.old HO3.out.chg)).mono ?_
    rintro e w4 ⟨rfl, ho4, hc4⟩
    have HR4 := Lib.hid (HR3.out.chg hc4 HN3.out)
    by_cases hroom : zs.length + ys.length ≤ M
    · rw [decide_eq_true hroom]
      rw [if_pos hroom] at ho4
      have HO4 := Lib.hid ho4
      clear ho4 hc4 HR3 HO3
      go_wp2_with fail
      refine (pop_our w _ b M (zs ++ ys) ys.length _ HO4.out (by rw [List.length_append]; omega)).mono ?_
      rw [show (zs ++ ys).length - ys.length = zs.length from by rw [List.length_append]; omega, List.drop_left, List.take_left]
      rintro e w5 ⟨po, len, pc, rfl, rfl, hr5, ho5, hn5, hc5⟩
      have HO5 := Lib.hid ho5
      have HR5 := Lib.hid hr5
      have HL5 := Lib.hid (HL.out.old ho5.chg)
      have HR4' := Lib.hid (HR4.out.chg hc5 (fun k hk hF => by
        rcases hF with hF | hF
        · exact HN3.out k hk hF
        · have := HF3.out k hk; omega))
      clear ho5 hr5 hn5 hc5 HO4 HL HN3 HF3
      go_wp2_with fail
      refine (sameInts_any _ _ ys ys _ HR5.out HL5.out).mono ?_
      rintro e w6 ⟨rfl, n6, rfl⟩
      rw [decide_eq_true rfl]
      go_wp2_with fail
      refine (all_our w _ b M zs _ (HO5.out.qt (Qt.drewN _ _))).mono ?_
      rintro e w7 ⟨qo, qc, rfl, hr7, ho7, hn7, hc7⟩
      have HO7 := Lib.hid ho7
      have HR7 := Lib.hid hr7
      have HR8 := Lib.hid (HR4'.out.no ((Chg.drewN No _ n6).trans hc7 (fun _ _ h => h) (fun _ _ h => h)))
      clear ho7 hr7 hn7 hc7 HO5 HR4 HR4'
      go_wp2_with fail
      refine (sameInts_any _ _ zs zs _ HR7.out HR8.out).mono ?_
      rintro e w6 ⟨rfl, n7, rfl⟩
      rw [decide_eq_true rfl]
      go_wp2
      go_ret
      exact ⟨rfl, HO7.out.chg.later (Chg.drewN No _ _) (fun _ h => h.elim)⟩
    · rw [decide_eq_false hroom]
      rw [if_neg hroom] at ho4
      have HO4 := Lib.hid ho4
      have hmost : most < zs.length + ys.length := by have h1 := HM.out; have h2 := hz2.out; omega
      clear ho4 hc4 HR3 HN3 HO3 hroom
      go_wp2_with fail
      refine (all_our w _ b M zs _ HO4.out).mono ?_
      rintro e w7 ⟨qo, qc, rfl, hr7, ho7, hn7, hc7⟩
      have HO7 := Lib.hid ho7
      have HR7 := Lib.hid hr7
      have HR8 := Lib.hid (HR4.out.no hc7)
      clear ho7 hr7 hn7 hc7 HO4 HR4
      go_wp2_with fail
      refine (sameInts_any _ _ zs zs _ HR7.out HR8.out).mono ?_
      rintro e w6 ⟨rfl, n6, rfl⟩
      rw [decide_eq_true rfl]
      go_wp2
      go_ret
      exact ⟨rfl, HO7.out.chg.later (Chg.drewN No _ _) (fun _ h => h.elim)⟩
  · have hc : 60 < xs.length ∨ (xs.length ≤ 60 ∧ 60 < ys.length) := by omega
    clear h1
    rcases hc with h1 | ⟨h1, h2⟩
    all_goals
      go_enter Try.func3, Try.ntmps3
      go_wp2_with (go_at_call 13; refine (alive5_any _).mono ?_; rintro e w1 ⟨rfl, hc1⟩)
      go_ret
      exact ⟨rfl, by assumption⟩
end Go.Proofs.Ytaikagkakajdfaa
