/- The contracts of the package pile, continued: Pop. -/
import Derived.Test.YtaikagkakajdfaaPile
namespace Go.Proofs.Ytaikagkakajdfaa
open Go.RowKit

theorem RdI.tail0 {w : World} {ao : Option Addr} {n cap m : Nat} {xs : List Int} (h : RdI w (.slice ao n cap) xs) (hm : m ≤ xs.length) (hc : cap = m) : RdI w (.slice ao (xs.length - m) 0) (xs.drop m) := by
  obtain ⟨rfl, _⟩ := h.cells
  have := (RdC.tail (size := 1) h (by rw [is_length, Nat.mul_one]) hm).1 hc
  unfold RdI
  rw [List.length_drop, show is (xs.drop m) = (is xs).drop (m * 1) from by simp [is]]
  exact this
theorem RdI.tail1 {w : World} {ao : Option Addr} {n cap m : Nat} {xs : List Int} (h : RdI w (.slice ao n cap) xs) (hm : m ≤ xs.length) (hc : ¬ cap = m) : RdI w (.slice (ao.map (·.add m)) (xs.length - m) (cap - m)) (xs.drop m) := by
  obtain ⟨rfl, _⟩ := h.cells
  have := (RdC.tail (size := 1) h (by rw [is_length, Nat.mul_one]) hm).2 rfl hc
  unfold RdI
  rw [List.length_drop, show is (xs.drop m) = (is xs).drop m from by simp [is]]
  exact this
theorem OwnI.cut {w : World} {ao : Option Addr} {n cap m : Nat} {xs : List Int} (h : OwnI w (.slice ao n cap) xs) (hm : m ≤ xs.length) : OwnI w (.slice ao m cap) (xs.take m) := by
  obtain ⟨rfl, _⟩ := h.rd.cells
  have := Own.cut (m := m) h hm
  unfold OwnI
  rw [List.length_take, Nat.min_eq_left hm, ← is_take]
  simpa using this
/-- The topmost cells are taken: the answer is new. -/
def Popped (b : Nat) (v : Value) (most : Nat) (xs out : List Int) (w : World) (e : Ending) (w' : World) : Prop :=
  ∃ ao cap, e = .returned (.tuple #[.slice ao out.length cap, .bool true]) ∧ OwnI w' (.slice ao out.length cap) out ∧ (∀ k, (Value.slice ao out.length cap).ownBlock = some k → w.heap.size ≤ k) ∧
    PileAt w' b v most xs ∧ Chg (fun k => k = b) w w'

theorem Popped.stored {w w1 : World} {b n vc m : Nat} {vo ao : Option Addr} {cap most : Nat} {xs ys zs : List Int} (h : PileAt w b (.slice vo n vc) most xs) (hc : Chg No w w1) (ho : OwnI w1 (.slice ao ys.length cap) ys)
    (hn : ∀ k, (Value.slice ao ys.length cap).ownBlock = some k → w.heap.size ≤ k) (hz : OwnI w (.slice vo m vc) zs) (hl : zs.length ≤ most) :
    ∃ v', Popped b v' most zs ys w (.returned (.tuple #[.slice ao ys.length cap, .bool true])) (w1.setCell ⟨b, 1, none⟩ (.slice vo m vc)) ∧ v'.ownBlock = (Value.slice vo n vc).ownBlock := by
  have hrow := hc.row h.1 (fun h => h)
  have hne : (Value.slice vo m vc).ownBlock ≠ some b := by rw [own_block vo m vc n vc]; exact h.2.2.1
  refine ⟨.slice vo m vc, ⟨ao, cap, rfl, ho.chg (Chg.setCell (S := fun k => k = b) _ _ _ (Or.inl rfl)) (fun k hk e => ?_), hn, ⟨row_setCell hrow, ?_, hne, hl, h.2.2.2.2⟩, ?_⟩, own_block _ _ _ _ _⟩
  · have h1 := hn k hk; have h2 := h.lt; omega
  · exact (hz.no hc).chg (Chg.setCell (S := fun k => k = b) _ _ _ (Or.inl rfl)) (fun k hk e => hne (by subst e; exact hk))
  · exact hc.trans (Chg.setCell (S := fun k => k = b) _ _ _ (Or.inl rfl)) (fun _ _ h => h.elim) (fun _ _ h => h)

set_option maxRecDepth 100000 in
set_option maxHeartbeats 1000000 in
theorem pop_no (b : Nat) (v : Value) (most : Nat) (xs : List Int) (n : Int) (w : World) (h : PileAt w b v most xs) (hn : n < 0 ∨ (xs.length : Int) < n) :
    Calls Try.prog 18 #[.pointer (some ⟨b, 0, none⟩), .int .i64 n] w fun e w' => e = .returned (.tuple #[.slice none 0 0, .bool false]) ∧ w = w' := by
  obtain ⟨vo, vc, rfl⟩ := Own.form h.2.1
  have c1 := h.c1
  clear h
  rcases hn with hn | hn
  · go_enter Try.func18, Try.ntmps18
    go_wp2
    go_ret2
    exact ⟨rfl, rfl⟩
  · have hn0 : 0 ≤ n := by omega
    go_enter Try.func18, Try.ntmps18
    go_wp2
    go_ret2
    exact ⟨rfl, rfl⟩

set_option maxRecDepth 100000 in
set_option maxHeartbeats 1000000 in
theorem pop_yes (b : Nat) (v : Value) (most : Nat) (xs : List Int) (n : Nat) (w : World) (h : PileAt w b v most xs) (hn : n ≤ xs.length) :
    Calls Try.prog 18 #[.pointer (some ⟨b, 0, none⟩), .int .i64 n] w fun e w' => ∃ v', Popped b v' most (xs.take (xs.length - n)) (xs.drop (xs.length - n)) w e w' ∧ v'.ownBlock = v.ownBlock := by
  obtain ⟨vo, vc, rfl⟩ := Own.form h.2.1
  have hm1 := h.2.2.2.1
  have hm2 := h.2.2.2.2
  have c1 := h.c1
  have H := Lib.hid h
  have hm : xs.length - n ≤ xs.length := Nat.sub_le _ _
  have hvl : xs.length ≤ vc := (RdI.cells h.2.1.rd).2.1
  have e1 : xs.length - (xs.length - n) = n := by omega
  have HT0 := Lib.hid (fun hc => RdI.tail0 h.2.1.rd hm hc)
  have HT1 := Lib.hid (fun hc => RdI.tail1 h.2.1.rd hm hc)
  have HCUT := Lib.hid (OwnI.cut h.2.1 hm)
  rw [e1] at HT0 HT1
  obtain ⟨ys, hys⟩ : ∃ ys, ys = xs.drop (xs.length - n) := ⟨_, rfl⟩
  have hyl : ys.length = n := by rw [hys, List.length_drop, e1]
  rw [← hys] at HT0 HT1 ⊢
  obtain ⟨zs, hzs⟩ : ∃ zs, zs = xs.take (xs.length - n) := ⟨_, rfl⟩
  have hzl : zs.length ≤ most := by rw [hzs, List.length_take]; omega
  rw [← hzs] at HCUT ⊢
  clear hys hzs h hm
  have HYL := Lib.hid hyl
  have E1 := Lib.hid e1
  clear hyl e1
  by_cases hvc : vc = xs.length - n
  · subst hvc
    have hr := HT0.out rfl
    rw [show Value.slice vo n 0 = Value.slice vo 0 0 from by rw [show n = 0 from by omega]] at hr
    clear HT0 HT1
    go_enter Try.func18, Try.ntmps18
    go_wp2_with fail
    refine (clone_ints _ ys _ hr (Fits.of (by rw [HYL.out]; omega))).mono ?_
    rintro e w1 ⟨ao, cap, rfl, hown, hchg, hnew⟩
    have hrow := hchg.row H.out.1 (fun h => h)
    have d1 : w1.cell? ⟨b, 1, none⟩ = some (.slice vo xs.length (xs.length - n)) := by simp [World.cell?, hrow]
    have g1 : w1.frozen? ⟨b, 1, none⟩ = false := by simp [World.frozen?, hrow]
    have HP := Lib.hid (Popped.stored H.out hchg hown hnew HCUT.out hzl)
    clear hchg hnew hown hrow c1 hr
    go_wp2
    go_ret2
    exact HP.out
  · have hr := HT1.out hvc
    clear HT0 HT1
    go_enter Try.func18, Try.ntmps18
    go_wp2_with fail
    rw [E1.out]
    refine (clone_ints _ ys _ hr (Fits.of (by rw [HYL.out]; omega))).mono ?_
    rintro e w1 ⟨ao, cap, rfl, hown, hchg, hnew⟩
    have hrow := hchg.row H.out.1 (fun h => h)
    have d1 : w1.cell? ⟨b, 1, none⟩ = some (.slice vo xs.length vc) := by simp [World.cell?, hrow]
    have g1 : w1.frozen? ⟨b, 1, none⟩ = false := by simp [World.frozen?, hrow]
    have HP := Lib.hid (Popped.stored H.out hchg hown hnew HCUT.out hzl)
    clear hchg hnew hown hrow c1 hr
    go_wp2
    go_ret2
    exact HP.out

theorem place_no (b : Nat) (v : Value) (most : Nat) (xs : List Int) (n : Int) (w : World) (h : PileAt w b v most xs) (hn : n < 0 ∨ (xs.length : Int) ≤ n) :
    Calls Try.prog 42 #[.pointer (some ⟨b, 0, none⟩), .int .i64 n] w fun e w' => e = .returned (.int .i64 (-1)) ∧ w = w' := by
  obtain ⟨vo, vc, rfl⟩ := Own.form h.2.1
  have c1 := h.c1
  clear h
  rcases hn with hn | hn
  · go_enter Try.func42, Try.ntmps42
    go_wp2
    go_ret
    exact ⟨rfl, rfl⟩
  · have hn0 : 0 ≤ n := by omega
    go_enter Try.func42, Try.ntmps42
    go_wp2
    go_ret
    exact ⟨rfl, rfl⟩

theorem place_yes (b : Nat) (v : Value) (most : Nat) (xs : List Int) (n : Nat) (w : World) (h : PileAt w b v most xs) (hn : n < xs.length) :
    Calls Try.prog 42 #[.pointer (some ⟨b, 0, none⟩), .int .i64 n] w fun e w' => e = .returned (.int .i64 (xs.length - 1 - n)) ∧ w = w' := by
  obtain ⟨vo, vc, rfl⟩ := Own.form h.2.1
  have c1 := h.c1
  have hm1 := h.2.2.2.1
  have hm2 := h.2.2.2.2
  have hn0 : (0 : Int) ≤ n := by omega
  clear h
  go_enter Try.func42, Try.ntmps42
  go_wp2
  go_ret
  exact ⟨rfl, rfl⟩

theorem place_nil (n : Int) (w : World) :
    Calls Try.prog 42 #[.pointer none, .int .i64 n] w fun e w' => e = .returned (.int .i64 (-1)) ∧ w = w' := by
  go_enter Try.func42, Try.ntmps42
  go_wp2
  go_ret
  exact ⟨rfl, rfl⟩
end Go.Proofs.Ytaikagkakajdfaa
