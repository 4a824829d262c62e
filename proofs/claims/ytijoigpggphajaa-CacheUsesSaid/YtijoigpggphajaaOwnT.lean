/- cache.own: a trace with lists of its own. -/
import Derived.Test.YtijoigpggphajaaTr
import Derived.Test.YtijoigpggphajaaOps
set_option maxRecDepth 100000
namespace Go.Proofs.Ytijoigpggphajaa
open Go.RowKit

theorem Ow.lenOf {α : Type} {E : Enc α} {w : World} {s : Sl} {xs : List α} (h : Ow E w s xs) : s.len = xs.length := h.rd.len
theorem trC_put (t : Tr) (a b c : Sl) : wrL (wrL (wrL (trC t) 5 [a.val]) 6 [b.val]) 8 [c.val] = trC { t with ins := a, outs := b, cells := c } := rfl
theorem trC_whole (a b : Tr) : wrL (trC a) 0 (trC b) = trC b := wrL_whole rfl
theorem own_any (t : Tr) (v : TrV) (w : World) (D : Nat → Prop) (h : TrIs D w t v) (hsm : SmV v) : Calls Try.prog fn_cache_own #[.agg (trC t).toArray] w fun e w' => ∃ t' : Tr, e = .returned (.agg (trC t').toArray) ∧ TrIs (fun k => w.heap.size ≤ k ∧ k < w'.heap.size) w' t' v ∧ Chg No w w' := by
  refine (cache_own_lift (K := fun r w' => ∃ t' : Tr, r = .agg (trC t').toArray ∧ TrIs (fun k => w.heap.size ≤ k ∧ k < w'.heap.size) w' t' v ∧ Chg No w w') ?_).mono (by rintro e w' ⟨v, rfl, t', rfl, h⟩; exact ⟨t', rfl, h⟩)
  have tr : ∀ {x y z : World}, Chg No x y → Chg No y z → Chg No x z := fun h k => h.trans k (fun _ _ h => h) (fun _ _ h => h)
  unfold cache_own_sh
  intro b10 w11 hb10 hw11
  have ho11 : Ob w11 b10 (trC t) T_api_Trace := by rw [hw11, hb10]; exact Ob.new w (trC t) T_api_Trace
  have c11 : Chg No w w11 := by rw [hw11]; exact Chg.alloc _ _ _
  intro b12 w13 hb12 hw13
  have hz13 : Ob w13 b12 (trC tr0) T_api_Trace := by rw [hw13, hb12]; exact Ob.new w11 (trC tr0) T_api_Trace
  have c13 : Chg No w11 w13 := by rw [hw13]; exact Chg.alloc _ _ _
  intro w14 hw14
  have c14 : Chg No w13 w14 := by rw [hw14]; exact Chg.drew _ _
  have hz14 := hz13.no c14
  have ho14 := (ho11.no c13).no c14
  have cw14 := tr (tr c11 c13) c14
  have h14 := h.no cw14
  have hb10' : b10 < b12 := by rw [hb12]; exact ho11.lt
  have hlt12 := hz14.lt
  refine ⟨fun w' => Ob w' b10 (trC t) T_api_Trace, ho14, t.ins, fun w' hw' => hw'.cell rfl, t.outs, fun w' hw' => hw'.cell rfl, t.cells, fun w' hw' => hw'.cell rfl, ?_⟩
  refine (clone_ins h14.ins hsm.1).mono ?_
  rintro e w20 ⟨s21, rfl, h21, c20, f21⟩
  refine ⟨s21, rfl, ho14.no c20, ?_⟩
  refine (clone_outs (h14.no c20).outs hsm.2.1).mono ?_
  rintro e w23 ⟨s24, rfl, h24, c23, f24⟩
  refine ⟨s24, rfl, (ho14.no c20).no c23, ?_⟩
  refine (clone_ints ((h14.no c20).no c23).cells hsm.2.2).mono ?_
  rintro e w26 ⟨s27, rfl, h27, c26, f27, _⟩
  have ho26 := ((ho14.no c20).no c23).no c26
  have s14 := cw14.size
  have s20 := c20.size
  have s23 := c23.size
  have s26 := c26.size
  have l21 : ∀ k, s21.blk = some k → k < w20.heap.size := fun k hk => h21.lt hk
  have l24 : ∀ k, s24.blk = some k → k < w23.heap.size := fun k hk => h24.lt hk
  refine ⟨s27, rfl, ho26, ho26.wr (by simp [trC]), ?_⟩
  intro w28 hw28
  have ho28 := Ob.st (vs := [s21.val]) (k := 5) (i := 0) ho26
  rw [← hw28] at ho28
  have c28 : Chg (fun k => k = b10) w26 w28 := by rw [hw28]; exact Chg.st (S := fun k => k = b10) rfl
  refine ⟨ho28.wr (by simp [trC, wrL]), ?_⟩
  intro w29 hw29
  have ho29 := Ob.st (vs := [s24.val]) (k := 6) (i := 0) ho28
  rw [← hw29] at ho29
  have c29 : Chg (fun k => k = b10) w28 w29 := by rw [hw29]; exact Chg.st (S := fun k => k = b10) rfl
  refine ⟨ho29.wr (by simp [trC, wrL]), ?_⟩
  intro w30 hw30
  have ho30 := Ob.st (vs := [s27.val]) (k := 8) (i := 0) ho29
  rw [← hw30] at ho30
  have c30 : Chg (fun k => k = b10) w29 w30 := by rw [hw30]; exact Chg.st (S := fun k => k = b10) rfl
  obtain ⟨t1, ht1⟩ : ∃ t1 : Tr, t1 = { t with ins := s21, outs := s24, cells := s27 } := ⟨_, rfl⟩
  have hput := trC_put t s21 s24 s27
  rw [← ht1] at hput
  have ho30' : Ob w30 b10 (trC t1) T_api_Trace := by rw [← hput]; exact ho30
  have cb : Chg (fun k => k = b10) w26 w30 := (c28.trans c29 (fun _ _ h => h) (fun _ _ h => h)).trans c30 (fun _ _ h => h) (fun _ _ h => h)
  have cw26 := tr (tr (tr cw14 c20) c23) c26
  have cw30 : Chg No w w30 := cw26.trans cb (fun _ _ h => h) (fun k hk he => by omega)
  have s30 := cb.size
  have x24 : Ox ouE w30 s24 v.outs := (((h24.no c26).chg cb (fun k hk he => by have := f24 k hk; omega))).ox
  have x21 : Rd insE w30 s21 v.ins := (((h21.no c23).no c26).chg cb (fun k hk he => by have := f21 k hk; omega)).rd
  have x27 : Rd intE w30 s27 v.cells := (h27.chg cb (fun k hk he => by have := f27 k hk; omega)).rd
  have hz30 : Ob w30 b12 (trC tr0) T_api_Trace := (((hz14.no c20).no c23).no c26).chg cb (fun he => by omega)
  refine ⟨s24, by rw [ht1] at ho30'; exact ho30'.cell rfl, ?_⟩
  have hlen := h24.lenOf
  have hcap := h24.rd.capL
  refine ⟨fun n w' => ∃ k : Nat, n = k ∧ k ≤ v.outs.length ∧ Ob w' b10 (trC t1) T_api_Trace ∧ Ob w' b12 (trC tr0) T_api_Trace ∧ Ox ouE w' s24 v.outs ∧ Rd insE w' s21 v.ins ∧ Rd intE w' s27 v.cells ∧ Chg No w w' ∧ w30.heap.size ≤ w'.heap.size, fun n _ => v.outs.length - n.toNat, ⟨0, rfl, Nat.zero_le _, ho30', hz30, x24, x21, x27, cw30, Nat.le_refl _⟩, ?_⟩
  rintro n w32 ⟨k, rfl, hk, i10, i12, i24, i21, i27, cw, hsz⟩
  refine brB_of (fun hlt => ?_) (fun hlt => ?_)
  · have hlt : k < v.outs.length := by simp at hlt; omega
    intro w34 hw34
    have q34 : Chg No w32 w34 := by rw [hw34]; exact Chg.drew _ _
    obtain ⟨x, hx⟩ : ∃ x, v.outs[k]? = some x := ⟨_, List.getElem?_eq_getElem hlt⟩
    have hx' : v.outs[(k : Int).toNat]? = some x := by rw [Int.toNat_natCast]; exact hx
    have S10 := i10.no q34
    have S24 := i24.no q34
    have hcellA : ∀ y : World, Ob y b10 (trC t1) T_api_Trace → y.cell? ⟨b10, 6, none⟩ = some s24.val := fun y hy => by rw [ht1] at hy; exact hy.cell rfl
    refine ⟨fun w' => Ob w' b10 (trC t1) T_api_Trace ∧ Ox ouE w' s24 v.outs, ⟨S10, S24⟩, s24, fun w' hw' => hcellA w' hw'.1, s24, fun w' hw' => hcellA w' hw'.1, s24, fun w' hw' => hcellA w' hw'.1, ?_⟩
    refine S24.rd.ix (by omega) hx' fun a ha hcell => ?_
    have hat : ∀ y : World, Ox ouE y s24 v.outs → ∀ j u, (ouE.e x)[j]? = some u → y.cell? ((a.add ((k : Int).toNat * ouE.sz)).add j) = some u := by
      intro y hy j u hu
      obtain ⟨a', ha', hc⟩ := hy.rd.at hx
      rw [ha] at ha'; cases ha'
      rw [Int.toNat_natCast]; exact hc j u hu
    refine ⟨nilS, fun w' hw' => hat w' hw'.2 2 _ rfl, s24, fun w' hw' => hcellA w' hw'.1, a, ha, by omega, by omega, nilS, fun w' hw' => hat w' hw'.2 3 _ rfl, ?_⟩
    have S21 := i21.no q34
    have S27 := i27.no q34
    have S12 := i12.no q34
    refine (clone_ints (Rd.nil intE w34) (Nat.zero_le _)).mono ?_
    rintro e w45 ⟨s46, rfl, _, c45, _, n46⟩
    obtain rfl := n46 rfl
    refine ⟨nilS, rfl, ⟨S10.no c45, S24.no c45⟩, ?_⟩
    refine (clone_ints (Rd.nil intE w45) (Nat.zero_le _)).mono ?_
    rintro e w48 ⟨s49, rfl, _, c48, _, n49⟩
    obtain rfl := n49 rfl
    have T10 := (S10.no c45).no c48
    have T24 := (S24.no c45).no c48
    have T21 := (S21.no c45).no c48
    have T27 := (S27.no c45).no c48
    have T12 := (S12.no c45).no c48
    have cw48 : Chg No w w48 := tr (tr (tr cw q34) c45) c48
    have hsz48 : w30.heap.size ≤ w48.heap.size := by have := q34.size; have := c45.size; have := c48.size; omega
    refine ⟨nilS, rfl, ⟨T10, T24⟩, a, ha, by omega, by omega, ?_⟩
    have hbl : s24.blk = some a.block := blk_ptr ha
    have ne10 : a.block ≠ b10 := by have := f24 _ hbl; omega
    have ne12 : a.block ≠ b12 := by have := f24 _ hbl; omega
    have new24 : w.heap.size ≤ a.block := by have := f24 _ hbl; omega
    have again : ∀ (j : Nat) (y : World), j < 4 → (ouE.e x)[j]? = some nilS.val → Ob y b10 (trC t1) T_api_Trace → Ob y b12 (trC tr0) T_api_Trace → Ox ouE y s24 v.outs → Rd insE y s21 v.ins → Rd intE y s27 v.cells → Chg No w y → w30.heap.size ≤ y.heap.size →
        wrOk y ((a.add ((k : Int).toNat * 4)).add j) 1 ∧ ∀ z : World, z = stW y ((a.add ((k : Int).toNat * 4)).add j) 0 [nilS.val] → Ob z b10 (trC t1) T_api_Trace ∧ Ob z b12 (trC tr0) T_api_Trace ∧ Ox ouE z s24 v.outs ∧ Rd insE z s21 v.ins ∧ Rd intE z s27 v.cells ∧ Chg No w z ∧ w30.heap.size ≤ z.heap.size := by
      intro j y hj hu y10 y12 y24 y21 y27 cy sy
      have hcl := hat y y24 j _ hu
      have hcy : Chg (fun k => k = a.block) y (stW y ((a.add ((k : Int).toNat * 4)).add j) 0 [nilS.val]) := Chg.st (S := fun k => k = a.block) (by rw [add_block, add_block])
      refine ⟨?_, ?_⟩
      · intro i hi
        have hi0 : i = 0 := by omega
        subst hi0
        have e0 : ∀ q : Addr, q.add 0 = q := fun q => by unfold Addr.add; simp
        refine ⟨⟨_, by rw [e0]; exact hcl⟩, ?_⟩
        rw [e0, add_add, Int.toNat_natCast]
        have hcp := y24.rd.capL
        have hmul : (k + 1) * 4 ≤ s24.cap * 4 := Nat.mul_le_mul_right _ (by omega)
        refine ((y24.room a ha).2 _ ?_).2
        show k * 4 + j < s24.cap * 4
        omega
      · rintro z rfl
        refine ⟨y10.chg hcy (fun he => ne10 he.symm), y12.chg hcy (fun he => ne12 he.symm), y24.again hcl, ?_, ?_, cy.trans hcy (fun _ _ h => h) (fun i hi he => by omega), Nat.le_trans sy hcy.size⟩
        · refine y21.chg hcy (fun i hi he => ?_)
          have := l21 i hi; have := f24 _ hbl; omega
        · refine y27.chg hcy (fun i hi he => ?_)
          have := f27 i hi; have := l24 _ hbl; omega
    obtain ⟨g1, g2⟩ := again 2 w48 (by omega) rfl T10 T12 T24 T21 T27 cw48 hsz48
    refine ⟨g1, fun w51 hw51 => ?_⟩
    obtain ⟨U10, U12, U24, U21, U27, cw51, hs51⟩ := g2 w51 hw51
    obtain ⟨g3, g4⟩ := again 3 w51 (by omega) rfl U10 U12 U24 U21 U27 cw51 hs51
    refine ⟨⟨U10, U24⟩, a, ha, by omega, by omega, g3, fun w53 hw53 => ?_⟩
    obtain ⟨V10, V12, V24, V21, V27, cw53, hs53⟩ := g4 w53 hw53
    rw [wr_of (by omega) (by omega)]
    exact ⟨⟨k + 1, by omega, by omega, V10, V12, V24, V21, V27, cw53, hs53⟩, by show v.outs.length - Int.toNat ((k : Int) + 1) < v.outs.length - Int.toNat (k : Int); omega⟩
  · refine ⟨t1.start, t1.slots, t1.backs, t1.grow, t1.growBack, t1.ins, t1.outs, t1.last, t1.cells, i10.cell rfl, i10.cell rfl, i10.cell rfl, i10.cell rfl, i10.cell rfl, i10.cell rfl, i10.cell rfl, i10.cell rfl, i10.cell rfl, i12.wr (by simp [trC]), ?_⟩
    intro w63 hw63
    have j12 : Ob w63 b12 (trC t1) T_api_Trace := by
      have := Ob.st (vs := trC t1) (k := 0) (i := 0) i12
      rw [trC_whole] at this
      rw [hw63]; exact this
    have c63 : Chg (fun k => k = b12) w32 w63 := by rw [hw63]; exact Chg.st (S := fun k => k = b12) rfl
    refine ⟨t1.start, t1.slots, t1.backs, t1.grow, t1.growBack, t1.ins, t1.outs, t1.last, t1.cells, j12.cell rfl, j12.cell rfl, j12.cell rfl, j12.cell rfl, j12.cell rfl, j12.cell rfl, j12.cell rfl, j12.cell rfl, j12.cell rfl, t1, rfl, ?_, ?_⟩
    · have s63 := c63.size
      have n1 := h.nums
      subst ht1
      refine ⟨n1, i21.chg c63 (fun i hi he => ?_), i24.rd.chg c63 (fun i hi he => ?_), i27.chg c63 (fun i hi he => ?_), fun i hi => ?_, fun i hi => ?_, fun i hi => ?_⟩
      · have := f21 i hi; omega
      · have := f24 i hi; omega
      · have := f27 i hi; omega
      · have := f21 i hi; have := l21 i hi; omega
      · have := f24 i hi; have := l24 i hi; omega
      · have := f27 i hi; have := h27.lt hi; omega
    · refine cw.trans c63 (fun _ _ h => h) (fun i hi he => by omega)
end Go.Proofs.Ytijoigpggphajaa
