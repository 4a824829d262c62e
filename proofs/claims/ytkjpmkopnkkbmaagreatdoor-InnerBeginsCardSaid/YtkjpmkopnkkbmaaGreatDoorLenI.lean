/- Machines whose lists have room behind them, in which a mark stands. -/
import Derived.Test.YtkjpmkopnkkbmaaGreatDoorLent
import Derived.Test.YtkjpmkopnkkbmaaGreatDoorMaY
set_option maxRecDepth 100000
namespace Go.Proofs.YtkjpmkopnkkbmaaGreatDoor
open Go.RowKit

structure StLent (D : Nat → Prop) (w : World) (S : StC) (s : StV) : Prop where
  nums : StNums S s
  st : Lent w S.stack s.stack
  bk : Lent w S.back s.back
  me : Lent w S.mem s.mem
  stD : ∀ k, S.stack.blk = some k → D k
  bkD : ∀ k, S.back.blk = some k → D k
  meD : ∀ k, S.mem.blk = some k → D k
theorem StLent.is {D : Nat → Prop} {w : World} {S : StC} {s : StV} (h : StLent D w S s) : StIs D w S s := ⟨h.nums, h.st.rd, h.bk.rd, h.me.rd, h.stD, h.bkD, h.meD⟩
theorem StLent.chg {D S' : Nat → Prop} {w w' : World} {S : StC} {s : StV} (h : StLent D w S s) (c : Chg S' w w') (hS : ∀ k, D k → ¬ S' k) : StLent D w' S s :=
  ⟨h.nums, h.st.chg c (fun k hk => hS _ (h.stD k hk)), h.bk.chg c (fun k hk => hS _ (h.bkD k hk)), h.me.chg c (fun k hk => hS _ (h.meD k hk)), h.stD, h.bkD, h.meD⟩
theorem StLent.no {D : Nat → Prop} {w w' : World} {S : StC} {s : StV} (h : StLent D w S s) (c : Chg No w w') : StLent D w' S s := h.chg c (fun _ _ h => h)
theorem lentState_any {D : Nat → Prop} {w : World} (S : StC) {s : StV} (h : StIs D w S s) (h1 : s.stack.length ≤ 1000000) (h2 : s.back.length ≤ 1000000) (h3 : s.mem.length ≤ 1000000) : Calls Tryz.prog fn_hollowaybook_LentState #[.agg (stC S).toArray] w fun e w' => ∃ S' : StC, e = .returned (.agg (stC S').toArray) ∧ StLent (fun k => w.heap.size ≤ k ∧ k < w'.heap.size) w' S' s ∧ Chg No w w' := by
  refine (hollowaybook_LentState_lift (K := fun r w' => ∃ S' : StC, r = .agg (stC S').toArray ∧ StLent (fun k => w.heap.size ≤ k ∧ k < w'.heap.size) w' S' s ∧ Chg No w w') ?_).mono (by rintro e w' ⟨r, rfl, S', rfl, h⟩; exact ⟨S', rfl, h⟩)
  unfold hollowaybook_LentState_sh
  intro b11 w12 hb11 hw12 b13 w14 hb13 hw14
  have c12 := al hw12
  have c14 := al hw14
  have z12 : w12.heap.size = w.heap.size + 1 := by rw [hw12]; simp
  have z14 : w14.heap.size = w12.heap.size + 1 := by rw [hw14]; simp
  have o11 : Ob w14 b11 (stC S) T_api_State := by
    have : Ob w12 b11 (stC S) T_api_State := by rw [hw12, hb11]; exact Ob.new w (stC S) T_api_State
    exact this.no c14
  have o13 : Ob w14 b13 (stC st0) T_api_State := by rw [hw14, hb13]; exact Ob.new w12 (stC st0) T_api_State
  intro w15 hw15
  have c15 := dw hw15
  have k15 := trN (trN c12 c14) c15
  have z15 := c15.size
  have p11 := o11.no c15
  have p13 := o13.no c15
  have hd : ∀ {j : Nat} {u : Value}, (stC S)[j]? = some u → held (fun w' => Chg No w15 w') ⟨b11, j, none⟩ u := fun h => Ob.held (fun w' c => p11.no c) h
  refine ⟨fun w' => Chg No w15 w', Chg.refl _ _, S.stack, hd rfl, S.back, hd rfl, S.mem, hd rfl, ?_⟩
  refine (lentInts_any (h.st.no k15) h1).mono ?_
  rintro e w21 ⟨s22, rfl, g22, c21, n22⟩
  have k21 := trN k15 c21
  have z21 := c21.size
  refine ⟨s22, rfl, c21, ?_⟩
  refine (lentInts_any (h.bk.no k21) h2).mono ?_
  rintro e w24 ⟨s25, rfl, g25, c24, n25⟩
  have k24 := trN k21 c24
  have z24 := c24.size
  refine ⟨s25, rfl, trN c21 c24, ?_⟩
  refine (lentInts_any (h.me.no k24) h3).mono ?_
  rintro e w27 ⟨s28, rfl, g28, c27, n28⟩
  have k27 := trN k24 c27
  have z27 := c27.size
  have c1527 := trN (trN c21 c24) c27
  refine ⟨s28, rfl, c1527, (p11.no c1527).wr (by simp [stC]), fun w29 hw29 => ?_⟩
  obtain ⟨q11, d29⟩ := (p11.no c1527).up (k := 2) (vs := [s22.val]) (cs' := stC { S with stack := s22 }) (by simp [stC]) rfl hw29
  refine ⟨q11.wr (by simp [stC]), fun w30 hw30 => ?_⟩
  obtain ⟨q11, d30⟩ := q11.up (k := 3) (vs := [s25.val]) (cs' := stC { S with stack := s22, back := s25 }) (by simp [stC]) rfl hw30
  refine ⟨q11.wr (by simp [stC]), fun w31 hw31 => ?_⟩
  obtain ⟨q11, d31⟩ := q11.up (k := 4) (vs := [s28.val]) (cs' := stC { S with stack := s22, back := s25, mem := s28 }) (by simp [stC]) rfl hw31
  have d2731 : Chg (fun j => j = b11) w27 w31 := (d29.trans d30 (fun _ _ h => h) (fun _ _ h => h)).trans d31 (fun _ _ h => h) (fun _ _ h => h)
  have r13 := (p13.no c1527).chg d2731 (fun he => by omega)
  refine ⟨_, _, _, _, _, _, _, _, _, _, q11.cell rfl, q11.cell rfl, q11.cell rfl, q11.cell rfl, q11.cell rfl, q11.cell rfl, q11.cell rfl, q11.cell rfl, q11.cell rfl, q11.cell rfl, r13.wr (by simp [stC]), fun w42 hw42 => ?_⟩
  obtain ⟨r13, d42⟩ := r13.up (k := 0) (vs := stC { S with stack := s22, back := s25, mem := s28 }) (cs' := stC { S with stack := s22, back := s25, mem := s28 }) (by simp [stC]) rfl hw42
  have d2742 : Chg (fun j => j = b11 ∨ j = b13) w27 w42 := d2731.trans d42 (fun _ _ h => Or.inl h) (fun _ _ h => Or.inr h)
  have z42 := d2742.size
  have b22 : ∀ k, s22.blk = some k → w15.heap.size ≤ k ∧ k < w27.heap.size := fun k hk => by have := n22 k hk; omega
  have b25 : ∀ k, s25.blk = some k → w15.heap.size ≤ k ∧ k < w27.heap.size := fun k hk => by have := n25 k hk; omega
  have b28 : ∀ k, s28.blk = some k → w15.heap.size ≤ k ∧ k < w27.heap.size := fun k hk => by have := n28 k hk; omega
  have m : StLent (fun k => w15.heap.size ≤ k ∧ k < w27.heap.size) w27 { S with stack := s22, back := s25, mem := s28 } s :=
    ⟨h.nums, (g22.no c24).no c27, g25.no c27, g28, b22, b25, b28⟩
  have m' := m.chg d2742 (fun k hk he => by omega)
  refine ⟨_, _, _, _, _, _, _, _, _, _, r13.cell rfl, r13.cell rfl, r13.cell rfl, r13.cell rfl, r13.cell rfl, r13.cell rfl, r13.cell rfl, r13.cell rfl, r13.cell rfl, r13.cell rfl, { S with stack := s22, back := s25, mem := s28 }, rfl, ?_, k27.trans d2742 (fun _ _ h => h) (fun k hk he => by omega)⟩
  exact ⟨m'.nums, m'.st, m'.bk, m'.me, fun k hk => by have := m'.stD k hk; omega, fun k hk => by have := m'.bkD k hk; omega, fun k hk => by have := m'.meD k hk; omega⟩
theorem staysState_any {D D' : Nat → Prop} {w : World} (m S : StC) {s : StV} (hm : StLent D w m s) (h : StIs D' w S s) : Calls Tryz.prog fn_hollowaybook_StaysState #[.agg (stC m).toArray, .agg (stC S).toArray] w fun e w' => e = .returned (.bool true) ∧ Chg No w w' := by
  refine (hollowaybook_StaysState_lift (K := fun r w' => r = .bool true ∧ Chg No w w') ?_).mono (by rintro e w' ⟨r, rfl, rfl, h⟩; exact ⟨rfl, h⟩)
  unfold hollowaybook_StaysState_sh
  intro b21 w22 hb21 hw22 b23 w24 hb23 hw24
  have c22 := al hw22
  have c24 := al hw24
  have o21 : Ob w24 b21 (stC m) T_api_State := by
    have : Ob w22 b21 (stC m) T_api_State := by rw [hw22, hb21]; exact Ob.new w (stC m) T_api_State
    exact this.no c24
  have o23 : Ob w24 b23 (stC S) T_api_State := by rw [hw24, hb23]; exact Ob.new w22 (stC S) T_api_State
  have k24 := trN c22 c24
  refine ⟨_, _, _, _, _, _, _, _, _, _, o21.cell rfl, o21.cell rfl, o21.cell rfl, o21.cell rfl, o21.cell rfl, o21.cell rfl, o21.cell rfl, o21.cell rfl, o21.cell rfl, o21.cell rfl, ?_⟩
  refine ⟨_, _, _, _, _, _, _, _, _, _, o23.cell rfl, o23.cell rfl, o23.cell rfl, o23.cell rfl, o23.cell rfl, o23.cell rfl, o23.cell rfl, o23.cell rfl, o23.cell rfl, o23.cell rfl, (sameState_any m S (hm.no k24).is (h.no k24)).mono ?_⟩
  rintro e w46 ⟨rfl, c46⟩
  have k46 := trN k24 c46
  refine ⟨_, rfl, brB_t ⟨m.stack, (o21.no c46).cell rfl, S.stack, (o23.no c46).cell rfl, (staysInts_any (hm.no k46).st (h.no k46).st).mono ?_⟩⟩
  rintro e w51 ⟨rfl, c51⟩
  have k51 := trN k46 c51
  have d51 := trN c46 c51
  refine ⟨_, rfl, brB_t ⟨m.back, (o21.no d51).cell rfl, S.back, (o23.no d51).cell rfl, (staysInts_any (hm.no k51).bk (h.no k51).bk).mono ?_⟩⟩
  rintro e w56 ⟨rfl, c56⟩
  have k56 := trN k51 c56
  have d56 := trN d51 c56
  refine ⟨_, rfl, brB_t ⟨m.mem, (o21.no d56).cell rfl, S.mem, (o23.no d56).cell rfl, (staysInts_any (hm.no k56).me (h.no k56).me).mono ?_⟩⟩
  rintro e w61 ⟨rfl, c61⟩
  exact ⟨_, rfl, rfl, trN k56 c61⟩
end Go.Proofs.YtkjpmkopnkkbmaaGreatDoor
