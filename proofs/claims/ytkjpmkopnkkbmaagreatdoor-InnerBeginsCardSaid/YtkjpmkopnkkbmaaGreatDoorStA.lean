/- Machines in memory; inner.Copy. -/
import Derived.Test.YtkjpmkopnkkbmaaGreatDoorEvV
import Derived.Test.YtkjpmkopnkkbmaaGreatDoorIntE
import Derived.Test.YtkjpmkopnkkbmaaGreatDoorWr
import Derived.Test.YtkjpmkopnkkbmaaGreatDoorSet1
import Derived.Test.YtkjpmkopnkkbmaaGreatDoorShInner
import Derived.Test.YtkjpmkopnkkbmaaGreatDoorShDigits
import Derived.Test.YtkjpmkopnkkbmaaGreatDoorShSlices
import Derived.Lib.ConvBytes
import Derived.Laws.IdiomStrings
import Derived.Laws.MakeOwn
import Derived.Lib.BufferWrite
set_option maxRecDepth 100000
namespace Go.Proofs.YtkjpmkopnkkbmaaGreatDoor
open Go.RowKit

theorem trN {x y z : World} (h : Chg No x y) (k : Chg No y z) : Chg No x z := h.trans k (fun _ _ h => h) (fun _ _ h => h)
theorem wr_in {x : Int} (h : -9223372036854775808 ≤ x ∧ x ≤ 9223372036854775807) : wr x = x := wr_of h.1 h.2
theorem add0 (q : Addr) : q.add 0 = q := by unfold Addr.add; simp
theorem sl1 (s : Sl) : s.val.oneCell' = true := by rw [val_eq]; rfl
/-- A machine in memory. -/
structure StC where
  ip : Int
  handler : Int
  stack : Sl
  back : Sl
  mem : Sl
  out : ByteArray
  inp : ByteArray
  read : Int
  status : Int
  code : Int
def stC (s : StC) : List Value := [.int .i64 s.ip, .int .i64 s.handler, s.stack.val, s.back.val, s.mem.val, .string s.out, .string s.inp, .int .i64 s.read, .int .i64 s.status, .int .i64 s.code]
def st0 : StC := ⟨0, 0, nilS, nilS, nilS, bs [], bs [], 0, 0, 0⟩
def StNums (S : StC) (s : StV) : Prop := S.ip = s.ip ∧ S.handler = s.handler ∧ S.out = s.out ∧ S.inp = s.inp ∧ S.read = s.read ∧ S.status = s.status ∧ S.code = s.code
/-- S says s; its lists lie in blocks of D. -/
structure StIs (D : Nat → Prop) (w : World) (S : StC) (s : StV) : Prop where
  nums : StNums S s
  st : Rd intE w S.stack s.stack
  bk : Rd intE w S.back s.back
  me : Rd intE w S.mem s.mem
  stD : ∀ k, S.stack.blk = some k → D k
  bkD : ∀ k, S.back.blk = some k → D k
  meD : ∀ k, S.mem.blk = some k → D k
theorem StIs.chg {D S' : Nat → Prop} {w w' : World} {S : StC} {s : StV} (h : StIs D w S s) (c : Chg S' w w') (hS : ∀ k, D k → ¬ S' k) : StIs D w' S s :=
  ⟨h.nums, h.st.chg c (fun k hk => hS _ (h.stD k hk)), h.bk.chg c (fun k hk => hS _ (h.bkD k hk)), h.me.chg c (fun k hk => hS _ (h.meD k hk)), h.stD, h.bkD, h.meD⟩
theorem StIs.no {D : Nat → Prop} {w w' : World} {S : StC} {s : StV} (h : StIs D w S s) (c : Chg No w w') : StIs D w' S s := h.chg c (fun _ _ h => h)
/-- S says s; its lists are its own, each in a block of its own, of D. -/
structure StOw (D : Nat → Prop) (w : World) (S : StC) (s : StV) : Prop where
  nums : StNums S s
  st : Ow intE w S.stack s.stack
  bk : Ow intE w S.back s.back
  me : Ow intE w S.mem s.mem
  stD : ∀ k, S.stack.blk = some k → D k
  bkD : ∀ k, S.back.blk = some k → D k ∧ S.stack.blk ≠ some k
  meD : ∀ k, S.mem.blk = some k → D k ∧ S.stack.blk ≠ some k ∧ S.back.blk ≠ some k
theorem StOw.is {D : Nat → Prop} {w : World} {S : StC} {s : StV} (h : StOw D w S s) : StIs D w S s := ⟨h.nums, h.st.rd, h.bk.rd, h.me.rd, h.stD, fun k hk => (h.bkD k hk).1, fun k hk => (h.meD k hk).1⟩
theorem StOw.chg {D S' : Nat → Prop} {w w' : World} {S : StC} {s : StV} (h : StOw D w S s) (c : Chg S' w w') (hS : ∀ k, D k → ¬ S' k) : StOw D w' S s :=
  ⟨h.nums, h.st.chg c (fun k hk => hS _ (h.stD k hk)), h.bk.chg c (fun k hk => hS _ (h.bkD k hk).1), h.me.chg c (fun k hk => hS _ (h.meD k hk).1), h.stD, h.bkD, h.meD⟩
theorem StOw.no {D : Nat → Prop} {w w' : World} {S : StC} {s : StV} (h : StOw D w S s) (c : Chg No w w') : StOw D w' S s := h.chg c (fun _ _ h => h)
/-- A block laid out anew, and written whole. -/
theorem newOb {w w1 w2 : World} {b : Nat} {T : TypeId} (zs vs : List Value) (hl : zs.length = vs.length) (hb : b = w.heap.size) (hw : w1 = World.alloc w (.cells zs.toArray T)) : wrOk w1 ⟨b, 0, none⟩ vs.length ∧ (w2 = stW w1 ⟨b, 0, none⟩ 0 vs → Ob w2 b vs T ∧ Chg No w w2) := by
  have ho : Ob w1 b zs T := by rw [hw, hb]; exact Ob.new w zs T
  have hc : Chg No w w1 := by rw [hw]; exact Chg.alloc _ _ _
  refine ⟨ho.wr (by omega), fun h2 => ⟨?_, ?_⟩⟩
  · have := Ob.st (vs := vs) (k := 0) (i := 0) ho
    rw [show wrL zs (0 + 0) vs = vs from wrL_whole hl] at this
    rw [h2]; exact this
  · rw [h2]
    exact hc.trans (Chg.st (S := fun k => k = b) rfl) (fun _ _ h => h) (fun k hk he => by subst he; omega)
theorem al {w w' : World} {o : Obj} (hw : w' = World.alloc w o) : Chg No w w' := by rw [hw]; exact Chg.alloc _ _ _
theorem dw {w w' : World} (hw : w' = World.drew w) : Chg No w w' := by rw [hw]; exact Chg.drew _ _
theorem st1 {w w' : World} {p : Addr} {vs : List Value} (hw : w' = stW w p 0 vs) : Chg (fun k => k = p.block) w w' := by rw [hw]; exact Chg.st (S := fun k => k = p.block) rfl
/-- A block with some cells written. -/
theorem Ob.up {w w' : World} {b k : Nat} {cs vs cs' : List Value} {T : TypeId} (h : Ob w b cs T) (hl : k + vs.length ≤ cs.length) (hc : wrL cs k vs = cs') (hw : w' = stW w ⟨b, k, none⟩ 0 vs) : Ob w' b cs' T ∧ Chg (fun j => j = b) w w' := by
  refine ⟨?_, by rw [hw]; exact Chg.st (S := fun j => j = b) rfl⟩
  have := Ob.st (vs := vs) (k := k) (i := 0) h
  rw [hw, ← hc]; exact this

/-! ### inner.Copy -/
theorem icopy_any {D : Nat → Prop} {w : World} (S : StC) {s : StV} (h : StIs D w S s) (h1 : s.stack.length ≤ 1000000) (h2 : s.back.length ≤ 1000000) (h3 : s.mem.length ≤ 1000000) :
    Calls Tryz.prog fn_inner_Copy #[.agg (stC S).toArray] w fun e w' => ∃ S' : StC, e = .returned (.agg (stC S').toArray) ∧ StOw (fun k => w.heap.size ≤ k ∧ k < w'.heap.size) w' S' s ∧ Chg No w w' := by
  refine (inner_Copy_lift (K := fun v w' => ∃ S' : StC, v = .agg (stC S').toArray ∧ StOw (fun k => w.heap.size ≤ k ∧ k < w'.heap.size) w' S' s ∧ Chg No w w') ?_).mono (by rintro e w' ⟨v, rfl, n, rfl, h⟩; exact ⟨n, rfl, h⟩)
  unfold inner_Copy_sh
  intro b11 w12 hb11 hw12 b13 w14 hb13 hw14 w15 hw15
  have o12 : Ob w12 b11 (stC S) T_api_State := by rw [hw12, hb11]; exact Ob.new w (stC S) T_api_State
  have c12 := al hw12
  have c14 := al hw14
  have c15 := dw hw15
  have o14 : Ob w14 b13 (stC st0) T_api_State := by rw [hw14, hb13]; exact Ob.new w12 (stC st0) T_api_State
  have z12 : w12.heap.size = w.heap.size + 1 := by rw [hw12]; simp
  have z14 : w14.heap.size = w12.heap.size + 1 := by rw [hw14]; simp
  have z15 := c15.size
  have o15 := (o12.no c14).no c15
  have h15 := h.no (trN (trN c12 c14) c15)
  have hs : ∀ {w' : World}, Chg No w15 w' → Ob w' b11 (stC S) T_api_State := fun c => o15.no c
  refine ⟨fun w' => Chg No w15 w', Chg.refl _ _, S.stack, Ob.held (fun w' c => hs c) rfl, S.back, Ob.held (fun w' c => hs c) rfl, S.mem, Ob.held (fun w' c => hs c) rfl, ?_⟩
  refine (clone_ints h15.st (by omega)).mono ?_
  rintro e w21 ⟨s22, rfl, g22, c21, b22, _⟩
  refine ⟨s22, rfl, c21, ?_⟩
  refine (clone_ints (h15.no c21).bk (by omega)).mono ?_
  rintro e w24 ⟨s25, rfl, g25, c24, b25, _⟩
  refine ⟨s25, rfl, trN c21 c24, ?_⟩
  refine (clone_ints (h15.no (trN c21 c24)).me (by omega)).mono ?_
  rintro e w27 ⟨s28, rfl, g28, c27, b28, _⟩
  have k27 := trN (trN c21 c24) c27
  have z21 := c21.size
  have z24 := c24.size
  have z27 := c27.size
  have o27 := hs k27
  refine ⟨s28, rfl, k27, o27.wr (by simp [stC]), fun w29 hw29 => ?_⟩
  obtain ⟨o29, c29⟩ := o27.up (k := 2) (vs := [s22.val]) (cs' := stC { S with stack := s22 }) (by simp [stC]) rfl hw29
  refine ⟨o29.wr (by simp [stC]), fun w30 hw30 => ?_⟩
  obtain ⟨o30, c30⟩ := o29.up (k := 3) (vs := [s25.val]) (cs' := stC { S with stack := s22, back := s25 }) (by simp [stC]) rfl hw30
  refine ⟨o30.wr (by simp [stC]), fun w31 hw31 => ?_⟩
  obtain ⟨o31, c31⟩ := o30.up (k := 4) (vs := [s28.val]) (cs' := stC { S with stack := s22, back := s25, mem := s28 }) (by simp [stC]) rfl hw31
  refine ⟨_, _, _, _, _, _, _, _, _, _, o31.cell rfl, o31.cell rfl, o31.cell rfl, o31.cell rfl, o31.cell rfl, o31.cell rfl, o31.cell rfl, o31.cell rfl, o31.cell rfl, o31.cell rfl, ?_⟩
  have k31 : Chg (fun j => j = b11) w27 w31 := (c29.trans c30 (fun _ _ h => h) (fun _ _ h => h)).trans c31 (fun _ _ h => h) (fun _ _ h => h)
  have o31' : Ob w31 b13 (stC st0) T_api_State := (((o14.no c15).no k27)).chg k31 (fun e => by omega)
  refine ⟨o31'.wr (by simp [stC]), fun w42 hw42 => ?_⟩
  obtain ⟨o42, c42⟩ := o31'.up (k := 0) (vs := stC { S with stack := s22, back := s25, mem := s28 }) (cs' := stC { S with stack := s22, back := s25, mem := s28 }) (by simp [stC]) rfl hw42
  have k42 : Chg (fun j => j = b11 ∨ j = b13) w27 w42 := k31.trans c42 (fun _ _ h => Or.inl h) (fun _ _ h => Or.inr h)
  have z42 := k42.size
  refine ⟨_, _, _, _, _, _, _, _, _, _, o42.cell rfl, o42.cell rfl, o42.cell rfl, o42.cell rfl, o42.cell rfl, o42.cell rfl, o42.cell rfl, o42.cell rfl, o42.cell rfl, o42.cell rfl, { S with stack := s22, back := s25, mem := s28 }, rfl, ?_, ?_⟩
  · have l22 := fun k hk => g22.lt (k := k) hk
    have l25 := fun k hk => g25.lt (k := k) hk
    have l28 := fun k hk => g28.lt (k := k) hk
    refine ⟨h.nums, ((g22.no c24).no c27).chg k42 (fun k hk he => ?_), (g25.no c27).chg k42 (fun k hk he => ?_), g28.chg k42 (fun k hk he => ?_), fun k hk => ?_, fun k hk => ⟨?_, fun he => ?_⟩, fun k hk => ⟨?_, fun he => ?_, fun he => ?_⟩⟩
    · have := b22 k hk; omega
    · have := b25 k hk; omega
    · have := b28 k hk; omega
    · have hk : s22.blk = some k := hk
      have := b22 k hk; have := l22 k hk; omega
    · have hk : s25.blk = some k := hk
      have := b25 k hk; have := l25 k hk; omega
    · have hk : s25.blk = some k := hk
      have he : s22.blk = some k := he
      have := b25 k hk; have := l22 k he; omega
    · have hk : s28.blk = some k := hk
      have := b28 k hk; have := l28 k hk; omega
    · have hk : s28.blk = some k := hk
      have he : s22.blk = some k := he
      have := b28 k hk; have := l22 k he; omega
    · have hk : s28.blk = some k := hk
      have he : s25.blk = some k := he
      have := b28 k hk; have := l25 k he; omega
  · exact (trN (trN (trN c12 c14) c15) k27).trans k42 (fun _ _ h => h) (fun k hk he => by omega)

/-! ### slices.Contains -/
end Go.Proofs.YtkjpmkopnkkbmaaGreatDoor
