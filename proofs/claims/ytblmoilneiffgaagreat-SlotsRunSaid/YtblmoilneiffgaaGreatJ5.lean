/- A trace's engine in memory: eval.Run. -/
import Derived.Test.YtblmoilneiffgaaGreatRows
import Derived.Test.YtblmoilneiffgaaGreatJ1
import Derived.Test.YtblmoilneiffgaaGreatJ3
import Derived.WalkKit
import Derived.WalkSpells
import Derived.WalkLawsBesides
import Derived.Handy
import Derived.Deep.Light
import Derived.Deep.QuietTactic
import Derived.BigQuiet
import Derived.Test.YtblmoilneiffgaaGreatJ4
import Derived.Test.YtblmoilneiffgaaGreatJ2
import Derived.Test.YtblmoilneiffgaaGreatJ9
import Derived.Lib.ConvBytes
import Derived.Laws.IdiomStrings
import Derived.Laws.MakeOwn
import Derived.Lib.BufferWrite

/- The contracts of the functions of the package cell. -/
namespace Go.Proofs.YtblmoilneiffgaaGreat
open Go.RowKit

set_option maxHeartbeats 400000 in
theorem flag_any (b : Bool) (w : World) :
    Calls Tryz.prog 149 #[.bool b] w fun e w' => e = .returned (.int .i64 (Cn.flag b)) ∧ w = w' := by
  cases b
  all_goals
    go_enter Tryz.func149, Tryz.ntmps149
    go_wp2
    go_ret
    exact ⟨rfl, rfl⟩

set_option maxHeartbeats 400000 in
theorem floor_any (a b : Int) (w : World) :
    Calls Tryz.prog 150 #[.int .i64 a, .int .i64 b] w fun e w' => e = .returned (.tuple #[.int .i64 (Cn.quo a b), .int .i64 (Cn.rem a b), .bool (b != 0)]) ∧ Qt w w' := by
  by_cases h0 : b = 0
  · subst h0
    go_enter Tryz.func150, Tryz.ntmps150
    go_wp2
    go_ret3
    exact ⟨rfl, Qt.refl _⟩
  by_cases h1 : b = -1
  · subst h1
    go_enter Tryz.func150, Tryz.ntmps150
    go_wp2
    go_ret3
    exact ⟨rfl, Qt.refl _⟩
  have e0 : (b == 0) = false := beq_eq_false_iff_ne.2 h0
  have e1 : (b == -1) = false := beq_eq_false_iff_ne.2 h1
  go_enter Tryz.func150, Tryz.ntmps150
  go_wp2
  go_quiet (fail)
  go_wp2
  all_goals
    go_ret3
    refine ⟨ret_iib ?_ ?_ ?_, Qt.drewN _ _⟩ <;> simp_all [Cn.quo, Cn.rem, Cn.odd]

set_option maxHeartbeats 400000 in
theorem shift_any (op a n : Int) (w : World) :
    Calls Tryz.prog 151 #[.int .i64 op, .int .i64 a, .int .i64 n] w fun e w' => e = .returned (.int .i64 (Cn.shift op a n)) ∧ w = w' := by
  go_enter Tryz.func151, Tryz.ntmps151
  go_wp2
  all_goals
    go_ret
    refine ⟨ret_i ?_, rfl⟩
  all_goals simp_all [Cn.shift]
  all_goals omega

set_option maxHeartbeats 400000 in
theorem compare_any (op a b : Int) (w : World) :
    Calls Tryz.prog 152 #[.int .i64 op, .int .i64 a, .int .i64 b] w fun e w' => e = .returned (.int .i64 (Cn.cmp op a b)) ∧ w = w' := by
  go_enter Tryz.func152, Tryz.ntmps152
  go_wp2_with (go_at_call 149; refine (flag_any _ _).mono ?_; rintro e w' ⟨rfl, rfl⟩)
  all_goals
    go_ret
    refine ⟨ret_i ?_, rfl⟩
  all_goals simp_all [Cn.cmp]

set_option maxHeartbeats 400000 in
theorem one_any (op a : Int) (w : World) :
    Calls Tryz.prog 145 #[.int .i64 op, .int .i64 a] w fun e w' => e = .returned (.tuple #[.int .i64 (Cn.one op a), .bool (Cn.isOne op)]) ∧ w = w' := by
  go_enter Tryz.func145, Tryz.ntmps145
  go_wp2_with (go_at_call 149; refine (flag_any _ _).mono ?_; rintro e w' ⟨rfl, rfl⟩)
  all_goals
    go_ret2
    refine ⟨ret_ib ?_ ?_, rfl⟩
  all_goals simp_all [Cn.one, Cn.isOne]

set_option maxHeartbeats 1000000 in
theorem two_any (op a b : Int) (w : World) :
    Calls Tryz.prog 146 #[.int .i64 op, .int .i64 a, .int .i64 b] w fun e w' => e = .returned (.tuple #[.int .i64 (Cn.two op a b), .bool (Cn.isTwo op b)]) ∧ Qt w w' := by
  go_enter Tryz.func146, Tryz.ntmps146
  go_wp2_with (first | (go_at_call 150; refine (floor_any _ _ _).mono ?_; rintro e w' ⟨rfl, n, rfl⟩) | (go_at_call 151; refine (shift_any _ _ _ _).mono ?_; rintro e w' ⟨rfl, rfl⟩) | (go_at_call 152; refine (compare_any _ _ _ _).mono ?_; rintro e w' ⟨rfl, rfl⟩))
  all_goals
    go_ret2
    refine ⟨ret_ib ?_ ?_, (by first | exact Qt.refl _ | exact Qt.drewN _ _)⟩
  all_goals go_light
  all_goals simp_all [Cn.two, Cn.isTwo]
  all_goals omega
end Go.Proofs.YtblmoilneiffgaaGreat

/- Machines and traces in memory; inner.Copy, digits.Put, slices.Contains, eval.May. -/
set_option maxRecDepth 100000
namespace Go.Proofs.YtblmoilneiffgaaGreat
open Go.RowKit

theorem trN {x y z : World} (h : Chg No x y) (k : Chg No y z) : Chg No x z := h.trans k (fun _ _ h => h) (fun _ _ h => h)
theorem wr_in {x : Int} (h : -9223372036854775808 ≤ x ∧ x ≤ 9223372036854775807) : wr x = x := wr_of h.1 h.2
theorem add0 (q : Addr) : q.add 0 = q := by unfold Addr.add; simp
theorem sl1 (s : Sl) : s.val.oneCell' = true := by rw [val_eq]; rfl
def insC (x : In5) : List Value := [.int .i64 x.a, .int .i64 x.b, .int .i64 x.c, .int .i64 x.d, .int .i64 x.e]
def insE : Enc In5 := ⟨T_api_Ins, 5, 40, insC, by intro x; rfl, by intro x u hu; simp [insC] at hu; rcases hu with rfl | rfl | rfl | rfl | rfl <;> rfl, by decide⟩
structure OuC where
  ip : Int
  steps : Int
  stack : Sl
  back : Sl
def ouC (x : OuC) : List Value := [.int .i64 x.ip, .int .i64 x.steps, x.stack.val, x.back.val]
def ouE : Enc OuC := ⟨T_api_Out, 4, 64, ouC, by intro x; rfl, by intro x u hu; simp [ouC] at hu; rcases hu with rfl | rfl | rfl | rfl <;> first | rfl | exact sl1 _, by decide⟩
structure TrP where
  start : Int
  slots : Int
  backs : Int
  grow : Int
  growBack : Int
  ins : Sl
  outs : Sl
  last : Int
  cells : Sl
def trP (t : TrP) : List Value := [.int .i64 t.start, .int .i64 t.slots, .int .i64 t.backs, .int .i64 t.grow, .int .i64 t.growBack, t.ins.val, t.outs.val, .int .i64 t.last, t.cells.val]
structure StC where
  ip : Int
  handler : Int
  stack : Sl
  back : Sl
  mem : Sl
  out : ByteArray
  inp : ByteArray
  read : Int
  status : Int
  code : Int
def stC (s : StC) : List Value := [.int .i64 s.ip, .int .i64 s.handler, s.stack.val, s.back.val, s.mem.val, .string s.out, .string s.inp, .int .i64 s.read, .int .i64 s.status, .int .i64 s.code]
def st0 : StC := ⟨0, 0, nilS, nilS, nilS, bs [], bs [], 0, 0, 0⟩
def OuIs (D : Nat → Prop) (w : World) (o : OuC) (v : OuV) : Prop := o.ip = v.ip ∧ o.steps = v.steps ∧ Rd intE w o.stack v.stack ∧ Rd intE w o.back v.back ∧ (∀ k, o.stack.blk = some k → D k) ∧ (∀ k, o.back.blk = some k → D k)
def OusIs (D : Nat → Prop) (w : World) (os : List OuC) (vs : List OuV) : Prop := os.length = vs.length ∧ ∀ (i : Nat) (o : OuC) (v : OuV), os[i]? = some o → vs[i]? = some v → OuIs D w o v
structure TrIs (D : Nat → Prop) (w : World) (t : TrP) (v : TrG) : Prop where
  nums : t.start = v.start ∧ t.slots = v.slots ∧ t.backs = v.backs ∧ t.grow = v.grow ∧ t.growBack = v.growBack ∧ t.last = v.last
  ins : Rd insE w t.ins v.ins
  outs : ∃ os, Rd ouE w t.outs os ∧ OusIs D w os v.outs
  cells : Rd intE w t.cells v.cells
  insD : ∀ k, t.ins.blk = some k → D k
  outsD : ∀ k, t.outs.blk = some k → D k
  cellsD : ∀ k, t.cells.blk = some k → D k
theorem OusIs.chg {D S : Nat → Prop} {w w' : World} {os : List OuC} {vs : List OuV} (h : OusIs D w os vs) (c : Chg S w w') (hS : ∀ k, D k → ¬ S k) : OusIs D w' os vs :=
  ⟨h.1, fun i o v ho hv => by
    obtain ⟨h1, h2, h3, h4, h5, h6⟩ := h.2 i o v ho hv
    exact ⟨h1, h2, h3.chg c (fun k hk => hS _ (h5 k hk)), h4.chg c (fun k hk => hS _ (h6 k hk)), h5, h6⟩⟩
theorem TrIs.chg {D S : Nat → Prop} {w w' : World} {t : TrP} {v : TrG} (h : TrIs D w t v) (c : Chg S w w') (hS : ∀ k, D k → ¬ S k) : TrIs D w' t v := by
  obtain ⟨os, h1, h2⟩ := h.outs
  exact ⟨h.nums, h.ins.chg c (fun k hk => hS _ (h.insD k hk)), ⟨os, h1.chg c (fun k hk => hS _ (h.outsD k hk)), h2.chg c hS⟩, h.cells.chg c (fun k hk => hS _ (h.cellsD k hk)), h.insD, h.outsD, h.cellsD⟩
theorem TrIs.no {D : Nat → Prop} {w w' : World} {t : TrP} {v : TrG} (h : TrIs D w t v) (c : Chg No w w') : TrIs D w' t v := h.chg c (fun _ _ h => h)
def StNums (S : StC) (s : StV) : Prop := S.ip = s.ip ∧ S.handler = s.handler ∧ S.out = s.out ∧ S.inp = s.inp ∧ S.read = s.read ∧ S.status = s.status ∧ S.code = s.code
structure StIs (D : Nat → Prop) (w : World) (S : StC) (s : StV) : Prop where
  nums : StNums S s
  st : Rd intE w S.stack s.stack
  bk : Rd intE w S.back s.back
  me : Rd intE w S.mem s.mem
  stD : ∀ k, S.stack.blk = some k → D k
  bkD : ∀ k, S.back.blk = some k → D k
  meD : ∀ k, S.mem.blk = some k → D k
theorem StIs.chg {D S' : Nat → Prop} {w w' : World} {S : StC} {s : StV} (h : StIs D w S s) (c : Chg S' w w') (hS : ∀ k, D k → ¬ S' k) : StIs D w' S s :=
  ⟨h.nums, h.st.chg c (fun k hk => hS _ (h.stD k hk)), h.bk.chg c (fun k hk => hS _ (h.bkD k hk)), h.me.chg c (fun k hk => hS _ (h.meD k hk)), h.stD, h.bkD, h.meD⟩
theorem StIs.no {D : Nat → Prop} {w w' : World} {S : StC} {s : StV} (h : StIs D w S s) (c : Chg No w w') : StIs D w' S s := h.chg c (fun _ _ h => h)
structure StOw (D : Nat → Prop) (w : World) (S : StC) (s : StV) : Prop where
  nums : StNums S s
  st : Ow intE w S.stack s.stack
  bk : Ow intE w S.back s.back
  me : Ow intE w S.mem s.mem
  stD : ∀ k, S.stack.blk = some k → D k
  bkD : ∀ k, S.back.blk = some k → D k ∧ S.stack.blk ≠ some k
  meD : ∀ k, S.mem.blk = some k → D k ∧ S.stack.blk ≠ some k ∧ S.back.blk ≠ some k
theorem StOw.is {D : Nat → Prop} {w : World} {S : StC} {s : StV} (h : StOw D w S s) : StIs D w S s := ⟨h.nums, h.st.rd, h.bk.rd, h.me.rd, h.stD, fun k hk => (h.bkD k hk).1, fun k hk => (h.meD k hk).1⟩
theorem StOw.chg {D S' : Nat → Prop} {w w' : World} {S : StC} {s : StV} (h : StOw D w S s) (c : Chg S' w w') (hS : ∀ k, D k → ¬ S' k) : StOw D w' S s :=
  ⟨h.nums, h.st.chg c (fun k hk => hS _ (h.stD k hk)), h.bk.chg c (fun k hk => hS _ (h.bkD k hk).1), h.me.chg c (fun k hk => hS _ (h.meD k hk).1), h.stD, h.bkD, h.meD⟩
theorem StOw.no {D : Nat → Prop} {w w' : World} {S : StC} {s : StV} (h : StOw D w S s) (c : Chg No w w') : StOw D w' S s := h.chg c (fun _ _ h => h)
theorem newOb {w w1 w2 : World} {b : Nat} {T : TypeId} (zs vs : List Value) (hl : zs.length = vs.length) (hb : b = w.heap.size) (hw : w1 = World.alloc w (.cells zs.toArray T)) : wrOk w1 ⟨b, 0, none⟩ vs.length ∧ (w2 = stW w1 ⟨b, 0, none⟩ 0 vs → Ob w2 b vs T ∧ Chg No w w2) := by
  have ho : Ob w1 b zs T := by rw [hw, hb]; exact Ob.new w zs T
  have hc : Chg No w w1 := by rw [hw]; exact Chg.alloc _ _ _
  refine ⟨ho.wr (by omega), fun h2 => ⟨?_, ?_⟩⟩
  · have := Ob.st (vs := vs) (k := 0) (i := 0) ho
    rw [show wrL zs (0 + 0) vs = vs from wrL_whole hl] at this
    rw [h2]; exact this
  · rw [h2]
    exact hc.trans (Chg.st (S := fun k => k = b) rfl) (fun _ _ h => h) (fun k hk he => by subst he; omega)
theorem al {w w' : World} {o : Obj} (hw : w' = World.alloc w o) : Chg No w w' := by rw [hw]; exact Chg.alloc _ _ _
theorem dw {w w' : World} (hw : w' = World.drew w) : Chg No w w' := by rw [hw]; exact Chg.drew _ _
theorem Ob.up {w w' : World} {b k : Nat} {cs vs cs' : List Value} {T : TypeId} (h : Ob w b cs T) (hl : k + vs.length ≤ cs.length) (hc : wrL cs k vs = cs') (hw : w' = stW w ⟨b, k, none⟩ 0 vs) : Ob w' b cs' T ∧ Chg (fun j => j = b) w w' := by
  refine ⟨?_, by rw [hw]; exact Chg.st (S := fun j => j = b) rfl⟩
  have := Ob.st (vs := vs) (k := k) (i := 0) h
  rw [hw, ← hc]; exact this

/-! ### inner.Copy -/
theorem icopy_any {D : Nat → Prop} {w : World} (S : StC) {s : StV} (h : StIs D w S s) (h1 : s.stack.length ≤ 1000000) (h2 : s.back.length ≤ 1000000) (h3 : s.mem.length ≤ 1000000) :
    Calls Tryz.prog fn_inner_Copy #[.agg (stC S).toArray] w fun e w' => ∃ S' : StC, e = .returned (.agg (stC S').toArray) ∧ StOw (fun k => w.heap.size ≤ k ∧ k < w'.heap.size) w' S' s ∧ Chg No w w' := by
  refine (inner_Copy_lift (K := fun v w' => ∃ S' : StC, v = .agg (stC S').toArray ∧ StOw (fun k => w.heap.size ≤ k ∧ k < w'.heap.size) w' S' s ∧ Chg No w w') ?_).mono (by rintro e w' ⟨v, rfl, n, rfl, h⟩; exact ⟨n, rfl, h⟩)
  unfold inner_Copy_sh
  intro b11 w12 hb11 hw12 b13 w14 hb13 hw14 w15 hw15
  have o12 : Ob w12 b11 (stC S) T_api_State := by rw [hw12, hb11]; exact Ob.new w (stC S) T_api_State
  have c12 := al hw12
  have c14 := al hw14
  have c15 := dw hw15
  have o14 : Ob w14 b13 (stC st0) T_api_State := by rw [hw14, hb13]; exact Ob.new w12 (stC st0) T_api_State
  have z12 : w12.heap.size = w.heap.size + 1 := by rw [hw12]; simp
  have z14 : w14.heap.size = w12.heap.size + 1 := by rw [hw14]; simp
  have z15 := c15.size
  have o15 := (o12.no c14).no c15
  have h15 := h.no (trN (trN c12 c14) c15)
  have hs : ∀ {w' : World}, Chg No w15 w' → Ob w' b11 (stC S) T_api_State := fun c => o15.no c
  refine ⟨fun w' => Chg No w15 w', Chg.refl _ _, S.stack, Ob.held (fun w' c => hs c) rfl, S.back, Ob.held (fun w' c => hs c) rfl, S.mem, Ob.held (fun w' c => hs c) rfl, ?_⟩
  refine (clone_ints h15.st (by omega)).mono ?_
  rintro e w21 ⟨s22, rfl, g22, c21, b22, _⟩
  refine ⟨s22, rfl, c21, ?_⟩
  refine (clone_ints (h15.no c21).bk (by omega)).mono ?_
  rintro e w24 ⟨s25, rfl, g25, c24, b25, _⟩
  refine ⟨s25, rfl, trN c21 c24, ?_⟩
  refine (clone_ints (h15.no (trN c21 c24)).me (by omega)).mono ?_
  rintro e w27 ⟨s28, rfl, g28, c27, b28, _⟩
  have k27 := trN (trN c21 c24) c27
  have z21 := c21.size
  have z24 := c24.size
  have z27 := c27.size
  have o27 := hs k27
  refine ⟨s28, rfl, k27, o27.wr (by simp [stC]), fun w29 hw29 => ?_⟩
  obtain ⟨o29, c29⟩ := o27.up (k := 2) (vs := [s22.val]) (cs' := stC { S with stack := s22 }) (by simp [stC]) rfl hw29
  refine ⟨o29.wr (by simp [stC]), fun w30 hw30 => ?_⟩
  obtain ⟨o30, c30⟩ := o29.up (k := 3) (vs := [s25.val]) (cs' := stC { S with stack := s22, back := s25 }) (by simp [stC]) rfl hw30
  refine ⟨o30.wr (by simp [stC]), fun w31 hw31 => ?_⟩
  obtain ⟨o31, c31⟩ := o30.up (k := 4) (vs := [s28.val]) (cs' := stC { S with stack := s22, back := s25, mem := s28 }) (by simp [stC]) rfl hw31
  refine ⟨_, _, _, _, _, _, _, _, _, _, o31.cell rfl, o31.cell rfl, o31.cell rfl, o31.cell rfl, o31.cell rfl, o31.cell rfl, o31.cell rfl, o31.cell rfl, o31.cell rfl, o31.cell rfl, ?_⟩
  have k31 : Chg (fun j => j = b11) w27 w31 := (c29.trans c30 (fun _ _ h => h) (fun _ _ h => h)).trans c31 (fun _ _ h => h) (fun _ _ h => h)
  have o31' : Ob w31 b13 (stC st0) T_api_State := (((o14.no c15).no k27)).chg k31 (fun e => by omega)
  refine ⟨o31'.wr (by simp [stC]), fun w42 hw42 => ?_⟩
  obtain ⟨o42, c42⟩ := o31'.up (k := 0) (vs := stC { S with stack := s22, back := s25, mem := s28 }) (cs' := stC { S with stack := s22, back := s25, mem := s28 }) (by simp [stC]) rfl hw42
  have k42 : Chg (fun j => j = b11 ∨ j = b13) w27 w42 := k31.trans c42 (fun _ _ h => Or.inl h) (fun _ _ h => Or.inr h)
  have z42 := k42.size
  refine ⟨_, _, _, _, _, _, _, _, _, _, o42.cell rfl, o42.cell rfl, o42.cell rfl, o42.cell rfl, o42.cell rfl, o42.cell rfl, o42.cell rfl, o42.cell rfl, o42.cell rfl, o42.cell rfl, { S with stack := s22, back := s25, mem := s28 }, rfl, ?_, ?_⟩
  · have l22 := fun k hk => g22.lt (k := k) hk
    have l25 := fun k hk => g25.lt (k := k) hk
    have l28 := fun k hk => g28.lt (k := k) hk
    refine ⟨h.nums, ((g22.no c24).no c27).chg k42 (fun k hk he => ?_), (g25.no c27).chg k42 (fun k hk he => ?_), g28.chg k42 (fun k hk he => ?_), fun k hk => ?_, fun k hk => ⟨?_, fun he => ?_⟩, fun k hk => ⟨?_, fun he => ?_, fun he => ?_⟩⟩
    · have := b22 k hk; omega
    · have := b25 k hk; omega
    · have := b28 k hk; omega
    · have hk : s22.blk = some k := hk
      have := b22 k hk; have := l22 k hk; omega
    · have hk : s25.blk = some k := hk
      have := b25 k hk; have := l25 k hk; omega
    · have hk : s25.blk = some k := hk
      have he : s22.blk = some k := he
      have := b25 k hk; have := l22 k he; omega
    · have hk : s28.blk = some k := hk
      have := b28 k hk; have := l28 k hk; omega
    · have hk : s28.blk = some k := hk
      have he : s22.blk = some k := he
      have := b28 k hk; have := l22 k he; omega
    · have hk : s28.blk = some k := hk
      have he : s25.blk = some k := he
      have := b28 k hk; have := l25 k he; omega
  · exact (trN (trN (trN c12 c14) c15) k27).trans k42 (fun _ _ h => h) (fun k hk he => by omega)

/-! ### slices.Contains -/
theorem contains_any {w : World} {s : Sl} {xs : List Int} (h : Rd intE w s xs) (v : Int) : Calls Tryz.prog fn_slices_Contains_sl_int_int #[s.val, .int .i64 v] w fun e w' => e = .returned (.bool (decide (v ∈ xs))) ∧ w = w' := by
  refine (slices_Contains_sl_int_int_lift (K := fun r w' => r = .bool (decide (v ∈ xs)) ∧ w = w') ?_).mono (by rintro e w' ⟨r, rfl, rfl, h⟩; exact ⟨rfl, h⟩)
  unfold slices_Contains_sl_int_int_sh
  have hi : Calls Tryz.prog fn_slices_Index_sl_int_int #[s.val, .int .i64 v] w fun e w' => ∃ n : Int, e = .returned (.int .i64 n) ∧ (decide (n ≥ 0) = decide (v ∈ xs)) ∧ w = w' := by
    refine (slices_Index_sl_int_int_lift (K := fun r w' => ∃ n : Int, r = .int .i64 n ∧ (decide (n ≥ 0) = decide (v ∈ xs)) ∧ w = w') ?_).mono (by rintro e w' ⟨r, rfl, n, rfl, h⟩; exact ⟨n, rfl, h⟩)
    unfold slices_Index_sl_int_int_sh
    have hl := h.len
    have hcap := h.capL
    refine ⟨fun n w' => ∃ k : Nat, n = k ∧ k ≤ xs.length ∧ v ∉ xs.take k ∧ w = w', fun n _ => xs.length - n.toNat, ⟨0, rfl, Nat.zero_le _, by simp, rfl⟩, ?_⟩
    rintro n w3 ⟨k, rfl, hk, hno, rfl⟩
    refine brB_of (fun hlt => ?_) (fun hlt => ?_)
    · have hlt : k < xs.length := by simp at hlt; omega
      obtain ⟨x, hx⟩ : ∃ x, xs[k]? = some x := ⟨_, List.getElem?_eq_getElem hlt⟩
      refine h.ix (i := (k : Int)) (by omega) (by rw [Int.toNat_natCast]; exact hx) fun a ha hcell => ?_
      have q1 := hcell 0 _ rfl
      rw [add0] at q1
      refine ⟨x, q1, brB_of (fun he => ?_) (fun he => ?_)⟩
      · have he : v = x := by simpa using he
        refine ⟨_, rfl, ?_, rfl⟩
        rw [decide_eq_true (show (k : Int) ≥ 0 by omega), decide_eq_true (he ▸ List.mem_of_getElem? hx)]
      · have he : v ≠ x := by simpa using he
        rw [wr_in (by omega)]
        refine ⟨⟨k + 1, by omega, by omega, ?_, rfl⟩, by show xs.length - Int.toNat ((k : Int) + 1) < xs.length - Int.toNat (k : Int); omega⟩
        rw [List.take_add_one, hx]
        simp only [Option.toList_some, List.mem_append, List.mem_singleton]
        exact fun h => h.elim hno he
    · have hlt : k = xs.length := by simp at hlt; omega
      subst hlt
      rw [List.take_length] at hno
      exact ⟨_, rfl, by rw [decide_eq_false hno]; rfl, rfl⟩
  refine hi.mono ?_
  rintro e w4 ⟨n, rfl, hn, rfl⟩
  exact ⟨n, rfl, by rw [hn], rfl⟩

/-! ### eval.May -/
theorem emay_any {D D' : Nat → Prop} {w : World} (t : TrP) (S : StC) {v : TrG} {s : StV} (ht : TrIs D w t v) (h : StIs D' w S s) (h1 : 0 ≤ v.grow ∧ v.grow ≤ 1000000) (h2 : 0 ≤ v.growBack ∧ v.growBack ≤ 1000000) (h3 : s.stack.length ≤ 1000000) (h4 : s.back.length ≤ 1000000) :
    Calls Tryz.prog fn_eval_May #[.agg (trP t).toArray, .agg (stC S).toArray] w fun e w' => e = .returned (.bool (mayV v s)) ∧ Chg No w w' := by
  refine (eval_May_lift (K := fun r w' => r = .bool (mayV v s) ∧ Chg No w w') ?_).mono (by rintro e w' ⟨r, rfl, rfl, h⟩; exact ⟨rfl, h⟩)
  unfold eval_May_sh
  intro b20 w21 hb20 hw21 b22 w23 hb22 hw23
  have o21 : Ob w21 b20 (trP t) T_api_Trace := by rw [hw21, hb20]; exact Ob.new w (trP t) T_api_Trace
  have o22 : Ob w23 b22 (stC S) T_api_State := by rw [hw23, hb22]; exact Ob.new w21 (stC S) T_api_State
  have o23 := o21.no (al hw23)
  have c23 := trN (al hw21) (al hw23)
  obtain ⟨n1, n2, n3, n4, n5, n6⟩ := ht.nums
  obtain ⟨m1, m2, m3, m4, m5, m6, m7⟩ := h.nums
  have l1 := h.st.len
  have l2 := h.bk.len
  refine ⟨fun b w' => b = decide (¬ (s.status = 0 ∧ s.ip = v.start)) ∧ w' = w23, ?_, ?_⟩
  · rintro b w27 ⟨rfl, rfl⟩
    refine brB_of (fun hf => ⟨?_, c23⟩) (fun hf => ?_)
    · have hf := of_decide_eq_true hf
      rw [show mayV v s = false from decide_eq_false fun hh => hf ⟨hh.1, hh.2.1⟩]
    have hf := Decidable.not_not.1 (of_decide_eq_false hf)
    refine ⟨fun b w' => b = decide (v.slots ≤ s.stack.length ∧ (s.stack.length : Int) + v.grow ≤ 48) ∧ w' = w27, ?_, ?_⟩
    · rintro b w33 ⟨rfl, rfl⟩
      refine brB_of (fun hg => ?_) (fun hg => ⟨?_, c23⟩)
      · have hg := of_decide_eq_true hg
        refine ⟨S.back, o22.cell rfl, t.backs, o23.cell rfl, brB_of (fun hb => ?_) (fun hb => ⟨?_, c23⟩)⟩
        · have hb := of_decide_eq_true hb
          refine ⟨S.back, o22.cell rfl, t.growBack, o23.cell rfl, ?_, c23⟩
          rw [wr_in (by omega)]
          congr 1
          rw [Bool.eq_iff_iff]; simp [mayV]; omega
        · have hb := of_decide_eq_false hb
          rw [show mayV v s = false from decide_eq_false fun hh => by omega]
      · have hg := of_decide_eq_false hg
        rw [show mayV v s = false from decide_eq_false fun hh => by omega]
    · refine ⟨S.stack, o22.cell rfl, t.slots, o23.cell rfl, brB_of (fun hb => ?_) (fun hb => ⟨?_, rfl⟩)⟩
      · have hb := of_decide_eq_true hb
        refine ⟨S.stack, o22.cell rfl, t.grow, o23.cell rfl, ?_, rfl⟩
        rw [wr_in (by omega), Bool.eq_iff_iff]; simp; omega
      · have hb := of_decide_eq_false hb
        symm; apply decide_eq_false; omega
  · refine ⟨S.status, o22.cell rfl, brB_of (fun hb => ⟨?_, rfl⟩) (fun hb => ?_)⟩
    · have hb : S.status ≠ 0 := by simpa using hb
      symm; apply decide_eq_true; omega
    · have hb : S.status = 0 := by simpa using hb
      refine ⟨S.ip, o22.cell rfl, t.start, o23.cell rfl, ?_, rfl⟩
      rw [n1, m1, show (s.ip != v.start) = !(s.ip == v.start) from rfl, Bool.eq_iff_iff]; simp; omega
end Go.Proofs.YtblmoilneiffgaaGreat

/- A trace's engine in memory: its values, its instructions one by one. -/
set_option maxRecDepth 100000
namespace Go.Proofs.YtblmoilneiffgaaGreat
open Go.RowKit

theorem madeOne (z : Value) (n : Nat) : (madeCells #[z] n).toList = List.replicate n z := by
  unfold madeCells
  apply List.ext_getElem
  · simp
  · intro i h1 h2
    simp [Nat.mod_one]
theorem fl_rep (n : Nat) : fl intE (List.replicate n 0) = List.replicate n (Value.int .i64 0) := by
  induction n with
  | zero => rfl
  | succ m ih => rw [List.replicate_succ, List.replicate_succ, fl_cons, ih]; rfl
theorem make_ints {w : World} {n : Int} {N : Nat} (hn : n = (N : Int)) (hN : N ≤ 1000000) : ∃ w' : World, (Instr.makeSlice T_sl_int (.int .i64 n) (.int .i64 n)).run Tryz.prog w = .ok (⟨some ⟨w.heap.size, 0, none⟩, N, N⟩ : Sl).val w' ∧ Ow intE w' ⟨some ⟨w.heap.size, 0, none⟩, N, N⟩ (List.replicate N 0) ∧ Chg No w w' := by
  subst hn
  obtain ⟨i, z, hi, hz, h1, h2, h3⟩ := intOk.info
  have hz0 : z = .int .i64 0 := by
    have e : (Tryz.prog.info? T_int).bind (·.zero) = some (.int .i64 0) := by kernel_rfl
    have hi' : Tryz.prog.info? T_int = some i := hi
    rw [hi'] at e
    exact Option.some.inj (hz.symm.trans e)
  subst hz0
  have h1' : i.size = 1 := h1
  have h2' : i.bytes = 8 := h2
  have hr := run_make (P := Tryz.prog) w T_sl_int T_int i (.int .i64 0) intOk.und hi hz .i64 .i64 (N : Int) (N : Int) (by omega) (by omega) (by rw [h2']; omega) (by omega)
  rw [Int.toNat_natCast, h1', Nat.mul_one] at hr
  have hz1 : (Value.int .i64 0).cells = #[.int .i64 0] := rfl
  rw [hz1] at hr
  refine ⟨_, hr, ?_, Chg.alloc _ _ _⟩
  have hm : madeCells #[Value.int .i64 0] N = (List.replicate N (Value.int .i64 0)).toArray := Array.ext' (by rw [madeOne])
  rw [hm]
  have := Ow.lit (E := intE) w (List.replicate N 0) (List.replicate N (Value.int .i64 0)) (fl_rep N).symm (by rw [List.length_replicate]; unfold maxLen; omega)
  rw [List.length_replicate] at this
  exact this

/-! ### digits.Put -/
def u8E : Enc UInt8 := ⟨T_uint8, 1, 1, fun c => [.int .u8 c.toNat], by intro x; rfl, by intro x u hu; simp at hu; subst hu; rfl, by decide⟩
theorem u8Ok : EncOk Tryz.prog u8E T_sl_uint8 := EncOk.of (z := .int .u8 0) (by kernel_rfl) (by kernel_rfl) (by kernel_rfl)
theorem fl_u8 : ∀ (l : List UInt8) (j : Nat), (fl u8E l)[j]? = (l[j]?).map (fun c => Value.int .u8 c.toNat)
  | [], j => by simp [fl]
  | c :: l, 0 => by rw [fl_cons]; rfl
  | c :: l, j + 1 => by
    rw [fl_cons, List.getElem?_append_right (by show 1 ≤ j + 1; omega)]
    have := fl_u8 l j
    simpa [u8E] using this
theorem u8_str {w : World} {s : Sl} {l : List UInt8} (h : Rd u8E w s l) (hne : l ≠ []) : (convert T_sl_uint8 T_string s.val).run Tryz.prog w = .ok (.string (bs l)) w := by
  obtain ⟨ao, cap, he, h1, h2, h3, h4⟩ := h
  have h0 : 0 < l.length := List.length_pos_iff.2 hne
  obtain ⟨a, ha, _⟩ := h4 0 _ (by rw [fl_u8, List.getElem?_eq_getElem h0]; rfl)
  rw [he, ha]
  refine run_convert_bytes_back (P := Tryz.prog) w T_sl_uint8 T_string T_uint8 a cap l u8Ok.und Tryz.underlying5 Tryz.underlying9 (fun j hj => ?_)
  obtain ⟨a', ha', hc⟩ := h4 j _ (by rw [fl_u8, List.getElem?_eq_getElem hj]; rfl)
  rw [ha] at ha'; cases ha'
  exact hc
theorem lit8 {w w' : World} {b : Nat} {v : Value} (c : UInt8) (hv : v = .int .u8 c.toNat) (hb : b = w.heap.size) (hw : w' = World.alloc w (.cells #[v] T_uint8)) : Ow u8E w' ⟨some ⟨b, 0, none⟩, 1, 1⟩ [c] ∧ Chg No w w' := by
  subst hv
  rw [hw, hb]
  exact ⟨Ow.lit (E := u8E) w [c] [.int .u8 c.toNat] (by rw [fl_one]; rfl) (by show 1 ≤ maxLen; unfold maxLen; omega), Chg.alloc _ _ _⟩
theorem dig_c (n : Nat) : sb (bs [48, 49, 50, 51, 52, 53, 54, 55, 56, 57, 65, 66, 67, 68, 69, 70, 71, 72, 73, 74, 75, 76, 77, 78, 79, 80, 81, 82, 83, 84, 85, 86, 87, 88, 89, 90]) ((n % 10 : Nat) : Int) = ((UInt8.ofNat (48 + n % 10)).toNat : Int) := by
  have h : ∀ k : Fin 10, sb (bs [48, 49, 50, 51, 52, 53, 54, 55, 56, 57, 65, 66, 67, 68, 69, 70, 71, 72, 73, 74, 75, 76, 77, 78, 79, 80, 81, 82, 83, 84, 85, 86, 87, 88, 89, 90]) ((k.val : Nat) : Int) = ((UInt8.ofNat (48 + k.val)).toNat : Int) := by decide +kernel
  exact h ⟨n % 10, Nat.mod_lt _ (by decide)⟩
theorem right10 (w : World) : Calls Tryz.prog fn_digits_Right #[.int .i64 10] w fun e w' => e = .returned (.bool true) ∧ w = w' :=
  (digits_Right_lift (K := fun r w' => r = .bool true ∧ w = w') (by unfold digits_Right_sh; exact brB_t ⟨rfl, rfl⟩)).mono (by rintro e w' ⟨r, rfl, rfl, h⟩; exact ⟨rfl, h⟩)
theorem put_any (v : Int) (w : World) : Calls Tryz.prog fn_digits_Put #[.int .i64 v, .int .i64 10] w fun e w' => e = .returned (.string (putV v)) ∧ Chg No w w' := by
  refine (digits_Put_lift (K := fun r w' => r = .string (putV v) ∧ Chg No w w') ?_).mono (by rintro e w' ⟨r, rfl, rfl, h⟩; exact ⟨rfl, h⟩)
  unfold digits_Put_sh
  refine (right10 w).mono ?_
  rintro e w4 ⟨rfl, rfl⟩
  refine ⟨_, rfl, brB_f ?_⟩
  have e10 : IntKind.wrap .u64 10 = 10 := by decide
  have hu : ∀ x : Int, 0 ≤ IntKind.wrap .u64 x ∧ IntKind.wrap .u64 x < 18446744073709551616 := fun x => by rw [IntKind.wrap_u64]; omega
  refine ⟨fun n w' => n = (absN v : Int) ∧ w = w', ?_, ?_⟩
  · rintro n w6 ⟨rfl, rfl⟩
    have hN : absN v < 10 ^ 20 := by
      unfold absN
      have := hu (0 - IntKind.wrap .u64 v)
      have := hu v
      split <;> omega
    refine ⟨fun n o w' => ∃ (k f : Nat) (l : List UInt8), n = (k : Int) ∧ k < 10 ^ f ∧ (l = [] → 0 < f) ∧ f + l.length ≤ 20 ∧ dg f k l = dg 20 (absN v) [] ∧ Ow u8E w' o l ∧ (∀ j, o.blk = some j → w.heap.size ≤ j) ∧ Chg No w w', fun n o _ => if n = 0 ∧ o.len ≠ 0 then 0 else n.toNat + 1 + (1 - o.len), ⟨absN v, 20, [], rfl, hN, (fun _ => by decide), by simp, rfl, Ow.nil _ _, (fun j hj => by cases hj), Chg.refl _ _⟩, ?_⟩
    rintro n o w7 ⟨k, f, l, rfl, hk, hl, hfl, hd, ho, hob, hc⟩
    have hol := ho.rd.len
    have step : (0 < k ∨ l = []) → digits_Put_j1 10 (k : Int) o (fun n o w' => ∃ (k f : Nat) (l : List UInt8), n = (k : Int) ∧ k < 10 ^ f ∧ (l = [] → 0 < f) ∧ f + l.length ≤ 20 ∧ dg f k l = dg 20 (absN v) [] ∧ Ow u8E w' o l ∧ (∀ j, o.blk = some j → w.heap.size ≤ j) ∧ Chg No w w') (fun n o _ => if n = 0 ∧ o.len ≠ 0 then 0 else n.toNat + 1 + (1 - o.len)) w7 v true w7 (fun r w' => r = .string (putV v) ∧ Chg No w w') := by
      intro hgo
      have hf : 0 < f := by
        rcases hgo with h | h
        · rcases Nat.eq_zero_or_pos f with h0 | h0
          · subst h0; simp at hk; omega
          · exact h0
        · exact hl h
      obtain ⟨f', rfl⟩ : ∃ f', f = f' + 1 := ⟨f - 1, by omega⟩
      unfold digits_Put_j1
      rw [e10]
      have em : Int.tmod (k : Int) 10 = ((k % 10 : Nat) : Int) := by rw [Int.tmod_eq_emod_of_nonneg (by omega)]; omega
      have ed : Int.tdiv (k : Int) 10 = ((k / 10 : Nat) : Int) := by rw [Int.tdiv_eq_ediv_of_nonneg (by omega)]; omega
      rw [em, ed]
      refine brB_t ⟨by decide, by omega, ?_, ?_⟩
      · have : ((bs [48, 49, 50, 51, 52, 53, 54, 55, 56, 57, 65, 66, 67, 68, 69, 70, 71, 72, 73, 74, 75, 76, 77, 78, 79, 80, 81, 82, 83, 84, 85, 86, 87, 88, 89, 90]).size : Int) = 36 := by decide
        rw [this]; omega
      intro b14 w15 hb hw
      obtain ⟨l15, c15⟩ := lit8 (UInt8.ofNat (48 + k % 10)) (by rw [dig_c]) hb hw
      refine app_ok u8Ok (s := ⟨some ⟨b14, 0, none⟩, 1, 1⟩) rfl rfl l15 (ho.no c15).rd (by show (1 + l.length) * 1 ≤ _; omega) (by show 1 + l.length ≤ _; unfold maxLen; omega) ?_
      intro s16 w17 h17 c17 b17
      have z7 := hc.size
      have z15 := c15.size
      have hb14 : (⟨some ⟨b14, 0, none⟩, 1, 1⟩ : Sl).blk = some b14 := rfl
      have hlt : k / 10 < 10 ^ f' := by rw [Nat.div_lt_iff_lt_mul (by decide)]; rw [Nat.pow_succ] at hk; exact hk
      have hw64 : IntKind.wrap .u64 ((k / 10 : Nat) : Int) = ((k / 10 : Nat) : Int) := by
        rw [IntKind.wrap_u64]
        have : (10 : Nat) ^ f' ≤ 10 ^ 19 := Nat.pow_le_pow_right (by decide) (by omega)
        omega
      rw [hw64]
      have hl17 := h17.rd.len
      simp only [List.length_append, List.length_singleton] at hl17
      refine ⟨by decide, ⟨k / 10, f', UInt8.ofNat (48 + k % 10) :: l, rfl, hlt, (fun h => by cases h), by simp; omega, ?_, h17, fun j hj => ?_, ?_⟩, ?_⟩
      · rw [← hd]
        conv => rhs; unfold dg
        rw [if_neg (fun h => by
          rcases hgo with hg | hg
          · omega
          · exact h.2 hg)]
      · rcases b17 with hh | hh
        · have := Option.some.inj (hb14.symm.trans (hh.symm.trans hj)); omega
        · have := Option.some.inj (hh.symm.trans hj); omega
      · exact (trN hc c15).trans c17 (fun _ _ h => h) (fun j hj he => by have := Option.some.inj (hb14.symm.trans he); omega)
      · dsimp only
        rw [hol]
        have e1 : ¬ ((k : Int) = 0 ∧ l.length ≠ 0) := by
          rintro ⟨h1, h2⟩
          rcases hgo with hg | hg
          · omega
          · rw [hg] at h2; exact h2 rfl
        rw [if_neg (c := (k : Int) = 0 ∧ l.length ≠ 0) e1]
        split <;> omega
    refine brB_of (fun hp => ?_) (fun hp => ?_)
    · have hp := of_decide_eq_true hp
      exact step (Or.inl (by omega))
    · have hp := of_decide_eq_false hp
      have hk0 : k = 0 := by omega
      subst hk0
      by_cases hle : l = []
      · have : ((o.len : Int) == 0) = true := by rw [hol, hle]; rfl
        rw [this]
        exact step (Or.inr hle)
      · have : ((o.len : Int) == 0) = false := by
          rw [hol]
          have := List.length_pos_iff.2 hle
          simp; exact hle
        rw [this]
        unfold digits_Put_j1
        have hdd : dg 20 (absN v) [] = l := by rw [← hd, dg_zero _ _ hle]
        have hlen : (bs l).size = l.length := rfl
        refine brB_f (brB_of (fun hv => ?_) (fun hv => ?_))
        · have hv := of_decide_eq_true hv
          refine ⟨_, w7, u8_str ho.rd hle, ?_, ?_, hc⟩
          · rw [hlen]; show (1 : Int) + _ ≤ _; omega
          · unfold putV; rw [if_pos hv, hdd]
        · have hv := of_decide_eq_false hv
          refine ⟨_, w7, u8_str ho.rd hle, ?_, hc⟩
          unfold putV; rw [if_neg hv, hdd]
  · have a1 := hu (0 - IntKind.wrap .u64 v)
    have a2 := hu v
    refine brB_of (fun hv => ⟨?_, rfl⟩) (fun hv => ⟨?_, rfl⟩)
    · have hv := of_decide_eq_true hv
      unfold absN; rw [if_pos hv]; omega
    · have hv := of_decide_eq_false hv
      unfold absN; rw [if_neg hv]; omega
theorem putV_size (v : Int) : (putV v).size ≤ 21 := by
  unfold putV
  have := dg_len 20 (absN v) []
  simp only [List.length_nil, Nat.zero_add] at this
  split
  · rw [ByteArray.size_append]; show 1 + _ ≤ _; have h : (bs (dg 20 (absN v) [])).size = (dg 20 (absN v) []).length := rfl; omega
  · have h : (bs (dg 20 (absN v) [])).size = (dg 20 (absN v) []).length := rfl; omega
theorem sayV_size (op v : Int) : (sayV op v).size ≤ 22 := by
  unfold sayV
  split
  · rw [ByteArray.size_append]; have := putV_size v; show _ + 1 ≤ _; omega
  · show 1 ≤ 22; decide
end Go.Proofs.YtblmoilneiffgaaGreat

/- A trace's engine in memory: its values, its instructions one by one. -/
set_option maxRecDepth 100000
namespace Go.Proofs.YtblmoilneiffgaaGreat
open Go.RowKit

def enC (T : TrP) (S : StC) (rg atS waS : Sl) (hit : Int) : List Value := [.int .i64 T.start, .int .i64 T.slots, .int .i64 T.backs, .int .i64 T.grow, .int .i64 T.growBack, T.ins.val, T.outs.val, .int .i64 T.last, T.cells.val, .int .i64 S.ip, .int .i64 S.handler, S.stack.val, S.back.val, S.mem.val, .string S.out, .string S.inp, .int .i64 S.read, .int .i64 S.status, .int .i64 S.code, rg.val, atS.val, waS.val, .int .i64 hit]
structure EnAt (w0 : World) (B : Nat → Prop) (w : World) (p : Nat) (T : TrP) (S : StC) (rg atS waS : Sl) (ats wl : List Int) (e : En) : Prop where
  ob : Ob w p (enC T S rg atS waS e.hit) T_eval_engine
  nums : StNums S e.s
  st : Rd intE w S.stack e.s.stack
  bk : Rd intE w S.back e.s.back
  me : Ow intE w S.mem e.s.mem
  reg : Ow intE w rg e.regs
  at' : Rd intE w0 atS ats
  wa : Rd intE w0 waS wl
  base : Chg No w0 w
  bN : ∀ k, B k → w0.heap.size ≤ k
  pB : B p
  meB : ∀ k, S.mem.blk = some k → B k ∧ k ≠ p
  rgB : ∀ k, rg.blk = some k → B k ∧ k ≠ p ∧ S.mem.blk ≠ some k
  stN : ∀ k, S.stack.blk = some k → ¬ B k
  bkN : ∀ k, S.back.blk = some k → ¬ B k
  ok : AtOk ats e.regs.length
variable {w0 : World} {B : Nat → Prop} {w : World} {p : Nat} {T : TrP} {S : StC} {rg atS waS : Sl} {ats wl : List Int} {e : En}
theorem EnAt.no {w' : World} (h : EnAt w0 B w p T S rg atS waS ats wl e) (c : Chg No w w') : EnAt w0 B w' p T S rg atS waS ats wl e :=
  ⟨h.ob.no c, h.nums, h.st.no c, h.bk.no c, h.me.no c, h.reg.no c, h.at', h.wa, trN h.base c, h.bN, h.pB, h.meB, h.rgB, h.stN, h.bkN, h.ok⟩
theorem EnAt.turn {w' : World} {S' : StC} {e' : En} {X : Nat → Prop} (h : EnAt w0 B w p T S rg atS waS ats wl e) (c : Chg X w w') (hX : ∀ k, X k → B k) (ob : Ob w' p (enC T S' rg atS waS e'.hit) T_eval_engine) (nums : StNums S' e'.s) (me : Ow intE w' S.mem e'.s.mem) (rg' : Ow intE w' rg e'.regs) (h1 : S'.stack = S.stack ∧ S'.back = S.back ∧ S'.mem = S.mem) (h2 : e'.s.stack = e.s.stack ∧ e'.s.back = e.s.back ∧ e'.regs.length = e.regs.length) :
    EnAt w0 B w' p T S' rg atS waS ats wl e' ∧ Chg B w w' := by
  obtain ⟨a1, a2, a3⟩ := h1
  obtain ⟨b1, b2, b3⟩ := h2
  refine ⟨⟨ob, nums, ?_, ?_, by rw [a3]; exact me, rg', h.at', h.wa, h.base.trans c (fun _ _ h => h) (fun k hk hx => by have := h.bN k (hX k hx); omega), h.bN, h.pB, by rw [a3]; exact h.meB, by rw [a3]; exact h.rgB, by rw [a1]; exact h.stN, by rw [a2]; exact h.bkN, by rw [b3]; exact h.ok⟩, c.mono (fun k _ hk => hX k hk)⟩
  · rw [a1, b1]; exact h.st.chg c (fun k hk hx => h.stN k hk (hX k hx))
  · rw [a2, b2]; exact h.bk.chg c (fun k hk hx => h.bkN k hk (hX k hx))
theorem getI_ix {xs : List Int} {i : Int} (h0 : 0 ≤ i) (h1 : i < xs.length) : xs[i.toNat]? = some (getI xs i) := by
  unfold getI; rw [List.getD_eq_getElem?_getD, List.getElem?_eq_getElem (by omega)]; rfl
theorem AtOk.at {ats : List Int} {m : Nat} (h : AtOk ats m) {q : Int} (h0 : 0 ≤ q) (h1 : q < ats.length) : 0 ≤ getI ats q ∧ getI ats q < m := h q.toNat (by omega)
theorem evalue_any (h : EnAt w0 B w p T S rg atS waS ats wl e) {q : Int} (h0 : 0 ≤ q ∧ q < ats.length) : Calls Tryz.prog fn_eval_engine_value #[.pointer (some ⟨p, 0, none⟩), .int .i64 q] w fun x w' => x = .returned (.int .i64 (valV ats q e)) ∧ Chg No w w' := by
  refine (eval_engine_value_lift (K := fun r w' => r = .int .i64 (valV ats q e) ∧ Chg No w w') ?_).mono (by rintro e w' ⟨r, rfl, rfl, h⟩; exact ⟨rfl, h⟩)
  unfold eval_engine_value_sh
  intro w3 hw3
  have c3 := dw hw3
  have h3 := h.no c3
  obtain ⟨k0, k1⟩ := h.ok.at h0.1 h0.2
  refine ⟨rg, held_Lw (h3.ob.cell rfl), atS, held_Lw (h3.ob.cell rfl), (h3.at'.no h3.base).ix h0.1 (getI_ix h0.1 h0.2) fun a _ hcell => ?_⟩
  have q1 := hcell 0 _ rfl
  rw [add0] at q1
  refine ⟨_, held_Lw q1, h3.reg.rd.ix k0 (getI_ix k0 (by omega)) fun a' _ hcell' => ?_⟩
  have q2 := hcell' 0 _ rfl
  rw [add0] at q2
  exact ⟨_, held_Lw q2, rfl, c3⟩
theorem eset_any (h : EnAt w0 B w p T S rg atS waS ats wl e) {q v : Int} (h0 : 0 ≤ q ∧ q < ats.length) : Calls Tryz.prog fn_eval_engine_set #[.pointer (some ⟨p, 0, none⟩), .int .i64 q, .int .i64 v] w fun x w' => x = .returned (.int .i64 (-1)) ∧ EnAt w0 B w' p T S rg atS waS ats wl (setV ats q v e) ∧ Chg B w w' := by
  refine (eval_engine_set_lift (K := fun r w' => r = .int .i64 (-1) ∧ EnAt w0 B w' p T S rg atS waS ats wl (setV ats q v e) ∧ Chg B w w') ?_).mono (by rintro e w' ⟨r, rfl, rfl, h⟩; exact ⟨rfl, h⟩)
  unfold eval_engine_set_sh
  intro w3 hw3
  have c3 := dw hw3
  have h3 := h.no c3
  obtain ⟨k0, k1⟩ := h.ok.at h0.1 h0.2
  refine ⟨rg, held_Lw (h3.ob.cell rfl), atS, held_Lw (h3.ob.cell rfl), (h3.at'.no h3.base).ix h0.1 (getI_ix h0.1 h0.2) fun a _ hcell => ?_⟩
  have q1 := hcell 0 _ rfl
  rw [add0] at q1
  obtain ⟨a', ha', _⟩ := h3.reg.rd.at (getI_ix k0 (by omega))
  obtain ⟨f1, f2⟩ := h3.reg.set1 ha' (k := (getI ats q).toNat) (j := 0) (x' := v) (u := .int .i64 v) (getI_ix k0 (by omega)) (by decide) rfl
  rw [add0] at f1 f2
  have hl := h3.reg.rd.len
  refine ⟨_, held_Lw q1, a', ha', k0, by omega, f1, fun w9 hw9 => ⟨rfl, ?_⟩⟩
  have hb := h3.rgB _ (blk_ptr ha')
  have c9 : Chg (fun k => k = a'.block) w3 w9 := by rw [hw9]; exact Chg.st (S := fun k => k = a'.block) (by rw [add_block])
  obtain ⟨g1, g2⟩ := h3.turn (e' := setV ats q v e) (S' := S) c9 (fun k hk => hk ▸ hb.1) (h3.ob.chg c9 (fun he => hb.2.1 he.symm)) h.nums (h3.me.chg c9 (fun k hk he => hb.2.2 (he ▸ hk))) (by rw [hw9]; exact f2) ⟨rfl, rfl, rfl⟩ ⟨rfl, rfl, setV_regs _ _ _ _⟩
  exact ⟨g1, c3.trans g2 (fun _ _ h => h.elim) (fun _ _ h => h)⟩
theorem emust_any (b : Bool) (x : Int) (w : World) : Calls Tryz.prog fn_eval_must #[.bool b, .int .i64 x] w fun e w' => e = .returned (.int .i64 (if b then -1 else x)) ∧ w = w' := by
  refine (eval_must_lift (K := fun r w' => r = .int .i64 (if b then -1 else x) ∧ w = w') ?_).mono (by rintro e w' ⟨r, rfl, rfl, h⟩; exact ⟨rfl, h⟩)
  unfold eval_must_sh
  exact brB_of (fun h => ⟨by rw [h]; rfl, rfl⟩) (fun h => ⟨by rw [h]; rfl, rfl⟩)
def EnAns (w0 : World) (B : Nat → Prop) (w : World) (p : Nat) (T : TrP) (S : StC) (rg atS waS : Sl) (ats wl : List Int) (r : Int × En) (x : Int) (w' : World) : Prop :=
  x = r.1 ∧ (∃ S' : StC, (S'.stack = S.stack ∧ S'.back = S.back ∧ S'.mem = S.mem) ∧ EnAt w0 B w' p T S' rg atS waS ats wl r.2) ∧ Chg B w w'
theorem EnAns.pre {wv w' : World} {r : Int × En} {x : Int} (c : Chg No wv w) (h : EnAns w0 B w p T S rg atS waS ats wl r x w') : EnAns w0 B wv p T S rg atS waS ats wl r x w' :=
  ⟨h.1, h.2.1, c.trans h.2.2 (fun _ _ h => h.elim) (fun _ _ h => h)⟩
theorem EnAns.same (h : EnAt w0 B w p T S rg atS waS ats wl e) (x : Int) : EnAns w0 B w p T S rg atS waS ats wl (x, e) x w := ⟨rfl, ⟨S, ⟨rfl, rfl, rfl⟩, h⟩, Chg.refl _ _⟩
theorem EnAns.no {w' : World} (h : EnAt w0 B w p T S rg atS waS ats wl e) (c : Chg No w w') (x : Int) : EnAns w0 B w p T S rg atS waS ats wl (x, e) x w' := (EnAns.same (h.no c) x).pre c
theorem eset_ans (h : EnAt w0 B w p T S rg atS waS ats wl e) {q v : Int} (h0 : 0 ≤ q ∧ q < ats.length) {K : Int → World → Prop} (k : ∀ w', EnAns w0 B w p T S rg atS waS ats wl (-1, setV ats q v e) (-1) w' → K (-1) w') :
    Calls Tryz.prog fn_eval_engine_set #[.pointer (some ⟨p, 0, none⟩), .int .i64 q, .int .i64 v] w fun x w' => ∃ n : Int, x = .returned (.int .i64 n) ∧ K n w' := by
  refine (eset_any h h0).mono ?_
  rintro x w' ⟨rfl, h1, h2⟩
  exact ⟨_, rfl, k w' ⟨rfl, ⟨S, ⟨rfl, rfl, rfl⟩, h1⟩, h2⟩⟩
theorem ecalc_any (h : EnAt w0 B w p T S rg atS waS ats wl e) {q : Int} (i : In5) (h0 : 0 ≤ q ∧ q < ats.length) (hB : 0 ≤ i.c ∧ i.c < ats.length) (hC : Cn.isOne i.b = false → 0 ≤ i.d ∧ i.d < ats.length) :
    Calls Tryz.prog fn_eval_engine_calc #[.pointer (some ⟨p, 0, none⟩), .int .i64 q, .agg (insC i).toArray] w fun x w' => ∃ n : Int, x = .returned (.int .i64 n) ∧ EnAns w0 B w p T S rg atS waS ats wl (calcV ats q i e) n w' := by
  refine (eval_engine_calc_lift (K := fun r w' => ∃ n : Int, r = .int .i64 n ∧ EnAns w0 B w p T S rg atS waS ats wl (calcV ats q i e) n w') ?_).mono (by rintro e w' ⟨r, rfl, n, rfl, h⟩; exact ⟨n, rfl, h⟩)
  unfold eval_engine_calc_sh
  intro b8 w9 hb8 hw9
  have o9 : Ob w9 b8 (insC i) T_api_Ins := by rw [hw9, hb8]; exact Ob.new w (insC i) T_api_Ins
  have c9 := al hw9
  have h9 := h.no c9
  refine ⟨_, o9.cell rfl, (evalue_any h9 hB).mono ?_⟩
  rintro x w12 ⟨rfl, c12⟩
  refine ⟨_, rfl, _, (o9.no c12).cell rfl, (one_any i.b (valV ats i.c e) w12).mono ?_⟩
  rintro x w16 ⟨rfl, rfl⟩
  have h12 := h9.no c12
  have k12 := trN c9 c12
  refine ⟨_, _, rfl, brB_of (fun h1 => ?_) (fun h1 => ?_)⟩
  · refine eset_ans h12 h0 (K := fun n w' => ∃ m : Int, Value.int .i64 n = .int .i64 m ∧ EnAns w0 B w p T S rg atS waS ats wl (calcV ats q i e) m w') (fun w' ha => ⟨_, rfl, ?_⟩)
    unfold calcV; dsimp only; rw [if_pos h1]; exact ha.pre k12
  · have hCC := hC h1
    intro w22 hw22
    have c22 := dw hw22
    have h22 := h12.no c22
    have oo : ∀ {w' : World}, Chg No w22 w' → Ob w' b8 (insC i) T_api_Ins := fun c => ((o9.no c12).no c22).no c
    refine ⟨fun w' => Chg No w22 w', Chg.refl _ _, _, Ob.held (fun w' c => oo c) rfl, _, Ob.held (fun w' c => oo c) rfl, (evalue_any h22 hCC).mono ?_⟩
    rintro x w27 ⟨rfl, c27⟩
    refine ⟨_, rfl, c27, (two_any i.b (valV ats i.c e) (valV ats i.d e) w27).mono ?_⟩
    rintro x w30 ⟨rfl, c30⟩
    have c30' : Chg No w27 w30 := Chg.qt c30
    have k30 := trN (trN k12 c22) (trN c27 c30')
    have h30 := (h22.no c27).no c30'
    refine ⟨_, _, rfl, trN c27 c30', brB_of (fun h2 => ?_) (fun h2 => ?_)⟩
    · have h2 : Cn.isTwo i.b (valV ats i.d e) = false := by simpa using h2
      refine ⟨_, (oo (trN c27 c30')).cell rfl, _, rfl, ?_⟩
      unfold calcV; dsimp only; rw [if_neg (by rw [h1]; decide), if_neg (by rw [h2]; decide)]
      exact (EnAns.same h30 _).pre k30
    · have h2 : Cn.isTwo i.b (valV ats i.d e) = true := by simpa using h2
      refine eset_ans h30 h0 (K := fun n w' => ∃ m : Int, Value.int .i64 n = .int .i64 m ∧ EnAns w0 B w p T S rg atS waS ats wl (calcV ats q i e) m w') (fun w' ha => ⟨_, rfl, ?_⟩)
      unfold calcV; dsimp only; rw [if_neg (by rw [h1]; decide), if_pos h2]; exact ha.pre k30
theorem ememory_any (h : EnAt w0 B w p T S rg atS waS ats wl e) {q : Int} (i : In5) (h0 : 0 ≤ q ∧ q < ats.length) (hB : 0 ≤ i.c ∧ i.c < ats.length) (h56 : i.a = 5 ∨ i.a = 6) (hC : i.a = 6 → 0 ≤ i.d ∧ i.d < ats.length) :
    Calls Tryz.prog fn_eval_engine_memory #[.pointer (some ⟨p, 0, none⟩), .int .i64 q, .agg (insC i).toArray] w fun x w' => ∃ n : Int, x = .returned (.int .i64 n) ∧ EnAns w0 B w p T S rg atS waS ats wl (memV ats wl q i e) n w' := by
  refine (eval_engine_memory_lift (K := fun r w' => ∃ n : Int, r = .int .i64 n ∧ EnAns w0 B w p T S rg atS waS ats wl (memV ats wl q i e) n w') ?_).mono (by rintro e w' ⟨r, rfl, n, rfl, h⟩; exact ⟨n, rfl, h⟩)
  unfold eval_engine_memory_sh
  intro b8 w9 hb8 hw9
  have o9 : Ob w9 b8 (insC i) T_api_Ins := by rw [hw9, hb8]; exact Ob.new w (insC i) T_api_Ins
  have c9 := al hw9
  have h9 := h.no c9
  have hlt := h.ob.lt
  refine ⟨_, o9.cell rfl, (evalue_any h9 hB).mono ?_⟩
  rintro x w12 ⟨rfl, c12⟩
  have h12 := h9.no c12
  have o12 := o9.no c12
  have k12 := trN c9 c12
  have hml := h12.me.rd.len
  have hz12 := k12.size
  refine ⟨_, rfl, ?_⟩
  refine ⟨fun b w' => b = decide (valV ats i.c e < 0 ∨ (e.s.mem.length : Int) ≤ valV ats i.c e) ∧ w' = w12, ?_, ?_⟩
  · rintro b w15 ⟨rfl, rfl⟩
    refine brB_of (fun hf => ?_) (fun hf => ?_)
    · have hf := of_decide_eq_true hf
      refine ⟨_, o12.cell rfl, _, rfl, ?_⟩
      unfold memV; dsimp only; rw [if_pos hf]; exact (EnAns.same h12 _).pre k12
    have hf := of_decide_eq_false hf
    have g0 : 0 ≤ valV ats i.c e := by omega
    have g1 : valV ats i.c e < e.s.mem.length := by omega
    refine ⟨_, o12.cell rfl, brB_of (fun h5 => ?_) (fun h5 => ?_)⟩
    · have h5 : i.a = 5 := by simpa using h5
      refine ⟨S.mem, h12.ob.cell rfl, h12.me.rd.ix g0 (getI_ix g0 g1) fun a _ hcell => ?_⟩
      have q1 := hcell 0 _ rfl
      rw [add0] at q1
      refine ⟨_, q1, ?_⟩
      refine eset_ans h12 h0 (K := fun n w' => ∃ m : Int, Value.int .i64 n = .int .i64 m ∧ EnAns w0 B w p T S rg atS waS ats wl (memV ats wl q i e) m w') (fun w' ha => ⟨_, rfl, ?_⟩)
      unfold memV; dsimp only; rw [if_neg hf, if_pos h5]; exact ha.pre k12
    · have h5 : i.a ≠ 5 := by simpa using h5
      have hCC := hC (by omega)
      intro w25 hw25
      have c25 := dw hw25
      have h25 := h12.no c25
      have o25 := o12.no c25
      have oo : ∀ {w' : World}, Chg No w25 w' → Ob w' b8 (insC i) T_api_Ins := fun c => o25.no c
      refine ⟨fun w' => Chg No w25 w', Chg.refl _ _, S.mem, fun w' c => (h25.no c).ob.cell rfl, _, Ob.held (fun w' c => oo c) rfl, (evalue_any h25 hCC).mono ?_⟩
      rintro x w30 ⟨rfl, c30⟩
      have h30 := h25.no c30
      have o30 := oo c30
      have k30 := trN (trN k12 c25) c30
      obtain ⟨a, ha, _⟩ := h30.me.rd.at (getI_ix g0 g1)
      obtain ⟨f1, f2⟩ := h30.me.set1 ha (k := (valV ats i.c e).toNat) (j := 0) (x' := valV ats i.d e) (u := .int .i64 (valV ats i.d e)) (getI_ix g0 g1) (by decide) rfl
      rw [add0] at f1 f2
      refine ⟨_, rfl, c30, a, ha, g0, by omega, f1, fun w33 hw33 => ?_⟩
      have hb := h30.meB _ (blk_ptr ha)
      have c33 : Chg (fun k => k = a.block) w30 w33 := by rw [hw33]; exact Chg.st (S := fun k => k = a.block) (by rw [add_block])
      obtain ⟨h33, cB⟩ := h30.turn (e' := { e with s := { e.s with mem := e.s.mem.set (valV ats i.c e).toNat (valV ats i.d e) } }) (S' := S) c33 (fun k hk => hk ▸ hb.1) (h30.ob.chg c33 (fun he => hb.2 he.symm)) h.nums (by rw [hw33]; exact f2) (h30.reg.chg c33 (fun k hk he => (h30.rgB k hk).2.2 (he ▸ blk_ptr ha))) ⟨rfl, rfl, rfl⟩ ⟨rfl, rfl, rfl⟩
      have hnb : ¬ B b8 ∨ b8 ≠ a.block := by
        refine Or.inr fun he => ?_
        have := h.me.lt (blk_ptr ha)
        omega
      have o33 : Ob w33 b8 (insC i) T_api_Ins := o30.chg c33 (fun he => by rcases hnb with h | h; exact (h (he ▸ hb.1)).elim; exact h he)
      refine ⟨waS, h33.ob.cell rfl, (contains_any (h33.wa.no h33.base) (valV ats i.c e)).mono ?_⟩
      rintro x w36 ⟨rfl, rfl⟩
      have k33 : Chg B w w33 := k30.trans cB (fun _ _ h => h.elim) (fun _ _ h => h)
      refine ⟨_, rfl, brB_of (fun hw => ?_) (fun hw => ?_)⟩
      · have hw := of_decide_eq_true hw
        refine ⟨h33.ob.wr (by simp [enC]), fun w38 hw38 => ?_⟩
        obtain ⟨o38, c38⟩ := h33.ob.up (k := 22) (vs := [.int .i64 (valV ats i.c e)]) (cs' := enC T S rg atS waS (valV ats i.c e)) (by simp [enC]) rfl hw38
        have hpm : ∀ k, S.mem.blk = some k → k ≠ p := fun k hk => (h33.meB k hk).2
        obtain ⟨h38, cB'⟩ := h33.turn (e' := { e with s := { e.s with mem := e.s.mem.set (valV ats i.c e).toNat (valV ats i.d e) }, hit := valV ats i.c e }) (S' := S) c38 (fun k hk => hk ▸ h.pB) o38 h.nums (h33.me.chg c38 (fun k hk he => hpm k hk he)) (h33.reg.chg c38 (fun k hk he => (h33.rgB k hk).2.1 he)) ⟨rfl, rfl, rfl⟩ ⟨rfl, rfl, rfl⟩
        have o38' : Ob w38 b8 (insC i) T_api_Ins := o33.chg c38 (fun he => by omega)
        refine ⟨_, o38'.cell rfl, _, rfl, ?_⟩
        unfold memV; dsimp only; rw [if_neg hf, if_neg h5, if_pos hw]
        exact ⟨rfl, ⟨S, ⟨rfl, rfl, rfl⟩, h38⟩, k33.trans cB' (fun _ _ h => h) (fun _ _ h => h)⟩
      · have hw := of_decide_eq_false hw
        refine ⟨_, rfl, ?_⟩
        unfold memV; dsimp only; rw [if_neg hf, if_neg h5, if_neg hw]
        exact ⟨rfl, ⟨S, ⟨rfl, rfl, rfl⟩, h33⟩, k33⟩
  · refine brB_of (fun hb => ⟨?_, rfl⟩) (fun hb => ⟨S.mem, h12.ob.cell rfl, ?_, rfl⟩)
    · have hb := of_decide_eq_true hb
      symm; apply decide_eq_true; omega
    · have hb := of_decide_eq_false hb
      rw [Bool.eq_iff_iff]; simp; omega
theorem byte_lit (v : Int) : Value.int .u8 (IntKind.wrap .u8 v) = .int .u8 ((byteC v).toNat : Int) := by
  unfold byteC
  have h : 0 ≤ IntKind.wrap .u8 v ∧ IntKind.wrap .u8 v < 256 := by rw [IntKind.wrap_u8]; omega
  congr 1
  rw [UInt8.toNat_ofNat']
  omega
theorem esay_any (h : EnAt w0 B w p T S rg atS waS ats wl e) (i : In5) (hB : 0 ≤ i.c ∧ i.c < ats.length) (hs : e.s.out.size ≤ 4611686018427387904) :
    Calls Tryz.prog fn_eval_engine_say #[.pointer (some ⟨p, 0, none⟩), .agg (insC i).toArray] w fun x w' => ∃ n : Int, x = .returned (.int .i64 n) ∧ EnAns w0 B w p T S rg atS waS ats wl (tellV ats i e) n w' := by
  refine (eval_engine_say_lift (K := fun r w' => ∃ n : Int, r = .int .i64 n ∧ EnAns w0 B w p T S rg atS waS ats wl (tellV ats i e) n w') ?_).mono (by rintro e w' ⟨r, rfl, n, rfl, h⟩; exact ⟨n, rfl, h⟩)
  unfold eval_engine_say_sh
  intro b7 w8 hb7 hw8
  have o8 : Ob w8 b7 (insC i) T_api_Ins := by rw [hw8, hb7]; exact Ob.new w (insC i) T_api_Ins
  have c8 := al hw8
  have h8 := h.no c8
  refine ⟨_, o8.cell rfl, (evalue_any h8 hB).mono ?_⟩
  rintro x w11 ⟨rfl, c11⟩
  refine ⟨_, rfl, ?_⟩
  intro b13 w14 hb13 hw14
  obtain ⟨l14, c14⟩ := lit8 (byteC (valV ats i.c e)) (byte_lit _) hb13 hw14
  have k14 := trN (trN c8 c11) c14
  have o14 := (o8.no c11).no c14
  have h14 := h.no k14
  refine ⟨_, w14, u8_str (s := ⟨some ⟨b13, 0, none⟩, 1, 1⟩) l14.rd (by simp), ?_⟩
  have hsz := sayV_size i.a (valV ats i.c e)
  refine ⟨fun t w' => t = sayV i.a (valV ats i.c e) ∧ Chg No w14 w', ?_, ?_⟩
  · rintro t w21 ⟨rfl, c21⟩
    have h21 := h14.no c21
    have o21 := o14.no c21
    have k21 := trN k14 c21
    obtain ⟨m1, m2, m3, m4, m5, m6, m7⟩ := h.nums
    refine ⟨S.out, h21.ob.cell rfl, ?_⟩
    rw [m3, wr_in (by omega)]
    refine brB_of (fun hf => ?_) (fun hf => ?_)
    · have hf := of_decide_eq_true hf
      refine ⟨_, o21.cell rfl, _, rfl, ?_⟩
      unfold tellV; dsimp only; rw [if_pos (by omega)]; exact (EnAns.same h21 _).pre k21
    · have hf := of_decide_eq_false hf
      refine ⟨S.out, h21.ob.cell rfl, by rw [m3]; omega, h21.ob.wr (by simp [enC]), fun w26 hw26 => ⟨_, rfl, ?_⟩⟩
      obtain ⟨o26, c26⟩ := h21.ob.up (k := 14) (vs := [.string (S.out ++ sayV i.a (valV ats i.c e))]) (cs' := enC T { S with out := S.out ++ sayV i.a (valV ats i.c e) } rg atS waS e.hit) (by simp [enC]) rfl hw26
      obtain ⟨h26, cB⟩ := h21.turn (e' := { e with s := { e.s with out := e.s.out ++ sayV i.a (valV ats i.c e) } }) (S' := { S with out := S.out ++ sayV i.a (valV ats i.c e) }) c26 (fun k hk => hk ▸ h.pB) o26 ⟨m1, m2, by rw [m3], m4, m5, m6, m7⟩ (h21.me.chg c26 (fun k hk he => (h21.meB k hk).2 he)) (h21.reg.chg c26 (fun k hk he => (h21.rgB k hk).2.1 he)) ⟨rfl, rfl, rfl⟩ ⟨rfl, rfl, rfl⟩
      unfold tellV; dsimp only; rw [if_neg (by omega)]
      exact ⟨rfl, ⟨{ S with out := S.out ++ sayV i.a (valV ats i.c e) }, ⟨rfl, rfl, rfl⟩, h26⟩, k21.trans cB (fun _ _ h => h.elim) (fun _ _ h => h)⟩
  · refine ⟨_, o14.cell rfl, brB_of (fun h11 => ?_) (fun h11 => ?_)⟩
    · have h11 : i.a = 11 := by simpa using h11
      refine (put_any (valV ats i.c e) w14).mono ?_
      rintro x w19 ⟨rfl, c19⟩
      have := putV_size (valV ats i.c e)
      refine ⟨_, rfl, ?_, ?_, c19⟩
      · show _ + (1 : Int) ≤ _; omega
      · unfold sayV; rw [if_pos h11]
    · have h11 : i.a ≠ 11 := by simpa using h11
      refine ⟨?_, Chg.refl _ _⟩
      unfold sayV; rw [if_neg h11]
theorem eask_any (h : EnAt w0 B w p T S rg atS waS ats wl e) {q : Int} (h0 : 0 ≤ q ∧ q < ats.length) (hr : 0 ≤ e.s.read) (hi : e.s.inp.size ≤ 4611686018427387904) :
    Calls Tryz.prog fn_eval_engine_ask #[.pointer (some ⟨p, 0, none⟩), .int .i64 q] w fun x w' => ∃ n : Int, x = .returned (.int .i64 n) ∧ EnAns w0 B w p T S rg atS waS ats wl (askV ats q e) n w' := by
  refine (eval_engine_ask_lift (K := fun r w' => ∃ n : Int, r = .int .i64 n ∧ EnAns w0 B w p T S rg atS waS ats wl (askV ats q e) n w') ?_).mono (by rintro e w' ⟨r, rfl, n, rfl, h⟩; exact ⟨n, rfl, h⟩)
  unfold eval_engine_ask_sh
  intro w3 hw3
  have c3 := dw hw3
  have h3 := h.no c3
  obtain ⟨m1, m2, m3, m4, m5, m6, m7⟩ := h.nums
  refine ⟨S.read, held_Lw (h3.ob.cell rfl), S.inp, held_Lw (h3.ob.cell rfl), ?_⟩
  rw [m4, m5]
  refine brB_of (fun hf => ?_) (fun hf => ?_)
  · have hf := of_decide_eq_true hf
    refine eset_ans h3 h0 (K := fun n w' => ∃ m : Int, Value.int .i64 n = .int .i64 m ∧ EnAns w0 B w p T S rg atS waS ats wl (askV ats q e) m w') (fun w' ha => ⟨_, rfl, ?_⟩)
    unfold askV; rw [if_pos (by omega)]; exact ha.pre c3
  · have hf := of_decide_eq_false hf
    refine ⟨S.read, h3.ob.cell rfl, h3.ob.wr (by simp [enC]), fun w10 hw10 => ?_⟩
    rw [m5, wr_in (by omega)] at hw10
    obtain ⟨o10, c10⟩ := h3.ob.up (k := 16) (vs := [.int .i64 (e.s.read + 1)]) (cs' := enC T { S with read := e.s.read + 1 } rg atS waS e.hit) (by simp [enC]) rfl hw10
    obtain ⟨h10, cB⟩ := h3.turn (e' := { e with s := { e.s with read := e.s.read + 1 } }) (S' := { S with read := e.s.read + 1 }) c10 (fun k hk => hk ▸ h.pB) o10 ⟨m1, m2, m3, m4, rfl, m6, m7⟩ (h3.me.chg c10 (fun k hk he => (h3.meB k hk).2 he)) (h3.reg.chg c10 (fun k hk he => (h3.rgB k hk).2.1 he)) ⟨rfl, rfl, rfl⟩ ⟨rfl, rfl, rfl⟩
    intro w11 hw11
    have c11 := dw hw11
    have h11 := h10.no c11
    refine ⟨S.inp, held_Lw (h11.ob.cell rfl), e.s.read + 1, held_Lw (h11.ob.cell rfl), ?_⟩
    rw [wr_in (x := e.s.read + 1 - 1) (by omega), show e.s.read + 1 - 1 = e.s.read by omega, m4]
    refine ⟨hr, by omega, ?_⟩
    have hsb : 0 ≤ sb e.s.inp e.s.read ∧ sb e.s.inp e.s.read < 256 := by
      unfold sb
      have := ((e.s.inp.data[e.s.read.toNat]?).getD 0).toNat_lt
      omega
    rw [wr_in (by omega)]
    refine eset_ans h11 h0 (K := fun n w' => ∃ m : Int, Value.int .i64 n = .int .i64 m ∧ EnAns w0 B w p T S rg atS waS ats wl (askV ats q e) m w') (fun w' ha => ⟨_, rfl, ?_⟩)
    unfold askV; rw [if_neg (by omega)]
    obtain ⟨g1, ⟨S', g2, g3⟩, g4⟩ := ha
    exact ⟨rfl, ⟨S', g2, g3⟩, ((c3.trans cB (U := B) (fun _ _ h => h.elim) (fun _ _ h => h)).trans c11 (fun _ _ h => h) (fun _ _ h => h.elim)).trans g4 (fun _ _ h => h) (fun _ _ h => h)⟩
end Go.Proofs.YtblmoilneiffgaaGreat

/- A trace's engine: an instruction, an exit, a whole run. -/
set_option maxRecDepth 100000
namespace Go.Proofs.YtblmoilneiffgaaGreat
open Go.RowKit

section
variable {w0 : World} {B : Nat → Prop} {w : World} {p : Nat} {T : TrP} {S : StC} {rg atS waS : Sl} {ats wl : List Int} {e : En}
def TxOk (s : StV) : Prop := s.out.size ≤ 4611686018427387904 ∧ s.inp.size ≤ 4611686018427387904 ∧ 0 ≤ s.read
theorem TxOk.ins {e : En} (h : TxOk e.s) (ats wl : List Int) (q : Int) (i : In5) : TxOk (insV ats wl q i e).2.s := by
  obtain ⟨h1, h2, h3⟩ := h
  have hset : ∀ (v : Int) (e : En), (setV ats q v e).s = e.s := fun _ _ => rfl
  unfold insV
  repeat' split
  all_goals try (first | exact ⟨h1, h2, h3⟩ | (rw [hset]; exact ⟨h1, h2, h3⟩))
  · unfold calcV; dsimp only; repeat' split
    all_goals exact ⟨h1, h2, h3⟩
  · unfold memV; dsimp only; repeat' split
    all_goals exact ⟨h1, h2, h3⟩
  · unfold tellV; dsimp only; split
    · exact ⟨h1, h2, h3⟩
    · refine ⟨?_, h2, h3⟩
      show (e.s.out ++ sayV i.a (valV ats i.c e)).size ≤ _
      rw [ByteArray.size_append]; omega
  · unfold askV; split
    · exact ⟨h1, h2, h3⟩
    · exact ⟨h1, h2, by show 0 ≤ e.s.read + 1; omega⟩
theorem eins_any (h : EnAt w0 B w p T S rg atS waS ats wl e) (q : Int) (i : In5) (ho : InsOk ats.length e.s.stack.length e.s.back.length q i) (hx : TxOk e.s) :
    Calls Tryz.prog fn_eval_engine_ins #[.pointer (some ⟨p, 0, none⟩), .int .i64 q, .agg (insC i).toArray] w fun x w' => ∃ n : Int, x = .returned (.int .i64 n) ∧ EnAns w0 B w p T S rg atS waS ats wl (insV ats wl q i e) n w' := by
  refine (eval_engine_ins_lift (K := fun r w' => ∃ n : Int, r = .int .i64 n ∧ EnAns w0 B w p T S rg atS waS ats wl (insV ats wl q i e) n w') ?_).mono (by rintro e w' ⟨r, rfl, n, rfl, h⟩; exact ⟨n, rfl, h⟩)
  unfold eval_engine_ins_sh
  obtain ⟨h0, hsl, hbl, hB, hC⟩ := ho
  obtain ⟨x1, x2, x3⟩ := hx
  intro b8 w9 hb8 hw9
  have o9 : Ob w9 b8 (insC i) T_api_Ins := by rw [hw9, hb8]; exact Ob.new w (insC i) T_api_Ins
  have c9 := al hw9
  have h9 := h.no c9
  have eqb : ∀ {n : Int}, (i.a == n) = true → i.a = n := fun h => by simpa using h
  have neb : ∀ {n : Int}, (i.a == n) = false → i.a ≠ n := fun h => by simpa using h
  have setk : ∀ {v : Int} {w2 : World}, EnAt w0 B w2 p T S rg atS waS ats wl e → Chg No w w2 → insV ats wl q i e = (-1, setV ats q v e) →
      Calls Tryz.prog fn_eval_engine_set #[.pointer (some ⟨p, 0, none⟩), .int .i64 q, .int .i64 v] w2 fun x w' => ∃ n : Int, x = .returned (.int .i64 n) ∧ ∃ m : Int, Value.int .i64 n = .int .i64 m ∧ EnAns w0 B w p T S rg atS waS ats wl (insV ats wl q i e) m w' := fun h2 c2 he =>
    eset_ans h2 h0 (K := fun n w' => ∃ m : Int, Value.int .i64 n = .int .i64 m ∧ EnAns w0 B w p T S rg atS waS ats wl (insV ats wl q i e) m w') (fun w' ha => ⟨_, rfl, by rw [he]; exact ha.pre c2⟩)
  refine ⟨i.a, o9.cell rfl, fun w' => (i.a = 10 ∨ i.a = 11) ∧ w' = w9, ?_, ?_⟩
  · rintro w87 ⟨h1011, rfl⟩
    refine ⟨_, _, _, _, _, o9.cell rfl, o9.cell rfl, o9.cell rfl, o9.cell rfl, o9.cell rfl, (esay_any h9 i (hB (by omega)) x1).mono ?_⟩
    rintro x w94 ⟨n, rfl, ha⟩
    refine ⟨n, rfl, n, rfl, ?_⟩
    have : insV ats wl q i e = tellV ats i e := by
      unfold insV; rw [if_neg (by omega), if_neg (by omega), if_neg (by omega), if_neg (by omega), if_neg (by omega), if_neg (by omega), if_neg (by omega), if_neg (by omega), if_pos h1011]
    rw [this]; exact ha.pre c9
  refine brB_of (fun h1 => ?_) (fun h1 => brB_of (fun h2 => ?_) (fun h2 => brB_of (fun h3 => ?_) (fun h3 => brB_of (fun h4 => ?_) (fun h4 => ?_))))
  · have h1 := eqb h1
    exact ⟨_, o9.cell rfl, setk h9 c9 (by unfold insV; rw [if_pos h1])⟩
  · have h1 := neb h1
    have h2 := eqb h2
    obtain ⟨g0, g1⟩ := hsl h2
    intro w19 hw19
    have c19 := dw hw19
    have h19 := h9.no c19
    have hl := h19.st.len
    have hcp := h19.st.capL
    refine ⟨S.stack, held_Lw (h19.ob.cell rfl), S.stack, held_Lw (h19.ob.cell rfl), i.b, held_Lw ((o9.no c19).cell rfl), ?_⟩
    rw [hl, wr_in (x := (e.s.stack.length : Int) - 1) (by omega), wr_in (by omega), ← hl]
    refine h19.st.ix (x := getI e.s.stack ((e.s.stack.length : Int) - 1 - i.b)) (by omega) (by rw [hl]; exact getI_ix (by omega) (by omega)) fun a _ hcell => ?_
    have q1 := hcell 0 _ rfl
    rw [add0] at q1
    exact ⟨_, held_Lw q1, setk h19 (trN c9 c19) (by unfold insV; rw [if_neg h1, if_pos h2])⟩
  · have h1 := neb h1
    have h2 := neb h2
    have h3 := eqb h3
    obtain ⟨g0, g1⟩ := hbl h3
    intro w19 hw19
    have c19 := dw hw19
    have h19 := h9.no c19
    have hl := h19.bk.len
    have hcp := h19.bk.capL
    refine ⟨S.back, held_Lw (h19.ob.cell rfl), S.back, held_Lw (h19.ob.cell rfl), i.b, held_Lw ((o9.no c19).cell rfl), ?_⟩
    rw [hl, wr_in (x := (e.s.back.length : Int) - 1) (by omega), wr_in (by omega), ← hl]
    refine h19.bk.ix (x := getI e.s.back ((e.s.back.length : Int) - 1 - i.b)) (by omega) (by rw [hl]; exact getI_ix (by omega) (by omega)) fun a _ hcell => ?_
    have q1 := hcell 0 _ rfl
    rw [add0] at q1
    exact ⟨_, held_Lw q1, setk h19 (trN c9 c19) (by unfold insV; rw [if_neg h1, if_neg h2, if_pos h3])⟩
  · have h1 := neb h1
    have h2 := neb h2
    have h3 := neb h3
    have h4 := eqb h4
    refine ⟨_, _, _, _, _, o9.cell rfl, o9.cell rfl, o9.cell rfl, o9.cell rfl, o9.cell rfl, (ecalc_any h9 i h0 (hB (by omega)) (fun h => hC (Or.inl ⟨h4, h⟩))).mono ?_⟩
    rintro x w43 ⟨n, rfl, ha⟩
    refine ⟨n, rfl, n, rfl, ?_⟩
    have : insV ats wl q i e = calcV ats q i e := by unfold insV; rw [if_neg h1, if_neg h2, if_neg h3, if_pos h4]
    rw [this]; exact ha.pre c9
  · have h1 := neb h1
    have h2 := neb h2
    have h3 := neb h3
    have h4 := neb h4
    have mem : (i.a = 5 ∨ i.a = 6) → eval_engine_ins_j1 b8 p q i.a (fun w' => (i.a = 10 ∨ i.a = 11) ∧ w' = w9) true w9 (fun r w' => ∃ n : Int, r = .int .i64 n ∧ EnAns w0 B w p T S rg atS waS ats wl (insV ats wl q i e) n w') := fun h56 => by
      unfold eval_engine_ins_j1
      refine brB_t ⟨_, _, _, _, _, o9.cell rfl, o9.cell rfl, o9.cell rfl, o9.cell rfl, o9.cell rfl, (ememory_any h9 i h0 (hB (by omega)) h56 (fun h => hC (Or.inr (Or.inl h)))).mono ?_⟩
      rintro x w51 ⟨n, rfl, ha⟩
      refine ⟨n, rfl, n, rfl, ?_⟩
      have : insV ats wl q i e = memV ats wl q i e := by unfold insV; rw [if_neg h1, if_neg h2, if_neg h3, if_neg h4, if_pos h56]
      rw [this]; exact ha.pre c9
    have rest : ¬ (i.a = 5 ∨ i.a = 6) → eval_engine_ins_j1 b8 p q i.a (fun w' => (i.a = 10 ∨ i.a = 11) ∧ w' = w9) false w9 (fun r w' => ∃ n : Int, r = .int .i64 n ∧ EnAns w0 B w p T S rg atS waS ats wl (insV ats wl q i e) n w') := fun h56 => by
      unfold eval_engine_ins_j1
      have oo : ∀ {w' w'' : World}, Chg No w9 w' → Chg No w' w'' → Ob w'' b8 (insC i) T_api_Ins := fun c c' => (o9.no c).no c'
      refine brB_f (brB_of (fun h7 => ?_) (fun h7 => brB_of (fun h8 => ?_) (fun h8 => brB_of (fun h9' => ?_) (fun h9' => brB_of (fun h10 => ⟨Or.inl (eqb h10), rfl⟩) (fun h10 => brB_of (fun h11 => ⟨Or.inr (eqb h11), rfl⟩) (fun h11 => ?_))))))
      · have h7 := eqb h7
        intro w53 hw53
        have c53 := dw hw53
        refine ⟨fun w' => Chg No w53 w', Chg.refl _ _, _, Ob.held (fun w' c => oo c53 c) rfl, _, Ob.held (fun w' c => oo c53 c) rfl, (evalue_any (h9.no c53) (hB (by omega))).mono ?_⟩
        rintro x w58 ⟨rfl, c58⟩
        refine ⟨_, rfl, c58, (emust_any _ _ _).mono ?_⟩
        rintro x w61 ⟨rfl, rfl⟩
        refine ⟨_, rfl, _, rfl, ?_⟩
        have : insV ats wl q i e = (if valV ats i.c e ≠ 0 then -1 else i.e, e) := by unfold insV; rw [if_neg h1, if_neg h2, if_neg h3, if_neg h4, if_neg h56, if_pos h7]
        rw [this]
        have hh := (EnAns.no ((h9.no c53).no c58) (Chg.refl No _) (if valV ats i.c e ≠ 0 then -1 else i.e)).pre (trN (trN c9 c53) c58)
        have he : (if (valV ats i.c e != 0) = true then (-1 : Int) else i.e) = (if valV ats i.c e ≠ 0 then -1 else i.e) := by simp
        rw [he]; exact hh
      · have h7 := neb h7
        have h8 := eqb h8
        intro w53 hw53
        have c53 := dw hw53
        refine ⟨fun w' => Chg No w53 w', Chg.refl _ _, _, Ob.held (fun w' c => oo c53 c) rfl, _, Ob.held (fun w' c => oo c53 c) rfl, (evalue_any (h9.no c53) (hB (by omega))).mono ?_⟩
        rintro x w58 ⟨rfl, c58⟩
        refine ⟨_, rfl, c58, (emust_any _ _ _).mono ?_⟩
        rintro x w61 ⟨rfl, rfl⟩
        refine ⟨_, rfl, _, rfl, ?_⟩
        have : insV ats wl q i e = (if valV ats i.c e = 0 then -1 else i.e, e) := by unfold insV; rw [if_neg h1, if_neg h2, if_neg h3, if_neg h4, if_neg h56, if_neg h7, if_pos h8]
        rw [this]
        have hh := (EnAns.no ((h9.no c53).no c58) (Chg.refl No _) (if valV ats i.c e = 0 then -1 else i.e)).pre (trN (trN c9 c53) c58)
        have he : (if (valV ats i.c e == 0) = true then (-1 : Int) else i.e) = (if valV ats i.c e = 0 then -1 else i.e) := by simp
        rw [he]; exact hh
      · have h7 := neb h7
        have h8 := neb h8
        have h9e := eqb h9'
        intro w53 hw53
        have c53 := dw hw53
        have hCC := hC (Or.inr (Or.inr h9e))
        refine ⟨fun w' => Chg No w53 w', Chg.refl _ _, _, Ob.held (fun w' c => oo c53 c) rfl, _, Ob.held (fun w' c => oo c53 c) rfl, _, Ob.held (fun w' c => oo c53 c) rfl, (evalue_any (h9.no c53) (hB (by omega))).mono ?_⟩
        rintro x w58 ⟨rfl, c58⟩
        refine ⟨_, rfl, c58, (evalue_any ((h9.no c53).no c58) hCC).mono ?_⟩
        rintro x w82 ⟨rfl, c82⟩
        refine ⟨_, rfl, trN c58 c82, (emust_any _ _ _).mono ?_⟩
        rintro x w61 ⟨rfl, rfl⟩
        refine ⟨_, rfl, _, rfl, ?_⟩
        have : insV ats wl q i e = (if valV ats i.c e = valV ats i.d e then -1 else i.e, e) := by unfold insV; rw [if_neg h1, if_neg h2, if_neg h3, if_neg h4, if_neg h56, if_neg h7, if_neg h8, if_pos h9e]
        rw [this]
        have hh := (EnAns.no (((h9.no c53).no c58).no c82) (Chg.refl No _) (if valV ats i.c e = valV ats i.d e then -1 else i.e)).pre (trN (trN (trN c9 c53) c58) c82)
        have he : (if (valV ats i.c e == valV ats i.d e) = true then (-1 : Int) else i.e) = (if valV ats i.c e = valV ats i.d e then -1 else i.e) := by simp
        rw [he]; exact hh
      · have h7 := neb h7
        have h8 := neb h8
        have h9e := neb h9'
        have h10 := neb h10
        have h11 := neb h11
        refine (eask_any h9 h0 x3 x2).mono ?_
        rintro x w97 ⟨n, rfl, ha⟩
        refine ⟨n, rfl, n, rfl, ?_⟩
        have : insV ats wl q i e = askV ats q e := by unfold insV; rw [if_neg h1, if_neg h2, if_neg h3, if_neg h4, if_neg h56, if_neg h7, if_neg h8, if_neg h9e, if_neg (by omega)]
        rw [this]; exact ha.pre c9
    refine brB_of (fun h5 => ?_) (fun h5 => ?_)
    · rw [h5]; exact mem (Or.inl (eqb h5))
    · have h5 := neb h5
      cases h6 : (i.a == (6 : Int)) with
      | true => exact mem (Or.inr (eqb h6))
      | false => exact rest (by have := neb h6; omega)
def PlOk (n : Nat) (l : List Int) : Prop := ∀ x ∈ l, 0 ≤ x ∧ x < n
theorem evalues_any (h : EnAt w0 B w p T S rg atS waS ats wl e) {l : Sl} {xs : List Int} (hl : Rd intE w l xs) (hxs : PlOk ats.length xs) (hn : xs.length ≤ 1000000) :
    Calls Tryz.prog fn_eval_engine_values #[.pointer (some ⟨p, 0, none⟩), l.val] w fun x w' => ∃ s : Sl, x = .returned s.val ∧ Ow intE w' s (valsV ats xs e) ∧ Chg No w w' ∧ (∀ k, s.blk = some k → w.heap.size ≤ k) := by
  refine (eval_engine_values_lift (K := fun r w' => ∃ s : Sl, r = s.val ∧ Ow intE w' s (valsV ats xs e) ∧ Chg No w w' ∧ (∀ k, s.blk = some k → w.heap.size ≤ k)) ?_).mono (by rintro e w' ⟨r, rfl, n, rfl, h⟩; exact ⟨n, rfl, h⟩)
  unfold eval_engine_values_sh
  have hll := hl.len
  have hcap := hl.capL
  refine ⟨fun o n w' => ∃ k : Nat, n = k ∧ k ≤ xs.length ∧ Ow intE w' o (valsV ats (xs.take k) e) ∧ Chg No w w' ∧ (∀ k, o.blk = some k → w.heap.size ≤ k), fun _ n _ => xs.length - n.toNat, ⟨0, rfl, Nat.zero_le _, Ow.nil _ _, Chg.refl _ _, fun k hk => by cases hk⟩, ?_⟩
  rintro o n w3 ⟨k, rfl, hk, ho, hc, hb⟩
  refine brB_of (fun hlt => ?_) (fun hlt => ?_)
  · have hlt : k < xs.length := by simp at hlt; omega
    obtain ⟨x, hx⟩ : ∃ x, xs[k]? = some x := ⟨_, List.getElem?_eq_getElem hlt⟩
    refine (hl.no hc).ix (i := (k : Int)) (by omega) (by rw [Int.toNat_natCast]; exact hx) fun a _ hcell => ?_
    have q1 := hcell 0 _ rfl
    rw [add0] at q1
    refine ⟨x, q1, (evalue_any (h.no hc) (hxs x (List.mem_of_getElem? hx))).mono ?_⟩
    rintro y w9 ⟨rfl, c9⟩
    refine ⟨_, rfl, ?_⟩
    intro b11 w12 hb11 hw12
    have c12 := al hw12
    have l12 : Ow intE w12 ⟨some ⟨b11, 0, none⟩, 1, 1⟩ [valV ats x e] := by
      rw [hw12, hb11]; exact Ow.lit (E := intE) w9 [valV ats x e] [.int .i64 (valV ats x e)] rfl (by show 1 ≤ maxLen; unfold maxLen; omega)
    have hlen : (valsV ats (xs.take k) e).length = k := by unfold valsV; rw [List.length_map, List.length_take]; omega
    refine app_ok intOk rfl rfl (s := o) (t := ⟨some ⟨b11, 0, none⟩, 1, 1⟩) ((ho.no c9).no c12) l12.rd (by rw [hlen]; show (k + 1) * 8 ≤ _; omega) (by rw [hlen]; show k + 1 ≤ _; unfold maxLen; omega) ?_
    intro s13 w14 h13 c14 b13
    have z3 := hc.size
    have z9 := c9.size
    have z12 := c12.size
    rw [wr_in (by omega)]
    refine ⟨⟨k + 1, by omega, by omega, ?_, (trN (trN hc c9) c12).trans c14 (fun _ _ h => h) (fun j hj he => by have := hb j he; omega), fun j hj => ?_⟩, by show xs.length - Int.toNat ((k : Int) + 1) < xs.length - Int.toNat (k : Int); omega⟩
    · have : xs.take (k + 1) = xs.take k ++ [x] := by rw [List.take_add_one, hx]; rfl
      rw [this]; unfold valsV at h13 ⊢; rw [List.map_append]; exact h13
    · rcases b13 with hh | hh
      · exact hb j (hh ▸ hj)
      · have := Option.some.inj (hh.symm.trans hj); omega
  · have hlt : k = xs.length := by simp at hlt; omega
    subst hlt
    rw [List.take_length] at ho
    exact ⟨o, rfl, ho, hc, hb⟩
end
end Go.Proofs.YtblmoilneiffgaaGreat

/- A trace's engine: an exit, a whole run. -/
set_option maxRecDepth 100000
namespace Go.Proofs.YtblmoilneiffgaaGreat
open Go.RowKit

def leaveR (S : StC) (x steps hit : Int) : Value := .tuple #[.agg (stC S).toArray, .agg #[.int .i64 x, .int .i64 steps, .bool (decide (hit ≥ 0))], .int .i64 hit]
theorem StOw.wid {D D' : Nat → Prop} {w : World} {S : StC} {s : StV} (h : StOw D w S s) (hd : ∀ k, D k → D' k) : StOw D' w S s :=
  ⟨h.nums, h.st, h.bk, h.me, fun k hk => hd _ (h.stD k hk), fun k hk => ⟨hd _ (h.bkD k hk).1, (h.bkD k hk).2⟩, fun k hk => ⟨hd _ (h.meD k hk).1, (h.meD k hk).2⟩⟩
def ExOk (v : TrG) (n : Nat) (x : Int) : Prop := (0 ≤ x ∧ x < v.outs.length) ∧ PlOk n (outAt v x).stack ∧ PlOk n (outAt v x).back ∧ (outAt v x).stack.length ≤ 100000 ∧ (outAt v x).back.length ≤ 100000
section
variable {w0 : World} {B : Nat → Prop} {w : World} {p : Nat} {T : TrP} {S : StC} {rg atS waS : Sl} {ats wl : List Int} {e : En}
theorem valsV_len (ats l : List Int) (e : En) : (valsV ats l e).length = l.length := by unfold valsV; rw [List.length_map]
theorem eleave_any {D : Nat → Prop} (h : EnAt w0 B w p T S rg atS waS ats wl e) {v : TrG} (ht : TrIs D w0 T v) (hB : ∀ k, B k → k < w.heap.size) (x : Int) (hx : ExOk v ats.length x) (hsl : 0 ≤ v.slots ∧ v.slots ≤ e.s.stack.length) (hbl : 0 ≤ v.backs ∧ v.backs ≤ e.s.back.length) (n1 : e.s.stack.length ≤ 100000) (n2 : e.s.back.length ≤ 100000) :
    Calls Tryz.prog fn_eval_engine_leave #[.pointer (some ⟨p, 0, none⟩), .int .i64 x] w fun r w' => ∃ S' : StC, r = .returned (leaveR S' x (outAt v x).steps e.hit) ∧ StOw (fun k => B k ∨ w.heap.size ≤ k) w' S' (leaveV v ats x e) ∧ Chg B w w' := by
  refine (eval_engine_leave_lift (K := fun r w' => ∃ S' : StC, r = leaveR S' x (outAt v x).steps e.hit ∧ StOw (fun k => B k ∨ w.heap.size ≤ k) w' S' (leaveV v ats x e) ∧ Chg B w w') ?_).mono (by rintro e w' ⟨r, rfl, n, rfl, h⟩; exact ⟨n, rfl, h⟩)
  unfold eval_engine_leave_sh
  obtain ⟨⟨hx0, hx1⟩, hp1, hp2, hn1, hn2⟩ := hx
  intro b3 w4 hb3 hw4 b5 w6 hb5 hw6
  have z4 : w4.heap.size = w.heap.size + 1 := by rw [hw4]; simp
  have z6 : w6.heap.size = w4.heap.size + 1 := by rw [hw6]; simp
  have c6 := trN (al hw4) (al hw6)
  have h6 := h.no c6
  have o3 : Ob w6 b3 (stC st0) T_api_State := by
    have : Ob w4 b3 (stC st0) T_api_State := by rw [hw4, hb3]; exact Ob.new w (stC st0) T_api_State
    exact this.no (al hw6)
  have o5 : Ob w6 b5 [.int .i64 0, .int .i64 0, .bool false] T_eval_Done := by rw [hw6, hb5]; exact Ob.new w4 [.int .i64 0, .int .i64 0, .bool false] T_eval_Done
  obtain ⟨os, hos, hov⟩ := ht.outs
  have hos6 := hos.no h6.base
  obtain ⟨t1, t2, t3, t4, t5, t6⟩ := ht.nums
  obtain ⟨m1, m2, m3, m4, m5, m6, m7⟩ := h.nums
  obtain ⟨o, ho⟩ : ∃ o, os[x.toNat]? = some o := ⟨_, List.getElem?_eq_getElem (by rw [hov.1]; omega)⟩
  have hvo : v.outs[x.toNat]? = some (outAt v x) := by
    unfold outAt; rw [List.getD_eq_getElem?_getD, List.getElem?_eq_getElem (by omega)]; rfl
  obtain ⟨u1, u2, u3, u4, _, _⟩ := hov.2 _ _ _ ho hvo
  refine ⟨T.outs, h6.ob.cell rfl, hos6.ix hx0 ho fun a _ hcell => ?_⟩
  have q0 := hcell 0 _ rfl
  rw [add0] at q0
  refine ⟨o.ip, o.steps, o.stack, o.back, q0, hcell 1 _ rfl, hcell 2 _ rfl, hcell 3 _ rfl, ?_⟩
  intro b13 w14 hb13 hw14
  have hn14 := fun (w2 : World) => newOb (w2 := w2) (T := T_api_Out) (ouC ⟨0, 0, nilS, nilS⟩) (ouC o) rfl hb13 hw14
  refine ⟨(hn14 w14).1, fun w15 hw15 => ?_⟩
  obtain ⟨o15, c15⟩ := (hn14 w15).2 hw15
  have h15 := h6.no c15
  have z15 := c15.size
  have hb13lt := o15.lt
  have z14 : w14.heap.size = w6.heap.size + 1 := by rw [hw14]; simp
  have hplt := h.ob.lt
  refine ⟨o.ip, o15.cell rfl, h15.ob.wr (by simp [enC]), fun w17 hw17 => ?_⟩
  obtain ⟨o17, c17⟩ := h15.ob.up (k := 9) (vs := [.int .i64 o.ip]) (cs' := enC T { S with ip := o.ip } rg atS waS e.hit) (by simp [enC]) rfl hw17
  obtain ⟨h17, cB17⟩ := h15.turn (e' := { e with s := { e.s with ip := o.ip } }) (S' := { S with ip := o.ip }) c17 (fun k hk => hk ▸ h.pB) o17 ⟨rfl, m2, m3, m4, m5, m6, m7⟩ (h15.me.chg c17 (fun k hk he => (h15.meB k hk).2 he)) (h15.reg.chg c17 (fun k hk he => (h15.rgB k hk).2.1 he)) ⟨rfl, rfl, rfl⟩ ⟨rfl, rfl, rfl⟩
  have ob17 := o15.chg c17 (fun he => by omega)
  intro w18 hw18
  have c18 := dw hw18
  have h18 := h17.no c18
  have hsl18 := h18.st.len
  have hsc18 := h18.st.capL
  have hbl18 := h18.bk.len
  have hbc18 := h18.bk.capL
  have hst : { S with ip := o.ip }.stack = S.stack := rfl
  have e1 : wr ((S.stack.len : Int) - T.slots) = ((e.s.stack.length - v.slots.toNat : Nat) : Int) := by
    have : S.stack.len = e.s.stack.length := hsl18
    rw [t2, this, wr_in (by omega)]; omega
  have e2 : wr ((S.back.len : Int) - T.backs) = ((e.s.back.length - v.backs.toNat : Nat) : Int) := by
    have : S.back.len = e.s.back.length := hbl18
    rw [t3, this, wr_in (by omega)]; omega
  refine ⟨S.stack, held_Lw (h18.ob.cell rfl), S.stack, held_Lw (h18.ob.cell rfl), T.slots, held_Lw (h18.ob.cell rfl), ?_⟩
  rw [e1]
  have hcs : e.s.stack.length ≤ S.stack.cap := hsc18.1
  have hcb : e.s.back.length ≤ S.back.cap := hbc18.1
  refine ⟨by omega, by omega, ?_⟩
  intro w22 hw22
  have c22 := dw hw22
  have h22 := h18.no c22
  refine ⟨S.back, held_Lw (h22.ob.cell rfl), S.back, held_Lw (h22.ob.cell rfl), T.backs, held_Lw (h22.ob.cell rfl), ?_⟩
  rw [e2]
  refine ⟨by omega, by omega, ?_⟩
  intro w26 hw26
  have c26 := dw hw26
  have h26 := h22.no c26
  have k26 := trN (trN c18 c22) c26
  have ob26 := ob17.no k26
  have z17 := c17.size
  have z26 := k26.size
  rw [sub0, Int.toNat_natCast]
  have hr26 : Rd intE w26 ⟨S.stack.ptr, e.s.stack.length - v.slots.toNat, S.stack.cap⟩ (e.s.stack.take (e.s.stack.length - v.slots.toNat)) := h26.st.take (n := e.s.stack.length - v.slots.toNat) (Nat.sub_le e.s.stack.length v.slots.toNat)
  refine ⟨fun w' => Chg No w26 w', Chg.refl _ _, o.stack, Ob.held (fun w' c => ob26.no c) rfl, (clone_ints hr26 (by rw [List.length_take]; omega)).mono ?_⟩
  rintro r w30 ⟨s31, rfl, g31, c30, b31, _⟩
  have h30 := h26.no c30
  refine ⟨s31, rfl, c30, (evalues_any h30 (u3.no h30.base) hp1 (by omega)).mono ?_⟩
  rintro r w33 ⟨s34, rfl, g34, c33, b34⟩
  refine ⟨s34, rfl, trN c30 c33, ?_⟩
  have hvl := valsV_len ats (outAt v x).stack e
  have hvl' : (valsV ats (outAt v x).stack { e with s := { e.s with ip := o.ip } }).length = (outAt v x).stack.length := valsV_len _ _ _
  refine app_ok intOk rfl rfl (g31.no c33) g34.rd (by rw [hvl', List.length_take]; show (min _ _ + _) * 8 ≤ _; omega) (by rw [hvl', List.length_take]; unfold maxLen; omega) ?_
  intro s35 w36 g36 c36 b36
  have z30 := c30.size
  have z33 := c33.size
  have z36 := c36.size
  have k36 : Chg No w26 w36 := (trN c30 c33).trans c36 (fun _ _ h => h) (fun j hj he => by have := b31 j he; omega)
  have h36 := h26.no k36
  have b35 : ∀ k, s35.blk = some k → w26.heap.size ≤ k := fun k hk => by
    rcases b36 with hh | hh
    · have := b31 k (hh ▸ hk); omega
    · have := Option.some.inj (hh.symm.trans hk); omega
  refine ⟨k36, h36.ob.wr (by simp [enC]), fun w37 hw37 => ?_⟩
  obtain ⟨o37, c37⟩ := h36.ob.up (k := 11) (vs := [s35.val]) (cs' := enC T { S with ip := o.ip, stack := s35 } rg atS waS e.hit) (by simp [enC]) rfl hw37
  have nB : ∀ k, w26.heap.size ≤ k → ¬ B k := fun k h hb => by have := hB k hb; omega
  have g37 := g36.chg c37 (fun k hk he => by have := b35 k hk; omega)
  have h37 : EnAt w0 B w37 p T { S with ip := o.ip, stack := s35 } rg atS waS ats wl { e with s := { e.s with ip := o.ip, stack := e.s.stack.take (e.s.stack.length - v.slots.toNat) ++ valsV ats (outAt v x).stack e } } := by
    refine ⟨o37, ⟨rfl, m2, m3, m4, m5, m6, m7⟩, g37.rd, h36.bk.chg c37 (fun k hk he => h36.bkN k hk (he ▸ h.pB)), h36.me.chg c37 (fun k hk he => (h36.meB k hk).2 he), h36.reg.chg c37 (fun k hk he => (h36.rgB k hk).2.1 he), h36.at', h36.wa, h36.base.trans c37 (fun _ _ h => h) (fun k hk he => by have := h.bN k (he ▸ h.pB); omega), h.bN, h.pB, h36.meB, h36.rgB, fun k hk hb => nB k (b35 k hk) hb, h36.bkN, h36.ok⟩
  have ob37 := (ob26.no k36).chg c37 (fun he => by omega)
  have z37 := c37.size
  intro w38 hw38
  have c38 := dw hw38
  have h38 := h37.no c38
  have g38 := g37.no c38
  have ob38 := ob37.no c38
  have z38 := c38.size
  rw [sub0, Int.toNat_natCast]
  have hr38 : Rd intE w38 ⟨S.back.ptr, e.s.back.length - v.backs.toNat, S.back.cap⟩ (e.s.back.take (e.s.back.length - v.backs.toNat)) := h38.bk.take (n := e.s.back.length - v.backs.toNat) (Nat.sub_le e.s.back.length v.backs.toNat)
  refine ⟨fun w' => Chg No w38 w', Chg.refl _ _, o.back, Ob.held (fun w' c => ob38.no c) rfl, (clone_ints hr38 (by rw [List.length_take]; omega)).mono ?_⟩
  rintro r w42 ⟨s43, rfl, g43, c42, b43, _⟩
  have h42 := h38.no c42
  refine ⟨s43, rfl, c42, (evalues_any h42 (u4.no h42.base) hp2 (by omega)).mono ?_⟩
  rintro r w45 ⟨s46, rfl, g46, c45, b46⟩
  refine ⟨s46, rfl, trN c42 c45, ?_⟩
  have hvb : ∀ e' : En, e'.regs = e.regs → valsV ats (outAt v x).back e' = valsV ats (outAt v x).back e := fun e' he => by unfold valsV valV; rw [he]
  have g46 : Ow intE w45 s46 (valsV ats (outAt v x).back e) := g46
  refine app_ok intOk rfl rfl (g43.no c45) g46.rd (by rw [valsV_len, List.length_take]; show (min _ _ + _) * 8 ≤ _; omega) (by rw [valsV_len, List.length_take]; unfold maxLen; omega) ?_
  intro s47 w48 g48 c48 b48
  have z42 := c42.size
  have z45 := c45.size
  have z48 := c48.size
  have k48 : Chg No w38 w48 := (trN c42 c45).trans c48 (fun _ _ h => h) (fun j hj he => by have := b43 j he; omega)
  have h48 := h38.no k48
  have g48' := g38.no k48
  have b47 : ∀ k, s47.blk = some k → w38.heap.size ≤ k := fun k hk => by
    rcases b48 with hh | hh
    · have := b43 k (hh ▸ hk); omega
    · have := Option.some.inj (hh.symm.trans hk); omega
  refine ⟨k48, h48.ob.wr (by simp [enC]), fun w49 hw49 => ?_⟩
  obtain ⟨o49, c49⟩ := h48.ob.up (k := 12) (vs := [s47.val]) (cs' := enC T { S with ip := o.ip, stack := s35, back := s47 } rg atS waS e.hit) (by simp [enC]) rfl hw49
  have g49 := g48.chg c49 (fun k hk he => by have := b47 k hk; omega)
  have g49' := g48'.chg c49 (fun k hk he => by have := b35 k hk; omega)
  have hme49 : Ow intE w49 S.mem e.s.mem := h48.me.chg c49 (fun k hk he => (h48.meB k hk).2 he)
  have ob49 := (ob38.no k48).chg c49 (fun he => by omega)
  have z49 := c49.size
  -- the two result variables, untouched so far
  have cw49 : Chg B w6 w49 := by
    refine ((((c15.trans c17 (U := B) (fun _ _ h => h.elim) (fun k _ hk => by have hk : k = p := hk; rw [hk]; exact h.pB)).trans k26 (fun _ _ h => h) (fun _ _ h => h.elim)).trans (k36.trans c37 (U := B) (fun _ _ h => h.elim) (fun k _ hk => by have hk : k = p := hk; rw [hk]; exact h.pB)) (fun _ _ h => h) (fun _ _ h => h)).trans (c38.trans k48 (U := B) (fun _ _ h => h.elim) (fun _ _ h => h.elim)) (fun _ _ h => h) (fun _ _ h => h)).trans c49 (fun _ _ h => h) (fun k _ hk => by have hk : k = p := hk; rw [hk]; exact h.pB)
  have o3' := o3.chg cw49 (fun hb => by have := hB _ hb; omega)
  have o5' := o5.chg cw49 (fun hb => by have := hB _ hb; omega)
  intro w50 hw50
  have c50 := dw hw50
  have o50 := o49.no c50
  have ob50 := ob49.no c50
  have hold : ∀ {w' : World}, Chg (fun k => k = b3 ∨ k = b5) w50 w' → Ob w' p (enC T { S with ip := o.ip, stack := s35, back := s47 } rg atS waS e.hit) T_eval_engine := fun c => o50.chg c (fun he => by omega)
  have hold' : ∀ {w' : World}, Chg (fun k => k = b3 ∨ k = b5) w50 w' → Ob w' b13 (ouC o) T_api_Out := fun c => ob50.chg c (fun he => by omega)
  refine ⟨fun w' => Chg (fun k => k = b3 ∨ k = b5) w50 w', Chg.refl _ _, o.ip, S.handler, s35, s47, S.mem, S.out, S.inp, S.read, S.status, S.code, fun w' c => (hold c).cell rfl, fun w' c => (hold c).cell rfl, fun w' c => (hold c).cell rfl, fun w' c => (hold c).cell rfl, fun w' c => (hold c).cell rfl, fun w' c => (hold c).cell rfl, fun w' c => (hold c).cell rfl, fun w' c => (hold c).cell rfl, fun w' c => (hold c).cell rfl, fun w' c => (hold c).cell rfl, o.steps, fun w' c => (hold' c).cell rfl, e.hit, fun w' c => (hold c).cell rfl, e.hit, fun w' c => (hold c).cell rfl, ?_⟩
  have o3w := o3'.no c50
  have o5w := o5'.no c50
  have fin : ∀ (w65 w66 : World), w65 = stW w50 ⟨b3, 0, none⟩ 0 (stC { S with ip := o.ip, stack := s35, back := s47 }) → w66 = stW w65 ⟨b5, 0, none⟩ 0 [.int .i64 x, .int .i64 o.steps, .bool (decide (e.hit ≥ 0))] →
      Chg (fun k => k = b3 ∨ k = b5) w50 w65 ∧ wrOk w65 ⟨b5, 0, none⟩ 3 ∧ Chg (fun k => k = b3 ∨ k = b5) w50 w66 ∧ eval_engine_leave_j1 b3 b5 e.hit w66 (fun r w' => ∃ S' : StC, r = leaveR S' x (outAt v x).steps e.hit ∧ StOw (fun k => B k ∨ w.heap.size ≤ k) w' S' (leaveV v ats x e) ∧ Chg B w w') := by
    intro w65 w66 hw65 hw66
    obtain ⟨q3, d3⟩ := o3w.up (k := 0) (vs := stC { S with ip := o.ip, stack := s35, back := s47 }) (cs' := stC { S with ip := o.ip, stack := s35, back := s47 }) (by simp [stC]) rfl hw65
    have q5 := o5w.chg d3 (fun he => by omega)
    obtain ⟨q5', d5⟩ := q5.up (k := 0) (vs := [.int .i64 x, .int .i64 o.steps, .bool (decide (e.hit ≥ 0))]) (cs' := [.int .i64 x, .int .i64 o.steps, .bool (decide (e.hit ≥ 0))]) (by simp) rfl hw66
    have q3' := q3.chg d5 (fun he => by omega)
    have d66 : Chg (fun k => k = b3 ∨ k = b5) w50 w66 := d3.trans d5 (fun _ _ h => Or.inl h) (fun _ _ h => Or.inr h)
    refine ⟨d3.mono (fun _ _ h => Or.inl h), q5.wr (by simp), d66, ?_⟩
    unfold eval_engine_leave_j1
    refine ⟨_, _, _, _, _, _, _, _, _, _, q3'.cell rfl, q3'.cell rfl, q3'.cell rfl, q3'.cell rfl, q3'.cell rfl, q3'.cell rfl, q3'.cell rfl, q3'.cell rfl, q3'.cell rfl, q3'.cell rfl, _, _, _, q5'.cell rfl, q5'.cell rfl, q5'.cell rfl, { S with ip := o.ip, stack := s35, back := s47 }, ?_, ?_, ?_⟩
    · rw [← u2]; rfl
    · have t66 : Chg (fun k => k = b3 ∨ k = b5) w49 w66 := c50.trans d66 (fun _ _ h => h.elim) (fun _ _ h => h)
      refine ⟨⟨u1, m2, m3, m4, m5, m6, m7⟩, g49'.chg t66 (fun k hk he => by have := b35 k hk; omega), g49.chg t66 (fun k hk he => by have := b47 k hk; omega), hme49.chg t66 (fun k hk he => by have := hB k (h.meB k hk).1; omega), fun k hk => Or.inr ?_, fun k hk => ⟨Or.inr ?_, fun he => ?_⟩, fun k hk => ⟨Or.inl (h.meB k hk).1, fun he => ?_, fun he => ?_⟩⟩
      · have := b35 k hk; omega
      · have := b47 k hk; omega
      · have := b47 k hk; have := g37.lt he; omega
      · exact nB k (b35 k he) (h.meB k hk).1
      · have := b47 k he; exact nB k (by omega) (h.meB k hk).1
    · exact ((c6.trans cw49 (U := B) (fun _ _ h => h.elim) (fun _ _ h => h)).trans c50 (fun _ _ h => h) (fun _ _ h => h.elim)).trans d66 (fun _ _ h => h) (fun k hk he => by omega)
  refine ⟨⟨Chg.refl _ _, o3w.wr (by simp [stC]), fun w65 hw65 => ?_⟩, o3w.wr (by simp [stC]), fun w65 hw65 => ?_⟩
  · obtain ⟨f1, f2, _, _⟩ := fin w65 _ hw65 rfl
    exact ⟨f1, f2, fun w66 hw66 => ⟨(fin w65 w66 hw65 hw66).2.2.1, (fin w65 w66 hw65 hw66).2.2.2⟩⟩
  · obtain ⟨f1, f2, _, _⟩ := fin w65 _ hw65 rfl
    exact ⟨f1, f1, f2, fun w66 hw66 => ⟨(fin w65 w66 hw65 hw66).2.2.1, (fin w65 w66 hw65 hw66).2.2.2⟩⟩
end
end Go.Proofs.YtblmoilneiffgaaGreat

/- eval.Through and eval.Run: a whole run of a trace. -/
set_option maxRecDepth 100000
namespace Go.Proofs.YtblmoilneiffgaaGreat
open Go.RowKit

def thrR (S : StC) (x steps : Int) (h : Bool) (hit : Int) : Value := .tuple #[.agg (stC S).toArray, .agg #[.int .i64 x, .int .i64 steps, .bool h], .int .i64 hit]
theorem st_done {wA : World} {b27 b29 : Nat} (S' : StC) (x st : Int) (hb : Bool) (hx : Int) (o27 : Ob wA b27 (stC st0) T_api_State) (o29 : Ob wA b29 [.int .i64 0, .int .i64 0, .bool false] T_eval_Done) (hne : b27 ≠ b29) {K : Value → World → Prop} (k : ∀ wB, Chg (fun j => j = b27 ∨ j = b29) wA wB → K (thrR S' x st hb hx) wB) :
    wrOk wA ⟨b27, 0, none⟩ 10 ∧ ∀ w162 : World, w162 = stW wA ⟨b27, 0, none⟩ 0 (stC S') →
 wrOk w162 ⟨b29, 0, none⟩ 3 ∧ ∀ w163 : World, w163 = stW w162 ⟨b29, 0, none⟩ 0 [.int .i64 x, .int .i64 st, .bool hb] →
 ∃ r_Ip164 : Int, ∃ r_Handler165 : Int, ∃ r_Stack166 : Sl, ∃ r_Back167 : Sl, ∃ r_Mem168 : Sl, ∃ r_Out169 : ByteArray, ∃ r_In170 : ByteArray, ∃ r_Read171 : Int, ∃ r_Status172 : Int, ∃ r_Code173 : Int, w163.cell? ⟨b27, 0, none⟩ = some (.int .i64 r_Ip164) ∧ w163.cell? ⟨b27, 1, none⟩ = some (.int .i64 r_Handler165) ∧ w163.cell? ⟨b27, 2, none⟩ = some (r_Stack166.val) ∧ w163.cell? ⟨b27, 3, none⟩ = some (r_Back167.val) ∧ w163.cell? ⟨b27, 4, none⟩ = some (r_Mem168.val) ∧ w163.cell? ⟨b27, 5, none⟩ = some (.string r_Out169) ∧ w163.cell? ⟨b27, 6, none⟩ = some (.string r_In170) ∧ w163.cell? ⟨b27, 7, none⟩ = some (.int .i64 r_Read171) ∧ w163.cell? ⟨b27, 8, none⟩ = some (.int .i64 r_Status172) ∧ w163.cell? ⟨b27, 9, none⟩ = some (.int .i64 r_Code173) ∧
 ∃ r_Exit174 : Int, ∃ r_Steps175 : Int, ∃ r_Hit176 : Bool, w163.cell? ⟨b29, 0, none⟩ = some (.int .i64 r_Exit174) ∧ w163.cell? ⟨b29, 1, none⟩ = some (.int .i64 r_Steps175) ∧ w163.cell? ⟨b29, 2, none⟩ = some (.bool r_Hit176) ∧
 K (.tuple #[.agg #[.int .i64 r_Ip164, .int .i64 r_Handler165, r_Stack166.val, r_Back167.val, r_Mem168.val, .string r_Out169, .string r_In170, .int .i64 r_Read171, .int .i64 r_Status172, .int .i64 r_Code173], .agg #[.int .i64 r_Exit174, .int .i64 r_Steps175, .bool r_Hit176], .int .i64 hx]) w163 := by
  refine ⟨o27.wr (by simp [stC]), fun w162 hw162 => ?_⟩
  obtain ⟨p27, d27⟩ := o27.up (k := 0) (vs := stC S') (cs' := stC S') (by simp [stC]) rfl hw162
  have p29 := o29.chg d27 (fun he => hne he.symm)
  refine ⟨p29.wr (by simp), fun w163 hw163 => ?_⟩
  obtain ⟨q29, d29⟩ := p29.up (k := 0) (vs := [.int .i64 x, .int .i64 st, .bool hb]) (cs' := [.int .i64 x, .int .i64 st, .bool hb]) (by simp) rfl hw163
  have q27 := p27.chg d29 (fun he => hne he)
  exact ⟨_, _, _, _, _, _, _, _, _, _, q27.cell rfl, q27.cell rfl, q27.cell rfl, q27.cell rfl, q27.cell rfl, q27.cell rfl, q27.cell rfl, q27.cell rfl, q27.cell rfl, q27.cell rfl, _, _, _, q29.cell rfl, q29.cell rfl, q29.cell rfl, k w163 (d27.trans d29 (fun _ _ h => Or.inl h) (fun _ _ h => Or.inr h))⟩
theorem mayV_iff {v : TrG} {s : StV} (h : mayV v s = true) : s.status = 0 ∧ s.ip = v.start ∧ v.slots ≤ s.stack.length ∧ (s.stack.length : Int) + v.grow ≤ 48 ∧ v.backs ≤ s.back.length ∧ (s.back.length : Int) + v.growBack ≤ 48 := of_decide_eq_true h
def ThrAns (v : TrG) (s : StV) (ats : List Int) (N : Nat) (wl : List Int) (w : World) (e : Value) (w' : World) : Prop :=
  ∃ S' : StC, StOw (fun k => w.heap.size ≤ k) w' S' (if mayV v s = true then leaveV v ats (runA v ats N s wl).1 (runA v ats N s wl).2 else s) ∧ Chg No w w' ∧
    e = (if mayV v s = true then thrR S' (runA v ats N s wl).1 (outAt v (runA v ats N s wl).1).steps (decide ((runA v ats N s wl).2.hit ≥ 0)) (runA v ats N s wl).2.hit else thrR S' (-1) 0 false (-1))
theorem goV_here {ats wl : List Int} {last : Int} {i : In5} {r : List In5} {q : Int} {e : En} (h : 0 ≤ (insV ats wl q i e).1) : goV ats wl last (i :: r) q e = insV ats wl q i e := if_pos h
theorem goV_next {ats wl : List Int} {last : Int} {i : In5} {r : List In5} {q : Int} {e : En} (h : ¬ 0 ≤ (insV ats wl q i e).1) : goV ats wl last (i :: r) q e = goV ats wl last r (q + 1) (insV ats wl q i e).2 := if_neg h
theorem thr_any {D D' : Nat → Prop} {w : World} (t : TrP) (S : StC) {v : TrG} {s : StV} (ht : TrIs D w t v) (hr : RightV v) (h : StIs D' w S s) {atS waS : Sl} {ats wl : List Int} (hat : Rd intE w atS ats) (hal : ats.length = v.ins.length) {N : Nat} (hN : N ≤ 1000000) (hok : AtOk ats N) (hwa : Rd intE w waS wl)
    (n1 : s.stack.length ≤ 100000) (n2 : s.back.length ≤ 100000) (n3 : s.mem.length ≤ 1000000) (hx : TxOk s) :
    Calls Tryz.prog fn_eval_Through #[.agg (trP t).toArray, .agg (stC S).toArray, atS.val, .int .i64 (N : Int), waS.val] w fun e w' => ∃ r, e = .returned r ∧ ThrAns v s ats N wl w r w' := by
  refine (eval_Through_lift (K := fun r w' => ThrAns v s ats N wl w r w') ?_).mono (by rintro e w' ⟨r, rfl, h⟩; exact ⟨r, rfl, h⟩)
  unfold eval_Through_sh
  intro b23 w24 hb23 hw24 b25 w26 hb25 hw26 b27 w28 hb27 hw28 b29 w30 hb29 hw30
  have c24 := al hw24
  have c26 := al hw26
  have c28 := al hw28
  have c30 := al hw30
  have z24 : w24.heap.size = w.heap.size + 1 := by rw [hw24]; simp
  have z26 : w26.heap.size = w24.heap.size + 1 := by rw [hw26]; simp
  have z28 : w28.heap.size = w26.heap.size + 1 := by rw [hw28]; simp
  have z30 : w30.heap.size = w28.heap.size + 1 := by rw [hw30]; simp
  have o23 : Ob w30 b23 (trP t) T_api_Trace := by
    have : Ob w24 b23 (trP t) T_api_Trace := by rw [hw24, hb23]; exact Ob.new w (trP t) T_api_Trace
    exact ((this.no c26).no c28).no c30
  have o25 : Ob w30 b25 (stC S) T_api_State := by
    have : Ob w26 b25 (stC S) T_api_State := by rw [hw26, hb25]; exact Ob.new w24 (stC S) T_api_State
    exact (this.no c28).no c30
  have o27 : Ob w30 b27 (stC st0) T_api_State := by
    have : Ob w28 b27 (stC st0) T_api_State := by rw [hw28, hb27]; exact Ob.new w26 (stC st0) T_api_State
    exact this.no c30
  have o29 : Ob w30 b29 [.int .i64 0, .int .i64 0, .bool false] T_eval_Done := by rw [hw30, hb29]; exact Ob.new w28 [.int .i64 0, .int .i64 0, .bool false] T_eval_Done
  have k30 : Chg No w w30 := trN (trN (trN c24 c26) c28) c30
  refine ⟨_, _, _, _, _, _, _, _, _, _, o25.cell rfl, o25.cell rfl, o25.cell rfl, o25.cell rfl, o25.cell rfl, o25.cell rfl, o25.cell rfl, o25.cell rfl, o25.cell rfl, o25.cell rfl, (icopy_any S (h.no k30) (by omega) (by omega) n3).mono ?_⟩
  rintro e w42 ⟨S1, rfl, hS1, c42⟩
  have z42 := c42.size
  refine ⟨_, _, _, _, _, _, _, _, _, _, rfl, (o25.no c42).wr (by simp [stC]), fun w53 hw53 => ?_⟩
  obtain ⟨p25, c53⟩ := (o25.no c42).up (k := 0) (vs := stC S1) (cs' := stC S1) (by simp [stC]) rfl hw53
  have z53 := c53.size
  have p23 := (o23.no c42).chg c53 (fun he => by omega)
  have p27 := (o27.no c42).chg c53 (fun he => by omega)
  have p29 := (o29.no c42).chg c53 (fun he => by omega)
  have k53 : Chg No w w53 := (trN k30 c42).trans c53 (fun _ _ h => h) (fun k hk he => by omega)
  have hS53 : StOw (fun k => w30.heap.size ≤ k ∧ k < w42.heap.size) w53 S1 s := hS1.chg c53 (fun k hk he => by omega)
  obtain ⟨q1, q2, q3, q4, q5, q6, q7⟩ := hr.head
  refine ⟨_, _, _, _, _, _, _, _, _, p23.cell rfl, p23.cell rfl, p23.cell rfl, p23.cell rfl, p23.cell rfl, p23.cell rfl, p23.cell rfl, p23.cell rfl, p23.cell rfl, ?_⟩
  refine ⟨_, _, _, _, _, _, _, _, _, _, p25.cell rfl, p25.cell rfl, p25.cell rfl, p25.cell rfl, p25.cell rfl, p25.cell rfl, p25.cell rfl, p25.cell rfl, p25.cell rfl, p25.cell rfl, (emay_any t S1 (ht.no k53) hS53.is (by omega) (by omega) (by omega) (by omega)).mono ?_⟩
  rintro e w74 ⟨rfl, c74⟩
  have z74 := c74.size
  have k74 := trN k53 c74
  refine ⟨_, rfl, brB_of (fun hm => ?_) (fun hm => ?_)⟩
  · have hm : mayV v s = false := by simpa using hm
    have s25 := p25.no c74
    refine ⟨_, _, _, _, _, _, _, _, _, _, s25.cell rfl, s25.cell rfl, s25.cell rfl, s25.cell rfl, s25.cell rfl, s25.cell rfl, s25.cell rfl, s25.cell rfl, s25.cell rfl, s25.cell rfl, ?_⟩
    refine st_done S1 (-1) 0 false (-1) (p27.no c74) (p29.no c74) (by omega) (K := fun r w' => ThrAns v s ats N wl w r w') fun wB cB => ?_
    refine ⟨S1, ?_, k74.trans cB (fun _ _ h => h) (fun k hk he => by omega), ?_⟩
    · rw [if_neg (by rw [hm]; decide)]
      exact ((hS53.no c74).chg cB (fun k hk he => by omega)).wid (fun k hk => by omega)
    · rw [if_neg (by rw [hm]; decide)]
  · have hm : mayV v s = true := by simpa using hm
    obtain ⟨y1, y2, y3, y4, y5, y6⟩ := mayV_iff hm
    intro w101 hw101
    have c101 := dw hw101
    have z101 := c101.size
    have s23 := (p23.no c74).no c101
    have s25 := (p25.no c74).no c101
    have s27 := (p27.no c74).no c101
    have s29 := (p29.no c74).no c101
    have hS101 := (hS53.no c74).no c101
    have k101 := trN k74 c101
    refine ⟨fun w' => Chg No w101 w', Chg.refl _ _, _, _, _, _, _, _, _, _, _, Ob.held (fun w' c => s23.no c) rfl, Ob.held (fun w' c => s23.no c) rfl, Ob.held (fun w' c => s23.no c) rfl, Ob.held (fun w' c => s23.no c) rfl, Ob.held (fun w' c => s23.no c) rfl, Ob.held (fun w' c => s23.no c) rfl, Ob.held (fun w' c => s23.no c) rfl, Ob.held (fun w' c => s23.no c) rfl, Ob.held (fun w' c => s23.no c) rfl, _, _, _, _, _, _, _, _, _, _, Ob.held (fun w' c => s25.no c) rfl, Ob.held (fun w' c => s25.no c) rfl, Ob.held (fun w' c => s25.no c) rfl, Ob.held (fun w' c => s25.no c) rfl, Ob.held (fun w' c => s25.no c) rfl, Ob.held (fun w' c => s25.no c) rfl, Ob.held (fun w' c => s25.no c) rfl, Ob.held (fun w' c => s25.no c) rfl, Ob.held (fun w' c => s25.no c) rfl, Ob.held (fun w' c => s25.no c) rfl, ?_⟩
    obtain ⟨w123, hrun, hreg, c123⟩ := make_ints (w := w101) (n := (N : Int)) (N := N) rfl hN
    have z123 := c123.size
    have hrl : ∀ k, (⟨some ⟨w101.heap.size, 0, none⟩, N, N⟩ : Sl).blk = some k → k = w101.heap.size := fun k hk => (Option.some.inj hk).symm
    refine ⟨_, w123, hrun, c123, ?_⟩
    intro b124 w125 hb124 hw125
    have c125 := al hw125
    have z125 : w125.heap.size = w123.heap.size + 1 := by rw [hw125]; simp
    have hrlt : w101.heap.size < w123.heap.size := hreg.lt rfl
    have k125 := trN (trN k101 c123) c125
    have o124 : Ob w125 b124 (enC t S1 ⟨some ⟨w101.heap.size, 0, none⟩, N, N⟩ atS waS (-1)) T_eval_engine := by rw [hw125, hb124]; exact Ob.new w123 (enC t S1 ⟨some ⟨w101.heap.size, 0, none⟩, N, N⟩ atS waS (-1)) T_eval_engine
    have hS125 := (hS101.no c123).no c125
    -- the engine's own blocks
    have hen : EnAt w (fun k => k = b124 ∨ S1.mem.blk = some k ∨ k = w101.heap.size) w125 b124 t S1 ⟨some ⟨w101.heap.size, 0, none⟩, N, N⟩ atS waS ats wl (en0 N s) := by
      refine ⟨o124, hS125.nums, hS125.st.rd, hS125.bk.rd, hS125.me, hreg.no c125, hat, hwa, k125, fun k hk => ?_, Or.inl rfl, fun k hk => ⟨Or.inr (Or.inl hk), ?_⟩, fun k hk => ⟨Or.inr (Or.inr (hrl k hk)), ?_, fun he => ?_⟩, fun k hk hb => ?_, fun k hk hb => ?_, by show AtOk ats (List.replicate N 0).length; rw [List.length_replicate]; exact hok⟩
      · rcases hk with hk | hk | hk
        · omega
        · have := (hS1.meD k hk).1; omega
        · omega
      · have := (hS1.meD k hk).1; omega
      · have := hrl k hk; omega
      · have := hrl k hk; have := (hS1.meD k he).1; omega
      · rcases hb with hb | hb | hb
        · have := hS1.stD k hk; omega
        · exact (hS1.meD k hb).2.1 hk
        · have := hS1.stD k hk; omega
      · rcases hb with hb | hb | hb
        · have := (hS1.bkD k hk).1; omega
        · exact (hS1.meD k hb).2.2 hk
        · have := (hS1.bkD k hk).1; omega
    have bB : ∀ k, (k = b124 ∨ S1.mem.blk = some k ∨ k = w101.heap.size) → k < w125.heap.size ∧ b29 < k := fun k hk => by
      rcases hk with hk | hk | hk
      · omega
      · have := (hS1.meD k hk).1; omega
      · omega
    have t23 := (s23.no c123).no c125
    have t27 := (s27.no c123).no c125
    have t29 := (s29.no c123).no c125
    refine ⟨t.ins, t23.cell rfl, ?_⟩
    have hil := ht.ins.len
    have hcap := ht.ins.capL
    -- the end: an exit is taken
    have fin : ∀ (wA : World) (S2 : StC) (x : Int) (e : En), EnAt w (fun k => k = b124 ∨ S1.mem.blk = some k ∨ k = w101.heap.size) wA b124 t S2 ⟨some ⟨w101.heap.size, 0, none⟩, N, N⟩ atS waS ats wl e → Chg (fun k => k = b124 ∨ S1.mem.blk = some k ∨ k = w101.heap.size) w125 wA →
        e.s.stack = s.stack → e.s.back = s.back → (∃ k, k ≤ v.ins.length ∧ OutV v x k) → runA v ats N s wl = (x, e) →
        Calls Tryz.prog fn_eval_engine_leave #[.pointer (some ⟨b124, 0, none⟩), .int .i64 x] wA fun r w' => ∃ S' : StC, r = .returned (leaveR S' x (outAt v x).steps e.hit) ∧ Ob w' b27 (stC st0) T_api_State ∧ Ob w' b29 [.int .i64 0, .int .i64 0, .bool false] T_eval_Done ∧
          ∀ wB, Chg (fun j => j = b27 ∨ j = b29) w' wB → ThrAns v s ats N wl w (thrR S' x (outAt v x).steps (decide (e.hit ≥ 0)) e.hit) wB := by
      intro wA S2 x e hen' cA h1 h2 hx' hrun'
      obtain ⟨k, hk, hxk⟩ := hx'
      have zA := cA.size
      refine (eleave_any hen' ht (fun k hk => by have := (bB k hk).1; omega) x (hr.exOk hal hk hxk) (by rw [h1]; omega) (by rw [h2]; omega) (by rw [h1]; omega) (by rw [h2]; omega)).mono ?_
      rintro r w' ⟨S', rfl, hS', c'⟩
      have cw' : Chg (fun k => k = b124 ∨ S1.mem.blk = some k ∨ k = w101.heap.size) w125 w' := cA.trans c' (fun _ _ h => h) (fun _ _ h => h)
      refine ⟨S', rfl, t27.chg cw' (fun he => by have := (bB _ he).2; omega), t29.chg cw' (fun he => by have := (bB _ he).2; omega), fun wB cB => ⟨S', ?_, ?_, ?_⟩⟩
      · rw [if_pos hm, hrun']
        refine (hS'.chg cB (fun k hk he => ?_)).wid (fun k hk => ?_)
        · rcases hk with hk | hk
          · have := (bB k hk).2; omega
          · omega
        · rcases hk with hk | hk
          · have := (bB k hk).2; omega
          · omega
      · exact (k125.trans cw' (fun _ _ h => h) (fun k hk he => by have := (bB k he).2; omega)).trans cB (fun _ _ h => h) (fun k hk he => by omega)
      · rw [if_pos hm, hrun']
    refine ⟨fun n w' => ∃ (k : Nat) (S2 : StC) (e : En), n = k ∧ k ≤ v.ins.length ∧ EnAt w (fun k => k = b124 ∨ S1.mem.blk = some k ∨ k = w101.heap.size) w' b124 t S2 ⟨some ⟨w101.heap.size, 0, none⟩, N, N⟩ atS waS ats wl e ∧ Chg (fun k => k = b124 ∨ S1.mem.blk = some k ∨ k = w101.heap.size) w125 w' ∧ e.s.stack = s.stack ∧ e.s.back = s.back ∧ TxOk e.s ∧ runA v ats N s wl = goV ats wl v.last (v.ins.drop k) k e, fun n _ => v.ins.length - n.toNat, ⟨0, S1, en0 N s, rfl, Nat.zero_le _, hen, Chg.refl _ _, rfl, rfl, hx, rfl⟩, ?_⟩
    rintro n w127 ⟨k, S2, e, rfl, hk, hen', cA, h1, h2, hx', hrun'⟩
    refine brB_of (fun hlt => ?_) (fun hlt => ?_)
    · have hlt : k < v.ins.length := by simp at hlt; omega
      obtain ⟨i, hi⟩ : ∃ i, v.ins[k]? = some i := ⟨_, List.getElem?_eq_getElem hlt⟩
      refine (ht.ins.no hen'.base).ix (i := (k : Int)) (by omega) (by rw [Int.toNat_natCast]; exact hi) fun a _ hcell => ?_
      have g0 := hcell 0 _ rfl
      rw [add0] at g0
      refine ⟨_, _, _, _, _, g0, hcell 1 _ rfl, hcell 2 _ rfl, hcell 3 _ rfl, hcell 4 _ rfl, ?_⟩
      intro b135 w136 hb135 hw136
      have hn := fun (w2 : World) => newOb (w2 := w2) (T := T_api_Ins) (insC ⟨0, 0, 0, 0, 0⟩) (insC i) rfl hb135 hw136
      refine ⟨(hn w136).1, fun w137 hw137 => ?_⟩
      obtain ⟨o137, c137⟩ := (hn w137).2 hw137
      refine ⟨_, _, _, _, _, o137.cell rfl, o137.cell rfl, o137.cell rfl, o137.cell rfl, o137.cell rfl, ?_⟩
      have hio := hr.ins hal (ns := e.s.stack.length) (nb := e.s.back.length) (by rw [h1]; omega) (by rw [h2]; omega) hi
      refine (eins_any (hen'.no c137) k i hio hx').mono ?_
      rintro r w144 ⟨n, rfl, ha⟩
      obtain ⟨a1, ⟨S3, _, a3⟩, a4⟩ := ha
      obtain ⟨u1, u2, u3, u4, u5⟩ := insV_keeps ats wl k i e
      have hdr : v.ins.drop k = i :: v.ins.drop (k + 1) := by
        rw [List.drop_eq_getElem_cons hlt]
        rw [List.getElem?_eq_getElem hlt] at hi
        cases hi; rfl
      rw [hdr] at hrun'
      have cA' : Chg (fun k => k = b124 ∨ S1.mem.blk = some k ∨ k = w101.heap.size) w125 w144 := (cA.trans c137 (fun _ _ h => h) (fun _ _ h => h.elim)).trans a4 (fun _ _ h => h) (fun _ _ h => h)
      refine ⟨n, rfl, brB_of (fun hge => ?_) (fun hge => ?_)⟩
      · have hge : 0 ≤ (insV ats wl k i e).1 := by rw [← a1]; simpa using hge
        rw [goV_here hge] at hrun'
        have hxo := (hr.each k i hi).2.2.2.2.2 _ (insV_exit (hr.each k i hi) hge)
        rw [a1]
        refine (fin w144 S3 (insV ats wl k i e).1 (insV ats wl k i e).2 a3 cA' (by rw [u2, h1]) (by rw [u3, h2]) ⟨k, by omega, hxo⟩ hrun').mono ?_
        rintro r w147 ⟨S', rfl, f1, f2, f3⟩
        refine ⟨_, _, _, _, _, _, _, _, _, _, _, _, _, _, rfl, ?_⟩
        exact st_done S' _ _ _ _ f1 f2 (by omega) (K := fun r w' => ThrAns v s ats N wl w r w') f3
      · have hge : ¬ 0 ≤ (insV ats wl k i e).1 := by rw [← a1]; simpa using hge
        rw [goV_next hge] at hrun'
        rw [wr_in (by omega)]
        refine ⟨⟨k + 1, S3, (insV ats wl k i e).2, by omega, by omega, a3, cA', by rw [u2, h1], by rw [u3, h2], hx'.ins ats wl k i, hrun'⟩, by show v.ins.length - Int.toNat ((k : Int) + 1) < v.ins.length - Int.toNat (k : Int); omega⟩
    · have hlt : k = v.ins.length := by simp at hlt; omega
      subst hlt
      rw [List.drop_length] at hrun'
      have r23 := t23.chg cA (fun he => by have := (bB _ he).2; omega)
      have hlast : t.last = v.last := ht.nums.2.2.2.2.2
      refine ⟨t.last, r23.cell rfl, ?_⟩
      rw [hlast]
      refine (fin w127 S2 v.last e hen' cA h1 h2 ⟨_, Nat.le_refl _, hr.last⟩ hrun').mono ?_
      rintro r w147 ⟨S', rfl, f1, f2, f3⟩
      refine ⟨_, _, _, _, _, _, _, _, _, _, _, _, _, _, rfl, ?_⟩
      exact st_done S' _ _ _ _ f1 f2 (by omega) (K := fun r w' => ThrAns v s ats N wl w r w') f3
end Go.Proofs.YtblmoilneiffgaaGreat

/- eval.Run: a whole run of a trace, in as many registers as it has places. -/
set_option maxRecDepth 100000
namespace Go.Proofs.YtblmoilneiffgaaGreat
open Go.RowKit

def runR (S : StC) (x steps : Int) (h : Bool) : Value := .tuple #[.agg (stC S).toArray, .agg #[.int .i64 x, .int .i64 steps, .bool h]]
def outS (v : TrG) (s : StV) (wl : List Int) : StV := if mayV v s = true then endV v (runG v s wl) else s
def outX (v : TrG) (s : StV) (wl : List Int) : Int := if mayV v s = true then (runG v s wl).1 else -1
def outN (v : TrG) (s : StV) (wl : List Int) : Int := if mayV v s = true then (outAt v (runG v s wl).1).steps else 0
def outH (v : TrG) (s : StV) (wl : List Int) : Bool := if mayV v s = true then decide ((runG v s wl).2.hit ≥ 0) else false
end Go.Proofs.YtblmoilneiffgaaGreat
