/- A trace's engine in memory: eval.Run. -/
import Derived.Test.YtkjpmkopnkkbmaaGreatDoorJ3
import Derived.Test.YtkjpmkopnkkbmaaGreatDoorJ4
import Derived.Test.YtkjpmkopnkkbmaaGreatDoorJ2
import Derived.Lib.ConvBytes
import Derived.Laws.IdiomStrings
import Derived.Laws.MakeOwn
import Derived.Lib.BufferWrite
import Derived.Test.YtkjpmkopnkkbmaaGreatDoorRows
import Derived.Test.YtkjpmkopnkkbmaaGreatDoorJ1
import Derived.WalkKit
import Derived.WalkSpells
import Derived.WalkLawsBesides
import Derived.Handy
import Derived.Deep.Light
import Derived.Deep.QuietTactic
import Derived.BigQuiet

/- Machines in memory; inner.Copy. -/
set_option maxRecDepth 100000
namespace Go.Proofs.YtkjpmkopnkkbmaaGreatDoor
open Go.RowKit

theorem trN {x y z : World} (h : Chg No x y) (k : Chg No y z) : Chg No x z := h.trans k (fun _ _ h => h) (fun _ _ h => h)
theorem wr_in {x : Int} (h : -9223372036854775808 ≤ x ∧ x ≤ 9223372036854775807) : wr x = x := wr_of h.1 h.2
theorem add0 (q : Addr) : q.add 0 = q := by unfold Addr.add; simp
structure StC where
  ip : Int
  handler : Int
  stack : Sl
  back : Sl
  mem : Sl
  out : ByteArray
  inp : ByteArray
  read : Int
  status : Int
  code : Int
def stC (s : StC) : List Value := [.int .i64 s.ip, .int .i64 s.handler, s.stack.val, s.back.val, s.mem.val, .string s.out, .string s.inp, .int .i64 s.read, .int .i64 s.status, .int .i64 s.code]
def st0 : StC := ⟨0, 0, nilS, nilS, nilS, bs [], bs [], 0, 0, 0⟩
def StNums (S : StC) (s : StV) : Prop := S.ip = s.ip ∧ S.handler = s.handler ∧ S.out = s.out ∧ S.inp = s.inp ∧ S.read = s.read ∧ S.status = s.status ∧ S.code = s.code
structure StIs (D : Nat → Prop) (w : World) (S : StC) (s : StV) : Prop where
  nums : StNums S s
  st : Rd intE w S.stack s.stack
  bk : Rd intE w S.back s.back
  me : Rd intE w S.mem s.mem
  stD : ∀ k, S.stack.blk = some k → D k
  bkD : ∀ k, S.back.blk = some k → D k
  meD : ∀ k, S.mem.blk = some k → D k
theorem StIs.chg {D S' : Nat → Prop} {w w' : World} {S : StC} {s : StV} (h : StIs D w S s) (c : Chg S' w w') (hS : ∀ k, D k → ¬ S' k) : StIs D w' S s :=
  ⟨h.nums, h.st.chg c (fun k hk => hS _ (h.stD k hk)), h.bk.chg c (fun k hk => hS _ (h.bkD k hk)), h.me.chg c (fun k hk => hS _ (h.meD k hk)), h.stD, h.bkD, h.meD⟩
theorem StIs.no {D : Nat → Prop} {w w' : World} {S : StC} {s : StV} (h : StIs D w S s) (c : Chg No w w') : StIs D w' S s := h.chg c (fun _ _ h => h)
structure StOw (D : Nat → Prop) (w : World) (S : StC) (s : StV) : Prop where
  nums : StNums S s
  st : Ow intE w S.stack s.stack
  bk : Ow intE w S.back s.back
  me : Ow intE w S.mem s.mem
  stD : ∀ k, S.stack.blk = some k → D k
  bkD : ∀ k, S.back.blk = some k → D k ∧ S.stack.blk ≠ some k
  meD : ∀ k, S.mem.blk = some k → D k ∧ S.stack.blk ≠ some k ∧ S.back.blk ≠ some k
theorem StOw.is {D : Nat → Prop} {w : World} {S : StC} {s : StV} (h : StOw D w S s) : StIs D w S s := ⟨h.nums, h.st.rd, h.bk.rd, h.me.rd, h.stD, fun k hk => (h.bkD k hk).1, fun k hk => (h.meD k hk).1⟩
theorem StOw.chg {D S' : Nat → Prop} {w w' : World} {S : StC} {s : StV} (h : StOw D w S s) (c : Chg S' w w') (hS : ∀ k, D k → ¬ S' k) : StOw D w' S s :=
  ⟨h.nums, h.st.chg c (fun k hk => hS _ (h.stD k hk)), h.bk.chg c (fun k hk => hS _ (h.bkD k hk).1), h.me.chg c (fun k hk => hS _ (h.meD k hk).1), h.stD, h.bkD, h.meD⟩
theorem StOw.no {D : Nat → Prop} {w w' : World} {S : StC} {s : StV} (h : StOw D w S s) (c : Chg No w w') : StOw D w' S s := h.chg c (fun _ _ h => h)
theorem newOb {w w1 w2 : World} {b : Nat} {T : TypeId} (zs vs : List Value) (hl : zs.length = vs.length) (hb : b = w.heap.size) (hw : w1 = World.alloc w (.cells zs.toArray T)) : wrOk w1 ⟨b, 0, none⟩ vs.length ∧ (w2 = stW w1 ⟨b, 0, none⟩ 0 vs → Ob w2 b vs T ∧ Chg No w w2) := by
  have ho : Ob w1 b zs T := by rw [hw, hb]; exact Ob.new w zs T
  have hc : Chg No w w1 := by rw [hw]; exact Chg.alloc _ _ _
  refine ⟨ho.wr (by omega), fun h2 => ⟨?_, ?_⟩⟩
  · have := Ob.st (vs := vs) (k := 0) (i := 0) ho
    rw [show wrL zs (0 + 0) vs = vs from wrL_whole hl] at this
    rw [h2]; exact this
  · rw [h2]
    exact hc.trans (Chg.st (S := fun k => k = b) rfl) (fun _ _ h => h) (fun k hk he => by subst he; omega)
theorem al {w w' : World} {o : Obj} (hw : w' = World.alloc w o) : Chg No w w' := by rw [hw]; exact Chg.alloc _ _ _
theorem dw {w w' : World} (hw : w' = World.drew w) : Chg No w w' := by rw [hw]; exact Chg.drew _ _
theorem Ob.up {w w' : World} {b k : Nat} {cs vs cs' : List Value} {T : TypeId} (h : Ob w b cs T) (hl : k + vs.length ≤ cs.length) (hc : wrL cs k vs = cs') (hw : w' = stW w ⟨b, k, none⟩ 0 vs) : Ob w' b cs' T ∧ Chg (fun j => j = b) w w' := by
  refine ⟨?_, by rw [hw]; exact Chg.st (S := fun j => j = b) rfl⟩
  have := Ob.st (vs := vs) (k := k) (i := 0) h
  rw [hw, ← hc]; exact this

/-! ### inner.Copy -/
theorem icopy_any {D : Nat → Prop} {w : World} (S : StC) {s : StV} (h : StIs D w S s) (h1 : s.stack.length ≤ 1000000) (h2 : s.back.length ≤ 1000000) (h3 : s.mem.length ≤ 1000000) :
    Calls Tryz.prog fn_inner_Copy #[.agg (stC S).toArray] w fun e w' => ∃ S' : StC, e = .returned (.agg (stC S').toArray) ∧ StOw (fun k => w.heap.size ≤ k ∧ k < w'.heap.size) w' S' s ∧ Chg No w w' := by
  refine (inner_Copy_lift (K := fun v w' => ∃ S' : StC, v = .agg (stC S').toArray ∧ StOw (fun k => w.heap.size ≤ k ∧ k < w'.heap.size) w' S' s ∧ Chg No w w') ?_).mono (by rintro e w' ⟨v, rfl, n, rfl, h⟩; exact ⟨n, rfl, h⟩)
  unfold inner_Copy_sh
  intro b11 w12 hb11 hw12 b13 w14 hb13 hw14 w15 hw15
  have o12 : Ob w12 b11 (stC S) T_api_State := by rw [hw12, hb11]; exact Ob.new w (stC S) T_api_State
  have c12 := al hw12
  have c14 := al hw14
  have c15 := dw hw15
  have o14 : Ob w14 b13 (stC st0) T_api_State := by rw [hw14, hb13]; exact Ob.new w12 (stC st0) T_api_State
  have z12 : w12.heap.size = w.heap.size + 1 := by rw [hw12]; simp
  have z14 : w14.heap.size = w12.heap.size + 1 := by rw [hw14]; simp
  have z15 := c15.size
  have o15 := (o12.no c14).no c15
  have h15 := h.no (trN (trN c12 c14) c15)
  have hs : ∀ {w' : World}, Chg No w15 w' → Ob w' b11 (stC S) T_api_State := fun c => o15.no c
  refine ⟨fun w' => Chg No w15 w', Chg.refl _ _, S.stack, Ob.held (fun w' c => hs c) rfl, S.back, Ob.held (fun w' c => hs c) rfl, S.mem, Ob.held (fun w' c => hs c) rfl, ?_⟩
  refine (clone_ints h15.st (by omega)).mono ?_
  rintro e w21 ⟨s22, rfl, g22, c21, b22, _⟩
  refine ⟨s22, rfl, c21, ?_⟩
  refine (clone_ints (h15.no c21).bk (by omega)).mono ?_
  rintro e w24 ⟨s25, rfl, g25, c24, b25, _⟩
  refine ⟨s25, rfl, trN c21 c24, ?_⟩
  refine (clone_ints (h15.no (trN c21 c24)).me (by omega)).mono ?_
  rintro e w27 ⟨s28, rfl, g28, c27, b28, _⟩
  have k27 := trN (trN c21 c24) c27
  have z21 := c21.size
  have z24 := c24.size
  have z27 := c27.size
  have o27 := hs k27
  refine ⟨s28, rfl, k27, o27.wr (by simp [stC]), fun w29 hw29 => ?_⟩
  obtain ⟨o29, c29⟩ := o27.up (k := 2) (vs := [s22.val]) (cs' := stC { S with stack := s22 }) (by simp [stC]) rfl hw29
  refine ⟨o29.wr (by simp [stC]), fun w30 hw30 => ?_⟩
  obtain ⟨o30, c30⟩ := o29.up (k := 3) (vs := [s25.val]) (cs' := stC { S with stack := s22, back := s25 }) (by simp [stC]) rfl hw30
  refine ⟨o30.wr (by simp [stC]), fun w31 hw31 => ?_⟩
  obtain ⟨o31, c31⟩ := o30.up (k := 4) (vs := [s28.val]) (cs' := stC { S with stack := s22, back := s25, mem := s28 }) (by simp [stC]) rfl hw31
  refine ⟨_, _, _, _, _, _, _, _, _, _, o31.cell rfl, o31.cell rfl, o31.cell rfl, o31.cell rfl, o31.cell rfl, o31.cell rfl, o31.cell rfl, o31.cell rfl, o31.cell rfl, o31.cell rfl, ?_⟩
  have k31 : Chg (fun j => j = b11) w27 w31 := (c29.trans c30 (fun _ _ h => h) (fun _ _ h => h)).trans c31 (fun _ _ h => h) (fun _ _ h => h)
  have o31' : Ob w31 b13 (stC st0) T_api_State := (((o14.no c15).no k27)).chg k31 (fun e => by omega)
  refine ⟨o31'.wr (by simp [stC]), fun w42 hw42 => ?_⟩
  obtain ⟨o42, c42⟩ := o31'.up (k := 0) (vs := stC { S with stack := s22, back := s25, mem := s28 }) (cs' := stC { S with stack := s22, back := s25, mem := s28 }) (by simp [stC]) rfl hw42
  have k42 : Chg (fun j => j = b11 ∨ j = b13) w27 w42 := k31.trans c42 (fun _ _ h => Or.inl h) (fun _ _ h => Or.inr h)
  have z42 := k42.size
  refine ⟨_, _, _, _, _, _, _, _, _, _, o42.cell rfl, o42.cell rfl, o42.cell rfl, o42.cell rfl, o42.cell rfl, o42.cell rfl, o42.cell rfl, o42.cell rfl, o42.cell rfl, o42.cell rfl, { S with stack := s22, back := s25, mem := s28 }, rfl, ?_, ?_⟩
  · have l22 := fun k hk => g22.lt (k := k) hk
    have l25 := fun k hk => g25.lt (k := k) hk
    have l28 := fun k hk => g28.lt (k := k) hk
    refine ⟨h.nums, ((g22.no c24).no c27).chg k42 (fun k hk he => ?_), (g25.no c27).chg k42 (fun k hk he => ?_), g28.chg k42 (fun k hk he => ?_), fun k hk => ?_, fun k hk => ⟨?_, fun he => ?_⟩, fun k hk => ⟨?_, fun he => ?_, fun he => ?_⟩⟩
    · have := b22 k hk; omega
    · have := b25 k hk; omega
    · have := b28 k hk; omega
    · have hk : s22.blk = some k := hk
      have := b22 k hk; have := l22 k hk; omega
    · have hk : s25.blk = some k := hk
      have := b25 k hk; have := l25 k hk; omega
    · have hk : s25.blk = some k := hk
      have he : s22.blk = some k := he
      have := b25 k hk; have := l22 k he; omega
    · have hk : s28.blk = some k := hk
      have := b28 k hk; have := l28 k hk; omega
    · have hk : s28.blk = some k := hk
      have he : s22.blk = some k := he
      have := b28 k hk; have := l22 k he; omega
    · have hk : s28.blk = some k := hk
      have he : s25.blk = some k := he
      have := b28 k hk; have := l25 k he; omega
  · exact (trN (trN (trN c12 c14) c15) k27).trans k42 (fun _ _ h => h) (fun k hk he => by omega)

/-! ### slices.Contains -/
end Go.Proofs.YtkjpmkopnkkbmaaGreatDoor

/- A trace's engine in memory: its values, its instructions one by one. -/
set_option maxRecDepth 100000
namespace Go.Proofs.YtkjpmkopnkkbmaaGreatDoor
open Go.RowKit

theorem madeOne (z : Value) (n : Nat) : (madeCells #[z] n).toList = List.replicate n z := by
  unfold madeCells
  apply List.ext_getElem
  · simp
  · intro i h1 h2
    simp [Nat.mod_one]
theorem fl_rep (n : Nat) : fl intE (List.replicate n 0) = List.replicate n (Value.int .i64 0) := by
  induction n with
  | zero => rfl
  | succ m ih => rw [List.replicate_succ, List.replicate_succ, fl_cons, ih]; rfl
theorem make_ints {w : World} {n : Int} {N : Nat} (hn : n = (N : Int)) (hN : N ≤ 1000000) : ∃ w' : World, (Instr.makeSlice T_sl_int (.int .i64 n) (.int .i64 n)).run Tryz.prog w = .ok (⟨some ⟨w.heap.size, 0, none⟩, N, N⟩ : Sl).val w' ∧ Ow intE w' ⟨some ⟨w.heap.size, 0, none⟩, N, N⟩ (List.replicate N 0) ∧ Chg No w w' := by
  subst hn
  obtain ⟨i, z, hi, hz, h1, h2, h3⟩ := intOk.info
  have hz0 : z = .int .i64 0 := by
    have e : (Tryz.prog.info? T_int).bind (·.zero) = some (.int .i64 0) := by kernel_rfl
    have hi' : Tryz.prog.info? T_int = some i := hi
    rw [hi'] at e
    exact Option.some.inj (hz.symm.trans e)
  subst hz0
  have h1' : i.size = 1 := h1
  have h2' : i.bytes = 8 := h2
  have hr := run_make (P := Tryz.prog) w T_sl_int T_int i (.int .i64 0) intOk.und hi hz .i64 .i64 (N : Int) (N : Int) (by omega) (by omega) (by rw [h2']; omega) (by omega)
  rw [Int.toNat_natCast, h1', Nat.mul_one] at hr
  have hz1 : (Value.int .i64 0).cells = #[.int .i64 0] := rfl
  rw [hz1] at hr
  refine ⟨_, hr, ?_, Chg.alloc _ _ _⟩
  have hm : madeCells #[Value.int .i64 0] N = (List.replicate N (Value.int .i64 0)).toArray := Array.ext' (by rw [madeOne])
  rw [hm]
  have := Ow.lit (E := intE) w (List.replicate N 0) (List.replicate N (Value.int .i64 0)) (fl_rep N).symm (by rw [List.length_replicate]; unfold maxLen; omega)
  rw [List.length_replicate] at this
  exact this

/-! ### digits.Put -/
def u8E : Enc UInt8 := ⟨T_uint8, 1, 1, fun c => [.int .u8 c.toNat], by intro x; rfl, by intro x u hu; simp at hu; subst hu; rfl, by decide⟩
theorem u8Ok : EncOk Tryz.prog u8E T_sl_uint8 := EncOk.of (z := .int .u8 0) (by kernel_rfl) (by kernel_rfl) (by kernel_rfl)
theorem fl_u8 : ∀ (l : List UInt8) (j : Nat), (fl u8E l)[j]? = (l[j]?).map (fun c => Value.int .u8 c.toNat)
  | [], j => by simp [fl]
  | c :: l, 0 => by rw [fl_cons]; rfl
  | c :: l, j + 1 => by
    rw [fl_cons, List.getElem?_append_right (by show 1 ≤ j + 1; omega)]
    have := fl_u8 l j
    simpa [u8E] using this
theorem u8_str {w : World} {s : Sl} {l : List UInt8} (h : Rd u8E w s l) (hne : l ≠ []) : (convert T_sl_uint8 T_string s.val).run Tryz.prog w = .ok (.string (bs l)) w := by
  obtain ⟨ao, cap, he, h1, h2, h3, h4⟩ := h
  have h0 : 0 < l.length := List.length_pos_iff.2 hne
  obtain ⟨a, ha, _⟩ := h4 0 _ (by rw [fl_u8, List.getElem?_eq_getElem h0]; rfl)
  rw [he, ha]
  refine run_convert_bytes_back (P := Tryz.prog) w T_sl_uint8 T_string T_uint8 a cap l u8Ok.und Tryz.underlying5 Tryz.underlying9 (fun j hj => ?_)
  obtain ⟨a', ha', hc⟩ := h4 j _ (by rw [fl_u8, List.getElem?_eq_getElem hj]; rfl)
  rw [ha] at ha'; cases ha'
  exact hc
theorem lit8 {w w' : World} {b : Nat} {v : Value} (c : UInt8) (hv : v = .int .u8 c.toNat) (hb : b = w.heap.size) (hw : w' = World.alloc w (.cells #[v] T_uint8)) : Ow u8E w' ⟨some ⟨b, 0, none⟩, 1, 1⟩ [c] ∧ Chg No w w' := by
  subst hv
  rw [hw, hb]
  exact ⟨Ow.lit (E := u8E) w [c] [.int .u8 c.toNat] (by rw [fl_one]; rfl) (by show 1 ≤ maxLen; unfold maxLen; omega), Chg.alloc _ _ _⟩
theorem dig_c (n : Nat) : sb (bs [48, 49, 50, 51, 52, 53, 54, 55, 56, 57, 65, 66, 67, 68, 69, 70, 71, 72, 73, 74, 75, 76, 77, 78, 79, 80, 81, 82, 83, 84, 85, 86, 87, 88, 89, 90]) ((n % 10 : Nat) : Int) = ((UInt8.ofNat (48 + n % 10)).toNat : Int) := by
  have h : ∀ k : Fin 10, sb (bs [48, 49, 50, 51, 52, 53, 54, 55, 56, 57, 65, 66, 67, 68, 69, 70, 71, 72, 73, 74, 75, 76, 77, 78, 79, 80, 81, 82, 83, 84, 85, 86, 87, 88, 89, 90]) ((k.val : Nat) : Int) = ((UInt8.ofNat (48 + k.val)).toNat : Int) := by decide +kernel
  exact h ⟨n % 10, Nat.mod_lt _ (by decide)⟩
theorem right10 (w : World) : Calls Tryz.prog fn_digits_Right #[.int .i64 10] w fun e w' => e = .returned (.bool true) ∧ w = w' :=
  (digits_Right_lift (K := fun r w' => r = .bool true ∧ w = w') (by unfold digits_Right_sh; exact brB_t ⟨rfl, rfl⟩)).mono (by rintro e w' ⟨r, rfl, rfl, h⟩; exact ⟨rfl, h⟩)
theorem put_any (v : Int) (w : World) : Calls Tryz.prog fn_digits_Put #[.int .i64 v, .int .i64 10] w fun e w' => e = .returned (.string (putV v)) ∧ Chg No w w' := by
  refine (digits_Put_lift (K := fun r w' => r = .string (putV v) ∧ Chg No w w') ?_).mono (by rintro e w' ⟨r, rfl, rfl, h⟩; exact ⟨rfl, h⟩)
  unfold digits_Put_sh
  refine (right10 w).mono ?_
  rintro e w4 ⟨rfl, rfl⟩
  refine ⟨_, rfl, brB_f ?_⟩
  have e10 : IntKind.wrap .u64 10 = 10 := by decide
  have hu : ∀ x : Int, 0 ≤ IntKind.wrap .u64 x ∧ IntKind.wrap .u64 x < 18446744073709551616 := fun x => by rw [IntKind.wrap_u64]; omega
  refine ⟨fun n w' => n = (absN v : Int) ∧ w = w', ?_, ?_⟩
  · rintro n w6 ⟨rfl, rfl⟩
    have hN : absN v < 10 ^ 20 := by
      unfold absN
      have := hu (0 - IntKind.wrap .u64 v)
      have := hu v
      split <;> omega
    refine ⟨fun n o w' => ∃ (k f : Nat) (l : List UInt8), n = (k : Int) ∧ k < 10 ^ f ∧ (l = [] → 0 < f) ∧ f + l.length ≤ 20 ∧ dg f k l = dg 20 (absN v) [] ∧ Ow u8E w' o l ∧ (∀ j, o.blk = some j → w.heap.size ≤ j) ∧ Chg No w w', fun n o _ => if n = 0 ∧ o.len ≠ 0 then 0 else n.toNat + 1 + (1 - o.len), ⟨absN v, 20, [], rfl, hN, (fun _ => by decide), by simp, rfl, Ow.nil _ _, (fun j hj => by cases hj), Chg.refl _ _⟩, ?_⟩
    rintro n o w7 ⟨k, f, l, rfl, hk, hl, hfl, hd, ho, hob, hc⟩
    have hol := ho.rd.len
    have step : (0 < k ∨ l = []) → digits_Put_j1 10 (k : Int) o (fun n o w' => ∃ (k f : Nat) (l : List UInt8), n = (k : Int) ∧ k < 10 ^ f ∧ (l = [] → 0 < f) ∧ f + l.length ≤ 20 ∧ dg f k l = dg 20 (absN v) [] ∧ Ow u8E w' o l ∧ (∀ j, o.blk = some j → w.heap.size ≤ j) ∧ Chg No w w') (fun n o _ => if n = 0 ∧ o.len ≠ 0 then 0 else n.toNat + 1 + (1 - o.len)) w7 v true w7 (fun r w' => r = .string (putV v) ∧ Chg No w w') := by
      intro hgo
      have hf : 0 < f := by
        rcases hgo with h | h
        · rcases Nat.eq_zero_or_pos f with h0 | h0
          · subst h0; simp at hk; omega
          · exact h0
        · exact hl h
      obtain ⟨f', rfl⟩ : ∃ f', f = f' + 1 := ⟨f - 1, by omega⟩
      unfold digits_Put_j1
      rw [e10]
      have em : Int.tmod (k : Int) 10 = ((k % 10 : Nat) : Int) := by rw [Int.tmod_eq_emod_of_nonneg (by omega)]; omega
      have ed : Int.tdiv (k : Int) 10 = ((k / 10 : Nat) : Int) := by rw [Int.tdiv_eq_ediv_of_nonneg (by omega)]; omega
      rw [em, ed]
      refine brB_t ⟨by decide, by omega, ?_, ?_⟩
      · have : ((bs [48, 49, 50, 51, 52, 53, 54, 55, 56, 57, 65, 66, 67, 68, 69, 70, 71, 72, 73, 74, 75, 76, 77, 78, 79, 80, 81, 82, 83, 84, 85, 86, 87, 88, 89, 90]).size : Int) = 36 := by decide
        rw [this]; omega
      intro b14 w15 hb hw
      obtain ⟨l15, c15⟩ := lit8 (UInt8.ofNat (48 + k % 10)) (by rw [dig_c]) hb hw
      refine app_ok u8Ok (s := ⟨some ⟨b14, 0, none⟩, 1, 1⟩) rfl rfl l15 (ho.no c15).rd (by show (1 + l.length) * 1 ≤ _; omega) (by show 1 + l.length ≤ _; unfold maxLen; omega) ?_
      intro s16 w17 h17 c17 b17
      have z7 := hc.size
      have z15 := c15.size
      have hb14 : (⟨some ⟨b14, 0, none⟩, 1, 1⟩ : Sl).blk = some b14 := rfl
      have hlt : k / 10 < 10 ^ f' := by rw [Nat.div_lt_iff_lt_mul (by decide)]; rw [Nat.pow_succ] at hk; exact hk
      have hw64 : IntKind.wrap .u64 ((k / 10 : Nat) : Int) = ((k / 10 : Nat) : Int) := by
        rw [IntKind.wrap_u64]
        have : (10 : Nat) ^ f' ≤ 10 ^ 19 := Nat.pow_le_pow_right (by decide) (by omega)
        omega
      rw [hw64]
      have hl17 := h17.rd.len
      simp only [List.length_append, List.length_singleton] at hl17
      refine ⟨by decide, ⟨k / 10, f', UInt8.ofNat (48 + k % 10) :: l, rfl, hlt, (fun h => by cases h), by simp; omega, ?_, h17, fun j hj => ?_, ?_⟩, ?_⟩
      · rw [← hd]
        conv => rhs; unfold dg
        rw [if_neg (fun h => by
          rcases hgo with hg | hg
          · omega
          · exact h.2 hg)]
      · rcases b17 with hh | hh
        · have := Option.some.inj (hb14.symm.trans (hh.symm.trans hj)); omega
        · have := Option.some.inj (hh.symm.trans hj); omega
      · exact (trN hc c15).trans c17 (fun _ _ h => h) (fun j hj he => by have := Option.some.inj (hb14.symm.trans he); omega)
      · dsimp only
        rw [hol]
        have e1 : ¬ ((k : Int) = 0 ∧ l.length ≠ 0) := by
          rintro ⟨h1, h2⟩
          rcases hgo with hg | hg
          · omega
          · rw [hg] at h2; exact h2 rfl
        rw [if_neg (c := (k : Int) = 0 ∧ l.length ≠ 0) e1]
        split <;> omega
    refine brB_of (fun hp => ?_) (fun hp => ?_)
    · have hp := of_decide_eq_true hp
      exact step (Or.inl (by omega))
    · have hp := of_decide_eq_false hp
      have hk0 : k = 0 := by omega
      subst hk0
      by_cases hle : l = []
      · have : ((o.len : Int) == 0) = true := by rw [hol, hle]; rfl
        rw [this]
        exact step (Or.inr hle)
      · have : ((o.len : Int) == 0) = false := by
          rw [hol]
          have := List.length_pos_iff.2 hle
          simp; exact hle
        rw [this]
        unfold digits_Put_j1
        have hdd : dg 20 (absN v) [] = l := by rw [← hd, dg_zero _ _ hle]
        have hlen : (bs l).size = l.length := rfl
        refine brB_f (brB_of (fun hv => ?_) (fun hv => ?_))
        · have hv := of_decide_eq_true hv
          refine ⟨_, w7, u8_str ho.rd hle, ?_, ?_, hc⟩
          · rw [hlen]; show (1 : Int) + _ ≤ _; omega
          · unfold putV; rw [if_pos hv, hdd]
        · have hv := of_decide_eq_false hv
          refine ⟨_, w7, u8_str ho.rd hle, ?_, hc⟩
          unfold putV; rw [if_neg hv, hdd]
  · have a1 := hu (0 - IntKind.wrap .u64 v)
    have a2 := hu v
    refine brB_of (fun hv => ⟨?_, rfl⟩) (fun hv => ⟨?_, rfl⟩)
    · have hv := of_decide_eq_true hv
      unfold absN; rw [if_pos hv]; omega
    · have hv := of_decide_eq_false hv
      unfold absN; rw [if_neg hv]; omega
theorem putV_size (v : Int) : (putV v).size ≤ 21 := by
  unfold putV
  have := dg_len 20 (absN v) []
  simp only [List.length_nil, Nat.zero_add] at this
  split
  · rw [ByteArray.size_append]; show 1 + _ ≤ _; have h : (bs (dg 20 (absN v) [])).size = (dg 20 (absN v) []).length := rfl; omega
  · have h : (bs (dg 20 (absN v) [])).size = (dg 20 (absN v) []).length := rfl; omega
theorem byte_lit (v : Int) : Value.int .u8 (IntKind.wrap .u8 v) = .int .u8 ((byteC v).toNat : Int) := by
  unfold byteC
  have h : 0 ≤ IntKind.wrap .u8 v ∧ IntKind.wrap .u8 v < 256 := by rw [IntKind.wrap_u8]; omega
  congr 1
  rw [UInt8.toNat_ofNat']
  omega
end Go.Proofs.YtkjpmkopnkkbmaaGreatDoor

/- The contracts of the functions of the package cell. -/
namespace Go.Proofs.YtkjpmkopnkkbmaaGreatDoor
open Go.RowKit

set_option maxHeartbeats 400000 in
theorem flag_any (b : Bool) (w : World) :
    Calls Tryz.prog 168 #[.bool b] w fun e w' => e = .returned (.int .i64 (Cn.flag b)) ∧ w = w' := by
  cases b
  all_goals
    go_enter Tryz.func168, Tryz.ntmps168
    go_wp2
    go_ret
    exact ⟨rfl, rfl⟩

set_option maxHeartbeats 400000 in
theorem floor_any (a b : Int) (w : World) :
    Calls Tryz.prog 169 #[.int .i64 a, .int .i64 b] w fun e w' => e = .returned (.tuple #[.int .i64 (Cn.quo a b), .int .i64 (Cn.rem a b), .bool (b != 0)]) ∧ Qt w w' := by
  by_cases h0 : b = 0
  · subst h0
    go_enter Tryz.func169, Tryz.ntmps169
    go_wp2
    go_ret3
    exact ⟨rfl, Qt.refl _⟩
  by_cases h1 : b = -1
  · subst h1
    go_enter Tryz.func169, Tryz.ntmps169
    go_wp2
    go_ret3
    exact ⟨rfl, Qt.refl _⟩
  have e0 : (b == 0) = false := beq_eq_false_iff_ne.2 h0
  have e1 : (b == -1) = false := beq_eq_false_iff_ne.2 h1
  go_enter Tryz.func169, Tryz.ntmps169
  go_wp2
  go_quiet (fail)
  go_wp2
  all_goals
    go_ret3
    refine ⟨ret_iib ?_ ?_ ?_, Qt.drewN _ _⟩ <;> simp_all [Cn.quo, Cn.rem, Cn.odd]

set_option maxHeartbeats 400000 in
theorem shift_any (op a n : Int) (w : World) :
    Calls Tryz.prog 170 #[.int .i64 op, .int .i64 a, .int .i64 n] w fun e w' => e = .returned (.int .i64 (Cn.shift op a n)) ∧ w = w' := by
  go_enter Tryz.func170, Tryz.ntmps170
  go_wp2
  all_goals
    go_ret
    refine ⟨ret_i ?_, rfl⟩
  all_goals simp_all [Cn.shift]
  all_goals omega

set_option maxHeartbeats 400000 in
theorem compare_any (op a b : Int) (w : World) :
    Calls Tryz.prog 171 #[.int .i64 op, .int .i64 a, .int .i64 b] w fun e w' => e = .returned (.int .i64 (Cn.cmp op a b)) ∧ w = w' := by
  go_enter Tryz.func171, Tryz.ntmps171
  go_wp2_with (go_at_call 168; refine (flag_any _ _).mono ?_; rintro e w' ⟨rfl, rfl⟩)
  all_goals
    go_ret
    refine ⟨ret_i ?_, rfl⟩
  all_goals simp_all [Cn.cmp]

set_option maxHeartbeats 400000 in
theorem one_any (op a : Int) (w : World) :
    Calls Tryz.prog 159 #[.int .i64 op, .int .i64 a] w fun e w' => e = .returned (.tuple #[.int .i64 (Cn.one op a), .bool (Cn.isOne op)]) ∧ w = w' := by
  go_enter Tryz.func159, Tryz.ntmps159
  go_wp2_with (go_at_call 168; refine (flag_any _ _).mono ?_; rintro e w' ⟨rfl, rfl⟩)
  all_goals
    go_ret2
    refine ⟨ret_ib ?_ ?_, rfl⟩
  all_goals simp_all [Cn.one, Cn.isOne]

set_option maxHeartbeats 1000000 in
theorem two_any (op a b : Int) (w : World) :
    Calls Tryz.prog 160 #[.int .i64 op, .int .i64 a, .int .i64 b] w fun e w' => e = .returned (.tuple #[.int .i64 (Cn.two op a b), .bool (Cn.isTwo op b)]) ∧ Qt w w' := by
  go_enter Tryz.func160, Tryz.ntmps160
  go_wp2_with (first | (go_at_call 169; refine (floor_any _ _ _).mono ?_; rintro e w' ⟨rfl, n, rfl⟩) | (go_at_call 170; refine (shift_any _ _ _ _).mono ?_; rintro e w' ⟨rfl, rfl⟩) | (go_at_call 171; refine (compare_any _ _ _ _).mono ?_; rintro e w' ⟨rfl, rfl⟩))
  all_goals
    go_ret2
    refine ⟨ret_ib ?_ ?_, (by first | exact Qt.refl _ | exact Qt.drewN _ _)⟩
  all_goals go_light
  all_goals simp_all [Cn.two, Cn.isTwo]
  all_goals omega
end Go.Proofs.YtkjpmkopnkkbmaaGreatDoor
