/- A trace's engine in memory: eval.Run. -/
import Derived.Test.YtkjpmkopnkkbmaaJ3
import Derived.Test.YtkjpmkopnkkbmaaJ4
import Derived.Test.YtkjpmkopnkkbmaaJ2
import Derived.Lib.ConvBytes
import Derived.Laws.IdiomStrings
import Derived.Laws.MakeOwn
import Derived.Lib.BufferWrite
import Derived.Test.YtkjpmkopnkkbmaaRows
import Derived.Test.YtkjpmkopnkkbmaaJ1
import Derived.WalkKit
import Derived.WalkSpells
import Derived.WalkLawsBesides
import Derived.Handy
import Derived.Deep.Light
import Derived.Deep.QuietTactic
import Derived.BigQuiet

/- Machines in memory; inner.Copy. -/
set_option maxRecDepth 100000
namespace Go.Proofs.Ytkjpmkopnkkbmaa
open Go.RowKit

theorem trN {x y z : World} (h : Chg No x y) (k : Chg No y z) : Chg No x z := h.trans k (fun _ _ h => h) (fun _ _ h => h)
theorem wr_in {x : Int} (h : -9223372036854775808 ≤ x ∧ x ≤ 9223372036854775807) : wr x = x := wr_of h.1 h.2
theorem add0 (q : Addr) : q.add 0 = q := by unfold Addr.add; simp
theorem sl1 (s : Sl) : s.val.oneCell' = true := by rw [val_eq]; rfl
/-- A machine in memory. -/
structure StC where
  ip : Int
  handler : Int
  stack : Sl
  back : Sl
  mem : Sl
  out : ByteArray
  inp : ByteArray
  read : Int
  status : Int
  code : Int
def stC (s : StC) : List Value := [.int .i64 s.ip, .int .i64 s.handler, s.stack.val, s.back.val, s.mem.val, .string s.out, .string s.inp, .int .i64 s.read, .int .i64 s.status, .int .i64 s.code]
def st0 : StC := ⟨0, 0, nilS, nilS, nilS, bs [], bs [], 0, 0, 0⟩
def StNums (S : StC) (s : StV) : Prop := S.ip = s.ip ∧ S.handler = s.handler ∧ S.out = s.out ∧ S.inp = s.inp ∧ S.read = s.read ∧ S.status = s.status ∧ S.code = s.code
/-- S says s; its lists lie in blocks of D. -/
structure StIs (D : Nat → Prop) (w : World) (S : StC) (s : StV) : Prop where
  nums : StNums S s
  st : Rd intE w S.stack s.stack
  bk : Rd intE w S.back s.back
  me : Rd intE w S.mem s.mem
  stD : ∀ k, S.stack.blk = some k → D k
  bkD : ∀ k, S.back.blk = some k → D k
  meD : ∀ k, S.mem.blk = some k → D k
theorem StIs.chg {D S' : Nat → Prop} {w w' : World} {S : StC} {s : StV} (h : StIs D w S s) (c : Chg S' w w') (hS : ∀ k, D k → ¬ S' k) : StIs D w' S s :=
  ⟨h.nums, h.st.chg c (fun k hk => hS _ (h.stD k hk)), h.bk.chg c (fun k hk => hS _ (h.bkD k hk)), h.me.chg c (fun k hk => hS _ (h.meD k hk)), h.stD, h.bkD, h.meD⟩
theorem StIs.no {D : Nat → Prop} {w w' : World} {S : StC} {s : StV} (h : StIs D w S s) (c : Chg No w w') : StIs D w' S s := h.chg c (fun _ _ h => h)
/-- S says s; its lists are its own, each in a block of its own, of D. -/
structure StOw (D : Nat → Prop) (w : World) (S : StC) (s : StV) : Prop where
  nums : StNums S s
  st : Ow intE w S.stack s.stack
  bk : Ow intE w S.back s.back
  me : Ow intE w S.mem s.mem
  stD : ∀ k, S.stack.blk = some k → D k
  bkD : ∀ k, S.back.blk = some k → D k ∧ S.stack.blk ≠ some k
  meD : ∀ k, S.mem.blk = some k → D k ∧ S.stack.blk ≠ some k ∧ S.back.blk ≠ some k
theorem StOw.is {D : Nat → Prop} {w : World} {S : StC} {s : StV} (h : StOw D w S s) : StIs D w S s := ⟨h.nums, h.st.rd, h.bk.rd, h.me.rd, h.stD, fun k hk => (h.bkD k hk).1, fun k hk => (h.meD k hk).1⟩
theorem StOw.chg {D S' : Nat → Prop} {w w' : World} {S : StC} {s : StV} (h : StOw D w S s) (c : Chg S' w w') (hS : ∀ k, D k → ¬ S' k) : StOw D w' S s :=
  ⟨h.nums, h.st.chg c (fun k hk => hS _ (h.stD k hk)), h.bk.chg c (fun k hk => hS _ (h.bkD k hk).1), h.me.chg c (fun k hk => hS _ (h.meD k hk).1), h.stD, h.bkD, h.meD⟩
theorem StOw.no {D : Nat → Prop} {w w' : World} {S : StC} {s : StV} (h : StOw D w S s) (c : Chg No w w') : StOw D w' S s := h.chg c (fun _ _ h => h)
/-- A block laid out anew, and written whole. -/
theorem newOb {w w1 w2 : World} {b : Nat} {T : TypeId} (zs vs : List Value) (hl : zs.length = vs.length) (hb : b = w.heap.size) (hw : w1 = World.alloc w (.cells zs.toArray T)) : wrOk w1 ⟨b, 0, none⟩ vs.length ∧ (w2 = stW w1 ⟨b, 0, none⟩ 0 vs → Ob w2 b vs T ∧ Chg No w w2) := by
  have ho : Ob w1 b zs T := by rw [hw, hb]; exact Ob.new w zs T
  have hc : Chg No w w1 := by rw [hw]; exact Chg.alloc _ _ _
  refine ⟨ho.wr (by omega), fun h2 => ⟨?_, ?_⟩⟩
  · have := Ob.st (vs := vs) (k := 0) (i := 0) ho
    rw [show wrL zs (0 + 0) vs = vs from wrL_whole hl] at this
    rw [h2]; exact this
  · rw [h2]
    exact hc.trans (Chg.st (S := fun k => k = b) rfl) (fun _ _ h => h) (fun k hk he => by subst he; omega)
theorem al {w w' : World} {o : Obj} (hw : w' = World.alloc w o) : Chg No w w' := by rw [hw]; exact Chg.alloc _ _ _
theorem dw {w w' : World} (hw : w' = World.drew w) : Chg No w w' := by rw [hw]; exact Chg.drew _ _
theorem st1 {w w' : World} {p : Addr} {vs : List Value} (hw : w' = stW w p 0 vs) : Chg (fun k => k = p.block) w w' := by rw [hw]; exact Chg.st (S := fun k => k = p.block) rfl
/-- A block with some cells written. -/
theorem Ob.up {w w' : World} {b k : Nat} {cs vs cs' : List Value} {T : TypeId} (h : Ob w b cs T) (hl : k + vs.length ≤ cs.length) (hc : wrL cs k vs = cs') (hw : w' = stW w ⟨b, k, none⟩ 0 vs) : Ob w' b cs' T ∧ Chg (fun j => j = b) w w' := by
  refine ⟨?_, by rw [hw]; exact Chg.st (S := fun j => j = b) rfl⟩
  have := Ob.st (vs := vs) (k := k) (i := 0) h
  rw [hw, ← hc]; exact this

/-! ### inner.Copy -/
/-! ### slices.Contains -/
end Go.Proofs.Ytkjpmkopnkkbmaa

/- A trace's engine in memory: its values, its instructions one by one. -/
set_option maxRecDepth 100000
namespace Go.Proofs.Ytkjpmkopnkkbmaa
open Go.RowKit

theorem madeOne (z : Value) (n : Nat) : (madeCells #[z] n).toList = List.replicate n z := by
  unfold madeCells
  apply List.ext_getElem
  · simp
  · intro i h1 h2
    simp [Nat.mod_one]
theorem fl_rep (n : Nat) : fl intE (List.replicate n 0) = List.replicate n (Value.int .i64 0) := by
  induction n with
  | zero => rfl
  | succ m ih => rw [List.replicate_succ, List.replicate_succ, fl_cons, ih]; rfl
/-- make([]int, n). -/
theorem make_ints {w : World} {n : Int} {N : Nat} (hn : n = (N : Int)) (hN : N ≤ 1000000) : ∃ w' : World, (Instr.makeSlice T_sl_int (.int .i64 n) (.int .i64 n)).run Try.prog w = .ok (⟨some ⟨w.heap.size, 0, none⟩, N, N⟩ : Sl).val w' ∧ Ow intE w' ⟨some ⟨w.heap.size, 0, none⟩, N, N⟩ (List.replicate N 0) ∧ Chg No w w' := by
  subst hn
  obtain ⟨i, z, hi, hz, h1, h2, h3⟩ := intOk.info
  have hz0 : z = .int .i64 0 := by
    have e : (Try.prog.info? T_int).bind (·.zero) = some (.int .i64 0) := by kernel_rfl
    have hi' : Try.prog.info? T_int = some i := hi
    rw [hi'] at e
    exact Option.some.inj (hz.symm.trans e)
  subst hz0
  have h1' : i.size = 1 := h1
  have h2' : i.bytes = 8 := h2
  have hr := run_make (P := Try.prog) w T_sl_int T_int i (.int .i64 0) intOk.und hi hz .i64 .i64 (N : Int) (N : Int) (by omega) (by omega) (by rw [h2']; omega) (by omega)
  rw [Int.toNat_natCast, h1', Nat.mul_one] at hr
  have hz1 : (Value.int .i64 0).cells = #[.int .i64 0] := rfl
  rw [hz1] at hr
  refine ⟨_, hr, ?_, Chg.alloc _ _ _⟩
  have hm : madeCells #[Value.int .i64 0] N = (List.replicate N (Value.int .i64 0)).toArray := Array.ext' (by rw [madeOne])
  rw [hm]
  have := Ow.lit (E := intE) w (List.replicate N 0) (List.replicate N (Value.int .i64 0)) (fl_rep N).symm (by rw [List.length_replicate]; unfold maxLen; omega)
  rw [List.length_replicate] at this
  exact this

/-! ### digits.Put -/
def u8E : Enc UInt8 := ⟨T_uint8, 1, 1, fun c => [.int .u8 c.toNat], by intro x; rfl, by intro x u hu; simp at hu; subst hu; rfl, by decide⟩
theorem u8Ok : EncOk Try.prog u8E T_sl_uint8 := EncOk.of (z := .int .u8 0) (by kernel_rfl) (by kernel_rfl) (by kernel_rfl)
theorem fl_u8 : ∀ (l : List UInt8) (j : Nat), (fl u8E l)[j]? = (l[j]?).map (fun c => Value.int .u8 c.toNat)
  | [], j => by simp [fl]
  | c :: l, 0 => by rw [fl_cons]; rfl
  | c :: l, j + 1 => by
    rw [fl_cons, List.getElem?_append_right (by show 1 ≤ j + 1; omega)]
    have := fl_u8 l j
    simpa [u8E] using this
theorem u8_str {w : World} {s : Sl} {l : List UInt8} (h : Rd u8E w s l) (hne : l ≠ []) : (convert T_sl_uint8 T_string s.val).run Try.prog w = .ok (.string (bs l)) w := by
  obtain ⟨ao, cap, he, h1, h2, h3, h4⟩ := h
  have h0 : 0 < l.length := List.length_pos_iff.2 hne
  obtain ⟨a, ha, _⟩ := h4 0 _ (by rw [fl_u8, List.getElem?_eq_getElem h0]; rfl)
  rw [he, ha]
  refine run_convert_bytes_back (P := Try.prog) w T_sl_uint8 T_string T_uint8 a cap l u8Ok.und Try.underlying5 Try.underlying9 (fun j hj => ?_)
  obtain ⟨a', ha', hc⟩ := h4 j _ (by rw [fl_u8, List.getElem?_eq_getElem hj]; rfl)
  rw [ha] at ha'; cases ha'
  exact hc
theorem lit8 {w w' : World} {b : Nat} {v : Value} (c : UInt8) (hv : v = .int .u8 c.toNat) (hb : b = w.heap.size) (hw : w' = World.alloc w (.cells #[v] T_uint8)) : Ow u8E w' ⟨some ⟨b, 0, none⟩, 1, 1⟩ [c] ∧ Chg No w w' := by
  subst hv
  rw [hw, hb]
  exact ⟨Ow.lit (E := u8E) w [c] [.int .u8 c.toNat] (by rw [fl_one]; rfl) (by show 1 ≤ maxLen; unfold maxLen; omega), Chg.alloc _ _ _⟩
theorem dig_c (n : Nat) : sb (bs [48, 49, 50, 51, 52, 53, 54, 55, 56, 57, 65, 66, 67, 68, 69, 70, 71, 72, 73, 74, 75, 76, 77, 78, 79, 80, 81, 82, 83, 84, 85, 86, 87, 88, 89, 90]) ((n % 10 : Nat) : Int) = ((UInt8.ofNat (48 + n % 10)).toNat : Int) := by
  have h : ∀ k : Fin 10, sb (bs [48, 49, 50, 51, 52, 53, 54, 55, 56, 57, 65, 66, 67, 68, 69, 70, 71, 72, 73, 74, 75, 76, 77, 78, 79, 80, 81, 82, 83, 84, 85, 86, 87, 88, 89, 90]) ((k.val : Nat) : Int) = ((UInt8.ofNat (48 + k.val)).toNat : Int) := by decide +kernel
  exact h ⟨n % 10, Nat.mod_lt _ (by decide)⟩
theorem putV_size (v : Int) : (putV v).size ≤ 21 := by
  unfold putV
  have := dg_len 20 (absN v) []
  simp only [List.length_nil, Nat.zero_add] at this
  split
  · rw [ByteArray.size_append]; show 1 + _ ≤ _; have h : (bs (dg 20 (absN v) [])).size = (dg 20 (absN v) []).length := rfl; omega
  · have h : (bs (dg 20 (absN v) [])).size = (dg 20 (absN v) []).length := rfl; omega
theorem sayV_size (op v : Int) : (sayV op v).size ≤ 22 := by
  unfold sayV
  split
  · rw [ByteArray.size_append]; have := putV_size v; show _ + 1 ≤ _; omega
  · show 1 ≤ 22; decide
theorem byte_lit (v : Int) : Value.int .u8 (IntKind.wrap .u8 v) = .int .u8 ((byteC v).toNat : Int) := by
  unfold byteC
  have h : 0 ≤ IntKind.wrap .u8 v ∧ IntKind.wrap .u8 v < 256 := by rw [IntKind.wrap_u8]; omega
  congr 1
  rw [UInt8.toNat_ofNat']
  omega
end Go.Proofs.Ytkjpmkopnkkbmaa

/- The contracts of the functions of the package cell. -/
namespace Go.Proofs.Ytkjpmkopnkkbmaa
open Go.RowKit

set_option maxHeartbeats 400000 in
theorem flag_any (b : Bool) (w : World) :
    Calls Try.prog 99 #[.bool b] w fun e w' => e = .returned (.int .i64 (Cn.flag b)) ∧ w = w' := by
  cases b
  all_goals
    go_enter Try.func99, Try.ntmps99
    go_wp2
    go_ret
    exact ⟨rfl, rfl⟩

set_option maxHeartbeats 400000 in
theorem one_any (op a : Int) (w : World) :
    Calls Try.prog 92 #[.int .i64 op, .int .i64 a] w fun e w' => e = .returned (.tuple #[.int .i64 (Cn.one op a), .bool (Cn.isOne op)]) ∧ w = w' := by
  go_enter Try.func92, Try.ntmps92
  go_wp2_with (go_at_call 99; refine (flag_any _ _).mono ?_; rintro e w' ⟨rfl, rfl⟩)
  all_goals
    go_ret2
    refine ⟨ret_ib ?_ ?_, rfl⟩
  all_goals simp_all [Cn.one, Cn.isOne]

end Go.Proofs.Ytkjpmkopnkkbmaa

/- Machines and traces in memory; inner.Copy, digits.Put, slices.Contains, eval.May. -/
set_option maxRecDepth 100000
namespace Go.Proofs.Ytkjpmkopnkkbmaa
open Go.RowKit

def insC (x : In5) : List Value := [.int .i64 x.a, .int .i64 x.b, .int .i64 x.c, .int .i64 x.d, .int .i64 x.e]
def insE : Enc In5 := ⟨T_api_Ins, 5, 40, insC, by intro x; rfl, by intro x u hu; simp [insC] at hu; rcases hu with rfl | rfl | rfl | rfl | rfl <;> rfl, by decide⟩
/-- An exit in memory. -/
structure OuC where
  ip : Int
  steps : Int
  stack : Sl
  back : Sl
def ouC (x : OuC) : List Value := [.int .i64 x.ip, .int .i64 x.steps, x.stack.val, x.back.val]
def ouE : Enc OuC := ⟨T_api_Out, 4, 64, ouC, by intro x; rfl, by intro x u hu; simp [ouC] at hu; rcases hu with rfl | rfl | rfl | rfl <;> first | rfl | exact sl1 _, by decide⟩
/-- A trace in memory. -/
structure TrP where
  start : Int
  slots : Int
  backs : Int
  grow : Int
  growBack : Int
  ins : Sl
  outs : Sl
  last : Int
  cells : Sl
def trP (t : TrP) : List Value := [.int .i64 t.start, .int .i64 t.slots, .int .i64 t.backs, .int .i64 t.grow, .int .i64 t.growBack, t.ins.val, t.outs.val, .int .i64 t.last, t.cells.val]
/-- t's exits say these. -/
def OuIs (D : Nat → Prop) (w : World) (o : OuC) (v : OuV) : Prop := o.ip = v.ip ∧ o.steps = v.steps ∧ Rd intE w o.stack v.stack ∧ Rd intE w o.back v.back ∧ (∀ k, o.stack.blk = some k → D k) ∧ (∀ k, o.back.blk = some k → D k)
def OusIs (D : Nat → Prop) (w : World) (os : List OuC) (vs : List OuV) : Prop := os.length = vs.length ∧ ∀ (i : Nat) (o : OuC) (v : OuV), os[i]? = some o → vs[i]? = some v → OuIs D w o v
structure TrIs (D : Nat → Prop) (w : World) (t : TrP) (v : TrG) : Prop where
  nums : t.start = v.start ∧ t.slots = v.slots ∧ t.backs = v.backs ∧ t.grow = v.grow ∧ t.growBack = v.growBack ∧ t.last = v.last
  ins : Rd insE w t.ins v.ins
  outs : ∃ os, Rd ouE w t.outs os ∧ OusIs D w os v.outs
  cells : Rd intE w t.cells v.cells
  insD : ∀ k, t.ins.blk = some k → D k
  outsD : ∀ k, t.outs.blk = some k → D k
  cellsD : ∀ k, t.cells.blk = some k → D k
theorem OusIs.chg {D S : Nat → Prop} {w w' : World} {os : List OuC} {vs : List OuV} (h : OusIs D w os vs) (c : Chg S w w') (hS : ∀ k, D k → ¬ S k) : OusIs D w' os vs :=
  ⟨h.1, fun i o v ho hv => by
    obtain ⟨h1, h2, h3, h4, h5, h6⟩ := h.2 i o v ho hv
    exact ⟨h1, h2, h3.chg c (fun k hk => hS _ (h5 k hk)), h4.chg c (fun k hk => hS _ (h6 k hk)), h5, h6⟩⟩
theorem TrIs.chg {D S : Nat → Prop} {w w' : World} {t : TrP} {v : TrG} (h : TrIs D w t v) (c : Chg S w w') (hS : ∀ k, D k → ¬ S k) : TrIs D w' t v := by
  obtain ⟨os, h1, h2⟩ := h.outs
  exact ⟨h.nums, h.ins.chg c (fun k hk => hS _ (h.insD k hk)), ⟨os, h1.chg c (fun k hk => hS _ (h.outsD k hk)), h2.chg c hS⟩, h.cells.chg c (fun k hk => hS _ (h.cellsD k hk)), h.insD, h.outsD, h.cellsD⟩
theorem TrIs.no {D : Nat → Prop} {w w' : World} {t : TrP} {v : TrG} (h : TrIs D w t v) (c : Chg No w w') : TrIs D w' t v := h.chg c (fun _ _ h => h)
/-! ### eval.May -/
end Go.Proofs.Ytkjpmkopnkkbmaa
