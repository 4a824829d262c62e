/- A trace's engine in memory: eval.Run. -/
import Derived.Test.YtblmoilneiffgaaRows
import Derived.Test.YtblmoilneiffgaaJ1
import Derived.Test.YtblmoilneiffgaaJ3
import Derived.WalkKit
import Derived.WalkSpells
import Derived.WalkLawsBesides
import Derived.Handy
import Derived.Deep.Light
import Derived.Deep.QuietTactic
import Derived.BigQuiet
import Derived.Test.YtblmoilneiffgaaJ4
import Derived.Test.YtblmoilneiffgaaJ2
import Derived.Test.YtblmoilneiffgaaJ9
import Derived.Lib.ConvBytes
import Derived.Laws.IdiomStrings
import Derived.Laws.MakeOwn
import Derived.Lib.BufferWrite

/- The contracts of the functions of the package cell. -/
namespace Go.Proofs.Ytblmoilneiffgaa
open Go.RowKit

set_option maxHeartbeats 400000 in
theorem flag_any (b : Bool) (w : World) :
    Calls Try.prog 165 #[.bool b] w fun e w' => e = .returned (.int .i64 (Cn.flag b)) ∧ w = w' := by
  cases b
  all_goals
    go_enter Try.func165, Try.ntmps165
    go_wp2
    go_ret
    exact ⟨rfl, rfl⟩

set_option maxHeartbeats 400000 in
theorem floor_any (a b : Int) (w : World) :
    Calls Try.prog 166 #[.int .i64 a, .int .i64 b] w fun e w' => e = .returned (.tuple #[.int .i64 (Cn.quo a b), .int .i64 (Cn.rem a b), .bool (b != 0)]) ∧ Qt w w' := by
  by_cases h0 : b = 0
  · subst h0
    go_enter Try.func166, Try.ntmps166
    go_wp2
    go_ret3
    exact ⟨rfl, Qt.refl _⟩
  by_cases h1 : b = -1
  · subst h1
    go_enter Try.func166, Try.ntmps166
    go_wp2
    go_ret3
    exact ⟨rfl, Qt.refl _⟩
  have e0 : (b == 0) = false := beq_eq_false_iff_ne.2 h0
  have e1 : (b == -1) = false := beq_eq_false_iff_ne.2 h1
  go_enter Try.func166, Try.ntmps166
  go_wp2
  go_quiet (fail)
  go_wp2
  all_goals
    go_ret3
    refine ⟨ret_iib ?_ ?_ ?_, Qt.drewN _ _⟩ <;> simp_all [Cn.quo, Cn.rem, Cn.odd]

set_option maxHeartbeats 400000 in
theorem shift_any (op a n : Int) (w : World) :
    Calls Try.prog 167 #[.int .i64 op, .int .i64 a, .int .i64 n] w fun e w' => e = .returned (.int .i64 (Cn.shift op a n)) ∧ w = w' := by
  go_enter Try.func167, Try.ntmps167
  go_wp2
  all_goals
    go_ret
    refine ⟨ret_i ?_, rfl⟩
  all_goals simp_all [Cn.shift]
  all_goals omega

set_option maxHeartbeats 400000 in
theorem compare_any (op a b : Int) (w : World) :
    Calls Try.prog 168 #[.int .i64 op, .int .i64 a, .int .i64 b] w fun e w' => e = .returned (.int .i64 (Cn.cmp op a b)) ∧ w = w' := by
  go_enter Try.func168, Try.ntmps168
  go_wp2_with (go_at_call 165; refine (flag_any _ _).mono ?_; rintro e w' ⟨rfl, rfl⟩)
  all_goals
    go_ret
    refine ⟨ret_i ?_, rfl⟩
  all_goals simp_all [Cn.cmp]

set_option maxHeartbeats 400000 in
theorem one_any (op a : Int) (w : World) :
    Calls Try.prog 131 #[.int .i64 op, .int .i64 a] w fun e w' => e = .returned (.tuple #[.int .i64 (Cn.one op a), .bool (Cn.isOne op)]) ∧ w = w' := by
  go_enter Try.func131, Try.ntmps131
  go_wp2_with (go_at_call 165; refine (flag_any _ _).mono ?_; rintro e w' ⟨rfl, rfl⟩)
  all_goals
    go_ret2
    refine ⟨ret_ib ?_ ?_, rfl⟩
  all_goals simp_all [Cn.one, Cn.isOne]

set_option maxHeartbeats 1000000 in
theorem two_any (op a b : Int) (w : World) :
    Calls Try.prog 132 #[.int .i64 op, .int .i64 a, .int .i64 b] w fun e w' => e = .returned (.tuple #[.int .i64 (Cn.two op a b), .bool (Cn.isTwo op b)]) ∧ Qt w w' := by
  go_enter Try.func132, Try.ntmps132
  go_wp2_with (first | (go_at_call 166; refine (floor_any _ _ _).mono ?_; rintro e w' ⟨rfl, n, rfl⟩) | (go_at_call 167; refine (shift_any _ _ _ _).mono ?_; rintro e w' ⟨rfl, rfl⟩) | (go_at_call 168; refine (compare_any _ _ _ _).mono ?_; rintro e w' ⟨rfl, rfl⟩))
  all_goals
    go_ret2
    refine ⟨ret_ib ?_ ?_, (by first | exact Qt.refl _ | exact Qt.drewN _ _)⟩
  all_goals go_light
  all_goals simp_all [Cn.two, Cn.isTwo]
  all_goals omega
end Go.Proofs.Ytblmoilneiffgaa

/- Machines and traces in memory; inner.Copy, digits.Put, slices.Contains, eval.May. -/
set_option maxRecDepth 100000
namespace Go.Proofs.Ytblmoilneiffgaa
open Go.RowKit

theorem trN {x y z : World} (h : Chg No x y) (k : Chg No y z) : Chg No x z := h.trans k (fun _ _ h => h) (fun _ _ h => h)
theorem wr_in {x : Int} (h : -9223372036854775808 ≤ x ∧ x ≤ 9223372036854775807) : wr x = x := wr_of h.1 h.2
theorem add0 (q : Addr) : q.add 0 = q := by unfold Addr.add; simp
theorem sl1 (s : Sl) : s.val.oneCell' = true := by rw [val_eq]; rfl
def insC (x : In5) : List Value := [.int .i64 x.a, .int .i64 x.b, .int .i64 x.c, .int .i64 x.d, .int .i64 x.e]
def insE : Enc In5 := ⟨T_api_Ins, 5, 40, insC, by intro x; rfl, by intro x u hu; simp [insC] at hu; rcases hu with rfl | rfl | rfl | rfl | rfl <;> rfl, by decide⟩
/-- An exit in memory. -/
structure OuC where
  ip : Int
  steps : Int
  stack : Sl
  back : Sl
def ouC (x : OuC) : List Value := [.int .i64 x.ip, .int .i64 x.steps, x.stack.val, x.back.val]
def ouE : Enc OuC := ⟨T_api_Out, 4, 64, ouC, by intro x; rfl, by intro x u hu; simp [ouC] at hu; rcases hu with rfl | rfl | rfl | rfl <;> first | rfl | exact sl1 _, by decide⟩
/-- A trace in memory. -/
structure TrP where
  start : Int
  slots : Int
  backs : Int
  grow : Int
  growBack : Int
  ins : Sl
  outs : Sl
  last : Int
  cells : Sl
def trP (t : TrP) : List Value := [.int .i64 t.start, .int .i64 t.slots, .int .i64 t.backs, .int .i64 t.grow, .int .i64 t.growBack, t.ins.val, t.outs.val, .int .i64 t.last, t.cells.val]
/-- A machine in memory. -/
structure StC where
  ip : Int
  handler : Int
  stack : Sl
  back : Sl
  mem : Sl
  out : ByteArray
  inp : ByteArray
  read : Int
  status : Int
  code : Int
/-- t's exits say these. -/
def OuIs (D : Nat → Prop) (w : World) (o : OuC) (v : OuV) : Prop := o.ip = v.ip ∧ o.steps = v.steps ∧ Rd intE w o.stack v.stack ∧ Rd intE w o.back v.back ∧ (∀ k, o.stack.blk = some k → D k) ∧ (∀ k, o.back.blk = some k → D k)
def OusIs (D : Nat → Prop) (w : World) (os : List OuC) (vs : List OuV) : Prop := os.length = vs.length ∧ ∀ (i : Nat) (o : OuC) (v : OuV), os[i]? = some o → vs[i]? = some v → OuIs D w o v
structure TrIs (D : Nat → Prop) (w : World) (t : TrP) (v : TrG) : Prop where
  nums : t.start = v.start ∧ t.slots = v.slots ∧ t.backs = v.backs ∧ t.grow = v.grow ∧ t.growBack = v.growBack ∧ t.last = v.last
  ins : Rd insE w t.ins v.ins
  outs : ∃ os, Rd ouE w t.outs os ∧ OusIs D w os v.outs
  cells : Rd intE w t.cells v.cells
  insD : ∀ k, t.ins.blk = some k → D k
  outsD : ∀ k, t.outs.blk = some k → D k
  cellsD : ∀ k, t.cells.blk = some k → D k
theorem OusIs.chg {D S : Nat → Prop} {w w' : World} {os : List OuC} {vs : List OuV} (h : OusIs D w os vs) (c : Chg S w w') (hS : ∀ k, D k → ¬ S k) : OusIs D w' os vs :=
  ⟨h.1, fun i o v ho hv => by
    obtain ⟨h1, h2, h3, h4, h5, h6⟩ := h.2 i o v ho hv
    exact ⟨h1, h2, h3.chg c (fun k hk => hS _ (h5 k hk)), h4.chg c (fun k hk => hS _ (h6 k hk)), h5, h6⟩⟩
theorem TrIs.chg {D S : Nat → Prop} {w w' : World} {t : TrP} {v : TrG} (h : TrIs D w t v) (c : Chg S w w') (hS : ∀ k, D k → ¬ S k) : TrIs D w' t v := by
  obtain ⟨os, h1, h2⟩ := h.outs
  exact ⟨h.nums, h.ins.chg c (fun k hk => hS _ (h.insD k hk)), ⟨os, h1.chg c (fun k hk => hS _ (h.outsD k hk)), h2.chg c hS⟩, h.cells.chg c (fun k hk => hS _ (h.cellsD k hk)), h.insD, h.outsD, h.cellsD⟩
theorem TrIs.no {D : Nat → Prop} {w w' : World} {t : TrP} {v : TrG} (h : TrIs D w t v) (c : Chg No w w') : TrIs D w' t v := h.chg c (fun _ _ h => h)
def StNums (S : StC) (s : StV) : Prop := S.ip = s.ip ∧ S.handler = s.handler ∧ S.out = s.out ∧ S.inp = s.inp ∧ S.read = s.read ∧ S.status = s.status ∧ S.code = s.code
/-- S says s; its lists lie in blocks of D. -/
structure StIs (D : Nat → Prop) (w : World) (S : StC) (s : StV) : Prop where
  nums : StNums S s
  st : Rd intE w S.stack s.stack
  bk : Rd intE w S.back s.back
  me : Rd intE w S.mem s.mem
  stD : ∀ k, S.stack.blk = some k → D k
  bkD : ∀ k, S.back.blk = some k → D k
  meD : ∀ k, S.mem.blk = some k → D k
theorem StIs.chg {D S' : Nat → Prop} {w w' : World} {S : StC} {s : StV} (h : StIs D w S s) (c : Chg S' w w') (hS : ∀ k, D k → ¬ S' k) : StIs D w' S s :=
  ⟨h.nums, h.st.chg c (fun k hk => hS _ (h.stD k hk)), h.bk.chg c (fun k hk => hS _ (h.bkD k hk)), h.me.chg c (fun k hk => hS _ (h.meD k hk)), h.stD, h.bkD, h.meD⟩
theorem StIs.no {D : Nat → Prop} {w w' : World} {S : StC} {s : StV} (h : StIs D w S s) (c : Chg No w w') : StIs D w' S s := h.chg c (fun _ _ h => h)
/-- S says s; its lists are its own, each in a block of its own, of D. -/
structure StOw (D : Nat → Prop) (w : World) (S : StC) (s : StV) : Prop where
  nums : StNums S s
  st : Ow intE w S.stack s.stack
  bk : Ow intE w S.back s.back
  me : Ow intE w S.mem s.mem
  stD : ∀ k, S.stack.blk = some k → D k
  bkD : ∀ k, S.back.blk = some k → D k ∧ S.stack.blk ≠ some k
  meD : ∀ k, S.mem.blk = some k → D k ∧ S.stack.blk ≠ some k ∧ S.back.blk ≠ some k
theorem StOw.is {D : Nat → Prop} {w : World} {S : StC} {s : StV} (h : StOw D w S s) : StIs D w S s := ⟨h.nums, h.st.rd, h.bk.rd, h.me.rd, h.stD, fun k hk => (h.bkD k hk).1, fun k hk => (h.meD k hk).1⟩
theorem StOw.chg {D S' : Nat → Prop} {w w' : World} {S : StC} {s : StV} (h : StOw D w S s) (c : Chg S' w w') (hS : ∀ k, D k → ¬ S' k) : StOw D w' S s :=
  ⟨h.nums, h.st.chg c (fun k hk => hS _ (h.stD k hk)), h.bk.chg c (fun k hk => hS _ (h.bkD k hk).1), h.me.chg c (fun k hk => hS _ (h.meD k hk).1), h.stD, h.bkD, h.meD⟩
theorem StOw.no {D : Nat → Prop} {w w' : World} {S : StC} {s : StV} (h : StOw D w S s) (c : Chg No w w') : StOw D w' S s := h.chg c (fun _ _ h => h)
/-- A block laid out anew, and written whole. -/
theorem newOb {w w1 w2 : World} {b : Nat} {T : TypeId} (zs vs : List Value) (hl : zs.length = vs.length) (hb : b = w.heap.size) (hw : w1 = World.alloc w (.cells zs.toArray T)) : wrOk w1 ⟨b, 0, none⟩ vs.length ∧ (w2 = stW w1 ⟨b, 0, none⟩ 0 vs → Ob w2 b vs T ∧ Chg No w w2) := by
  have ho : Ob w1 b zs T := by rw [hw, hb]; exact Ob.new w zs T
  have hc : Chg No w w1 := by rw [hw]; exact Chg.alloc _ _ _
  refine ⟨ho.wr (by omega), fun h2 => ⟨?_, ?_⟩⟩
  · have := Ob.st (vs := vs) (k := 0) (i := 0) ho
    rw [show wrL zs (0 + 0) vs = vs from wrL_whole hl] at this
    rw [h2]; exact this
  · rw [h2]
    exact hc.trans (Chg.st (S := fun k => k = b) rfl) (fun _ _ h => h) (fun k hk he => by subst he; omega)
theorem al {w w' : World} {o : Obj} (hw : w' = World.alloc w o) : Chg No w w' := by rw [hw]; exact Chg.alloc _ _ _
theorem dw {w w' : World} (hw : w' = World.drew w) : Chg No w w' := by rw [hw]; exact Chg.drew _ _
/-- A block with some cells written. -/
theorem Ob.up {w w' : World} {b k : Nat} {cs vs cs' : List Value} {T : TypeId} (h : Ob w b cs T) (hl : k + vs.length ≤ cs.length) (hc : wrL cs k vs = cs') (hw : w' = stW w ⟨b, k, none⟩ 0 vs) : Ob w' b cs' T ∧ Chg (fun j => j = b) w w' := by
  refine ⟨?_, by rw [hw]; exact Chg.st (S := fun j => j = b) rfl⟩
  have := Ob.st (vs := vs) (k := k) (i := 0) h
  rw [hw, ← hc]; exact this

/-! ### inner.Copy -/
/-! ### slices.Contains -/
/-! ### eval.May -/
end Go.Proofs.Ytblmoilneiffgaa

/- A trace's engine in memory: its values, its instructions one by one. -/
set_option maxRecDepth 100000
namespace Go.Proofs.Ytblmoilneiffgaa
open Go.RowKit

/-! ### digits.Put -/
end Go.Proofs.Ytblmoilneiffgaa

/- A trace's engine in memory: its values, its instructions one by one. -/
set_option maxRecDepth 100000
namespace Go.Proofs.Ytblmoilneiffgaa
open Go.RowKit

def enC (T : TrP) (S : StC) (rg atS waS : Sl) (hit : Int) : List Value := [.int .i64 T.start, .int .i64 T.slots, .int .i64 T.backs, .int .i64 T.grow, .int .i64 T.growBack, T.ins.val, T.outs.val, .int .i64 T.last, T.cells.val, .int .i64 S.ip, .int .i64 S.handler, S.stack.val, S.back.val, S.mem.val, .string S.out, .string S.inp, .int .i64 S.read, .int .i64 S.status, .int .i64 S.code, rg.val, atS.val, waS.val, .int .i64 hit]
/-- At p lies an engine; it, the memory and the registers lie in blocks of B, all else elsewhere. -/
structure EnAt (w0 : World) (B : Nat → Prop) (w : World) (p : Nat) (T : TrP) (S : StC) (rg atS waS : Sl) (ats wl : List Int) (e : En) : Prop where
  ob : Ob w p (enC T S rg atS waS e.hit) T_eval_engine
  nums : StNums S e.s
  st : Rd intE w S.stack e.s.stack
  bk : Rd intE w S.back e.s.back
  me : Ow intE w S.mem e.s.mem
  reg : Ow intE w rg e.regs
  at' : Rd intE w0 atS ats
  wa : Rd intE w0 waS wl
  base : Chg No w0 w
  bN : ∀ k, B k → w0.heap.size ≤ k
  pB : B p
  meB : ∀ k, S.mem.blk = some k → B k ∧ k ≠ p
  rgB : ∀ k, rg.blk = some k → B k ∧ k ≠ p ∧ S.mem.blk ≠ some k
  stN : ∀ k, S.stack.blk = some k → ¬ B k
  bkN : ∀ k, S.back.blk = some k → ¬ B k
  ok : AtOk ats e.regs.length
variable {w0 : World} {B : Nat → Prop} {w : World} {p : Nat} {T : TrP} {S : StC} {rg atS waS : Sl} {ats wl : List Int} {e : En}
theorem EnAt.no {w' : World} (h : EnAt w0 B w p T S rg atS waS ats wl e) (c : Chg No w w') : EnAt w0 B w' p T S rg atS waS ats wl e :=
  ⟨h.ob.no c, h.nums, h.st.no c, h.bk.no c, h.me.no c, h.reg.no c, h.at', h.wa, trN h.base c, h.bN, h.pB, h.meB, h.rgB, h.stN, h.bkN, h.ok⟩
theorem getI_ix {xs : List Int} {i : Int} (h0 : 0 ≤ i) (h1 : i < xs.length) : xs[i.toNat]? = some (getI xs i) := by
  unfold getI; rw [List.getD_eq_getElem?_getD, List.getElem?_eq_getElem (by omega)]; rfl
theorem AtOk.at {ats : List Int} {m : Nat} (h : AtOk ats m) {q : Int} (h0 : 0 ≤ q) (h1 : q < ats.length) : 0 ≤ getI ats q ∧ getI ats q < m := h q.toNat (by omega)
/-- What an instruction's function answers, and leaves. -/
def EnAns (w0 : World) (B : Nat → Prop) (w : World) (p : Nat) (T : TrP) (S : StC) (rg atS waS : Sl) (ats wl : List Int) (r : Int × En) (x : Int) (w' : World) : Prop :=
  x = r.1 ∧ (∃ S' : StC, (S'.stack = S.stack ∧ S'.back = S.back ∧ S'.mem = S.mem) ∧ EnAt w0 B w' p T S' rg atS waS ats wl r.2) ∧ Chg B w w'
theorem EnAns.pre {wv w' : World} {r : Int × En} {x : Int} (c : Chg No wv w) (h : EnAns w0 B w p T S rg atS waS ats wl r x w') : EnAns w0 B wv p T S rg atS waS ats wl r x w' :=
  ⟨h.1, h.2.1, c.trans h.2.2 (fun _ _ h => h.elim) (fun _ _ h => h)⟩
theorem EnAns.same (h : EnAt w0 B w p T S rg atS waS ats wl e) (x : Int) : EnAns w0 B w p T S rg atS waS ats wl (x, e) x w := ⟨rfl, ⟨S, ⟨rfl, rfl, rfl⟩, h⟩, Chg.refl _ _⟩
theorem EnAns.no {w' : World} (h : EnAt w0 B w p T S rg atS waS ats wl e) (c : Chg No w w') (x : Int) : EnAns w0 B w p T S rg atS waS ats wl (x, e) x w' := (EnAns.same (h.no c) x).pre c
end Go.Proofs.Ytblmoilneiffgaa

/- A trace's engine: an instruction, an exit, a whole run. -/
set_option maxRecDepth 100000
namespace Go.Proofs.Ytblmoilneiffgaa
open Go.RowKit

section
variable {w0 : World} {B : Nat → Prop} {w : World} {p : Nat} {T : TrP} {S : StC} {rg atS waS : Sl} {ats wl : List Int} {e : En}
/-- Strings are not too long, and what was read is there. -/
def TxOk (s : StV) : Prop := s.out.size ≤ 4611686018427387904 ∧ s.inp.size ≤ 4611686018427387904 ∧ 0 ≤ s.read
theorem TxOk.ins {e : En} (h : TxOk e.s) (ats wl : List Int) (q : Int) (i : In5) : TxOk (insV ats wl q i e).2.s := by
  obtain ⟨h1, h2, h3⟩ := h
  have hset : ∀ (v : Int) (e : En), (setV ats q v e).s = e.s := fun _ _ => rfl
  unfold insV
  repeat' split
  all_goals try (first | exact ⟨h1, h2, h3⟩ | (rw [hset]; exact ⟨h1, h2, h3⟩))
  · unfold calcV; dsimp only; repeat' split
    all_goals exact ⟨h1, h2, h3⟩
  · unfold memV; dsimp only; repeat' split
    all_goals exact ⟨h1, h2, h3⟩
  · unfold tellV; dsimp only; split
    · exact ⟨h1, h2, h3⟩
    · refine ⟨?_, h2, h3⟩
      show (e.s.out ++ sayV i.a (valV ats i.c e)).size ≤ _
      rw [ByteArray.size_append]; omega
  · unfold askV; split
    · exact ⟨h1, h2, h3⟩
    · exact ⟨h1, h2, by show 0 ≤ e.s.read + 1; omega⟩
end
end Go.Proofs.Ytblmoilneiffgaa

/- A trace's engine: an exit, a whole run. -/
set_option maxRecDepth 100000
namespace Go.Proofs.Ytblmoilneiffgaa
open Go.RowKit

theorem StOw.wid {D D' : Nat → Prop} {w : World} {S : StC} {s : StV} (h : StOw D w S s) (hd : ∀ k, D k → D' k) : StOw D' w S s :=
  ⟨h.nums, h.st, h.bk, h.me, fun k hk => hd _ (h.stD k hk), fun k hk => ⟨hd _ (h.bkD k hk).1, (h.bkD k hk).2⟩, fun k hk => ⟨hd _ (h.meD k hk).1, (h.meD k hk).2⟩⟩
section
variable {w0 : World} {B : Nat → Prop} {w : World} {p : Nat} {T : TrP} {S : StC} {rg atS waS : Sl} {ats wl : List Int} {e : En}
end
end Go.Proofs.Ytblmoilneiffgaa

/- eval.Through and eval.Run: a whole run of a trace. -/
set_option maxRecDepth 100000
namespace Go.Proofs.Ytblmoilneiffgaa
open Go.RowKit

end Go.Proofs.Ytblmoilneiffgaa

/- eval.Run: a whole run of a trace, in as many registers as it has places. -/
set_option maxRecDepth 100000
namespace Go.Proofs.Ytblmoilneiffgaa
open Go.RowKit

end Go.Proofs.Ytblmoilneiffgaa
