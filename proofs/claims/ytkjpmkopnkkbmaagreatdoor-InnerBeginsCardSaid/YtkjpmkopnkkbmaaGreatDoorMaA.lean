/- A machine in memory: cells laid and taken, faults made, cells read. -/
import Derived.Test.YtkjpmkopnkkbmaaGreatDoorMaV
import Derived.Test.YtkjpmkopnkkbmaaGreatDoorErC
import Derived.Test.YtkjpmkopnkkbmaaGreatDoorEvB
import Derived.Test.YtkjpmkopnkkbmaaGreatDoorCellW
set_option maxRecDepth 100000
namespace Go.Proofs.YtkjpmkopnkkbmaaGreatDoor
open Go.RowKit

def mcC (S : StC) (th : Bool) : List Value := stC S ++ [.bool th]
/-- A machine at m, all that it may write in blocks of D. -/
structure MS (D : Nat → Prop) (w : World) (m : Nat) (S : StC) (s : StV) (th : Bool) : Prop where
  ob : Ob w m (mcC S th) T_inner_machine
  nums : StNums S s
  st : Ox intE w S.stack s.stack
  bk : Ox intE w S.back s.back
  me : Ox intE w S.mem s.mem
  dm : D m
  dst : ∀ k, S.stack.blk = some k → D k ∧ k ≠ m ∧ S.back.blk ≠ some k ∧ S.mem.blk ≠ some k
  dbk : ∀ k, S.back.blk = some k → D k ∧ k ≠ m ∧ S.mem.blk ≠ some k
  dme : ∀ k, S.mem.blk = some k → D k ∧ k ≠ m
/-- What a method leaves: the machine, its memory's list the same one. -/
def MR (D : Nat → Prop) (w : World) (m : Nat) (S : StC) (w' : World) (S' : StC) (s' : StV) (th : Bool) : Prop := MS D w' m S' s' th ∧ S'.mem = S.mem ∧ Chg D w w'
section
variable {D : Nat → Prop} {w : World} {m : Nat} {S : StC} {s : StV} {th : Bool}
theorem MS.no {w' : World} (h : MS D w m S s th) (c : Chg No w w') : MS D w' m S s th := ⟨h.ob.no c, h.nums, h.st.no c, h.bk.no c, h.me.no c, h.dm, h.dst, h.dbk, h.dme⟩
theorem MS.lt (h : MS D w m S s th) : m < w.heap.size := h.ob.lt
theorem MR.same (h : MS D w m S s th) : MR D w m S w S s th := ⟨h, rfl, Chg.refl _ _⟩
theorem MR.no {w' : World} (h : MS D w m S s th) (c : Chg No w w') : MR D w m S w' S s th := ⟨h.no c, rfl, c.mono (fun _ _ h => h.elim)⟩
theorem MR.trans {w1 w2 : World} {S1 S2 : StC} {s1 s2 : StV} {t1 t2 : Bool} (h : MR D w m S w1 S1 s1 t1) (g : MR D w1 m S1 w2 S2 s2 t2) : MR D w m S w2 S2 s2 t2 :=
  ⟨g.1, g.2.1.trans h.2.1, h.2.2.trans g.2.2 (fun _ _ h => h) (fun _ _ h => h)⟩
theorem MR.pre {w1 w2 : World} {S2 : StC} {s2 : StV} {t2 : Bool} (c : Chg No w w1) (g : MR D w1 m S w2 S2 s2 t2) : MR D w m S w2 S2 s2 t2 := ⟨g.1, g.2.1, c.trans g.2.2 (fun _ _ h => h.elim) (fun _ _ h => h)⟩
theorem MR.size {w1 : World} {S1 : StC} {s1 : StV} {t1 : Bool} (h : MR D w m S w1 S1 s1 t1) : w.heap.size ≤ w1.heap.size := h.2.2.size
/-- The machine's own cells are written anew: its lists are as they were. -/
theorem MS.put {w' : World} {S' : StC} {s' : StV} {th' : Bool} {k : Nat} {vs : List Value} (h : MS D w m S s th) (hl : k + vs.length ≤ 11) (hc : wrL (mcC S th) k vs = mcC S' th') (hw : w' = stW w ⟨m, k, none⟩ 0 vs) (nums : StNums S' s')
    (e1 : S'.stack = S.stack) (e2 : S'.back = S.back) (e3 : S'.mem = S.mem) (f1 : s'.stack = s.stack) (f2 : s'.back = s.back) (f3 : s'.mem = s.mem) : MR D w m S w' S' s' th' := by
  obtain ⟨o, c⟩ := h.ob.up hl hc hw
  have hm : ∀ k, S.stack.blk = some k ∨ S.back.blk = some k ∨ S.mem.blk = some k → k ≠ m := fun k hk => by
    rcases hk with hk | hk | hk
    · exact (h.dst k hk).2.1
    · exact (h.dbk k hk).2.1
    · exact (h.dme k hk).2
  refine ⟨⟨o, nums, ?_, ?_, ?_, h.dm, ?_, ?_, ?_⟩, e3, c.mono (fun k _ hk => by have hk : k = m := hk; rw [hk]; exact h.dm)⟩
  · rw [e1, f1]; exact h.st.chg c (fun k hk => hm k (Or.inl hk))
  · rw [e2, f2]; exact h.bk.chg c (fun k hk => hm k (Or.inr (Or.inl hk)))
  · rw [e3, f3]; exact h.me.chg c (fun k hk => hm k (Or.inr (Or.inr hk)))
  · rw [e1, e2, e3]; exact h.dst
  · rw [e2, e3]; exact h.dbk
  · rw [e3]; exact h.dme
theorem MS.wr (h : MS D w m S s th) {k n : Nat} (hk : k + n ≤ 11) : wrOk w ⟨m, k, none⟩ n := h.ob.wr hk
theorem litL {w w' : World} {b : Nat} (xs : List Int) (cs : List Value) (hcs : cs = fl intE xs) (hb : b = w.heap.size) (hw : w' = World.alloc w (.cells cs.toArray T_int)) (hl : xs.length ≤ 100) : Ow intE w' ⟨some ⟨b, 0, none⟩, xs.length, xs.length⟩ xs ∧ Chg No w w' := by
  rw [hw, hb]
  exact ⟨Ow.lit (E := intE) w xs cs hcs (by unfold maxLen; omega), Chg.alloc _ _ _⟩
theorem mpush_any (h : MS D w m S s th) (hD : ∀ k, w.heap.size ≤ k → D k) {l : Sl} {ys : List Int} {a : Addr} (hl : Rd intE w l ys) (hp : l.ptr = some a) (hne : ys ≠ []) (hn : s.stack.length + ys.length ≤ 100000) :
    Calls Tryz.prog fn_inner_machine_push #[.pointer (some ⟨m, 0, none⟩), l.val] w fun e w' => e = .returned (.tuple #[]) ∧ ∃ S', MR D w m S w' S' (pushV s ys) th := by
  refine (inner_machine_push_lift (K := fun r w' => r = .tuple #[] ∧ ∃ S', MR D w m S w' S' (pushV s ys) th) ?_).mono (by rintro e w' ⟨r, rfl, rfl, h⟩; exact ⟨rfl, h⟩)
  unfold inner_machine_push_sh
  refine ⟨S.stack, h.ob.cell rfl, ?_⟩
  refine appx_ok intOk rfl rfl h.st hl hp (fun _ => hne) (by show (_ + _) * 8 ≤ _; omega) (by unfold maxLen; omega) ?_
  intro s4 w5 g4 c5 b4 _
  have ltm := h.lt
  have hmst : ¬ S.stack.blk = some m := fun he => (h.dst m he).2.1 rfl
  have o5 := h.ob.chg c5 hmst
  have bk5 := h.bk.chg c5 (fun k hk he => (h.dst k he).2.2.1 hk)
  have me5 := h.me.chg c5 (fun k hk he => (h.dst k he).2.2.2 hk)
  refine ⟨o5.wr (by simp [mcC, stC]), fun w6 hw6 => ⟨rfl, { S with stack := s4 }, ?_⟩⟩
  obtain ⟨o6, c6⟩ := o5.up (k := 2) (vs := [s4.val]) (cs' := mcC { S with stack := s4 } th) (by simp [mcC, stC]) rfl hw6
  have ds4 : ∀ k, s4.blk = some k → D k ∧ k ≠ m ∧ S.back.blk ≠ some k ∧ S.mem.blk ≠ some k := fun k hk => by
    rcases b4 with hh | hh
    · exact h.dst k (hh ▸ hk)
    · have := hh k hk
      exact ⟨hD k this, by omega, fun he => by have := h.bk.lt k he; omega, fun he => by have := h.me.lt k he; omega⟩
  refine ⟨⟨o6, h.nums, g4.chg c6 (fun k hk => (ds4 k hk).2.1), bk5.chg c6 (fun k hk => (h.dbk k hk).2.1), me5.chg c6 (fun k hk => (h.dme k hk).2), h.dm, ds4, h.dbk, h.dme⟩, rfl, ?_⟩
  exact c5.trans c6 (fun k _ hk => (h.dst k hk).1) (fun k _ hk => by have hk : k = m := hk; rw [hk]; exact h.dm)
theorem mback_any (h : MS D w m S s th) (hD : ∀ k, w.heap.size ≤ k → D k) {l : Sl} {ys : List Int} {a : Addr} (hl : Rd intE w l ys) (hp : l.ptr = some a) (hne : ys ≠ []) (hn : s.back.length + ys.length ≤ 100000) :
    Calls Tryz.prog fn_inner_machine_back #[.pointer (some ⟨m, 0, none⟩), l.val] w fun e w' => e = .returned (.tuple #[]) ∧ ∃ S', MR D w m S w' S' (backV s ys) th := by
  refine (inner_machine_back_lift (K := fun r w' => r = .tuple #[] ∧ ∃ S', MR D w m S w' S' (backV s ys) th) ?_).mono (by rintro e w' ⟨r, rfl, rfl, h⟩; exact ⟨rfl, h⟩)
  unfold inner_machine_back_sh
  refine ⟨S.back, h.ob.cell rfl, ?_⟩
  refine appx_ok intOk rfl rfl h.bk hl hp (fun _ => hne) (by show (_ + _) * 8 ≤ _; omega) (by unfold maxLen; omega) ?_
  intro s4 w5 g4 c5 b4 _
  have ltm := h.lt
  have hmst : ¬ S.back.blk = some m := fun he => (h.dbk m he).2.1 rfl
  have o5 := h.ob.chg c5 hmst
  have st5 := h.st.chg c5 (fun k hk he => (h.dst k hk).2.2.1 he)
  have me5 := h.me.chg c5 (fun k hk he => (h.dbk k he).2.2 hk)
  refine ⟨o5.wr (by simp [mcC, stC]), fun w6 hw6 => ⟨rfl, { S with back := s4 }, ?_⟩⟩
  obtain ⟨o6, c6⟩ := o5.up (k := 3) (vs := [s4.val]) (cs' := mcC { S with back := s4 } th) (by simp [mcC, stC]) rfl hw6
  have ds4 : ∀ k, s4.blk = some k → D k ∧ k ≠ m ∧ S.stack.blk ≠ some k ∧ S.mem.blk ≠ some k := fun k hk => by
    rcases b4 with hh | hh
    · have hk' := hh ▸ hk
      exact ⟨(h.dbk k hk').1, (h.dbk k hk').2.1, fun he => (h.dst k he).2.2.1 hk', (h.dbk k hk').2.2⟩
    · have := hh k hk
      exact ⟨hD k this, by omega, fun he => by have := h.st.lt k he; omega, fun he => by have := h.me.lt k he; omega⟩
  refine ⟨⟨o6, h.nums, st5.chg c6 (fun k hk => (h.dst k hk).2.1), g4.chg c6 (fun k hk => (ds4 k hk).2.1), me5.chg c6 (fun k hk => (h.dme k hk).2), h.dm, fun k hk => ⟨(h.dst k hk).1, (h.dst k hk).2.1, fun he => (ds4 k he).2.2.1 hk, (h.dst k hk).2.2.2⟩, fun k hk => ⟨(ds4 k hk).1, (ds4 k hk).2.1, (ds4 k hk).2.2.2⟩, h.dme⟩, rfl, ?_⟩
  exact c5.trans c6 (fun k _ hk => (h.dbk k hk).1) (fun k _ hk => by have hk : k = m := hk; rw [hk]; exact h.dm)
theorem MS.up (hD : ∀ k, w.heap.size ≤ k → D k) {w' : World} (z : w.heap.size ≤ w'.heap.size) : ∀ k, w'.heap.size ≤ k → D k := fun k hk => hD k (by omega)
/-- A list literal, laid on the stack. -/
theorem mpushL (h : MS D w m S s th) (hD : ∀ k, w.heap.size ≤ k → D k) (ys : List Int) (cs : List Value) (hcs : cs = fl intE ys) (hne : ys ≠ []) (hl : ys.length ≤ 100) (hn : s.stack.length ≤ 10000) {G : World → Prop} (k : ∀ w2 S', MR D w m S w2 S' (pushV s ys) th → G w2) {n : Nat} (hlen : n = ys.length) :
    ∀ (b : Nat) (w1 : World), b = w.heap.size → w1 = World.alloc w (.cells cs.toArray T_int) → Calls Tryz.prog fn_inner_machine_push #[.pointer (some ⟨m, 0, none⟩), .slice (some ⟨b, 0, none⟩) n n] w1 fun e w2 => e = .returned (.tuple #[]) ∧ G w2 := by
  intro b w1 hb hw
  subst hlen
  obtain ⟨g, c1⟩ := litL ys cs hcs hb hw hl
  have := c1.size
  refine (mpush_any (h.no c1) (fun k hk => hD k (by omega)) g.rd rfl hne (by omega)).mono ?_
  rintro e w2 ⟨rfl, S', h2⟩
  exact ⟨rfl, k w2 S' (h2.pre c1)⟩
theorem mbackL (h : MS D w m S s th) (hD : ∀ k, w.heap.size ≤ k → D k) (ys : List Int) (cs : List Value) (hcs : cs = fl intE ys) (hne : ys ≠ []) (hl : ys.length ≤ 100) (hn : s.back.length ≤ 10000) {G : World → Prop} (k : ∀ w2 S', MR D w m S w2 S' (backV s ys) th → G w2) {n : Nat} (hlen : n = ys.length) :
    ∀ (b : Nat) (w1 : World), b = w.heap.size → w1 = World.alloc w (.cells cs.toArray T_int) → Calls Tryz.prog fn_inner_machine_back #[.pointer (some ⟨m, 0, none⟩), .slice (some ⟨b, 0, none⟩) n n] w1 fun e w2 => e = .returned (.tuple #[]) ∧ G w2 := by
  intro b w1 hb hw
  subst hlen
  obtain ⟨g, c1⟩ := litL ys cs hcs hb hw hl
  have := c1.size
  refine (mback_any (h.no c1) (fun k hk => hD k (by omega)) g.rd rfl hne (by omega)).mono ?_
  rintro e w2 ⟨rfl, S', h2⟩
  exact ⟨rfl, k w2 S' (h2.pre c1)⟩
theorem getI_last {xs : List Int} (h : 0 < xs.length) : xs[((xs.length : Int) - 1).toNat]? = some (getI xs ((xs.length : Int) - 1)) := by
  unfold getI; rw [List.getD_eq_getElem?_getD, List.getElem?_eq_getElem (by omega)]; rfl
theorem mpop_any (h : MS D w m S s th) (hne : 1 ≤ s.stack.length) (hn : s.stack.length ≤ 100000) :
    Calls Tryz.prog fn_inner_machine_pop #[.pointer (some ⟨m, 0, none⟩)] w fun e w' => e = .returned (.int .i64 (topV s)) ∧ ∃ S', MR D w m S w' S' (popV s) th := by
  refine (inner_machine_pop_lift (K := fun r w' => r = .int .i64 (topV s) ∧ ∃ S', MR D w m S w' S' (popV s) th) ?_).mono (by rintro e w' ⟨r, rfl, rfl, h⟩; exact ⟨rfl, h⟩)
  unfold inner_machine_pop_sh
  have hl := h.st.rd.len
  have hc := h.st.rd.capL
  refine ⟨S.stack, h.ob.cell rfl, S.stack, h.ob.cell rfl, ?_⟩
  rw [wr_in (by omega)]
  have hx : s.stack[((S.stack.len : Int) - 1).toNat]? = some (topV s) := by rw [hl]; exact getI_last hne
  refine h.st.rd.ix (by omega) hx fun a _ hcell => ?_
  have q := hcell 0 _ rfl
  rw [add0] at q
  refine ⟨_, q, S.stack, h.ob.cell rfl, by omega, by omega, fun s7 hs7 => ?_⟩
  rw [sub0] at hs7
  refine ⟨h.wr (by omega), fun w8 hw8 => ⟨rfl, { S with stack := s7 }, ?_⟩⟩
  obtain ⟨o8, c8⟩ := h.ob.up (k := 2) (vs := [s7.val]) (cs' := mcC { S with stack := s7 } th) (by simp [mcC, stC]) rfl hw8
  have hb7 : s7.blk = S.stack.blk := by rw [hs7]; unfold Sl.blk Sl.val; dsimp only; cases S.stack.ptr <;> rfl
  have ht : Ox intE w s7 (popV s).stack := by
    rw [hs7, show ((S.stack.len : Int) - 1).toNat = s.stack.length - 1 by omega]
    exact h.st.take (by omega)
  exact ⟨⟨o8, h.nums, ht.chg c8 (fun k hk => (h.dst k (hb7 ▸ hk)).2.1), h.bk.chg c8 (fun k hk => (h.dbk k hk).2.1), h.me.chg c8 (fun k hk => (h.dme k hk).2), h.dm, fun k hk => h.dst k (hb7 ▸ hk), h.dbk, h.dme⟩, rfl, c8.mono (fun k _ hk => by have hk : k = m := hk; rw [hk]; exact h.dm)⟩
theorem mpopB_any (h : MS D w m S s th) (hne : 1 ≤ s.back.length) (hn : s.back.length ≤ 100000) :
    Calls Tryz.prog fn_inner_machine_popBack #[.pointer (some ⟨m, 0, none⟩)] w fun e w' => e = .returned (.int .i64 (topB s)) ∧ ∃ S', MR D w m S w' S' (popB s) th := by
  refine (inner_machine_popBack_lift (K := fun r w' => r = .int .i64 (topB s) ∧ ∃ S', MR D w m S w' S' (popB s) th) ?_).mono (by rintro e w' ⟨r, rfl, rfl, h⟩; exact ⟨rfl, h⟩)
  unfold inner_machine_popBack_sh
  have hl := h.bk.rd.len
  have hc := h.bk.rd.capL
  refine ⟨S.back, h.ob.cell rfl, S.back, h.ob.cell rfl, ?_⟩
  rw [wr_in (by omega)]
  have hx : s.back[((S.back.len : Int) - 1).toNat]? = some (topB s) := by rw [hl]; exact getI_last hne
  refine h.bk.rd.ix (by omega) hx fun a _ hcell => ?_
  have q := hcell 0 _ rfl
  rw [add0] at q
  refine ⟨_, q, S.back, h.ob.cell rfl, by omega, by omega, fun s7 hs7 => ?_⟩
  rw [sub0] at hs7
  refine ⟨h.wr (by omega), fun w8 hw8 => ⟨rfl, { S with back := s7 }, ?_⟩⟩
  obtain ⟨o8, c8⟩ := h.ob.up (k := 3) (vs := [s7.val]) (cs' := mcC { S with back := s7 } th) (by simp [mcC, stC]) rfl hw8
  have hb7 : s7.blk = S.back.blk := by rw [hs7]; unfold Sl.blk Sl.val; dsimp only; cases S.back.ptr <;> rfl
  have ht : Ox intE w s7 (popB s).back := by
    rw [hs7, show ((S.back.len : Int) - 1).toNat = s.back.length - 1 by omega]
    exact h.bk.take (by omega)
  exact ⟨⟨o8, h.nums, h.st.chg c8 (fun k hk => (h.dst k hk).2.1), ht.chg c8 (fun k hk => (h.dbk k (hb7 ▸ hk)).2.1), h.me.chg c8 (fun k hk => (h.dme k hk).2), h.dm, fun k hk => ⟨(h.dst k hk).1, (h.dst k hk).2.1, fun he => (h.dst k hk).2.2.1 (hb7 ▸ he), (h.dst k hk).2.2.2⟩, fun k hk => h.dbk k (hb7 ▸ hk), h.dme⟩, rfl, c8.mono (fun k _ hk => by have hk : k = m := hk; rw [hk]; exact h.dm)⟩
theorem mfails_any (h : MS D w m S s th) {c : Int} (hc : c ≠ 0) : Calls Tryz.prog fn_inner_machine_fails #[.pointer (some ⟨m, 0, none⟩), .int .i64 c] w fun e w' => ∃ v : Value, e = .returned v ∧ ErrD w.heap.size w' 0 v c ∧ Chg No w w' := by
  refine (inner_machine_fails_lift (K := fun r w' => ErrD w.heap.size w' 0 r c ∧ Chg No w w') ?_).mono (by rintro e w' ⟨r, rfl, h⟩; exact ⟨r, rfl, h⟩)
  unfold inner_machine_fails_sh
  refine ⟨S.ip, h.ob.cell rfl, (new_any c S.ip hc w).mono ?_⟩
  rintro e w5 ⟨v, rfl, hv, c5⟩
  exact ⟨v, rfl, hv, c5⟩
/-- What a cell holds, or a fault. -/
theorem mload_any (h : MS D w m S s th) (a : Int) : Calls Tryz.prog fn_inner_machine_load #[.pointer (some ⟨m, 0, none⟩), .int .i64 a] w fun e w' => Chg No w w' ∧ ((¬ (a < 0 ∨ (s.mem.length : Int) ≤ a) ∧ e = .returned (.tuple #[.int .i64 (getI s.mem a), .nilIface])) ∨ ((a < 0 ∨ (s.mem.length : Int) ≤ a) ∧ ∃ v : Value, e = .returned (.tuple #[.int .i64 0, v]) ∧ ErrD w.heap.size w' 1 v (-9))) := by
  refine (inner_machine_load_lift (K := fun r w' => Chg No w w' ∧ ((¬ (a < 0 ∨ (s.mem.length : Int) ≤ a) ∧ r = .tuple #[.int .i64 (getI s.mem a), .nilIface]) ∨ ((a < 0 ∨ (s.mem.length : Int) ≤ a) ∧ ∃ v : Value, r = .tuple #[.int .i64 0, v] ∧ ErrD w.heap.size w' 1 v (-9)))) ?_).mono (by
    rintro e w' ⟨r, rfl, h1, h2⟩
    exact ⟨h1, h2.imp (fun h => ⟨h.1, by rw [h.2]⟩) (fun ⟨h, v, hv, g⟩ => ⟨h, v, by rw [hv], g⟩)⟩)
  unfold inner_machine_load_sh
  have hl := h.me.rd.len
  refine ⟨fun b w' => w = w' ∧ b = decide (a < 0 ∨ (s.mem.length : Int) ≤ a), ?_, ?_⟩
  · rintro b w4 ⟨rfl, rfl⟩
    refine brB_of (fun hb => ?_) (fun hb => ?_)
    · have hb := of_decide_eq_true hb
      refine (mfails_any h (by decide)).mono ?_
      rintro e w7 ⟨v, rfl, hv, c7⟩
      refine ⟨v, rfl, (wrap_any hv c7.size _).mono ?_⟩
      rintro e w10 ⟨v', rfl, hv', c10⟩
      exact ⟨v', rfl, trN c7 c10, Or.inr ⟨hb, v', rfl, hv'⟩⟩
    · have hb := of_decide_eq_false hb
      refine ⟨S.mem, h.ob.cell rfl, ?_⟩
      refine h.me.rd.ix (i := a) (by omega) (x := getI s.mem a) (by unfold getI; rw [List.getD_eq_getElem?_getD, List.getElem?_eq_getElem (by omega)]; rfl) fun a' _ hcell => ?_
      have q := hcell 0 _ rfl
      rw [add0] at q
      exact ⟨_, q, Chg.refl _ _, Or.inl ⟨hb, rfl⟩⟩
  · refine brB_of (fun h0 => ?_) (fun h0 => ?_)
    · have h0 := of_decide_eq_true h0
      exact ⟨rfl, (decide_eq_true (Or.inl h0)).symm⟩
    · have h0 := of_decide_eq_false h0
      refine ⟨S.mem, h.ob.cell rfl, rfl, decide_eq_decide.2 ?_⟩
      rw [hl]; omega
end
end Go.Proofs.YtkjpmkopnkkbmaaGreatDoor
