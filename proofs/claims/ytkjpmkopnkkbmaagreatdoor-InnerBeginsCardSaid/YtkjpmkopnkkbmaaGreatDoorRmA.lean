/- The document's own machine in memory: the state that was, the answer's, and the working one; what is pushed, cut and set. -/
import Derived.Test.YtkjpmkopnkkbmaaGreatDoorMaY
import Derived.Test.YtkjpmkopnkkbmaaGreatDoorMaX
import Derived.Test.YtkjpmkopnkkbmaaGreatDoorRcA
import Derived.Test.YtkjpmkopnkkbmaaGreatDoorShHollowayref9
set_option maxRecDepth 100000
namespace Go.Proofs.YtkjpmkopnkkbmaaGreatDoor
open Go.RowKit

structure RM (w0 w : World) (a z m : Nat) (S0 S : StC) (s : StV) : Prop where
  c : Chg No w0 w
  za : w0.heap.size ≤ a
  zz : w0.heap.size ≤ z
  zm : w0.heap.size ≤ m
  naz : a ≠ z
  nam : a ≠ m
  nzm : z ≠ m
  oa : Ob w a (stC S0) T_api_State
  oz : Ob w z (stC st0) T_api_State
  om : Ob w m (stC S) T_api_State
  x : StX (fun k => w0.heap.size ≤ k ∧ k ≠ a ∧ k ≠ z ∧ k ≠ m) w S s
section
variable {w0 w : World} {a z m : Nat} {S0 S : StC} {s : StV}
theorem RM.up {X : Nat → Prop} {w' : World} {S' : StC} {s' : StV} (h : RM w0 w a z m S0 S s) (c : Chg X w w') (hX : ∀ k, X k → w0.heap.size ≤ k ∧ k ≠ a ∧ k ≠ z) (om : Ob w' m (stC S') T_api_State)
    (x : StX (fun k => w0.heap.size ≤ k ∧ k ≠ a ∧ k ≠ z ∧ k ≠ m) w' S' s') : RM w0 w' a z m S0 S' s' :=
  ⟨h.c.trans c (fun _ _ h => h) (fun k hk hx => by have := (hX k hx).1; omega), h.za, h.zz, h.zm, h.naz, h.nam, h.nzm, h.oa.chg c (fun hx => (hX a hx).2.1 rfl), h.oz.chg c (fun hx => (hX z hx).2.2 rfl), om, x⟩
theorem RM.no {w' : World} (h : RM w0 w a z m S0 S s) (c : Chg No w w') : RM w0 w' a z m S0 S s := h.up c (fun _ h => h.elim) (h.om.no c) (h.x.no c)
/-- Cells of the working state written; its lists are as they were, or cut. -/
theorem RM.set (h : RM w0 w a z m S0 S s) (S' : StC) (s' : StV) {k n : Nat} {vs : List Value} {G : World → Prop} (hl : k + n ≤ 10) (hn : n = vs.length) (hc : wrL (stC S) k vs = stC S') (nums : StNums S' s')
    (e1 : ∃ n, n ≤ s.stack.length ∧ S'.stack = ⟨S.stack.ptr, n, S.stack.cap⟩ ∧ s'.stack = s.stack.take n) (e2 : ∃ n, n ≤ s.back.length ∧ S'.back = ⟨S.back.ptr, n, S.back.cap⟩ ∧ s'.back = s.back.take n) (e3 : S'.mem = S.mem ∧ s'.mem = s.mem)
    (g : ∀ w', RM w0 w' a z m S0 S' s' → G w') : wrOk w ⟨m, k, none⟩ n ∧ ∀ w' : World, w' = stW w ⟨m, k, none⟩ 0 vs → G w' := by
  refine setSt S' h.om hl hn hc fun w' o' c' => g w' ?_
  obtain ⟨n1, l1, f1, g1⟩ := e1
  obtain ⟨n2, l2, f2, g2⟩ := e2
  obtain ⟨f3, g3⟩ := e3
  have hb1 : S'.stack.blk = S.stack.blk := by rw [f1]; unfold Sl.blk Sl.val; cases S.stack.ptr <;> rfl
  have hb2 : S'.back.blk = S.back.blk := by rw [f2]; unfold Sl.blk Sl.val; cases S.back.ptr <;> rfl
  have xs := h.x.chg c' (fun k hk he => hk.2.2.2 he)
  refine h.up c' (fun k hk => by have hk : k = m := hk; rw [hk]; exact ⟨h.zm, h.nam.symm, h.nzm.symm⟩) o' ⟨nums, ?_, ?_, ?_, ?_, ?_, ?_⟩
  · rw [f1, g1]; exact xs.st.take l1
  · rw [f2, g2]; exact xs.bk.take l2
  · rw [f3, g3]; exact xs.me
  · rw [hb1, hb2, f3]; exact xs.stD
  · rw [hb2, f3]; exact xs.bkD
  · rw [f3]; exact xs.meD
theorem allS (h : RM w0 w a z m S0 S s) : ∃ n, n ≤ s.stack.length ∧ S.stack = ⟨S.stack.ptr, n, S.stack.cap⟩ ∧ s.stack = s.stack.take n := ⟨s.stack.length, Nat.le_refl _, by rw [← h.x.st.rd.len], by rw [List.take_length]⟩
theorem allB (h : RM w0 w a z m S0 S s) : ∃ n, n ≤ s.back.length ∧ S.back = ⟨S.back.ptr, n, S.back.cap⟩ ∧ s.back = s.back.take n := ⟨s.back.length, Nat.le_refl _, by rw [← h.x.bk.rd.len], by rw [List.take_length]⟩
/-- A list literal, appended to a part of the stack. -/
theorem RM.push (h : RM w0 w a z m S0 S s) {n : Nat} (hn : n ≤ s.stack.length) (ys : List Int) (cs : List Value) (hcs : cs = fl intE ys) (hne : ys ≠ []) (hl : ys.length ≤ 100) (hs : s.stack.length ≤ 10000) {G : World → Prop}
    (k : ∀ w2 S', S'.back = S.back → S'.mem = S.mem → RM w0 w2 a z m S0 S' { s with stack := s.stack.take n ++ ys } → G w2) {q : Nat} (hlen : q = ys.length) {l : Sl} (hq : l = ⟨S.stack.ptr, n, S.stack.cap⟩) :
    ∀ (b : Nat) (w1 : World), b = w.heap.size → w1 = World.alloc w (.cells cs.toArray T_int) → ∃ s4 : Sl, ∃ w5 : World, (Builtin.append_ #[T_sl_int, T_sl_int] T_sl_int #[l.val, .slice (some ⟨b, 0, none⟩) q q]).run Tryz.prog w1 = .ok (s4.val) w5 ∧
      wrOk w5 ⟨m, 2, none⟩ 1 ∧ ∀ w6 : World, w6 = stW w5 ⟨m, 2, none⟩ 0 [s4.val] → G w6 := by
  intro b w1 hb hw
  subst hlen hq
  obtain ⟨g, c1⟩ := litL ys cs hcs hb hw hl
  have h1 := h.no c1
  have hbk : (⟨S.stack.ptr, n, S.stack.cap⟩ : Sl).blk = S.stack.blk := by unfold Sl.blk Sl.val; cases S.stack.ptr <;> rfl
  have lt : (s.stack.take n).length ≤ 10000 := by rw [List.length_take]; omega
  refine appx_ok intOk rfl rfl (h1.x.st.take hn) g.rd rfl (fun _ => hne) (by show (_ + _) * 8 ≤ _; omega) (by unfold maxLen; omega) ?_
  intro s4 w5 g4 c5 b4 _
  rw [hbk] at b4 c5
  have hmst : ¬ S.stack.blk = some m := fun he => (h1.x.stD m he).1.2.2.2 rfl
  have ltm := h1.om.lt
  have zaa := h1.oa.lt
  have zzz := h1.oz.lt
  have o5 := h1.om.chg c5 hmst
  have ds4 : ∀ k, s4.blk = some k → (w0.heap.size ≤ k ∧ k ≠ a ∧ k ≠ z ∧ k ≠ m) ∧ S.back.blk ≠ some k ∧ S.mem.blk ≠ some k := fun k hk => by
    rcases b4 with hh | hh
    · exact h1.x.stD k (hh ▸ hk)
    · have := hh k hk
      have := h1.c.size
      exact ⟨⟨by omega, by omega, by omega, by omega⟩, fun he => by have := h1.x.bk.lt k he; omega, fun he => by have := h1.x.me.lt k he; omega⟩
  have h5 : RM w0 w5 a z m S0 S { s with stack := s.stack } ∨ True := Or.inr trivial
  clear h5
  refine setSt { S with stack := s4 } o5 (by decide) rfl rfl fun w6 o6 c6 => k w6 { S with stack := s4 } rfl rfl ?_
  have c56 : Chg (fun j => S.stack.blk = some j ∨ j = m) w1 w6 := c5.trans c6 (fun _ _ h => Or.inl h) (fun _ _ h => Or.inr h)
  refine h1.up c56 (fun j hj => ?_) o6 ⟨h.x.nums, g4.chg c6 (fun k hk he => (ds4 k hk).1.2.2.2 he), (h1.x.bk.chg c56 (fun k hk he => ?_)), (h1.x.me.chg c56 (fun k hk he => ?_)), ds4, h1.x.bkD, h1.x.meD⟩
  · rcases hj with hj | hj
    · exact ⟨(h1.x.stD j hj).1.1, (h1.x.stD j hj).1.2.1, (h1.x.stD j hj).1.2.2.1⟩
    · rw [hj]; exact ⟨h.zm, h.nam.symm, h.nzm.symm⟩
  · rcases he with he | he
    · exact (h1.x.stD k he).2.1 hk
    · exact (h1.x.bkD k hk).1.2.2.2 he
  · rcases he with he | he
    · exact (h1.x.stD k he).2.2 hk
    · exact (h1.x.meD k hk).2.2.2 he
/-- A list literal, appended to the return stack. -/
theorem RM.back (h : RM w0 w a z m S0 S s) (ys : List Int) (cs : List Value) (hcs : cs = fl intE ys) (hne : ys ≠ []) (hl : ys.length ≤ 100) (hs : s.back.length ≤ 10000) {G : World → Prop}
    (k : ∀ w2 S', S'.stack = S.stack → S'.mem = S.mem → RM w0 w2 a z m S0 S' { s with back := s.back ++ ys } → G w2) {q : Nat} (hlen : q = ys.length) :
    ∀ (b : Nat) (w1 : World), b = w.heap.size → w1 = World.alloc w (.cells cs.toArray T_int) → ∃ s4 : Sl, ∃ w5 : World, (Builtin.append_ #[T_sl_int, T_sl_int] T_sl_int #[S.back.val, .slice (some ⟨b, 0, none⟩) q q]).run Tryz.prog w1 = .ok (s4.val) w5 ∧
      wrOk w5 ⟨m, 3, none⟩ 1 ∧ ∀ w6 : World, w6 = stW w5 ⟨m, 3, none⟩ 0 [s4.val] → G w6 := by
  intro b w1 hb hw
  subst hlen
  obtain ⟨g, c1⟩ := litL ys cs hcs hb hw hl
  have h1 := h.no c1
  refine appx_ok intOk rfl rfl h1.x.bk g.rd rfl (fun _ => hne) (by show (_ + _) * 8 ≤ _; omega) (by unfold maxLen; omega) ?_
  intro s4 w5 g4 c5 b4 _
  have hmst : ¬ S.back.blk = some m := fun he => (h1.x.bkD m he).1.2.2.2 rfl
  have ltm := h1.om.lt
  have zaa := h1.oa.lt
  have zzz := h1.oz.lt
  have o5 := h1.om.chg c5 hmst
  have ds4 : ∀ k, s4.blk = some k → (w0.heap.size ≤ k ∧ k ≠ a ∧ k ≠ z ∧ k ≠ m) ∧ S.stack.blk ≠ some k ∧ S.mem.blk ≠ some k := fun k hk => by
    rcases b4 with hh | hh
    · have hk' := hh ▸ hk
      exact ⟨(h1.x.bkD k hk').1, fun he => (h1.x.stD k he).2.1 hk', (h1.x.bkD k hk').2⟩
    · have := hh k hk
      have := h1.c.size
      exact ⟨⟨by omega, by omega, by omega, by omega⟩, fun he => by have := h1.x.st.lt k he; omega, fun he => by have := h1.x.me.lt k he; omega⟩
  refine setSt { S with back := s4 } o5 (by decide) rfl rfl fun w6 o6 c6 => k w6 { S with back := s4 } rfl rfl ?_
  have c56 : Chg (fun j => S.back.blk = some j ∨ j = m) w1 w6 := c5.trans c6 (fun _ _ h => Or.inl h) (fun _ _ h => Or.inr h)
  refine h1.up c56 (fun j hj => ?_) o6 ⟨h.x.nums, (h1.x.st.chg c56 (fun k hk he => ?_)), g4.chg c6 (fun k hk he => (ds4 k hk).1.2.2.2 he), (h1.x.me.chg c56 (fun k hk he => ?_)), fun k hk => ⟨(h1.x.stD k hk).1, fun he => (ds4 k he).2.1 hk, (h1.x.stD k hk).2.2⟩, fun k hk => ⟨(ds4 k hk).1, (ds4 k hk).2.2⟩, h1.x.meD⟩
  · rcases hj with hj | hj
    · exact ⟨(h1.x.bkD j hj).1.1, (h1.x.bkD j hj).1.2.1, (h1.x.bkD j hj).1.2.2.1⟩
    · rw [hj]; exact ⟨h.zm, h.nam.symm, h.nzm.symm⟩
  · rcases he with he | he
    · exact (h1.x.stD k hk).2.1 he
    · exact (h1.x.stD k hk).1.2.2.2 he
  · rcases he with he | he
    · exact (h1.x.bkD k he).2 hk
    · exact (h1.x.meD k hk).2.2.2 he
/-- A cell of a list of the working state, read and written. -/
theorem RM.setMem (h : RM w0 w a z m S0 S s) {i v : Int} (h0 : 0 ≤ i) (h1 : i < s.mem.length) {G : World → Prop} (g : ∀ w', RM w0 w' a z m S0 S { s with mem := s.mem.set i.toNat v } → G w') :
    ∃ q : Addr, S.mem.ptr = some q ∧ 0 ≤ i ∧ i < (S.mem.len : Int) ∧ wrOk w (Addr.add q (Int.toNat i * 1)) 1 ∧ ∀ w' : World, w' = stW w (Addr.add q (Int.toNat i * 1)) 0 [.int .i64 v] → G w' := by
  refine setOx h.x.me h0 h1 fun w' o' c' => g w' ?_
  refine h.up c' (fun k hk => ⟨(h.x.meD k hk).1, (h.x.meD k hk).2.1, (h.x.meD k hk).2.2.1⟩) (h.om.chg c' (fun he => (h.x.meD m he).2.2.2 rfl)) ⟨h.x.nums, h.x.st.chg c' (fun k hk he => (h.x.stD k hk).2.2 he), h.x.bk.chg c' (fun k hk he => (h.x.bkD k hk).2 he), o', h.x.stD, h.x.bkD, h.x.meD⟩
theorem RM.setBack (h : RM w0 w a z m S0 S s) {i v : Int} (h0 : 0 ≤ i) (h1 : i < s.back.length) {G : World → Prop} (g : ∀ w', RM w0 w' a z m S0 S { s with back := s.back.set i.toNat v } → G w') :
    ∃ q : Addr, S.back.ptr = some q ∧ 0 ≤ i ∧ i < (S.back.len : Int) ∧ wrOk w (Addr.add q (Int.toNat i * 1)) 1 ∧ ∀ w' : World, w' = stW w (Addr.add q (Int.toNat i * 1)) 0 [.int .i64 v] → G w' := by
  refine setOx h.x.bk h0 h1 fun w' o' c' => g w' ?_
  refine h.up c' (fun k hk => ⟨(h.x.bkD k hk).1.1, (h.x.bkD k hk).1.2.1, (h.x.bkD k hk).1.2.2.1⟩) (h.om.chg c' (fun he => (h.x.bkD m he).1.2.2.2 rfl)) ⟨h.x.nums, h.x.st.chg c' (fun k hk he => (h.x.stD k hk).2.1 he), o', h.x.me.chg c' (fun k hk he => (h.x.bkD k he).2 hk), h.x.stD, h.x.bkD, h.x.meD⟩
/-- The working state, given as the answer. -/
theorem RM.fin (h : RM w0 w a z m S0 S s) {K : Value → World → Prop} (g : ∀ w', StX (fun k => w0.heap.size ≤ k) w' S s → Chg No w0 w' → K (.agg (stC S).toArray) w') {T : TypeId} :
    ∃ n1 : Int, ∃ n2 : Int, ∃ s3 : Sl, ∃ s4 : Sl, ∃ s5 : Sl, ∃ t6 : ByteArray, ∃ t7 : ByteArray, ∃ n8 : Int, ∃ n9 : Int, ∃ n10 : Int, w.cell? ⟨m, 0, none⟩ = some (.int .i64 n1) ∧ w.cell? ⟨m, 1, none⟩ = some (.int .i64 n2) ∧ w.cell? ⟨m, 2, none⟩ = some (s3.val) ∧ w.cell? ⟨m, 3, none⟩ = some (s4.val) ∧ w.cell? ⟨m, 4, none⟩ = some (s5.val) ∧ w.cell? ⟨m, 5, none⟩ = some (.string t6) ∧ w.cell? ⟨m, 6, none⟩ = some (.string t7) ∧ w.cell? ⟨m, 7, none⟩ = some (.int .i64 n8) ∧ w.cell? ⟨m, 8, none⟩ = some (.int .i64 n9) ∧ w.cell? ⟨m, 9, none⟩ = some (.int .i64 n10) ∧
    wrOk w ⟨z, 0, none⟩ 10 ∧ ∀ w' : World, w' = stW w ⟨z, 0, none⟩ 0 [.int .i64 n1, .int .i64 n2, s3.val, s4.val, s5.val, .string t6, .string t7, .int .i64 n8, .int .i64 n9, .int .i64 n10] →
    ∃ n1 : Int, ∃ n2 : Int, ∃ s3 : Sl, ∃ s4 : Sl, ∃ s5 : Sl, ∃ t6 : ByteArray, ∃ t7 : ByteArray, ∃ n8 : Int, ∃ n9 : Int, ∃ n10 : Int, w'.cell? ⟨z, 0, none⟩ = some (.int .i64 n1) ∧ w'.cell? ⟨z, 1, none⟩ = some (.int .i64 n2) ∧ w'.cell? ⟨z, 2, none⟩ = some (s3.val) ∧ w'.cell? ⟨z, 3, none⟩ = some (s4.val) ∧ w'.cell? ⟨z, 4, none⟩ = some (s5.val) ∧ w'.cell? ⟨z, 5, none⟩ = some (.string t6) ∧ w'.cell? ⟨z, 6, none⟩ = some (.string t7) ∧ w'.cell? ⟨z, 7, none⟩ = some (.int .i64 n8) ∧ w'.cell? ⟨z, 8, none⟩ = some (.int .i64 n9) ∧ w'.cell? ⟨z, 9, none⟩ = some (.int .i64 n10) ∧
    K (.agg #[.int .i64 n1, .int .i64 n2, s3.val, s4.val, s5.val, .string t6, .string t7, .int .i64 n8, .int .i64 n9, .int .i64 n10]) w' := by
  refine rdSt h.om (setSt S h.oz (by decide) rfl rfl fun w' o' c' => rdSt o' ?_)
  refine g w' ((h.x.chg c' (fun k hk he => hk.2.2.1 he)).wid (fun k hk => hk.1)) (h.c.trans c' (fun _ _ h => h) (fun k hk he => ?_))
  have he : k = z := he
  have := h.zz
  omega
end
end Go.Proofs.YtkjpmkopnkkbmaaGreatDoor
