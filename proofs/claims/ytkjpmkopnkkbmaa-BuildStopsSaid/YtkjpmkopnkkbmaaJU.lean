/- The builder of traces, in memory. -/
import Derived.Test.YtkjpmkopnkkbmaaJV
import Derived.Test.YtkjpmkopnkkbmaaJ7
import Derived.Test.YtkjpmkopnkkbmaaJ5
import Derived.Test.YtkjpmkopnkkbmaaJF
import Derived.Test.YtkjpmkopnkkbmaaJM

/- The package build: the builder in memory. -/
set_option maxRecDepth 100000
namespace Go.Proofs.Ytkjpmkopnkkbmaa
open Go.RowKit

theorem insOk : EncOk Try.prog insE T_sl_api_Ins := EncOk.of (z := .agg #[.int .i64 0, .int .i64 0, .int .i64 0, .int .i64 0, .int .i64 0]) (by kernel_rfl) (by kernel_rfl) (by kernel_rfl)
theorem ousOk : EncOk Try.prog ouE T_sl_api_Out := EncOk.of (z := .agg #[.int .i64 0, .int .i64 0, .slice none 0 0, .slice none 0 0]) (by kernel_rfl) (by kernel_rfl) (by kernel_rfl)
theorem OusIs.mono {D D' : Nat → Prop} {w : World} {os : List OuC} {vs : List OuV} (h : OusIs D w os vs) (hd : ∀ k, D k → D' k) : OusIs D' w os vs :=
  ⟨h.1, fun i o v ho hv => by obtain ⟨a, b, c, d, e, f⟩ := h.2 i o v ho hv; exact ⟨a, b, c, d, fun k hk => hd _ (e k hk), fun k hk => hd _ (f k hk)⟩⟩
theorem OusIs.snoc {D : Nat → Prop} {w : World} {os : List OuC} {vs : List OuV} (h : OusIs D w os vs) {o : OuC} {v : OuV} (ho : OuIs D w o v) : OusIs D w (os ++ [o]) (vs ++ [v]) := by
  refine ⟨by simp [h.1], fun i o' v' ho' hv' => ?_⟩
  by_cases hi : i < os.length
  · rw [List.getElem?_append_left hi] at ho'
    rw [List.getElem?_append_left (by rw [← h.1]; exact hi)] at hv'
    exact h.2 i o' v' ho' hv'
  · have hi2 : i = os.length := by have := (List.getElem?_eq_some_iff.1 ho').1; simp at this; omega
    subst hi2
    rw [List.getElem?_append_right (Nat.le_refl _), Nat.sub_self] at ho'
    rw [h.1, List.getElem?_append_right (Nat.le_refl _), Nat.sub_self] at hv'
    cases ho'; cases hv'; exact ho
/-- What a builder has. -/
structure BV where
  ins : List In5
  outs : List OuV
  stack : List Int
  back : List Int
  cs : Int → Option Int
  step : SnV
  was : OuV
  exit : Int
/-- The numbers of the trace that is built, its cells. -/
structure BH where
  start : Int
  slots : Int
  backs : Int
  grow : Int
  growBack : Int
  last : Int
  cS : Sl
  cells : List Int
structure BC where
  ins : Sl
  outs : Sl
  st : Sl
  bk : Sl
  m : Nat
  was : OuC
def bC (h : BH) (C : BC) (v : BV) : List Value := [.int .i64 h.start, .int .i64 h.slots, .int .i64 h.backs, .int .i64 h.grow, .int .i64 h.growBack, C.ins.val, C.outs.val, .int .i64 h.last, h.cS.val, C.st.val, C.bk.val, .map (some C.m), .int .i64 v.step.ip, .int .i64 v.step.cell, .int .i64 v.step.arg, .int .i64 v.step.next, .int .i64 C.was.ip, .int .i64 C.was.steps, C.was.stack.val, C.was.back.val, .int .i64 v.exit]
/-- The blocks that it writes. -/
def msB (bb : Nat) (C : BC) : List (Option Nat) := [some bb, some C.m, C.ins.blk, C.outs.blk, C.st.blk, C.bk.blk]
structure BS (w0 w : World) (bb : Nat) (h : BH) (C : BC) (os : List OuC) (v : BV) (X E : Nat → Prop) : Prop where
  ob : Ob w bb (bC h C v) T_build_builder
  ins : Ox insE w C.ins v.ins
  outs : Ox ouE w C.outs os
  ous : OusIs X w os v.outs
  st : Ox intE w C.st v.stack
  bk : Ox intE w C.bk v.back
  was : OuIs X w C.was v.was
  mp : MpIs ekI ekI w C.m v.cs
  cel : Rd intE w h.cS h.cells
  celX : ∀ k, h.cS.blk = some k → X k
  dis : ∀ (i j k : Nat), (msB bb C)[i]? = some (some k) → (msB bb C)[j]? = some (some k) → i = j
  own : ∀ (i k : Nat), (msB bb C)[i]? = some (some k) → w0.heap.size ≤ k ∧ k < w.heap.size ∧ ¬ X k ∧ ¬ E k
  xl : ∀ k, X k → w0.heap.size ≤ k ∧ k < w.heap.size
  el : ∀ k, E k → k < w.heap.size
  xe : ∀ k, X k → ¬ E k
  ch : Chg No w0 w
section
variable {w0 w : World} {bb : Nat} {h : BH} {C : BC} {os : List OuC} {v : BV} {X E : Nat → Prop}
theorem BS.no {w' : World} (g : BS w0 w bb h C os v X E) (c : Chg No w w') : BS w0 w' bb h C os v X E := by
  have z := c.size
  have nn : ∀ {P : Nat → Prop} (k : Nat), P k → ¬ No k := fun _ _ h => h
  exact ⟨g.ob.no c, g.ins.no c, g.outs.no c, g.ous.chg c (fun _ _ h => h), g.st.no c, g.bk.no c, ⟨g.was.1, g.was.2.1, g.was.2.2.1.no c, g.was.2.2.2.1.no c, g.was.2.2.2.2⟩, g.mp.no c, g.cel.no c, g.celX, g.dis, fun i k hk => by have := g.own i k hk; exact ⟨this.1, by omega, this.2.2⟩, fun k hk => by have := g.xl k hk; omega, fun k hk => by have := g.el k hk; omega, g.xe, trN g.ch c⟩
theorem BS.subE {F : Nat → Prop} (g : BS w0 w bb h C os v X E) (hF : ∀ k, F k → E k) : BS w0 w bb h C os v X F :=
  ⟨g.ob, g.ins, g.outs, g.ous, g.st, g.bk, g.was, g.mp, g.cel, g.celX, g.dis, fun i k hk => by have := g.own i k hk; exact ⟨this.1, this.2.1, this.2.2.1, fun e => this.2.2.2 (hF k e)⟩, g.xl, fun k hk => g.el k (hF k hk), fun k hk e => g.xe k hk (hF k e), g.ch⟩
theorem BS.addE {F : Nat → Prop} (g : BS w0 w bb h C os v X E) (hF : ∀ k, F k → k < w.heap.size ∧ (∀ i : Nat, (msB bb C)[i]? ≠ some (some k)) ∧ ¬ X k) : BS w0 w bb h C os v X (fun k => E k ∨ F k) :=
  ⟨g.ob, g.ins, g.outs, g.ous, g.st, g.bk, g.was, g.mp, g.cel, g.celX, g.dis, fun i k hk => by have := g.own i k hk; exact ⟨this.1, this.2.1, this.2.2.1, fun e => e.elim this.2.2.2 (fun e => (hF k e).2.1 i hk)⟩, g.xl, fun k hk => hk.elim (g.el k) (fun e => (hF k e).1), fun k hk e => e.elim (g.xe k hk) (fun e => (hF k e).2.2 hk), g.ch⟩
/-- The same things, and new blocks that are watched. -/
theorem BS.grow {w' : World} {F : Nat → Prop} (g : BS w0 w bb h C os v X E) (c : Chg No w w') (hF : ∀ k, F k → w.heap.size ≤ k ∧ k < w'.heap.size) : BS w0 w' bb h C os v X (fun k => E k ∨ F k) :=
  (g.no c).addE fun k hk => ⟨(hF k hk).2, fun i hi => by have := (g.own i k hi).2.1; have := (hF k hk).1; omega, fun hx => by have := g.xl k hx; have := (hF k hk).1; omega⟩
/-- A watched block is written. -/
theorem BS.box {w' : World} (g : BS w0 w bb h C os v X E) {e : Nat} (he : E e) (c : Chg (fun k => k = e) w w') (h0 : w0.heap.size ≤ e) : BS w0 w' bb h C os v X E := by
  have z := c.size
  have ne : ∀ {j k : Nat}, (msB bb C)[j]? = some (some k) → ¬ k = e := fun hk hh => (g.own _ _ hk).2.2.2 (hh ▸ he)
  have nx : ∀ {k : Nat}, X k → ¬ k = e := fun hk hh => g.xe _ hk (hh ▸ he)
  exact ⟨g.ob.chg c (ne (j := 0) rfl), g.ins.chg c (fun k hk => ne (j := 2) (show (msB bb C)[2]? = some (some k) by rw [← hk]; rfl)), g.outs.chg c (fun k hk => ne (j := 3) (show (msB bb C)[3]? = some (some k) by rw [← hk]; rfl)), g.ous.chg c (fun k hk => nx hk), g.st.chg c (fun k hk => ne (j := 4) (show (msB bb C)[4]? = some (some k) by rw [← hk]; rfl)), g.bk.chg c (fun k hk => ne (j := 5) (show (msB bb C)[5]? = some (some k) by rw [← hk]; rfl)), ⟨g.was.1, g.was.2.1, g.was.2.2.1.chg c (fun k hk => nx (g.was.2.2.2.2.1 k hk)), g.was.2.2.2.1.chg c (fun k hk => nx (g.was.2.2.2.2.2 k hk)), g.was.2.2.2.2⟩, g.mp.chg c (ne (j := 1) rfl), g.cel.chg c (fun k hk => nx (g.celX k hk)), g.celX, g.dis, fun i k hk => by have := g.own i k hk; exact ⟨this.1, by omega, this.2.2⟩, fun k hk => by have := g.xl k hk; omega, fun k hk => by have := g.el k hk; omega, g.xe, g.ch.trans c (fun _ _ h => h) (fun k hk he => by subst he; omega)⟩
/-- What is written at one place (and in the builder itself) leaves the others. -/
theorem BS.other (g : BS w0 w bb h C os v X E) {i : Nat} {k : Nat} {j : Nat} (hk : (msB bb C)[j]? = some (some k)) (h1 : j ≠ i) (h2 : j ≠ 0) : ¬ ((msB bb C)[i]? = some (some k) ∨ k = bb) := fun he => by
  rcases he with he | he
  · exact h1 (g.dis j i k hk he)
  · exact h2 (g.dis j 0 k hk (by rw [he]; rfl))
theorem BS.xo (g : BS w0 w bb h C os v X E) {i : Nat} {k : Nat} (hk : X k) : ¬ ((msB bb C)[i]? = some (some k) ∨ k = bb) := fun he => by
  rcases he with he | he
  · exact (g.own i k he).2.2.1 hk
  · exact (g.own 0 k (by rw [he]; rfl)).2.2.1 hk
theorem BS.eo (g : BS w0 w bb h C os v X E) {i : Nat} {k : Nat} (hk : (msB bb C)[i]? = some (some k) ∨ k = bb) : ¬ E k ∧ w0.heap.size ≤ k := by
  rcases hk with he | he
  · exact ⟨(g.own i k he).2.2.2, (g.own i k he).1⟩
  · have := g.own 0 k (by rw [he]; rfl)
    exact ⟨this.2.2.2, this.1⟩
theorem set_dis {ms : List (Option Nat)} {i : Nat} {nb : Option Nat} {sz : Nat} (dis : ∀ (a b k : Nat), ms[a]? = some (some k) → ms[b]? = some (some k) → a = b) (lt : ∀ (a k : Nat), ms[a]? = some (some k) → k < sz) (hn : ∀ k, nb = some k → ms[i]? = some (some k) ∨ sz ≤ k) :
    (∀ (a b k : Nat), (ms.set i nb)[a]? = some (some k) → (ms.set i nb)[b]? = some (some k) → a = b) ∧ ∀ (a k : Nat), (ms.set i nb)[a]? = some (some k) → ms[a]? = some (some k) ∨ sz ≤ k := by
  have key : ∀ (a k : Nat), (ms.set i nb)[a]? = some (some k) → (a = i ∧ nb = some k) ∨ (a ≠ i ∧ ms[a]? = some (some k)) := fun a k ha => by
    rw [List.getElem?_set] at ha
    by_cases h : i = a
    · rw [if_pos h] at ha
      split at ha
      · exact Or.inl ⟨h.symm, Option.some.inj ha⟩
      · cases ha
    · rw [if_neg h] at ha; exact Or.inr ⟨fun e => h e.symm, ha⟩
  refine ⟨fun a b k ha hb => ?_, fun a k ha => ?_⟩
  · rcases key a k ha with ⟨e1, e2⟩ | ⟨e1, e2⟩
    · rcases key b k hb with ⟨f1, f2⟩ | ⟨f1, f2⟩
      · rw [e1, f1]
      · rcases hn k e2 with g | g
        · rw [e1]; exact dis i b k g f2
        · have := lt b k f2; omega
    · rcases key b k hb with ⟨f1, f2⟩ | ⟨f1, f2⟩
      · rcases hn k f2 with g | g
        · rw [f1]; exact dis a i k e2 g
        · have := lt a k e2; omega
      · exact dis a b k e2 f2
  · rcases key a k ha with ⟨e1, e2⟩ | ⟨e1, e2⟩
    · rcases hn k e2 with g | g
      · rw [e1]; exact Or.inl g
      · exact Or.inr g
    · exact Or.inl e2
end
/-- Its ins has changed. -/
theorem BS.newIns {w0 w w' : World} {bb : Nat} {h : BH} {C : BC} {os : List OuC} {v : BV} {X E : Nat → Prop} (g : BS w0 w bb h C os v X E) {s' : Sl} {xs : List In5} (c : Chg (fun k => (msB bb C)[2]? = some (some k) ∨ k = bb) w w') (ho : Ob w' bb (bC h { C with ins := s' } { v with ins := xs }) T_build_builder) (hx : Ox insE w' s' xs) (hb : ∀ k, s'.blk = some k → C.ins.blk = some k ∨ w.heap.size ≤ k) :
    BS w0 w' bb h { C with ins := s' } os { v with ins := xs } X E ∧ Chg (fun k => ¬ E k) w w' := by
  have z := c.size
  have ms : msB bb { C with ins := s' } = (msB bb C).set 2 s'.blk := rfl
  obtain ⟨d1, d2⟩ := set_dis (sz := w.heap.size) g.dis (fun a k hk => (g.own a k hk).2.1) (i := 2) (nb := s'.blk) (fun k hk => (hb k hk).imp (fun e => by rw [← e]; rfl) (fun e => e))
  refine ⟨⟨ho, hx, g.outs.chg c (fun k hk => g.other (j := 3) (show (msB bb C)[3]? = some (some k) by rw [← hk]; rfl) (by decide) (by decide)), g.ous.chg c (fun k hk => g.xo hk), g.st.chg c (fun k hk => g.other (j := 4) (show (msB bb C)[4]? = some (some k) by rw [← hk]; rfl) (by decide) (by decide)), g.bk.chg c (fun k hk => g.other (j := 5) (show (msB bb C)[5]? = some (some k) by rw [← hk]; rfl) (by decide) (by decide)), ⟨g.was.1, g.was.2.1, g.was.2.2.1.chg c (fun k hk => g.xo (g.was.2.2.2.2.1 k hk)), g.was.2.2.2.1.chg c (fun k hk => g.xo (g.was.2.2.2.2.2 k hk)), g.was.2.2.2.2⟩, g.mp.chg c (g.other (j := 1) rfl (by decide) (by decide)), g.cel.chg c (fun k hk => g.xo (g.celX k hk)), g.celX, by rw [ms]; exact d1, fun i k hk => ?_, fun k hk => by have := g.xl k hk; omega, fun k hk => by have := g.el k hk; omega, g.xe, g.ch.trans c (fun _ _ h => h) (fun k hk he => by have := (g.eo he).2; omega)⟩, c.mono (fun k _ he => (g.eo he).1)⟩
  have z0 := g.ch.size
  have hlt : k < w'.heap.size := by
    rw [ms] at hk
    rcases Nat.lt_or_ge i 6 with hi | hi
    · by_cases hii : i = 2
      · subst hii
        have : s'.blk = some k := by
          rw [List.getElem?_set_self (by show 2 < 6; omega)] at hk
          exact Option.some.inj hk
        exact hx.lt k this
      · rw [List.getElem?_set_ne (fun e => hii e.symm)] at hk
        have := (g.own i k hk).2.1; omega
    · rw [List.getElem?_eq_none (by rw [List.length_set]; exact hi)] at hk; cases hk
  rw [ms] at hk
  rcases d2 i k hk with e | e
  · have := g.own i k e
    exact ⟨this.1, hlt, this.2.2⟩
  · exact ⟨by omega, hlt, fun hx => by have := g.xl k hx; omega, fun he => by have := g.el k he; omega⟩
/-- Its stack has changed. -/
theorem BS.newSt {w0 w w' : World} {bb : Nat} {h : BH} {C : BC} {os : List OuC} {v : BV} {X E : Nat → Prop} (g : BS w0 w bb h C os v X E) {s' : Sl} {xs : List Int} (c : Chg (fun k => (msB bb C)[4]? = some (some k) ∨ k = bb) w w') (ho : Ob w' bb (bC h { C with st := s' } { v with stack := xs }) T_build_builder) (hx : Ox intE w' s' xs) (hb : ∀ k, s'.blk = some k → C.st.blk = some k ∨ w.heap.size ≤ k) :
    BS w0 w' bb h { C with st := s' } os { v with stack := xs } X E ∧ Chg (fun k => ¬ E k) w w' := by
  have z := c.size
  have ms : msB bb { C with st := s' } = (msB bb C).set 4 s'.blk := rfl
  obtain ⟨d1, d2⟩ := set_dis (sz := w.heap.size) g.dis (fun a k hk => (g.own a k hk).2.1) (i := 4) (nb := s'.blk) (fun k hk => (hb k hk).imp (fun e => by rw [← e]; rfl) (fun e => e))
  refine ⟨⟨ho, g.ins.chg c (fun k hk => g.other (j := 2) (show (msB bb C)[2]? = some (some k) by rw [← hk]; rfl) (by decide) (by decide)), g.outs.chg c (fun k hk => g.other (j := 3) (show (msB bb C)[3]? = some (some k) by rw [← hk]; rfl) (by decide) (by decide)), g.ous.chg c (fun k hk => g.xo hk), hx, g.bk.chg c (fun k hk => g.other (j := 5) (show (msB bb C)[5]? = some (some k) by rw [← hk]; rfl) (by decide) (by decide)), ⟨g.was.1, g.was.2.1, g.was.2.2.1.chg c (fun k hk => g.xo (g.was.2.2.2.2.1 k hk)), g.was.2.2.2.1.chg c (fun k hk => g.xo (g.was.2.2.2.2.2 k hk)), g.was.2.2.2.2⟩, g.mp.chg c (g.other (j := 1) rfl (by decide) (by decide)), g.cel.chg c (fun k hk => g.xo (g.celX k hk)), g.celX, by rw [ms]; exact d1, fun i k hk => ?_, fun k hk => by have := g.xl k hk; omega, fun k hk => by have := g.el k hk; omega, g.xe, g.ch.trans c (fun _ _ h => h) (fun k hk he => by have := (g.eo he).2; omega)⟩, c.mono (fun k _ he => (g.eo he).1)⟩
  have z0 := g.ch.size
  have hlt : k < w'.heap.size := by
    rw [ms] at hk
    rcases Nat.lt_or_ge i 6 with hi | hi
    · by_cases hii : i = 4
      · subst hii
        have : s'.blk = some k := by
          rw [List.getElem?_set_self (by show 4 < 6; omega)] at hk
          exact Option.some.inj hk
        exact hx.lt k this
      · rw [List.getElem?_set_ne (fun e => hii e.symm)] at hk
        have := (g.own i k hk).2.1; omega
    · rw [List.getElem?_eq_none (by rw [List.length_set]; exact hi)] at hk; cases hk
  rw [ms] at hk
  rcases d2 i k hk with e | e
  · have := g.own i k e
    exact ⟨this.1, hlt, this.2.2⟩
  · exact ⟨by omega, hlt, fun hx => by have := g.xl k hx; omega, fun he => by have := g.el k he; omega⟩
/-- Its back has changed. -/
theorem BS.newBk {w0 w w' : World} {bb : Nat} {h : BH} {C : BC} {os : List OuC} {v : BV} {X E : Nat → Prop} (g : BS w0 w bb h C os v X E) {s' : Sl} {xs : List Int} (c : Chg (fun k => (msB bb C)[5]? = some (some k) ∨ k = bb) w w') (ho : Ob w' bb (bC h { C with bk := s' } { v with back := xs }) T_build_builder) (hx : Ox intE w' s' xs) (hb : ∀ k, s'.blk = some k → C.bk.blk = some k ∨ w.heap.size ≤ k) :
    BS w0 w' bb h { C with bk := s' } os { v with back := xs } X E ∧ Chg (fun k => ¬ E k) w w' := by
  have z := c.size
  have ms : msB bb { C with bk := s' } = (msB bb C).set 5 s'.blk := rfl
  obtain ⟨d1, d2⟩ := set_dis (sz := w.heap.size) g.dis (fun a k hk => (g.own a k hk).2.1) (i := 5) (nb := s'.blk) (fun k hk => (hb k hk).imp (fun e => by rw [← e]; rfl) (fun e => e))
  refine ⟨⟨ho, g.ins.chg c (fun k hk => g.other (j := 2) (show (msB bb C)[2]? = some (some k) by rw [← hk]; rfl) (by decide) (by decide)), g.outs.chg c (fun k hk => g.other (j := 3) (show (msB bb C)[3]? = some (some k) by rw [← hk]; rfl) (by decide) (by decide)), g.ous.chg c (fun k hk => g.xo hk), g.st.chg c (fun k hk => g.other (j := 4) (show (msB bb C)[4]? = some (some k) by rw [← hk]; rfl) (by decide) (by decide)), hx, ⟨g.was.1, g.was.2.1, g.was.2.2.1.chg c (fun k hk => g.xo (g.was.2.2.2.2.1 k hk)), g.was.2.2.2.1.chg c (fun k hk => g.xo (g.was.2.2.2.2.2 k hk)), g.was.2.2.2.2⟩, g.mp.chg c (g.other (j := 1) rfl (by decide) (by decide)), g.cel.chg c (fun k hk => g.xo (g.celX k hk)), g.celX, by rw [ms]; exact d1, fun i k hk => ?_, fun k hk => by have := g.xl k hk; omega, fun k hk => by have := g.el k hk; omega, g.xe, g.ch.trans c (fun _ _ h => h) (fun k hk he => by have := (g.eo he).2; omega)⟩, c.mono (fun k _ he => (g.eo he).1)⟩
  have z0 := g.ch.size
  have hlt : k < w'.heap.size := by
    rw [ms] at hk
    rcases Nat.lt_or_ge i 6 with hi | hi
    · by_cases hii : i = 5
      · subst hii
        have : s'.blk = some k := by
          rw [List.getElem?_set_self (by show 5 < 6; omega)] at hk
          exact Option.some.inj hk
        exact hx.lt k this
      · rw [List.getElem?_set_ne (fun e => hii e.symm)] at hk
        have := (g.own i k hk).2.1; omega
    · rw [List.getElem?_eq_none (by rw [List.length_set]; exact hi)] at hk; cases hk
  rw [ms] at hk
  rcases d2 i k hk with e | e
  · have := g.own i k e
    exact ⟨this.1, hlt, this.2.2⟩
  · exact ⟨by omega, hlt, fun hx => by have := g.xl k hx; omega, fun he => by have := g.el k he; omega⟩
/-- Numbers of the builder have changed. -/
theorem BS.newN {w0 w w' : World} {bb : Nat} {h h' : BH} {C : BC} {os : List OuC} {v v' : BV} {X E : Nat → Prop} (g : BS w0 w bb h C os v X E) (c : Chg (fun k => k = bb) w w') (ho : Ob w' bb (bC h' C v') T_build_builder) (e1 : v'.ins = v.ins ∧ v'.outs = v.outs ∧ v'.stack = v.stack ∧ v'.back = v.back ∧ v'.cs = v.cs ∧ v'.was = v.was) (e2 : h'.cS = h.cS ∧ h'.cells = h.cells) :
    BS w0 w' bb h' C os v' X E ∧ Chg (fun k => ¬ E k) w w' := by
  have z := c.size
  obtain ⟨a1, a2, a3, a4, a5, a6⟩ := e1
  have ne : ∀ {j k : Nat}, (msB bb C)[j]? = some (some k) → j ≠ 0 → ¬ k = bb := fun hk h2 he => h2 (g.dis _ 0 _ hk (by rw [he]; rfl))
  have nx : ∀ {k : Nat}, X k → ¬ k = bb := fun hk he => (g.own 0 _ rfl).2.2.1 (he ▸ hk)
  have nb := g.own 0 bb rfl
  refine ⟨⟨ho, by rw [a1]; exact g.ins.chg c (fun k hk => ne (j := 2) (show (msB bb C)[2]? = some (some k) by rw [← hk]; rfl) (by decide)), g.outs.chg c (fun k hk => ne (j := 3) (show (msB bb C)[3]? = some (some k) by rw [← hk]; rfl) (by decide)), by rw [a2]; exact g.ous.chg c (fun k hk => nx hk), by rw [a3]; exact g.st.chg c (fun k hk => ne (j := 4) (show (msB bb C)[4]? = some (some k) by rw [← hk]; rfl) (by decide)), by rw [a4]; exact g.bk.chg c (fun k hk => ne (j := 5) (show (msB bb C)[5]? = some (some k) by rw [← hk]; rfl) (by decide)), by rw [a6]; exact ⟨g.was.1, g.was.2.1, g.was.2.2.1.chg c (fun k hk => nx (g.was.2.2.2.2.1 k hk)), g.was.2.2.2.1.chg c (fun k hk => nx (g.was.2.2.2.2.2 k hk)), g.was.2.2.2.2⟩, by rw [a5]; exact g.mp.chg c (ne (j := 1) rfl (by decide)), by rw [e2.1, e2.2]; exact g.cel.chg c (fun k hk => nx (g.celX k hk)), by rw [e2.1]; exact g.celX, g.dis, fun i k hk => by have := g.own i k hk; exact ⟨this.1, by omega, this.2.2⟩, fun k hk => by have := g.xl k hk; omega, fun k hk => by have := g.el k hk; omega, g.xe, g.ch.trans c (fun _ _ h => h) (fun k hk he => by subst he; omega)⟩, c.mono (fun k _ he => by subst he; exact nb.2.2.2)⟩
/-- A builder, as its parts are not told. -/
def St (w0 : World) (bb : Nat) (h : BH) (E : Nat → Prop) (w : World) (v : BV) : Prop := ∃ C os X, BS w0 w bb h C os v X E
theorem St.no {w0 w w' : World} {bb : Nat} {h : BH} {E : Nat → Prop} {v : BV} (g : St w0 bb h E w v) (c : Chg No w w') : St w0 bb h E w' v := by
  obtain ⟨C, os, X, g⟩ := g; exact ⟨C, os, X, g.no c⟩
theorem St.subE {w0 w : World} {bb : Nat} {h : BH} {E F : Nat → Prop} {v : BV} (g : St w0 bb h E w v) (hF : ∀ k, F k → E k) : St w0 bb h F w v := by
  obtain ⟨C, os, X, g⟩ := g; exact ⟨C, os, X, g.subE hF⟩
theorem St.grow {w0 w w' : World} {bb : Nat} {h : BH} {E F : Nat → Prop} {v : BV} (g : St w0 bb h E w v) (c : Chg No w w') (hF : ∀ k, F k → w.heap.size ≤ k ∧ k < w'.heap.size) : St w0 bb h (fun k => E k ∨ F k) w' v := by
  obtain ⟨C, os, X, g⟩ := g; exact ⟨C, os, X, g.grow c hF⟩
theorem St.ch {w0 w : World} {bb : Nat} {h : BH} {E : Nat → Prop} {v : BV} (g : St w0 bb h E w v) : Chg No w0 w := by
  obtain ⟨C, os, X, g⟩ := g; exact g.ch
theorem St.el {w0 w : World} {bb : Nat} {h : BH} {E : Nat → Prop} {v : BV} (g : St w0 bb h E w v) : ∀ k, E k → k < w.heap.size := by
  obtain ⟨C, os, X, g⟩ := g; exact g.el
/-! ### Its small functions -/
section
variable {w0 w : World} {bb : Nat} {h : BH} {E : Nat → Prop} {v : BV}
theorem bins_any (g : St w0 bb h E w v) (i : In5) (hsm : v.ins.length ≤ 100000) : Calls Try.prog fn_build_builder_ins #[.pointer (some ⟨bb, 0, none⟩), .agg (insC i).toArray] w fun e w' => e = .returned (.int .i64 v.ins.length) ∧ St w0 bb h E w' { v with ins := v.ins ++ [i] } ∧ Chg (fun k => ¬ E k) w w' := by
  refine (build_builder_ins_lift (K := fun r w' => r = .int .i64 v.ins.length ∧ St w0 bb h E w' { v with ins := v.ins ++ [i] } ∧ Chg (fun k => ¬ E k) w w') ?_).mono (by rintro e w' ⟨r, rfl, rfl, h⟩; exact ⟨rfl, h⟩)
  unfold build_builder_ins_sh
  obtain ⟨C, os, X, g⟩ := g
  intro b7 w8 hb7 hw8
  have c8 := al hw8
  have o8 : Ob w8 b7 (insC i) T_api_Ins := by rw [hw8, hb7]; exact Ob.new w (insC i) T_api_Ins
  intro w9 hw9
  have c9 := dw hw9
  have k9 := trN c8 c9
  have o9 := o8.no c9
  have g9 := g.no k9
  refine ⟨fun w' => Ob w' bb (bC h C v) T_build_builder ∧ Ob w' b7 (insC i) T_api_Ins, ⟨g9.ob, o9⟩, C.ins, fun w' h => h.1.cell rfl, i.a, i.b, i.c, i.d, i.e, fun w' h => h.2.cell rfl, fun w' h => h.2.cell rfl, fun w' h => h.2.cell rfl, fun w' h => h.2.cell rfl, fun w' h => h.2.cell rfl, ?_⟩
  intro b17 w18 hb17 hw18
  have c18 := al hw18
  have k18 := trN k9 c18
  have g18 := g.no k18
  have h17 : Ow insE w18 ⟨some ⟨b17, 0, none⟩, 1, 1⟩ [i] := by rw [hw18, hb17]; exact Ow.lit (E := insE) w9 [i] (insC i) (by rw [fl_one]; rfl) (by show 1 ≤ maxLen; unfold maxLen; omega)
  refine ⟨⟨g18.ob, o9.no c18⟩, ?_⟩
  refine appx_ok insOk rfl rfl g18.ins h17.rd (at' := ⟨b17, 0, none⟩) rfl (fun _ => by simp) (by show (v.ins.length + 1) * 40 ≤ _; omega) (by show v.ins.length + 1 ≤ _; unfold maxLen; omega) ?_
  intro s' w20 hs' c20 hbk _
  have nb : C.ins.blk ≠ some bb := fun he => by have := g.dis 2 0 bb (show (msB bb C)[2]? = _ by rw [← he]; rfl) rfl; omega
  have n7 : C.ins.blk ≠ some b7 := fun he => by have := (g.own 2 b7 (show (msB bb C)[2]? = _ by rw [← he]; rfl)).2.1; omega
  have ob20 := g18.ob.chg c20 nb
  have l9 := o9.lt
  refine ⟨⟨ob20, (o9.no c18).chg c20 n7⟩, ob20.wr (by simp [bC]), fun w21 hw21 => ?_⟩
  obtain ⟨ob21, c21⟩ := ob20.up (k := 5) (vs := [s'.val]) (cs' := bC h { C with ins := s' } { v with ins := v.ins ++ [i] }) (by simp [bC]) rfl hw21
  have hx := hs'.chg c21 (fun k hk he => by
    subst he
    rcases hbk with e | e
    · exact nb (e ▸ hk)
    · have := e _ hk; have := (g18.own 0 _ rfl).2.1; omega)
  have cc : Chg (fun k => (msB bb C)[2]? = some (some k) ∨ k = bb) w18 w21 := c20.trans c21 (fun k _ he => Or.inl (by rw [← he]; rfl)) (fun k _ he => Or.inr he)
  obtain ⟨r1, r2⟩ := g18.newIns cc ob21 hx (fun k hk => by
    rcases hbk with e | e
    · exact Or.inl (e ▸ hk)
    · exact Or.inr (e k hk))
  have hl := hs'.rd.len
  rw [List.length_append, List.length_singleton] at hl
  refine ⟨s', ob21.cell rfl, ?_, ⟨_, _, _, r1⟩, k18.trans r2 (fun _ _ h => h.elim) (fun _ _ h => h)⟩
  rw [wr_in (by omega), hl]
  show Value.int .i64 (((v.ins.length + 1 : Nat) : Int) - 1) = _
  congr 1; omega
theorem bpush_any (g : St w0 bb h E w v) {l : Sl} {xs : List Int} {a' : Addr} (hl : Rd intE w l xs) (hp : l.ptr = some a') (hne : xs ≠ []) (hsm : v.stack.length ≤ 100000 ∧ xs.length ≤ 10) : Calls Try.prog fn_build_builder_push #[.pointer (some ⟨bb, 0, none⟩), l.val] w fun e w' => e = .returned (.tuple #[]) ∧ St w0 bb h E w' { v with stack := v.stack ++ xs } ∧ Chg (fun k => ¬ E k) w w' := by
  refine (build_builder_push_lift (K := fun r w' => r = .tuple #[] ∧ St w0 bb h E w' { v with stack := v.stack ++ xs } ∧ Chg (fun k => ¬ E k) w w') ?_).mono (by rintro e w' ⟨r, rfl, rfl, h⟩; exact ⟨rfl, h⟩)
  unfold build_builder_push_sh
  obtain ⟨C, os, X, g⟩ := g
  refine ⟨C.st, g.ob.cell rfl, ?_⟩
  refine appx_ok intOk rfl rfl g.st hl hp (fun _ => hne) (by show (v.stack.length + xs.length) * 8 ≤ _; omega) (by show v.stack.length + xs.length ≤ _; unfold maxLen; omega) ?_
  intro s' w5 hs' c5 hbk _
  have nb : C.st.blk ≠ some bb := fun he => by have := g.dis 4 0 bb (show (msB bb C)[4]? = _ by rw [← he]; rfl) rfl; omega
  have ob5 := g.ob.chg c5 nb
  refine ⟨ob5.wr (by simp [bC]), fun w6 hw6 => ?_⟩
  obtain ⟨ob6, c6⟩ := ob5.up (k := 9) (vs := [s'.val]) (cs' := bC h { C with st := s' } { v with stack := v.stack ++ xs }) (by simp [bC]) rfl hw6
  have hx := hs'.chg c6 (fun k hk he => by
    subst he
    rcases hbk with e | e
    · exact nb (e ▸ hk)
    · have := e _ hk; have := (g.own 0 _ rfl).2.1; omega)
  have cc : Chg (fun k => (msB bb C)[4]? = some (some k) ∨ k = bb) w w6 := c5.trans c6 (fun k _ he => Or.inl (by rw [← he]; rfl)) (fun k _ he => Or.inr he)
  obtain ⟨r1, r2⟩ := g.newSt cc ob6 hx (fun k hk => by
    rcases hbk with e | e
    · exact Or.inl (e ▸ hk)
    · exact Or.inr (e k hk))
  exact ⟨rfl, ⟨_, _, _, r1⟩, r2⟩
theorem blay_any (g : St w0 bb h E w v) {l : Sl} {xs : List Int} {a' : Addr} (hl : Rd intE w l xs) (hp : l.ptr = some a') (hne : xs ≠ []) (hsm : v.back.length ≤ 100000 ∧ xs.length ≤ 10) : Calls Try.prog fn_build_builder_lay #[.pointer (some ⟨bb, 0, none⟩), l.val] w fun e w' => e = .returned (.tuple #[]) ∧ St w0 bb h E w' { v with back := v.back ++ xs } ∧ Chg (fun k => ¬ E k) w w' := by
  refine (build_builder_lay_lift (K := fun r w' => r = .tuple #[] ∧ St w0 bb h E w' { v with back := v.back ++ xs } ∧ Chg (fun k => ¬ E k) w w') ?_).mono (by rintro e w' ⟨r, rfl, rfl, h⟩; exact ⟨rfl, h⟩)
  unfold build_builder_lay_sh
  obtain ⟨C, os, X, g⟩ := g
  refine ⟨C.bk, g.ob.cell rfl, ?_⟩
  refine appx_ok intOk rfl rfl g.bk hl hp (fun _ => hne) (by show (v.back.length + xs.length) * 8 ≤ _; omega) (by show v.back.length + xs.length ≤ _; unfold maxLen; omega) ?_
  intro s' w5 hs' c5 hbk _
  have nb : C.bk.blk ≠ some bb := fun he => by have := g.dis 5 0 bb (show (msB bb C)[5]? = _ by rw [← he]; rfl) rfl; omega
  have ob5 := g.ob.chg c5 nb
  refine ⟨ob5.wr (by simp [bC]), fun w6 hw6 => ?_⟩
  obtain ⟨ob6, c6⟩ := ob5.up (k := 10) (vs := [s'.val]) (cs' := bC h { C with bk := s' } { v with back := v.back ++ xs }) (by simp [bC]) rfl hw6
  have hx := hs'.chg c6 (fun k hk he => by
    subst he
    rcases hbk with e | e
    · exact nb (e ▸ hk)
    · have := e _ hk; have := (g.own 0 _ rfl).2.1; omega)
  have cc : Chg (fun k => (msB bb C)[5]? = some (some k) ∨ k = bb) w w6 := c5.trans c6 (fun k _ he => Or.inl (by rw [← he]; rfl)) (fun k _ he => Or.inr he)
  obtain ⟨r1, r2⟩ := g.newBk cc ob6 hx (fun k hk => by
    rcases hbk with e | e
    · exact Or.inl (e ▸ hk)
    · exact Or.inr (e k hk))
  exact ⟨rfl, ⟨_, _, _, r1⟩, r2⟩
theorem bpop_any (g : St w0 bb h E w v) {s : List Int} {p : Int} (hs : v.stack = s ++ [p]) (hsm : s.length ≤ 100000) : Calls Try.prog fn_build_builder_pop #[.pointer (some ⟨bb, 0, none⟩)] w fun e w' => e = .returned (.int .i64 p) ∧ St w0 bb h E w' { v with stack := s } ∧ Chg (fun k => ¬ E k) w w' := by
  refine (build_builder_pop_lift (K := fun r w' => r = .int .i64 p ∧ St w0 bb h E w' { v with stack := s } ∧ Chg (fun k => ¬ E k) w w') ?_).mono (by rintro e w' ⟨r, rfl, rfl, h⟩; exact ⟨rfl, h⟩)
  unfold build_builder_pop_sh
  obtain ⟨C, os, X, g⟩ := g
  have hl := g.st.rd.len
  have hc := g.st.rd.capL
  rw [hs, List.length_append, List.length_singleton] at hl hc
  refine ⟨C.st, g.ob.cell rfl, C.st, g.ob.cell rfl, ?_⟩
  rw [wr_in (x := (C.st.len : Int) - 1) (by omega), show (C.st.len : Int) - 1 = (s.length : Int) by omega]
  refine g.st.rd.ix (i := (s.length : Int)) (by omega) (x := p) (by rw [Int.toNat_natCast, hs, List.getElem?_append_right (Nat.le_refl _), Nat.sub_self]; rfl) fun a _ hcell => ?_
  have q := hcell 0 _ rfl
  rw [add0] at q
  refine ⟨p, q, C.st, g.ob.cell rfl, by omega, by omega, fun s7 hs7 => ⟨g.ob.wr (by simp [bC]), fun w8 hw8 => ?_⟩⟩
  rw [Int.toNat_natCast, sub0] at hs7
  obtain ⟨ob8, c8⟩ := g.ob.up (k := 9) (vs := [s7.val]) (cs' := bC h { C with st := s7 } { v with stack := s }) (by simp [bC]) rfl hw8
  have nb : C.st.blk ≠ some bb := fun he => by have := g.dis 4 0 bb (show (msB bb C)[4]? = _ by rw [← he]; rfl) rfl; omega
  have hb : s7.blk = C.st.blk := by rw [hs7]; unfold Sl.blk Sl.val; cases C.st.ptr <;> rfl
  have hx : Ox intE w8 s7 s := by
    have := (g.st.take (n := s.length) (by rw [hs, List.length_append]; omega)).chg c8 (fun k hk he => by subst he; exact nb (by rw [← hb, hs7]; exact hk))
    rw [hs, List.take_left] at this
    rw [hs7]; exact this
  obtain ⟨r1, r2⟩ := g.newSt (c8.mono (fun k _ he => Or.inr he)) ob8 hx (fun k hk => Or.inl (hb ▸ hk))
  exact ⟨rfl, ⟨_, _, _, r1⟩, r2⟩
theorem bpopBack_any (g : St w0 bb h E w v) {s : List Int} {p : Int} (hs : v.back = s ++ [p]) (hsm : s.length ≤ 100000) : Calls Try.prog fn_build_builder_popBack #[.pointer (some ⟨bb, 0, none⟩)] w fun e w' => e = .returned (.int .i64 p) ∧ St w0 bb h E w' { v with back := s } ∧ Chg (fun k => ¬ E k) w w' := by
  refine (build_builder_popBack_lift (K := fun r w' => r = .int .i64 p ∧ St w0 bb h E w' { v with back := s } ∧ Chg (fun k => ¬ E k) w w') ?_).mono (by rintro e w' ⟨r, rfl, rfl, h⟩; exact ⟨rfl, h⟩)
  unfold build_builder_popBack_sh
  obtain ⟨C, os, X, g⟩ := g
  have hl := g.bk.rd.len
  have hc := g.bk.rd.capL
  rw [hs, List.length_append, List.length_singleton] at hl hc
  refine ⟨C.bk, g.ob.cell rfl, C.bk, g.ob.cell rfl, ?_⟩
  rw [wr_in (x := (C.bk.len : Int) - 1) (by omega), show (C.bk.len : Int) - 1 = (s.length : Int) by omega]
  refine g.bk.rd.ix (i := (s.length : Int)) (by omega) (x := p) (by rw [Int.toNat_natCast, hs, List.getElem?_append_right (Nat.le_refl _), Nat.sub_self]; rfl) fun a _ hcell => ?_
  have q := hcell 0 _ rfl
  rw [add0] at q
  refine ⟨p, q, C.bk, g.ob.cell rfl, by omega, by omega, fun s7 hs7 => ⟨g.ob.wr (by simp [bC]), fun w8 hw8 => ?_⟩⟩
  rw [Int.toNat_natCast, sub0] at hs7
  obtain ⟨ob8, c8⟩ := g.ob.up (k := 10) (vs := [s7.val]) (cs' := bC h { C with bk := s7 } { v with back := s }) (by simp [bC]) rfl hw8
  have nb : C.bk.blk ≠ some bb := fun he => by have := g.dis 5 0 bb (show (msB bb C)[5]? = _ by rw [← he]; rfl) rfl; omega
  have hb : s7.blk = C.bk.blk := by rw [hs7]; unfold Sl.blk Sl.val; cases C.bk.ptr <;> rfl
  have hx : Ox intE w8 s7 s := by
    have := (g.bk.take (n := s.length) (by rw [hs, List.length_append]; omega)).chg c8 (fun k hk he => by subst he; exact nb (by rw [← hb, hs7]; exact hk))
    rw [hs, List.take_left] at this
    rw [hs7]; exact this
  obtain ⟨r1, r2⟩ := g.newBk (c8.mono (fun k _ he => Or.inr he)) ob8 hx (fun k hk => Or.inl (hb ▸ hk))
  exact ⟨rfl, ⟨_, _, _, r1⟩, r2⟩
end
end Go.Proofs.Ytkjpmkopnkkbmaa

/- The package build: exits, numbers. -/
set_option maxRecDepth 100000
namespace Go.Proofs.Ytkjpmkopnkkbmaa
open Go.RowKit

theorem BS.newOuts {w0 w w' : World} {bb : Nat} {h : BH} {C : BC} {os : List OuC} {v : BV} {X E : Nat → Prop} (g : BS w0 w bb h C os v X E) {s' : Sl} {os' : List OuC} {vs' : List OuV} {X' : Nat → Prop} (c : Chg (fun k => (msB bb C)[3]? = some (some k) ∨ k = bb) w w') (ho : Ob w' bb (bC h { C with outs := s' } { v with outs := vs' }) T_build_builder) (hx : Ox ouE w' s' os') (hou : OusIs X' w' os' vs') (hb : ∀ k, s'.blk = some k → C.outs.blk = some k ∨ w.heap.size ≤ k) (hX : ∀ k, X k → X' k) (hX' : ∀ k, X' k → (w0.heap.size ≤ k ∧ k < w.heap.size) ∧ (∀ i : Nat, (msB bb C)[i]? ≠ some (some k)) ∧ ¬ E k) :
    BS w0 w' bb h { C with outs := s' } os' { v with outs := vs' } X' E ∧ Chg (fun k => ¬ E k) w w' := by
  have z := c.size
  have ms : msB bb { C with outs := s' } = (msB bb C).set 3 s'.blk := rfl
  obtain ⟨d1, d2⟩ := set_dis (sz := w.heap.size) g.dis (fun a k hk => (g.own a k hk).2.1) (i := 3) (nb := s'.blk) (fun k hk => (hb k hk).imp (fun e => by rw [← e]; rfl) (fun e => e))
  refine ⟨⟨ho, g.ins.chg c (fun k hk => g.other (j := 2) (show (msB bb C)[2]? = some (some k) by rw [← hk]; rfl) (by decide) (by decide)), hx, hou, g.st.chg c (fun k hk => g.other (j := 4) (show (msB bb C)[4]? = some (some k) by rw [← hk]; rfl) (by decide) (by decide)), g.bk.chg c (fun k hk => g.other (j := 5) (show (msB bb C)[5]? = some (some k) by rw [← hk]; rfl) (by decide) (by decide)), ⟨g.was.1, g.was.2.1, g.was.2.2.1.chg c (fun k hk => g.xo (g.was.2.2.2.2.1 k hk)), g.was.2.2.2.1.chg c (fun k hk => g.xo (g.was.2.2.2.2.2 k hk)), fun k hk => hX k (g.was.2.2.2.2.1 k hk), fun k hk => hX k (g.was.2.2.2.2.2 k hk)⟩, g.mp.chg c (g.other (j := 1) rfl (by decide) (by decide)), g.cel.chg c (fun k hk => g.xo (g.celX k hk)), fun k hk => hX k (g.celX k hk), by rw [ms]; exact d1, fun i k hk => ?_, fun k hk => by have := (hX' k hk).1; omega, fun k hk => by have := g.el k hk; omega, fun k hk => (hX' k hk).2.2, g.ch.trans c (fun _ _ h => h) (fun k hk he => by have := (g.eo he).2; omega)⟩, c.mono (fun k _ he => (g.eo he).1)⟩
  have z0 := g.ch.size
  have hlt : k < w'.heap.size := by
    rw [ms] at hk
    rcases Nat.lt_or_ge i 6 with hi | hi
    · by_cases hii : i = 3
      · subst hii
        have : s'.blk = some k := by
          rw [List.getElem?_set_self (by show 3 < 6; omega)] at hk
          exact Option.some.inj hk
        exact hx.lt k this
      · rw [List.getElem?_set_ne (fun e => hii e.symm)] at hk
        have := (g.own i k hk).2.1; omega
    · rw [List.getElem?_eq_none (by rw [List.length_set]; exact hi)] at hk; cases hk
  rw [ms] at hk
  rcases d2 i k hk with e | e
  · have := g.own i k e
    exact ⟨this.1, hlt, fun hx => (hX' k hx).2.1 i e, this.2.2.2⟩
  · exact ⟨by omega, hlt, fun hx => by have := (hX' k hx).1; omega, fun he => by have := g.el k he; omega⟩
section
variable {w0 w : World} {bb : Nat} {h : BH} {E : Nat → Prop} {v : BV}
/-- An exit that lies in watched blocks is put to the others. -/
theorem badd_bs {C : BC} {os : List OuC} {X G : Nat → Prop} (g : BS w0 w bb h C os v X (fun k => E k ∨ G k)) (hG : ∀ k, G k → ¬ E k ∧ w0.heap.size ≤ k) {o : OuC} {ov : OuV} {F : Nat → Prop} (ho : OuIs F w o ov) (hF : ∀ k, F k → X k ∨ G k) (hsm : v.outs.length ≤ 100000) : Calls Try.prog fn_build_builder_add #[.pointer (some ⟨bb, 0, none⟩), .agg (ouC o).toArray] w fun e w' => e = .returned (.int .i64 v.outs.length) ∧ St w0 bb h E w' { v with outs := v.outs ++ [ov] } ∧ Chg (fun k => ¬ E k) w w' := by
  refine (build_builder_add_lift (K := fun r w' => r = .int .i64 v.outs.length ∧ St w0 bb h E w' { v with outs := v.outs ++ [ov] } ∧ Chg (fun k => ¬ E k) w w') ?_).mono (by rintro e w' ⟨r, rfl, rfl, h⟩; exact ⟨rfl, h⟩)
  unfold build_builder_add_sh
  intro b7 w8 hb7 hw8
  have c8 := al hw8
  have o8 : Ob w8 b7 (ouC o) T_api_Out := by rw [hw8, hb7]; exact Ob.new w (ouC o) T_api_Out
  intro w9 hw9
  have c9 := dw hw9
  have k9 := trN c8 c9
  have o9 := o8.no c9
  have g9 := g.no k9
  refine ⟨fun w' => Ob w' bb (bC h C v) T_build_builder ∧ Ob w' b7 (ouC o) T_api_Out, ⟨g9.ob, o9⟩, C.outs, fun w' h => h.1.cell rfl, o.ip, o.steps, o.stack, o.back, fun w' h => h.2.cell rfl, fun w' h => h.2.cell rfl, fun w' h => h.2.cell rfl, fun w' h => h.2.cell rfl, ?_⟩
  intro b17 w18 hb17 hw18
  have c18 := al hw18
  have k18 := trN k9 c18
  have g18 := g.no k18
  have h17 : Ow ouE w18 ⟨some ⟨b17, 0, none⟩, 1, 1⟩ [o] := by rw [hw18, hb17]; exact Ow.lit (E := ouE) w9 [o] (ouC o) (by rw [fl_one]; rfl) (by show 1 ≤ maxLen; unfold maxLen; omega)
  have hlen := g.ous.1
  refine ⟨⟨g18.ob, o9.no c18⟩, ?_⟩
  refine appx_ok ousOk rfl rfl g18.outs h17.rd (at' := ⟨b17, 0, none⟩) rfl (fun _ => by simp) (by show (os.length + 1) * 64 ≤ _; omega) (by show os.length + 1 ≤ _; unfold maxLen; omega) ?_
  intro s' w20 hs' c20 hbk _
  have nb : C.outs.blk ≠ some bb := fun he => by have := g.dis 3 0 bb (show (msB bb C)[3]? = _ by rw [← he]; rfl) rfl; omega
  have n7 : C.outs.blk ≠ some b7 := fun he => by have := (g.own 3 b7 (show (msB bb C)[3]? = _ by rw [← he]; rfl)).2.1; omega
  have ob20 := g18.ob.chg c20 nb
  refine ⟨⟨ob20, (o9.no c18).chg c20 n7⟩, ob20.wr (by simp [bC]), fun w21 hw21 => ?_⟩
  obtain ⟨ob21, c21⟩ := ob20.up (k := 6) (vs := [s'.val]) (cs' := bC h { C with outs := s' } { v with outs := v.outs ++ [ov] }) (by simp [bC]) rfl hw21
  have hx := hs'.chg c21 (fun k hk he => by
    subst he
    rcases hbk with e | e
    · exact nb (e ▸ hk)
    · have := e _ hk; have := (g18.own 0 _ rfl).2.1; omega)
  have cc : Chg (fun k => (msB bb C)[3]? = some (some k) ∨ k = bb) w18 w21 := c20.trans c21 (fun k _ he => Or.inl (by rw [← he]; rfl)) (fun k _ he => Or.inr he)
  have nF : ∀ k, F k → ¬ ((msB bb C)[3]? = some (some k) ∨ k = bb) := fun k hk he => (hF k hk).elim (fun e => g18.xo e he) (fun e => (g18.eo he).1 (Or.inr e))
  have hou : OusIs (fun k => X k ∨ F k) w21 (os ++ [o]) (v.outs ++ [ov]) := by
    refine ((g18.ous.chg cc (fun k hk => g18.xo hk)).mono (fun k hk => Or.inl hk)).snoc ?_
    exact ⟨ho.1, ho.2.1, (ho.2.2.1.no k18).chg cc (fun k hk => nF k (ho.2.2.2.2.1 k hk)), (ho.2.2.2.1.no k18).chg cc (fun k hk => nF k (ho.2.2.2.2.2 k hk)), fun k hk => Or.inr (ho.2.2.2.2.1 k hk), fun k hk => Or.inr (ho.2.2.2.2.2 k hk)⟩
  obtain ⟨r1, r2⟩ := (g18.subE (fun k hk => Or.inl hk)).newOuts cc ob21 hx hou (fun k hk => by
    rcases hbk with e | e
    · exact Or.inl (e ▸ hk)
    · exact Or.inr (e k hk)) (fun k hk => Or.inl hk) (fun k hk => by
    rcases hk with hk | hk
    · exact ⟨g18.xl k hk, fun i hi => (g18.own i k hi).2.2.1 hk, fun e => g18.xe k hk (Or.inl e)⟩
    · rcases hF k hk with hk | hk
      · exact ⟨g18.xl k hk, fun i hi => (g18.own i k hi).2.2.1 hk, fun e => g18.xe k hk (Or.inl e)⟩
      · exact ⟨⟨(hG k hk).2, g18.el k (Or.inr hk)⟩, fun i hi => (g18.own i k hi).2.2.2 (Or.inr hk), (hG k hk).1⟩)
  have hl := hs'.rd.len
  rw [List.length_append, List.length_singleton, hlen] at hl
  refine ⟨s', ob21.cell rfl, ?_, ⟨_, _, _, r1⟩, k18.trans r2 (fun _ _ h => h.elim) (fun _ _ h => h)⟩
  rw [wr_in (by omega), hl]
  show Value.int .i64 (((v.outs.length + 1 : Nat) : Int) - 1) = _
  congr 1; omega
theorem badd_any {F : Nat → Prop} (g : St w0 bb h (fun k => E k ∨ F k) w v) (hG : ∀ k, F k → ¬ E k ∧ w0.heap.size ≤ k) {o : OuC} {ov : OuV} (ho : OuIs F w o ov) (hsm : v.outs.length ≤ 100000) : Calls Try.prog fn_build_builder_add #[.pointer (some ⟨bb, 0, none⟩), .agg (ouC o).toArray] w fun e w' => e = .returned (.int .i64 v.outs.length) ∧ St w0 bb h E w' { v with outs := v.outs ++ [ov] } ∧ Chg (fun k => ¬ E k) w w' := by
  obtain ⟨C, os, X, g⟩ := g
  exact badd_bs g hG ho (fun k hk => Or.inr hk) hsm
/-- An exit as the machine is now. -/
theorem bout_any (g : St w0 bb h E w v) (ip n : Int) (hsm : v.stack.length ≤ 1000000 ∧ v.back.length ≤ 1000000) : Calls Try.prog fn_build_builder_out #[.pointer (some ⟨bb, 0, none⟩), .int .i64 ip, .int .i64 n] w fun e w' => ∃ o : OuC, e = .returned (.agg (ouC o).toArray) ∧ OuIs (fun k => w.heap.size ≤ k ∧ k < w'.heap.size) w' o ⟨ip, n, v.stack, v.back⟩ ∧ Chg No w w' := by
  refine (build_builder_out_lift (K := fun r w' => ∃ o : OuC, r = .agg (ouC o).toArray ∧ OuIs (fun k => w.heap.size ≤ k ∧ k < w'.heap.size) w' o ⟨ip, n, v.stack, v.back⟩ ∧ Chg No w w') ?_).mono (by rintro e w' ⟨r, rfl, o, rfl, h⟩; exact ⟨o, rfl, h⟩)
  unfold build_builder_out_sh
  obtain ⟨C, os, X, g⟩ := g
  intro b4 w5 hb4 hw5
  have c5 := al hw5
  have o5 : Ob w5 b4 (ouC ⟨0, 0, nilS, nilS⟩) T_api_Out := by rw [hw5, hb4]; exact Ob.new w (ouC ⟨0, 0, nilS, nilS⟩) T_api_Out
  intro w6 hw6
  have c6 := dw hw6
  have k6 := trN c5 c6
  have g6 := g.no k6
  have z5 := o5.lt
  refine ⟨fun w' => Chg No w6 w', Chg.refl _ _, C.st, fun w' c => (g6.ob.no c).cell rfl, C.bk, fun w' c => (g6.ob.no c).cell rfl, ?_⟩
  refine (clone_ints g6.st.rd (by omega)).mono ?_
  rintro e w11 ⟨s12, rfl, h12, c11, n12, _⟩
  refine ⟨s12, rfl, c11, ?_⟩
  refine (clone_ints (g6.no c11).bk.rd (by omega)).mono ?_
  rintro e w14 ⟨s15, rfl, h15, c14, n15, _⟩
  have c614 := trN c11 c14
  have o14 := ((o5.no c6).no c11).no c14
  refine ⟨s15, rfl, c614, o14.wr (by simp [ouC]), fun w16 hw16 => ?_⟩
  obtain ⟨o16, c16⟩ := o14.up (k := 0) (vs := ouC ⟨ip, n, s12, s15⟩) (cs' := ouC ⟨ip, n, s12, s15⟩) (by simp [ouC]) rfl hw16
  have z6 := c6.size
  have z11 := c11.size
  have z14 := c14.size
  have z16 := c16.size
  have l12 : ∀ k, s12.blk = some k → k < w11.heap.size := fun k hk => h12.lt hk
  have l15 : ∀ k, s15.blk = some k → k < w14.heap.size := fun k hk => h15.lt hk
  refine ⟨_, _, _, _, o16.cell rfl, o16.cell rfl, o16.cell rfl, o16.cell rfl, ⟨ip, n, s12, s15⟩, rfl, ⟨rfl, rfl, ((h12.no c14).chg c16 (fun k hk he => by have := n12 k hk; omega)).rd, (h15.chg c16 (fun k hk he => by have := n15 k hk; omega)).rd, fun k hk => ?_, fun k hk => ?_⟩, (trN k6 c614).trans c16 (fun _ _ h => h) (fun k hk he => by omega)⟩
  · have := n12 k hk; have := l12 k hk; omega
  · have := n15 k hk; have := l15 k hk; omega
/-- A number's place: one that is there, or a new one. -/
theorem bnumber_any (g : St w0 bb h E w v) (n : Int) (hsm : v.ins.length ≤ 100000) : Calls Try.prog fn_build_builder_number #[.pointer (some ⟨bb, 0, none⟩), .int .i64 n] w fun e w' => ∃ (p : Int) (v' : BV), e = .returned (.int .i64 p) ∧ St w0 bb h E w' v' ∧ Chg (fun k => ¬ E k) w w' ∧ ((v' = v ∧ v.cs n = some p) ∨ (p = v.ins.length ∧ v' = { v with ins := v.ins ++ [⟨1, n, 0, 0, 0⟩], cs := fun q => if q = n then some p else v.cs q })) := by
  refine (build_builder_number_lift (K := fun r w' => ∃ (p : Int) (v' : BV), r = .int .i64 p ∧ St w0 bb h E w' v' ∧ Chg (fun k => ¬ E k) w w' ∧ ((v' = v ∧ v.cs n = some p) ∨ (p = v.ins.length ∧ v' = { v with ins := v.ins ++ [⟨1, n, 0, 0, 0⟩], cs := fun q => if q = n then some p else v.cs q }))) ?_).mono (by rintro e w' ⟨r, rfl, p, v', rfl, h⟩; exact ⟨p, v', rfl, h⟩)
  unfold build_builder_number_sh
  obtain ⟨C, os, X, g⟩ := g
  have hT : Try.prog.underlying T_map_int_int = some (.map T_int T_int) := by kernel_rfl
  have ok : KeyOk Try.prog T_int ekI := ints_keyOk (by kernel_rfl)
  have hz : ∀ w : World, (zeroValue T_int).run Try.prog w = .ok (ekI 0) w := fun w => by kernel_rfl
  have hl := mp_lookup hT ok hz g.mp n true
  rw [if_pos rfl] at hl
  refine ⟨some C.m, g.ob.cell rfl, _, _, w, hl, ?_⟩
  cases hc : v.cs n with
  | some p => exact brB_t ⟨p, v, rfl, ⟨C, os, X, g⟩, Chg.refl _ _, Or.inl ⟨rfl, rfl⟩⟩
  | none =>
    refine brB_f ?_
    refine (bins_any ⟨C, os, X, g⟩ ⟨1, n, 0, 0, 0⟩ hsm).mono ?_
    rintro e w8 ⟨rfl, ⟨C', os', X', g'⟩, c8⟩
    obtain ⟨w11, hu, hm, c11⟩ := mp_update hT ok g'.mp n (v.ins.length : Int)
    refine ⟨_, rfl, some C'.m, g'.ob.cell rfl, w11, hu, _, _, rfl, ⟨C', os', X', ?_⟩, ?_, Or.inr ⟨rfl, rfl⟩⟩
    · have ne : ∀ {j k : Nat}, (msB bb C')[j]? = some (some k) → j ≠ 1 → ¬ k = C'.m := fun hk h2 he => h2 (g'.dis _ 1 _ hk (by rw [he]; rfl))
      have nx : ∀ {k : Nat}, X' k → ¬ k = C'.m := fun hk he => (g'.own 1 _ rfl).2.2.1 (he ▸ hk)
      have z := c11.size
      have hm0 := (g'.own 1 C'.m rfl).1
      exact ⟨g'.ob.chg c11 (ne (j := 0) rfl (by decide)), g'.ins.chg c11 (fun k hk => ne (j := 2) (show (msB bb C')[2]? = some (some k) by rw [← hk]; rfl) (by decide)), g'.outs.chg c11 (fun k hk => ne (j := 3) (show (msB bb C')[3]? = some (some k) by rw [← hk]; rfl) (by decide)), g'.ous.chg c11 (fun k hk => nx hk), g'.st.chg c11 (fun k hk => ne (j := 4) (show (msB bb C')[4]? = some (some k) by rw [← hk]; rfl) (by decide)), g'.bk.chg c11 (fun k hk => ne (j := 5) (show (msB bb C')[5]? = some (some k) by rw [← hk]; rfl) (by decide)), ⟨g'.was.1, g'.was.2.1, g'.was.2.2.1.chg c11 (fun k hk => nx (g'.was.2.2.2.2.1 k hk)), g'.was.2.2.2.1.chg c11 (fun k hk => nx (g'.was.2.2.2.2.2 k hk)), g'.was.2.2.2.2⟩, hm, g'.cel.chg c11 (fun k hk => nx (g'.celX k hk)), g'.celX, g'.dis, fun i k hk => by have := g'.own i k hk; exact ⟨this.1, by omega, this.2.2⟩, fun k hk => by have := g'.xl k hk; omega, fun k hk => by have := g'.el k hk; omega, g'.xe, g'.ch.trans c11 (fun _ _ h => h) (fun k hk he => by subst he; omega)⟩
    · exact c8.trans c11 (fun _ _ h => h) (fun k hk he => by subst he; exact (g'.own 1 _ rfl).2.2.2)
theorem bleave_any (g : St w0 bb h E w v) (hsm : v.outs.length ≤ 100000) : Calls Try.prog fn_build_builder_leave #[.pointer (some ⟨bb, 0, none⟩)] w fun e w' => ∃ (x : Int) (v' : BV), e = .returned (.int .i64 x) ∧ St w0 bb h E w' v' ∧ Chg (fun k => ¬ E k) w w' ∧ ((0 ≤ v.exit ∧ v' = v ∧ x = v.exit) ∨ (v.exit < 0 ∧ x = v.outs.length ∧ v' = { v with outs := v.outs ++ [v.was], exit := x })) := by
  refine (build_builder_leave_lift (K := fun r w' => ∃ (x : Int) (v' : BV), r = .int .i64 x ∧ St w0 bb h E w' v' ∧ Chg (fun k => ¬ E k) w w' ∧ ((0 ≤ v.exit ∧ v' = v ∧ x = v.exit) ∨ (v.exit < 0 ∧ x = v.outs.length ∧ v' = { v with outs := v.outs ++ [v.was], exit := x }))) ?_).mono (by rintro e w' ⟨r, rfl, x, v', rfl, h⟩; exact ⟨x, v', rfl, h⟩)
  unfold build_builder_leave_sh
  obtain ⟨C, os, X, g⟩ := g
  refine ⟨v.exit, g.ob.cell rfl, brB_of (fun hx => ?_) (fun hx => ⟨v.exit, g.ob.cell rfl, _, _, rfl, ⟨C, os, X, g⟩, Chg.refl _ _, Or.inl ⟨by have := of_decide_eq_false hx; omega, rfl, rfl⟩⟩)⟩
  have hx := of_decide_eq_true hx
  refine ⟨_, _, _, _, g.ob.cell rfl, g.ob.cell rfl, g.ob.cell rfl, g.ob.cell rfl, ?_⟩
  refine (badd_bs (G := fun _ => False) (g.subE (fun k hk => hk.elim (fun h => h) False.elim)) (fun _ hk => hk.elim) g.was (fun k hk => Or.inl hk) hsm).mono ?_
  rintro e w8 ⟨rfl, ⟨C8, os8, X8, g8⟩, c8⟩
  refine ⟨_, rfl, g8.ob.wr (by simp [bC]), fun w10 hw10 => ?_⟩
  obtain ⟨ob10, c10⟩ := g8.ob.up (k := 20) (vs := [.int .i64 (v.outs.length : Int)]) (cs' := bC h C8 { v with outs := v.outs ++ [v.was], exit := (v.outs.length : Int) }) (by simp [bC]) rfl hw10
  obtain ⟨r1, r2⟩ := g8.newN c10 ob10 ⟨rfl, rfl, rfl, rfl, rfl, rfl⟩ ⟨rfl, rfl⟩
  exact ⟨_, ob10.cell rfl, _, _, rfl, ⟨_, _, _, r1⟩, c8.trans r2 (fun _ _ h => h) (fun _ _ h => h), Or.inr ⟨hx, rfl, rfl⟩⟩
end
end Go.Proofs.Ytkjpmkopnkkbmaa

/- The package build, in plain words: what a builder keeps true. -/
set_option maxRecDepth 100000
namespace Go.Proofs.Ytkjpmkopnkkbmaa
open Go.RowKit

def NmI (ins : List In5) (n : Nat) (l : List Int) : Prop := ∀ p ∈ l, 0 ≤ p ∧ p < n ∧ givesV (ins.getD p.toNat in0).a = true
def OtI (ins : List In5) (outs : List OuV) (x : Int) (k : Nat) : Prop := 0 ≤ x ∧ x < outs.length ∧ NmI ins k (outs.getD x.toNat ou0).stack ∧ NmI ins k (outs.getD x.toNat ou0).back
def EcI (h : BH) (ins : List In5) (outs : List OuV) (k : Nat) (i : In5) : Prop :=
  (1 ≤ i.a ∧ i.a ≤ 12) ∧ (i.a = 4 → Cn.risTwo i.b = true ∨ Cn.risOne i.b = true) ∧ (i.a = 2 → 0 ≤ i.b ∧ i.b ≤ h.slots - 1) ∧ (i.a = 3 → 0 ≤ i.b ∧ i.b ≤ h.backs - 1) ∧ NmI ins k (usesV i) ∧ ∀ x ∈ outsV i, OtI ins outs x k
def ExI (h : BH) (o : OuV) : Prop := (0 ≤ o.steps ∧ o.steps ≤ 120) ∧ (0 ≤ o.ip ∧ o.ip ≤ 2999) ∧ (o.stack.length : Int) ≤ h.slots + h.grow ∧ (o.back.length : Int) ≤ h.backs + h.growBack
structure Good (h : BH) (v : BV) : Prop where
  each : ∀ (k : Nat) (i : In5), v.ins[k]? = some i → EcI h v.ins v.outs k i
  st : NmI v.ins v.ins.length v.stack
  bk : NmI v.ins v.ins.length v.back
  cs : ∀ n p, v.cs n = some p → NmI v.ins v.ins.length [p]
  was : NmI v.ins v.ins.length v.was.stack ∧ NmI v.ins v.ins.length v.was.back ∧ ExI h v.was
  ex : 0 ≤ v.exit → OtI v.ins v.outs v.exit v.ins.length
  outs : ∀ o ∈ v.outs, ExI h o
theorem NmI.nil (ins : List In5) (n : Nat) : NmI ins n [] := fun p hp => by cases hp
theorem NmI.cs' {ins : List In5} {n : Nat} {p : Int} {l : List Int} (h : NmI ins n [p]) (g : NmI ins n l) : NmI ins n (p :: l) := fun q hq => by
  rcases List.mem_cons.1 hq with e | e
  · rw [e]; exact h p (List.mem_cons.2 (Or.inl rfl))
  · exact g q e
theorem NmI.ap {ins : List In5} {n : Nat} {l r : List Int} (h : NmI ins n l) (g : NmI ins n r) : NmI ins n (l ++ r) := fun q hq => (List.mem_append.1 hq).elim (h q) (g q)
theorem NmI.sub {ins : List In5} {n : Nat} {l r : List Int} (h : NmI ins n l) (hs : ∀ p ∈ r, p ∈ l) : NmI ins n r := fun q hq => h q (hs q hq)
theorem NmI.up {ins : List In5} {n n' : Nat} {l : List Int} (h : NmI ins n l) (hn : n ≤ ins.length) (r : List In5) (hnn : n ≤ n') : NmI (ins ++ r) n' l := fun p hp => by
  obtain ⟨a, b, c⟩ := h p hp
  refine ⟨a, by omega, ?_⟩
  rw [List.getD_eq_getElem?_getD, List.getElem?_append_left (by omega), ← List.getD_eq_getElem?_getD]; exact c
theorem OtI.up {ins : List In5} {outs : List OuV} {x : Int} {n n' : Nat} (h : OtI ins outs x n) (hn : n ≤ ins.length) (r : List In5) (q : List OuV) (hnn : n ≤ n') : OtI (ins ++ r) (outs ++ q) x n' := by
  obtain ⟨a, b, c, d⟩ := h
  have e : (outs ++ q).getD x.toNat ou0 = outs.getD x.toNat ou0 := by
    rw [List.getD_eq_getElem?_getD, List.getElem?_append_left (by omega), ← List.getD_eq_getElem?_getD]
  exact ⟨a, by rw [List.length_append]; omega, by rw [e]; exact c.up hn r hnn, by rw [e]; exact d.up hn r hnn⟩
theorem EcI.up {h : BH} {ins : List In5} {outs : List OuV} {k : Nat} {i : In5} (g : EcI h ins outs k i) (hk : k ≤ ins.length) (r : List In5) (q : List OuV) : EcI h (ins ++ r) (outs ++ q) k i := by
  obtain ⟨a, b, c, d, e, f⟩ := g
  exact ⟨a, b, c, d, e.up hk r (Nat.le_refl _), fun x hx => (f x hx).up hk r q (Nat.le_refl _)⟩
theorem Good.addI {h : BH} {v : BV} (g : Good h v) {i : In5} (hi : EcI h v.ins v.outs v.ins.length i) : Good h { v with ins := v.ins ++ [i] } := by
  have le : v.ins.length ≤ (v.ins ++ [i]).length := by rw [List.length_append]; omega
  have rf := Nat.le_refl v.ins.length
  refine ⟨fun k j hj => ?_, g.st.up rf [i] le, g.bk.up rf [i] le, fun n p hp => (g.cs n p hp).up rf [i] le, ⟨g.was.1.up rf [i] le, g.was.2.1.up rf [i] le, g.was.2.2⟩, fun hx => ?_, g.outs⟩
  · have ee : EcI h v.ins v.outs k j ∧ k ≤ v.ins.length := by
      rcases Nat.lt_or_ge k v.ins.length with hk | hk
      · rw [List.getElem?_append_left hk] at hj
        exact ⟨g.each k j hj, by omega⟩
      · have hk2 : k = v.ins.length := by have := (List.getElem?_eq_some_iff.1 hj).1; rw [List.length_append, List.length_singleton] at this; omega
        subst hk2
        rw [List.getElem?_append_right (Nat.le_refl _), Nat.sub_self] at hj
        cases hj
        exact ⟨hi, Nat.le_refl _⟩
    have := ee.1.up ee.2 [i] []
    rw [List.append_nil] at this; exact this
  · have := (g.ex hx).up rf [i] [] le
    rw [List.append_nil] at this; exact this
theorem Good.addO {h : BH} {v : BV} (g : Good h v) {o : OuV} (ho : ExI h o) : Good h { v with outs := v.outs ++ [o] } := by
  have rf := Nat.le_refl v.ins.length
  refine ⟨fun k j hj => ?_, g.st, g.bk, g.cs, g.was, fun hx => ?_, fun x hx => ?_⟩
  · have hk := (List.getElem?_eq_some_iff.1 hj).1
    have := (g.each k j hj).up (Nat.le_of_lt (show k < v.ins.length from hk)) [] [o]
    rw [List.append_nil] at this; exact this
  · have := (g.ex hx).up rf [] [o] rf
    rw [List.append_nil] at this; exact this
  · rcases List.mem_append.1 hx with hx | hx
    · exact g.outs x hx
    · rw [List.mem_singleton.1 hx]; exact ho
theorem last_ou (outs : List OuV) (o : OuV) : (outs ++ [o]).getD ((outs.length : Int)).toNat ou0 = o := by
  rw [Int.toNat_natCast, List.getD_eq_getElem?_getD, List.getElem?_append_right (Nat.le_refl _), Nat.sub_self]; rfl
theorem Good.leave {h : BH} {v : BV} (g : Good h v) : Good h { v with outs := v.outs ++ [v.was], exit := v.outs.length } := by
  have a := g.addO g.was.2.2
  refine ⟨a.each, a.st, a.bk, a.cs, a.was, fun _ => ⟨by show (0 : Int) ≤ (v.outs.length : Int); omega, ?_, ?_, ?_⟩, a.outs⟩
  · show (v.outs.length : Int) < ((v.outs ++ [v.was]).length : Int)
    rw [List.length_append, List.length_singleton]; omega
  · show NmI v.ins v.ins.length ((v.outs ++ [v.was]).getD ((v.outs.length : Int)).toNat ou0).stack
    rw [last_ou]; exact g.was.1
  · show NmI v.ins v.ins.length ((v.outs ++ [v.was]).getD ((v.outs.length : Int)).toNat ou0).back
    rw [last_ou]; exact g.was.2.1
/-- Exits that there are, and that which may yet come ahead of the step. -/
def ocB (v : BV) : Nat := v.outs.length + (if v.exit < 0 then 1 else 0)
/-- At most c more instructions, d more exits. -/
structure Rl (v v' : BV) (c d : Nat) : Prop where
  ic : v'.ins.length ≤ v.ins.length + c
  oc : ocB v' ≤ ocB v + d
  pre : ∃ r, v'.ins = v.ins ++ r
  pro : ∃ r, v'.outs = v.outs ++ r
  step : v'.step = v.step
theorem Rl.refl (v : BV) : Rl v v 0 0 := ⟨by omega, by omega, ⟨[], by simp⟩, ⟨[], by simp⟩, rfl⟩
theorem Rl.trans {a b e : BV} {c d c' d' : Nat} (h : Rl a b c d) (g : Rl b e c' d') : Rl a e (c + c') (d + d') := by
  obtain ⟨r, hr⟩ := h.pre
  obtain ⟨q, hq⟩ := g.pre
  obtain ⟨r2, hr2⟩ := h.pro
  obtain ⟨q2, hq2⟩ := g.pro
  have h1 := h.ic; have h2 := g.ic; have h3 := h.oc; have h4 := g.oc
  exact ⟨by omega, by omega, ⟨r ++ q, by rw [hq, hr, List.append_assoc]⟩, ⟨r2 ++ q2, by rw [hq2, hr2, List.append_assoc]⟩, g.step.trans h.step⟩
theorem Rl.wk {a b : BV} {c d c' d' : Nat} (h : Rl a b c d) (h1 : c ≤ c') (h2 : d ≤ d') : Rl a b c' d' := ⟨by have := h.ic; omega, by have := h.oc; omega, h.pre, h.pro, h.step⟩
theorem Rl.nm {v v' : BV} {c d : Nat} (r : Rl v v' c d) {l : List Int} (h : NmI v.ins v.ins.length l) : NmI v'.ins v'.ins.length l := by
  obtain ⟨q, hq⟩ := r.pre
  rw [hq]; exact h.up (Nat.le_refl _) q (by rw [List.length_append]; omega)
theorem Good.stack {h : BH} {v : BV} (g : Good h v) {s : List Int} (hs : NmI v.ins v.ins.length s) : Good h { v with stack := s } := ⟨g.each, hs, g.bk, g.cs, g.was, g.ex, g.outs⟩
theorem Good.back {h : BH} {v : BV} (g : Good h v) {s : List Int} (hs : NmI v.ins v.ins.length s) : Good h { v with back := s } := ⟨g.each, g.st, hs, g.cs, g.was, g.ex, g.outs⟩
/-- Few enough. -/
def Few (v : BV) : Prop := v.ins.length ≤ 50000 ∧ v.outs.length ≤ 50000 ∧ v.stack.length ≤ 50000 ∧ v.back.length ≤ 50000
section
variable {w0 w : World} {bb : Nat} {h : BH} {E : Nat → Prop} {v : BV}
/-- What a part of the builder comes to: the stacks then, so many more instructions and exits. -/
def Bd (w0 : World) (bb : Nat) (h : BH) (E : Nat → Prop) (w : World) (v : BV) (s b : List Int) (c d : Nat) (w' : World) (v' : BV) : Prop :=
  St w0 bb h E w' v' ∧ Good h v' ∧ Rl v v' c d ∧ v'.stack = s ∧ v'.back = b ∧ Chg (fun k => ¬ E k) w w'
theorem Bd.trans {w1 w2 : World} {v1 v2 : BV} {s b s' b' : List Int} {c d c' d' : Nat} (a : Bd w0 bb h E w v s b c d w1 v1) (e : Bd w0 bb h E w1 v1 s' b' c' d' w2 v2) : Bd w0 bb h E w v s' b' (c + c') (d + d') w2 v2 :=
  ⟨e.1, e.2.1, a.2.2.1.trans e.2.2.1, e.2.2.2.1, e.2.2.2.2.1, a.2.2.2.2.2.trans e.2.2.2.2.2 (fun _ _ h => h) (fun _ _ h => h)⟩
theorem insB (g : St w0 bb h E w v) (gd : Good h v) (few : Few v) {i : In5} (hi : EcI h v.ins v.outs v.ins.length i) : Calls Try.prog fn_build_builder_ins #[.pointer (some ⟨bb, 0, none⟩), .agg (insC i).toArray] w fun e w' => ∃ v', e = .returned (.int .i64 v.ins.length) ∧ Bd w0 bb h E w v v.stack v.back 1 0 w' v' ∧ (givesV i.a = true → NmI v'.ins v'.ins.length [(v.ins.length : Int)]) := by
  refine (bins_any g i (by have := few.1; omega)).mono ?_
  rintro e w' ⟨rfl, g', c'⟩
  refine ⟨_, rfl, ⟨g', gd.addI hi, ⟨by show (v.ins ++ [i]).length ≤ _; rw [List.length_append, List.length_singleton]; exact Nat.le_refl _, Nat.le_refl _, ⟨[i], rfl⟩, ⟨[], by simp⟩, rfl⟩, rfl, rfl, c'⟩, fun hg p hp => ?_⟩
  rw [List.mem_singleton.1 hp]
  refine ⟨by omega, by show (v.ins.length : Int) < ((v.ins ++ [i]).length : Nat); rw [List.length_append, List.length_singleton]; omega, ?_⟩
  show givesV ((v.ins ++ [i]).getD ((v.ins.length : Int)).toNat in0).a = true
  rw [Int.toNat_natCast, List.getD_eq_getElem?_getD, List.getElem?_append_right (Nat.le_refl _), Nat.sub_self]; exact hg
theorem numB (g : St w0 bb h E w v) (gd : Good h v) (few : v.ins.length ≤ 50000) (n : Int) : Calls Try.prog fn_build_builder_number #[.pointer (some ⟨bb, 0, none⟩), .int .i64 n] w fun e w' => ∃ (p : Int) (v' : BV), e = .returned (.int .i64 p) ∧ Bd w0 bb h E w v v.stack v.back 1 0 w' v' ∧ NmI v'.ins v'.ins.length [p] := by
  refine (bnumber_any g n (by omega)).mono ?_
  rintro e w' ⟨p, v', rfl, g', c', hv⟩
  refine ⟨p, v', rfl, ?_⟩
  rcases hv with ⟨rfl, hp⟩ | ⟨rfl, rfl⟩
  · exact ⟨⟨g', gd, (Rl.refl _).wk (by omega) (Nat.le_refl _), rfl, rfl, c'⟩, gd.cs n p hp⟩
  · have a := gd.addI (i := ⟨1, n, 0, 0, 0⟩) ⟨⟨by show (1:Int) ≤ 1; decide, by show (1:Int) ≤ 12; decide⟩, (fun h => by have h : (1:Int) = 4 := h; omega), (fun h => by have h : (1:Int) = 2 := h; omega), (fun h => by have h : (1:Int) = 3 := h; omega), NmI.nil _ _, fun x hx => by cases hx⟩
    have np : NmI (v.ins ++ [(⟨1, n, 0, 0, 0⟩ : In5)]) (v.ins ++ [(⟨1, n, 0, 0, 0⟩ : In5)]).length [(v.ins.length : Int)] := fun p hp => by
      rw [List.mem_singleton.1 hp]
      refine ⟨by omega, by rw [List.length_append, List.length_singleton]; omega, ?_⟩
      rw [Int.toNat_natCast, List.getD_eq_getElem?_getD, List.getElem?_append_right (Nat.le_refl _), Nat.sub_self]; rfl
    refine ⟨⟨g', ⟨a.each, a.st, a.bk, fun m q hq => ?_, a.was, a.ex, a.outs⟩, ⟨by show (v.ins ++ _).length ≤ _; rw [List.length_append, List.length_singleton]; exact Nat.le_refl _, Nat.le_refl _, ⟨_, rfl⟩, ⟨[], by simp⟩, rfl⟩, rfl, rfl, c'⟩, np⟩
    have hq : (if m = n then some (v.ins.length : Int) else v.cs m) = some q := hq
    split at hq
    · cases hq; exact np
    · exact a.cs m q hq
theorem leaveB (g : St w0 bb h E w v) (gd : Good h v) (few : v.outs.length ≤ 50000) : Calls Try.prog fn_build_builder_leave #[.pointer (some ⟨bb, 0, none⟩)] w fun e w' => ∃ (x : Int) (v' : BV), e = .returned (.int .i64 x) ∧ Bd w0 bb h E w v v.stack v.back 0 0 w' v' ∧ v'.ins = v.ins ∧ OtI v'.ins v'.outs x v'.ins.length := by
  refine (bleave_any g (by omega)).mono ?_
  rintro e w' ⟨x, v', rfl, g', c', hv⟩
  refine ⟨x, v', rfl, ?_⟩
  rcases hv with ⟨h0, rfl, rfl⟩ | ⟨h0, rfl, rfl⟩
  · exact ⟨⟨g', gd, Rl.refl _, rfl, rfl, c'⟩, rfl, gd.ex h0⟩
  · have a := gd.leave
    refine ⟨⟨g', a, ⟨Nat.le_refl _, ?_, ⟨[], by simp⟩, ⟨[v.was], rfl⟩, rfl⟩, rfl, rfl, c'⟩, rfl, a.ex (by show (0 : Int) ≤ (v.outs.length : Int); omega)⟩
    unfold ocB
    rw [if_pos h0]
    show (v.outs ++ [v.was]).length + (if ((v.outs.length : Int)) < 0 then 1 else 0) ≤ _
    rw [if_neg (by omega), List.length_append, List.length_singleton]; omega
theorem Bd.few {w' : World} {v' : BV} {s b : List Int} {c d : Nat} (a : Bd w0 bb h E w v s b c d w' v') (few : Few v) (h1 : c ≤ 100) (h2 : d ≤ 100) (h3 : s.length ≤ 49000) (h4 : b.length ≤ 49000) (k : v.ins.length ≤ 40000 ∧ v.outs.length ≤ 40000) : Few v' := by
  obtain ⟨_, _, r, e1, e2, _⟩ := a
  have := r.ic; have := r.oc
  unfold ocB at this
  refine ⟨by omega, ?_, by rw [e1]; omega, by rw [e2]; omega⟩
  split at this <;> split at this <;> omega
end
end Go.Proofs.Ytkjpmkopnkkbmaa

/- The package build: runs of the builder's small functions, one after another. -/
set_option maxRecDepth 100000
namespace Go.Proofs.Ytkjpmkopnkkbmaa
open Go.RowKit

/-- What is held of a builder: its stacks, places in hand, exits in hand, how many instructions and exits at most. -/
structure Rv (h : BH) (x : SnV) (s b L M : List Int) (c d : Nat) (v : BV) : Prop where
  gd : Good h v
  stp : v.step = x
  sk : v.stack = s
  bk : v.back = b
  nm : NmI v.ins v.ins.length L
  ot : ∀ y ∈ M, OtI v.ins v.outs y v.ins.length
  ic : v.ins.length ≤ c
  oc : ocB v ≤ d
theorem Rl.ot {v v' : BV} {c d : Nat} (r : Rl v v' c d) {y : Int} (h : OtI v.ins v.outs y v.ins.length) : OtI v'.ins v'.outs y v'.ins.length := by
  obtain ⟨q, hq⟩ := r.pre
  obtain ⟨q2, hq2⟩ := r.pro
  rw [hq, hq2]; exact h.up (Nat.le_refl _) q q2 (by rw [List.length_append]; omega)
theorem Rv.go {h : BH} {x : SnV} {s b L M : List Int} {c d c' d' : Nat} {v v' : BV} (r : Rv h x s b L M c d v) (g : Good h v') (l : Rl v v' c' d') {s' b' : List Int} (hs : v'.stack = s') (hb : v'.back = b') : Rv h x s' b' L M (c + c') (d + d') v' := by
  have h1 := l.ic; have h2 := l.oc; have h3 := r.ic; have h4 := r.oc
  exact ⟨g, l.step.trans r.stp, hs, hb, l.nm r.nm, fun y hy => l.ot (r.ot y hy), by omega, by omega⟩
theorem Rv.ol {h : BH} {x : SnV} {s b L M : List Int} {c d : Nat} {v : BV} (r : Rv h x s b L M c d v) : v.outs.length ≤ d := by
  have := r.oc; unfold ocB at this; omega
def Run (w0 w : World) (bb : Nat) (h : BH) (x : SnV) (E0 E : Nat → Prop) (w1 : World) (s b L M : List Int) (c d : Nat) : Prop :=
  ∃ v, St w0 bb h E w1 v ∧ Rv h x s b L M c d v ∧ Chg (fun k => ¬ E0 k) w w1 ∧ ∀ k, E0 k → E k
section
variable {w0 w : World} {bb : Nat} {h : BH} {x : SnV} {E0 E : Nat → Prop} {w1 : World} {s b L M : List Int} {c d : Nat} {Q : Ending → World → Prop}
theorem Run.no {w2 : World} (r : Run w0 w bb h x E0 E w1 s b L M c d) (k : Chg No w1 w2) : Run w0 w bb h x E0 E w2 s b L M c d := by
  obtain ⟨v, a, e, f, g⟩ := r
  exact ⟨v, a.no k, e, f.trans k (fun _ _ h => h) (fun _ _ h => h.elim), g⟩
theorem Run.sub {L' M' : List Int} (r : Run w0 w bb h x E0 E w1 s b L M c d) (hL : ∀ p ∈ L', p ∈ L) (hM : ∀ p ∈ M', p ∈ M) : Run w0 w bb h x E0 E w1 s b L' M' c d := by
  obtain ⟨v, a, e, f, g⟩ := r
  exact ⟨v, a, ⟨e.gd, e.stp, e.sk, e.bk, e.nm.sub hL, fun y hy => e.ot y (hM y hy), e.ic, e.oc⟩, f, g⟩
theorem Run.wk {c' d' : Nat} (r : Run w0 w bb h x E0 E w1 s b L M c d) (hc : c ≤ c') (hd : d ≤ d') : Run w0 w bb h x E0 E w1 s b L M c' d' := by
  obtain ⟨v, a, e, f, g⟩ := r
  exact ⟨v, a, ⟨e.gd, e.stp, e.sk, e.bk, e.nm, e.ot, Nat.le_trans e.ic hc, Nat.le_trans e.oc hd⟩, f, g⟩
/-- A new block is watched too. -/
theorem Run.own {w2 : World} {F : Nat → Prop} (r : Run w0 w bb h x E0 E w1 s b L M c d) (k : Chg No w1 w2) (hF : ∀ k, F k → w1.heap.size ≤ k ∧ k < w2.heap.size) : Run w0 w bb h x E0 (fun k => E k ∨ F k) w2 s b L M c d := by
  obtain ⟨v, a, e, f, g⟩ := r
  exact ⟨v, a.grow k hF, e, f.trans k (fun _ _ h => h) (fun _ _ h => h.elim), fun k hk => Or.inl (g k hk)⟩
/-- A watched block is written. -/
theorem Run.box {w2 : World} {e : Nat} (r : Run w0 w bb h x E0 E w1 s b L M c d) (he : E e) (k : Chg (fun k => k = e) w1 w2) (h0 : w.heap.size ≤ e ∧ w0.heap.size ≤ e) : Run w0 w bb h x E0 E w2 s b L M c d := by
  obtain ⟨v, ⟨C, os, X, a⟩, q, f, g⟩ := r
  exact ⟨v, ⟨C, os, X, a.box he k h0.2⟩, q, f.trans k (fun _ _ h => h) (fun k hk he => by subst he; omega), g⟩
theorem Run.sz (r : Run w0 w bb h x E0 E w1 s b L M c d) : w0.heap.size ≤ w1.heap.size := by
  obtain ⟨v, a, _⟩ := r
  exact a.ch.size
/-- From a contract that tells it all. -/
theorem Run.bd {v v' : BV} {w2 : World} {c' d' : Nat} {s' b' : List Int} (e : Rv h x s b L M c d v) (f : Chg (fun k => ¬ E0 k) w w1) (g : ∀ k, E0 k → E k) (a : Bd w0 bb h E w1 v s' b' c' d' w2 v') : Run w0 w bb h x E0 E w2 s' b' L M (c + c') (d + d') ∧ Chg (fun k => ¬ E k) w1 w2 :=
  ⟨⟨v', a.1, e.go a.2.1 a.2.2.1 a.2.2.2.1 a.2.2.2.2.1, f.trans a.2.2.2.2.2 (fun _ _ h => h) (fun k _ h h' => h (g k h')), g⟩, a.2.2.2.2.2⟩
theorem Run.pop (r : Run w0 w bb h x E0 E w1 s b L M c d) {s1 : List Int} {p : Int} (hs : s = s1 ++ [p]) (hl : s.length ≤ 1000) (k : ∀ w2, Run w0 w bb h x E0 E w2 s1 b (p :: L) M c d → Chg (fun k => ¬ E k) w1 w2 → Q (.returned (.int .i64 p)) w2) : Calls Try.prog fn_build_builder_pop #[.pointer (some ⟨bb, 0, none⟩)] w1 Q := by
  obtain ⟨v, a, e, f, g⟩ := r
  have hs' : v.stack = s1 ++ [p] := e.sk.trans hs
  refine (bpop_any a hs' (by rw [hs, List.length_append] at hl; omega)).mono ?_
  rintro _ w2 ⟨rfl, a2, c2⟩
  have nms : NmI v.ins v.ins.length (s1 ++ [p]) := hs' ▸ e.gd.st
  refine k w2 ⟨_, a2, ⟨e.gd.stack (nms.sub fun q hq => List.mem_append.2 (Or.inl hq)), e.stp, rfl, e.bk, NmI.cs' (nms.sub fun q hq => List.mem_append.2 (Or.inr hq)) e.nm, e.ot, e.ic, e.oc⟩, f.trans c2 (fun _ _ h => h) (fun k _ h h' => h (g k h')), g⟩ c2
theorem Run.popBack (r : Run w0 w bb h x E0 E w1 s b L M c d) {s1 : List Int} {p : Int} (hs : b = s1 ++ [p]) (hl : b.length ≤ 1000) (k : ∀ w2, Run w0 w bb h x E0 E w2 s s1 (p :: L) M c d → Chg (fun k => ¬ E k) w1 w2 → Q (.returned (.int .i64 p)) w2) : Calls Try.prog fn_build_builder_popBack #[.pointer (some ⟨bb, 0, none⟩)] w1 Q := by
  obtain ⟨v, a, e, f, g⟩ := r
  have hs' : v.back = s1 ++ [p] := e.bk.trans hs
  refine (bpopBack_any a hs' (by rw [hs, List.length_append] at hl; omega)).mono ?_
  rintro _ w2 ⟨rfl, a2, c2⟩
  have nms : NmI v.ins v.ins.length (s1 ++ [p]) := hs' ▸ e.gd.bk
  refine k w2 ⟨_, a2, ⟨e.gd.back (nms.sub fun q hq => List.mem_append.2 (Or.inl hq)), e.stp, e.sk, rfl, NmI.cs' (nms.sub fun q hq => List.mem_append.2 (Or.inr hq)) e.nm, e.ot, e.ic, e.oc⟩, f.trans c2 (fun _ _ h => h) (fun k _ h h' => h (g k h')), g⟩ c2
theorem Run.push (r : Run w0 w bb h x E0 E w1 s b L M c d) (xs : List Int) {n : Nat} (cs : List Value) (hcs : cs = fl intE xs) (hn : n = xs.length) (hx : ∀ p ∈ xs, p ∈ L) (hne : xs ≠ []) (hl : s.length ≤ 1000) (hl' : xs.length ≤ 5) (k : ∀ w2, Run w0 w bb h x E0 E w2 (s ++ xs) b L M c d → Chg (fun k => ¬ E k) w1 w2 → Q (.returned (.tuple #[])) w2) : ∀ (b3 : Nat) (w3 : World), b3 = w1.heap.size → w3 = World.alloc w1 (.cells cs.toArray T_int) → Calls Try.prog fn_build_builder_push #[.pointer (some ⟨bb, 0, none⟩), .slice (some ⟨b3, 0, none⟩) n n] w3 Q := by
  obtain ⟨v, a, e, f, g⟩ := r
  intro b3 w3 hb hw
  subst hn
  have c3 := al hw
  have h3 : Ow intE w3 ⟨some ⟨b3, 0, none⟩, xs.length, xs.length⟩ xs := by rw [hw, hb]; exact Ow.lit (E := intE) w1 xs cs hcs (by unfold maxLen; omega)
  refine (bpush_any (a.no c3) (a' := ⟨b3, 0, none⟩) h3.rd rfl hne (by rw [e.sk]; omega)).mono ?_
  rintro _ w2 ⟨rfl, a2, c2⟩
  have c12 : Chg (fun k => ¬ E k) w1 w2 := c3.trans c2 (fun _ _ h => h.elim) (fun _ _ h => h)
  have nms : NmI v.ins v.ins.length (v.stack ++ xs) := e.gd.st.ap (e.nm.sub hx)
  exact k w2 ⟨_, a2, ⟨e.gd.stack nms, e.stp, by show v.stack ++ xs = _; rw [e.sk], e.bk, e.nm, e.ot, e.ic, e.oc⟩, f.trans c12 (fun _ _ h => h) (fun k _ h h' => h (g k h')), g⟩ c12
theorem Run.lay (r : Run w0 w bb h x E0 E w1 s b L M c d) (xs : List Int) {n : Nat} (cs : List Value) (hcs : cs = fl intE xs) (hn : n = xs.length) (hx : ∀ p ∈ xs, p ∈ L) (hne : xs ≠ []) (hl : b.length ≤ 1000) (hl' : xs.length ≤ 5) (k : ∀ w2, Run w0 w bb h x E0 E w2 s (b ++ xs) L M c d → Chg (fun k => ¬ E k) w1 w2 → Q (.returned (.tuple #[])) w2) : ∀ (b3 : Nat) (w3 : World), b3 = w1.heap.size → w3 = World.alloc w1 (.cells cs.toArray T_int) → Calls Try.prog fn_build_builder_lay #[.pointer (some ⟨bb, 0, none⟩), .slice (some ⟨b3, 0, none⟩) n n] w3 Q := by
  obtain ⟨v, a, e, f, g⟩ := r
  intro b3 w3 hb hw
  subst hn
  have c3 := al hw
  have h3 : Ow intE w3 ⟨some ⟨b3, 0, none⟩, xs.length, xs.length⟩ xs := by rw [hw, hb]; exact Ow.lit (E := intE) w1 xs cs hcs (by unfold maxLen; omega)
  refine (blay_any (a.no c3) (a' := ⟨b3, 0, none⟩) h3.rd rfl hne (by rw [e.bk]; omega)).mono ?_
  rintro _ w2 ⟨rfl, a2, c2⟩
  have c12 : Chg (fun k => ¬ E k) w1 w2 := c3.trans c2 (fun _ _ h => h.elim) (fun _ _ h => h)
  have nms : NmI v.ins v.ins.length (v.back ++ xs) := e.gd.bk.ap (e.nm.sub hx)
  exact k w2 ⟨_, a2, ⟨e.gd.back nms, e.stp, e.sk, by show v.back ++ xs = _; rw [e.bk], e.nm, e.ot, e.ic, e.oc⟩, f.trans c12 (fun _ _ h => h) (fun k _ h h' => h (g k h')), g⟩ c12
def Sm (s b : List Int) (c d : Nat) : Prop := s.length ≤ 1000 ∧ b.length ≤ 1000 ∧ c ≤ 10000 ∧ d ≤ 10000
theorem Rv.few {v : BV} (e : Rv h x s b L M c d v) (hf : c ≤ 10000 ∧ d ≤ 10000) : v.ins.length ≤ 10000 ∧ v.outs.length ≤ 10000 := by
  have := e.ic; have := e.ol; omega
theorem Run.ins (r : Run w0 w bb h x E0 E w1 s b L M c d) (hf : c ≤ 10000 ∧ d ≤ 10000) {i : In5} (ha : 1 ≤ i.a ∧ i.a ≤ 12) (h4 : i.a = 4 → Cn.risTwo i.b = true ∨ Cn.risOne i.b = true) (h2 : i.a = 2 → 0 ≤ i.b ∧ i.b ≤ h.slots - 1) (h3 : i.a = 3 → 0 ≤ i.b ∧ i.b ≤ h.backs - 1) (hu : ∀ p ∈ usesV i, p ∈ L) (ho : ∀ y ∈ outsV i, y ∈ M) (k : ∀ (p : Int) w2, Run w0 w bb h x E0 E w2 s b L M (c + 1) d → Chg (fun k => ¬ E k) w1 w2 → (givesV i.a = true → Run w0 w bb h x E0 E w2 s b (p :: L) M (c + 1) d) → Q (.returned (.int .i64 p)) w2) : Calls Try.prog fn_build_builder_ins #[.pointer (some ⟨bb, 0, none⟩), .agg (insC i).toArray] w1 Q := by
  obtain ⟨v, a, e, f, g⟩ := r
  have fw := e.few hf
  refine (bins_any a i (by omega)).mono ?_
  rintro _ w2 ⟨rfl, a2, c2⟩
  have gd := e.gd.addI (i := i) ⟨ha, h4, h2, h3, e.nm.sub hu, fun y hy => e.ot y (ho y hy)⟩
  have rl : Rl v { v with ins := v.ins ++ [i] } 1 0 := ⟨by show (v.ins ++ [i]).length ≤ _; rw [List.length_append, List.length_singleton]; exact Nat.le_refl _, Nat.le_refl _, ⟨[i], rfl⟩, ⟨[], by simp⟩, rfl⟩
  have e2 : Rv h x s b L M (c + 1) d { v with ins := v.ins ++ [i] } := e.go gd rl e.sk e.bk
  have f2 := f.trans c2 (U := fun k => ¬ E0 k) (fun _ _ h => h) (fun k _ h h' => h (g k h'))
  refine k _ w2 ⟨_, a2, e2, f2, g⟩ c2 fun hg => ⟨_, a2, ⟨e2.gd, e2.stp, e2.sk, e2.bk, NmI.cs' (fun p hp => ?_) e2.nm, e2.ot, e2.ic, e2.oc⟩, f2, g⟩
  rw [List.mem_singleton.1 hp]
  refine ⟨by omega, by show (v.ins.length : Int) < ((v.ins ++ [i]).length : Nat); rw [List.length_append, List.length_singleton]; omega, ?_⟩
  show givesV ((v.ins ++ [i]).getD ((v.ins.length : Int)).toNat in0).a = true
  rw [Int.toNat_natCast, List.getD_eq_getElem?_getD, List.getElem?_append_right (Nat.le_refl _), Nat.sub_self]; exact hg
theorem Run.number (r : Run w0 w bb h x E0 E w1 s b L M c d) (hf : c ≤ 10000 ∧ d ≤ 10000) {n : Int} (k : ∀ (p : Int) w2, Run w0 w bb h x E0 E w2 s b (p :: L) M (c + 1) d → Chg (fun k => ¬ E k) w1 w2 → Q (.returned (.int .i64 p)) w2) : Calls Try.prog fn_build_builder_number #[.pointer (some ⟨bb, 0, none⟩), .int .i64 n] w1 Q := by
  obtain ⟨v, a, e, f, g⟩ := r
  have fw := e.few hf
  refine (numB a e.gd (by omega) n).mono ?_
  rintro _ w2 ⟨p, v', rfl, bd, np⟩
  have e2 : Rv h x s b L M (c + 1) (d + 0) v' := e.go bd.2.1 bd.2.2.1 (bd.2.2.2.1.trans e.sk) (bd.2.2.2.2.1.trans e.bk)
  have c2 := bd.2.2.2.2.2
  exact k p w2 ⟨v', bd.1, ⟨e2.gd, e2.stp, e2.sk, e2.bk, NmI.cs' np e2.nm, e2.ot, e2.ic, e2.oc⟩, f.trans c2 (fun _ _ h => h) (fun k _ h h' => h (g k h')), g⟩ c2
theorem Run.leave (r : Run w0 w bb h x E0 E w1 s b L M c d) (hf : c ≤ 10000 ∧ d ≤ 10000) (k : ∀ (y : Int) w2, Run w0 w bb h x E0 E w2 s b L (y :: M) c d → Chg (fun k => ¬ E k) w1 w2 → Q (.returned (.int .i64 y)) w2) : Calls Try.prog fn_build_builder_leave #[.pointer (some ⟨bb, 0, none⟩)] w1 Q := by
  obtain ⟨v, a, e, f, g⟩ := r
  have fw := e.few hf
  refine (leaveB a e.gd (by omega)).mono ?_
  rintro _ w2 ⟨y, v', rfl, bd, _, oy⟩
  have e2 : Rv h x s b L M (c + 0) (d + 0) v' := e.go bd.2.1 bd.2.2.1 (bd.2.2.2.1.trans e.sk) (bd.2.2.2.2.1.trans e.bk)
  have c2 := bd.2.2.2.2.2
  refine k y w2 ⟨v', bd.1, ⟨e2.gd, e2.stp, e2.sk, e2.bk, e2.nm, fun z hz => ?_, e2.ic, e2.oc⟩, f.trans c2 (fun _ _ h => h) (fun k _ h h' => h (g k h')), g⟩ c2
  rcases List.mem_cons.1 hz with hz | hz
  · rw [hz]; exact oy
  · exact e2.ot z hz
/-- An exit as it is now, and put to the others. -/
theorem Run.out (r : Run w0 w bb h x E0 E w1 s b L M c d) (hf : c ≤ 10000 ∧ d ≤ 10000) (hl : s.length ≤ 1000 ∧ b.length ≤ 1000) {ip n : Int} (hx : ExI h ⟨ip, n, s, b⟩) (k' : ∀ (o : OuC) w2, Calls Try.prog fn_build_builder_add #[.pointer (some ⟨bb, 0, none⟩), .agg (ouC o).toArray] w2 (fun e w3 => ∃ y : Int, e = .returned (.int .i64 y) ∧ Run w0 w bb h x E0 E w3 s b L (y :: M) c (d + 1) ∧ Chg (fun k => ¬ E k) w1 w3) → Q (.returned (.agg (ouC o).toArray)) w2) : Calls Try.prog fn_build_builder_out #[.pointer (some ⟨bb, 0, none⟩), .int .i64 ip, .int .i64 n] w1 Q := by
  obtain ⟨v, a, e, f, g⟩ := r
  have fw := e.few hf
  refine (bout_any a ip n (by rw [e.sk, e.bk]; omega)).mono ?_
  rintro _ w2 ⟨o, rfl, ho, c2⟩
  refine k' o w2 ?_
  refine (badd_any (a.grow (F := fun k => w1.heap.size ≤ k ∧ k < w2.heap.size) c2 (fun k hk => hk)) (fun k hk => ⟨fun he => by have := a.el k he; omega, by have := a.ch.size; omega⟩) ho (by omega)).mono ?_
  rintro _ w3 ⟨rfl, a3, c3⟩
  have c13 : Chg (fun k => ¬ E k) w1 w3 := c2.trans c3 (fun _ _ h => h.elim) (fun _ _ h => h)
  have hov : (⟨ip, n, v.stack, v.back⟩ : OuV) = ⟨ip, n, s, b⟩ := by rw [e.sk, e.bk]
  have gd := e.gd.addO (o := ⟨ip, n, v.stack, v.back⟩) (by rw [hov]; exact hx)
  refine ⟨_, rfl, ⟨_, a3, ⟨gd, e.stp, e.sk, e.bk, e.nm, fun z hz => ?_, e.ic, ?_⟩, f.trans c13 (fun _ _ h => h) (fun k _ h h' => h (g k h')), g⟩, c13⟩
  · rcases List.mem_cons.1 hz with hz | hz
    · subst hz
      refine ⟨by omega, by show (v.outs.length : Int) < ((v.outs ++ [_]).length : Nat); rw [List.length_append, List.length_singleton]; omega, ?_, ?_⟩
      · show NmI v.ins v.ins.length ((v.outs ++ [_]).getD ((v.outs.length : Int)).toNat ou0).stack
        rw [last_ou]; exact e.gd.st
      · show NmI v.ins v.ins.length ((v.outs ++ [_]).getD ((v.outs.length : Int)).toNat ou0).back
        rw [last_ou]; exact e.gd.bk
    · have := (e.ot z hz).up (Nat.le_refl _) [] [⟨ip, n, v.stack, v.back⟩] (Nat.le_refl _)
      rw [List.append_nil] at this; exact this
  · have := e.oc
    unfold ocB at this ⊢
    show (v.outs ++ [_]).length + (if v.exit < 0 then 1 else 0) ≤ _
    rw [List.length_append, List.length_singleton]; omega
end
end Go.Proofs.Ytkjpmkopnkkbmaa

/- The package build: guards, sums, in runs. -/
set_option maxRecDepth 100000
namespace Go.Proofs.Ytkjpmkopnkkbmaa
open Go.RowKit

section
variable {w0 w : World} {bb : Nat} {h : BH} {x : SnV} {E0 E : Nat → Prop} {w1 : World} {s b L M : List Int} {c d : Nat} {Q : Ending → World → Prop}
theorem Run.fresh (r : Run w0 w bb h x E0 E w1 s b L M c d) : Run w0 w1 bb h x E E w1 s b L M c d := by
  obtain ⟨v, a, e, f, g⟩ := r
  exact ⟨v, a, e, Chg.refl _ _, fun _ hk => hk⟩
theorem Run.back {E' : Nat → Prop} {w2 : World} {s' b' L' M' : List Int} {c' d' : Nat} (r : Run w0 w bb h x E0 E w1 s b L M c d) (q : Run w0 w1 bb h x E E' w2 s' b' L' M' c' d') : Run w0 w bb h x E0 E w2 s' b' L' M' c' d' ∧ Chg (fun k => ¬ E k) w1 w2 := by
  obtain ⟨v, a, e, f, g⟩ := r
  obtain ⟨v', a', e', f', g'⟩ := q
  exact ⟨⟨v', a'.subE g', e', f.trans f' (fun _ _ h => h) (fun k _ h h' => h (g k h')), g⟩, f'⟩
theorem Run.cells (r : Run w0 w bb h x E0 E w1 s b L M c d) : w1.cell? ⟨bb, 12, none⟩ = some (.int .i64 x.ip) ∧ w1.cell? ⟨bb, 13, none⟩ = some (.int .i64 x.cell) ∧ w1.cell? ⟨bb, 14, none⟩ = some (.int .i64 x.arg) ∧ w1.cell? ⟨bb, 15, none⟩ = some (.int .i64 x.next) := by
  obtain ⟨v, ⟨C, os, X, a⟩, e, f, g⟩ := r
  have o := a.ob
  rw [← e.stp]
  exact ⟨o.cell rfl, o.cell rfl, o.cell rfl, o.cell rfl⟩
theorem Run.seen (r : Run w0 w bb h x E0 E w1 s b L M c d) {G : Nat → World → Prop} (k : ∀ b6 w8, Run w0 w bb h x E0 (fun k => E k ∨ k = b6) w8 s b L M c d → Ob w8 b6 (seC x) T_api_Seen → G b6 w8) :
    ∃ n2 : Int, ∃ n3 : Int, ∃ n4 : Int, ∃ n5 : Int, w1.cell? ⟨bb, 12, none⟩ = some (.int .i64 n2) ∧ w1.cell? ⟨bb, 13, none⟩ = some (.int .i64 n3) ∧ w1.cell? ⟨bb, 14, none⟩ = some (.int .i64 n4) ∧ w1.cell? ⟨bb, 15, none⟩ = some (.int .i64 n5) ∧
      ∀ (b6 : Nat) (w7 : World), b6 = w1.heap.size → w7 = World.alloc w1 (.cells (seC se0).toArray T_api_Seen) → wrOk w7 ⟨b6, 0, none⟩ 4 ∧ ∀ w8 : World, w8 = stW w7 ⟨b6, 0, none⟩ 0 [.int .i64 n2, .int .i64 n3, .int .i64 n4, .int .i64 n5] → G b6 w8 := by
  obtain ⟨h1, h2, h3, h4⟩ := r.cells
  exact ⟨_, _, _, _, h1, h2, h3, h4, varSn x fun b6 w8 hb hs o c8 => k b6 w8 (r.own c8 fun k hk => by subst hk; omega) o⟩
/-- How a part ends. -/
def Fin (w0 w : World) (bb : Nat) (h : BH) (x : SnV) (E0 E : Nat → Prop) (w1 : World) (s b L M : List Int) (c d : Nat) (r : Value) (w2 : World) : Prop := r = .tuple #[] ∧ Run w0 w bb h x E0 E w2 s b L M c d ∧ Chg (fun k => ¬ E k) w1 w2
theorem Run.fin {E' : Nat → Prop} {w2 : World} {s' b' L' M' : List Int} {c' d' : Nat} (r : Run w0 w bb h x E0 E w1 s b L M c d) (q : Run w0 w1 bb h x E E' w2 s' b' L' M' c' d') : Fin w0 w bb h x E0 E w1 s' b' L' M' c' d' (.tuple #[]) w2 := ⟨rfl, r.back q⟩
theorem Run.guard (r : Run w0 w bb h x E0 E w1 s b L M c d) (hf : c ≤ 10000 ∧ d ≤ 10000) {op p q : Int} (hop : op = 5 ∨ op = 7 ∨ op = 8 ∨ op = 9 ∨ op = 10 ∨ op = 11) (hp : p ∈ L) (hq : op = 9 → q ∈ L) (k : ∀ w2, Run w0 w bb h x E0 E w2 s b L M (c + 1) d → Chg (fun k => ¬ E k) w1 w2 → Q (.returned (.tuple #[])) w2) : Calls Try.prog fn_build_builder_guard #[.pointer (some ⟨bb, 0, none⟩), .int .i64 op, .int .i64 p, .int .i64 q] w1 Q := by
  refine (build_builder_guard_lift (K := Fin w0 w bb h x E0 E w1 s b L M (c + 1) d) ?_).mono (by rintro e w' ⟨rr, rfl, rfl, h1, h2⟩; exact k w' h1 h2)
  unfold build_builder_guard_sh
  refine r.fresh.leave hf fun y w6 r6 c6 => ⟨_, rfl, ?_⟩
  refine r6.ins (i := ⟨op, 0, p, q, y⟩) hf ⟨by show 1 ≤ op; omega, by show op ≤ 12; omega⟩ (fun e => by have e : op = 4 := e; omega) (fun e => by have e : op = 2 := e; omega) (fun e => by have e : op = 3 := e; omega) ?_ ?_ fun n w9 r9 c9 _ => ⟨_, rfl, r.fin (r9.sub (fun _ h => h) (fun _ h => List.mem_cons_of_mem _ h))⟩
  · intro z hz
    unfold usesV at hz
    rcases hop with rfl | rfl | rfl | rfl | rfl | rfl
    all_goals simp at hz
    all_goals first
      | (subst hz; exact hp)
      | (rcases hz with rfl | rfl
         · exact hp
         · exact hq rfl)
  · intro z hz
    unfold outsV at hz
    rcases hop with rfl | rfl | rfl | rfl | rfl | rfl
    all_goals simp at hz
    all_goals (subst hz; exact List.mem_cons_self)
theorem Run.never (r : Run w0 w bb h x E0 E w1 s b L M c d) (hf : c ≤ 9990 ∧ d ≤ 9990) (k : ∀ w2, Run w0 w bb h x E0 E w2 s b L M (c + 2) d → Chg (fun k => ¬ E k) w1 w2 → Q (.returned (.tuple #[])) w2) : Calls Try.prog fn_build_builder_never #[.pointer (some ⟨bb, 0, none⟩)] w1 Q := by
  refine (build_builder_never_lift (K := Fin w0 w bb h x E0 E w1 s b L M (c + 2) d) ?_).mono (by rintro e w' ⟨rr, rfl, rfl, h1, h2⟩; exact k w' h1 h2)
  unfold build_builder_never_sh
  refine r.fresh.number (by omega) fun p w3 r3 c3 => ⟨_, rfl, ?_⟩
  refine r3.guard (by omega) (by omega) List.mem_cons_self (fun e => by omega) fun w6 r6 c6 => ⟨rfl, r.fin (r6.sub (fun _ h => List.mem_cons_of_mem _ h) (fun _ h => h))⟩
theorem Run.goes (r : Run w0 w bb h x E0 E w1 s b L M c d) (hf : c ≤ 9990 ∧ d ≤ 9990) {ip : Int} (k : ∀ w2, Run w0 w bb h x E0 E w2 s b L M (c + 2) d → Chg (fun k => ¬ E k) w1 w2 → Q (.returned (.tuple #[])) w2) : Calls Try.prog fn_build_builder_goes #[.pointer (some ⟨bb, 0, none⟩), .int .i64 ip] w1 Q := by
  refine (build_builder_goes_lift (K := Fin w0 w bb h x E0 E w1 s b L M (c + 2) d) ?_).mono (by rintro e w' ⟨rr, rfl, rfl, h1, h2⟩; exact k w' h1 h2)
  unfold build_builder_goes_sh
  refine ⟨x.next, r.cells.2.2.2, brB_of (fun _ => ?_) (fun _ => r.fin (r.fresh.wk (by omega) (Nat.le_refl _)))⟩
  exact r.fresh.never hf fun w5 r5 _ => ⟨rfl, r.fin r5⟩
theorem Run.which (r : Run w0 w bb h x E0 E w1 s b L M c d) (hf : c ≤ 9990 ∧ d ≤ 9990) {p : Int} (hp : p ∈ L) (k : ∀ w2, Run w0 w bb h x E0 E w2 s b L M (c + 2) d → Chg (fun k => ¬ E k) w1 w2 → Q (.returned (.tuple #[])) w2) : Calls Try.prog fn_build_builder_which #[.pointer (some ⟨bb, 0, none⟩), .int .i64 p, .int .i64 8, .int .i64 7] w1 Q := by
  refine (build_builder_which_lift (K := Fin w0 w bb h x E0 E w1 s b L M (c + 2) d) ?_).mono (by rintro e w' ⟨rr, rfl, rfl, h1, h2⟩; exact k w' h1 h2)
  unfold build_builder_which_sh
  refine r.fresh.seen fun b9 w11 r11 o11 => ⟨x.next, o11.cell rfl, x.arg, o11.cell rfl, brB_of (fun _ => ?_) (fun _ => ⟨x.next, o11.cell rfl, x.ip, o11.cell rfl, brB_of (fun _ => ?_) (fun _ => ?_)⟩)⟩
  · exact r11.guard (by omega) (by omega) hp (fun e => by omega) fun w15 r15 _ => ⟨rfl, r.fin (r15.wk (by omega) (Nat.le_refl _))⟩
  · exact r11.guard (by omega) (by omega) hp (fun e => by omega) fun w15 r15 _ => ⟨rfl, r.fin (r15.wk (by omega) (Nat.le_refl _))⟩
  · exact r11.never hf fun w21 r21 _ => ⟨rfl, r.fin r21⟩
theorem Run.calc (r : Run w0 w bb h x E0 E w1 s b L M c d) (hf : c ≤ 9990 ∧ d ≤ 9990) {op p q : Int} (hop : Cn.risTwo op = true ∨ Cn.risOne op = true) (hp : p ∈ L) (hq : Cn.risTwo op = true → q ∈ L) (k : ∀ n w2, Run w0 w bb h x E0 E w2 s b (n :: L) M (c + 1) d → Chg (fun k => ¬ E k) w1 w2 → Q (.returned (.int .i64 n)) w2) : Calls Try.prog fn_build_builder_calc #[.pointer (some ⟨bb, 0, none⟩), .int .i64 op, .int .i64 p, .int .i64 q] w1 Q := by
  refine (build_builder_calc_lift (K := fun rr w' => ∃ n, rr = .int .i64 n ∧ Run w0 w bb h x E0 E w' s b (n :: L) M (c + 1) d ∧ Chg (fun k => ¬ E k) w1 w') ?_).mono (by rintro e w' ⟨rr, rfl, n, rfl, h1, h2⟩; exact k n w' h1 h2)
  unfold build_builder_calc_sh
  intro b5 w6 hb5 hw6
  have c6 := al hw6
  have o6 : Ob w6 b5 (insC in0) T_api_Ins := by rw [hw6, hb5]; exact Ob.new w1 (insC in0) T_api_Ins
  refine ⟨o6.wr (by simp [insC]), fun w7 hw7 => ?_⟩
  obtain ⟨o7, c7⟩ := o6.up (k := 0) (vs := insC ⟨4, op, p, q, 0⟩) (cs' := insC ⟨4, op, p, q, 0⟩) (by simp [insC]) rfl hw7
  have c17 : Chg No w1 w7 := c6.trans c7 (fun _ _ h => h) (fun k hk he => by subst he; omega)
  have z6 := o6.lt
  have z7 := c7.size
  have r7 := r.fresh.own (F := fun k => k = b5) c17 fun k hk => by subst hk; omega
  refine ⟨fun w13 => ∃ y M', Run w0 w1 bb h x E (fun k => E k ∨ k = b5) w13 s b L M' c d ∧ Ob w13 b5 (insC ⟨4, op, p, q, y⟩) T_api_Ins ∧ (op = 14 ∨ op = 15 → y ∈ M') ∧ ∀ z ∈ M, z ∈ M', ?_, ?_⟩
  · rintro w13 ⟨y, M', r13, o13, hy, hM⟩
    refine ⟨4, op, p, q, y, o13.cell rfl, o13.cell rfl, o13.cell rfl, o13.cell rfl, o13.cell rfl, ?_⟩
    refine r13.ins (i := ⟨4, op, p, q, y⟩) (by omega) ⟨by show (1:Int) ≤ 4; decide, by show (4:Int) ≤ 12; decide⟩ (fun _ => hop) (fun e => by have e : (4:Int) = 2 := e; omega) (fun e => by have e : (4:Int) = 3 := e; omega) ?_ ?_ fun n w9 r9 c9 rg => ⟨_, rfl, n, rfl, ?_⟩
    · intro z hz
      unfold usesV at hz
      rw [if_pos rfl] at hz
      split at hz
      · next h2 =>
        rcases List.mem_cons.1 hz with hz | hz
        · rw [hz]; exact hp
        · rw [List.mem_singleton.1 hz]; exact hq h2
      · rw [List.mem_singleton.1 hz]; exact hp
    · intro z hz
      unfold outsV at hz
      rw [if_pos rfl] at hz
      split at hz
      · next h2 => rw [List.mem_singleton.1 hz]; exact hy h2
      · cases hz
    · obtain ⟨r1, r2⟩ := r.back (rg rfl)
      exact ⟨r1.sub (fun _ h => h) hM, r2⟩
  · refine ⟨fun w8 => w8 = w7, ?_, ?_⟩
    · rintro w8 rfl
      refine r7.leave (by omega) fun y w10 r10 c10 => ⟨_, rfl, ?_⟩
      have o10 := o7.chg c10 (fun hn => hn (Or.inr rfl))
      refine ⟨o10.wr (by simp [insC]), fun w12 hw12 => ?_⟩
      obtain ⟨o12, c12⟩ := o10.up (k := 4) (vs := [.int .i64 y]) (cs' := insC ⟨4, op, p, q, y⟩) (by simp [insC]) rfl hw12
      have z0 := r.sz
      exact ⟨y, y :: M, r10.box (Or.inr rfl) c12 (by omega), o12, fun _ => List.mem_cons_self, fun _ h => List.mem_cons_of_mem _ h⟩
    · refine brB_of (fun _ => rfl) (fun h14 => brB_of (fun _ => rfl) (fun h15 => ?_))
      exact ⟨0, M, r7, o7, fun e => by simp at h14 h15; omega, fun _ h => h⟩
/-- That an operation gives or takes: by the numbers. -/
theorem end_called (y : SnV) (w1 : World) : Calls Try.prog fn_build_called #[.agg (seC y).toArray] w1 fun e w2 => e = .returned (.bool (decide (y.cell ≥ 64))) ∧ Chg No w1 w2 := by
  refine (build_called_lift (K := fun r w2 => r = .bool (decide (y.cell ≥ 64)) ∧ Chg No w1 w2) ?_).mono (by rintro e w' ⟨r, rfl, rfl, h⟩; exact ⟨rfl, h⟩)
  unfold build_called_sh
  intro b5 w6 hb5 hw6
  have o6 : Ob w6 b5 (seC y) T_api_Seen := by rw [hw6, hb5]; exact Ob.new w1 (seC y) T_api_Seen
  exact ⟨y.cell, o6.cell rfl, rfl, al hw6⟩
def endsB (y : SnV) : Bool := decide ((y.cell = 37 ∨ y.cell = 38) ∧ y.next ≠ y.arg)
theorem end_ends (y : SnV) (w1 : World) : Calls Try.prog fn_build_ends #[.agg (seC y).toArray] w1 fun e w2 => e = .returned (.bool (endsB y)) ∧ Chg No w1 w2 := by
  refine (build_ends_lift (K := fun r w2 => r = .bool (endsB y) ∧ Chg No w1 w2) ?_).mono (by rintro e w' ⟨r, rfl, rfl, h⟩; exact ⟨rfl, h⟩)
  unfold build_ends_sh
  intro b5 w6 hb5 hw6
  have o6 : Ob w6 b5 (seC y) T_api_Seen := by rw [hw6, hb5]; exact Ob.new w1 (seC y) T_api_Seen
  have c6 := al hw6
  have cmp : ∀ (a b : Int) , (y.cell = 37 ∨ y.cell = 38) → (y.next != y.arg) = endsB y := fun _ _ hc => by
    unfold endsB
    by_cases hn : y.next = y.arg
    · rw [hn]; simp
    · simp [hc, hn]
  refine ⟨y.cell, o6.cell rfl, brB_of (fun h1 => ⟨y.next, o6.cell rfl, y.arg, o6.cell rfl, ?_, c6⟩) (fun h1 => ⟨y.cell, o6.cell rfl, brB_of (fun h2 => ⟨y.next, o6.cell rfl, y.arg, o6.cell rfl, ?_, c6⟩) (fun h2 => ⟨?_, c6⟩)⟩)⟩
  · rw [cmp 0 0 (Or.inl (by simpa using h1))]
  · rw [cmp 0 0 (Or.inr (by simpa using h2))]
  · unfold endsB
    simp at h1 h2
    simp [h1, h2]
end
end Go.Proofs.Ytkjpmkopnkkbmaa

/- The package build: a step's parts, in runs. -/
set_option maxRecDepth 100000
namespace Go.Proofs.Ytkjpmkopnkkbmaa
open Go.RowKit

theorem snoc_of {l : List Int} (h : 1 ≤ l.length) : ∃ r p, l = r ++ [p] := by
  have hn : l ≠ [] := fun e => by rw [e] at h; simp at h
  exact ⟨l.dropLast, l.getLast hn, (List.dropLast_concat_getLast hn).symm⟩
section
variable {w0 w : World} {bb : Nat} {h : BH} {x : SnV} {E0 E : Nat → Prop} {w1 : World} {s b L M : List Int} {c d : Nat} {Q : Ending → World → Prop}
/-- How a step ends: so many instructions at most (against the stack's length), the stacks' lengths. -/
def Stp (w0 w : World) (bb : Nat) (h : BH) (x : SnV) (E0 E : Nat → Prop) (w1 : World) (s b : List Int) (c d K t g tb gb : Nat) (r : Value) (w2 : World) : Prop :=
  r = .tuple #[] ∧ ∃ (s' b' : List Int) (c' : Nat), Run w0 w bb h x E0 E w2 s' b' [] [] c' (d + 1) ∧ c' + 3 * s'.length ≤ c + 3 * s.length + K ∧ s'.length + t = s.length + g ∧ b'.length + tb = b.length + gb ∧ Chg (fun k => ¬ E k) w1 w2
theorem Run.stp {E' : Nat → Prop} {w2 : World} {s' b' L' M' : List Int} {c' d' K t g tb gb : Nat} (r : Run w0 w bb h x E0 E w1 s b L M c d) (q : Run w0 w1 bb h x E E' w2 s' b' L' M' c' d') (hd : d' ≤ d + 1) (hc : c' + 3 * s'.length ≤ c + 3 * s.length + K) (hs : s'.length + t = s.length + g) (hb : b'.length + tb = b.length + gb) : Stp w0 w bb h x E0 E w1 s b c d K t g tb gb (.tuple #[]) w2 :=
  ⟨rfl, s', b', c', ((r.back q).1.sub (fun _ h => by cases h) (fun _ h => by cases h)).wk (Nat.le_refl _) hd, hc, hs, hb, (r.back q).2⟩
theorem Stp.k {K t g tb gb : Nat} {e : Ending} {w2 : World} (k : ∀ w2, Stp w0 w bb h x E0 E w1 s b c d K t g tb gb (.tuple #[]) w2 → Q (.returned (.tuple #[])) w2) (hh : ∃ v, e = .returned v ∧ Stp w0 w bb h x E0 E w1 s b c d K t g tb gb v w2) : Q e w2 := by
  obtain ⟨v, rfl, hv⟩ := hh
  have := hv.1
  subst this
  exact k w2 hv
def Ok (s b : List Int) (c d : Nat) : Prop := (c ≤ 5000 ∧ d ≤ 5000) ∧ s.length ≤ 900 ∧ b.length ≤ 900
theorem Run.leads (r : Run w0 w bb h x E0 E w1 s b L M c d) (hf : Ok s b c d) (hx : (x.cell = 5 ∧ 1 ≤ b.length) ∨ (x.cell ≠ 5 ∧ 1 ≤ s.length)) (k : ∀ w2, Stp w0 w bb h x E0 E w1 s b c d 6 (if x.cell = 5 then 0 else 1) 0 (if x.cell = 5 then 1 else 0) (if x.cell = 5 then 0 else 1) (.tuple #[]) w2 → Q (.returned (.tuple #[])) w2) : Calls Try.prog fn_build_builder_leads #[.pointer (some ⟨bb, 0, none⟩)] w1 Q := by
  refine (build_builder_leads_lift (K := Stp w0 w bb h x E0 E w1 s b c d 6 (if x.cell = 5 then 0 else 1) 0 (if x.cell = 5 then 1 else 0) (if x.cell = 5 then 0 else 1)) ?_).mono (fun e w' => Stp.k k)
  unfold build_builder_leads_sh
  obtain ⟨⟨f1, f2⟩, f3, f4⟩ := hf
  refine r.fresh.seen fun b6 w8 r8 o8 => ⟨x.next, o8.cell rfl, ?_⟩
  refine r8.number (by omega) fun n12 w11 r11 c11 => ⟨_, rfl, ?_⟩
  have o11 := o8.chg c11 (fun hn => hn (Or.inr rfl))
  refine ⟨x.cell, o11.cell rfl, brB_of (fun h5 => ?_) (fun h5 => ?_)⟩
  · have h5 : x.cell = 5 := by simpa using h5
    rcases hx with ⟨_, hx⟩ | ⟨hx, _⟩
    · obtain ⟨b1, p, rfl⟩ := snoc_of hx
      rw [List.length_append, List.length_singleton] at f4
      refine r11.popBack rfl (by rw [List.length_append, List.length_singleton]; omega) fun w15 r15 c15 => ⟨_, rfl, ?_⟩
      refine r15.guard (by omega) (by omega) List.mem_cons_self (fun _ => List.mem_cons_of_mem _ List.mem_cons_self) fun w18 r18 c18 => ⟨rfl, ?_⟩
      rw [if_pos h5, if_pos h5]
      exact r.stp r18 (by omega) (by omega) rfl (by rw [List.length_append, List.length_singleton])
    · exact absurd h5 hx
  · have h5 : x.cell ≠ 5 := by simpa using h5
    rcases hx with ⟨hx, _⟩ | ⟨_, hx⟩
    · exact absurd hx h5
    obtain ⟨s1, p, rfl⟩ := snoc_of hx
    rw [List.length_append, List.length_singleton] at f3
    refine r11.pop rfl (by rw [List.length_append, List.length_singleton]; omega) fun w20 r20 c20 => ⟨_, rfl, ?_⟩
    have o20 := o11.chg c20 (fun hn => hn (Or.inr rfl))
    refine r20.guard (by omega) (by omega) List.mem_cons_self (fun _ => List.mem_cons_of_mem _ List.mem_cons_self) fun w23 r23 c23 => ⟨rfl, ?_⟩
    have o23 := o20.chg c23 (fun hn => hn (Or.inr rfl))
    refine ⟨fun w27 => Run w0 w1 bb h x E (fun k => E k ∨ k = b6) w27 s1 b (p :: n12 :: L) M (c + 4) d ∧ Ob w27 b6 (seC x) T_api_Seen, ?_, x.next, o23.cell rfl, brB_of (fun _ => ?_) (fun _ => ⟨r23.wk (by omega) (Nat.le_refl _), o23⟩)⟩
    · rintro w27 ⟨r27, o27⟩
      refine r27.guard (by omega) (by omega) (List.mem_cons_of_mem _ List.mem_cons_self) (fun e => by omega) fun w29 r29 c29 => ⟨rfl, ?_⟩
      have o29 := o27.chg c29 (fun hn => hn (Or.inr rfl))
      refine ⟨x.ip, o29.cell rfl, ?_⟩
      refine r29.number (by omega) fun n33 w32 r32 c32 => ⟨_, rfl, ?_⟩
      refine r32.lay [n33] [.int .i64 n33] rfl rfl (fun p hp => by rw [List.mem_singleton.1 hp]; exact List.mem_cons_self) (by simp) (by omega) (by simp) fun w37 r37 c37 => ⟨rfl, ?_⟩
      rw [if_neg h5, if_neg h5]
      exact r.stp r37 (by omega) (by rw [List.length_append, List.length_singleton]; omega) (by rw [List.length_append, List.length_singleton]) (by rw [List.length_append, List.length_singleton])
    · refine r23.never (by omega) fun w26 r26 c26 => ⟨rfl, r26.wk (by omega) (Nat.le_refl _), o23.chg c26 (fun hn => hn (Or.inr rfl))⟩
theorem Run.zero (r : Run w0 w bb h x E0 E w1 s b L M c d) (hf : Ok s b c d) (hx : 1 ≤ s.length) (k : ∀ w2, Stp w0 w bb h x E0 E w1 s b c d 6 1 0 0 0 (.tuple #[]) w2 → Q (.returned (.tuple #[])) w2) : Calls Try.prog fn_build_builder_zero #[.pointer (some ⟨bb, 0, none⟩)] w1 Q := by
  refine (build_builder_zero_lift (K := Stp w0 w bb h x E0 E w1 s b c d 6 1 0 0 0) ?_).mono (fun e w' => Stp.k k)
  unfold build_builder_zero_sh
  obtain ⟨⟨f1, f2⟩, f3, f4⟩ := hf
  obtain ⟨s1, p, rfl⟩ := snoc_of hx
  rw [List.length_append, List.length_singleton] at f3
  refine r.fresh.pop rfl (by rw [List.length_append, List.length_singleton]; omega) fun w3 r3 c3 => ⟨_, rfl, ?_⟩
  intro w5 hw5
  have r5 := r3.no (dw hw5)
  obtain ⟨q1, q2, q3, q4⟩ := r5.cells
  refine ⟨x.arg, fun w' hw' => by rw [hw']; exact q3, x.ip, fun w' hw' => by rw [hw']; exact q1, brB_of (fun _ => ⟨x.arg, q3, ?_⟩) (fun _ => ?_)⟩
  · refine r5.goes (by omega) fun w10 r10 c10 => ⟨rfl, ?_⟩
    exact r.stp r10 (by omega) (by rw [List.length_append, List.length_singleton]; omega) (by rw [List.length_append, List.length_singleton]) rfl
  · refine r5.which (by omega) List.mem_cons_self fun w12 r12 c12 => ⟨rfl, ?_⟩
    exact r.stp r12 (by omega) (by rw [List.length_append, List.length_singleton]; omega) (by rw [List.length_append, List.length_singleton]) rfl
theorem Run.loop (r : Run w0 w bb h x E0 E w1 s b L M c d) (hf : Ok s b c d) (h3 : x.cell = 37 ∨ x.cell = 38) (hb : 2 ≤ b.length) (hs : x.cell = 38 → 1 ≤ s.length) (k : ∀ w2, Stp w0 w bb h x E0 E w1 s b c d 6 (if x.cell = 37 then 0 else 1) 0 2 (if endsB x = true then 0 else 2) (.tuple #[]) w2 → Q (.returned (.tuple #[])) w2) : Calls Try.prog fn_build_builder_loop #[.pointer (some ⟨bb, 0, none⟩)] w1 Q := by
  refine (build_builder_loop_lift (K := Stp w0 w bb h x E0 E w1 s b c d 6 (if x.cell = 37 then 0 else 1) 0 2 (if endsB x = true then 0 else 2)) ?_).mono (fun e w' => Stp.k k)
  unfold build_builder_loop_sh
  obtain ⟨⟨f1, f2⟩, f3, f4⟩ := hf
  obtain ⟨b1, n11, rfl⟩ := snoc_of (l := b) (by omega)
  rw [List.length_append, List.length_singleton] at f4 hb
  obtain ⟨b2, n14, rfl⟩ := snoc_of (l := b1) (by omega)
  rw [List.length_append, List.length_singleton] at f4 hb
  refine r.fresh.seen fun b6 w8 r8 o8 => ?_
  refine r8.popBack rfl (by rw [List.length_append, List.length_append, List.length_singleton, List.length_singleton]; omega) fun w10 r10 c10 => ⟨_, rfl, ?_⟩
  have o10 := o8.chg c10 (fun hn => hn (Or.inr rfl))
  refine r10.popBack rfl (by rw [List.length_append, List.length_singleton]; omega) fun w13 r13 c13 => ⟨_, rfl, ?_⟩
  have o13 := o10.chg c13 (fun hn => hn (Or.inr rfl))
  refine ⟨fun thn flag w49 => ∃ s' L' c', Run w0 w1 bb h x E (fun k => E k ∨ k = b6) w49 s' b2 L' M c' d ∧ Ob w49 b6 (seC x) T_api_Seen ∧ thn ∈ L' ∧ flag ∈ L' ∧ n14 ∈ L' ∧ c' + 3 * s'.length ≤ c + 3 * s.length + 4 ∧ s'.length + (if x.cell = 37 then 0 else 1) = s.length, ?_, x.cell, o13.cell rfl, brB_of (fun h37 => ?_) (fun h37 => ?_)⟩
  · rintro thn flag w49 ⟨s', L', c', r49, o49, m1, m2, m3, hc, hs'⟩
    have hls : s'.length ≤ s.length := by split at hs' <;> omega
    refine r49.which (by omega) m2 fun w52 r52 c52 => ⟨rfl, ?_⟩
    have o52 := o49.chg c52 (fun hn => hn (Or.inr rfl))
    refine ⟨x.ip, x.cell, x.arg, x.next, o52.cell rfl, o52.cell rfl, o52.cell rfl, o52.cell rfl, ?_⟩
    refine (end_ends x w52).mono ?_
    rintro _ w58 ⟨rfl, c58⟩
    have r58 := r52.no c58
    refine ⟨_, rfl, brB_of (fun he => ?_) (fun he => ?_)⟩
    · have he : endsB x = false := by simpa using he
      refine r58.lay [n14, thn] [.int .i64 n14, .int .i64 thn] rfl rfl (fun p hp => ?_) (by simp) (by omega) (by simp) fun w64 r64 c64 => ⟨rfl, ?_⟩
      · rcases List.mem_cons.1 hp with e | e
        · rw [e]; exact m3
        · rw [List.mem_singleton.1 e]; exact m1
      · rw [he]
        exact r.stp r64 (by omega) (by omega) hs' (by simp)
    · have he : endsB x = true := by simpa using he
      rw [he]
      exact r.stp r58 (by omega) (by omega) hs' (by simp)
  · have h37 : x.cell = 37 := by simpa using h37
    refine r13.number (by omega) fun n18 w17 r17 c17 => ⟨_, rfl, ?_⟩
    have o17 := o13.chg c17 (fun hn => hn (Or.inr rfl))
    refine r17.calc (by omega) (Or.inl (by decide)) (by simp) (fun _ => by simp) fun n21 w20 r20 c20 => ⟨_, rfl, ?_⟩
    have o20 := o17.chg c20 (fun hn => hn (Or.inr rfl))
    refine r20.calc (by omega) (Or.inl (by decide)) (by simp) (fun _ => by simp) fun n24 w23 r23 c23 => ⟨_, rfl, ?_⟩
    have o23 := o20.chg c23 (fun hn => hn (Or.inr rfl))
    exact ⟨s, _, _, r23, o23, by simp, by simp, by simp, by omega, by rw [if_pos h37]; rfl⟩
  · have h37 : x.cell ≠ 37 := by simpa using h37
    have h38 : x.cell = 38 := h3.resolve_left h37
    obtain ⟨s1, n27, rfl⟩ := snoc_of (hs h38)
    rw [List.length_append, List.length_singleton] at f3
    refine r13.pop rfl (by rw [List.length_append, List.length_singleton]; omega) fun w26 r26 c26 => ⟨_, rfl, ?_⟩
    have o26 := o13.chg c26 (fun hn => hn (Or.inr rfl))
    refine r26.calc (by omega) (Or.inl (by decide)) (by simp) (fun _ => by simp) fun n30 w29 r29 c29 => ⟨_, rfl, ?_⟩
    have o29 := o26.chg c29 (fun hn => hn (Or.inr rfl))
    refine r29.calc (by omega) (Or.inl (by decide)) (by simp) (fun _ => by simp) fun n33 w32 r32 c32 => ⟨_, rfl, ?_⟩
    have o32 := o29.chg c32 (fun hn => hn (Or.inr rfl))
    refine r32.calc (by omega) (Or.inl (by decide)) (by simp) (fun _ => by simp) fun n36 w35 r35 c35 => ⟨_, rfl, ?_⟩
    have o35 := o32.chg c35 (fun hn => hn (Or.inr rfl))
    refine r35.calc (by omega) (Or.inl (by decide)) (by simp) (fun _ => by simp) fun n39 w38 r38 c38 => ⟨_, rfl, ?_⟩
    have o38 := o35.chg c38 (fun hn => hn (Or.inr rfl))
    refine r38.calc (by omega) (Or.inl (by decide)) (by simp) (fun _ => by simp) fun n42 w41 r41 c41 => ⟨_, rfl, ?_⟩
    have o41 := o38.chg c41 (fun hn => hn (Or.inr rfl))
    refine r41.calc (by omega) (Or.inl (by decide)) (by simp) (fun _ => by simp) fun n45 w44 r44 c44 => ⟨_, rfl, ?_⟩
    have o44 := o41.chg c44 (fun hn => hn (Or.inr rfl))
    refine r44.calc (by omega) (Or.inr (by decide)) (by simp) (fun hh => absurd hh (by decide)) fun n48 w47 r47 c47 => ⟨_, rfl, ?_⟩
    have o47 := o44.chg c47 (fun hn => hn (Or.inr rfl))
    exact ⟨s1, _, _, r47, o47, by simp, by simp, by simp, by rw [List.length_append, List.length_singleton]; omega, by rw [if_neg h37, List.length_append, List.length_singleton]⟩
end
end Go.Proofs.Ytkjpmkopnkkbmaa

/- The package build: stacks, stores, sums. -/
set_option maxRecDepth 100000
namespace Go.Proofs.Ytkjpmkopnkkbmaa
open Go.RowKit

section
variable {w0 w : World} {bb : Nat} {h : BH} {x : SnV} {E0 E : Nat → Prop} {w1 : World} {s b L M : List Int} {c d : Nat} {Q : Ending → World → Prop}
theorem Run.takeB (r : Run w0 w bb h x E0 E w1 s b L M c d) {p : Int} (hp : p ∈ b) : Run w0 w bb h x E0 E w1 s b (p :: L) M c d := by
  obtain ⟨v, a, e, f, g⟩ := r
  exact ⟨v, a, ⟨e.gd, e.stp, e.sk, e.bk, NmI.cs' (e.gd.bk.sub fun q hq => by rw [List.mem_singleton.1 hq, e.bk]; exact hp) e.nm, e.ot, e.ic, e.oc⟩, f, g⟩
theorem Run.bkS (r : Run w0 w bb h x E0 E w1 s b L M c d) : ∃ S : Sl, w1.cell? ⟨bb, 10, none⟩ = some S.val ∧ Rd intE w1 S b := by
  obtain ⟨v, ⟨C, os, X, a⟩, e, f, g⟩ := r
  exact ⟨C.bk, a.ob.cell rfl, e.bk ▸ a.bk.rd⟩
theorem Run.push' (r : Run w0 w bb h x E0 E w1 s b L M c d) (xs : List Int) {n : Nat} (cs : List Value) (hcs : cs = fl intE xs) (hn : n = xs.length) (hx : ∀ p ∈ xs, p ∈ L) (hne : xs ≠ []) (hl : s.length ≤ 1000) (hl' : xs.length ≤ 5) {K : Value → World → Prop} (k : ∀ w2, Run w0 w bb h x E0 E w2 (s ++ xs) b L M c d → K (.tuple #[]) w2) : ∀ (b3 : Nat) (w3 : World), b3 = w1.heap.size → w3 = World.alloc w1 (.cells cs.toArray T_int) → Calls Try.prog fn_build_builder_push #[.pointer (some ⟨bb, 0, none⟩), .slice (some ⟨b3, 0, none⟩) n n] w3 fun e w2 => e = .returned (.tuple #[]) ∧ K (.tuple #[]) w2 :=
  r.push xs cs hcs hn hx hne hl hl' fun w2 r2 _ => ⟨rfl, k w2 r2⟩
theorem Run.lay' (r : Run w0 w bb h x E0 E w1 s b L M c d) (xs : List Int) {n : Nat} (cs : List Value) (hcs : cs = fl intE xs) (hn : n = xs.length) (hx : ∀ p ∈ xs, p ∈ L) (hne : xs ≠ []) (hl : b.length ≤ 1000) (hl' : xs.length ≤ 5) {K : Value → World → Prop} (k : ∀ w2, Run w0 w bb h x E0 E w2 s (b ++ xs) L M c d → K (.tuple #[]) w2) : ∀ (b3 : Nat) (w3 : World), b3 = w1.heap.size → w3 = World.alloc w1 (.cells cs.toArray T_int) → Calls Try.prog fn_build_builder_lay #[.pointer (some ⟨bb, 0, none⟩), .slice (some ⟨b3, 0, none⟩) n n] w3 fun e w2 => e = .returned (.tuple #[]) ∧ K (.tuple #[]) w2 :=
  r.lay xs cs hcs hn hx hne hl hl' fun w2 r2 _ => ⟨rfl, k w2 r2⟩
def shT (c : Int) : Nat := if c = 8 ∨ c = 9 then 2 else if c = 10 then 3 else 1
def shG (c : Int) : Nat := if c = 6 ∨ c = 8 then 2 else if c = 9 ∨ c = 10 then 3 else 0
theorem Run.shuffle (r : Run w0 w bb h x E0 E w1 s b L M c d) (hf : Ok s b c d) {o : Int} (ho : 6 ≤ o ∧ o ≤ 10) (hs : shT o ≤ s.length) (k : ∀ w2, Stp w0 w bb h x E0 E w1 s b c d 4 (shT o) (shG o) 0 0 (.tuple #[]) w2 → Q (.returned (.tuple #[])) w2) : Calls Try.prog fn_build_builder_shuffle #[.pointer (some ⟨bb, 0, none⟩), .int .i64 o] w1 Q := by
  refine (build_builder_shuffle_lift (K := Stp w0 w bb h x E0 E w1 s b c d 4 (shT o) (shG o) 0 0) ?_).mono (fun e w' => Stp.k k)
  unfold build_builder_shuffle_sh
  obtain ⟨⟨f1, f2⟩, f3, f4⟩ := hf
  have h1 : 1 ≤ s.length := by have : 1 ≤ shT o := by unfold shT; split <;> (try split) <;> omega
                               omega
  obtain ⟨s1, n5, rfl⟩ := snoc_of h1
  rw [List.length_append, List.length_singleton] at f3 hs
  refine r.fresh.pop rfl (by rw [List.length_append, List.length_singleton]; omega) fun w4 r4 c4 => ⟨_, rfl, ?_⟩
  refine brB_of (fun e => ?_) (fun e6 => brB_of (fun e => ?_) (fun e8 => brB_of (fun e => ?_) (fun e9 => brB_of (fun e => ?_) (fun e10 => ?_))))
  · have e : o = 6 := by simpa using e
    subst e
    refine r4.push' [n5, n5] [.int .i64 n5, .int .i64 n5] rfl rfl (by simp) (by simp) (by omega) (by simp) fun w9 r9 => ?_
    exact r.stp r9 (by omega) (by simp; omega) (by simp [shT, shG]) (by simp)
  · have e : o = 8 := by simpa using e
    subst e
    obtain ⟨s2, n12, rfl⟩ := snoc_of (l := s1) (by have : shT 8 = 2 := rfl; omega)
    rw [List.length_append, List.length_singleton] at f3
    refine r4.pop rfl (by rw [List.length_append, List.length_singleton]; omega) fun w11 r11 c11 => ⟨_, rfl, ?_⟩
    refine r11.push' [n5, n12] [.int .i64 n5, .int .i64 n12] rfl rfl (by simp) (by simp) (by omega) (by simp) fun w9 r9 => ?_
    exact r.stp r9 (by omega) (by simp <;> omega) (by simp [shT, shG]) (by simp)
  · have e : o = 9 := by simpa using e
    subst e
    obtain ⟨s2, n12, rfl⟩ := snoc_of (l := s1) (by have : shT 9 = 2 := rfl; omega)
    rw [List.length_append, List.length_singleton] at f3
    refine r4.pop rfl (by rw [List.length_append, List.length_singleton]; omega) fun w11 r11 c11 => ⟨_, rfl, ?_⟩
    refine r11.push' [n12, n5, n12] [.int .i64 n12, .int .i64 n5, .int .i64 n12] rfl rfl (by simp) (by simp) (by omega) (by simp) fun w9 r9 => ?_
    exact r.stp r9 (by omega) (by simp; omega) (by simp [shT, shG]) (by simp)
  · have e : o = 10 := by simpa using e
    subst e
    obtain ⟨s2, n26, rfl⟩ := snoc_of (l := s1) (by have : shT 10 = 3 := rfl; omega)
    rw [List.length_append, List.length_singleton] at f3 hs
    refine r4.pop rfl (by rw [List.length_append, List.length_singleton]; omega) fun w11 r11 c11 => ⟨_, rfl, ?_⟩
    obtain ⟨s3, n29, rfl⟩ := snoc_of (l := s2) (by have : shT 10 = 3 := rfl; omega)
    rw [List.length_append, List.length_singleton] at f3
    refine r11.pop rfl (by rw [List.length_append, List.length_singleton]; omega) fun w28 r28 c28 => ⟨_, rfl, ?_⟩
    refine r28.push' [n26, n5, n29] [.int .i64 n26, .int .i64 n5, .int .i64 n29] rfl rfl (by simp) (by simp) (by omega) (by simp) fun w9 r9 => ?_
    exact r.stp r9 (by omega) (by simp <;> omega) (by simp [shT, shG]) (by simp)
  · have e6 : o ≠ 6 := by simpa using e6
    have e8 : o ≠ 8 := by simpa using e8
    have e9 : o ≠ 9 := by simpa using e9
    have e10 : o ≠ 10 := by simpa using e10
    obtain rfl : o = 7 := by omega
    exact r.stp r4 (by omega) (by simp; omega) (by simp [shT, shG]) (by simp)
theorem Run.reckon (r : Run w0 w bb h x E0 E w1 s b L M c d) (hf : Ok s b c d) {o : Int} (ho : Cn.risTwo o = true ∨ Cn.risOne o = true) (hs : (if Cn.risOne o = true then 1 else 2) ≤ s.length) (k : ∀ w2, Stp w0 w bb h x E0 E w1 s b c d 4 (if Cn.risOne o = true then 1 else 2) 1 0 0 (.tuple #[]) w2 → Q (.returned (.tuple #[])) w2) : Calls Try.prog fn_build_builder_reckon #[.pointer (some ⟨bb, 0, none⟩), .int .i64 o] w1 Q := by
  refine (build_builder_reckon_lift (K := Stp w0 w bb h x E0 E w1 s b c d 4 (if Cn.risOne o = true then 1 else 2) 1 0 0) ?_).mono (fun e w' => Stp.k k)
  unfold build_builder_reckon_sh
  obtain ⟨⟨f1, f2⟩, f3, f4⟩ := hf
  have h1 : 1 ≤ s.length := by split at hs <;> omega
  obtain ⟨s1, n5, rfl⟩ := snoc_of h1
  rw [List.length_append, List.length_singleton] at f3 hs
  refine r.fresh.pop rfl (by rw [List.length_append, List.length_singleton]; omega) fun w4 r4 c4 => ⟨_, rfl, ?_⟩
  refine (one_any o 0 w4).mono ?_
  rintro _ _ ⟨rfl, rfl⟩
  refine ⟨_, _, rfl, brB_of (fun e => ?_) (fun e => ?_)⟩
  · have e : Cn.risOne o = true := by rw [← isOne_eq]; exact e
    refine r4.calc (by omega) ho (by simp) (fun h2 => by
      have := risOne_not h2; rw [isOne_eq, e] at this; cases this) fun n12 w11 r11 c11 => ⟨_, rfl, ?_⟩
    refine r11.push' [n12] [.int .i64 n12] rfl rfl (by simp) (by simp) (by omega) (by simp) fun w9 r9 => ?_
    rw [if_pos e]
    exact r.stp r9 (by omega) (by simp; omega) (by simp) (by simp)
  · have e : Cn.risOne o = false := by rw [← isOne_eq]; exact e
    rw [e] at hs ho
    obtain ⟨s2, n19, rfl⟩ := snoc_of (l := s1) (by rw [if_neg (by decide)] at hs; omega)
    rw [List.length_append, List.length_singleton] at f3
    refine r4.pop rfl (by rw [List.length_append, List.length_singleton]; omega) fun w18 r18 c18 => ⟨_, rfl, ?_⟩
    refine r18.calc (by omega) (by rw [e]; exact ho) (by simp) (fun _ => by simp) fun n22 w21 r21 c21 => ⟨_, rfl, ?_⟩
    refine r21.push' [n22] [.int .i64 n22] rfl rfl (by simp) (by simp) (by omega) (by simp) fun w9 r9 => ?_
    rw [e, if_neg (by decide)]
    exact r.stp r9 (by omega) (by simp; omega) (by simp) (by simp)
theorem Run.store (r : Run w0 w bb h x E0 E w1 s b L M c d) (hf : Ok s b c d) {o i : Int} (hs : 2 ≤ s.length) (hi : 0 ≤ i ∧ i < 120) (hp : 0 ≤ x.next ∧ x.next ≤ 2999) (hls : (s.length : Int) - 2 ≤ h.slots + h.grow) (hlb : (b.length : Int) ≤ h.backs + h.growBack) (k : ∀ w2, Stp w0 w bb h x E0 E w1 s b c d 4 2 0 0 0 (.tuple #[]) w2 → Q (.returned (.tuple #[])) w2) : Calls Try.prog fn_build_builder_store #[.pointer (some ⟨bb, 0, none⟩), .int .i64 o, .int .i64 i] w1 Q := by
  refine (build_builder_store_lift (K := Stp w0 w bb h x E0 E w1 s b c d 4 2 0 0 0) ?_).mono (fun e w' => Stp.k k)
  unfold build_builder_store_sh
  obtain ⟨⟨f1, f2⟩, f3, f4⟩ := hf
  obtain ⟨s1, n6, rfl⟩ := snoc_of (l := s) (by omega)
  rw [List.length_append, List.length_singleton] at f3 hs hls
  obtain ⟨s2, n9, rfl⟩ := snoc_of (l := s1) (by omega)
  rw [List.length_append, List.length_singleton] at f3 hs hls
  refine r.fresh.pop rfl (by simp; omega) fun w5 r5 c5 => ⟨_, rfl, ?_⟩
  refine r5.pop rfl (by simp; omega) fun w8 r8 c8 => ⟨_, rfl, ?_⟩
  refine r8.leave (by omega) fun n12 w11 r11 c11 => ⟨_, rfl, ?_⟩
  refine ⟨fun v w19 => ∃ L', Run w0 w1 bb h x E E w19 s2 b L' (n12 :: M) (c + 2) d ∧ v ∈ L' ∧ n6 ∈ L', ?_, brB_of (fun _ => ?_) (fun _ => ⟨_, r11.wk (by omega) (Nat.le_refl _), by simp, by simp⟩)⟩
  · rintro v w19 ⟨L', r19, hv, hn⟩
    refine ⟨x.next, r19.cells.2.2.2, ?_⟩
    rw [wr_in (x := i + 1) (by omega)]
    refine r19.out (by omega) (by omega) (ip := x.next) (n := i + 1) ⟨⟨by show 0 ≤ i + 1; omega, by show i + 1 ≤ 120; omega⟩, hp, by show (s2.length : Int) ≤ _; omega, hlb⟩ fun o w22 add => ⟨_, _, _, _, rfl, ?_⟩
    refine add.mono ?_
    rintro _ w28 ⟨y, rfl, r28, c28⟩
    refine ⟨y, rfl, ?_⟩
    refine r28.ins (i := ⟨6, y, n6, v, n12⟩) (by omega) ⟨by show (1:Int) ≤ 6; decide, by show (6:Int) ≤ 12; decide⟩ (fun e => by have e : (6:Int) = 4 := e; omega) (fun e => by have e : (6:Int) = 2 := e; omega) (fun e => by have e : (6:Int) = 3 := e; omega) ?_ ?_ fun n w32 r32 c32 _ => ⟨_, rfl, ?_⟩
    · intro z hz
      have hz : z ∈ [n6, v] := hz
      rcases List.mem_cons.1 hz with e | e
      · rw [e]; exact hn
      · rw [List.mem_singleton.1 e]; exact hv
    · intro z hz
      have hz : z ∈ [n12, y] := hz
      rcases List.mem_cons.1 hz with e | e
      · rw [e]; simp
      · rw [List.mem_singleton.1 e]; simp
    · exact r.stp r32 (by omega) (by simp; omega) (by simp) (by simp)
  · refine r11.ins (i := ⟨5, 0, n6, 0, n12⟩) (by omega) ⟨by show (1:Int) ≤ 5; decide, by show (5:Int) ≤ 12; decide⟩ (fun e => by have e : (5:Int) = 4 := e; omega) (fun e => by have e : (5:Int) = 2 := e; omega) (fun e => by have e : (5:Int) = 3 := e; omega) (fun z hz => ?_) (fun z hz => ?_) fun n15 w14 _ c14 rg => ⟨_, rfl, ?_⟩
    · have hz : z ∈ [n6] := hz
      rw [List.mem_singleton.1 hz]; simp
    · have hz : z ∈ [n12] := hz
      rw [List.mem_singleton.1 hz]; simp
    · refine (rg rfl).calc (by omega) (Or.inl (by decide)) (by simp) (fun _ => by simp) fun n18 w17 r17 c17 => ⟨_, rfl, ?_⟩
      exact ⟨_, r17, by simp, by simp⟩
end
end Go.Proofs.Ytkjpmkopnkkbmaa

/- The package build: backs, a plain step, any step. -/
set_option maxRecDepth 100000
namespace Go.Proofs.Ytkjpmkopnkkbmaa
open Go.RowKit

section
variable {w0 w : World} {bb : Nat} {h : BH} {x : SnV} {E0 E : Nat → Prop} {w1 : World} {s b L M : List Int} {c d : Nat} {Q : Ending → World → Prop}
def bkT (o : Int) : Nat := if o = 33 then 1 else if o = 36 then 2 else 0
def bkG (o : Int) : Nat := if o = 34 ∨ o = 35 ∨ o = 39 then 1 else 0
def bkTB (o : Int) : Nat := if o = 34 ∨ o = 35 then 1 else if o = 39 then 3 else if o = 40 then 2 else 0
def bkGB (o : Int) : Nat := if o = 33 ∨ o = 35 then 1 else if o = 36 then 2 else if o = 39 then 3 else 0
theorem Run.dropB (r : Run w0 w bb h x E0 E w1 s b L M c d) {n : Nat} (hn : n ≤ b.length) {G : World → Prop} (k : ∀ w2, Run w0 w bb h x E0 E w2 s (b.take n) L M c d → G w2) : ∃ s42 : Sl, w1.cell? ⟨bb, 10, none⟩ = some (s42.val) ∧ n ≤ s42.cap ∧ s42.len = b.length ∧ ∀ s43 : Sl, s43 = Sl.sub s42.ptr s42.cap 0 n 1 → wrOk w1 ⟨bb, 10, none⟩ 1 ∧ ∀ w44 : World, w44 = stW w1 ⟨bb, 10, none⟩ 0 [s43.val] → G w44 := by
  obtain ⟨v, ⟨C, os, X, g⟩, e, f, ge⟩ := r
  have hl := g.bk.rd.len
  have hc := g.bk.rd.capL
  rw [e.bk] at hl hc
  refine ⟨C.bk, g.ob.cell rfl, by omega, hl, fun s7 hs7 => ⟨g.ob.wr (by simp [bC]), fun w8 hw8 => k w8 ?_⟩⟩
  rw [sub0] at hs7
  obtain ⟨ob8, c8⟩ := g.ob.up (k := 10) (vs := [s7.val]) (cs' := bC h { C with bk := s7 } { v with back := b.take n }) (by simp [bC]) rfl hw8
  have nb : C.bk.blk ≠ some bb := fun he => by have := g.dis 5 0 bb (show (msB bb C)[5]? = _ by rw [← he]; rfl) rfl; omega
  have hb : s7.blk = C.bk.blk := by rw [hs7]; unfold Sl.blk Sl.val; cases C.bk.ptr <;> rfl
  have hx : Ox intE w8 s7 (b.take n) := by
    have := (g.bk.take (n := n) (by rw [e.bk]; omega)).chg c8 (fun k hk he => by subst he; exact nb (by rw [← hb, hs7]; exact hk))
    rw [e.bk] at this
    rw [hs7]; exact this
  obtain ⟨r1, r2⟩ := g.newBk (c8.mono (fun k _ he => Or.inr he)) ob8 hx (fun k hk => Or.inl (hb ▸ hk))
  have nms : NmI v.ins v.ins.length (b.take n) := e.gd.bk.sub fun q hq => by rw [e.bk]; exact List.mem_of_mem_take hq
  exact ⟨_, ⟨_, _, _, r1⟩, ⟨e.gd.back nms, e.stp, e.sk, rfl, e.nm, e.ot, e.ic, e.oc⟩, f.trans r2 (fun _ _ h => h) (fun k _ h h' => h (ge k h')), ge⟩
theorem Run.backs (r : Run w0 w bb h x E0 E w1 s b L M c d) (hf : Ok s b c d) {o : Int} (ho : (33 ≤ o ∧ o ≤ 36) ∨ o = 39 ∨ o = 40) (hs : bkT o ≤ s.length) (hb : bkTB o ≤ b.length) (k : ∀ w2, Stp w0 w bb h x E0 E w1 s b c d 4 (bkT o) (bkG o) (bkTB o) (bkGB o) (.tuple #[]) w2 → Q (.returned (.tuple #[])) w2) : Calls Try.prog fn_build_builder_backs #[.pointer (some ⟨bb, 0, none⟩), .int .i64 o] w1 Q := by
  refine (build_builder_backs_lift (K := Stp w0 w bb h x E0 E w1 s b c d 4 (bkT o) (bkG o) (bkTB o) (bkGB o)) ?_).mono (fun e w' => Stp.k k)
  unfold build_builder_backs_sh
  obtain ⟨⟨f1, f2⟩, f3, f4⟩ := hf
  obtain ⟨S, hS, hR⟩ := r.bkS
  have hl := hR.len
  refine ⟨S, hS, brB_of (fun e => ?_) (fun e33 => brB_of (fun e => ?_) (fun e34 => brB_of (fun e => ?_) (fun e35 => brB_of (fun e => ?_) (fun e36 => brB_of (fun e => ?_) (fun e39 => ?_)))))⟩
  · obtain rfl : o = 33 := by simpa using e
    obtain ⟨s1, n6, rfl⟩ := snoc_of (l := s) (by have : bkT 33 = 1 := rfl; omega)
    rw [List.length_append, List.length_singleton] at f3
    refine r.fresh.pop rfl (by simp; omega) fun w5 r5 c5 => ⟨_, rfl, ?_⟩
    refine r5.lay' [n6] [.int .i64 n6] rfl rfl (by simp) (by simp) (by omega) (by simp) fun w9 r9 => ?_
    exact r.stp r9 (by omega) (by simp <;> omega) (by simp [bkT, bkG]) (by simp [bkTB, bkGB])
  · obtain rfl : o = 34 := by simpa using e
    obtain ⟨b1, n6, rfl⟩ := snoc_of (l := b) (by have : bkTB 34 = 1 := rfl; omega)
    rw [List.length_append, List.length_singleton] at f4
    refine r.fresh.popBack rfl (by simp; omega) fun w5 r5 c5 => ⟨_, rfl, ?_⟩
    refine r5.push' [n6] [.int .i64 n6] rfl rfl (by simp) (by simp) (by omega) (by simp) fun w9 r9 => ?_
    exact r.stp r9 (by omega) (by simp <;> omega) (by simp [bkT, bkG]) (by simp [bkTB, bkGB])
  · obtain rfl : o = 35 := by simpa using e
    have hb1 : 1 ≤ b.length := by have : bkTB 35 = 1 := rfl; omega
    refine ⟨S, hS, ?_⟩
    rw [wr_in (x := (S.len : Int) - 1) (by omega)]
    obtain ⟨p, hp⟩ : ∃ p, b[((S.len : Int) - 1).toNat]? = some p := ⟨_, List.getElem?_eq_getElem (by omega)⟩
    refine hR.ix (i := (S.len : Int) - 1) (by omega) (x := p) hp fun a _ hcell => ?_
    have q := hcell 0 _ rfl
    rw [add0] at q
    refine ⟨p, q, ?_⟩
    refine (r.fresh.takeB (List.mem_of_getElem? hp)).push' [p] [.int .i64 p] rfl rfl (by simp) (by simp) (by omega) (by simp) fun w9 r9 => ?_
    exact r.stp r9 (by omega) (by simp <;> omega) (by simp [bkT, bkG]) (by simp [bkTB, bkGB])
  · obtain rfl : o = 36 := by simpa using e
    obtain ⟨s1, n27, rfl⟩ := snoc_of (l := s) (by have : bkT 36 = 2 := rfl; omega)
    rw [List.length_append, List.length_singleton] at f3 hs
    obtain ⟨s2, n30, rfl⟩ := snoc_of (l := s1) (by have : bkT 36 = 2 := rfl; omega)
    rw [List.length_append, List.length_singleton] at f3
    refine r.fresh.pop rfl (by simp; omega) fun w5 r5 c5 => ⟨_, rfl, ?_⟩
    refine r5.pop rfl (by simp; omega) fun w8 r8 c8 => ⟨_, rfl, ?_⟩
    refine r8.lay' [n30, n27] [.int .i64 n30, .int .i64 n27] rfl rfl (by simp) (by simp) (by omega) (by simp) fun w9 r9 => ?_
    exact r.stp r9 (by omega) (by simp <;> omega) (by simp [bkT, bkG]) (by simp [bkTB, bkGB])
  · obtain rfl : o = 39 := by simpa using e
    have hb1 : 3 ≤ b.length := by have : bkTB 39 = 3 := rfl; omega
    refine ⟨S, hS, ?_⟩
    rw [wr_in (x := (S.len : Int) - 1) (by omega), wr_in (x := (S.len : Int) - 1 - 2) (by omega)]
    obtain ⟨p, hp⟩ : ∃ p, b[((S.len : Int) - 1 - 2).toNat]? = some p := ⟨_, List.getElem?_eq_getElem (by omega)⟩
    refine hR.ix (i := (S.len : Int) - 1 - 2) (by omega) (x := p) hp fun a _ hcell => ?_
    have q := hcell 0 _ rfl
    rw [add0] at q
    refine ⟨p, q, ?_⟩
    refine (r.fresh.takeB (List.mem_of_getElem? hp)).push' [p] [.int .i64 p] rfl rfl (by simp) (by simp) (by omega) (by simp) fun w9 r9 => ?_
    exact r.stp r9 (by omega) (by simp <;> omega) (by simp [bkT, bkG]) (by simp [bkTB, bkGB])
  · have e33 : o ≠ 33 := by simpa using e33
    have e34 : o ≠ 34 := by simpa using e34
    have e35 : o ≠ 35 := by simpa using e35
    have e36 : o ≠ 36 := by simpa using e36
    have e39 : o ≠ 39 := by simpa using e39
    obtain rfl : o = 40 := by omega
    have hb1 : 2 ≤ b.length := by have : bkTB 40 = 2 := rfl; omega
    obtain ⟨S42, h1, h2, h3, h4⟩ := r.fresh.dropB (n := b.length - 2) (by omega) (G := fun w2 => Stp w0 w bb h x E0 E w1 s b c d 4 (bkT 40) (bkG 40) (bkTB 40) (bkGB 40) (.tuple #[]) w2) fun w2 r2 => r.stp r2 (by omega) (by omega) (by simp [bkT, bkG]) (by simp [bkTB, bkGB]; omega)
    refine ⟨S42, h1, ?_⟩
    rw [wr_in (x := (S.len : Int) - 1) (by omega), wr_in (x := (S.len : Int) - 1 - 1) (by omega)]
    refine ⟨by omega, by omega, fun s43 hs43 => h4 s43 ?_⟩
    rw [hs43]; congr 1; omega
end
end Go.Proofs.Ytkjpmkopnkkbmaa

/- The package build: a plain step, any step. -/
set_option maxRecDepth 100000
namespace Go.Proofs.Ytkjpmkopnkkbmaa
open Go.RowKit

def mT (x : SnV) : Nat := if 64 ≤ x.cell then 0 else (opRow x.cell).takes.toNat
def mG (x : SnV) : Nat := if 64 ≤ x.cell then 0 else (opRow x.cell).gives.toNat
def mTB (x : SnV) : Nat := if 64 ≤ x.cell then 0 else (opRow x.cell).backs.toNat
def mGB (x : SnV) : Nat := if 64 ≤ x.cell then 1 else if endsB x = true then 0 else (opRow x.cell).givesBak.toNat
theorem mv_of {x : SnV} {o : Int} (h : x.cell = o) (h1 : o < 64) (h2 : o ≠ 37 ∧ o ≠ 38) : mT x = (opRow o).takes.toNat ∧ mG x = (opRow o).gives.toNat ∧ mTB x = (opRow o).backs.toNat ∧ mGB x = (opRow o).givesBak.toNat := by
  subst h
  have he : endsB x = false := by unfold endsB; simp; omega
  unfold mT mG mTB mGB
  rw [if_neg (by omega), if_neg (by omega), if_neg (by omega), if_neg (by omega), if_neg (by rw [he]; decide)]
  exact ⟨rfl, rfl, rfl, rfl⟩
section
variable {w0 w : World} {bb : Nat} {h : BH} {x : SnV} {E0 E : Nat → Prop} {w1 : World} {s b L M : List Int} {c d : Nat} {Q : Ending → World → Prop}
theorem Stp.eq {K t g tb gb t' g' tb' gb' : Nat} {v : Value} {w2 : World} (q : Stp w0 w bb h x E0 E w1 s b c d K t g tb gb v w2) (e1 : t = t') (e2 : g = g') (e3 : tb = tb') (e4 : gb = gb') : Stp w0 w bb h x E0 E w1 s b c d K t' g' tb' gb' v w2 := by
  subst e1 e2 e3 e4; exact q
theorem Stp.lift {E' : Nat → Prop} {w2 w3 : World} {j K K' t g tb gb : Nat} {v : Value} (q : Stp w0 w1 bb h x E E' w2 s b (c + j) d K t g tb gb v w3) (r : Run w0 w bb h x E0 E w1 s b L M c d) (hK : j + K ≤ K') : Stp w0 w bb h x E0 E w1 s b c d K' t g tb gb v w3 := by
  obtain ⟨rfl, s', b', c', q1, q2, q3, q4, q5⟩ := q
  obtain ⟨r1, r2⟩ := r.back q1
  exact ⟨rfl, s', b', c', r1, by omega, q3, q4, r2⟩
/-- A step that is neither a call, a jump, a loop nor a number. -/
theorem Run.plain (r : Run w0 w bb h x E0 E w1 s b L M c d) (hf : Ok s b c d) (ho : opPlain x.cell = true) (ho2 : ¬ (2 ≤ x.cell ∧ x.cell ≤ 5) ∧ x.cell ≠ 44 ∧ x.cell ≠ 37 ∧ x.cell ≠ 38) {i : Int} (hs : mT x ≤ s.length) (hb : mTB x ≤ b.length) (hi : 0 ≤ i ∧ i < 120) (hp : 0 ≤ x.next ∧ x.next ≤ 2999) (hls : (s.length : Int) - mT x + mG x ≤ h.slots + h.grow) (hlb : (b.length : Int) - mTB x + mGB x ≤ h.backs + h.growBack) (k : ∀ w2, Stp w0 w bb h x E0 E w1 s b c d 4 (mT x) (mG x) (mTB x) (mGB x) (.tuple #[]) w2 → Q (.returned (.tuple #[])) w2) : Calls Try.prog fn_build_builder_plain #[.pointer (some ⟨bb, 0, none⟩), .int .i64 i] w1 Q := by
  refine (build_builder_plain_lift (K := Stp w0 w bb h x E0 E w1 s b c d 4 (mT x) (mG x) (mTB x) (mGB x)) ?_).mono (fun e w' => Stp.k k)
  unfold build_builder_plain_sh
  have hf' := hf
  obtain ⟨⟨f1, f2⟩, f3, f4⟩ := hf
  have hop : 0 ≤ x.cell ∧ x.cell < 48 ∧ x.cell ≠ 0 ∧ x.cell ≠ 1 ∧ x.cell ≠ 45 ∧ x.cell ≠ 46 := of_decide_eq_true ho
  obtain ⟨o, hoo⟩ : ∃ o : Int, x.cell = o := ⟨_, rfl⟩
  rw [hoo] at hop ho2
  obtain ⟨m1, m2, m3, m4⟩ := mv_of hoo (by omega) (by omega)
  refine ⟨o, hoo ▸ r.cells.2.1, fun b5 w4 => w1 = w4 ∧ (b5 = true ↔ 6 ≤ o ∧ o ≤ 10), ?_, brB_of (fun e => ⟨rfl, ?_⟩) (fun e1 => brB_of (fun e => ⟨rfl, ?_⟩) (fun e2 => brB_of (fun e => ⟨rfl, ?_⟩) (fun e3 => brB_of (fun e => ⟨rfl, ?_⟩) (fun e4 => ⟨rfl, ?_⟩))))⟩
  rotate_left
  · simp at e ⊢; omega
  · simp at e ⊢; omega
  · simp at e ⊢; omega
  · simp at e ⊢; omega
  · simp at e1 e2 e3 e4 ⊢; omega
  rintro b5 _ ⟨rfl, hb5⟩
  refine brB_of (fun e => ?_) (fun e => ?_)
  · have e := hb5.1 e
    have key : shT o = mT x ∧ shG o = mG x ∧ mTB x = 0 ∧ mGB x = 0 := by
      rw [m1, m2, m3, m4]
      obtain rfl | rfl | rfl | rfl | rfl : o = 6 ∨ o = 7 ∨ o = 8 ∨ o = 9 ∨ o = 10 := by omega
      all_goals decide
    refine r.shuffle hf' e (by omega) fun w2 q => ⟨rfl, q.eq key.1 key.2.1 key.2.2.1.symm key.2.2.2.symm⟩
  have n5 : ¬ (6 ≤ o ∧ o ≤ 10) := fun hh => by rw [hb5.2 hh] at e; cases e
  refine ⟨fun b9 w8 => w1 = w8 ∧ (b9 = true ↔ (33 ≤ o ∧ o ≤ 36) ∨ o = 39 ∨ o = 40), ?_, brB_of (fun e => ⟨rfl, ?_⟩) (fun e1 => brB_of (fun e => ⟨rfl, ?_⟩) (fun e2 => brB_of (fun e => ⟨rfl, ?_⟩) (fun e3 => brB_of (fun e => ⟨rfl, ?_⟩) (fun e4 => brB_of (fun e => ⟨rfl, ?_⟩) (fun e5 => ⟨rfl, ?_⟩)))))⟩
  rotate_left
  · simp at e ⊢; omega
  · simp at e ⊢; omega
  · simp at e ⊢; omega
  · simp at e ⊢; omega
  · simp at e ⊢; omega
  · simp at e1 e2 e3 e4 e5 ⊢; omega
  rintro b9 _ ⟨rfl, hb9⟩
  refine brB_of (fun e => ?_) (fun e => ?_)
  · have e := hb9.1 e
    have key : bkT o = mT x ∧ bkG o = mG x ∧ bkTB o = mTB x ∧ bkGB o = mGB x := by
      rw [m1, m2, m3, m4]
      obtain rfl | rfl | rfl | rfl | rfl | rfl : o = 33 ∨ o = 34 ∨ o = 35 ∨ o = 36 ∨ o = 39 ∨ o = 40 := by omega
      all_goals decide
    refine r.backs hf' e (by omega) (by omega) fun w2 q => ⟨rfl, q.eq key.1 key.2.1 key.2.2.1 key.2.2.2⟩
  have n9 : ¬ ((33 ≤ o ∧ o ≤ 36) ∨ o = 39 ∨ o = 40) := fun hh => by rw [hb9.2 hh] at e; cases e
  refine brB_of (fun e30 => ?_) (fun e30 => ?_)
  · obtain rfl : o = 30 := by simpa using e30
    have key : mT x = 1 ∧ mG x = 1 ∧ mTB x = 0 ∧ mGB x = 0 := by rw [m1, m2, m3, m4]; decide
    obtain ⟨k1, k2, k3, k4⟩ := key
    rw [k1, k2, k3, k4]
    obtain ⟨s1, n14, rfl⟩ := snoc_of (l := s) (by omega)
    rw [List.length_append, List.length_singleton] at f3
    refine r.fresh.pop rfl (by simp; omega) fun w13 r13 c13 => ⟨_, rfl, ?_⟩
    refine r13.leave (by omega) fun n17 w16 r16 c16 => ⟨_, rfl, ?_⟩
    refine r16.ins (i := ⟨5, 0, n14, 0, n17⟩) (by omega) ⟨by show (1:Int) ≤ 5; decide, by show (5:Int) ≤ 12; decide⟩ (fun e => by have e : (5:Int) = 4 := e; omega) (fun e => by have e : (5:Int) = 2 := e; omega) (fun e => by have e : (5:Int) = 3 := e; omega) (fun z hz => ?_) (fun z hz => ?_) fun n20 w19 _ c19 rg => ⟨_, rfl, ?_⟩
    · have hz : z ∈ [n14] := hz
      rw [List.mem_singleton.1 hz]; simp
    · have hz : z ∈ [n17] := hz
      rw [List.mem_singleton.1 hz]; simp
    · refine (rg rfl).push' [n20] [.int .i64 n20] rfl rfl (by simp) (by simp) (by omega) (by simp) fun w24 r24 => ?_
      exact r.stp r24 (by omega) (by simp <;> omega) (by simp) (by simp)
  have n30 : o ≠ 30 := by simpa using e30
  refine ⟨fun b26 w25 => w1 = w25 ∧ (b26 = true ↔ o = 31 ∨ o = 32), ?_, brB_of (fun e => ⟨rfl, ?_⟩) (fun e1 => ⟨rfl, ?_⟩)⟩
  rotate_left
  · simp at e ⊢; omega
  · simp at e1 ⊢; omega
  rintro b26 _ ⟨rfl, hb26⟩
  refine brB_of (fun e => ?_) (fun e => ?_)
  · have e := hb26.1 e
    have key : mT x = 2 ∧ mG x = 0 ∧ mTB x = 0 ∧ mGB x = 0 := by
      rw [m1, m2, m3, m4]
      obtain rfl | rfl := e
      all_goals decide
    obtain ⟨k1, k2, k3, k4⟩ := key
    rw [k1] at hls hs
    rw [k2] at hls
    rw [k3, k4] at hlb
    refine r.store hf' (by omega) hi hp (by omega) (by omega) fun w2 q => ⟨rfl, q.eq k1.symm k2.symm k3.symm k4.symm⟩
  have n26 : ¬ (o = 31 ∨ o = 32) := fun hh => by rw [hb26.2 hh] at e; cases e
  have pr : ∀ (g : Int) (wv : World), (g = 10 ∨ g = 11) → (o = 41 ∨ o = 42) → Calls Try.prog fn_build_builder_pop #[.pointer (some ⟨bb, 0, none⟩)] w1 fun e29 w30 => ∃ n31 : Int, e29 = .returned (.int .i64 n31) ∧
      Calls Try.prog fn_build_builder_guard #[.pointer (some ⟨bb, 0, none⟩), .int .i64 g, .int .i64 n31, .int .i64 (0 : Int)] w30 fun e32 w33 => e32 = .returned (.tuple #[]) ∧ Stp w0 w bb h x E0 E w1 s b c d 4 (mT x) (mG x) (mTB x) (mGB x) (.tuple #[]) w33 := fun g _ hg h4 => by
    have key : mT x = 1 ∧ mG x = 0 ∧ mTB x = 0 ∧ mGB x = 0 := by
      rw [m1, m2, m3, m4]
      obtain rfl | rfl := h4
      all_goals decide
    obtain ⟨k1, k2, k3, k4⟩ := key
    rw [k1, k2, k3, k4]
    obtain ⟨s1, n14, rfl⟩ := snoc_of (l := s) (by omega)
    rw [List.length_append, List.length_singleton] at f3
    refine r.fresh.pop rfl (by simp; omega) fun w13 r13 c13 => ⟨_, rfl, ?_⟩
    refine r13.guard (by omega) (by omega) (by simp) (fun e => by omega) fun w33 r33 c33 => ⟨rfl, ?_⟩
    exact r.stp r33 (by omega) (by simp; omega) (by simp) (by simp)
  refine brB_of (fun e41 => pr 10 w1 (Or.inl rfl) (Or.inl (by simpa using e41))) (fun e41 => brB_of (fun e42 => pr 11 w1 (Or.inr rfl) (Or.inr (by simpa using e42))) (fun e42 => brB_of (fun e43 => ?_) (fun e43 => brB_of (fun e47 => ?_) (fun e47 => ?_))))
  · obtain rfl : o = 43 := by simpa using e43
    have key : mT x = 0 ∧ mG x = 1 ∧ mTB x = 0 ∧ mGB x = 0 := by rw [m1, m2, m3, m4]; decide
    obtain ⟨k1, k2, k3, k4⟩ := key
    rw [k1, k2, k3, k4]
    refine r.fresh.ins (i := ⟨12, 0, 0, 0, 0⟩) (by omega) ⟨by show (1:Int) ≤ 12; decide, by show (12:Int) ≤ 12; decide⟩ (fun e => by have e : (12:Int) = 4 := e; omega) (fun e => by have e : (12:Int) = 2 := e; omega) (fun e => by have e : (12:Int) = 3 := e; omega) (fun z hz => by cases hz) (fun z hz => by cases hz) fun n20 w19 _ c19 rg => ⟨_, rfl, ?_⟩
    refine (rg rfl).push' [n20] [.int .i64 n20] rfl rfl (by simp) (by simp) (by omega) (by simp) fun w24 r24 => ?_
    exact r.stp r24 (by omega) (by simp <;> omega) (by simp) (by simp)
  · obtain rfl : o = 47 := by simpa using e47
    have key : mT x = 0 ∧ mG x = 0 ∧ mTB x = 0 ∧ mGB x = 0 := by rw [m1, m2, m3, m4]; decide
    obtain ⟨k1, k2, k3, k4⟩ := key
    rw [k1, k2, k3, k4]
    exact r.stp r.fresh (by omega) (by omega) rfl rfl
  · have n41 : o ≠ 41 := by simpa using e41
    have n42 : o ≠ 42 := by simpa using e42
    have n43 : o ≠ 43 := by simpa using e43
    have n47 : o ≠ 47 := by simpa using e47
    have hr : 11 ≤ o ∧ o ≤ 29 := by omega
    have rs := rows_small o.toNat (by omega)
    rw [show ((o.toNat : Nat) : Int) = o by omega] at rs
    obtain ⟨_, rs⟩ := rs
    obtain ⟨q1, q2, q3, q4⟩ := rs (by omega)
    have hone : (Cn.risOne o = true) ↔ (o = 16 ∨ o = 20 ∨ o = 26 ∨ o = 27) := by unfold Cn.risOne; exact decide_eq_true_iff
    have key : (if Cn.risOne o = true then 1 else 2) = mT x ∧ mG x = 1 ∧ mTB x = 0 ∧ mGB x = 0 := by
      rw [m1, m2, m3, m4, q1, q2, q3]
      refine ⟨?_, rfl, rfl, rfl⟩
      by_cases h1 : o = 16 ∨ o = 20 ∨ o = 26 ∨ o = 27
      · rw [if_pos (by omega)] at q4
        rw [if_pos (hone.2 h1), q4]; rfl
      · rw [if_neg (by omega)] at q4
        rw [if_neg (fun hh => h1 (hone.1 hh)), q4]; rfl
    obtain ⟨k1, k2, k3, k4⟩ := key
    refine r.reckon hf' ?_ (by omega) fun w2 q => ⟨rfl, q.eq k1 k2.symm k3.symm k4.symm⟩
    by_cases h1 : o = 16 ∨ o = 20 ∨ o = 26 ∨ o = 27
    · exact Or.inr (hone.2 h1)
    · exact Or.inl (by unfold Cn.risTwo; exact decide_eq_true (by omega))
end
end Go.Proofs.Ytkjpmkopnkkbmaa

/- The package build: any step. -/
set_option maxRecDepth 100000
namespace Go.Proofs.Ytkjpmkopnkkbmaa
open Go.RowKit

section
variable {w0 w : World} {bb : Nat} {h : BH} {x : SnV} {E0 E : Nat → Prop} {w1 : World} {s b L M : List Int} {c d : Nat} {Q : Ending → World → Prop}
theorem sing_of {x : SnV} (hx : singleB x = true) : (64 ≤ x.cell ∨ opPlain x.cell = true) ∧ (0 ≤ x.ip ∧ x.ip < 3000) ∧ (0 ≤ x.next ∧ x.next < 3000) := by
  unfold singleB plB placeB at hx
  simp only [Bool.and_eq_true, Bool.or_eq_true, decide_eq_true_eq] at hx
  exact ⟨hx.1, hx.2.2.1, hx.2.2.2.2⟩
theorem Run.one (r : Run w0 w bb h x E0 E w1 s b L M c d) (hf0 : (c ≤ 4000 ∧ d ≤ 4000) ∧ s.length ≤ 900 ∧ b.length ≤ 900) (hx : singleB x = true) {i : Int} (hs : mT x ≤ s.length) (hb : mTB x ≤ b.length) (hi : 0 ≤ i ∧ i < 120) (hls : (s.length : Int) - mT x + mG x ≤ h.slots + h.grow) (hlb : (b.length : Int) - mTB x + mGB x ≤ h.backs + h.growBack) (k : ∀ w2, Stp w0 w bb h x E0 E w1 s b c d 6 (mT x) (mG x) (mTB x) (mGB x) (.tuple #[]) w2 → Q (.returned (.tuple #[])) w2) : Calls Try.prog fn_build_builder_one #[.pointer (some ⟨bb, 0, none⟩), .int .i64 i] w1 Q := by
  refine (build_builder_one_lift (K := Stp w0 w bb h x E0 E w1 s b c d 6 (mT x) (mG x) (mTB x) (mGB x)) ?_).mono (fun e w' => Stp.k k)
  unfold build_builder_one_sh
  have hf : Ok s b c d := ⟨by omega, by omega, by omega⟩
  have hf' := hf
  obtain ⟨⟨g1, g2⟩, g3, g4⟩ := hf0
  obtain ⟨⟨f1, f2⟩, f3, f4⟩ := hf
  obtain ⟨hc, hip, hnx⟩ := sing_of hx
  have r1 := r.fresh
  refine r1.seen fun b7 w9 r9 o9 => ⟨x.ip, x.cell, x.arg, x.next, o9.cell rfl, o9.cell rfl, o9.cell rfl, o9.cell rfl, ?_⟩
  refine (end_called x w9).mono ?_
  rintro _ w15 ⟨rfl, c15⟩
  have r15 := r9.no c15
  have o15 := o9.no c15
  have hf15 : Ok s b (c + 0) d := hf'
  have q15 : Run w0 w1 bb h x E (fun k => E k ∨ k = b7) w15 s b L M (c + 0) d := r15
  have fin : ∀ {w3 : World} {K t g tb gb : Nat}, Stp w0 w1 bb h x E (fun k => E k ∨ k = b7) w15 s b (c + 0) d K t g tb gb (.tuple #[]) w3 → K ≤ 6 → t = mT x → g = mG x → tb = mTB x → gb = mGB x → Stp w0 w bb h x E0 E w1 s b c d 6 (mT x) (mG x) (mTB x) (mGB x) (.tuple #[]) w3 := fun q hK h1 h2 h3 h4 => (q.lift r (by omega)).eq h1 h2 h3 h4
  refine ⟨_, rfl, brB_of (fun h64 => ?_) (fun h64 => ?_)⟩
  · have h64 : 64 ≤ x.cell := of_decide_eq_true h64
    have key : mT x = 0 ∧ mG x = 0 ∧ mTB x = 0 ∧ mGB x = 1 := by
      unfold mT mG mTB mGB
      rw [if_pos h64, if_pos h64]; exact ⟨rfl, rfl, if_pos h64, if_pos h64⟩
    obtain ⟨k1, k2, k3, k4⟩ := key
    rw [k1, k2, k3, k4]
    refine ⟨x.cell, o15.cell rfl, ?_⟩
    refine r15.goes (by omega) fun w19 r19 c19 => ⟨rfl, ?_⟩
    have o19 := o15.chg c19 (fun hn => hn (Or.inr rfl))
    refine ⟨x.ip, o19.cell rfl, ?_⟩
    refine r19.number (by omega) fun n23 w22 r22 c22 => ⟨_, rfl, ?_⟩
    refine r22.lay' [n23] [.int .i64 n23] rfl rfl (by simp) (by simp) (by omega) (by simp) fun w27 r27 => ?_
    exact r.stp r27 (by omega) (by omega) rfl (by simp)
  have h64 : ¬ 64 ≤ x.cell := of_decide_eq_false h64
  have hpl : opPlain x.cell = true := hc.resolve_left h64
  have hop : 0 ≤ x.cell ∧ x.cell < 48 ∧ x.cell ≠ 0 ∧ x.cell ≠ 1 ∧ x.cell ≠ 45 ∧ x.cell ≠ 46 := of_decide_eq_true hpl
  obtain ⟨o, hoo⟩ : ∃ o : Int, x.cell = o := ⟨_, rfl⟩
  refine ⟨fun b31 w30 => w15 = w30 ∧ (b31 = true ↔ x.cell = 5 ∨ x.cell = 44), ?_, x.cell, o15.cell rfl, brB_of (fun e => ⟨rfl, ?_⟩) (fun e1 => ⟨x.cell, o15.cell rfl, rfl, ?_⟩)⟩
  rotate_left
  · simp at e ⊢; omega
  · simp at e1 ⊢; omega
  rintro b31 _ ⟨rfl, h31⟩
  refine brB_of (fun e => ?_) (fun e => ?_)
  · have e := h31.1 e
    refine q15.leads hf15 ?_ fun w2 q => ⟨rfl, ?_⟩
    · rcases e with e | e
      · obtain ⟨m1, m2, m3, m4⟩ := mv_of (o := 5) e (by omega) (by omega)
        exact Or.inl ⟨e, by rw [m3] at hb; exact hb⟩
      · obtain ⟨m1, m2, m3, m4⟩ := mv_of (o := 44) e (by omega) (by omega)
        exact Or.inr ⟨by omega, by rw [m1] at hs; exact hs⟩
    · rcases e with e | e
      · obtain ⟨m1, m2, m3, m4⟩ := mv_of (o := 5) e (by omega) (by omega)
        rw [if_pos e, if_pos e] at q
        exact fin q (by omega) (by rw [m1]; rfl) (by rw [m2]; rfl) (by rw [m3]; rfl) (by rw [m4]; rfl)
      · obtain ⟨m1, m2, m3, m4⟩ := mv_of (o := 44) e (by omega) (by omega)
        rw [if_neg (by omega), if_neg (by omega)] at q
        exact fin q (by omega) (by rw [m1]; rfl) (by rw [m2]; rfl) (by rw [m3]; rfl) (by rw [m4]; rfl)
  have n31 : ¬ (x.cell = 5 ∨ x.cell = 44) := fun hh => by rw [h31.2 hh] at e; cases e
  refine ⟨x.cell, o15.cell rfl, brB_of (fun e3 => ⟨x.arg, o15.cell rfl, ?_⟩) (fun e3 => ⟨x.cell, o15.cell rfl, brB_of (fun e4 => ?_) (fun e4 => ?_)⟩)⟩
  · have e3 : x.cell = 3 := by simpa using e3
    obtain ⟨m1, m2, m3, m4⟩ := mv_of (o := 3) e3 (by omega) (by omega)
    refine r15.goes (by omega) fun w19 r19 c19 => ⟨rfl, ?_⟩
    rw [m1, m2, m3, m4]
    exact r.stp r19 (by omega) (by omega) rfl rfl
  · have e4 : x.cell = 4 := by simpa using e4
    obtain ⟨m1, m2, m3, m4⟩ := mv_of (o := 4) e4 (by omega) (by omega)
    have h1 : 1 ≤ s.length := by rw [m1] at hs; exact hs
    refine q15.zero hf15 h1 fun w2 q => ⟨rfl, ?_⟩
    exact fin q (by omega) (by rw [m1]; rfl) (by rw [m2]; rfl) (by rw [m3]; rfl) (by rw [m4]; rfl)
  have e3 : x.cell ≠ 3 := by simpa using e3
  have e4 : x.cell ≠ 4 := by simpa using e4
  refine ⟨fun b44 w43 => w15 = w43 ∧ (b44 = true ↔ x.cell = 37 ∨ x.cell = 38), ?_, x.cell, o15.cell rfl, brB_of (fun e => ⟨rfl, ?_⟩) (fun e1 => ⟨x.cell, o15.cell rfl, rfl, ?_⟩)⟩
  rotate_left
  · simp at e ⊢; omega
  · simp at e1 ⊢; omega
  rintro b44 _ ⟨rfl, h44⟩
  refine brB_of (fun e => ?_) (fun e => ?_)
  · have e := h44.1 e
    have key : (if x.cell = 37 then 0 else 1) = mT x ∧ 0 = mG x ∧ 2 = mTB x ∧ (if endsB x = true then 0 else 2) = mGB x := by
      unfold mT mG mTB mGB
      rw [if_neg h64, if_neg h64, if_neg h64, if_neg h64]
      rcases e with e | e
      · rw [e]; exact ⟨rfl, rfl, rfl, rfl⟩
      · rw [e]; exact ⟨rfl, rfl, rfl, rfl⟩
    obtain ⟨k1, k2, k3, k4⟩ := key
    refine q15.loop hf15 e (by omega) (fun e38 => ?_) fun w2 q => ⟨rfl, fin q (by omega) k1 k2 k3 k4⟩
    rw [if_neg (by omega)] at k1; omega
  have n44 : ¬ (x.cell = 37 ∨ x.cell = 38) := fun hh => by rw [h44.2 hh] at e; cases e
  refine ⟨x.cell, o15.cell rfl, brB_of (fun e2 => ⟨x.ip, o15.cell rfl, ?_⟩) (fun e2 => ⟨x.ip, o15.cell rfl, ?_⟩)⟩
  · have e2 : x.cell = 2 := by simpa using e2
    obtain ⟨m1, m2, m3, m4⟩ := mv_of (o := 2) e2 (by omega) (by omega)
    refine r15.goes (by omega) fun w19 r19 c19 => ⟨rfl, ?_⟩
    have o19 := o15.chg c19 (fun hn => hn (Or.inr rfl))
    refine ⟨x.arg, o19.cell rfl, ?_⟩
    refine r19.number (by omega) fun n23 w22 r22 c22 => ⟨_, rfl, ?_⟩
    refine r22.push' [n23] [.int .i64 n23] rfl rfl (by simp) (by simp) (by omega) (by simp) fun w27 r27 => ?_
    rw [m1, m2, m3, m4]
    exact r.stp r27 (by omega) (by simp; omega) (by rw [List.length_append]; rfl) rfl
  · have e2 : x.cell ≠ 2 := by simpa using e2
    refine q15.goes (by omega) fun w61 r61 c61 => ⟨rfl, ?_⟩
    refine r61.plain ⟨by omega, by omega, by omega⟩ hpl (by omega) hs hb hi (by omega) hls hlb fun w63 q => ⟨rfl, ?_⟩
    obtain ⟨_, s', b', c', q1, q2, q3, q4, q5⟩ := q
    exact r.stp q1 (by omega) (by omega) q3 q4
end
end Go.Proofs.Ytkjpmkopnkkbmaa
