/- The walk of CachePlays. -/
import Derived.Test.YtlpbdloloaoapaaJT
import Derived.Test.YtlpbdloloaoapaaJS

/- CachePlays: the cache, the book, two lists, side by side. -/
set_option maxRecDepth 100000
namespace Go.Proofs.Ytlpbdloloaoapaa
open Go.RowKit

/-! ### Two traces that say the same -/
theorem sameTrace_any {D D' : Nat → Prop} {w : World} (a b : Tr) {v : TrV} (ha : TrIs D w a v) (hb : TrIs D' w b v) : Calls Try.prog fn_hollowaybook_SameTrace #[.agg (trC a).toArray, .agg (trC b).toArray] w fun e w' => e = .returned (.bool true) ∧ Chg No w w' := by
  refine (hollowaybook_SameTrace_lift (K := fun r w' => r = .bool true ∧ Chg No w w') ?_).mono (by rintro e w' ⟨r, rfl, rfl, h⟩; exact ⟨rfl, h⟩)
  unfold hollowaybook_SameTrace_sh
  intro b19 w20 hb19 hw20 b21 w22 hb21 hw22
  have c20 := tal hw20
  have c22 := tal hw22
  have o19 : Ob w22 b19 (trC a) T_api_Trace := by
    have : Ob w20 b19 (trC a) T_api_Trace := by rw [hw20, hb19]; exact Ob.new w (trC a) T_api_Trace
    exact this.no c22
  have o21 : Ob w22 b21 (trC b) T_api_Trace := by rw [hw22, hb21]; exact Ob.new w20 (trC b) T_api_Trace
  have k22 := trN c20 c22
  obtain ⟨a1, a2, a3, a4, a5, a6⟩ := ha.nums
  obtain ⟨b1, b2, b3, b4, b5, b6⟩ := hb.nums
  have eqI : ∀ {x y : Int} {A B : Prop}, x = y → A → brB (x == y) A B := fun h k => by rw [show (_ == _) = true from by simpa using h]; exact brB_t k
  refine ⟨_, o19.cell rfl, _, o21.cell rfl, eqI (a1.trans b1.symm) ⟨_, o19.cell rfl, _, o21.cell rfl, eqI (a2.trans b2.symm) ⟨_, o19.cell rfl, _, o21.cell rfl, eqI (a3.trans b3.symm) ⟨_, o19.cell rfl, _, o21.cell rfl, eqI (a4.trans b4.symm) ⟨_, o19.cell rfl, _, o21.cell rfl, eqI (a5.trans b5.symm) ⟨_, o19.cell rfl, _, o21.cell rfl, eqI (a6.trans b6.symm) ⟨a.ins, o19.cell rfl, b.ins, o21.cell rfl, ?_⟩⟩⟩⟩⟩⟩⟩
  refine (sameCodes_ok a.ins b.ins v.ins w22 (ha.ins.no k22) (hb.ins.no k22)).mono ?_
  rintro e w38 ⟨rfl, c38⟩
  have k38 := trN k22 c38
  refine ⟨_, rfl, brB_t ⟨a.outs, (o19.no c38).cell rfl, b.outs, (o21.no c38).cell rfl, ?_⟩⟩
  refine (sameExits_ok a.outs b.outs v.outs w38 (ha.outs.no k38) (hb.outs.no k38)).mono ?_
  rintro e w43 ⟨rfl, c43⟩
  have k43 := trN k38 c43
  refine ⟨_, rfl, brB_t ⟨a.cells, ((o19.no c38).no c43).cell rfl, b.cells, ((o21.no c38).no c43).cell rfl, ?_⟩⟩
  refine (sameInts_ok a.cells b.cells v.cells w43 (ha.cells.no k43) (hb.cells.no k43)).mono ?_
  rintro e w48 ⟨rfl, c48⟩
  exact ⟨_, rfl, rfl, trN k43 c48⟩
def trV0 : TrV := ⟨0, 0, 0, 0, 0, [], [], 0, []⟩
theorem tr0_x (D : Nat → Prop) (w : World) : TrX D w tr0 trV0 := ⟨⟨rfl, rfl, rfl, rfl, rfl, rfl⟩, Ox.nil _ _, Ox.nil _ _, Ox.nil _ _, (fun k hk => by cases hk), (fun k hk => by cases hk), (fun k hk => by cases hk)⟩
/-! ### The cache, the book, two lists -/
structure PI (w0 w : World) (c b : Nat) (room : Int) (cs : List TrV) (os vs : List Int) (O V : Sl) (B D P E : Nat → Prop) : Prop where
  ca : CAt B w c room cs
  bk : BkV D P w b
  o : Ox intE w O os
  v : Ox intE w V vs
  ol : ∀ k, O.blk = some k → w0.heap.size ≤ k ∧ ¬ B k ∧ ¬ D k ∧ V.blk ≠ some k
  vl : ∀ k, V.blk = some k → w0.heap.size ≤ k ∧ ¬ B k ∧ ¬ D k
  bl : ∀ k, B k → w0.heap.size ≤ k ∧ k < w.heap.size
  dl : ∀ k, D k → w0.heap.size ≤ k ∧ k < w.heap.size ∧ ¬ B k
  pd : ∀ k, P k → D k
  el : ∀ k, E k → k < w.heap.size ∧ ¬ B k ∧ ¬ D k ∧ O.blk ≠ some k ∧ V.blk ≠ some k
  ch : Chg No w0 w
section
variable {w0 w : World} {c b : Nat} {room : Int} {cs : List TrV} {os vs : List Int} {O V : Sl} {B D P E : Nat → Prop}
theorem PI.no {w' : World} (h : PI w0 w c b room cs os vs O V B D P E) (k : Chg No w w') : PI w0 w' c b room cs os vs O V B D P E := by
  have z := k.size
  exact ⟨h.ca.no k, h.bk.no k, h.o.no k, h.v.no k, h.ol, h.vl, fun j hj => by have := h.bl j hj; omega, fun j hj => by have := h.dl j hj; exact ⟨this.1, by omega, this.2.2⟩, h.pd, fun j hj => by have := h.el j hj; exact ⟨by omega, this.2⟩, trN h.ch k⟩
theorem PI.addE {F : Nat → Prop} (h : PI w0 w c b room cs os vs O V B D P E) (hF : ∀ k, F k → k < w.heap.size ∧ ¬ B k ∧ ¬ D k ∧ O.blk ≠ some k ∧ V.blk ≠ some k) : PI w0 w c b room cs os vs O V B D P (fun k => E k ∨ F k) :=
  ⟨h.ca, h.bk, h.o, h.v, h.ol, h.vl, h.bl, h.dl, h.pd, fun k hk => hk.elim (h.el k) (hF k), h.ch⟩
theorem PI.subE {F : Nat → Prop} (h : PI w0 w c b room cs os vs O V B D P E) (hF : ∀ k, F k → E k) : PI w0 w c b room cs os vs O V B D P F :=
  ⟨h.ca, h.bk, h.o, h.v, h.ol, h.vl, h.bl, h.dl, h.pd, fun k hk => h.el k (hF k hk), h.ch⟩
/-- A block that was made behind this world is none of theirs. -/
theorem PI.free (h : PI w0 w c b room cs os vs O V B D P E) {k : Nat} (hk : w.heap.size ≤ k) : ¬ B k ∧ ¬ D k ∧ O.blk ≠ some k ∧ V.blk ≠ some k ∧ ¬ E k :=
  ⟨fun e => by have := h.bl k e; omega, fun e => by have := h.dl k e; omega, fun e => by have := h.o.lt k e; omega, fun e => by have := h.v.lt k e; omega, fun e => by have := h.el k e; omega⟩
/-- The same things, and new blocks that are watched. -/
theorem PI.grow {w' : World} {F : Nat → Prop} (h : PI w0 w c b room cs os vs O V B D P E) (k : Chg No w w') (hF : ∀ j, F j → w.heap.size ≤ j ∧ j < w'.heap.size) : PI w0 w' c b room cs os vs O V B D P (fun k => E k ∨ F k) :=
  (h.no k).addE fun j hj => by
    have := hF j hj
    have f := h.free this.1
    exact ⟨this.2, f.1, f.2.1, f.2.2.1, f.2.2.2.1⟩
/-- The cache has changed. -/
theorem PI.mv {w' : World} {B1 : Nat → Prop} {cs' : List TrV} (h : PI w0 w c b room cs os vs O V B D P E) (hca : CAt B1 w' c room cs') (hB : ∀ k, B1 k → B k ∨ w.heap.size ≤ k) (hc : Chg (fun k => B k ∨ w.heap.size ≤ k) w w') :
    PI w0 w' c b room cs' os vs O V (fun k => B1 k ∧ k < w'.heap.size) D P E := by
  have z := hc.size
  have z0 := h.ch.size
  have nB : ∀ k, k < w.heap.size → ¬ B k → ¬ (B k ∨ w.heap.size ≤ k) := fun k h1 h2 he => he.elim h2 (by omega)
  refine ⟨hca.nar, h.bk.chg hc (fun k hk => nB k (h.dl k hk).2.1 (h.dl k hk).2.2), h.o.chg hc (fun k hk => nB k (h.o.lt k hk) (h.ol k hk).2.1), h.v.chg hc (fun k hk => nB k (h.v.lt k hk) (h.vl k hk).2.1), fun k hk => ⟨(h.ol k hk).1, fun e => nB k (h.o.lt k hk) (h.ol k hk).2.1 (hB k e.1), (h.ol k hk).2.2⟩, fun k hk => ⟨(h.vl k hk).1, fun e => nB k (h.v.lt k hk) (h.vl k hk).2.1 (hB k e.1), (h.vl k hk).2.2⟩, fun k hk => ⟨?_, hk.2⟩, fun k hk => ⟨(h.dl k hk).1, by have := (h.dl k hk).2.1; omega, fun e => nB k (h.dl k hk).2.1 (h.dl k hk).2.2 (hB k e.1)⟩, h.pd, fun k hk => ⟨by have := (h.el k hk).1; omega, fun e => nB k (h.el k hk).1 (h.el k hk).2.1 (hB k e.1), (h.el k hk).2.2⟩, h.ch.trans hc (fun _ _ h => h) (fun k hk he => ?_)⟩
  · rcases hB k hk.1 with e | e
    · exact (h.bl k e).1
    · omega
  · rcases he with e | e
    · have := (h.bl k e).1; omega
    · omega
/-- A list put into the book. -/
theorem PI.add {α : Type} {E' : Enc α} {fn : FuncId} (call : ∀ {D P : Nat → Prop} {w : World} {b : Nat}, BkV D P w b → (∀ k, w.heap.size ≤ k → D k) → (∀ k, w.heap.size ≤ k → P k) → ∀ {l : Sl} {xs : List α}, Ox E' w l xs → xs.length ≤ 1000000 → ∀ {D' : Nat → Prop}, (∀ k, D k → D' k) → (∀ k, l.blk = some k → D' k ∧ ¬ D k) →
      Calls Try.prog fn #[.pointer (some ⟨b, 0, none⟩), l.val] w fun e w' => e = .returned (.tuple #[]) ∧ BkV D' P w' b ∧ Chg P w w')
    (h : PI w0 w c b room cs os vs O V B D P E) {l : Sl} {xs : List α} (hx : Ox E' w l xs) (hxs : xs.length ≤ 1000000) (hl : ∀ k, l.blk = some k → w0.heap.size ≤ k ∧ ¬ B k ∧ ¬ D k ∧ O.blk ≠ some k ∧ V.blk ≠ some k ∧ ¬ E k) :
    Calls Try.prog fn #[.pointer (some ⟨b, 0, none⟩), l.val] w fun e w' => e = .returned (.tuple #[]) ∧ ∃ D' P', PI w0 w' c b room cs os vs O V B D' P' E ∧ (∀ k, P' k → P k ∨ w.heap.size ≤ k) ∧ Chg P w w' := by
  have hk : BkV (fun k => D k ∨ w.heap.size ≤ k) (fun k => P k ∨ w.heap.size ≤ k) w b := h.bk.wid (fun _ h => Or.inl h) (fun _ h => Or.inl h)
  refine (call hk (fun k hk => Or.inr hk) (fun k hk => Or.inr hk) hx hxs (D' := fun k => (D k ∨ w.heap.size ≤ k) ∨ l.blk = some k) (fun k hk => Or.inl hk) (fun k hk => ⟨Or.inr hk, fun he => ?_⟩)).mono ?_
  · rcases he with he | he
    · exact (hl k hk).2.2.1 he
    · have := hx.lt k hk; omega
  rintro e w' ⟨rfl, g, ch⟩
  have z := ch.size
  have z0 := h.ch.size
  have cP : Chg P w w' := ch.mono (fun k hk he => he.elim (fun e => e) (fun e => by omega))
  refine ⟨rfl, _, _, ⟨h.ca.chg cP (fun k hk he => (h.dl k (h.pd k he)).2.2 hk), g.nar, h.o.chg cP (fun k hk he => (h.ol k hk).2.2.1 (h.pd k he)), h.v.chg cP (fun k hk he => (h.vl k hk).2.2 (h.pd k he)), fun k hk => ⟨(h.ol k hk).1, (h.ol k hk).2.1, fun e => ?_, (h.ol k hk).2.2.2⟩, fun k hk => ⟨(h.vl k hk).1, (h.vl k hk).2.1, fun e => ?_⟩, fun k hk => ⟨(h.bl k hk).1, by have := (h.bl k hk).2; omega⟩, fun k hk => ⟨?_, hk.2, fun e => ?_⟩, fun k hk => ⟨?_, hk.2⟩, fun k hk => ⟨by have := (h.el k hk).1; omega, (h.el k hk).2.1, fun e => ?_, (h.el k hk).2.2.2⟩, h.ch.trans cP (fun _ _ h => h) (fun k hk he => by have := (h.dl k (h.pd k he)).1; omega)⟩, fun k hk => hk.1, cP⟩
  · rcases e.1 with (e | e) | e
    · exact (h.ol k hk).2.2.1 e
    · have := h.o.lt k hk; omega
    · exact (hl k e).2.2.2.1 hk
  · rcases e.1 with (e | e) | e
    · exact (h.vl k hk).2.2 e
    · have := h.v.lt k hk; omega
    · exact (hl k e).2.2.2.2.1 hk
  · rcases hk.1 with (e | e) | e
    · exact (h.dl k e).1
    · omega
    · exact (hl k e).1
  · rcases hk.1 with (e' | e') | e'
    · exact (h.dl k e').2.2 e
    · have := (h.bl k e).2; omega
    · exact (hl k e').2.1 e
  · rcases hk.1 with e | e
    · exact Or.inl (Or.inl (h.pd k e))
    · exact Or.inl (Or.inr e)
  · rcases e.1 with (e | e) | e
    · exact (h.el k hk).2.2.1 e
    · have := (h.el k hk).1; omega
    · exact (hl k e).2.2.2.2.2 hk
theorem PI.ints (h : PI w0 w c b room cs os vs O V B D P E) {l : Sl} {xs : List Int} (hx : Ox intE w l xs) (hxs : xs.length ≤ 1000000) (hl : ∀ k, l.blk = some k → w0.heap.size ≤ k ∧ ¬ B k ∧ ¬ D k ∧ O.blk ≠ some k ∧ V.blk ≠ some k ∧ ¬ E k) :
    Calls Try.prog fn_hollowaybook_Book_Ints #[.pointer (some ⟨b, 0, none⟩), l.val] w fun e w' => e = .returned (.tuple #[]) ∧ ∃ D' P', PI w0 w' c b room cs os vs O V B D' P' E ∧ (∀ k, P' k → P k ∨ w.heap.size ≤ k) ∧ Chg P w w' :=
  h.add (@fun _ _ _ _ a1 a2 a3 _ _ a4 a5 _ a6 a7 => a1.ints a2 a3 a4 a5 a6 a7) hx hxs hl
/-- A trace's lists put into the book. -/
theorem PI.trace (h : PI w0 w c b room cs os vs O V B D P E) {t : Tr} {v : TrV} {F : Nat → Prop} (ht : TrX F w t v) (hs : v.ins.length ≤ 1000000 ∧ v.outs.length ≤ 1000000 ∧ v.cells.length ≤ 1000000) (hF : ∀ k, F k → w0.heap.size ≤ k ∧ ¬ B k ∧ ¬ D k ∧ O.blk ≠ some k ∧ V.blk ≠ some k ∧ ¬ E k) :
    Calls Try.prog fn_hollowaybook_Book_Trace #[.pointer (some ⟨b, 0, none⟩), .agg (trC t).toArray] w fun e w' => e = .returned (.tuple #[]) ∧ ∃ D' P', PI w0 w' c b room cs os vs O V B D' P' E ∧ (∀ k, P' k → P k ∨ w.heap.size ≤ k) ∧ Chg P w w' := by
  refine (hollowaybook_Book_Trace_lift (K := fun r w' => r = .tuple #[] ∧ ∃ D' P', PI w0 w' c b room cs os vs O V B D' P' E ∧ (∀ k, P' k → P k ∨ w.heap.size ≤ k) ∧ Chg P w w') ?_).mono (by rintro e w' ⟨r, rfl, rfl, h⟩; exact ⟨rfl, h⟩)
  unfold hollowaybook_Book_Trace_sh
  intro b11 w12 hb11 hw12
  have c12 := tal hw12
  have z12 : w12.heap.size = w.heap.size + 1 := by rw [hw12]; simp
  have o12 : Ob w12 b11 (trC t) T_api_Trace := by rw [hw12, hb11]; exact Ob.new w (trC t) T_api_Trace
  have hfr := h.free (k := b11) (by omega)
  have hI := ht.insD
  have hO := ht.outsD
  have hC := ht.cellsD
  have lI : ∀ k, t.ins.blk = some k → k < w.heap.size := ht.ins.lt
  have lO : ∀ k, t.outs.blk = some k → k < w.heap.size := ht.outs.lt
  have lC : ∀ k, t.cells.blk = some k → k < w.heap.size := ht.cells.lt
  have h12 : PI w0 w12 c b room cs os vs O V B D P (fun k => E k ∨ (k = b11 ∨ t.outs.blk = some k ∨ t.cells.blk = some k)) := (h.no c12).addE fun k hk => by
    rcases hk with hk | hk | hk
    · subst hk; exact ⟨o12.lt, hfr.1, hfr.2.1, hfr.2.2.1, hfr.2.2.2.1⟩
    · have := hF k (hO k hk).1
      exact ⟨by have := lO k hk; omega, this.2.1, this.2.2.1, this.2.2.2.1, this.2.2.2.2.1⟩
    · have := hF k (hC k hk)
      exact ⟨by have := lC k hk; omega, this.2.1, this.2.2.1, this.2.2.2.1, this.2.2.2.2.1⟩
  refine ⟨t.ins, o12.cell rfl, ?_⟩
  refine (h12.add (@fun _ _ _ _ a1 a2 a3 _ _ a4 a5 _ a6 a7 => a1.codes a2 a3 a4 a5 a6 a7) (ht.ins.no c12) hs.1 (fun k hk => ?_)).mono ?_
  · have f := hF k (hI k hk).1
    refine ⟨f.1, f.2.1, f.2.2.1, f.2.2.2.1, f.2.2.2.2.1, fun e => ?_⟩
    rcases e with e | e | e | e
    · exact f.2.2.2.2.2 e
    · have := lI k hk; omega
    · exact (hI k hk).2.1 e
    · exact (hI k hk).2.2 e
  rintro e w15 ⟨rfl, D1, P1, h15, p15, c15⟩
  have o15 := o12.chg c15 (fun e => hfr.2.1 (h.pd _ e))
  refine ⟨rfl, t.outs, o15.cell rfl, ?_⟩
  have keepF : ∀ k, F k → ¬ P k := fun k hk e => (hF k hk).2.2.1 (h.pd k e)
  have e15 := h15.el
  refine ((h15.subE (F := fun k => E k ∨ (k = b11 ∨ t.cells.blk = some k)) (fun k hk => by rcases hk with hk | hk | hk; · { exact Or.inl hk }; · { exact Or.inr (Or.inl hk) }; · exact Or.inr (Or.inr (Or.inr hk)))).add (@fun _ _ _ _ a1 a2 a3 _ _ a4 a5 _ a6 a7 => a1.exits a2 a3 a4 a5 a6 a7) ((ht.outs.no c12).chg c15 (fun k hk => keepF k (hO k hk).1)) hs.2.1 (fun k hk => ?_)).mono ?_
  · have f := hF k (hO k hk).1
    have g := e15 k (Or.inr (Or.inr (Or.inl hk)))
    refine ⟨f.1, g.2.1, g.2.2.1, g.2.2.2.1, g.2.2.2.2, fun e => ?_⟩
    rcases e with e | e | e
    · exact f.2.2.2.2.2 e
    · have := lO k hk; omega
    · exact (hO k hk).2 e
  rintro e w18 ⟨rfl, D2, P2, h18, p18, c18⟩
  have nP1 : ∀ k, (k = b11 ∨ t.outs.blk = some k ∨ t.cells.blk = some k) → ¬ P1 k := fun k hk e => (e15 k (Or.inr hk)).2.2.1 (h15.pd k e)
  have o18 := o15.chg c18 (nP1 _ (Or.inl rfl))
  refine ⟨rfl, t.cells, o18.cell rfl, ?_⟩
  have e18 := h18.el
  refine ((h18.subE (F := E) (fun k hk => Or.inl hk)).ints (((ht.cells.no c12).chg c15 (fun k hk => keepF k (hC k hk))).chg c18 (fun k hk => nP1 k (Or.inr (Or.inr hk)))) hs.2.2 (fun k hk => ?_)).mono ?_
  · have f := hF k (hC k hk)
    have g := e18 k (Or.inr (Or.inr hk))
    exact ⟨f.1, g.2.1, g.2.2.1, g.2.2.2.1, g.2.2.2.2, f.2.2.2.2.2⟩
  rintro e w21 ⟨rfl, D3, P3, h21, p21, c21⟩
  have z15 := c15.size
  have z18 := c18.size
  refine ⟨rfl, rfl, D3, P3, h21, fun k hk => ?_, ((c12.trans c15 (U := P) (fun _ _ h => h.elim) (fun _ _ h => h)).trans c18 (fun _ _ h => h) (fun k hk he => ?_)).trans c21 (fun _ _ h => h) (fun k hk he => ?_)⟩
  · rcases p21 k hk with e | e
    · rcases p18 k e with e | e
      · rcases p15 k e with e | e
        · exact Or.inl e
        · exact Or.inr (by omega)
      · exact Or.inr (by omega)
    · exact Or.inr (by omega)
  · rcases p15 k he with e | e
    · exact e
    · omega
  · rcases p18 k he with e | e
    · rcases p15 k e with e | e
      · exact e
      · omega
    · omega
theorem PI.appO (h : PI w0 w c b room cs os vs O V B D P E) {b' : Nat} {x : Int} (hlit : Rd intE w ⟨some ⟨b', 0, none⟩, 1, 1⟩ [x]) (hsm : os.length ≤ 100000) {G : Sl → World → Prop} (k : ∀ (s' : Sl) (w' : World), PI w0 w' c b room cs (os ++ [x]) vs s' V B D P E → Chg (fun k => O.blk = some k) w w' → G s' w') :
    ∃ s' : Sl, ∃ w' : World, (Builtin.append_ #[T_sl_int, T_sl_int] T_sl_int #[O.val, .slice (some ⟨b', 0, none⟩) 1 1]).run Try.prog w = .ok s'.val w' ∧ G s' w' := by
  refine appx_ok intOk rfl rfl h.o hlit (at' := ⟨b', 0, none⟩) rfl (fun _ => by simp) (by show (os.length + 1) * 8 ≤ _; omega) (by show os.length + 1 ≤ _; unfold maxLen; omega) ?_
  intro s' w' hs' ch hbk _
  have z := ch.size
  have z0 := h.ch.size
  have sp : ∀ k, s'.blk = some k → O.blk = some k ∨ w.heap.size ≤ k := fun k hk => by
    rcases hbk with e | e
    · exact Or.inl (e ▸ hk)
    · exact Or.inr (e k hk)
  refine k s' w' ⟨h.ca.chg ch (fun k hk he => (h.ol k he).2.1 hk), h.bk.chg ch (fun k hk he => (h.ol k he).2.2.1 hk), hs', h.v.chg ch (fun k hk he => (h.ol k he).2.2.2 hk), fun k hk => ?_, h.vl, fun k hk => ⟨(h.bl k hk).1, by have := (h.bl k hk).2; omega⟩, fun k hk => ⟨(h.dl k hk).1, by have := (h.dl k hk).2.1; omega, (h.dl k hk).2.2⟩, h.pd, fun k hk => ⟨by have := (h.el k hk).1; omega, (h.el k hk).2.1, (h.el k hk).2.2.1, fun e => ?_, (h.el k hk).2.2.2.2⟩, h.ch.trans ch (fun _ _ h => h) (fun k hk he => by have := (h.ol k he).1; omega)⟩ ch
  · rcases sp k hk with e | e
    · exact h.ol k e
    · have f := h.free e
      exact ⟨by omega, f.1, f.2.1, f.2.2.2.1⟩
  · rcases sp k e with e | e
    · exact (h.el k hk).2.2.2.1 e
    · have := (h.el k hk).1; omega
theorem PI.appV (h : PI w0 w c b room cs os vs O V B D P E) {b' : Nat} {x : Int} (hlit : Rd intE w ⟨some ⟨b', 0, none⟩, 1, 1⟩ [x]) (hsm : vs.length ≤ 100000) {G : Sl → World → Prop} (k : ∀ (s' : Sl) (w' : World), PI w0 w' c b room cs os (vs ++ [x]) O s' B D P E → Chg (fun k => V.blk = some k) w w' → G s' w') :
    ∃ s' : Sl, ∃ w' : World, (Builtin.append_ #[T_sl_int, T_sl_int] T_sl_int #[V.val, .slice (some ⟨b', 0, none⟩) 1 1]).run Try.prog w = .ok s'.val w' ∧ G s' w' := by
  refine appx_ok intOk rfl rfl h.v hlit (at' := ⟨b', 0, none⟩) rfl (fun _ => by simp) (by show (vs.length + 1) * 8 ≤ _; omega) (by show vs.length + 1 ≤ _; unfold maxLen; omega) ?_
  intro s' w' hs' ch hbk _
  have z := ch.size
  have z0 := h.ch.size
  have sp : ∀ k, s'.blk = some k → V.blk = some k ∨ w.heap.size ≤ k := fun k hk => by
    rcases hbk with e | e
    · exact Or.inl (e ▸ hk)
    · exact Or.inr (e k hk)
  refine k s' w' ⟨h.ca.chg ch (fun k hk he => (h.vl k he).2.1 hk), h.bk.chg ch (fun k hk he => (h.vl k he).2.2 hk), h.o.chg ch (fun k hk he => (h.ol k hk).2.2.2 he), hs', fun k hk => ⟨(h.ol k hk).1, (h.ol k hk).2.1, (h.ol k hk).2.2.1, fun e => ?_⟩, fun k hk => ?_, fun k hk => ⟨(h.bl k hk).1, by have := (h.bl k hk).2; omega⟩, fun k hk => ⟨(h.dl k hk).1, by have := (h.dl k hk).2.1; omega, (h.dl k hk).2.2⟩, h.pd, fun k hk => ⟨by have := (h.el k hk).1; omega, (h.el k hk).2.1, (h.el k hk).2.2.1, (h.el k hk).2.2.2.1, fun e => ?_⟩, h.ch.trans ch (fun _ _ h => h) (fun k hk he => by have := (h.vl k he).1; omega)⟩ ch
  · rcases sp k e with e | e
    · exact (h.ol k hk).2.2.2 e
    · have := h.o.lt k hk; omega
  · rcases sp k hk with e | e
    · exact h.vl k e
    · have f := h.free e
      exact ⟨by omega, f.1, f.2.1⟩
  · rcases sp k e with e | e
    · exact (h.el k hk).2.2.2.2 e
    · have := (h.el k hk).1; omega
/-- The order's list made anew, without its i-th. -/
theorem erase_list {os : List Int} {w : World} {O : Sl} (hO : Rd intE w O os) {i : Nat} (hi : i < os.length) (hsm : os.length ≤ 100000) {G : Sl → World → Prop} (k : ∀ (s' : Sl) (w' : World), Ow intE w' s' (os.eraseIdx i) → Chg No w w' → (∀ k, s'.blk = some k → w.heap.size ≤ k) → G s' w') :
    ∃ s42 : Sl, ∃ w43 : World, (Builtin.append_ #[T_sl_int, T_sl_int] T_sl_int #[.slice none 0 0, (Sl.sub O.ptr O.cap 0 (Int.toNat (i : Int)) 1).val]).run Try.prog w = .ok (s42.val) w43 ∧ Tt w43 ∧
    ∃ s44 : Sl, ∃ w45 : World, (Builtin.append_ #[T_sl_int, T_sl_int] T_sl_int #[s42.val, (Sl.sub O.ptr O.cap (Int.toNat ((i : Int) + 1)) O.len 1).val]).run Try.prog w43 = .ok (s44.val) w45 ∧ G s44 w45 := by
  have hl := hO.len
  rw [Int.toNat_natCast, sub0, show Int.toNat ((i : Int) + 1) = i + 1 by omega, hl]
  have h1 := hO.take (n := i) (by omega)
  have h2 := hO.drop (m := i + 1) (by omega)
  have l1 : (os.take i).length = i := by rw [List.length_take]; omega
  have l2 : (os.drop (i + 1)).length = os.length - (i + 1) := List.length_drop
  refine app_ok intOk (s := nilS) rfl rfl (Ow.nil _ _) h1 (by show (0 + (os.take i).length) * 8 ≤ _; omega) (by show 0 + (os.take i).length ≤ _; unfold maxLen; omega) ?_
  intro s42 w43 h42 c43 b43
  rw [List.nil_append] at h42
  have c43 : Chg No w w43 := c43.mono (fun k _ hk => by cases hk)
  have n42 : ∀ k, s42.blk = some k → w.heap.size ≤ k := fun k hk => by
    rcases b43 with e | e
    · rw [e] at hk; cases hk
    · have := Option.some.inj (e.symm.trans hk); omega
  refine ⟨trivial, ?_⟩
  refine app_ok intOk rfl rfl h42 (h2.no c43) (by rw [l1, l2]; show (i + (os.length - (i + 1))) * 8 ≤ _; omega) (by rw [l1, l2]; unfold maxLen; omega) ?_
  intro s44 w45 h44 c45 b45
  rw [← List.eraseIdx_eq_take_drop_succ] at h44
  have z43 := c43.size
  refine k s44 w45 h44 (c43.trans c45 (fun _ _ h => h) (fun k hk he => by have := n42 k he; omega)) (fun k hk => ?_)
  rcases b45 with e | e
  · exact n42 k (e ▸ hk)
  · have := Option.some.inj (e.symm.trans hk); omega
/-- Another list in the place of the first, of the second. -/
theorem PI.newO (h : PI w0 w c b room cs os vs O V B D P E) {O' : Sl} {os' : List Int} {w' : World} (cw : Chg No w w') (ho : Ox intE w' O' os') (hb : ∀ k, O'.blk = some k → O.blk = some k ∨ w.heap.size ≤ k) : PI w0 w' c b room cs os' vs O' V B D P E := by
  have g := h.no cw
  have z0 := h.ch.size
  refine ⟨g.ca, g.bk, ho, g.v, fun k hk => ?_, g.vl, g.bl, g.dl, g.pd, fun k hk => ⟨(g.el k hk).1, (g.el k hk).2.1, (g.el k hk).2.2.1, fun e => ?_, (g.el k hk).2.2.2.2⟩, g.ch⟩
  · rcases hb k hk with e | e
    · exact h.ol k e
    · have f := h.free e
      exact ⟨by omega, f.1, f.2.1, f.2.2.2.1⟩
  · rcases hb k e with e | e
    · exact (h.el k hk).2.2.2.1 e
    · have := (h.el k hk).1; omega
theorem PI.newV (h : PI w0 w c b room cs os vs O V B D P E) {V' : Sl} {vs' : List Int} {w' : World} (cw : Chg No w w') (hv : Ox intE w' V' vs') (hb : ∀ k, V'.blk = some k → V.blk = some k ∨ w.heap.size ≤ k) : PI w0 w' c b room cs os vs' O V' B D P E := by
  have g := h.no cw
  have z0 := h.ch.size
  refine ⟨g.ca, g.bk, g.o, hv, fun k hk => ⟨(g.ol k hk).1, (g.ol k hk).2.1, (g.ol k hk).2.2.1, fun e => ?_⟩, fun k hk => ?_, g.bl, g.dl, g.pd, fun k hk => ⟨(g.el k hk).1, (g.el k hk).2.1, (g.el k hk).2.2.1, (g.el k hk).2.2.2.1, fun e => ?_⟩, g.ch⟩
  · rcases hb k e with e | e
    · exact (h.ol k hk).2.2.2 e
    · have := h.o.lt k hk; omega
  · rcases hb k hk with e | e
    · exact h.vl k e
    · have f := h.free e
      exact ⟨by omega, f.1, f.2.1⟩
  · rcases hb k e with e | e
    · exact (h.el k hk).2.2.2.2 e
    · have := (h.el k hk).1; omega
end
end Go.Proofs.Ytlpbdloloaoapaa

/- CachePlays, in plain words: pairs of a place and a number. -/
set_option maxRecDepth 100000
namespace Go.Proofs.Ytlpbdloloaoapaa
open Go.RowKit

/-- An operation: 1 Put, 2 Get, 3 Drop. -/
structure Cop where
  kind : Int
  start : Int
  v : Int
def copC (o : Cop) : List Value := [.int .i64 o.kind, .int .i64 o.start, .int .i64 o.v]
def cop0 : Cop := ⟨0, 0, 0⟩
def copE : Enc Cop := ⟨T_hollowaylaw21_Op, 3, 24, copC, by intro x; rfl, by intro x u hu; simp [copC] at hu; rcases hu with rfl | rfl | rfl <;> rfl, by decide⟩
def vsP (ps : List (Int × Int)) : List TrV := ps.map fun p => trV p.1 p.2
def fsP (ps : List (Int × Int)) : List Int := ps.map (·.1)
def snP (ps : List (Int × Int)) : List Int := ps.map (·.2)
theorem vsP_starts (ps : List (Int × Int)) : (vsP ps).map (·.start) = fsP ps := by unfold vsP fsP; rw [List.map_map]; rfl
theorem vsP_len (ps : List (Int × Int)) : (vsP ps).length = ps.length := by simp [vsP]
theorem fsP_len (ps : List (Int × Int)) : (fsP ps).length = ps.length := by simp [fsP]
theorem snP_len (ps : List (Int × Int)) : (snP ps).length = ps.length := by simp [snP]
theorem map_er {α β : Type} (f : α → β) : ∀ (l : List α) (k : Nat), (l.eraseIdx k).map f = (l.map f).eraseIdx k
  | [], _ => rfl
  | a :: r, 0 => rfl
  | a :: r, k + 1 => by show f a :: (r.eraseIdx k).map f = _; rw [map_er f r k]; rfl
/-- Where x stands. -/
def AtS (x : Int) (xs : List Int) (n : Int) : Prop := (n = -1 ∧ x ∉ xs) ∨ ∃ k : Nat, n = k ∧ xs[k]? = some x
theorem PlaceS.at {x : Int} {xs : List Int} {n : Int} (h : PlaceS x xs n) : AtS x xs n := h.imp (fun h => h) (fun ⟨k, h1, h2, _⟩ => ⟨k, h1, h2⟩)
theorem nd_inj {xs : List Int} (nd : xs.Nodup) {i j : Nat} {x : Int} (hi : xs[i]? = some x) (hj : xs[j]? = some x) : i = j :=
  (List.getElem?_inj (List.getElem?_eq_some_iff.1 hi).1 nd).1 (hi.trans hj.symm)
theorem AtS.uniq {x : Int} {xs : List Int} (nd : xs.Nodup) {n m : Int} (h : AtS x xs n) (g : AtS x xs m) : n = m := by
  rcases h with ⟨rfl, h⟩ | ⟨k, rfl, h⟩
  · rcases g with ⟨rfl, _⟩ | ⟨j, rfl, g⟩
    · rfl
    · exact absurd (List.mem_of_getElem? g) h
  · rcases g with ⟨rfl, g⟩ | ⟨j, rfl, g⟩
    · exact absurd (List.mem_of_getElem? h) g
    · rw [nd_inj nd h g]
theorem AtS.ge {x : Int} {xs : List Int} {n : Int} (h : AtS x xs n) : (0 ≤ n ↔ x ∈ xs) ∧ (0 ≤ n → ∃ k : Nat, n = k ∧ k < xs.length ∧ xs[k]? = some x) := by
  rcases h with ⟨rfl, h⟩ | ⟨k, rfl, h⟩
  · exact ⟨⟨fun h => by omega, fun g => absurd g h⟩, fun h => by omega⟩
  · exact ⟨⟨fun _ => List.mem_of_getElem? h, fun _ => by omega⟩, fun _ => ⟨k, rfl, (List.getElem?_eq_some_iff.1 h).1, h⟩⟩
def erP (ps : List (Int × Int)) (n : Int) : List (Int × Int) := if 0 ≤ n then ps.eraseIdx n.toNat else ps
theorem vsP_er (ps : List (Int × Int)) (n : Int) : vsP (erP ps n) = if 0 ≤ n then (vsP ps).eraseIdx n.toNat else vsP ps := by
  unfold erP; split
  · unfold vsP; rw [map_er]
  · rfl
theorem erP_len (ps : List (Int × Int)) (n : Int) : (erP ps n).length ≤ ps.length := by
  unfold erP; split
  · rw [List.length_eraseIdx]; split <;> omega
  · exact Nat.le_refl _
theorem erP_nd {ps : List (Int × Int)} (nd : (fsP ps).Nodup) (n : Int) : (fsP (erP ps n)).Nodup := by
  unfold erP; split
  · unfold fsP; rw [map_er]; exact List.Nodup.sublist (List.eraseIdx_sublist _ _) nd
  · exact nd
theorem erP_no {ps : List (Int × Int)} (nd : (fsP ps).Nodup) {x n : Int} (h : AtS x (fsP ps) n) : x ∉ fsP (erP ps n) := by
  unfold erP
  rcases h with ⟨rfl, h⟩ | ⟨k, rfl, h⟩
  · rw [if_neg (by omega)]; exact h
  · rw [if_pos (by omega), Int.toNat_natCast]
    intro hm
    unfold fsP at hm
    rw [map_er] at hm
    obtain ⟨j, hj⟩ := List.getElem?_of_mem hm
    rw [List.getElem?_eraseIdx] at hj
    split at hj
    · have := nd_inj nd hj h; omega
    · have := nd_inj nd hj h; omega
theorem nd_snoc {ps : List (Int × Int)} (nd : (fsP ps).Nodup) {x v : Int} (h : x ∉ fsP ps) : (fsP (ps ++ [(x, v)])).Nodup := by
  unfold fsP; rw [List.map_append]
  refine List.nodup_append.2 ⟨nd, List.pairwise_singleton _ _, fun a ha b hb => ?_⟩
  have hb : b = x := by simpa using hb
  rw [hb]
  intro he
  rw [he] at ha
  exact h ha
theorem nd_drop {ps : List (Int × Int)} (nd : (fsP ps).Nodup) (k : Nat) : (fsP (ps.drop k)).Nodup := by
  unfold fsP; rw [List.map_drop]; exact List.Nodup.sublist (List.drop_sublist _ _) nd
theorem fsP_er (ps : List (Int × Int)) (n : Int) : fsP (erP ps n) = if 0 ≤ n then (fsP ps).eraseIdx n.toNat else fsP ps := by
  unfold erP; split
  · unfold fsP; rw [map_er]
  · rfl
theorem snP_er (ps : List (Int × Int)) (n : Int) : snP (erP ps n) = if 0 ≤ n then (snP ps).eraseIdx n.toNat else snP ps := by
  unfold erP; split
  · unfold snP; rw [map_er]
  · rfl
theorem varT {w : World} (t : Tr) {G : Nat → World → Prop} (k : ∀ b w', b = w.heap.size → w.heap.size + 1 ≤ w'.heap.size → Ob w' b (trC t) T_api_Trace → Chg No w w' → G b w') : ∀ (b : Nat) (w1 : World), b = w.heap.size → w1 = World.alloc w (.cells (trC tr0).toArray T_api_Trace) → wrOk w1 ⟨b, 0, none⟩ 9 ∧ ∀ w2 : World, w2 = stW w1 ⟨b, 0, none⟩ 0 (trC t) → G b w2 := fun b w1 hb hw => by
  have o1 : Ob w1 b (trC tr0) T_api_Trace := by rw [hw, hb]; exact Ob.new w (trC tr0) T_api_Trace
  have c1 := tal hw
  refine ⟨o1.wr (by simp [trC]), fun w2 hw2 => ?_⟩
  have o2 : Ob w2 b (trC t) T_api_Trace := by
    have := Ob.st (vs := trC t) (k := 0) (i := 0) o1
    rw [trC_whole] at this
    rw [hw2]; exact this
  have c2 : Chg (fun j => j = b) w1 w2 := by rw [hw2]; exact Chg.st (S := fun j => j = b) rfl
  have z1 := o1.lt
  have z2 := c2.size
  exact k b w2 hb (by omega) o2 (c1.trans c2 (fun _ _ h => h) (fun j hj he => by omega))
theorem rdT {w : World} {b : Nat} {t : Tr} {T : TypeId} {G : Int → Int → Int → Int → Int → Sl → Sl → Int → Sl → Prop} (o : Ob w b (trC t) T) (g : G t.start t.slots t.backs t.grow t.growBack t.ins t.outs t.last t.cells) :
    ∃ n1 : Int, ∃ n2 : Int, ∃ n3 : Int, ∃ n4 : Int, ∃ n5 : Int, ∃ s6 : Sl, ∃ s7 : Sl, ∃ n8 : Int, ∃ s9 : Sl, w.cell? ⟨b, 0, none⟩ = some (.int .i64 n1) ∧ w.cell? ⟨b, 1, none⟩ = some (.int .i64 n2) ∧ w.cell? ⟨b, 2, none⟩ = some (.int .i64 n3) ∧ w.cell? ⟨b, 3, none⟩ = some (.int .i64 n4) ∧ w.cell? ⟨b, 4, none⟩ = some (.int .i64 n5) ∧ w.cell? ⟨b, 5, none⟩ = some (s6.val) ∧ w.cell? ⟨b, 6, none⟩ = some (s7.val) ∧ w.cell? ⟨b, 7, none⟩ = some (.int .i64 n8) ∧ w.cell? ⟨b, 8, none⟩ = some (s9.val) ∧ G n1 n2 n3 n4 n5 s6 s7 n8 s9 :=
  ⟨_, _, _, _, _, _, _, _, _, o.cell rfl, o.cell rfl, o.cell rfl, o.cell rfl, o.cell rfl, o.cell rfl, o.cell rfl, o.cell rfl, o.cell rfl, g⟩
theorem hdT {Q : World → Prop} {b : Nat} {t : Tr} {T : TypeId} {G : Int → Int → Int → Int → Int → Sl → Sl → Int → Sl → Prop} (h : ∀ w', Q w' → Ob w' b (trC t) T) (g : G t.start t.slots t.backs t.grow t.growBack t.ins t.outs t.last t.cells) :
    ∃ n1 : Int, ∃ n2 : Int, ∃ n3 : Int, ∃ n4 : Int, ∃ n5 : Int, ∃ s6 : Sl, ∃ s7 : Sl, ∃ n8 : Int, ∃ s9 : Sl, held Q ⟨b, 0, none⟩ (.int .i64 n1) ∧ held Q ⟨b, 1, none⟩ (.int .i64 n2) ∧ held Q ⟨b, 2, none⟩ (.int .i64 n3) ∧ held Q ⟨b, 3, none⟩ (.int .i64 n4) ∧ held Q ⟨b, 4, none⟩ (.int .i64 n5) ∧ held Q ⟨b, 5, none⟩ (s6.val) ∧ held Q ⟨b, 6, none⟩ (s7.val) ∧ held Q ⟨b, 7, none⟩ (.int .i64 n8) ∧ held Q ⟨b, 8, none⟩ (s9.val) ∧ G n1 n2 n3 n4 n5 s6 s7 n8 s9 :=
  ⟨_, _, _, _, _, _, _, _, _, Ob.held h rfl, Ob.held h rfl, Ob.held h rfl, Ob.held h rfl, Ob.held h rfl, Ob.held h rfl, Ob.held h rfl, Ob.held h rfl, Ob.held h rfl, g⟩
/-- What is done to a watched block changes none of theirs. -/
theorem PI.out {w0 w : World} {c b : Nat} {room : Int} {cs : List TrV} {os vs : List Int} {O V : Sl} {B D P E F : Nat → Prop} {w' : World} (h : PI w0 w c b room cs os vs O V B D P E) (k : Chg F w w') (hF : ∀ k, F k → E k ∧ w0.heap.size ≤ k) : PI w0 w' c b room cs os vs O V B D P E := by
  have z := k.size
  have nf : ∀ {j : Nat}, (¬ E j) → ¬ F j := fun hn hf => hn (hF _ hf).1
  exact ⟨h.ca.chg k (fun j hj hf => (h.el j (hF j hf).1).2.1 hj), h.bk.chg k (fun j hj hf => (h.el j (hF j hf).1).2.2.1 hj), h.o.chg k (fun j hj hf => (h.el j (hF j hf).1).2.2.2.1 hj), h.v.chg k (fun j hj hf => (h.el j (hF j hf).1).2.2.2.2 hj), h.ol, h.vl, fun j hj => by have := h.bl j hj; omega, fun j hj => by have := h.dl j hj; exact ⟨this.1, by omega, this.2.2⟩, h.pd, fun j hj => by have := h.el j hj; exact ⟨by omega, this.2⟩, h.ch.trans k (fun _ _ h => h) (fun j hj hf => by have := (hF j hf).2; omega)⟩
/-- What there is behind an operation, and what the operation was. -/
def PS (w0 : World) (c b : Nat) (room : Int) (q : Nat) (o : Cop) (cs : List TrV) (os vs : List Int) (O V : Sl) (w : World) : Prop :=
  ∃ B D P, PI w0 w c b room cs os vs O V B D P (fun k => k = q) ∧ Ob w q (copC o) T_hollowaylaw21_Op
theorem PS.no {w0 w w' : World} {c b : Nat} {room : Int} {q : Nat} {o : Cop} {cs : List TrV} {os vs : List Int} {O V : Sl} (h : PS w0 c b room q o cs os vs O V w) (k : Chg No w w') : PS w0 c b room q o cs os vs O V w' := by
  obtain ⟨B, D, P, h1, h2⟩ := h
  exact ⟨B, D, P, h1.no k, h2.no k⟩
end Go.Proofs.Ytlpbdloloaoapaa

/- CachePlays: the walk. -/
set_option maxRecDepth 100000
namespace Go.Proofs.Ytlpbdloloaoapaa
open Go.RowKit

theorem cachePlays_walk (most : Int) (s : Sl) (xs : List Cop) (w : World) (h : Rd copE w s xs) : Calls Try.prog fn_hollowaylaw21_CachePlays #[.int .i64 most, s.val] w fun e w' => e = .returned (.bool true) ∧ Chg No w w' := by
  refine (hollowaylaw21_CachePlays_lift (K := fun v w' => v = .bool true ∧ Chg No w w') ?_).mono (by rintro e w' ⟨v, rfl, rfl, h⟩; exact ⟨rfl, h⟩)
  unfold hollowaylaw21_CachePlays_sh
  have hlen := h.len
  refine ⟨fun b w' => (b = false → xs.length ≤ 120) ∧ Chg No w w', ?_, ?_⟩
  rotate_left
  · refine brB_of (fun _ => ⟨(fun h => by cases h), Chg.refl _ _⟩) (fun h1 => ?_)
    have h1 := of_decide_eq_false h1
    refine (alive21_any w).mono ?_
    rintro e w4 ⟨rfl, c4⟩
    exact ⟨_, rfl, fun _ => by omega, c4⟩
  rintro b w6 ⟨hb, c6⟩
  refine brB_of (fun _ => ?_) (fun hf => ?_)
  · refine (alive21_any w6).mono ?_
    rintro e w9 ⟨rfl, c9⟩
    exact ⟨_, rfl, rfl, trN c6 c9⟩
  have hxs := hb hf
  refine (cnew_any most w6).mono ?_
  rintro e w12 ⟨c, rfl, hca, c12⟩
  refine ⟨_, rfl, brB_f ?_⟩
  obtain ⟨room, hroom⟩ : ∃ room : Int, room = imin (imax most 0) 100 := ⟨_, rfl⟩
  have hr0 : 0 ≤ room ∧ room ≤ 100 := by rw [hroom]; unfold imin imax; split <;> split <;> omega
  rw [← hroom] at hca ⊢
  intro b14 w15 hb14 hw15
  have c15 := tal hw15
  have z15 : w15.heap.size = w12.heap.size + 1 := by rw [hw15]; simp
  have o14 : Ob w15 b14 (bookV nilS nilS nilS nilS nilS nilS) T_hollowaybook_Book := by rw [hw15, hb14]; exact Ob.new w12 (bookV nilS nilS nilS nilS nilS nilS) T_hollowaybook_Book
  have k15 := trN (trN c6 c12) c15
  have z6 := c6.size
  have z12 := c12.size
  have hI0 : PI w w15 c b14 room (vsP []) (fsP []) (snP []) nilS nilS (fun k => w6.heap.size ≤ k ∧ k < w12.heap.size) (fun k => k = b14) (fun k => k = b14) No :=
    ⟨hca.nar.no c15, BkV.empty o14 rfl rfl, Ox.nil _ _, Ox.nil _ _, (fun k hk => by cases hk), (fun k hk => by cases hk), fun k hk => by omega, fun k hk => by omega, fun k hk => hk, fun k hk => hk.elim, k15⟩
  refine ⟨fun O V i w' => ∃ (j : Nat) (ps : List (Int × Int)) (B D P : Nat → Prop), i = j ∧ j ≤ xs.length ∧ PI w w' c b14 room (vsP ps) (fsP ps) (snP ps) O V B D P No ∧ (fsP ps).Nodup ∧ (ps.length : Int) ≤ room, fun _ _ i _ => xs.length - i.toNat, ⟨0, [], _, _, _, rfl, Nat.zero_le _, hI0, List.Pairwise.nil, hr0.1⟩, ?_⟩
  rintro O V i w16 ⟨j, ps, B, D, P, rfl, hj, hP, nd, hle⟩
  refine brB_of (fun hlt => ?_) (fun _ => ?_)
  rotate_left
  · -- the end: a cache that is nil, the book
    refine (getN 1 w16).mono ?_
    rintro e w285 ⟨rfl, c285⟩
    refine ⟨_, _, _, _, _, tr0.ins, tr0.outs, _, tr0.cells, _, rfl, varT tr0 fun b296 w298 hb296 z298 o296 c298 => ?_⟩
    have k298 := trN c285 c298
    refine (eldestN w298).mono ?_
    rintro e w300 ⟨rfl, rfl⟩
    refine ⟨_, _, rfl, brB_t (brB_t ?_)⟩
    refine (trace_any 1 1 w298).mono ?_
    rintro e w304 ⟨t, rfl, ht, c304⟩
    refine ⟨_, _, _, _, _, t.ins, t.outs, _, t.cells, rfl, ?_⟩
    refine (putN t w304).mono ?_
    rintro e w315 ⟨rfl, c315⟩
    have k315 := trN (trN k298 c304) c315
    refine ⟨nilS, rfl, ?_⟩
    refine (startsN w315).mono ?_
    rintro e w318 ⟨rfl, rfl⟩
    refine ⟨nilS, rfl, ?_⟩
    refine (lenN w315).mono ?_
    rintro e w321 ⟨rfl, rfl⟩
    refine ⟨0, rfl, ?_⟩
    have e0 : (wr (wr (((nilS.len : Nat) : Int) + ((nilS.len : Nat) : Int)) + 0) == (0 : Int)) = true := by
      show (wr (wr ((0 : Int) + 0) + 0) == (0 : Int)) = true
      rw [wr_of (x := (0 : Int) + 0) (by omega) (by omega), wr_of (by omega) (by omega)]; rfl
    rw [e0]
    refine brB_t ((hasN 1 w315).mono ?_)
    rintro e w324 ⟨rfl, c324⟩
    refine ⟨_, rfl, brB_t ((dropN 1 w324).mono ?_)⟩
    rintro e w327 ⟨rfl, c327⟩
    have k327 := trN (trN k315 c324) c327
    refine ⟨_, rfl, brB_t (((hP.no k327).bk.apart).mono ?_)⟩
    rintro e w330 ⟨rfl, c330⟩
    exact ⟨_, rfl, rfl, (trN hP.ch k327).trans c330 (fun _ _ h => h) (fun k hk he => by have := hP.dl k he; omega)⟩
  -- a round
  have hlt : j < xs.length := by have := of_decide_eq_true hlt; omega
  obtain ⟨o, hx⟩ : ∃ o, xs[j]? = some o := ⟨_, List.getElem?_eq_getElem hlt⟩
  refine (h.no hP.ch).ix (i := (j : Int)) (by omega) (by rw [Int.toNat_natCast]; exact hx) fun a18 _ hcell => ?_
  have q0 := hcell 0 _ rfl
  rw [addr0] at q0
  refine ⟨o.kind, o.start, o.v, q0, hcell 1 _ rfl, hcell 2 _ rfl, ?_⟩
  intro b22 w23 hb22 hw23
  have o23 : Ob w23 b22 (copC cop0) T_hollowaylaw21_Op := by rw [hw23, hb22]; exact Ob.new w16 (copC cop0) T_hollowaylaw21_Op
  have c23 := tal hw23
  have l23 := o23.lt
  refine ⟨o23.wr (by simp [copC]), fun w24 hw24 => ?_⟩
  have o24 : Ob w24 b22 (copC o) T_hollowaylaw21_Op := by
    have := Ob.st (vs := copC o) (k := 0) (i := 0) o23
    rw [hw24]; exact this
  have c24 : Chg No w16 w24 := c23.trans (T := fun j => j = b22) (by rw [hw24]; exact Chg.st (S := fun j => j = b22) rfl) (fun _ _ h => h) (fun k hk he => by omega)
  have l24 := o24.lt
  have z16 := hP.ch.size
  have hP24 : PI w w24 c b14 room (vsP ps) (fsP ps) (snP ps) O V B D P (fun k => k = b22) := (hP.grow c24 (F := fun k => k = b22) (fun k hk => by omega)).subE fun k hk => Or.inr hk
  have bw : w.heap.size ≤ b22 := by omega
  have lo := hP24.o.rd.len
  have lv := hP24.v.rd.len
  have lf := fsP_len ps
  have ln := snP_len ps
  -- where it stands
  refine ⟨fun at33 k w' => ∃ i : Nat, k = i ∧ i ≤ ps.length ∧ ((at33 = -1 ∧ ∀ m, m < i → (fsP ps)[m]? ≠ some o.start) ∨ ∃ m : Nat, m < i ∧ at33 = m ∧ (fsP ps)[m]? = some o.start) ∧ Chg No w24 w', fun _ k _ => ps.length - k.toNat, ⟨0, rfl, Nat.zero_le _, Or.inl ⟨rfl, fun m hm => by omega⟩, Chg.refl _ _⟩, ?_⟩
  rintro at33 k26 w25 ⟨i, rfl, hi, hat, c25⟩
  have g25 := hP24.no c25
  have o25 := o24.no c25
  refine brB_of (fun hlt2 => ?_) (fun hge2 => ?_)
  · have hlt2 : i < ps.length := by have := of_decide_eq_true hlt2; omega
    obtain ⟨y, hy⟩ : ∃ y, (fsP ps)[i]? = some y := ⟨_, List.getElem?_eq_getElem (by omega)⟩
    refine ⟨fun a' w' => ((a' = -1 ∧ ∀ m, m < i + 1 → (fsP ps)[m]? ≠ some o.start) ∨ ∃ m : Nat, m < i + 1 ∧ a' = m ∧ (fsP ps)[m]? = some o.start) ∧ Chg No w24 w', ?_, ?_⟩
    · rintro a' w32 ⟨h1, h2⟩
      rw [wr_of (by omega) (by omega)]
      exact ⟨⟨i + 1, by omega, by omega, h1, h2⟩, by show ps.length - Int.toNat ((i : Int) + 1) < ps.length - Int.toNat (i : Int); omega⟩
    intro w28 hw28
    have c28 := trN c25 (tdw hw28)
    refine (hP24.no c28).o.rd.ix (i := (i : Int)) (by omega) (by rw [Int.toNat_natCast]; exact hy) fun a _ hc => ?_
    have r0 := hc 0 _ rfl
    rw [addr0] at r0
    refine ⟨y, held_Lw r0, o.start, held_Lw ((o24.no c28).cell rfl), brB_of (fun he => ?_) (fun he => ?_)⟩
    · have he : y = o.start := by simpa using he
      exact ⟨Or.inr ⟨i, by omega, rfl, by rw [hy, he]⟩, c28⟩
    · have he : y ≠ o.start := by simpa using he
      refine ⟨?_, c28⟩
      rcases hat with ⟨h1, h2⟩ | ⟨m, h1, h2, h3⟩
      · refine Or.inl ⟨h1, fun m hm => ?_⟩
        by_cases hmi : m = i
        · rw [hmi, hy]; exact fun e => he (Option.some.inj e)
        · exact h2 m (by omega)
      · exact Or.inr ⟨m, by omega, h2, h3⟩
  have hie : i = ps.length := by have := of_decide_eq_false hge2; omega
  have hAt : AtS o.start (fsP ps) at33 := by
    rcases hat with ⟨h1, h2⟩ | ⟨m, h1, h2, h3⟩
    · refine Or.inl ⟨h1, fun hm => ?_⟩
      obtain ⟨q, hq⟩ := List.getElem?_of_mem hm
      exact h2 q (by have := (List.getElem?_eq_some_iff.1 hq).1; omega) hq
    · exact Or.inr ⟨m, h2, h3⟩
  clear hat
  obtain ⟨hge1, hge3⟩ := hAt.ge
  -- what was there
  refine ⟨fun v162 w' => (0 ≤ at33 → ps[at33.toNat]? = some (o.start, v162)) ∧ w' = w25, ?_, ?_⟩
  rotate_left
  · refine brB_of (fun hg => ?_) (fun hg => ⟨fun h0 => absurd h0 (by have := of_decide_eq_false hg; omega), rfl⟩)
    have hg := of_decide_eq_true hg
    obtain ⟨m, rfl, hm1, hm2⟩ := hge3 hg
    obtain ⟨p, hp⟩ : ∃ p, ps[m]? = some p := ⟨_, List.getElem?_eq_getElem (by omega)⟩
    have hp1 : p.1 = o.start := by unfold fsP at hm2; rw [List.getElem?_map, hp] at hm2; exact Option.some.inj hm2
    have hp2 : (snP ps)[m]? = some p.2 := by unfold snP; rw [List.getElem?_map, hp]; rfl
    refine g25.v.rd.ix (i := (m : Int)) (by omega) (by rw [Int.toNat_natCast]; exact hp2) fun a _ hc => ?_
    have r0 := hc 0 _ rfl
    rw [addr0] at r0
    exact ⟨p.2, r0, fun _ => by rw [Int.toNat_natCast, hp, ← hp1], rfl⟩
  rintro v162 w37 ⟨hv162, rfl⟩
  obtain ⟨er, her⟩ : ∃ er : Bool, er = decide (o.kind = 1 ∨ o.kind = 2 ∨ o.kind = 3) := ⟨_, rfl⟩
  obtain ⟨q, hq⟩ : ∃ q, q = (if er = true then erP ps at33 else ps) := ⟨_, rfl⟩
  have hqn : (fsP q).Nodup := by rw [hq]; split; · { exact erP_nd nd _ }; · exact nd
  have hql : q.length ≤ ps.length := by rw [hq]; split; · { exact erP_len _ _ }; · exact Nat.le_refl _
  -- behind the switch
  refine ⟨fun O' V' w' => PS w c b14 room b22 o (vsP ps) (fsP q) (snP q) O' V' w', ?_, ?_⟩
  rotate_left
  · refine ⟨o.kind, o25.cell rfl, fun b w' => b = er ∧ w' = w37, ?_, ?_⟩
    rotate_left
    · refine brB_of (fun h1 => ?_) (fun h1 => brB_of (fun h2 => ?_) (fun h2 => ?_))
      · have h1 : o.kind = 1 := by simpa using h1
        exact ⟨by rw [her, h1]; rfl, rfl⟩
      · have h2 : o.kind = 2 := by simpa using h2
        exact ⟨by rw [her, h2]; rfl, rfl⟩
      · have h1 : o.kind ≠ 1 := by simpa using h1
        have h2 : o.kind ≠ 2 := by simpa using h2
        refine ⟨?_, rfl⟩
        rw [her]
        by_cases h3 : o.kind = 3
        · rw [h3]; rfl
        · rw [decide_eq_false (by omega)]; simpa using h3
    rintro b w39 ⟨rfl, rfl⟩
    have same : q = ps → PS w c b14 room b22 o (vsP ps) (fsP q) (snP q) O V w39 := fun he => by rw [he]; exact ⟨B, D, P, g25, o25⟩
    refine brB_of (fun hb1 => brB_of (fun hg => ?_) (fun hg => same ?_)) (fun hb1 => same ?_)
    rotate_left
    · rw [hq, if_pos hb1]; unfold erP; rw [if_neg (by have := of_decide_eq_false hg; omega)]
    · rw [hq, if_neg (by rw [hb1]; decide)]
    have hg := of_decide_eq_true hg
    obtain ⟨m, rfl, hm1, hm2⟩ := hge3 hg
    have hqe : q = ps.eraseIdx m := by rw [hq, if_pos hb1]; unfold erP; rw [if_pos hg, Int.toNat_natCast]
    have hcO := g25.o.rd.capL
    have hcV := g25.v.rd.capL
    intro w41 hw41
    have c41 := tdw hw41
    have g41 := g25.no c41
    rw [wr_of (x := (m : Int) + 1) (by omega) (by omega)]
    refine ⟨by omega, by omega, by omega, by omega, erase_list g41.o.rd (by omega) (by omega) fun s44 w45 h44 c45 n44 => ?_⟩
    intro w46 hw46
    have c46 := tdw hw46
    have hO' : PI w w46 c b14 room (vsP ps) ((fsP ps).eraseIdx m) (snP ps) s44 V B D P (fun k => k = b22) := (g41.newO c45 h44.ox (fun k hk => Or.inr (n44 k hk))).no c46
    refine ⟨by omega, by omega, by omega, by omega, erase_list hO'.v.rd (by omega) (by omega) fun s49 w50 h49 c50 n49 => ?_⟩
    have hV' := hO'.newV c50 h49.ox (fun k hk => Or.inr (n49 k hk))
    refine ⟨B, D, P, ?_, (((o25.no c41).no c45).no c46).no c50⟩
    rw [hqe]
    unfold fsP snP
    rw [map_er, map_er]
    exact hV'
  rintro O1 V1 w51 ⟨B1, D1, P1, g51, o51⟩
  -- behind the operation
  refine ⟨fun O' V' w' => ∃ ps' : List (Int × Int), PS w c b14 room b22 o (vsP ps') (fsP ps') (snP ps') O' V' w' ∧ (fsP ps').Nodup ∧ (ps'.length : Int) ≤ room, ?_, ?_⟩
  · -- what all rounds end with
    rintro O2 V2 w227 ⟨ps', ⟨B2, D2, P2, g227, o227⟩, nd', hle'⟩
    refine (starts_x (b0 := w.heap.size) ⟨B2, fun k hk => (g227.bl k hk).1, g227.ca⟩ (by rw [vsP_len]; omega)).mono ?_
    rintro e w229 ⟨s230, rfl, h230, c229, n230⟩
    rw [vsP_starts] at h230
    have g229 := g227.no c229
    have z227 := g227.ch.size
    refine ⟨s230, rfl, ?_⟩
    have l2 := fsP_len ps'
    refine (g229.ints h230.ox (by omega) (fun k hk => ?_)).mono ?_
    · have f := g227.free (n230 k hk)
      have := n230 k hk
      exact ⟨by omega, f⟩
    rintro e w232 ⟨rfl, D3, P3, g232, p232, c232⟩
    have r230 : Rd intE w232 s230 (fsP ps') := h230.rd.chg c232 (fun k hk he => (g227.free (n230 k hk)).2.1 (g229.pd k he))
    have o232 := (o227.no c229).chg c232 (fun he => (g229.el _ rfl).2.2.1 (g229.pd _ he))
    refine ⟨rfl, ?_⟩
    have hord := g232.o.rd.len
    obtain ⟨n235, b236, hE, hE1, hE2⟩ : ∃ (n235 : Int) (b236 : Bool), Calls Try.prog fn_cache_Cache_Eldest #[.pointer (some ⟨c, 0, none⟩)] w232 (fun e w' => e = .returned (.tuple #[.int .i64 n235, .bool b236]) ∧ w232 = w') ∧ b236 = decide (0 < ps'.length) ∧ (ps' = [] ∧ n235 = 0 ∨ ∃ p, ps'[0]? = some p ∧ n235 = p.1) := by
      cases hps : ps' with
      | nil =>
        have gc := g232.ca
        rw [hps] at gc
        exact ⟨0, false, eldest_no gc, rfl, Or.inl ⟨rfl, rfl⟩⟩
      | cons p r =>
        have gc := g232.ca
        rw [hps] at gc
        exact ⟨p.1, true, eldest_any gc (v := trV p.1 p.2) rfl, by simp, Or.inr ⟨p, rfl, rfl⟩⟩
    refine hE.mono ?_
    rintro e w234 ⟨rfl, rfl⟩
    refine ⟨_, _, rfl, ?_⟩
    refine ⟨fun bi k w' => ∃ i : Nat, k = i ∧ i ≤ ps'.length ∧ bi = decide (o.start ∈ (fsP ps').take i) ∧ Chg No w232 w', fun _ k _ => ps'.length - k.toNat, ⟨0, rfl, Nat.zero_le _, by simp, Chg.refl _ _⟩, ?_⟩
    rintro bi k238 w237 ⟨i, rfl, hi2, hbi, c237⟩
    refine brB_of (fun hlt3 => ?_) (fun hge4 => ?_)
    · have hlt3 : i < ps'.length := by have := of_decide_eq_true hlt3; omega
      obtain ⟨y, hy⟩ : ∃ y, (fsP ps')[i]? = some y := ⟨_, List.getElem?_eq_getElem (by omega)⟩
      have htk : (fsP ps').take (i + 1) = (fsP ps').take i ++ [y] := by
        rw [List.take_add_one, hy]; rfl
      refine ⟨fun b' w' => b' = decide (o.start ∈ (fsP ps').take (i + 1)) ∧ Chg No w232 w', ?_, ?_⟩
      · rintro b' w245 ⟨h1, h2⟩
        rw [wr_of (by omega) (by omega)]
        exact ⟨⟨i + 1, by omega, by omega, h1, h2⟩, by show ps'.length - Int.toNat ((i : Int) + 1) < ps'.length - Int.toNat (i : Int); omega⟩
      intro w240 hw240
      have c240 := trN c237 (tdw hw240)
      refine brB_of (fun h1 => ?_) (fun h1 => ?_)
      · refine ⟨?_, c240⟩
        rw [hbi] at h1
        have h1 := of_decide_eq_true h1
        rw [decide_eq_true (by rw [htk]; exact List.mem_append.2 (Or.inl h1))]
      · refine (g232.no c240).o.rd.ix (i := (i : Int)) (by omega) (by rw [Int.toNat_natCast]; exact hy) fun a _ hc => ?_
        have r0 := hc 0 _ rfl
        rw [addr0] at r0
        refine ⟨y, held_Lw r0, o.start, held_Lw ((o232.no c240).cell rfl), ?_, c240⟩
        rw [hbi] at h1
        have h1 := of_decide_eq_false h1
        by_cases he : y = o.start
        · rw [he, beq_self_eq_true, decide_eq_true (by rw [htk, he]; exact List.mem_append.2 (Or.inr (List.mem_singleton.2 rfl)))]
        · rw [decide_eq_false (fun hm => by
            rw [htk] at hm
            rcases List.mem_append.1 hm with hm | hm
            · exact h1 hm
            · exact he (List.mem_singleton.1 hm).symm)]
          simpa using he
    have hi3 : i = (fsP ps').length := by have := of_decide_eq_false hge4; omega
    rw [hi3, List.take_length] at hbi
    have g237 := g232.no c237
    have o237 := o232.no c237
    refine ⟨fun b' w' => b' = false ∧ Chg No w237 w', ?_, ?_⟩
    · rintro b' w282 ⟨rfl, c282⟩
      refine brB_f ?_
      rw [wr_of (by omega) (by omega)]
      exact ⟨⟨j + 1, ps', B2, _, _, by omega, by omega, (g237.no c282).subE (fun k hk => hk.elim), nd', hle'⟩, by show xs.length - Int.toNat ((j : Int) + 1) < xs.length - Int.toNat (j : Int); omega⟩
    refine (sameInts_ok s230 O2 (fsP ps') w237 (r230.no c237) g237.o.rd).mono ?_
    rintro e w247 ⟨rfl, c247⟩
    refine ⟨_, rfl, brN_f ?_⟩
    have g247 := g237.no c247
    refine (clen_any g247.ca).mono ?_
    rintro e w250 ⟨rfl, rfl⟩
    refine ⟨_, rfl, ?_⟩
    have eL : ((((vsP ps').length : Nat) : Int) != (O2.len : Int)) = false := by rw [vsP_len, hord, l2]; simp
    rw [eL]
    refine brB_f ?_
    have eB : (!(b236 == decide ((O2.len : Int) > 0))) = false := by
      rw [hE1, hord, l2]
      by_cases hz : 0 < ps'.length
      · rw [decide_eq_true hz, decide_eq_true (by omega)]; rfl
      · rw [decide_eq_false hz, decide_eq_false (by omega)]; rfl
    rw [eB]
    refine brB_f ?_
    have hasL : ∀ {n : Int}, n = o.start → Calls Try.prog fn_cache_Cache_Has #[.pointer (some ⟨c, 0, none⟩), .int .i64 n] w247 fun e256 w256 => ∃ b257 : Bool, e256 = .returned (.bool b257) ∧
        brB (!(b257 == bi)) (true = false ∧ Chg No w237 w256)
          (Calls Try.prog fn_cache_Cache_Len #[.pointer (some ⟨c, 0, none⟩)] w256 fun e258 w259 => ∃ n260 : Int, e258 = .returned (.int .i64 n260) ∧ (decide (n260 > room) = false ∧ Chg No w237 w259)) := by
      rintro n rfl
      refine (has_any g247.ca o.start).mono ?_
      rintro e w256 ⟨rfl, c256⟩
      refine ⟨_, rfl, ?_⟩
      rw [vsP_starts, ← hbi, beq_self_eq_true]
      refine brB_f ?_
      refine (clen_any (g247.ca.no c256)).mono ?_
      rintro e w259 ⟨rfl, rfl⟩
      exact ⟨_, rfl, decide_eq_false (by rw [vsP_len]; omega), trN c247 c256⟩
    rcases hE2 with ⟨hnil, hn0⟩ | ⟨p, hp0, hn0⟩
    · have hb0 : b236 = false := by rw [hE1, hnil]; rfl
      rw [hb0, hn0]
      exact brB_f (brB_t (brB_f ⟨o.start, (o237.no c247).cell rfl, hasL rfl⟩))
    · have hb0 : b236 = true := by rw [hE1, decide_eq_true (List.getElem?_eq_some_iff.1 hp0).1]
      rw [hb0, hn0]
      refine brB_t ?_
      refine g247.o.rd.ix (i := 0) (by omega) (x := p.1) (by unfold fsP; rw [List.getElem?_map]; show (ps'[0]?).map _ = _; rw [hp0]; rfl) fun a _ hc => ?_
      have r0 := hc 0 _ rfl
      rw [addr0] at r0
      refine ⟨p.1, r0, ?_⟩
      rw [show (p.1 != p.1) = false by simp]
      exact brB_f (brB_f ⟨o.start, (o237.no c247).cell rfl, hasL rfl⟩)
  have z51 := g51.ch.size
  have e22 := g51.el b22 rfl
  have hp' : er = true → ∀ n, PlaceS o.start ((vsP ps).map (·.start)) n → vsP q = if 0 ≤ n then (vsP ps).eraseIdx n.toNat else vsP ps := fun he n hn => by
    rw [vsP_starts] at hn
    rw [hq, if_pos he, ← AtS.uniq nd hAt hn.at]
    exact vsP_er ps at33
  have qno : er = true → o.start ∉ fsP q := fun he => by rw [hq, if_pos he]; exact erP_no nd hAt
  have lq := fsP_len q
  have lsq := snP_len q
  have fs1 : ∀ v : Int, fsP (q ++ [(o.start, v)]) = fsP q ++ [o.start] := fun v => by unfold fsP; rw [List.map_append]; rfl
  have sn1 : ∀ v : Int, snP (q ++ [(o.start, v)]) = snP q ++ [v] := fun v => by unfold snP; rw [List.map_append]; rfl
  have vs1 : ∀ v : Int, vsP (q ++ [(o.start, v)]) = vsP q ++ [trV o.start v] := fun v => by unfold vsP; rw [List.map_append]; rfl
  have lit : ∀ {wa wb : World} {b' : Nat} (x : Int), b' = wa.heap.size → wb = World.alloc wa (.cells #[.int .i64 x] T_int) → Ow intE wb ⟨some ⟨b', 0, none⟩, 1, 1⟩ [x] ∧ Chg No wa wb := fun x hb hw => by
    rw [hw, hb]
    exact ⟨Ow.lit (E := intE) _ [x] [.int .i64 x] rfl (by show 1 ≤ maxLen; unfold maxLen; omega), Chg.alloc _ _ _⟩
  refine ⟨o.kind, o51.cell rfl, brB_of (fun hk1 => ?_) (fun hk1 => brB_of (fun hk2 => ?_) (fun hk2 => brB_of (fun hk3 => ?_) (fun hk3 => ?_)))⟩
  · -- Put
    have hk1 : o.kind = 1 := by simpa using hk1
    have het : er = true := by rw [her, hk1]; rfl
    refine ⟨o.start, o51.cell rfl, o.v, o51.cell rfl, (trace_x o.start o.v w51).mono ?_⟩
    rintro e w56 ⟨t, rfl, ht, c56⟩
    refine ⟨_, _, _, _, _, t.ins, t.outs, _, t.cells, rfl, varT t fun b66 w68 hb66 z68 o66 c68 => rdT o66 ?_⟩
    have z56 := c56.size
    have k68 := trN c56 c68
    have g68 : PI w w68 c b14 room (vsP ps) (fsP q) (snP q) O1 V1 B1 D1 P1 (fun k => k = b22 ∨ (w51.heap.size ≤ k ∧ k < w68.heap.size)) := g51.grow k68 (F := fun k => w51.heap.size ≤ k ∧ k < w68.heap.size) (fun k hk => hk)
    obtain ⟨q1, hq1⟩ : ∃ q1, q1 = q ++ [(o.start, o.v)] := ⟨_, rfl⟩
    have l1 : (vsP q1).length = q.length + 1 := by rw [vsP_len, hq1]; simp
    refine (put_x (B := fun k => B1 k ∨ w68.heap.size ≤ k) (g68.ca.wid (fun k hk => Or.inl hk)) hr0.1 t (trV o.start o.v) (ht.is.no c68) (trV_small _ _) (fun k hk => Or.inr hk) (fun k hk he => ?_) (by rw [vsP_len]; omega) (hp' het)).mono ?_
    · rcases he with he | he
      · have := g51.bl k he; omega
      · omega
    rintro e w79 ⟨gs, rfl, hgs, hca', c79, ngs⟩
    rw [← vs1, ← hq1] at hgs hca'
    have g79 := g68.mv hca' (fun k hk => hk.1) c79
    have z79 := c79.size
    have l66 := o66.lt
    have nB : ∀ k, w51.heap.size ≤ k → k < w68.heap.size → ¬ (B1 k ∨ w68.heap.size ≤ k) := fun k h1 h2 he => by
      rcases he with he | he
      · have := g51.bl k he; omega
      · omega
    have p66 := o66.chg c79 (nB _ (by omega) l66)
    have t79 := (ht.no c68).chg c79 (fun k hk => nB k (by omega) (by omega))
    refine ⟨gs, rfl, ?_⟩
    intro w81 hw81
    have c81 := tdw hw81
    have t81 := t79.no c81
    have p66 := p66.no c81
    have dI : ∀ k, t.ins.blk = some k → w51.heap.size ≤ k ∧ k < w56.heap.size := fun k hk => (ht.insD k hk).1
    have dC : ∀ k, t.cells.blk = some k → w51.heap.size ≤ k ∧ k < w56.heap.size := fun k hk => ht.cellsD k hk
    have capI := t81.ins.rd.capL
    have capI : 1 ≤ t.ins.cap := capI.1
    refine ⟨fun w' => Ob w' b66 (trC t) T_api_Trace, p66, t.ins, fun w' h => h.cell rfl, t.cells, fun w' h => h.cell rfl, ?_⟩
    refine t81.ins.rd.ix (i := 0) (by omega) (x := ⟨1, o.v, 0, 0, 0⟩) rfl fun a85 ha85 _ => ?_
    refine ⟨?_, fun w86 hw86 => ?_⟩
    · intro i hi
      have hi0 : i = 0 := by omega
      subst hi0
      rw [add_add, add_add]
      obtain ⟨h1, h2⟩ := (t81.ins.room a85 ha85).2 (Int.toNat 0 * 5 + 1 + 0) (by show 0 * 5 + 1 + 0 < t.ins.cap * 5; omega)
      exact ⟨Option.isSome_iff_exists.1 h1, h2⟩
    have c86 : Chg (fun k => t.ins.blk = some k) w81 w86 := by rw [hw86]; exact Chg.st (S := fun k => t.ins.blk = some k) (by rw [add_block, add_block]; exact blk_ptr ha85)
    have p86 := p66.chg c86 (fun he => by have := dI _ he; omega)
    have tc86 := t81.cells.chg c86 (fun k hk he => (ht.insD k he).2.2 hk)
    have capC : 1 ≤ t.cells.cap := tc86.rd.capL.1
    refine ⟨p86, ?_⟩
    refine tc86.rd.ix (i := 0) (by omega) (x := 1) rfl fun a87 ha87 _ => ?_
    refine ⟨?_, fun w88 hw88 => ?_⟩
    · intro i hi
      have hi0 : i = 0 := by omega
      subst hi0
      rw [add_add]
      obtain ⟨h1, h2⟩ := (tc86.room a87 ha87).2 (Int.toNat 0 * 1 + 0) (by show 0 * 1 + 0 < t.cells.cap * 1; omega)
      exact ⟨Option.isSome_iff_exists.1 h1, h2⟩
    have c88 : Chg (fun k => t.cells.blk = some k) w86 w88 := by rw [hw88]; exact Chg.st (S := fun k => t.cells.blk = some k) (by rw [add_block]; exact blk_ptr ha87)
    have d88 : Chg (fun k => t.ins.blk = some k ∨ t.cells.blk = some k) w81 w88 := c86.trans c88 (fun _ _ h => Or.inl h) (fun _ _ h => Or.inr h)
    have dT : ∀ k, (t.ins.blk = some k ∨ t.cells.blk = some k) → w51.heap.size ≤ k ∧ k < w56.heap.size := fun k hk => hk.elim (dI k) (dC k)
    have g88 := (g79.no c81).out d88 (fun k hk => ⟨Or.inr (by have := dT k hk; omega), by have := dT k hk; omega⟩)
    have hgs88 := (hgs.no c81).chg d88 (fun k hk he => by have := dT k he; have := ngs k hk; omega)
    have zs := c81.size
    have zd := d88.size
    have ltake : (((vsP q1).take ((vsP q1).length - room.toNat)).map (·.start)).length ≤ 1000000 := by rw [List.length_map, List.length_take]; omega
    refine (g88.ints hgs88.ox ltake (fun k hk => ?_)).mono ?_
    · have := ngs k hk
      refine ⟨by omega, fun e => e.1.2 hk, fun e => by have := g51.dl k e; omega, fun e => by have := g51.o.lt k e; omega, fun e => by have := g51.v.lt k e; omega, fun e => by omega⟩
    rintro e w90 ⟨rfl, D3, P3, g90, p90, c90⟩
    have gs90 : Rd intE w90 gs (((vsP q1).take ((vsP q1).length - room.toNat)).map (·.start)) := (hgs88.chg c90 (fun k hk he => by have := ngs k hk; have := g51.dl k (g51.pd k he); omega)).rd
    have o90 : Ob w90 b22 (copC o) T_hollowaylaw21_Op := (((((o51.no k68).chg c79 (fun he => by rcases he with he | he; · { exact e22.2.1 he }; · omega)).no c81).chg d88 (fun he => by have := dT _ he; omega))).chg c90 (fun he => e22.2.2.1 (g51.pd _ he))
    have g90 := g90.subE (F := fun k => k = b22) (fun k hk => Or.inl hk)
    have lO : ∀ k, O1.blk = some k → k < w51.heap.size := g51.o.lt
    have lV : ∀ k, V1.blk = some k → k < w51.heap.size := g51.v.lt
    have n22O : O1.blk ≠ some b22 := e22.2.2.2.1
    have n22V : V1.blk ≠ some b22 := e22.2.2.2.2
    refine ⟨rfl, fun O' V' w' => PS w c b14 room b22 o ((vsP q1).drop ((vsP q1).length - room.toNat)) (fsP q1) (snP q1) O' V' w' ∧ Rd intE w' gs (((vsP q1).take ((vsP q1).length - room.toNat)).map (·.start)), ?_, ?_⟩
    rotate_left
    · intro w91 hw91
      have c91 := tdw hw91
      have g91 := g90.no c91
      have o91 := o90.no c91
      have gs91 := gs90.no c91
      have z91 := c91.size
      have z90 := c90.size
      have fin : ∀ {wa : World} {sa sb : Sl} {B D P : Nat → Prop}, PI w wa c b14 room ((vsP q1).drop ((vsP q1).length - room.toNat)) (fsP q ++ [o.start]) (snP q ++ [o.v]) sa sb B D P (fun k => k = b22) → Ob wa b22 (copC o) T_hollowaylaw21_Op → PS w c b14 room b22 o ((vsP q1).drop ((vsP q1).length - room.toNat)) (fsP q1) (snP q1) sa sb wa := fun g o' => ⟨_, _, _, by rw [hq1, fs1, sn1, ← hq1]; exact g, o'⟩
      refine ⟨fun w' => Ob w' b22 (copC o) T_hollowaylaw21_Op, o91, o.start, fun w' h => h.cell rfl, o.v, fun w' h => h.cell rfl, ?_, ?_⟩
      · intro b97 w98 hb97 hw98
        obtain ⟨h97, c98⟩ := lit o.start hb97 hw98
        have z98 := c98.size
        have l97 : b97 < w98.heap.size := h97.lt rfl
        have b97e : ∀ k, (⟨some ⟨b97, 0, none⟩, 1, 1⟩ : Sl).blk = some k → k = b97 := fun k hk => (Option.some.inj hk).symm
        refine ⟨o91.no c98, ?_, ?_⟩
        · refine (g91.no c98).appO h97.rd (by omega) fun s99 w100 g100 c100 => ?_
          have o100 := (o91.no c98).chg c100 n22O
          have gs100 := (gs91.no c98).chg c100 (fun k hk he => by have := ngs k hk; have := lO k he; omega)
          refine ⟨o100, fun b101 w102 hb101 hw102 => ?_⟩
          obtain ⟨h101, c102⟩ := lit o.v hb101 hw102
          refine ⟨o100.no c102, (g100.no c102).appV h101.rd (by omega) fun s103 w104 g104 c104 => ?_⟩
          exact ⟨fin g104 ((o100.no c102).chg c104 n22V), (gs100.no c102).chg c104 (fun k hk he => by have := ngs k hk; have := lV k he; omega)⟩
        · intro b105 w106 hb105 hw106
          obtain ⟨h105, c106⟩ := lit o.v hb105 hw106
          have b105e : ∀ k, (⟨some ⟨b105, 0, none⟩, 1, 1⟩ : Sl).blk = some k → k = b105 := fun k hk => (Option.some.inj hk).symm
          have k106 := trN c98 c106
          refine ⟨o91.no k106, (g91.no k106).appO (h97.no c106).rd (by omega) fun s107 w108 g108 c108 => ?_⟩
          have o108 := (o91.no k106).chg c108 n22O
          have gs108 := (gs91.no k106).chg c108 (fun k hk he => by have := ngs k hk; have := lO k he; omega)
          refine ⟨o108, g108.appV (h105.chg c108 (fun k hk he => by have := b105e k hk; have := lO k he; omega)).rd (by omega) fun s109 w110 g110 c110 => ?_⟩
          exact ⟨fin g110 (o108.chg c110 n22V), gs108.chg c110 (fun k hk he => by have := ngs k hk; have := lV k he; omega)⟩
      · intro b111 w112 hb111 hw112
        obtain ⟨h111, c112⟩ := lit o.v hb111 hw112
        have z112 := c112.size
        have b111e : ∀ k, (⟨some ⟨b111, 0, none⟩, 1, 1⟩ : Sl).blk = some k → k = b111 := fun k hk => (Option.some.inj hk).symm
        refine ⟨o91.no c112, fun b113 w114 hb113 hw114 => ?_⟩
        obtain ⟨h113, c114⟩ := lit o.start hb113 hw114
        have k114 := trN c112 c114
        refine ⟨o91.no k114, (g91.no k114).appO h113.rd (by omega) fun s115 w116 g116 c116 => ?_⟩
        have o116 := (o91.no k114).chg c116 n22O
        have gs116 := (gs91.no k114).chg c116 (fun k hk he => by have := ngs k hk; have := lO k he; omega)
        refine ⟨o116, g116.appV ((h111.no c114).chg c116 (fun k hk he => by have := b111e k hk; have := lO k he; omega)).rd (by omega) fun s117 w118 g118 c118 => ?_⟩
        exact ⟨fin g118 (o116.chg c118 n22V), gs116.chg c118 (fun k hk he => by have := ngs k hk; have := lV k he; omega)⟩
    rintro O' V' w119 ⟨⟨B4, D4, P4, g119, o119⟩, gs119⟩
    have lf1 : (fsP q1).length = q.length + 1 := by rw [fsP_len, hq1]; simp
    have ls1 : (snP q1).length = q.length + 1 := by rw [snP_len, hq1]; simp
    rw [l1] at g119 gs119
    obtain ⟨N, hN⟩ : ∃ N, N = q.length + 1 - room.toNat := ⟨_, rfl⟩
    rw [← hN] at g119 gs119
    have hgl : ((vsP q1).take N).map (·.start) = (fsP q1).take N := by rw [← vsP_starts, List.map_take]
    rw [hgl] at gs119
    refine ⟨fun od vl wt w' => ∃ jj : Nat, jj ≤ N ∧ Ox intE w' od ((fsP q1).drop jj) ∧ od.blk = O'.blk ∧ Ox intE w' vl ((snP q1).drop jj) ∧ vl.blk = V'.blk ∧ Ow intE w' wt ((fsP q1).take jj) ∧ (∀ k, wt.blk = some k → w119.heap.size ≤ k) ∧ Chg No w119 w', fun od _ _ _ => od.len, ⟨0, Nat.zero_le _, g119.o, rfl, g119.v, rfl, Ow.nil _ _, (fun k hk => by cases hk), Chg.refl _ _⟩, ?_⟩
    rintro od vl wt w120 ⟨jj, hjj, hod, hob, hvl, hvb, hwt, nwt, c120⟩
    have hol := hod.rd.len
    have hvll := hvl.rd.len
    rw [List.length_drop] at hol hvll
    refine brB_of (fun hgt => ?_) (fun hng => ?_)
    · have hgt := of_decide_eq_true hgt
      have hjN : jj < N := by omega
      obtain ⟨y, hy⟩ : ∃ y, ((fsP q1).drop jj)[0]? = some y := ⟨_, List.getElem?_eq_getElem (by rw [List.length_drop]; omega)⟩
      refine hod.rd.ix (i := 0) (by omega) (x := y) hy fun a _ hc => ?_
      have r0 := hc 0 _ rfl
      rw [addr0] at r0
      refine ⟨y, r0, fun b125 w126 hb125 hw126 => ?_⟩
      obtain ⟨h125, c126⟩ := lit y hb125 hw126
      have ltk : ((fsP q1).take jj).length = jj := by rw [List.length_take]; omega
      have z120 := c120.size
      have z126 := c126.size
      refine app_ok intOk rfl rfl (hwt.no c126) h125.rd (by rw [ltk]; show (jj + 1) * 8 ≤ _; omega) (by rw [ltk]; show jj + 1 ≤ _; unfold maxLen; omega) ?_
      intro s127 w128 h127 c128 b128
      have lO' : ∀ k, od.blk = some k → k < w119.heap.size := fun k hk => g119.o.lt k (hob ▸ hk)
      have lV' : ∀ k, vl.blk = some k → k < w119.heap.size := fun k hk => g119.v.lt k (hvb ▸ hk)
      have n127 : ∀ k, s127.blk = some k → w119.heap.size ≤ k := fun k hk => by
        rcases b128 with e | e
        · exact nwt k (e ▸ hk)
        · have := Option.some.inj (e.symm.trans hk); omega
      have hod128 := (hod.no c126).chg c128 (fun k hk he => by have := nwt k he; have := lO' k hk; omega)
      have hvl128 := (hvl.no c126).chg c128 (fun k hk he => by have := nwt k he; have := lV' k hk; omega)
      intro w129 hw129
      have c129 := tdw hw129
      have eo : od.len = ((fsP q1).drop jj).length := by rw [List.length_drop]; omega
      have ev : vl.len = ((snP q1).drop jj).length := by rw [List.length_drop]; omega
      have d1 := (hod128.no c129).drop (m := 1) (by omega)
      have d2 := (hvl128.no c129).drop (m := 1) (by omega)
      rw [← eo, List.drop_drop] at d1
      rw [← ev, List.drop_drop] at d2
      refine ⟨by omega, by omega, by omega, by omega, ⟨jj + 1, by omega, d1, (sub_blk od 1 od.len 1).trans hob, d2, (sub_blk vl 1 vl.len 1).trans hvb, ?_, n127, ((c120.trans (trN c126 (Chg.refl No _)) (fun _ _ h => h) (fun _ _ h => h)).trans c128 (U := No) (fun _ _ h => h) (fun k hk he => by have := nwt k he; omega)).trans c129 (fun _ _ h => h) (fun _ _ h => h)⟩, ?_⟩
      · have e1 : (fsP q1).take jj ++ [y] = (fsP q1).take (jj + 1) := by
          have hLj : (fsP q1)[jj]? = some y := by rw [List.getElem?_drop] at hy; simpa using hy
          rw [List.take_add_one, hLj]; rfl
        rw [← e1]; exact h127.no c129
      · have := d1.rd.len
        rw [List.length_drop] at this
        show (Sl.sub od.ptr od.cap 1 od.len 1).len < od.len
        have e2 : (Sl.sub od.ptr od.cap 1 od.len 1).len = (fsP q1).length - (jj + 1) := this
        omega
    · have hng := of_decide_eq_false hng
      have hjN : jj = N := by omega
      subst hjN
      refine (sameInts_ok gs wt _ w120 (gs119.no c120) hwt.rd).mono ?_
      rintro e w132 ⟨rfl, c132⟩
      refine ⟨_, rfl, brN_f ⟨q1.drop jj, ⟨B4, D4, P4, ?_, (o119.no c120).no c132⟩, nd_drop (by rw [hq1]; exact nd_snoc hqn (qno het)) jj, ?_⟩⟩
      · have hvd : vsP (q1.drop jj) = (vsP q1).drop jj := by unfold vsP; rw [List.map_drop]
        have hfd : fsP (q1.drop jj) = (fsP q1).drop jj := by unfold fsP; rw [List.map_drop]
        have hsd : snP (q1.drop jj) = (snP q1).drop jj := by unfold snP; rw [List.map_drop]
        rw [hvd, hfd, hsd]
        exact ((g119.newO (trN c120 c132) (hod.no c132) (fun k hk => Or.inl (hob ▸ hk))).newV (Chg.refl No _) (hvl.no c132) (fun k hk => Or.inl (hvb ▸ hk)))
      · rw [List.length_drop, hq1, List.length_append, List.length_singleton]; omega
  · -- Get
    have hk2 : o.kind = 2 := by simpa using hk2
    have het : er = true := by rw [her, hk2]; rfl
    have hqe : q = erP ps at33 := by rw [hq, if_pos het]
    refine ⟨o.start, o51.cell rfl, ?_⟩
    by_cases hg : 0 ≤ at33
    · obtain ⟨m0, hm0, hm1, hm2⟩ := hge3 hg
      refine (get_any (B := fun k => B1 k ∨ w51.heap.size ≤ k) (g51.ca.wid (fun k hk => Or.inl hk)) (fun k hk => Or.inr hk) (by rw [vsP_len]; omega) o.start (by rw [vsP_starts]; exact hge1.1 hg)).mono ?_
      rintro e w136 ⟨k, vv, t', m, hvk, hvx, rfl, ht', hca', c136, hm⟩
      obtain ⟨p, hpk, hpv⟩ : ∃ p, ps[k]? = some p ∧ vv = trV p.1 p.2 := by
        unfold vsP at hvk
        rw [List.getElem?_map] at hvk
        cases hz : ps[k]? with
        | none => rw [hz] at hvk; cases hvk
        | some p => rw [hz] at hvk; exact ⟨p, rfl, (Option.some.inj hvk).symm⟩
      have hp1 : p.1 = o.start := by rw [hpv] at hvx; exact hvx
      have hkm : k = m0 := nd_inj nd (show (fsP ps)[k]? = some o.start by unfold fsP; rw [List.getElem?_map, hpk]; exact congrArg some hp1) hm2
      have hat0 : at33.toNat = k := by rw [hm0, hkm, Int.toNat_natCast]
      have hpp : p = (o.start, v162) := by
        have := hv162 hg
        rw [hat0, hpk] at this
        exact Option.some.inj this
      rw [hpp] at hpv
      have hpv : vv = trV o.start v162 := hpv
      subst hpv
      have hcs : (vsP ps).eraseIdx k ++ [trV o.start v162] = vsP (q ++ [(o.start, v162)]) := by
        rw [vs1, hqe, vsP_er, if_pos hg, hat0]
      rw [hcs] at hca'
      have g136 := g51.mv hca' (fun k hk => hk.1) c136
      have o136 := o51.chg c136 (fun he => by rcases he with he | he; · { exact e22.2.1 he }; · omega)
      refine ⟨_, _, _, _, _, t'.ins, t'.outs, _, t'.cells, _, rfl, varT t' fun b147 w149 hb147 z149 o147 c149 => ?_⟩
      have g149 := g136.no c149
      have o149 := o136.no c149
      have t149 := ht'.no c149
      have dg : decide (at33 ≥ 0) = true := decide_eq_true hg
      refine ⟨fun b w' => b = false ∧ Chg No w149 w', ?_, ?_⟩
      rotate_left
      · intro w150 hw150
        have c150 := tdw hw150
        refine ⟨fun w' => Chg No w150 w', Chg.refl _ _, ?_⟩
        rw [dg]
        refine brB_f (brB_t (hdT (fun w' c => (o147.no c150).no c) ⟨o.start, Ob.held (fun w' c => (o149.no c150).no c) rfl, ?_⟩))
        refine (trace_any o.start v162 w150).mono ?_
        rintro e w164 ⟨t2, rfl, ht2, c164⟩
        refine ⟨_, _, _, _, _, t2.ins, t2.outs, _, t2.cells, rfl, c164, ?_⟩
        refine (sameTrace_any t' t2 ((t149.no c150).no c164).is ht2).mono ?_
        rintro e w175 ⟨rfl, c175⟩
        exact ⟨_, rfl, trN c164 c175, brB_f (brB_f ⟨rfl, trN (trN c150 c164) c175⟩)⟩
      rintro b w201 ⟨rfl, c201⟩
      have z136 := c136.size
      refine brB_f (rdT (o147.no c201) ?_)
      refine ((g149.no c201).trace (t149.no c201) ⟨by show 1 ≤ _; omega, by show 1 ≤ _; omega, by show 1 ≤ _; omega⟩ (fun k hk => ⟨by omega, fun e => by have := e.1.2; omega, fun e => by have := g51.dl k e; omega, fun e => by have := g51.o.lt k e; omega, fun e => by have := g51.v.lt k e; omega, fun e => by omega⟩)).mono ?_
      rintro e w213 ⟨rfl, D3, P3, g213, p213, c213⟩
      have o213 := (o149.no c201).chg c213 (fun he => e22.2.2.1 (g51.pd _ he))
      refine ⟨rfl, ?_⟩
      rw [dg]
      refine brB_t ⟨o.start, o213.cell rfl, fun b215 w216 hb215 hw216 => ?_⟩
      obtain ⟨h215, c216⟩ := lit o.start hb215 hw216
      refine (g213.no c216).appO h215.rd (by omega) fun s217 w218 g218 c218 => ?_
      have o218 := (o213.no c216).chg c218 e22.2.2.2.1
      intro b219 w220 hb219 hw220
      obtain ⟨h219, c220⟩ := lit v162 hb219 hw220
      refine (g218.no c220).appV h219.rd (by omega) fun s221 w222 g222 c222 => ?_
      refine ⟨q ++ [(o.start, v162)], ⟨_, _, _, by rw [fs1, sn1]; exact g222, (o218.no c220).chg c222 e22.2.2.2.2⟩, nd_snoc hqn (qno het), ?_⟩
      have : q.length = ps.length - 1 := by
        rw [hqe]; unfold erP; rw [if_pos hg, List.length_eraseIdx, if_pos (by omega)]
      rw [List.length_append, List.length_singleton]; omega
    · have hqp : q = ps := by rw [hqe]; unfold erP; rw [if_neg hg]
      refine (get_no g51.ca o.start (by rw [vsP_starts]; exact fun hm => hg (hge1.2 hm))).mono ?_
      rintro e w136 ⟨rfl, c136⟩
      refine ⟨_, _, _, _, _, tr0.ins, tr0.outs, _, tr0.cells, _, rfl, varT tr0 fun b147 w149 hb147 z149 o147 c149 => ?_⟩
      have k149 := trN c136 c149
      have g149 := g51.no k149
      have o149 := o51.no k149
      have dg : decide (at33 ≥ 0) = false := decide_eq_false hg
      refine ⟨fun b w' => b = false ∧ Chg No w149 w', ?_, ?_⟩
      rotate_left
      · intro w150 hw150
        have c150 := tdw hw150
        refine ⟨fun w' => Chg No w150 w', Chg.refl _ _, ?_⟩
        rw [dg]
        refine brB_f (brB_f (brB_t (hdT (fun w' c => (o147.no c150).no c) ⟨Chg.refl _ _, ?_⟩)))
        refine (sameTrace_any tr0 tr0 (tr0_x No w150).is (tr0_x No w150).is).mono ?_
        rintro e w199 ⟨rfl, c199⟩
        exact ⟨_, rfl, rfl, trN c150 c199⟩
      rintro b w201 ⟨rfl, c201⟩
      refine brB_f (rdT (o147.no c201) ?_)
      refine ((g149.no c201).trace (tr0_x No w201) ⟨Nat.zero_le _, Nat.zero_le _, Nat.zero_le _⟩ (fun k hk => hk.elim)).mono ?_
      rintro e w213 ⟨rfl, D3, P3, g213, p213, c213⟩
      have o213 := (o149.no c201).chg c213 (fun he => e22.2.2.1 (g51.pd _ he))
      refine ⟨rfl, ?_⟩
      rw [dg]
      refine brB_f ⟨q, ⟨B1, D3, P3, ?_, o213⟩, hqn, by omega⟩
      rw [show vsP q = vsP ps by rw [hqp]]
      exact g213
  · -- Drop
    have hk3 : o.kind = 3 := by simpa using hk3
    have het : er = true := by rw [her, hk3]; rfl
    refine ⟨o.start, o51.cell rfl, (drop_x g51.ca (by rw [vsP_len]; omega) o.start (hp' het)).mono ?_⟩
    rintro e w225 ⟨rfl, hca', c225⟩
    refine ⟨_, rfl, ?_⟩
    have eg : decide (o.start ∈ (vsP ps).map (·.start)) = decide (at33 ≥ 0) := by rw [vsP_starts]; exact decide_eq_decide.2 hge1.symm
    rw [eg, beq_self_eq_true]
    exact brB_f ⟨q, ⟨_, _, _, g51.mv hca' (fun k hk => Or.inl hk) (c225.mono (fun k _ hk => Or.inl hk)), o51.chg c225 e22.2.1⟩, hqn, by omega⟩
  · -- nothing
    have hk1 : o.kind ≠ 1 := by simpa using hk1
    have hk2 : o.kind ≠ 2 := by simpa using hk2
    have hk3 : o.kind ≠ 3 := by simpa using hk3
    have hqp : q = ps := by rw [hq, if_neg (by rw [her, decide_eq_false (by omega)]; decide)]
    refine ⟨q, ⟨B1, D1, P1, ?_, o51⟩, hqn, by omega⟩
    rw [show vsP q = vsP ps by rw [hqp]]
    exact g51
end Go.Proofs.Ytlpbdloloaoapaa

/- Operations on caches, as a statement's frame tells of them. -/
set_option maxRecDepth 100000
namespace Go.Proofs.Ytlpbdloloaoapaa
open Go.RowKit

theorem cop_open {H : Type} (enc : TypeId × Value → H) (w : World) (base : Nat) (sp : Nat → Bool) (held : Bool) : ElOk enc Try.prog w base sp held copE T_hollowaylaw21_Op (fun _ => True) := by
  refine ⟨by kernel_rfl, fun n cs y hl h => ?_⟩
  obtain ⟨_, m, hf⟩ := open_fields Try.underlying37 h
  have hl : cs.length = 3 := hl
  obtain ⟨c0, c1, c2, rfl⟩ : ∃ c0 c1 c2, cs = [c0, c1, c2] := by
    match cs, hl with
    | [c0, c1, c2], _ => exact ⟨_, _, _, rfl⟩
  have s1 : Try.prog.cellsOf 3 = 1 := by kernel_rfl
  obtain ⟨z0, h0⟩ := hf 0 _ rfl
  obtain ⟨z1, h1⟩ := hf 1 _ rfl
  obtain ⟨z2, h2⟩ := hf 2 _ rfl
  obtain ⟨x0, e0, _⟩ := DataW.trod_int Try.underlying3 h0
  obtain ⟨x1, e1, _⟩ := DataW.trod_int Try.underlying3 h1
  obtain ⟨x2, e2, _⟩ := DataW.trod_int Try.underlying3 h2
  simp [s1] at e0 e1 e2
  exact ⟨⟨x0, x1, x2⟩, by rw [e0, e1, e2]; rfl, trivial⟩
end Go.Proofs.Ytlpbdloloaoapaa
