/- Traces as the cache holds them (exits without stacks): what their lists read as; slices.Clone; cache.own. -/
import Derived.Test.YtijoigpggphajaaOx
import Derived.Test.YtijoigpggphajaaStrs
import Derived.Test.YtijoigpggphajaaShCache
import Derived.Test.YtijoigpggphajaaShSlices
set_option maxRecDepth 100000
namespace Go.Proofs.Ytijoigpggphajaa
open Go.RowKit

def intE : Enc Int := ⟨T_int, 1, 8, fun n => [.int .i64 n], by intro x; rfl, by intro x u hu; simp at hu; subst hu; rfl, by decide⟩
theorem intOk : EncOk Try.prog intE T_sl_int := EncOk.of (z := .int .i64 0) (by kernel_rfl) (by kernel_rfl) (by kernel_rfl)
structure In5 where
  a : Int
  b : Int
  c : Int
  d : Int
  e : Int
def insE : Enc In5 := ⟨T_api_Ins, 5, 40, fun x => [.int .i64 x.a, .int .i64 x.b, .int .i64 x.c, .int .i64 x.d, .int .i64 x.e], by intro x; rfl, by intro x u hu; simp at hu; rcases hu with rfl | rfl | rfl | rfl | rfl <;> rfl, by decide⟩
theorem insOk : EncOk Try.prog insE T_sl_api_Ins := EncOk.of (z := .agg #[.int .i64 0, .int .i64 0, .int .i64 0, .int .i64 0, .int .i64 0]) (by kernel_rfl) (by kernel_rfl) (by kernel_rfl)
/-- An exit without stacks: where to, behind how many steps. -/
def ouE : Enc (Int × Int) := ⟨T_api_Out, 4, 64, fun x => [.int .i64 x.1, .int .i64 x.2, .slice none 0 0, .slice none 0 0], by intro x; rfl, by intro x u hu; simp at hu; rcases hu with rfl | rfl | rfl <;> rfl, by decide⟩
theorem ouOk : EncOk Try.prog ouE T_sl_api_Out := EncOk.of (z := .agg #[.int .i64 0, .int .i64 0, .slice none 0 0, .slice none 0 0]) (by kernel_rfl) (by kernel_rfl) (by kernel_rfl)
structure Tr where
  start : Int
  slots : Int
  backs : Int
  grow : Int
  growBack : Int
  ins : Sl
  outs : Sl
  last : Int
  cells : Sl
def trC (t : Tr) : List Value := [.int .i64 t.start, .int .i64 t.slots, .int .i64 t.backs, .int .i64 t.grow, .int .i64 t.growBack, t.ins.val, t.outs.val, .int .i64 t.last, t.cells.val]
theorem sl_one (s : Sl) : s.val.oneCell' = true := by rw [val_eq]; rfl
def trE : Enc Tr := ⟨T_api_Trace, 9, 120, trC, by intro x; rfl, by intro x u hu; simp [trC] at hu; rcases hu with rfl | rfl | rfl | rfl | rfl | rfl | rfl | rfl | rfl <;> first | rfl | exact sl_one _, by decide⟩
def tr0 : Tr := ⟨0, 0, 0, 0, 0, nilS, nilS, 0, nilS⟩
theorem trOk : EncOk Try.prog trE T_sl_api_Trace := EncOk.of (z := .agg #[.int .i64 0, .int .i64 0, .int .i64 0, .int .i64 0, .int .i64 0, .slice none 0 0, .slice none 0 0, .int .i64 0, .slice none 0 0]) (by kernel_rfl) (by kernel_rfl) (by kernel_rfl)
/-- What a trace says. -/
structure TrV where
  start : Int
  slots : Int
  backs : Int
  grow : Int
  growBack : Int
  ins : List In5
  outs : List (Int × Int)
  last : Int
  cells : List Int
/-- t says v, and its lists lie in blocks of D. -/
structure TrIs (D : Nat → Prop) (w : World) (t : Tr) (v : TrV) : Prop where
  nums : t.start = v.start ∧ t.slots = v.slots ∧ t.backs = v.backs ∧ t.grow = v.grow ∧ t.growBack = v.growBack ∧ t.last = v.last
  ins : Rd insE w t.ins v.ins
  outs : Rd ouE w t.outs v.outs
  cells : Rd intE w t.cells v.cells
  insD : ∀ k, t.ins.blk = some k → D k
  outsD : ∀ k, t.outs.blk = some k → D k
  cellsD : ∀ k, t.cells.blk = some k → D k
theorem TrIs.chg {D S : Nat → Prop} {w w' : World} {t : Tr} {v : TrV} (h : TrIs D w t v) (c : Chg S w w') (hS : ∀ k, D k → ¬ S k) : TrIs D w' t v :=
  ⟨h.nums, h.ins.chg c (fun k hk => hS _ (h.insD k hk)), h.outs.chg c (fun k hk => hS _ (h.outsD k hk)), h.cells.chg c (fun k hk => hS _ (h.cellsD k hk)), h.insD, h.outsD, h.cellsD⟩
theorem TrIs.no {D : Nat → Prop} {w w' : World} {t : Tr} {v : TrV} (h : TrIs D w t v) (c : Chg No w w') : TrIs D w' t v := h.chg c (fun _ _ h => h)
theorem TrIs.wid {D C : Nat → Prop} {w : World} {t : Tr} {v : TrV} (h : TrIs D w t v) (hc : ∀ k, D k → C k) : TrIs C w t v :=
  ⟨h.nums, h.ins, h.outs, h.cells, fun k hk => hc _ (h.insD k hk), fun k hk => hc _ (h.outsD k hk), fun k hk => hc _ (h.cellsD k hk)⟩
/-- Lists of such a length can be grown. -/
def SmV (v : TrV) : Prop := v.ins.length ≤ 1000000000 ∧ v.outs.length ≤ 1000000000 ∧ v.cells.length ≤ 1000000000

/-! ### slices.Clone -/
theorem Rd.none {α : Type} {E : Enc α} {w : World} {s : Sl} {xs : List α} (h : Rd E w s xs) (hp : s.ptr = none) : xs = [] ∧ s.cap = 0 := by
  obtain ⟨ao, cap, he, _, _, h5, _⟩ := h
  have hq : s.ptr = ao ∧ s.cap = cap := by cases s; simp [Sl.val] at he; exact ⟨he.1, he.2.2⟩
  have := h5 (hq.1.symm.trans hp)
  exact ⟨List.eq_nil_of_length_eq_zero this.1, hq.2.trans this.2⟩
theorem clone_core {α : Type} {P : Program} {E : Enc α} {T : TypeId} (ok : EncOk P E T) (hby : E.bytes ≤ 1000) {w : World} {s : Sl} {xs : List α} (h : Rd E w s xs) (hsm : xs.length ≤ 1000000000) {K : Value → World → Prop}
    (k : ∀ (s' : Sl) (w' : World), Ow E w' s' xs → Chg No w w' → (∀ k, s'.blk = some k → w.heap.size ≤ k) → (s.ptr = none → s' = nilS) → K s'.val w') :
    brB (Option.isNone s.ptr) (K (.slice none 0 0) w) (∀ (b2 : Nat) (w3 : World), b2 = w.heap.size → w3 = World.alloc w (.cells #[] E.t) →
      ∃ s4 : Sl, ∃ w5 : World, (Builtin.append_ #[T, T] T #[.slice (some ⟨b2, 0, none⟩) 0 0, s.val]).run P w3 = .ok (s4.val) w5 ∧ K (s4.val) w5) := by
  refine brB_of (fun hp => ?_) (fun hp => ?_)
  · have hp : s.ptr = Option.none := by cases h : s.ptr with
      | none => rfl
      | some a => rw [h] at hp; cases hp
    obtain ⟨rfl, _⟩ := h.none hp
    exact k nilS w (Ow.nil E w) (Chg.refl _ _) (fun k hk => by cases hk) (fun _ => rfl)
  · intro b2 w3 hb hw
    have hne : s.ptr ≠ Option.none := fun e => by rw [e] at hp; cases hp
    have hc : Chg No w w3 := by rw [hw]; exact Chg.alloc _ _ _
    have hlit : Ow E w3 ⟨some ⟨b2, 0, Option.none⟩, 0, 0⟩ [] := by
      rw [hw, hb]; exact Ow.lit w [] [] rfl (Nat.zero_le _)
    have hs3 : w.heap.size < w3.heap.size := by rw [hw]; simp
    refine app_ok ok rfl rfl hlit (h.no hc) (by
      have : (xs.length) * E.bytes ≤ 1000000000 * 1000 := Nat.mul_le_mul hsm hby
      simp only [List.length_nil, Nat.zero_add]; omega) (by simp only [List.length_nil, Nat.zero_add]; unfold maxLen; omega) ?_
    intro s' w5 h5 hc5 hbk
    refine k s' w5 (by simpa using h5) (hc.trans hc5 (fun _ _ h => h) (fun j hj he => ?_)) (fun j hj => ?_) (fun e => absurd e hne)
    · have : some b2 = some j := he
      cases this; omega
    · rcases hbk with hk | hk
      · have : (⟨some ⟨b2, 0, Option.none⟩, 0, 0⟩ : Sl).blk = some b2 := rfl
        rw [hk, this] at hj; cases hj; omega
      · rw [hk] at hj; cases hj; omega
theorem clone_ints {w : World} {s : Sl} {xs : List Int} (h : Rd intE w s xs) (hsm : xs.length ≤ 1000000000) : Calls Try.prog fn_slices_Clone_sl_int_int #[s.val] w fun e w' => ∃ s' : Sl, e = .returned s'.val ∧ Ow intE w' s' xs ∧ Chg No w w' ∧ (∀ k, s'.blk = some k → w.heap.size ≤ k) ∧ (s.ptr = none → s' = nilS) := by
  refine (slices_Clone_sl_int_int_lift (K := fun v w' => ∃ s' : Sl, v = s'.val ∧ Ow intE w' s' xs ∧ Chg No w w' ∧ (∀ k, s'.blk = some k → w.heap.size ≤ k) ∧ (s.ptr = none → s' = nilS)) ?_).mono (by rintro e w' ⟨v, rfl, s', rfl, h⟩; exact ⟨s', rfl, h⟩)
  unfold slices_Clone_sl_int_int_sh
  exact clone_core (K := fun v w' => ∃ s' : Sl, v = s'.val ∧ Ow intE w' s' xs ∧ Chg No w w' ∧ (∀ k, s'.blk = some k → w.heap.size ≤ k) ∧ (s.ptr = none → s' = nilS)) intOk (by decide) h hsm fun s' w' h1 h2 h3 h4 => ⟨s', rfl, h1, h2, h3, h4⟩
theorem clone_ins {w : World} {s : Sl} {xs : List In5} (h : Rd insE w s xs) (hsm : xs.length ≤ 1000000000) : Calls Try.prog fn_slices_Clone_sl_api_Ins_api_Ins #[s.val] w fun e w' => ∃ s' : Sl, e = .returned s'.val ∧ Ow insE w' s' xs ∧ Chg No w w' ∧ (∀ k, s'.blk = some k → w.heap.size ≤ k) := by
  refine (slices_Clone_sl_api_Ins_api_Ins_lift (K := fun v w' => ∃ s' : Sl, v = s'.val ∧ Ow insE w' s' xs ∧ Chg No w w' ∧ (∀ k, s'.blk = some k → w.heap.size ≤ k)) ?_).mono (by rintro e w' ⟨v, rfl, s', rfl, h⟩; exact ⟨s', rfl, h⟩)
  unfold slices_Clone_sl_api_Ins_api_Ins_sh
  exact clone_core (K := fun v w' => ∃ s' : Sl, v = s'.val ∧ Ow insE w' s' xs ∧ Chg No w w' ∧ (∀ k, s'.blk = some k → w.heap.size ≤ k)) insOk (by decide) h hsm fun s' w' h1 h2 h3 _ => ⟨s', rfl, h1, h2, h3⟩
theorem clone_outs {w : World} {s : Sl} {xs : List (Int × Int)} (h : Rd ouE w s xs) (hsm : xs.length ≤ 1000000000) : Calls Try.prog fn_slices_Clone_sl_api_Out_api_Out #[s.val] w fun e w' => ∃ s' : Sl, e = .returned s'.val ∧ Ow ouE w' s' xs ∧ Chg No w w' ∧ (∀ k, s'.blk = some k → w.heap.size ≤ k) := by
  refine (slices_Clone_sl_api_Out_api_Out_lift (K := fun v w' => ∃ s' : Sl, v = s'.val ∧ Ow ouE w' s' xs ∧ Chg No w w' ∧ (∀ k, s'.blk = some k → w.heap.size ≤ k)) ?_).mono (by rintro e w' ⟨v, rfl, s', rfl, h⟩; exact ⟨s', rfl, h⟩)
  unfold slices_Clone_sl_api_Out_api_Out_sh
  exact clone_core (K := fun v w' => ∃ s' : Sl, v = s'.val ∧ Ow ouE w' s' xs ∧ Chg No w w' ∧ (∀ k, s'.blk = some k → w.heap.size ≤ k)) ouOk (by decide) h hsm fun s' w' h1 h2 h3 _ => ⟨s', rfl, h1, h2, h3⟩
/-- The same value written again. -/
theorem Ox.again {α : Type} {E : Enc α} {w : World} {s : Sl} {xs : List α} (h : Ox E w s xs) {a : Addr} {u : Value} (hu : w.cell? a = some u) : Ox E (stW w a 0 [u]) s xs := by
  have he : stW w a 0 [u] = w.setCell a u := by
    show w.setCell (a.add 0) u = _
    rw [show a.add 0 = a from by unfold Addr.add; simp]
  have hc : ∀ q, (stW w a 0 [u]).cell? q = w.cell? q := by
    intro q
    rw [he]
    by_cases hq : a = q
    · subst hq; rw [World.cell?_setCell_same _ _ _ hu, hu]
    · exact World.cell?_setCell_other _ _ _ _ hq
  refine ⟨?_, fun b hb => ⟨(h.room b hb).1, fun j hj => ?_⟩, fun k hk => by rw [he]; have := h.lt k hk; simpa using this⟩
  · obtain ⟨ao, cap, h1, h2, h3, h4, h5⟩ := h.rd
    exact ⟨ao, cap, h1, h2, h3, h4, fun j x hx => by obtain ⟨b, hb, hcell⟩ := h5 j x hx; exact ⟨b, hb, by rw [hc]; exact hcell⟩⟩
  · obtain ⟨h1, h2⟩ := (h.room b hb).2 j hj
    refine ⟨by rw [hc]; exact h1, ?_⟩
    rw [he, World.frozen?_setCell]; exact h2
end Go.Proofs.Ytijoigpggphajaa
