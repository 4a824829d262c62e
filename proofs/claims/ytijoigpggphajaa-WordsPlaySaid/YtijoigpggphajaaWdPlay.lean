/- WordsPlay: the walk. -/
import Derived.Test.YtijoigpggphajaaBookS
import Derived.Test.YtijoigpggphajaaWdRef
import Derived.Test.YtijoigpggphajaaWdMany
set_option maxRecDepth 100000
namespace Go.Proofs.Ytijoigpggphajaa
open Go.RowKit

structure OpV where
  kind : Int
  n : Int
  x : Wd
def opvC (o : OpV) : List Value := [.int .i64 o.kind, .int .i64 o.n, .string o.x.name, .int .i64 o.x.xt, .int .i64 o.x.op, .bool o.x.imm]
def opvE : Enc OpV := ⟨T_hollowaylaw7_Op, 6, 56, opvC, by intro x; rfl, by intro x u hu; simp [opvC] at hu; rcases hu with rfl | rfl | rfl | rfl | rfl | rfl <;> rfl, by decide⟩
theorem oput {w w12 : World} {b : Nat} (x : OpV) (hb : b = w.heap.size) (hw : w12 = World.alloc w (.cells (opvC ⟨0, 0, wd0⟩).toArray T_hollowaylaw7_Op)) : wrOk w12 ⟨b, 0, none⟩ 6 ∧ ∀ w13 : World, w13 = stW w12 ⟨b, 0, none⟩ 0 (opvC x) → Ob w13 b (opvC x) T_hollowaylaw7_Op ∧ Chg No w w13 := by
  have ho : Ob w12 b (opvC ⟨0, 0, wd0⟩) T_hollowaylaw7_Op := by rw [hw, hb]; exact Ob.new w (opvC ⟨0, 0, wd0⟩) T_hollowaylaw7_Op
  have hc : Chg No w w12 := by rw [hw]; exact Chg.alloc _ _ _
  refine ⟨ho.wr (by simp [opvC]), fun w13 h13 => ⟨?_, ?_⟩⟩
  · have := Ob.st (vs := opvC x) (k := 0) (i := 0) ho
    rw [show wrL (opvC ⟨0, 0, wd0⟩) (0 + 0) (opvC x) = opvC x from wrL_whole rfl] at this
    rw [h13]; exact this
  · rw [h13]
    refine hc.trans (Chg.st (S := fun k => k = b) rfl) (fun _ _ h => h) (fun k hk he => ?_)
    subst he; omega
/-- Two words compared, the other way round. -/
theorem wd_neq (a b : Wd) (x y : Operand) (w : World) : ((do eqGuard .neq T_api_Word x y (.agg (wdC a).toArray) (.agg (wdC b).toArray); binOp .neq T_api_Word (.agg (wdC a).toArray) (.agg (wdC b).toArray) : Sem Value)).run Try.prog w = .ok (.bool (!(a.name.toList == b.name.toList && a.xt == b.xt && a.op == b.op && a.imm == b.imm))) w := by
  have u1 := Try.underlying3
  have u2 := Try.underlying9
  have u3 := Try.underlying4
  have hS : Try.prog.underlying T_api_Word = some (.struct (Try.prog.fieldsOf T_api_Word)) := by kernel_rfl
  have hp : Try.prog.stoodInHeld T_api_Word = false := by kernel_rfl
  have hm : Try.prog.eqGuardType Try.prog.depth T_api_Word = false := by kernel_rfl
  simp only [Sem.run_bind, run_eqGuard_agg w .neq T_api_Word x y _ _ hm, Result.andThen_ok, run_neq_struct]
  rw [show (10000 : Nat) = 9999 + 1 from rfl, run_equalIn_agg w 9999 T_api_Word _ _ hS hp]
  simp only [Program.fieldsOf, Try.underlying74]
  go_simp
  rcases a with ⟨n1, x1, o1, i1⟩
  rcases b with ⟨n2, x2, o2, i2⟩
  simp only [wdC]
  go_simp
  by_cases h1 : n1.toList = n2.toList <;> by_cases h2 : x1 = x2 <;> by_cases h3 : o1 = o2 <;> by_cases h4 : i1 = i2 <;> simp [h1, h2, h3, h4]
theorem wd_nsame (a : Wd) (x y : Operand) (w : World) : ((do eqGuard .neq T_api_Word x y (.agg (wdC a).toArray) (.agg (wdC a).toArray); binOp .neq T_api_Word (.agg (wdC a).toArray) (.agg (wdC a).toArray) : Sem Value)).run Try.prog w = .ok (.bool false) w := by
  rw [wd_neq]; simp

/-! ### What stands at the head of a round -/
structure WPx (B D : Nat → Prop) (w0 w : World) (p : Nat) (s : Sl) (l m : List Wd) (b : Nat) : Prop where
  dic : WdsAt B w p l
  want : Ow wdE w s m
  book : BkW D w b
  bB : ∀ k, B k → w0.heap.size ≤ k ∧ k < w.heap.size ∧ ¬ D k
  bD : ∀ k, D k → w0.heap.size ≤ k ∧ k < w.heap.size
  bs : ∀ k, s.blk = some k → w0.heap.size ≤ k ∧ ¬ B k ∧ ¬ D k
  chg : Chg No w0 w
theorem WPx.no {B D : Nat → Prop} {w0 w w' : World} {p : Nat} {s : Sl} {l m : List Wd} {b : Nat} (h : WPx B D w0 w p s l m b) (c : Chg No w w') : WPx B D w0 w' p s l m b :=
  ⟨h.dic.no c, h.want.no c, h.book.chg c (fun _ _ h => h), fun k hk => ⟨(h.bB k hk).1, Nat.lt_of_lt_of_le (h.bB k hk).2.1 c.size, (h.bB k hk).2.2⟩, fun k hk => ⟨(h.bD k hk).1, Nat.lt_of_lt_of_le (h.bD k hk).2 c.size⟩, h.bs, trN h.chg c⟩
/-- A set of blocks, and all that are yet to come. -/
def upT (B : Nat → Prop) (n : Nat) : Nat → Prop := fun k => B k ∨ n ≤ k
theorem WPx.dict {B D : Nat → Prop} {w0 w w' : World} {p : Nat} {s : Sl} {l l' m : List Wd} {b : Nat} (h : WPx B D w0 w p s l m b) (h' : WdsAt (upT B w.heap.size) w' p l') (c : Chg (upT B w.heap.size) w w') :
    WPx (fun k => upT B w.heap.size k ∧ k < w'.heap.size) D w0 w' p s l' m b ∧ Chg B w w' := by
  have cB : Chg B w w' := c.mono (fun k hk h => h.elim id fun h => by omega)
  have h0 := h.chg.size
  refine ⟨⟨h'.nar, h.want.chg cB (fun k hk => (h.bs k hk).2.1), h.book.chg cB (fun k hk hb => (h.bB k hb).2.2 hk), fun k hk => ⟨?_, hk.2, ?_⟩, fun k hk => ⟨(h.bD k hk).1, Nat.lt_of_lt_of_le (h.bD k hk).2 c.size⟩, fun k hk => ⟨(h.bs k hk).1, ?_, (h.bs k hk).2.2⟩, h.chg.trans cB (fun _ _ h => h) (fun k hk hb => by have := (h.bB k hb).1; omega)⟩, cB⟩
  · rcases hk.1 with hb | hb
    · exact (h.bB k hb).1
    · omega
  · rcases hk.1 with hb | hb
    · exact (h.bB k hb).2.2
    · intro hd; have := (h.bD k hd).2; omega
  · rintro ⟨hb | hb, _⟩
    · exact (h.bs k hk).2.1 hb
    · have := h.want.lt hk; omega
theorem WPx.add {B D : Nat → Prop} {w0 w : World} {p : Nat} {s : Sl} {l m : List Wd} {b : Nat} (h : WPx B D w0 w p s l m b) (x : Wd) (hx : x.name.size ≤ 9223372036854775807) :
    Calls Try.prog fn_words_Words_Add #[.pointer (some ⟨p, 0, none⟩), .agg (wdC x).toArray] w fun e w' => e = .returned (.int .i64 (addC l x)) ∧ WPx (fun k => upT B w.heap.size k ∧ k < w'.heap.size) D w0 w' p s (addL l x) m b ∧ Chg B w w' := by
  refine (wadd_any x (h.dic.wid (C := upT B w.heap.size) (fun k hk => Or.inl hk)) (fun k hk => Or.inr hk) hx).mono ?_
  rintro e w' ⟨rfl, h1, c⟩
  exact ⟨rfl, h.dict h1 c⟩
theorem WPx.cut {B D : Nat → Prop} {w0 w : World} {p : Nat} {s : Sl} {l m : List Wd} {b : Nat} (h : WPx B D w0 w p s l m b) (n : Int) :
    Calls Try.prog fn_words_Words_Cut #[.pointer (some ⟨p, 0, none⟩), .int .i64 n] w fun e w' => e = .returned (.bool (decide (0 ≤ n ∧ n ≤ l.length))) ∧ WPx (fun k => upT B w.heap.size k ∧ k < w'.heap.size) D w0 w' p s (if 0 ≤ n ∧ n ≤ l.length then l.take n.toNat else l) m b ∧ Chg B w w' := by
  refine (wcut_any n (h.dic.wid (C := upT B w.heap.size) (fun k hk => Or.inl hk))).mono ?_
  rintro e w' ⟨rfl, h1, c⟩
  exact ⟨rfl, h.dict h1 c⟩
theorem WPx.imm {B D : Nat → Prop} {w0 w : World} {p : Nat} {s : Sl} {l m : List Wd} {b : Nat} (h : WPx B D w0 w p s l m b) :
    Calls Try.prog fn_words_Words_Immediate #[.pointer (some ⟨p, 0, none⟩)] w fun e w' => e = .returned (.bool (decide (0 < l.length))) ∧ WPx (fun k => upT B w.heap.size k ∧ k < w'.heap.size) D w0 w' p s (immL l) m b ∧ Chg B w w' := by
  refine (wimm_any (h.dic.wid (C := upT B w.heap.size) (fun k hk => Or.inl hk))).mono ?_
  rintro e w' ⟨rfl, h1, c⟩
  exact ⟨rfl, h.dict h1 c⟩
theorem WPx.new {B D : Nat → Prop} {w0 w w' : World} {p : Nat} {s s' : Sl} {l m m' : List Wd} {b : Nat} (h : WPx B D w0 w p s l m b) (c : Chg No w w') (ho : Ow wdE w' s' m') (hs : ∀ k, s'.blk = some k → w.heap.size ≤ k) : WPx B D w0 w' p s' l m' b := by
  have h0 := h.chg.size
  refine ⟨h.dic.no c, ho, h.book.chg c (fun _ _ h => h), fun k hk => ⟨(h.bB k hk).1, Nat.lt_of_lt_of_le (h.bB k hk).2.1 c.size, (h.bB k hk).2.2⟩, fun k hk => ⟨(h.bD k hk).1, Nat.lt_of_lt_of_le (h.bD k hk).2 c.size⟩, fun k hk => ⟨?_, fun hb => ?_, fun hb => ?_⟩, trN h.chg c⟩
  · have := hs k hk; omega
  · have := hs k hk; have := (h.bB k hb).2.1; omega
  · have := hs k hk; have := (h.bD k hb).2; omega
/-- Another dictionary takes its place. -/
theorem WPx.swap {B D Q : Nat → Prop} {w0 w : World} {p q : Nat} {s : Sl} {l l' m : List Wd} {b : Nat} (h : WPx B D w0 w p s l m b) (hq : WdsAt Q w q l') (hQ : ∀ k, Q k → w0.heap.size ≤ k ∧ k < w.heap.size ∧ ¬ D k ∧ s.blk ≠ some k) : WPx Q D w0 w q s l' m b :=
  ⟨hq, h.want, h.book, fun k hk => ⟨(hQ k hk).1, (hQ k hk).2.1, (hQ k hk).2.2.1⟩, h.bD, fun k hk => ⟨(h.bs k hk).1, fun hb => (hQ k hb).2.2.2 hk, (h.bs k hk).2.2⟩, h.chg⟩
/-- append(nil, a list..). -/
theorem appNil {w : World} {v : Value} {t : Sl} {xs : List Wd} (hv : v = t.val) (h : Rd wdE w t xs) (hl : xs.length ≤ 1000000) {G : Sl → World → Prop} (k : ∀ (s' : Sl) (w' : World), Ow wdE w' s' xs → Chg No w w' → (∀ k, s'.blk = some k → w.heap.size ≤ k) → G s' w') :
    ∃ s' : Sl, ∃ w' : World, (Builtin.append_ #[T_sl_api_Word, T_sl_api_Word] T_sl_api_Word #[.slice none 0 0, v]).run Try.prog w = .ok s'.val w' ∧ G s' w' := by
  refine app_ok wdOk (s := nilS) rfl hv (Ow.nil wdE w) h (by simp only [List.length_nil, Nat.zero_add]; show xs.length * 40 ≤ _; omega) (by simp only [List.length_nil, Nat.zero_add]; unfold maxLen; omega) ?_
  intro s' w' h' c hbk
  refine k s' w' (by simpa using h') (c.mono (fun k _ hk => by cases hk)) (fun j hj => ?_)
  rcases hbk with hh | hh
  · rw [hh] at hj; cases hj
  · have := Option.some.inj (hh.symm.trans hj); omega
/-- append(a list, one). -/
theorem appOne {w : World} {s : Sl} {v y : Value} {t : Sl} {xs : List Wd} {x : Wd} (hv : v = s.val) (hy : y = t.val) (ho : Ow wdE w s xs) (h : Rd wdE w t [x]) (hl : xs.length ≤ 1000000) {G : Sl → World → Prop} (k : ∀ (s' : Sl) (w' : World), Ow wdE w' s' (xs ++ [x]) → Chg (fun k => s.blk = some k) w w' → (s'.blk = s.blk ∨ s'.blk = some w.heap.size) → G s' w') :
    ∃ s' : Sl, ∃ w' : World, (Builtin.append_ #[T_sl_api_Word, T_sl_api_Word] T_sl_api_Word #[v, y]).run Try.prog w = .ok s'.val w' ∧ G s' w' :=
  app_ok wdOk hv hy ho h (by show (xs.length + 1) * 40 ≤ _; omega) (by show xs.length + 1 ≤ _; unfold maxLen; omega) k
/-- Words that may stand in a dictionary. -/
def Gd (l : List Wd) : Prop := l.length ≤ 200 ∧ ∀ x ∈ l, wordOk x.name = true
theorem Gd.add {l : List Wd} (h : Gd l) (x : Wd) : Gd (addL l x) := by
  unfold addL
  split
  · exact h
  · split
    · exact h
    · rename_i h1 h2
      refine ⟨by rw [List.length_append]; show l.length + 1 ≤ 200; omega, fun y hy => ?_⟩
      rcases List.mem_append.1 hy with hy | hy
      · exact h.2 y hy
      · rw [List.mem_singleton.1 hy]; simpa using h1
theorem Gd.take {l : List Wd} (h : Gd l) (n : Nat) : Gd (l.take n) := ⟨by rw [List.length_take]; have := h.1; omega, fun y hy => h.2 y (List.mem_of_mem_take hy)⟩
theorem Gd.imm {l : List Wd} (h : Gd l) : Gd (immL l) := by
  unfold immL
  split
  · exact h
  · rename_i x hx
    refine ⟨by rw [List.length_set]; exact h.1, fun y hy => ?_⟩
    rcases List.mem_or_eq_of_mem_set hy with hy | rfl
    · exact h.2 y hy
    · exact h.2 x (List.mem_of_getLast? hx)
theorem Gd.size {l : List Wd} (h : Gd l) : ∀ x ∈ l, x.name.size ≤ 20 := fun x hx => wordOk_size (h.2 x hx)
theorem newL_good : Gd newL := by
  have h : newL.all (fun x => wordOk x.name) = true := by decide +kernel
  exact ⟨by have := newL_short; omega, fun x hx => List.all_eq_true.1 h x hx⟩
end Go.Proofs.Ytijoigpggphajaa
