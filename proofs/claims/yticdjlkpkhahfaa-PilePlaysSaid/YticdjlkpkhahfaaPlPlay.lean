/- PilePlays: what stands at the head of a round; the steps of a round. -/
import Derived.Test.YticdjlkpkhahfaaPl
import Derived.Test.YticdjlkpkhahfaaLent
set_option maxRecDepth 100000
namespace Go.Proofs.Yticdjlkpkhahfaa
open Go.RowKit

structure OpP where
  kind : Int
  n : Int
  v : Int
  l : Sl
def oppC (o : OpP) : List Value := [.int .i64 o.kind, .int .i64 o.n, .int .i64 o.v, o.l.val]
theorem sl1 (s : Sl) : s.val.oneCell' = true := by rw [val_eq]; rfl
def oppE : Enc OpP := ⟨T_hollowaylaw5_Op, 4, 48, oppC, by intro x; rfl, by intro x u hu; simp [oppC] at hu; rcases hu with rfl | rfl | rfl | rfl <;> first | rfl | exact sl1 _, by decide⟩
theorem opput {w w12 : World} {b : Nat} (x : OpP) (hb : b = w.heap.size) (hw : w12 = World.alloc w (.cells (oppC ⟨0, 0, 0, nilS⟩).toArray T_hollowaylaw5_Op)) : wrOk w12 ⟨b, 0, none⟩ 4 ∧ ∀ w13 : World, w13 = stW w12 ⟨b, 0, none⟩ 0 (oppC x) → Ob w13 b (oppC x) T_hollowaylaw5_Op ∧ Chg No w w13 := by
  have ho : Ob w12 b (oppC ⟨0, 0, 0, nilS⟩) T_hollowaylaw5_Op := by rw [hw, hb]; exact Ob.new w (oppC ⟨0, 0, 0, nilS⟩) T_hollowaylaw5_Op
  have hc : Chg No w w12 := by rw [hw]; exact Chg.alloc _ _ _
  refine ⟨ho.wr (by simp [oppC]), fun w13 h13 => ⟨?_, ?_⟩⟩
  · have := Ob.st (vs := oppC x) (k := 0) (i := 0) ho
    rw [show wrL (oppC ⟨0, 0, 0, nilS⟩) (0 + 0) (oppC x) = oppC x from rfl] at this
    rw [h13]; exact this
  · rw [h13]
    refine hc.trans (Chg.st (S := fun k => k = b) rfl) (fun _ _ h => h) (fun k hk he => ?_)
    subst he; omega

structure PWx (B D : Nat → Prop) (w0 w : World) (p : Nat) (s : Sl) (l m : List Int) (M b : Nat) : Prop where
  dic : PsAt B w p M l
  want : Ow intE w s m
  book : BkI D w b
  bB : ∀ k, B k → w0.heap.size ≤ k ∧ k < w.heap.size ∧ ¬ D k
  bD : ∀ k, D k → w0.heap.size ≤ k ∧ k < w.heap.size
  bs : ∀ k, s.blk = some k → w0.heap.size ≤ k ∧ ¬ B k ∧ ¬ D k
  chg : Chg No w0 w
theorem PWx.no {B D : Nat → Prop} {w0 w w' : World} {p M : Nat} {s : Sl} {l m : List Int} {b : Nat} (h : PWx B D w0 w p s l m M b) (c : Chg No w w') : PWx B D w0 w' p s l m M b :=
  ⟨h.dic.no c, h.want.no c, h.book.chg c (fun _ _ h => h), fun k hk => ⟨(h.bB k hk).1, Nat.lt_of_lt_of_le (h.bB k hk).2.1 c.size, (h.bB k hk).2.2⟩, fun k hk => ⟨(h.bD k hk).1, Nat.lt_of_lt_of_le (h.bD k hk).2 c.size⟩, h.bs, trN h.chg c⟩
def upT (B : Nat → Prop) (n : Nat) : Nat → Prop := fun k => B k ∨ n ≤ k
theorem PWx.dict {B D : Nat → Prop} {w0 w w' : World} {p M : Nat} {s : Sl} {l l' m : List Int} {b : Nat} (h : PWx B D w0 w p s l m M b) (h' : PsAt (upT B w.heap.size) w' p M l') (c : Chg (upT B w.heap.size) w w') :
    PWx (fun k => upT B w.heap.size k ∧ k < w'.heap.size) D w0 w' p s l' m M b ∧ Chg B w w' := by
  have cB : Chg B w w' := c.mono (fun k hk h => h.elim id fun h => by omega)
  have h0 := h.chg.size
  refine ⟨⟨h'.nar, h.want.chg cB (fun k hk => (h.bs k hk).2.1), h.book.chg cB (fun k hk hb => (h.bB k hb).2.2 hk), fun k hk => ⟨?_, hk.2, ?_⟩, fun k hk => ⟨(h.bD k hk).1, Nat.lt_of_lt_of_le (h.bD k hk).2 c.size⟩, fun k hk => ⟨(h.bs k hk).1, ?_, (h.bs k hk).2.2⟩, h.chg.trans cB (fun _ _ h => h) (fun k hk hb => by have := (h.bB k hb).1; omega)⟩, cB⟩
  · rcases hk.1 with hb | hb
    · exact (h.bB k hb).1
    · omega
  · rcases hk.1 with hb | hb
    · exact (h.bB k hb).2.2
    · intro hd; have := (h.bD k hd).2; omega
  · rintro ⟨hb | hb, _⟩
    · exact (h.bs k hk).2.1 hb
    · have := h.want.lt hk; omega
/-- No new block for the stack. -/
theorem PWx.dict0 {B D : Nat → Prop} {w0 w w' : World} {p M : Nat} {s : Sl} {l l' m : List Int} {b : Nat} (h : PWx B D w0 w p s l m M b) (h' : PsAt B w' p M l') (c : Chg B w w') : PWx B D w0 w' p s l' m M b := by
  have h0 := h.chg.size
  exact ⟨h', h.want.chg c (fun k hk => (h.bs k hk).2.1), h.book.chg c (fun k hk hb => (h.bB k hb).2.2 hk), fun k hk => ⟨(h.bB k hk).1, Nat.lt_of_lt_of_le (h.bB k hk).2.1 c.size, (h.bB k hk).2.2⟩, fun k hk => ⟨(h.bD k hk).1, Nat.lt_of_lt_of_le (h.bD k hk).2 c.size⟩, h.bs, h.chg.trans c (fun _ _ h => h) (fun k hk hb => by have := (h.bB k hb).1; omega)⟩
theorem PWx.new {B D : Nat → Prop} {w0 w w' : World} {p M : Nat} {s s' : Sl} {l m m' : List Int} {b : Nat} (h : PWx B D w0 w p s l m M b) (c : Chg No w w') (ho : Ow intE w' s' m') (hs : ∀ k, s'.blk = some k → w.heap.size ≤ k) : PWx B D w0 w' p s' l m' M b := by
  have h0 := h.chg.size
  refine ⟨h.dic.no c, ho, h.book.chg c (fun _ _ h => h), fun k hk => ⟨(h.bB k hk).1, Nat.lt_of_lt_of_le (h.bB k hk).2.1 c.size, (h.bB k hk).2.2⟩, fun k hk => ⟨(h.bD k hk).1, Nat.lt_of_lt_of_le (h.bD k hk).2 c.size⟩, fun k hk => ⟨?_, fun hb => ?_, fun hb => ?_⟩, trN h.chg c⟩
  · have := hs k hk; omega
  · have := hs k hk; have := (h.bB k hb).2.1; omega
  · have := hs k hk; have := (h.bD k hb).2; omega
theorem PWx.swap {B D Q : Nat → Prop} {w0 w : World} {p q M : Nat} {s : Sl} {l l' m : List Int} {b : Nat} (h : PWx B D w0 w p s l m M b) (hq : PsAt Q w q M l') (hQ : ∀ k, Q k → w0.heap.size ≤ k ∧ k < w.heap.size ∧ ¬ D k ∧ s.blk ≠ some k) : PWx Q D w0 w q s l' m M b :=
  ⟨hq, h.want, h.book, fun k hk => ⟨(hQ k hk).1, (hQ k hk).2.1, (hQ k hk).2.2.1⟩, h.bD, fun k hk => ⟨(h.bs k hk).1, fun hb => (hQ k hb).2.2.2 hk, (h.bs k hk).2.2⟩, h.chg⟩
/-- One more list is kept. -/
theorem PWx.keep {B D : Nat → Prop} {w0 w : World} {p M : Nat} {s : Sl} {l m : List Int} {b : Nat} (h : PWx B D w0 w p s l m M b) {t : Sl} {xs : List Int} (ht : Ow intE w t xs) (hxs : xs.length ≤ 10000000) (hf : ∀ k, t.blk = some k → w0.heap.size ≤ k ∧ ¬ B k ∧ ¬ D k ∧ s.blk ≠ some k) :
    Calls Try.prog fn_hollowaybook_Book_Ints #[.pointer (some ⟨b, 0, none⟩), t.val] w fun e w' => e = .returned (.tuple #[]) ∧ (∃ D', PWx B D' w0 w' p s l m M b) ∧ Ow intE w' t xs ∧ Chg D w w' := by
  refine (bookInts_any (h.book.wid (D' := upT D w.heap.size) (fun k hk => Or.inl hk)) (fun k hk => Or.inr hk) ht.ox hxs (D' := fun k => upT D w.heap.size k ∨ t.blk = some k) (fun k hk => Or.inl hk) (fun k hk => ⟨Or.inr hk, ?_⟩)).mono ?_
  · rintro (hd | hd)
    · exact (hf k hk).2.2.1 hd
    · have := ht.lt hk; omega
  rintro e w' ⟨rfl, hk', c⟩
  have cD : Chg D w w' := c.mono (fun k hk h => h.elim id fun h => by omega)
  have h0 := h.chg.size
  have z := c.size
  refine ⟨rfl, ⟨_, ⟨h.dic.chg cD (fun k hk hd => (h.bB k hk).2.2 hd), h.want.chg cD (fun k hk => (h.bs k hk).2.2), hk'.nar, fun k hk => ⟨(h.bB k hk).1, by have := (h.bB k hk).2.1; omega, ?_⟩, fun k hk => ⟨?_, hk.2⟩, fun k hk => ⟨(h.bs k hk).1, (h.bs k hk).2.1, ?_⟩, h.chg.trans cD (fun _ _ h => h) (fun k hk hb => by have := (h.bD k hb).1; omega)⟩⟩, ht.chg cD (fun k hk => (hf k hk).2.2.1), cD⟩
  · rintro ⟨(hd | hd) | hd, _⟩
    · exact (h.bB k hk).2.2 hd
    · have := (h.bB k hk).2.1; omega
    · exact (hf k hd).2.1 hk
  · rcases hk.1 with (hd | hd) | hd
    · exact (h.bD k hd).1
    · omega
    · exact (hf k hd).1
  · rintro ⟨(hd | hd) | hd, _⟩
    · exact (h.bs k hk).2.2 hd
    · have := h.want.lt hk; omega
    · exact (hf k hd).2.2.2 hk
/-- A list that is new at some world is apart from all. -/
theorem PWx.apart {B D : Nat → Prop} {w0 w : World} {p M : Nat} {s : Sl} {l m : List Int} {b : Nat} (h : PWx B D w0 w p s l m M b) {k : Nat} (hk : w.heap.size ≤ k) : w0.heap.size ≤ k ∧ ¬ B k ∧ ¬ D k ∧ s.blk ≠ some k := by
  have h0 := h.chg.size
  exact ⟨by omega, fun hb => by have := (h.bB k hb).2.1; omega, fun hb => by have := (h.bD k hb).2; omega, fun hb => by have := h.want.lt hb; omega⟩

/-! ### What a nil stack answers; the law's first call -/
theorem plenN_any (w : World) : Calls Try.prog fn_pile_Pile_Len #[.pointer none] w fun e w' => e = .returned (.int .i64 0) ∧ w = w' :=
  (pile_Pile_Len_nil_lift (K := fun r w' => r = .int .i64 0 ∧ w = w') ⟨rfl, rfl⟩).mono (by rintro e w' ⟨r, rfl, rfl, h⟩; exact ⟨rfl, h⟩)
theorem pallN_any (w : World) : Calls Try.prog fn_pile_Pile_All #[.pointer none] w fun e w' => e = .returned nilS.val ∧ w = w' :=
  (pile_Pile_All_nil_lift (K := fun r w' => r = nilS.val ∧ w = w') ⟨rfl, rfl⟩).mono (by rintro e w' ⟨r, rfl, rfl, h⟩; exact ⟨rfl, h⟩)
theorem pcopyN_any (w : World) : Calls Try.prog fn_pile_Pile_Copy #[.pointer none] w fun e w' => e = .returned (.pointer none) ∧ w = w' :=
  (pile_Pile_Copy_nil_lift (K := fun r w' => r = .pointer none ∧ w = w') ⟨rfl, rfl⟩).mono (by rintro e w' ⟨r, rfl, rfl, h⟩; exact ⟨rfl, h⟩)
theorem pcutN_any (n : Int) (w : World) : Calls Try.prog fn_pile_Pile_Cut #[.pointer none, .int .i64 n] w fun e w' => e = .returned (.bool false) ∧ w = w' :=
  (pile_Pile_Cut_nil_lift (K := fun r w' => r = .bool false ∧ w = w') ⟨rfl, rfl⟩).mono (by rintro e w' ⟨r, rfl, rfl, h⟩; exact ⟨rfl, h⟩)
theorem ppopN_any (n : Int) (w : World) : Calls Try.prog fn_pile_Pile_Pop #[.pointer none, .int .i64 n] w fun e w' => e = .returned (popV nilS false) ∧ w = w' :=
  (pile_Pile_Pop_nil_lift (K := fun r w' => r = popV nilS false ∧ w = w') ⟨rfl, rfl⟩).mono (by rintro e w' ⟨r, rfl, rfl, h⟩; exact ⟨rfl, h⟩)
theorem pplaceN_any (n : Int) (w : World) : Calls Try.prog fn_pile_Pile_place #[.pointer none, .int .i64 n] w fun e w' => e = .returned (.int .i64 (-1)) ∧ w = w' :=
  (pile_Pile_place_nil_lift (K := fun r w' => r = .int .i64 (-1) ∧ w = w') ⟨rfl, rfl⟩).mono (by rintro e w' ⟨r, rfl, rfl, h⟩; exact ⟨rfl, h⟩)
theorem ppeekN_any (n : Int) (w : World) : Calls Try.prog fn_pile_Pile_Peek #[.pointer none, .int .i64 n] w fun e w' => e = .returned (.tuple #[.int .i64 0, .bool false]) ∧ w = w' := by
  refine (pile_Pile_Peek_nil_lift (K := fun r w' => r = .tuple #[.int .i64 0, .bool false] ∧ w = w') ?_).mono (by rintro e w' ⟨r, rfl, rfl, h⟩; exact ⟨rfl, h⟩)
  unfold pile_Pile_Peek_nil_sh
  refine (pplaceN_any n w).mono ?_
  rintro e w4 ⟨rfl, rfl⟩
  exact ⟨_, rfl, brB_t ⟨rfl, rfl⟩⟩
theorem psetN_any (n v : Int) (w : World) : Calls Try.prog fn_pile_Pile_Set #[.pointer none, .int .i64 n, .int .i64 v] w fun e w' => e = .returned (.bool false) ∧ w = w' := by
  refine (pile_Pile_Set_nil_lift (K := fun r w' => r = .bool false ∧ w = w') ?_).mono (by rintro e w' ⟨r, rfl, rfl, h⟩; exact ⟨rfl, h⟩)
  unfold pile_Pile_Set_nil_sh
  refine (pplaceN_any n w).mono ?_
  rintro e w4 ⟨rfl, rfl⟩
  exact ⟨_, rfl, brB_t ⟨rfl, rfl⟩⟩
theorem ppushN_any (s : Sl) (w : World) : Calls Try.prog fn_pile_Pile_Push #[.pointer none, s.val] w fun e w' => e = .returned (.bool false) ∧ Chg No w w' := by
  refine (pile_Pile_Push_nil_lift (K := fun r w' => r = .bool false ∧ Chg No w w') ?_).mono (by rintro e w' ⟨r, rfl, rfl, h⟩; exact ⟨rfl, h⟩)
  unfold pile_Pile_Push_nil_sh
  intro w2 hw2
  exact ⟨rfl, by rw [hw2]; exact Chg.drew _ _⟩
theorem alive5_any (w : World) : Calls Try.prog fn_hollowaylaw5_alive #[] w fun e w' => e = .returned (.bool true) ∧ Chg No w w' := by
  refine (hollowaylaw5_alive_lift (K := fun v w' => v = .bool true ∧ Chg No w w') ?_).mono (by rintro e w' ⟨v, rfl, rfl, h⟩; exact ⟨rfl, h⟩)
  unfold hollowaylaw5_alive_sh
  intro b1 w2 hb1 hw2
  obtain ⟨l2, c2⟩ := litI [1, 2] hb1 hw2 (by decide)
  refine (pnew_any 3 3 rfl ⟨some ⟨b1, 0, none⟩, 2, 2⟩ [1, 2] w2 l2.rd (by decide)).mono ?_
  rintro e w4 ⟨p, rfl, h4, c4⟩
  refine ⟨_, rfl, ?_⟩
  have z2 := c2.size
  have z4 := c4.size
  refine ⟨fun b w' => b = false ∧ PsAt (fun k => w.heap.size ≤ k) w' p 3 [1, 2, 3] ∧ Chg No w w', ?_, ?_⟩
  · rintro b w16 ⟨rfl, h16, c16⟩
    refine brB_f ?_
    refine (ppop_any 2 h16).mono ?_
    rintro e w19 ⟨s20, rfl, h20, b20, h19, c19⟩
    have h20 : Ow intE w19 s20 [2, 3] := h20
    have hl : s20.len = 2 := h20.rd.len
    refine ⟨s20, _, rfl, brB_t ?_⟩
    rw [hl]
    refine brB_t ?_
    have g := h20.rd.ix (i := 0) (x := 2) (by omega) rfl (G := fun a => w19.cell? (Addr.add a (Int.toNat (0 : Int) * 1)) = some (.int .i64 2)) (fun a ha hcell => by
      have q1 := hcell 0 _ rfl
      rw [add0] at q1; exact q1)
    have g' := h20.rd.ix (i := 1) (x := 3) (by omega) rfl (G := fun a => w19.cell? (Addr.add a (Int.toNat (1 : Int) * 1)) = some (.int .i64 3)) (fun a ha hcell => by
      have q1 := hcell 0 _ rfl
      rw [add0] at q1; exact q1)
    rw [hl] at g g'
    obtain ⟨a, ha, g1, g2, g3⟩ := g
    obtain ⟨a', ha', g1', g2', g3'⟩ := g'
    refine ⟨a, ha, g1, g2, 2, g3, brB_t ⟨a', ha', g1', g2', 3, g3', brB_t ?_⟩⟩
    refine (plen_any h19).mono ?_
    rintro e w27 ⟨rfl, rfl⟩
    exact ⟨_, rfl, rfl, c16.trans c19 (fun _ _ h => h) (fun k hk h => by omega)⟩
  · refine brB_f ?_
    have h4' : PsAt (fun k => w2.heap.size ≤ k) w4 p 3 [1, 2] := h4
    intro b6 w7 hb6 hw7
    obtain ⟨l7, c7⟩ := litI [3, 4] hb6 hw7 (by decide)
    have z7 := c7.size
    refine (ppush_any (h4'.no c7) (fun k hk => by omega) (t := ⟨some ⟨b6, 0, none⟩, 2, 2⟩) l7.rd).mono ?_
    rintro e w9 ⟨rfl, h9, c9⟩
    have h9' : PsAt (fun k => w2.heap.size ≤ k) w9 p 3 [1, 2] := h9
    have z9 := c9.size
    refine ⟨_, rfl, brB_f ?_⟩
    intro b11 w12 hb11 hw12
    obtain ⟨l12, c12⟩ := litI [3] hb11 hw12 (by decide)
    have z12 := c12.size
    refine (ppush_any (h9'.no c12) (fun k hk => by omega) (t := ⟨some ⟨b11, 0, none⟩, 1, 1⟩) l12.rd).mono ?_
    rintro e w14 ⟨rfl, h14, c14⟩
    have h14' : PsAt (fun k => w2.heap.size ≤ k) w14 p 3 [1, 2, 3] := h14
    refine ⟨_, rfl, rfl, h14'.wid (fun k hk => by omega), ?_⟩
    have k1 : Chg No w w7 := trN (trN c2 c4) c7
    have k2 : Chg No w w12 := trN (k1.trans c9 (fun _ _ h => h) (fun k hk h => by omega)) c12
    exact k2.trans c14 (fun _ _ h => h) (fun k hk h => by omega)
end Go.Proofs.Yticdjlkpkhahfaa
