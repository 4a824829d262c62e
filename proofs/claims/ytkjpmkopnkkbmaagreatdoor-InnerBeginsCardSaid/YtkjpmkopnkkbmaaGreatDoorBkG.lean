/- The book of lists over any kind: lists as put in, marked, grown; one more list. -/
import Derived.Test.YtkjpmkopnkkbmaaGreatDoorBookC
set_option maxRecDepth 100000
namespace Go.Proofs.YtkjpmkopnkkbmaaGreatDoor
open Go.RowKit

section
variable {α : Type}
/-- A kind's lists in the book b (at cells o, o + 1), as they were put in. -/
structure KB (E : Enc α) (T : TypeId) (w : World) (b o : Nat) (A Bs : Sl) (ls was : List Sl) (xss : List (List α)) : Prop where
  cA : w.cell? ⟨b, o, none⟩ = some A.val
  cB : w.cell? ⟨b, o + 1, none⟩ = some Bs.val
  rA : Rd (slE T) w A ls
  rB : Rd (slE T) w Bs was
  len : ls.length = xss.length
  lenB : was.length = xss.length
  few : ls.length ≤ 100000
  ox : ∀ (i : Nat) (s : Sl) (xs : List α), ls[i]? = some s → xss[i]? = some xs → Ox E w s xs ∧ xs.length ≤ 10000000
  rd : ∀ (i : Nat) (s : Sl) (xs : List α), was[i]? = some s → xss[i]? = some xs → Rd E w s xs
  dis : ∀ (i j : Nat) (s t : Sl) (k : Nat), ls[i]? = some s → ls[j]? = some t → s.blk = some k → t.blk = some k → i = j
  nb : ¬ blksOf ls b
  nA : ∀ k, A.blk = some k → ¬ blksOf ls k
/-- The same lists, marked. -/
structure KM (E : Enc α) (T : TypeId) (mk : Int → Int → α) (w : World) (b o : Nat) (A : Sl) (ls : List Sl) : Prop where
  cA : w.cell? ⟨b, o, none⟩ = some A.val
  rA : Rd (slE T) w A ls
  few : ls.length ≤ 100000
  ox : ∀ (i : Nat) (s : Sl), ls[i]? = some s → Ox E w s (marks (mk i) 0 s.len) ∧ s.len ≤ 10000000
  dis : ∀ (i j : Nat) (s t : Sl) (k : Nat), ls[i]? = some s → ls[j]? = some t → s.blk = some k → t.blk = some k → i = j
  nb : ¬ blksOf ls b
  nA : ∀ k, A.blk = some k → ¬ blksOf ls k
variable {w : World} {b : Nat} {A Bs : Sl} {ls was : List Sl}
theorem KB.marked {E : Enc α} {T : TypeId} {mk : Int → Int → α} {o : Nat} {xss : List (List α)} (h : KB E T w b o A Bs ls was xss) {w' : World} (c : Chg (blksOf ls) w w') (hm : ∀ (i : Nat) (s : Sl), ls[i]? = some s → Ox E w' s (marks (mk i) 0 s.len)) : KM E T mk w' b o A ls := by
  refine ⟨c.cell h.cA h.nb, h.rA.chg c h.nA, h.few, fun i s hs => ⟨hm i s hs, ?_⟩, h.dis, h.nb, h.nA⟩
  obtain ⟨xs, hxs⟩ : ∃ xs, xss[i]? = some xs := ⟨_, List.getElem?_eq_getElem (by have := (List.getElem?_eq_some_iff.1 hs).1; have := h.len; omega)⟩
  obtain ⟨h1, h2⟩ := h.ox i s xs hs hxs
  rw [h1.rd.len]; exact h2
/-- Grown forms of the lists: marked all through. -/
def Grown' (E : Enc α) (T : TypeId) (mk : Int → Int → α) (w : World) (out : Sl) (n : Nat) : Prop := ∃ outs : List Sl, Rd (slE T) w out outs ∧ outs.length = n ∧ ∀ (i : Nat) (t : Sl), outs[i]? = some t → t.len ≤ 20000000 ∧ Rd E w t (marks (mk i) 0 t.len)
/-- The book's lists read as marks. -/
def Marked' (E : Enc α) (mk : Int → Int → α) (w : World) (ls : List Sl) : Prop := ∀ (i : Nat) (s : Sl), ls[i]? = some s → Rd E w s (marks (mk i) 0 s.len)
end
section
variable {α : Type} {w w' : World} {b o : Nat} {A Bs : Sl} {ls was : List Sl}
theorem KB.no {E : Enc α} {T : TypeId} {xss : List (List α)} (h : KB E T w b o A Bs ls was xss) (c : Chg No w w') : KB E T w' b o A Bs ls was xss :=
  ⟨c.cell h.cA (fun h => h), c.cell h.cB (fun h => h), h.rA.no c, h.rB.no c, h.len, h.lenB, h.few, fun i s xs hs hx => ⟨(h.ox i s xs hs hx).1.no c, (h.ox i s xs hs hx).2⟩, fun i s xs hs hx => (h.rd i s xs hs hx).no c, h.dis, h.nb, h.nA⟩
theorem Grown'.no {E : Enc α} {T : TypeId} {mk : Int → Int → α} {out : Sl} {n : Nat} (h : Grown' E T mk w out n) (c : Chg No w w') : Grown' E T mk w' out n := by
  obtain ⟨outs, h1, h2, h3⟩ := h
  exact ⟨outs, h1.no c, h2, fun i t ht => ⟨(h3 i t ht).1, (h3 i t ht).2.no c⟩⟩
/-- The book's own lists, read as marks, as a list of lists. -/
theorem Marked'.asGrown {E : Enc α} {T : TypeId} {mk : Int → Int → α} (hm : Marked' E mk w ls) (rA : Rd (slE T) w A ls) (hl : ∀ (i : Nat) (s : Sl), ls[i]? = some s → s.len ≤ 20000000) : Grown' E T mk w A ls.length :=
  ⟨ls, rA, rfl, fun i s hs => ⟨hl i s hs, hm i s hs⟩⟩
theorem brN_f {P Q : Prop} (h : Q) : brB (!true) P Q := brB_f h
end
section
variable {α : Type} {P : Program}
/-- A kind's lists in the book, all in blocks of D, each where no other of them lies. -/
structure KO (D : Nat → Prop) (E : Enc α) (T : TypeId) (w : World) (b : Nat) (A Bs : Sl) (ls was : List Sl) (xss : List (List α)) : Prop where
  oA : Ow (slE T) w A ls
  oB : Ow (slE T) w Bs was
  len : ls.length = xss.length
  lenB : was.length = xss.length
  ox : ∀ (i : Nat) (s : Sl) (xs : List α), ls[i]? = some s → xss[i]? = some xs → Ox E w s xs ∧ xs.length ≤ 10000000
  rd : ∀ (i : Nat) (s : Sl) (xs : List α), was[i]? = some s → xss[i]? = some xs → Rd E w s xs
  dis : ∀ (i j : Nat) (s t : Sl) (k : Nat), ls[i]? = some s → ls[j]? = some t → s.blk = some k → t.blk = some k → i = j
  dA : ∀ k, A.blk = some k → D k ∧ k ≠ b ∧ Bs.blk ≠ some k ∧ ¬ blksOf ls k ∧ ¬ blksOf was k
  dB : ∀ k, Bs.blk = some k → D k ∧ k ≠ b ∧ ¬ blksOf ls k ∧ ¬ blksOf was k
  dl : ∀ k, blksOf ls k → D k ∧ k ≠ b ∧ k < w.heap.size
  dw : ∀ k, blksOf was k → D k ∧ k ≠ b ∧ k < w.heap.size ∧ ¬ blksOf ls k
theorem blksOf_app {ls : List Sl} {l : Sl} {k : Nat} (h : blksOf (ls ++ [l]) k) : blksOf ls k ∨ l.blk = some k := by
  obtain ⟨i, s, hs, hk⟩ := h
  by_cases hi : i < ls.length
  · rw [List.getElem?_append_left hi] at hs; exact Or.inl ⟨i, s, hs, hk⟩
  · have hi2 : i = ls.length := by have := (List.getElem?_eq_some_iff.1 hs).1; simp at this; omega
    subst hi2
    rw [List.getElem?_append_right (Nat.le_refl _), Nat.sub_self] at hs
    cases hs; exact Or.inr hk
theorem app_at {β : Type} {xs : List β} {x y : β} {i : Nat} (h : (xs ++ [x])[i]? = some y) : (i < xs.length ∧ xs[i]? = some y) ∨ (i = xs.length ∧ y = x) := by
  by_cases hi : i < xs.length
  · rw [List.getElem?_append_left hi] at h; exact Or.inl ⟨hi, h⟩
  · have hi2 : i = xs.length := by have := (List.getElem?_eq_some_iff.1 h).1; simp at this; omega
    subst hi2
    rw [List.getElem?_append_right (Nat.le_refl _), Nat.sub_self] at h
    cases h; exact Or.inr ⟨rfl, rfl⟩
theorem add_core {D : Nat → Prop} {E : Enc α} {T TT TB : TypeId} {fC : FuncId} (okk : EncOk P (slE T) TT)
    (hC : ∀ (s : Sl) (xs : List α) (w : World), Rd E w s xs → xs.length ≤ 10000000 → Calls P fC #[s.val] w fun e w' => ∃ s' : Sl, e = .returned s'.val ∧ Ow E w' s' xs ∧ Chg No w w' ∧ (∀ k, s'.blk = some k → w.heap.size ≤ k))
    {w : World} {b o : Nat} {cs : List Value} {A Bs : Sl} {ls was : List Sl} {xss : List (List α)} (ho : Ob w b cs TB) (hcA : cs[o]? = some A.val) (hcB : cs[o + 1]? = some Bs.val) (h : KO D E T w b A Bs ls was xss) (hD : ∀ k, w.heap.size ≤ k → D k)
    {l : Sl} {xs : List α} (hx : Ox E w l xs) (hxs : xs.length ≤ 10000000) (hl : ∀ k, l.blk = some k → D k ∧ k ≠ b ∧ A.blk ≠ some k ∧ Bs.blk ≠ some k ∧ ¬ blksOf ls k ∧ ¬ blksOf was k) {K : Value → World → Prop}
    (kfull : 250 ≤ ls.length → K (.tuple #[]) w)
    (k : ls.length < 250 → ∀ (A' B' c' : Sl) (w' : World), Ob w' b ((cs.set o A'.val).set (o + 1) B'.val) TB → KO D E T w' b A' B' (ls ++ [l]) (was ++ [c']) (xss ++ [xs]) → Chg (fun k => k = b ∨ A.blk = some k ∨ Bs.blk = some k) w w' → K (.tuple #[]) w') :
    ∃ s3 : Sl, w.cell? ⟨b, o, none⟩ = some (s3.val) ∧
      brB (decide ((s3.len : Int) < (250 : Int)))
      (∃ s4 : Sl, w.cell? ⟨b, o, none⟩ = some (s4.val) ∧
      ∀ (b5 : Nat) (w6 : World), b5 = w.heap.size → w6 = World.alloc w (.cells #[l.val] T) →
      ∃ s7 : Sl, ∃ w8 : World, (Builtin.append_ #[TT, TT] TT #[s4.val, .slice (some ⟨b5, 0, none⟩) 1 1]).run P w6 = .ok (s7.val) w8 ∧
      wrOk w8 ⟨b, o, none⟩ 1 ∧ ∀ w9 : World, w9 = stW w8 ⟨b, o, none⟩ 0 [s7.val] →
      ∀ w10 : World, w10 = World.drew w9 →
      ∃ S11 : World → Prop, S11 w10 ∧
      ∃ s12 : Sl, held S11 ⟨b, o + 1, none⟩ (s12.val) ∧
      Calls P fC #[l.val] w10 fun e13 w14 => ∃ s15 : Sl, e13 = .returned (s15.val) ∧
      S11 w14 ∧
      ∀ (b16 : Nat) (w17 : World), b16 = w14.heap.size → w17 = World.alloc w14 (.cells #[s15.val] T) →
      S11 w17 ∧
      ∃ s18 : Sl, ∃ w19 : World, (Builtin.append_ #[TT, TT] TT #[s12.val, .slice (some ⟨b16, 0, none⟩) 1 1]).run P w17 = .ok (s18.val) w19 ∧
      S11 w19 ∧
      wrOk w19 ⟨b, o + 1, none⟩ 1 ∧ ∀ w20 : World, w20 = stW w19 ⟨b, o + 1, none⟩ 0 [s18.val] →
      K (.tuple #[]) w20)
      (K (.tuple #[]) w) := by
  have hlen := h.oA.rd.len
  have oLt : o < cs.length := (List.getElem?_eq_some_iff.1 hcA).1
  have oLt1 : o + 1 < cs.length := (List.getElem?_eq_some_iff.1 hcB).1
  refine ⟨A, ho.cell hcA, brB_of (fun hlt => ?_) (fun hlt => kfull (by simp at hlt; omega))⟩
  have hlt : ls.length < 250 := by simp at hlt; omega
  have hll := h.len
  have hlB := h.lenB
  refine ⟨A, ho.cell hcA, ?_⟩
  intro b5 w6 hb5 hw6
  have c6 : Chg No w w6 := by rw [hw6]; exact Chg.alloc _ _ _
  have hlit : Ow (slE T) w6 ⟨some ⟨b5, 0, none⟩, 1, 1⟩ [l] := by
    rw [hw6, hb5]
    exact Ow.lit (E := slE T) w [l] ((slE T).e l) (by rw [fl_one]) (by show 1 ≤ maxLen; unfold maxLen; omega)
  refine app_ok okk rfl rfl (h.oA.no c6) hlit.rd (by show (ls.length + 1) * 24 ≤ _; omega) (by show ls.length + 1 ≤ _; unfold maxLen; omega) ?_
  intro A' w8 hA' c8 hbkA
  have bLt := ho.lt
  have s6 := c6.size
  have s8 := c8.size
  have o8 : Ob w8 b cs TB := (ho.no c6).chg c8 (fun he => (h.dA b he).2.1 rfl)
  refine ⟨o8.wr (by omega), ?_⟩
  intro w9 hw9
  have o9 : Ob w9 b (cs.set o A'.val) TB := by
    have := Ob.st (vs := [A'.val]) (k := o) (i := 0) o8
    rw [hw9]; exact this
  have c9 : Chg (fun k => k = b) w8 w9 := by rw [hw9]; exact Chg.st (S := fun k => k = b) rfl
  intro w10 hw10
  have c10 : Chg No w9 w10 := by rw [hw10]; exact Chg.drew _ _
  have o10 := o9.no c10
  have s9 := c9.size
  have s10 := c10.size
  have cB1 : (cs.set o A'.val)[o + 1]? = some Bs.val := by rw [List.getElem?_set_ne (by omega)]; exact hcB
  -- from w to w10: A's block and the book's own
  have cw10 : Chg (fun k => k = b ∨ A.blk = some k) w w10 := ((c6.trans c8 (U := fun k => k = b ∨ A.blk = some k) (fun _ _ h => h.elim) (fun _ _ h => Or.inr h)).trans c9 (fun _ _ h => h) (fun _ _ h => Or.inl h)).trans c10 (fun _ _ h => h) (fun _ _ h => h.elim)
  have nA' : ∀ k, A'.blk = some k → A.blk = some k ∨ k = w6.heap.size := fun k hk => by
    rcases hbkA with hh | hh
    · exact Or.inl (hh ▸ hk)
    · exact Or.inr (Option.some.inj (hh.symm.trans hk)).symm
  have lOld : ∀ k, l.blk = some k → k < w.heap.size := hx.lt
  have l10 : Ox E w10 l xs := hx.chg cw10 (fun k hk he => by rcases he with he | he; exact (hl k hk).2.1 he; exact (hl k hk).2.2.1 he)
  refine ⟨fun w' => Ob w' b (cs.set o A'.val) TB, o10, Bs, fun w' hw' => hw'.cell cB1, ?_⟩
  refine (hC l xs w10 l10.rd hxs).mono ?_
  rintro e w14 ⟨s15, rfl, h15, c14, f15⟩
  refine ⟨s15, rfl, o10.no c14, ?_⟩
  intro b16 w17 hb16 hw17
  have c17 : Chg No w14 w17 := by rw [hw17]; exact Chg.alloc _ _ _
  have s14 := c14.size
  have s17 := c17.size
  have hlit2 : Ow (slE T) w17 ⟨some ⟨b16, 0, none⟩, 1, 1⟩ [s15] := by
    rw [hw17, hb16]
    exact Ow.lit (E := slE T) w14 [s15] ((slE T).e s15) (by rw [fl_one]) (by show 1 ≤ maxLen; unfold maxLen; omega)
  have cw17 : Chg (fun k => k = b ∨ A.blk = some k) w w17 := (cw10.trans c14 (fun _ _ h => h) (fun _ _ h => h.elim)).trans c17 (fun _ _ h => h) (fun _ _ h => h.elim)
  have hB17 : Ow (slE T) w17 Bs was := h.oB.chg cw17 (fun k hk he => by rcases he with he | he; exact (h.dB k hk).2.1 he; exact (h.dA k he).2.2.1 hk)
  refine ⟨(o10.no c14).no c17, ?_⟩
  refine app_ok okk rfl rfl hB17 hlit2.rd (by show (was.length + 1) * 24 ≤ _; omega) (by show was.length + 1 ≤ _; unfold maxLen; omega) ?_
  intro B' w19 hB' c19 hbkB
  have s19 := c19.size
  have o19 : Ob w19 b (cs.set o A'.val) TB := ((o10.no c14).no c17).chg c19 (fun he => (h.dB b he).2.1 rfl)
  refine ⟨o19, o19.wr (by rw [List.length_set]; omega), ?_⟩
  intro w20 hw20
  have o20 : Ob w20 b ((cs.set o A'.val).set (o + 1) B'.val) TB := by
    have := Ob.st (vs := [B'.val]) (k := o + 1) (i := 0) o19
    rw [hw20]; exact this
  have c20 : Chg (fun k => k = b) w19 w20 := by rw [hw20]; exact Chg.st (S := fun k => k = b) rfl
  have s20 := c20.size
  have nB' : ∀ k, B'.blk = some k → Bs.blk = some k ∨ k = w17.heap.size := fun k hk => by
    rcases hbkB with hh | hh
    · exact Or.inl (hh ▸ hk)
    · exact Or.inr (Option.some.inj (hh.symm.trans hk)).symm
  have cw20 : Chg (fun k => k = b ∨ A.blk = some k ∨ Bs.blk = some k) w w20 := (cw17.trans c19 (U := fun k => k = b ∨ A.blk = some k ∨ Bs.blk = some k) (fun _ _ h => by rcases h with h | h; exact Or.inl h; exact Or.inr (Or.inl h)) (fun _ _ h => Or.inr (Or.inr h))).trans c20 (fun _ _ h => h) (fun _ _ h => Or.inl h)
  have c1020 : Chg (fun k => k = b ∨ Bs.blk = some k) w10 w20 := ((c14.trans c17 (U := fun k => k = b ∨ Bs.blk = some k) (fun _ _ h => h.elim) (fun _ _ h => h.elim)).trans c19 (fun _ _ h => h) (fun _ _ h => Or.inr h)).trans c20 (fun _ _ h => h) (fun _ _ h => Or.inl h)
  have bOld : ∀ k, Bs.blk = some k → k < w.heap.size := fun k hk => h.oB.lt hk
  have aOld : ∀ k, A.blk = some k → k < w.heap.size := fun k hk => h.oA.lt hk
  have f15' : ∀ k, s15.blk = some k → w10.heap.size ≤ k ∧ k < w14.heap.size := fun k hk => ⟨f15 k hk, h15.lt hk⟩
  have A'20 : Ow (slE T) w20 A' (ls ++ [l]) := by
    refine (((hA'.chg c9 (fun k hk he => ?_)).no c10).chg c1020 (fun k hk he => ?_))
    · rcases nA' k hk with h5 | h5
      · exact (h.dA k h5).2.1 he
      · omega
    · rcases nA' k hk with h5 | h5
      · rcases he with he | he
        · exact (h.dA k h5).2.1 he
        · exact (h.dA k h5).2.2.1 he
      · rcases he with he | he
        · omega
        · have := bOld k he; omega
  have lsK : ∀ k, blksOf (ls ++ [l]) k → D k ∧ k ≠ b ∧ k < w.heap.size ∧ A.blk ≠ some k ∧ Bs.blk ≠ some k ∧ ¬ blksOf was k := by
    intro k hk
    rcases blksOf_app hk with h5 | h5
    · exact ⟨(h.dl k h5).1, (h.dl k h5).2.1, (h.dl k h5).2.2, fun e => (h.dA k e).2.2.2.1 h5, fun e => (h.dB k e).2.2.1 h5, fun e => (h.dw k e).2.2.2 h5⟩
    · exact ⟨(hl k h5).1, (hl k h5).2.1, lOld k h5, (hl k h5).2.2.1, (hl k h5).2.2.2.1, (hl k h5).2.2.2.2.2⟩
  have wasK : ∀ k, blksOf (was ++ [s15]) k → (blksOf was k ∧ k < w.heap.size) ∨ (w10.heap.size ≤ k ∧ k < w14.heap.size) := by
    intro k hk
    rcases blksOf_app hk with h5 | h5
    · exact Or.inl ⟨h5, (h.dw k h5).2.2.1⟩
    · exact Or.inr (f15' k h5)
  refine k hlt A' B' s15 w20 o20 ⟨A'20, ?_, by simp [hll], by simp [hlB], fun i s ys hs hy => ?_, fun i s ys hs hy => ?_, fun i j s t m hs ht hm hn => ?_, fun m hm => ?_, fun m hm => ?_, fun m hm => ⟨(lsK m hm).1, (lsK m hm).2.1, by have := (lsK m hm).2.2.1; omega⟩, fun m hm => ?_⟩ cw20
  · refine hB'.chg c20 (fun m hm he => ?_)
    rcases nB' m hm with h5 | h5
    · exact (h.dB m h5).2.1 he
    · omega
  · rcases app_at hs with ⟨h5, h6⟩ | ⟨h5, rfl⟩
    · rw [List.getElem?_append_left (by omega)] at hy
      obtain ⟨h7, h8⟩ := h.ox i s ys h6 hy
      refine ⟨h7.chg cw20 (fun m hm he => ?_), h8⟩
      have h9 : blksOf ls m := ⟨i, s, h6, hm⟩
      rcases he with he | he | he
      · exact (h.dl m h9).2.1 he
      · exact (h.dA m he).2.2.2.1 h9
      · exact (h.dB m he).2.2.1 h9
    · rcases app_at hy with ⟨h6, _⟩ | ⟨_, rfl⟩
      · omega
      · refine ⟨hx.chg cw20 (fun m hm he => ?_), hxs⟩
        have h9 := hl m hm
        rcases he with he | he | he
        · exact h9.2.1 he
        · exact h9.2.2.1 he
        · exact h9.2.2.2.1 he
  · rcases app_at hs with ⟨h5, h6⟩ | ⟨h5, rfl⟩
    · rw [List.getElem?_append_left (by omega)] at hy
      refine (h.rd i s ys h6 hy).chg cw20 (fun m hm he => ?_)
      have h9 : blksOf was m := ⟨i, s, h6, hm⟩
      rcases he with he | he | he
      · exact (h.dw m h9).2.1 he
      · exact (h.dA m he).2.2.2.2 h9
      · exact (h.dB m he).2.2.2 h9
    · rcases app_at hy with ⟨h6, _⟩ | ⟨_, rfl⟩
      · omega
      · refine (((h15.no c17).chg c19 (fun m hm he => ?_)).chg c20 (fun m hm he => ?_)).rd
        · have := f15' m hm; have := bOld m he; omega
        · have := f15' m hm; omega
  · rcases app_at hs with ⟨h5, h6⟩ | ⟨h5, rfl⟩
    · rcases app_at ht with ⟨h7, h8⟩ | ⟨h7, rfl⟩
      · exact h.dis i j s t m h6 h8 hm hn
      · exact absurd ⟨i, s, h6, hm⟩ (hl m hn).2.2.2.2.1
    · rcases app_at ht with ⟨h7, h8⟩ | ⟨h7, rfl⟩
      · exact absurd ⟨j, t, h8, hn⟩ (hl m hm).2.2.2.2.1
      · omega
  · rcases nA' m hm with h5 | h5
    · refine ⟨(h.dA m h5).1, (h.dA m h5).2.1, fun e => ?_, fun e => (lsK m e).2.2.2.1 h5, fun e => ?_⟩
      · rcases nB' m e with h6 | h6
        · exact (h.dA m h5).2.2.1 h6
        · have := aOld m h5; omega
      · rcases wasK m e with h6 | h6
        · exact (h.dA m h5).2.2.2.2 h6.1
        · have := aOld m h5; omega
    · have hAl := hA'.lt hm
      refine ⟨hD m (by omega), by omega, fun e => ?_, fun e => by have := (lsK m e).2.2.1; omega, fun e => ?_⟩
      · rcases nB' m e with h6 | h6
        · have := bOld m h6; omega
        · omega
      · rcases wasK m e with h6 | h6
        · omega
        · omega
  · rcases nB' m hm with h5 | h5
    · refine ⟨(h.dB m h5).1, (h.dB m h5).2.1, fun e => (lsK m e).2.2.2.2.1 h5, fun e => ?_⟩
      rcases wasK m e with h6 | h6
      · exact (h.dB m h5).2.2.2 h6.1
      · have := bOld m h5; omega
    · refine ⟨hD m (by omega), by omega, fun e => by have := (lsK m e).2.2.1; omega, fun e => ?_⟩
      rcases wasK m e with h6 | h6 <;> omega
  · rcases wasK m hm with h6 | h6
    · exact ⟨(h.dw m h6.1).1, (h.dw m h6.1).2.1, by omega, fun e => (lsK m e).2.2.2.2.2 h6.1⟩
    · exact ⟨hD m (by omega), by omega, by omega, fun e => by have := (lsK m e).2.2.1; omega⟩
end
section
theorem noBlks (k : Nat) : ¬ blksOf [] k := by rintro ⟨i, s, hs, _⟩; simp at hs
theorem KO.empty {α : Type} (D : Nat → Prop) (E : Enc α) (T : TypeId) (w : World) (b : Nat) : KO D E T w b nilS nilS [] [] [] :=
  ⟨Ow.nil _ _, Ow.nil _ _, rfl, rfl, (fun i s xs hs => by simp at hs), (fun i s xs hs => by simp at hs), (fun i j s t k hs => by simp at hs), (fun k hk => by cases hk), (fun k hk => by cases hk), fun k hk => absurd hk (noBlks k), fun k hk => absurd hk (noBlks k)⟩
theorem KO.nar {α : Type} {D : Nat → Prop} {E : Enc α} {T : TypeId} {w : World} {b : Nat} {A Bs : Sl} {ls was : List Sl} {xss : List (List α)} (h : KO D E T w b A Bs ls was xss) : KO (fun k => D k ∧ k < w.heap.size) E T w b A Bs ls was xss :=
  ⟨h.oA, h.oB, h.len, h.lenB, h.ox, h.rd, h.dis, fun k e => ⟨⟨(h.dA k e).1, h.oA.lt e⟩, (h.dA k e).2⟩, fun k e => ⟨⟨(h.dB k e).1, h.oB.lt e⟩, (h.dB k e).2⟩, fun k e => ⟨⟨(h.dl k e).1, (h.dl k e).2.2⟩, (h.dl k e).2⟩, fun k e => ⟨⟨(h.dw k e).1, (h.dw k e).2.2.1⟩, (h.dw k e).2⟩⟩
theorem KO.wid {α : Type} {D D' : Nat → Prop} {E : Enc α} {T : TypeId} {w : World} {b : Nat} {A Bs : Sl} {ls was : List Sl} {xss : List (List α)} (h : KO D E T w b A Bs ls was xss) (hd : ∀ k, D k → D' k) : KO D' E T w b A Bs ls was xss :=
  ⟨h.oA, h.oB, h.len, h.lenB, h.ox, h.rd, h.dis, fun k e => ⟨hd _ (h.dA k e).1, (h.dA k e).2⟩, fun k e => ⟨hd _ (h.dB k e).1, (h.dB k e).2⟩, fun k e => ⟨hd _ (h.dl k e).1, (h.dl k e).2⟩, fun k e => ⟨hd _ (h.dw k e).1, (h.dw k e).2⟩⟩
end
end Go.Proofs.YtkjpmkopnkkbmaaGreatDoor
