/- The book of several kinds: what a list's copy is, is told apart; where grown lists lie. (Printed from BkG, Book, BookC, then added to.) -/
import Derived.Test.YtkjpmkopnkkbmaaGreatDoorBkG
set_option maxRecDepth 100000
namespace Go.Proofs.YtkjpmkopnkkbmaaGreatDoor
open Go.RowKit

section
variable {α : Type} {P : Program}
/-- A kind's lists in the book, all in blocks of D, each where no other of them lies; of the copies only where they lie. -/
structure KH (D : Nat → Prop) (E : Enc α) (T : TypeId) (w : World) (b : Nat) (A Bs : Sl) (ls was : List Sl) (xss : List (List α)) : Prop where
  oA : Ow (slE T) w A ls
  oB : Ow (slE T) w Bs was
  len : ls.length = xss.length
  lenB : was.length = xss.length
  ox : ∀ (i : Nat) (s : Sl) (xs : List α), ls[i]? = some s → xss[i]? = some xs → Ox E w s xs ∧ xs.length ≤ 10000000
  dis : ∀ (i j : Nat) (s t : Sl) (k : Nat), ls[i]? = some s → ls[j]? = some t → s.blk = some k → t.blk = some k → i = j
  dA : ∀ k, A.blk = some k → D k ∧ k ≠ b ∧ Bs.blk ≠ some k ∧ ¬ blksOf ls k ∧ ¬ blksOf was k
  dB : ∀ k, Bs.blk = some k → D k ∧ k ≠ b ∧ ¬ blksOf ls k ∧ ¬ blksOf was k
  dl : ∀ k, blksOf ls k → D k ∧ k ≠ b ∧ k < w.heap.size
  dw : ∀ k, blksOf was k → D k ∧ k ≠ b ∧ k < w.heap.size ∧ ¬ blksOf ls k
theorem addx_core {D : Nat → Prop} {E : Enc α} {T TT TB : TypeId} {fC : FuncId} (okk : EncOk P (slE T) TT)
    {w : World} {b o : Nat} {cs : List Value} {A Bs : Sl} {ls was : List Sl} {xss : List (List α)} (ho : Ob w b cs TB) (hcA : cs[o]? = some A.val) (hcB : cs[o + 1]? = some Bs.val) (h : KH D E T w b A Bs ls was xss) (hD : ∀ k, w.heap.size ≤ k → D k)
    {l : Sl} {xs : List α} (hx : Ox E w l xs) (hxs : xs.length ≤ 10000000) (hl : ∀ k, l.blk = some k → D k ∧ k ≠ b ∧ A.blk ≠ some k ∧ Bs.blk ≠ some k ∧ ¬ blksOf ls k ∧ ¬ blksOf was k) {G : Sl → World → World → Prop} (hC : ∀ w10, Chg (fun k => k = b ∨ A.blk = some k) w w10 → Calls P fC #[l.val] w10 fun e w' => ∃ s' : Sl, e = .returned s'.val ∧ G s' w10 w' ∧ (∀ k, s'.blk = some k → w10.heap.size ≤ k ∧ k < w'.heap.size) ∧ Chg No w10 w') {K : Value → World → Prop}
    (kfull : 250 ≤ ls.length → K (.tuple #[]) w)
    (k : ls.length < 250 → ∀ (A' B' c' : Sl) (w10 w14 w' : World), Ob w' b ((cs.set o A'.val).set (o + 1) B'.val) TB → KH D E T w' b A' B' (ls ++ [l]) (was ++ [c']) (xss ++ [xs]) → G c' w10 w14 → Chg (fun k => k = b ∨ A.blk = some k) w w10 → Chg No w10 w14 → Chg (fun k => k = b ∨ Bs.blk = some k) w14 w' → (∀ k, c'.blk = some k → w10.heap.size ≤ k ∧ k < w14.heap.size) → (∀ k, A'.blk = some k → k < w10.heap.size) → (∀ k, A'.blk = some k → A.blk = some k ∨ w.heap.size ≤ k) → (∀ k, B'.blk = some k → Bs.blk = some k ∨ w14.heap.size ≤ k) → Chg (fun k => k = b ∨ A.blk = some k ∨ Bs.blk = some k) w w' → K (.tuple #[]) w') :
    ∃ s3 : Sl, w.cell? ⟨b, o, none⟩ = some (s3.val) ∧
      brB (decide ((s3.len : Int) < (250 : Int)))
      (∃ s4 : Sl, w.cell? ⟨b, o, none⟩ = some (s4.val) ∧
      ∀ (b5 : Nat) (w6 : World), b5 = w.heap.size → w6 = World.alloc w (.cells #[l.val] T) →
      ∃ s7 : Sl, ∃ w8 : World, (Builtin.append_ #[TT, TT] TT #[s4.val, .slice (some ⟨b5, 0, none⟩) 1 1]).run P w6 = .ok (s7.val) w8 ∧
      wrOk w8 ⟨b, o, none⟩ 1 ∧ ∀ w9 : World, w9 = stW w8 ⟨b, o, none⟩ 0 [s7.val] →
      ∀ w10 : World, w10 = World.drew w9 →
      ∃ S11 : World → Prop, S11 w10 ∧
      ∃ s12 : Sl, held S11 ⟨b, o + 1, none⟩ (s12.val) ∧
      Calls P fC #[l.val] w10 fun e13 w14 => ∃ s15 : Sl, e13 = .returned (s15.val) ∧
      S11 w14 ∧
      ∀ (b16 : Nat) (w17 : World), b16 = w14.heap.size → w17 = World.alloc w14 (.cells #[s15.val] T) →
      S11 w17 ∧
      ∃ s18 : Sl, ∃ w19 : World, (Builtin.append_ #[TT, TT] TT #[s12.val, .slice (some ⟨b16, 0, none⟩) 1 1]).run P w17 = .ok (s18.val) w19 ∧
      S11 w19 ∧
      wrOk w19 ⟨b, o + 1, none⟩ 1 ∧ ∀ w20 : World, w20 = stW w19 ⟨b, o + 1, none⟩ 0 [s18.val] →
      K (.tuple #[]) w20)
      (K (.tuple #[]) w) := by
  have hlen := h.oA.rd.len
  have oLt : o < cs.length := (List.getElem?_eq_some_iff.1 hcA).1
  have oLt1 : o + 1 < cs.length := (List.getElem?_eq_some_iff.1 hcB).1
  refine ⟨A, ho.cell hcA, brB_of (fun hlt => ?_) (fun hlt => kfull (by simp at hlt; omega))⟩
  have hlt : ls.length < 250 := by simp at hlt; omega
  have hll := h.len
  have hlB := h.lenB
  refine ⟨A, ho.cell hcA, ?_⟩
  intro b5 w6 hb5 hw6
  have c6 : Chg No w w6 := by rw [hw6]; exact Chg.alloc _ _ _
  have hlit : Ow (slE T) w6 ⟨some ⟨b5, 0, none⟩, 1, 1⟩ [l] := by
    rw [hw6, hb5]
    exact Ow.lit (E := slE T) w [l] ((slE T).e l) (by rw [fl_one]) (by show 1 ≤ maxLen; unfold maxLen; omega)
  refine app_ok okk rfl rfl (h.oA.no c6) hlit.rd (by show (ls.length + 1) * 24 ≤ _; omega) (by show ls.length + 1 ≤ _; unfold maxLen; omega) ?_
  intro A' w8 hA' c8 hbkA
  have bLt := ho.lt
  have s6 := c6.size
  have s8 := c8.size
  have o8 : Ob w8 b cs TB := (ho.no c6).chg c8 (fun he => (h.dA b he).2.1 rfl)
  refine ⟨o8.wr (by omega), ?_⟩
  intro w9 hw9
  have o9 : Ob w9 b (cs.set o A'.val) TB := by
    have := Ob.st (vs := [A'.val]) (k := o) (i := 0) o8
    rw [hw9]; exact this
  have c9 : Chg (fun k => k = b) w8 w9 := by rw [hw9]; exact Chg.st (S := fun k => k = b) rfl
  intro w10 hw10
  have c10 : Chg No w9 w10 := by rw [hw10]; exact Chg.drew _ _
  have o10 := o9.no c10
  have s9 := c9.size
  have s10 := c10.size
  have cB1 : (cs.set o A'.val)[o + 1]? = some Bs.val := by rw [List.getElem?_set_ne (by omega)]; exact hcB
  -- from w to w10: A's block and the book's own
  have cw10 : Chg (fun k => k = b ∨ A.blk = some k) w w10 := ((c6.trans c8 (U := fun k => k = b ∨ A.blk = some k) (fun _ _ h => h.elim) (fun _ _ h => Or.inr h)).trans c9 (fun _ _ h => h) (fun _ _ h => Or.inl h)).trans c10 (fun _ _ h => h) (fun _ _ h => h.elim)
  have nA' : ∀ k, A'.blk = some k → A.blk = some k ∨ k = w6.heap.size := fun k hk => by
    rcases hbkA with hh | hh
    · exact Or.inl (hh ▸ hk)
    · exact Or.inr (Option.some.inj (hh.symm.trans hk)).symm
  have lOld : ∀ k, l.blk = some k → k < w.heap.size := hx.lt
  have _l10 : Ox E w10 l xs := hx.chg cw10 (fun k hk he => by rcases he with he | he; exact (hl k hk).2.1 he; exact (hl k hk).2.2.1 he)
  refine ⟨fun w' => Ob w' b (cs.set o A'.val) TB, o10, Bs, fun w' hw' => hw'.cell cB1, ?_⟩
  refine (hC w10 cw10).mono ?_
  rintro e w14 ⟨s15, rfl, hG, f15', c14⟩
  refine ⟨s15, rfl, o10.no c14, ?_⟩
  intro b16 w17 hb16 hw17
  have c17 : Chg No w14 w17 := by rw [hw17]; exact Chg.alloc _ _ _
  have s14 := c14.size
  have s17 := c17.size
  have hlit2 : Ow (slE T) w17 ⟨some ⟨b16, 0, none⟩, 1, 1⟩ [s15] := by
    rw [hw17, hb16]
    exact Ow.lit (E := slE T) w14 [s15] ((slE T).e s15) (by rw [fl_one]) (by show 1 ≤ maxLen; unfold maxLen; omega)
  have cw17 : Chg (fun k => k = b ∨ A.blk = some k) w w17 := (cw10.trans c14 (fun _ _ h => h) (fun _ _ h => h.elim)).trans c17 (fun _ _ h => h) (fun _ _ h => h.elim)
  have hB17 : Ow (slE T) w17 Bs was := h.oB.chg cw17 (fun k hk he => by rcases he with he | he; exact (h.dB k hk).2.1 he; exact (h.dA k he).2.2.1 hk)
  refine ⟨(o10.no c14).no c17, ?_⟩
  refine app_ok okk rfl rfl hB17 hlit2.rd (by show (was.length + 1) * 24 ≤ _; omega) (by show was.length + 1 ≤ _; unfold maxLen; omega) ?_
  intro B' w19 hB' c19 hbkB
  have s19 := c19.size
  have o19 : Ob w19 b (cs.set o A'.val) TB := ((o10.no c14).no c17).chg c19 (fun he => (h.dB b he).2.1 rfl)
  refine ⟨o19, o19.wr (by rw [List.length_set]; omega), ?_⟩
  intro w20 hw20
  have o20 : Ob w20 b ((cs.set o A'.val).set (o + 1) B'.val) TB := by
    have := Ob.st (vs := [B'.val]) (k := o + 1) (i := 0) o19
    rw [hw20]; exact this
  have c20 : Chg (fun k => k = b) w19 w20 := by rw [hw20]; exact Chg.st (S := fun k => k = b) rfl
  have s20 := c20.size
  have nB' : ∀ k, B'.blk = some k → Bs.blk = some k ∨ k = w17.heap.size := fun k hk => by
    rcases hbkB with hh | hh
    · exact Or.inl (hh ▸ hk)
    · exact Or.inr (Option.some.inj (hh.symm.trans hk)).symm
  have cw20 : Chg (fun k => k = b ∨ A.blk = some k ∨ Bs.blk = some k) w w20 := (cw17.trans c19 (U := fun k => k = b ∨ A.blk = some k ∨ Bs.blk = some k) (fun _ _ h => by rcases h with h | h; exact Or.inl h; exact Or.inr (Or.inl h)) (fun _ _ h => Or.inr (Or.inr h))).trans c20 (fun _ _ h => h) (fun _ _ h => Or.inl h)
  have c1020 : Chg (fun k => k = b ∨ Bs.blk = some k) w10 w20 := ((c14.trans c17 (U := fun k => k = b ∨ Bs.blk = some k) (fun _ _ h => h.elim) (fun _ _ h => h.elim)).trans c19 (fun _ _ h => h) (fun _ _ h => Or.inr h)).trans c20 (fun _ _ h => h) (fun _ _ h => Or.inl h)
  have bOld : ∀ k, Bs.blk = some k → k < w.heap.size := fun k hk => h.oB.lt hk
  have aOld : ∀ k, A.blk = some k → k < w.heap.size := fun k hk => h.oA.lt hk
  have A'20 : Ow (slE T) w20 A' (ls ++ [l]) := by
    refine (((hA'.chg c9 (fun k hk he => ?_)).no c10).chg c1020 (fun k hk he => ?_))
    · rcases nA' k hk with h5 | h5
      · exact (h.dA k h5).2.1 he
      · omega
    · rcases nA' k hk with h5 | h5
      · rcases he with he | he
        · exact (h.dA k h5).2.1 he
        · exact (h.dA k h5).2.2.1 he
      · rcases he with he | he
        · omega
        · have := bOld k he; omega
  have lsK : ∀ k, blksOf (ls ++ [l]) k → D k ∧ k ≠ b ∧ k < w.heap.size ∧ A.blk ≠ some k ∧ Bs.blk ≠ some k ∧ ¬ blksOf was k := by
    intro k hk
    rcases blksOf_app hk with h5 | h5
    · exact ⟨(h.dl k h5).1, (h.dl k h5).2.1, (h.dl k h5).2.2, fun e => (h.dA k e).2.2.2.1 h5, fun e => (h.dB k e).2.2.1 h5, fun e => (h.dw k e).2.2.2 h5⟩
    · exact ⟨(hl k h5).1, (hl k h5).2.1, lOld k h5, (hl k h5).2.2.1, (hl k h5).2.2.2.1, (hl k h5).2.2.2.2.2⟩
  have wasK : ∀ k, blksOf (was ++ [s15]) k → (blksOf was k ∧ k < w.heap.size) ∨ (w10.heap.size ≤ k ∧ k < w14.heap.size) := by
    intro k hk
    rcases blksOf_app hk with h5 | h5
    · exact Or.inl ⟨h5, (h.dw k h5).2.2.1⟩
    · exact Or.inr (f15' k h5)
  have c1420 : Chg (fun k => k = b ∨ Bs.blk = some k) w14 w20 := (c17.trans c19 (U := fun k => k = b ∨ Bs.blk = some k) (fun _ _ h => h.elim) (fun _ _ h => Or.inr h)).trans c20 (fun _ _ h => h) (fun _ _ h => Or.inl h)
  refine k hlt A' B' s15 w10 w14 w20 o20 ⟨A'20, ?_, by simp [hll], by simp [hlB], fun i s ys hs hy => ?_, fun i j s t m hs ht hm hn => ?_, fun m hm => ?_, fun m hm => ?_, fun m hm => ⟨(lsK m hm).1, (lsK m hm).2.1, by have := (lsK m hm).2.2.1; omega⟩, fun m hm => ?_⟩ hG cw10 c14 c1420 f15' (fun k hk => by have := hA'.lt hk; omega) (fun k hk => (nA' k hk).imp (fun h => h) (fun h => by omega)) (fun k hk => (nB' k hk).imp (fun h => h) (fun h => by omega)) cw20
  · refine hB'.chg c20 (fun m hm he => ?_)
    rcases nB' m hm with h5 | h5
    · exact (h.dB m h5).2.1 he
    · omega
  · rcases app_at hs with ⟨h5, h6⟩ | ⟨h5, rfl⟩
    · rw [List.getElem?_append_left (by omega)] at hy
      obtain ⟨h7, h8⟩ := h.ox i s ys h6 hy
      refine ⟨h7.chg cw20 (fun m hm he => ?_), h8⟩
      have h9 : blksOf ls m := ⟨i, s, h6, hm⟩
      rcases he with he | he | he
      · exact (h.dl m h9).2.1 he
      · exact (h.dA m he).2.2.2.1 h9
      · exact (h.dB m he).2.2.1 h9
    · rcases app_at hy with ⟨h6, _⟩ | ⟨_, rfl⟩
      · omega
      · refine ⟨hx.chg cw20 (fun m hm he => ?_), hxs⟩
        have h9 := hl m hm
        rcases he with he | he | he
        · exact h9.2.1 he
        · exact h9.2.2.1 he
        · exact h9.2.2.2.1 he
  · rcases app_at hs with ⟨h5, h6⟩ | ⟨h5, rfl⟩
    · rcases app_at ht with ⟨h7, h8⟩ | ⟨h7, rfl⟩
      · exact h.dis i j s t m h6 h8 hm hn
      · exact absurd ⟨i, s, h6, hm⟩ (hl m hn).2.2.2.2.1
    · rcases app_at ht with ⟨h7, h8⟩ | ⟨h7, rfl⟩
      · exact absurd ⟨j, t, h8, hn⟩ (hl m hm).2.2.2.2.1
      · omega
  · rcases nA' m hm with h5 | h5
    · refine ⟨(h.dA m h5).1, (h.dA m h5).2.1, fun e => ?_, fun e => (lsK m e).2.2.2.1 h5, fun e => ?_⟩
      · rcases nB' m e with h6 | h6
        · exact (h.dA m h5).2.2.1 h6
        · have := aOld m h5; omega
      · rcases wasK m e with h6 | h6
        · exact (h.dA m h5).2.2.2.2 h6.1
        · have := aOld m h5; omega
    · have hAl := hA'.lt hm
      refine ⟨hD m (by omega), by omega, fun e => ?_, fun e => by have := (lsK m e).2.2.1; omega, fun e => ?_⟩
      · rcases nB' m e with h6 | h6
        · have := bOld m h6; omega
        · omega
      · rcases wasK m e with h6 | h6
        · omega
        · omega
  · rcases nB' m hm with h5 | h5
    · refine ⟨(h.dB m h5).1, (h.dB m h5).2.1, fun e => (lsK m e).2.2.2.2.1 h5, fun e => ?_⟩
      rcases wasK m e with h6 | h6
      · exact (h.dB m h5).2.2.2 h6.1
      · have := bOld m h5; omega
    · refine ⟨hD m (by omega), by omega, fun e => by have := (lsK m e).2.2.1; omega, fun e => ?_⟩
      rcases wasK m e with h6 | h6 <;> omega
  · rcases wasK m hm with h6 | h6
    · exact ⟨(h.dw m h6.1).1, (h.dw m h6.1).2.1, by omega, fun e => (lsK m e).2.2.2.2.2 h6.1⟩
    · exact ⟨hD m (by omega), by omega, by omega, fun e => by have := (lsK m e).2.2.1; omega⟩
theorem growx_core {E : Enc α} {T TT : TypeId} {fM : FuncId} {mk : Int → Int → α} (ok : EncOk P E T) (okk : EncOk P (slE T) TT) (hby : E.bytes ≤ 1000)
    {ls : List Sl} (hM : ls = [] ∨ MarkOk P E mk fM) {w : World} {b o : Nat} {A : Sl} (hA : w.cell? ⟨b, o, none⟩ = some A.val) (rA : Rd (slE T) w A ls) (hsm : ls.length ≤ 100000)
    (h1 : ∀ (i : Nat) (s : Sl), ls[i]? = some s → Ox E w s (marks (mk i) 0 s.len) ∧ s.len ≤ 10000000)
    (dis : ∀ (i j : Nat) (s t : Sl) (k : Nat), ls[i]? = some s → ls[j]? = some t → s.blk = some k → t.blk = some k → i = j) (hb : ¬ blksOf ls b) (hAb : ∀ k, A.blk = some k → ¬ blksOf ls k) {K : Value → World → Prop}
    (k : ∀ (out : Sl) (outs : List Sl) (w' : World), Rd (slE T) w' out outs → outs.length = ls.length → (∀ (i : Nat) (t : Sl), outs[i]? = some t → t.len ≤ 20000000 ∧ Rd E w' t (marks (mk i) 0 t.len)) → (∀ k, out.blk = some k → w.heap.size ≤ k) → (∀ (i : Nat) (t : Sl) (k : Nat), outs[i]? = some t → t.blk = some k → blksOf ls k ∨ w.heap.size ≤ k) → (∀ (i : Nat) (s : Sl), ls[i]? = some s → Rd E w' s (marks (mk i) 0 s.len)) → Chg (blksOf ls) w w' → K out.val w') :
    ∃ (I1 : Sl → Int → World → Prop) (μ1 : Sl → Int → World → Nat), I1 (⟨none, 0, 0⟩ : Sl) (0 : Int) w ∧ ∀ (out16 : Sl) (i3 : Int) (w2 : World), I1 out16 i3 w2 →
      ∃ s4 : Sl, w2.cell? ⟨b, o, none⟩ = some (s4.val) ∧
      brB (decide (i3 < (s4.len : Int)))
      (∃ s5 : Sl, w2.cell? ⟨b, o, none⟩ = some (s5.val) ∧
      ∃ a6 : Addr, s5.ptr = some a6 ∧ 0 ≤ i3 ∧ i3 < (s5.len : Int) ∧
      ∃ s7 : Sl, w2.cell? (Addr.add a6 (Int.toNat i3 * 1)) = some (s7.val) ∧
      ∃ (I2 : Sl → Int → World → Prop) (μ2 : Sl → Int → World → Nat), I2 s7 (0 : Int) w2 ∧ ∀ (l10 : Sl) (n9 : Int) (w8 : World), I2 l10 n9 w8 →
      brB (decide (n9 < (12 : Int)))
      (Calls P fM #[.int .i64 i3, .int .i64 (l10.len : Int), .int .i64 (1 : Int)] w8 fun e11 w12 => ∃ s13 : Sl, e11 = .returned (s13.val) ∧
      ∃ s14 : Sl, ∃ w15 : World, (Builtin.append_ #[T, T] T #[l10.val, s13.val]).run P w12 = .ok (s14.val) w15 ∧
      I2 s14 (wr (n9 + (1 : Int))) w15 ∧ μ2 s14 (wr (n9 + (1 : Int))) w15 < μ2 l10 n9 w8)
      (Calls P fM #[.int .i64 i3, .int .i64 (l10.len : Int), .int .i64 (60 : Int)] w8 fun e17 w18 => ∃ s19 : Sl, e17 = .returned (s19.val) ∧
      ∃ s20 : Sl, ∃ w21 : World, (Builtin.append_ #[T, T] T #[l10.val, s19.val]).run P w18 = .ok (s20.val) w21 ∧
      ∀ (b22 : Nat) (w23 : World), b22 = w21.heap.size → w23 = World.alloc w21 (.cells #[s20.val] T) →
      ∃ s24 : Sl, ∃ w25 : World, (Builtin.append_ #[TT, TT] TT #[out16.val, .slice (some ⟨b22, 0, none⟩) 1 1]).run P w23 = .ok (s24.val) w25 ∧
      I1 s24 (wr (i3 + (1 : Int))) w25 ∧ μ1 s24 (wr (i3 + (1 : Int))) w25 < μ1 out16 i3 w2))
      (K (out16.val) w2) := by
  have hlen := rA.len
  have old : ∀ k, blksOf ls k → k < w.heap.size := by
    rintro k ⟨i, t, ht, hk⟩; exact (h1 i t ht).1.lt k hk
  refine ⟨fun out n w' => ∃ (j : Nat) (outs : List Sl), n = j ∧ j ≤ ls.length ∧ outs.length = j ∧ Ow (slE T) w' out outs ∧ (∀ k, out.blk = some k → w.heap.size ≤ k) ∧
      (∀ (i : Nat) (t : Sl), outs[i]? = some t → t.len ≤ 20000000 ∧ Rd E w' t (marks (mk i) 0 t.len) ∧ (∀ k, t.blk = some k → k < w'.heap.size ∧ out.blk ≠ some k ∧ ((∃ s, ls[i]? = some s ∧ s.blk = some k) ∨ w.heap.size ≤ k))) ∧
      (∀ (i : Nat) (s : Sl), i < j → ls[i]? = some s → Rd E w' s (marks (mk i) 0 s.len)) ∧ (∀ (i : Nat) (s : Sl), j ≤ i → ls[i]? = some s → Ox E w' s (marks (mk i) 0 s.len)) ∧ Chg (blksOf ls) w w', fun _ n _ => ls.length - n.toNat,
    ⟨0, [], rfl, Nat.zero_le _, rfl, Ow.nil _ _, (fun k hk => by cases hk), (fun i t hi => by simp at hi), fun i s h => by omega, fun i s _ hs => (h1 i s hs).1, Chg.refl _ _⟩, ?_⟩
  rintro out n w2 ⟨j, outs, rfl, hj, hol, ho, hob, hos, hdone, htodo, hc⟩
  have rA2 : ∀ w', Chg (blksOf ls) w w' → Rd (slE T) w' A ls := fun w' hw' => rA.chg hw' hAb
  have cA2 : ∀ w', Chg (blksOf ls) w w' → w'.cell? ⟨b, o, none⟩ = some A.val := fun w' hw' => hw'.cell hA hb
  refine ⟨A, cA2 w2 hc, brB_of (fun hlt => ?_) (fun hlt => ?_)⟩
  · have hlt : j < ls.length := by simp at hlt; omega
    have hM' : MarkOk P E mk fM := hM.resolve_left fun e => by rw [e] at hlt; simp at hlt
    obtain ⟨s, hs⟩ : ∃ s, ls[j]? = some s := ⟨_, List.getElem?_eq_getElem hlt⟩
    obtain ⟨a, ha, h0, hlt', hcell⟩ := sl_cell (rA2 w2 hc) hs
    have hsmall := (h1 j s hs).2
    have s2 := hc.size
    have bs : ∀ k, s.blk = some k → blksOf ls k := fun k hk => ⟨j, s, hs, hk⟩
    refine ⟨A, cA2 w2 hc, a, ha, h0, hlt', s, hcell, ?_⟩
    -- what holds while list j grows: l reads d marks more; s still reads; only s's block and new ones are touched
    have hI : ∀ (d : Nat) (l : Sl) (w8 : World), (Ox E w8 l (marks (mk j) 0 (s.len + d)) ∧ Rd E w8 s (marks (mk j) 0 s.len) ∧ (l.blk = s.blk ∧ l.ptr = s.ptr ∧ l.cap = s.cap ∨ ∀ k, l.blk = some k → w2.heap.size ≤ k) ∧ Chg (fun k => s.blk = some k) w2 w8) → s.len + d ≤ 15000000 →
        ∀ (m : Nat), m ≤ 60 → 0 < m → ∀ {G : Sl → World → Prop}, (∀ (s14 : Sl) (w15 : World), (Ox E w15 s14 (marks (mk j) 0 (s.len + (d + m))) ∧ Rd E w15 s (marks (mk j) 0 s.len) ∧ (s14.blk = s.blk ∧ s14.ptr = s.ptr ∧ s14.cap = s.cap ∨ ∀ k, s14.blk = some k → w2.heap.size ≤ k) ∧ Chg (fun k => s.blk = some k) w2 w15) → G s14 w15) →
        Calls P fM #[.int .i64 j, .int .i64 (l.len : Int), .int .i64 (m : Int)] w8 fun e11 w12 => ∃ s13 : Sl, e11 = .returned (s13.val) ∧ ∃ s14 : Sl, ∃ w15 : World, (Builtin.append_ #[T, T] T #[l.val, s13.val]).run P w12 = .ok (s14.val) w15 ∧ G s14 w15 := by
      rintro d l w8 ⟨hx, hrs, hbl, hch⟩ hd m hm hm0 G hG
      have hll : l.len = s.len + d := by rw [hx.rd.len, marks_len]
      rw [hll]
      refine (hM' j (s.len + d) m w8 (by omega) (by omega)).mono ?_
      rintro e w12 ⟨s13, rfl, h13, c12, f13⟩
      refine ⟨s13, rfl, ?_⟩
      have hml := marks_len (mk j) 0 (s.len + d)
      have hml2 := marks_len (mk j) (s.len + d) m
      obtain ⟨y, hy⟩ : ∃ y, (marks (mk j) (s.len + d) m)[0]? = some y := ⟨_, List.getElem?_eq_getElem (by omega)⟩
      obtain ⟨a13, ha13, _⟩ := h13.rd.at hy
      have s8 := hch.size
      have s12 := c12.size
      refine appk_ok ok rfl rfl (hx.no c12) h13.rd ha13 (fun _ he => by rw [he] at hml2; simp at hml2; omega) (by
        rw [hml, hml2]
        have : (s.len + d + m) * E.bytes ≤ 20000000 * 1000 := Nat.mul_le_mul (by omega) hby
        omega) (by rw [hml, hml2]; unfold maxLen; omega) ?_
      intro s14 w15 h14 c15 _ hroom hkeep hnew
      rw [marks_app, Nat.add_assoc] at h14
      rw [hml, hml2] at hroom hnew
      refine hG s14 w15 ⟨h14, ?_, ?_, ?_⟩
      · rcases hbl with ⟨e1, e2, e3⟩ | e1
        · have h9 := hkeep.take (n := s.len) (by rw [hml]; omega)
          have e9 : (⟨l.ptr, s.len, l.cap⟩ : Sl) = s := by rw [e2, e3]
          rw [e9, ← marks_app, List.take_left' (marks_len _ _ _)] at h9
          exact h9
        · refine (hrs.no c12).chg c15 (fun k hk he => ?_)
          have := e1 k he; have := old k (bs k hk); omega
      · by_cases hr : s.len + d + m ≤ l.cap
        · obtain ⟨e4, e5⟩ := hroom hr
          rcases hbl with ⟨e1, e2, e3⟩ | e1
          · exact Or.inl ⟨by have : s14.blk = l.blk := by { unfold Sl.blk Sl.val; rw [e4]; cases l.ptr <;> rfl }
                             rw [this, e1], e4.trans e2, e5.trans e3⟩
          · right; intro k hk
            refine e1 k ?_
            rw [← hk]; unfold Sl.blk Sl.val; rw [e4]; cases l.ptr <;> rfl
        · right; intro k hk; have := hnew (by omega) k hk; omega
      · refine (hch.trans c12 (U := fun k => s.blk = some k) (fun _ _ h => h) (fun _ _ h => h.elim)).trans c15 (fun _ _ h => h) (fun k hk he => ?_)
        rcases hbl with ⟨e1, _, _⟩ | e1
        · rw [e1] at he; exact he
        · have := e1 k he; omega
    refine ⟨fun l n w' => ∃ d : Nat, n = d ∧ d ≤ 12 ∧ (Ox E w' l (marks (mk j) 0 (s.len + d)) ∧ Rd E w' s (marks (mk j) 0 s.len) ∧ (l.blk = s.blk ∧ l.ptr = s.ptr ∧ l.cap = s.cap ∨ ∀ k, l.blk = some k → w2.heap.size ≤ k) ∧ Chg (fun k => s.blk = some k) w2 w'), fun _ n _ => 12 - n.toNat,
      ⟨0, rfl, by omega, htodo j s (Nat.le_refl _) hs, (htodo j s (Nat.le_refl _) hs).rd, Or.inl ⟨rfl, rfl, rfl⟩, Chg.refl _ _⟩, ?_⟩
    rintro l n w8 ⟨d, rfl, hd, hinv⟩
    refine brB_of (fun hlt2 => ?_) (fun hlt2 => ?_)
    · have hlt2 : d < 12 := by simp at hlt2; omega
      refine hI d l w8 hinv (by omega) 1 (by omega) (by omega) fun s14 w15 h => ?_
      rw [wr_of (by omega) (by omega)]
      exact ⟨⟨d + 1, by omega, by omega, h⟩, by show 12 - Int.toNat ((d : Int) + 1) < 12 - Int.toNat (d : Int); omega⟩
    · have hlt2 : d = 12 := by simp at hlt2; omega
      subst hlt2
      refine hI 12 l w8 hinv (by omega) 60 (by omega) (by omega) fun s20 w21 h => ?_
      obtain ⟨hx, hrs, hbl, hch⟩ := h
      intro b22 w23 hb22 hw23
      have c23 : Chg No w21 w23 := by rw [hw23]; exact Chg.alloc _ _ _
      have hlit : Ow (slE T) w23 ⟨some ⟨b22, 0, none⟩, 1, 1⟩ [s20] := by
        rw [hw23, hb22]
        exact Ow.lit (E := slE T) w21 [s20] ((slE T).e s20) (by rw [fl_one]) (by show 1 ≤ maxLen; unfold maxLen; omega)
      have s21 := hch.size
      have s23 := c23.size
      have ho21 : Ow (slE T) w21 out outs := ho.chg hch (fun k hk he => by have := hob k hk; have := old k (bs k he); omega)
      refine app_ok okk rfl rfl (ho21.no c23) hlit.rd (by rw [hol]; show (j + 1) * 24 ≤ _; omega) (by rw [hol]; show j + 1 ≤ _; unfold maxLen; omega) ?_
      intro s24 w25 h24 c25 hbk
      have s25 := c25.size
      have hl20 : s20.len = s.len + (12 + 60) := by rw [hx.rd.len, marks_len]
      have b20 : ∀ k, s20.blk = some k → k < w21.heap.size ∧ out.blk ≠ some k ∧ ((∃ s, ls[j]? = some s ∧ s.blk = some k) ∨ w.heap.size ≤ k) := by
        intro k hk
        refine ⟨hx.lt k hk, fun he => ?_, ?_⟩
        · have h7 := hob k he
          have h8 := ho.lt he
          rcases hbl with ⟨e1, _, _⟩ | e1
          · have := old k (bs k (e1 ▸ hk)); omega
          · have := e1 k hk; omega
        · rcases hbl with ⟨e1, _, _⟩ | e1
          · exact Or.inl ⟨s, hs, e1 ▸ hk⟩
          · exact Or.inr (by have := e1 k hk; omega)
      have hb24 : ∀ k, k < w23.heap.size → out.blk ≠ some k → s24.blk ≠ some k := by
        intro k hk hne he
        rcases hbk with hh | hh
        · exact hne (hh ▸ he)
        · have := Option.some.inj (hh.symm.trans he); omega
      rw [wr_of (by omega) (by omega)]
      refine ⟨⟨j + 1, outs ++ [s20], by omega, by omega, by rw [List.length_append, hol]; rfl, h24, fun k hk => ?_, fun i t hi => ?_, fun i t hi ht => ?_, fun i t hi ht => ?_, ?_⟩, by show ls.length - Int.toNat ((j : Int) + 1) < ls.length - Int.toNat (j : Int); omega⟩
      · rcases hbk with hh | hh
        · exact hob k (hh ▸ hk)
        · have := Option.some.inj (hh.symm.trans hk); omega
      · by_cases hij : i < j
        · rw [List.getElem?_append_left (by omega)] at hi
          obtain ⟨h5, h6, h7⟩ := hos i t hi
          refine ⟨h5, ((h6.chg hch (fun k hk he => ?_)).no c23).chg c25 (fun k hk he => (h7 k hk).2.1 he), fun k hk => ⟨by have := (h7 k hk).1; omega, hb24 k (by have := (h7 k hk).1; omega) (h7 k hk).2.1, (h7 k hk).2.2⟩⟩
          rcases (h7 k hk).2.2 with ⟨s', hs', hk'⟩ | h9
          · have := dis i j s' s k hs' hs hk' he; omega
          · have := old k (bs k he); omega
        · have hi2 : i = j := by
            have := (List.getElem?_eq_some_iff.1 hi).1
            rw [List.length_append, hol] at this; simp at this; omega
          subst hi2
          rw [List.getElem?_append_right (by omega), hol, Nat.sub_self] at hi
          cases hi
          refine ⟨by omega, ?_, fun k hk => ⟨by have := (b20 k hk).1; omega, hb24 k (by have := (b20 k hk).1; omega) (b20 k hk).2.1, (b20 k hk).2.2⟩⟩
          rw [hl20]
          exact (hx.rd.no c23).chg c25 (fun k hk he => (b20 k hk).2.1 he)
      · have base : Rd E w21 t (marks (mk i) 0 t.len) := by
          rcases Nat.lt_succ_iff_lt_or_eq.1 hi with hh | rfl
          · refine (hdone i t hh ht).chg hch (fun k hk he => ?_)
            have := dis i j t s k ht hs hk he; omega
          · rw [hs] at ht; cases ht; exact hrs
        exact (base.no c23).chg c25 (fun k hk he => by have := hob k he; have := old k ⟨i, t, ht, hk⟩; omega)
      · have base : Ox E w21 t (marks (mk i) 0 t.len) := by
          refine (htodo i t (by omega) ht).chg hch (fun k hk he => ?_)
          have := dis i j t s k ht hs hk he; omega
        exact (base.no c23).chg c25 (fun k hk he => by have := hob k he; have := old k ⟨i, t, ht, hk⟩; omega)
      · have d1 : Chg (blksOf ls) w w21 := hc.trans hch (fun _ _ h => h) (fun k _ hk => bs k hk)
        have d2 : Chg (blksOf ls) w w23 := d1.trans c23 (fun _ _ h => h) (fun _ _ h => h.elim)
        exact d2.trans c25 (fun _ _ h => h) (fun k hk he => by have := hob k he; omega)
  · have hlt : j = ls.length := by simp at hlt; omega
    subst hlt
    exact k out outs w2 ho.rd hol (fun i t hi => ⟨(hos i t hi).1, (hos i t hi).2.1⟩) hob (fun i t q hi hq => ((hos i t hi).2.2 q hq).2.2.imp (fun ⟨s, hs, hk⟩ => ⟨i, s, hs, hk⟩) (fun h => h)) (fun i s hs => hdone i s (List.getElem?_eq_some_iff.1 hs).1 hs) hc
theorem stillx_core {eT : TypeId} {fS : FuncId} {w : World} {b o : Nat} {A Bs : Sl} {ls was : List Sl} (hA : w.cell? ⟨b, o, none⟩ = some A.val) (hB : w.cell? ⟨b, o + 1, none⟩ = some Bs.val)
    (rA : Rd (slE eT) w A ls) (rB : Rd (slE eT) w Bs was) (hl : was.length = ls.length) (hsm : ls.length ≤ 100000)
    (hS : ∀ (j : Nat) (s t : Sl), ls[j]? = some s → was[j]? = some t → ∀ w', Chg No w w' → Calls P fS #[s.val, t.val] w' fun e w'' => e = .returned (.bool true) ∧ Chg No w' w'') {K : Value → World → Prop} (k : ∀ w', Chg No w w' → K (.bool true) w') :
    ∃ (I1 : Int → World → Prop) (μ1 : Int → World → Nat), I1 (0 : Int) w ∧ ∀ (i3 : Int) (w2 : World), I1 i3 w2 →
      ∃ s4 : Sl, w2.cell? ⟨b, o, none⟩ = some (s4.val) ∧
      brB (decide (i3 < (s4.len : Int)))
      (∀ w5 : World, w5 = World.drew w2 →
      ∃ s6 : Sl, held (Lw w5) ⟨b, o, none⟩ (s6.val) ∧
      ∃ a7 : Addr, s6.ptr = some a7 ∧ 0 ≤ i3 ∧ i3 < (s6.len : Int) ∧
      ∃ s8 : Sl, held (Lw w5) (Addr.add a7 (Int.toNat i3 * 1)) (s8.val) ∧
      ∃ s9 : Sl, held (Lw w5) ⟨b, o + 1, none⟩ (s9.val) ∧
      ∃ a10 : Addr, s9.ptr = some a10 ∧ 0 ≤ i3 ∧ i3 < (s9.len : Int) ∧
      ∃ s11 : Sl, held (Lw w5) (Addr.add a10 (Int.toNat i3 * 1)) (s11.val) ∧
      Calls P fS #[s8.val, s11.val] w5 fun e12 w13 => ∃ b14 : Bool, e12 = .returned (.bool b14) ∧
      brB (!b14)
      (K (.bool false) w13)
      (I1 (wr (i3 + (1 : Int))) w13 ∧ μ1 (wr (i3 + (1 : Int))) w13 < μ1 i3 w2))
      (K (.bool true) w2) := by
  refine ⟨fun n w' => ∃ j : Nat, n = j ∧ j ≤ ls.length ∧ Chg No w w', fun n _ => ls.length - n.toNat, ⟨0, rfl, Nat.zero_le _, Chg.refl _ _⟩, ?_⟩
  rintro n w2 ⟨j, rfl, hj, hc⟩
  have hlen := rA.len
  refine ⟨A, hc.cell hA (fun h => h), brB_of (fun hlt => ?_) (fun hlt => k w2 hc)⟩
  have hlt : j < ls.length := by simp at hlt; omega
  intro w5 hw5
  have c5 : Chg No w w5 := hc.trans (by rw [hw5]; exact Chg.drew No _) (fun _ _ h => h) (fun _ _ h => h)
  obtain ⟨s, hs⟩ : ∃ s, ls[j]? = some s := ⟨_, List.getElem?_eq_getElem hlt⟩
  obtain ⟨t, ht⟩ : ∃ t, was[j]? = some t := ⟨_, List.getElem?_eq_getElem (by omega)⟩
  obtain ⟨a, ha, h0, h1, hcell⟩ := sl_cell (rA.no c5) hs
  obtain ⟨a', ha', h0', h1', hcell'⟩ := sl_cell (rB.no c5) ht
  refine ⟨A, held_Lw (c5.cell hA (fun h => h)), a, ha, h0, h1, s, held_Lw hcell, Bs, held_Lw (c5.cell hB (fun h => h)), a', ha', h0', h1', t, held_Lw hcell', ?_⟩
  refine (hS j s t hs ht w5 c5).mono ?_
  rintro e w13 ⟨rfl, c13⟩
  refine ⟨true, rfl, brB_f ?_⟩
  rw [wr_of (by omega) (by omega)]
  exact ⟨⟨j + 1, by omega, by omega, c5.trans c13 (fun _ _ h => h) (fun _ _ h => h)⟩, by show ls.length - Int.toNat ((j : Int) + 1) < ls.length - Int.toNat (j : Int); omega⟩
theorem markedx_core {E : Enc α} {eT : TypeId} {fS fM : FuncId} {mk : Int → Int → α} (hS : ∀ (i n : Nat) (s t : Sl) (w : World), Rd E w s (marks (mk i) 0 n) → Rd E w t (marks (mk i) 0 n) → Calls P fS #[s.val, t.val] w fun e w' => e = .returned (.bool true) ∧ Chg No w w') (hM : MarkOk P E mk fM) {w : World} {A : Sl} {ls : List Sl} (rA : Rd (slE eT) w A ls) (hsm : ls.length ≤ 100000)
    (r1 : ∀ (i : Nat) (s : Sl), ls[i]? = some s → s.len ≤ 100000000 ∧ Rd E w s (marks (mk i) 0 s.len)) {K : Value → World → Prop} (k : ∀ w', Chg No w w' → K (.bool true) w') :
    ∃ (I1 : Int → World → Prop) (μ1 : Int → World → Nat), I1 (0 : Int) w ∧ ∀ (i3 : Int) (w2 : World), I1 i3 w2 →
      brB (decide (i3 < (A.len : Int)))
      (∀ w4 : World, w4 = World.drew w2 →
      ∃ S5 : World → Prop, S5 w4 ∧
      ∃ a6 : Addr, A.ptr = some a6 ∧ 0 ≤ i3 ∧ i3 < (A.len : Int) ∧
      ∃ s7 : Sl, held S5 (Addr.add a6 (Int.toNat i3 * 1)) (s7.val) ∧
      ∃ a8 : Addr, A.ptr = some a8 ∧ 0 ≤ i3 ∧ i3 < (A.len : Int) ∧
      ∃ s9 : Sl, held S5 (Addr.add a8 (Int.toNat i3 * 1)) (s9.val) ∧
      Calls P fM #[.int .i64 i3, .int .i64 (0 : Int), .int .i64 (s9.len : Int)] w4 fun e10 w11 => ∃ s12 : Sl, e10 = .returned (s12.val) ∧
      S5 w11 ∧
      Calls P fS #[s7.val, s12.val] w11 fun e13 w14 => ∃ b15 : Bool, e13 = .returned (.bool b15) ∧
      brB (!b15)
      (K (.bool false) w14)
      (I1 (wr (i3 + (1 : Int))) w14 ∧ μ1 (wr (i3 + (1 : Int))) w14 < μ1 i3 w2))
      (K (.bool true) w2) := by
  refine ⟨fun n w' => ∃ j : Nat, n = j ∧ j ≤ ls.length ∧ Chg No w w', fun n _ => ls.length - n.toNat, ⟨0, rfl, Nat.zero_le _, Chg.refl _ _⟩, ?_⟩
  rintro n w2 ⟨j, rfl, hj, hc⟩
  have hlen := rA.len
  refine brB_of (fun hlt => ?_) (fun hlt => k w2 hc)
  have hlt : j < ls.length := by simp at hlt; omega
  intro w4 hw4
  have c4 : Chg No w w4 := hc.trans (by rw [hw4]; exact Chg.drew No _) (fun _ _ h => h) (fun _ _ h => h)
  obtain ⟨s, hs⟩ : ∃ s, ls[j]? = some s := ⟨_, List.getElem?_eq_getElem hlt⟩
  obtain ⟨hsl, hr⟩ := r1 j s hs
  obtain ⟨a, ha, h0, h1, _⟩ := sl_cell (rA.no c4) hs
  have hh : held (fun w' => Chg No w w') (Addr.add a ((j : Int).toNat * 1)) s.val := fun w' hw' => by
    obtain ⟨a2, ha2, _, _, hcell⟩ := sl_cell (rA.no hw') hs
    rw [ha] at ha2; cases ha2; exact hcell
  refine ⟨fun w' => Chg No w w', c4, a, ha, h0, h1, s, hh, a, ha, h0, h1, s, hh, ?_⟩
  refine (hM j 0 s.len w4 (by omega) (by omega)).mono ?_
  rintro e w11 ⟨s12, rfl, h12, c11, _⟩
  have cw11 : Chg No w w11 := c4.trans c11 (fun _ _ h => h) (fun _ _ h => h)
  refine ⟨s12, rfl, cw11, ?_⟩
  refine (hS j s.len s s12 w11 (hr.no cw11) h12.rd).mono ?_
  rintro e w14 ⟨rfl, c14⟩
  refine ⟨true, rfl, brB_f ?_⟩
  rw [wr_of (by omega) (by omega)]
  exact ⟨⟨j + 1, by omega, by omega, cw11.trans c14 (fun _ _ h => h) (fun _ _ h => h)⟩, by show ls.length - Int.toNat ((j : Int) + 1) < ls.length - Int.toNat (j : Int); omega⟩
end
section
variable {α : Type} {w w' : World} {b o : Nat} {A Bs : Sl} {ls was : List Sl} {E : Enc α} {T : TypeId} {D D' S : Nat → Prop} {xss : List (List α)} {mk : Int → Int → α}
theorem KO.half (h : KO D E T w b A Bs ls was xss) : KH D E T w b A Bs ls was xss := ⟨h.oA, h.oB, h.len, h.lenB, h.ox, h.dis, h.dA, h.dB, h.dl, h.dw⟩
theorem KH.chg (h : KH D E T w b A Bs ls was xss) (c : Chg S w w') (hS : ∀ k, D k → ¬ S k) : KH D E T w' b A Bs ls was xss :=
  ⟨h.oA.chg c (fun k e => hS _ (h.dA k e).1), h.oB.chg c (fun k e => hS _ (h.dB k e).1), h.len, h.lenB, fun i s xs hs hx => ⟨(h.ox i s xs hs hx).1.chg c (fun k e => hS _ (h.dl k ⟨i, s, hs, e⟩).1), (h.ox i s xs hs hx).2⟩, h.dis, h.dA, h.dB, fun k e => ⟨(h.dl k e).1, (h.dl k e).2.1, Nat.lt_of_lt_of_le (h.dl k e).2.2 c.size⟩, fun k e => ⟨(h.dw k e).1, (h.dw k e).2.1, Nat.lt_of_lt_of_le (h.dw k e).2.2.1 c.size, (h.dw k e).2.2.2⟩⟩
theorem KO.chg (h : KO D E T w b A Bs ls was xss) (c : Chg S w w') (hS : ∀ k, D k → ¬ S k) : KO D E T w' b A Bs ls was xss := by
  have g := h.half.chg c hS
  exact ⟨g.oA, g.oB, g.len, g.lenB, g.ox, fun i s xs hs hx => (h.rd i s xs hs hx).chg c (fun k e => hS _ (h.dw k ⟨i, s, hs, e⟩).1), g.dis, g.dA, g.dB, g.dl, g.dw⟩
theorem KH.nar (h : KH D E T w b A Bs ls was xss) : KH (fun k => D k ∧ k < w.heap.size) E T w b A Bs ls was xss :=
  ⟨h.oA, h.oB, h.len, h.lenB, h.ox, h.dis, fun k e => ⟨⟨(h.dA k e).1, h.oA.lt e⟩, (h.dA k e).2⟩, fun k e => ⟨⟨(h.dB k e).1, h.oB.lt e⟩, (h.dB k e).2⟩, fun k e => ⟨⟨(h.dl k e).1, (h.dl k e).2.2⟩, (h.dl k e).2⟩, fun k e => ⟨⟨(h.dw k e).1, (h.dw k e).2.2.1⟩, (h.dw k e).2⟩⟩
theorem KH.wid (h : KH D E T w b A Bs ls was xss) (hd : ∀ k, D k → D' k) : KH D' E T w b A Bs ls was xss :=
  ⟨h.oA, h.oB, h.len, h.lenB, h.ox, h.dis, fun k e => ⟨hd _ (h.dA k e).1, (h.dA k e).2⟩, fun k e => ⟨hd _ (h.dB k e).1, (h.dB k e).2⟩, fun k e => ⟨hd _ (h.dl k e).1, (h.dl k e).2⟩, fun k e => ⟨hd _ (h.dw k e).1, (h.dw k e).2⟩⟩
theorem KH.empty (D : Nat → Prop) (E : Enc α) (T : TypeId) (w : World) (b : Nat) : KH D E T w b nilS nilS [] [] [] := (KO.empty D E T w b).half
/-- What putting in marks needs. -/
structure KP (E : Enc α) (T : TypeId) (w : World) (b o : Nat) (A : Sl) (ls : List Sl) (xss : List (List α)) : Prop where
  cA : w.cell? ⟨b, o, none⟩ = some A.val
  rA : Rd (slE T) w A ls
  len : ls.length = xss.length
  few : ls.length ≤ 100000
  ox : ∀ (i : Nat) (s : Sl) (xs : List α), ls[i]? = some s → xss[i]? = some xs → Ox E w s xs ∧ xs.length ≤ 10000000
  dis : ∀ (i j : Nat) (s t : Sl) (k : Nat), ls[i]? = some s → ls[j]? = some t → s.blk = some k → t.blk = some k → i = j
  nb : ¬ blksOf ls b
  nA : ∀ k, A.blk = some k → ¬ blksOf ls k
theorem KP.chg (h : KP E T w b o A ls xss) (c : Chg S w w') (hb : ¬ S b) (hA : ∀ k, A.blk = some k → ¬ S k) (hl : ∀ k, blksOf ls k → ¬ S k) : KP E T w' b o A ls xss :=
  ⟨c.cell h.cA hb, h.rA.chg c hA, h.len, h.few, fun i s xs hs hx => ⟨(h.ox i s xs hs hx).1.chg c (fun k e => hl k ⟨i, s, hs, e⟩), (h.ox i s xs hs hx).2⟩, h.dis, h.nb, h.nA⟩
theorem KP.marked (h : KP E T w b o A ls xss) (c : Chg (blksOf ls) w w') (hm : ∀ (i : Nat) (s : Sl), ls[i]? = some s → Ox E w' s (marks (mk i) 0 s.len)) : KM E T mk w' b o A ls := by
  refine ⟨c.cell h.cA h.nb, h.rA.chg c h.nA, h.few, fun i s hs => ⟨hm i s hs, ?_⟩, h.dis, h.nb, h.nA⟩
  obtain ⟨xs, hxs⟩ : ∃ xs, xss[i]? = some xs := ⟨_, List.getElem?_eq_getElem (by have := (List.getElem?_eq_some_iff.1 hs).1; have := h.len; omega)⟩
  obtain ⟨h1, h2⟩ := h.ox i s xs hs hxs
  rw [h1.rd.len]; exact h2
theorem KM.chg (h : KM E T mk w b o A ls) (c : Chg S w w') (hb : ¬ S b) (hA : ∀ k, A.blk = some k → ¬ S k) (hl : ∀ k, blksOf ls k → ¬ S k) : KM E T mk w' b o A ls :=
  ⟨c.cell h.cA hb, h.rA.chg c hA, h.few, fun i s hs => ⟨(h.ox i s hs).1.chg c (fun k e => hl k ⟨i, s, hs, e⟩), (h.ox i s hs).2⟩, h.dis, h.nb, h.nA⟩
/-- Grown forms of the lists: what they read, where they lie. -/
structure GrX (E : Enc α) (T : TypeId) (mk : Int → Int → α) (w : World) (N : Nat) (ls : List Sl) (out : Sl) : Prop where
  outs : ∃ outs : List Sl, Rd (slE T) w out outs ∧ outs.length = ls.length ∧ ∀ (i : Nat) (t : Sl), outs[i]? = some t → (t.len ≤ 20000000 ∧ Rd E w t (marks (mk i) 0 t.len)) ∧ ∀ k, t.blk = some k → blksOf ls k ∨ N ≤ k
  new : ∀ k, out.blk = some k → N ≤ k
theorem GrX.chg {N : Nat} {out : Sl} (h : GrX E T mk w N ls out) (c : Chg S w w') (hl : ∀ k, blksOf ls k → ¬ S k) (hN : ∀ k, S k → k < N) : GrX E T mk w' N ls out := by
  obtain ⟨outs, h1, h2, h3⟩ := h.outs
  refine ⟨⟨outs, h1.chg c (fun k e he => by have := h.new k e; have := hN k he; omega), h2, fun i t ht => ?_⟩, h.new⟩
  obtain ⟨⟨x1, x2⟩, x3⟩ := h3 i t ht
  refine ⟨⟨x1, x2.chg c (fun k e he => ?_)⟩, x3⟩
  rcases x3 k e with y | y
  · exact hl k y he
  · have := hN k he; omega
theorem GrX.old {N : Nat} {out : Sl} (h : GrX E T mk w N ls out) : Grown' E T mk w out ls.length := by
  obtain ⟨outs, h1, h2, h3⟩ := h.outs
  exact ⟨outs, h1, h2, fun i t ht => (h3 i t ht).1⟩
theorem Marked'.chg (h : Marked' E mk w ls) (c : Chg S w w') (hl : ∀ k, blksOf ls k → ¬ S k) : Marked' E mk w' ls := fun i s hs => (h i s hs).chg c (fun k e => hl k ⟨i, s, hs, e⟩)
end
end Go.Proofs.YtkjpmkopnkkbmaaGreatDoor
