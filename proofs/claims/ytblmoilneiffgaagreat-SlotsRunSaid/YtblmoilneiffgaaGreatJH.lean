/- The book of traces. -/
import Derived.Test.YtblmoilneiffgaaGreatJ6
import Derived.Test.YtblmoilneiffgaaGreatJ8
import Derived.Test.YtblmoilneiffgaaGreatJD
import Derived.Test.YtblmoilneiffgaaGreatJ2

/- Lists of instructions and of exits with room behind them, in which a mark stands; traces and machines of such lists. -/
set_option maxRecDepth 100000
namespace Go.Proofs.YtblmoilneiffgaaGreat
open Go.RowKit

def in77 : In5 := ⟨-77, 0, 0, 0, 0⟩
def ou77 : OuC := ⟨-77, 0, nilS, nilS⟩
def LentE {α : Type} (E : Enc α) (x : α) (w : World) (s : Sl) (xs : List α) : Prop := s.len = xs.length ∧ Ow E w ⟨s.ptr, xs.length + 1, s.cap⟩ (xs ++ [x])
section
variable {α : Type} {E : Enc α} {x : α} {w w' : World} {s : Sl} {xs : List α}
theorem LentE.rd (h : LentE E x w s xs) : Rd E w s xs := by
  have ht := (h.2.take (n := xs.length) (by simp)).rd
  rw [List.take_left] at ht
  have : s = ⟨s.ptr, xs.length, s.cap⟩ := by rw [← h.1]
  rw [this]; exact ht
theorem LentE.chg {S : Nat → Prop} (h : LentE E x w s xs) (c : Chg S w w') (hS : ∀ k, s.blk = some k → ¬ S k) : LentE E x w' s xs := by
  refine ⟨h.1, h.2.chg c (fun k hk => hS k ?_)⟩
  rw [← hk]; unfold Sl.blk Sl.val; cases s.ptr <;> rfl
theorem LentE.no (h : LentE E x w s xs) (c : Chg No w w') : LentE E x w' s xs := h.chg c (fun _ _ h => h)
theorem lent_app {T : TypeId} {P : Program} (ok : EncOk P E T) (hE : E.bytes ≤ 64) {s4 : Sl} {b5 : Nat} {w0 w3 w6 : World} {n : Nat} (hn : xs.length = n) (h4 : Ow E w3 s4 xs) (c3 : Chg No w0 w3) (b4 : ∀ k, s4.blk = some k → w0.heap.size ≤ k) (hb5 : b5 = w3.heap.size) (hw6 : w6 = World.alloc w3 (.cells (E.e x).toArray E.t)) (hl : xs.length ≤ 1000000)
    {G : Sl → World → Prop} (k : ∀ (s' : Sl) (w' : World), LentE E x w' s' xs → Chg No w0 w' → Chg (fun k => s4.blk = some k) w3 w' → (∀ k, s'.blk = some k → (w0.heap.size ≤ k ∧ k < w'.heap.size) ∧ (s4.blk = some k ∨ w3.heap.size ≤ k)) → G s' w') :
    ∃ s7 : Sl, ∃ w8 : World, (Builtin.append_ #[T, T] T #[s4.val, .slice (some ⟨b5, 0, none⟩) 1 1]).run P w6 = .ok (s7.val) w8 ∧
    0 ≤ (n : Int) ∧ (n : Int) ≤ (s7.cap : Int) ∧ ∀ s9 : Sl, s9 = Sl.sub s7.ptr s7.cap 0 (Int.toNat (n : Int)) E.sz → G s9 w8 := by
  have c6 : Chg No w3 w6 := by rw [hw6]; exact Chg.alloc _ _ _
  have l6 : Ow E w6 ⟨some ⟨b5, 0, none⟩, 1, 1⟩ [x] := by
    rw [hw6, hb5]; exact Ow.lit (E := E) w3 [x] (E.e x) (by simp [fl]) (by show 1 ≤ maxLen; unfold maxLen; omega)
  have hmul : (xs.length + 1) * E.bytes ≤ (1000000 + 1) * 64 := Nat.mul_le_mul (by omega) hE
  refine app_ok ok rfl rfl (h4.no c6) l6.rd (by show (xs.length + 1) * E.bytes ≤ _; omega) (by show xs.length + 1 ≤ _; unfold maxLen; omega) ?_
  intro s7 w8 h8 c8 b8
  have hl7 := h8.rd.len
  have hc7 := h8.rd.capL
  rw [List.length_append] at hl7 hc7
  have h1 : [x].length = 1 := rfl
  refine ⟨by omega, by omega, ?_⟩
  intro s9 hs9
  rw [sub0, Int.toNat_natCast] at hs9
  have hbk : s9.blk = s7.blk := by rw [hs9]; unfold Sl.blk Sl.val; cases s7.ptr <;> rfl
  have z3 := c3.size
  have z6 := c6.size
  refine k s9 w8 ⟨by rw [hs9]; exact hn.symm, ?_⟩ ((c3.trans c6 (U := No) (fun _ _ h => h) (fun _ _ h => h)).trans c8 (fun _ _ h => h) (fun k hk he => by have := b4 k he; omega)) (c6.trans c8 (fun _ _ h => h.elim) (fun _ _ h => h)) fun k hk => ⟨⟨?_, h8.lt (hbk ▸ hk)⟩, ?_⟩
  · have e7 : (⟨s9.ptr, xs.length + 1, s9.cap⟩ : Sl) = s7 := by rw [hs9]; cases s7; simp at hl7 ⊢; omega
    rw [e7]; exact h8
  · rw [hbk] at hk
    rcases b8 with hh | hh
    · exact b4 k (hh ▸ hk)
    · have := Option.some.inj (hh.symm.trans hk); omega
  · rw [hbk] at hk
    rcases b8 with hh | hh
    · exact Or.inl (hh ▸ hk)
    · have := Option.some.inj (hh.symm.trans hk); exact Or.inr (by omega)
theorem LentE.mark (h : LentE E x w s xs) {n : Int} {r : List Value} (hx : E.e x = .int .i64 n :: r) {G : Prop} (g : G) :
    0 ≤ (wr ((s.len : Int) + (1 : Int))) ∧ (wr ((s.len : Int) + (1 : Int))) ≤ (s.cap : Int) ∧ ∀ s6 : Sl, s6 = Sl.sub s.ptr s.cap 0 (Int.toNat (wr ((s.len : Int) + (1 : Int)))) E.sz →
    ∃ a7 : Addr, s6.ptr = some a7 ∧ 0 ≤ (s.len : Int) ∧ (s.len : Int) < (s6.len : Int) ∧ ∃ n8 : Int, w.cell? (Addr.add a7 (Int.toNat (s.len : Int) * E.sz)) = some (.int .i64 n8) ∧ (n8 = n ∧ G) := by
  have hc := h.2.rd.capL
  rw [List.length_append] at hc
  have h1 : [x].length = 1 := rfl
  have hc1 : xs.length + 1 ≤ s.cap := by have := hc.1; omega
  have hc2 : s.cap ≤ 9223372036854775807 := hc.2
  have hml := h.1
  rw [wr_of (by omega) (by omega)]
  refine ⟨by omega, by omega, ?_⟩
  intro s6 hs6
  rw [sub0] at hs6
  have e6 : s6 = ⟨s.ptr, xs.length + 1, s.cap⟩ := by rw [hs6]; congr 1; omega
  have h6 : Rd E w s6 (xs ++ [x]) := by rw [e6]; exact h.2.rd
  refine h6.ix (i := (s.len : Int)) (x := x) (by omega) (by rw [Int.toNat_natCast, hml, List.getElem?_append_right (Nat.le_refl _)]; simp) fun a ha hcell => ?_
  have q1 := hcell 0 (.int .i64 n) (by rw [hx]; rfl)
  rw [add0] at q1
  exact ⟨n, q1, rfl, g⟩
end
def TyB (T : TypeId) (w : World) (k : Nat) : Prop := ∃ arr z, w.heap[k]? = some (.cells arr T z)
theorem Ow.ty {α : Type} {E : Enc α} {w : World} {s : Sl} {xs : List α} (h : Ow E w s xs) {k : Nat} (hk : s.blk = some k) : TyB E.t w k := by
  have h' : Own w E.t E.sz s.val xs.length (fl E xs) := h
  rcases h'.2 with ⟨hv, _⟩ | ⟨g, cap, cur, hv, _, hg, _⟩
  · exfalso
    have : s.val.ownBlock = some k := hk
    rw [hv] at this; cases this
  · have : s.val.ownBlock = some k := hk
    rw [hv] at this
    have e : g = k := by injection this
    subst e
    exact ⟨_, _, hg⟩
theorem TyB.chg {T : TypeId} {S : Nat → Prop} {w w' : World} {k : Nat} (h : TyB T w k) (c : Chg S w w') (hS : ¬ S k) : TyB T w' k := by
  obtain ⟨arr, z, h⟩ := h
  exact ⟨arr, z, c.row h hS⟩
theorem TyB.ne {T U : TypeId} {w : World} {k b : Nat} {cs : List Value} (h : TyB T w k) (o : Ob w b cs U) (hTU : T ≠ U) : k ≠ b := fun e => by
  obtain ⟨arr, z, h⟩ := h
  subst e
  have := h.symm.trans o
  simp at this
  exact hTU this.2.1
def Lb (w w' : World) : Nat → Prop := fun k => (w.heap.size ≤ k ∧ k < w'.heap.size) ∧ (TyB T_int w' k ∨ TyB T_api_Ins w' k ∨ TyB T_api_Out w' k)
theorem Lb.ne {w w' : World} {k b : Nat} {cs : List Value} {U : TypeId} (h : Lb w w' k) (o : Ob w' b cs U) (h1 : T_int ≠ U) (h2 : T_api_Ins ≠ U) (h3 : T_api_Out ≠ U) : k ≠ b := by
  rcases h.2 with g | g | g
  · exact g.ne o h1
  · exact g.ne o h2
  · exact g.ne o h3
theorem Lb.to {u w w' w'' : World} {k : Nat} {S : Nat → Prop} (h : Lb w w' k) (hu : u.heap.size ≤ w.heap.size) (c : Chg S w' w'') (hS : ¬ S k) : Lb u w'' k := by
  have z := c.size
  refine ⟨⟨by have := h.1.1; omega, by have := h.1.2; omega⟩, ?_⟩
  rcases h.2 with g | g | g
  · exact Or.inl (g.chg c hS)
  · exact Or.inr (Or.inl (g.chg c hS))
  · exact Or.inr (Or.inr (g.chg c hS))
/-! ### Instructions -/
theorem ins_eql (x y : In5) (a b : Operand) (w : World) : ((do eqGuard .eql T_api_Ins a b (.agg (insC x).toArray) (.agg (insC y).toArray); binOp .eql T_api_Ins (.agg (insC x).toArray) (.agg (insC y).toArray) : Sem Value)).run Tryz.prog w = .ok (.bool (decide (x.a = y.a ∧ x.b = y.b ∧ x.c = y.c ∧ x.d = y.d ∧ x.e = y.e))) w := by
  have u1 := Tryz.underlying3
  have hS : Tryz.prog.underlying T_api_Ins = some (.struct (Tryz.prog.fieldsOf T_api_Ins)) := by kernel_rfl
  have hp : Tryz.prog.stoodInHeld T_api_Ins = false := by kernel_rfl
  have hm : Tryz.prog.eqGuardType Tryz.prog.depth T_api_Ins = false := by kernel_rfl
  simp only [insC, Sem.run_bind, run_eqGuard_agg w .eql T_api_Ins a b _ _ hm, Result.andThen_ok, run_eql_struct]
  rw [show (10000 : Nat) = 9999 + 1 from rfl, run_equalIn_agg w 9999 T_api_Ins _ _ hS hp]
  simp only [Program.fieldsOf, Tryz.underlying68]
  go_simp
  by_cases g1 : x.a = y.a <;> by_cases g2 : x.b = y.b <;> by_cases g3 : x.c = y.c <;> by_cases g4 : x.d = y.d <;> by_cases g5 : x.e = y.e <;> simp [g1, g2, g3, g4, g5]
theorem sameCodes_ok : SameOk Tryz.prog insE fn_hollowaybook_SameCodes := by
  intro s t xs w hs ht
  refine (hollowaybook_SameCodes_lift (K := fun r w' => r = .bool true ∧ Chg No w w') ?_).mono (by rintro e w' ⟨r, rfl, rfl, h⟩; exact ⟨rfl, h⟩)
  unfold hollowaybook_SameCodes_sh
  have h1 := hs.len
  have h2 := ht.len
  have hc := hs.capL
  have e1 : ((s.len : Int) != (t.len : Int)) = false := by rw [h1, h2]; simp
  rw [e1]
  refine brB_f ?_
  refine ⟨fun n w' => ∃ k : Nat, n = k ∧ k ≤ xs.length ∧ Chg No w w', fun n _ => xs.length - n.toNat, ⟨0, rfl, Nat.zero_le _, Chg.refl _ _⟩, ?_⟩
  rintro n w3 ⟨k, rfl, hk, hch⟩
  refine brB_of (fun hlt => ?_) (fun hlt => ⟨rfl, hch⟩)
  have hlt : k < xs.length := by simp at hlt; omega
  intro w5 hw5
  have c5 : Chg No w w5 := hch.trans (by rw [hw5]; exact Chg.drew No _) (fun _ _ h => h) (fun _ _ h => h)
  obtain ⟨x, hx⟩ : ∃ x, xs[k]? = some x := ⟨_, List.getElem?_eq_getElem hlt⟩
  refine (hs.no c5).ix (i := (k : Int)) (by omega) (by rw [Int.toNat_natCast]; exact hx) fun a ha hcell => ?_
  have q1 := hcell 0 _ rfl
  rw [add0] at q1
  refine ⟨_, _, _, _, _, held_Lw q1, held_Lw (hcell 1 _ rfl), held_Lw (hcell 2 _ rfl), held_Lw (hcell 3 _ rfl), held_Lw (hcell 4 _ rfl), ?_⟩
  refine (ht.no c5).ix (i := (k : Int)) (by omega) (by rw [Int.toNat_natCast]; exact hx) fun a' ha' hcell' => ?_
  have q2 := hcell' 0 _ rfl
  rw [add0] at q2
  refine ⟨_, _, _, _, _, held_Lw q2, held_Lw (hcell' 1 _ rfl), held_Lw (hcell' 2 _ rfl), held_Lw (hcell' 3 _ rfl), held_Lw (hcell' 4 _ rfl), ?_⟩
  refine ⟨_, _, ins_eql x x _ _ _, ?_⟩
  rw [show (!decide (x.a = x.a ∧ x.b = x.b ∧ x.c = x.c ∧ x.d = x.d ∧ x.e = x.e)) = false by simp]
  refine brB_f ?_
  rw [wr_of (by omega) (by omega)]
  exact ⟨⟨k + 1, by omega, by omega, c5⟩, by show xs.length - Int.toNat ((k : Int) + 1) < xs.length - Int.toNat (k : Int); omega⟩
theorem copyCodes_any (s : Sl) (xs : List In5) (w : World) (h : Rd insE w s xs) (hl : xs.length ≤ 1000000) : Calls Tryz.prog fn_hollowaybook_copyCodes #[s.val] w fun e w' => ∃ s' : Sl, e = .returned s'.val ∧ Ow insE w' s' xs ∧ Chg No w w' ∧ (∀ k, s'.blk = some k → w.heap.size ≤ k) := by
  refine (hollowaybook_copyCodes_lift (K := fun r w' => ∃ s' : Sl, r = s'.val ∧ Ow insE w' s' xs ∧ Chg No w w' ∧ (∀ k, s'.blk = some k → w.heap.size ≤ k)) ?_).mono (by rintro e w' ⟨r, rfl, s', rfl, h⟩; exact ⟨s', rfl, h⟩)
  unfold hollowaybook_copyCodes_sh
  refine app_ok insOk (s := nilS) (t := s) rfl rfl (Ow.nil _ _) h (by show (0 + xs.length) * 40 ≤ _; omega) (by show 0 + xs.length ≤ _; unfold maxLen; omega) ?_
  intro s' w' h' c' b'
  refine ⟨s', rfl, h', c'.trans (Chg.refl No _) (fun k hk he => by cases he) (fun _ _ h => h), fun k hk => ?_⟩
  rcases b' with hh | hh
  · rw [hh] at hk; cases hk
  · have := Option.some.inj (hh.symm.trans hk); omega
theorem lentCodes_any {w : World} {l : Sl} {xs : List In5} (h : Rd insE w l xs) (hl : xs.length ≤ 1000000) : Calls Tryz.prog fn_hollowaybook_LentCodes #[l.val] w fun e w' => ∃ s : Sl, e = .returned s.val ∧ LentE insE in77 w' s xs ∧ Chg No w w' ∧ (∀ k, s.blk = some k → w.heap.size ≤ k ∧ k < w'.heap.size) := by
  refine (hollowaybook_LentCodes_lift (K := fun r w' => ∃ s : Sl, r = s.val ∧ LentE insE in77 w' s xs ∧ Chg No w w' ∧ (∀ k, s.blk = some k → w.heap.size ≤ k ∧ k < w'.heap.size)) ?_).mono (by rintro e w' ⟨r, rfl, s', rfl, h⟩; exact ⟨s', rfl, h⟩)
  unfold hollowaybook_LentCodes_sh
  refine (copyCodes_any l xs w h hl).mono ?_
  rintro e w3 ⟨s4, rfl, h4, c3, b4⟩
  refine ⟨s4, rfl, ?_⟩
  intro b5 w6 hb5 hw6
  exact lent_app (x := in77) insOk (by decide) h.len.symm h4 c3 b4 hb5 hw6 hl fun s' w' g c _ b => ⟨s', rfl, g, c, fun k hk => (b k hk).1⟩
theorem staysCodes_any {w : World} {m l : Sl} {xs : List In5} (hm : LentE insE in77 w m xs) (hl : Rd insE w l xs) : Calls Tryz.prog fn_hollowaybook_StaysCodes #[m.val, l.val] w fun e w' => e = .returned (.bool true) ∧ Chg No w w' := by
  refine (hollowaybook_StaysCodes_lift (K := fun r w' => r = .bool true ∧ Chg No w w') ?_).mono (by rintro e w' ⟨r, rfl, rfl, h⟩; exact ⟨rfl, h⟩)
  unfold hollowaybook_StaysCodes_sh
  refine (sameCodes_ok m l xs w hm.rd hl).mono ?_
  rintro e w4 ⟨rfl, c4⟩
  refine ⟨_, rfl, brB_t ?_⟩
  obtain ⟨g1, g2, g3⟩ := (hm.no c4).mark (n := -77) rfl c4
  refine ⟨g1, g2, fun s6 hs6 => ?_⟩
  obtain ⟨a, i1, i2, i3, n, i4, rfl, i6⟩ := g3 s6 hs6
  exact ⟨a, i1, i2, i3, _, i4, rfl, i6⟩
/-! ### Exits -/
theorem sameExits_any {D D' : Nat → Prop} {w : World} {s t : Sl} {os os' : List OuC} {vs : List OuV} (hs : Rd ouE w s os) (ht : Rd ouE w t os') (ho : OusIs D w os vs) (ho' : OusIs D' w os' vs) : Calls Tryz.prog fn_hollowaybook_SameExits #[s.val, t.val] w fun e w' => e = .returned (.bool true) ∧ Chg No w w' := by
  refine (hollowaybook_SameExits_lift (K := fun r w' => r = .bool true ∧ Chg No w w') ?_).mono (by rintro e w' ⟨r, rfl, rfl, h⟩; exact ⟨rfl, h⟩)
  unfold hollowaybook_SameExits_sh
  have h1 := hs.len
  have h2 := ht.len
  have h3 := ho.1
  have h4 := ho'.1
  have hc := hs.capL
  have e1 : ((s.len : Int) != (t.len : Int)) = false := by rw [h1, h2, h3, h4]; simp
  rw [e1]
  refine brB_f ?_
  refine ⟨fun n w' => ∃ k : Nat, n = k ∧ k ≤ vs.length ∧ Chg No w w', fun n _ => vs.length - n.toNat, ⟨0, rfl, Nat.zero_le _, Chg.refl _ _⟩, ?_⟩
  rintro n w3 ⟨k, rfl, hk, hch⟩
  refine brB_of (fun hlt => ?_) (fun hlt => ⟨rfl, hch⟩)
  have hlt : k < vs.length := by simp at hlt; omega
  refine ⟨fun b w' => b = false ∧ Chg No w w', ?_, ?_⟩
  · rintro b w29 ⟨rfl, c29⟩
    refine brB_f ?_
    rw [wr_of (by omega) (by omega)]
    exact ⟨⟨k + 1, by omega, by omega, c29⟩, by show vs.length - Int.toNat ((k : Int) + 1) < vs.length - Int.toNat (k : Int); omega⟩
  intro w5 hw5
  have c5 : Chg No w w5 := trN hch (dw hw5)
  obtain ⟨v, hv⟩ : ∃ x, vs[k]? = some x := ⟨_, List.getElem?_eq_getElem hlt⟩
  obtain ⟨o, hx⟩ : ∃ x, os[k]? = some x := ⟨_, List.getElem?_eq_getElem (by omega)⟩
  obtain ⟨o', hx'⟩ : ∃ x, os'[k]? = some x := ⟨_, List.getElem?_eq_getElem (by omega)⟩
  obtain ⟨a1, a2, a3, a4, _, _⟩ := ho.2 _ _ _ hx hv
  obtain ⟨b1, b2, b3, b4, _, _⟩ := ho'.2 _ _ _ hx' hv
  have ixa : ∀ {w' : World} {F : Addr → Prop}, Chg No w w' → (∀ a, s.ptr = some a → (∀ w'', Chg No w w'' → ∀ (j : Nat) (u : Value), (ouC o)[j]? = some u → w''.cell? ((a.add (k * 4)).add j) = some u) → F a) → ∃ a, s.ptr = some a ∧ 0 ≤ (k : Int) ∧ (k : Int) < (s.len : Int) ∧ F a := fun {w'} {F} c hF => by
    refine (hs.no c).ix (i := (k : Int)) (by omega) (by rw [Int.toNat_natCast]; exact hx) fun a ha _ => hF a ha fun w'' c'' => ?_
    obtain ⟨a2, ha2, _, _, hc2⟩ := (hs.no c'').ix (i := (k : Int)) (G := fun a => ∀ (j : Nat) (u : Value), (ouC o)[j]? = some u → w''.cell? ((a.add (k * 4)).add j) = some u) (by omega) (by rw [Int.toNat_natCast]; exact hx) fun a _ hcell j u hu => hcell j u hu
    cases ha.symm.trans ha2
    exact hc2
  have ixb : ∀ {w' : World} {F : Addr → Prop}, Chg No w w' → (∀ a, t.ptr = some a → (∀ w'', Chg No w w'' → ∀ (j : Nat) (u : Value), (ouC o')[j]? = some u → w''.cell? ((a.add (k * 4)).add j) = some u) → F a) → ∃ a, t.ptr = some a ∧ 0 ≤ (k : Int) ∧ (k : Int) < (t.len : Int) ∧ F a := fun {w'} {F} c hF => by
    refine (ht.no c).ix (i := (k : Int)) (by omega) (by rw [Int.toNat_natCast]; exact hx') fun a ha _ => hF a ha fun w'' c'' => ?_
    obtain ⟨a2, ha2, _, _, hc2⟩ := (ht.no c'').ix (i := (k : Int)) (G := fun a => ∀ (j : Nat) (u : Value), (ouC o')[j]? = some u → w''.cell? ((a.add (k * 4)).add j) = some u) (by omega) (by rw [Int.toNat_natCast]; exact hx') fun a _ hcell j u hu => hcell j u hu
    cases ha.symm.trans ha2
    exact hc2
  refine ⟨fun w' => Chg No w w', c5, ?_⟩
  have eqI : ∀ {x y : Int} {A B : Prop}, x = y → A → brB (x == y) A B := fun h k => by rw [show (_ == _) = true from by simpa using h]; exact brB_t k
  refine ixa c5 fun a ha hca => ⟨o.ip, fun w'' c'' => by have := hca w'' c'' 0 _ rfl; rw [add0] at this; exact this, ?_⟩
  refine ixb c5 fun b hb hcb => ⟨o'.ip, fun w'' c'' => by have := hcb w'' c'' 0 _ rfl; rw [add0] at this; exact this, eqI (a1.trans b1.symm) ?_⟩
  refine ixa c5 fun a ha hca => ⟨o.steps, fun w'' c'' => hca w'' c'' 1 _ rfl, ?_⟩
  refine ixb c5 fun b hb hcb => ⟨o'.steps, fun w'' c'' => hcb w'' c'' 1 _ rfl, eqI (a2.trans b2.symm) ?_⟩
  refine ixa c5 fun a ha hca => ⟨o.stack, fun w'' c'' => hca w'' c'' 2 _ rfl, ?_⟩
  refine ixb c5 fun b hb hcb => ⟨o'.stack, fun w'' c'' => hcb w'' c'' 2 _ rfl, ?_⟩
  refine (sameInts_ok o.stack o'.stack v.stack w5 (a3.no c5) (b3.no c5)).mono ?_
  rintro e w20 ⟨rfl, c20⟩
  have k20 := trN c5 c20
  refine ⟨_, rfl, k20, brB_t ?_⟩
  refine ixa k20 fun a ha hca => ⟨o.back, fun w'' c'' => hca w'' c'' 3 _ rfl, ?_⟩
  refine ixb k20 fun b hb hcb => ⟨o'.back, fun w'' c'' => hcb w'' c'' 3 _ rfl, ?_⟩
  refine (sameInts_ok o.back o'.back v.back w20 (a4.no k20) (b4.no k20)).mono ?_
  rintro e w27 ⟨rfl, c27⟩
  exact ⟨_, rfl, rfl, trN k20 c27⟩
def NewX (w w' : World) (r : Value) (vs : List OuV) : Prop := ∃ (s : Sl) (os : List OuC), r = s.val ∧ Ow ouE w' s os ∧ OusIs (fun k => (w.heap.size ≤ k ∧ k < w'.heap.size ∧ s.blk ≠ some k) ∧ TyB T_int w' k) w' os vs ∧ Chg No w w' ∧ ∀ k, s.blk = some k → w.heap.size ≤ k
theorem copyExits_any {D : Nat → Prop} {w : World} {l : Sl} {os : List OuC} {vs : List OuV} (hl : Rd ouE w l os) (hv : OusIs D w os vs) (hn : vs.length ≤ 100000) (hn2 : ∀ v ∈ vs, v.stack.length ≤ 100000 ∧ v.back.length ≤ 100000) :
    Calls Tryz.prog fn_hollowaybook_copyExits #[l.val] w fun e w' => ∃ r, e = .returned r ∧ NewX w w' r vs := by
  refine (hollowaybook_copyExits_lift (K := fun r w' => NewX w w' r vs) ?_).mono (by rintro e w' ⟨r, rfl, h⟩; exact ⟨r, rfl, h⟩)
  unfold hollowaybook_copyExits_sh
  have hol := hv.1
  refine app_ok ousOk (s := nilS) (t := l) rfl rfl (Ow.nil _ _) hl (by show (0 + os.length) * 64 ≤ _; omega) (by show 0 + os.length ≤ _; unfold maxLen; omega) ?_
  intro s w3 h3 c3 b3
  rw [List.nil_append] at h3
  have c3 : Chg No w w3 := c3.trans (Chg.refl No _) (fun k hk he => by cases he) (fun _ _ h => h)
  have new : ∀ k, s.blk = some k → w.heap.size ≤ k := fun k hk => by
    rcases b3 with hh | hh
    · rw [hh] at hk; cases hk
    · have := Option.some.inj (hh.symm.trans hk); omega
  have hsl := h3.rd.len
  refine ⟨fun n w' => ∃ (k : Nat) (os' : List OuC), n = k ∧ k ≤ vs.length ∧ Ow ouE w' s os' ∧ os'.length = vs.length ∧ (∀ j, k ≤ j → os'[j]? = os[j]?) ∧ (∀ (j : Nat) (o : OuC) (v : OuV), j < k → os'[j]? = some o → vs[j]? = some v → OuIs (fun q => (w.heap.size ≤ q ∧ q < w'.heap.size ∧ s.blk ≠ some q) ∧ TyB T_int w' q) w' o v) ∧ Chg No w w', fun n _ => vs.length - n.toNat, ⟨0, os, rfl, Nat.zero_le _, h3, hol, fun _ _ => rfl, fun j _ _ hj => by omega, c3⟩, ?_⟩
  rintro n w4 ⟨k, os', rfl, hk, h4, hlen, hold, hnew, c4⟩
  refine brB_of (fun hlt => ?_) (fun hlt => ?_)
  · have hlt : k < vs.length := by simp at hlt; omega
    obtain ⟨v, hvk⟩ : ∃ x, vs[k]? = some x := ⟨_, List.getElem?_eq_getElem hlt⟩
    obtain ⟨o, ho⟩ : ∃ x, os[k]? = some x := ⟨_, List.getElem?_eq_getElem (by omega)⟩
    have ho' : os'[k]? = some o := by rw [hold k (Nat.le_refl _)]; exact ho
    obtain ⟨u1, u2, u3, u4, _, _⟩ := hv.2 _ _ _ ho hvk
    obtain ⟨t1, t2⟩ := hn2 v (List.mem_of_getElem? hvk)
    intro w6 hw6
    have c6 := dw hw6
    have k6 := trN c4 c6
    have h6 := h4.no c6
    obtain ⟨a, ha, _, _, hcell⟩ := h6.rd.ix (i := (k : Int)) (G := fun a => ∀ w', Chg No w6 w' → ∀ (j : Nat) (u : Value), (ouC o)[j]? = some u → w'.cell? ((a.add (k * 4)).add j) = some u) (by omega) (by rw [Int.toNat_natCast]; exact ho') fun a ha _ => fun w' c' => by
      obtain ⟨a2, ha2, _, _, hc2⟩ := (h6.no c').rd.ix (i := (k : Int)) (G := fun a => ∀ (j : Nat) (u : Value), (ouC o)[j]? = some u → w'.cell? ((a.add (k * 4)).add j) = some u) (by omega) (by rw [Int.toNat_natCast]; exact ho') fun a _ hcell j u hu => hcell j u hu
      cases ha.symm.trans ha2
      exact hc2
    have ixk : ∀ {F : Addr → Prop}, F a → ∃ a, s.ptr = some a ∧ 0 ≤ (k : Int) ∧ (k : Int) < (s.len : Int) ∧ F a := fun hF => ⟨a, ha, by omega, by omega, hF⟩
    rw [Int.toNat_natCast]
    refine ⟨fun w' => Chg No w6 w', fun w' => w'.cell? ((a.add (k * 4)).add 3) = some o.back.val, fun w' c' => hcell w' c' 3 _ rfl, Chg.refl _ _, ?_⟩
    refine ixk ⟨o.stack, fun w' c' => hcell w' c' 2 _ rfl, ?_⟩
    refine ixk ⟨o.back, fun w' c' => c', ?_⟩
    refine (copyInts_any o.stack v.stack w6 (u3.no k6) (by omega)).mono ?_
    rintro e w15 ⟨s16, rfl, h16, c15, n16⟩
    have k15 := trN k6 c15
    refine ⟨s16, rfl, hcell w15 c15 3 _ rfl, ?_⟩
    refine (copyInts_any o.back v.back w15 (u4.no k15) (by omega)).mono ?_
    rintro e w18 ⟨s19, rfl, h19, c18, n19⟩
    have k18 := trN k15 c18
    have c618 := trN c15 c18
    have h18 := h6.no c618
    refine ⟨s19, rfl, hcell w18 c618 3 _ rfl, ?_⟩
    obtain ⟨f1, f2⟩ := h18.set1 ha (k := k) (j := 2) (x := o) (x' := { o with stack := s16 }) (u := s16.val) ho' (by decide) rfl
    refine ixk ⟨f1, fun w21 hw21 => ?_⟩
    have f2 : Ow ouE w21 s (os'.set k { o with stack := s16 }) := by rw [hw21]; exact f2
    have c21 : Chg (fun q => s.blk = some q) w18 w21 := by rw [hw21]; exact Chg.st (S := fun q => s.blk = some q) (by rw [add_block, add_block]; exact blk_ptr ha)
    have hk' : (os'.set k { o with stack := s16 })[k]? = some { o with stack := s16 } := List.getElem?_set_self (by omega)
    obtain ⟨a2, ha2, _, _, hc2⟩ := f2.rd.ix (i := (k : Int)) (x := { o with stack := s16 }) (G := fun a => w21.cell? ((a.add (k * 4)).add 3) = some o.back.val) (by omega) (by rw [Int.toNat_natCast]; exact hk') fun a _ hcell => hcell 3 _ rfl
    cases ha.symm.trans ha2
    refine ⟨hc2, ?_⟩
    obtain ⟨g1, g2⟩ := f2.set1 ha (k := k) (j := 3) (x := { o with stack := s16 }) (x' := { o with stack := s16, back := s19 }) (u := s19.val) hk' (by decide) rfl
    refine ixk ⟨g1, fun w23 hw23 => ?_⟩
    rw [List.set_set] at g2
    have g2 : Ow ouE w23 s (os'.set k { o with stack := s16, back := s19 }) := by rw [hw23]; exact g2
    have c23 : Chg (fun q => s.blk = some q) w21 w23 := by rw [hw23]; exact Chg.st (S := fun q => s.blk = some q) (by rw [add_block, add_block]; exact blk_ptr ha)
    have cS : Chg (fun q => s.blk = some q) w18 w23 := c21.trans c23 (fun _ _ h => h) (fun _ _ h => h)
    have cW : Chg No w w23 := k18.trans cS (fun _ _ h => h) (fun q hq he => by have := new q he; omega)
    have lts : ∀ q, s.blk = some q → q < w6.heap.size := fun q hq => h6.lt hq
    have z6 := k6.size
    have z15 := c15.size
    have z18 := c18.size
    have zS := cS.size
    have l16 : ∀ q, s16.blk = some q → q < w15.heap.size := fun q hq => h16.lt hq
    have l19 : ∀ q, s19.blk = some q → q < w18.heap.size := fun q hq => h19.lt hq
    rw [wr_of (by omega) (by omega)]
    refine ⟨⟨k + 1, _, by omega, by omega, g2, by rw [List.length_set]; exact hlen, fun j hj => by rw [List.getElem?_set_ne (by omega)]; exact hold j (by omega), fun j o2 v2 hj ho2 hv2 => ?_, cW⟩, by show vs.length - Int.toNat ((k : Int) + 1) < vs.length - Int.toNat (k : Int); omega⟩
    by_cases hjk : j = k
    · subst hjk
      rw [List.getElem?_set_self (by omega)] at ho2
      cases Option.some.inj ho2
      cases hvk.symm.trans hv2
      refine ⟨u1, u2, (h16.rd.no c18).chg cS (fun q hq he => by have := n16 q hq; have := lts q he; omega), h19.rd.chg cS (fun q hq he => by have := n19 q hq; have := lts q he; omega), fun q hq => ⟨⟨by have := n16 q hq; omega, by have := l16 q hq; omega, fun he => by have := n16 q hq; have := lts q he; omega⟩, ((h16.no c18).ty hq).chg cS (fun he => by have := n16 q hq; have := lts q he; omega)⟩, fun q hq => ⟨⟨by have := n19 q hq; omega, by have := l19 q hq; omega, fun he => by have := n19 q hq; have := lts q he; omega⟩, (h19.ty hq).chg cS (fun he => by have := n19 q hq; have := lts q he; omega)⟩⟩
    · rw [List.getElem?_set_ne (fun h => hjk h.symm)] at ho2
      obtain ⟨p1, p2, p3, p4, p5, p6⟩ := hnew j o2 v2 (by omega) ho2 hv2
      have c423 : Chg (fun q => s.blk = some q) w4 w23 := (trN c6 c618).trans cS (fun _ _ h => h.elim) (fun _ _ h => h)
      have z423 := c423.size
      exact ⟨p1, p2, p3.chg c423 (fun q hq => (p5 q hq).1.2.2), p4.chg c423 (fun q hq => (p6 q hq).1.2.2), fun q hq => ⟨⟨(p5 q hq).1.1, by have := (p5 q hq).1.2.1; omega, (p5 q hq).1.2.2⟩, (p5 q hq).2.chg c423 (p5 q hq).1.2.2⟩, fun q hq => ⟨⟨(p6 q hq).1.1, by have := (p6 q hq).1.2.1; omega, (p6 q hq).1.2.2⟩, (p6 q hq).2.chg c423 (p6 q hq).1.2.2⟩⟩
  · have hlt : k = vs.length := by simp at hlt; omega
    subst hlt
    exact ⟨s, os', rfl, h4, ⟨hlen, fun j o v ho hv => hnew j o v (by have := (List.getElem?_eq_some_iff.1 hv).1; exact this) ho hv⟩, c4, new⟩
theorem lentExits_any {D : Nat → Prop} {w : World} {l : Sl} {os : List OuC} {vs : List OuV} (hl : Rd ouE w l os) (hv : OusIs D w os vs) (hn : vs.length ≤ 100000) (hn2 : ∀ v ∈ vs, v.stack.length ≤ 100000 ∧ v.back.length ≤ 100000) :
    Calls Tryz.prog fn_hollowaybook_LentExits #[l.val] w fun e w' => ∃ (s : Sl) (os' : List OuC), e = .returned s.val ∧ LentE ouE ou77 w' s os' ∧ OusIs (fun k => ((w.heap.size ≤ k ∧ k < w'.heap.size) ∧ s.blk ≠ some k) ∧ TyB T_int w' k) w' os' vs ∧ Chg No w w' ∧ (∀ k, s.blk = some k → w.heap.size ≤ k ∧ k < w'.heap.size) := by
  refine (hollowaybook_LentExits_lift (K := fun r w' => ∃ (s : Sl) (os' : List OuC), r = s.val ∧ LentE ouE ou77 w' s os' ∧ OusIs (fun k => ((w.heap.size ≤ k ∧ k < w'.heap.size) ∧ s.blk ≠ some k) ∧ TyB T_int w' k) w' os' vs ∧ Chg No w w' ∧ (∀ k, s.blk = some k → w.heap.size ≤ k ∧ k < w'.heap.size)) ?_).mono (by rintro e w' ⟨r, rfl, s', os', rfl, h⟩; exact ⟨s', os', rfl, h⟩)
  unfold hollowaybook_LentExits_sh
  refine (copyExits_any hl hv hn hn2).mono ?_
  rintro e w3 ⟨r, rfl, s4, os', rfl, h4, hov, c3, b4⟩
  refine ⟨s4, rfl, ?_⟩
  intro b5 w6 hb5 hw6
  have hol := hov.1
  have hll := hl.len
  have hvl := hv.1
  refine lent_app (x := ou77) ousOk (by decide) (by omega) h4 c3 b4 hb5 hw6 (by omega) fun s' w' g c cb b => ⟨s', os', rfl, g, ?_, c, fun k hk => (b k hk).1⟩
  have z := cb.size
  refine (hov.chg cb fun k hk => hk.1.2.2).mono fun k hk => ⟨⟨⟨hk.1.1, by have := hk.1.2.1; omega⟩, fun he => ?_⟩, hk.2.chg cb hk.1.2.2⟩
  rcases (b k he).2 with h | h
  · exact hk.1.2.2 h
  · have := hk.1.2.1; omega
theorem staysExits_any {D D' : Nat → Prop} {w : World} {m l : Sl} {os os' : List OuC} {vs : List OuV} (hm : LentE ouE ou77 w m os) (hl : Rd ouE w l os') (ho : OusIs D w os vs) (ho' : OusIs D' w os' vs) : Calls Tryz.prog fn_hollowaybook_StaysExits #[m.val, l.val] w fun e w' => e = .returned (.bool true) ∧ Chg No w w' := by
  refine (hollowaybook_StaysExits_lift (K := fun r w' => r = .bool true ∧ Chg No w w') ?_).mono (by rintro e w' ⟨r, rfl, rfl, h⟩; exact ⟨rfl, h⟩)
  unfold hollowaybook_StaysExits_sh
  refine (sameExits_any hm.rd hl ho ho').mono ?_
  rintro e w4 ⟨rfl, c4⟩
  refine ⟨_, rfl, brB_t ?_⟩
  obtain ⟨g1, g2, g3⟩ := (hm.no c4).mark (n := -77) rfl c4
  refine ⟨g1, g2, fun s6 hs6 => ?_⟩
  obtain ⟨a, i1, i2, i3, n, i4, rfl, i6⟩ := g3 s6 hs6
  exact ⟨a, i1, i2, i3, _, i4, rfl, i6⟩
/-! ### Traces -/
structure TrLent (D : Nat → Prop) (w : World) (t : TrP) (v : TrG) : Prop where
  nums : t.start = v.start ∧ t.slots = v.slots ∧ t.backs = v.backs ∧ t.grow = v.grow ∧ t.growBack = v.growBack ∧ t.last = v.last
  ins : LentE insE in77 w t.ins v.ins
  outs : ∃ os, LentE ouE ou77 w t.outs os ∧ OusIs D w os v.outs
  cells : Lent w t.cells v.cells
  insD : ∀ k, t.ins.blk = some k → D k
  outsD : ∀ k, t.outs.blk = some k → D k
  cellsD : ∀ k, t.cells.blk = some k → D k
theorem TrLent.is {D : Nat → Prop} {w : World} {t : TrP} {v : TrG} (h : TrLent D w t v) : TrIs D w t v := by
  obtain ⟨os, h1, h2⟩ := h.outs
  exact ⟨h.nums, h.ins.rd, ⟨os, h1.rd, h2⟩, h.cells.rd, h.insD, h.outsD, h.cellsD⟩
theorem TrLent.chg {D S : Nat → Prop} {w w' : World} {t : TrP} {v : TrG} (h : TrLent D w t v) (c : Chg S w w') (hS : ∀ k, D k → ¬ S k) : TrLent D w' t v := by
  obtain ⟨os, h1, h2⟩ := h.outs
  exact ⟨h.nums, h.ins.chg c (fun k hk => hS _ (h.insD k hk)), ⟨os, h1.chg c (fun k hk => hS _ (h.outsD k hk)), h2.chg c hS⟩, h.cells.chg c (fun k hk => hS _ (h.cellsD k hk)), h.insD, h.outsD, h.cellsD⟩
theorem TrLent.no {D : Nat → Prop} {w w' : World} {t : TrP} {v : TrG} (h : TrLent D w t v) (c : Chg No w w') : TrLent D w' t v := h.chg c (fun _ _ h => h)
structure SmT (v : TrG) : Prop where
  ins : v.ins.length ≤ 100000
  outs : v.outs.length ≤ 100000
  each : ∀ o ∈ v.outs, o.stack.length ≤ 100000 ∧ o.back.length ≤ 100000
  cells : v.cells.length ≤ 100000
theorem lentTrace_any {D : Nat → Prop} {w : World} (t : TrP) {v : TrG} (ht : TrIs D w t v) (hs : SmT v) : Calls Tryz.prog fn_hollowaybook_LentTrace #[.agg (trP t).toArray] w fun e w' => ∃ t' : TrP, e = .returned (.agg (trP t').toArray) ∧ TrLent (Lb w w') w' t' v ∧ Chg No w w' := by
  refine (hollowaybook_LentTrace_lift (K := fun r w' => ∃ t' : TrP, r = .agg (trP t').toArray ∧ TrLent (Lb w w') w' t' v ∧ Chg No w w') ?_).mono (by rintro e w' ⟨r, rfl, t', rfl, h⟩; exact ⟨t', rfl, h⟩)
  unfold hollowaybook_LentTrace_sh
  intro b10 w11 hb10 hw11 b12 w13 hb12 hw13
  have c11 := al hw11
  have c13 := al hw13
  have z11 : w11.heap.size = w.heap.size + 1 := by rw [hw11]; simp
  have z13 : w13.heap.size = w11.heap.size + 1 := by rw [hw13]; simp
  have o10 : Ob w13 b10 (trP t) T_api_Trace := by
    have : Ob w11 b10 (trP t) T_api_Trace := by rw [hw11, hb10]; exact Ob.new w (trP t) T_api_Trace
    exact this.no c13
  have o12 : Ob w13 b12 (trP ⟨0, 0, 0, 0, 0, nilS, nilS, 0, nilS⟩) T_api_Trace := by rw [hw13, hb12]; exact Ob.new w11 (trP ⟨0, 0, 0, 0, 0, nilS, nilS, 0, nilS⟩) T_api_Trace
  intro w14 hw14
  have c14 := dw hw14
  have k14 := trN (trN c11 c13) c14
  have z14 := c14.size
  have p10 := o10.no c14
  have p12 := o12.no c14
  have hd : ∀ {j : Nat} {u : Value}, (trP t)[j]? = some u → held (fun w' => Chg No w14 w') ⟨b10, j, none⟩ u := fun h => Ob.held (fun w' c => p10.no c) h
  obtain ⟨os, hos, hov⟩ := ht.outs
  refine ⟨fun w' => Chg No w14 w', Chg.refl _ _, t.ins, hd rfl, t.outs, hd rfl, t.cells, hd rfl, ?_⟩
  refine (lentCodes_any (ht.ins.no k14) (by have := hs.ins; omega)).mono ?_
  rintro e w20 ⟨s21, rfl, g21, c20, n21⟩
  have k20 := trN k14 c20
  have z20 := c20.size
  refine ⟨s21, rfl, c20, ?_⟩
  refine (lentExits_any (hos.no k20) (hov.chg k20 (fun _ _ h => h)) hs.outs hs.each).mono ?_
  rintro e w23 ⟨s24, os', rfl, g24, hov', c23, n24⟩
  have k23 := trN k20 c23
  have z23 := c23.size
  refine ⟨s24, rfl, trN c20 c23, ?_⟩
  refine (lentInts_any (ht.cells.no k23) (by have := hs.cells; omega)).mono ?_
  rintro e w26 ⟨s27, rfl, g27, c26, n27⟩
  have k26 := trN k23 c26
  have z26 := c26.size
  refine ⟨s27, rfl, trN (trN c20 c23) c26, ?_⟩
  have c1426 := trN (trN c20 c23) c26
  refine ⟨(p10.no c1426).wr (by simp [trP]), fun w28 hw28 => ?_⟩
  obtain ⟨q10, d28⟩ := (p10.no c1426).up (k := 5) (vs := [s21.val]) (cs' := trP { t with ins := s21 }) (by simp [trP]) rfl hw28
  refine ⟨q10.wr (by simp [trP]), fun w29 hw29 => ?_⟩
  obtain ⟨q10, d29⟩ := q10.up (k := 6) (vs := [s24.val]) (cs' := trP { t with ins := s21, outs := s24 }) (by simp [trP]) rfl hw29
  refine ⟨q10.wr (by simp [trP]), fun w30 hw30 => ?_⟩
  obtain ⟨q10, d30⟩ := q10.up (k := 8) (vs := [s27.val]) (cs' := trP { t with ins := s21, outs := s24, cells := s27 }) (by simp [trP]) rfl hw30
  have d2630 : Chg (fun j => j = b10) w26 w30 := (d28.trans d29 (fun _ _ h => h) (fun _ _ h => h)).trans d30 (fun _ _ h => h) (fun _ _ h => h)
  have r12 := (p12.no c1426).chg d2630 (fun he => by omega)
  refine ⟨_, _, _, _, _, _, _, _, _, q10.cell rfl, q10.cell rfl, q10.cell rfl, q10.cell rfl, q10.cell rfl, q10.cell rfl, q10.cell rfl, q10.cell rfl, q10.cell rfl, r12.wr (by simp [trP]), fun w40 hw40 => ?_⟩
  obtain ⟨r12, d40⟩ := r12.up (k := 0) (vs := trP { t with ins := s21, outs := s24, cells := s27 }) (cs' := trP { t with ins := s21, outs := s24, cells := s27 }) (by simp [trP]) rfl hw40
  have d2640 : Chg (fun j => j = b10 ∨ j = b12) w26 w40 := d2630.trans d40 (fun _ _ h => Or.inl h) (fun _ _ h => Or.inr h)
  have z40 := d2640.size
  have kw40 : Chg No w w40 := k26.trans d2640 (fun _ _ h => h) (fun k hk he => by omega)
  refine ⟨_, _, _, _, _, _, _, _, _, r12.cell rfl, r12.cell rfl, r12.cell rfl, r12.cell rfl, r12.cell rfl, r12.cell rfl, r12.cell rfl, r12.cell rfl, r12.cell rfl, { t with ins := s21, outs := s24, cells := s27 }, rfl, ?_, kw40⟩
  have lbk : ∀ {α : Type} {E : Enc α} {x : α} {u : World} {sl : Sl} {xs : List α}, LentE E x u sl xs → ∀ k, sl.blk = some k → TyB E.t u k := fun h k hk => h.2.ty (by rw [← hk]; unfold Sl.blk Sl.val; cases Sl.ptr _ <;> rfl)
  have m : TrLent (Lb w14 w26) w26 { t with ins := s21, outs := s24, cells := s27 } v := by
    refine ⟨ht.nums, (g21.no c23).no c26, ⟨os', g24.no c26, (hov'.chg c26 (fun _ _ h => h)).mono fun k hk => ⟨?_, Or.inl (hk.2.chg c26 (fun h => h))⟩⟩, g27, fun k hk => ⟨?_, Or.inr (Or.inl (lbk ((g21.no c23).no c26) k hk))⟩, fun k hk => ⟨?_, Or.inr (Or.inr (lbk (g24.no c26) k hk))⟩, fun k hk => ⟨?_, Or.inl (lbk (E := intE) g27 k hk)⟩⟩
    · have := hk.1.1; omega
    · have := n21 k hk; omega
    · have := n24 k hk; omega
    · have := n27 k hk; omega
  have nb : ∀ k, Lb w14 w26 k → ¬ (k = b10 ∨ k = b12) := fun k hk he => by have := hk.1.1; omega
  have m' := m.chg d2640 nb
  have up : ∀ k, Lb w14 w26 k → Lb w w40 k := fun k hk => hk.to (by omega) d2640 (nb k hk)
  exact ⟨m'.nums, m'.ins, by obtain ⟨os, h1, h2⟩ := m'.outs; exact ⟨os, h1, h2.mono up⟩, m'.cells, fun k hk => up k (m'.insD k hk), fun k hk => up k (m'.outsD k hk), fun k hk => up k (m'.cellsD k hk)⟩
theorem staysTrace_any {D D' : Nat → Prop} {w : World} (m t : TrP) {v : TrG} (hm : TrLent D w m v) (ht : TrIs D' w t v) : Calls Tryz.prog fn_hollowaybook_StaysTrace #[.agg (trP m).toArray, .agg (trP t).toArray] w fun e w' => e = .returned (.bool true) ∧ Chg No w w' := by
  refine (hollowaybook_StaysTrace_lift (K := fun r w' => r = .bool true ∧ Chg No w w') ?_).mono (by rintro e w' ⟨r, rfl, rfl, h⟩; exact ⟨rfl, h⟩)
  unfold hollowaybook_StaysTrace_sh
  intro b19 w20 hb19 hw20 b21 w22 hb21 hw22
  have c20 := al hw20
  have c22 := al hw22
  have o19 : Ob w22 b19 (trP m) T_api_Trace := by
    have : Ob w20 b19 (trP m) T_api_Trace := by rw [hw20, hb19]; exact Ob.new w (trP m) T_api_Trace
    exact this.no c22
  have o21 : Ob w22 b21 (trP t) T_api_Trace := by rw [hw22, hb21]; exact Ob.new w20 (trP t) T_api_Trace
  have k22 := trN c20 c22
  have hm22 := hm.no k22
  have ht22 := ht.no k22
  refine ⟨m.ins, o19.cell rfl, t.ins, o21.cell rfl, (staysCodes_any hm22.ins ht22.ins).mono ?_⟩
  rintro e w26 ⟨rfl, c26⟩
  obtain ⟨os, g1, g2⟩ := (hm22.no c26).outs
  obtain ⟨os', g3, g4⟩ := (ht22.no c26).outs
  refine ⟨_, rfl, brB_t ⟨m.outs, (o19.no c26).cell rfl, t.outs, (o21.no c26).cell rfl, (staysExits_any g1 g3 g2 g4).mono ?_⟩⟩
  rintro e w31 ⟨rfl, c31⟩
  have c31' := trN c26 c31
  refine ⟨_, rfl, brB_t ⟨m.cells, (o19.no c31').cell rfl, t.cells, (o21.no c31').cell rfl, (staysInts_any (hm22.no c31').cells (ht22.no c31').cells).mono ?_⟩⟩
  rintro e w36 ⟨rfl, c36⟩
  exact ⟨_, rfl, rfl, trN k22 (trN c31' c36)⟩
end Go.Proofs.YtblmoilneiffgaaGreat

/- The book of several kinds: what a list's copy is, is told apart; where grown lists lie. (Printed from BkG, Book, BookC, then added to.) -/
set_option maxRecDepth 100000
namespace Go.Proofs.YtblmoilneiffgaaGreat
open Go.RowKit

section
variable {α : Type} {P : Program}
structure KH (D : Nat → Prop) (E : Enc α) (T : TypeId) (w : World) (b : Nat) (A Bs : Sl) (ls was : List Sl) (xss : List (List α)) : Prop where
  oA : Ow (slE T) w A ls
  oB : Ow (slE T) w Bs was
  len : ls.length = xss.length
  lenB : was.length = xss.length
  ox : ∀ (i : Nat) (s : Sl) (xs : List α), ls[i]? = some s → xss[i]? = some xs → Ox E w s xs ∧ xs.length ≤ 10000000
  dis : ∀ (i j : Nat) (s t : Sl) (k : Nat), ls[i]? = some s → ls[j]? = some t → s.blk = some k → t.blk = some k → i = j
  dA : ∀ k, A.blk = some k → D k ∧ k ≠ b ∧ Bs.blk ≠ some k ∧ ¬ blksOf ls k ∧ ¬ blksOf was k
  dB : ∀ k, Bs.blk = some k → D k ∧ k ≠ b ∧ ¬ blksOf ls k ∧ ¬ blksOf was k
  dl : ∀ k, blksOf ls k → D k ∧ k ≠ b ∧ k < w.heap.size
  dw : ∀ k, blksOf was k → D k ∧ k ≠ b ∧ k < w.heap.size ∧ ¬ blksOf ls k
theorem addx_core {D : Nat → Prop} {E : Enc α} {T TT TB : TypeId} {fC : FuncId} (okk : EncOk P (slE T) TT)
    {w : World} {b o : Nat} {cs : List Value} {A Bs : Sl} {ls was : List Sl} {xss : List (List α)} (ho : Ob w b cs TB) (hcA : cs[o]? = some A.val) (hcB : cs[o + 1]? = some Bs.val) (h : KH D E T w b A Bs ls was xss) (hD : ∀ k, w.heap.size ≤ k → D k)
    {l : Sl} {xs : List α} (hx : Ox E w l xs) (hxs : xs.length ≤ 10000000) (hl : ∀ k, l.blk = some k → D k ∧ k ≠ b ∧ A.blk ≠ some k ∧ Bs.blk ≠ some k ∧ ¬ blksOf ls k ∧ ¬ blksOf was k) {G : Sl → World → World → Prop} (hC : ∀ w10, Chg (fun k => k = b ∨ A.blk = some k) w w10 → Calls P fC #[l.val] w10 fun e w' => ∃ s' : Sl, e = .returned s'.val ∧ G s' w10 w' ∧ (∀ k, s'.blk = some k → w10.heap.size ≤ k ∧ k < w'.heap.size) ∧ Chg No w10 w') {K : Value → World → Prop}
    (kfull : 250 ≤ ls.length → K (.tuple #[]) w)
    (k : ls.length < 250 → ∀ (A' B' c' : Sl) (w10 w14 w' : World), Ob w' b ((cs.set o A'.val).set (o + 1) B'.val) TB → KH D E T w' b A' B' (ls ++ [l]) (was ++ [c']) (xss ++ [xs]) → G c' w10 w14 → Chg (fun k => k = b ∨ A.blk = some k) w w10 → Chg No w10 w14 → Chg (fun k => k = b ∨ Bs.blk = some k) w14 w' → (∀ k, c'.blk = some k → w10.heap.size ≤ k ∧ k < w14.heap.size) → (∀ k, A'.blk = some k → k < w10.heap.size) → (∀ k, A'.blk = some k → A.blk = some k ∨ w.heap.size ≤ k) → (∀ k, B'.blk = some k → Bs.blk = some k ∨ w14.heap.size ≤ k) → Chg (fun k => k = b ∨ A.blk = some k ∨ Bs.blk = some k) w w' → K (.tuple #[]) w') :
    ∃ s3 : Sl, w.cell? ⟨b, o, none⟩ = some (s3.val) ∧
      brB (decide ((s3.len : Int) < (250 : Int)))
      (∃ s4 : Sl, w.cell? ⟨b, o, none⟩ = some (s4.val) ∧
      ∀ (b5 : Nat) (w6 : World), b5 = w.heap.size → w6 = World.alloc w (.cells #[l.val] T) →
      ∃ s7 : Sl, ∃ w8 : World, (Builtin.append_ #[TT, TT] TT #[s4.val, .slice (some ⟨b5, 0, none⟩) 1 1]).run P w6 = .ok (s7.val) w8 ∧
      wrOk w8 ⟨b, o, none⟩ 1 ∧ ∀ w9 : World, w9 = stW w8 ⟨b, o, none⟩ 0 [s7.val] →
      ∀ w10 : World, w10 = World.drew w9 →
      ∃ S11 : World → Prop, S11 w10 ∧
      ∃ s12 : Sl, held S11 ⟨b, o + 1, none⟩ (s12.val) ∧
      Calls P fC #[l.val] w10 fun e13 w14 => ∃ s15 : Sl, e13 = .returned (s15.val) ∧
      S11 w14 ∧
      ∀ (b16 : Nat) (w17 : World), b16 = w14.heap.size → w17 = World.alloc w14 (.cells #[s15.val] T) →
      S11 w17 ∧
      ∃ s18 : Sl, ∃ w19 : World, (Builtin.append_ #[TT, TT] TT #[s12.val, .slice (some ⟨b16, 0, none⟩) 1 1]).run P w17 = .ok (s18.val) w19 ∧
      S11 w19 ∧
      wrOk w19 ⟨b, o + 1, none⟩ 1 ∧ ∀ w20 : World, w20 = stW w19 ⟨b, o + 1, none⟩ 0 [s18.val] →
      K (.tuple #[]) w20)
      (K (.tuple #[]) w) := by
  have hlen := h.oA.rd.len
  have oLt : o < cs.length := (List.getElem?_eq_some_iff.1 hcA).1
  have oLt1 : o + 1 < cs.length := (List.getElem?_eq_some_iff.1 hcB).1
  refine ⟨A, ho.cell hcA, brB_of (fun hlt => ?_) (fun hlt => kfull (by simp at hlt; omega))⟩
  have hlt : ls.length < 250 := by simp at hlt; omega
  have hll := h.len
  have hlB := h.lenB
  refine ⟨A, ho.cell hcA, ?_⟩
  intro b5 w6 hb5 hw6
  have c6 : Chg No w w6 := by rw [hw6]; exact Chg.alloc _ _ _
  have hlit : Ow (slE T) w6 ⟨some ⟨b5, 0, none⟩, 1, 1⟩ [l] := by
    rw [hw6, hb5]
    exact Ow.lit (E := slE T) w [l] ((slE T).e l) (by rw [fl_one]) (by show 1 ≤ maxLen; unfold maxLen; omega)
  refine app_ok okk rfl rfl (h.oA.no c6) hlit.rd (by show (ls.length + 1) * 24 ≤ _; omega) (by show ls.length + 1 ≤ _; unfold maxLen; omega) ?_
  intro A' w8 hA' c8 hbkA
  have bLt := ho.lt
  have s6 := c6.size
  have s8 := c8.size
  have o8 : Ob w8 b cs TB := (ho.no c6).chg c8 (fun he => (h.dA b he).2.1 rfl)
  refine ⟨o8.wr (by omega), ?_⟩
  intro w9 hw9
  have o9 : Ob w9 b (cs.set o A'.val) TB := by
    have := Ob.st (vs := [A'.val]) (k := o) (i := 0) o8
    rw [hw9]; exact this
  have c9 : Chg (fun k => k = b) w8 w9 := by rw [hw9]; exact Chg.st (S := fun k => k = b) rfl
  intro w10 hw10
  have c10 : Chg No w9 w10 := by rw [hw10]; exact Chg.drew _ _
  have o10 := o9.no c10
  have s9 := c9.size
  have s10 := c10.size
  have cB1 : (cs.set o A'.val)[o + 1]? = some Bs.val := by rw [List.getElem?_set_ne (by omega)]; exact hcB
  -- from w to w10: A's block and the book's own
  have cw10 : Chg (fun k => k = b ∨ A.blk = some k) w w10 := ((c6.trans c8 (U := fun k => k = b ∨ A.blk = some k) (fun _ _ h => h.elim) (fun _ _ h => Or.inr h)).trans c9 (fun _ _ h => h) (fun _ _ h => Or.inl h)).trans c10 (fun _ _ h => h) (fun _ _ h => h.elim)
  have nA' : ∀ k, A'.blk = some k → A.blk = some k ∨ k = w6.heap.size := fun k hk => by
    rcases hbkA with hh | hh
    · exact Or.inl (hh ▸ hk)
    · exact Or.inr (Option.some.inj (hh.symm.trans hk)).symm
  have lOld : ∀ k, l.blk = some k → k < w.heap.size := hx.lt
  have _l10 : Ox E w10 l xs := hx.chg cw10 (fun k hk he => by rcases he with he | he; exact (hl k hk).2.1 he; exact (hl k hk).2.2.1 he)
  refine ⟨fun w' => Ob w' b (cs.set o A'.val) TB, o10, Bs, fun w' hw' => hw'.cell cB1, ?_⟩
  refine (hC w10 cw10).mono ?_
  rintro e w14 ⟨s15, rfl, hG, f15', c14⟩
  refine ⟨s15, rfl, o10.no c14, ?_⟩
  intro b16 w17 hb16 hw17
  have c17 : Chg No w14 w17 := by rw [hw17]; exact Chg.alloc _ _ _
  have s14 := c14.size
  have s17 := c17.size
  have hlit2 : Ow (slE T) w17 ⟨some ⟨b16, 0, none⟩, 1, 1⟩ [s15] := by
    rw [hw17, hb16]
    exact Ow.lit (E := slE T) w14 [s15] ((slE T).e s15) (by rw [fl_one]) (by show 1 ≤ maxLen; unfold maxLen; omega)
  have cw17 : Chg (fun k => k = b ∨ A.blk = some k) w w17 := (cw10.trans c14 (fun _ _ h => h) (fun _ _ h => h.elim)).trans c17 (fun _ _ h => h) (fun _ _ h => h.elim)
  have hB17 : Ow (slE T) w17 Bs was := h.oB.chg cw17 (fun k hk he => by rcases he with he | he; exact (h.dB k hk).2.1 he; exact (h.dA k he).2.2.1 hk)
  refine ⟨(o10.no c14).no c17, ?_⟩
  refine app_ok okk rfl rfl hB17 hlit2.rd (by show (was.length + 1) * 24 ≤ _; omega) (by show was.length + 1 ≤ _; unfold maxLen; omega) ?_
  intro B' w19 hB' c19 hbkB
  have s19 := c19.size
  have o19 : Ob w19 b (cs.set o A'.val) TB := ((o10.no c14).no c17).chg c19 (fun he => (h.dB b he).2.1 rfl)
  refine ⟨o19, o19.wr (by rw [List.length_set]; omega), ?_⟩
  intro w20 hw20
  have o20 : Ob w20 b ((cs.set o A'.val).set (o + 1) B'.val) TB := by
    have := Ob.st (vs := [B'.val]) (k := o + 1) (i := 0) o19
    rw [hw20]; exact this
  have c20 : Chg (fun k => k = b) w19 w20 := by rw [hw20]; exact Chg.st (S := fun k => k = b) rfl
  have s20 := c20.size
  have nB' : ∀ k, B'.blk = some k → Bs.blk = some k ∨ k = w17.heap.size := fun k hk => by
    rcases hbkB with hh | hh
    · exact Or.inl (hh ▸ hk)
    · exact Or.inr (Option.some.inj (hh.symm.trans hk)).symm
  have cw20 : Chg (fun k => k = b ∨ A.blk = some k ∨ Bs.blk = some k) w w20 := (cw17.trans c19 (U := fun k => k = b ∨ A.blk = some k ∨ Bs.blk = some k) (fun _ _ h => by rcases h with h | h; exact Or.inl h; exact Or.inr (Or.inl h)) (fun _ _ h => Or.inr (Or.inr h))).trans c20 (fun _ _ h => h) (fun _ _ h => Or.inl h)
  have c1020 : Chg (fun k => k = b ∨ Bs.blk = some k) w10 w20 := ((c14.trans c17 (U := fun k => k = b ∨ Bs.blk = some k) (fun _ _ h => h.elim) (fun _ _ h => h.elim)).trans c19 (fun _ _ h => h) (fun _ _ h => Or.inr h)).trans c20 (fun _ _ h => h) (fun _ _ h => Or.inl h)
  have bOld : ∀ k, Bs.blk = some k → k < w.heap.size := fun k hk => h.oB.lt hk
  have aOld : ∀ k, A.blk = some k → k < w.heap.size := fun k hk => h.oA.lt hk
  have A'20 : Ow (slE T) w20 A' (ls ++ [l]) := by
    refine (((hA'.chg c9 (fun k hk he => ?_)).no c10).chg c1020 (fun k hk he => ?_))
    · rcases nA' k hk with h5 | h5
      · exact (h.dA k h5).2.1 he
      · omega
    · rcases nA' k hk with h5 | h5
      · rcases he with he | he
        · exact (h.dA k h5).2.1 he
        · exact (h.dA k h5).2.2.1 he
      · rcases he with he | he
        · omega
        · have := bOld k he; omega
  have lsK : ∀ k, blksOf (ls ++ [l]) k → D k ∧ k ≠ b ∧ k < w.heap.size ∧ A.blk ≠ some k ∧ Bs.blk ≠ some k ∧ ¬ blksOf was k := by
    intro k hk
    rcases blksOf_app hk with h5 | h5
    · exact ⟨(h.dl k h5).1, (h.dl k h5).2.1, (h.dl k h5).2.2, fun e => (h.dA k e).2.2.2.1 h5, fun e => (h.dB k e).2.2.1 h5, fun e => (h.dw k e).2.2.2 h5⟩
    · exact ⟨(hl k h5).1, (hl k h5).2.1, lOld k h5, (hl k h5).2.2.1, (hl k h5).2.2.2.1, (hl k h5).2.2.2.2.2⟩
  have wasK : ∀ k, blksOf (was ++ [s15]) k → (blksOf was k ∧ k < w.heap.size) ∨ (w10.heap.size ≤ k ∧ k < w14.heap.size) := by
    intro k hk
    rcases blksOf_app hk with h5 | h5
    · exact Or.inl ⟨h5, (h.dw k h5).2.2.1⟩
    · exact Or.inr (f15' k h5)
  have c1420 : Chg (fun k => k = b ∨ Bs.blk = some k) w14 w20 := (c17.trans c19 (U := fun k => k = b ∨ Bs.blk = some k) (fun _ _ h => h.elim) (fun _ _ h => Or.inr h)).trans c20 (fun _ _ h => h) (fun _ _ h => Or.inl h)
  refine k hlt A' B' s15 w10 w14 w20 o20 ⟨A'20, ?_, by simp [hll], by simp [hlB], fun i s ys hs hy => ?_, fun i j s t m hs ht hm hn => ?_, fun m hm => ?_, fun m hm => ?_, fun m hm => ⟨(lsK m hm).1, (lsK m hm).2.1, by have := (lsK m hm).2.2.1; omega⟩, fun m hm => ?_⟩ hG cw10 c14 c1420 f15' (fun k hk => by have := hA'.lt hk; omega) (fun k hk => (nA' k hk).imp (fun h => h) (fun h => by omega)) (fun k hk => (nB' k hk).imp (fun h => h) (fun h => by omega)) cw20
  · refine hB'.chg c20 (fun m hm he => ?_)
    rcases nB' m hm with h5 | h5
    · exact (h.dB m h5).2.1 he
    · omega
  · rcases app_at hs with ⟨h5, h6⟩ | ⟨h5, rfl⟩
    · rw [List.getElem?_append_left (by omega)] at hy
      obtain ⟨h7, h8⟩ := h.ox i s ys h6 hy
      refine ⟨h7.chg cw20 (fun m hm he => ?_), h8⟩
      have h9 : blksOf ls m := ⟨i, s, h6, hm⟩
      rcases he with he | he | he
      · exact (h.dl m h9).2.1 he
      · exact (h.dA m he).2.2.2.1 h9
      · exact (h.dB m he).2.2.1 h9
    · rcases app_at hy with ⟨h6, _⟩ | ⟨_, rfl⟩
      · omega
      · refine ⟨hx.chg cw20 (fun m hm he => ?_), hxs⟩
        have h9 := hl m hm
        rcases he with he | he | he
        · exact h9.2.1 he
        · exact h9.2.2.1 he
        · exact h9.2.2.2.1 he
  · rcases app_at hs with ⟨h5, h6⟩ | ⟨h5, rfl⟩
    · rcases app_at ht with ⟨h7, h8⟩ | ⟨h7, rfl⟩
      · exact h.dis i j s t m h6 h8 hm hn
      · exact absurd ⟨i, s, h6, hm⟩ (hl m hn).2.2.2.2.1
    · rcases app_at ht with ⟨h7, h8⟩ | ⟨h7, rfl⟩
      · exact absurd ⟨j, t, h8, hn⟩ (hl m hm).2.2.2.2.1
      · omega
  · rcases nA' m hm with h5 | h5
    · refine ⟨(h.dA m h5).1, (h.dA m h5).2.1, fun e => ?_, fun e => (lsK m e).2.2.2.1 h5, fun e => ?_⟩
      · rcases nB' m e with h6 | h6
        · exact (h.dA m h5).2.2.1 h6
        · have := aOld m h5; omega
      · rcases wasK m e with h6 | h6
        · exact (h.dA m h5).2.2.2.2 h6.1
        · have := aOld m h5; omega
    · have hAl := hA'.lt hm
      refine ⟨hD m (by omega), by omega, fun e => ?_, fun e => by have := (lsK m e).2.2.1; omega, fun e => ?_⟩
      · rcases nB' m e with h6 | h6
        · have := bOld m h6; omega
        · omega
      · rcases wasK m e with h6 | h6
        · omega
        · omega
  · rcases nB' m hm with h5 | h5
    · refine ⟨(h.dB m h5).1, (h.dB m h5).2.1, fun e => (lsK m e).2.2.2.2.1 h5, fun e => ?_⟩
      rcases wasK m e with h6 | h6
      · exact (h.dB m h5).2.2.2 h6.1
      · have := bOld m h5; omega
    · refine ⟨hD m (by omega), by omega, fun e => by have := (lsK m e).2.2.1; omega, fun e => ?_⟩
      rcases wasK m e with h6 | h6 <;> omega
  · rcases wasK m hm with h6 | h6
    · exact ⟨(h.dw m h6.1).1, (h.dw m h6.1).2.1, by omega, fun e => (lsK m e).2.2.2.2.2 h6.1⟩
    · exact ⟨hD m (by omega), by omega, by omega, fun e => by have := (lsK m e).2.2.1; omega⟩
theorem growx_core {E : Enc α} {T TT : TypeId} {fM : FuncId} {mk : Int → Int → α} (ok : EncOk P E T) (okk : EncOk P (slE T) TT) (hby : E.bytes ≤ 1000)
    {ls : List Sl} (hM : ls = [] ∨ MarkOk P E mk fM) {w : World} {b o : Nat} {A : Sl} (hA : w.cell? ⟨b, o, none⟩ = some A.val) (rA : Rd (slE T) w A ls) (hsm : ls.length ≤ 100000)
    (h1 : ∀ (i : Nat) (s : Sl), ls[i]? = some s → Ox E w s (marks (mk i) 0 s.len) ∧ s.len ≤ 10000000)
    (dis : ∀ (i j : Nat) (s t : Sl) (k : Nat), ls[i]? = some s → ls[j]? = some t → s.blk = some k → t.blk = some k → i = j) (hb : ¬ blksOf ls b) (hAb : ∀ k, A.blk = some k → ¬ blksOf ls k) {K : Value → World → Prop}
    (k : ∀ (out : Sl) (outs : List Sl) (w' : World), Rd (slE T) w' out outs → outs.length = ls.length → (∀ (i : Nat) (t : Sl), outs[i]? = some t → t.len ≤ 20000000 ∧ Rd E w' t (marks (mk i) 0 t.len)) → (∀ k, out.blk = some k → w.heap.size ≤ k) → (∀ (i : Nat) (t : Sl) (k : Nat), outs[i]? = some t → t.blk = some k → blksOf ls k ∨ w.heap.size ≤ k) → (∀ (i : Nat) (s : Sl), ls[i]? = some s → Rd E w' s (marks (mk i) 0 s.len)) → Chg (blksOf ls) w w' → K out.val w') :
    ∃ (I1 : Sl → Int → World → Prop) (μ1 : Sl → Int → World → Nat), I1 (⟨none, 0, 0⟩ : Sl) (0 : Int) w ∧ ∀ (out16 : Sl) (i3 : Int) (w2 : World), I1 out16 i3 w2 →
      ∃ s4 : Sl, w2.cell? ⟨b, o, none⟩ = some (s4.val) ∧
      brB (decide (i3 < (s4.len : Int)))
      (∃ s5 : Sl, w2.cell? ⟨b, o, none⟩ = some (s5.val) ∧
      ∃ a6 : Addr, s5.ptr = some a6 ∧ 0 ≤ i3 ∧ i3 < (s5.len : Int) ∧
      ∃ s7 : Sl, w2.cell? (Addr.add a6 (Int.toNat i3 * 1)) = some (s7.val) ∧
      ∃ (I2 : Sl → Int → World → Prop) (μ2 : Sl → Int → World → Nat), I2 s7 (0 : Int) w2 ∧ ∀ (l10 : Sl) (n9 : Int) (w8 : World), I2 l10 n9 w8 →
      brB (decide (n9 < (12 : Int)))
      (Calls P fM #[.int .i64 i3, .int .i64 (l10.len : Int), .int .i64 (1 : Int)] w8 fun e11 w12 => ∃ s13 : Sl, e11 = .returned (s13.val) ∧
      ∃ s14 : Sl, ∃ w15 : World, (Builtin.append_ #[T, T] T #[l10.val, s13.val]).run P w12 = .ok (s14.val) w15 ∧
      I2 s14 (wr (n9 + (1 : Int))) w15 ∧ μ2 s14 (wr (n9 + (1 : Int))) w15 < μ2 l10 n9 w8)
      (Calls P fM #[.int .i64 i3, .int .i64 (l10.len : Int), .int .i64 (60 : Int)] w8 fun e17 w18 => ∃ s19 : Sl, e17 = .returned (s19.val) ∧
      ∃ s20 : Sl, ∃ w21 : World, (Builtin.append_ #[T, T] T #[l10.val, s19.val]).run P w18 = .ok (s20.val) w21 ∧
      ∀ (b22 : Nat) (w23 : World), b22 = w21.heap.size → w23 = World.alloc w21 (.cells #[s20.val] T) →
      ∃ s24 : Sl, ∃ w25 : World, (Builtin.append_ #[TT, TT] TT #[out16.val, .slice (some ⟨b22, 0, none⟩) 1 1]).run P w23 = .ok (s24.val) w25 ∧
      I1 s24 (wr (i3 + (1 : Int))) w25 ∧ μ1 s24 (wr (i3 + (1 : Int))) w25 < μ1 out16 i3 w2))
      (K (out16.val) w2) := by
  have hlen := rA.len
  have old : ∀ k, blksOf ls k → k < w.heap.size := by
    rintro k ⟨i, t, ht, hk⟩; exact (h1 i t ht).1.lt k hk
  refine ⟨fun out n w' => ∃ (j : Nat) (outs : List Sl), n = j ∧ j ≤ ls.length ∧ outs.length = j ∧ Ow (slE T) w' out outs ∧ (∀ k, out.blk = some k → w.heap.size ≤ k) ∧
      (∀ (i : Nat) (t : Sl), outs[i]? = some t → t.len ≤ 20000000 ∧ Rd E w' t (marks (mk i) 0 t.len) ∧ (∀ k, t.blk = some k → k < w'.heap.size ∧ out.blk ≠ some k ∧ ((∃ s, ls[i]? = some s ∧ s.blk = some k) ∨ w.heap.size ≤ k))) ∧
      (∀ (i : Nat) (s : Sl), i < j → ls[i]? = some s → Rd E w' s (marks (mk i) 0 s.len)) ∧ (∀ (i : Nat) (s : Sl), j ≤ i → ls[i]? = some s → Ox E w' s (marks (mk i) 0 s.len)) ∧ Chg (blksOf ls) w w', fun _ n _ => ls.length - n.toNat,
    ⟨0, [], rfl, Nat.zero_le _, rfl, Ow.nil _ _, (fun k hk => by cases hk), (fun i t hi => by simp at hi), fun i s h => by omega, fun i s _ hs => (h1 i s hs).1, Chg.refl _ _⟩, ?_⟩
  rintro out n w2 ⟨j, outs, rfl, hj, hol, ho, hob, hos, hdone, htodo, hc⟩
  have rA2 : ∀ w', Chg (blksOf ls) w w' → Rd (slE T) w' A ls := fun w' hw' => rA.chg hw' hAb
  have cA2 : ∀ w', Chg (blksOf ls) w w' → w'.cell? ⟨b, o, none⟩ = some A.val := fun w' hw' => hw'.cell hA hb
  refine ⟨A, cA2 w2 hc, brB_of (fun hlt => ?_) (fun hlt => ?_)⟩
  · have hlt : j < ls.length := by simp at hlt; omega
    have hM' : MarkOk P E mk fM := hM.resolve_left fun e => by rw [e] at hlt; simp at hlt
    obtain ⟨s, hs⟩ : ∃ s, ls[j]? = some s := ⟨_, List.getElem?_eq_getElem hlt⟩
    obtain ⟨a, ha, h0, hlt', hcell⟩ := sl_cell (rA2 w2 hc) hs
    have hsmall := (h1 j s hs).2
    have s2 := hc.size
    have bs : ∀ k, s.blk = some k → blksOf ls k := fun k hk => ⟨j, s, hs, hk⟩
    refine ⟨A, cA2 w2 hc, a, ha, h0, hlt', s, hcell, ?_⟩
    -- what holds while list j grows: l reads d marks more; s still reads; only s's block and new ones are touched
    have hI : ∀ (d : Nat) (l : Sl) (w8 : World), (Ox E w8 l (marks (mk j) 0 (s.len + d)) ∧ Rd E w8 s (marks (mk j) 0 s.len) ∧ (l.blk = s.blk ∧ l.ptr = s.ptr ∧ l.cap = s.cap ∨ ∀ k, l.blk = some k → w2.heap.size ≤ k) ∧ Chg (fun k => s.blk = some k) w2 w8) → s.len + d ≤ 15000000 →
        ∀ (m : Nat), m ≤ 60 → 0 < m → ∀ {G : Sl → World → Prop}, (∀ (s14 : Sl) (w15 : World), (Ox E w15 s14 (marks (mk j) 0 (s.len + (d + m))) ∧ Rd E w15 s (marks (mk j) 0 s.len) ∧ (s14.blk = s.blk ∧ s14.ptr = s.ptr ∧ s14.cap = s.cap ∨ ∀ k, s14.blk = some k → w2.heap.size ≤ k) ∧ Chg (fun k => s.blk = some k) w2 w15) → G s14 w15) →
        Calls P fM #[.int .i64 j, .int .i64 (l.len : Int), .int .i64 (m : Int)] w8 fun e11 w12 => ∃ s13 : Sl, e11 = .returned (s13.val) ∧ ∃ s14 : Sl, ∃ w15 : World, (Builtin.append_ #[T, T] T #[l.val, s13.val]).run P w12 = .ok (s14.val) w15 ∧ G s14 w15 := by
      rintro d l w8 ⟨hx, hrs, hbl, hch⟩ hd m hm hm0 G hG
      have hll : l.len = s.len + d := by rw [hx.rd.len, marks_len]
      rw [hll]
      refine (hM' j (s.len + d) m w8 (by omega) (by omega)).mono ?_
      rintro e w12 ⟨s13, rfl, h13, c12, f13⟩
      refine ⟨s13, rfl, ?_⟩
      have hml := marks_len (mk j) 0 (s.len + d)
      have hml2 := marks_len (mk j) (s.len + d) m
      obtain ⟨y, hy⟩ : ∃ y, (marks (mk j) (s.len + d) m)[0]? = some y := ⟨_, List.getElem?_eq_getElem (by omega)⟩
      obtain ⟨a13, ha13, _⟩ := h13.rd.at hy
      have s8 := hch.size
      have s12 := c12.size
      refine appk_ok ok rfl rfl (hx.no c12) h13.rd ha13 (fun _ he => by rw [he] at hml2; simp at hml2; omega) (by
        rw [hml, hml2]
        have : (s.len + d + m) * E.bytes ≤ 20000000 * 1000 := Nat.mul_le_mul (by omega) hby
        omega) (by rw [hml, hml2]; unfold maxLen; omega) ?_
      intro s14 w15 h14 c15 _ hroom hkeep hnew
      rw [marks_app, Nat.add_assoc] at h14
      rw [hml, hml2] at hroom hnew
      refine hG s14 w15 ⟨h14, ?_, ?_, ?_⟩
      · rcases hbl with ⟨e1, e2, e3⟩ | e1
        · have h9 := hkeep.take (n := s.len) (by rw [hml]; omega)
          have e9 : (⟨l.ptr, s.len, l.cap⟩ : Sl) = s := by rw [e2, e3]
          rw [e9, ← marks_app, List.take_left' (marks_len _ _ _)] at h9
          exact h9
        · refine (hrs.no c12).chg c15 (fun k hk he => ?_)
          have := e1 k he; have := old k (bs k hk); omega
      · by_cases hr : s.len + d + m ≤ l.cap
        · obtain ⟨e4, e5⟩ := hroom hr
          rcases hbl with ⟨e1, e2, e3⟩ | e1
          · exact Or.inl ⟨by have : s14.blk = l.blk := by { unfold Sl.blk Sl.val; rw [e4]; cases l.ptr <;> rfl }
                             rw [this, e1], e4.trans e2, e5.trans e3⟩
          · right; intro k hk
            refine e1 k ?_
            rw [← hk]; unfold Sl.blk Sl.val; rw [e4]; cases l.ptr <;> rfl
        · right; intro k hk; have := hnew (by omega) k hk; omega
      · refine (hch.trans c12 (U := fun k => s.blk = some k) (fun _ _ h => h) (fun _ _ h => h.elim)).trans c15 (fun _ _ h => h) (fun k hk he => ?_)
        rcases hbl with ⟨e1, _, _⟩ | e1
        · rw [e1] at he; exact he
        · have := e1 k he; omega
    refine ⟨fun l n w' => ∃ d : Nat, n = d ∧ d ≤ 12 ∧ (Ox E w' l (marks (mk j) 0 (s.len + d)) ∧ Rd E w' s (marks (mk j) 0 s.len) ∧ (l.blk = s.blk ∧ l.ptr = s.ptr ∧ l.cap = s.cap ∨ ∀ k, l.blk = some k → w2.heap.size ≤ k) ∧ Chg (fun k => s.blk = some k) w2 w'), fun _ n _ => 12 - n.toNat,
      ⟨0, rfl, by omega, htodo j s (Nat.le_refl _) hs, (htodo j s (Nat.le_refl _) hs).rd, Or.inl ⟨rfl, rfl, rfl⟩, Chg.refl _ _⟩, ?_⟩
    rintro l n w8 ⟨d, rfl, hd, hinv⟩
    refine brB_of (fun hlt2 => ?_) (fun hlt2 => ?_)
    · have hlt2 : d < 12 := by simp at hlt2; omega
      refine hI d l w8 hinv (by omega) 1 (by omega) (by omega) fun s14 w15 h => ?_
      rw [wr_of (by omega) (by omega)]
      exact ⟨⟨d + 1, by omega, by omega, h⟩, by show 12 - Int.toNat ((d : Int) + 1) < 12 - Int.toNat (d : Int); omega⟩
    · have hlt2 : d = 12 := by simp at hlt2; omega
      subst hlt2
      refine hI 12 l w8 hinv (by omega) 60 (by omega) (by omega) fun s20 w21 h => ?_
      obtain ⟨hx, hrs, hbl, hch⟩ := h
      intro b22 w23 hb22 hw23
      have c23 : Chg No w21 w23 := by rw [hw23]; exact Chg.alloc _ _ _
      have hlit : Ow (slE T) w23 ⟨some ⟨b22, 0, none⟩, 1, 1⟩ [s20] := by
        rw [hw23, hb22]
        exact Ow.lit (E := slE T) w21 [s20] ((slE T).e s20) (by rw [fl_one]) (by show 1 ≤ maxLen; unfold maxLen; omega)
      have s21 := hch.size
      have s23 := c23.size
      have ho21 : Ow (slE T) w21 out outs := ho.chg hch (fun k hk he => by have := hob k hk; have := old k (bs k he); omega)
      refine app_ok okk rfl rfl (ho21.no c23) hlit.rd (by rw [hol]; show (j + 1) * 24 ≤ _; omega) (by rw [hol]; show j + 1 ≤ _; unfold maxLen; omega) ?_
      intro s24 w25 h24 c25 hbk
      have s25 := c25.size
      have hl20 : s20.len = s.len + (12 + 60) := by rw [hx.rd.len, marks_len]
      have b20 : ∀ k, s20.blk = some k → k < w21.heap.size ∧ out.blk ≠ some k ∧ ((∃ s, ls[j]? = some s ∧ s.blk = some k) ∨ w.heap.size ≤ k) := by
        intro k hk
        refine ⟨hx.lt k hk, fun he => ?_, ?_⟩
        · have h7 := hob k he
          have h8 := ho.lt he
          rcases hbl with ⟨e1, _, _⟩ | e1
          · have := old k (bs k (e1 ▸ hk)); omega
          · have := e1 k hk; omega
        · rcases hbl with ⟨e1, _, _⟩ | e1
          · exact Or.inl ⟨s, hs, e1 ▸ hk⟩
          · exact Or.inr (by have := e1 k hk; omega)
      have hb24 : ∀ k, k < w23.heap.size → out.blk ≠ some k → s24.blk ≠ some k := by
        intro k hk hne he
        rcases hbk with hh | hh
        · exact hne (hh ▸ he)
        · have := Option.some.inj (hh.symm.trans he); omega
      rw [wr_of (by omega) (by omega)]
      refine ⟨⟨j + 1, outs ++ [s20], by omega, by omega, by rw [List.length_append, hol]; rfl, h24, fun k hk => ?_, fun i t hi => ?_, fun i t hi ht => ?_, fun i t hi ht => ?_, ?_⟩, by show ls.length - Int.toNat ((j : Int) + 1) < ls.length - Int.toNat (j : Int); omega⟩
      · rcases hbk with hh | hh
        · exact hob k (hh ▸ hk)
        · have := Option.some.inj (hh.symm.trans hk); omega
      · by_cases hij : i < j
        · rw [List.getElem?_append_left (by omega)] at hi
          obtain ⟨h5, h6, h7⟩ := hos i t hi
          refine ⟨h5, ((h6.chg hch (fun k hk he => ?_)).no c23).chg c25 (fun k hk he => (h7 k hk).2.1 he), fun k hk => ⟨by have := (h7 k hk).1; omega, hb24 k (by have := (h7 k hk).1; omega) (h7 k hk).2.1, (h7 k hk).2.2⟩⟩
          rcases (h7 k hk).2.2 with ⟨s', hs', hk'⟩ | h9
          · have := dis i j s' s k hs' hs hk' he; omega
          · have := old k (bs k he); omega
        · have hi2 : i = j := by
            have := (List.getElem?_eq_some_iff.1 hi).1
            rw [List.length_append, hol] at this; simp at this; omega
          subst hi2
          rw [List.getElem?_append_right (by omega), hol, Nat.sub_self] at hi
          cases hi
          refine ⟨by omega, ?_, fun k hk => ⟨by have := (b20 k hk).1; omega, hb24 k (by have := (b20 k hk).1; omega) (b20 k hk).2.1, (b20 k hk).2.2⟩⟩
          rw [hl20]
          exact (hx.rd.no c23).chg c25 (fun k hk he => (b20 k hk).2.1 he)
      · have base : Rd E w21 t (marks (mk i) 0 t.len) := by
          rcases Nat.lt_succ_iff_lt_or_eq.1 hi with hh | rfl
          · refine (hdone i t hh ht).chg hch (fun k hk he => ?_)
            have := dis i j t s k ht hs hk he; omega
          · rw [hs] at ht; cases ht; exact hrs
        exact (base.no c23).chg c25 (fun k hk he => by have := hob k he; have := old k ⟨i, t, ht, hk⟩; omega)
      · have base : Ox E w21 t (marks (mk i) 0 t.len) := by
          refine (htodo i t (by omega) ht).chg hch (fun k hk he => ?_)
          have := dis i j t s k ht hs hk he; omega
        exact (base.no c23).chg c25 (fun k hk he => by have := hob k he; have := old k ⟨i, t, ht, hk⟩; omega)
      · have d1 : Chg (blksOf ls) w w21 := hc.trans hch (fun _ _ h => h) (fun k _ hk => bs k hk)
        have d2 : Chg (blksOf ls) w w23 := d1.trans c23 (fun _ _ h => h) (fun _ _ h => h.elim)
        exact d2.trans c25 (fun _ _ h => h) (fun k hk he => by have := hob k he; omega)
  · have hlt : j = ls.length := by simp at hlt; omega
    subst hlt
    exact k out outs w2 ho.rd hol (fun i t hi => ⟨(hos i t hi).1, (hos i t hi).2.1⟩) hob (fun i t q hi hq => ((hos i t hi).2.2 q hq).2.2.imp (fun ⟨s, hs, hk⟩ => ⟨i, s, hs, hk⟩) (fun h => h)) (fun i s hs => hdone i s (List.getElem?_eq_some_iff.1 hs).1 hs) hc
theorem stillx_core {eT : TypeId} {fS : FuncId} {w : World} {b o : Nat} {A Bs : Sl} {ls was : List Sl} (hA : w.cell? ⟨b, o, none⟩ = some A.val) (hB : w.cell? ⟨b, o + 1, none⟩ = some Bs.val)
    (rA : Rd (slE eT) w A ls) (rB : Rd (slE eT) w Bs was) (hl : was.length = ls.length) (hsm : ls.length ≤ 100000)
    (hS : ∀ (j : Nat) (s t : Sl), ls[j]? = some s → was[j]? = some t → ∀ w', Chg No w w' → Calls P fS #[s.val, t.val] w' fun e w'' => e = .returned (.bool true) ∧ Chg No w' w'') {K : Value → World → Prop} (k : ∀ w', Chg No w w' → K (.bool true) w') :
    ∃ (I1 : Int → World → Prop) (μ1 : Int → World → Nat), I1 (0 : Int) w ∧ ∀ (i3 : Int) (w2 : World), I1 i3 w2 →
      ∃ s4 : Sl, w2.cell? ⟨b, o, none⟩ = some (s4.val) ∧
      brB (decide (i3 < (s4.len : Int)))
      (∀ w5 : World, w5 = World.drew w2 →
      ∃ s6 : Sl, held (Lw w5) ⟨b, o, none⟩ (s6.val) ∧
      ∃ a7 : Addr, s6.ptr = some a7 ∧ 0 ≤ i3 ∧ i3 < (s6.len : Int) ∧
      ∃ s8 : Sl, held (Lw w5) (Addr.add a7 (Int.toNat i3 * 1)) (s8.val) ∧
      ∃ s9 : Sl, held (Lw w5) ⟨b, o + 1, none⟩ (s9.val) ∧
      ∃ a10 : Addr, s9.ptr = some a10 ∧ 0 ≤ i3 ∧ i3 < (s9.len : Int) ∧
      ∃ s11 : Sl, held (Lw w5) (Addr.add a10 (Int.toNat i3 * 1)) (s11.val) ∧
      Calls P fS #[s8.val, s11.val] w5 fun e12 w13 => ∃ b14 : Bool, e12 = .returned (.bool b14) ∧
      brB (!b14)
      (K (.bool false) w13)
      (I1 (wr (i3 + (1 : Int))) w13 ∧ μ1 (wr (i3 + (1 : Int))) w13 < μ1 i3 w2))
      (K (.bool true) w2) := by
  refine ⟨fun n w' => ∃ j : Nat, n = j ∧ j ≤ ls.length ∧ Chg No w w', fun n _ => ls.length - n.toNat, ⟨0, rfl, Nat.zero_le _, Chg.refl _ _⟩, ?_⟩
  rintro n w2 ⟨j, rfl, hj, hc⟩
  have hlen := rA.len
  refine ⟨A, hc.cell hA (fun h => h), brB_of (fun hlt => ?_) (fun hlt => k w2 hc)⟩
  have hlt : j < ls.length := by simp at hlt; omega
  intro w5 hw5
  have c5 : Chg No w w5 := hc.trans (by rw [hw5]; exact Chg.drew No _) (fun _ _ h => h) (fun _ _ h => h)
  obtain ⟨s, hs⟩ : ∃ s, ls[j]? = some s := ⟨_, List.getElem?_eq_getElem hlt⟩
  obtain ⟨t, ht⟩ : ∃ t, was[j]? = some t := ⟨_, List.getElem?_eq_getElem (by omega)⟩
  obtain ⟨a, ha, h0, h1, hcell⟩ := sl_cell (rA.no c5) hs
  obtain ⟨a', ha', h0', h1', hcell'⟩ := sl_cell (rB.no c5) ht
  refine ⟨A, held_Lw (c5.cell hA (fun h => h)), a, ha, h0, h1, s, held_Lw hcell, Bs, held_Lw (c5.cell hB (fun h => h)), a', ha', h0', h1', t, held_Lw hcell', ?_⟩
  refine (hS j s t hs ht w5 c5).mono ?_
  rintro e w13 ⟨rfl, c13⟩
  refine ⟨true, rfl, brB_f ?_⟩
  rw [wr_of (by omega) (by omega)]
  exact ⟨⟨j + 1, by omega, by omega, c5.trans c13 (fun _ _ h => h) (fun _ _ h => h)⟩, by show ls.length - Int.toNat ((j : Int) + 1) < ls.length - Int.toNat (j : Int); omega⟩
theorem markedx_core {E : Enc α} {eT : TypeId} {fS fM : FuncId} {mk : Int → Int → α} (hS : ∀ (i n : Nat) (s t : Sl) (w : World), Rd E w s (marks (mk i) 0 n) → Rd E w t (marks (mk i) 0 n) → Calls P fS #[s.val, t.val] w fun e w' => e = .returned (.bool true) ∧ Chg No w w') (hM : MarkOk P E mk fM) {w : World} {A : Sl} {ls : List Sl} (rA : Rd (slE eT) w A ls) (hsm : ls.length ≤ 100000)
    (r1 : ∀ (i : Nat) (s : Sl), ls[i]? = some s → s.len ≤ 100000000 ∧ Rd E w s (marks (mk i) 0 s.len)) {K : Value → World → Prop} (k : ∀ w', Chg No w w' → K (.bool true) w') :
    ∃ (I1 : Int → World → Prop) (μ1 : Int → World → Nat), I1 (0 : Int) w ∧ ∀ (i3 : Int) (w2 : World), I1 i3 w2 →
      brB (decide (i3 < (A.len : Int)))
      (∀ w4 : World, w4 = World.drew w2 →
      ∃ S5 : World → Prop, S5 w4 ∧
      ∃ a6 : Addr, A.ptr = some a6 ∧ 0 ≤ i3 ∧ i3 < (A.len : Int) ∧
      ∃ s7 : Sl, held S5 (Addr.add a6 (Int.toNat i3 * 1)) (s7.val) ∧
      ∃ a8 : Addr, A.ptr = some a8 ∧ 0 ≤ i3 ∧ i3 < (A.len : Int) ∧
      ∃ s9 : Sl, held S5 (Addr.add a8 (Int.toNat i3 * 1)) (s9.val) ∧
      Calls P fM #[.int .i64 i3, .int .i64 (0 : Int), .int .i64 (s9.len : Int)] w4 fun e10 w11 => ∃ s12 : Sl, e10 = .returned (s12.val) ∧
      S5 w11 ∧
      Calls P fS #[s7.val, s12.val] w11 fun e13 w14 => ∃ b15 : Bool, e13 = .returned (.bool b15) ∧
      brB (!b15)
      (K (.bool false) w14)
      (I1 (wr (i3 + (1 : Int))) w14 ∧ μ1 (wr (i3 + (1 : Int))) w14 < μ1 i3 w2))
      (K (.bool true) w2) := by
  refine ⟨fun n w' => ∃ j : Nat, n = j ∧ j ≤ ls.length ∧ Chg No w w', fun n _ => ls.length - n.toNat, ⟨0, rfl, Nat.zero_le _, Chg.refl _ _⟩, ?_⟩
  rintro n w2 ⟨j, rfl, hj, hc⟩
  have hlen := rA.len
  refine brB_of (fun hlt => ?_) (fun hlt => k w2 hc)
  have hlt : j < ls.length := by simp at hlt; omega
  intro w4 hw4
  have c4 : Chg No w w4 := hc.trans (by rw [hw4]; exact Chg.drew No _) (fun _ _ h => h) (fun _ _ h => h)
  obtain ⟨s, hs⟩ : ∃ s, ls[j]? = some s := ⟨_, List.getElem?_eq_getElem hlt⟩
  obtain ⟨hsl, hr⟩ := r1 j s hs
  obtain ⟨a, ha, h0, h1, _⟩ := sl_cell (rA.no c4) hs
  have hh : held (fun w' => Chg No w w') (Addr.add a ((j : Int).toNat * 1)) s.val := fun w' hw' => by
    obtain ⟨a2, ha2, _, _, hcell⟩ := sl_cell (rA.no hw') hs
    rw [ha] at ha2; cases ha2; exact hcell
  refine ⟨fun w' => Chg No w w', c4, a, ha, h0, h1, s, hh, a, ha, h0, h1, s, hh, ?_⟩
  refine (hM j 0 s.len w4 (by omega) (by omega)).mono ?_
  rintro e w11 ⟨s12, rfl, h12, c11, _⟩
  have cw11 : Chg No w w11 := c4.trans c11 (fun _ _ h => h) (fun _ _ h => h)
  refine ⟨s12, rfl, cw11, ?_⟩
  refine (hS j s.len s s12 w11 (hr.no cw11) h12.rd).mono ?_
  rintro e w14 ⟨rfl, c14⟩
  refine ⟨true, rfl, brB_f ?_⟩
  rw [wr_of (by omega) (by omega)]
  exact ⟨⟨j + 1, by omega, by omega, cw11.trans c14 (fun _ _ h => h) (fun _ _ h => h)⟩, by show ls.length - Int.toNat ((j : Int) + 1) < ls.length - Int.toNat (j : Int); omega⟩
end
section
variable {α : Type} {w w' : World} {b o : Nat} {A Bs : Sl} {ls was : List Sl} {E : Enc α} {T : TypeId} {D D' S : Nat → Prop} {xss : List (List α)} {mk : Int → Int → α}
theorem KO.half (h : KO D E T w b A Bs ls was xss) : KH D E T w b A Bs ls was xss := ⟨h.oA, h.oB, h.len, h.lenB, h.ox, h.dis, h.dA, h.dB, h.dl, h.dw⟩
theorem KH.chg (h : KH D E T w b A Bs ls was xss) (c : Chg S w w') (hS : ∀ k, D k → ¬ S k) : KH D E T w' b A Bs ls was xss :=
  ⟨h.oA.chg c (fun k e => hS _ (h.dA k e).1), h.oB.chg c (fun k e => hS _ (h.dB k e).1), h.len, h.lenB, fun i s xs hs hx => ⟨(h.ox i s xs hs hx).1.chg c (fun k e => hS _ (h.dl k ⟨i, s, hs, e⟩).1), (h.ox i s xs hs hx).2⟩, h.dis, h.dA, h.dB, fun k e => ⟨(h.dl k e).1, (h.dl k e).2.1, Nat.lt_of_lt_of_le (h.dl k e).2.2 c.size⟩, fun k e => ⟨(h.dw k e).1, (h.dw k e).2.1, Nat.lt_of_lt_of_le (h.dw k e).2.2.1 c.size, (h.dw k e).2.2.2⟩⟩
theorem KO.chg (h : KO D E T w b A Bs ls was xss) (c : Chg S w w') (hS : ∀ k, D k → ¬ S k) : KO D E T w' b A Bs ls was xss := by
  have g := h.half.chg c hS
  exact ⟨g.oA, g.oB, g.len, g.lenB, g.ox, fun i s xs hs hx => (h.rd i s xs hs hx).chg c (fun k e => hS _ (h.dw k ⟨i, s, hs, e⟩).1), g.dis, g.dA, g.dB, g.dl, g.dw⟩
theorem KH.nar (h : KH D E T w b A Bs ls was xss) : KH (fun k => D k ∧ k < w.heap.size) E T w b A Bs ls was xss :=
  ⟨h.oA, h.oB, h.len, h.lenB, h.ox, h.dis, fun k e => ⟨⟨(h.dA k e).1, h.oA.lt e⟩, (h.dA k e).2⟩, fun k e => ⟨⟨(h.dB k e).1, h.oB.lt e⟩, (h.dB k e).2⟩, fun k e => ⟨⟨(h.dl k e).1, (h.dl k e).2.2⟩, (h.dl k e).2⟩, fun k e => ⟨⟨(h.dw k e).1, (h.dw k e).2.2.1⟩, (h.dw k e).2⟩⟩
theorem KH.wid (h : KH D E T w b A Bs ls was xss) (hd : ∀ k, D k → D' k) : KH D' E T w b A Bs ls was xss :=
  ⟨h.oA, h.oB, h.len, h.lenB, h.ox, h.dis, fun k e => ⟨hd _ (h.dA k e).1, (h.dA k e).2⟩, fun k e => ⟨hd _ (h.dB k e).1, (h.dB k e).2⟩, fun k e => ⟨hd _ (h.dl k e).1, (h.dl k e).2⟩, fun k e => ⟨hd _ (h.dw k e).1, (h.dw k e).2⟩⟩
theorem KH.empty (D : Nat → Prop) (E : Enc α) (T : TypeId) (w : World) (b : Nat) : KH D E T w b nilS nilS [] [] [] := (KO.empty D E T w b).half
structure KP (E : Enc α) (T : TypeId) (w : World) (b o : Nat) (A : Sl) (ls : List Sl) (xss : List (List α)) : Prop where
  cA : w.cell? ⟨b, o, none⟩ = some A.val
  rA : Rd (slE T) w A ls
  len : ls.length = xss.length
  few : ls.length ≤ 100000
  ox : ∀ (i : Nat) (s : Sl) (xs : List α), ls[i]? = some s → xss[i]? = some xs → Ox E w s xs ∧ xs.length ≤ 10000000
  dis : ∀ (i j : Nat) (s t : Sl) (k : Nat), ls[i]? = some s → ls[j]? = some t → s.blk = some k → t.blk = some k → i = j
  nb : ¬ blksOf ls b
  nA : ∀ k, A.blk = some k → ¬ blksOf ls k
theorem KP.chg (h : KP E T w b o A ls xss) (c : Chg S w w') (hb : ¬ S b) (hA : ∀ k, A.blk = some k → ¬ S k) (hl : ∀ k, blksOf ls k → ¬ S k) : KP E T w' b o A ls xss :=
  ⟨c.cell h.cA hb, h.rA.chg c hA, h.len, h.few, fun i s xs hs hx => ⟨(h.ox i s xs hs hx).1.chg c (fun k e => hl k ⟨i, s, hs, e⟩), (h.ox i s xs hs hx).2⟩, h.dis, h.nb, h.nA⟩
theorem KP.marked (h : KP E T w b o A ls xss) (c : Chg (blksOf ls) w w') (hm : ∀ (i : Nat) (s : Sl), ls[i]? = some s → Ox E w' s (marks (mk i) 0 s.len)) : KM E T mk w' b o A ls := by
  refine ⟨c.cell h.cA h.nb, h.rA.chg c h.nA, h.few, fun i s hs => ⟨hm i s hs, ?_⟩, h.dis, h.nb, h.nA⟩
  obtain ⟨xs, hxs⟩ : ∃ xs, xss[i]? = some xs := ⟨_, List.getElem?_eq_getElem (by have := (List.getElem?_eq_some_iff.1 hs).1; have := h.len; omega)⟩
  obtain ⟨h1, h2⟩ := h.ox i s xs hs hxs
  rw [h1.rd.len]; exact h2
theorem KM.chg (h : KM E T mk w b o A ls) (c : Chg S w w') (hb : ¬ S b) (hA : ∀ k, A.blk = some k → ¬ S k) (hl : ∀ k, blksOf ls k → ¬ S k) : KM E T mk w' b o A ls :=
  ⟨c.cell h.cA hb, h.rA.chg c hA, h.few, fun i s hs => ⟨(h.ox i s hs).1.chg c (fun k e => hl k ⟨i, s, hs, e⟩), (h.ox i s hs).2⟩, h.dis, h.nb, h.nA⟩
structure GrX (E : Enc α) (T : TypeId) (mk : Int → Int → α) (w : World) (N : Nat) (ls : List Sl) (out : Sl) : Prop where
  outs : ∃ outs : List Sl, Rd (slE T) w out outs ∧ outs.length = ls.length ∧ ∀ (i : Nat) (t : Sl), outs[i]? = some t → (t.len ≤ 20000000 ∧ Rd E w t (marks (mk i) 0 t.len)) ∧ ∀ k, t.blk = some k → blksOf ls k ∨ N ≤ k
  new : ∀ k, out.blk = some k → N ≤ k
theorem GrX.chg {N : Nat} {out : Sl} (h : GrX E T mk w N ls out) (c : Chg S w w') (hl : ∀ k, blksOf ls k → ¬ S k) (hN : ∀ k, S k → k < N) : GrX E T mk w' N ls out := by
  obtain ⟨outs, h1, h2, h3⟩ := h.outs
  refine ⟨⟨outs, h1.chg c (fun k e he => by have := h.new k e; have := hN k he; omega), h2, fun i t ht => ?_⟩, h.new⟩
  obtain ⟨⟨x1, x2⟩, x3⟩ := h3 i t ht
  refine ⟨⟨x1, x2.chg c (fun k e he => ?_)⟩, x3⟩
  rcases x3 k e with y | y
  · exact hl k y he
  · have := hN k he; omega
theorem GrX.old {N : Nat} {out : Sl} (h : GrX E T mk w N ls out) : Grown' E T mk w out ls.length := by
  obtain ⟨outs, h1, h2, h3⟩ := h.outs
  exact ⟨outs, h1, h2, fun i t ht => (h3 i t ht).1⟩
theorem Marked'.chg (h : Marked' E mk w ls) (c : Chg S w w') (hl : ∀ k, blksOf ls k → ¬ S k) : Marked' E mk w' ls := fun i s hs => (h i s hs).chg c (fun k e => hl k ⟨i, s, hs, e⟩)
end
end Go.Proofs.YtblmoilneiffgaaGreat

/- The book's functions for a kind of which nothing was put in. -/
set_option maxRecDepth 100000
namespace Go.Proofs.YtblmoilneiffgaaGreat
open Go.RowKit

theorem noLen : decide ((0 : Int) < ((nilS.len : Nat) : Int)) = false := rfl
theorem stillTexts_nil {w : World} {b : Nat} (h : w.cell? ⟨b, 0, none⟩ = some nilS.val) : Calls Tryz.prog fn_hollowaybook_Book_stillTexts #[.pointer (some ⟨b, 0, none⟩)] w fun e w' => e = .returned (.bool true) ∧ w = w' := by
  refine (hollowaybook_Book_stillTexts_lift (K := fun r w' => r = .bool true ∧ w = w') ?_).mono (by rintro e w' ⟨r, rfl, rfl, h⟩; exact ⟨rfl, h⟩)
  unfold hollowaybook_Book_stillTexts_sh
  refine ⟨fun n w' => n = 0 ∧ w = w', fun _ _ => 0, ⟨rfl, rfl⟩, ?_⟩
  rintro n w2 ⟨rfl, rfl⟩
  refine ⟨nilS, h, ?_⟩
  rw [noLen]
  exact brB_f ⟨rfl, rfl⟩
theorem putTexts_nil {w : World} {b : Nat} (h : w.cell? ⟨b, 0, none⟩ = some nilS.val) : Calls Tryz.prog fn_hollowaybook_Book_putTexts #[.pointer (some ⟨b, 0, none⟩)] w fun e w' => e = .returned (.tuple #[]) ∧ w = w' := by
  refine (hollowaybook_Book_putTexts_lift (K := fun r w' => r = .tuple #[] ∧ w = w') ?_).mono (by rintro e w' ⟨r, rfl, rfl, h⟩; exact ⟨rfl, h⟩)
  unfold hollowaybook_Book_putTexts_sh
  refine ⟨fun n w' => n = 0 ∧ w = w', fun _ _ => 0, ⟨rfl, rfl⟩, ?_⟩
  rintro n w2 ⟨rfl, rfl⟩
  refine ⟨nilS, h, ?_⟩
  rw [noLen]
  exact brB_f ⟨rfl, rfl⟩
theorem growTexts_nil {w : World} {b : Nat} (h : w.cell? ⟨b, 0, none⟩ = some nilS.val) : Calls Tryz.prog fn_hollowaybook_Book_growTexts #[.pointer (some ⟨b, 0, none⟩)] w fun e w' => e = .returned nilS.val ∧ w = w' := by
  refine (hollowaybook_Book_growTexts_lift (K := fun r w' => r = nilS.val ∧ w = w') ?_).mono (by rintro e w' ⟨r, rfl, rfl, h⟩; exact ⟨rfl, h⟩)
  unfold hollowaybook_Book_growTexts_sh
  refine ⟨fun o n w' => o = nilS ∧ n = 0 ∧ w = w', fun _ _ _ => 0, ⟨rfl, rfl, rfl⟩, ?_⟩
  rintro o n w2 ⟨rfl, rfl, rfl⟩
  refine ⟨nilS, h, ?_⟩
  rw [noLen]
  exact brB_f ⟨rfl, rfl⟩
theorem markedTexts_nil (w : World) : Calls Tryz.prog fn_hollowaybook_markedTexts #[nilS.val] w fun e w' => e = .returned (.bool true) ∧ w = w' := by
  refine (hollowaybook_markedTexts_lift (K := fun r w' => r = .bool true ∧ w = w') ?_).mono (by rintro e w' ⟨r, rfl, rfl, h⟩; exact ⟨rfl, h⟩)
  unfold hollowaybook_markedTexts_sh
  refine ⟨fun n w' => n = 0 ∧ w = w', fun _ _ => 0, ⟨rfl, rfl⟩, ?_⟩
  rintro n w2 ⟨rfl, rfl⟩
  rw [noLen]
  exact brB_f ⟨rfl, rfl⟩
theorem stillWords_nil {w : World} {b : Nat} (h : w.cell? ⟨b, 4, none⟩ = some nilS.val) : Calls Tryz.prog fn_hollowaybook_Book_stillWords #[.pointer (some ⟨b, 0, none⟩)] w fun e w' => e = .returned (.bool true) ∧ w = w' := by
  refine (hollowaybook_Book_stillWords_lift (K := fun r w' => r = .bool true ∧ w = w') ?_).mono (by rintro e w' ⟨r, rfl, rfl, h⟩; exact ⟨rfl, h⟩)
  unfold hollowaybook_Book_stillWords_sh
  refine ⟨fun n w' => n = 0 ∧ w = w', fun _ _ => 0, ⟨rfl, rfl⟩, ?_⟩
  rintro n w2 ⟨rfl, rfl⟩
  refine ⟨nilS, h, ?_⟩
  rw [noLen]
  exact brB_f ⟨rfl, rfl⟩
theorem putWords_nil {w : World} {b : Nat} (h : w.cell? ⟨b, 4, none⟩ = some nilS.val) : Calls Tryz.prog fn_hollowaybook_Book_putWords #[.pointer (some ⟨b, 0, none⟩)] w fun e w' => e = .returned (.tuple #[]) ∧ w = w' := by
  refine (hollowaybook_Book_putWords_lift (K := fun r w' => r = .tuple #[] ∧ w = w') ?_).mono (by rintro e w' ⟨r, rfl, rfl, h⟩; exact ⟨rfl, h⟩)
  unfold hollowaybook_Book_putWords_sh
  refine ⟨fun n w' => n = 0 ∧ w = w', fun _ _ => 0, ⟨rfl, rfl⟩, ?_⟩
  rintro n w2 ⟨rfl, rfl⟩
  refine ⟨nilS, h, ?_⟩
  rw [noLen]
  exact brB_f ⟨rfl, rfl⟩
theorem growWords_nil {w : World} {b : Nat} (h : w.cell? ⟨b, 4, none⟩ = some nilS.val) : Calls Tryz.prog fn_hollowaybook_Book_growWords #[.pointer (some ⟨b, 0, none⟩)] w fun e w' => e = .returned nilS.val ∧ w = w' := by
  refine (hollowaybook_Book_growWords_lift (K := fun r w' => r = nilS.val ∧ w = w') ?_).mono (by rintro e w' ⟨r, rfl, rfl, h⟩; exact ⟨rfl, h⟩)
  unfold hollowaybook_Book_growWords_sh
  refine ⟨fun o n w' => o = nilS ∧ n = 0 ∧ w = w', fun _ _ _ => 0, ⟨rfl, rfl, rfl⟩, ?_⟩
  rintro o n w2 ⟨rfl, rfl, rfl⟩
  refine ⟨nilS, h, ?_⟩
  rw [noLen]
  exact brB_f ⟨rfl, rfl⟩
theorem markedWords_nil (w : World) : Calls Tryz.prog fn_hollowaybook_markedWords #[nilS.val] w fun e w' => e = .returned (.bool true) ∧ w = w' := by
  refine (hollowaybook_markedWords_lift (K := fun r w' => r = .bool true ∧ w = w') ?_).mono (by rintro e w' ⟨r, rfl, rfl, h⟩; exact ⟨rfl, h⟩)
  unfold hollowaybook_markedWords_sh
  refine ⟨fun n w' => n = 0 ∧ w = w', fun _ _ => 0, ⟨rfl, rfl⟩, ?_⟩
  rintro n w2 ⟨rfl, rfl⟩
  rw [noLen]
  exact brB_f ⟨rfl, rfl⟩
theorem stillSeens_nil {w : World} {b : Nat} (h : w.cell? ⟨b, 6, none⟩ = some nilS.val) : Calls Tryz.prog fn_hollowaybook_Book_stillSeens #[.pointer (some ⟨b, 0, none⟩)] w fun e w' => e = .returned (.bool true) ∧ w = w' := by
  refine (hollowaybook_Book_stillSeens_lift (K := fun r w' => r = .bool true ∧ w = w') ?_).mono (by rintro e w' ⟨r, rfl, rfl, h⟩; exact ⟨rfl, h⟩)
  unfold hollowaybook_Book_stillSeens_sh
  refine ⟨fun n w' => n = 0 ∧ w = w', fun _ _ => 0, ⟨rfl, rfl⟩, ?_⟩
  rintro n w2 ⟨rfl, rfl⟩
  refine ⟨nilS, h, ?_⟩
  rw [noLen]
  exact brB_f ⟨rfl, rfl⟩
theorem putSeens_nil {w : World} {b : Nat} (h : w.cell? ⟨b, 6, none⟩ = some nilS.val) : Calls Tryz.prog fn_hollowaybook_Book_putSeens #[.pointer (some ⟨b, 0, none⟩)] w fun e w' => e = .returned (.tuple #[]) ∧ w = w' := by
  refine (hollowaybook_Book_putSeens_lift (K := fun r w' => r = .tuple #[] ∧ w = w') ?_).mono (by rintro e w' ⟨r, rfl, rfl, h⟩; exact ⟨rfl, h⟩)
  unfold hollowaybook_Book_putSeens_sh
  refine ⟨fun n w' => n = 0 ∧ w = w', fun _ _ => 0, ⟨rfl, rfl⟩, ?_⟩
  rintro n w2 ⟨rfl, rfl⟩
  refine ⟨nilS, h, ?_⟩
  rw [noLen]
  exact brB_f ⟨rfl, rfl⟩
theorem growSeens_nil {w : World} {b : Nat} (h : w.cell? ⟨b, 6, none⟩ = some nilS.val) : Calls Tryz.prog fn_hollowaybook_Book_growSeens #[.pointer (some ⟨b, 0, none⟩)] w fun e w' => e = .returned nilS.val ∧ w = w' := by
  refine (hollowaybook_Book_growSeens_lift (K := fun r w' => r = nilS.val ∧ w = w') ?_).mono (by rintro e w' ⟨r, rfl, rfl, h⟩; exact ⟨rfl, h⟩)
  unfold hollowaybook_Book_growSeens_sh
  refine ⟨fun o n w' => o = nilS ∧ n = 0 ∧ w = w', fun _ _ _ => 0, ⟨rfl, rfl, rfl⟩, ?_⟩
  rintro o n w2 ⟨rfl, rfl, rfl⟩
  refine ⟨nilS, h, ?_⟩
  rw [noLen]
  exact brB_f ⟨rfl, rfl⟩
theorem markedSeens_nil (w : World) : Calls Tryz.prog fn_hollowaybook_markedSeens #[nilS.val] w fun e w' => e = .returned (.bool true) ∧ w = w' := by
  refine (hollowaybook_markedSeens_lift (K := fun r w' => r = .bool true ∧ w = w') ?_).mono (by rintro e w' ⟨r, rfl, rfl, h⟩; exact ⟨rfl, h⟩)
  unfold hollowaybook_markedSeens_sh
  refine ⟨fun n w' => n = 0 ∧ w = w', fun _ _ => 0, ⟨rfl, rfl⟩, ?_⟩
  rintro n w2 ⟨rfl, rfl⟩
  rw [noLen]
  exact brB_f ⟨rfl, rfl⟩
end Go.Proofs.YtblmoilneiffgaaGreat

/- The book's kinds instructions and exits; numbers once more, with where grown lists lie. -/
set_option maxRecDepth 100000
namespace Go.Proofs.YtblmoilneiffgaaGreat
open Go.RowKit

section
def mkC (i k : Int) : In5 := ⟨wr ((wr ((wr ((-1000 : Int) * i)) - k)) - (1 : Int)), 0, 0, 0, 0⟩
def mkX (i k : Int) : OuC := ⟨wr ((wr ((wr ((-1000 : Int) * i)) - k)) - (1 : Int)), 0, nilS, nilS⟩
theorem markCodes_ok : MarkOk Tryz.prog insE mkC fn_hollowaybook_markCodes := by
  intro i f m w hi hf
  refine (hollowaybook_markCodes_lift (K := fun r w' => ∃ s : Sl, r = s.val ∧ Ow insE w' s (marks (mkC i) f m) ∧ Chg No w w' ∧ (∀ j, s.blk = some j → w.heap.size ≤ j)) ?_).mono (by rintro e w' ⟨r, rfl, s, rfl, h⟩; exact ⟨s, rfl, h⟩)
  unfold hollowaybook_markCodes_sh
  exact mark_core (K := fun r w' => ∃ s : Sl, r = s.val ∧ Ow insE w' s (marks (mkC i) f m) ∧ Chg No w w' ∧ (∀ j, s.blk = some j → w.heap.size ≤ j)) insOk (by decide) (mkC i) f m hf fun s' w' h1 h2 h3 => ⟨s', rfl, h1, h2, h3⟩
theorem markExits_ok : MarkOk Tryz.prog ouE mkX fn_hollowaybook_markExits := by
  intro i f m w hi hf
  refine (hollowaybook_markExits_lift (K := fun r w' => ∃ s : Sl, r = s.val ∧ Ow ouE w' s (marks (mkX i) f m) ∧ Chg No w w' ∧ (∀ j, s.blk = some j → w.heap.size ≤ j)) ?_).mono (by rintro e w' ⟨r, rfl, s, rfl, h⟩; exact ⟨s, rfl, h⟩)
  unfold hollowaybook_markExits_sh
  exact mark_core (K := fun r w' => ∃ s : Sl, r = s.val ∧ Ow ouE w' s (marks (mkX i) f m) ∧ Chg No w w' ∧ (∀ j, s.blk = some j → w.heap.size ≤ j)) ousOk (by decide) (mkX i) f m hf fun s' w' h1 h2 h3 => ⟨s', rfl, h1, h2, h3⟩
def qC (S : World → Prop) (p : Addr) (F : List Value → Prop) : Prop := ∃ n : Int, ∃ m : Int, ∃ o : Int, ∃ q : Int, ∃ r : Int, held S p (.int .i64 n) ∧ held S (p.add 1) (.int .i64 m) ∧ held S (p.add 2) (.int .i64 o) ∧ held S (p.add 3) (.int .i64 q) ∧ held S (p.add 4) (.int .i64 r) ∧ F [.int .i64 n, .int .i64 m, .int .i64 o, .int .i64 q, .int .i64 r]
theorem qC_ok (w : World) (p : Addr) (x : In5) (F : List Value → Prop) (h : ∀ (j : Nat) (u : Value), (insE.e x)[j]? = some u → w.cell? (p.add j) = some u) (hF : F (insE.e x)) : qC (Lw w) p F := by
  have h0 := h 0 _ rfl
  rw [add0] at h0
  exact ⟨_, _, _, _, _, held_Lw h0, held_Lw (h 1 _ rfl), held_Lw (h 2 _ rfl), held_Lw (h 3 _ rfl), held_Lw (h 4 _ rfl), hF⟩
def qX (S : World → Prop) (p : Addr) (F : List Value → Prop) : Prop := ∃ n : Int, ∃ m : Int, ∃ s : Sl, ∃ t : Sl, held S p (.int .i64 n) ∧ held S (p.add 1) (.int .i64 m) ∧ held S (p.add 2) s.val ∧ held S (p.add 3) t.val ∧ F [.int .i64 n, .int .i64 m, s.val, t.val]
theorem qX_ok (w : World) (p : Addr) (x : OuC) (F : List Value → Prop) (h : ∀ (j : Nat) (u : Value), (ouE.e x)[j]? = some u → w.cell? (p.add j) = some u) (hF : F (ouE.e x)) : qX (Lw w) p F := by
  have h0 := h 0 _ rfl
  rw [add0] at h0
  exact ⟨_, _, _, _, held_Lw h0, held_Lw (h 1 _ rfl), held_Lw (h 2 _ rfl), held_Lw (h 3 _ rfl), hF⟩
theorem slInsOk : EncOk Tryz.prog (slE T_sl_api_Ins) T_sl_sl_api_Ins := EncOk.of (z := .slice none 0 0) (by kernel_rfl) (by kernel_rfl) (by kernel_rfl)
theorem slOutOk : EncOk Tryz.prog (slE T_sl_api_Out) T_sl_sl_api_Out := EncOk.of (z := .slice none 0 0) (by kernel_rfl) (by kernel_rfl) (by kernel_rfl)
theorem sameMarks_ok (i n : Nat) (s t : Sl) (w : World) (hs : Rd ouE w s (marks (mkX i) 0 n)) (ht : Rd ouE w t (marks (mkX i) 0 n)) : Calls Tryz.prog fn_hollowaybook_SameExits #[s.val, t.val] w fun e w' => e = .returned (.bool true) ∧ Chg No w w' := by
  have ho : OusIs No w (marks (mkX i) 0 n) ((marks (mkX i) 0 n).map fun o => ⟨o.ip, o.steps, [], []⟩) := by
    refine ⟨by simp, fun j o v ho hv => ?_⟩
    rw [List.getElem?_map, ho] at hv
    cases hv
    have hm : o.stack = nilS ∧ o.back = nilS := by
      unfold marks at ho
      rw [List.getElem?_map] at ho
      cases hr : (List.range n)[j]? with
      | none => rw [hr] at ho; cases ho
      | some x => rw [hr] at ho; cases ho; exact ⟨rfl, rfl⟩
    exact ⟨rfl, rfl, by rw [hm.1]; exact Rd.nil _ _, by rw [hm.2]; exact Rd.nil _ _, (fun k hk => by rw [hm.1] at hk; cases hk), (fun k hk => by rw [hm.2] at hk; cases hk)⟩
  exact sameExits_any hs ht ho ho
end
section
variable {w : World} {b : Nat} {A Bs : Sl} {ls was : List Sl}
theorem stillCodes_any {xss : List (List In5)} (h : KB insE T_sl_api_Ins w b 8 A Bs ls was xss) : Calls Tryz.prog fn_hollowaybook_Book_stillCodes #[.pointer (some ⟨b, 0, none⟩)] w fun e w' => e = .returned (.bool true) ∧ Chg No w w' := by
  refine (hollowaybook_Book_stillCodes_lift (K := fun r w' => r = .bool true ∧ Chg No w w') ?_).mono (by rintro e w' ⟨r, rfl, rfl, h⟩; exact ⟨rfl, h⟩)
  unfold hollowaybook_Book_stillCodes_sh
  exact still_core (K := fun r w' => r = .bool true ∧ Chg No w w') sameCodes_ok h.cA h.cB h.rA h.rB h.len h.lenB h.few (fun i s xs hs hx => (h.ox i s xs hs hx).1.rd) h.rd fun w' c => ⟨rfl, c⟩
def SaysX (X : Nat → Prop) (w : World) (ls was : List Sl) (xss : List (List OuC)) : Prop := ∀ (i : Nat) (t : Sl) (os : List OuC), was[i]? = some t → xss[i]? = some os → (∀ k, t.blk = some k → blksOf was k) ∧ ∃ (os' : List OuC) (vs : List OuV), Rd ouE w t os' ∧ OusIs X w os vs ∧ OusIs X w os' vs
theorem SaysX.chg {X S : Nat → Prop} {w w' : World} {xss : List (List OuC)} (h : SaysX X w ls was xss) (c : Chg S w w') (hX : ∀ k, X k → ¬ S k) (hw : ∀ k, blksOf was k → ¬ S k) : SaysX X w' ls was xss := fun i t os ht ho => by
  obtain ⟨h0, os', vs, h1, h2, h3⟩ := h i t os ht ho
  exact ⟨h0, os', vs, h1.chg c (fun k hk => hw k (h0 k hk)), h2.chg c hX, h3.chg c hX⟩
theorem stillExits_any {X : Nat → Prop} {xss : List (List OuC)} (h : KP ouE T_sl_api_Out w b 10 A ls xss) (cB : w.cell? ⟨b, 11, none⟩ = some Bs.val) (rB : Rd (slE T_sl_api_Out) w Bs was) (hl : was.length = ls.length) (hx : SaysX X w ls was xss) : Calls Tryz.prog fn_hollowaybook_Book_stillExits #[.pointer (some ⟨b, 0, none⟩)] w fun e w' => e = .returned (.bool true) ∧ Chg No w w' := by
  refine (hollowaybook_Book_stillExits_lift (K := fun r w' => r = .bool true ∧ Chg No w w') ?_).mono (by rintro e w' ⟨r, rfl, rfl, h⟩; exact ⟨rfl, h⟩)
  unfold hollowaybook_Book_stillExits_sh
  refine stillx_core (K := fun r w' => r = .bool true ∧ Chg No w w') (fS := fn_hollowaybook_SameExits) h.cA cB h.rA rB hl h.few (fun j s t hs ht w' c => ?_) fun w' c => ⟨rfl, c⟩
  obtain ⟨os, ho⟩ : ∃ os, xss[j]? = some os := ⟨_, List.getElem?_eq_getElem (by have := (List.getElem?_eq_some_iff.1 hs).1; have := h.len; omega)⟩
  obtain ⟨_, os', vs, h1, h2, h3⟩ := hx j t os ht ho
  exact sameExits_any (((h.ox j s os hs ho).1.rd).no c) (h1.no c) (h2.chg c (fun _ _ h => h)) (h3.chg c (fun _ _ h => h))
theorem putIntsX_any {xss : List (List Int)} (h : KP intE T_sl_int w b 2 A ls xss) : Calls Tryz.prog fn_hollowaybook_Book_putInts #[.pointer (some ⟨b, 0, none⟩)] w fun e w' => e = .returned (.tuple #[]) ∧ KM intE T_sl_int mkI w' b 2 A ls ∧ Chg (blksOf ls) w w' := by
  refine (hollowaybook_Book_putInts_lift (K := fun r w' => r = .tuple #[] ∧ KM intE T_sl_int mkI w' b 2 A ls ∧ Chg (blksOf ls) w w') ?_).mono (by rintro e w' ⟨r, rfl, rfl, h⟩; exact ⟨rfl, h⟩)
  unfold hollowaybook_Book_putInts_sh
  exact put_core (Q := qI) (mk := mkI) (K := fun r w' => r = .tuple #[] ∧ KM intE T_sl_int mkI w' b 2 A ls ∧ Chg (blksOf ls) w w') qI_ok (Or.inr markInts_ok) h.cA h.rA h.len h.few h.ox h.dis h.nb h.nA fun w' hm c => ⟨rfl, h.marked c hm, c⟩
theorem putCodes_any {xss : List (List In5)} (h : KP insE T_sl_api_Ins w b 8 A ls xss) : Calls Tryz.prog fn_hollowaybook_Book_putCodes #[.pointer (some ⟨b, 0, none⟩)] w fun e w' => e = .returned (.tuple #[]) ∧ KM insE T_sl_api_Ins mkC w' b 8 A ls ∧ Chg (blksOf ls) w w' := by
  refine (hollowaybook_Book_putCodes_lift (K := fun r w' => r = .tuple #[] ∧ KM insE T_sl_api_Ins mkC w' b 8 A ls ∧ Chg (blksOf ls) w w') ?_).mono (by rintro e w' ⟨r, rfl, rfl, h⟩; exact ⟨rfl, h⟩)
  unfold hollowaybook_Book_putCodes_sh
  exact put_core (Q := qC) (mk := mkC) (K := fun r w' => r = .tuple #[] ∧ KM insE T_sl_api_Ins mkC w' b 8 A ls ∧ Chg (blksOf ls) w w') qC_ok (Or.inr markCodes_ok) h.cA h.rA h.len h.few h.ox h.dis h.nb h.nA fun w' hm c => ⟨rfl, h.marked c hm, c⟩
theorem putExits_any {xss : List (List OuC)} (h : KP ouE T_sl_api_Out w b 10 A ls xss) : Calls Tryz.prog fn_hollowaybook_Book_putExits #[.pointer (some ⟨b, 0, none⟩)] w fun e w' => e = .returned (.tuple #[]) ∧ KM ouE T_sl_api_Out mkX w' b 10 A ls ∧ Chg (blksOf ls) w w' := by
  refine (hollowaybook_Book_putExits_lift (K := fun r w' => r = .tuple #[] ∧ KM ouE T_sl_api_Out mkX w' b 10 A ls ∧ Chg (blksOf ls) w w') ?_).mono (by rintro e w' ⟨r, rfl, rfl, h⟩; exact ⟨rfl, h⟩)
  unfold hollowaybook_Book_putExits_sh
  exact put_core (Q := qX) (mk := mkX) (K := fun r w' => r = .tuple #[] ∧ KM ouE T_sl_api_Out mkX w' b 10 A ls ∧ Chg (blksOf ls) w w') qX_ok (Or.inr markExits_ok) h.cA h.rA h.len h.few h.ox h.dis h.nb h.nA fun w' hm c => ⟨rfl, h.marked c hm, c⟩
theorem growIntsX_any (h : KM intE T_sl_int mkI w b 2 A ls) : Calls Tryz.prog fn_hollowaybook_Book_growInts #[.pointer (some ⟨b, 0, none⟩)] w fun e w' => ∃ out : Sl, e = .returned out.val ∧ GrX intE T_sl_int mkI w' w.heap.size ls out ∧ Marked' intE mkI w' ls ∧ Chg (blksOf ls) w w' := by
  refine (hollowaybook_Book_growInts_lift (K := fun r w' => ∃ out : Sl, r = out.val ∧ GrX intE T_sl_int mkI w' w.heap.size ls out ∧ Marked' intE mkI w' ls ∧ Chg (blksOf ls) w w') ?_).mono (by rintro e w' ⟨r, rfl, s, rfl, h⟩; exact ⟨s, rfl, h⟩)
  unfold hollowaybook_Book_growInts_sh
  exact growx_core (mk := mkI) (K := fun r w' => ∃ out : Sl, r = out.val ∧ GrX intE T_sl_int mkI w' w.heap.size ls out ∧ Marked' intE mkI w' ls ∧ Chg (blksOf ls) w w') intOk slIntOk (by decide) (Or.inr markInts_ok) h.cA h.rA h.few h.ox h.dis h.nb h.nA fun out outs w' h1 h2 h3 h4 h5 h6 h7 => ⟨out, rfl, ⟨⟨outs, h1, h2, fun i t ht => ⟨h3 i t ht, fun k => h5 i t k ht⟩⟩, h4⟩, h6, h7⟩
theorem growCodes_any (h : KM insE T_sl_api_Ins mkC w b 8 A ls) : Calls Tryz.prog fn_hollowaybook_Book_growCodes #[.pointer (some ⟨b, 0, none⟩)] w fun e w' => ∃ out : Sl, e = .returned out.val ∧ GrX insE T_sl_api_Ins mkC w' w.heap.size ls out ∧ Marked' insE mkC w' ls ∧ Chg (blksOf ls) w w' := by
  refine (hollowaybook_Book_growCodes_lift (K := fun r w' => ∃ out : Sl, r = out.val ∧ GrX insE T_sl_api_Ins mkC w' w.heap.size ls out ∧ Marked' insE mkC w' ls ∧ Chg (blksOf ls) w w') ?_).mono (by rintro e w' ⟨r, rfl, s, rfl, h⟩; exact ⟨s, rfl, h⟩)
  unfold hollowaybook_Book_growCodes_sh
  exact growx_core (mk := mkC) (K := fun r w' => ∃ out : Sl, r = out.val ∧ GrX insE T_sl_api_Ins mkC w' w.heap.size ls out ∧ Marked' insE mkC w' ls ∧ Chg (blksOf ls) w w') insOk slInsOk (by decide) (Or.inr markCodes_ok) h.cA h.rA h.few h.ox h.dis h.nb h.nA fun out outs w' h1 h2 h3 h4 h5 h6 h7 => ⟨out, rfl, ⟨⟨outs, h1, h2, fun i t ht => ⟨h3 i t ht, fun k => h5 i t k ht⟩⟩, h4⟩, h6, h7⟩
theorem growExits_any (h : KM ouE T_sl_api_Out mkX w b 10 A ls) : Calls Tryz.prog fn_hollowaybook_Book_growExits #[.pointer (some ⟨b, 0, none⟩)] w fun e w' => ∃ out : Sl, e = .returned out.val ∧ GrX ouE T_sl_api_Out mkX w' w.heap.size ls out ∧ Marked' ouE mkX w' ls ∧ Chg (blksOf ls) w w' := by
  refine (hollowaybook_Book_growExits_lift (K := fun r w' => ∃ out : Sl, r = out.val ∧ GrX ouE T_sl_api_Out mkX w' w.heap.size ls out ∧ Marked' ouE mkX w' ls ∧ Chg (blksOf ls) w w') ?_).mono (by rintro e w' ⟨r, rfl, s, rfl, h⟩; exact ⟨s, rfl, h⟩)
  unfold hollowaybook_Book_growExits_sh
  exact growx_core (mk := mkX) (K := fun r w' => ∃ out : Sl, r = out.val ∧ GrX ouE T_sl_api_Out mkX w' w.heap.size ls out ∧ Marked' ouE mkX w' ls ∧ Chg (blksOf ls) w w') ousOk slOutOk (by decide) (Or.inr markExits_ok) h.cA h.rA h.few h.ox h.dis h.nb h.nA fun out outs w' h1 h2 h3 h4 h5 h6 h7 => ⟨out, rfl, ⟨⟨outs, h1, h2, fun i t ht => ⟨h3 i t ht, fun k => h5 i t k ht⟩⟩, h4⟩, h6, h7⟩
theorem markedCodes_any {n : Nat} (hn : n ≤ 100000) {out : Sl} (h : Grown' insE T_sl_api_Ins mkC w out n) : Calls Tryz.prog fn_hollowaybook_markedCodes #[out.val] w fun e w' => e = .returned (.bool true) ∧ Chg No w w' := by
  refine (hollowaybook_markedCodes_lift (K := fun r w' => r = .bool true ∧ Chg No w w') ?_).mono (by rintro e w' ⟨r, rfl, rfl, h⟩; exact ⟨rfl, h⟩)
  unfold hollowaybook_markedCodes_sh
  obtain ⟨outs, h1, h2, h3⟩ := h
  exact marked_core (mk := mkC) (K := fun r w' => r = .bool true ∧ Chg No w w') sameCodes_ok markCodes_ok h1 (by omega) (fun i s hs => ⟨by have := (h3 i s hs).1; omega, (h3 i s hs).2⟩) fun w' c => ⟨rfl, c⟩
theorem markedExits_any {n : Nat} (hn : n ≤ 100000) {out : Sl} (h : Grown' ouE T_sl_api_Out mkX w out n) : Calls Tryz.prog fn_hollowaybook_markedExits #[out.val] w fun e w' => e = .returned (.bool true) ∧ Chg No w w' := by
  refine (hollowaybook_markedExits_lift (K := fun r w' => r = .bool true ∧ Chg No w w') ?_).mono (by rintro e w' ⟨r, rfl, rfl, h⟩; exact ⟨rfl, h⟩)
  unfold hollowaybook_markedExits_sh
  obtain ⟨outs, h1, h2, h3⟩ := h
  exact markedx_core (mk := mkX) (K := fun r w' => r = .bool true ∧ Chg No w w') sameMarks_ok markExits_ok h1 (by omega) (fun i s hs => ⟨by have := (h3 i s hs).1; omega, (h3 i s hs).2⟩) fun w' c => ⟨rfl, c⟩
end
end Go.Proofs.YtblmoilneiffgaaGreat

/- A book of numbers, instructions and exits: put in, looked at. -/
set_option maxRecDepth 100000
namespace Go.Proofs.YtblmoilneiffgaaGreat
open Go.RowKit

def bookT (A1 B1 A2 B2 A3 B3 : Sl) : List Value := [nilS.val, nilS.val, A1.val, B1.val, nilS.val, nilS.val, nilS.val, nilS.val, A2.val, B2.val, A3.val, B3.val]
structure BkS (w : World) (b : Nat) (A1 B1 : Sl) (l1 s1 : List Sl) (x1 : List (List Int)) (A2 B2 : Sl) (l2 s2 : List Sl) (x2 : List (List In5)) (A3 B3 : Sl) (l3 s3 : List Sl) (x3 : List (List OuC)) (D1 D2 D3 X : Nat → Prop) : Prop where
  ob : Ob w b (bookT A1 B1 A2 B2 A3 B3) T_hollowaybook_Book
  k1 : KO D1 intE T_sl_int w b A1 B1 l1 s1 x1
  k2 : KO D2 insE T_sl_api_Ins w b A2 B2 l2 s2 x2
  k3 : KH D3 ouE T_sl_api_Out w b A3 B3 l3 s3 x3
  sx : SaysX X w l3 s3 x3
  n1 : l1.length ≤ 250
  n2 : l2.length ≤ 250
  n3 : l3.length ≤ 250
  d12 : ∀ k, D1 k → ¬ D2 k
  d13 : ∀ k, D1 k → ¬ D3 k
  d1X : ∀ k, D1 k → ¬ X k
  d23 : ∀ k, D2 k → ¬ D3 k
  d2X : ∀ k, D2 k → ¬ X k
  d3X : ∀ k, D3 k → ¬ X k
  nb : ¬ D1 b ∧ ¬ D2 b ∧ ¬ D3 b ∧ ¬ X b
  lo : ∀ k, D1 k ∨ D2 k ∨ D3 k ∨ X k → k < w.heap.size
def BkT (D P : Nat → Prop) (w : World) (b : Nat) : Prop := ∃ A1 B1 l1 s1 x1 A2 B2 l2 s2 x2 A3 B3 l3 s3 x3 D1 D2 D3 X, BkS w b A1 B1 l1 s1 x1 A2 B2 l2 s2 x2 A3 B3 l3 s3 x3 D1 D2 D3 X ∧ (D b ∧ ∀ k, D1 k ∨ D2 k ∨ D3 k ∨ X k → D k) ∧ ∀ k, k = b ∨ A1.blk = some k ∨ B1.blk = some k ∨ A2.blk = some k ∨ B2.blk = some k ∨ A3.blk = some k ∨ B3.blk = some k → P k
theorem BkT.chg {D P S : Nat → Prop} {w w' : World} {b : Nat} (h : BkT D P w b) (c : Chg S w w') (hS : ∀ k, D k → ¬ S k) : BkT D P w' b := by
  obtain ⟨A1, B1, l1, s1, x1, A2, B2, l2, s2, x2, A3, B3, l3, s3, x3, D1, D2, D3, X, h, ⟨hb, hD⟩, hP⟩ := h
  have z := c.size
  exact ⟨A1, B1, l1, s1, x1, A2, B2, l2, s2, x2, A3, B3, l3, s3, x3, D1, D2, D3, X, ⟨h.ob.chg c (hS _ hb), h.k1.chg c (fun k e => hS _ (hD k (Or.inl e))), h.k2.chg c (fun k e => hS _ (hD k (Or.inr (Or.inl e)))), h.k3.chg c (fun k e => hS _ (hD k (Or.inr (Or.inr (Or.inl e))))), h.sx.chg c (fun k e => hS _ (hD k (Or.inr (Or.inr (Or.inr e))))) (fun k e => hS _ (hD k (Or.inr (Or.inr (Or.inl (h.k3.dw k e).1))))), h.n1, h.n2, h.n3, h.d12, h.d13, h.d1X, h.d23, h.d2X, h.d3X, h.nb, fun k e => by have := h.lo k e; omega⟩, ⟨hb, hD⟩, hP⟩
theorem BkT.no {D P : Nat → Prop} {w w' : World} {b : Nat} (h : BkT D P w b) (c : Chg No w w') : BkT D P w' b := h.chg c (fun _ _ h => h)
theorem BkS.plt {w : World} {b : Nat} {A1 B1 : Sl} {l1 s1 : List Sl} {x1 : List (List Int)} {A2 B2 : Sl} {l2 s2 : List Sl} {x2 : List (List In5)} {A3 B3 : Sl} {l3 s3 : List Sl} {x3 : List (List OuC)} {D1 D2 D3 X : Nat → Prop} (h : BkS w b A1 B1 l1 s1 x1 A2 B2 l2 s2 x2 A3 B3 l3 s3 x3 D1 D2 D3 X) : ∀ k, k = b ∨ A1.blk = some k ∨ B1.blk = some k ∨ A2.blk = some k ∨ B2.blk = some k ∨ A3.blk = some k ∨ B3.blk = some k → k < w.heap.size := fun k e => by
  rcases e with e | e | e | e | e | e | e
  · rw [e]; exact h.ob.lt
  · exact h.k1.oA.lt e
  · exact h.k1.oB.lt e
  · exact h.k2.oA.lt e
  · exact h.k2.oB.lt e
  · exact h.k3.oA.lt e
  · exact h.k3.oB.lt e
theorem BkT.nar {D P : Nat → Prop} {w : World} {b : Nat} (h : BkT D P w b) : BkT (fun k => D k ∧ k < w.heap.size) (fun k => P k ∧ k < w.heap.size) w b := by
  obtain ⟨A1, B1, l1, s1, x1, A2, B2, l2, s2, x2, A3, B3, l3, s3, x3, D1, D2, D3, X, h, ⟨hb, hD⟩, hP⟩ := h
  exact ⟨A1, B1, l1, s1, x1, A2, B2, l2, s2, x2, A3, B3, l3, s3, x3, D1, D2, D3, X, h, ⟨⟨hb, h.ob.lt⟩, fun k e => ⟨hD k e, h.lo k e⟩⟩, fun k e => ⟨hP k e, h.plt k e⟩⟩
theorem BkT.wid {D D' P P' : Nat → Prop} {w : World} {b : Nat} (h : BkT D P w b) (hd : ∀ k, D k → D' k) (hp : ∀ k, P k → P' k) : BkT D' P' w b := by
  obtain ⟨A1, B1, l1, s1, x1, A2, B2, l2, s2, x2, A3, B3, l3, s3, x3, D1, D2, D3, X, h, ⟨hb, hD⟩, hP⟩ := h
  exact ⟨A1, B1, l1, s1, x1, A2, B2, l2, s2, x2, A3, B3, l3, s3, x3, D1, D2, D3, X, h, ⟨hd _ hb, fun k e => hd _ (hD k e)⟩, fun k e => hp _ (hP k e)⟩
theorem BkT.empty {D P : Nat → Prop} {w : World} {b : Nat} (h : Ob w b (bookT nilS nilS nilS nilS nilS nilS) T_hollowaybook_Book) (hb : D b) (hp : P b) : BkT D P w b :=
  ⟨nilS, nilS, [], [], [], nilS, nilS, [], [], [], nilS, nilS, [], [], [], No, No, No, No, ⟨h, KO.empty _ _ _ _ _, KO.empty _ _ _ _ _, KH.empty _ _ _ _ _, (fun i t os ht => by simp at ht), Nat.zero_le _, Nat.zero_le _, Nat.zero_le _, fun _ _ h => h, fun _ _ h => h, fun _ _ h => h, fun _ _ h => h, fun _ _ h => h, fun _ _ h => h, ⟨fun h => h, fun h => h, fun h => h, fun h => h⟩, fun k e => by rcases e with e | e | e | e <;> exact e.elim⟩, ⟨hb, fun k e => by rcases e with e | e | e | e <;> exact e.elim⟩, fun k e => by
    rcases e with e | e | e | e | e | e | e
    · rw [e]; exact hp
    all_goals cases e⟩
theorem BkT.ints {D P : Nat → Prop} {w : World} {b : Nat} (h : BkT D P w b) (hD : ∀ k, w.heap.size ≤ k → D k) (hp : ∀ k, w.heap.size ≤ k → P k) {l : Sl} {xs : List Int} (hx : Ox intE w l xs) (hxs : xs.length ≤ 10000000) {D' : Nat → Prop} (hD' : ∀ k, D k → D' k) (hl : ∀ k, l.blk = some k → D' k ∧ ¬ D k) :
    Calls Tryz.prog fn_hollowaybook_Book_Ints #[.pointer (some ⟨b, 0, none⟩), l.val] w fun e w' => e = .returned (.tuple #[]) ∧ BkT D' P w' b ∧ Chg P w w' := by
  refine (hollowaybook_Book_Ints_lift (K := fun r w' => r = .tuple #[] ∧ BkT D' P w' b ∧ Chg P w w') ?_).mono (by rintro e w' ⟨r, rfl, rfl, h⟩; exact ⟨rfl, h⟩)
  unfold hollowaybook_Book_Ints_sh
  obtain ⟨A1, B1, l1, s1, x1, A2, B2, l2, s2, x2, A3, B3, l3, s3, x3, D1, D2, D3, X, h, ⟨hb, hDD⟩, hPP⟩ := h
  have hw : KO (fun k => D1 k ∨ w.heap.size ≤ k ∨ l.blk = some k) intE T_sl_int w b A1 B1 l1 s1 x1 := h.k1.wid fun k e => Or.inl e
  have e1 : ∀ k, D1 k → D k := fun k e => hDD k (Or.inl e)
  have hll : ∀ k, l.blk = some k → (D1 k ∨ w.heap.size ≤ k ∨ l.blk = some k) ∧ k ≠ b ∧ A1.blk ≠ some k ∧ B1.blk ≠ some k ∧ ¬ blksOf l1 k ∧ ¬ blksOf s1 k := fun k hlk => by
    obtain ⟨h1, h2⟩ := hl k hlk
    exact ⟨Or.inr (Or.inr hlk), fun e => h2 (e ▸ hb), fun e => h2 (e1 k (h.k1.dA k e).1), fun e => h2 (e1 k (h.k1.dB k e).1), fun e => h2 (e1 k (h.k1.dl k e).1), fun e => h2 (e1 k (h.k1.dw k e).1)⟩
  refine addx_core (K := fun r w' => r = .tuple #[] ∧ BkT D' P w' b ∧ Chg P w w') (TB := T_hollowaybook_Book) (cs := bookT A1 B1 A2 B2 A3 B3) slIntOk h.ob rfl rfl hw.half (fun k e => Or.inr (Or.inl e)) hx hxs hll (G := fun s' w10 w14 => Ow intE w14 s' xs) (fun w10 c10 => ?_)
    (fun _ => ⟨rfl, ⟨A1, B1, l1, s1, x1, A2, B2, l2, s2, x2, A3, B3, l3, s3, x3, D1, D2, D3, X, h, ⟨hD' b hb, fun k e => hD' _ (hDD k e)⟩, hPP⟩, Chg.refl _ _⟩)
    (fun hlt A' B' c' w10 w14 w' o' k'' hG c10 c14 c1420 hbk hA10 hAn hB14 ch => ?_)
  · refine (copyInts_any l xs w10 (hx.chg c10 (fun k hk he => ?_)).rd hxs).mono ?_
    · rcases he with he | he
      · exact (hll k hk).2.1 he
      · exact (hll k hk).2.2.1 he
    · rintro e w' ⟨s', rfl, h1, h2, h3⟩
      exact ⟨s', rfl, h1, fun k hk => ⟨h3 k hk, h1.lt hk⟩, h2⟩
  have z10 := c10.size
  have k' : KO (fun k => D1 k ∨ w.heap.size ≤ k ∨ l.blk = some k) intE T_sl_int w' b A' B' (l1 ++ [l]) (s1 ++ [c']) (x1 ++ [xs]) := by
    refine ⟨k''.oA, k''.oB, k''.len, k''.lenB, k''.ox, fun i s ys hs hy => ?_, k''.dis, k''.dA, k''.dB, k''.dl, k''.dw⟩
    rcases app_at hs with ⟨h5, h6⟩ | ⟨h5, rfl⟩
    · rw [List.getElem?_append_left (by have := h.k1.lenB; omega)] at hy
      refine (h.k1.rd i s ys h6 hy).chg ch (fun m hm he => ?_)
      have h9 : blksOf s1 m := ⟨i, s, h6, hm⟩
      rcases he with he | he | he
      · exact (h.k1.dw m h9).2.1 he
      · exact (h.k1.dA m he).2.2.2.2 h9
      · exact (h.k1.dB m he).2.2.2 h9
    · rcases app_at hy with ⟨h6, _⟩ | ⟨_, rfl⟩
      · have := h.k1.lenB; omega
      · refine (hG.chg c1420 (fun m hm he => ?_)).rd
        have hm' := hbk m hm
        rcases he with he | he
        · have := h.ob.lt; omega
        · have := h.k1.oB.lt he; omega
  have z := ch.size
  have av : ∀ {k : Nat}, (k = b ∨ A1.blk = some k ∨ B1.blk = some k) → k = b ∨ D1 k := fun e => by
    rcases e with e | e | e
    · exact Or.inl e
    · exact Or.inr (h.k1.dA _ e).1
    · exact Or.inr (h.k1.dB _ e).1
  refine ⟨rfl, ⟨A', B', l1 ++ [l], s1 ++ [c'], x1 ++ [xs], A2, B2, l2, s2, x2, A3, B3, l3, s3, x3, _, D2, D3, X, ⟨o', k'.nar, h.k2.chg ch (fun k e he => ?_), h.k3.chg ch (fun k e he => ?_), h.sx.chg ch (fun k e he => ?_) (fun k e he => ?_), by rw [List.length_append]; show l1.length + 1 ≤ 250; omega, h.n2, h.n3, fun k e => ?_, fun k e => ?_, fun k e => ?_, h.d23, h.d2X, h.d3X, ⟨fun e => ?_, h.nb.2⟩, fun k e => ?_⟩, ⟨hD' b hb, fun k e => ?_⟩, fun k e => ?_⟩, ch.mono (fun k _ e => ?_)⟩
  · rcases av he with e' | e'
    · subst e'; exact h.nb.2.1 e
    · exact h.d12 k e' e
  · rcases av he with e' | e'
    · subst e'; exact h.nb.2.2.1 e
    · exact h.d13 k e' e
  · rcases av he with e' | e'
    · subst e'; exact h.nb.2.2.2 e
    · exact h.d1X k e' e
  · have e := (h.k3.dw k e).1
    rcases av he with e' | e'
    · subst e'; exact h.nb.2.2.1 e
    · exact h.d13 k e' e
  · intro e2
    rcases e.1 with e | e | e
    · exact h.d12 k e e2
    · have := h.lo k (Or.inr (Or.inl e2)); omega
    · exact (hl k e).2 (hDD k (Or.inr (Or.inl e2)))
  · intro e2
    rcases e.1 with e | e | e
    · exact h.d13 k e e2
    · have := h.lo k (Or.inr (Or.inr (Or.inl e2))); omega
    · exact (hl k e).2 (hDD k (Or.inr (Or.inr (Or.inl e2))))
  · intro e2
    rcases e.1 with e | e | e
    · exact h.d1X k e e2
    · have := h.lo k (Or.inr (Or.inr (Or.inr e2))); omega
    · exact (hl k e).2 (hDD k (Or.inr (Or.inr (Or.inr e2))))
  · rcases e.1 with e | e | e
    · exact h.nb.1 e
    · have := h.ob.lt; omega
    · exact (hl _ e).2 hb
  · rcases e with e | e
    · exact e.2
    · have := h.lo k (Or.inr e); omega
  · rcases e with e | e
    · rcases e.1 with e | e | e
      · exact hD' _ (e1 k e)
      · exact hD' _ (hD k e)
      · exact (hl k e).1
    · exact hD' _ (hDD k (Or.inr e))
  · rcases e with e | e | e | e | e | e | e
    · exact hPP k (Or.inl e)
    · rcases hAn k e with e | e
      · exact hPP k (Or.inr (Or.inl e))
      · exact hp k e
    · rcases hB14 k e with e | e
      · exact hPP k (Or.inr (Or.inr (Or.inl e)))
      · exact hp k (by have := c14.size; omega)
    · exact hPP k (Or.inr (Or.inr (Or.inr (Or.inl e))))
    · exact hPP k (Or.inr (Or.inr (Or.inr (Or.inr (Or.inl e)))))
    · exact hPP k (Or.inr (Or.inr (Or.inr (Or.inr (Or.inr (Or.inl e))))))
    · exact hPP k (Or.inr (Or.inr (Or.inr (Or.inr (Or.inr (Or.inr e))))))
  · rcases e with e | e | e
    · exact hPP k (Or.inl e)
    · exact hPP k (Or.inr (Or.inl e))
    · exact hPP k (Or.inr (Or.inr (Or.inl e)))
theorem BkT.codes {D P : Nat → Prop} {w : World} {b : Nat} (h : BkT D P w b) (hD : ∀ k, w.heap.size ≤ k → D k) (hp : ∀ k, w.heap.size ≤ k → P k) {l : Sl} {xs : List In5} (hx : Ox insE w l xs) (hxs : xs.length ≤ 1000000) {D' : Nat → Prop} (hD' : ∀ k, D k → D' k) (hl : ∀ k, l.blk = some k → D' k ∧ ¬ D k) :
    Calls Tryz.prog fn_hollowaybook_Book_Codes #[.pointer (some ⟨b, 0, none⟩), l.val] w fun e w' => e = .returned (.tuple #[]) ∧ BkT D' P w' b ∧ Chg P w w' := by
  refine (hollowaybook_Book_Codes_lift (K := fun r w' => r = .tuple #[] ∧ BkT D' P w' b ∧ Chg P w w') ?_).mono (by rintro e w' ⟨r, rfl, rfl, h⟩; exact ⟨rfl, h⟩)
  unfold hollowaybook_Book_Codes_sh
  obtain ⟨A1, B1, l1, s1, x1, A2, B2, l2, s2, x2, A3, B3, l3, s3, x3, D1, D2, D3, X, h, ⟨hb, hDD⟩, hPP⟩ := h
  have hw : KO (fun k => D2 k ∨ w.heap.size ≤ k ∨ l.blk = some k) insE T_sl_api_Ins w b A2 B2 l2 s2 x2 := h.k2.wid fun k e => Or.inl e
  have e2 : ∀ k, D2 k → D k := fun k e => hDD k (Or.inr (Or.inl e))
  have hll : ∀ k, l.blk = some k → (D2 k ∨ w.heap.size ≤ k ∨ l.blk = some k) ∧ k ≠ b ∧ A2.blk ≠ some k ∧ B2.blk ≠ some k ∧ ¬ blksOf l2 k ∧ ¬ blksOf s2 k := fun k hlk => by
    obtain ⟨h1, h2⟩ := hl k hlk
    exact ⟨Or.inr (Or.inr hlk), fun e => h2 (e ▸ hb), fun e => h2 (e2 k (h.k2.dA k e).1), fun e => h2 (e2 k (h.k2.dB k e).1), fun e => h2 (e2 k (h.k2.dl k e).1), fun e => h2 (e2 k (h.k2.dw k e).1)⟩
  have av : ∀ {k : Nat}, (k = b ∨ A2.blk = some k ∨ B2.blk = some k) → k = b ∨ D2 k := fun e => by
    rcases e with e | e | e
    · exact Or.inl e
    · exact Or.inr (h.k2.dA _ e).1
    · exact Or.inr (h.k2.dB _ e).1
  refine addx_core (K := fun r w' => r = .tuple #[] ∧ BkT D' P w' b ∧ Chg P w w') (TB := T_hollowaybook_Book) (cs := bookT A1 B1 A2 B2 A3 B3) slInsOk h.ob rfl rfl hw.half (fun k e => Or.inr (Or.inl e)) hx (by omega) hll (G := fun s' w10 w14 => Ow insE w14 s' xs) (fun w10 c10 => ?_)
    (fun _ => ⟨rfl, ⟨A1, B1, l1, s1, x1, A2, B2, l2, s2, x2, A3, B3, l3, s3, x3, D1, D2, D3, X, h, ⟨hD' b hb, fun k e => hD' _ (hDD k e)⟩, hPP⟩, Chg.refl _ _⟩)
    (fun hlt A' B' c' w10 w14 w' o' k' hG c10 c14 c1420 hbk hA10 hAn hB14 ch => ?_)
  · refine (copyCodes_any l xs w10 (hx.chg c10 (fun k hk he => ?_)).rd hxs).mono ?_
    · rcases he with he | he
      · exact (hll k hk).2.1 he
      · exact (hll k hk).2.2.1 he
    · rintro e w' ⟨s', rfl, h1, h2, h3⟩
      exact ⟨s', rfl, h1, fun k hk => ⟨h3 k hk, h1.lt hk⟩, h2⟩
  have z := ch.size
  have z10 := c10.size
  have kk : KO (fun k => D2 k ∨ w.heap.size ≤ k ∨ l.blk = some k) insE T_sl_api_Ins w' b A' B' (l2 ++ [l]) (s2 ++ [c']) (x2 ++ [xs]) := by
    refine ⟨k'.oA, k'.oB, k'.len, k'.lenB, k'.ox, fun i s ys hs hy => ?_, k'.dis, k'.dA, k'.dB, k'.dl, k'.dw⟩
    rcases app_at hs with ⟨h5, h6⟩ | ⟨h5, rfl⟩
    · rw [List.getElem?_append_left (by have := h.k2.lenB; omega)] at hy
      refine (h.k2.rd i s ys h6 hy).chg ch (fun m hm he => ?_)
      have h9 : blksOf s2 m := ⟨i, s, h6, hm⟩
      rcases he with he | he | he
      · exact (h.k2.dw m h9).2.1 he
      · exact (h.k2.dA m he).2.2.2.2 h9
      · exact (h.k2.dB m he).2.2.2 h9
    · rcases app_at hy with ⟨h6, _⟩ | ⟨_, rfl⟩
      · have := h.k2.lenB; omega
      · refine (hG.chg c1420 (fun m hm he => ?_)).rd
        have hm' := hbk m hm
        rcases he with he | he
        · have := h.ob.lt; omega
        · have := h.k2.oB.lt he; omega
  refine ⟨rfl, ⟨A1, B1, l1, s1, x1, A', B', l2 ++ [l], s2 ++ [c'], x2 ++ [xs], A3, B3, l3, s3, x3, D1, _, D3, X, ⟨o', h.k1.chg ch (fun k e he => ?_), kk.nar, h.k3.chg ch (fun k e he => ?_), h.sx.chg ch (fun k e he => ?_) (fun k e he => ?_), h.n1, by rw [List.length_append]; show l2.length + 1 ≤ 250; omega, h.n3, fun k e f => ?_, h.d13, h.d1X, fun k e f => ?_, fun k e f => ?_, h.d3X, ⟨h.nb.1, fun e => ?_, h.nb.2.2⟩, fun k e => ?_⟩, ⟨hD' b hb, fun k e => ?_⟩, fun k e => ?_⟩, ch.mono (fun k _ e => ?_)⟩
  · rcases av he with e' | e'
    · subst e'; exact h.nb.1 e
    · exact h.d12 k e e'
  · rcases av he with e' | e'
    · subst e'; exact h.nb.2.2.1 e
    · exact h.d23 k e' e
  · rcases av he with e' | e'
    · subst e'; exact h.nb.2.2.2 e
    · exact h.d2X k e' e
  · have e := (h.k3.dw k e).1
    rcases av he with e' | e'
    · subst e'; exact h.nb.2.2.1 e
    · exact h.d23 k e' e
  · rcases f.1 with f | f | f
    · exact h.d12 k e f
    · have := h.lo k (Or.inl e); omega
    · exact (hl k f).2 (hDD k (Or.inl e))
  · rcases e.1 with e | e | e
    · exact h.d23 k e f
    · have := h.lo k (Or.inr (Or.inr (Or.inl f))); omega
    · exact (hl k e).2 (hDD k (Or.inr (Or.inr (Or.inl f))))
  · rcases e.1 with e | e | e
    · exact h.d2X k e f
    · have := h.lo k (Or.inr (Or.inr (Or.inr f))); omega
    · exact (hl k e).2 (hDD k (Or.inr (Or.inr (Or.inr f))))
  · rcases e.1 with e | e | e
    · exact h.nb.2.1 e
    · have := h.ob.lt; omega
    · exact (hl _ e).2 hb
  · rcases e with e | e | e
    · have := h.lo k (Or.inl e); omega
    · exact e.2
    · have := h.lo k (Or.inr (Or.inr e)); omega
  · rcases e with e | e | e
    · exact hD' _ (hDD k (Or.inl e))
    · rcases e.1 with e | e | e
      · exact hD' _ (e2 k e)
      · exact hD' _ (hD k e)
      · exact (hl k e).1
    · exact hD' _ (hDD k (Or.inr (Or.inr e)))
  · rcases e with e | e | e | e | e | e | e
    · exact hPP k (Or.inl e)
    · exact hPP k (Or.inr (Or.inl e))
    · exact hPP k (Or.inr (Or.inr (Or.inl e)))
    · rcases hAn k e with e | e
      · exact hPP k (Or.inr (Or.inr (Or.inr (Or.inl e))))
      · exact hp k e
    · rcases hB14 k e with e | e
      · exact hPP k (Or.inr (Or.inr (Or.inr (Or.inr (Or.inl e)))))
      · exact hp k (by have := c14.size; omega)
    · exact hPP k (Or.inr (Or.inr (Or.inr (Or.inr (Or.inr (Or.inl e))))))
    · exact hPP k (Or.inr (Or.inr (Or.inr (Or.inr (Or.inr (Or.inr e))))))
  · rcases e with e | e | e
    · exact hPP k (Or.inl e)
    · exact hPP k (Or.inr (Or.inr (Or.inr (Or.inl e))))
    · exact hPP k (Or.inr (Or.inr (Or.inr (Or.inr (Or.inl e)))))
theorem BkT.exits {D P : Nat → Prop} {w : World} {b : Nat} (h : BkT D P w b) (hD : ∀ k, w.heap.size ≤ k → D k) (hp : ∀ k, w.heap.size ≤ k → P k) {l : Sl} {os : List OuC} {vs : List OuV} {Y : Nat → Prop} (hx : Ox ouE w l os) (hy : OusIs Y w os vs) (hsz : vs.length ≤ 100000) (hsz2 : ∀ v ∈ vs, v.stack.length ≤ 100000 ∧ v.back.length ≤ 100000) {D' : Nat → Prop} (hD' : ∀ k, D k → D' k) (hl : ∀ k, l.blk = some k → D' k ∧ ¬ D k ∧ ¬ Y k) (hY : ∀ k, Y k → D' k ∧ ¬ D k) :
    Calls Tryz.prog fn_hollowaybook_Book_Exits #[.pointer (some ⟨b, 0, none⟩), l.val] w fun e w' => e = .returned (.tuple #[]) ∧ BkT D' P w' b ∧ Chg P w w' := by
  refine (hollowaybook_Book_Exits_lift (K := fun r w' => r = .tuple #[] ∧ BkT D' P w' b ∧ Chg P w w') ?_).mono (by rintro e w' ⟨r, rfl, rfl, h⟩; exact ⟨rfl, h⟩)
  unfold hollowaybook_Book_Exits_sh
  obtain ⟨A1, B1, l1, s1, x1, A2, B2, l2, s2, x2, A3, B3, l3, s3, x3, D1, D2, D3, X, h, ⟨hb, hDD⟩, hPP⟩ := h
  have hYlt : ∀ k, Y k → k < w.heap.size := fun k hk => by
    rcases Nat.lt_or_ge k w.heap.size with h | h
    · exact h
    · exact absurd (hD k h) (hY k hk).2
  have hllt : ∀ k, l.blk = some k → k < w.heap.size := hx.lt
  have hos := hy.1
  have hw : KH (fun k => D3 k ∨ (w.heap.size ≤ k ∧ True) ∨ l.blk = some k) ouE T_sl_api_Out w b A3 B3 l3 s3 x3 := h.k3.wid fun k e => Or.inl e
  have e3 : ∀ k, D3 k → D k := fun k e => hDD k (Or.inr (Or.inr (Or.inl e)))
  have hll : ∀ k, l.blk = some k → (D3 k ∨ (w.heap.size ≤ k ∧ True) ∨ l.blk = some k) ∧ k ≠ b ∧ A3.blk ≠ some k ∧ B3.blk ≠ some k ∧ ¬ blksOf l3 k ∧ ¬ blksOf s3 k := fun k hlk => by
    obtain ⟨h1, h2, _⟩ := hl k hlk
    exact ⟨Or.inr (Or.inr hlk), fun e => h2 (e ▸ hb), fun e => h2 (e3 k (h.k3.dA k e).1), fun e => h2 (e3 k (h.k3.dB k e).1), fun e => h2 (e3 k (h.k3.dl k e).1), fun e => h2 (e3 k (h.k3.dw k e).1)⟩
  have av : ∀ {k : Nat}, (k = b ∨ A3.blk = some k ∨ B3.blk = some k) → k = b ∨ D3 k := fun e => by
    rcases e with e | e | e
    · exact Or.inl e
    · exact Or.inr (h.k3.dA _ e).1
    · exact Or.inr (h.k3.dB _ e).1
  refine addx_core (K := fun r w' => r = .tuple #[] ∧ BkT D' P w' b ∧ Chg P w w') (TB := T_hollowaybook_Book) (cs := bookT A1 B1 A2 B2 A3 B3) slOutOk h.ob rfl rfl hw (fun k e => Or.inr (Or.inl ⟨e, trivial⟩)) hx (by omega) hll (G := fun s' w10 w14 => ∃ os', Ow ouE w14 s' os' ∧ OusIs (fun k => w10.heap.size ≤ k ∧ k < w14.heap.size ∧ s'.blk ≠ some k) w14 os' vs) (fun w10 c10 => ?_)
    (fun _ => ⟨rfl, ⟨A1, B1, l1, s1, x1, A2, B2, l2, s2, x2, A3, B3, l3, s3, x3, D1, D2, D3, X, h, ⟨hD' b hb, fun k e => hD' _ (hDD k e)⟩, hPP⟩, Chg.refl _ _⟩)
    (fun hlt A' B' c' w10 w14 w' o' k' hG c10 c14 c1420 hbk hA10 hAn hB14 ch => ?_)
  · refine (copyExits_any (hx.chg c10 (fun k hk he => ?_)).rd (hy.chg c10 (fun k hk he => ?_)) hsz hsz2).mono ?_
    · rcases he with he | he
      · exact (hll k hk).2.1 he
      · exact (hll k hk).2.2.1 he
    · have := hY k hk
      rcases he with he | he
      · subst he; exact this.2 hb
      · exact this.2 (e3 k (h.k3.dA k he).1)
    · rintro e w' ⟨r, rfl, s', os', rfl, h1, h2, h3, h4⟩
      exact ⟨s', rfl, ⟨os', h1, h2.mono fun k hk => hk.1⟩, fun k hk => ⟨h4 k hk, h1.lt hk⟩, h3⟩
  obtain ⟨os', hg1, hg2⟩ := hG
  have z := ch.size
  have z10 := c10.size
  have z14 := c14.size
  have z1420 := c1420.size
  -- the new stacks
  obtain ⟨N, hN⟩ : ∃ N : Nat → Prop, N = fun k => w10.heap.size ≤ k ∧ k < w14.heap.size ∧ c'.blk ≠ some k := ⟨_, rfl⟩
  rw [← hN] at hg2
  have hNr : ∀ k, N k → w10.heap.size ≤ k ∧ k < w14.heap.size ∧ c'.blk ≠ some k := fun k hk => by rw [hN] at hk; exact hk
  have lN : ∀ k, N k → w.heap.size ≤ k := fun k hk => by have := hNr k hk; omega
  have kk : KH (fun k => ((D3 k ∨ (w.heap.size ≤ k ∧ True) ∨ l.blk = some k) ∧ k < w'.heap.size) ∧ ¬ N k) ouE T_sl_api_Out w' b A' B' (l3 ++ [l]) (s3 ++ [c']) (x3 ++ [os]) := by
    have g := k'.nar
    refine ⟨g.oA, g.oB, g.len, g.lenB, g.ox, g.dis, fun k e => ⟨⟨(g.dA k e).1, fun hn => ?_⟩, (g.dA k e).2⟩, fun k e => ⟨⟨(g.dB k e).1, fun hn => ?_⟩, (g.dB k e).2⟩, fun k e => ⟨⟨(g.dl k e).1, fun hn => ?_⟩, (g.dl k e).2⟩, fun k e => ⟨⟨(g.dw k e).1, fun hn => ?_⟩, (g.dw k e).2⟩⟩
    · have := hA10 k e; have := hNr k hn; omega
    · rcases hB14 k e with h5 | h5
      · have := h.k3.oB.lt h5; have := lN k hn; omega
      · have := hNr k hn; omega
    · rcases blksOf_app e with h5 | h5
      · have := (h.k3.dl k h5).2.2; have := lN k hn; omega
      · have := hllt k h5; have := lN k hn; omega
    · rcases blksOf_app e with h5 | h5
      · have := (h.k3.dw k h5).2.2.1; have := lN k hn; omega
      · exact (hNr k hn).2.2 h5
  have sx' : SaysX (fun k => X k ∨ Y k ∨ N k) w' (l3 ++ [l]) (s3 ++ [c']) (x3 ++ [os]) := by
    intro i t ys ht hys
    refine ⟨fun k hk => ⟨i, t, ht, hk⟩, ?_⟩
    rcases app_at ht with ⟨h5, h6⟩ | ⟨h5, rfl⟩
    · rw [List.getElem?_append_left (by have := h.k3.lenB; omega)] at hys
      obtain ⟨g0, os2, vs2, g1, g2, g3⟩ := h.sx i t ys h6 hys
      have avX : ∀ k, X k → ¬ (k = b ∨ A3.blk = some k ∨ B3.blk = some k) := fun k hk he => by
        rcases av he with e | e
        · subst e; exact h.nb.2.2.2 hk
        · exact h.d3X k e hk
      refine ⟨os2, vs2, g1.chg ch (fun m hm he => ?_), (g2.chg ch avX).mono (fun k hk => Or.inl hk), (g3.chg ch avX).mono (fun k hk => Or.inl hk)⟩
      have h9 := g0 m hm
      rcases he with he | he | he
      · exact (h.k3.dw m h9).2.1 he
      · exact (h.k3.dA m he).2.2.2.2 h9
      · exact (h.k3.dB m he).2.2.2 h9
    · rcases app_at hys with ⟨h6, _⟩ | ⟨_, rfl⟩
      · have := h.k3.lenB; omega
      · have c20 : ∀ k, w10.heap.size ≤ k → ¬ (k = b ∨ B3.blk = some k) := fun k hk he => by
          rcases he with he | he
          · have := h.ob.lt; omega
          · have := h.k3.oB.lt he; omega
        refine ⟨os', vs, (hg1.chg c1420 (fun m hm he => c20 m (hbk m hm).1 he)).rd, (hy.chg ch (fun k hk he => ?_)).mono (fun k hk => Or.inr (Or.inl hk)), (hg2.chg c1420 (fun k hk he => c20 k (hNr k hk).1 he)).mono (fun k hk => Or.inr (Or.inr hk))⟩
        have := hY k hk
        rcases av he with e | e
        · subst e; exact this.2 hb
        · exact this.2 (e3 k e)
  have dX : ∀ k, (X k ∨ Y k ∨ N k) → k < w'.heap.size := fun k e => by
    rcases e with e | e | e
    · have := h.lo k (Or.inr (Or.inr (Or.inr e))); omega
    · have := hYlt k e; omega
    · have := hNr k e; omega
  refine ⟨rfl, ⟨A1, B1, l1, s1, x1, A2, B2, l2, s2, x2, A', B', l3 ++ [l], s3 ++ [c'], x3 ++ [os], D1, D2, _, fun k => X k ∨ Y k ∨ N k, ⟨o', h.k1.chg ch (fun k e he => ?_), h.k2.chg ch (fun k e he => ?_), kk, sx', h.n1, h.n2, by rw [List.length_append]; show l3.length + 1 ≤ 250; omega, h.d12, fun k e f => ?_, fun k e f => ?_, fun k e f => ?_, fun k e f => ?_, fun k e f => ?_, ⟨h.nb.1, h.nb.2.1, fun e => ?_, fun e => ?_⟩, fun k e => ?_⟩, ⟨hD' b hb, fun k e => ?_⟩, fun k e => ?_⟩, ch.mono (fun k _ e => ?_)⟩
  · rcases av he with e' | e'
    · subst e'; exact h.nb.1 e
    · exact h.d13 k e e'
  · rcases av he with e' | e'
    · subst e'; exact h.nb.2.1 e
    · exact h.d23 k e e'
  · rcases f.1.1 with f | f | f
    · exact h.d13 k e f
    · have := h.lo k (Or.inl e); have := f.1; omega
    · exact (hl k f).2.1 (hDD k (Or.inl e))
  · rcases f with f | f | f
    · exact h.d1X k e f
    · exact (hY k f).2 (hDD k (Or.inl e))
    · have := lN k f; have := h.lo k (Or.inl e); omega
  · rcases f.1.1 with f | f | f
    · exact h.d23 k e f
    · have := h.lo k (Or.inr (Or.inl e)); have := f.1; omega
    · exact (hl k f).2.1 (hDD k (Or.inr (Or.inl e)))
  · rcases f with f | f | f
    · exact h.d2X k e f
    · exact (hY k f).2 (hDD k (Or.inr (Or.inl e)))
    · have := lN k f; have := h.lo k (Or.inr (Or.inl e)); omega
  · rcases f with f | f | f
    · rcases e.1.1 with e | e | e
      · exact h.d3X k e f
      · have := h.lo k (Or.inr (Or.inr (Or.inr f))); have := e.1; omega
      · exact (hl k e).2.1 (hDD k (Or.inr (Or.inr (Or.inr f))))
    · rcases e.1.1 with e | e | e
      · exact (hY k f).2 (e3 k e)
      · have := hYlt k f; have := e.1; omega
      · exact (hl k e).2.2 f
    · exact e.2 f
  · rcases e.1.1 with e | e | e
    · exact h.nb.2.2.1 e
    · have := h.ob.lt; have := e.1; omega
    · exact (hl _ e).2.1 hb
  · rcases e with e | e | e
    · exact h.nb.2.2.2 e
    · exact (hY _ e).2 hb
    · have := lN _ e; have := h.ob.lt; omega
  · rcases e with e | e | e | e
    · have := h.lo k (Or.inl e); omega
    · have := h.lo k (Or.inr (Or.inl e)); omega
    · exact e.1.2
    · exact dX k e
  · rcases e with e | e | e | e
    · exact hD' _ (hDD k (Or.inl e))
    · exact hD' _ (hDD k (Or.inr (Or.inl e)))
    · rcases e.1.1 with e | e | e
      · exact hD' _ (e3 k e)
      · exact hD' _ (hD k e.1)
      · exact (hl k e).1
    · rcases e with e | e | e
      · exact hD' _ (hDD k (Or.inr (Or.inr (Or.inr e))))
      · exact (hY k e).1
      · exact hD' _ (hD k (lN k e))
  · rcases e with e | e | e | e | e | e | e
    · exact hPP k (Or.inl e)
    · exact hPP k (Or.inr (Or.inl e))
    · exact hPP k (Or.inr (Or.inr (Or.inl e)))
    · exact hPP k (Or.inr (Or.inr (Or.inr (Or.inl e))))
    · exact hPP k (Or.inr (Or.inr (Or.inr (Or.inr (Or.inl e)))))
    · rcases hAn k e with e | e
      · exact hPP k (Or.inr (Or.inr (Or.inr (Or.inr (Or.inr (Or.inl e))))))
      · exact hp k e
    · rcases hB14 k e with e | e
      · exact hPP k (Or.inr (Or.inr (Or.inr (Or.inr (Or.inr (Or.inr e))))))
      · exact hp k (by have := c14.size; omega)
  · rcases e with e | e | e
    · exact hPP k (Or.inl e)
    · exact hPP k (Or.inr (Or.inr (Or.inr (Or.inr (Or.inr (Or.inl e))))))
    · exact hPP k (Or.inr (Or.inr (Or.inr (Or.inr (Or.inr (Or.inr e))))))
end Go.Proofs.YtblmoilneiffgaaGreat

/- A book of numbers, instructions and exits: a trace put in; looked at to the end. -/
set_option maxRecDepth 100000
namespace Go.Proofs.YtblmoilneiffgaaGreat
open Go.RowKit

theorem BkT.trace {D P : Nat → Prop} {w : World} {b : Nat} (h : BkT D P w b) (hD : ∀ k, w.heap.size ≤ k → D k) (hp : ∀ k, w.heap.size ≤ k → P k) {t : TrP} {v : TrG} {F : Nat → Prop} (ht : TrOw F w t v) (hs : SmT v) {D' : Nat → Prop} (hD' : ∀ k, D k → D' k) (hF : ∀ k, F k → D' k ∧ ¬ D k ∧ ¬ P k) :
    Calls Tryz.prog fn_hollowaybook_Book_Trace #[.pointer (some ⟨b, 0, none⟩), .agg (trP t).toArray] w fun e w' => e = .returned (.tuple #[]) ∧ BkT D' P w' b ∧ Chg P w w' := by
  refine (hollowaybook_Book_Trace_lift (K := fun r w' => r = .tuple #[] ∧ BkT D' P w' b ∧ Chg P w w') ?_).mono (by rintro e w' ⟨r, rfl, rfl, h⟩; exact ⟨rfl, h⟩)
  unfold hollowaybook_Book_Trace_sh
  intro b11 w12 hb11 hw12
  have c12 := al hw12
  have z12 : w12.heap.size = w.heap.size + 1 := by rw [hw12]; simp
  have o12 : Ob w12 b11 (trP t) T_api_Trace := by rw [hw12, hb11]; exact Ob.new w (trP t) T_api_Trace
  have lt12 := o12.lt
  have flt : ∀ k, F k → k < w.heap.size := fun k hk => by
    rcases Nat.lt_or_ge k w.heap.size with h1 | h1
    · exact h1
    · exact absurd (hD k h1) (hF k hk).2.1
  have ht12 := ht.no c12
  obtain ⟨E, hE⟩ : ∃ E : Nat → Prop, E = fun k => D k ∧ k ≠ b11 := ⟨_, rfl⟩
  obtain ⟨Q, hQ⟩ : ∃ Q : Nat → Prop, Q = fun k => P k ∧ k ≠ b11 := ⟨_, rfl⟩
  have hE1 : ∀ k, E k → D k ∧ k ≠ b11 := fun k hk => by rw [hE] at hk; exact hk
  have hQ1 : ∀ k, Q k → P k ∧ k ≠ b11 := fun k hk => by rw [hQ] at hk; exact hk
  have h12 : BkT E Q w12 b := by
    have g := h.nar
    rw [hE, hQ]
    exact (g.no c12).wid (fun k hk => ⟨hk.1, by have := hk.2; omega⟩) (fun k hk => ⟨hk.1, by have := hk.2; omega⟩)
  have hEs : ∀ k, w12.heap.size ≤ k → E k := fun k hk => by rw [hE]; exact ⟨hD k (by omega), by omega⟩
  have hQs : ∀ k, w12.heap.size ≤ k → Q k := fun k hk => by rw [hQ]; exact ⟨hp k (by omega), by omega⟩
  obtain ⟨os, hos, hov⟩ := ht12.outs
  have nE : ∀ k, F k → ¬ E k := fun k hk he => (hF k hk).2.1 (hE1 k he).1
  have nQ : ∀ k, F k → ¬ Q k := fun k hk he => (hF k hk).2.2 (hQ1 k he).1
  refine ⟨t.ins, o12.cell rfl, ?_⟩
  refine (h12.codes hEs hQs ht12.ins.ox (by have := hs.ins; omega) (D' := fun k => E k ∨ t.ins.blk = some k) (fun k hk => Or.inl hk) (fun k hk => ⟨Or.inr hk, nE k (ht.insD k hk)⟩)).mono ?_
  rintro e w15 ⟨rfl, h15, c15⟩
  have z15 := c15.size
  have o15 := o12.chg c15 (fun he => (hQ1 _ he).2 rfl)
  refine ⟨rfl, t.outs, o15.cell rfl, ?_⟩
  have hos15 := hos.chg c15 (fun k hk he => nQ k (ht.outsD k hk).1 he)
  have hov15 := hov.chg c15 (fun k hk he => nQ k hk.1 he)
  have hcl15 := ht12.cells.chg c15 (fun k hk he => nQ k (ht.cellsD k hk).1 he)
  refine (h15.exits (fun k hk => Or.inl (hEs k (by omega))) (fun k hk => hQs k (by omega)) hos15.ox hov15 hs.outs hs.each (D' := fun k => (E k ∨ t.ins.blk = some k) ∨ (F k ∧ t.cells.blk ≠ some k)) (fun k hk => Or.inl hk) (fun k hk => ⟨Or.inr ⟨(ht.outsD k hk).1, fun he => (ht.cellsD k he).2.2 hk⟩, fun he => ?_, fun hy => hy.2.2.1 hk⟩) (fun k hk => ⟨Or.inr ⟨hk.1, hk.2.2.2.1⟩, fun he => ?_⟩)).mono ?_
  · rcases he with he | he
    · exact nE k (ht.outsD k hk).1 he
    · exact (ht.outsD k hk).2 he
  · rcases he with he | he
    · exact nE k hk.1 he
    · exact hk.2.1 he
  rintro e w18 ⟨rfl, h18, c18⟩
  have z18 := c18.size
  have o18 := o15.chg c18 (fun he => (hQ1 _ he).2 rfl)
  refine ⟨rfl, t.cells, o18.cell rfl, ?_⟩
  have hcl18 := hcl15.chg c18 (fun k hk he => nQ k (ht.cellsD k hk).1 he)
  refine (h18.ints (fun k hk => Or.inl (Or.inl (hEs k (by omega)))) (fun k hk => hQs k (by omega)) hcl18.ox (by have := hs.cells; omega) (D' := D') (fun k hk => ?_) (fun k hk => ⟨(hF k (ht.cellsD k hk).1).1, fun he => ?_⟩)).mono ?_
  · rcases hk with (hk | hk) | hk
    · exact hD' k (hE1 k hk).1
    · exact (hF k (ht.insD k hk)).1
    · exact (hF k hk.1).1
  · rcases he with (he | he) | he
    · exact nE k (ht.cellsD k hk).1 he
    · exact (ht.cellsD k hk).2.1 he
    · exact he.2 hk
  rintro e w21 ⟨rfl, h21, c21⟩
  exact ⟨rfl, rfl, h21.wid (fun k hk => hk) (fun k hk => (hQ1 k hk).1), (((c12.mono (fun _ _ h => h.elim)).trans c15 (U := P) (fun _ _ h => h) (fun k _ hk => (hQ1 k hk).1)).trans c18 (fun _ _ h => h) (fun k _ hk => (hQ1 k hk).1)).trans c21 (fun _ _ h => h) (fun k _ hk => (hQ1 k hk).1)⟩
theorem BkT.apart {D P : Nat → Prop} {w : World} {b : Nat} (h : BkT D P w b) : Calls Tryz.prog fn_hollowaybook_Book_Apart #[.pointer (some ⟨b, 0, none⟩)] w fun e w' => e = .returned (.bool true) ∧ Chg D w w' := by
  refine (hollowaybook_Book_Apart_lift (K := fun r w' => r = .bool true ∧ Chg D w w') ?_).mono (by rintro e w' ⟨r, rfl, rfl, h⟩; exact ⟨rfl, h⟩)
  unfold hollowaybook_Book_Apart_sh
  obtain ⟨A1, B1, l1, s1, x1, A2, B2, l2, s2, x2, A3, B3, l3, s3, x3, D1, D2, D3, X, h, ⟨hb, hDD⟩, _⟩ := h
  have L1 : ∀ k, blksOf l1 k → D1 k := fun k e => (h.k1.dl k e).1
  have L2 : ∀ k, blksOf l2 k → D2 k := fun k e => (h.k2.dl k e).1
  have L3 : ∀ k, blksOf l3 k → D3 k := fun k e => (h.k3.dl k e).1
  have M1 : ∀ k, A1.blk = some k → D1 k := fun k e => (h.k1.dA k e).1
  have M2 : ∀ k, A2.blk = some k → D2 k := fun k e => (h.k2.dA k e).1
  have M3 : ∀ k, A3.blk = some k → D3 k := fun k e => (h.k3.dA k e).1
  have b1 : ¬ blksOf l1 b := fun e => h.nb.1 (L1 b e)
  have b2 : ¬ blksOf l2 b := fun e => h.nb.2.1 (L2 b e)
  have b3 : ¬ blksOf l3 b := fun e => h.nb.2.2.1 (L3 b e)
  have d12 := h.d12
  have d13 := h.d13
  have d23 := h.d23
  have o1 : ∀ k, blksOf l1 k → k < w.heap.size := fun k e => (h.k1.dl k e).2.2
  have o2 : ∀ k, blksOf l2 k → k < w.heap.size := fun k e => (h.k2.dl k e).2.2
  have o3 : ∀ k, blksOf l3 k → k < w.heap.size := fun k e => (h.k3.dl k e).2.2
  have hK1 : KB intE T_sl_int w b 2 A1 B1 l1 s1 x1 := ⟨h.ob.cell rfl, h.ob.cell rfl, h.k1.oA.rd, h.k1.oB.rd, h.k1.len, h.k1.lenB, by have := h.n1; omega, h.k1.ox, h.k1.rd, h.k1.dis, b1, fun k e => (h.k1.dA k e).2.2.2.1⟩
  have hK2 : KB insE T_sl_api_Ins w b 8 A2 B2 l2 s2 x2 := ⟨h.ob.cell rfl, h.ob.cell rfl, h.k2.oA.rd, h.k2.oB.rd, h.k2.len, h.k2.lenB, by have := h.n2; omega, h.k2.ox, h.k2.rd, h.k2.dis, b2, fun k e => (h.k2.dA k e).2.2.2.1⟩
  have hP1 : KP intE T_sl_int w b 2 A1 l1 x1 := ⟨h.ob.cell rfl, h.k1.oA.rd, h.k1.len, by have := h.n1; omega, h.k1.ox, h.k1.dis, b1, fun k e => (h.k1.dA k e).2.2.2.1⟩
  have hP2 : KP insE T_sl_api_Ins w b 8 A2 l2 x2 := ⟨h.ob.cell rfl, h.k2.oA.rd, h.k2.len, by have := h.n2; omega, h.k2.ox, h.k2.dis, b2, fun k e => (h.k2.dA k e).2.2.2.1⟩
  have hP3 : KP ouE T_sl_api_Out w b 10 A3 l3 x3 := ⟨h.ob.cell rfl, h.k3.oA.rd, h.k3.len, by have := h.n3; omega, h.k3.ox, h.k3.dis, b3, fun k e => (h.k3.dA k e).2.2.2.1⟩
  have hc : ∀ j : Nat, j = 0 ∨ j = 4 ∨ j = 6 → w.cell? ⟨b, j, none⟩ = some nilS.val := fun j hj => by rcases hj with rfl | rfl | rfl <;> exact h.ob.cell rfl
  refine (stillTexts_nil (hc 0 (by omega))).mono ?_
  rintro e wz ⟨rfl, rfl⟩
  refine ⟨_, rfl, brN_f ?_⟩
  refine (stillInts_any hK1).mono ?_
  rintro e w1 ⟨rfl, c1⟩
  have hc1 : ∀ j : Nat, j = 0 ∨ j = 4 ∨ j = 6 → w1.cell? ⟨b, j, none⟩ = some nilS.val := fun j hj => c1.cell (hc j hj) (fun h => h)
  refine ⟨_, rfl, brN_f ?_⟩
  refine (stillWords_nil (hc1 4 (by omega))).mono ?_
  rintro e wz ⟨rfl, rfl⟩
  refine ⟨_, rfl, brN_f ?_⟩
  refine (stillSeens_nil (hc1 6 (by omega))).mono ?_
  rintro e wz ⟨rfl, rfl⟩
  refine ⟨_, rfl, brN_f ?_⟩
  refine (stillCodes_any (hK2.no c1)).mono ?_
  rintro e w2 ⟨rfl, c2⟩
  refine ⟨_, rfl, brN_f ?_⟩
  have c12 := trN c1 c2
  refine (stillExits_any (hP3.chg c12 (fun h => h) (fun _ _ h => h) (fun _ _ h => h)) (c12.cell (h.ob.cell rfl) (fun h => h)) (h.k3.oB.rd.no c12) (by have := h.k3.len; have := h.k3.lenB; omega) (h.sx.chg c12 (fun _ _ h => h) (fun _ _ h => h))).mono ?_
  rintro e w3 ⟨rfl, c3⟩
  have cS := trN c12 c3
  have hcS : ∀ j : Nat, j = 0 ∨ j = 4 ∨ j = 6 → w3.cell? ⟨b, j, none⟩ = some nilS.val := fun j hj => cS.cell (hc j hj) (fun h => h)
  refine ⟨_, rfl, brN_f ?_⟩
  refine (putExits_any (hP3.chg cS (fun h => h) (fun _ _ h => h) (fun _ _ h => h))).mono ?_
  rintro e w4 ⟨rfl, m3, c4⟩
  have k4 : Chg (blksOf l3) w w4 := cS.trans c4 (fun _ _ h => h.elim) (fun _ _ h => h)
  have hc4 : ∀ j : Nat, j = 0 ∨ j = 4 ∨ j = 6 → w4.cell? ⟨b, j, none⟩ = some nilS.val := fun j hj => k4.cell (hc j hj) b3
  refine ⟨rfl, ?_⟩
  refine (putTexts_nil (hc4 0 (by omega))).mono ?_
  rintro e wz ⟨rfl, rfl⟩
  refine ⟨rfl, ?_⟩
  refine (putIntsX_any (hP1.chg k4 b3 (fun k e f => d13 k (M1 k e) (L3 k f)) (fun k e f => d13 k (L1 k e) (L3 k f)))).mono ?_
  rintro e w5 ⟨rfl, m1, c5⟩
  have k5 : Chg (fun k => blksOf l3 k ∨ blksOf l1 k) w w5 := k4.trans c5 (fun _ _ h => Or.inl h) (fun _ _ h => Or.inr h)
  have m3' := m3.chg c5 b1 (fun k e f => d13 k (L1 k f) (M3 k e)) (fun k e f => d13 k (L1 k f) (L3 k e))
  have hc5 : ∀ j : Nat, j = 0 ∨ j = 4 ∨ j = 6 → w5.cell? ⟨b, j, none⟩ = some nilS.val := fun j hj => c5.cell (hc4 j hj) b1
  refine ⟨rfl, ?_⟩
  refine (putWords_nil (hc5 4 (by omega))).mono ?_
  rintro e wz ⟨rfl, rfl⟩
  refine ⟨rfl, ?_⟩
  refine (putSeens_nil (hc5 6 (by omega))).mono ?_
  rintro e wz ⟨rfl, rfl⟩
  refine ⟨rfl, ?_⟩
  refine (putCodes_any (hP2.chg k5 (fun f => f.elim b3 b1) (fun k e f => f.elim (fun f => d23 k (M2 k e) (L3 k f)) (fun f => d12 k (L1 k f) (M2 k e))) (fun k e f => f.elim (fun f => d23 k (L2 k e) (L3 k f)) (fun f => d12 k (L1 k f) (L2 k e))))).mono ?_
  rintro e w6 ⟨rfl, m2, c6⟩
  have m3x := m3'.chg c6 b2 (fun k e f => d23 k (L2 k f) (M3 k e)) (fun k e f => d23 k (L2 k f) (L3 k e))
  have m1x := m1.chg c6 b2 (fun k e f => d12 k (M1 k e) (L2 k f)) (fun k e f => d12 k (L1 k e) (L2 k f))
  have hc6 : ∀ j : Nat, j = 0 ∨ j = 4 ∨ j = 6 → w6.cell? ⟨b, j, none⟩ = some nilS.val := fun j hj => c6.cell (hc5 j hj) b2
  have k6 : Chg (fun k => (blksOf l3 k ∨ blksOf l1 k) ∨ blksOf l2 k) w w6 := k5.trans c6 (fun _ _ h => Or.inl h) (fun _ _ h => Or.inr h)
  have z6 := k6.size
  refine ⟨rfl, ?_⟩
  refine (growTexts_nil (hc6 0 (by omega))).mono ?_
  rintro e wz ⟨rfl, rfl⟩
  refine ⟨nilS, rfl, ?_⟩
  refine (growIntsX_any m1x).mono ?_
  rintro e w7 ⟨out1, rfl, g1, q1, c7⟩
  have m2x := m2.chg c7 b1 (fun k e f => d12 k (L1 k f) (M2 k e)) (fun k e f => d12 k (L1 k f) (L2 k e))
  have m3y := m3x.chg c7 b1 (fun k e f => d13 k (L1 k f) (M3 k e)) (fun k e f => d13 k (L1 k f) (L3 k e))
  have hc7 : ∀ j : Nat, j = 0 ∨ j = 4 ∨ j = 6 → w7.cell? ⟨b, j, none⟩ = some nilS.val := fun j hj => c7.cell (hc6 j hj) b1
  have z7 := c7.size
  refine ⟨out1, rfl, ?_⟩
  refine (growWords_nil (hc7 4 (by omega))).mono ?_
  rintro e wz ⟨rfl, rfl⟩
  refine ⟨nilS, rfl, ?_⟩
  refine (growSeens_nil (hc7 6 (by omega))).mono ?_
  rintro e wz ⟨rfl, rfl⟩
  refine ⟨nilS, rfl, ?_⟩
  refine (growCodes_any m2x).mono ?_
  rintro e w8 ⟨out2, rfl, g2, q2, c8⟩
  have m3z := m3y.chg c8 b2 (fun k e f => d23 k (L2 k f) (M3 k e)) (fun k e f => d23 k (L2 k f) (L3 k e))
  have z8 := c8.size
  refine ⟨out2, rfl, ?_⟩
  refine (growExits_any m3z).mono ?_
  rintro e w9 ⟨out3, rfl, g3, q3, c9⟩
  have c79 : Chg (fun k => blksOf l2 k ∨ blksOf l3 k) w7 w9 := c8.trans c9 (fun _ _ h => Or.inl h) (fun _ _ h => Or.inr h)
  have hc9 : ∀ j : Nat, j = 0 ∨ j = 4 ∨ j = 6 → w9.cell? ⟨b, j, none⟩ = some nilS.val := fun j hj => c79.cell (hc7 j hj) (fun f => f.elim b2 b3)
  have G1 := g1.chg c79 (fun k e f => f.elim (fun f => d12 k (L1 k e) (L2 k f)) (fun f => d13 k (L1 k e) (L3 k f))) (fun k f => by have := f.elim (o2 k) (o3 k); omega)
  have G2 := g2.chg c9 (fun k e f => d23 k (L2 k e) (L3 k f)) (fun k f => by have := o3 k f; omega)
  have Q1 := q1.chg c79 (fun k e f => f.elim (fun f => d12 k (L1 k e) (L2 k f)) (fun f => d13 k (L1 k e) (L3 k f)))
  have Q2 := q2.chg c9 (fun k e f => d23 k (L2 k e) (L3 k f))
  have k9 : Chg (fun k => (blksOf l3 k ∨ blksOf l1 k) ∨ blksOf l2 k) w w9 := (k6.trans c7 (fun _ _ h => h) (fun _ _ h => Or.inl (Or.inr h))).trans c79 (fun _ _ h => h) (fun _ _ h => h.elim Or.inr (fun h => Or.inl (Or.inl h)))
  have c69 : Chg (fun k => (blksOf l3 k ∨ blksOf l1 k) ∨ blksOf l2 k) w6 w9 := c7.trans c79 (fun _ _ h => Or.inl (Or.inr h)) (fun _ _ h => h.elim Or.inr (fun h => Or.inl (Or.inl h)))
  have nL : ¬ ((blksOf l3 b ∨ blksOf l1 b) ∨ blksOf l2 b) := fun f => f.elim (fun f => f.elim b3 b1) b2
  have U1 : Grown' intE T_sl_int mkI w9 A1 l1.length := Q1.asGrown (m1x.rA.chg c69 (fun k e f => f.elim (fun f => f.elim (fun f => d13 k (M1 k e) (L3 k f)) (m1x.nA k e)) (fun f => d12 k (M1 k e) (L2 k f)))) (fun i s hs => by have := (m1x.ox i s hs).2; omega)
  have U2 : Grown' insE T_sl_api_Ins mkC w9 A2 l2.length := Q2.asGrown ((m2.rA.chg c69 (fun k e f => f.elim (fun f => f.elim (fun f => d23 k (M2 k e) (L3 k f)) (fun f => d12 k (L1 k f) (M2 k e))) (m2.nA k e)))) (fun i s hs => by have := (m2.ox i s hs).2; omega)
  have U3 : Grown' ouE T_sl_api_Out mkX w9 A3 l3.length := q3.asGrown (m3z.rA.chg c9 m3z.nA) (fun i s hs => by have := (m3z.ox i s hs).2; omega)
  have cl1 : w9.cell? ⟨b, 2, none⟩ = some A1.val := k9.cell (h.ob.cell rfl) nL
  have cl2 : w9.cell? ⟨b, 8, none⟩ = some A2.val := k9.cell (h.ob.cell rfl) nL
  have cl3 : w9.cell? ⟨b, 10, none⟩ = some A3.val := k9.cell (h.ob.cell rfl) nL
  have c0 : Chg No w9 w9 := Chg.refl _ _
  refine ⟨out3, rfl, ?_⟩
  refine (markedTexts_nil _).mono ?_
  rintro e wz ⟨rfl, rfl⟩
  refine ⟨_, rfl, brB_t ⟨nilS, c0.cell (hc9 0 (by omega)) (fun h => h), ?_⟩⟩
  refine (markedTexts_nil _).mono ?_
  rintro e wz ⟨rfl, rfl⟩
  refine ⟨_, rfl, brB_t ?_⟩
  refine (markedInts_any (by have := h.n1; omega) (G1.old.no c0)).mono ?_
  rintro e wa1 ⟨rfl, ca1⟩
  have e1 := trN c0 ca1
  refine ⟨_, rfl, brB_t ⟨A1, e1.cell cl1 (fun h => h), ?_⟩⟩
  refine (markedInts_any (by have := h.n1; omega) (U1.no e1)).mono ?_
  rintro e wb1 ⟨rfl, cb1⟩
  have f1 := trN e1 cb1
  refine ⟨_, rfl, brB_t ?_⟩
  refine (markedWords_nil _).mono ?_
  rintro e wz ⟨rfl, rfl⟩
  refine ⟨_, rfl, brB_t ⟨nilS, f1.cell (hc9 4 (by omega)) (fun h => h), ?_⟩⟩
  refine (markedWords_nil _).mono ?_
  rintro e wz ⟨rfl, rfl⟩
  refine ⟨_, rfl, brB_t ?_⟩
  refine (markedSeens_nil _).mono ?_
  rintro e wz ⟨rfl, rfl⟩
  refine ⟨_, rfl, brB_t ⟨nilS, f1.cell (hc9 6 (by omega)) (fun h => h), ?_⟩⟩
  refine (markedSeens_nil _).mono ?_
  rintro e wz ⟨rfl, rfl⟩
  refine ⟨_, rfl, brB_t ?_⟩
  refine (markedCodes_any (by have := h.n2; omega) (G2.old.no f1)).mono ?_
  rintro e wa2 ⟨rfl, ca2⟩
  have e2 := trN f1 ca2
  refine ⟨_, rfl, brB_t ⟨A2, e2.cell cl2 (fun h => h), ?_⟩⟩
  refine (markedCodes_any (by have := h.n2; omega) (U2.no e2)).mono ?_
  rintro e wb2 ⟨rfl, cb2⟩
  have f2 := trN e2 cb2
  refine ⟨_, rfl, brB_t ?_⟩
  refine (markedExits_any (by have := h.n3; omega) (g3.old.no f2)).mono ?_
  rintro e wa3 ⟨rfl, ca3⟩
  have e3 := trN f2 ca3
  refine ⟨_, rfl, brB_t ⟨A3, e3.cell cl3 (fun h => h), ?_⟩⟩
  refine (markedExits_any (by have := h.n3; omega) (U3.no e3)).mono ?_
  rintro e wb3 ⟨rfl, cb3⟩
  have f3 := trN e3 cb3
  exact ⟨_, rfl, rfl, k9.trans f3 (fun k _ f => f.elim (fun f => f.elim (fun f => hDD k (Or.inr (Or.inr (Or.inl (L3 k f))))) (fun f => hDD k (Or.inl (L1 k f)))) (fun f => hDD k (Or.inr (Or.inl (L2 k f))))) (fun _ _ h => h.elim)⟩
end Go.Proofs.YtblmoilneiffgaaGreat

/- Machines whose lists have room behind them, in which a mark stands; a machine's lists in the book. -/
set_option maxRecDepth 100000
namespace Go.Proofs.YtblmoilneiffgaaGreat
open Go.RowKit

structure StLent (D : Nat → Prop) (w : World) (S : StC) (s : StV) : Prop where
  nums : StNums S s
  st : Lent w S.stack s.stack
  bk : Lent w S.back s.back
  me : Lent w S.mem s.mem
  stD : ∀ k, S.stack.blk = some k → D k
  bkD : ∀ k, S.back.blk = some k → D k
  meD : ∀ k, S.mem.blk = some k → D k
theorem StLent.is {D : Nat → Prop} {w : World} {S : StC} {s : StV} (h : StLent D w S s) : StIs D w S s := ⟨h.nums, h.st.rd, h.bk.rd, h.me.rd, h.stD, h.bkD, h.meD⟩
theorem StLent.chg {D S' : Nat → Prop} {w w' : World} {S : StC} {s : StV} (h : StLent D w S s) (c : Chg S' w w') (hS : ∀ k, D k → ¬ S' k) : StLent D w' S s :=
  ⟨h.nums, h.st.chg c (fun k hk => hS _ (h.stD k hk)), h.bk.chg c (fun k hk => hS _ (h.bkD k hk)), h.me.chg c (fun k hk => hS _ (h.meD k hk)), h.stD, h.bkD, h.meD⟩
theorem StLent.no {D : Nat → Prop} {w w' : World} {S : StC} {s : StV} (h : StLent D w S s) (c : Chg No w w') : StLent D w' S s := h.chg c (fun _ _ h => h)
theorem lentState_any {D : Nat → Prop} {w : World} (S : StC) {s : StV} (h : StIs D w S s) (h1 : s.stack.length ≤ 1000000) (h2 : s.back.length ≤ 1000000) (h3 : s.mem.length ≤ 1000000) : Calls Tryz.prog fn_hollowaybook_LentState #[.agg (stC S).toArray] w fun e w' => ∃ S' : StC, e = .returned (.agg (stC S').toArray) ∧ StLent (Lb w w') w' S' s ∧ Chg No w w' := by
  refine (hollowaybook_LentState_lift (K := fun r w' => ∃ S' : StC, r = .agg (stC S').toArray ∧ StLent (Lb w w') w' S' s ∧ Chg No w w') ?_).mono (by rintro e w' ⟨r, rfl, S', rfl, h⟩; exact ⟨S', rfl, h⟩)
  unfold hollowaybook_LentState_sh
  intro b11 w12 hb11 hw12 b13 w14 hb13 hw14
  have c12 := al hw12
  have c14 := al hw14
  have z12 : w12.heap.size = w.heap.size + 1 := by rw [hw12]; simp
  have z14 : w14.heap.size = w12.heap.size + 1 := by rw [hw14]; simp
  have o11 : Ob w14 b11 (stC S) T_api_State := by
    have : Ob w12 b11 (stC S) T_api_State := by rw [hw12, hb11]; exact Ob.new w (stC S) T_api_State
    exact this.no c14
  have o13 : Ob w14 b13 (stC st0) T_api_State := by rw [hw14, hb13]; exact Ob.new w12 (stC st0) T_api_State
  intro w15 hw15
  have c15 := dw hw15
  have k15 := trN (trN c12 c14) c15
  have z15 := c15.size
  have p11 := o11.no c15
  have p13 := o13.no c15
  have hd : ∀ {j : Nat} {u : Value}, (stC S)[j]? = some u → held (fun w' => Chg No w15 w') ⟨b11, j, none⟩ u := fun h => Ob.held (fun w' c => p11.no c) h
  refine ⟨fun w' => Chg No w15 w', Chg.refl _ _, S.stack, hd rfl, S.back, hd rfl, S.mem, hd rfl, ?_⟩
  refine (lentInts_any (h.st.no k15) h1).mono ?_
  rintro e w21 ⟨s22, rfl, g22, c21, n22⟩
  have k21 := trN k15 c21
  have z21 := c21.size
  refine ⟨s22, rfl, c21, ?_⟩
  refine (lentInts_any (h.bk.no k21) h2).mono ?_
  rintro e w24 ⟨s25, rfl, g25, c24, n25⟩
  have k24 := trN k21 c24
  have z24 := c24.size
  refine ⟨s25, rfl, trN c21 c24, ?_⟩
  refine (lentInts_any (h.me.no k24) h3).mono ?_
  rintro e w27 ⟨s28, rfl, g28, c27, n28⟩
  have k27 := trN k24 c27
  have z27 := c27.size
  have c1527 := trN (trN c21 c24) c27
  refine ⟨s28, rfl, c1527, (p11.no c1527).wr (by simp [stC]), fun w29 hw29 => ?_⟩
  obtain ⟨q11, d29⟩ := (p11.no c1527).up (k := 2) (vs := [s22.val]) (cs' := stC { S with stack := s22 }) (by simp [stC]) rfl hw29
  refine ⟨q11.wr (by simp [stC]), fun w30 hw30 => ?_⟩
  obtain ⟨q11, d30⟩ := q11.up (k := 3) (vs := [s25.val]) (cs' := stC { S with stack := s22, back := s25 }) (by simp [stC]) rfl hw30
  refine ⟨q11.wr (by simp [stC]), fun w31 hw31 => ?_⟩
  obtain ⟨q11, d31⟩ := q11.up (k := 4) (vs := [s28.val]) (cs' := stC { S with stack := s22, back := s25, mem := s28 }) (by simp [stC]) rfl hw31
  have d2731 : Chg (fun j => j = b11) w27 w31 := (d29.trans d30 (fun _ _ h => h) (fun _ _ h => h)).trans d31 (fun _ _ h => h) (fun _ _ h => h)
  have r13 := (p13.no c1527).chg d2731 (fun he => by omega)
  refine ⟨_, _, _, _, _, _, _, _, _, _, q11.cell rfl, q11.cell rfl, q11.cell rfl, q11.cell rfl, q11.cell rfl, q11.cell rfl, q11.cell rfl, q11.cell rfl, q11.cell rfl, q11.cell rfl, r13.wr (by simp [stC]), fun w42 hw42 => ?_⟩
  obtain ⟨r13, d42⟩ := r13.up (k := 0) (vs := stC { S with stack := s22, back := s25, mem := s28 }) (cs' := stC { S with stack := s22, back := s25, mem := s28 }) (by simp [stC]) rfl hw42
  have d2742 : Chg (fun j => j = b11 ∨ j = b13) w27 w42 := d2731.trans d42 (fun _ _ h => Or.inl h) (fun _ _ h => Or.inr h)
  have z42 := d2742.size
  have lbk : ∀ {u : World} {sl : Sl} {xs : List Int}, Lent u sl xs → ∀ k, sl.blk = some k → TyB T_int u k := fun h k hk => h.2.ty (by rw [← hk]; unfold Sl.blk Sl.val; cases Sl.ptr _ <;> rfl)
  have m : StLent (Lb w15 w27) w27 { S with stack := s22, back := s25, mem := s28 } s :=
    ⟨h.nums, (g22.no c24).no c27, g25.no c27, g28, (fun k hk => ⟨by have := n22 k hk; omega, Or.inl (lbk ((g22.no c24).no c27) k hk)⟩), (fun k hk => ⟨by have := n25 k hk; omega, Or.inl (lbk (g25.no c27) k hk)⟩), (fun k hk => ⟨by have := n28 k hk; omega, Or.inl (lbk g28 k hk)⟩)⟩
  have nb : ∀ k, Lb w15 w27 k → ¬ (k = b11 ∨ k = b13) := fun k hk he => by have := hk.1.1; omega
  have m' := m.chg d2742 nb
  have up : ∀ k, Lb w15 w27 k → Lb w w42 k := fun k hk => hk.to (by omega) d2742 (nb k hk)
  refine ⟨_, _, _, _, _, _, _, _, _, _, r13.cell rfl, r13.cell rfl, r13.cell rfl, r13.cell rfl, r13.cell rfl, r13.cell rfl, r13.cell rfl, r13.cell rfl, r13.cell rfl, r13.cell rfl, { S with stack := s22, back := s25, mem := s28 }, rfl, ?_, k27.trans d2742 (fun _ _ h => h) (fun k hk he => by omega)⟩
  exact ⟨m'.nums, m'.st, m'.bk, m'.me, fun k hk => up k (m'.stD k hk), fun k hk => up k (m'.bkD k hk), fun k hk => up k (m'.meD k hk)⟩
theorem staysState_any {D D' : Nat → Prop} {w : World} (m S : StC) {s : StV} (hm : StLent D w m s) (h : StIs D' w S s) : Calls Tryz.prog fn_hollowaybook_StaysState #[.agg (stC m).toArray, .agg (stC S).toArray] w fun e w' => e = .returned (.bool true) ∧ Chg No w w' := by
  refine (hollowaybook_StaysState_lift (K := fun r w' => r = .bool true ∧ Chg No w w') ?_).mono (by rintro e w' ⟨r, rfl, rfl, h⟩; exact ⟨rfl, h⟩)
  unfold hollowaybook_StaysState_sh
  intro b21 w22 hb21 hw22 b23 w24 hb23 hw24
  have c22 := al hw22
  have c24 := al hw24
  have o21 : Ob w24 b21 (stC m) T_api_State := by
    have : Ob w22 b21 (stC m) T_api_State := by rw [hw22, hb21]; exact Ob.new w (stC m) T_api_State
    exact this.no c24
  have o23 : Ob w24 b23 (stC S) T_api_State := by rw [hw24, hb23]; exact Ob.new w22 (stC S) T_api_State
  have k24 := trN c22 c24
  refine ⟨_, _, _, _, _, _, _, _, _, _, o21.cell rfl, o21.cell rfl, o21.cell rfl, o21.cell rfl, o21.cell rfl, o21.cell rfl, o21.cell rfl, o21.cell rfl, o21.cell rfl, o21.cell rfl, ?_⟩
  refine ⟨_, _, _, _, _, _, _, _, _, _, o23.cell rfl, o23.cell rfl, o23.cell rfl, o23.cell rfl, o23.cell rfl, o23.cell rfl, o23.cell rfl, o23.cell rfl, o23.cell rfl, o23.cell rfl, (sameState_any m S (hm.no k24).is (h.no k24)).mono ?_⟩
  rintro e w46 ⟨rfl, c46⟩
  have k46 := trN k24 c46
  refine ⟨_, rfl, brB_t ⟨m.stack, (o21.no c46).cell rfl, S.stack, (o23.no c46).cell rfl, (staysInts_any (hm.no k46).st (h.no k46).st).mono ?_⟩⟩
  rintro e w51 ⟨rfl, c51⟩
  have k51 := trN k46 c51
  have d51 := trN c46 c51
  refine ⟨_, rfl, brB_t ⟨m.back, (o21.no d51).cell rfl, S.back, (o23.no d51).cell rfl, (staysInts_any (hm.no k51).bk (h.no k51).bk).mono ?_⟩⟩
  rintro e w56 ⟨rfl, c56⟩
  have k56 := trN k51 c56
  have d56 := trN d51 c56
  refine ⟨_, rfl, brB_t ⟨m.mem, (o21.no d56).cell rfl, S.mem, (o23.no d56).cell rfl, (staysInts_any (hm.no k56).me (h.no k56).me).mono ?_⟩⟩
  rintro e w61 ⟨rfl, c61⟩
  exact ⟨_, rfl, rfl, trN k56 c61⟩
theorem BkT.state {D P : Nat → Prop} {w : World} {b : Nat} (h : BkT D P w b) (hD : ∀ k, w.heap.size ≤ k → D k) (hp : ∀ k, w.heap.size ≤ k → P k) {S : StC} {s : StV} {F : Nat → Prop} (hs : StOw F w S s) (h1 : s.stack.length ≤ 1000000) (h2 : s.back.length ≤ 1000000) (h3 : s.mem.length ≤ 1000000) {D' : Nat → Prop} (hD' : ∀ k, D k → D' k) (hF : ∀ k, F k → D' k ∧ ¬ D k ∧ ¬ P k) :
    Calls Tryz.prog fn_hollowaybook_Book_State #[.pointer (some ⟨b, 0, none⟩), .agg (stC S).toArray] w fun e w' => e = .returned (.tuple #[]) ∧ BkT D' P w' b ∧ Chg P w w' := by
  refine (hollowaybook_Book_State_lift (K := fun r w' => r = .tuple #[] ∧ BkT D' P w' b ∧ Chg P w w') ?_).mono (by rintro e w' ⟨r, rfl, rfl, h⟩; exact ⟨rfl, h⟩)
  unfold hollowaybook_Book_State_sh
  intro b11 w12 hb11 hw12
  have c12 := al hw12
  have z12 : w12.heap.size = w.heap.size + 1 := by rw [hw12]; simp
  have o12 : Ob w12 b11 (stC S) T_api_State := by rw [hw12, hb11]; exact Ob.new w (stC S) T_api_State
  have lt12 := o12.lt
  obtain ⟨E, hE⟩ : ∃ E : Nat → Prop, E = fun k => D k ∧ k ≠ b11 := ⟨_, rfl⟩
  obtain ⟨Q, hQ⟩ : ∃ Q : Nat → Prop, Q = fun k => P k ∧ k ≠ b11 := ⟨_, rfl⟩
  have hE1 : ∀ k, E k → D k ∧ k ≠ b11 := fun k hk => by rw [hE] at hk; exact hk
  have hQ1 : ∀ k, Q k → P k ∧ k ≠ b11 := fun k hk => by rw [hQ] at hk; exact hk
  have h12 : BkT E Q w12 b := by
    have g := h.nar
    rw [hE, hQ]
    exact (g.no c12).wid (fun k hk => ⟨hk.1, by have := hk.2; omega⟩) (fun k hk => ⟨hk.1, by have := hk.2; omega⟩)
  have hEs : ∀ k, w12.heap.size ≤ k → E k := fun k hk => by rw [hE]; exact ⟨hD k (by omega), by omega⟩
  have hQs : ∀ k, w12.heap.size ≤ k → Q k := fun k hk => by rw [hQ]; exact ⟨hp k (by omega), by omega⟩
  have nE : ∀ k, F k → ¬ E k := fun k hk he => (hF k hk).2.1 (hE1 k he).1
  have nQ : ∀ k, F k → ¬ Q k := fun k hk he => (hF k hk).2.2 (hQ1 k he).1
  have hs12 := hs.no c12
  refine ⟨S.stack, o12.cell rfl, ?_⟩
  refine (h12.ints hEs hQs hs12.st.ox (by omega) (D' := fun k => E k ∨ S.stack.blk = some k) (fun k hk => Or.inl hk) (fun k hk => ⟨Or.inr hk, nE k (hs.stD k hk)⟩)).mono ?_
  rintro e w15 ⟨rfl, h15, c15⟩
  have z15 := c15.size
  have o15 := o12.chg c15 (fun he => (hQ1 _ he).2 rfl)
  have hs15 := hs12.chg c15 (fun k hk he => nQ k hk he)
  refine ⟨rfl, S.back, o15.cell rfl, ?_⟩
  refine (h15.ints (fun k hk => Or.inl (hEs k (by omega))) (fun k hk => hQs k (by omega)) hs15.bk.ox (by omega) (D' := fun k => (E k ∨ S.stack.blk = some k) ∨ S.back.blk = some k) (fun k hk => Or.inl hk) (fun k hk => ⟨Or.inr hk, fun he => ?_⟩)).mono ?_
  · rcases he with he | he
    · exact nE k (hs.bkD k hk).1 he
    · exact (hs.bkD k hk).2 he
  rintro e w18 ⟨rfl, h18, c18⟩
  have z18 := c18.size
  have o18 := o15.chg c18 (fun he => (hQ1 _ he).2 rfl)
  have hs18 := hs15.chg c18 (fun k hk he => nQ k hk he)
  refine ⟨rfl, S.mem, o18.cell rfl, ?_⟩
  refine (h18.ints (fun k hk => Or.inl (Or.inl (hEs k (by omega)))) (fun k hk => hQs k (by omega)) hs18.me.ox (by omega) (D' := D') (fun k hk => ?_) (fun k hk => ⟨(hF k (hs.meD k hk).1).1, fun he => ?_⟩)).mono ?_
  · rcases hk with (hk | hk) | hk
    · exact hD' k (hE1 k hk).1
    · exact (hF k (hs.stD k hk)).1
    · exact (hF k (hs.bkD k hk).1).1
  · rcases he with (he | he) | he
    · exact nE k (hs.meD k hk).1 he
    · exact (hs.meD k hk).2.1 he
    · exact (hs.meD k hk).2.2 he
  rintro e w21 ⟨rfl, h21, c21⟩
  exact ⟨rfl, rfl, h21.wid (fun k hk => hk) (fun k hk => (hQ1 k hk).1), (((c12.mono (fun _ _ h => h.elim)).trans c15 (U := P) (fun _ _ h => h) (fun k _ hk => (hQ1 k hk).1)).trans c18 (fun _ _ h => h) (fun k _ hk => (hQ1 k hk).1)).trans c21 (fun _ _ h => h) (fun k _ hk => (hQ1 k hk).1)⟩
theorem done_neq (x1 n1 x2 n2 : Int) (h1 h2 : Bool) (x y : Operand) (w : World) : ((do eqGuard .neq T_eval_Done x y (.agg #[.int .i64 x1, .int .i64 n1, .bool h1]) (.agg #[.int .i64 x2, .int .i64 n2, .bool h2]); binOp .neq T_eval_Done (.agg #[.int .i64 x1, .int .i64 n1, .bool h1]) (.agg #[.int .i64 x2, .int .i64 n2, .bool h2]) : Sem Value)).run Tryz.prog w = .ok (.bool (!decide (x1 = x2 ∧ n1 = n2 ∧ h1 = h2))) w := by
  have u1 := Tryz.underlying3
  have u3 := Tryz.underlying4
  have hS : Tryz.prog.underlying T_eval_Done = some (.struct (Tryz.prog.fieldsOf T_eval_Done)) := by kernel_rfl
  have hp : Tryz.prog.stoodInHeld T_eval_Done = false := by kernel_rfl
  have hm : Tryz.prog.eqGuardType Tryz.prog.depth T_eval_Done = false := by kernel_rfl
  simp only [Sem.run_bind, run_eqGuard_agg w .neq T_eval_Done x y _ _ hm, Result.andThen_ok, run_neq_struct]
  rw [show (10000 : Nat) = 9999 + 1 from rfl, run_equalIn_agg w 9999 T_eval_Done _ _ hS hp]
  simp only [Program.fieldsOf, Tryz.underlying50]
  go_simp
  by_cases g1 : x1 = x2 <;> by_cases g2 : n1 = n2 <;> by_cases g3 : h1 = h2 <;> simp [g1, g2, g3]
end Go.Proofs.YtblmoilneiffgaaGreat
