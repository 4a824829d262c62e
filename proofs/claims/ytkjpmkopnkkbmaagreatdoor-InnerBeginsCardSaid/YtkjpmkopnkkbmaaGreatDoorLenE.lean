/- Lists with room behind them, in which a mark stands, of any kind; blocks told apart by their types. -/
import Derived.Test.YtkjpmkopnkkbmaaGreatDoorOx
import Derived.Test.YtkjpmkopnkkbmaaGreatDoorWr
set_option maxRecDepth 100000
namespace Go.Proofs.YtkjpmkopnkkbmaaGreatDoor
open Go.RowKit

/-- s reads as these, and behind them stands the mark, in a block of its own. -/
def LentE {α : Type} (E : Enc α) (x : α) (w : World) (s : Sl) (xs : List α) : Prop := s.len = xs.length ∧ Ow E w ⟨s.ptr, xs.length + 1, s.cap⟩ (xs ++ [x])
theorem addz0 (q : Addr) : q.add 0 = q := by unfold Addr.add; simp
section
variable {α : Type} {E : Enc α} {x : α} {w w' : World} {s : Sl} {xs : List α}
theorem LentE.rd (h : LentE E x w s xs) : Rd E w s xs := by
  have ht := (h.2.take (n := xs.length) (by simp)).rd
  rw [List.take_left] at ht
  have : s = ⟨s.ptr, xs.length, s.cap⟩ := by rw [← h.1]
  rw [this]; exact ht
theorem LentE.chg {S : Nat → Prop} (h : LentE E x w s xs) (c : Chg S w w') (hS : ∀ k, s.blk = some k → ¬ S k) : LentE E x w' s xs := by
  refine ⟨h.1, h.2.chg c (fun k hk => hS k ?_)⟩
  rw [← hk]; unfold Sl.blk Sl.val; cases s.ptr <;> rfl
theorem LentE.no (h : LentE E x w s xs) (c : Chg No w w') : LentE E x w' s xs := h.chg c (fun _ _ h => h)
theorem lent_app {T : TypeId} {P : Program} (ok : EncOk P E T) (hE : E.bytes ≤ 64) {s4 : Sl} {b5 : Nat} {w0 w3 w6 : World} {n : Nat} (hn : xs.length = n) (h4 : Ow E w3 s4 xs) (c3 : Chg No w0 w3) (b4 : ∀ k, s4.blk = some k → w0.heap.size ≤ k) (hb5 : b5 = w3.heap.size) (hw6 : w6 = World.alloc w3 (.cells (E.e x).toArray E.t)) (hl : xs.length ≤ 1000000)
    {G : Sl → World → Prop} (k : ∀ (s' : Sl) (w' : World), LentE E x w' s' xs → Chg No w0 w' → Chg (fun k => s4.blk = some k) w3 w' → (∀ k, s'.blk = some k → (w0.heap.size ≤ k ∧ k < w'.heap.size) ∧ (s4.blk = some k ∨ w3.heap.size ≤ k)) → G s' w') :
    ∃ s7 : Sl, ∃ w8 : World, (Builtin.append_ #[T, T] T #[s4.val, .slice (some ⟨b5, 0, none⟩) 1 1]).run P w6 = .ok (s7.val) w8 ∧
    0 ≤ (n : Int) ∧ (n : Int) ≤ (s7.cap : Int) ∧ ∀ s9 : Sl, s9 = Sl.sub s7.ptr s7.cap 0 (Int.toNat (n : Int)) E.sz → G s9 w8 := by
  have c6 : Chg No w3 w6 := by rw [hw6]; exact Chg.alloc _ _ _
  have l6 : Ow E w6 ⟨some ⟨b5, 0, none⟩, 1, 1⟩ [x] := by
    rw [hw6, hb5]; exact Ow.lit (E := E) w3 [x] (E.e x) (by simp [fl]) (by show 1 ≤ maxLen; unfold maxLen; omega)
  have hmul : (xs.length + 1) * E.bytes ≤ (1000000 + 1) * 64 := Nat.mul_le_mul (by omega) hE
  refine app_ok ok rfl rfl (h4.no c6) l6.rd (by show (xs.length + 1) * E.bytes ≤ _; omega) (by show xs.length + 1 ≤ _; unfold maxLen; omega) ?_
  intro s7 w8 h8 c8 b8
  have hl7 := h8.rd.len
  have hc7 := h8.rd.capL
  rw [List.length_append] at hl7 hc7
  have h1 : [x].length = 1 := rfl
  refine ⟨by omega, by omega, ?_⟩
  intro s9 hs9
  rw [sub0, Int.toNat_natCast] at hs9
  have hbk : s9.blk = s7.blk := by rw [hs9]; unfold Sl.blk Sl.val; cases s7.ptr <;> rfl
  have z3 := c3.size
  have z6 := c6.size
  refine k s9 w8 ⟨by rw [hs9]; exact hn.symm, ?_⟩ ((c3.trans c6 (U := No) (fun _ _ h => h) (fun _ _ h => h)).trans c8 (fun _ _ h => h) (fun k hk he => by have := b4 k he; omega)) (c6.trans c8 (fun _ _ h => h.elim) (fun _ _ h => h)) fun k hk => ⟨⟨?_, h8.lt (hbk ▸ hk)⟩, ?_⟩
  · have e7 : (⟨s9.ptr, xs.length + 1, s9.cap⟩ : Sl) = s7 := by rw [hs9]; cases s7; simp at hl7 ⊢; omega
    rw [e7]; exact h8
  · rw [hbk] at hk
    rcases b8 with hh | hh
    · exact b4 k (hh ▸ hk)
    · have := Option.some.inj (hh.symm.trans hk); omega
  · rw [hbk] at hk
    rcases b8 with hh | hh
    · exact Or.inl (hh ▸ hk)
    · have := Option.some.inj (hh.symm.trans hk); exact Or.inr (by omega)
/-- The mark behind it. -/
theorem LentE.mark (h : LentE E x w s xs) {n : Int} {r : List Value} (hx : E.e x = .int .i64 n :: r) {G : Prop} (g : G) :
    0 ≤ (wr ((s.len : Int) + (1 : Int))) ∧ (wr ((s.len : Int) + (1 : Int))) ≤ (s.cap : Int) ∧ ∀ s6 : Sl, s6 = Sl.sub s.ptr s.cap 0 (Int.toNat (wr ((s.len : Int) + (1 : Int)))) E.sz →
    ∃ a7 : Addr, s6.ptr = some a7 ∧ 0 ≤ (s.len : Int) ∧ (s.len : Int) < (s6.len : Int) ∧ ∃ n8 : Int, w.cell? (Addr.add a7 (Int.toNat (s.len : Int) * E.sz)) = some (.int .i64 n8) ∧ (n8 = n ∧ G) := by
  have hc := h.2.rd.capL
  rw [List.length_append] at hc
  have h1 : [x].length = 1 := rfl
  have hc1 : xs.length + 1 ≤ s.cap := by have := hc.1; omega
  have hc2 : s.cap ≤ 9223372036854775807 := hc.2
  have hml := h.1
  rw [wr_of (by omega) (by omega)]
  refine ⟨by omega, by omega, ?_⟩
  intro s6 hs6
  rw [sub0] at hs6
  have e6 : s6 = ⟨s.ptr, xs.length + 1, s.cap⟩ := by rw [hs6]; congr 1; omega
  have h6 : Rd E w s6 (xs ++ [x]) := by rw [e6]; exact h.2.rd
  refine h6.ix (i := (s.len : Int)) (x := x) (by omega) (by rw [Int.toNat_natCast, hml, List.getElem?_append_right (Nat.le_refl _)]; simp) fun a ha hcell => ?_
  have q1 := hcell 0 (.int .i64 n) (by rw [hx]; rfl)
  rw [addz0] at q1
  exact ⟨n, q1, rfl, g⟩
end
/-- The block holds cells of this type. -/
def TyB (T : TypeId) (w : World) (k : Nat) : Prop := ∃ arr z, w.heap[k]? = some (.cells arr T z)
theorem Ow.ty {α : Type} {E : Enc α} {w : World} {s : Sl} {xs : List α} (h : Ow E w s xs) {k : Nat} (hk : s.blk = some k) : TyB E.t w k := by
  have h' : Own w E.t E.sz s.val xs.length (fl E xs) := h
  rcases h'.2 with ⟨hv, _⟩ | ⟨g, cap, cur, hv, _, hg, _⟩
  · exfalso
    have : s.val.ownBlock = some k := hk
    rw [hv] at this; cases this
  · have : s.val.ownBlock = some k := hk
    rw [hv] at this
    have e : g = k := by injection this
    subst e
    exact ⟨_, _, hg⟩
theorem TyB.chg {T : TypeId} {S : Nat → Prop} {w w' : World} {k : Nat} (h : TyB T w k) (c : Chg S w w') (hS : ¬ S k) : TyB T w' k := by
  obtain ⟨arr, z, h⟩ := h
  exact ⟨arr, z, c.row h hS⟩
theorem TyB.ne {T U : TypeId} {w : World} {k b : Nat} {cs : List Value} (h : TyB T w k) (o : Ob w b cs U) (hTU : T ≠ U) : k ≠ b := fun e => by
  obtain ⟨arr, z, h⟩ := h
  subst e
  have := h.symm.trans o
  simp at this
  exact hTU this.2.1
end Go.Proofs.YtkjpmkopnkkbmaaGreatDoor
