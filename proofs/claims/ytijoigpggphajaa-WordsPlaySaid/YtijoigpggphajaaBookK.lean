/- The book's kinds: numbers and words: SameX, markX, copyX. -/
import Derived.Test.YtijoigpggphajaaBookC
import Derived.Test.YtijoigpggphajaaTr
import Derived.Test.YtijoigpggphajaaWd
import Derived.Test.YtijoigpggphajaaShHollowaybook
set_option maxRecDepth 100000
namespace Go.Proofs.Ytijoigpggphajaa
open Go.RowKit

def mkI (i k : Int) : Int := wr ((wr ((wr ((-1000000 : Int) * i)) - k)) - (7 : Int))
def mkW (i k : Int) : Wd := ⟨bs [], wr ((wr ((wr ((-1000 : Int) * i)) - k)) - (1 : Int)), 0, false⟩
theorem markInts_ok : MarkOk Try.prog intE mkI fn_hollowaybook_markInts := by
  intro i f m w hi hf
  refine (hollowaybook_markInts_lift (K := fun r w' => ∃ s : Sl, r = s.val ∧ Ow intE w' s (marks (mkI i) f m) ∧ Chg No w w' ∧ (∀ j, s.blk = some j → w.heap.size ≤ j)) ?_).mono (by rintro e w' ⟨r, rfl, s, rfl, h⟩; exact ⟨s, rfl, h⟩)
  unfold hollowaybook_markInts_sh
  exact mark_core (K := fun r w' => ∃ s : Sl, r = s.val ∧ Ow intE w' s (marks (mkI i) f m) ∧ Chg No w w' ∧ (∀ j, s.blk = some j → w.heap.size ≤ j)) intOk (by decide) (mkI i) f m hf fun s' w' h1 h2 h3 => ⟨s', rfl, h1, h2, h3⟩
theorem markWords_ok : MarkOk Try.prog wdE mkW fn_hollowaybook_markWords := by
  intro i f m w hi hf
  refine (hollowaybook_markWords_lift (K := fun r w' => ∃ s : Sl, r = s.val ∧ Ow wdE w' s (marks (mkW i) f m) ∧ Chg No w w' ∧ (∀ j, s.blk = some j → w.heap.size ≤ j)) ?_).mono (by rintro e w' ⟨r, rfl, s, rfl, h⟩; exact ⟨s, rfl, h⟩)
  unfold hollowaybook_markWords_sh
  exact mark_core (K := fun r w' => ∃ s : Sl, r = s.val ∧ Ow wdE w' s (marks (mkW i) f m) ∧ Chg No w w' ∧ (∀ j, s.blk = some j → w.heap.size ≤ j)) wdOk (by decide) (mkW i) f m hf fun s' w' h1 h2 h3 => ⟨s', rfl, h1, h2, h3⟩
theorem add0 (q : Addr) : q.add 0 = q := by unfold Addr.add; simp
theorem sameInts_ok : SameOk Try.prog intE fn_hollowaybook_SameInts := by
  intro s t xs w hs ht
  refine (hollowaybook_SameInts_lift (K := fun r w' => r = .bool true ∧ Chg No w w') ?_).mono (by rintro e w' ⟨r, rfl, rfl, h⟩; exact ⟨rfl, h⟩)
  unfold hollowaybook_SameInts_sh
  have h1 := hs.len
  have h2 := ht.len
  have hc := hs.capL
  have e1 : ((s.len : Int) != (t.len : Int)) = false := by rw [h1, h2]; simp
  rw [e1]
  refine brB_f ?_
  refine ⟨fun n w' => ∃ k : Nat, n = k ∧ k ≤ xs.length ∧ Chg No w w', fun n _ => xs.length - n.toNat, ⟨0, rfl, Nat.zero_le _, Chg.refl _ _⟩, ?_⟩
  rintro n w3 ⟨k, rfl, hk, hch⟩
  refine brB_of (fun hlt => ?_) (fun hlt => ⟨rfl, hch⟩)
  have hlt : k < xs.length := by simp at hlt; omega
  intro w5 hw5
  have c5 : Chg No w w5 := hch.trans (by rw [hw5]; exact Chg.drew No _) (fun _ _ h => h) (fun _ _ h => h)
  obtain ⟨x, hx⟩ : ∃ x, xs[k]? = some x := ⟨_, List.getElem?_eq_getElem hlt⟩
  refine (hs.no c5).ix (i := (k : Int)) (by omega) (by rw [Int.toNat_natCast]; exact hx) fun a ha hcell => ?_
  have q1 := hcell 0 _ rfl
  rw [add0] at q1
  refine ⟨x, held_Lw q1, ?_⟩
  refine (ht.no c5).ix (i := (k : Int)) (by omega) (by rw [Int.toNat_natCast]; exact hx) fun a' ha' hcell' => ?_
  have q2 := hcell' 0 _ rfl
  rw [add0] at q2
  refine ⟨x, held_Lw q2, ?_⟩
  have e2 : (!(x == x)) = false := by simp
  rw [e2]
  refine brB_f ?_
  rw [wr_of (by omega) (by omega)]
  exact ⟨⟨k + 1, by omega, by omega, c5⟩, by show xs.length - Int.toNat ((k : Int) + 1) < xs.length - Int.toNat (k : Int); omega⟩
theorem wdK_same (a : Wd) (x y : Operand) (w : World) : ((do eqGuard .eql T_api_Word x y (.agg (wdC a).toArray) (.agg (wdC a).toArray); binOp .eql T_api_Word (.agg (wdC a).toArray) (.agg (wdC a).toArray) : Sem Value)).run Try.prog w = .ok (.bool true) w := by
  rw [wd_eql]; simp
theorem sameWords_ok : SameOk Try.prog wdE fn_hollowaybook_SameWords := by
  intro s t xs w hs ht
  refine (hollowaybook_SameWords_lift (K := fun r w' => r = .bool true ∧ Chg No w w') ?_).mono (by rintro e w' ⟨r, rfl, rfl, h⟩; exact ⟨rfl, h⟩)
  unfold hollowaybook_SameWords_sh
  have h1 := hs.len
  have h2 := ht.len
  have hc := hs.capL
  have e1 : ((s.len : Int) != (t.len : Int)) = false := by rw [h1, h2]; simp
  rw [e1]
  refine brB_f ?_
  refine ⟨fun n w' => ∃ k : Nat, n = k ∧ k ≤ xs.length ∧ Chg No w w', fun n _ => xs.length - n.toNat, ⟨0, rfl, Nat.zero_le _, Chg.refl _ _⟩, ?_⟩
  rintro n w3 ⟨k, rfl, hk, hch⟩
  refine brB_of (fun hlt => ?_) (fun hlt => ⟨rfl, hch⟩)
  have hlt : k < xs.length := by simp at hlt; omega
  intro w5 hw5
  have c5 : Chg No w w5 := hch.trans (by rw [hw5]; exact Chg.drew No _) (fun _ _ h => h) (fun _ _ h => h)
  obtain ⟨x, hx⟩ : ∃ x, xs[k]? = some x := ⟨_, List.getElem?_eq_getElem hlt⟩
  refine (hs.no c5).ix (i := (k : Int)) (by omega) (by rw [Int.toNat_natCast]; exact hx) fun a ha hcell => ?_
  have q1 := hcell 0 _ rfl
  rw [add0] at q1
  refine ⟨x.name, x.xt, x.op, x.imm, held_Lw q1, held_Lw (hcell 1 _ rfl), held_Lw (hcell 2 _ rfl), held_Lw (hcell 3 _ rfl), ?_⟩
  refine (ht.no c5).ix (i := (k : Int)) (by omega) (by rw [Int.toNat_natCast]; exact hx) fun a' ha' hcell' => ?_
  have q2 := hcell' 0 _ rfl
  rw [add0] at q2
  refine ⟨x.name, x.xt, x.op, x.imm, held_Lw q2, held_Lw (hcell' 1 _ rfl), held_Lw (hcell' 2 _ rfl), held_Lw (hcell' 3 _ rfl), true, w5, wdK_same x _ _ w5, brB_f ?_⟩
  rw [wr_of (by omega) (by omega)]
  exact ⟨⟨k + 1, by omega, by omega, c5⟩, by show xs.length - Int.toNat ((k : Int) + 1) < xs.length - Int.toNat (k : Int); omega⟩
/-- What an element's cells are asked as, when it is marked. -/
def qI (S : World → Prop) (p : Addr) (F : List Value → Prop) : Prop := ∃ n : Int, held S p (.int .i64 n) ∧ F [.int .i64 n]
theorem qI_ok (w : World) (p : Addr) (x : Int) (F : List Value → Prop) (h : ∀ (j : Nat) (u : Value), (intE.e x)[j]? = some u → w.cell? (p.add j) = some u) (hF : F (intE.e x)) : qI (Lw w) p F := by
  have := h 0 _ rfl
  rw [add0] at this
  exact ⟨x, held_Lw this, hF⟩
def qW (S : World → Prop) (p : Addr) (F : List Value → Prop) : Prop := ∃ t : ByteArray, ∃ n : Int, ∃ m : Int, ∃ b : Bool, held S p (.string t) ∧ held S (p.add 1) (.int .i64 n) ∧ held S (p.add 2) (.int .i64 m) ∧ held S (p.add 3) (.bool b) ∧ F [.string t, .int .i64 n, .int .i64 m, .bool b]
theorem qW_ok (w : World) (p : Addr) (x : Wd) (F : List Value → Prop) (h : ∀ (j : Nat) (u : Value), (wdE.e x)[j]? = some u → w.cell? (p.add j) = some u) (hF : F (wdE.e x)) : qW (Lw w) p F := by
  have := h 0 _ rfl
  rw [add0] at this
  exact ⟨x.name, x.xt, x.op, x.imm, held_Lw this, held_Lw (h 1 _ rfl), held_Lw (h 2 _ rfl), held_Lw (h 3 _ rfl), hF⟩
end Go.Proofs.Ytijoigpggphajaa
