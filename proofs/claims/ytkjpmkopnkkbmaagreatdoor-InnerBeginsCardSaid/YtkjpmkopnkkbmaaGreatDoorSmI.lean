/- hollowaybook.SameInts. -/
import Derived.Test.YtkjpmkopnkkbmaaGreatDoorBook
import Derived.Test.YtkjpmkopnkkbmaaGreatDoorIntE
import Derived.Test.YtkjpmkopnkkbmaaGreatDoorShHollowaybook
set_option maxRecDepth 100000
namespace Go.Proofs.YtkjpmkopnkkbmaaGreatDoor
open Go.RowKit

theorem addr0 (q : Addr) : q.add 0 = q := by unfold Addr.add; simp
theorem sameInts_ok : SameOk Tryz.prog intE fn_hollowaybook_SameInts := by
  intro s t xs w hs ht
  refine (hollowaybook_SameInts_lift (K := fun r w' => r = .bool true ∧ Chg No w w') ?_).mono (by rintro e w' ⟨r, rfl, rfl, h⟩; exact ⟨rfl, h⟩)
  unfold hollowaybook_SameInts_sh
  have h1 := hs.len
  have h2 := ht.len
  have hc := hs.capL
  have e1 : ((s.len : Int) != (t.len : Int)) = false := by rw [h1, h2]; simp
  rw [e1]
  refine brB_f ?_
  refine ⟨fun n w' => ∃ k : Nat, n = k ∧ k ≤ xs.length ∧ Chg No w w', fun n _ => xs.length - n.toNat, ⟨0, rfl, Nat.zero_le _, Chg.refl _ _⟩, ?_⟩
  rintro n w3 ⟨k, rfl, hk, hch⟩
  refine brB_of (fun hlt => ?_) (fun hlt => ⟨rfl, hch⟩)
  have hlt : k < xs.length := by simp at hlt; omega
  intro w5 hw5
  have c5 : Chg No w w5 := hch.trans (by rw [hw5]; exact Chg.drew No _) (fun _ _ h => h) (fun _ _ h => h)
  obtain ⟨x, hx⟩ : ∃ x, xs[k]? = some x := ⟨_, List.getElem?_eq_getElem hlt⟩
  refine (hs.no c5).ix (i := (k : Int)) (by omega) (by rw [Int.toNat_natCast]; exact hx) fun a ha hcell => ?_
  have q1 := hcell 0 _ rfl
  rw [addr0] at q1
  refine ⟨x, held_Lw q1, ?_⟩
  refine (ht.no c5).ix (i := (k : Int)) (by omega) (by rw [Int.toNat_natCast]; exact hx) fun a' ha' hcell' => ?_
  have q2 := hcell' 0 _ rfl
  rw [addr0] at q2
  refine ⟨x, held_Lw q2, ?_⟩
  have e2 : (!(x == x)) = false := by simp
  rw [e2]
  refine brB_f ?_
  rw [wr_of (by omega) (by omega)]
  exact ⟨⟨k + 1, by omega, by omega, c5⟩, by show xs.length - Int.toNat ((k : Int) + 1) < xs.length - Int.toNat (k : Int); omega⟩
end Go.Proofs.YtkjpmkopnkkbmaaGreatDoor
