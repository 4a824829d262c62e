/- The book's functions for a kind of which nothing was put in. -/
import Derived.Test.YtkjpmkopnkkbmaaGreatDoorBkK
set_option maxRecDepth 100000
namespace Go.Proofs.YtkjpmkopnkkbmaaGreatDoor
open Go.RowKit

theorem noLen : decide ((0 : Int) < ((nilS.len : Nat) : Int)) = false := rfl
theorem stillTexts_nil {w : World} {b : Nat} (h : w.cell? ⟨b, 0, none⟩ = some nilS.val) : Calls Tryz.prog fn_hollowaybook_Book_stillTexts #[.pointer (some ⟨b, 0, none⟩)] w fun e w' => e = .returned (.bool true) ∧ w = w' := by
  refine (hollowaybook_Book_stillTexts_lift (K := fun r w' => r = .bool true ∧ w = w') ?_).mono (by rintro e w' ⟨r, rfl, rfl, h⟩; exact ⟨rfl, h⟩)
  unfold hollowaybook_Book_stillTexts_sh
  refine ⟨fun n w' => n = 0 ∧ w = w', fun _ _ => 0, ⟨rfl, rfl⟩, ?_⟩
  rintro n w2 ⟨rfl, rfl⟩
  refine ⟨nilS, h, ?_⟩
  rw [noLen]
  exact brB_f ⟨rfl, rfl⟩
theorem putTexts_nil {w : World} {b : Nat} (h : w.cell? ⟨b, 0, none⟩ = some nilS.val) : Calls Tryz.prog fn_hollowaybook_Book_putTexts #[.pointer (some ⟨b, 0, none⟩)] w fun e w' => e = .returned (.tuple #[]) ∧ w = w' := by
  refine (hollowaybook_Book_putTexts_lift (K := fun r w' => r = .tuple #[] ∧ w = w') ?_).mono (by rintro e w' ⟨r, rfl, rfl, h⟩; exact ⟨rfl, h⟩)
  unfold hollowaybook_Book_putTexts_sh
  refine ⟨fun n w' => n = 0 ∧ w = w', fun _ _ => 0, ⟨rfl, rfl⟩, ?_⟩
  rintro n w2 ⟨rfl, rfl⟩
  refine ⟨nilS, h, ?_⟩
  rw [noLen]
  exact brB_f ⟨rfl, rfl⟩
theorem growTexts_nil {w : World} {b : Nat} (h : w.cell? ⟨b, 0, none⟩ = some nilS.val) : Calls Tryz.prog fn_hollowaybook_Book_growTexts #[.pointer (some ⟨b, 0, none⟩)] w fun e w' => e = .returned nilS.val ∧ w = w' := by
  refine (hollowaybook_Book_growTexts_lift (K := fun r w' => r = nilS.val ∧ w = w') ?_).mono (by rintro e w' ⟨r, rfl, rfl, h⟩; exact ⟨rfl, h⟩)
  unfold hollowaybook_Book_growTexts_sh
  refine ⟨fun o n w' => o = nilS ∧ n = 0 ∧ w = w', fun _ _ _ => 0, ⟨rfl, rfl, rfl⟩, ?_⟩
  rintro o n w2 ⟨rfl, rfl, rfl⟩
  refine ⟨nilS, h, ?_⟩
  rw [noLen]
  exact brB_f ⟨rfl, rfl⟩
theorem markedTexts_nil (w : World) : Calls Tryz.prog fn_hollowaybook_markedTexts #[nilS.val] w fun e w' => e = .returned (.bool true) ∧ w = w' := by
  refine (hollowaybook_markedTexts_lift (K := fun r w' => r = .bool true ∧ w = w') ?_).mono (by rintro e w' ⟨r, rfl, rfl, h⟩; exact ⟨rfl, h⟩)
  unfold hollowaybook_markedTexts_sh
  refine ⟨fun n w' => n = 0 ∧ w = w', fun _ _ => 0, ⟨rfl, rfl⟩, ?_⟩
  rintro n w2 ⟨rfl, rfl⟩
  rw [noLen]
  exact brB_f ⟨rfl, rfl⟩
theorem stillInts_nil {w : World} {b : Nat} (h : w.cell? ⟨b, 2, none⟩ = some nilS.val) : Calls Tryz.prog fn_hollowaybook_Book_stillInts #[.pointer (some ⟨b, 0, none⟩)] w fun e w' => e = .returned (.bool true) ∧ w = w' := by
  refine (hollowaybook_Book_stillInts_lift (K := fun r w' => r = .bool true ∧ w = w') ?_).mono (by rintro e w' ⟨r, rfl, rfl, h⟩; exact ⟨rfl, h⟩)
  unfold hollowaybook_Book_stillInts_sh
  refine ⟨fun n w' => n = 0 ∧ w = w', fun _ _ => 0, ⟨rfl, rfl⟩, ?_⟩
  rintro n w2 ⟨rfl, rfl⟩
  refine ⟨nilS, h, ?_⟩
  rw [noLen]
  exact brB_f ⟨rfl, rfl⟩
theorem putInts_nil {w : World} {b : Nat} (h : w.cell? ⟨b, 2, none⟩ = some nilS.val) : Calls Tryz.prog fn_hollowaybook_Book_putInts #[.pointer (some ⟨b, 0, none⟩)] w fun e w' => e = .returned (.tuple #[]) ∧ w = w' := by
  refine (hollowaybook_Book_putInts_lift (K := fun r w' => r = .tuple #[] ∧ w = w') ?_).mono (by rintro e w' ⟨r, rfl, rfl, h⟩; exact ⟨rfl, h⟩)
  unfold hollowaybook_Book_putInts_sh
  refine ⟨fun n w' => n = 0 ∧ w = w', fun _ _ => 0, ⟨rfl, rfl⟩, ?_⟩
  rintro n w2 ⟨rfl, rfl⟩
  refine ⟨nilS, h, ?_⟩
  rw [noLen]
  exact brB_f ⟨rfl, rfl⟩
theorem growInts_nil {w : World} {b : Nat} (h : w.cell? ⟨b, 2, none⟩ = some nilS.val) : Calls Tryz.prog fn_hollowaybook_Book_growInts #[.pointer (some ⟨b, 0, none⟩)] w fun e w' => e = .returned nilS.val ∧ w = w' := by
  refine (hollowaybook_Book_growInts_lift (K := fun r w' => r = nilS.val ∧ w = w') ?_).mono (by rintro e w' ⟨r, rfl, rfl, h⟩; exact ⟨rfl, h⟩)
  unfold hollowaybook_Book_growInts_sh
  refine ⟨fun o n w' => o = nilS ∧ n = 0 ∧ w = w', fun _ _ _ => 0, ⟨rfl, rfl, rfl⟩, ?_⟩
  rintro o n w2 ⟨rfl, rfl, rfl⟩
  refine ⟨nilS, h, ?_⟩
  rw [noLen]
  exact brB_f ⟨rfl, rfl⟩
theorem markedInts_nil (w : World) : Calls Tryz.prog fn_hollowaybook_markedInts #[nilS.val] w fun e w' => e = .returned (.bool true) ∧ w = w' := by
  refine (hollowaybook_markedInts_lift (K := fun r w' => r = .bool true ∧ w = w') ?_).mono (by rintro e w' ⟨r, rfl, rfl, h⟩; exact ⟨rfl, h⟩)
  unfold hollowaybook_markedInts_sh
  refine ⟨fun n w' => n = 0 ∧ w = w', fun _ _ => 0, ⟨rfl, rfl⟩, ?_⟩
  rintro n w2 ⟨rfl, rfl⟩
  rw [noLen]
  exact brB_f ⟨rfl, rfl⟩
theorem stillWords_nil {w : World} {b : Nat} (h : w.cell? ⟨b, 4, none⟩ = some nilS.val) : Calls Tryz.prog fn_hollowaybook_Book_stillWords #[.pointer (some ⟨b, 0, none⟩)] w fun e w' => e = .returned (.bool true) ∧ w = w' := by
  refine (hollowaybook_Book_stillWords_lift (K := fun r w' => r = .bool true ∧ w = w') ?_).mono (by rintro e w' ⟨r, rfl, rfl, h⟩; exact ⟨rfl, h⟩)
  unfold hollowaybook_Book_stillWords_sh
  refine ⟨fun n w' => n = 0 ∧ w = w', fun _ _ => 0, ⟨rfl, rfl⟩, ?_⟩
  rintro n w2 ⟨rfl, rfl⟩
  refine ⟨nilS, h, ?_⟩
  rw [noLen]
  exact brB_f ⟨rfl, rfl⟩
theorem putWords_nil {w : World} {b : Nat} (h : w.cell? ⟨b, 4, none⟩ = some nilS.val) : Calls Tryz.prog fn_hollowaybook_Book_putWords #[.pointer (some ⟨b, 0, none⟩)] w fun e w' => e = .returned (.tuple #[]) ∧ w = w' := by
  refine (hollowaybook_Book_putWords_lift (K := fun r w' => r = .tuple #[] ∧ w = w') ?_).mono (by rintro e w' ⟨r, rfl, rfl, h⟩; exact ⟨rfl, h⟩)
  unfold hollowaybook_Book_putWords_sh
  refine ⟨fun n w' => n = 0 ∧ w = w', fun _ _ => 0, ⟨rfl, rfl⟩, ?_⟩
  rintro n w2 ⟨rfl, rfl⟩
  refine ⟨nilS, h, ?_⟩
  rw [noLen]
  exact brB_f ⟨rfl, rfl⟩
theorem growWords_nil {w : World} {b : Nat} (h : w.cell? ⟨b, 4, none⟩ = some nilS.val) : Calls Tryz.prog fn_hollowaybook_Book_growWords #[.pointer (some ⟨b, 0, none⟩)] w fun e w' => e = .returned nilS.val ∧ w = w' := by
  refine (hollowaybook_Book_growWords_lift (K := fun r w' => r = nilS.val ∧ w = w') ?_).mono (by rintro e w' ⟨r, rfl, rfl, h⟩; exact ⟨rfl, h⟩)
  unfold hollowaybook_Book_growWords_sh
  refine ⟨fun o n w' => o = nilS ∧ n = 0 ∧ w = w', fun _ _ _ => 0, ⟨rfl, rfl, rfl⟩, ?_⟩
  rintro o n w2 ⟨rfl, rfl, rfl⟩
  refine ⟨nilS, h, ?_⟩
  rw [noLen]
  exact brB_f ⟨rfl, rfl⟩
theorem markedWords_nil (w : World) : Calls Tryz.prog fn_hollowaybook_markedWords #[nilS.val] w fun e w' => e = .returned (.bool true) ∧ w = w' := by
  refine (hollowaybook_markedWords_lift (K := fun r w' => r = .bool true ∧ w = w') ?_).mono (by rintro e w' ⟨r, rfl, rfl, h⟩; exact ⟨rfl, h⟩)
  unfold hollowaybook_markedWords_sh
  refine ⟨fun n w' => n = 0 ∧ w = w', fun _ _ => 0, ⟨rfl, rfl⟩, ?_⟩
  rintro n w2 ⟨rfl, rfl⟩
  rw [noLen]
  exact brB_f ⟨rfl, rfl⟩
theorem stillSeens_nil {w : World} {b : Nat} (h : w.cell? ⟨b, 6, none⟩ = some nilS.val) : Calls Tryz.prog fn_hollowaybook_Book_stillSeens #[.pointer (some ⟨b, 0, none⟩)] w fun e w' => e = .returned (.bool true) ∧ w = w' := by
  refine (hollowaybook_Book_stillSeens_lift (K := fun r w' => r = .bool true ∧ w = w') ?_).mono (by rintro e w' ⟨r, rfl, rfl, h⟩; exact ⟨rfl, h⟩)
  unfold hollowaybook_Book_stillSeens_sh
  refine ⟨fun n w' => n = 0 ∧ w = w', fun _ _ => 0, ⟨rfl, rfl⟩, ?_⟩
  rintro n w2 ⟨rfl, rfl⟩
  refine ⟨nilS, h, ?_⟩
  rw [noLen]
  exact brB_f ⟨rfl, rfl⟩
theorem putSeens_nil {w : World} {b : Nat} (h : w.cell? ⟨b, 6, none⟩ = some nilS.val) : Calls Tryz.prog fn_hollowaybook_Book_putSeens #[.pointer (some ⟨b, 0, none⟩)] w fun e w' => e = .returned (.tuple #[]) ∧ w = w' := by
  refine (hollowaybook_Book_putSeens_lift (K := fun r w' => r = .tuple #[] ∧ w = w') ?_).mono (by rintro e w' ⟨r, rfl, rfl, h⟩; exact ⟨rfl, h⟩)
  unfold hollowaybook_Book_putSeens_sh
  refine ⟨fun n w' => n = 0 ∧ w = w', fun _ _ => 0, ⟨rfl, rfl⟩, ?_⟩
  rintro n w2 ⟨rfl, rfl⟩
  refine ⟨nilS, h, ?_⟩
  rw [noLen]
  exact brB_f ⟨rfl, rfl⟩
theorem growSeens_nil {w : World} {b : Nat} (h : w.cell? ⟨b, 6, none⟩ = some nilS.val) : Calls Tryz.prog fn_hollowaybook_Book_growSeens #[.pointer (some ⟨b, 0, none⟩)] w fun e w' => e = .returned nilS.val ∧ w = w' := by
  refine (hollowaybook_Book_growSeens_lift (K := fun r w' => r = nilS.val ∧ w = w') ?_).mono (by rintro e w' ⟨r, rfl, rfl, h⟩; exact ⟨rfl, h⟩)
  unfold hollowaybook_Book_growSeens_sh
  refine ⟨fun o n w' => o = nilS ∧ n = 0 ∧ w = w', fun _ _ _ => 0, ⟨rfl, rfl, rfl⟩, ?_⟩
  rintro o n w2 ⟨rfl, rfl, rfl⟩
  refine ⟨nilS, h, ?_⟩
  rw [noLen]
  exact brB_f ⟨rfl, rfl⟩
theorem markedSeens_nil (w : World) : Calls Tryz.prog fn_hollowaybook_markedSeens #[nilS.val] w fun e w' => e = .returned (.bool true) ∧ w = w' := by
  refine (hollowaybook_markedSeens_lift (K := fun r w' => r = .bool true ∧ w = w') ?_).mono (by rintro e w' ⟨r, rfl, rfl, h⟩; exact ⟨rfl, h⟩)
  unfold hollowaybook_markedSeens_sh
  refine ⟨fun n w' => n = 0 ∧ w = w', fun _ _ => 0, ⟨rfl, rfl⟩, ?_⟩
  rintro n w2 ⟨rfl, rfl⟩
  rw [noLen]
  exact brB_f ⟨rfl, rfl⟩
theorem stillCodes_nil {w : World} {b : Nat} (h : w.cell? ⟨b, 8, none⟩ = some nilS.val) : Calls Tryz.prog fn_hollowaybook_Book_stillCodes #[.pointer (some ⟨b, 0, none⟩)] w fun e w' => e = .returned (.bool true) ∧ w = w' := by
  refine (hollowaybook_Book_stillCodes_lift (K := fun r w' => r = .bool true ∧ w = w') ?_).mono (by rintro e w' ⟨r, rfl, rfl, h⟩; exact ⟨rfl, h⟩)
  unfold hollowaybook_Book_stillCodes_sh
  refine ⟨fun n w' => n = 0 ∧ w = w', fun _ _ => 0, ⟨rfl, rfl⟩, ?_⟩
  rintro n w2 ⟨rfl, rfl⟩
  refine ⟨nilS, h, ?_⟩
  rw [noLen]
  exact brB_f ⟨rfl, rfl⟩
theorem putCodes_nil {w : World} {b : Nat} (h : w.cell? ⟨b, 8, none⟩ = some nilS.val) : Calls Tryz.prog fn_hollowaybook_Book_putCodes #[.pointer (some ⟨b, 0, none⟩)] w fun e w' => e = .returned (.tuple #[]) ∧ w = w' := by
  refine (hollowaybook_Book_putCodes_lift (K := fun r w' => r = .tuple #[] ∧ w = w') ?_).mono (by rintro e w' ⟨r, rfl, rfl, h⟩; exact ⟨rfl, h⟩)
  unfold hollowaybook_Book_putCodes_sh
  refine ⟨fun n w' => n = 0 ∧ w = w', fun _ _ => 0, ⟨rfl, rfl⟩, ?_⟩
  rintro n w2 ⟨rfl, rfl⟩
  refine ⟨nilS, h, ?_⟩
  rw [noLen]
  exact brB_f ⟨rfl, rfl⟩
theorem growCodes_nil {w : World} {b : Nat} (h : w.cell? ⟨b, 8, none⟩ = some nilS.val) : Calls Tryz.prog fn_hollowaybook_Book_growCodes #[.pointer (some ⟨b, 0, none⟩)] w fun e w' => e = .returned nilS.val ∧ w = w' := by
  refine (hollowaybook_Book_growCodes_lift (K := fun r w' => r = nilS.val ∧ w = w') ?_).mono (by rintro e w' ⟨r, rfl, rfl, h⟩; exact ⟨rfl, h⟩)
  unfold hollowaybook_Book_growCodes_sh
  refine ⟨fun o n w' => o = nilS ∧ n = 0 ∧ w = w', fun _ _ _ => 0, ⟨rfl, rfl, rfl⟩, ?_⟩
  rintro o n w2 ⟨rfl, rfl, rfl⟩
  refine ⟨nilS, h, ?_⟩
  rw [noLen]
  exact brB_f ⟨rfl, rfl⟩
theorem markedCodes_nil (w : World) : Calls Tryz.prog fn_hollowaybook_markedCodes #[nilS.val] w fun e w' => e = .returned (.bool true) ∧ w = w' := by
  refine (hollowaybook_markedCodes_lift (K := fun r w' => r = .bool true ∧ w = w') ?_).mono (by rintro e w' ⟨r, rfl, rfl, h⟩; exact ⟨rfl, h⟩)
  unfold hollowaybook_markedCodes_sh
  refine ⟨fun n w' => n = 0 ∧ w = w', fun _ _ => 0, ⟨rfl, rfl⟩, ?_⟩
  rintro n w2 ⟨rfl, rfl⟩
  rw [noLen]
  exact brB_f ⟨rfl, rfl⟩
theorem stillExits_nil {w : World} {b : Nat} (h : w.cell? ⟨b, 10, none⟩ = some nilS.val) : Calls Tryz.prog fn_hollowaybook_Book_stillExits #[.pointer (some ⟨b, 0, none⟩)] w fun e w' => e = .returned (.bool true) ∧ w = w' := by
  refine (hollowaybook_Book_stillExits_lift (K := fun r w' => r = .bool true ∧ w = w') ?_).mono (by rintro e w' ⟨r, rfl, rfl, h⟩; exact ⟨rfl, h⟩)
  unfold hollowaybook_Book_stillExits_sh
  refine ⟨fun n w' => n = 0 ∧ w = w', fun _ _ => 0, ⟨rfl, rfl⟩, ?_⟩
  rintro n w2 ⟨rfl, rfl⟩
  refine ⟨nilS, h, ?_⟩
  rw [noLen]
  exact brB_f ⟨rfl, rfl⟩
theorem putExits_nil {w : World} {b : Nat} (h : w.cell? ⟨b, 10, none⟩ = some nilS.val) : Calls Tryz.prog fn_hollowaybook_Book_putExits #[.pointer (some ⟨b, 0, none⟩)] w fun e w' => e = .returned (.tuple #[]) ∧ w = w' := by
  refine (hollowaybook_Book_putExits_lift (K := fun r w' => r = .tuple #[] ∧ w = w') ?_).mono (by rintro e w' ⟨r, rfl, rfl, h⟩; exact ⟨rfl, h⟩)
  unfold hollowaybook_Book_putExits_sh
  refine ⟨fun n w' => n = 0 ∧ w = w', fun _ _ => 0, ⟨rfl, rfl⟩, ?_⟩
  rintro n w2 ⟨rfl, rfl⟩
  refine ⟨nilS, h, ?_⟩
  rw [noLen]
  exact brB_f ⟨rfl, rfl⟩
theorem growExits_nil {w : World} {b : Nat} (h : w.cell? ⟨b, 10, none⟩ = some nilS.val) : Calls Tryz.prog fn_hollowaybook_Book_growExits #[.pointer (some ⟨b, 0, none⟩)] w fun e w' => e = .returned nilS.val ∧ w = w' := by
  refine (hollowaybook_Book_growExits_lift (K := fun r w' => r = nilS.val ∧ w = w') ?_).mono (by rintro e w' ⟨r, rfl, rfl, h⟩; exact ⟨rfl, h⟩)
  unfold hollowaybook_Book_growExits_sh
  refine ⟨fun o n w' => o = nilS ∧ n = 0 ∧ w = w', fun _ _ _ => 0, ⟨rfl, rfl, rfl⟩, ?_⟩
  rintro o n w2 ⟨rfl, rfl, rfl⟩
  refine ⟨nilS, h, ?_⟩
  rw [noLen]
  exact brB_f ⟨rfl, rfl⟩
theorem markedExits_nil (w : World) : Calls Tryz.prog fn_hollowaybook_markedExits #[nilS.val] w fun e w' => e = .returned (.bool true) ∧ w = w' := by
  refine (hollowaybook_markedExits_lift (K := fun r w' => r = .bool true ∧ w = w') ?_).mono (by rintro e w' ⟨r, rfl, rfl, h⟩; exact ⟨rfl, h⟩)
  unfold hollowaybook_markedExits_sh
  refine ⟨fun n w' => n = 0 ∧ w = w', fun _ _ => 0, ⟨rfl, rfl⟩, ?_⟩
  rintro n w2 ⟨rfl, rfl⟩
  rw [noLen]
  exact brB_f ⟨rfl, rfl⟩
end Go.Proofs.YtkjpmkopnkkbmaaGreatDoor
