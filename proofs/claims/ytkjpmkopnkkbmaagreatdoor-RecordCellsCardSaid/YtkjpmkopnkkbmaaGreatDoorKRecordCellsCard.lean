/- The walk of RecordCellsCard. -/
import Derived.Test.YtkjpmkopnkkbmaaGreatDoorJN
import Derived.Test.YtkjpmkopnkkbmaaGreatDoorJ4
import Derived.Test.YtkjpmkopnkkbmaaGreatDoorJJ
import Derived.Test.YtkjpmkopnkkbmaaGreatDoorJ2
import Derived.Shelf.Sort.Plain
import Derived.Ground.Names2Prog
import Derived.Shelf.Slices.CompactI
import Derived.Shelf.Slices.In.SortNone
import Derived.Test.YtkjpmkopnkkbmaaGreatDoorProg
import Derived.Lib.SlicesCompact
import Derived.Lib.RowBridge
import Derived.Sort.OwnSortedInts
import Derived.Test.YtkjpmkopnkkbmaaGreatDoorJ5
import Derived.Test.YtkjpmkopnkkbmaaGreatDoorJR

/- Recordings, in plain words. No program in sight. -/
set_option maxRecDepth 100000
namespace Go.Proofs.YtkjpmkopnkkbmaaGreatDoor
open Go.RowKit

/-- A step as it is recorded. -/
structure SnV where
  ip : Int
  cell : Int
  arg : Int
  next : Int
structure RcV where
  start : Int
  fin : Int
  loop : Bool
  steps : List SnV
def plB (c : Int) : Bool := decide (64 ≤ c) || opPlain c
def arB (c : Int) : Bool := decide (c < 64) && opArg c
def placeB (a : Int) : Bool := decide (0 ≤ a) && decide (a < 3000)
def stepV (s : StV) : StV := (runM s 1).1
def nextV (s : StV) : Option (SnV × StV) :=
  if s.ip < 0 ∨ (s.mem.length : Int) ≤ s.ip ∨ s.status ≠ 0 ∨ plB (getI s.mem s.ip) = false then none else
  if (stepV { s with handler := 0 }).status = 2 then none else
  if placeB (stepV s).ip = false then none else
  some (⟨s.ip, getI s.mem s.ip, if arB (getI s.mem s.ip) = true then getI s.mem (s.ip + 1) else 0, (stepV s).ip⟩, stepV s)
def lpB (start : Int) (s : StV) (l : List SnV) : Bool := decide (0 < l.length) && decide (s.ip = start)
/-- Steps recorded, as long as there may be more. -/
def recL (start : Int) : Nat → StV → List SnV → RcV
  | 0, s, l => ⟨start, s.ip, lpB start s l, l⟩
  | n + 1, s, l => if lpB start s l = true then ⟨start, s.ip, true, l⟩ else match nextV s with
    | none => ⟨start, s.ip, false, l⟩
    | some (x, t) => recL start n t (l ++ [x])
def mostN (most : Int) : Nat := (imin (imax most 0) 120).toNat
theorem mostN_le (most : Int) : mostN most ≤ 120 ∧ ((mostN most : Nat) : Int) = imin (imax most 0) 120 := by
  have h : 0 ≤ imin (imax most 0) 120 ∧ imin (imax most 0) 120 ≤ 120 := by unfold imin imax; split <;> split <;> omega
  unfold mostN
  omega
def recV (s : StV) (most : Int) : RcV := recL s.ip (mostN most) s []
theorem nextV_run {s t : StV} {x : SnV} (h : nextV s = some (x, t)) : s.status = 0 ∧ t = stepV s ∧ t = mAdv s ∧ x.ip = s.ip ∧ x.next = t.ip ∧ 0 ≤ s.ip ∧ s.ip < s.mem.length ∧ x.cell = getI s.mem s.ip ∧ plB x.cell = true ∧ placeB t.ip = true ∧ x.arg = (if arB x.cell = true then getI s.mem (s.ip + 1) else 0) := by
  unfold nextV at h
  split at h
  · cases h
  next h1 =>
  split at h
  · cases h
  split at h
  · cases h
  next h3 =>
  injection h with h
  injection h with hx ht
  subst hx ht
  have hs : s.status = 0 := Classical.byContradiction fun hn => h1 (Or.inr (Or.inr (Or.inl hn)))
  have e : stepV s = mAdv s := by
    unfold stepV
    rw [runM_go hs (by decide)]
    rw [runM_stop (Or.inr (by decide))]
  refine ⟨hs, rfl, e, rfl, rfl, by omega, by omega, rfl, ?_, ?_, rfl⟩
  · cases hp : plB (getI s.mem s.ip) with
    | true => rfl
    | false => exact absurd (Or.inr (Or.inr (Or.inr hp))) h1
  · cases hp : placeB (stepV s).ip with
    | true => rfl
    | false => exact absurd hp h3

/-! ### With more steps that may be done -/
theorem recL_len (start : Int) : ∀ (n : Nat) (s : StV) (l : List SnV), l.length ≤ (recL start n s l).steps.length ∧ (recL start n s l).steps.length ≤ l.length + n
  | 0, _, l => ⟨Nat.le_refl _, Nat.le_refl _⟩
  | n + 1, s, l => by
    unfold recL
    split
    · exact ⟨Nat.le_refl _, by show l.length ≤ _; omega⟩
    split
    · exact ⟨Nat.le_refl _, by show l.length ≤ _; omega⟩
    · next x t _ =>
      have := recL_len start n t (l ++ [x])
      rw [List.length_append, List.length_singleton] at this
      omega
theorem recL_pre (start : Int) : ∀ (n : Nat) (s : StV) (l : List SnV), ∃ r, (recL start n s l).steps = l ++ r
  | 0, _, l => ⟨[], by show l = _; simp⟩
  | n + 1, s, l => by
    unfold recL
    split
    · exact ⟨[], by show l = _; simp⟩
    split
    · exact ⟨[], by show l = _; simp⟩
    · next x t _ =>
      obtain ⟨r, hr⟩ := recL_pre start n t (l ++ [x])
      exact ⟨x :: r, by rw [hr]; simp⟩
/-! ### Which recordings may be -/
def singleB (x : SnV) : Bool := plB x.cell && ((arB x.cell || decide (x.arg = 0)) && (placeB x.ip && (placeB (if arB x.cell = true then x.ip + 1 else x.ip) && placeB x.next)))
def rightL (start : Int) : Int → Bool → List SnV → Option Int
  | at_, _, [] => some at_
  | at_, more, x :: r => if singleB x = false ∨ x.ip ≠ at_ ∨ (more = true ∧ x.ip = start) then none else rightL start x.next true r
def rightR (r : RcV) : Bool := if 120 < r.steps.length then false else if r.loop ≠ (decide (0 < r.steps.length) && decide (r.fin = r.start)) then false else match rightL r.start r.start false r.steps with
  | none => false
  | some a => decide (a = r.fin)
end Go.Proofs.YtkjpmkopnkkbmaaGreatDoor

/- Functions of Record, read without their frames; that each is enough. Printed by a program of mine (wip/lift/gen.py). -/
set_option maxRecDepth 100000
namespace Go.Proofs.YtkjpmkopnkkbmaaGreatDoor
open Go.RowKit

-- holloway/record.Loop
def record_Loop_j1 (J8 : World → Prop) (b18 : Nat) (b57 : Nat) (b59 : Nat) (b12 : Nat) (I1 : World → Prop) (μ1 : World → Nat) (w21 : World) (b68 : Bool) (w67 : World) (_K : Value → World → Prop) : Prop :=
 brB b68
 (J8  w67)
 (∃ s79 : Sl, w67.cell? ⟨b18, 3, none⟩ = some (s79.val) ∧
 ∃ n_Ip80 : Int, ∃ n_Cell81 : Int, ∃ n_Arg82 : Int, ∃ n_Next83 : Int, w67.cell? ⟨b57, 0, none⟩ = some (.int .i64 n_Ip80) ∧ w67.cell? ⟨b57, 1, none⟩ = some (.int .i64 n_Cell81) ∧ w67.cell? ⟨b57, 2, none⟩ = some (.int .i64 n_Arg82) ∧ w67.cell? ⟨b57, 3, none⟩ = some (.int .i64 n_Next83) ∧
 ∀ (b84 : Nat) (w85 : World), b84 = w67.heap.size → w85 = World.alloc w67 (.cells #[.int .i64 n_Ip80, .int .i64 n_Cell81, .int .i64 n_Arg82, .int .i64 n_Next83] T_api_Seen) →
 ∃ s86 : Sl, ∃ w87 : World, (Builtin.append_ #[T_sl_api_Seen, T_sl_api_Seen] T_sl_api_Seen #[s79.val, .slice (some ⟨b84, 0, none⟩) 1 1]).run Tryz.prog w85 = .ok (s86.val) w87 ∧
 wrOk w87 ⟨b18, 3, none⟩ 1 ∧ ∀ w88 : World, w88 = stW w87 ⟨b18, 3, none⟩ 0 [s86.val] →
 ∃ n_Ip89 : Int, ∃ n_Handler90 : Int, ∃ s_Stack91 : Sl, ∃ s_Back92 : Sl, ∃ s_Mem93 : Sl, ∃ t_Out94 : ByteArray, ∃ t_In95 : ByteArray, ∃ n_Read96 : Int, ∃ n_Status97 : Int, ∃ n_Code98 : Int, w88.cell? ⟨b59, 0, none⟩ = some (.int .i64 n_Ip89) ∧ w88.cell? ⟨b59, 1, none⟩ = some (.int .i64 n_Handler90) ∧ w88.cell? ⟨b59, 2, none⟩ = some (s_Stack91.val) ∧ w88.cell? ⟨b59, 3, none⟩ = some (s_Back92.val) ∧ w88.cell? ⟨b59, 4, none⟩ = some (s_Mem93.val) ∧ w88.cell? ⟨b59, 5, none⟩ = some (.string t_Out94) ∧ w88.cell? ⟨b59, 6, none⟩ = some (.string t_In95) ∧ w88.cell? ⟨b59, 7, none⟩ = some (.int .i64 n_Read96) ∧ w88.cell? ⟨b59, 8, none⟩ = some (.int .i64 n_Status97) ∧ w88.cell? ⟨b59, 9, none⟩ = some (.int .i64 n_Code98) ∧
 wrOk w88 ⟨b12, 0, none⟩ 10 ∧ ∀ w99 : World, w99 = stW w88 ⟨b12, 0, none⟩ 0 [.int .i64 n_Ip89, .int .i64 n_Handler90, s_Stack91.val, s_Back92.val, s_Mem93.val, .string t_Out94, .string t_In95, .int .i64 n_Read96, .int .i64 n_Status97, .int .i64 n_Code98] →
 I1  w99 ∧ μ1  w99 < μ1  w21)
def record_Loop_sh (s__Ip1 : Int) (s__Handler2 : Int) (s__Stack3 : Sl) (s__Back4 : Sl) (s__Mem5 : Sl) (s__Out6 : ByteArray) (s__In7 : ByteArray) (s__Read8 : Int) (s__Status9 : Int) (s__Code10 : Int) (most11 : Int) (w : World) (K : Value → World → Prop) : Prop :=
 ∀ (b12 : Nat) (w13 : World), b12 = w.heap.size → w13 = World.alloc w (.cells #[.int .i64 s__Ip1, .int .i64 s__Handler2, s__Stack3.val, s__Back4.val, s__Mem5.val, .string s__Out6, .string s__In7, .int .i64 s__Read8, .int .i64 s__Status9, .int .i64 s__Code10] T_api_State) →
 ∀ (b14 : Nat) (w15 : World), b14 = w13.heap.size → w15 = World.alloc w13 (.cells #[.int .i64 (0 : Int), .int .i64 (0 : Int), .bool false, .slice none 0 0] T_api_Recording) →
 ∃ n16 : Int, w15.cell? ⟨b12, 0, none⟩ = some (.int .i64 n16) ∧
 ∃ n17 : Int, w15.cell? ⟨b12, 0, none⟩ = some (.int .i64 n17) ∧
 ∀ (b18 : Nat) (w19 : World), b18 = w15.heap.size → w19 = World.alloc w15 (.cells #[.int .i64 (0 : Int), .int .i64 (0 : Int), .bool false, .slice none 0 0] T_api_Recording) →
 wrOk w19 ⟨b18, 0, none⟩ 4 ∧ ∀ w20 : World, w20 = stW w19 ⟨b18, 0, none⟩ 0 [.int .i64 n16, .int .i64 n17, .bool false, .slice none 0 0] →
 ∃ (I1 : World → Prop) (μ1 : World → Nat), I1  w20 ∧ ∀ (w21 : World), I1  w21 →
 ∃ J4 : World → Prop, (∀ (w27 : World), J4  w27 →
 ∃ n28 : Int, w27.cell? ⟨b12, 0, none⟩ = some (.int .i64 n28) ∧
 wrOk w27 ⟨b18, 1, none⟩ 1 ∧ ∀ w29 : World, w29 = stW w27 ⟨b18, 1, none⟩ 0 [.int .i64 n28] →
 ∃ n_Ip30 : Int, ∃ n_Handler31 : Int, ∃ s_Stack32 : Sl, ∃ s_Back33 : Sl, ∃ s_Mem34 : Sl, ∃ t_Out35 : ByteArray, ∃ t_In36 : ByteArray, ∃ n_Read37 : Int, ∃ n_Status38 : Int, ∃ n_Code39 : Int, w29.cell? ⟨b12, 0, none⟩ = some (.int .i64 n_Ip30) ∧ w29.cell? ⟨b12, 1, none⟩ = some (.int .i64 n_Handler31) ∧ w29.cell? ⟨b12, 2, none⟩ = some (s_Stack32.val) ∧ w29.cell? ⟨b12, 3, none⟩ = some (s_Back33.val) ∧ w29.cell? ⟨b12, 4, none⟩ = some (s_Mem34.val) ∧ w29.cell? ⟨b12, 5, none⟩ = some (.string t_Out35) ∧ w29.cell? ⟨b12, 6, none⟩ = some (.string t_In36) ∧ w29.cell? ⟨b12, 7, none⟩ = some (.int .i64 n_Read37) ∧ w29.cell? ⟨b12, 8, none⟩ = some (.int .i64 n_Status38) ∧ w29.cell? ⟨b12, 9, none⟩ = some (.int .i64 n_Code39) ∧
 Calls Tryz.prog fn_record_next #[.agg #[.int .i64 n_Ip30, .int .i64 n_Handler31, s_Stack32.val, s_Back33.val, s_Mem34.val, .string t_Out35, .string t_In36, .int .i64 n_Read37, .int .i64 n_Status38, .int .i64 n_Code39]] w29 fun e40 w41 => ∃ n_Ip42 : Int, ∃ n_Cell43 : Int, ∃ n_Arg44 : Int, ∃ n_Next45 : Int, ∃ n_Ip46 : Int, ∃ n_Handler47 : Int, ∃ s_Stack48 : Sl, ∃ s_Back49 : Sl, ∃ s_Mem50 : Sl, ∃ t_Out51 : ByteArray, ∃ t_In52 : ByteArray, ∃ n_Read53 : Int, ∃ n_Status54 : Int, ∃ n_Code55 : Int, ∃ b56 : Bool, e40 = .returned (.tuple #[.agg #[.int .i64 n_Ip42, .int .i64 n_Cell43, .int .i64 n_Arg44, .int .i64 n_Next45], .agg #[.int .i64 n_Ip46, .int .i64 n_Handler47, s_Stack48.val, s_Back49.val, s_Mem50.val, .string t_Out51, .string t_In52, .int .i64 n_Read53, .int .i64 n_Status54, .int .i64 n_Code55], .bool b56]) ∧
 ∀ (b57 : Nat) (w58 : World), b57 = w41.heap.size → w58 = World.alloc w41 (.cells #[.int .i64 (0 : Int), .int .i64 (0 : Int), .int .i64 (0 : Int), .int .i64 (0 : Int)] T_api_Seen) →
 ∀ (b59 : Nat) (w60 : World), b59 = w58.heap.size → w60 = World.alloc w58 (.cells #[.int .i64 (0 : Int), .int .i64 (0 : Int), .slice none 0 0, .slice none 0 0, .slice none 0 0, .string (bs []), .string (bs []), .int .i64 (0 : Int), .int .i64 (0 : Int), .int .i64 (0 : Int)] T_api_State) →
 wrOk w60 ⟨b57, 0, none⟩ 4 ∧ ∀ w61 : World, w61 = stW w60 ⟨b57, 0, none⟩ 0 [.int .i64 n_Ip42, .int .i64 n_Cell43, .int .i64 n_Arg44, .int .i64 n_Next45] →
 wrOk w61 ⟨b59, 0, none⟩ 10 ∧ ∀ w62 : World, w62 = stW w61 ⟨b59, 0, none⟩ 0 [.int .i64 n_Ip46, .int .i64 n_Handler47, s_Stack48.val, s_Back49.val, s_Mem50.val, .string t_Out51, .string t_In52, .int .i64 n_Read53, .int .i64 n_Status54, .int .i64 n_Code55] →
 ∃ J8 : World → Prop, (∀ (w69 : World), J8  w69 →
 ∃ n_Start70 : Int, ∃ n_End71 : Int, ∃ b_Loop72 : Bool, ∃ s_Steps73 : Sl, w69.cell? ⟨b18, 0, none⟩ = some (.int .i64 n_Start70) ∧ w69.cell? ⟨b18, 1, none⟩ = some (.int .i64 n_End71) ∧ w69.cell? ⟨b18, 2, none⟩ = some (.bool b_Loop72) ∧ w69.cell? ⟨b18, 3, none⟩ = some (s_Steps73.val) ∧
 wrOk w69 ⟨b14, 0, none⟩ 4 ∧ ∀ w74 : World, w74 = stW w69 ⟨b14, 0, none⟩ 0 [.int .i64 n_Start70, .int .i64 n_End71, .bool b_Loop72, s_Steps73.val] →
 ∃ r_Start75 : Int, ∃ r_End76 : Int, ∃ r_Loop77 : Bool, ∃ r_Steps78 : Sl, w74.cell? ⟨b14, 0, none⟩ = some (.int .i64 r_Start75) ∧ w74.cell? ⟨b14, 1, none⟩ = some (.int .i64 r_End76) ∧ w74.cell? ⟨b14, 2, none⟩ = some (.bool r_Loop77) ∧ w74.cell? ⟨b14, 3, none⟩ = some (r_Steps78.val) ∧
 K (.agg #[.int .i64 r_Start75, .int .i64 r_End76, .bool r_Loop77, r_Steps78.val]) w74) ∧
 ∃ s63 : Sl, w62.cell? ⟨b18, 3, none⟩ = some (s63.val) ∧
 brB (decide ((s63.len : Int) ≥ (imin (imax most11 (0 : Int)) (120 : Int))))
 (J8  w62)
 (∃ b64 : Bool, w62.cell? ⟨b18, 2, none⟩ = some (.bool b64) ∧
 brB b64
 (record_Loop_j1 J8 b18 b57 b59 b12 I1 (μ1) w21 b64 w62 K)
 (record_Loop_j1 J8 b18 b57 b59 b12 I1 (μ1) w21 (!b56) w62 K))) ∧
 ∃ s22 : Sl, w21.cell? ⟨b18, 3, none⟩ = some (s22.val) ∧
 brB (decide ((s22.len : Int) > (0 : Int)))
 (∃ n23 : Int, w21.cell? ⟨b12, 0, none⟩ = some (.int .i64 n23) ∧
 ∃ n24 : Int, w21.cell? ⟨b18, 0, none⟩ = some (.int .i64 n24) ∧
 wrOk w21 ⟨b18, 2, none⟩ 1 ∧ ∀ w25 : World, w25 = stW w21 ⟨b18, 2, none⟩ 0 [.bool (n23 == n24)] →
 J4  w25)
 (wrOk w21 ⟨b18, 2, none⟩ 1 ∧ ∀ w26 : World, w26 = stW w21 ⟨b18, 2, none⟩ 0 [.bool false] →
 J4  w26)
def record_Loop_an : An := ⟨[(3, [])], [], [(9, []), (4, [])]⟩
theorem record_Loop_lift {s__Ip1 : Int} {s__Handler2 : Int} {s__Stack3 : Sl} {s__Back4 : Sl} {s__Mem5 : Sl} {s__Out6 : ByteArray} {s__In7 : ByteArray} {s__Read8 : Int} {s__Status9 : Int} {s__Code10 : Int} {most11 : Int} {w : World} {K : Value → World → Prop} (h : record_Loop_sh s__Ip1 s__Handler2 s__Stack3 s__Back4 s__Mem5 s__Out6 s__In7 s__Read8 s__Status9 s__Code10 most11 w K) : Calls Tryz.prog fn_record_Loop #[.agg #[.int .i64 s__Ip1, .int .i64 s__Handler2, s__Stack3.val, s__Back4.val, s__Mem5.val, .string s__Out6, .string s__In7, .int .i64 s__Read8, .int .i64 s__Status9, .int .i64 s__Code10], .int .i64 most11] w fun e w' => ∃ v, e = .returned v ∧ K v w' :=
   lift_calls (A := record_Loop_an) (c := bodyOf Tryz.f29) (args := [.agg #[.int .i64 s__Ip1, .int .i64 s__Handler2, s__Stack3.val, s__Back4.val, s__Mem5.val, .string s__Out6, .string s__In7, .int .i64 s__Read8, .int .i64 s__Status9, .int .i64 s__Code10], .int .i64 most11]) orc orc_wide Tryz.func29 (by kernel_rfl) (by kernel_rfl) (Eq.mp (by kernel_rfl : record_Loop_sh s__Ip1 s__Handler2 s__Stack3 s__Back4 s__Mem5 s__Out6 s__In7 s__Read8 s__Status9 s__Code10 most11 w K = wpc orc Tryz.f29.ntmps record_Loop_an (bodyOf Tryz.f29) (argl 0 [.agg #[.int .i64 s__Ip1, .int .i64 s__Handler2, s__Stack3.val, s__Back4.val, s__Mem5.val, .string s__Out6, .string s__In7, .int .i64 s__Read8, .int .i64 s__Status9, .int .i64 s__Code10], .int .i64 most11]) w (retQ orc Tryz.f29.results.toList K)) h)

-- holloway/record.Cells
def record_Cells_sh (r__Start1 : Int) (r__End2 : Int) (r__Loop3 : Bool) (r__Steps4 : Sl) (w : World) (K : Value → World → Prop) : Prop :=
 ∀ (b5 : Nat) (w6 : World), b5 = w.heap.size → w6 = World.alloc w (.cells #[.int .i64 r__Start1, .int .i64 r__End2, .bool r__Loop3, r__Steps4.val] T_api_Recording) →
 ∃ s7 : Sl, w6.cell? ⟨b5, 3, none⟩ = some (s7.val) ∧
 ∃ (I1 : Sl → Int → World → Prop) (μ1 : Sl → Int → World → Nat), I1 (⟨none, 0, 0⟩ : Sl) (0 : Int) w6 ∧ ∀ (out18 : Sl) (n9 : Int) (w8 : World), I1 out18 n9 w8 →
 brB (decide (n9 < (s7.len : Int)))
 (∃ J7 : Sl → World → Prop, (∀ (out39 : Sl) (w33 : World), J7 out39 w33 →
 I1 out39 (wr (n9 + (1 : Int))) w33 ∧ μ1 out39 (wr (n9 + (1 : Int))) w33 < μ1 out18 n9 w8) ∧
 ∃ a10 : Addr, s7.ptr = some a10 ∧ 0 ≤ n9 ∧ n9 < (s7.len : Int) ∧
 ∃ n_Ip11 : Int, ∃ n_Cell12 : Int, ∃ n_Arg13 : Int, ∃ n_Next14 : Int, w8.cell? (Addr.add a10 (Int.toNat n9 * 4)) = some (.int .i64 n_Ip11) ∧ w8.cell? (Addr.add (Addr.add a10 (Int.toNat n9 * 4)) 1) = some (.int .i64 n_Cell12) ∧ w8.cell? (Addr.add (Addr.add a10 (Int.toNat n9 * 4)) 2) = some (.int .i64 n_Arg13) ∧ w8.cell? (Addr.add (Addr.add a10 (Int.toNat n9 * 4)) 3) = some (.int .i64 n_Next14) ∧
 ∀ (b15 : Nat) (w16 : World), b15 = w8.heap.size → w16 = World.alloc w8 (.cells #[.int .i64 (0 : Int), .int .i64 (0 : Int), .int .i64 (0 : Int), .int .i64 (0 : Int)] T_api_Seen) →
 wrOk w16 ⟨b15, 0, none⟩ 4 ∧ ∀ w17 : World, w17 = stW w16 ⟨b15, 0, none⟩ 0 [.int .i64 n_Ip11, .int .i64 n_Cell12, .int .i64 n_Arg13, .int .i64 n_Next14] →
 ∃ n19 : Int, w17.cell? ⟨b15, 0, none⟩ = some (.int .i64 n19) ∧
 ∀ (b20 : Nat) (w21 : World), b20 = w17.heap.size → w21 = World.alloc w17 (.cells #[.int .i64 n19] T_int) →
 ∃ s22 : Sl, ∃ w23 : World, (Builtin.append_ #[T_sl_int, T_sl_int] T_sl_int #[out18.val, .slice (some ⟨b20, 0, none⟩) 1 1]).run Tryz.prog w21 = .ok (s22.val) w23 ∧
 ∃ n24 : Int, w23.cell? ⟨b15, 1, none⟩ = some (.int .i64 n24) ∧
 Calls Tryz.prog fn_record_arg #[.int .i64 n24] w23 fun e25 w26 => ∃ b27 : Bool, e25 = .returned (.bool b27) ∧
 brB b27
 (∃ n28 : Int, w26.cell? ⟨b15, 0, none⟩ = some (.int .i64 n28) ∧
 ∀ (b29 : Nat) (w30 : World), b29 = w26.heap.size → w30 = World.alloc w26 (.cells #[.int .i64 (wr (n28 + (1 : Int)))] T_int) →
 ∃ s31 : Sl, ∃ w32 : World, (Builtin.append_ #[T_sl_int, T_sl_int] T_sl_int #[s22.val, .slice (some ⟨b29, 0, none⟩) 1 1]).run Tryz.prog w30 = .ok (s31.val) w32 ∧
 J7 s31 w32)
 (J7 s22 w26))
 (Calls Tryz.prog fn_slices_Sort_sl_int_int #[out18.val] w8 fun e34 w35 => e34 = .returned (.tuple #[]) ∧
 Calls Tryz.prog fn_slices_Compact_sl_int_int #[out18.val] w35 fun e36 w37 => ∃ s38 : Sl, e36 = .returned (s38.val) ∧
 K (s38.val) w37)
def record_Cells_an : An := ⟨[(3, [(3, .sl), (9, .int .i64)])], [], [(8, [(3, .sl)])]⟩
theorem record_Cells_lift {r__Start1 : Int} {r__End2 : Int} {r__Loop3 : Bool} {r__Steps4 : Sl} {w : World} {K : Value → World → Prop} (h : record_Cells_sh r__Start1 r__End2 r__Loop3 r__Steps4 w K) : Calls Tryz.prog fn_record_Cells #[.agg #[.int .i64 r__Start1, .int .i64 r__End2, .bool r__Loop3, r__Steps4.val]] w fun e w' => ∃ v, e = .returned v ∧ K v w' :=
   lift_calls (A := record_Cells_an) (c := bodyOf Tryz.f30) (args := [.agg #[.int .i64 r__Start1, .int .i64 r__End2, .bool r__Loop3, r__Steps4.val]]) orc orc_wide Tryz.func30 (by kernel_rfl) (by kernel_rfl) (Eq.mp (by kernel_rfl : record_Cells_sh r__Start1 r__End2 r__Loop3 r__Steps4 w K = wpc orc Tryz.f30.ntmps record_Cells_an (bodyOf Tryz.f30) (argl 0 [.agg #[.int .i64 r__Start1, .int .i64 r__End2, .bool r__Loop3, r__Steps4.val]]) w (retQ orc Tryz.f30.results.toList K)) h)

-- holloway/record.Right
def record_Right_sh (r__Start1 : Int) (r__End2 : Int) (r__Loop3 : Bool) (r__Steps4 : Sl) (w : World) (K : Value → World → Prop) : Prop :=
 ∀ (b5 : Nat) (w6 : World), b5 = w.heap.size → w6 = World.alloc w (.cells #[.int .i64 r__Start1, .int .i64 r__End2, .bool r__Loop3, r__Steps4.val] T_api_Recording) →
 ∃ n7 : Int, w6.cell? ⟨b5, 0, none⟩ = some (.int .i64 n7) ∧
 ∃ J4 : Bool → World → Prop, (∀ (b14 : Bool) (w13 : World), J4 b14 w13 →
 brB b14
 (K (.bool false) w13)
 (∃ s15 : Sl, w13.cell? ⟨b5, 3, none⟩ = some (s15.val) ∧
 ∃ (I1 : Int → Int → World → Prop) (μ1 : Int → Int → World → Nat), I1 n7 (0 : Int) w13 ∧ ∀ (at34 : Int) (n17 : Int) (w16 : World), I1 at34 n17 w16 →
 brB (decide (n17 < (s15.len : Int)))
 (∃ a18 : Addr, s15.ptr = some a18 ∧ 0 ≤ n17 ∧ n17 < (s15.len : Int) ∧
 ∃ n_Ip19 : Int, ∃ n_Cell20 : Int, ∃ n_Arg21 : Int, ∃ n_Next22 : Int, w16.cell? (Addr.add a18 (Int.toNat n17 * 4)) = some (.int .i64 n_Ip19) ∧ w16.cell? (Addr.add (Addr.add a18 (Int.toNat n17 * 4)) 1) = some (.int .i64 n_Cell20) ∧ w16.cell? (Addr.add (Addr.add a18 (Int.toNat n17 * 4)) 2) = some (.int .i64 n_Arg21) ∧ w16.cell? (Addr.add (Addr.add a18 (Int.toNat n17 * 4)) 3) = some (.int .i64 n_Next22) ∧
 ∀ (b23 : Nat) (w24 : World), b23 = w16.heap.size → w24 = World.alloc w16 (.cells #[.int .i64 (0 : Int), .int .i64 (0 : Int), .int .i64 (0 : Int), .int .i64 (0 : Int)] T_api_Seen) →
 wrOk w24 ⟨b23, 0, none⟩ 4 ∧ ∀ w25 : World, w25 = stW w24 ⟨b23, 0, none⟩ 0 [.int .i64 n_Ip19, .int .i64 n_Cell20, .int .i64 n_Arg21, .int .i64 n_Next22] →
 ∃ J13 : Bool → World → Prop, (∀ (b38 : Bool) (w37 : World), J13 b38 w37 →
 brB b38
 (K (.bool false) w37)
 (∃ n39 : Int, w37.cell? ⟨b23, 3, none⟩ = some (.int .i64 n39) ∧
 I1 n39 (wr (n17 + (1 : Int))) w37 ∧ μ1 n39 (wr (n17 + (1 : Int))) w37 < μ1 at34 n17 w16)) ∧
 ∃ n_Ip26 : Int, ∃ n_Cell27 : Int, ∃ n_Arg28 : Int, ∃ n_Next29 : Int, w25.cell? ⟨b23, 0, none⟩ = some (.int .i64 n_Ip26) ∧ w25.cell? ⟨b23, 1, none⟩ = some (.int .i64 n_Cell27) ∧ w25.cell? ⟨b23, 2, none⟩ = some (.int .i64 n_Arg28) ∧ w25.cell? ⟨b23, 3, none⟩ = some (.int .i64 n_Next29) ∧
 Calls Tryz.prog fn_record_single #[.agg #[.int .i64 n_Ip26, .int .i64 n_Cell27, .int .i64 n_Arg28, .int .i64 n_Next29]] w25 fun e30 w31 => ∃ b32 : Bool, e30 = .returned (.bool b32) ∧
 brB (!b32)
 (J13 true w31)
 (∃ n33 : Int, w31.cell? ⟨b23, 0, none⟩ = some (.int .i64 n33) ∧
 brB (n33 != at34)
 (J13 true w31)
 (brB (decide (n17 > (0 : Int)))
 (∃ n35 : Int, w31.cell? ⟨b23, 0, none⟩ = some (.int .i64 n35) ∧
 ∃ n36 : Int, w31.cell? ⟨b5, 0, none⟩ = some (.int .i64 n36) ∧
 J13 (n35 == n36) w31)
 (J13 false w31))))
 (∃ n40 : Int, w16.cell? ⟨b5, 1, none⟩ = some (.int .i64 n40) ∧
 K (.bool (at34 == n40)) w16))) ∧
 ∃ s8 : Sl, w6.cell? ⟨b5, 3, none⟩ = some (s8.val) ∧
 brB (decide ((s8.len : Int) > (120 : Int)))
 (J4 true w6)
 (∃ b9 : Bool, w6.cell? ⟨b5, 2, none⟩ = some (.bool b9) ∧
 ∃ s10 : Sl, w6.cell? ⟨b5, 3, none⟩ = some (s10.val) ∧
 brB (decide ((s10.len : Int) > (0 : Int)))
 (∃ n11 : Int, w6.cell? ⟨b5, 1, none⟩ = some (.int .i64 n11) ∧
 ∃ n12 : Int, w6.cell? ⟨b5, 0, none⟩ = some (.int .i64 n12) ∧
 J4 (!(b9 == (n11 == n12))) w6)
 (J4 (!(b9 == false)) w6))
def record_Right_an : An := ⟨[(5, [(3, .int .i64), (31, .int .i64)])], [], [(3, [(27, .bool)]), (8, [(55, .bool)])]⟩
theorem record_Right_lift {r__Start1 : Int} {r__End2 : Int} {r__Loop3 : Bool} {r__Steps4 : Sl} {w : World} {K : Value → World → Prop} (h : record_Right_sh r__Start1 r__End2 r__Loop3 r__Steps4 w K) : Calls Tryz.prog fn_record_Right #[.agg #[.int .i64 r__Start1, .int .i64 r__End2, .bool r__Loop3, r__Steps4.val]] w fun e w' => ∃ v, e = .returned v ∧ K v w' :=
   lift_calls (A := record_Right_an) (c := bodyOf Tryz.f36) (args := [.agg #[.int .i64 r__Start1, .int .i64 r__End2, .bool r__Loop3, r__Steps4.val]]) orc orc_wide Tryz.func36 (by kernel_rfl) (by kernel_rfl) (Eq.mp (by kernel_rfl : record_Right_sh r__Start1 r__End2 r__Loop3 r__Steps4 w K = wpc orc Tryz.f36.ntmps record_Right_an (bodyOf Tryz.f36) (argl 0 [.agg #[.int .i64 r__Start1, .int .i64 r__End2, .bool r__Loop3, r__Steps4.val]]) w (retQ orc Tryz.f36.results.toList K)) h)

-- holloway/record.After
-- holloway/record.next
def record_next_sh (s__Ip1 : Int) (s__Handler2 : Int) (s__Stack3 : Sl) (s__Back4 : Sl) (s__Mem5 : Sl) (s__Out6 : ByteArray) (s__In7 : ByteArray) (s__Read8 : Int) (s__Status9 : Int) (s__Code10 : Int) (w : World) (K : Value → World → Prop) : Prop :=
 ∀ (b11 : Nat) (w12 : World), b11 = w.heap.size → w12 = World.alloc w (.cells #[.int .i64 s__Ip1, .int .i64 s__Handler2, s__Stack3.val, s__Back4.val, s__Mem5.val, .string s__Out6, .string s__In7, .int .i64 s__Read8, .int .i64 s__Status9, .int .i64 s__Code10] T_api_State) →
 ∀ (b13 : Nat) (w14 : World), b13 = w12.heap.size → w14 = World.alloc w12 (.cells #[.int .i64 (0 : Int), .int .i64 (0 : Int), .int .i64 (0 : Int), .int .i64 (0 : Int)] T_api_Seen) →
 ∀ (b15 : Nat) (w16 : World), b15 = w14.heap.size → w16 = World.alloc w14 (.cells #[.int .i64 (0 : Int), .int .i64 (0 : Int), .slice none 0 0, .slice none 0 0, .slice none 0 0, .string (bs []), .string (bs []), .int .i64 (0 : Int), .int .i64 (0 : Int), .int .i64 (0 : Int)] T_api_State) →
 ∃ n_Ip17 : Int, ∃ n_Handler18 : Int, ∃ s_Stack19 : Sl, ∃ s_Back20 : Sl, ∃ s_Mem21 : Sl, ∃ t_Out22 : ByteArray, ∃ t_In23 : ByteArray, ∃ n_Read24 : Int, ∃ n_Status25 : Int, ∃ n_Code26 : Int, w16.cell? ⟨b11, 0, none⟩ = some (.int .i64 n_Ip17) ∧ w16.cell? ⟨b11, 1, none⟩ = some (.int .i64 n_Handler18) ∧ w16.cell? ⟨b11, 2, none⟩ = some (s_Stack19.val) ∧ w16.cell? ⟨b11, 3, none⟩ = some (s_Back20.val) ∧ w16.cell? ⟨b11, 4, none⟩ = some (s_Mem21.val) ∧ w16.cell? ⟨b11, 5, none⟩ = some (.string t_Out22) ∧ w16.cell? ⟨b11, 6, none⟩ = some (.string t_In23) ∧ w16.cell? ⟨b11, 7, none⟩ = some (.int .i64 n_Read24) ∧ w16.cell? ⟨b11, 8, none⟩ = some (.int .i64 n_Status25) ∧ w16.cell? ⟨b11, 9, none⟩ = some (.int .i64 n_Code26) ∧
 ∃ n27 : Int, w16.cell? ⟨b11, 0, none⟩ = some (.int .i64 n27) ∧
 Calls Tryz.prog fn_record_load #[.agg #[.int .i64 n_Ip17, .int .i64 n_Handler18, s_Stack19.val, s_Back20.val, s_Mem21.val, .string t_Out22, .string t_In23, .int .i64 n_Read24, .int .i64 n_Status25, .int .i64 n_Code26], .int .i64 n27] w16 fun e28 w29 => ∃ n30 : Int, ∃ b31 : Bool, e28 = .returned (.tuple #[.int .i64 n30, .bool b31]) ∧
 ∃ J4 : Bool → World → Prop, (∀ (b37 : Bool) (w36 : World), J4 b37 w36 →
 brB b37
 (∀ w38 : World, w38 = World.drew w36 →
 ∃ S39 : World → Prop, S39 w38 ∧
 ∃ n_Ip40 : Int, ∃ n_Handler41 : Int, ∃ s_Stack42 : Sl, ∃ s_Back43 : Sl, ∃ s_Mem44 : Sl, ∃ t_Out45 : ByteArray, ∃ t_In46 : ByteArray, ∃ n_Read47 : Int, ∃ n_Status48 : Int, ∃ n_Code49 : Int, held S39 ⟨b11, 0, none⟩ (.int .i64 n_Ip40) ∧ held S39 ⟨b11, 1, none⟩ (.int .i64 n_Handler41) ∧ held S39 ⟨b11, 2, none⟩ (s_Stack42.val) ∧ held S39 ⟨b11, 3, none⟩ (s_Back43.val) ∧ held S39 ⟨b11, 4, none⟩ (s_Mem44.val) ∧ held S39 ⟨b11, 5, none⟩ (.string t_Out45) ∧ held S39 ⟨b11, 6, none⟩ (.string t_In46) ∧ held S39 ⟨b11, 7, none⟩ (.int .i64 n_Read47) ∧ held S39 ⟨b11, 8, none⟩ (.int .i64 n_Status48) ∧ held S39 ⟨b11, 9, none⟩ (.int .i64 n_Code49) ∧
 S39 w38 ∧
 wrOk w38 ⟨b13, 0, none⟩ 4 ∧ ∀ w50 : World, w50 = stW w38 ⟨b13, 0, none⟩ 0 [.int .i64 (0 : Int), .int .i64 (0 : Int), .int .i64 (0 : Int), .int .i64 (0 : Int)] →
 S39 w50 ∧
 wrOk w50 ⟨b15, 0, none⟩ 10 ∧ ∀ w51 : World, w51 = stW w50 ⟨b15, 0, none⟩ 0 [.int .i64 n_Ip40, .int .i64 n_Handler41, s_Stack42.val, s_Back43.val, s_Mem44.val, .string t_Out45, .string t_In46, .int .i64 n_Read47, .int .i64 n_Status48, .int .i64 n_Code49] →
 ∃ r_Ip52 : Int, ∃ r_Cell53 : Int, ∃ r_Arg54 : Int, ∃ r_Next55 : Int, w51.cell? ⟨b13, 0, none⟩ = some (.int .i64 r_Ip52) ∧ w51.cell? ⟨b13, 1, none⟩ = some (.int .i64 r_Cell53) ∧ w51.cell? ⟨b13, 2, none⟩ = some (.int .i64 r_Arg54) ∧ w51.cell? ⟨b13, 3, none⟩ = some (.int .i64 r_Next55) ∧
 ∃ r_Ip56 : Int, ∃ r_Handler57 : Int, ∃ r_Stack58 : Sl, ∃ r_Back59 : Sl, ∃ r_Mem60 : Sl, ∃ r_Out61 : ByteArray, ∃ r_In62 : ByteArray, ∃ r_Read63 : Int, ∃ r_Status64 : Int, ∃ r_Code65 : Int, w51.cell? ⟨b15, 0, none⟩ = some (.int .i64 r_Ip56) ∧ w51.cell? ⟨b15, 1, none⟩ = some (.int .i64 r_Handler57) ∧ w51.cell? ⟨b15, 2, none⟩ = some (r_Stack58.val) ∧ w51.cell? ⟨b15, 3, none⟩ = some (r_Back59.val) ∧ w51.cell? ⟨b15, 4, none⟩ = some (r_Mem60.val) ∧ w51.cell? ⟨b15, 5, none⟩ = some (.string r_Out61) ∧ w51.cell? ⟨b15, 6, none⟩ = some (.string r_In62) ∧ w51.cell? ⟨b15, 7, none⟩ = some (.int .i64 r_Read63) ∧ w51.cell? ⟨b15, 8, none⟩ = some (.int .i64 r_Status64) ∧ w51.cell? ⟨b15, 9, none⟩ = some (.int .i64 r_Code65) ∧
 K (.tuple #[.agg #[.int .i64 r_Ip52, .int .i64 r_Cell53, .int .i64 r_Arg54, .int .i64 r_Next55], .agg #[.int .i64 r_Ip56, .int .i64 r_Handler57, r_Stack58.val, r_Back59.val, r_Mem60.val, .string r_Out61, .string r_In62, .int .i64 r_Read63, .int .i64 r_Status64, .int .i64 r_Code65], .bool false]) w51)
 (∃ n66 : Int, w36.cell? ⟨b11, 0, none⟩ = some (.int .i64 n66) ∧
 ∀ (b67 : Nat) (w68 : World), b67 = w36.heap.size → w68 = World.alloc w36 (.cells #[.int .i64 (0 : Int), .int .i64 (0 : Int), .int .i64 (0 : Int), .int .i64 (0 : Int)] T_api_Seen) →
 wrOk w68 ⟨b67, 0, none⟩ 4 ∧ ∀ w69 : World, w69 = stW w68 ⟨b67, 0, none⟩ 0 [.int .i64 n66, .int .i64 n30, .int .i64 (0 : Int), .int .i64 (0 : Int)] →
 ∃ J7 : World → Prop, (∀ (w89 : World), J7  w89 →
 ∃ n_Ip90 : Int, ∃ n_Handler91 : Int, ∃ s_Stack92 : Sl, ∃ s_Back93 : Sl, ∃ s_Mem94 : Sl, ∃ t_Out95 : ByteArray, ∃ t_In96 : ByteArray, ∃ n_Read97 : Int, ∃ n_Status98 : Int, ∃ n_Code99 : Int, w89.cell? ⟨b11, 0, none⟩ = some (.int .i64 n_Ip90) ∧ w89.cell? ⟨b11, 1, none⟩ = some (.int .i64 n_Handler91) ∧ w89.cell? ⟨b11, 2, none⟩ = some (s_Stack92.val) ∧ w89.cell? ⟨b11, 3, none⟩ = some (s_Back93.val) ∧ w89.cell? ⟨b11, 4, none⟩ = some (s_Mem94.val) ∧ w89.cell? ⟨b11, 5, none⟩ = some (.string t_Out95) ∧ w89.cell? ⟨b11, 6, none⟩ = some (.string t_In96) ∧ w89.cell? ⟨b11, 7, none⟩ = some (.int .i64 n_Read97) ∧ w89.cell? ⟨b11, 8, none⟩ = some (.int .i64 n_Status98) ∧ w89.cell? ⟨b11, 9, none⟩ = some (.int .i64 n_Code99) ∧
 ∀ (b100 : Nat) (w101 : World), b100 = w89.heap.size → w101 = World.alloc w89 (.cells #[.int .i64 (0 : Int), .int .i64 (0 : Int), .slice none 0 0, .slice none 0 0, .slice none 0 0, .string (bs []), .string (bs []), .int .i64 (0 : Int), .int .i64 (0 : Int), .int .i64 (0 : Int)] T_api_State) →
 wrOk w101 ⟨b100, 0, none⟩ 10 ∧ ∀ w102 : World, w102 = stW w101 ⟨b100, 0, none⟩ 0 [.int .i64 n_Ip90, .int .i64 n_Handler91, s_Stack92.val, s_Back93.val, s_Mem94.val, .string t_Out95, .string t_In96, .int .i64 n_Read97, .int .i64 n_Status98, .int .i64 n_Code99] →
 wrOk w102 ⟨b100, 1, none⟩ 1 ∧ ∀ w103 : World, w103 = stW w102 ⟨b100, 1, none⟩ 0 [.int .i64 (0 : Int)] →
 ∃ n_Ip104 : Int, ∃ n_Handler105 : Int, ∃ s_Stack106 : Sl, ∃ s_Back107 : Sl, ∃ s_Mem108 : Sl, ∃ t_Out109 : ByteArray, ∃ t_In110 : ByteArray, ∃ n_Read111 : Int, ∃ n_Status112 : Int, ∃ n_Code113 : Int, w103.cell? ⟨b100, 0, none⟩ = some (.int .i64 n_Ip104) ∧ w103.cell? ⟨b100, 1, none⟩ = some (.int .i64 n_Handler105) ∧ w103.cell? ⟨b100, 2, none⟩ = some (s_Stack106.val) ∧ w103.cell? ⟨b100, 3, none⟩ = some (s_Back107.val) ∧ w103.cell? ⟨b100, 4, none⟩ = some (s_Mem108.val) ∧ w103.cell? ⟨b100, 5, none⟩ = some (.string t_Out109) ∧ w103.cell? ⟨b100, 6, none⟩ = some (.string t_In110) ∧ w103.cell? ⟨b100, 7, none⟩ = some (.int .i64 n_Read111) ∧ w103.cell? ⟨b100, 8, none⟩ = some (.int .i64 n_Status112) ∧ w103.cell? ⟨b100, 9, none⟩ = some (.int .i64 n_Code113) ∧
 Calls Tryz.prog fn_inner_Step #[.agg #[.int .i64 n_Ip104, .int .i64 n_Handler105, s_Stack106.val, s_Back107.val, s_Mem108.val, .string t_Out109, .string t_In110, .int .i64 n_Read111, .int .i64 n_Status112, .int .i64 n_Code113]] w103 fun e114 w115 => ∃ n_Ip116 : Int, ∃ n_Handler117 : Int, ∃ s_Stack118 : Sl, ∃ s_Back119 : Sl, ∃ s_Mem120 : Sl, ∃ t_Out121 : ByteArray, ∃ t_In122 : ByteArray, ∃ n_Read123 : Int, ∃ n_Status124 : Int, ∃ n_Code125 : Int, e114 = .returned (.agg #[.int .i64 n_Ip116, .int .i64 n_Handler117, s_Stack118.val, s_Back119.val, s_Mem120.val, .string t_Out121, .string t_In122, .int .i64 n_Read123, .int .i64 n_Status124, .int .i64 n_Code125]) ∧
 brB (n_Status124 == (2 : Int))
 (∀ w126 : World, w126 = World.drew w115 →
 ∃ S127 : World → Prop, S127 w126 ∧
 ∃ n_Ip128 : Int, ∃ n_Handler129 : Int, ∃ s_Stack130 : Sl, ∃ s_Back131 : Sl, ∃ s_Mem132 : Sl, ∃ t_Out133 : ByteArray, ∃ t_In134 : ByteArray, ∃ n_Read135 : Int, ∃ n_Status136 : Int, ∃ n_Code137 : Int, held S127 ⟨b11, 0, none⟩ (.int .i64 n_Ip128) ∧ held S127 ⟨b11, 1, none⟩ (.int .i64 n_Handler129) ∧ held S127 ⟨b11, 2, none⟩ (s_Stack130.val) ∧ held S127 ⟨b11, 3, none⟩ (s_Back131.val) ∧ held S127 ⟨b11, 4, none⟩ (s_Mem132.val) ∧ held S127 ⟨b11, 5, none⟩ (.string t_Out133) ∧ held S127 ⟨b11, 6, none⟩ (.string t_In134) ∧ held S127 ⟨b11, 7, none⟩ (.int .i64 n_Read135) ∧ held S127 ⟨b11, 8, none⟩ (.int .i64 n_Status136) ∧ held S127 ⟨b11, 9, none⟩ (.int .i64 n_Code137) ∧
 S127 w126 ∧
 wrOk w126 ⟨b13, 0, none⟩ 4 ∧ ∀ w138 : World, w138 = stW w126 ⟨b13, 0, none⟩ 0 [.int .i64 (0 : Int), .int .i64 (0 : Int), .int .i64 (0 : Int), .int .i64 (0 : Int)] →
 S127 w138 ∧
 wrOk w138 ⟨b15, 0, none⟩ 10 ∧ ∀ w139 : World, w139 = stW w138 ⟨b15, 0, none⟩ 0 [.int .i64 n_Ip128, .int .i64 n_Handler129, s_Stack130.val, s_Back131.val, s_Mem132.val, .string t_Out133, .string t_In134, .int .i64 n_Read135, .int .i64 n_Status136, .int .i64 n_Code137] →
 ∃ r_Ip140 : Int, ∃ r_Cell141 : Int, ∃ r_Arg142 : Int, ∃ r_Next143 : Int, w139.cell? ⟨b13, 0, none⟩ = some (.int .i64 r_Ip140) ∧ w139.cell? ⟨b13, 1, none⟩ = some (.int .i64 r_Cell141) ∧ w139.cell? ⟨b13, 2, none⟩ = some (.int .i64 r_Arg142) ∧ w139.cell? ⟨b13, 3, none⟩ = some (.int .i64 r_Next143) ∧
 ∃ r_Ip144 : Int, ∃ r_Handler145 : Int, ∃ r_Stack146 : Sl, ∃ r_Back147 : Sl, ∃ r_Mem148 : Sl, ∃ r_Out149 : ByteArray, ∃ r_In150 : ByteArray, ∃ r_Read151 : Int, ∃ r_Status152 : Int, ∃ r_Code153 : Int, w139.cell? ⟨b15, 0, none⟩ = some (.int .i64 r_Ip144) ∧ w139.cell? ⟨b15, 1, none⟩ = some (.int .i64 r_Handler145) ∧ w139.cell? ⟨b15, 2, none⟩ = some (r_Stack146.val) ∧ w139.cell? ⟨b15, 3, none⟩ = some (r_Back147.val) ∧ w139.cell? ⟨b15, 4, none⟩ = some (r_Mem148.val) ∧ w139.cell? ⟨b15, 5, none⟩ = some (.string r_Out149) ∧ w139.cell? ⟨b15, 6, none⟩ = some (.string r_In150) ∧ w139.cell? ⟨b15, 7, none⟩ = some (.int .i64 r_Read151) ∧ w139.cell? ⟨b15, 8, none⟩ = some (.int .i64 r_Status152) ∧ w139.cell? ⟨b15, 9, none⟩ = some (.int .i64 r_Code153) ∧
 K (.tuple #[.agg #[.int .i64 r_Ip140, .int .i64 r_Cell141, .int .i64 r_Arg142, .int .i64 r_Next143], .agg #[.int .i64 r_Ip144, .int .i64 r_Handler145, r_Stack146.val, r_Back147.val, r_Mem148.val, .string r_Out149, .string r_In150, .int .i64 r_Read151, .int .i64 r_Status152, .int .i64 r_Code153], .bool false]) w139)
 (∃ n_Ip154 : Int, ∃ n_Handler155 : Int, ∃ s_Stack156 : Sl, ∃ s_Back157 : Sl, ∃ s_Mem158 : Sl, ∃ t_Out159 : ByteArray, ∃ t_In160 : ByteArray, ∃ n_Read161 : Int, ∃ n_Status162 : Int, ∃ n_Code163 : Int, w115.cell? ⟨b11, 0, none⟩ = some (.int .i64 n_Ip154) ∧ w115.cell? ⟨b11, 1, none⟩ = some (.int .i64 n_Handler155) ∧ w115.cell? ⟨b11, 2, none⟩ = some (s_Stack156.val) ∧ w115.cell? ⟨b11, 3, none⟩ = some (s_Back157.val) ∧ w115.cell? ⟨b11, 4, none⟩ = some (s_Mem158.val) ∧ w115.cell? ⟨b11, 5, none⟩ = some (.string t_Out159) ∧ w115.cell? ⟨b11, 6, none⟩ = some (.string t_In160) ∧ w115.cell? ⟨b11, 7, none⟩ = some (.int .i64 n_Read161) ∧ w115.cell? ⟨b11, 8, none⟩ = some (.int .i64 n_Status162) ∧ w115.cell? ⟨b11, 9, none⟩ = some (.int .i64 n_Code163) ∧
 Calls Tryz.prog fn_inner_Step #[.agg #[.int .i64 n_Ip154, .int .i64 n_Handler155, s_Stack156.val, s_Back157.val, s_Mem158.val, .string t_Out159, .string t_In160, .int .i64 n_Read161, .int .i64 n_Status162, .int .i64 n_Code163]] w115 fun e164 w165 => ∃ n_Ip166 : Int, ∃ n_Handler167 : Int, ∃ s_Stack168 : Sl, ∃ s_Back169 : Sl, ∃ s_Mem170 : Sl, ∃ t_Out171 : ByteArray, ∃ t_In172 : ByteArray, ∃ n_Read173 : Int, ∃ n_Status174 : Int, ∃ n_Code175 : Int, e164 = .returned (.agg #[.int .i64 n_Ip166, .int .i64 n_Handler167, s_Stack168.val, s_Back169.val, s_Mem170.val, .string t_Out171, .string t_In172, .int .i64 n_Read173, .int .i64 n_Status174, .int .i64 n_Code175]) ∧
 ∀ (b176 : Nat) (w177 : World), b176 = w165.heap.size → w177 = World.alloc w165 (.cells #[.int .i64 (0 : Int), .int .i64 (0 : Int), .slice none 0 0, .slice none 0 0, .slice none 0 0, .string (bs []), .string (bs []), .int .i64 (0 : Int), .int .i64 (0 : Int), .int .i64 (0 : Int)] T_api_State) →
 wrOk w177 ⟨b176, 0, none⟩ 10 ∧ ∀ w178 : World, w178 = stW w177 ⟨b176, 0, none⟩ 0 [.int .i64 n_Ip166, .int .i64 n_Handler167, s_Stack168.val, s_Back169.val, s_Mem170.val, .string t_Out171, .string t_In172, .int .i64 n_Read173, .int .i64 n_Status174, .int .i64 n_Code175] →
 ∃ n179 : Int, w178.cell? ⟨b176, 0, none⟩ = some (.int .i64 n179) ∧
 wrOk w178 ⟨b67, 3, none⟩ 1 ∧ ∀ w180 : World, w180 = stW w178 ⟨b67, 3, none⟩ 0 [.int .i64 n179] →
 ∀ w181 : World, w181 = World.drew w180 →
 ∃ S182 : World → Prop, S182 w181 ∧
 ∃ n_Ip183 : Int, ∃ n_Cell184 : Int, ∃ n_Arg185 : Int, ∃ n_Next186 : Int, held S182 ⟨b67, 0, none⟩ (.int .i64 n_Ip183) ∧ held S182 ⟨b67, 1, none⟩ (.int .i64 n_Cell184) ∧ held S182 ⟨b67, 2, none⟩ (.int .i64 n_Arg185) ∧ held S182 ⟨b67, 3, none⟩ (.int .i64 n_Next186) ∧
 ∃ n_Ip187 : Int, ∃ n_Handler188 : Int, ∃ s_Stack189 : Sl, ∃ s_Back190 : Sl, ∃ s_Mem191 : Sl, ∃ t_Out192 : ByteArray, ∃ t_In193 : ByteArray, ∃ n_Read194 : Int, ∃ n_Status195 : Int, ∃ n_Code196 : Int, held S182 ⟨b176, 0, none⟩ (.int .i64 n_Ip187) ∧ held S182 ⟨b176, 1, none⟩ (.int .i64 n_Handler188) ∧ held S182 ⟨b176, 2, none⟩ (s_Stack189.val) ∧ held S182 ⟨b176, 3, none⟩ (s_Back190.val) ∧ held S182 ⟨b176, 4, none⟩ (s_Mem191.val) ∧ held S182 ⟨b176, 5, none⟩ (.string t_Out192) ∧ held S182 ⟨b176, 6, none⟩ (.string t_In193) ∧ held S182 ⟨b176, 7, none⟩ (.int .i64 n_Read194) ∧ held S182 ⟨b176, 8, none⟩ (.int .i64 n_Status195) ∧ held S182 ⟨b176, 9, none⟩ (.int .i64 n_Code196) ∧
 ∃ n197 : Int, held S182 ⟨b67, 3, none⟩ (.int .i64 n197) ∧
 Calls Tryz.prog fn_record_place #[.int .i64 n197] w181 fun e198 w199 => ∃ b200 : Bool, e198 = .returned (.bool b200) ∧
 S182 w199 ∧
 wrOk w199 ⟨b13, 0, none⟩ 4 ∧ ∀ w201 : World, w201 = stW w199 ⟨b13, 0, none⟩ 0 [.int .i64 n_Ip183, .int .i64 n_Cell184, .int .i64 n_Arg185, .int .i64 n_Next186] →
 S182 w201 ∧
 wrOk w201 ⟨b15, 0, none⟩ 10 ∧ ∀ w202 : World, w202 = stW w201 ⟨b15, 0, none⟩ 0 [.int .i64 n_Ip187, .int .i64 n_Handler188, s_Stack189.val, s_Back190.val, s_Mem191.val, .string t_Out192, .string t_In193, .int .i64 n_Read194, .int .i64 n_Status195, .int .i64 n_Code196] →
 ∃ r_Ip203 : Int, ∃ r_Cell204 : Int, ∃ r_Arg205 : Int, ∃ r_Next206 : Int, w202.cell? ⟨b13, 0, none⟩ = some (.int .i64 r_Ip203) ∧ w202.cell? ⟨b13, 1, none⟩ = some (.int .i64 r_Cell204) ∧ w202.cell? ⟨b13, 2, none⟩ = some (.int .i64 r_Arg205) ∧ w202.cell? ⟨b13, 3, none⟩ = some (.int .i64 r_Next206) ∧
 ∃ r_Ip207 : Int, ∃ r_Handler208 : Int, ∃ r_Stack209 : Sl, ∃ r_Back210 : Sl, ∃ r_Mem211 : Sl, ∃ r_Out212 : ByteArray, ∃ r_In213 : ByteArray, ∃ r_Read214 : Int, ∃ r_Status215 : Int, ∃ r_Code216 : Int, w202.cell? ⟨b15, 0, none⟩ = some (.int .i64 r_Ip207) ∧ w202.cell? ⟨b15, 1, none⟩ = some (.int .i64 r_Handler208) ∧ w202.cell? ⟨b15, 2, none⟩ = some (r_Stack209.val) ∧ w202.cell? ⟨b15, 3, none⟩ = some (r_Back210.val) ∧ w202.cell? ⟨b15, 4, none⟩ = some (r_Mem211.val) ∧ w202.cell? ⟨b15, 5, none⟩ = some (.string r_Out212) ∧ w202.cell? ⟨b15, 6, none⟩ = some (.string r_In213) ∧ w202.cell? ⟨b15, 7, none⟩ = some (.int .i64 r_Read214) ∧ w202.cell? ⟨b15, 8, none⟩ = some (.int .i64 r_Status215) ∧ w202.cell? ⟨b15, 9, none⟩ = some (.int .i64 r_Code216) ∧
 K (.tuple #[.agg #[.int .i64 r_Ip203, .int .i64 r_Cell204, .int .i64 r_Arg205, .int .i64 r_Next206], .agg #[.int .i64 r_Ip207, .int .i64 r_Handler208, r_Stack209.val, r_Back210.val, r_Mem211.val, .string r_Out212, .string r_In213, .int .i64 r_Read214, .int .i64 r_Status215, .int .i64 r_Code216], .bool b200]) w202)) ∧
 Calls Tryz.prog fn_record_arg #[.int .i64 n30] w69 fun e70 w71 => ∃ b72 : Bool, e70 = .returned (.bool b72) ∧
 brB b72
 (∃ n_Ip73 : Int, ∃ n_Handler74 : Int, ∃ s_Stack75 : Sl, ∃ s_Back76 : Sl, ∃ s_Mem77 : Sl, ∃ t_Out78 : ByteArray, ∃ t_In79 : ByteArray, ∃ n_Read80 : Int, ∃ n_Status81 : Int, ∃ n_Code82 : Int, w71.cell? ⟨b11, 0, none⟩ = some (.int .i64 n_Ip73) ∧ w71.cell? ⟨b11, 1, none⟩ = some (.int .i64 n_Handler74) ∧ w71.cell? ⟨b11, 2, none⟩ = some (s_Stack75.val) ∧ w71.cell? ⟨b11, 3, none⟩ = some (s_Back76.val) ∧ w71.cell? ⟨b11, 4, none⟩ = some (s_Mem77.val) ∧ w71.cell? ⟨b11, 5, none⟩ = some (.string t_Out78) ∧ w71.cell? ⟨b11, 6, none⟩ = some (.string t_In79) ∧ w71.cell? ⟨b11, 7, none⟩ = some (.int .i64 n_Read80) ∧ w71.cell? ⟨b11, 8, none⟩ = some (.int .i64 n_Status81) ∧ w71.cell? ⟨b11, 9, none⟩ = some (.int .i64 n_Code82) ∧
 ∃ n83 : Int, w71.cell? ⟨b11, 0, none⟩ = some (.int .i64 n83) ∧
 Calls Tryz.prog fn_record_load #[.agg #[.int .i64 n_Ip73, .int .i64 n_Handler74, s_Stack75.val, s_Back76.val, s_Mem77.val, .string t_Out78, .string t_In79, .int .i64 n_Read80, .int .i64 n_Status81, .int .i64 n_Code82], .int .i64 (wr (n83 + (1 : Int)))] w71 fun e84 w85 => ∃ n86 : Int, ∃ b87 : Bool, e84 = .returned (.tuple #[.int .i64 n86, .bool b87]) ∧
 wrOk w85 ⟨b67, 2, none⟩ 1 ∧ ∀ w88 : World, w88 = stW w85 ⟨b67, 2, none⟩ 0 [.int .i64 n86] →
 J7  w88)
 (J7  w71))) ∧
 brB (!b31)
 (J4 true w29)
 (∃ n32 : Int, w29.cell? ⟨b11, 8, none⟩ = some (.int .i64 n32) ∧
 brB (n32 != (0 : Int))
 (J4 true w29)
 (Calls Tryz.prog fn_record_plain #[.int .i64 n30] w29 fun e33 w34 => ∃ b35 : Bool, e33 = .returned (.bool b35) ∧
 J4 (!b35) w34))
def record_next_an : An := ⟨[], [(3, (3, .st 1 (.ef 0 (.ef 2 .done)), 1)), (10, (3, .st 1 (.ef 0 (.ef 2 .done)), 1)), (13, (6, .st 0 (.st 1 (.st 2 (.st 3 (.ef 4 (.ef 5 .done))))), 1))], [(3, [(28, .bool)]), (7, [])]⟩
theorem record_next_lift {s__Ip1 : Int} {s__Handler2 : Int} {s__Stack3 : Sl} {s__Back4 : Sl} {s__Mem5 : Sl} {s__Out6 : ByteArray} {s__In7 : ByteArray} {s__Read8 : Int} {s__Status9 : Int} {s__Code10 : Int} {w : World} {K : Value → World → Prop} (h : record_next_sh s__Ip1 s__Handler2 s__Stack3 s__Back4 s__Mem5 s__Out6 s__In7 s__Read8 s__Status9 s__Code10 w K) : Calls Tryz.prog fn_record_next #[.agg #[.int .i64 s__Ip1, .int .i64 s__Handler2, s__Stack3.val, s__Back4.val, s__Mem5.val, .string s__Out6, .string s__In7, .int .i64 s__Read8, .int .i64 s__Status9, .int .i64 s__Code10]] w fun e w' => ∃ v, e = .returned v ∧ K v w' :=
   lift_calls (A := record_next_an) (c := bodyOf Tryz.f80) (args := [.agg #[.int .i64 s__Ip1, .int .i64 s__Handler2, s__Stack3.val, s__Back4.val, s__Mem5.val, .string s__Out6, .string s__In7, .int .i64 s__Read8, .int .i64 s__Status9, .int .i64 s__Code10]]) orc orc_wide Tryz.func80 (by kernel_rfl) (by kernel_rfl) (Eq.mp (by kernel_rfl : record_next_sh s__Ip1 s__Handler2 s__Stack3 s__Back4 s__Mem5 s__Out6 s__In7 s__Read8 s__Status9 s__Code10 w K = wpc orc Tryz.f80.ntmps record_next_an (bodyOf Tryz.f80) (argl 0 [.agg #[.int .i64 s__Ip1, .int .i64 s__Handler2, s__Stack3.val, s__Back4.val, s__Mem5.val, .string s__Out6, .string s__In7, .int .i64 s__Read8, .int .i64 s__Status9, .int .i64 s__Code10]]) w (retQ orc Tryz.f80.results.toList K)) h)

-- holloway/record.arg
def record_arg_sh (cell1 : Int) (w : World) (K : Value → World → Prop) : Prop :=
 brB (decide (cell1 < (64 : Int)))
 (Calls Tryz.prog fn_op_Arg #[.int .i64 cell1] w fun e2 w3 => ∃ b4 : Bool, e2 = .returned (.bool b4) ∧
 K (.bool b4) w3)
 (K (.bool false) w)
def record_arg_an : An := ⟨[], [], []⟩
theorem record_arg_lift {cell1 : Int} {w : World} {K : Value → World → Prop} (h : record_arg_sh cell1 w K) : Calls Tryz.prog fn_record_arg #[.int .i64 cell1] w fun e w' => ∃ v, e = .returned v ∧ K v w' :=
   lift_calls (A := record_arg_an) (c := bodyOf Tryz.f81) (args := [.int .i64 cell1]) orc orc_wide Tryz.func81 (by kernel_rfl) (by kernel_rfl) (Eq.mp (by kernel_rfl : record_arg_sh cell1 w K = wpc orc Tryz.f81.ntmps record_arg_an (bodyOf Tryz.f81) (argl 0 [.int .i64 cell1]) w (retQ orc Tryz.f81.results.toList K)) h)

-- holloway/record.single
def record_single_sh (x__Ip1 : Int) (x__Cell2 : Int) (x__Arg3 : Int) (x__Next4 : Int) (w : World) (K : Value → World → Prop) : Prop :=
 ∀ (b5 : Nat) (w6 : World), b5 = w.heap.size → w6 = World.alloc w (.cells #[.int .i64 x__Ip1, .int .i64 x__Cell2, .int .i64 x__Arg3, .int .i64 x__Next4] T_api_Seen) →
 ∃ n7 : Int, w6.cell? ⟨b5, 0, none⟩ = some (.int .i64 n7) ∧
 ∃ J3 : Int → World → Prop, (∀ (last26 : Int) (w13 : World), J3 last26 w13 →
 ∃ n14 : Int, w13.cell? ⟨b5, 1, none⟩ = some (.int .i64 n14) ∧
 Calls Tryz.prog fn_record_plain #[.int .i64 n14] w13 fun e15 w16 => ∃ b17 : Bool, e15 = .returned (.bool b17) ∧
 brB b17
 (∃ n18 : Int, w16.cell? ⟨b5, 1, none⟩ = some (.int .i64 n18) ∧
 Calls Tryz.prog fn_record_arg #[.int .i64 n18] w16 fun e19 w20 => ∃ b21 : Bool, e19 = .returned (.bool b21) ∧
 brB b21
 (∃ n22 : Int, w20.cell? ⟨b5, 0, none⟩ = some (.int .i64 n22) ∧
 Calls Tryz.prog fn_record_place #[.int .i64 n22] w20 fun e23 w24 => ∃ b25 : Bool, e23 = .returned (.bool b25) ∧
 brB b25
 (Calls Tryz.prog fn_record_place #[.int .i64 last26] w24 fun e27 w28 => ∃ b29 : Bool, e27 = .returned (.bool b29) ∧
 brB b29
 (∃ n30 : Int, w28.cell? ⟨b5, 3, none⟩ = some (.int .i64 n30) ∧
 Calls Tryz.prog fn_record_place #[.int .i64 n30] w28 fun e31 w32 => ∃ b33 : Bool, e31 = .returned (.bool b33) ∧
 K (.bool b33) w32)
 (K (.bool false) w28))
 (K (.bool false) w24))
 (∃ n34 : Int, w20.cell? ⟨b5, 2, none⟩ = some (.int .i64 n34) ∧
 brB (n34 == (0 : Int))
 (∃ n35 : Int, w20.cell? ⟨b5, 0, none⟩ = some (.int .i64 n35) ∧
 Calls Tryz.prog fn_record_place #[.int .i64 n35] w20 fun e36 w37 => ∃ b38 : Bool, e36 = .returned (.bool b38) ∧
 brB b38
 (Calls Tryz.prog fn_record_place #[.int .i64 last26] w37 fun e39 w40 => ∃ b41 : Bool, e39 = .returned (.bool b41) ∧
 brB b41
 (∃ n42 : Int, w40.cell? ⟨b5, 3, none⟩ = some (.int .i64 n42) ∧
 Calls Tryz.prog fn_record_place #[.int .i64 n42] w40 fun e43 w44 => ∃ b45 : Bool, e43 = .returned (.bool b45) ∧
 K (.bool b45) w44)
 (K (.bool false) w40))
 (K (.bool false) w37))
 (K (.bool false) w20)))
 (K (.bool false) w16)) ∧
 ∃ n8 : Int, w6.cell? ⟨b5, 1, none⟩ = some (.int .i64 n8) ∧
 Calls Tryz.prog fn_record_arg #[.int .i64 n8] w6 fun e9 w10 => ∃ b11 : Bool, e9 = .returned (.bool b11) ∧
 brB b11
 (∃ n12 : Int, w10.cell? ⟨b5, 0, none⟩ = some (.int .i64 n12) ∧
 J3 (wr (n12 + (1 : Int))) w10)
 (J3 n7 w10)
def record_single_an : An := ⟨[], [], [(4, [(3, .int .i64)])]⟩
theorem record_single_lift {x__Ip1 : Int} {x__Cell2 : Int} {x__Arg3 : Int} {x__Next4 : Int} {w : World} {K : Value → World → Prop} (h : record_single_sh x__Ip1 x__Cell2 x__Arg3 x__Next4 w K) : Calls Tryz.prog fn_record_single #[.agg #[.int .i64 x__Ip1, .int .i64 x__Cell2, .int .i64 x__Arg3, .int .i64 x__Next4]] w fun e w' => ∃ v, e = .returned v ∧ K v w' :=
   lift_calls (A := record_single_an) (c := bodyOf Tryz.f87) (args := [.agg #[.int .i64 x__Ip1, .int .i64 x__Cell2, .int .i64 x__Arg3, .int .i64 x__Next4]]) orc orc_wide Tryz.func87 (by kernel_rfl) (by kernel_rfl) (Eq.mp (by kernel_rfl : record_single_sh x__Ip1 x__Cell2 x__Arg3 x__Next4 w K = wpc orc Tryz.f87.ntmps record_single_an (bodyOf Tryz.f87) (argl 0 [.agg #[.int .i64 x__Ip1, .int .i64 x__Cell2, .int .i64 x__Arg3, .int .i64 x__Next4]]) w (retQ orc Tryz.f87.results.toList K)) h)

-- holloway/record.load
def record_load_sh (s__Ip1 : Int) (s__Handler2 : Int) (s__Stack3 : Sl) (s__Back4 : Sl) (s__Mem5 : Sl) (s__Out6 : ByteArray) (s__In7 : ByteArray) (s__Read8 : Int) (s__Status9 : Int) (s__Code10 : Int) (a_11 : Int) (w : World) (K : Value → World → Prop) : Prop :=
 ∀ (b12 : Nat) (w13 : World), b12 = w.heap.size → w13 = World.alloc w (.cells #[.int .i64 s__Ip1, .int .i64 s__Handler2, s__Stack3.val, s__Back4.val, s__Mem5.val, .string s__Out6, .string s__In7, .int .i64 s__Read8, .int .i64 s__Status9, .int .i64 s__Code10] T_api_State) →
 ∃ J3 : Bool → World → Prop, (∀ (b16 : Bool) (w15 : World), J3 b16 w15 →
 brB b16
 (K (.tuple #[.int .i64 (0 : Int), .bool false]) w15)
 (∃ s17 : Sl, w15.cell? ⟨b12, 4, none⟩ = some (s17.val) ∧
 ∃ a18 : Addr, s17.ptr = some a18 ∧ 0 ≤ a_11 ∧ a_11 < (s17.len : Int) ∧
 ∃ n19 : Int, w15.cell? (Addr.add a18 (Int.toNat a_11 * 1)) = some (.int .i64 n19) ∧
 K (.tuple #[.int .i64 n19, .bool true]) w15)) ∧
 brB (decide (a_11 < (0 : Int)))
 (J3 true w13)
 (∃ s14 : Sl, w13.cell? ⟨b12, 4, none⟩ = some (s14.val) ∧
 J3 (decide (a_11 ≥ (s14.len : Int))) w13)
def record_load_an : An := ⟨[], [], [(2, [(14, .bool)])]⟩
theorem record_load_lift {s__Ip1 : Int} {s__Handler2 : Int} {s__Stack3 : Sl} {s__Back4 : Sl} {s__Mem5 : Sl} {s__Out6 : ByteArray} {s__In7 : ByteArray} {s__Read8 : Int} {s__Status9 : Int} {s__Code10 : Int} {a_11 : Int} {w : World} {K : Value → World → Prop} (h : record_load_sh s__Ip1 s__Handler2 s__Stack3 s__Back4 s__Mem5 s__Out6 s__In7 s__Read8 s__Status9 s__Code10 a_11 w K) : Calls Tryz.prog fn_record_load #[.agg #[.int .i64 s__Ip1, .int .i64 s__Handler2, s__Stack3.val, s__Back4.val, s__Mem5.val, .string s__Out6, .string s__In7, .int .i64 s__Read8, .int .i64 s__Status9, .int .i64 s__Code10], .int .i64 a_11] w fun e w' => ∃ v, e = .returned v ∧ K v w' :=
   lift_calls (A := record_load_an) (c := bodyOf Tryz.f104) (args := [.agg #[.int .i64 s__Ip1, .int .i64 s__Handler2, s__Stack3.val, s__Back4.val, s__Mem5.val, .string s__Out6, .string s__In7, .int .i64 s__Read8, .int .i64 s__Status9, .int .i64 s__Code10], .int .i64 a_11]) orc orc_wide Tryz.func104 (by kernel_rfl) (by kernel_rfl) (Eq.mp (by kernel_rfl : record_load_sh s__Ip1 s__Handler2 s__Stack3 s__Back4 s__Mem5 s__Out6 s__In7 s__Read8 s__Status9 s__Code10 a_11 w K = wpc orc Tryz.f104.ntmps record_load_an (bodyOf Tryz.f104) (argl 0 [.agg #[.int .i64 s__Ip1, .int .i64 s__Handler2, s__Stack3.val, s__Back4.val, s__Mem5.val, .string s__Out6, .string s__In7, .int .i64 s__Read8, .int .i64 s__Status9, .int .i64 s__Code10], .int .i64 a_11]) w (retQ orc Tryz.f104.results.toList K)) h)

-- holloway/record.plain
def record_plain_sh (cell1 : Int) (w : World) (K : Value → World → Prop) : Prop :=
 brB (decide (cell1 ≥ (64 : Int)))
 (K (.bool true) w)
 (Calls Tryz.prog fn_op_Plain #[.int .i64 cell1] w fun e2 w3 => ∃ b4 : Bool, e2 = .returned (.bool b4) ∧
 K (.bool b4) w3)
def record_plain_an : An := ⟨[], [], []⟩
theorem record_plain_lift {cell1 : Int} {w : World} {K : Value → World → Prop} (h : record_plain_sh cell1 w K) : Calls Tryz.prog fn_record_plain #[.int .i64 cell1] w fun e w' => ∃ v, e = .returned v ∧ K v w' :=
   lift_calls (A := record_plain_an) (c := bodyOf Tryz.f105) (args := [.int .i64 cell1]) orc orc_wide Tryz.func105 (by kernel_rfl) (by kernel_rfl) (Eq.mp (by kernel_rfl : record_plain_sh cell1 w K = wpc orc Tryz.f105.ntmps record_plain_an (bodyOf Tryz.f105) (argl 0 [.int .i64 cell1]) w (retQ orc Tryz.f105.results.toList K)) h)

-- holloway/record.place
def record_place_sh (a_1 : Int) (w : World) (K : Value → World → Prop) : Prop :=
 brB (decide (a_1 ≥ (0 : Int)))
 (K (.bool (decide (a_1 < (3000 : Int)))) w)
 (K (.bool false) w)
def record_place_an : An := ⟨[], [], []⟩
theorem record_place_lift {a_1 : Int} {w : World} {K : Value → World → Prop} (h : record_place_sh a_1 w K) : Calls Tryz.prog fn_record_place #[.int .i64 a_1] w fun e w' => ∃ v, e = .returned v ∧ K v w' :=
   lift_calls (A := record_place_an) (c := bodyOf Tryz.f106) (args := [.int .i64 a_1]) orc orc_wide Tryz.func106 (by kernel_rfl) (by kernel_rfl) (Eq.mp (by kernel_rfl : record_place_sh a_1 w K = wpc orc Tryz.f106.ntmps record_place_an (bodyOf Tryz.f106) (argl 0 [.int .i64 a_1]) w (retQ orc Tryz.f106.results.toList K)) h)

end Go.Proofs.YtkjpmkopnkkbmaaGreatDoor

/- The package record: its small functions, a step as it is recorded. -/
set_option maxRecDepth 100000
namespace Go.Proofs.YtkjpmkopnkkbmaaGreatDoor
open Go.RowKit

def seC (x : SnV) : List Value := [.int .i64 x.ip, .int .i64 x.cell, .int .i64 x.arg, .int .i64 x.next]
def se0 : SnV := ⟨0, 0, 0, 0⟩
def seE : Enc SnV := ⟨T_api_Seen, 4, 32, seC, by intro x; rfl, by intro x u hu; simp [seC] at hu; rcases hu with rfl | rfl | rfl | rfl <;> rfl, by decide⟩
theorem seOk : EncOk Tryz.prog seE T_sl_api_Seen := EncOk.of (z := .agg #[.int .i64 0, .int .i64 0, .int .i64 0, .int .i64 0]) (by kernel_rfl) (by kernel_rfl) (by kernel_rfl)
theorem varSn {w : World} (x : SnV) {G : Nat → World → Prop} (k : ∀ b w', b = w.heap.size → w.heap.size + 1 ≤ w'.heap.size → Ob w' b (seC x) T_api_Seen → Chg No w w' → G b w') : ∀ (b : Nat) (w1 : World), b = w.heap.size → w1 = World.alloc w (.cells (seC se0).toArray T_api_Seen) → wrOk w1 ⟨b, 0, none⟩ 4 ∧ ∀ w2 : World, w2 = stW w1 ⟨b, 0, none⟩ 0 (seC x) → G b w2 := fun b w1 hb hw => by
  have hn := fun (w2 : World) => newOb (w2 := w2) (T := T_api_Seen) (seC se0) (seC x) rfl hb hw
  refine ⟨(hn w1).1, fun w2 hw2 => ?_⟩
  obtain ⟨o, c⟩ := (hn w2).2 hw2
  exact k b w2 hb (by have := o.lt; omega) o c
theorem rdSn {w : World} {b : Nat} {x : SnV} {T : TypeId} {G : Int → Int → Int → Int → Prop} (o : Ob w b (seC x) T) (g : G x.ip x.cell x.arg x.next) :
    ∃ n1 : Int, ∃ n2 : Int, ∃ n3 : Int, ∃ n4 : Int, w.cell? ⟨b, 0, none⟩ = some (.int .i64 n1) ∧ w.cell? ⟨b, 1, none⟩ = some (.int .i64 n2) ∧ w.cell? ⟨b, 2, none⟩ = some (.int .i64 n3) ∧ w.cell? ⟨b, 3, none⟩ = some (.int .i64 n4) ∧ G n1 n2 n3 n4 :=
  ⟨_, _, _, _, o.cell rfl, o.cell rfl, o.cell rfl, o.cell rfl, g⟩
theorem setSn {w : World} {b : Nat} {x : SnV} (x' : SnV) {k n : Nat} {vs : List Value} {G : World → Prop} (o : Ob w b (seC x) T_api_Seen) (hl : k + n ≤ 4) (hn : n = vs.length) (hc : wrL (seC x) k vs = seC x') (g : ∀ w', Ob w' b (seC x') T_api_Seen → Chg (fun j => j = b) w w' → G w') :
    wrOk w ⟨b, k, none⟩ n ∧ ∀ w' : World, w' = stW w ⟨b, k, none⟩ 0 vs → G w' := by
  subst hn
  refine ⟨o.wr (by simpa [seC] using hl), fun w' hw' => ?_⟩
  obtain ⟨o', c'⟩ := o.up (cs' := seC x') (by simpa [seC] using hl) hc hw'
  exact g w' o' c'
theorem hdSt {Q : World → Prop} {b : Nat} {S : StC} {T : TypeId} {G : Int → Int → Sl → Sl → Sl → ByteArray → ByteArray → Int → Int → Int → Prop} (h : ∀ w', Q w' → Ob w' b (stC S) T) (g : G S.ip S.handler S.stack S.back S.mem S.out S.inp S.read S.status S.code) :
    ∃ n1 : Int, ∃ n2 : Int, ∃ s3 : Sl, ∃ s4 : Sl, ∃ s5 : Sl, ∃ t6 : ByteArray, ∃ t7 : ByteArray, ∃ n8 : Int, ∃ n9 : Int, ∃ n10 : Int, held Q ⟨b, 0, none⟩ (.int .i64 n1) ∧ held Q ⟨b, 1, none⟩ (.int .i64 n2) ∧ held Q ⟨b, 2, none⟩ (s3.val) ∧ held Q ⟨b, 3, none⟩ (s4.val) ∧ held Q ⟨b, 4, none⟩ (s5.val) ∧ held Q ⟨b, 5, none⟩ (.string t6) ∧ held Q ⟨b, 6, none⟩ (.string t7) ∧ held Q ⟨b, 7, none⟩ (.int .i64 n8) ∧ held Q ⟨b, 8, none⟩ (.int .i64 n9) ∧ held Q ⟨b, 9, none⟩ (.int .i64 n10) ∧ G n1 n2 s3 s4 s5 t6 t7 n8 n9 n10 :=
  ⟨_, _, _, _, _, _, _, _, _, _, Ob.held h rfl, Ob.held h rfl, Ob.held h rfl, Ob.held h rfl, Ob.held h rfl, Ob.held h rfl, Ob.held h rfl, Ob.held h rfl, Ob.held h rfl, Ob.held h rfl, g⟩
theorem hdSn {Q : World → Prop} {b : Nat} {x : SnV} {T : TypeId} {G : Int → Int → Int → Int → Prop} (h : ∀ w', Q w' → Ob w' b (seC x) T) (g : G x.ip x.cell x.arg x.next) :
    ∃ n1 : Int, ∃ n2 : Int, ∃ n3 : Int, ∃ n4 : Int, held Q ⟨b, 0, none⟩ (.int .i64 n1) ∧ held Q ⟨b, 1, none⟩ (.int .i64 n2) ∧ held Q ⟨b, 2, none⟩ (.int .i64 n3) ∧ held Q ⟨b, 3, none⟩ (.int .i64 n4) ∧ G n1 n2 n3 n4 :=
  ⟨_, _, _, _, Ob.held h rfl, Ob.held h rfl, Ob.held h rfl, Ob.held h rfl, g⟩
theorem place_rc (a : Int) (w : World) : Calls Tryz.prog fn_record_place #[.int .i64 a] w fun e w' => e = .returned (.bool (placeB a)) ∧ w = w' := by
  refine (record_place_lift (K := fun v w' => v = .bool (placeB a) ∧ w = w') ?_).mono (by rintro e w' ⟨v, rfl, rfl, h⟩; exact ⟨rfl, h⟩)
  unfold record_place_sh placeB
  refine brB_of (fun h => ?_) (fun h => ?_)
  · have h : 0 ≤ a := by have := of_decide_eq_true h; omega
    exact ⟨by rw [decide_eq_true h]; rfl, rfl⟩
  · have h : ¬ 0 ≤ a := by have := of_decide_eq_false h; omega
    exact ⟨by rw [decide_eq_false h]; rfl, rfl⟩
theorem plain_rc (c : Int) (w : World) : Calls Tryz.prog fn_record_plain #[.int .i64 c] w fun e w' => e = .returned (.bool (plB c)) ∧ w = w' := by
  refine (record_plain_lift (K := fun v w' => v = .bool (plB c) ∧ w = w') ?_).mono (by rintro e w' ⟨v, rfl, rfl, h⟩; exact ⟨rfl, h⟩)
  unfold record_plain_sh plB
  refine brB_of (fun h => ?_) (fun h => ?_)
  · have h : 64 ≤ c := by have := of_decide_eq_true h; omega
    exact ⟨by rw [decide_eq_true h]; rfl, rfl⟩
  · have h : ¬ 64 ≤ c := by have := of_decide_eq_false h; omega
    refine (plain_any c w).mono ?_
    rintro e w' ⟨rfl, rfl⟩
    exact ⟨_, rfl, by rw [decide_eq_false h]; rfl, rfl⟩
theorem arg_rc (c : Int) (w : World) : Calls Tryz.prog fn_record_arg #[.int .i64 c] w fun e w' => e = .returned (.bool (arB c)) ∧ w = w' := by
  refine (record_arg_lift (K := fun v w' => v = .bool (arB c) ∧ w = w') ?_).mono (by rintro e w' ⟨v, rfl, rfl, h⟩; exact ⟨rfl, h⟩)
  unfold record_arg_sh arB
  refine brB_of (fun h => ?_) (fun h => ?_)
  · refine (arg_any c w).mono ?_
    rintro e w' ⟨rfl, rfl⟩
    exact ⟨_, rfl, by rw [h]; rfl, rfl⟩
  · exact ⟨by rw [h]; rfl, rfl⟩
/-- What stands in a cell; 0, if there is none. -/
def loadV (s : StV) (a : Int) : Int := if a < 0 ∨ (s.mem.length : Int) ≤ a then 0 else getI s.mem a
theorem load_rc {D : Nat → Prop} {w : World} (S : StC) {s : StV} (h : StIs D w S s) (a : Int) :
    Calls Tryz.prog fn_record_load #[.agg (stC S).toArray, .int .i64 a] w fun e w' => e = .returned (.tuple #[.int .i64 (loadV s a), .bool (decide (¬ (a < 0 ∨ (s.mem.length : Int) ≤ a)))]) ∧ Chg No w w' := by
  refine (record_load_lift (K := fun v w' => v = .tuple #[.int .i64 (loadV s a), .bool (decide (¬ (a < 0 ∨ (s.mem.length : Int) ≤ a)))] ∧ Chg No w w') ?_).mono (by rintro e w' ⟨v, rfl, rfl, h⟩; exact ⟨rfl, h⟩)
  unfold record_load_sh
  have hl := h.me.len
  refine inSt S fun b12 w13 hb12 z13 o12 c13 => ?_
  refine ⟨fun b w' => b = decide (a < 0 ∨ (s.mem.length : Int) ≤ a) ∧ w' = w13, ?_, ?_⟩
  · rintro b w15 ⟨rfl, rfl⟩
    refine brB_of (fun hb => ?_) (fun hb => ?_)
    · have hb := of_decide_eq_true hb
      exact ⟨by unfold loadV; rw [if_pos hb, decide_eq_false (fun h => h hb)], c13⟩
    · have hb := of_decide_eq_false hb
      refine ⟨S.mem, o12.cell rfl, ?_⟩
      refine (h.me.no c13).ix (i := a) (by omega) (getI_at (by omega) (by omega)) fun ad _ hcell => ?_
      have q := hcell 0 _ rfl
      rw [add0] at q
      exact ⟨_, q, by unfold loadV; rw [if_neg hb, decide_eq_true hb], c13⟩
  · refine brB_of (fun h0 => ?_) (fun h0 => ?_)
    · have h0 := of_decide_eq_true h0
      exact ⟨(decide_eq_true (Or.inl h0)).symm, rfl⟩
    · have h0 := of_decide_eq_false h0
      refine ⟨S.mem, o12.cell rfl, ?_, rfl⟩
      rw [hl]; exact decide_eq_decide.2 (by omega)
/-- What a step that is recorded leaves. -/
def NxR (w : World) (s : StV) (x : SnV) (S' : StC) (b : Bool) (w' : World) : Prop := match nextV s with
  | none => b = false
  | some (v, t) => b = true ∧ x = v ∧ StX (fun k => w.heap.size ≤ k ∧ k < w'.heap.size) w' S' t
theorem next_rc {D : Nat → Prop} {w : World} (S : StC) {s : StV} (h : StIs D w S s) (ok : MOk s) (hg : Gl w) :
    Calls Tryz.prog fn_record_next #[.agg (stC S).toArray] w fun e w' => ∃ (x : SnV) (S' : StC) (b : Bool), e = .returned (.tuple #[.agg (seC x).toArray, .agg (stC S').toArray, .bool b]) ∧ NxR w s x S' b w' ∧ Chg No w w' := by
  refine (record_next_lift (K := fun v w' => ∃ (x : SnV) (S' : StC) (b : Bool), v = .tuple #[.agg (seC x).toArray, .agg (stC S').toArray, .bool b] ∧ NxR w s x S' b w' ∧ Chg No w w') ?_).mono (by rintro e w' ⟨v, rfl, x, S', b, rfl, h⟩; exact ⟨x, S', b, rfl, h⟩)
  unfold record_next_sh
  obtain ⟨m1, m2, m3, m4, m5, m6, m7⟩ := h.nums
  refine inSt S fun b11 w12 hb11 z12 o11 c12 => ?_
  intro b13 w14 hb13 hw14
  have c14 := al hw14
  have z14 : w14.heap.size = w12.heap.size + 1 := by rw [hw14]; simp
  have o13 : Ob w14 b13 (seC se0) T_api_Seen := by rw [hw14, hb13]; exact Ob.new w12 (seC se0) T_api_Seen
  refine inSt st0 fun b15 w16 hb15 z16 o15 c16 => ?_
  have k16 := trN (trN c12 c14) c16
  have p11 := (o11.no c14).no c16
  have p13 := o13.no c16
  refine rdSt p11 ⟨S.ip, p11.cell rfl, ?_⟩
  refine (load_rc S (h.no k16) S.ip).mono ?_
  rintro e w29 ⟨rfl, c29⟩
  rw [m1]
  obtain ⟨bad, hbad⟩ : ∃ bad : Prop, bad = (s.ip < 0 ∨ (s.mem.length : Int) ≤ s.ip ∨ s.status ≠ 0 ∨ plB (getI s.mem s.ip) = false) := ⟨_, rfl⟩
  have hnone : bad → nextV s = none := fun hb => by unfold nextV; rw [hbad] at hb; rw [if_pos hb]
  refine ⟨_, _, rfl, fun b w' => (b = true → bad) ∧ (b = false → ¬ bad) ∧ Chg No w16 w', ?_, ?_⟩
  rotate_left
  · refine brB_of (fun hb => ?_) (fun hb => ?_)
    · have hb : s.ip < 0 ∨ (s.mem.length : Int) ≤ s.ip := by
        by_cases hx : s.ip < 0 ∨ (s.mem.length : Int) ≤ s.ip
        · exact hx
        · rw [decide_eq_true hx] at hb; cases hb
      have hbd : bad := by
        rw [hbad]
        rcases hb with hb | hb
        · exact Or.inl hb
        · exact Or.inr (Or.inl hb)
      exact ⟨fun _ => hbd, (fun h => by cases h), c29⟩
    have hin : ¬ (s.ip < 0 ∨ (s.mem.length : Int) ≤ s.ip) := fun hx => by
      rw [decide_eq_false (fun h => h hx)] at hb; cases hb
    have q11 := p11.no c29
    refine ⟨S.status, q11.cell rfl, brB_of (fun hs => ?_) (fun hs => ?_)⟩
    · have hs : s.status ≠ 0 := by rw [m6] at hs; simpa using hs
      exact ⟨fun _ => by rw [hbad]; exact Or.inr (Or.inr (Or.inl hs)), (fun h => by cases h), c29⟩
    have hs : s.status = 0 := by rw [m6] at hs; simpa using hs
    have hlv : loadV s s.ip = getI s.mem s.ip := by unfold loadV; rw [if_neg hin]
    rw [hlv]
    refine (plain_rc _ w29).mono ?_
    rintro e w34 ⟨rfl, rfl⟩
    refine ⟨_, rfl, fun hp => ?_, fun hp => ?_, c29⟩
    · rw [hbad]; exact Or.inr (Or.inr (Or.inr (by simpa using hp)))
    · rw [hbad]
      rintro (h1 | h1 | h1 | h1)
      · exact hin (Or.inl h1)
      · exact hin (Or.inr h1)
      · exact h1 hs
      · rw [h1] at hp; cases hp
  rintro b w36 ⟨hb1, hb2, c36⟩
  have fin : ∀ {w38 w51 : World}, Chg No w16 w38 → nextV s = none → Chg (fun j => j = b13 ∨ j = b15) w38 w51 → ∃ (x : SnV) (S' : StC) (b : Bool), Value.tuple #[.agg (seC se0).toArray, .agg (stC S).toArray, .bool false] = .tuple #[.agg (seC x).toArray, .agg (stC S').toArray, .bool b] ∧ NxR w s x S' b w51 ∧ Chg No w w51 := fun c38 hn d51 =>
    ⟨se0, S, false, rfl, by unfold NxR; rw [hn], (trN k16 c38).trans d51 (fun _ _ h => h) (fun k hk he => by have := c38.size; omega)⟩
  refine brB_of (fun hb => ?_) (fun hb => ?_)
  · have hn := hnone (hb1 hb)
    intro w38 hw38
    have c38 := trN c36 (dw hw38)
    have q11 := p11.no c38
    refine ⟨fun w' => Ob w' b11 (stC S) T_api_State, q11, hdSt (fun w' h => h) ⟨q11, ?_⟩⟩
    refine setSn se0 (p13.no c38) (by decide) rfl rfl fun w50 o50 c50 => ⟨q11.chg c50 (fun he => by omega), ?_⟩
    refine setSt S ((o15.no c38).chg c50 (fun he => by omega)) (by decide) rfl rfl fun w51 o51 c51 => ?_
    refine rdSn (o50.chg c51 (fun he => by omega)) (rdSt o51 ?_)
    exact fin c38 hn (c50.trans c51 (fun _ _ h => Or.inl h) (fun _ _ h => Or.inr h))
  have hgood := hb2 hb
  have hin : ¬ (s.ip < 0 ∨ (s.mem.length : Int) ≤ s.ip) := fun hh => hgood (by rw [hbad]; rcases hh with hh | hh; exact Or.inl hh; exact Or.inr (Or.inl hh))
  have hlv : loadV s s.ip = getI s.mem s.ip := by unfold loadV; rw [if_neg hin]
  rw [hlv]
  have q11 := p11.no c36
  have k36 := trN k16 c36
  have hm3 := ok.me
  refine ⟨S.ip, q11.cell rfl, ?_⟩
  rw [m1]
  refine varSn ⟨s.ip, getI s.mem s.ip, 0, 0⟩ fun b67 w69 hb67 z69 o67 c69 => ?_
  have k69 := trN k36 c69
  have z36 := c36.size
  obtain ⟨xa, hxa⟩ : ∃ xa, xa = (if arB (getI s.mem s.ip) = true then getI s.mem (s.ip + 1) else 0) := ⟨_, rfl⟩
  refine ⟨fun w' => Ob w' b67 (seC ⟨s.ip, getI s.mem s.ip, xa, 0⟩) T_api_Seen ∧ Chg No w36 w', ?_, ?_⟩
  rotate_left
  · refine (arg_rc _ w69).mono ?_
    rintro e w71 ⟨rfl, rfl⟩
    refine ⟨_, rfl, brB_of (fun ha => ?_) (fun ha => ?_)⟩
    · have r11 := q11.no c69
      refine rdSt r11 ⟨S.ip, r11.cell rfl, ?_⟩
      rw [wr_in (x := S.ip + 1) (by rw [m1]; omega)]
      refine (load_rc S (h.no k69) (S.ip + 1)).mono ?_
      rintro e w85 ⟨rfl, c85⟩
      rw [m1]
      refine ⟨_, _, rfl, setSn ⟨s.ip, getI s.mem s.ip, xa, 0⟩ (o67.no c85) (by decide) rfl ?_ fun w88 o88 c88 => ⟨o88, (trN c69 c85).trans c88 (fun _ _ h => h) (fun k hk he => by omega)⟩⟩
      have e1 : loadV s (s.ip + 1) = xa := by
        rw [hxa, if_pos ha]; unfold loadV
        split
        · next hx => unfold getI; rw [List.getD_eq_getElem?_getD, List.getElem?_eq_none (by omega)]; rfl
        · rfl
      rw [e1]; rfl
    · have e1 : xa = 0 := by rw [hxa, if_neg (by rw [ha]; decide)]
      rw [e1]
      exact ⟨o67, c69⟩
  rintro w89 ⟨o67, c89⟩
  have k89 := trN k36 c89
  have z89 := c89.size
  have r11 := q11.no c89
  have lt11 := q11.lt
  have lt67 := o67.lt
  refine rdSt r11 (varSt S fun b100 w102 hb100 z102 o100 c102 => setSt { S with handler := 0 } o100 (by decide) rfl rfl fun w103 o103 c103 => rdSt o103 ?_)
  have k103 : Chg No w w103 := (trN k89 c102).trans c103 (fun _ _ h => h) (fun k hk he => by have := k89.size; omega)
  have c89103 : Chg No w89 w103 := c102.trans c103 (fun _ _ h => h) (fun k hk he => by omega)
  have ok0 : MOk { s with handler := 0 } := ⟨ok.st, ok.bk, ok.me, ok.out, ok.rd, ok.inp⟩
  have h0 := h.no k103
  have hal : StIs D w103 { S with handler := 0 } { s with handler := 0 } := ⟨⟨m1, rfl, m3, m4, m5, m6, m7⟩, h0.st, h0.bk, h0.me, h0.stD, h0.bkD, h0.meD⟩
  refine (istep_any { S with handler := 0 } hal ok0 (hg.no k103)).mono ?_
  rintro e w115 ⟨S1, rfl, g1, c115⟩
  have k115 := trN k103 c115
  have u11 := (r11.no c89103).no c115
  have c16115 := trN (trN (trN c36 c89) c89103) c115
  have hst1 : S1.status = (stepV { s with handler := 0 }).status := g1.nums.2.2.2.2.2.1
  have hc0 : ¬ (s.ip < 0 ∨ (s.mem.length : Int) ≤ s.ip ∨ s.status ≠ 0 ∨ plB (getI s.mem s.ip) = false) := by rw [← hbad]; exact hgood
  refine ⟨_, _, _, _, _, _, _, _, _, _, rfl, brB_of (fun h2 => ?_) (fun h2 => ?_)⟩
  · have h2 : (stepV { s with handler := 0 }).status = 2 := by rw [← hst1]; simpa using h2
    have hn : nextV s = none := by unfold nextV; rw [if_neg hc0, if_pos h2]
    intro w126 hw126
    have c126 := trN c16115 (dw hw126)
    have v11 := p11.no c126
    refine ⟨fun w' => Ob w' b11 (stC S) T_api_State, v11, hdSt (fun w' h => h) ⟨v11, ?_⟩⟩
    refine setSn se0 (p13.no c126) (by decide) rfl rfl fun w50 o50 c50 => ⟨v11.chg c50 (fun he => by omega), ?_⟩
    refine setSt S ((o15.no c126).chg c50 (fun he => by omega)) (by decide) rfl rfl fun w51 o51 c51 => ?_
    refine rdSn (o50.chg c51 (fun he => by omega)) (rdSt o51 ?_)
    exact fin c126 hn (c50.trans c51 (fun _ _ h => Or.inl h) (fun _ _ h => Or.inr h))
  have h2 : (stepV { s with handler := 0 }).status ≠ 2 := by rw [← hst1]; simpa using h2
  refine rdSt u11 ((istep_any S (h.no k115) ok (hg.no k115)).mono ?_)
  rintro e w165 ⟨S2, rfl, g2, c165⟩
  have k165 := trN k115 c165
  have z165 := c165.size
  have hip2 : S2.ip = (stepV s).ip := g2.nums.1
  refine ⟨_, _, _, _, _, _, _, _, _, _, rfl, varSt S2 fun b176 w178 hb176 z178 o176 c178 => ⟨S2.ip, o176.cell rfl, ?_⟩⟩
  rw [hip2]
  obtain ⟨v, hv⟩ : ∃ v : SnV, v = ⟨s.ip, getI s.mem s.ip, xa, (stepV s).ip⟩ := ⟨_, rfl⟩
  have c89178 := trN (trN (trN c89103 c115) c165) c178
  have z178' := c89178.size
  refine setSn v (o67.no c89178) (by decide) rfl (by rw [hv]; rfl) fun w180 o180 c180 => ?_
  intro w181 hw181
  have c181 := dw hw181
  have t67 := o180.no c181
  have ne67 : b176 ≠ b67 := by have := (o67.no (trN (trN c89103 c115) c165)).lt; omega
  have t176 := (o176.chg c180 ne67).no c181
  have z180 := c180.size
  have z181 := c181.size
  refine ⟨fun w' => Ob w' b67 (seC v) T_api_Seen ∧ Ob w' b176 (stC S2) T_api_State, ⟨t67, t176⟩, hdSn (fun w' h => h.1) (hdSt (fun w' h => h.2) ⟨v.next, Ob.held (fun w' h => h.1) rfl, ?_⟩)⟩
  refine (place_rc _ w181).mono ?_
  rintro e w199 ⟨rfl, rfl⟩
  refine ⟨_, rfl, ⟨t67, t176⟩, ?_⟩
  have d16181 : Chg (fun j => j = b67) w16 w181 := ((trN (trN c16115 c165) c178).trans c180 (fun _ _ h => h.elim) (fun _ _ h => h)).trans c181 (fun _ _ h => h) (fun _ _ h => h.elim)
  have v13 := p13.chg d16181 (fun he => by have := p13.lt; have := c36.size; omega)
  have v15 := o15.chg d16181 (fun he => by have := o15.lt; have := c36.size; omega)
  have lt13 := p13.lt
  have zz := (trN c16115 c165).size
  have zz2 := (trN (trN (trN c89 c89103) c115) c165).size
  have lt15 := o15.lt
  refine setSn v v13 (by decide) rfl rfl fun w201 o201 c201 => ⟨⟨t67.chg c201 (fun he => by omega), t176.chg c201 (fun he => by omega)⟩, ?_⟩
  refine setSt S2 (v15.chg c201 (fun he => by omega)) (by decide) rfl rfl fun w202 o202 c202 => ?_
  refine rdSn (o201.chg c202 (fun he => by omega)) (rdSt o202 ?_)
  have d202 : Chg (fun j => (j = b67 ∨ j = b13) ∨ j = b15) w178 w202 := (((c180.trans c181 (fun _ _ h => h) (fun _ _ h => h.elim)).trans c201 (U := fun j => j = b67 ∨ j = b13) (fun _ _ h => Or.inl h) (fun _ _ h => Or.inr h))).trans c202 (fun _ _ h => Or.inl h) (fun _ _ h => Or.inr h)
  have z202 := d202.size
  have z16' := k16.size
  have z115 := c16115.size
  refine ⟨v, S2, placeB v.next, rfl, ?_, (trN k165 c178).trans d202 (fun _ _ h => h) (fun k hk he => by have := k36.size; omega)⟩
  have hnv : nextV s = if placeB (stepV s).ip = false then none else some (v, stepV s) := by
    unfold nextV; rw [if_neg hc0, if_neg h2, hv, hxa]
  have e5 : v.next = (stepV s).ip := by rw [hv]
  unfold NxR
  rw [hnv, e5]
  cases hp : placeB (stepV s).ip with
  | false => rw [if_pos rfl]
  | true =>
    rw [if_neg (by decide)]
    refine ⟨rfl, rfl, ((g2.no c178).chg d202 (fun k hk he => ?_)).wid (fun k hk => by have := k115.size; omega)⟩
    have := c16115.size
    rcases he with (he | he) | he
    · have := (o67.no (trN c89103 c115)).lt; omega
    · omega
    · omega
end Go.Proofs.YtkjpmkopnkkbmaaGreatDoor

/- The package record: Loop. -/
set_option maxRecDepth 100000
namespace Go.Proofs.YtkjpmkopnkkbmaaGreatDoor
open Go.RowKit

structure RcC where
  start : Int
  fin : Int
  loop : Bool
  steps : Sl
def rcC (r : RcC) : List Value := [.int .i64 r.start, .int .i64 r.fin, .bool r.loop, r.steps.val]
def rc0 : RcC := ⟨0, 0, false, nilS⟩
theorem varRc {w : World} (x : RcC) {G : Nat → World → Prop} (k : ∀ b w', b = w.heap.size → w.heap.size + 1 ≤ w'.heap.size → Ob w' b (rcC x) T_api_Recording → Chg No w w' → G b w') : ∀ (b : Nat) (w1 : World), b = w.heap.size → w1 = World.alloc w (.cells (rcC rc0).toArray T_api_Recording) → wrOk w1 ⟨b, 0, none⟩ 4 ∧ ∀ w2 : World, w2 = stW w1 ⟨b, 0, none⟩ 0 (rcC x) → G b w2 := fun b w1 hb hw => by
  have hn := fun (w2 : World) => newOb (w2 := w2) (T := T_api_Recording) (rcC rc0) (rcC x) rfl hb hw
  refine ⟨(hn w1).1, fun w2 hw2 => ?_⟩
  obtain ⟨o, c⟩ := (hn w2).2 hw2
  exact k b w2 hb (by have := o.lt; omega) o c
theorem inRc {w : World} (x : RcC) {G : Nat → World → Prop} (k : ∀ b w', b = w.heap.size → w'.heap.size = w.heap.size + 1 → Ob w' b (rcC x) T_api_Recording → Chg No w w' → G b w') : ∀ (b : Nat) (w' : World), b = w.heap.size → w' = World.alloc w (.cells (rcC x).toArray T_api_Recording) → G b w' := fun b w' hb hw =>
  k b w' hb (by rw [hw]; simp) (by rw [hw, hb]; exact Ob.new w (rcC x) T_api_Recording) (al hw)
theorem rdRc {w : World} {b : Nat} {x : RcC} {T : TypeId} {G : Int → Int → Bool → Sl → Prop} (o : Ob w b (rcC x) T) (g : G x.start x.fin x.loop x.steps) :
    ∃ n1 : Int, ∃ n2 : Int, ∃ b3 : Bool, ∃ s4 : Sl, w.cell? ⟨b, 0, none⟩ = some (.int .i64 n1) ∧ w.cell? ⟨b, 1, none⟩ = some (.int .i64 n2) ∧ w.cell? ⟨b, 2, none⟩ = some (.bool b3) ∧ w.cell? ⟨b, 3, none⟩ = some (s4.val) ∧ G n1 n2 b3 s4 :=
  ⟨_, _, _, _, o.cell rfl, o.cell rfl, o.cell rfl, o.cell rfl, g⟩
theorem setRc {w : World} {b : Nat} {x : RcC} (x' : RcC) {k n : Nat} {vs : List Value} {G : World → Prop} (o : Ob w b (rcC x) T_api_Recording) (hl : k + n ≤ 4) (hn : n = vs.length) (hc : wrL (rcC x) k vs = rcC x') (g : ∀ w', Ob w' b (rcC x') T_api_Recording → Chg (fun j => j = b) w w' → G w') :
    wrOk w ⟨b, k, none⟩ n ∧ ∀ w' : World, w' = stW w ⟨b, k, none⟩ 0 vs → G w' := by
  subst hn
  refine ⟨o.wr (by simpa [rcC] using hl), fun w' hw' => ?_⟩
  obtain ⟨o', c'⟩ := o.up (cs' := rcC x') (by simpa [rcC] using hl) hc hw'
  exact g w' o' c'
/-- A recording in memory; its steps in blocks of D. -/
structure RcOw (D : Nat → Prop) (w : World) (R : RcC) (r : RcV) : Prop where
  nums : R.start = r.start ∧ R.fin = r.fin ∧ R.loop = r.loop
  steps : Ox seE w R.steps r.steps
  stD : ∀ k, R.steps.blk = some k → D k
theorem RcOw.chg {D X : Nat → Prop} {w w' : World} {R : RcC} {r : RcV} (h : RcOw D w R r) (c : Chg X w w') (hX : ∀ k, D k → ¬ X k) : RcOw D w' R r := ⟨h.nums, h.steps.chg c (fun k hk => hX k (h.stD k hk)), h.stD⟩
theorem RcOw.no {D : Nat → Prop} {w w' : World} {R : RcC} {r : RcV} (h : RcOw D w R r) (c : Chg No w w') : RcOw D w' R r := h.chg c (fun _ _ h => h)
theorem stxA' {D : Nat → Prop} {w : World} {S : StC} {s : StV} (h : StX D w S s) : StIs (fun _ => True) w S s := ⟨h.nums, h.st.rd, h.bk.rd, h.me.rd, fun _ _ => trivial, fun _ _ => trivial, fun _ _ => trivial⟩
theorem loop_rc {w : World} (S : StC) {s : StV} (h : StIs (fun _ => True) w S s) (ok : MOk s) (hg : Gl w) (most : Int) :
    Calls Tryz.prog fn_record_Loop #[.agg (stC S).toArray, .int .i64 most] w fun e w' => ∃ R : RcC, e = .returned (.agg (rcC R).toArray) ∧ RcOw (fun k => w.heap.size ≤ k ∧ k < w'.heap.size) w' R (recV s most) ∧ Chg No w w' := by
  refine (record_Loop_lift (K := fun v w' => ∃ R : RcC, v = .agg (rcC R).toArray ∧ RcOw (fun k => w.heap.size ≤ k ∧ k < w'.heap.size) w' R (recV s most) ∧ Chg No w w') ?_).mono (by rintro e w' ⟨v, rfl, R, rfl, h⟩; exact ⟨R, rfl, h⟩)
  unfold record_Loop_sh
  have m1 := h.nums.1
  obtain ⟨hml, hmi⟩ := mostN_le most
  refine inSt S fun b12 w13 hb12 z13 o12 c13 => inRc rc0 fun b14 w15 hb14 z15 o14 c15 => ⟨S.ip, (o12.no c15).cell rfl, S.ip, (o12.no c15).cell rfl, ?_⟩
  refine varRc ⟨S.ip, S.ip, false, nilS⟩ fun b18 w20 hb18 z20 o18 c20 => ?_
  have k20 := trN (trN c13 c15) c20
  have p12 := (o12.no c15).no c20
  have p14 := o14.no c20
  rw [← hmi]
  refine ⟨fun w' => ∃ (n : Nat) (s' : StV) (S' : StC) (sl : Sl) (l : List SnV) (fin0 : Int) (lp0 : Bool), recL s.ip n s' l = recV s most ∧ n + l.length = mostN most ∧ Ob w' b12 (stC S') T_api_State ∧ Ob w' b18 (rcC ⟨s.ip, fin0, lp0, sl⟩) T_api_Recording ∧ Ob w' b14 (rcC rc0) T_api_Recording ∧ Ox seE w' sl l ∧ (∀ k, sl.blk = some k → w20.heap.size ≤ k) ∧ MOk s' ∧
    (∀ w'', Chg (fun k => k = b12 ∨ k = b14 ∨ k = b18 ∨ sl.blk = some k) w' w'' → StIs (fun _ => True) w'' S' s') ∧ Chg No w w' ∧ w20.heap.size ≤ w'.heap.size, fun w' => 200 - sliceLen (w'.cell? ⟨b18, 3, none⟩),
    ⟨mostN most, s, S, nilS, [], S.ip, false, rfl, by simp, p12, by rw [← m1]; exact o18, p14, Ox.nil _ _, (fun k hk => by cases hk), ok, fun w'' c'' => h.no (k20.trans c'' (fun _ _ h => h) (fun k hk he => by
      rcases he with he | he | he | he
      · omega
      · omega
      · omega
      · cases he)), k20, Nat.le_refl _⟩, ?_⟩
  rintro w21 ⟨n, s', S', sl, l, fin0, lp0, hrec, hn, q12, q18, q14, hox, hslD, ok', hst, k21, z21⟩
  have hll := hox.rd.len
  have h21 := hst w21 (Chg.refl _ _)
  have mm1 := h21.nums.1
  have lt12 := p12.lt
  have lt14 := p14.lt
  have lt18 := o18.lt
  refine ⟨fun w' => Ob w' b18 (rcC ⟨s.ip, fin0, lpB s.ip s' l, sl⟩) T_api_Recording ∧ Chg (fun k => k = b18) w21 w', ?_, ?_⟩
  rotate_left
  · refine ⟨sl, q18.cell rfl, brB_of (fun hp => ?_) (fun hp => ?_)⟩
    · have hp : 0 < l.length := by have := of_decide_eq_true hp; omega
      refine ⟨S'.ip, q12.cell rfl, s.ip, q18.cell rfl, setRc ⟨s.ip, fin0, lpB s.ip s' l, sl⟩ q18 (by decide) rfl ?_ fun w25 o25 c25 => ⟨o25, c25⟩⟩
      have : lpB s.ip s' l = (S'.ip == s.ip) := by
        unfold lpB; rw [decide_eq_true hp, mm1, Bool.true_and]; rfl
      rw [this]; rfl
    · have hp : ¬ 0 < l.length := by have := of_decide_eq_false hp; omega
      refine setRc ⟨s.ip, fin0, lpB s.ip s' l, sl⟩ q18 (by decide) rfl ?_ fun w26 o26 c26 => ⟨o26, c26⟩
      have : lpB s.ip s' l = false := by unfold lpB; rw [decide_eq_false hp]; rfl
      rw [this]; rfl
  rintro w27 ⟨o27, c27⟩
  have r12 := q12.chg c27 (fun he => by omega)
  refine ⟨S'.ip, r12.cell rfl, setRc ⟨s.ip, s'.ip, lpB s.ip s' l, sl⟩ o27 (by decide) rfl (by rw [mm1]; rfl) fun w29 o29 c29 => ?_⟩
  have d29 : Chg (fun k => k = b18) w21 w29 := c27.trans c29 (fun _ _ h => h) (fun _ _ h => h)
  have z29 := d29.size
  have k29 : Chg No w w29 := k21.trans d29 (fun _ _ h => h) (fun k hk he => by have := k20.size; omega)
  have t12 := q12.chg d29 (fun he => by omega)
  have t14 := q14.chg d29 (fun he => by omega)
  have x29 : Ox seE w29 sl l := hox.qs d29 (fun he => by have := hslD _ he; omega)
  have h29 := hst w29 (d29.mono (fun _ _ h => Or.inr (Or.inr (Or.inl h))))
  refine rdSt t12 ((next_rc S' h29 ok' (hg.no k29)).mono ?_)
  rintro e w41 ⟨x, S2, b56, rfl, hnx, c41⟩
  have z41 := c41.size
  refine ⟨_, _, _, _, _, _, _, _, _, _, _, _, _, _, _, rfl, ?_⟩
  intro b57 w58 hb57 hw58
  have c58 := al hw58
  have z58 : w58.heap.size = w41.heap.size + 1 := by rw [hw58]; simp
  have o57 : Ob w58 b57 (seC se0) T_api_Seen := by rw [hw58, hb57]; exact Ob.new w41 (seC se0) T_api_Seen
  refine inSt st0 fun b59 w60 hb59 z60 o59 c60 => ?_
  refine setSn x (o57.no c60) (by decide) rfl rfl fun w61 o61 c61 => setSt S2 (o59.chg c61 (fun he => by omega)) (by decide) rfl rfl fun w62 o62 c62 => ?_
  have d62 : Chg (fun k => k = b57 ∨ k = b59) w60 w62 := c61.trans c62 (fun _ _ h => Or.inl h) (fun _ _ h => Or.inr h)
  have z62 := d62.size
  have e62 : Chg No w29 w62 := (trN (trN c41 c58) c60).trans d62 (fun _ _ h => h) (fun k hk he => by omega)
  have k62 := trN k29 e62
  have u57 := o61.chg c62 (fun he => by omega)
  have u12 := t12.no e62
  have u14 := t14.no e62
  have u18 := o29.no e62
  have x62 := x29.no e62
  have lt29 : ∀ k, sl.blk = some k → k < w29.heap.size := x29.lt
  refine ⟨fun w' => ∃ (lp : Bool) (fin : Int), recV s most = ⟨s.ip, fin, lp, l⟩ ∧ Ob w' b18 (rcC ⟨s.ip, fin, lp, sl⟩) T_api_Recording ∧ w' = w62, ?_, ?_⟩
  · rintro w69 ⟨lp, fin, he, o69, rfl⟩
    refine rdRc o69 (setRc ⟨s.ip, fin, lp, sl⟩ u14 (by decide) rfl rfl fun w74 o74 c74 => rdRc o74 ?_)
    have z74 := c74.size
    have k20z := k20.size
    refine ⟨⟨s.ip, fin, lp, sl⟩, rfl, ?_, k62.trans c74 (fun _ _ h => h) (fun k hk he => by omega)⟩
    rw [he]
    exact ⟨⟨rfl, rfl, rfl⟩, x62.qs c74 (fun he => by have := hslD _ he; omega), fun k hk => by have := hslD k hk; have := lt29 k hk; omega⟩
  refine ⟨sl, u18.cell rfl, brB_of (fun hm => ?_) (fun hm => ?_)⟩
  · have hm : mostN most ≤ l.length := by have := of_decide_eq_true hm; omega
    have hn0 : n = 0 := by omega
    subst hn0
    exact ⟨_, _, by rw [← hrec]; rfl, u18, rfl⟩
  have hm : l.length < mostN most := by have := of_decide_eq_false hm; omega
  obtain ⟨n, rfl⟩ : ∃ m, n = m + 1 := ⟨n - 1, by omega⟩
  refine ⟨lpB s.ip s' l, u18.cell rfl, brB_of (fun hlp => ?_) (fun hlp => ?_)⟩
  · unfold record_Loop_j1
    rw [hlp]
    refine brB_t ⟨true, s'.ip, ?_, by rw [hlp] at u18; exact u18, rfl⟩
    rw [← hrec]; unfold recL; rw [if_pos hlp]
  unfold record_Loop_j1
  unfold NxR at hnx
  have hrl : recL s.ip (n + 1) s' l = match nextV s' with
      | none => ⟨s.ip, s'.ip, false, l⟩
      | some (x, t) => recL s.ip n t (l ++ [x]) := by
    conv => lhs; unfold recL
    rw [if_neg (by rw [hlp]; decide)]
    all_goals (cases nextV s' <;> rfl)
  cases hnv : nextV s' with
  | none =>
    rw [hnv] at hnx hrl
    have hnx : b56 = false := hnx
    rw [hnx]
    refine brB_t ⟨false, s'.ip, ?_, by rw [hlp] at u18; exact u18, rfl⟩
    rw [← hrec, hrl]
  | some p =>
    obtain ⟨v, t⟩ := p
    rw [hnv] at hnx hrl
    obtain ⟨hb, hx, g2⟩ := hnx
    subst hb hx
    refine brB_f ?_
    refine ⟨sl, u18.cell rfl, rdSn u57 ?_⟩
    intro b84 w85 hb84 hw85
    have c85 := al hw85
    have z85 : w85.heap.size = w62.heap.size + 1 := by rw [hw85]; simp
    have l85 : Ow seE w85 ⟨some ⟨b84, 0, none⟩, 1, 1⟩ [x] := by
      rw [hw85, hb84]; exact Ow.lit (E := seE) w62 [x] (seC x) (by simp [fl, seE]) (by show 1 ≤ maxLen; unfold maxLen; omega)
    refine appx_ok seOk rfl rfl (x62.no c85) l85.rd rfl (fun _ => by simp) (by show (_ + 1) * 32 ≤ _; omega) (by show _ + 1 ≤ maxLen; unfold maxLen; omega) ?_
    intro s86 w87 g87 c87 b87 _
    have z87 := c87.size
    have hns : ∀ k, s86.blk = some k → w20.heap.size ≤ k ∧ (sl.blk = some k ∨ w85.heap.size ≤ k) := fun k hk => by
      rcases b87 with hh | hh
      · have hk' : sl.blk = some k := hh ▸ hk
        exact ⟨hslD k hk', Or.inl hk'⟩
      · have := hh k hk; exact ⟨by omega, Or.inr this⟩
    have nsl : ∀ {b : Nat}, b < w20.heap.size → sl.blk ≠ some b := fun hb he => by have := hslD _ he; omega
    have v18 := (u18.no c85).chg c87 (fun he => nsl lt18 he)
    have v12 := (u12.no c85).chg c87 (fun he => nsl lt12 he)
    have v14 := (u14.no c85).chg c87 (fun he => nsl lt14 he)
    have v59 := (o62.no c85).chg c87 (fun he => by have := lt29 _ he; omega)
    refine setRc ⟨s.ip, s'.ip, lpB s.ip s' l, s86⟩ v18 (by decide) rfl rfl fun w88 o88 c88 => rdSt (v59.chg c88 (fun he => by omega)) ?_
    refine setSt S2 (v12.chg c88 (fun he => by omega)) (by decide) rfl rfl fun w99 o99 c99 => ?_
    have d99 : Chg (fun k => (sl.blk = some k ∨ k = b18) ∨ k = b12) w85 w99 := (c87.trans c88 (U := fun k => sl.blk = some k ∨ k = b18) (fun _ _ h => Or.inl h) (fun _ _ h => Or.inr h)).trans c99 (fun _ _ h => Or.inl h) (fun _ _ h => Or.inr h)
    have z99 := d99.size
    have g99 : Ox seE w99 s86 (l ++ [x]) := (g87.qs c88 (fun he => by have := hns _ he; omega)).qs c99 (fun he => by have := hns _ he; omega)
    have k20z := k20.size
    have hlen99 : s86.len = (l ++ [x]).length := g99.rd.len
    have o18' : Ob w99 b18 (rcC ⟨s.ip, s'.ip, lpB s.ip s' l, s86⟩) T_api_Recording := o88.chg c99 (fun he => by omega)
    refine ⟨⟨n, t, S2, s86, l ++ [x], s'.ip, lpB s.ip s' l, ?_, ?_, o99, o18', (v14.chg c88 (fun he => by omega)).chg c99 (fun he => by omega), g99, fun k hk => (hns k hk).1, ?_, fun w'' c'' => ?_, ?_, by omega⟩, ?_⟩
    · rw [← hrec, hrl]
    · rw [List.length_append, List.length_singleton]; omega
    · rw [(nextV_run hnv).2.2.1]; exact mok_adv ok'
    · have e41 : Chg (fun k => ((k = b57 ∨ k = b59) ∨ ((sl.blk = some k ∨ k = b18) ∨ k = b12))) w41 w99 := (((trN c58 c60).trans d62 (U := fun k => k = b57 ∨ k = b59) (fun _ _ h => h.elim) (fun _ _ h => h)).trans c85 (fun _ _ h => h) (fun _ _ h => h.elim)).trans d99 (fun _ _ h => Or.inl h) (fun _ _ h => Or.inr h)
      have g3 := (g2.chg e41 (fun k hk he => by
        rcases he with (he | he) | ((he | he) | he)
        · omega
        · omega
        · have := lt29 k he; omega
        · omega
        · omega)).chg c'' (fun k hk he => by
        rcases he with he | he | he | he
        · omega
        · omega
        · omega
        · have h9 := (hns k he).2
          rcases h9 with h9 | h9
          · have := lt29 k h9; omega
          · omega)
      exact stxA' g3
    · exact (trN k62 c85).trans d99 (fun _ _ h => h) (fun k hk he => by
        rcases he with (he | he) | he
        · have := hslD k he; omega
        · omega
        · omega)
    · show 200 - sliceLen (w99.cell? ⟨b18, 3, none⟩) < 200 - sliceLen (w21.cell? ⟨b18, 3, none⟩)
      have a1 : w99.cell? ⟨b18, 3, none⟩ = some s86.val := o18'.cell rfl
      have a2 : w21.cell? ⟨b18, 3, none⟩ = some sl.val := q18.cell rfl
      rw [a1, a2, sliceLen_val, sliceLen_val, hlen99, List.length_append, List.length_singleton]
      omega
end Go.Proofs.YtkjpmkopnkkbmaaGreatDoor

/- Lists with room behind them, in which a mark stands, of any kind; blocks told apart by their types. -/
set_option maxRecDepth 100000
namespace Go.Proofs.YtkjpmkopnkkbmaaGreatDoor
open Go.RowKit

/-- s reads as these, and behind them stands the mark, in a block of its own. -/
def LentE {α : Type} (E : Enc α) (x : α) (w : World) (s : Sl) (xs : List α) : Prop := s.len = xs.length ∧ Ow E w ⟨s.ptr, xs.length + 1, s.cap⟩ (xs ++ [x])
theorem addz0 (q : Addr) : q.add 0 = q := by unfold Addr.add; simp
section
variable {α : Type} {E : Enc α} {x : α} {w w' : World} {s : Sl} {xs : List α}
theorem LentE.rd (h : LentE E x w s xs) : Rd E w s xs := by
  have ht := (h.2.take (n := xs.length) (by simp)).rd
  rw [List.take_left] at ht
  have : s = ⟨s.ptr, xs.length, s.cap⟩ := by rw [← h.1]
  rw [this]; exact ht
theorem LentE.chg {S : Nat → Prop} (h : LentE E x w s xs) (c : Chg S w w') (hS : ∀ k, s.blk = some k → ¬ S k) : LentE E x w' s xs := by
  refine ⟨h.1, h.2.chg c (fun k hk => hS k ?_)⟩
  rw [← hk]; unfold Sl.blk Sl.val; cases s.ptr <;> rfl
theorem LentE.no (h : LentE E x w s xs) (c : Chg No w w') : LentE E x w' s xs := h.chg c (fun _ _ h => h)
/-- The mark behind it. -/
theorem LentE.mark (h : LentE E x w s xs) {n : Int} {r : List Value} (hx : E.e x = .int .i64 n :: r) {G : Prop} (g : G) :
    0 ≤ (wr ((s.len : Int) + (1 : Int))) ∧ (wr ((s.len : Int) + (1 : Int))) ≤ (s.cap : Int) ∧ ∀ s6 : Sl, s6 = Sl.sub s.ptr s.cap 0 (Int.toNat (wr ((s.len : Int) + (1 : Int)))) E.sz →
    ∃ a7 : Addr, s6.ptr = some a7 ∧ 0 ≤ (s.len : Int) ∧ (s.len : Int) < (s6.len : Int) ∧ ∃ n8 : Int, w.cell? (Addr.add a7 (Int.toNat (s.len : Int) * E.sz)) = some (.int .i64 n8) ∧ (n8 = n ∧ G) := by
  have hc := h.2.rd.capL
  rw [List.length_append] at hc
  have h1 : [x].length = 1 := rfl
  have hc1 : xs.length + 1 ≤ s.cap := by have := hc.1; omega
  have hc2 : s.cap ≤ 9223372036854775807 := hc.2
  have hml := h.1
  rw [wr_of (by omega) (by omega)]
  refine ⟨by omega, by omega, ?_⟩
  intro s6 hs6
  rw [sub0] at hs6
  have e6 : s6 = ⟨s.ptr, xs.length + 1, s.cap⟩ := by rw [hs6]; congr 1; omega
  have h6 : Rd E w s6 (xs ++ [x]) := by rw [e6]; exact h.2.rd
  refine h6.ix (i := (s.len : Int)) (x := x) (by omega) (by rw [Int.toNat_natCast, hml, List.getElem?_append_right (Nat.le_refl _)]; simp) fun a ha hcell => ?_
  have q1 := hcell 0 (.int .i64 n) (by rw [hx]; rfl)
  rw [addz0] at q1
  exact ⟨n, q1, rfl, g⟩
end
/-- The block holds cells of this type. -/
def TyB (T : TypeId) (w : World) (k : Nat) : Prop := ∃ arr z, w.heap[k]? = some (.cells arr T z)
theorem Ow.ty {α : Type} {E : Enc α} {w : World} {s : Sl} {xs : List α} (h : Ow E w s xs) {k : Nat} (hk : s.blk = some k) : TyB E.t w k := by
  have h' : Own w E.t E.sz s.val xs.length (fl E xs) := h
  rcases h'.2 with ⟨hv, _⟩ | ⟨g, cap, cur, hv, _, hg, _⟩
  · exfalso
    have : s.val.ownBlock = some k := hk
    rw [hv] at this; cases this
  · have : s.val.ownBlock = some k := hk
    rw [hv] at this
    have e : g = k := by injection this
    subst e
    exact ⟨_, _, hg⟩
theorem TyB.chg {T : TypeId} {S : Nat → Prop} {w w' : World} {k : Nat} (h : TyB T w k) (c : Chg S w w') (hS : ¬ S k) : TyB T w' k := by
  obtain ⟨arr, z, h⟩ := h
  exact ⟨arr, z, c.row h hS⟩
end Go.Proofs.YtkjpmkopnkkbmaaGreatDoor

/- Functions of Hollowaylaw13, read without their frames; that each is enough. Printed by a program of mine (wip/lift/gen.py). -/
set_option maxRecDepth 100000
namespace Go.Proofs.YtkjpmkopnkkbmaaGreatDoor
open Go.RowKit

-- holloway/hollowaylaw13.RecordStays
-- holloway/hollowaylaw13.RecordCells
def hollowaylaw13_RecordCells_sh (s__Ip1 : Int) (s__Handler2 : Int) (s__Stack3 : Sl) (s__Back4 : Sl) (s__Mem5 : Sl) (s__Out6 : ByteArray) (s__In7 : ByteArray) (s__Read8 : Int) (s__Status9 : Int) (s__Code10 : Int) (most11 : Int) (at_12 : Int) (v_13 : Int) (w : World) (K : Value → World → Prop) : Prop :=
 ∀ (b14 : Nat) (w15 : World), b14 = w.heap.size → w15 = World.alloc w (.cells #[.int .i64 s__Ip1, .int .i64 s__Handler2, s__Stack3.val, s__Back4.val, s__Mem5.val, .string s__Out6, .string s__In7, .int .i64 s__Read8, .int .i64 s__Status9, .int .i64 s__Code10] T_api_State) →
 ∃ J3 : Bool → World → Prop, (∀ (b33 : Bool) (w32 : World), J3 b33 w32 →
 brB b33
 (Calls Tryz.prog fn_hollowaylaw13_alive #[] w32 fun e34 w35 => ∃ b36 : Bool, e34 = .returned (.bool b36) ∧
 K (.bool b36) w35)
 (wrOk w32 ⟨b14, 8, none⟩ 1 ∧ ∀ w37 : World, w37 = stW w32 ⟨b14, 8, none⟩ 0 [.int .i64 (0 : Int)] →
 ∃ n_Ip38 : Int, ∃ n_Handler39 : Int, ∃ s_Stack40 : Sl, ∃ s_Back41 : Sl, ∃ s_Mem42 : Sl, ∃ t_Out43 : ByteArray, ∃ t_In44 : ByteArray, ∃ n_Read45 : Int, ∃ n_Status46 : Int, ∃ n_Code47 : Int, w37.cell? ⟨b14, 0, none⟩ = some (.int .i64 n_Ip38) ∧ w37.cell? ⟨b14, 1, none⟩ = some (.int .i64 n_Handler39) ∧ w37.cell? ⟨b14, 2, none⟩ = some (s_Stack40.val) ∧ w37.cell? ⟨b14, 3, none⟩ = some (s_Back41.val) ∧ w37.cell? ⟨b14, 4, none⟩ = some (s_Mem42.val) ∧ w37.cell? ⟨b14, 5, none⟩ = some (.string t_Out43) ∧ w37.cell? ⟨b14, 6, none⟩ = some (.string t_In44) ∧ w37.cell? ⟨b14, 7, none⟩ = some (.int .i64 n_Read45) ∧ w37.cell? ⟨b14, 8, none⟩ = some (.int .i64 n_Status46) ∧ w37.cell? ⟨b14, 9, none⟩ = some (.int .i64 n_Code47) ∧
 Calls Tryz.prog fn_record_Loop #[.agg #[.int .i64 n_Ip38, .int .i64 n_Handler39, s_Stack40.val, s_Back41.val, s_Mem42.val, .string t_Out43, .string t_In44, .int .i64 n_Read45, .int .i64 n_Status46, .int .i64 n_Code47], .int .i64 most11] w37 fun e48 w49 => ∃ n_Start50 : Int, ∃ n_End51 : Int, ∃ b_Loop52 : Bool, ∃ s_Steps53 : Sl, e48 = .returned (.agg #[.int .i64 n_Start50, .int .i64 n_End51, .bool b_Loop52, s_Steps53.val]) ∧
 ∀ (b54 : Nat) (w55 : World), b54 = w49.heap.size → w55 = World.alloc w49 (.cells #[.int .i64 (0 : Int), .int .i64 (0 : Int), .bool false, .slice none 0 0] T_api_Recording) →
 wrOk w55 ⟨b54, 0, none⟩ 4 ∧ ∀ w56 : World, w56 = stW w55 ⟨b54, 0, none⟩ 0 [.int .i64 n_Start50, .int .i64 n_End51, .bool b_Loop52, s_Steps53.val] →
 ∃ n_Start57 : Int, ∃ n_End58 : Int, ∃ b_Loop59 : Bool, ∃ s_Steps60 : Sl, w56.cell? ⟨b54, 0, none⟩ = some (.int .i64 n_Start57) ∧ w56.cell? ⟨b54, 1, none⟩ = some (.int .i64 n_End58) ∧ w56.cell? ⟨b54, 2, none⟩ = some (.bool b_Loop59) ∧ w56.cell? ⟨b54, 3, none⟩ = some (s_Steps60.val) ∧
 Calls Tryz.prog fn_record_Cells #[.agg #[.int .i64 n_Start57, .int .i64 n_End58, .bool b_Loop59, s_Steps60.val]] w56 fun e61 w62 => ∃ s63 : Sl, e61 = .returned (s63.val) ∧
 ∃ (I1 : Int → World → Prop) (μ1 : Int → World → Nat), I1 (0 : Int) w62 ∧ ∀ (k65 : Int) (w64 : World), I1 k65 w64 →
 brB (decide (k65 < (s63.len : Int)))
 (∃ J13 : Bool → World → Prop, (∀ (b74 : Bool) (w73 : World), J13 b74 w73 →
 brB b74
 (∀ w75 : World, w75 = World.drew w73 →
 brB (k65 == (0 : Int))
 (K (.bool true) w75)
 (∃ a76 : Addr, s63.ptr = some a76 ∧ 0 ≤ (wr (k65 - (1 : Int))) ∧ (wr (k65 - (1 : Int))) < (s63.len : Int) ∧
 ∃ n77 : Int, held (Lw w75) (Addr.add a76 (Int.toNat (wr (k65 - (1 : Int))) * 1)) (.int .i64 n77) ∧
 ∃ a78 : Addr, s63.ptr = some a78 ∧ 0 ≤ k65 ∧ k65 < (s63.len : Int) ∧
 ∃ n79 : Int, held (Lw w75) (Addr.add a78 (Int.toNat k65 * 1)) (.int .i64 n79) ∧
 K (.bool (decide (n77 < n79))) w75))
 (I1 (wr (k65 + (1 : Int))) w73 ∧ μ1 (wr (k65 + (1 : Int))) w73 < μ1 k65 w64)) ∧
 ∀ w66 : World, w66 = World.drew w64 →
 ∃ a67 : Addr, s63.ptr = some a67 ∧ 0 ≤ k65 ∧ k65 < (s63.len : Int) ∧
 ∃ n68 : Int, held (Lw w66) (Addr.add a67 (Int.toNat k65 * 1)) (.int .i64 n68) ∧
 brB (n68 == at_12)
 (J13 true w66)
 (brB (decide (k65 > (0 : Int)))
 (∃ a69 : Addr, s63.ptr = some a69 ∧ 0 ≤ (wr (k65 - (1 : Int))) ∧ (wr (k65 - (1 : Int))) < (s63.len : Int) ∧
 ∃ n70 : Int, held (Lw w66) (Addr.add a69 (Int.toNat (wr (k65 - (1 : Int))) * 1)) (.int .i64 n70) ∧
 ∃ a71 : Addr, s63.ptr = some a71 ∧ 0 ≤ k65 ∧ k65 < (s63.len : Int) ∧
 ∃ n72 : Int, held (Lw w66) (Addr.add a71 (Int.toNat k65 * 1)) (.int .i64 n72) ∧
 J13 (decide (n70 ≥ n72)) w66)
 (J13 false w66)))
 (∃ (I2 : Int → World → Prop) (μ2 : Int → World → Nat), I2 (0 : Int) w64 ∧ ∀ (i83 : Int) (w82 : World), I2 i83 w82 →
 ∃ s84 : Sl, w82.cell? ⟨b54, 3, none⟩ = some (s84.val) ∧
 brB (decide (i83 < (s84.len : Int)))
 (∃ s85 : Sl, w82.cell? ⟨b54, 3, none⟩ = some (s85.val) ∧
 ∃ a86 : Addr, s85.ptr = some a86 ∧ 0 ≤ i83 ∧ i83 < (s85.len : Int) ∧
 ∃ n87 : Int, w82.cell? (Addr.add (Addr.add a86 (Int.toNat i83 * 4)) 1) = some (.int .i64 n87) ∧
 ∃ J21 : Bool → World → Prop, (∀ (b89 : Bool) (w88 : World), J21 b89 w88 →
 brB b89
 (K (.bool true) w88)
 (I2 (wr (i83 + (1 : Int))) w88 ∧ μ2 (wr (i83 + (1 : Int))) w88 < μ2 i83 w82)) ∧
 brB (n87 == (30 : Int))
 (J21 true w82)
 (brB (n87 == (32 : Int))
 (J21 true w82)
 (J21 (n87 == (44 : Int)) w82)))
 (∃ n_Ip90 : Int, ∃ n_Handler91 : Int, ∃ s_Stack92 : Sl, ∃ s_Back93 : Sl, ∃ s_Mem94 : Sl, ∃ t_Out95 : ByteArray, ∃ t_In96 : ByteArray, ∃ n_Read97 : Int, ∃ n_Status98 : Int, ∃ n_Code99 : Int, w82.cell? ⟨b14, 0, none⟩ = some (.int .i64 n_Ip90) ∧ w82.cell? ⟨b14, 1, none⟩ = some (.int .i64 n_Handler91) ∧ w82.cell? ⟨b14, 2, none⟩ = some (s_Stack92.val) ∧ w82.cell? ⟨b14, 3, none⟩ = some (s_Back93.val) ∧ w82.cell? ⟨b14, 4, none⟩ = some (s_Mem94.val) ∧ w82.cell? ⟨b14, 5, none⟩ = some (.string t_Out95) ∧ w82.cell? ⟨b14, 6, none⟩ = some (.string t_In96) ∧ w82.cell? ⟨b14, 7, none⟩ = some (.int .i64 n_Read97) ∧ w82.cell? ⟨b14, 8, none⟩ = some (.int .i64 n_Status98) ∧ w82.cell? ⟨b14, 9, none⟩ = some (.int .i64 n_Code99) ∧
 Calls Tryz.prog fn_hollowayref9_Copy #[.agg #[.int .i64 n_Ip90, .int .i64 n_Handler91, s_Stack92.val, s_Back93.val, s_Mem94.val, .string t_Out95, .string t_In96, .int .i64 n_Read97, .int .i64 n_Status98, .int .i64 n_Code99]] w82 fun e100 w101 => ∃ n_Ip102 : Int, ∃ n_Handler103 : Int, ∃ s_Stack104 : Sl, ∃ s_Back105 : Sl, ∃ s_Mem106 : Sl, ∃ t_Out107 : ByteArray, ∃ t_In108 : ByteArray, ∃ n_Read109 : Int, ∃ n_Status110 : Int, ∃ n_Code111 : Int, e100 = .returned (.agg #[.int .i64 n_Ip102, .int .i64 n_Handler103, s_Stack104.val, s_Back105.val, s_Mem106.val, .string t_Out107, .string t_In108, .int .i64 n_Read109, .int .i64 n_Status110, .int .i64 n_Code111]) ∧
 ∀ (b112 : Nat) (w113 : World), b112 = w101.heap.size → w113 = World.alloc w101 (.cells #[.int .i64 (0 : Int), .int .i64 (0 : Int), .slice none 0 0, .slice none 0 0, .slice none 0 0, .string (bs []), .string (bs []), .int .i64 (0 : Int), .int .i64 (0 : Int), .int .i64 (0 : Int)] T_api_State) →
 wrOk w113 ⟨b112, 0, none⟩ 10 ∧ ∀ w114 : World, w114 = stW w113 ⟨b112, 0, none⟩ 0 [.int .i64 n_Ip102, .int .i64 n_Handler103, s_Stack104.val, s_Back105.val, s_Mem106.val, .string t_Out107, .string t_In108, .int .i64 n_Read109, .int .i64 n_Status110, .int .i64 n_Code111] →
 ∃ J25 : Bool → World → Prop, (∀ (b117 : Bool) (w116 : World), J25 b117 w116 →
 brB b117
 (K (.bool true) w116)
 (∃ s118 : Sl, w116.cell? ⟨b112, 4, none⟩ = some (s118.val) ∧
 ∃ a119 : Addr, s118.ptr = some a119 ∧ 0 ≤ at_12 ∧ at_12 < (s118.len : Int) ∧
 wrOk w116 (Addr.add a119 (Int.toNat at_12 * 1)) 1 ∧ ∀ w120 : World, w120 = stW w116 (Addr.add a119 (Int.toNat at_12 * 1)) 0 [.int .i64 v_13] →
 ∃ n_Ip121 : Int, ∃ n_Handler122 : Int, ∃ s_Stack123 : Sl, ∃ s_Back124 : Sl, ∃ s_Mem125 : Sl, ∃ t_Out126 : ByteArray, ∃ t_In127 : ByteArray, ∃ n_Read128 : Int, ∃ n_Status129 : Int, ∃ n_Code130 : Int, w120.cell? ⟨b112, 0, none⟩ = some (.int .i64 n_Ip121) ∧ w120.cell? ⟨b112, 1, none⟩ = some (.int .i64 n_Handler122) ∧ w120.cell? ⟨b112, 2, none⟩ = some (s_Stack123.val) ∧ w120.cell? ⟨b112, 3, none⟩ = some (s_Back124.val) ∧ w120.cell? ⟨b112, 4, none⟩ = some (s_Mem125.val) ∧ w120.cell? ⟨b112, 5, none⟩ = some (.string t_Out126) ∧ w120.cell? ⟨b112, 6, none⟩ = some (.string t_In127) ∧ w120.cell? ⟨b112, 7, none⟩ = some (.int .i64 n_Read128) ∧ w120.cell? ⟨b112, 8, none⟩ = some (.int .i64 n_Status129) ∧ w120.cell? ⟨b112, 9, none⟩ = some (.int .i64 n_Code130) ∧
 ∃ s131 : Sl, w120.cell? ⟨b54, 3, none⟩ = some (s131.val) ∧
 Calls Tryz.prog fn_record_Loop #[.agg #[.int .i64 n_Ip121, .int .i64 n_Handler122, s_Stack123.val, s_Back124.val, s_Mem125.val, .string t_Out126, .string t_In127, .int .i64 n_Read128, .int .i64 n_Status129, .int .i64 n_Code130], .int .i64 (s131.len : Int)] w120 fun e132 w133 => ∃ n_Start134 : Int, ∃ n_End135 : Int, ∃ b_Loop136 : Bool, ∃ s_Steps137 : Sl, e132 = .returned (.agg #[.int .i64 n_Start134, .int .i64 n_End135, .bool b_Loop136, s_Steps137.val]) ∧
 ∀ (b138 : Nat) (w139 : World), b138 = w133.heap.size → w139 = World.alloc w133 (.cells #[.int .i64 (0 : Int), .int .i64 (0 : Int), .bool false, .slice none 0 0] T_api_Recording) →
 wrOk w139 ⟨b138, 0, none⟩ 4 ∧ ∀ w140 : World, w140 = stW w139 ⟨b138, 0, none⟩ 0 [.int .i64 n_Start134, .int .i64 n_End135, .bool b_Loop136, s_Steps137.val] →
 ∃ s141 : Sl, w140.cell? ⟨b138, 3, none⟩ = some (s141.val) ∧
 ∃ s142 : Sl, w140.cell? ⟨b54, 3, none⟩ = some (s142.val) ∧
 Calls Tryz.prog fn_hollowaybook_SameSeens #[s141.val, s142.val] w140 fun e143 w144 => ∃ b145 : Bool, e143 = .returned (.bool b145) ∧
 K (.bool b145) w144)) ∧
 brB (decide (at_12 < (0 : Int)))
 (J25 true w114)
 (∃ s115 : Sl, w114.cell? ⟨b112, 4, none⟩ = some (s115.val) ∧
 J25 (decide (at_12 ≥ (s115.len : Int))) w114))))) ∧
 ∃ n_Ip16 : Int, ∃ n_Handler17 : Int, ∃ s_Stack18 : Sl, ∃ s_Back19 : Sl, ∃ s_Mem20 : Sl, ∃ t_Out21 : ByteArray, ∃ t_In22 : ByteArray, ∃ n_Read23 : Int, ∃ n_Status24 : Int, ∃ n_Code25 : Int, w15.cell? ⟨b14, 0, none⟩ = some (.int .i64 n_Ip16) ∧ w15.cell? ⟨b14, 1, none⟩ = some (.int .i64 n_Handler17) ∧ w15.cell? ⟨b14, 2, none⟩ = some (s_Stack18.val) ∧ w15.cell? ⟨b14, 3, none⟩ = some (s_Back19.val) ∧ w15.cell? ⟨b14, 4, none⟩ = some (s_Mem20.val) ∧ w15.cell? ⟨b14, 5, none⟩ = some (.string t_Out21) ∧ w15.cell? ⟨b14, 6, none⟩ = some (.string t_In22) ∧ w15.cell? ⟨b14, 7, none⟩ = some (.int .i64 n_Read23) ∧ w15.cell? ⟨b14, 8, none⟩ = some (.int .i64 n_Status24) ∧ w15.cell? ⟨b14, 9, none⟩ = some (.int .i64 n_Code25) ∧
 Calls Tryz.prog fn_hollowaylaw9_Light #[.agg #[.int .i64 n_Ip16, .int .i64 n_Handler17, s_Stack18.val, s_Back19.val, s_Mem20.val, .string t_Out21, .string t_In22, .int .i64 n_Read23, .int .i64 n_Status24, .int .i64 n_Code25]] w15 fun e26 w27 => ∃ b28 : Bool, e26 = .returned (.bool b28) ∧
 brB (!b28)
 (J3 true w27)
 (Calls Tryz.prog fn_hollowaylaw13_alive #[] w27 fun e29 w30 => ∃ b31 : Bool, e29 = .returned (.bool b31) ∧
 J3 (!b31) w30)
def hollowaylaw13_RecordCells_an : An := ⟨[(7, [(11, .int .i64)]), (12, [(12, .int .i64)])], [(9, (22, .st 0 (.st 1 (.st 2 (.st 3 (.st 4 (.st 5 (.st 6 (.st 7 (.st 8 (.st 9 (.st 10 (.st 11 (.st 12 (.st 13 (.st 14 (.st 15 (.st 16 (.st 17 (.st 18 (.st 19 (.st 20 (.st 21 .done))))))))))))))))))))), 0)), (10, (15, .st 0 (.st 1 (.st 2 (.st 3 (.st 4 (.st 5 (.st 6 (.st 7 (.st 8 (.st 9 (.st 10 (.st 11 (.st 12 (.st 13 (.st 14 .done)))))))))))))), 0))], [(2, [(22, .bool)]), (10, [(57, .bool)]), (16, [(94, .bool)]), (19, [(105, .bool)])]⟩
theorem hollowaylaw13_RecordCells_lift {s__Ip1 : Int} {s__Handler2 : Int} {s__Stack3 : Sl} {s__Back4 : Sl} {s__Mem5 : Sl} {s__Out6 : ByteArray} {s__In7 : ByteArray} {s__Read8 : Int} {s__Status9 : Int} {s__Code10 : Int} {most11 : Int} {at_12 : Int} {v_13 : Int} {w : World} {K : Value → World → Prop} (h : hollowaylaw13_RecordCells_sh s__Ip1 s__Handler2 s__Stack3 s__Back4 s__Mem5 s__Out6 s__In7 s__Read8 s__Status9 s__Code10 most11 at_12 v_13 w K) : Calls Tryz.prog fn_hollowaylaw13_RecordCells #[.agg #[.int .i64 s__Ip1, .int .i64 s__Handler2, s__Stack3.val, s__Back4.val, s__Mem5.val, .string s__Out6, .string s__In7, .int .i64 s__Read8, .int .i64 s__Status9, .int .i64 s__Code10], .int .i64 most11, .int .i64 at_12, .int .i64 v_13] w fun e w' => ∃ v, e = .returned v ∧ K v w' :=
   lift_calls (A := hollowaylaw13_RecordCells_an) (c := bodyOf Tryz.f6) (args := [.agg #[.int .i64 s__Ip1, .int .i64 s__Handler2, s__Stack3.val, s__Back4.val, s__Mem5.val, .string s__Out6, .string s__In7, .int .i64 s__Read8, .int .i64 s__Status9, .int .i64 s__Code10], .int .i64 most11, .int .i64 at_12, .int .i64 v_13]) orc orc_wide Tryz.func6 (by kernel_rfl) (by kernel_rfl) (Eq.mp (by kernel_rfl : hollowaylaw13_RecordCells_sh s__Ip1 s__Handler2 s__Stack3 s__Back4 s__Mem5 s__Out6 s__In7 s__Read8 s__Status9 s__Code10 most11 at_12 v_13 w K = wpc orc Tryz.f6.ntmps hollowaylaw13_RecordCells_an (bodyOf Tryz.f6) (argl 0 [.agg #[.int .i64 s__Ip1, .int .i64 s__Handler2, s__Stack3.val, s__Back4.val, s__Mem5.val, .string s__Out6, .string s__In7, .int .i64 s__Read8, .int .i64 s__Status9, .int .i64 s__Code10], .int .i64 most11, .int .i64 at_12, .int .i64 v_13]) w (retQ orc Tryz.f6.results.toList K)) h)

-- holloway/hollowaylaw13.RecordTells
-- holloway/hollowaylaw13.alive
def hollowaylaw13_alive_sh  (w : World) (K : Value → World → Prop) : Prop :=
 Calls Tryz.prog fn_hollowayref9_Boot #[.int .i64 (300 : Int), .string (bs [])] w fun e1 w2 => ∃ n_Ip3 : Int, ∃ n_Handler4 : Int, ∃ s_Stack5 : Sl, ∃ s_Back6 : Sl, ∃ s_Mem7 : Sl, ∃ t_Out8 : ByteArray, ∃ t_In9 : ByteArray, ∃ n_Read10 : Int, ∃ n_Status11 : Int, ∃ n_Code12 : Int, e1 = .returned (.agg #[.int .i64 n_Ip3, .int .i64 n_Handler4, s_Stack5.val, s_Back6.val, s_Mem7.val, .string t_Out8, .string t_In9, .int .i64 n_Read10, .int .i64 n_Status11, .int .i64 n_Code12]) ∧
 Calls Tryz.prog fn_hollowayref9_Enter #[.agg #[.int .i64 n_Ip3, .int .i64 n_Handler4, s_Stack5.val, s_Back6.val, s_Mem7.val, .string t_Out8, .string t_In9, .int .i64 n_Read10, .int .i64 n_Status11, .int .i64 n_Code12], .int .i64 (200 : Int)] w2 fun e13 w14 => ∃ n_Ip15 : Int, ∃ n_Handler16 : Int, ∃ s_Stack17 : Sl, ∃ s_Back18 : Sl, ∃ s_Mem19 : Sl, ∃ t_Out20 : ByteArray, ∃ t_In21 : ByteArray, ∃ n_Read22 : Int, ∃ n_Status23 : Int, ∃ n_Code24 : Int, e13 = .returned (.agg #[.int .i64 n_Ip15, .int .i64 n_Handler16, s_Stack17.val, s_Back18.val, s_Mem19.val, .string t_Out20, .string t_In21, .int .i64 n_Read22, .int .i64 n_Status23, .int .i64 n_Code24]) ∧
 ∀ (b25 : Nat) (w26 : World), b25 = w14.heap.size → w26 = World.alloc w14 (.cells #[.int .i64 (0 : Int), .int .i64 (0 : Int), .slice none 0 0, .slice none 0 0, .slice none 0 0, .string (bs []), .string (bs []), .int .i64 (0 : Int), .int .i64 (0 : Int), .int .i64 (0 : Int)] T_api_State) →
 wrOk w26 ⟨b25, 0, none⟩ 10 ∧ ∀ w27 : World, w27 = stW w26 ⟨b25, 0, none⟩ 0 [.int .i64 n_Ip15, .int .i64 n_Handler16, s_Stack17.val, s_Back18.val, s_Mem19.val, .string t_Out20, .string t_In21, .int .i64 n_Read22, .int .i64 n_Status23, .int .i64 n_Code24] →
 ∀ w28 : World, w28 = World.drew w27 →
 ∃ S29 : World → Prop, S29 w28 ∧
 ∃ s30 : Sl, held S29 ⟨b25, 4, none⟩ (s30.val) ∧
 ∃ s31 : Sl, held S29 ⟨b25, 4, none⟩ (s31.val) ∧
 ∃ s32 : Sl, held S29 ⟨b25, 4, none⟩ (s32.val) ∧
 ∃ s33 : Sl, held S29 ⟨b25, 4, none⟩ (s33.val) ∧
 ∃ a34 : Addr, s30.ptr = some a34 ∧ 0 ≤ (200 : Int) ∧ (200 : Int) < (s30.len : Int) ∧
 wrOk w28 (Addr.add a34 (Int.toNat (200 : Int) * 1)) 1 ∧ ∀ w35 : World, w35 = stW w28 (Addr.add a34 (Int.toNat (200 : Int) * 1)) 0 [.int .i64 (6 : Int)] →
 S29 w35 ∧
 ∃ a36 : Addr, s31.ptr = some a36 ∧ 0 ≤ (201 : Int) ∧ (201 : Int) < (s31.len : Int) ∧
 wrOk w35 (Addr.add a36 (Int.toNat (201 : Int) * 1)) 1 ∧ ∀ w37 : World, w37 = stW w35 (Addr.add a36 (Int.toNat (201 : Int) * 1)) 0 [.int .i64 (7 : Int)] →
 S29 w37 ∧
 ∃ a38 : Addr, s32.ptr = some a38 ∧ 0 ≤ (202 : Int) ∧ (202 : Int) < (s32.len : Int) ∧
 wrOk w37 (Addr.add a38 (Int.toNat (202 : Int) * 1)) 1 ∧ ∀ w39 : World, w39 = stW w37 (Addr.add a38 (Int.toNat (202 : Int) * 1)) 0 [.int .i64 (3 : Int)] →
 S29 w39 ∧
 ∃ a40 : Addr, s33.ptr = some a40 ∧ 0 ≤ (203 : Int) ∧ (203 : Int) < (s33.len : Int) ∧
 wrOk w39 (Addr.add a40 (Int.toNat (203 : Int) * 1)) 1 ∧ ∀ w41 : World, w41 = stW w39 (Addr.add a40 (Int.toNat (203 : Int) * 1)) 0 [.int .i64 (200 : Int)] →
 ∀ (b42 : Nat) (w43 : World), b42 = w41.heap.size → w43 = World.alloc w41 (.cells #[.int .i64 (1 : Int)] T_int) →
 wrOk w43 ⟨b25, 2, none⟩ 1 ∧ ∀ w44 : World, w44 = stW w43 ⟨b25, 2, none⟩ 0 [.slice (some ⟨b42, 0, none⟩) 1 1] →
 ∃ n_Ip45 : Int, ∃ n_Handler46 : Int, ∃ s_Stack47 : Sl, ∃ s_Back48 : Sl, ∃ s_Mem49 : Sl, ∃ t_Out50 : ByteArray, ∃ t_In51 : ByteArray, ∃ n_Read52 : Int, ∃ n_Status53 : Int, ∃ n_Code54 : Int, w44.cell? ⟨b25, 0, none⟩ = some (.int .i64 n_Ip45) ∧ w44.cell? ⟨b25, 1, none⟩ = some (.int .i64 n_Handler46) ∧ w44.cell? ⟨b25, 2, none⟩ = some (s_Stack47.val) ∧ w44.cell? ⟨b25, 3, none⟩ = some (s_Back48.val) ∧ w44.cell? ⟨b25, 4, none⟩ = some (s_Mem49.val) ∧ w44.cell? ⟨b25, 5, none⟩ = some (.string t_Out50) ∧ w44.cell? ⟨b25, 6, none⟩ = some (.string t_In51) ∧ w44.cell? ⟨b25, 7, none⟩ = some (.int .i64 n_Read52) ∧ w44.cell? ⟨b25, 8, none⟩ = some (.int .i64 n_Status53) ∧ w44.cell? ⟨b25, 9, none⟩ = some (.int .i64 n_Code54) ∧
 Calls Tryz.prog fn_record_Loop #[.agg #[.int .i64 n_Ip45, .int .i64 n_Handler46, s_Stack47.val, s_Back48.val, s_Mem49.val, .string t_Out50, .string t_In51, .int .i64 n_Read52, .int .i64 n_Status53, .int .i64 n_Code54], .int .i64 (9 : Int)] w44 fun e55 w56 => ∃ n_Start57 : Int, ∃ n_End58 : Int, ∃ b_Loop59 : Bool, ∃ s_Steps60 : Sl, e55 = .returned (.agg #[.int .i64 n_Start57, .int .i64 n_End58, .bool b_Loop59, s_Steps60.val]) ∧
 ∀ (b61 : Nat) (w62 : World), b61 = w56.heap.size → w62 = World.alloc w56 (.cells #[.int .i64 (0 : Int), .int .i64 (0 : Int), .bool false, .slice none 0 0] T_api_Recording) →
 wrOk w62 ⟨b61, 0, none⟩ 4 ∧ ∀ w63 : World, w63 = stW w62 ⟨b61, 0, none⟩ 0 [.int .i64 n_Start57, .int .i64 n_End58, .bool b_Loop59, s_Steps60.val] →
 ∃ b64 : Bool, w63.cell? ⟨b61, 2, none⟩ = some (.bool b64) ∧
 brB b64
 (∃ s65 : Sl, w63.cell? ⟨b61, 3, none⟩ = some (s65.val) ∧
 brB ((s65.len : Int) == (3 : Int))
 (∃ n66 : Int, w63.cell? ⟨b61, 0, none⟩ = some (.int .i64 n66) ∧
 brB (n66 == (200 : Int))
 (∃ n67 : Int, w63.cell? ⟨b61, 1, none⟩ = some (.int .i64 n67) ∧
 brB (n67 == (200 : Int))
 (∃ s68 : Sl, w63.cell? ⟨b61, 3, none⟩ = some (s68.val) ∧
 ∃ a69 : Addr, s68.ptr = some a69 ∧ 0 ≤ (2 : Int) ∧ (2 : Int) < (s68.len : Int) ∧
 ∃ n_Ip70 : Int, ∃ n_Cell71 : Int, ∃ n_Arg72 : Int, ∃ n_Next73 : Int, w63.cell? (Addr.add a69 (Int.toNat (2 : Int) * 4)) = some (.int .i64 n_Ip70) ∧ w63.cell? (Addr.add (Addr.add a69 (Int.toNat (2 : Int) * 4)) 1) = some (.int .i64 n_Cell71) ∧ w63.cell? (Addr.add (Addr.add a69 (Int.toNat (2 : Int) * 4)) 2) = some (.int .i64 n_Arg72) ∧ w63.cell? (Addr.add (Addr.add a69 (Int.toNat (2 : Int) * 4)) 3) = some (.int .i64 n_Next73) ∧
 ∃ b74 : Bool, ∃ w75 : World, ((do eqGuard .eql T_api_Seen (.tmp 43) (.tmp 44) (.agg #[.int .i64 n_Ip70, .int .i64 n_Cell71, .int .i64 n_Arg72, .int .i64 n_Next73]) (.agg #[.int .i64 (202 : Int), .int .i64 (3 : Int), .int .i64 (200 : Int), .int .i64 (200 : Int)]); binOp .eql T_api_Seen (.agg #[.int .i64 n_Ip70, .int .i64 n_Cell71, .int .i64 n_Arg72, .int .i64 n_Next73]) (.agg #[.int .i64 (202 : Int), .int .i64 (3 : Int), .int .i64 (200 : Int), .int .i64 (200 : Int)]) : Sem Value)).run Tryz.prog w63 = .ok (.bool b74) w75 ∧
 brB b74
 (∃ n_Start76 : Int, ∃ n_End77 : Int, ∃ b_Loop78 : Bool, ∃ s_Steps79 : Sl, w75.cell? ⟨b61, 0, none⟩ = some (.int .i64 n_Start76) ∧ w75.cell? ⟨b61, 1, none⟩ = some (.int .i64 n_End77) ∧ w75.cell? ⟨b61, 2, none⟩ = some (.bool b_Loop78) ∧ w75.cell? ⟨b61, 3, none⟩ = some (s_Steps79.val) ∧
 Calls Tryz.prog fn_record_Right #[.agg #[.int .i64 n_Start76, .int .i64 n_End77, .bool b_Loop78, s_Steps79.val]] w75 fun e80 w81 => ∃ b82 : Bool, e80 = .returned (.bool b82) ∧
 K (.bool b82) w81)
 (K (.bool false) w75))
 (K (.bool false) w63))
 (K (.bool false) w63))
 (K (.bool false) w63))
 (K (.bool false) w63)
def hollowaylaw13_alive_an : An := ⟨[], [(2, (14, .st 0 (.st 1 (.st 2 (.st 3 (.st 4 (.st 5 (.st 6 (.st 7 (.st 8 (.ef 9 (.st 10 (.ef 11 (.st 12 (.ef 13 .done))))))))))))), 1))], []⟩
theorem hollowaylaw13_alive_lift  {w : World} {K : Value → World → Prop} (h : hollowaylaw13_alive_sh  w K) : Calls Tryz.prog fn_hollowaylaw13_alive #[] w fun e w' => ∃ v, e = .returned v ∧ K v w' :=
   lift_calls (A := hollowaylaw13_alive_an) (c := bodyOf Tryz.f28) (args := []) orc orc_wide Tryz.func28 (by kernel_rfl) (by kernel_rfl) (Eq.mp (by kernel_rfl : hollowaylaw13_alive_sh  w K = wpc orc Tryz.f28.ntmps hollowaylaw13_alive_an (bodyOf Tryz.f28) (argl 0 []) w (retQ orc Tryz.f28.results.toList K)) h)

-- holloway/hollowaylaw13.same
end Go.Proofs.YtkjpmkopnkkbmaaGreatDoor

/- Lists of recorded steps, held against each other; which recordings may be; the first call of chapter 13's statements; RecordMost. -/
set_option maxRecDepth 100000
namespace Go.Proofs.YtkjpmkopnkkbmaaGreatDoor
open Go.RowKit

theorem sn_eql (x y : SnV) (a b : Operand) (w : World) : ((do eqGuard .eql T_api_Seen a b (.agg (seC x).toArray) (.agg (seC y).toArray); binOp .eql T_api_Seen (.agg (seC x).toArray) (.agg (seC y).toArray) : Sem Value)).run Tryz.prog w = .ok (.bool (decide (x.ip = y.ip ∧ x.cell = y.cell ∧ x.arg = y.arg ∧ x.next = y.next))) w := by
  have u1 := Tryz.underlying3
  have hS : Tryz.prog.underlying T_api_Seen = some (.struct (Tryz.prog.fieldsOf T_api_Seen)) := by kernel_rfl
  have hp : Tryz.prog.stoodInHeld T_api_Seen = false := by kernel_rfl
  have hm : Tryz.prog.eqGuardType Tryz.prog.depth T_api_Seen = false := by kernel_rfl
  simp only [seC, Sem.run_bind, run_eqGuard_agg w .eql T_api_Seen a b _ _ hm, Result.andThen_ok, run_eql_struct]
  rw [show (10000 : Nat) = 9999 + 1 from rfl, run_equalIn_agg w 9999 T_api_Seen _ _ hS hp]
  simp only [Program.fieldsOf, Tryz.underlying52]
  go_simp
  by_cases g1 : x.ip = y.ip <;> by_cases g2 : x.cell = y.cell <;> by_cases g3 : x.arg = y.arg <;> by_cases g4 : x.next = y.next <;> simp [g1, g2, g3, g4]
theorem sameSeens_ok : SameOk Tryz.prog seE fn_hollowaybook_SameSeens := by
  intro s t xs w hs ht
  refine (hollowaybook_SameSeens_lift (K := fun r w' => r = .bool true ∧ Chg No w w') ?_).mono (by rintro e w' ⟨r, rfl, rfl, h⟩; exact ⟨rfl, h⟩)
  unfold hollowaybook_SameSeens_sh
  have h1 := hs.len
  have h2 := ht.len
  have hc := hs.capL
  have e1 : ((s.len : Int) != (t.len : Int)) = false := by rw [h1, h2]; simp
  rw [e1]
  refine brB_f ?_
  refine ⟨fun n w' => ∃ k : Nat, n = k ∧ k ≤ xs.length ∧ Chg No w w', fun n _ => xs.length - n.toNat, ⟨0, rfl, Nat.zero_le _, Chg.refl _ _⟩, ?_⟩
  rintro n w3 ⟨k, rfl, hk, hch⟩
  refine brB_of (fun hlt => ?_) (fun hlt => ⟨rfl, hch⟩)
  have hlt : k < xs.length := by simp at hlt; omega
  intro w5 hw5
  have c5 : Chg No w w5 := hch.trans (by rw [hw5]; exact Chg.drew No _) (fun _ _ h => h) (fun _ _ h => h)
  obtain ⟨x, hx⟩ : ∃ x, xs[k]? = some x := ⟨_, List.getElem?_eq_getElem hlt⟩
  refine (hs.no c5).ix (i := (k : Int)) (by omega) (by rw [Int.toNat_natCast]; exact hx) fun a ha hcell => ?_
  have q1 := hcell 0 _ rfl
  rw [add0] at q1
  refine ⟨_, _, _, _, held_Lw q1, held_Lw (hcell 1 _ rfl), held_Lw (hcell 2 _ rfl), held_Lw (hcell 3 _ rfl), ?_⟩
  refine (ht.no c5).ix (i := (k : Int)) (by omega) (by rw [Int.toNat_natCast]; exact hx) fun a' ha' hcell' => ?_
  have q2 := hcell' 0 _ rfl
  rw [add0] at q2
  refine ⟨_, _, _, _, held_Lw q2, held_Lw (hcell' 1 _ rfl), held_Lw (hcell' 2 _ rfl), held_Lw (hcell' 3 _ rfl), ?_⟩
  refine ⟨_, _, sn_eql x x _ _ _, ?_⟩
  rw [show (!decide (x.ip = x.ip ∧ x.cell = x.cell ∧ x.arg = x.arg ∧ x.next = x.next)) = false by simp]
  refine brB_f ?_
  rw [wr_of (by omega) (by omega)]
  exact ⟨⟨k + 1, by omega, by omega, c5⟩, by show xs.length - Int.toNat ((k : Int) + 1) < xs.length - Int.toNat (k : Int); omega⟩
/-! ### Which recordings may be -/
theorem single_rc (x : SnV) (hx : Cn.In x.ip) (w : World) : Calls Tryz.prog fn_record_single #[.agg (seC x).toArray] w fun e w' => e = .returned (.bool (singleB x)) ∧ Chg No w w' := by
  refine (record_single_lift (K := fun v w' => v = .bool (singleB x) ∧ Chg No w w') ?_).mono (by rintro e w' ⟨v, rfl, rfl, h⟩; exact ⟨rfl, h⟩)
  unfold record_single_sh
  intro b5 w6 hb5 hw6
  have c6 := al hw6
  have o6 : Ob w6 b5 (seC x) T_api_Seen := by rw [hw6, hb5]; exact Ob.new w (seC x) T_api_Seen
  obtain ⟨la, hla⟩ : ∃ la, la = (if arB x.cell = true then wr (x.ip + 1) else x.ip) := ⟨_, rfl⟩
  have hpl : placeB x.ip = true → la = (if arB x.cell = true then x.ip + 1 else x.ip) := fun hp => by
    unfold placeB at hp
    rw [hla]
    split
    · rw [wr_in]
      have h1 : 0 ≤ x.ip ∧ x.ip < 3000 := by simpa using hp
      omega
    · rfl
  have fin : singleB x = (plB x.cell && ((arB x.cell || decide (x.arg = 0)) && (placeB x.ip && (placeB la && placeB x.next)))) := by
    unfold singleB
    cases hp : placeB x.ip with
    | false => simp
    | true => rw [hpl hp]
  refine ⟨x.ip, o6.cell rfl, fun n w' => n = la ∧ w' = w6, ?_, x.cell, o6.cell rfl, ?_⟩
  · rintro n w13 ⟨rfl, rfl⟩
    refine ⟨x.cell, o6.cell rfl, (plain_rc _ w13).mono ?_⟩
    rintro e w16 ⟨rfl, rfl⟩
    refine ⟨_, rfl, brB_of (fun hp => ?_) (fun hp => ?_)⟩
    rotate_left
    · exact ⟨by rw [fin, hp]; rfl, c6⟩
    refine ⟨x.cell, o6.cell rfl, (arg_rc _ w13).mono ?_⟩
    rintro e w20 ⟨rfl, rfl⟩
    have tail : (arB x.cell || decide (x.arg = 0)) = true → ∃ n22 : Int, w13.cell? ⟨b5, 0, none⟩ = some (.int .i64 n22) ∧ Calls Tryz.prog fn_record_place #[.int .i64 n22] w13 fun e23 w24 => ∃ b25 : Bool, e23 = .returned (.bool b25) ∧
        brB b25 (Calls Tryz.prog fn_record_place #[.int .i64 n] w24 fun e27 w28 => ∃ b29 : Bool, e27 = .returned (.bool b29) ∧
        brB b29 (∃ n30 : Int, w28.cell? ⟨b5, 3, none⟩ = some (.int .i64 n30) ∧ Calls Tryz.prog fn_record_place #[.int .i64 n30] w28 fun e31 w32 => ∃ b33 : Bool, e31 = .returned (.bool b33) ∧
        (Value.bool b33 = .bool (singleB x) ∧ Chg No w w32)) (Value.bool false = .bool (singleB x) ∧ Chg No w w28)) (Value.bool false = .bool (singleB x) ∧ Chg No w w24) := fun ha => by
      refine ⟨x.ip, o6.cell rfl, (place_rc _ w13).mono ?_⟩
      rintro e w24 ⟨rfl, rfl⟩
      refine ⟨_, rfl, brB_of (fun h1 => ?_) (fun h1 => ⟨by rw [fin, hp, ha, h1]; rfl, c6⟩)⟩
      refine (place_rc _ w13).mono ?_
      rintro e w28 ⟨rfl, rfl⟩
      refine ⟨_, rfl, brB_of (fun h2 => ?_) (fun h2 => ⟨by rw [fin, hp, ha, h1, h2]; rfl, c6⟩)⟩
      refine ⟨x.next, o6.cell rfl, (place_rc _ w13).mono ?_⟩
      rintro e w32 ⟨rfl, rfl⟩
      exact ⟨_, rfl, by rw [fin, hp, ha, h1, h2]; rfl, c6⟩
    refine ⟨_, rfl, brB_of (fun ha => tail (by rw [ha]; rfl)) (fun ha => ⟨x.arg, o6.cell rfl, brB_of (fun h0 => tail ?_) (fun h0 => ⟨?_, c6⟩)⟩)⟩
    · have h0 : x.arg = 0 := by simpa using h0
      rw [decide_eq_true h0]; simp
    · have h0 : x.arg ≠ 0 := by simpa using h0
      rw [fin, hp, ha, decide_eq_false h0]; rfl
  · refine (arg_rc _ w6).mono ?_
    rintro e w10 ⟨rfl, rfl⟩
    refine ⟨_, rfl, brB_of (fun ha => ⟨x.ip, o6.cell rfl, by rw [hla, if_pos ha], rfl⟩) (fun ha => ⟨by rw [hla, if_neg (by rw [ha]; decide)], rfl⟩)⟩
theorem right_rc {D : Nat → Prop} {w : World} (R : RcC) {r : RcV} (hnum : R.start = r.start ∧ R.fin = r.fin ∧ R.loop = r.loop) (hst : Rd seE w R.steps r.steps) (hin : ∀ x ∈ r.steps, Cn.In x.ip) :
    Calls Tryz.prog fn_record_Right #[.agg (rcC R).toArray] w fun e w' => e = .returned (.bool (rightR r)) ∧ Chg No w w' := by
  refine (record_Right_lift (K := fun v w' => v = .bool (rightR r) ∧ Chg No w w') ?_).mono (by rintro e w' ⟨v, rfl, rfl, h⟩; exact ⟨rfl, h⟩)
  unfold record_Right_sh
  obtain ⟨m1, m2, m3⟩ := hnum
  have hl := hst.len
  refine inRc R fun b5 w6 hb5 z6 o6 c6 => ⟨R.start, o6.cell rfl, ?_⟩
  obtain ⟨bad, hbad⟩ : ∃ bad : Prop, bad = (120 < r.steps.length ∨ r.loop ≠ (decide (0 < r.steps.length) && decide (r.fin = r.start))) := ⟨_, rfl⟩
  have hf : bad → rightR r = false := fun hb => by
    rw [hbad] at hb
    unfold rightR
    by_cases h1 : 120 < r.steps.length
    · rw [if_pos h1]
    · rw [if_neg h1]
      rcases hb with hb | hb
      · exact absurd hb h1
      · rw [if_pos hb]
  refine ⟨fun b w' => (b = true → bad) ∧ (b = false → ¬ bad) ∧ w' = w6, ?_, R.steps, o6.cell rfl, ?_⟩
  rotate_left
  · refine brB_of (fun h1 => ?_) (fun h1 => ⟨R.loop, o6.cell rfl, R.steps, o6.cell rfl, brB_of (fun h2 => ⟨R.fin, o6.cell rfl, R.start, o6.cell rfl, ?_⟩) (fun h2 => ?_)⟩)
    · have h1 := of_decide_eq_true h1
      exact ⟨fun _ => by rw [hbad]; left; omega, (fun h => by cases h), rfl⟩
    · have h1 := of_decide_eq_false h1
      have h2 := of_decide_eq_true h2
      have e : (!(R.loop == (R.fin == R.start))) = true ↔ r.loop ≠ (decide (0 < r.steps.length) && decide (r.fin = r.start)) := by
        rw [m1, m2, m3, decide_eq_true (show 0 < r.steps.length by omega)]
        show (!(r.loop == decide (r.fin = r.start))) = true ↔ r.loop ≠ (true && decide (r.fin = r.start))
        cases r.loop <;> cases decide (r.fin = r.start) <;> simp
      refine ⟨fun h => by rw [hbad]; exact Or.inr (e.1 h), fun h hb => ?_, rfl⟩
      rw [hbad] at hb
      rcases hb with hb | hb
      · omega
      · rw [e.2 hb] at h; cases h
    · have h1 := of_decide_eq_false h1
      have h2 := of_decide_eq_false h2
      have e : (!(R.loop == false)) = true ↔ r.loop ≠ (decide (0 < r.steps.length) && decide (r.fin = r.start)) := by
        rw [m3, decide_eq_false (show ¬ 0 < r.steps.length by omega)]
        cases r.loop <;> simp
      refine ⟨fun h => by rw [hbad]; exact Or.inr (e.1 h), fun h hb => ?_, rfl⟩
      rw [hbad] at hb
      rcases hb with hb | hb
      · omega
      · rw [e.2 hb] at h; cases h
  rintro b w13 ⟨hb1, hb2, rfl⟩
  refine brB_of (fun hb => ⟨by rw [hf (hb1 hb)], c6⟩) (fun hb => ⟨R.steps, o6.cell rfl, ?_⟩)
  have hgood := hb2 hb
  rw [hbad] at hgood
  have h120 : r.steps.length ≤ 120 := by
    rcases Nat.lt_or_ge 120 r.steps.length with h | h
    · exact absurd (Or.inl h) hgood
    · exact h
  have hrr : rightR r = match rightL r.start r.start false r.steps with
      | none => false
      | some a => decide (a = r.fin) := by
    unfold rightR; rw [if_neg (by omega), if_neg (fun h => hgood (Or.inr h))]
    all_goals (cases rightL r.start r.start false r.steps <;> rfl)
  rw [m1]
  refine ⟨fun a n w' => ∃ j : Nat, n = j ∧ j ≤ r.steps.length ∧ rightL r.start r.start false r.steps = rightL r.start a (decide (0 < j)) (r.steps.drop j) ∧ Chg No w13 w', fun _ n _ => r.steps.length - n.toNat, ⟨0, rfl, Nat.zero_le _, rfl, Chg.refl _ _⟩, ?_⟩
  rintro a n w16 ⟨j, rfl, hj, hrl, c16⟩
  have k16 := trN c6 c16
  refine brB_of (fun hlt => ?_) (fun hge => ?_)
  · have hlt : j < r.steps.length := by have := of_decide_eq_true hlt; omega
    obtain ⟨x, hx⟩ : ∃ x, r.steps[j]? = some x := ⟨_, List.getElem?_eq_getElem hlt⟩
    have hxj : r.steps[j] = x := by rw [List.getElem?_eq_getElem hlt] at hx; exact Option.some.inj hx
    refine (hst.no k16).ix (i := (j : Int)) (by omega) (by rw [Int.toNat_natCast]; exact hx) fun ad _ hcell => ?_
    have q0 := hcell 0 _ rfl
    rw [add0] at q0
    refine ⟨x.ip, x.cell, x.arg, x.next, q0, hcell 1 _ rfl, hcell 2 _ rfl, hcell 3 _ rfl, varSn x fun b23 w25 hb23 z25 o23 c25 => ?_⟩
    obtain ⟨bd, hbd⟩ : ∃ bd : Prop, bd = (singleB x = false ∨ x.ip ≠ a ∨ (decide (0 < j) = true ∧ x.ip = r.start)) := ⟨_, rfl⟩
    have hstep : rightL r.start a (decide (0 < j)) (r.steps.drop j) = if singleB x = false ∨ x.ip ≠ a ∨ (decide (0 < j) = true ∧ x.ip = r.start) then none else rightL r.start x.next true (r.steps.drop (j + 1)) := by
      rw [List.drop_eq_getElem_cons hlt, hxj]; rfl
    refine ⟨fun b w' => (b = true → bd) ∧ (b = false → ¬ bd) ∧ Chg No w25 w', ?_, ?_⟩
    · rintro b w37 ⟨hd1, hd2, c37⟩
      have k37 := trN (trN k16 c25) c37
      refine brB_of (fun hb => ⟨?_, k37⟩) (fun hb => ⟨x.next, (o23.no c37).cell rfl, ?_⟩)
      · have := hd1 hb
        rw [hbd] at this
        rw [hrr, hrl, hstep, if_pos this]
      · have := hd2 hb
        rw [hbd] at this
        rw [wr_in (by omega)]
        refine ⟨⟨j + 1, by omega, by omega, ?_, trN (trN c16 c25) c37⟩, by show r.steps.length - Int.toNat ((j : Int) + 1) < r.steps.length - Int.toNat (j : Int); omega⟩
        rw [hrl, hstep, if_neg this, decide_eq_true (by omega)]
    · refine rdSn o23 ((single_rc x (hin x (by rw [← hxj]; exact List.getElem_mem hlt)) w25).mono ?_)
      rintro e w31 ⟨rfl, c31⟩
      have p23 := o23.no c31
      refine ⟨_, rfl, brB_of (fun h1 => ?_) (fun h1 => ⟨x.ip, p23.cell rfl, brB_of (fun h2 => ?_) (fun h2 => brB_of (fun h3 => ⟨x.ip, p23.cell rfl, R.start, (((o6.no c16).no c25).no c31).cell rfl, ?_⟩) (fun h3 => ?_))⟩)⟩
      · exact ⟨fun _ => by rw [hbd]; exact Or.inl (by simpa using h1), (fun h => by cases h), c31⟩
      · have h2 : x.ip ≠ a := by simpa using h2
        exact ⟨fun _ => by rw [hbd]; exact Or.inr (Or.inl h2), (fun h => by cases h), c31⟩
      · have h1 : singleB x = true := by simpa using h1
        have h2 : x.ip = a := by simpa using h2
        have h3 : 0 < j := by have := of_decide_eq_true h3; omega
        rw [m1]
        refine ⟨fun h => by rw [hbd]; exact Or.inr (Or.inr ⟨decide_eq_true h3, by simpa using h⟩), fun h hb => ?_, c31⟩
        rw [hbd] at hb
        rcases hb with hb | hb | ⟨_, hb⟩
        · rw [h1] at hb; cases hb
        · exact hb h2
        · rw [hb] at h; simp at h
      · have h1 : singleB x = true := by simpa using h1
        have h2 : x.ip = a := by simpa using h2
        have h3 : ¬ 0 < j := by have := of_decide_eq_false h3; omega
        refine ⟨(fun h => by cases h), fun _ hb => ?_, c31⟩
        rw [hbd] at hb
        rcases hb with hb | hb | ⟨hb, _⟩
        · rw [h1] at hb; cases hb
        · exact hb h2
        · exact h3 (of_decide_eq_true hb)
  · have hge : j = r.steps.length := by have := of_decide_eq_false hge; omega
    subst hge
    refine ⟨R.fin, (o6.no c16).cell rfl, ?_, k16⟩
    rw [hrr, hrl, List.drop_length, m2]
    show Value.bool (a == r.fin) = .bool (decide (a = r.fin))
    congr 1
end Go.Proofs.YtkjpmkopnkkbmaaGreatDoor

/- The first call of chapter 13's statements; RecordMost: the walk. -/
set_option maxRecDepth 100000
namespace Go.Proofs.YtkjpmkopnkkbmaaGreatDoor
open Go.RowKit

/-- hollowayref9.Enter: all but the return stack stays where it was. -/
theorem r9enter_any {D : Nat → Prop} {w : World} (S : StC) {s : StV} (h : StIs D w S s) (xt : Int) :
    Calls Tryz.prog fn_hollowayref9_Enter #[.agg (stC S).toArray, .int .i64 xt] w fun e w' => ∃ bS : Sl, e = .returned (.agg (stC ⟨xt, 0, S.stack, bS, S.mem, S.out, S.inp, S.read, 0, 0⟩).toArray) ∧ Ow intE w' bS [0] ∧ (∀ k, bS.blk = some k → w.heap.size ≤ k ∧ k < w'.heap.size) ∧ Chg No w w' := by
  refine (hollowayref9_Enter_lift (K := fun r w' => ∃ bS : Sl, r = .agg (stC ⟨xt, 0, S.stack, bS, S.mem, S.out, S.inp, S.read, 0, 0⟩).toArray ∧ Ow intE w' bS [0] ∧ (∀ k, bS.blk = some k → w.heap.size ≤ k ∧ k < w'.heap.size) ∧ Chg No w w') ?_).mono (by rintro e w' ⟨r, rfl, S, rfl, h⟩; exact ⟨S, rfl, h⟩)
  unfold hollowayref9_Enter_sh
  refine inSt S fun b12 w13 hb12 z13 o12 c13 => inSt st0 fun b14 w15 hb14 z15 o14 c15 => ?_
  intro b16 w17 hb16 hw17
  obtain ⟨l17, c17⟩ := litL [0] _ rfl hb16 hw17 (by simp)
  have hlt17 : b16 < w17.heap.size := l17.lt rfl
  have z17 := c17.size
  obtain ⟨bS, hbS⟩ : ∃ bS : Sl, bS = ⟨some ⟨b16, 0, none⟩, 1, 1⟩ := ⟨_, rfl⟩
  have hbb : ∀ k, bS.blk = some k → k = b16 := fun k hk => by rw [hbS] at hk; exact (Option.some.inj hk).symm
  have l17 : Ow intE w17 bS [0] := by rw [hbS]; exact l17
  rw [show (Value.slice (some ⟨b16, 0, none⟩) 1 1) = bS.val by rw [hbS]]
  refine setSt { S with ip := xt } ((o12.no c15).no c17) (by decide) rfl rfl fun w18 o18 c18 => setSt { S with ip := xt, handler := 0 } o18 (by decide) rfl rfl fun w19 o19 c19 => setSt { S with ip := xt, handler := 0, back := bS } o19 (by decide) rfl rfl fun w20 o20 c20 => setSt { S with ip := xt, handler := 0, back := bS, status := 0 } o20 (by decide) rfl rfl fun w21 o21 c21 => setSt { S with ip := xt, handler := 0, back := bS, status := 0, code := 0 } o21 (by decide) rfl rfl fun w22 o22 c22 => rdSt o22 ?_
  have d22 : Chg (fun j => j = b12) w17 w22 := (((c18.trans c19 (fun _ _ h => h) (fun _ _ h => h)).trans c20 (fun _ _ h => h) (fun _ _ h => h)).trans c21 (fun _ _ h => h) (fun _ _ h => h)).trans c22 (fun _ _ h => h) (fun _ _ h => h)
  have z22 := d22.size
  refine setSt { S with ip := xt, handler := 0, back := bS, status := 0, code := 0 } ((o14.no c17).chg d22 (fun he => by omega)) (by decide) rfl rfl fun w33 o33 c33 => rdSt o33 ?_
  have z33 := c33.size
  refine ⟨bS, rfl, (l17.chg d22 (fun k hk he => by have := hbb k hk; omega)).chg c33 (fun k hk he => by have := hbb k hk; omega), fun k hk => by have := hbb k hk; omega, ?_⟩
  exact ((trN (trN c13 c15) c17).trans d22 (fun _ _ h => h) (fun k hk he => by omega)).trans c33 (fun _ _ h => h) (fun k hk he => by omega)
def aliveM13 : List Int := ((((bootM 300).set 200 6).set 201 7).set 202 3).set 203 200
def aliveS13 : StV := ⟨200, 0, [1], [0], aliveM13, bs [], bs [], 0, 0, 0⟩
theorem next_of {s t : StV} {c : Int} (h0 : 0 ≤ s.ip) (h1 : s.ip < s.mem.length) (hs : s.status = 0) (hc : getI s.mem s.ip = c) (hp : plB c = true) (h2 : (mAdv { s with handler := 0 }).status ≠ 2) (ht : mAdv s = t) (hl : placeB t.ip = true) :
    nextV s = some (⟨s.ip, c, if arB c = true then getI s.mem (s.ip + 1) else 0, t.ip⟩, t) := by
  have e : ∀ s : StV, s.status = 0 → stepV s = mAdv s := fun s hs => by
    unfold stepV; rw [runM_go hs (by decide), runM_stop (Or.inr (by decide))]
  unfold nextV
  rw [hc, if_neg (by rw [hp]; rintro (h | h | h | h) <;> first | omega | exact h hs | cases h), e s hs, ht, e _ (by exact hs), if_neg h2, if_neg (by rw [hl]; decide)]
theorem alive13_rec : recV aliveS13 9 = ⟨200, 200, true, [⟨200, 6, 0, 201⟩, ⟨201, 7, 0, 202⟩, ⟨202, 3, 200, 200⟩]⟩ := by
  have hl : aliveM13.length = 300 := by unfold aliveM13; simp [bootM_len]
  have a : ∀ {i c : Int}, 0 ≤ i → i < 300 → getI aliveM13 i = c → OpAt aliveM13 i c := fun h0 h1 h2 => ⟨h0, by omega, h2⟩
  have o0 := a (i := 200) (c := 6) (by decide) (by decide) (by decide +kernel)
  have o1 := a (i := 201) (c := 7) (by decide) (by decide) (by decide +kernel)
  have o2 := a (i := 202) (c := 3) (by decide) (by decide) (by decide +kernel)
  have o3 := a (i := 203) (c := 200) (by decide) (by decide) (by decide +kernel)
  have s1 : mAdv aliveS13 = ⟨201, 0, [1, 1], [0], aliveM13, bs [], bs [], 0, 0, 0⟩ := by
    have := run_dup (n := 0) (hd := 0) (rd := 0) (code := 0) (a := 1) (st := []) (bk := [0]) (out := bs []) (inp := bs []) o0 (by simp) (by simp)
    exact congrArg Prod.fst this
  have s2 : mAdv ⟨201, 0, [1, 1], [0], aliveM13, bs [], bs [], 0, 0, 0⟩ = ⟨202, 0, [1], [0], aliveM13, bs [], bs [], 0, 0, 0⟩ := by
    have := run_drop (n := 0) (hd := 0) (rd := 0) (code := 0) (a := 1) (st := [1]) (bk := [0]) (out := bs []) (inp := bs []) o1 (by simp) (by simp)
    exact congrArg Prod.fst this
  have s3 : mAdv ⟨202, 0, [1], [0], aliveM13, bs [], bs [], 0, 0, 0⟩ = ⟨200, 0, [1], [0], aliveM13, bs [], bs [], 0, 0, 0⟩ := by
    have := run_branch (n := 0) (hd := 0) (rd := 0) (code := 0) (x := 200) (st := [1]) (bk := [0]) (out := bs []) (inp := bs []) o2 o3 (by simp) (by simp)
    exact congrArg Prod.fst this
  have n1 := next_of (s := aliveS13) o0.1 o0.2.1 rfl o0.2.2 (by decide) (by rw [show ({ aliveS13 with handler := 0 } : StV) = aliveS13 from rfl, s1]; decide) s1 (by decide)
  have n2 := next_of (s := ⟨201, 0, [1, 1], [0], aliveM13, bs [], bs [], 0, 0, 0⟩) o1.1 o1.2.1 rfl o1.2.2 (by decide) (by simp only []; rw [s2]; decide) s2 (by decide)
  have n3 := next_of (s := ⟨202, 0, [1], [0], aliveM13, bs [], bs [], 0, 0, 0⟩) o2.1 o2.2.1 rfl o2.2.2 (by decide) (by simp only []; rw [s3]; decide) s3 (by decide)
  have e3 : getI aliveM13 203 = 200 := o3.2.2
  show recL 200 9 aliveS13 [] = _
  unfold recL
  rw [if_neg (by decide), n1]
  simp only []
  unfold recL
  rw [if_neg (by decide), n2]
  simp only []
  unfold recL
  rw [if_neg (by decide), n3]
  simp only []
  unfold recL
  rw [if_pos (by decide)]
  simp only [List.nil_append, List.cons_append]
  have z6 : arB 6 = false := by decide
  have z7 : arB 7 = false := by decide
  have z3 : arB 3 = true := by decide
  rw [z6, z7, z3]
  simp only [Bool.false_eq_true, if_false, if_true]
  show (⟨200, 200, true, [⟨200, 6, 0, 201⟩, ⟨201, 7, 0, 202⟩, ⟨202, 3, getI aliveM13 203, 200⟩]⟩ : RcV) = _
  rw [e3]
theorem alive13_any {w : World} (hg : Gl w) : Calls Tryz.prog fn_hollowaylaw13_alive #[] w fun e w' => e = .returned (.bool true) ∧ Chg No w w' := by
  refine (hollowaylaw13_alive_lift (K := fun v w' => v = .bool true ∧ Chg No w w') ?_).mono (by rintro e w' ⟨v, rfl, rfl, h⟩; exact ⟨rfl, h⟩)
  unfold hollowaylaw13_alive_sh
  refine (r9boot_any 300 (bs []) (M := 300) (by decide +kernel) w).mono ?_
  rintro e w2 ⟨S0, rfl, g0, c2⟩
  have z2 := c2.size
  refine ⟨_, _, _, _, _, _, _, _, _, _, rfl, ?_⟩
  refine (r9enter_any S0 g0.is 200).mono ?_
  rintro e w14 ⟨bS, rfl, gb, hbb, c14⟩
  have z14 := c14.size
  obtain ⟨n1, n2, n3, n4, n5, n6, n7⟩ := g0.nums
  obtain ⟨S1, hS1⟩ : ∃ S1 : StC, S1 = ⟨200, 0, S0.stack, bS, S0.mem, S0.out, S0.inp, S0.read, 0, 0⟩ := ⟨_, rfl⟩
  refine ⟨_, _, _, _, _, _, _, _, _, _, rfl, varSt ⟨200, 0, S0.stack, bS, S0.mem, S0.out, S0.inp, S0.read, 0, 0⟩ fun b25 w27 hb25 z27 o25 c27 => ?_⟩
  rw [← hS1] at o25
  have hmem : S1.mem = S0.mem := by rw [hS1]
  intro w28 hw28
  have c28 := dw hw28
  have p25 := o25.no c28
  have k28 := trN (trN (trN c2 c14) c27) c28
  have hbl := bootM_len 300
  have hbm : ∀ k, S0.mem.blk = some k → w.heap.size ≤ k ∧ k < w2.heap.size := fun k hk => ⟨(g0.meD k hk).1, g0.me.lt hk⟩
  have hne : S0.mem.blk ≠ some b25 := fun he => by have := hbm _ he; omega
  have m28 : Ox intE w28 S0.mem (bootM 300) := (((g0.me.no c14).no c27).no c28).ox
  have hheld : held (fun w' => Ob w' b25 (stC S1) T_api_State) ⟨b25, 4, none⟩ S0.mem.val := by rw [← hmem]; exact Ob.held (fun w' h => h) rfl
  refine ⟨fun w' => Ob w' b25 (stC S1) T_api_State, p25, S0.mem, hheld, S0.mem, hheld, S0.mem, hheld, S0.mem, hheld, ?_⟩
  refine setOx m28 (by decide) (by rw [hbl]; decide) fun w35 g35 c35 => ⟨p25.chg c35 hne, setOx g35 (by decide) (by simp [hbl]) fun w37 g37 c37 => ⟨(p25.chg c35 hne).chg c37 hne, setOx g37 (by decide) (by simp [hbl]) fun w39 g39 c39 => ⟨((p25.chg c35 hne).chg c37 hne).chg c39 hne, setOx g39 (by decide) (by simp [hbl]) fun w41 g41 c41 => ?_⟩⟩⟩
  have p41 := (((p25.chg c35 hne).chg c37 hne).chg c39 hne).chg c41 hne
  have d41 : Chg (fun x => S0.mem.blk = some x) w28 w41 := ((c35.trans c37 (fun _ _ h => h) (fun _ _ h => h)).trans c39 (fun _ _ h => h) (fun _ _ h => h)).trans c41 (fun _ _ h => h) (fun _ _ h => h)
  have z28 := c28.size
  have z41 := d41.size
  have k41 : Chg No w w41 := k28.trans d41 (fun _ _ h => h) (fun k hk he => by have := hbm k he; omega)
  intro b42 w43 hb42 hw43
  obtain ⟨l43, c43⟩ := litL [1] _ rfl hb42 hw43 (by simp)
  have hlt43 : b42 < w43.heap.size := l43.lt rfl
  obtain ⟨tS, htS⟩ : ∃ tS : Sl, tS = ⟨some ⟨b42, 0, none⟩, 1, 1⟩ := ⟨_, rfl⟩
  have htb : ∀ k, tS.blk = some k → k = b42 := fun k hk => by rw [htS] at hk; exact (Option.some.inj hk).symm
  have l43 : Ow intE w43 tS [1] := by rw [htS]; exact l43
  rw [show (Value.slice (some ⟨b42, 0, none⟩) 1 1) = tS.val by rw [htS]]
  refine setSt { S1 with stack := tS } (p41.no c43) (by decide) rfl rfl fun w44 o44 c44 => rdSt o44 ?_
  have z43 := c43.size
  have k44 : Chg No w w44 := (trN k41 c43).trans c44 (fun _ _ h => h) (fun k hk he => by omega)
  have hst : StIs (fun _ => True) w44 { S1 with stack := tS } aliveS13 := by
    rw [hS1]
    refine ⟨⟨rfl, rfl, n3, n4, n5, rfl, rfl⟩, (l43.chg c44 (fun k hk he => by have := htb k hk; omega)).rd, ?_, ?_, fun _ _ => trivial, fun _ _ => trivial, fun _ _ => trivial⟩
    · have g1 := ((gb.no c27).no c28).chg d41 (fun k hk he => by have := hbb k hk; have := hbm k he; omega)
      exact ((g1.no c43).chg c44 (fun k hk he => by have := hbb k hk; omega)).rd
    · exact ((g41.no c43).qs c44 (fun he => hne he)).rd
  have ok : MOk aliveS13 := ⟨by show 1 ≤ 48; omega, by show 1 ≤ 48; omega, by show aliveM13.length ≤ 3000; unfold aliveM13; simp [hbl], by show 0 ≤ 2000; omega, ⟨by show (0 : Int) ≤ 0; omega, by show (0 : Int) ≤ _; exact Int.natCast_nonneg _⟩, by show 0 ≤ _; omega⟩
  refine (loop_rc _ hst ok (hg.no k44) 9).mono ?_
  rintro e w56 ⟨R, rfl, gR, c56⟩
  rw [alive13_rec] at gR
  refine ⟨_, _, _, _, rfl, varRc R fun b61 w63 hb61 z63 o61 c63 => ?_⟩
  have k63 := trN (trN k44 c56) c63
  obtain ⟨r1, r2, r3⟩ := gR.nums
  have gs := (gR.no c63).steps.rd
  have hl3 : R.steps.len = 3 := gs.len
  refine ⟨R.loop, o61.cell rfl, brB_t' r3 ⟨R.steps, o61.cell rfl, brB_t' (by rw [hl3]; rfl) ⟨R.start, o61.cell rfl, brB_t' (by rw [r1]; rfl) ⟨R.fin, o61.cell rfl, brB_t' (by rw [r2]; rfl) ⟨R.steps, o61.cell rfl, ?_⟩⟩⟩⟩⟩
  refine gs.ix (i := 2) (by decide) (x := ⟨202, 3, 200, 200⟩) rfl fun a _ hcell => ?_
  have q := hcell 0 _ rfl
  rw [add0] at q
  refine ⟨_, _, _, _, q, hcell 1 _ rfl, hcell 2 _ rfl, hcell 3 _ rfl, _, _, sn_eql ⟨202, 3, 200, 200⟩ ⟨202, 3, 200, 200⟩ _ _ _, brB_t' (by decide) (rdRc o61 ?_)⟩
  refine (right_rc (D := fun _ => True) R (r := ⟨200, 200, true, [⟨200, 6, 0, 201⟩, ⟨201, 7, 0, 202⟩, ⟨202, 3, 200, 200⟩]⟩) ⟨r1, r2, r3⟩ gs (fun x hx => ?_)).mono ?_
  · simp only [List.mem_cons, List.mem_nil_iff, or_false] at hx
    rcases hx with rfl | rfl | rfl <;> (constructor <;> decide)
  rintro e w81 ⟨rfl, c81⟩
  exact ⟨_, rfl, congrArg Value.bool (by decide), trN k63 c81⟩
end Go.Proofs.YtkjpmkopnkkbmaaGreatDoor

/- slices.Sort and slices.Compact at lists of numbers: the shelf's contracts at this program. (Laid by the kit's own tools; see mksol.py.) -/
set_option maxRecDepth 100000
namespace Go.Proofs.YtkjpmkopnkkbmaaGreatDoor
def lays189_ren : Go.Shelf.Ren := ⟨fun | 189 => 82 | 125 => 109 | 257 => 108 | 128 => 130 | 129 => 131 | 294 => 121 | 295 => 122 | 296 => 123 | 297 => 124 | 298 => 125 | 299 => 126 | 216 => 127 | 300 => 128 | 301 => 129 | 328 => 149 | 329 => 150 | 330 => 151 | 331 => 152 | 332 => 153 | 215 => 154 | 343 => 166 | n => n, fun | 28 => 22 | 3 => 3 | 46 => 124 | 0 => 0 | 51 => 143 | 53 => 115 | 4 => 4 | 183 => 137 | 182 => 136 | 131 => 78 | 5 => 5 | 9 => 9 | 218 => 159 | 222 => 163 | 228 => 179 | 229 => 113 | n => n, fun | n => n⟩
theorem lays189 : Go.Proofs.Lays.n189 Tryz.prog lays189_ren := {
  mixed := by kernel_rfl
  f125 := Tryz.func109.trans (congrArg some (by kernel_rfl))
  f128 := Tryz.func130.trans (congrArg some (by kernel_rfl))
  f129 := Tryz.func131.trans (congrArg some (by kernel_rfl))
  f189 := Tryz.func82.trans (congrArg some (by kernel_rfl))
  f215 := Tryz.func154.trans (congrArg some (by kernel_rfl))
  f216 := Tryz.func127.trans (congrArg some (by kernel_rfl))
  f257 := Tryz.func108.trans (congrArg some (by kernel_rfl))
  f294 := Tryz.func121.trans (congrArg some (by kernel_rfl))
  f295 := Tryz.func122.trans (congrArg some (by kernel_rfl))
  f296 := Tryz.func123.trans (congrArg some (by kernel_rfl))
  f297 := Tryz.func124.trans (congrArg some (by kernel_rfl))
  f298 := Tryz.func125.trans (congrArg some (by kernel_rfl))
  f299 := Tryz.func126.trans (congrArg some (by kernel_rfl))
  f300 := Tryz.func128.trans (congrArg some (by kernel_rfl))
  f301 := Tryz.func129.trans (congrArg some (by kernel_rfl))
  f328 := Tryz.func149.trans (congrArg some (by kernel_rfl))
  f329 := Tryz.func150.trans (congrArg some (by kernel_rfl))
  f330 := Tryz.func151.trans (congrArg some (by kernel_rfl))
  f331 := Tryz.func152.trans (congrArg some (by kernel_rfl))
  f332 := Tryz.func153.trans (congrArg some (by kernel_rfl))
  f343 := Tryz.func166.trans (congrArg some (by kernel_rfl))
  t0 := Tryz.underlying0
  a0 := Tryz.isAgg0
  z0 := Tryz.sizeOf0
  v0 := Tryz.zeroValue0
  t3 := Tryz.underlying3
  a3 := Tryz.isAgg3
  z3 := Tryz.sizeOf3
  v3 := Tryz.zeroValue3
  t4 := Tryz.underlying4
  a4 := Tryz.isAgg4
  z4 := Tryz.sizeOf4
  v4 := Tryz.zeroValue4
  t5 := Tryz.underlying5
  a5 := Tryz.isAgg5
  z5 := Tryz.sizeOf5
  v5 := Tryz.zeroValue5
  t9 := Tryz.underlying9
  a9 := Tryz.isAgg9
  z9 := Tryz.sizeOf9
  v9 := Tryz.zeroValue9
  t28 := Tryz.underlying22
  a28 := Tryz.isAgg22
  z28 := Tryz.sizeOf22
  v28 := Tryz.zeroValue22
  t46 := Tryz.underlying124
  a46 := Tryz.isAgg124
  z46 := Tryz.sizeOf124
  v46 := Tryz.zeroValue124
  t51 := Tryz.underlying143
  a51 := Tryz.isAgg143
  z51 := Tryz.sizeOf143
  v51 := Tryz.zeroValue143
  t53 := Tryz.underlying115
  a53 := Tryz.isAgg115
  z53 := Tryz.sizeOf115
  v53 := Tryz.zeroValue115
  t131 := Tryz.underlying78
  a131 := Tryz.isAgg78
  z131 := Tryz.sizeOf78
  v131 := Tryz.zeroValue78
  t182 := Tryz.underlying136
  a182 := Tryz.isAgg136
  z182 := Tryz.sizeOf136
  v182 := Tryz.zeroValue136
  t183 := Tryz.underlying137
  a183 := Tryz.isAgg137
  z183 := Tryz.sizeOf137
  v183 := Tryz.zeroValue137
  t218 := Tryz.underlying159
  a218 := Tryz.isAgg159
  z218 := Tryz.sizeOf159
  v218 := Tryz.zeroValue159
  t222 := Tryz.underlying163
  a222 := Tryz.isAgg163
  z222 := Tryz.sizeOf163
  v222 := Tryz.zeroValue163
  t228 := Tryz.underlying179
  a228 := Tryz.isAgg179
  z228 := Tryz.sizeOf179
  v228 := Tryz.zeroValue179
  t229 := Tryz.underlying113
  a229 := Tryz.isAgg113
  z229 := Tryz.sizeOf113
  v229 := Tryz.zeroValue113 }
open Go.Sort Go.RowKit in
theorem slices_Sort_int (blk off cap : Nat) (zs : List Int) (w : World) (hH : Holds (Value.int .i64) w blk off zs.toArray) (hblk : blk < w.heap.size) (hsz : zs.length < 4611686018427387904) :
    Calls Tryz.prog 82 #[.slice (some ⟨blk, off, none⟩) zs.length cap] w fun e w' =>
      e = .returned (.tuple #[]) ∧ ∃ n os, w' = grow (putRow (Value.int .i64) (Sort.ahead w n) blk off (zs.mergeSort fun x y => decide (x ≤ y)).toArray) os := Any.slices_Sort_int lays189 blk off cap zs w hH hblk hsz
def laysNm220_ren : Go.Shelf.Ren := ⟨fun | 20 => 83 | n => n, fun | 22 => 22 | 3 => 3 | 4 => 4 | 0 => 0 | n => n, fun | n => n⟩
theorem laysNm220 : Go.Proofs.Lays2.n20 Tryz.prog laysNm220_ren := {
  mixed := by kernel_rfl
  f20 := Tryz.func83.trans (congrArg some (by kernel_rfl))
  t0 := Tryz.underlying0
  a0 := Tryz.isAgg0
  z0 := Tryz.sizeOf0
  v0 := Tryz.zeroValue0
  t3 := Tryz.underlying3
  a3 := Tryz.isAgg3
  z3 := Tryz.sizeOf3
  v3 := Tryz.zeroValue3
  t4 := Tryz.underlying4
  a4 := Tryz.isAgg4
  z4 := Tryz.sizeOf4
  v4 := Tryz.zeroValue4
  t22 := Tryz.underlying22
  a22 := Tryz.isAgg22
  z22 := Tryz.sizeOf22
  v22 := Tryz.zeroValue22
  i3 := by kernel_rfl }
open Go.RowKit Go.Lib Go.Sort in
theorem slices_Compact_int (blk off cap : Nat) (zs : List Int) (w : World) (hH : Holds (Value.int .i64) w blk off zs.toArray) (hsz : zs.length ≤ 9223372036854775807) (hcap : zs.length ≤ cap) :
    Calls Tryz.prog 83 #[.slice (some ⟨blk, off, none⟩) zs.length cap] w fun e w' => e = .returned (.slice (some ⟨blk, off, none⟩) (Lib.compact zs).length cap) ∧ ∃ q, w' = putRow (Value.int .i64) (Sort.ahead w q) blk off (Lib.compact zs ++ List.replicate (zs.length - (Lib.compact zs).length) 0).toArray := Any.slices_Compact_int laysNm220 blk off cap zs w hH hsz hcap
open Go.RowKit Go.Lib Go.Sort in
theorem slices_Compact_int_empty (a : Option Addr) (cap : Nat) (w : World) :
    Calls Tryz.prog 83 #[.slice a 0 cap] w fun e w' => e = .returned (.slice a 0 cap) ∧ w' = w := Any.slices_Compact_int_empty laysNm220 a cap w
open Go.RowKit Go.Sort in
theorem slices_Sort_int_none (p : Option Addr) (cap : Nat) (w : World) :
    Calls Tryz.prog 82 #[.slice p 0 cap] w fun e w' => e = .returned (.tuple #[]) ∧ w' = w := Any.slices_Sort_int_none lays189 p cap w
end Go.Proofs.YtkjpmkopnkkbmaaGreatDoor

/- A recording's steps are steps of the machine. No program in sight. -/
set_option maxRecDepth 100000
namespace Go.Proofs.YtkjpmkopnkkbmaaGreatDoor
open Go.RowKit

end Go.Proofs.YtkjpmkopnkkbmaaGreatDoor

/- A cell that no recorded step looked at does not matter. No program in sight. -/
set_option maxRecDepth 100000
namespace Go.Proofs.YtkjpmkopnkkbmaaGreatDoor
open Go.RowKit

/-- Two memories that differ at most in the cell a. -/
def Agr (a : Nat) (m m' : List Int) : Prop := m.length = m'.length ∧ ∀ n : Nat, n ≠ a → m.getD n 0 = m'.getD n 0
theorem Agr.get {a : Nat} {m m' : List Int} (h : Agr a m m') {i : Int} (hi : i.toNat ≠ a) : getI m' i = getI m i := (h.2 _ hi).symm
theorem agr_set (m : List Int) (a : Nat) (v : Int) : Agr a m (m.set a v) := by
  refine ⟨by simp, fun n hn => ?_⟩
  simp only [List.getD_eq_getElem?_getD, List.getElem?_set_ne (Ne.symm hn)]
theorem Agr.put {a : Nat} {m m' : List Int} (h : Agr a m m') (i : Nat) (v : Int) : Agr a (m.set i v) (m'.set i v) := by
  refine ⟨by simp [h.1], fun n hn => ?_⟩
  have e := h.2 n hn
  simp only [List.getD_eq_getElem?_getD, List.getElem?_set, h.1] at e ⊢
  by_cases hin : i = n
  · simp only [hin, if_true]
  · simp only [hin, if_false]; exact e
/-- A machine with another memory. -/
def wm (s : StV) (m : List Int) : StV := { s with mem := m }
def RsDf (a : Nat) (r r' : Rs) : Prop := match r with
  | .ok s => ∃ m, r' = .ok (wm s m) ∧ Agr a s.mem m
  | .bad c th => r' = .bad c th
theorem mLoopR_mem (s : StV) (i l n a : Int) (e : Bool) : (mLoopR s i l n a e).mem = s.mem ∧ ∀ m, mLoopR (wm s m) i l n a e = wm (mLoopR s i l n a e) m := by
  unfold mLoopR; cases e <;> exact ⟨rfl, fun _ => rfl⟩
theorem mDo_df {a : Nat} {s : StV} {m : List Int} (h : Agr a s.mem m) {c arg was : Int} (h30 : c ≠ 30) (h32 : c ≠ 32) : RsDf a (mDo s c arg was) (mDo (wm s m) c arg was) := by
  unfold mDo
  by_cases h0 : c = 0
  · rw [if_pos h0, if_pos h0]; exact ⟨m, rfl, h⟩
  rw [if_neg h0, if_neg h0]
  by_cases h2 : c = 2
  · rw [if_pos h2, if_pos h2]; exact ⟨m, rfl, h⟩
  rw [if_neg h2, if_neg h2]
  by_cases h4 : c = 4
  · rw [if_pos h4, if_pos h4]
    show RsDf a (if topV s ≠ 0 then _ else _) (if topV s ≠ 0 then _ else _)
    split <;> exact ⟨m, rfl, h⟩
  rw [if_neg h4, if_neg h4]
  by_cases h3 : c = 3
  · rw [if_pos h3, if_pos h3]; exact ⟨m, rfl, h⟩
  rw [if_neg h3, if_neg h3]
  by_cases h5 : c = 5
  · rw [if_pos h5, if_pos h5]; exact ⟨m, rfl, h⟩
  rw [if_neg h5, if_neg h5]
  by_cases h6 : 6 ≤ c ∧ c ≤ 10
  · rw [if_pos h6, if_pos h6]
    unfold mShuf
    split
    · exact ⟨m, rfl, h⟩
    split
    · exact ⟨m, rfl, h⟩
    split
    · exact ⟨m, rfl, h⟩
    split
    · exact ⟨m, rfl, h⟩
    · exact ⟨m, rfl, h⟩
  rw [if_neg h6, if_neg h6]
  by_cases h7 : 30 ≤ c ∧ c ≤ 32
  · rw [if_pos h7, if_pos h7]
    have h31 : c = 31 := by omega
    unfold mMem
    show RsDf a (if topV s < 0 ∨ (s.mem.length : Int) ≤ topV s then _ else _) (if topV s < 0 ∨ (m.length : Int) ≤ topV s then _ else _)
    rw [← h.1]
    split
    · rfl
    exact ⟨m.set (topV s).toNat (wr (0 + topV (popV s))), rfl, h.put _ _⟩
  rw [if_neg h7, if_neg h7]
  by_cases h8 : (33 ≤ c ∧ c ≤ 36) ∨ c = 39 ∨ c = 40
  · rw [if_pos h8, if_pos h8]
    unfold mBacks
    split
    · exact ⟨m, rfl, h⟩
    split
    · exact ⟨m, rfl, h⟩
    split
    · exact ⟨m, rfl, h⟩
    split
    · exact ⟨m, rfl, h⟩
    split
    · exact ⟨m, rfl, h⟩
    · exact ⟨m, rfl, h⟩
  rw [if_neg h8, if_neg h8]
  by_cases h9 : c = 37 ∨ c = 38
  · rw [if_pos h9, if_pos h9]
    unfold mLoop
    split
    · have := mLoopR_mem (popV (popB (popB s))) (topB s) (topB (popB s)) (topV s) arg (Cn.crosses (wr (topB s - topB (popB s))) (topV s))
      exact ⟨m, congrArg Rs.ok (this.2 m), by rw [this.1]; exact h⟩
    · have := mLoopR_mem (popB (popB s)) (topB s) (topB (popB s)) 1 arg (decide (wr (topB s + 1) = topB (popB s)))
      exact ⟨m, congrArg Rs.ok (this.2 m), by rw [this.1]; exact h⟩
  rw [if_neg h9, if_neg h9]
  by_cases h10 : c = 41 ∨ c = 42
  · rw [if_pos h10, if_pos h10]
    unfold mSay
    show RsDf a (if 2000 < (s.out.size : Int) + (mText c (topV s)).size then _ else _) (if 2000 < (s.out.size : Int) + (mText c (topV s)).size then _ else _)
    split
    · rfl
    · exact ⟨m, rfl, h⟩
  rw [if_neg h10, if_neg h10]
  by_cases h11 : c = 43
  · rw [if_pos h11, if_pos h11]
    unfold mKey
    show RsDf a (.ok (if (s.inp.size : Int) ≤ s.read then _ else _)) (.ok (if (s.inp.size : Int) ≤ s.read then _ else _))
    split <;> exact ⟨m, rfl, h⟩
  rw [if_neg h11, if_neg h11]
  by_cases h12 : (44 ≤ c ∧ c ≤ 46) ∨ c = 1
  · rw [if_pos h12, if_pos h12]
    unfold mFlow
    split
    · show RsDf a (if topV s < 64 ∨ (s.mem.length : Int) ≤ topV s then _ else _) (if topV s < 64 ∨ (m.length : Int) ≤ topV s then _ else _)
      rw [← h.1]
      split
      · rfl
      · exact ⟨m, rfl, h⟩
    split
    · show RsDf a (if topV s = 0 then _ else _) (if topV s = 0 then _ else _)
      split
      · exact ⟨m, rfl, h⟩
      · rfl
    split
    · exact ⟨m, rfl, h⟩
    · unfold mEnd
      show RsDf a (if s.handler < 3 ∨ (s.back.length : Int) ≠ s.handler then _ else if 48 ≤ s.stack.length then _ else _) (if s.handler < 3 ∨ (s.back.length : Int) ≠ s.handler then _ else if 48 ≤ s.stack.length then _ else _)
      split
      · rfl
      split
      · rfl
      · exact ⟨m, rfl, h⟩
  rw [if_neg h12, if_neg h12]
  by_cases h13 : c = 47
  · rw [if_pos h13, if_pos h13]; exact ⟨m, rfl, h⟩
  rw [if_neg h13, if_neg h13]
  unfold mReck
  show RsDf a (if Cn.isOne c = true then _ else if Cn.isTwo c (topV s) = true then _ else _) (if Cn.isOne c = true then _ else if Cn.isTwo c (topV s) = true then _ else _)
  split
  · exact ⟨m, rfl, h⟩
  split
  · exact ⟨m, rfl, h⟩
  · rfl
theorem mStep_df {a : Nat} {s : StV} {m : List Int} (h : Agr a s.mem m) (h1 : s.ip.toNat ≠ a) (h2 : opArg (getI s.mem s.ip) = true → (s.ip + 1).toNat ≠ a) (h30 : getI s.mem s.ip ≠ 30) (h32 : getI s.mem s.ip ≠ 32) : RsDf a (mStep s) (mStep (wm s m)) := by
  have e := h.get h1
  unfold mStep
  show RsDf a (if s.ip < 0 ∨ (s.mem.length : Int) ≤ s.ip then _ else _) (if s.ip < 0 ∨ (m.length : Int) ≤ s.ip then Rs.bad (-9) false else
    if 64 ≤ getI m s.ip then (if 48 ≤ s.back.length then .bad (-5) false else .ok { backV (wm s m) [s.ip + 1] with ip := getI m s.ip }) else
    if ¬ (0 ≤ getI m s.ip ∧ getI m s.ip < 48) then .bad (-13) false else
    if opArg (getI m s.ip) = true ∧ (m.length : Int) ≤ s.ip + 1 then .bad (-9) false else
    if mRoom s (getI m s.ip) ≠ 0 then .bad (mRoom s (getI m s.ip)) false else
    mDo { wm s m with ip := mNext s (getI m s.ip) } (getI m s.ip) (mArg (wm s m) (getI m s.ip)) s.ip)
  rw [e, ← h.1]
  split
  · rfl
  split
  · split
    · rfl
    · exact ⟨m, rfl, h⟩
  split
  · rfl
  split
  · rfl
  split
  · rfl
  have ea : mArg (wm s m) (getI s.mem s.ip) = mArg s (getI s.mem s.ip) := by
    unfold mArg
    split
    · next ha => exact h.get (h2 ha)
    · rfl
  rw [ea]
  exact mDo_df (s := { s with ip := mNext s (getI s.mem s.ip) }) h h30 h32
theorem mFault_df {s : StV} (m : List Int) (c : Int) : mFault (wm s m) c = wm (mFault s c) m ∧ (mFault s c).mem = s.mem := by
  have e : mCaught (wm s m) = mCaught s := rfl
  unfold mFault
  rw [e]
  cases mCaught s <;> exact ⟨rfl, rfl⟩
theorem mAdv_df {a : Nat} {s : StV} {m : List Int} (h : Agr a s.mem m) (h1 : s.ip.toNat ≠ a) (h2 : opArg (getI s.mem s.ip) = true → (s.ip + 1).toNat ≠ a) (h30 : getI s.mem s.ip ≠ 30) (h32 : getI s.mem s.ip ≠ 32) : ∃ m', mAdv (wm s m) = wm (mAdv s) m' ∧ Agr a (mAdv s).mem m' := by
  have g := mStep_df h h1 h2 h30 h32
  unfold mAdv
  cases hs : mStep s with
  | ok s' =>
    rw [hs] at g
    obtain ⟨m', g1, g2⟩ := g
    rw [g1]
    exact ⟨m', rfl, g2⟩
  | bad c th =>
    rw [hs] at g
    have g : mStep (wm s m) = .bad c th := g
    rw [g]
    cases th with
    | true =>
      have := mFault_df (s := popV s) m c
      exact ⟨m, this.1, by show Agr a (mFault (popV s) c).mem m; rw [this.2]; exact h⟩
    | false =>
      have := mFault_df (s := s) m c
      exact ⟨m, this.1, by show Agr a (mFault s c).mem m; rw [this.2]; exact h⟩
theorem stepV_go {s : StV} (h : s.status = 0) : stepV s = mAdv s := by
  unfold stepV
  rw [runM_go h (by decide), runM_stop (Or.inr (by decide))]
/-- The cells that a step looked at. -/
def plsX (x : SnV) : List Int := x.ip :: (if arB x.cell = true then [x.ip + 1] else [])
def plsL : List SnV → List Int
  | [] => []
  | x :: r => plsX x ++ plsL r
theorem nextV_df {a : Nat} {s t : StV} {m : List Int} {x : SnV} (h : Agr a s.mem m) (hn : nextV s = some (x, t)) (ha : ((a : Nat) : Int) ∉ plsX x) (h30 : x.cell ≠ 30) (h32 : x.cell ≠ 32) : ∃ m', nextV (wm s m) = some (x, wm t m') ∧ Agr a t.mem m' := by
  have ru := nextV_run hn
  obtain ⟨r0, r1, r2, r3, r4, r5, r6, r7, r8, r9, r10⟩ := ru
  have n1 : s.ip.toNat ≠ a := fun he => ha (by unfold plsX; rw [r3]; exact List.mem_cons.2 (Or.inl (by omega)))
  have n2 : arB (getI s.mem s.ip) = true → (s.ip + 1).toNat ≠ a := fun hx he => ha (by
    unfold plsX
    rw [r7, if_pos hx, r3]
    exact List.mem_cons.2 (Or.inr (List.mem_cons.2 (Or.inl (by omega)))))
  have n3 : opArg (getI s.mem s.ip) = true → (s.ip + 1).toNat ≠ a := fun hx => n2 (by
    unfold arB
    have : getI s.mem s.ip < 64 := by
      unfold opArg at hx
      have hx := of_decide_eq_true hx
      omega
    rw [decide_eq_true this, hx]; rfl)
  rw [r7] at h30 h32
  have e := h.get n1
  obtain ⟨m', g1, g2⟩ := mAdv_df h n1 n3 h30 h32
  obtain ⟨m0, g3, _⟩ := mAdv_df (s := { s with handler := 0 }) (m := m) h n1 n3 h30 h32
  have e1 : stepV (wm s m) = wm (stepV s) m' := by rw [stepV_go r0, stepV_go (s := wm s m) r0]; exact g1
  have e2 : (stepV { wm s m with handler := 0 }).status = (stepV { s with handler := 0 }).status := by
    rw [stepV_go (s := { s with handler := 0 }) r0, stepV_go (s := { wm s m with handler := 0 }) r0]
    have := congrArg StV.status g3
    exact this
  refine ⟨m', ?_, by rw [r2]; exact g2⟩
  unfold nextV at hn
  split at hn
  · cases hn
  next k1 =>
  split at hn
  · cases hn
  next k2 =>
  split at hn
  · cases hn
  next k3 =>
  injection hn with hn
  injection hn with hx ht
  unfold nextV
  show (if s.ip < 0 ∨ (m.length : Int) ≤ s.ip ∨ s.status ≠ 0 ∨ plB (getI m s.ip) = false then none else
    if (stepV { wm s m with handler := 0 }).status = 2 then none else
    if placeB (stepV (wm s m)).ip = false then none else
    some ((⟨s.ip, getI m s.ip, if arB (getI m s.ip) = true then getI m (s.ip + 1) else 0, (stepV (wm s m)).ip⟩ : SnV), stepV (wm s m))) = _
  have e3 : (if arB (getI s.mem s.ip) = true then getI m (s.ip + 1) else 0) = (if arB (getI s.mem s.ip) = true then getI s.mem (s.ip + 1) else 0) := by
    split
    · next hx => exact h.get (n2 hx)
    · rfl
  rw [e, ← h.1, if_neg k1, e2, if_neg k2, e1, e3]
  show (if placeB (stepV s).ip = false then none else _) = _
  rw [if_neg k3, ← hx, ← ht]
  rfl
theorem recL_df {a : Nat} (start : Int) : ∀ (n : Nat) (s : StV) (l : List SnV) (m : List Int), Agr a s.mem m → ∃ r, (recL start n s l).steps = l ++ r ∧ (((a : Nat) : Int) ∉ plsL r → (∀ x ∈ r, x.cell ≠ 30 ∧ x.cell ≠ 32) → (recL start r.length (wm s m) l).steps = l ++ r)
  | 0, s, l, m, _ => ⟨[], by show l = _; simp, fun _ _ => by show l = _; simp⟩
  | n + 1, s, l, m, h => by
    by_cases hl : lpB start s l = true
    · refine ⟨[], ?_, fun _ _ => by show l = _; simp⟩
      unfold recL; rw [if_pos hl]; simp
    cases hn : nextV s with
    | none =>
      refine ⟨[], ?_, fun _ _ => by show l = _; simp⟩
      unfold recL; rw [if_neg hl, hn]; simp
    | some p =>
      obtain ⟨x, t⟩ := p
      have e1 : (recL start (n + 1) s l).steps = (recL start n t (l ++ [x])).steps := by
        unfold recL; rw [if_neg hl, hn]; cases n <;> rfl
      rw [e1]
      obtain ⟨r0, hr0⟩ := recL_pre start n t (l ++ [x])
      by_cases hc : ((a : Nat) : Int) ∉ plsX x ∧ x.cell ≠ 30 ∧ x.cell ≠ 32
      · obtain ⟨m', g1, g2⟩ := nextV_df h hn hc.1 hc.2.1 hc.2.2
        obtain ⟨r, h1, h2⟩ := recL_df start n t (l ++ [x]) m' g2
        refine ⟨x :: r, by rw [h1]; simp, fun ha hcl => ?_⟩
        have h3 := h2 (fun hm => ha (List.mem_append.2 (Or.inr hm))) (fun y hy => hcl y (List.mem_cons.2 (Or.inr hy)))
        have e2 : (recL start (r.length + 1) (wm s m) l).steps = (recL start r.length (wm t m') (l ++ [x])).steps := by
          have hl' : ¬ lpB start (wm s m) l = true := hl
          show (if lpB start (wm s m) l = true then _ else match nextV (wm s m) with
            | none => _
            | some (x, t) => recL start r.length t (l ++ [x]) : RcV).steps = _
          rw [if_neg hl', g1]
        show (recL start (r.length + 1) (wm s m) l).steps = _
        rw [e2, h3]; simp
      · refine ⟨x :: r0, by rw [hr0]; simp, fun ha hcl => absurd ⟨fun hm => ha (List.mem_append.2 (Or.inl hm)), hcl x (List.mem_cons.2 (Or.inl rfl))⟩ hc⟩
theorem recV_df {a : Nat} {s : StV} {m : List Int} (h : Agr a s.mem m) {most : Int} (ha : ((a : Nat) : Int) ∉ plsL (recV s most).steps) (hc : ∀ x ∈ (recV s most).steps, x.cell ≠ 30 ∧ x.cell ≠ 32) : (recV (wm s m) ((recV s most).steps.length : Int)).steps = (recV s most).steps := by
  obtain ⟨r, h1, h2⟩ := recL_df s.ip (mostN most) s [] m h
  have e : (recV s most).steps = r := by rw [show (recV s most) = recL s.ip (mostN most) s [] from rfl, h1]; simp
  have hle : (recV s most).steps.length ≤ 120 := by
    have h3 := (recL_len s.ip (mostN most) s []).2
    have h4 := (mostN_le most).1
    have h5 : (recV s most).steps.length = (recL s.ip (mostN most) s []).steps.length := rfl
    simp at h3; omega
  rw [e] at ha hc hle ⊢
  have e2 : mostN (r.length : Int) = r.length := by unfold mostN imin imax; split <;> split <;> omega
  have := h2 ha hc
  show (recL s.ip (mostN (r.length : Int)) (wm s m) []).steps = r
  rw [e2, this]; simp
/-- Steps of a recording stand at places. -/
theorem recL_place (start : Int) : ∀ (n : Nat) (s : StV) (l : List SnV), MOk s → (∀ x ∈ l, (0 ≤ x.ip ∧ x.ip < 3000)) → ∀ x ∈ (recL start n s l).steps, 0 ≤ x.ip ∧ x.ip < 3000
  | 0, s, l, _, h => h
  | n + 1, s, l, hm, h => by
    unfold recL
    split
    · exact h
    cases hn : nextV s with
    | none => exact h
    | some p =>
      obtain ⟨x, t⟩ := p
      obtain ⟨r0, r1, r2, r3, r4, r5, r6, _⟩ := nextV_run hn
      have k3 := hm.me
      refine recL_place start n t (l ++ [x]) (by rw [r2]; exact mok_adv hm) fun y hy => ?_
      rcases List.mem_append.1 hy with hy | hy
      · exact h y hy
      · rw [List.mem_singleton.1 hy, r3]; omega
theorem recV_place {s : StV} (hm : MOk s) (most : Int) : ∀ x ∈ (recV s most).steps, 0 ≤ x.ip ∧ x.ip < 3000 := recL_place s.ip _ s [] hm fun _ h => by cases h
end Go.Proofs.YtkjpmkopnkkbmaaGreatDoor

/- Places that are sorted, each once. No program in sight. -/
set_option maxRecDepth 100000
namespace Go.Proofs.YtkjpmkopnkkbmaaGreatDoor
open Go.RowKit

theorem cUp (d : Array Int) (hs : ∀ i j, i ≤ j → j < d.size → d[i]! ≤ d[j]!) : ∀ m, m ≤ d.size → (Lib.compactUpTo d m).Pairwise (· < ·) ∧ ∀ x, x ∈ Lib.compactUpTo d m ↔ ∃ j, j < m ∧ d[j]! = x
  | 0, _ => ⟨List.Pairwise.nil, fun x => ⟨(fun h => by cases h), fun ⟨j, h, _⟩ => by omega⟩⟩
  | m + 1, hm => by
    obtain ⟨h1, h2⟩ := cUp d hs m (by omega)
    rw [Lib.compactUpTo_succ]
    by_cases hk : Lib.keeps d m = true
    · rw [if_pos hk]
      have hk' : m = 0 ∨ d[m]! ≠ d[m - 1]! := of_decide_eq_true hk
      refine ⟨List.pairwise_append.2 ⟨h1, List.pairwise_singleton _ _, fun a ha b hb => ?_⟩, fun x => ?_⟩
      · rw [List.mem_singleton.1 hb]
        obtain ⟨j, hj, rfl⟩ := (h2 a).1 ha
        have p1 := hs j (m - 1) (by omega) (by omega)
        have p2 := hs (m - 1) m (by omega) (by omega)
        have p3 := hk'.resolve_left (by omega)
        omega
      · rw [List.mem_append, List.mem_singleton, h2]
        refine ⟨fun h => ?_, fun ⟨j, hj, e⟩ => ?_⟩
        · rcases h with ⟨j, hj, e⟩ | h
          · exact ⟨j, by omega, e⟩
          · exact ⟨m, by omega, h.symm⟩
        · by_cases hjm : j = m
          · subst hjm; exact Or.inr e.symm
          · exact Or.inl ⟨j, by omega, e⟩
    · rw [if_neg hk, List.append_nil]
      have hk' : ¬ (m = 0 ∨ d[m]! ≠ d[m - 1]!) := fun h => hk (decide_eq_true h)
      have hm0 : m ≠ 0 := fun h => hk' (Or.inl h)
      have he : d[m]! = d[m - 1]! := Classical.byContradiction fun h => hk' (Or.inr h)
      refine ⟨h1, fun x => ?_⟩
      rw [h2]
      refine ⟨fun ⟨j, hj, e⟩ => ⟨j, by omega, e⟩, fun ⟨j, hj, e⟩ => ?_⟩
      by_cases hjm : j = m
      · exact ⟨m - 1, by omega, by rw [← he, ← hjm]; exact e⟩
      · exact ⟨j, by omega, e⟩
/-- A list, sorted, each of its numbers once. -/
def sortI (zs : List Int) : List Int := zs.mergeSort fun x y => decide (x ≤ y)
def onceI (zs : List Int) : List Int := Lib.compact (sortI zs)
theorem sortI_len (zs : List Int) : (sortI zs).length = zs.length := List.length_mergeSort _
theorem sortI_le (zs : List Int) : (sortI zs).Pairwise (· ≤ ·) := by
  have h := List.pairwise_mergeSort (le := fun x y : Int => decide (x ≤ y)) (fun a b c h1 h2 => by
    have h1 := of_decide_eq_true h1
    have h2 := of_decide_eq_true h2
    exact decide_eq_true (by omega)) (fun a b => by
    by_cases h : a ≤ b
    · simp [h]
    · simp [show b ≤ a by omega]) zs
  exact h.imp fun h => of_decide_eq_true h
theorem onceI_ok (zs : List Int) : (onceI zs).Pairwise (· < ·) ∧ ∀ x, x ∈ onceI zs ↔ x ∈ zs := by
  have hp := sortI_le zs
  obtain ⟨l, hl⟩ : ∃ l, l = sortI zs := ⟨_, rfl⟩
  have hm : ∀ x, x ∈ l ↔ x ∈ zs := fun x => by rw [hl]; exact List.mem_mergeSort
  unfold onceI
  rw [← hl] at hp ⊢
  have hg : ∀ j, j < l.length → l.toArray[j]! = l[j]! := fun j hj => by simp
  have hs : ∀ i j, i ≤ j → j < l.toArray.size → l.toArray[i]! ≤ l.toArray[j]! := fun i j hij hj => by
    have hj : j < l.length := by simpa using hj
    rw [hg i (by omega), hg j hj, List.getElem!_eq_getElem?_getD, List.getElem!_eq_getElem?_getD, List.getElem?_eq_getElem (by omega), List.getElem?_eq_getElem hj]
    show l[i] ≤ l[j]
    rcases Nat.lt_or_ge i j with h | h
    · exact List.pairwise_iff_getElem.1 hp i j (by omega) hj h
    · have : i = j := by omega
      subst this; exact Int.le_refl _
  obtain ⟨h1, h2⟩ := cUp l.toArray hs l.length (by simp)
  refine ⟨h1, fun x => ?_⟩
  show x ∈ Lib.compactUpTo l.toArray l.length ↔ _
  rw [h2 x, ← hm x]
  refine ⟨fun ⟨j, hj, e⟩ => ?_, fun h => ?_⟩
  · rw [hg j hj, List.getElem!_eq_getElem?_getD, List.getElem?_eq_getElem hj] at e
    have e : l[j] = x := e
    rw [← e]; exact List.getElem_mem hj
  · obtain ⟨j, hj, e⟩ := List.getElem_of_mem h
    refine ⟨j, hj, ?_⟩
    rw [hg j hj, List.getElem!_eq_getElem?_getD, List.getElem?_eq_getElem hj]
    exact e
theorem plsL_app (l r : List SnV) : plsL (l ++ r) = plsL l ++ plsL r := by
  induction l with
  | nil => rfl
  | cons x l ih => show plsX x ++ plsL (l ++ r) = _; rw [ih]; show _ = (plsX x ++ plsL l) ++ plsL r; rw [List.append_assoc]
theorem plsL_len (l : List SnV) : (plsL l).length ≤ 2 * l.length := by
  induction l with
  | nil => exact Nat.le_refl _
  | cons x l ih =>
    show (plsX x ++ plsL l).length ≤ _
    rw [List.length_append, List.length_cons]
    have : (plsX x).length ≤ 2 := by unfold plsX; split <;> simp
    omega
theorem onceI_len (l : List Int) : (onceI l).length ≤ l.length := by
  have := Lib.compact_length_le (sortI l)
  rw [sortI_len] at this
  exact this
end Go.Proofs.YtkjpmkopnkkbmaaGreatDoor

/- slices.Sort and slices.Compact of a list of numbers that lies in a block of its own. -/
set_option maxRecDepth 100000
namespace Go.Proofs.YtkjpmkopnkkbmaaGreatDoor
open Go.RowKit

theorem flI (xs : List Int) : fl intE xs = xs.map (Value.int .i64) := by
  induction xs with
  | nil => rfl
  | cons x xs ih => rw [fl_cons, ih]; rfl
theorem ow_cases {w : World} {s : Sl} {xs : List Int} (h : Ow intE w s xs) : (xs = [] ∧ s = nilS) ∨ ∃ g cur, s.val = .slice (some ⟨g, 0, none⟩) xs.length s.cap ∧ w.heap[g]? = some (.cells cur T_int (0, 0)) ∧ xs.length ≤ s.cap ∧ s.cap ≤ maxLen ∧ cur.size = s.cap * 1 ∧ cur.toList.take xs.length = xs.map (Value.int .i64) := by
  obtain ⟨ptr, len, cap⟩ := s
  rcases h.2 with ⟨h1, h2⟩ | ⟨g, cap', cur, h1, _, h3, h4, h5, h6, h7⟩
  · have h1 : Value.slice ptr len cap = .slice none 0 0 := h1
    injection h1 with e1 e2 e3
    subst e1 e2 e3
    exact Or.inl ⟨List.eq_nil_of_length_eq_zero h2, rfl⟩
  · have h1 : Value.slice ptr len cap = .slice (some ⟨g, 0, none⟩) xs.length cap' := h1
    injection h1 with e1 e2 e3
    subst e1 e2 e3
    refine Or.inr ⟨g, cur, rfl, h3, h4, h5, h6, ?_⟩
    rw [flI] at h7
    have h7 : cur.toList.take (xs.length * 1) = _ := h7
    rw [Nat.mul_one] at h7; exact h7
theorem sort_any {w : World} {s : Sl} {xs : List Int} (h : Ow intE w s xs) (hl : xs.length ≤ 100000000) :
    Calls Tryz.prog fn_slices_Sort_sl_int_int #[s.val] w fun e w' => e = .returned (.tuple #[]) ∧ Ow intE w' s (sortI xs) ∧ Chg (fun k => s.blk = some k) w w' := by
  rcases ow_cases h with ⟨rfl, rfl⟩ | ⟨g, cur, hv, hb, h4, h5, h6, h7⟩
  · refine (slices_Sort_int_none none 0 w).mono ?_
    rintro e w' ⟨rfl, rfl⟩
    have e0 : sortI [] = [] := by simp [sortI]
    rw [e0]
    exact ⟨rfl, Ow.nil _ _, Chg.refl _ _⟩
  · have hg : g < w.heap.size := (Array.getElem?_eq_some_iff.1 hb).1
    rw [hv]
    refine (slices_Sort_int g 0 s.cap xs w (holds_of_blockI hb h7) hg (by omega)).mono ?_
    rintro e w' ⟨rfl, n, os, rfl⟩
    refine ⟨rfl, ?_, Chg.grown (grownBy_sortedI _) (fun k hk => ?_)⟩
    · have o := ownsRow_sortedI (base := 0) (n := n) (os := os) (ts := sortI xs) (ss := xs) (sortI_len xs) (Nat.zero_le _) hb h4 h5 h6
      show World.ownsRow _ 0 T_int 1 s.val (sortI xs).length (fl intE (sortI xs))
      rw [flI, hv, sortI_len]; exact o
    · unfold Sl.blk; rw [hv]; exact hk
theorem compact_any {w : World} {s : Sl} {xs : List Int} (h : Ow intE w s xs) (hl : xs.length ≤ 100000000) :
    Calls Tryz.prog fn_slices_Compact_sl_int_int #[s.val] w fun e w' => ∃ s' : Sl, e = .returned s'.val ∧ Ow intE w' s' (Lib.compact xs) ∧ s'.blk = s.blk ∧ Chg (fun k => s.blk = some k) w w' := by
  rcases ow_cases h with ⟨rfl, rfl⟩ | ⟨g, cur, hv, hb, h4, h5, h6, h7⟩
  · refine (slices_Compact_int_empty none 0 w).mono ?_
    rintro e w' ⟨rfl, rfl⟩
    exact ⟨nilS, rfl, Ow.nil _ _, rfl, Chg.refl _ _⟩
  · have hc := Lib.compact_length_le xs
    obtain ⟨ys, hys⟩ : ∃ ys, ys = Lib.compact xs ++ List.replicate (xs.length - (Lib.compact xs).length) 0 := ⟨_, rfl⟩
    have hyl : ys.length = xs.length := by rw [hys]; simp; omega
    rw [hv]
    refine (slices_Compact_int g 0 s.cap xs w (holds_of_blockI hb h7) (by omega) h4).mono ?_
    rintro e w' ⟨rfl, q, rfl⟩
    rw [← hys, ← Sort.grow_empty (Sort.putRow (Value.int .i64) (Sort.ahead w q) g 0 ys.toArray)]
    have o := ownsRow_sortedI (base := 0) (n := q) (os := #[]) (ts := ys) (ss := xs) hyl (Nat.zero_le _) hb h4 h5 h6
    have o' : Ow intE (Sort.grow (Sort.putRow (Value.int .i64) (Sort.ahead w q) g 0 ys.toArray) #[]) ⟨some ⟨g, 0, none⟩, xs.length, s.cap⟩ ys := by
      show World.ownsRow _ 0 T_int 1 _ ys.length (fl intE ys)
      rw [flI, hyl]; exact o
    refine ⟨⟨some ⟨g, 0, none⟩, (Lib.compact xs).length, s.cap⟩, rfl, ?_, ?_, Chg.grown (grownBy_sortedI _) (fun k hk => ?_)⟩
    · have := o'.take (n := (Lib.compact xs).length) (by omega)
      rw [hys, List.take_left] at this
      rw [hys]; exact this
    · show some g = s.blk
      unfold Sl.blk; rw [hv]; rfl
    · unfold Sl.blk; rw [hv]; exact hk
end Go.Proofs.YtkjpmkopnkkbmaaGreatDoor

/- hollowayref1's Op, Arg and Plain. -/
set_option maxRecDepth 100000
namespace Go.Proofs.YtkjpmkopnkkbmaaGreatDoor
open Go.RowKit

end Go.Proofs.YtkjpmkopnkkbmaaGreatDoor

/- The cells of code that a recording looked at: record.Cells, and the document's. -/
set_option maxRecDepth 100000
namespace Go.Proofs.YtkjpmkopnkkbmaaGreatDoor
open Go.RowKit

/-- append(l, x), at a list in a block of its own. -/
theorem app1y {w w2 : World} {l : Sl} {b : Nat} {xs : List Int} {x : Int} (hb : b = w.heap.size) (hw : w2 = World.alloc w (.cells #[.int .i64 x] T_int)) (h : Ow intE w l xs) (hl : xs.length ≤ 10000000) {G : Sl → World → Prop}
    (k : ∀ (s' : Sl) (w' : World), Ow intE w' s' (xs ++ [x]) → Chg (fun k => l.blk = some k) w w' → (∀ k, s'.blk = some k → l.blk = some k ∨ w.heap.size ≤ k) → G s' w') :
    ∃ s' : Sl, ∃ w' : World, (Builtin.append_ #[T_sl_int, T_sl_int] T_sl_int #[l.val, .slice (some ⟨b, 0, none⟩) 1 1]).run Tryz.prog w2 = .ok s'.val w' ∧ G s' w' := by
  have h1 : Ow intE w2 ⟨some ⟨b, 0, none⟩, 1, 1⟩ [x] := by
    rw [hw, hb]; exact Ow.lit (E := intE) w [x] [.int .i64 x] rfl (by show 1 ≤ maxLen; unfold maxLen; omega)
  have h2 : Chg No w w2 := al hw
  have z2 := h2.size
  refine app_ok intOk (s := l) (t := ⟨some ⟨b, 0, none⟩, 1, 1⟩) rfl rfl (h.no h2) h1.rd (by show (xs.length + 1) * 8 ≤ _; omega) (by show xs.length + 1 ≤ _; unfold maxLen; omega) ?_
  intro s' w' h' c hbk
  refine k s' w' h' (h2.trans c (fun _ _ h => h.elim) (fun _ _ h => h)) (fun j hj => ?_)
  rcases hbk with hh | hh
  · exact Or.inl (hh ▸ hj)
  · have := Option.some.inj (hh.symm.trans hj)
    exact Or.inr (by omega)
theorem take_pls {xs : List SnV} {j : Nat} {x : SnV} (hx : xs[j]? = some x) : plsL (xs.take (j + 1)) = plsL (xs.take j) ++ plsX x := by
  have hj : j < xs.length := (List.getElem?_eq_some_iff.1 hx).1
  have e : xs.take (j + 1) = xs.take j ++ [x] := by
    rw [List.take_succ_eq_append_getElem hj, (List.getElem?_eq_some_iff.1 hx).2]
  rw [e, plsL_app]
  show _ ++ (plsX x ++ []) = _
  rw [List.append_nil]
theorem cells_rc {w : World} (R : RcC) {xs : List SnV} (hst : Rd seE w R.steps xs) (hin : ∀ x ∈ xs, 0 ≤ x.ip ∧ x.ip < 3000) (hl : xs.length ≤ 1000) :
    Calls Tryz.prog fn_record_Cells #[.agg (rcC R).toArray] w fun e w' => ∃ s : Sl, e = .returned s.val ∧ Ow intE w' s (onceI (plsL xs)) ∧ Chg No w w' ∧ (∀ k, s.blk = some k → w.heap.size ≤ k) := by
  refine (record_Cells_lift (K := fun v w' => ∃ s : Sl, v = s.val ∧ Ow intE w' s (onceI (plsL xs)) ∧ Chg No w w' ∧ (∀ k, s.blk = some k → w.heap.size ≤ k)) ?_).mono (by rintro e w' ⟨v, rfl, s, rfl, h⟩; exact ⟨s, rfl, h⟩)
  unfold record_Cells_sh
  have hlen := hst.len
  refine inRc R fun b5 w6 hb5 z6 o6 c6 => ⟨R.steps, o6.cell rfl, ?_⟩
  refine ⟨fun out n w' => ∃ j : Nat, n = j ∧ j ≤ xs.length ∧ Ow intE w' out (plsL (xs.take j)) ∧ (∀ k, out.blk = some k → w6.heap.size ≤ k) ∧ Chg No w6 w', fun _ n _ => xs.length - n.toNat, ⟨0, rfl, Nat.zero_le _, Ow.nil _ _, (fun k hk => by cases hk), Chg.refl _ _⟩, ?_⟩
  rintro out n w8 ⟨j, rfl, hj, hout, hnew, c8⟩
  have hpl := plsL_len (xs.take j)
  have hpl2 : (xs.take j).length ≤ 1000 := by rw [List.length_take]; omega
  refine brB_of (fun hlt => ?_) (fun hge => ?_)
  · have hlt : j < xs.length := by have := of_decide_eq_true hlt; omega
    obtain ⟨x, hx⟩ : ∃ x, xs[j]? = some x := ⟨_, List.getElem?_eq_getElem hlt⟩
    have hxin := hin x (List.mem_of_getElem? hx)
    have htk := take_pls hx
    refine ⟨fun out' w' => Ow intE w' out' (plsL (xs.take j) ++ plsX x) ∧ (∀ k, out'.blk = some k → w6.heap.size ≤ k) ∧ Chg No w6 w', ?_, ?_⟩
    · rintro out' w33 ⟨h1, h2, h3⟩
      rw [wr_in (by omega)]
      exact ⟨⟨j + 1, by omega, by omega, by rw [htk]; exact h1, h2, h3⟩, by show xs.length - Int.toNat ((j : Int) + 1) < xs.length - Int.toNat (j : Int); omega⟩
    refine (hst.no (trN c6 c8)).ix (i := (j : Int)) (by omega) (by rw [Int.toNat_natCast]; exact hx) fun ad _ hcell => ?_
    have q0 := hcell 0 _ rfl
    rw [add0] at q0
    refine ⟨x.ip, x.cell, x.arg, x.next, q0, hcell 1 _ rfl, hcell 2 _ rfl, hcell 3 _ rfl, varSn x fun b15 w17 hb15 z15 o17 c17 => ⟨x.ip, o17.cell rfl, ?_⟩⟩
    intro b20 w21 hb20 hw21
    have l17 := o17.lt
    have lout : ∀ k, out.blk = some k → k < w8.heap.size := fun k hk => hout.lt hk
    refine app1y hb20 hw21 (hout.no c17) (by omega) ?_
    intro s22 w23 h22 c23 b22
    have z23 := c23.size
    have z17 := c17.size
    have z8 := c8.size
    have o23 := o17.chg c23 (fun he => by have := lout _ he; omega)
    have k23 : Chg No w6 w23 := (trN c8 c17).trans c23 (fun _ _ h => h) (fun k hk he => by have := hnew k he; omega)
    have n22 : ∀ k, s22.blk = some k → w6.heap.size ≤ k := fun k hk => by
      rcases b22 k hk with e | e
      · exact hnew k e
      · omega
    refine ⟨x.cell, o23.cell rfl, (arg_rc _ w23).mono ?_⟩
    rintro e w26 ⟨rfl, rfl⟩
    refine ⟨_, rfl, brB_of (fun ha => ⟨x.ip, o23.cell rfl, ?_⟩) (fun ha => ?_)⟩
    · intro b29 w30 hb29 hw30
      refine app1y hb29 hw30 h22 (by rw [List.length_append, List.length_singleton]; omega) ?_
      intro s31 w32 h31 c32 b31
      rw [wr_in (by omega)] at h31
      refine ⟨?_, fun k hk => ?_, k23.trans c32 (fun _ _ h => h) (fun k hk he => by have := n22 k he; omega)⟩
      · unfold plsX
        rw [if_pos ha]
        rw [List.append_assoc] at h31
        exact h31
      · rcases b31 k hk with e | e
        · exact n22 k e
        · have := k23.size; omega
    · refine ⟨?_, n22, k23⟩
      unfold plsX
      rw [if_neg (by rw [ha]; decide)]
      exact h22
  · have hge : j = xs.length := by have := of_decide_eq_false hge; omega
    subst hge
    rw [List.take_length] at hout hpl
    refine (sort_any hout (by omega)).mono ?_
    rintro e w35 ⟨rfl, h35, c35⟩
    refine ⟨rfl, ?_⟩
    refine (compact_any h35 (by rw [sortI_len]; omega)).mono ?_
    rintro e w37 ⟨s', rfl, h37, b37, c37⟩
    refine ⟨s', rfl, s', rfl, h37, (((trN c6 c8).trans c35 (fun _ _ h => h) (fun k hk he => ?_)).trans c37 (fun _ _ h => h) (fun k hk he => ?_)), fun k hk => ?_⟩
    · have := hnew k he; omega
    · have := hnew k he; omega
    · rw [b37] at hk
      have := hnew k hk; omega
/-! ### The document's -/
end Go.Proofs.YtkjpmkopnkkbmaaGreatDoor

/- The document's own machine in memory: the state that was, the answer's, and the working one; what is pushed, cut and set. -/
set_option maxRecDepth 100000
namespace Go.Proofs.YtkjpmkopnkkbmaaGreatDoor
open Go.RowKit

structure RM (w0 w : World) (a z m : Nat) (S0 S : StC) (s : StV) : Prop where
  c : Chg No w0 w
  za : w0.heap.size ≤ a
  zz : w0.heap.size ≤ z
  zm : w0.heap.size ≤ m
  naz : a ≠ z
  nam : a ≠ m
  nzm : z ≠ m
  oa : Ob w a (stC S0) T_api_State
  oz : Ob w z (stC st0) T_api_State
  om : Ob w m (stC S) T_api_State
  x : StX (fun k => w0.heap.size ≤ k ∧ k ≠ a ∧ k ≠ z ∧ k ≠ m) w S s
section
variable {w0 w : World} {a z m : Nat} {S0 S : StC} {s : StV}
theorem RM.up {X : Nat → Prop} {w' : World} {S' : StC} {s' : StV} (h : RM w0 w a z m S0 S s) (c : Chg X w w') (hX : ∀ k, X k → w0.heap.size ≤ k ∧ k ≠ a ∧ k ≠ z) (om : Ob w' m (stC S') T_api_State)
    (x : StX (fun k => w0.heap.size ≤ k ∧ k ≠ a ∧ k ≠ z ∧ k ≠ m) w' S' s') : RM w0 w' a z m S0 S' s' :=
  ⟨h.c.trans c (fun _ _ h => h) (fun k hk hx => by have := (hX k hx).1; omega), h.za, h.zz, h.zm, h.naz, h.nam, h.nzm, h.oa.chg c (fun hx => (hX a hx).2.1 rfl), h.oz.chg c (fun hx => (hX z hx).2.2 rfl), om, x⟩
theorem RM.no {w' : World} (h : RM w0 w a z m S0 S s) (c : Chg No w w') : RM w0 w' a z m S0 S s := h.up c (fun _ h => h.elim) (h.om.no c) (h.x.no c)
/-- Cells of the working state written; its lists are as they were, or cut. -/
theorem RM.set (h : RM w0 w a z m S0 S s) (S' : StC) (s' : StV) {k n : Nat} {vs : List Value} {G : World → Prop} (hl : k + n ≤ 10) (hn : n = vs.length) (hc : wrL (stC S) k vs = stC S') (nums : StNums S' s')
    (e1 : ∃ n, n ≤ s.stack.length ∧ S'.stack = ⟨S.stack.ptr, n, S.stack.cap⟩ ∧ s'.stack = s.stack.take n) (e2 : ∃ n, n ≤ s.back.length ∧ S'.back = ⟨S.back.ptr, n, S.back.cap⟩ ∧ s'.back = s.back.take n) (e3 : S'.mem = S.mem ∧ s'.mem = s.mem)
    (g : ∀ w', RM w0 w' a z m S0 S' s' → G w') : wrOk w ⟨m, k, none⟩ n ∧ ∀ w' : World, w' = stW w ⟨m, k, none⟩ 0 vs → G w' := by
  refine setSt S' h.om hl hn hc fun w' o' c' => g w' ?_
  obtain ⟨n1, l1, f1, g1⟩ := e1
  obtain ⟨n2, l2, f2, g2⟩ := e2
  obtain ⟨f3, g3⟩ := e3
  have hb1 : S'.stack.blk = S.stack.blk := by rw [f1]; unfold Sl.blk Sl.val; cases S.stack.ptr <;> rfl
  have hb2 : S'.back.blk = S.back.blk := by rw [f2]; unfold Sl.blk Sl.val; cases S.back.ptr <;> rfl
  have xs := h.x.chg c' (fun k hk he => hk.2.2.2 he)
  refine h.up c' (fun k hk => by have hk : k = m := hk; rw [hk]; exact ⟨h.zm, h.nam.symm, h.nzm.symm⟩) o' ⟨nums, ?_, ?_, ?_, ?_, ?_, ?_⟩
  · rw [f1, g1]; exact xs.st.take l1
  · rw [f2, g2]; exact xs.bk.take l2
  · rw [f3, g3]; exact xs.me
  · rw [hb1, hb2, f3]; exact xs.stD
  · rw [hb2, f3]; exact xs.bkD
  · rw [f3]; exact xs.meD
/-- A list literal, appended to a part of the stack. -/
theorem RM.push (h : RM w0 w a z m S0 S s) {n : Nat} (hn : n ≤ s.stack.length) (ys : List Int) (cs : List Value) (hcs : cs = fl intE ys) (hne : ys ≠ []) (hl : ys.length ≤ 100) (hs : s.stack.length ≤ 10000) {G : World → Prop}
    (k : ∀ w2 S', S'.back = S.back → S'.mem = S.mem → RM w0 w2 a z m S0 S' { s with stack := s.stack.take n ++ ys } → G w2) {q : Nat} (hlen : q = ys.length) {l : Sl} (hq : l = ⟨S.stack.ptr, n, S.stack.cap⟩) :
    ∀ (b : Nat) (w1 : World), b = w.heap.size → w1 = World.alloc w (.cells cs.toArray T_int) → ∃ s4 : Sl, ∃ w5 : World, (Builtin.append_ #[T_sl_int, T_sl_int] T_sl_int #[l.val, .slice (some ⟨b, 0, none⟩) q q]).run Tryz.prog w1 = .ok (s4.val) w5 ∧
      wrOk w5 ⟨m, 2, none⟩ 1 ∧ ∀ w6 : World, w6 = stW w5 ⟨m, 2, none⟩ 0 [s4.val] → G w6 := by
  intro b w1 hb hw
  subst hlen hq
  obtain ⟨g, c1⟩ := litL ys cs hcs hb hw hl
  have h1 := h.no c1
  have hbk : (⟨S.stack.ptr, n, S.stack.cap⟩ : Sl).blk = S.stack.blk := by unfold Sl.blk Sl.val; cases S.stack.ptr <;> rfl
  have lt : (s.stack.take n).length ≤ 10000 := by rw [List.length_take]; omega
  refine appx_ok intOk rfl rfl (h1.x.st.take hn) g.rd rfl (fun _ => hne) (by show (_ + _) * 8 ≤ _; omega) (by unfold maxLen; omega) ?_
  intro s4 w5 g4 c5 b4 _
  rw [hbk] at b4 c5
  have hmst : ¬ S.stack.blk = some m := fun he => (h1.x.stD m he).1.2.2.2 rfl
  have ltm := h1.om.lt
  have zaa := h1.oa.lt
  have zzz := h1.oz.lt
  have o5 := h1.om.chg c5 hmst
  have ds4 : ∀ k, s4.blk = some k → (w0.heap.size ≤ k ∧ k ≠ a ∧ k ≠ z ∧ k ≠ m) ∧ S.back.blk ≠ some k ∧ S.mem.blk ≠ some k := fun k hk => by
    rcases b4 with hh | hh
    · exact h1.x.stD k (hh ▸ hk)
    · have := hh k hk
      have := h1.c.size
      exact ⟨⟨by omega, by omega, by omega, by omega⟩, fun he => by have := h1.x.bk.lt k he; omega, fun he => by have := h1.x.me.lt k he; omega⟩
  have h5 : RM w0 w5 a z m S0 S { s with stack := s.stack } ∨ True := Or.inr trivial
  clear h5
  refine setSt { S with stack := s4 } o5 (by decide) rfl rfl fun w6 o6 c6 => k w6 { S with stack := s4 } rfl rfl ?_
  have c56 : Chg (fun j => S.stack.blk = some j ∨ j = m) w1 w6 := c5.trans c6 (fun _ _ h => Or.inl h) (fun _ _ h => Or.inr h)
  refine h1.up c56 (fun j hj => ?_) o6 ⟨h.x.nums, g4.chg c6 (fun k hk he => (ds4 k hk).1.2.2.2 he), (h1.x.bk.chg c56 (fun k hk he => ?_)), (h1.x.me.chg c56 (fun k hk he => ?_)), ds4, h1.x.bkD, h1.x.meD⟩
  · rcases hj with hj | hj
    · exact ⟨(h1.x.stD j hj).1.1, (h1.x.stD j hj).1.2.1, (h1.x.stD j hj).1.2.2.1⟩
    · rw [hj]; exact ⟨h.zm, h.nam.symm, h.nzm.symm⟩
  · rcases he with he | he
    · exact (h1.x.stD k he).2.1 hk
    · exact (h1.x.bkD k hk).1.2.2.2 he
  · rcases he with he | he
    · exact (h1.x.stD k he).2.2 hk
    · exact (h1.x.meD k hk).2.2.2 he
/-- A list literal, appended to the return stack. -/
theorem RM.back (h : RM w0 w a z m S0 S s) (ys : List Int) (cs : List Value) (hcs : cs = fl intE ys) (hne : ys ≠ []) (hl : ys.length ≤ 100) (hs : s.back.length ≤ 10000) {G : World → Prop}
    (k : ∀ w2 S', S'.stack = S.stack → S'.mem = S.mem → RM w0 w2 a z m S0 S' { s with back := s.back ++ ys } → G w2) {q : Nat} (hlen : q = ys.length) :
    ∀ (b : Nat) (w1 : World), b = w.heap.size → w1 = World.alloc w (.cells cs.toArray T_int) → ∃ s4 : Sl, ∃ w5 : World, (Builtin.append_ #[T_sl_int, T_sl_int] T_sl_int #[S.back.val, .slice (some ⟨b, 0, none⟩) q q]).run Tryz.prog w1 = .ok (s4.val) w5 ∧
      wrOk w5 ⟨m, 3, none⟩ 1 ∧ ∀ w6 : World, w6 = stW w5 ⟨m, 3, none⟩ 0 [s4.val] → G w6 := by
  intro b w1 hb hw
  subst hlen
  obtain ⟨g, c1⟩ := litL ys cs hcs hb hw hl
  have h1 := h.no c1
  refine appx_ok intOk rfl rfl h1.x.bk g.rd rfl (fun _ => hne) (by show (_ + _) * 8 ≤ _; omega) (by unfold maxLen; omega) ?_
  intro s4 w5 g4 c5 b4 _
  have hmst : ¬ S.back.blk = some m := fun he => (h1.x.bkD m he).1.2.2.2 rfl
  have ltm := h1.om.lt
  have zaa := h1.oa.lt
  have zzz := h1.oz.lt
  have o5 := h1.om.chg c5 hmst
  have ds4 : ∀ k, s4.blk = some k → (w0.heap.size ≤ k ∧ k ≠ a ∧ k ≠ z ∧ k ≠ m) ∧ S.stack.blk ≠ some k ∧ S.mem.blk ≠ some k := fun k hk => by
    rcases b4 with hh | hh
    · have hk' := hh ▸ hk
      exact ⟨(h1.x.bkD k hk').1, fun he => (h1.x.stD k he).2.1 hk', (h1.x.bkD k hk').2⟩
    · have := hh k hk
      have := h1.c.size
      exact ⟨⟨by omega, by omega, by omega, by omega⟩, fun he => by have := h1.x.st.lt k he; omega, fun he => by have := h1.x.me.lt k he; omega⟩
  refine setSt { S with back := s4 } o5 (by decide) rfl rfl fun w6 o6 c6 => k w6 { S with back := s4 } rfl rfl ?_
  have c56 : Chg (fun j => S.back.blk = some j ∨ j = m) w1 w6 := c5.trans c6 (fun _ _ h => Or.inl h) (fun _ _ h => Or.inr h)
  refine h1.up c56 (fun j hj => ?_) o6 ⟨h.x.nums, (h1.x.st.chg c56 (fun k hk he => ?_)), g4.chg c6 (fun k hk he => (ds4 k hk).1.2.2.2 he), (h1.x.me.chg c56 (fun k hk he => ?_)), fun k hk => ⟨(h1.x.stD k hk).1, fun he => (ds4 k he).2.1 hk, (h1.x.stD k hk).2.2⟩, fun k hk => ⟨(ds4 k hk).1, (ds4 k hk).2.2⟩, h1.x.meD⟩
  · rcases hj with hj | hj
    · exact ⟨(h1.x.bkD j hj).1.1, (h1.x.bkD j hj).1.2.1, (h1.x.bkD j hj).1.2.2.1⟩
    · rw [hj]; exact ⟨h.zm, h.nam.symm, h.nzm.symm⟩
  · rcases he with he | he
    · exact (h1.x.stD k hk).2.1 he
    · exact (h1.x.stD k hk).1.2.2.2 he
  · rcases he with he | he
    · exact (h1.x.bkD k he).2 hk
    · exact (h1.x.meD k hk).2.2.2 he
/-- The working state, given as the answer. -/
theorem RM.fin (h : RM w0 w a z m S0 S s) {K : Value → World → Prop} (g : ∀ w', StX (fun k => w0.heap.size ≤ k) w' S s → Chg No w0 w' → K (.agg (stC S).toArray) w') {T : TypeId} :
    ∃ n1 : Int, ∃ n2 : Int, ∃ s3 : Sl, ∃ s4 : Sl, ∃ s5 : Sl, ∃ t6 : ByteArray, ∃ t7 : ByteArray, ∃ n8 : Int, ∃ n9 : Int, ∃ n10 : Int, w.cell? ⟨m, 0, none⟩ = some (.int .i64 n1) ∧ w.cell? ⟨m, 1, none⟩ = some (.int .i64 n2) ∧ w.cell? ⟨m, 2, none⟩ = some (s3.val) ∧ w.cell? ⟨m, 3, none⟩ = some (s4.val) ∧ w.cell? ⟨m, 4, none⟩ = some (s5.val) ∧ w.cell? ⟨m, 5, none⟩ = some (.string t6) ∧ w.cell? ⟨m, 6, none⟩ = some (.string t7) ∧ w.cell? ⟨m, 7, none⟩ = some (.int .i64 n8) ∧ w.cell? ⟨m, 8, none⟩ = some (.int .i64 n9) ∧ w.cell? ⟨m, 9, none⟩ = some (.int .i64 n10) ∧
    wrOk w ⟨z, 0, none⟩ 10 ∧ ∀ w' : World, w' = stW w ⟨z, 0, none⟩ 0 [.int .i64 n1, .int .i64 n2, s3.val, s4.val, s5.val, .string t6, .string t7, .int .i64 n8, .int .i64 n9, .int .i64 n10] →
    ∃ n1 : Int, ∃ n2 : Int, ∃ s3 : Sl, ∃ s4 : Sl, ∃ s5 : Sl, ∃ t6 : ByteArray, ∃ t7 : ByteArray, ∃ n8 : Int, ∃ n9 : Int, ∃ n10 : Int, w'.cell? ⟨z, 0, none⟩ = some (.int .i64 n1) ∧ w'.cell? ⟨z, 1, none⟩ = some (.int .i64 n2) ∧ w'.cell? ⟨z, 2, none⟩ = some (s3.val) ∧ w'.cell? ⟨z, 3, none⟩ = some (s4.val) ∧ w'.cell? ⟨z, 4, none⟩ = some (s5.val) ∧ w'.cell? ⟨z, 5, none⟩ = some (.string t6) ∧ w'.cell? ⟨z, 6, none⟩ = some (.string t7) ∧ w'.cell? ⟨z, 7, none⟩ = some (.int .i64 n8) ∧ w'.cell? ⟨z, 8, none⟩ = some (.int .i64 n9) ∧ w'.cell? ⟨z, 9, none⟩ = some (.int .i64 n10) ∧
    K (.agg #[.int .i64 n1, .int .i64 n2, s3.val, s4.val, s5.val, .string t6, .string t7, .int .i64 n8, .int .i64 n9, .int .i64 n10]) w' := by
  refine rdSt h.om (setSt S h.oz (by decide) rfl rfl fun w' o' c' => rdSt o' ?_)
  refine g w' ((h.x.chg c' (fun k hk he => hk.2.2.1 he)).wid (fun k hk => hk.1)) (h.c.trans c' (fun _ _ h => h) (fun k hk he => ?_))
  have he : k = z := he
  have := h.zz
  omega
end
end Go.Proofs.YtkjpmkopnkkbmaaGreatDoor

/- hollowayref9: Copy and Fault. -/
set_option maxRecDepth 100000
namespace Go.Proofs.YtkjpmkopnkkbmaaGreatDoor
open Go.RowKit

theorem nil_app {w : World} {l : Sl} {xs : List Int} (h : Rd intE w l xs) (hn : xs.length ≤ 100000) {G : Sl → World → Prop} (k : ∀ (s' : Sl) (w' : World), Ow intE w' s' xs → Chg No w w' → (∀ k, s'.blk = some k → w.heap.size ≤ k) → G s' w') :
    ∃ s' : Sl, ∃ w' : World, (Builtin.append_ #[T_sl_int, T_sl_int] T_sl_int #[.slice none 0 0, l.val]).run Tryz.prog w = .ok (s'.val) w' ∧ G s' w' := by
  refine app_ok intOk (s := nilS) (t := l) rfl rfl (Ow.nil _ _) h (by show (0 + xs.length) * 8 ≤ _; omega) (by show 0 + xs.length ≤ _; unfold maxLen; omega) ?_
  intro s' w' h' c' b'
  refine k s' w' h' ((Chg.refl No _).trans c' (fun _ _ h => h) (fun k _ he => by cases he)) fun k hk => ?_
  rcases b' with hh | hh
  · rw [hh] at hk; cases hk
  · have := Option.some.inj (hh.symm.trans hk); omega
theorem rcopy_any {D : Nat → Prop} {w : World} (S : StC) {s : StV} (h : StIs D w S s) (h1 : s.stack.length ≤ 100000) (h2 : s.back.length ≤ 100000) (h3 : s.mem.length ≤ 100000) :
    Calls Tryz.prog fn_hollowayref9_Copy #[.agg (stC S).toArray] w fun e w' => ∃ S' : StC, e = .returned (.agg (stC S').toArray) ∧ StX (fun k => w.heap.size ≤ k ∧ k < w'.heap.size) w' S' s ∧ Chg No w w' := by
  refine (hollowayref9_Copy_lift (K := fun v w' => ∃ S' : StC, v = .agg (stC S').toArray ∧ StX (fun k => w.heap.size ≤ k ∧ k < w'.heap.size) w' S' s ∧ Chg No w w') ?_).mono (by rintro e w' ⟨v, rfl, n, rfl, h⟩; exact ⟨n, rfl, h⟩)
  unfold hollowayref9_Copy_sh
  refine inSt S fun b11 w12 hb11 z12 o11 c12 => inSt st0 fun b13 w14 hb13 z14 o13 c14 => ⟨S.stack, (o11.no c14).cell rfl, nil_app (h.st.no (trN c12 c14)) h1 fun s16 w17 g17 c17 b17 => ?_⟩
  have l16 : ∀ k, s16.blk = some k → k < w17.heap.size := fun k hk => g17.lt hk
  refine setSt { S with stack := s16 } ((o11.no c14).no c17) (by decide) rfl rfl fun w18 o18 c18 => ⟨S.back, o18.cell rfl, ?_⟩
  have z17 := c17.size
  have z18 := c18.size
  have n18 : Chg No w w18 := (trN (trN c12 c14) c17).trans c18 (fun _ _ h => h) (fun k hk he => by omega)
  refine nil_app (h.bk.no n18) h2 fun s20 w21 g21 c21 b21 => ?_
  have l20 : ∀ k, s20.blk = some k → k < w21.heap.size := fun k hk => g21.lt hk
  refine setSt { S with stack := s16, back := s20 } (o18.no c21) (by decide) rfl rfl fun w22 o22 c22 => ⟨S.mem, o22.cell rfl, ?_⟩
  have z21 := c21.size
  have z22 := c22.size
  have n22 : Chg No w w22 := (trN n18 c21).trans c22 (fun _ _ h => h) (fun k hk he => by omega)
  refine nil_app (h.me.no n22) h3 fun s24 w25 g25 c25 b25 => ?_
  have l24 : ∀ k, s24.blk = some k → k < w25.heap.size := fun k hk => g25.lt hk
  have z25 := c25.size
  refine setSt { S with stack := s16, back := s20, mem := s24 } (o22.no c25) (by decide) rfl rfl fun w26 o26 c26 => ?_
  have z26 := c26.size
  have n26 : Chg No w w26 := (trN n22 c25).trans c26 (fun _ _ h => h) (fun k hk he => by omega)
  have d18 : Chg (fun j => j = b11 ∨ j = b13) w17 w18 := c18.mono (fun _ _ h => Or.inl h)
  have d21 : Chg (fun j => j = b11 ∨ j = b13) w18 w22 := (c21.trans c22 (fun _ _ h => h.elim) (fun _ _ h => Or.inl h))
  have d25 : Chg (fun j => j = b11 ∨ j = b13) w22 w26 := (c25.trans c26 (fun _ _ h => h.elim) (fun _ _ h => Or.inl h))
  have e13 : Ob w26 b13 (stC st0) T_api_State := (((((o13.no c17).chg c18 (fun he => by omega)).no c21).chg c22 (fun he => by omega)).no c25).chg c26 (fun he => by omega)
  refine rdSt o26 (setSt { S with stack := s16, back := s20, mem := s24 } e13 (by decide) rfl rfl fun w37 o37 c37 => rdSt o37 ⟨{ S with stack := s16, back := s20, mem := s24 }, rfl, ?_, ?_⟩)
  · have z37 := c37.size
    have d37 : Chg (fun j => j = b11 ∨ j = b13) w26 w37 := c37.mono (fun _ _ h => Or.inr h)
    have q22 : Chg (fun j => j = b11 ∨ j = b13) w22 w37 := d25.trans d37 (fun _ _ h => h) (fun _ _ h => h)
    have q18 : Chg (fun j => j = b11 ∨ j = b13) w18 w37 := d21.trans q22 (fun _ _ h => h) (fun _ _ h => h)
    have q17 : Chg (fun j => j = b11 ∨ j = b13) w17 w37 := d18.trans q18 (fun _ _ h => h) (fun _ _ h => h)
    have q21 : Chg (fun j => j = b11 ∨ j = b13) w21 w37 := (c22.mono (fun _ _ h => Or.inl h)).trans q22 (fun _ _ h => h) (fun _ _ h => h)
    have q25 : Chg (fun j => j = b11 ∨ j = b13) w25 w37 := (c26.mono (fun _ _ h => Or.inl h)).trans d37 (fun _ _ h => h) (fun _ _ h => h)
    refine ⟨h.nums, (g17.chg q17 (fun k hk he => ?_)).ox, (g21.chg q21 (fun k hk he => ?_)).ox, (g25.chg q25 (fun k hk he => ?_)).ox, fun k hk => ⟨?_, fun he => ?_, fun he => ?_⟩, fun k hk => ⟨?_, fun he => ?_⟩, fun k hk => ?_⟩
    · have := b17 k hk; omega
    · have := b21 k hk; omega
    · have := b25 k hk; omega
    · have := b17 k hk; have := l16 k hk; omega
    · have := l16 k hk; have := b21 k he; omega
    · have := l16 k hk; have := b25 k he; omega
    · have := b21 k hk; have := l20 k hk; omega
    · have := l20 k hk; have := b25 k he; omega
    · have := b25 k hk; have := l24 k hk; omega
  · exact n26.trans c37 (fun _ _ h => h) (fun k hk he => by omega)
/-- A state that reads as s, whatever is done to the blocks of V. -/
structure Hd (D V : Nat → Prop) (w : World) (S : StC) (s : StV) : Prop where
  is : ∀ w2, Chg V w w2 → StIs D w2 S s
  lt : ∀ k, V k → k < w.heap.size
theorem Hd.at {D V : Nat → Prop} {w w' : World} {S : StC} {s : StV} (h : Hd D V w S s) (c : Chg No w w') : StIs D w' S s := h.is w' (c.mono (fun _ _ h => h.elim))
end Go.Proofs.YtkjpmkopnkkbmaaGreatDoor

/- RecordCells: the walk. -/
set_option maxRecDepth 100000
namespace Go.Proofs.YtkjpmkopnkkbmaaGreatDoor
open Go.RowKit

theorem recordCells_walk {w : World} (S : StC) {s : StV} (h : StIs (fun _ => True) w S s) (hg : Gl w) (most at_ v : Int) :
    Calls Tryz.prog fn_hollowaylaw13_RecordCells #[.agg (stC S).toArray, .int .i64 most, .int .i64 at_, .int .i64 v] w fun e w' => e = .returned (.bool true) ∧ Chg No w w' := by
  refine (hollowaylaw13_RecordCells_lift (K := fun v w' => v = .bool true ∧ Chg No w w') ?_).mono (by rintro e w' ⟨v, rfl, rfl, h⟩; exact ⟨rfl, h⟩)
  unfold hollowaylaw13_RecordCells_sh
  obtain ⟨m1, m2, m3, m4, m5, m6, m7⟩ := h.nums
  refine inSt S fun b14 w15 hb14 z15 o14 c15 => ?_
  refine ⟨fun b' w' => (b' = false → LightS s) ∧ Chg No w15 w', ?_, rdSt o14 ?_⟩
  rotate_left
  · refine (light9_any S (h.no c15)).mono ?_
    rintro e w27 ⟨b', rfl, hb, c27⟩
    refine ⟨b', rfl, brB_of (fun _ => ⟨(fun h => by cases h), c27⟩) (fun hl => ?_)⟩
    have hl := hb.1 (by simpa using hl)
    refine (alive13_any (hg.no (trN c15 c27))).mono ?_
    rintro e w30 ⟨rfl, c30⟩
    exact ⟨_, rfl, fun _ => hl, trN c27 c30⟩
  rintro b' w32 ⟨hb, c32⟩
  have k32 := trN c15 c32
  refine brB_of (fun _ => ?_) (fun hf => ?_)
  · refine (alive13_any (hg.no k32)).mono ?_
    rintro e w35 ⟨rfl, c35⟩
    exact ⟨_, rfl, rfl, trN k32 c35⟩
  have ok0 := (hb hf).ok
  obtain ⟨s2, hs2⟩ : ∃ s2 : StV, s2 = { s with status := 0 } := ⟨_, rfl⟩
  have ok : MOk s2 := by rw [hs2]; exact ⟨ok0.st, ok0.bk, ok0.me, ok0.out, ok0.rd, ok0.inp⟩
  have n14 : w.heap.size ≤ b14 := by omega
  refine setSt { S with status := 0 } (o14.no c32) (by decide) rfl rfl fun w37 o37 c37 => ?_
  have k37 : Chg No w w37 := k32.trans c37 (fun _ _ h => h) (fun k hk he => by omega)
  obtain ⟨S2, hS2⟩ : ∃ S2 : StC, S2 = { S with status := 0 } := ⟨_, rfl⟩
  rw [← hS2] at o37
  have h2 : StIs (fun _ => True) w S2 s2 := by rw [hS2, hs2]; exact ⟨⟨m1, m2, m3, m4, m5, rfl, m7⟩, h.st, h.bk, h.me, h.stD, h.bkD, h.meD⟩
  refine rdSt o37 ((loop_rc S2 (h2.no k37) ok (hg.no k37) most).mono ?_)
  rintro e w49 ⟨R, rfl, hR, c49⟩
  have k49 := trN k37 c49
  have hplace := recV_place ok most
  have hlen : (recV s2 most).steps.length ≤ 120 := by
    have h3 := (recL_len s2.ip (mostN most) s2 []).2
    have h4 := (mostN_le most).1
    have h5 : (recV s2 most).steps.length = (recL s2.ip (mostN most) s2 []).steps.length := rfl
    simp at h3; omega
  obtain ⟨xs, hxs⟩ : ∃ xs, xs = (recV s2 most).steps := ⟨_, rfl⟩
  have hst := hR.steps
  rw [← hxs] at hplace hlen hst
  refine ⟨_, _, _, _, rfl, varRc R fun b54 w56 hb54 z54 o54 c56 => rdRc o54 ?_⟩
  have k56 := trN k49 c56
  refine (cells_rc R (hst.no c56).rd hplace (by omega)).mono ?_
  rintro e w62 ⟨C, rfl, hC, c62, bC⟩
  have k62 := trN k56 c62
  obtain ⟨L, hL⟩ : ∃ L, L = onceI (plsL xs) := ⟨_, rfl⟩
  obtain ⟨hlt, hmem⟩ := onceI_ok (plsL xs)
  have hLl := onceI_len (plsL xs)
  have hLl2 := plsL_len xs
  rw [← hL] at hlt hmem hC hLl
  have hCl := hC.rd.len
  have p14 := ((o37.no c49).no c56).no c62
  have p54 := o54.no c62
  refine ⟨C, rfl, fun k w' => ∃ j : Nat, k = j ∧ j ≤ L.length ∧ (∀ i, i < j → L[i]? ≠ some at_) ∧ Chg No w62 w', fun k _ => L.length - k.toNat, ⟨0, rfl, Nat.zero_le _, (fun i hi => by omega), Chg.refl _ _⟩, ?_⟩
  rintro k w64 ⟨j, rfl, hj, hno, c64⟩
  refine brB_of (fun hlt' => ?_) (fun hge => ?_)
  · have hjl : j < L.length := by have := of_decide_eq_true hlt'; omega
    have at1 : L[j]? = some L[j] := List.getElem?_eq_getElem hjl
    have prev : 0 < j → L[j - 1]? = some L[j - 1] ∧ L[j - 1] < L[j] := fun h0 => ⟨List.getElem?_eq_getElem (by omega), List.pairwise_iff_getElem.1 hlt (j - 1) j (by omega) hjl (by omega)⟩
    refine ⟨fun b w' => (b = false → L[j]? ≠ some at_) ∧ Chg No w62 w', ?_, ?_⟩
    · rintro b w73 ⟨hb73, c73⟩
      refine brB_of (fun _ => ?_) (fun hbf => ?_)
      · intro w75 hw75
        have c75 := trN c73 (dw hw75)
        refine brB_of (fun _ => ⟨rfl, trN k62 c75⟩) (fun hne => ?_)
        have h0 : 0 < j := by
          rcases Nat.eq_zero_or_pos j with e | e
          · rw [e] at hne; simp at hne
          · exact e
        obtain ⟨q1, q2⟩ := prev h0
        rw [wr_in (x := (j : Int) - 1) (by omega)]
        refine (hC.no c75).rd.ix (i := (j : Int) - 1) (by omega) (by rw [show ((j : Int) - 1).toNat = j - 1 by omega]; exact q1) fun a _ hcell => ?_
        have r1 := hcell 0 _ rfl
        rw [add0] at r1
        refine ⟨_, held_Lw r1, ?_⟩
        refine (hC.no c75).rd.ix (i := (j : Int)) (by omega) (by rw [Int.toNat_natCast]; exact at1) fun a' _ hcell' => ?_
        have r2 := hcell' 0 _ rfl
        rw [add0] at r2
        exact ⟨_, held_Lw r2, by rw [decide_eq_true q2], trN k62 c75⟩
      · rw [wr_in (by omega)]
        refine ⟨⟨j + 1, by omega, by omega, fun i hi => ?_, c73⟩, by show L.length - Int.toNat ((j : Int) + 1) < L.length - Int.toNat (j : Int); omega⟩
        by_cases hij : i = j
        · rw [hij]; exact hb73 hbf
        · exact hno i (by omega)
    intro w66 hw66
    have c66 := trN c64 (dw hw66)
    refine (hC.no c66).rd.ix (i := (j : Int)) (by omega) (by rw [Int.toNat_natCast]; exact at1) fun a _ hcell => ?_
    have r1 := hcell 0 _ rfl
    rw [add0] at r1
    refine ⟨_, held_Lw r1, brB_of (fun _ => ⟨(fun h => by cases h), c66⟩) (fun hne => ?_)⟩
    have hne : L[j] ≠ at_ := by simpa using hne
    have nat : L[j]? ≠ some at_ := fun he => hne (by rw [at1] at he; exact Option.some.inj he)
    refine brB_of (fun hk => ?_) (fun _ => ⟨fun _ => nat, c66⟩)
    have h0 : 0 < j := by have := of_decide_eq_true hk; omega
    obtain ⟨q1, q2⟩ := prev h0
    rw [wr_in (x := (j : Int) - 1) (by omega)]
    refine (hC.no c66).rd.ix (i := (j : Int) - 1) (by omega) (by rw [show ((j : Int) - 1).toNat = j - 1 by omega]; exact q1) fun a2 _ hcell2 => ?_
    have r2 := hcell2 0 _ rfl
    rw [add0] at r2
    refine ⟨_, held_Lw r2, ?_⟩
    refine (hC.no c66).rd.ix (i := (j : Int)) (by omega) (by rw [Int.toNat_natCast]; exact at1) fun a3 _ hcell3 => ?_
    have r3 := hcell3 0 _ rfl
    rw [add0] at r3
    exact ⟨_, held_Lw r3, fun _ => nat, c66⟩
  have hjl : j = L.length := by have := of_decide_eq_false hge; omega
  have hat : at_ ∉ plsL xs := fun hm => by
    obtain ⟨i, hi, he⟩ := List.getElem_of_mem ((hmem at_).2 hm)
    exact hno i (by omega) (by rw [List.getElem?_eq_getElem hi, he])
  have u54 := p54.no c64
  have u14 := p14.no c64
  have k64 := trN k62 c64
  have hst64 := ((hst.no c56).no c62).no c64
  have hRl := hst64.rd.len
  refine ⟨fun i w' => ∃ j : Nat, i = j ∧ j ≤ xs.length ∧ (∀ x ∈ xs.take j, x.cell ≠ 30 ∧ x.cell ≠ 32) ∧ Chg No w64 w', fun i _ => xs.length - i.toNat, ⟨0, rfl, Nat.zero_le _, (fun x hx => by cases hx), Chg.refl _ _⟩, ?_⟩
  rintro i w82 ⟨j2, rfl, hj2, hcl, c82⟩
  have v54 := u54.no c82
  refine ⟨R.steps, v54.cell rfl, brB_of (fun hlt' => ⟨R.steps, v54.cell rfl, ?_⟩) (fun hge => ?_)⟩
  · have hlt2 : j2 < xs.length := by have := of_decide_eq_true hlt'; omega
    obtain ⟨x, hx⟩ : ∃ x, xs[j2]? = some x := ⟨_, List.getElem?_eq_getElem hlt2⟩
    refine (hst64.no c82).rd.ix (i := (j2 : Int)) (by omega) (by rw [Int.toNat_natCast]; exact hx) fun a _ hcell => ?_
    refine ⟨x.cell, hcell 1 _ rfl, fun b w' => (b = false → x.cell ≠ 30 ∧ x.cell ≠ 32) ∧ Chg No w64 w', ?_, ?_⟩
    · rintro b w88 ⟨hb88, c88⟩
      refine brB_of (fun _ => ⟨rfl, trN k64 c88⟩) (fun hbf => ?_)
      rw [wr_in (by omega)]
      refine ⟨⟨j2 + 1, by omega, by omega, fun y hy => ?_, c88⟩, by show xs.length - Int.toNat ((j2 : Int) + 1) < xs.length - Int.toNat (j2 : Int); omega⟩
      have e : xs.take (j2 + 1) = xs.take j2 ++ [x] := by
        rw [List.take_succ_eq_append_getElem hlt2, (List.getElem?_eq_some_iff.1 hx).2]
      rw [e] at hy
      rcases List.mem_append.1 hy with hy | hy
      · exact hcl y hy
      · rw [List.mem_singleton.1 hy]; exact hb88 hbf
    refine brB_of (fun _ => ⟨(fun h => by cases h), c82⟩) (fun h30 => brB_of (fun _ => ⟨(fun h => by cases h), c82⟩) (fun h32 => ⟨fun _ => ⟨by simpa using h30, by simpa using h32⟩, c82⟩))
  have hj3 : j2 = xs.length := by have := of_decide_eq_false hge; omega
  have hcl' : ∀ x ∈ xs, x.cell ≠ 30 ∧ x.cell ≠ 32 := fun x hx => hcl x (by rw [hj3, List.take_length]; exact hx)
  have v14 := u14.no c82
  have k82 := trN k64 c82
  have k1 := ok.st
  have k2 := ok.bk
  have k3 := ok.me
  refine rdSt v14 ((rcopy_any S2 (h2.no k82) (by omega) (by omega) (by omega)).mono ?_)
  rintro e w101 ⟨T, rfl, hT, c101⟩
  have k101 := trN k82 c101
  refine ⟨_, _, _, _, _, _, _, _, _, _, rfl, varSt T fun b112 w114 hb112 z112 o112 c114 => ?_⟩
  have k114 := trN k101 c114
  have hT' := hT.no c114
  have hml := hT'.me.rd.len
  have w54 := (v54.no c101).no c114
  have z101 := c101.size
  have z114 := c114.size
  have z82 := k82.size
  refine ⟨fun b w' => (b = false → 0 ≤ at_ ∧ at_ < s2.mem.length) ∧ w' = w114, ?_, ?_⟩
  rotate_left
  · refine brB_of (fun _ => ⟨(fun h => by cases h), rfl⟩) (fun hn => ⟨T.mem, o112.cell rfl, ?_, rfl⟩)
    intro hb2
    have hn := of_decide_eq_false hn
    have hb2 := of_decide_eq_false hb2
    omega
  rintro b w116 ⟨hb116, rfl⟩
  refine brB_of (fun _ => ⟨rfl, k114⟩) (fun hbf => ⟨T.mem, o112.cell rfl, ?_⟩)
  obtain ⟨a0, a1⟩ := hb116 hbf
  refine setOx hT'.me a0 (by omega) fun w120 g120 c120 => ?_
  have nme : ∀ k, T.mem.blk = some k → w82.heap.size ≤ k ∧ k < w101.heap.size := fun k hk => hT'.meD k hk
  have k120 : Chg No w w120 := k114.trans c120 (fun _ _ h => h) (fun k hk he => by have := nme k he; omega)
  have o120 := o112.chg c120 (fun he => by have := nme _ he; omega)
  have w54' := w54.chg c120 (fun he => by have := nme _ he; have := v54.lt; omega)
  have h5 : StIs (fun _ => True) w120 T (wm s2 (s2.mem.set at_.toNat v)) :=
    ⟨hT'.nums, (hT'.st.chg c120 (fun k hk he => (hT'.stD k hk).2.2 he)).rd, (hT'.bk.chg c120 (fun k hk he => (hT'.bkD k hk).2 he)).rd, g120.rd, fun _ _ => trivial, fun _ _ => trivial, fun _ _ => trivial⟩
  have ok5 : MOk (wm s2 (s2.mem.set at_.toNat v)) := ⟨ok.st, ok.bk, by show (s2.mem.set at_.toNat v).length ≤ 3000; rw [List.length_set]; exact ok.me, ok.out, ok.rd, ok.inp⟩
  refine rdSt o120 ⟨R.steps, w54'.cell rfl, ?_⟩
  refine (loop_rc T h5 ok5 (hg.no k120) _).mono ?_
  rintro e w133 ⟨R', rfl, hR', c133⟩
  refine ⟨_, _, _, _, rfl, varRc R' fun b138 w140 hb138 z138 o138 c140 => ⟨R'.steps, o138.cell rfl, R.steps, ((w54'.no c133).no c140).cell rfl, ?_⟩⟩
  have k140 := trN (trN k120 c133) c140
  have key := recV_df (a := at_.toNat) (agr_set s2.mem at_.toNat v) (most := most) (by rw [← hxs, show ((at_.toNat : Nat) : Int) = at_ by omega]; exact hat) (by rw [← hxs]; exact hcl')
  rw [← hxs] at key
  have r1 := (hR'.steps.no c140).rd
  rw [hRl, key] at r1
  have r2 := ((((hst64.no c82).no c101).no c114).chg c120 (fun k hk he => by have := nme k he; have := (hst64.no c82).lt k hk; omega)).no c133
  refine (sameSeens_ok R'.steps R.steps xs w140 r1 (r2.no c140).rd).mono ?_
  rintro e w144 ⟨rfl, c144⟩
  exact ⟨_, rfl, rfl, trN k140 c144⟩
end Go.Proofs.YtkjpmkopnkkbmaaGreatDoor
