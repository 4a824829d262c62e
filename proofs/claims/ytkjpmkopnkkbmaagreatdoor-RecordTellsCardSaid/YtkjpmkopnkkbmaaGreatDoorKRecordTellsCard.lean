/- The walk of RecordTellsCard. -/
import Derived.Test.YtkjpmkopnkkbmaaGreatDoorJQ
import Derived.Test.YtkjpmkopnkkbmaaGreatDoorJ2
import Derived.Test.YtkjpmkopnkkbmaaGreatDoorJ4
import Derived.Shelf.Sort.Plain
import Derived.Ground.Names2Prog
import Derived.Shelf.Slices.CompactI
import Derived.Shelf.Slices.In.SortNone
import Derived.Test.YtkjpmkopnkkbmaaGreatDoorProg
import Derived.Lib.SlicesCompact
import Derived.Lib.RowBridge
import Derived.Sort.OwnSortedInts
import Derived.Test.YtkjpmkopnkkbmaaGreatDoorJ5
import Derived.Test.YtkjpmkopnkkbmaaGreatDoorJR
import Derived.Test.YtkjpmkopnkkbmaaGreatDoorJ6
import Derived.Test.YtkjpmkopnkkbmaaGreatDoorJM
import Derived.Test.YtkjpmkopnkkbmaaGreatDoorJN

/- The package record: After. -/
set_option maxRecDepth 100000
namespace Go.Proofs.YtkjpmkopnkkbmaaGreatDoor
open Go.RowKit

theorem after_rc {D : Nat → Prop} {w : World} (S : StC) {s : StV} (h : StIs D w S s) (ok : MOk s) (hg : Gl w) (R : RcC) (hl : R.steps.len ≤ 1000000) :
    Calls Tryz.prog fn_record_After #[.agg (stC S).toArray, .agg (rcC R).toArray] w fun e w' => ∃ S' : StC, e = .returned (.agg (stC S').toArray) ∧ StX (fun k => w.heap.size ≤ k ∧ k < w'.heap.size) w' S' (runM s (R.steps.len : Int)).1 ∧ Chg No w w' := by
  refine (record_After_lift (K := fun v w' => ∃ S' : StC, v = .agg (stC S').toArray ∧ StX (fun k => w.heap.size ≤ k ∧ k < w'.heap.size) w' S' (runM s (R.steps.len : Int)).1 ∧ Chg No w w') ?_).mono (by rintro e w' ⟨v, rfl, S', rfl, h⟩; exact ⟨S', rfl, h⟩)
  unfold record_After_sh
  refine inSt S fun b15 w16 hb15 z16 o15 c16 => inRc R fun b17 w18 hb17 z18 o17 c18 => inSt st0 fun b19 w20 hb19 z20 o19 c20 => ?_
  have k20 := trN (trN c16 c18) c20
  refine rdSt ((o15.no c18).no c20) ⟨R.steps, (o17.no c20).cell rfl, ?_⟩
  refine (irun_any S (h.no k20) ok (hg.no k20) _ (by omega)).mono ?_
  rintro e w33 ⟨A, rfl, gA, c33⟩
  have z33 := c33.size
  refine ⟨_, _, _, _, _, _, _, _, _, _, _, rfl, varSt A fun b45 w47 hb45 z47 o45 c47 => rdSt o45 ?_⟩
  have l19 := o19.lt
  refine setSt A ((o19.no c33).no c47) (by decide) rfl rfl fun w58 o58 c58 => rdSt o58 ⟨A, rfl, ?_, (trN (trN k20 c33) c47).trans c58 (fun _ _ h => h) (fun k hk he => by omega)⟩
  have z47' := c47.size
  have z58 := c58.size
  exact ((gA.no c47).chg c58 (fun k hk he => by omega)).wid (fun k hk => by omega)
end Go.Proofs.YtkjpmkopnkkbmaaGreatDoor

/- Lists with room behind them, in which a mark stands, of any kind; blocks told apart by their types. -/
set_option maxRecDepth 100000
namespace Go.Proofs.YtkjpmkopnkkbmaaGreatDoor
open Go.RowKit

def LentE {α : Type} (E : Enc α) (x : α) (w : World) (s : Sl) (xs : List α) : Prop := s.len = xs.length ∧ Ow E w ⟨s.ptr, xs.length + 1, s.cap⟩ (xs ++ [x])
theorem addz0 (q : Addr) : q.add 0 = q := by unfold Addr.add; simp
section
variable {α : Type} {E : Enc α} {x : α} {w w' : World} {s : Sl} {xs : List α}
theorem LentE.rd (h : LentE E x w s xs) : Rd E w s xs := by
  have ht := (h.2.take (n := xs.length) (by simp)).rd
  rw [List.take_left] at ht
  have : s = ⟨s.ptr, xs.length, s.cap⟩ := by rw [← h.1]
  rw [this]; exact ht
theorem LentE.chg {S : Nat → Prop} (h : LentE E x w s xs) (c : Chg S w w') (hS : ∀ k, s.blk = some k → ¬ S k) : LentE E x w' s xs := by
  refine ⟨h.1, h.2.chg c (fun k hk => hS k ?_)⟩
  rw [← hk]; unfold Sl.blk Sl.val; cases s.ptr <;> rfl
theorem LentE.no (h : LentE E x w s xs) (c : Chg No w w') : LentE E x w' s xs := h.chg c (fun _ _ h => h)
theorem LentE.mark (h : LentE E x w s xs) {n : Int} {r : List Value} (hx : E.e x = .int .i64 n :: r) {G : Prop} (g : G) :
    0 ≤ (wr ((s.len : Int) + (1 : Int))) ∧ (wr ((s.len : Int) + (1 : Int))) ≤ (s.cap : Int) ∧ ∀ s6 : Sl, s6 = Sl.sub s.ptr s.cap 0 (Int.toNat (wr ((s.len : Int) + (1 : Int)))) E.sz →
    ∃ a7 : Addr, s6.ptr = some a7 ∧ 0 ≤ (s.len : Int) ∧ (s.len : Int) < (s6.len : Int) ∧ ∃ n8 : Int, w.cell? (Addr.add a7 (Int.toNat (s.len : Int) * E.sz)) = some (.int .i64 n8) ∧ (n8 = n ∧ G) := by
  have hc := h.2.rd.capL
  rw [List.length_append] at hc
  have h1 : [x].length = 1 := rfl
  have hc1 : xs.length + 1 ≤ s.cap := by have := hc.1; omega
  have hc2 : s.cap ≤ 9223372036854775807 := hc.2
  have hml := h.1
  rw [wr_of (by omega) (by omega)]
  refine ⟨by omega, by omega, ?_⟩
  intro s6 hs6
  rw [sub0] at hs6
  have e6 : s6 = ⟨s.ptr, xs.length + 1, s.cap⟩ := by rw [hs6]; congr 1; omega
  have h6 : Rd E w s6 (xs ++ [x]) := by rw [e6]; exact h.2.rd
  refine h6.ix (i := (s.len : Int)) (x := x) (by omega) (by rw [Int.toNat_natCast, hml, List.getElem?_append_right (Nat.le_refl _)]; simp) fun a ha hcell => ?_
  have q1 := hcell 0 (.int .i64 n) (by rw [hx]; rfl)
  rw [addz0] at q1
  exact ⟨n, q1, rfl, g⟩
end
def TyB (T : TypeId) (w : World) (k : Nat) : Prop := ∃ arr z, w.heap[k]? = some (.cells arr T z)
theorem Ow.ty {α : Type} {E : Enc α} {w : World} {s : Sl} {xs : List α} (h : Ow E w s xs) {k : Nat} (hk : s.blk = some k) : TyB E.t w k := by
  have h' : Own w E.t E.sz s.val xs.length (fl E xs) := h
  rcases h'.2 with ⟨hv, _⟩ | ⟨g, cap, cur, hv, _, hg, _⟩
  · exfalso
    have : s.val.ownBlock = some k := hk
    rw [hv] at this; cases this
  · have : s.val.ownBlock = some k := hk
    rw [hv] at this
    have e : g = k := by injection this
    subst e
    exact ⟨_, _, hg⟩
theorem TyB.chg {T : TypeId} {S : Nat → Prop} {w w' : World} {k : Nat} (h : TyB T w k) (c : Chg S w w') (hS : ¬ S k) : TyB T w' k := by
  obtain ⟨arr, z, h⟩ := h
  exact ⟨arr, z, c.row h hS⟩
theorem TyB.ne {T U : TypeId} {w : World} {k b : Nat} {cs : List Value} (h : TyB T w k) (o : Ob w b cs U) (hTU : T ≠ U) : k ≠ b := fun e => by
  obtain ⟨arr, z, h⟩ := h
  subst e
  have := h.symm.trans o
  simp at this
  exact hTU this.2.1
end Go.Proofs.YtkjpmkopnkkbmaaGreatDoor

/- Functions of Hollowaylaw13, read without their frames; that each is enough. Printed by a program of mine (wip/lift/gen.py). -/
set_option maxRecDepth 100000
namespace Go.Proofs.YtkjpmkopnkkbmaaGreatDoor
open Go.RowKit

def hollowaylaw13_RecordTells_sh (s1 : Int) (s2 : Int) (s3 : Sl) (s4 : Sl) (s5 : Sl) (s6 : ByteArray) (s7 : ByteArray) (s8 : Int) (s9 : Int) (s10 : Int) (most11 : Int) (w : World) (K : Value → World → Prop) : Prop :=
 ∀ (b12 : Nat) (w13 : World), b12 = w.heap.size → w13 = World.alloc w (.cells #[.int .i64 s1, .int .i64 s2, s3.val, s4.val, s5.val, .string s6, .string s7, .int .i64 s8, .int .i64 s9, .int .i64 s10] T_api_State) →
 ∃ J3 : Bool → World → Prop, (∀ (b31 : Bool) (w30 : World), J3 b31 w30 →
 brB b31
 (Calls Tryz.prog fn_hollowaylaw13_alive #[] w30 fun e32 w33 => ∃ b34 : Bool, e32 = .returned (.bool b34) ∧
 K (.bool b34) w33)
 (∃ n35 n36 : Int, ∃ s37 s38 s39 : Sl, ∃ t40 t41 : ByteArray, ∃ n42 n43 n44 : Int, w30.cell? ⟨b12, 0, none⟩ = some (.int .i64 n35) ∧ w30.cell? ⟨b12, 1, none⟩ = some (.int .i64 n36) ∧ w30.cell? ⟨b12, 2, none⟩ = some (s37.val) ∧ w30.cell? ⟨b12, 3, none⟩ = some (s38.val) ∧ w30.cell? ⟨b12, 4, none⟩ = some (s39.val) ∧ w30.cell? ⟨b12, 5, none⟩ = some (.string t40) ∧ w30.cell? ⟨b12, 6, none⟩ = some (.string t41) ∧ w30.cell? ⟨b12, 7, none⟩ = some (.int .i64 n42) ∧ w30.cell? ⟨b12, 8, none⟩ = some (.int .i64 n43) ∧ w30.cell? ⟨b12, 9, none⟩ = some (.int .i64 n44) ∧
 Calls Tryz.prog fn_hollowaybook_LentState #[.agg #[.int .i64 n35, .int .i64 n36, s37.val, s38.val, s39.val, .string t40, .string t41, .int .i64 n42, .int .i64 n43, .int .i64 n44]] w30 fun e45 w46 => ∃ n47 n48 : Int, ∃ s49 s50 s51 : Sl, ∃ t52 t53 : ByteArray, ∃ n54 n55 n56 : Int, e45 = .returned (.agg #[.int .i64 n47, .int .i64 n48, s49.val, s50.val, s51.val, .string t52, .string t53, .int .i64 n54, .int .i64 n55, .int .i64 n56]) ∧
 ∀ (b57 : Nat) (w58 : World), b57 = w46.heap.size → w58 = World.alloc w46 (.cells #[.int .i64 (0 : Int), .int .i64 (0 : Int), .slice none 0 0, .slice none 0 0, .slice none 0 0, .string (bs []), .string (bs []), .int .i64 (0 : Int), .int .i64 (0 : Int), .int .i64 (0 : Int)] T_api_State) →
 wrOk w58 ⟨b57, 0, none⟩ 10 ∧ ∀ w59 : World, w59 = stW w58 ⟨b57, 0, none⟩ 0 [.int .i64 n47, .int .i64 n48, s49.val, s50.val, s51.val, .string t52, .string t53, .int .i64 n54, .int .i64 n55, .int .i64 n56] →
 ∀ (b60 : Nat) (w61 : World), b60 = w59.heap.size → w61 = World.alloc w59 (.cells #[.slice none 0 0, .slice none 0 0, .slice none 0 0, .slice none 0 0, .slice none 0 0, .slice none 0 0, .slice none 0 0, .slice none 0 0, .slice none 0 0, .slice none 0 0, .slice none 0 0, .slice none 0 0] T_hollowaybook_Book) →
 ∀ w62 : World, w62 = World.drew w61 →
 ∃ S63 : World → Prop, S63 w62 ∧
 ∃ n64 n65 : Int, ∃ s66 s67 s68 : Sl, ∃ t69 t70 : ByteArray, ∃ n71 n72 n73 : Int, held S63 ⟨b57, 0, none⟩ (.int .i64 n64) ∧ held S63 ⟨b57, 1, none⟩ (.int .i64 n65) ∧ held S63 ⟨b57, 2, none⟩ (s66.val) ∧ held S63 ⟨b57, 3, none⟩ (s67.val) ∧ held S63 ⟨b57, 4, none⟩ (s68.val) ∧ held S63 ⟨b57, 5, none⟩ (.string t69) ∧ held S63 ⟨b57, 6, none⟩ (.string t70) ∧ held S63 ⟨b57, 7, none⟩ (.int .i64 n71) ∧ held S63 ⟨b57, 8, none⟩ (.int .i64 n72) ∧ held S63 ⟨b57, 9, none⟩ (.int .i64 n73) ∧
 ∃ n74 n75 : Int, ∃ s76 s77 s78 : Sl, ∃ t79 t80 : ByteArray, ∃ n81 n82 n83 : Int, held S63 ⟨b57, 0, none⟩ (.int .i64 n74) ∧ held S63 ⟨b57, 1, none⟩ (.int .i64 n75) ∧ held S63 ⟨b57, 2, none⟩ (s76.val) ∧ held S63 ⟨b57, 3, none⟩ (s77.val) ∧ held S63 ⟨b57, 4, none⟩ (s78.val) ∧ held S63 ⟨b57, 5, none⟩ (.string t79) ∧ held S63 ⟨b57, 6, none⟩ (.string t80) ∧ held S63 ⟨b57, 7, none⟩ (.int .i64 n81) ∧ held S63 ⟨b57, 8, none⟩ (.int .i64 n82) ∧ held S63 ⟨b57, 9, none⟩ (.int .i64 n83) ∧
 ∃ Z84 : List (Nat × List Value) → World → Prop, Z84 [] w62 ∧
 (∀ lg85 : List (Nat × List Value), ∀ w86 : World, S63 w86 → Z84 lg85 w86 →
 Calls Tryz.prog fn_record_Loop #[.agg #[.int .i64 n64, .int .i64 n65, s66.val, s67.val, s68.val, .string t69, .string t70, .int .i64 n71, .int .i64 n72, .int .i64 n73], .int .i64 most11] w86 fun e87 w88 => ∃ n89 n90 : Int, ∃ b91 : Bool, ∃ s92 : Sl, e87 = .returned (.agg #[.int .i64 n89, .int .i64 n90, .bool b91, s92.val]) ∧
 S63 w88 ∧ True ∧ Z84 (lg85 ++ [(2, ([.int .i64 n89, .int .i64 n90, .bool b91, s92.val] : List Value))]) w88) ∧
 (∀ lg93 : List (Nat × List Value), ∀ w94 : World, S63 w94 → Z84 lg93 w94 →
 Calls Tryz.prog fn_record_Loop #[.agg #[.int .i64 n74, .int .i64 n75, s76.val, s77.val, s78.val, .string t79, .string t80, .int .i64 n81, .int .i64 n82, .int .i64 n83], .int .i64 most11] w94 fun e95 w96 => ∃ n97 n98 : Int, ∃ b99 : Bool, ∃ s100 : Sl, e95 = .returned (.agg #[.int .i64 n97, .int .i64 n98, .bool b99, s100.val]) ∧
 S63 w96 ∧ True ∧ Z84 (lg93 ++ [(5, ([.int .i64 n97, .int .i64 n98, .bool b99, s100.val] : List Value))]) w96) ∧
 (∀ lg101 : List (Nat × List Value), ∀ w102 : World, S63 w102 → Z84 lg101 w102 →
 ∀ (b103 : Nat) (w104 : World), b103 = w102.heap.size → w104 = World.alloc w102 (.cells #[.int .i64 (0 : Int), .int .i64 (0 : Int), .bool false, .slice none 0 0] T_api_Recording) →
 S63 w104 ∧ True ∧ Z84 (lg101 ++ [(6, ([.pointer (some ⟨b103, 0, none⟩)] : List Value))]) w104) ∧
 (∀ lg105 : List (Nat × List Value), ∀ w106 : World, S63 w106 → Z84 lg105 w106 →
 ∀ (b107 : Nat) (w108 : World), b107 = w106.heap.size → w108 = World.alloc w106 (.cells #[.int .i64 (0 : Int), .int .i64 (0 : Int), .bool false, .slice none 0 0] T_api_Recording) →
 S63 w108 ∧ True ∧ Z84 (lg105 ++ [(7, ([.pointer (some ⟨b107, 0, none⟩)] : List Value))]) w108) ∧
 ∀ lg109 : List (Nat × List Value), ∀ w110 : World, S63 w110 → Z84 lg109 w110 →
 ∀ (n111 : Int) (n112 : Int) (b113 : Bool) (s114 : Sl), (2, ([.int .i64 n111, .int .i64 n112, .bool b113, s114.val] : List Value)) ∈ lg109 →
 ∀ (n115 : Int) (n116 : Int) (b117 : Bool) (s118 : Sl), (5, ([.int .i64 n115, .int .i64 n116, .bool b117, s118.val] : List Value)) ∈ lg109 →
 ∀ (a119 : Nat), (6, ([.pointer (some ⟨a119, 0, none⟩)] : List Value)) ∈ lg109 →
 ∀ (b120 : Nat), (7, ([.pointer (some ⟨b120, 0, none⟩)] : List Value)) ∈ lg109 →
 wrOk w110 ⟨a119, 0, none⟩ 4 ∧ ∀ w121 : World, w121 = stW w110 ⟨a119, 0, none⟩ 0 [.int .i64 n111, .int .i64 n112, .bool b113, s114.val] →
 wrOk w121 ⟨b120, 0, none⟩ 4 ∧ ∀ w122 : World, w122 = stW w121 ⟨b120, 0, none⟩ 0 [.int .i64 n115, .int .i64 n116, .bool b117, s118.val] →
 ∃ s123 : Sl, w122.cell? ⟨a119, 3, none⟩ = some (s123.val) ∧
 Calls Tryz.prog fn_hollowaybook_Book_Seens #[.pointer (some ⟨b60, 0, none⟩), s123.val] w122 fun e124 w125 => e124 = .returned (.tuple #[]) ∧
 ∃ s126 : Sl, w125.cell? ⟨b120, 3, none⟩ = some (s126.val) ∧
 Calls Tryz.prog fn_hollowaybook_Book_Seens #[.pointer (some ⟨b60, 0, none⟩), s126.val] w125 fun e127 w128 => e127 = .returned (.tuple #[]) ∧
 ∃ n129 n130 : Int, ∃ s131 s132 s133 : Sl, ∃ t134 t135 : ByteArray, ∃ n136 n137 n138 : Int, w128.cell? ⟨b12, 0, none⟩ = some (.int .i64 n129) ∧ w128.cell? ⟨b12, 1, none⟩ = some (.int .i64 n130) ∧ w128.cell? ⟨b12, 2, none⟩ = some (s131.val) ∧ w128.cell? ⟨b12, 3, none⟩ = some (s132.val) ∧ w128.cell? ⟨b12, 4, none⟩ = some (s133.val) ∧ w128.cell? ⟨b12, 5, none⟩ = some (.string t134) ∧ w128.cell? ⟨b12, 6, none⟩ = some (.string t135) ∧ w128.cell? ⟨b12, 7, none⟩ = some (.int .i64 n136) ∧ w128.cell? ⟨b12, 8, none⟩ = some (.int .i64 n137) ∧ w128.cell? ⟨b12, 9, none⟩ = some (.int .i64 n138) ∧
 Calls Tryz.prog fn_hollowayref9_Record #[.agg #[.int .i64 n129, .int .i64 n130, s131.val, s132.val, s133.val, .string t134, .string t135, .int .i64 n136, .int .i64 n137, .int .i64 n138], .int .i64 most11] w128 fun e139 w140 => ∃ n141 n142 : Int, ∃ b143 : Bool, ∃ s144 : Sl, e139 = .returned (.agg #[.int .i64 n141, .int .i64 n142, .bool b143, s144.val]) ∧
 ∀ (b145 : Nat) (w146 : World), b145 = w140.heap.size → w146 = World.alloc w140 (.cells #[.int .i64 (0 : Int), .int .i64 (0 : Int), .bool false, .slice none 0 0] T_api_Recording) →
 wrOk w146 ⟨b145, 0, none⟩ 4 ∧ ∀ w147 : World, w147 = stW w146 ⟨b145, 0, none⟩ 0 [.int .i64 n141, .int .i64 n142, .bool b143, s144.val] →
 ∃ J12 : Bool → World → Prop, (∀ (b180 : Bool) (w179 : World), J12 b180 w179 →
 brB b180
 (K (.bool false) w179)
 (∀ w181 : World, w181 = World.drew w179 →
 ∃ S182 : World → Prop, S182 w181 ∧
 ∃ n183 n184 : Int, ∃ b185 : Bool, ∃ s186 : Sl, held S182 ⟨a119, 0, none⟩ (.int .i64 n183) ∧ held S182 ⟨a119, 1, none⟩ (.int .i64 n184) ∧ held S182 ⟨a119, 2, none⟩ (.bool b185) ∧ held S182 ⟨a119, 3, none⟩ (s186.val) ∧
 ∃ n187 n188 : Int, ∃ b189 : Bool, ∃ s190 : Sl, held S182 ⟨b120, 0, none⟩ (.int .i64 n187) ∧ held S182 ⟨b120, 1, none⟩ (.int .i64 n188) ∧ held S182 ⟨b120, 2, none⟩ (.bool b189) ∧ held S182 ⟨b120, 3, none⟩ (s190.val) ∧
 Calls Tryz.prog fn_record_Cells #[.agg #[.int .i64 n183, .int .i64 n184, .bool b185, s186.val]] w181 fun e191 w192 => ∃ s193 : Sl, e191 = .returned (s193.val) ∧
 S182 w192 ∧
 Calls Tryz.prog fn_record_Cells #[.agg #[.int .i64 n187, .int .i64 n188, .bool b189, s190.val]] w192 fun e194 w195 => ∃ s196 : Sl, e194 = .returned (s196.val) ∧
 Calls Tryz.prog fn_hollowaybook_Book_Ints #[.pointer (some ⟨b60, 0, none⟩), s193.val] w195 fun e197 w198 => e197 = .returned (.tuple #[]) ∧
 Calls Tryz.prog fn_hollowaybook_Book_Ints #[.pointer (some ⟨b60, 0, none⟩), s196.val] w198 fun e199 w200 => e199 = .returned (.tuple #[]) ∧
 ∃ n201 n202 : Int, ∃ s203 s204 s205 : Sl, ∃ t206 t207 : ByteArray, ∃ n208 n209 n210 : Int, w200.cell? ⟨b12, 0, none⟩ = some (.int .i64 n201) ∧ w200.cell? ⟨b12, 1, none⟩ = some (.int .i64 n202) ∧ w200.cell? ⟨b12, 2, none⟩ = some (s203.val) ∧ w200.cell? ⟨b12, 3, none⟩ = some (s204.val) ∧ w200.cell? ⟨b12, 4, none⟩ = some (s205.val) ∧ w200.cell? ⟨b12, 5, none⟩ = some (.string t206) ∧ w200.cell? ⟨b12, 6, none⟩ = some (.string t207) ∧ w200.cell? ⟨b12, 7, none⟩ = some (.int .i64 n208) ∧ w200.cell? ⟨b12, 8, none⟩ = some (.int .i64 n209) ∧ w200.cell? ⟨b12, 9, none⟩ = some (.int .i64 n210) ∧
 ∀ (b211 : Nat) (w212 : World), b211 = w200.heap.size → w212 = World.alloc w200 (.cells #[.int .i64 (0 : Int), .int .i64 (0 : Int), .slice none 0 0, .slice none 0 0, .slice none 0 0, .string (bs []), .string (bs []), .int .i64 (0 : Int), .int .i64 (0 : Int), .int .i64 (0 : Int)] T_api_State) →
 wrOk w212 ⟨b211, 0, none⟩ 10 ∧ ∀ w213 : World, w213 = stW w212 ⟨b211, 0, none⟩ 0 [.int .i64 n201, .int .i64 n202, s203.val, s204.val, s205.val, .string t206, .string t207, .int .i64 n208, .int .i64 n209, .int .i64 n210] →
 ∃ (I1 : Int → World → Prop) (μ1 : Int → World → Nat), I1 (0 : Int) w213 ∧ ∀ (i215 : Int) (w214 : World), I1 i215 w214 →
 ∃ s216 : Sl, w214.cell? ⟨b145, 3, none⟩ = some (s216.val) ∧
 brB (decide (i215 < (s216.len : Int)))
 (∃ n217 n218 : Int, ∃ s219 s220 s221 : Sl, ∃ t222 t223 : ByteArray, ∃ n224 n225 n226 : Int, w214.cell? ⟨b211, 0, none⟩ = some (.int .i64 n217) ∧ w214.cell? ⟨b211, 1, none⟩ = some (.int .i64 n218) ∧ w214.cell? ⟨b211, 2, none⟩ = some (s219.val) ∧ w214.cell? ⟨b211, 3, none⟩ = some (s220.val) ∧ w214.cell? ⟨b211, 4, none⟩ = some (s221.val) ∧ w214.cell? ⟨b211, 5, none⟩ = some (.string t222) ∧ w214.cell? ⟨b211, 6, none⟩ = some (.string t223) ∧ w214.cell? ⟨b211, 7, none⟩ = some (.int .i64 n224) ∧ w214.cell? ⟨b211, 8, none⟩ = some (.int .i64 n225) ∧ w214.cell? ⟨b211, 9, none⟩ = some (.int .i64 n226) ∧
 Calls Tryz.prog fn_hollowayref9_Step #[.agg #[.int .i64 n217, .int .i64 n218, s219.val, s220.val, s221.val, .string t222, .string t223, .int .i64 n224, .int .i64 n225, .int .i64 n226]] w214 fun e227 w228 => ∃ n229 n230 : Int, ∃ s231 s232 s233 : Sl, ∃ t234 t235 : ByteArray, ∃ n236 n237 n238 : Int, e227 = .returned (.agg #[.int .i64 n229, .int .i64 n230, s231.val, s232.val, s233.val, .string t234, .string t235, .int .i64 n236, .int .i64 n237, .int .i64 n238]) ∧
 wrOk w228 ⟨b211, 0, none⟩ 10 ∧ ∀ w239 : World, w239 = stW w228 ⟨b211, 0, none⟩ 0 [.int .i64 n229, .int .i64 n230, s231.val, s232.val, s233.val, .string t234, .string t235, .int .i64 n236, .int .i64 n237, .int .i64 n238] →
 I1 (wr (i215 + (1 : Int))) w239 ∧ μ1 (wr (i215 + (1 : Int))) w239 < μ1 i215 w214)
 (∃ n240 n241 : Int, ∃ s242 s243 s244 : Sl, ∃ t245 t246 : ByteArray, ∃ n247 n248 n249 : Int, w214.cell? ⟨b57, 0, none⟩ = some (.int .i64 n240) ∧ w214.cell? ⟨b57, 1, none⟩ = some (.int .i64 n241) ∧ w214.cell? ⟨b57, 2, none⟩ = some (s242.val) ∧ w214.cell? ⟨b57, 3, none⟩ = some (s243.val) ∧ w214.cell? ⟨b57, 4, none⟩ = some (s244.val) ∧ w214.cell? ⟨b57, 5, none⟩ = some (.string t245) ∧ w214.cell? ⟨b57, 6, none⟩ = some (.string t246) ∧ w214.cell? ⟨b57, 7, none⟩ = some (.int .i64 n247) ∧ w214.cell? ⟨b57, 8, none⟩ = some (.int .i64 n248) ∧ w214.cell? ⟨b57, 9, none⟩ = some (.int .i64 n249) ∧
 ∃ n250 n251 : Int, ∃ b252 : Bool, ∃ s253 : Sl, w214.cell? ⟨a119, 0, none⟩ = some (.int .i64 n250) ∧ w214.cell? ⟨a119, 1, none⟩ = some (.int .i64 n251) ∧ w214.cell? ⟨a119, 2, none⟩ = some (.bool b252) ∧ w214.cell? ⟨a119, 3, none⟩ = some (s253.val) ∧
 Calls Tryz.prog fn_record_After #[.agg #[.int .i64 n240, .int .i64 n241, s242.val, s243.val, s244.val, .string t245, .string t246, .int .i64 n247, .int .i64 n248, .int .i64 n249], .agg #[.int .i64 n250, .int .i64 n251, .bool b252, s253.val]] w214 fun e254 w255 => ∃ n256 n257 : Int, ∃ s258 s259 s260 : Sl, ∃ t261 t262 : ByteArray, ∃ n263 n264 n265 : Int, e254 = .returned (.agg #[.int .i64 n256, .int .i64 n257, s258.val, s259.val, s260.val, .string t261, .string t262, .int .i64 n263, .int .i64 n264, .int .i64 n265]) ∧
 ∀ (b266 : Nat) (w267 : World), b266 = w255.heap.size → w267 = World.alloc w255 (.cells #[.int .i64 (0 : Int), .int .i64 (0 : Int), .slice none 0 0, .slice none 0 0, .slice none 0 0, .string (bs []), .string (bs []), .int .i64 (0 : Int), .int .i64 (0 : Int), .int .i64 (0 : Int)] T_api_State) →
 wrOk w267 ⟨b266, 0, none⟩ 10 ∧ ∀ w268 : World, w268 = stW w267 ⟨b266, 0, none⟩ 0 [.int .i64 n256, .int .i64 n257, s258.val, s259.val, s260.val, .string t261, .string t262, .int .i64 n263, .int .i64 n264, .int .i64 n265] →
 ∃ n269 n270 : Int, ∃ s271 s272 s273 : Sl, ∃ t274 t275 : ByteArray, ∃ n276 n277 n278 : Int, w268.cell? ⟨b266, 0, none⟩ = some (.int .i64 n269) ∧ w268.cell? ⟨b266, 1, none⟩ = some (.int .i64 n270) ∧ w268.cell? ⟨b266, 2, none⟩ = some (s271.val) ∧ w268.cell? ⟨b266, 3, none⟩ = some (s272.val) ∧ w268.cell? ⟨b266, 4, none⟩ = some (s273.val) ∧ w268.cell? ⟨b266, 5, none⟩ = some (.string t274) ∧ w268.cell? ⟨b266, 6, none⟩ = some (.string t275) ∧ w268.cell? ⟨b266, 7, none⟩ = some (.int .i64 n276) ∧ w268.cell? ⟨b266, 8, none⟩ = some (.int .i64 n277) ∧ w268.cell? ⟨b266, 9, none⟩ = some (.int .i64 n278) ∧
 Calls Tryz.prog fn_hollowaybook_Book_State #[.pointer (some ⟨b60, 0, none⟩), .agg #[.int .i64 n269, .int .i64 n270, s271.val, s272.val, s273.val, .string t274, .string t275, .int .i64 n276, .int .i64 n277, .int .i64 n278]] w268 fun e279 w280 => e279 = .returned (.tuple #[]) ∧
 ∃ n281 n282 : Int, ∃ b283 : Bool, ∃ s284 : Sl, w280.cell? ⟨b145, 0, none⟩ = some (.int .i64 n281) ∧ w280.cell? ⟨b145, 1, none⟩ = some (.int .i64 n282) ∧ w280.cell? ⟨b145, 2, none⟩ = some (.bool b283) ∧ w280.cell? ⟨b145, 3, none⟩ = some (s284.val) ∧
 Calls Tryz.prog fn_hollowayref9_Cells #[.agg #[.int .i64 n281, .int .i64 n282, .bool b283, s284.val]] w280 fun e285 w286 => ∃ s287 : Sl, e285 = .returned (s287.val) ∧
 Calls Tryz.prog fn_hollowaybook_SameInts #[s193.val, s287.val] w286 fun e288 w289 => ∃ b290 : Bool, e288 = .returned (.bool b290) ∧
 brB b290
 (∃ n291 n292 : Int, ∃ s293 s294 s295 : Sl, ∃ t296 t297 : ByteArray, ∃ n298 n299 n300 : Int, w289.cell? ⟨b266, 0, none⟩ = some (.int .i64 n291) ∧ w289.cell? ⟨b266, 1, none⟩ = some (.int .i64 n292) ∧ w289.cell? ⟨b266, 2, none⟩ = some (s293.val) ∧ w289.cell? ⟨b266, 3, none⟩ = some (s294.val) ∧ w289.cell? ⟨b266, 4, none⟩ = some (s295.val) ∧ w289.cell? ⟨b266, 5, none⟩ = some (.string t296) ∧ w289.cell? ⟨b266, 6, none⟩ = some (.string t297) ∧ w289.cell? ⟨b266, 7, none⟩ = some (.int .i64 n298) ∧ w289.cell? ⟨b266, 8, none⟩ = some (.int .i64 n299) ∧ w289.cell? ⟨b266, 9, none⟩ = some (.int .i64 n300) ∧
 ∃ n301 n302 : Int, ∃ s303 s304 s305 : Sl, ∃ t306 t307 : ByteArray, ∃ n308 n309 n310 : Int, w289.cell? ⟨b211, 0, none⟩ = some (.int .i64 n301) ∧ w289.cell? ⟨b211, 1, none⟩ = some (.int .i64 n302) ∧ w289.cell? ⟨b211, 2, none⟩ = some (s303.val) ∧ w289.cell? ⟨b211, 3, none⟩ = some (s304.val) ∧ w289.cell? ⟨b211, 4, none⟩ = some (s305.val) ∧ w289.cell? ⟨b211, 5, none⟩ = some (.string t306) ∧ w289.cell? ⟨b211, 6, none⟩ = some (.string t307) ∧ w289.cell? ⟨b211, 7, none⟩ = some (.int .i64 n308) ∧ w289.cell? ⟨b211, 8, none⟩ = some (.int .i64 n309) ∧ w289.cell? ⟨b211, 9, none⟩ = some (.int .i64 n310) ∧
 Calls Tryz.prog fn_hollowaybook_SameState #[.agg #[.int .i64 n291, .int .i64 n292, s293.val, s294.val, s295.val, .string t296, .string t297, .int .i64 n298, .int .i64 n299, .int .i64 n300], .agg #[.int .i64 n301, .int .i64 n302, s303.val, s304.val, s305.val, .string t306, .string t307, .int .i64 n308, .int .i64 n309, .int .i64 n310]] w289 fun e311 w312 => ∃ b313 : Bool, e311 = .returned (.bool b313) ∧
 brB b313
 (∃ n314 n315 : Int, ∃ s316 s317 s318 : Sl, ∃ t319 t320 : ByteArray, ∃ n321 n322 n323 : Int, w312.cell? ⟨b57, 0, none⟩ = some (.int .i64 n314) ∧ w312.cell? ⟨b57, 1, none⟩ = some (.int .i64 n315) ∧ w312.cell? ⟨b57, 2, none⟩ = some (s316.val) ∧ w312.cell? ⟨b57, 3, none⟩ = some (s317.val) ∧ w312.cell? ⟨b57, 4, none⟩ = some (s318.val) ∧ w312.cell? ⟨b57, 5, none⟩ = some (.string t319) ∧ w312.cell? ⟨b57, 6, none⟩ = some (.string t320) ∧ w312.cell? ⟨b57, 7, none⟩ = some (.int .i64 n321) ∧ w312.cell? ⟨b57, 8, none⟩ = some (.int .i64 n322) ∧ w312.cell? ⟨b57, 9, none⟩ = some (.int .i64 n323) ∧
 ∃ n324 n325 : Int, ∃ s326 s327 s328 : Sl, ∃ t329 t330 : ByteArray, ∃ n331 n332 n333 : Int, w312.cell? ⟨b12, 0, none⟩ = some (.int .i64 n324) ∧ w312.cell? ⟨b12, 1, none⟩ = some (.int .i64 n325) ∧ w312.cell? ⟨b12, 2, none⟩ = some (s326.val) ∧ w312.cell? ⟨b12, 3, none⟩ = some (s327.val) ∧ w312.cell? ⟨b12, 4, none⟩ = some (s328.val) ∧ w312.cell? ⟨b12, 5, none⟩ = some (.string t329) ∧ w312.cell? ⟨b12, 6, none⟩ = some (.string t330) ∧ w312.cell? ⟨b12, 7, none⟩ = some (.int .i64 n331) ∧ w312.cell? ⟨b12, 8, none⟩ = some (.int .i64 n332) ∧ w312.cell? ⟨b12, 9, none⟩ = some (.int .i64 n333) ∧
 Calls Tryz.prog fn_hollowaybook_StaysState #[.agg #[.int .i64 n314, .int .i64 n315, s316.val, s317.val, s318.val, .string t319, .string t320, .int .i64 n321, .int .i64 n322, .int .i64 n323], .agg #[.int .i64 n324, .int .i64 n325, s326.val, s327.val, s328.val, .string t329, .string t330, .int .i64 n331, .int .i64 n332, .int .i64 n333]] w312 fun e334 w335 => ∃ b336 : Bool, e334 = .returned (.bool b336) ∧
 brB b336
 (Calls Tryz.prog fn_hollowaybook_Book_Apart #[.pointer (some ⟨b60, 0, none⟩)] w335 fun e337 w338 => ∃ b339 : Bool, e337 = .returned (.bool b339) ∧
 K (.bool b339) w338)
 (K (.bool false) w335))
 (K (.bool false) w312))
 (K (.bool false) w289)))) ∧
 ∃ n148 n149 : Int, ∃ b150 : Bool, ∃ s151 : Sl, w147.cell? ⟨a119, 0, none⟩ = some (.int .i64 n148) ∧ w147.cell? ⟨a119, 1, none⟩ = some (.int .i64 n149) ∧ w147.cell? ⟨a119, 2, none⟩ = some (.bool b150) ∧ w147.cell? ⟨a119, 3, none⟩ = some (s151.val) ∧
 ∃ n152 n153 : Int, ∃ b154 : Bool, ∃ s155 : Sl, w147.cell? ⟨b145, 0, none⟩ = some (.int .i64 n152) ∧ w147.cell? ⟨b145, 1, none⟩ = some (.int .i64 n153) ∧ w147.cell? ⟨b145, 2, none⟩ = some (.bool b154) ∧ w147.cell? ⟨b145, 3, none⟩ = some (s155.val) ∧
 Calls Tryz.prog fn_hollowaylaw13_same #[.agg #[.int .i64 n148, .int .i64 n149, .bool b150, s151.val], .agg #[.int .i64 n152, .int .i64 n153, .bool b154, s155.val]] w147 fun e156 w157 => ∃ b158 : Bool, e156 = .returned (.bool b158) ∧
 brB (!b158)
 (J12 true w157)
 (∃ n159 n160 : Int, ∃ b161 : Bool, ∃ s162 : Sl, w157.cell? ⟨b120, 0, none⟩ = some (.int .i64 n159) ∧ w157.cell? ⟨b120, 1, none⟩ = some (.int .i64 n160) ∧ w157.cell? ⟨b120, 2, none⟩ = some (.bool b161) ∧ w157.cell? ⟨b120, 3, none⟩ = some (s162.val) ∧
 ∃ n163 n164 : Int, ∃ b165 : Bool, ∃ s166 : Sl, w157.cell? ⟨b145, 0, none⟩ = some (.int .i64 n163) ∧ w157.cell? ⟨b145, 1, none⟩ = some (.int .i64 n164) ∧ w157.cell? ⟨b145, 2, none⟩ = some (.bool b165) ∧ w157.cell? ⟨b145, 3, none⟩ = some (s166.val) ∧
 Calls Tryz.prog fn_hollowaylaw13_same #[.agg #[.int .i64 n159, .int .i64 n160, .bool b161, s162.val], .agg #[.int .i64 n163, .int .i64 n164, .bool b165, s166.val]] w157 fun e167 w168 => ∃ b169 : Bool, e167 = .returned (.bool b169) ∧
 brB (!b169)
 (J12 true w168)
 (∃ n170 : Int, w168.cell? ⟨b12, 0, none⟩ = some (.int .i64 n170) ∧
 brB (decide (n170 ≥ (0 : Int)))
 (∃ n171 : Int, w168.cell? ⟨b12, 0, none⟩ = some (.int .i64 n171) ∧
 brB (decide (n171 < (3000 : Int)))
 (∃ n172 n173 : Int, ∃ b174 : Bool, ∃ s175 : Sl, w168.cell? ⟨a119, 0, none⟩ = some (.int .i64 n172) ∧ w168.cell? ⟨a119, 1, none⟩ = some (.int .i64 n173) ∧ w168.cell? ⟨a119, 2, none⟩ = some (.bool b174) ∧ w168.cell? ⟨a119, 3, none⟩ = some (s175.val) ∧
 Calls Tryz.prog fn_record_Right #[.agg #[.int .i64 n172, .int .i64 n173, .bool b174, s175.val]] w168 fun e176 w177 => ∃ b178 : Bool, e176 = .returned (.bool b178) ∧
 J12 (!b178) w177)
 (J12 false w168))
 (J12 false w168))))) ∧
 ∃ n14 n15 : Int, ∃ s16 s17 s18 : Sl, ∃ t19 t20 : ByteArray, ∃ n21 n22 n23 : Int, w13.cell? ⟨b12, 0, none⟩ = some (.int .i64 n14) ∧ w13.cell? ⟨b12, 1, none⟩ = some (.int .i64 n15) ∧ w13.cell? ⟨b12, 2, none⟩ = some (s16.val) ∧ w13.cell? ⟨b12, 3, none⟩ = some (s17.val) ∧ w13.cell? ⟨b12, 4, none⟩ = some (s18.val) ∧ w13.cell? ⟨b12, 5, none⟩ = some (.string t19) ∧ w13.cell? ⟨b12, 6, none⟩ = some (.string t20) ∧ w13.cell? ⟨b12, 7, none⟩ = some (.int .i64 n21) ∧ w13.cell? ⟨b12, 8, none⟩ = some (.int .i64 n22) ∧ w13.cell? ⟨b12, 9, none⟩ = some (.int .i64 n23) ∧
 Calls Tryz.prog fn_hollowaylaw9_Light #[.agg #[.int .i64 n14, .int .i64 n15, s16.val, s17.val, s18.val, .string t19, .string t20, .int .i64 n21, .int .i64 n22, .int .i64 n23]] w13 fun e24 w25 => ∃ b26 : Bool, e24 = .returned (.bool b26) ∧
 brB (!b26)
 (J3 true w25)
 (Calls Tryz.prog fn_hollowaylaw13_alive #[] w25 fun e27 w28 => ∃ b29 : Bool, e27 = .returned (.bool b29) ∧
 J3 (!b29) w28)
def hollowaylaw13_RecordTells_an : An := ⟨[(16, [(13, .int .i64)])], [(5, (8, .st 0 (.st 1 (.st 3 (.st 4 (.log [(2, true, [.int .i64, .int .i64, .bool, .sl]), (5, true, [.int .i64, .int .i64, .bool, .sl]), (6, false, [.blk]), (7, false, [.blk])] (.done))))), 1)), (11, (3, .st 0 (.st 2 (.ef 1 .done)), 1))], [(2, [(21, .bool)]), (10, [(68, .bool)])]⟩
theorem hollowaylaw13_RecordTells_lift {s1 : Int} {s2 : Int} {s3 : Sl} {s4 : Sl} {s5 : Sl} {s6 : ByteArray} {s7 : ByteArray} {s8 : Int} {s9 : Int} {s10 : Int} {most11 : Int} {w : World} {K : Value → World → Prop} (h : hollowaylaw13_RecordTells_sh s1 s2 s3 s4 s5 s6 s7 s8 s9 s10 most11 w K) : Calls Tryz.prog fn_hollowaylaw13_RecordTells #[.agg #[.int .i64 s1, .int .i64 s2, s3.val, s4.val, s5.val, .string s6, .string s7, .int .i64 s8, .int .i64 s9, .int .i64 s10], .int .i64 most11] w fun e w' => ∃ v, e = .returned v ∧ K v w' :=
   lift_calls (A := hollowaylaw13_RecordTells_an) (c := bodyOf Tryz.f7) (args := [.agg #[.int .i64 s1, .int .i64 s2, s3.val, s4.val, s5.val, .string s6, .string s7, .int .i64 s8, .int .i64 s9, .int .i64 s10], .int .i64 most11]) orc orc_wide Tryz.func7 (by kernel_rfl) (by kernel_rfl) (Eq.mp (by kernel_rfl : hollowaylaw13_RecordTells_sh s1 s2 s3 s4 s5 s6 s7 s8 s9 s10 most11 w K = wpc orc Tryz.f7.ntmps hollowaylaw13_RecordTells_an (bodyOf Tryz.f7) (argl 0 [.agg #[.int .i64 s1, .int .i64 s2, s3.val, s4.val, s5.val, .string s6, .string s7, .int .i64 s8, .int .i64 s9, .int .i64 s10], .int .i64 most11]) w (retQ orc Tryz.f7.results.toList K)) h)

def hollowaylaw13_alive_sh  (w : World) (K : Value → World → Prop) : Prop :=
 Calls Tryz.prog fn_hollowayref9_Boot #[.int .i64 (300 : Int), .string (bs [])] w fun e1 w2 => ∃ n3 n4 : Int, ∃ s5 s6 s7 : Sl, ∃ t8 t9 : ByteArray, ∃ n10 n11 n12 : Int, e1 = .returned (.agg #[.int .i64 n3, .int .i64 n4, s5.val, s6.val, s7.val, .string t8, .string t9, .int .i64 n10, .int .i64 n11, .int .i64 n12]) ∧
 Calls Tryz.prog fn_hollowayref9_Enter #[.agg #[.int .i64 n3, .int .i64 n4, s5.val, s6.val, s7.val, .string t8, .string t9, .int .i64 n10, .int .i64 n11, .int .i64 n12], .int .i64 (200 : Int)] w2 fun e13 w14 => ∃ n15 n16 : Int, ∃ s17 s18 s19 : Sl, ∃ t20 t21 : ByteArray, ∃ n22 n23 n24 : Int, e13 = .returned (.agg #[.int .i64 n15, .int .i64 n16, s17.val, s18.val, s19.val, .string t20, .string t21, .int .i64 n22, .int .i64 n23, .int .i64 n24]) ∧
 ∀ (b25 : Nat) (w26 : World), b25 = w14.heap.size → w26 = World.alloc w14 (.cells #[.int .i64 (0 : Int), .int .i64 (0 : Int), .slice none 0 0, .slice none 0 0, .slice none 0 0, .string (bs []), .string (bs []), .int .i64 (0 : Int), .int .i64 (0 : Int), .int .i64 (0 : Int)] T_api_State) →
 wrOk w26 ⟨b25, 0, none⟩ 10 ∧ ∀ w27 : World, w27 = stW w26 ⟨b25, 0, none⟩ 0 [.int .i64 n15, .int .i64 n16, s17.val, s18.val, s19.val, .string t20, .string t21, .int .i64 n22, .int .i64 n23, .int .i64 n24] →
 ∀ w28 : World, w28 = World.drew w27 →
 ∃ S29 : World → Prop, S29 w28 ∧
 ∃ s30 : Sl, held S29 ⟨b25, 4, none⟩ (s30.val) ∧
 ∃ s31 : Sl, held S29 ⟨b25, 4, none⟩ (s31.val) ∧
 ∃ s32 : Sl, held S29 ⟨b25, 4, none⟩ (s32.val) ∧
 ∃ s33 : Sl, held S29 ⟨b25, 4, none⟩ (s33.val) ∧
 ∃ a34 : Addr, s30.ptr = some a34 ∧ 0 ≤ (200 : Int) ∧ (200 : Int) < (s30.len : Int) ∧
 wrOk w28 (Addr.add a34 (Int.toNat (200 : Int) * 1)) 1 ∧ ∀ w35 : World, w35 = stW w28 (Addr.add a34 (Int.toNat (200 : Int) * 1)) 0 [.int .i64 (6 : Int)] →
 S29 w35 ∧
 ∃ a36 : Addr, s31.ptr = some a36 ∧ 0 ≤ (201 : Int) ∧ (201 : Int) < (s31.len : Int) ∧
 wrOk w35 (Addr.add a36 (Int.toNat (201 : Int) * 1)) 1 ∧ ∀ w37 : World, w37 = stW w35 (Addr.add a36 (Int.toNat (201 : Int) * 1)) 0 [.int .i64 (7 : Int)] →
 S29 w37 ∧
 ∃ a38 : Addr, s32.ptr = some a38 ∧ 0 ≤ (202 : Int) ∧ (202 : Int) < (s32.len : Int) ∧
 wrOk w37 (Addr.add a38 (Int.toNat (202 : Int) * 1)) 1 ∧ ∀ w39 : World, w39 = stW w37 (Addr.add a38 (Int.toNat (202 : Int) * 1)) 0 [.int .i64 (3 : Int)] →
 S29 w39 ∧
 ∃ a40 : Addr, s33.ptr = some a40 ∧ 0 ≤ (203 : Int) ∧ (203 : Int) < (s33.len : Int) ∧
 wrOk w39 (Addr.add a40 (Int.toNat (203 : Int) * 1)) 1 ∧ ∀ w41 : World, w41 = stW w39 (Addr.add a40 (Int.toNat (203 : Int) * 1)) 0 [.int .i64 (200 : Int)] →
 ∀ (b42 : Nat) (w43 : World), b42 = w41.heap.size → w43 = World.alloc w41 (.cells #[.int .i64 (1 : Int)] T_int) →
 wrOk w43 ⟨b25, 2, none⟩ 1 ∧ ∀ w44 : World, w44 = stW w43 ⟨b25, 2, none⟩ 0 [.slice (some ⟨b42, 0, none⟩) 1 1] →
 ∃ n45 n46 : Int, ∃ s47 s48 s49 : Sl, ∃ t50 t51 : ByteArray, ∃ n52 n53 n54 : Int, w44.cell? ⟨b25, 0, none⟩ = some (.int .i64 n45) ∧ w44.cell? ⟨b25, 1, none⟩ = some (.int .i64 n46) ∧ w44.cell? ⟨b25, 2, none⟩ = some (s47.val) ∧ w44.cell? ⟨b25, 3, none⟩ = some (s48.val) ∧ w44.cell? ⟨b25, 4, none⟩ = some (s49.val) ∧ w44.cell? ⟨b25, 5, none⟩ = some (.string t50) ∧ w44.cell? ⟨b25, 6, none⟩ = some (.string t51) ∧ w44.cell? ⟨b25, 7, none⟩ = some (.int .i64 n52) ∧ w44.cell? ⟨b25, 8, none⟩ = some (.int .i64 n53) ∧ w44.cell? ⟨b25, 9, none⟩ = some (.int .i64 n54) ∧
 Calls Tryz.prog fn_record_Loop #[.agg #[.int .i64 n45, .int .i64 n46, s47.val, s48.val, s49.val, .string t50, .string t51, .int .i64 n52, .int .i64 n53, .int .i64 n54], .int .i64 (9 : Int)] w44 fun e55 w56 => ∃ n57 n58 : Int, ∃ b59 : Bool, ∃ s60 : Sl, e55 = .returned (.agg #[.int .i64 n57, .int .i64 n58, .bool b59, s60.val]) ∧
 ∀ (b61 : Nat) (w62 : World), b61 = w56.heap.size → w62 = World.alloc w56 (.cells #[.int .i64 (0 : Int), .int .i64 (0 : Int), .bool false, .slice none 0 0] T_api_Recording) →
 wrOk w62 ⟨b61, 0, none⟩ 4 ∧ ∀ w63 : World, w63 = stW w62 ⟨b61, 0, none⟩ 0 [.int .i64 n57, .int .i64 n58, .bool b59, s60.val] →
 ∃ b64 : Bool, w63.cell? ⟨b61, 2, none⟩ = some (.bool b64) ∧
 brB b64
 (∃ s65 : Sl, w63.cell? ⟨b61, 3, none⟩ = some (s65.val) ∧
 brB ((s65.len : Int) == (3 : Int))
 (∃ n66 : Int, w63.cell? ⟨b61, 0, none⟩ = some (.int .i64 n66) ∧
 brB (n66 == (200 : Int))
 (∃ n67 : Int, w63.cell? ⟨b61, 1, none⟩ = some (.int .i64 n67) ∧
 brB (n67 == (200 : Int))
 (∃ s68 : Sl, w63.cell? ⟨b61, 3, none⟩ = some (s68.val) ∧
 ∃ a69 : Addr, s68.ptr = some a69 ∧ 0 ≤ (2 : Int) ∧ (2 : Int) < (s68.len : Int) ∧
 ∃ n70 n71 : Int, ∃ n72 n73 : Int, w63.cell? (Addr.add a69 (Int.toNat (2 : Int) * 4)) = some (.int .i64 n70) ∧ w63.cell? (Addr.add (Addr.add a69 (Int.toNat (2 : Int) * 4)) 1) = some (.int .i64 n71) ∧ w63.cell? (Addr.add (Addr.add a69 (Int.toNat (2 : Int) * 4)) 2) = some (.int .i64 n72) ∧ w63.cell? (Addr.add (Addr.add a69 (Int.toNat (2 : Int) * 4)) 3) = some (.int .i64 n73) ∧
 ∃ b74 : Bool, ∃ w75 : World, ((do eqGuard .eql T_api_Seen (.tmp 43) (.tmp 44) (.agg #[.int .i64 n70, .int .i64 n71, .int .i64 n72, .int .i64 n73]) (.agg #[.int .i64 (202 : Int), .int .i64 (3 : Int), .int .i64 (200 : Int), .int .i64 (200 : Int)]); binOp .eql T_api_Seen (.agg #[.int .i64 n70, .int .i64 n71, .int .i64 n72, .int .i64 n73]) (.agg #[.int .i64 (202 : Int), .int .i64 (3 : Int), .int .i64 (200 : Int), .int .i64 (200 : Int)]) : Sem Value)).run Tryz.prog w63 = .ok (.bool b74) w75 ∧
 brB b74
 (∃ n76 n77 : Int, ∃ b78 : Bool, ∃ s79 : Sl, w75.cell? ⟨b61, 0, none⟩ = some (.int .i64 n76) ∧ w75.cell? ⟨b61, 1, none⟩ = some (.int .i64 n77) ∧ w75.cell? ⟨b61, 2, none⟩ = some (.bool b78) ∧ w75.cell? ⟨b61, 3, none⟩ = some (s79.val) ∧
 Calls Tryz.prog fn_record_Right #[.agg #[.int .i64 n76, .int .i64 n77, .bool b78, s79.val]] w75 fun e80 w81 => ∃ b82 : Bool, e80 = .returned (.bool b82) ∧
 K (.bool b82) w81)
 (K (.bool false) w75))
 (K (.bool false) w63))
 (K (.bool false) w63))
 (K (.bool false) w63))
 (K (.bool false) w63)
def hollowaylaw13_alive_an : An := ⟨[], [(2, (14, .st 0 (.st 1 (.st 2 (.st 3 (.st 4 (.st 5 (.st 6 (.st 7 (.st 8 (.ef 9 (.st 10 (.ef 11 (.st 12 (.ef 13 .done))))))))))))), 1))], []⟩
theorem hollowaylaw13_alive_lift  {w : World} {K : Value → World → Prop} (h : hollowaylaw13_alive_sh  w K) : Calls Tryz.prog fn_hollowaylaw13_alive #[] w fun e w' => ∃ v, e = .returned v ∧ K v w' :=
   lift_calls (A := hollowaylaw13_alive_an) (c := bodyOf Tryz.f28) (args := []) orc orc_wide Tryz.func28 (by kernel_rfl) (by kernel_rfl) (Eq.mp (by kernel_rfl : hollowaylaw13_alive_sh  w K = wpc orc Tryz.f28.ntmps hollowaylaw13_alive_an (bodyOf Tryz.f28) (argl 0 []) w (retQ orc Tryz.f28.results.toList K)) h)

def hollowaylaw13_same_sh (a1 : Int) (a2 : Int) (a3 : Bool) (a4 : Sl) (b5 : Int) (b6 : Int) (b7 : Bool) (b8 : Sl) (w : World) (K : Value → World → Prop) : Prop :=
 ∀ (b9 : Nat) (w10 : World), b9 = w.heap.size → w10 = World.alloc w (.cells #[.int .i64 a1, .int .i64 a2, .bool a3, a4.val] T_api_Recording) →
 ∀ (b11 : Nat) (w12 : World), b11 = w10.heap.size → w12 = World.alloc w10 (.cells #[.int .i64 b5, .int .i64 b6, .bool b7, b8.val] T_api_Recording) →
 ∃ n13 : Int, w12.cell? ⟨b9, 0, none⟩ = some (.int .i64 n13) ∧
 ∃ n14 : Int, w12.cell? ⟨b11, 0, none⟩ = some (.int .i64 n14) ∧
 brB (n13 == n14)
 (∃ n15 : Int, w12.cell? ⟨b9, 1, none⟩ = some (.int .i64 n15) ∧
 ∃ n16 : Int, w12.cell? ⟨b11, 1, none⟩ = some (.int .i64 n16) ∧
 brB (n15 == n16)
 (∃ b17 : Bool, w12.cell? ⟨b9, 2, none⟩ = some (.bool b17) ∧
 ∃ b18 : Bool, w12.cell? ⟨b11, 2, none⟩ = some (.bool b18) ∧
 brB (b17 == b18)
 (∃ s19 : Sl, w12.cell? ⟨b9, 3, none⟩ = some (s19.val) ∧
 ∃ s20 : Sl, w12.cell? ⟨b11, 3, none⟩ = some (s20.val) ∧
 Calls Tryz.prog fn_hollowaybook_SameSeens #[s19.val, s20.val] w12 fun e21 w22 => ∃ b23 : Bool, e21 = .returned (.bool b23) ∧
 K (.bool b23) w22)
 (K (.bool false) w12))
 (K (.bool false) w12))
 (K (.bool false) w12)
def hollowaylaw13_same_an : An := ⟨[], [], []⟩
theorem hollowaylaw13_same_lift {a1 : Int} {a2 : Int} {a3 : Bool} {a4 : Sl} {b5 : Int} {b6 : Int} {b7 : Bool} {b8 : Sl} {w : World} {K : Value → World → Prop} (h : hollowaylaw13_same_sh a1 a2 a3 a4 b5 b6 b7 b8 w K) : Calls Tryz.prog fn_hollowaylaw13_same #[.agg #[.int .i64 a1, .int .i64 a2, .bool a3, a4.val], .agg #[.int .i64 b5, .int .i64 b6, .bool b7, b8.val]] w fun e w' => ∃ v, e = .returned v ∧ K v w' :=
   lift_calls (A := hollowaylaw13_same_an) (c := bodyOf Tryz.f35) (args := [.agg #[.int .i64 a1, .int .i64 a2, .bool a3, a4.val], .agg #[.int .i64 b5, .int .i64 b6, .bool b7, b8.val]]) orc orc_wide Tryz.func35 (by kernel_rfl) (by kernel_rfl) (Eq.mp (by kernel_rfl : hollowaylaw13_same_sh a1 a2 a3 a4 b5 b6 b7 b8 w K = wpc orc Tryz.f35.ntmps hollowaylaw13_same_an (bodyOf Tryz.f35) (argl 0 [.agg #[.int .i64 a1, .int .i64 a2, .bool a3, a4.val], .agg #[.int .i64 b5, .int .i64 b6, .bool b7, b8.val]]) w (retQ orc Tryz.f35.results.toList K)) h)

end Go.Proofs.YtkjpmkopnkkbmaaGreatDoor

/- Lists of recorded steps, held against each other; which recordings may be; the first call of chapter 13's statements; RecordMost. -/
set_option maxRecDepth 100000
namespace Go.Proofs.YtkjpmkopnkkbmaaGreatDoor
open Go.RowKit

theorem sn_eql (x y : SnV) (a b : Operand) (w : World) : ((do eqGuard .eql T_api_Seen a b (.agg (seC x).toArray) (.agg (seC y).toArray); binOp .eql T_api_Seen (.agg (seC x).toArray) (.agg (seC y).toArray) : Sem Value)).run Tryz.prog w = .ok (.bool (decide (x.ip = y.ip ∧ x.cell = y.cell ∧ x.arg = y.arg ∧ x.next = y.next))) w := by
  have u1 := Tryz.underlying3
  have hS : Tryz.prog.underlying T_api_Seen = some (.struct (Tryz.prog.fieldsOf T_api_Seen)) := by kernel_rfl
  have hp : Tryz.prog.stoodInHeld T_api_Seen = false := by kernel_rfl
  have hm : Tryz.prog.eqGuardType Tryz.prog.depth T_api_Seen = false := by kernel_rfl
  simp only [seC, Sem.run_bind, run_eqGuard_agg w .eql T_api_Seen a b _ _ hm, Result.andThen_ok, run_eql_struct]
  rw [show (10000 : Nat) = 9999 + 1 from rfl, run_equalIn_agg w 9999 T_api_Seen _ _ hS hp]
  simp only [Program.fieldsOf, Tryz.underlying52]
  go_simp
  by_cases g1 : x.ip = y.ip <;> by_cases g2 : x.cell = y.cell <;> by_cases g3 : x.arg = y.arg <;> by_cases g4 : x.next = y.next <;> simp [g1, g2, g3, g4]
theorem sameSeens_ok : SameOk Tryz.prog seE fn_hollowaybook_SameSeens := by
  intro s t xs w hs ht
  refine (hollowaybook_SameSeens_lift (K := fun r w' => r = .bool true ∧ Chg No w w') ?_).mono (by rintro e w' ⟨r, rfl, rfl, h⟩; exact ⟨rfl, h⟩)
  unfold hollowaybook_SameSeens_sh
  have h1 := hs.len
  have h2 := ht.len
  have hc := hs.capL
  have e1 : ((s.len : Int) != (t.len : Int)) = false := by rw [h1, h2]; simp
  rw [e1]
  refine brB_f ?_
  refine ⟨fun n w' => ∃ k : Nat, n = k ∧ k ≤ xs.length ∧ Chg No w w', fun n _ => xs.length - n.toNat, ⟨0, rfl, Nat.zero_le _, Chg.refl _ _⟩, ?_⟩
  rintro n w3 ⟨k, rfl, hk, hch⟩
  refine brB_of (fun hlt => ?_) (fun hlt => ⟨rfl, hch⟩)
  have hlt : k < xs.length := by simp at hlt; omega
  intro w5 hw5
  have c5 : Chg No w w5 := hch.trans (by rw [hw5]; exact Chg.drew No _) (fun _ _ h => h) (fun _ _ h => h)
  obtain ⟨x, hx⟩ : ∃ x, xs[k]? = some x := ⟨_, List.getElem?_eq_getElem hlt⟩
  refine (hs.no c5).ix (i := (k : Int)) (by omega) (by rw [Int.toNat_natCast]; exact hx) fun a ha hcell => ?_
  have q1 := hcell 0 _ rfl
  rw [add0] at q1
  refine ⟨_, _, _, _, held_Lw q1, held_Lw (hcell 1 _ rfl), held_Lw (hcell 2 _ rfl), held_Lw (hcell 3 _ rfl), ?_⟩
  refine (ht.no c5).ix (i := (k : Int)) (by omega) (by rw [Int.toNat_natCast]; exact hx) fun a' ha' hcell' => ?_
  have q2 := hcell' 0 _ rfl
  rw [add0] at q2
  refine ⟨_, _, _, _, held_Lw q2, held_Lw (hcell' 1 _ rfl), held_Lw (hcell' 2 _ rfl), held_Lw (hcell' 3 _ rfl), ?_⟩
  refine ⟨_, _, sn_eql x x _ _ _, ?_⟩
  rw [show (!decide (x.ip = x.ip ∧ x.cell = x.cell ∧ x.arg = x.arg ∧ x.next = x.next)) = false by simp]
  refine brB_f ?_
  rw [wr_of (by omega) (by omega)]
  exact ⟨⟨k + 1, by omega, by omega, c5⟩, by show xs.length - Int.toNat ((k : Int) + 1) < xs.length - Int.toNat (k : Int); omega⟩
/-! ### Which recordings may be -/
theorem single_rc (x : SnV) (hx : Cn.In x.ip) (w : World) : Calls Tryz.prog fn_record_single #[.agg (seC x).toArray] w fun e w' => e = .returned (.bool (singleB x)) ∧ Chg No w w' := by
  refine (record_single_lift (K := fun v w' => v = .bool (singleB x) ∧ Chg No w w') ?_).mono (by rintro e w' ⟨v, rfl, rfl, h⟩; exact ⟨rfl, h⟩)
  unfold record_single_sh
  intro b5 w6 hb5 hw6
  have c6 := al hw6
  have o6 : Ob w6 b5 (seC x) T_api_Seen := by rw [hw6, hb5]; exact Ob.new w (seC x) T_api_Seen
  obtain ⟨la, hla⟩ : ∃ la, la = (if arB x.cell = true then wr (x.ip + 1) else x.ip) := ⟨_, rfl⟩
  have hpl : placeB x.ip = true → la = (if arB x.cell = true then x.ip + 1 else x.ip) := fun hp => by
    unfold placeB at hp
    rw [hla]
    split
    · rw [wr_in]
      have h1 : 0 ≤ x.ip ∧ x.ip < 3000 := by simpa using hp
      omega
    · rfl
  have fin : singleB x = (plB x.cell && ((arB x.cell || decide (x.arg = 0)) && (placeB x.ip && (placeB la && placeB x.next)))) := by
    unfold singleB
    cases hp : placeB x.ip with
    | false => simp
    | true => rw [hpl hp]
  refine ⟨x.ip, o6.cell rfl, fun n w' => n = la ∧ w' = w6, ?_, x.cell, o6.cell rfl, ?_⟩
  · rintro n w13 ⟨rfl, rfl⟩
    refine ⟨x.cell, o6.cell rfl, (plain_rc _ w13).mono ?_⟩
    rintro e w16 ⟨rfl, rfl⟩
    refine ⟨_, rfl, brB_of (fun hp => ?_) (fun hp => ?_)⟩
    rotate_left
    · exact ⟨by rw [fin, hp]; rfl, c6⟩
    refine ⟨x.cell, o6.cell rfl, (arg_rc _ w13).mono ?_⟩
    rintro e w20 ⟨rfl, rfl⟩
    have tail : (arB x.cell || decide (x.arg = 0)) = true → ∃ n22 : Int, w13.cell? ⟨b5, 0, none⟩ = some (.int .i64 n22) ∧ Calls Tryz.prog fn_record_place #[.int .i64 n22] w13 fun e23 w24 => ∃ b25 : Bool, e23 = .returned (.bool b25) ∧
        brB b25 (Calls Tryz.prog fn_record_place #[.int .i64 n] w24 fun e27 w28 => ∃ b29 : Bool, e27 = .returned (.bool b29) ∧
        brB b29 (∃ n30 : Int, w28.cell? ⟨b5, 3, none⟩ = some (.int .i64 n30) ∧ Calls Tryz.prog fn_record_place #[.int .i64 n30] w28 fun e31 w32 => ∃ b33 : Bool, e31 = .returned (.bool b33) ∧
        (Value.bool b33 = .bool (singleB x) ∧ Chg No w w32)) (Value.bool false = .bool (singleB x) ∧ Chg No w w28)) (Value.bool false = .bool (singleB x) ∧ Chg No w w24) := fun ha => by
      refine ⟨x.ip, o6.cell rfl, (place_rc _ w13).mono ?_⟩
      rintro e w24 ⟨rfl, rfl⟩
      refine ⟨_, rfl, brB_of (fun h1 => ?_) (fun h1 => ⟨by rw [fin, hp, ha, h1]; rfl, c6⟩)⟩
      refine (place_rc _ w13).mono ?_
      rintro e w28 ⟨rfl, rfl⟩
      refine ⟨_, rfl, brB_of (fun h2 => ?_) (fun h2 => ⟨by rw [fin, hp, ha, h1, h2]; rfl, c6⟩)⟩
      refine ⟨x.next, o6.cell rfl, (place_rc _ w13).mono ?_⟩
      rintro e w32 ⟨rfl, rfl⟩
      exact ⟨_, rfl, by rw [fin, hp, ha, h1, h2]; rfl, c6⟩
    refine ⟨_, rfl, brB_of (fun ha => tail (by rw [ha]; rfl)) (fun ha => ⟨x.arg, o6.cell rfl, brB_of (fun h0 => tail ?_) (fun h0 => ⟨?_, c6⟩)⟩)⟩
    · have h0 : x.arg = 0 := by simpa using h0
      rw [decide_eq_true h0]; simp
    · have h0 : x.arg ≠ 0 := by simpa using h0
      rw [fin, hp, ha, decide_eq_false h0]; rfl
  · refine (arg_rc _ w6).mono ?_
    rintro e w10 ⟨rfl, rfl⟩
    refine ⟨_, rfl, brB_of (fun ha => ⟨x.ip, o6.cell rfl, by rw [hla, if_pos ha], rfl⟩) (fun ha => ⟨by rw [hla, if_neg (by rw [ha]; decide)], rfl⟩)⟩
theorem right_rc {D : Nat → Prop} {w : World} (R : RcC) {r : RcV} (hnum : R.start = r.start ∧ R.fin = r.fin ∧ R.loop = r.loop) (hst : Rd seE w R.steps r.steps) (hin : ∀ x ∈ r.steps, Cn.In x.ip) :
    Calls Tryz.prog fn_record_Right #[.agg (rcC R).toArray] w fun e w' => e = .returned (.bool (rightR r)) ∧ Chg No w w' := by
  refine (record_Right_lift (K := fun v w' => v = .bool (rightR r) ∧ Chg No w w') ?_).mono (by rintro e w' ⟨v, rfl, rfl, h⟩; exact ⟨rfl, h⟩)
  unfold record_Right_sh
  obtain ⟨m1, m2, m3⟩ := hnum
  have hl := hst.len
  refine inRc R fun b5 w6 hb5 z6 o6 c6 => ⟨R.start, o6.cell rfl, ?_⟩
  obtain ⟨bad, hbad⟩ : ∃ bad : Prop, bad = (120 < r.steps.length ∨ r.loop ≠ (decide (0 < r.steps.length) && decide (r.fin = r.start))) := ⟨_, rfl⟩
  have hf : bad → rightR r = false := fun hb => by
    rw [hbad] at hb
    unfold rightR
    by_cases h1 : 120 < r.steps.length
    · rw [if_pos h1]
    · rw [if_neg h1]
      rcases hb with hb | hb
      · exact absurd hb h1
      · rw [if_pos hb]
  refine ⟨fun b w' => (b = true → bad) ∧ (b = false → ¬ bad) ∧ w' = w6, ?_, R.steps, o6.cell rfl, ?_⟩
  rotate_left
  · refine brB_of (fun h1 => ?_) (fun h1 => ⟨R.loop, o6.cell rfl, R.steps, o6.cell rfl, brB_of (fun h2 => ⟨R.fin, o6.cell rfl, R.start, o6.cell rfl, ?_⟩) (fun h2 => ?_)⟩)
    · have h1 := of_decide_eq_true h1
      exact ⟨fun _ => by rw [hbad]; left; omega, (fun h => by cases h), rfl⟩
    · have h1 := of_decide_eq_false h1
      have h2 := of_decide_eq_true h2
      have e : (!(R.loop == (R.fin == R.start))) = true ↔ r.loop ≠ (decide (0 < r.steps.length) && decide (r.fin = r.start)) := by
        rw [m1, m2, m3, decide_eq_true (show 0 < r.steps.length by omega)]
        show (!(r.loop == decide (r.fin = r.start))) = true ↔ r.loop ≠ (true && decide (r.fin = r.start))
        cases r.loop <;> cases decide (r.fin = r.start) <;> simp
      refine ⟨fun h => by rw [hbad]; exact Or.inr (e.1 h), fun h hb => ?_, rfl⟩
      rw [hbad] at hb
      rcases hb with hb | hb
      · omega
      · rw [e.2 hb] at h; cases h
    · have h1 := of_decide_eq_false h1
      have h2 := of_decide_eq_false h2
      have e : (!(R.loop == false)) = true ↔ r.loop ≠ (decide (0 < r.steps.length) && decide (r.fin = r.start)) := by
        rw [m3, decide_eq_false (show ¬ 0 < r.steps.length by omega)]
        cases r.loop <;> simp
      refine ⟨fun h => by rw [hbad]; exact Or.inr (e.1 h), fun h hb => ?_, rfl⟩
      rw [hbad] at hb
      rcases hb with hb | hb
      · omega
      · rw [e.2 hb] at h; cases h
  rintro b w13 ⟨hb1, hb2, rfl⟩
  refine brB_of (fun hb => ⟨by rw [hf (hb1 hb)], c6⟩) (fun hb => ⟨R.steps, o6.cell rfl, ?_⟩)
  have hgood := hb2 hb
  rw [hbad] at hgood
  have h120 : r.steps.length ≤ 120 := by
    rcases Nat.lt_or_ge 120 r.steps.length with h | h
    · exact absurd (Or.inl h) hgood
    · exact h
  have hrr : rightR r = match rightL r.start r.start false r.steps with
      | none => false
      | some a => decide (a = r.fin) := by
    unfold rightR; rw [if_neg (by omega), if_neg (fun h => hgood (Or.inr h))]
    all_goals (cases rightL r.start r.start false r.steps <;> rfl)
  rw [m1]
  refine ⟨fun a n w' => ∃ j : Nat, n = j ∧ j ≤ r.steps.length ∧ rightL r.start r.start false r.steps = rightL r.start a (decide (0 < j)) (r.steps.drop j) ∧ Chg No w13 w', fun _ n _ => r.steps.length - n.toNat, ⟨0, rfl, Nat.zero_le _, rfl, Chg.refl _ _⟩, ?_⟩
  rintro a n w16 ⟨j, rfl, hj, hrl, c16⟩
  have k16 := trN c6 c16
  refine brB_of (fun hlt => ?_) (fun hge => ?_)
  · have hlt : j < r.steps.length := by have := of_decide_eq_true hlt; omega
    obtain ⟨x, hx⟩ : ∃ x, r.steps[j]? = some x := ⟨_, List.getElem?_eq_getElem hlt⟩
    have hxj : r.steps[j] = x := by rw [List.getElem?_eq_getElem hlt] at hx; exact Option.some.inj hx
    refine (hst.no k16).ix (i := (j : Int)) (by omega) (by rw [Int.toNat_natCast]; exact hx) fun ad _ hcell => ?_
    have q0 := hcell 0 _ rfl
    rw [add0] at q0
    refine ⟨x.ip, x.cell, x.arg, x.next, q0, hcell 1 _ rfl, hcell 2 _ rfl, hcell 3 _ rfl, varSn x fun b23 w25 hb23 z25 o23 c25 => ?_⟩
    obtain ⟨bd, hbd⟩ : ∃ bd : Prop, bd = (singleB x = false ∨ x.ip ≠ a ∨ (decide (0 < j) = true ∧ x.ip = r.start)) := ⟨_, rfl⟩
    have hstep : rightL r.start a (decide (0 < j)) (r.steps.drop j) = if singleB x = false ∨ x.ip ≠ a ∨ (decide (0 < j) = true ∧ x.ip = r.start) then none else rightL r.start x.next true (r.steps.drop (j + 1)) := by
      rw [List.drop_eq_getElem_cons hlt, hxj]; rfl
    refine ⟨fun b w' => (b = true → bd) ∧ (b = false → ¬ bd) ∧ Chg No w25 w', ?_, ?_⟩
    · rintro b w37 ⟨hd1, hd2, c37⟩
      have k37 := trN (trN k16 c25) c37
      refine brB_of (fun hb => ⟨?_, k37⟩) (fun hb => ⟨x.next, (o23.no c37).cell rfl, ?_⟩)
      · have := hd1 hb
        rw [hbd] at this
        rw [hrr, hrl, hstep, if_pos this]
      · have := hd2 hb
        rw [hbd] at this
        rw [wr_in (by omega)]
        refine ⟨⟨j + 1, by omega, by omega, ?_, trN (trN c16 c25) c37⟩, by show r.steps.length - Int.toNat ((j : Int) + 1) < r.steps.length - Int.toNat (j : Int); omega⟩
        rw [hrl, hstep, if_neg this, decide_eq_true (by omega)]
    · refine rdSn o23 ((single_rc x (hin x (by rw [← hxj]; exact List.getElem_mem hlt)) w25).mono ?_)
      rintro e w31 ⟨rfl, c31⟩
      have p23 := o23.no c31
      refine ⟨_, rfl, brB_of (fun h1 => ?_) (fun h1 => ⟨x.ip, p23.cell rfl, brB_of (fun h2 => ?_) (fun h2 => brB_of (fun h3 => ⟨x.ip, p23.cell rfl, R.start, (((o6.no c16).no c25).no c31).cell rfl, ?_⟩) (fun h3 => ?_))⟩)⟩
      · exact ⟨fun _ => by rw [hbd]; exact Or.inl (by simpa using h1), (fun h => by cases h), c31⟩
      · have h2 : x.ip ≠ a := by simpa using h2
        exact ⟨fun _ => by rw [hbd]; exact Or.inr (Or.inl h2), (fun h => by cases h), c31⟩
      · have h1 : singleB x = true := by simpa using h1
        have h2 : x.ip = a := by simpa using h2
        have h3 : 0 < j := by have := of_decide_eq_true h3; omega
        rw [m1]
        refine ⟨fun h => by rw [hbd]; exact Or.inr (Or.inr ⟨decide_eq_true h3, by simpa using h⟩), fun h hb => ?_, c31⟩
        rw [hbd] at hb
        rcases hb with hb | hb | ⟨_, hb⟩
        · rw [h1] at hb; cases hb
        · exact hb h2
        · rw [hb] at h; simp at h
      · have h1 : singleB x = true := by simpa using h1
        have h2 : x.ip = a := by simpa using h2
        have h3 : ¬ 0 < j := by have := of_decide_eq_false h3; omega
        refine ⟨(fun h => by cases h), fun _ hb => ?_, c31⟩
        rw [hbd] at hb
        rcases hb with hb | hb | ⟨hb, _⟩
        · rw [h1] at hb; cases hb
        · exact hb h2
        · exact h3 (of_decide_eq_true hb)
  · have hge : j = r.steps.length := by have := of_decide_eq_false hge; omega
    subst hge
    refine ⟨R.fin, (o6.no c16).cell rfl, ?_, k16⟩
    rw [hrr, hrl, List.drop_length, m2]
    show Value.bool (a == r.fin) = .bool (decide (a = r.fin))
    congr 1
end Go.Proofs.YtkjpmkopnkkbmaaGreatDoor

/- The first call of chapter 13's statements; RecordMost: the walk. -/
set_option maxRecDepth 100000
namespace Go.Proofs.YtkjpmkopnkkbmaaGreatDoor
open Go.RowKit

theorem r9enter_any {D : Nat → Prop} {w : World} (S : StC) {s : StV} (h : StIs D w S s) (xt : Int) :
    Calls Tryz.prog fn_hollowayref9_Enter #[.agg (stC S).toArray, .int .i64 xt] w fun e w' => ∃ bS : Sl, e = .returned (.agg (stC ⟨xt, 0, S.stack, bS, S.mem, S.out, S.inp, S.read, 0, 0⟩).toArray) ∧ Ow intE w' bS [0] ∧ (∀ k, bS.blk = some k → w.heap.size ≤ k ∧ k < w'.heap.size) ∧ Chg No w w' := by
  refine (hollowayref9_Enter_lift (K := fun r w' => ∃ bS : Sl, r = .agg (stC ⟨xt, 0, S.stack, bS, S.mem, S.out, S.inp, S.read, 0, 0⟩).toArray ∧ Ow intE w' bS [0] ∧ (∀ k, bS.blk = some k → w.heap.size ≤ k ∧ k < w'.heap.size) ∧ Chg No w w') ?_).mono (by rintro e w' ⟨r, rfl, S, rfl, h⟩; exact ⟨S, rfl, h⟩)
  unfold hollowayref9_Enter_sh
  refine inSt S fun b12 w13 hb12 z13 o12 c13 => inSt st0 fun b14 w15 hb14 z15 o14 c15 => ?_
  intro b16 w17 hb16 hw17
  obtain ⟨l17, c17⟩ := litL [0] _ rfl hb16 hw17 (by simp)
  have hlt17 : b16 < w17.heap.size := l17.lt rfl
  have z17 := c17.size
  obtain ⟨bS, hbS⟩ : ∃ bS : Sl, bS = ⟨some ⟨b16, 0, none⟩, 1, 1⟩ := ⟨_, rfl⟩
  have hbb : ∀ k, bS.blk = some k → k = b16 := fun k hk => by rw [hbS] at hk; exact (Option.some.inj hk).symm
  have l17 : Ow intE w17 bS [0] := by rw [hbS]; exact l17
  rw [show (Value.slice (some ⟨b16, 0, none⟩) 1 1) = bS.val by rw [hbS]]
  refine setSt { S with ip := xt } ((o12.no c15).no c17) (by decide) rfl rfl fun w18 o18 c18 => setSt { S with ip := xt, handler := 0 } o18 (by decide) rfl rfl fun w19 o19 c19 => setSt { S with ip := xt, handler := 0, back := bS } o19 (by decide) rfl rfl fun w20 o20 c20 => setSt { S with ip := xt, handler := 0, back := bS, status := 0 } o20 (by decide) rfl rfl fun w21 o21 c21 => setSt { S with ip := xt, handler := 0, back := bS, status := 0, code := 0 } o21 (by decide) rfl rfl fun w22 o22 c22 => rdSt o22 ?_
  have d22 : Chg (fun j => j = b12) w17 w22 := (((c18.trans c19 (fun _ _ h => h) (fun _ _ h => h)).trans c20 (fun _ _ h => h) (fun _ _ h => h)).trans c21 (fun _ _ h => h) (fun _ _ h => h)).trans c22 (fun _ _ h => h) (fun _ _ h => h)
  have z22 := d22.size
  refine setSt { S with ip := xt, handler := 0, back := bS, status := 0, code := 0 } ((o14.no c17).chg d22 (fun he => by omega)) (by decide) rfl rfl fun w33 o33 c33 => rdSt o33 ?_
  have z33 := c33.size
  refine ⟨bS, rfl, (l17.chg d22 (fun k hk he => by have := hbb k hk; omega)).chg c33 (fun k hk he => by have := hbb k hk; omega), fun k hk => by have := hbb k hk; omega, ?_⟩
  exact ((trN (trN c13 c15) c17).trans d22 (fun _ _ h => h) (fun k hk he => by omega)).trans c33 (fun _ _ h => h) (fun k hk he => by omega)
def aliveM13 : List Int := ((((bootM 300).set 200 6).set 201 7).set 202 3).set 203 200
def aliveS13 : StV := ⟨200, 0, [1], [0], aliveM13, bs [], bs [], 0, 0, 0⟩
theorem next_of {s t : StV} {c : Int} (h0 : 0 ≤ s.ip) (h1 : s.ip < s.mem.length) (hs : s.status = 0) (hc : getI s.mem s.ip = c) (hp : plB c = true) (h2 : (mAdv { s with handler := 0 }).status ≠ 2) (ht : mAdv s = t) (hl : placeB t.ip = true) :
    nextV s = some (⟨s.ip, c, if arB c = true then getI s.mem (s.ip + 1) else 0, t.ip⟩, t) := by
  have e : ∀ s : StV, s.status = 0 → stepV s = mAdv s := fun s hs => by
    unfold stepV; rw [runM_go hs (by decide), runM_stop (Or.inr (by decide))]
  unfold nextV
  rw [hc, if_neg (by rw [hp]; rintro (h | h | h | h) <;> first | omega | exact h hs | cases h), e s hs, ht, e _ (by exact hs), if_neg h2, if_neg (by rw [hl]; decide)]
theorem alive13_rec : recV aliveS13 9 = ⟨200, 200, true, [⟨200, 6, 0, 201⟩, ⟨201, 7, 0, 202⟩, ⟨202, 3, 200, 200⟩]⟩ := by
  have hl : aliveM13.length = 300 := by unfold aliveM13; simp [bootM_len]
  have a : ∀ {i c : Int}, 0 ≤ i → i < 300 → getI aliveM13 i = c → OpAt aliveM13 i c := fun h0 h1 h2 => ⟨h0, by omega, h2⟩
  have o0 := a (i := 200) (c := 6) (by decide) (by decide) (by decide +kernel)
  have o1 := a (i := 201) (c := 7) (by decide) (by decide) (by decide +kernel)
  have o2 := a (i := 202) (c := 3) (by decide) (by decide) (by decide +kernel)
  have o3 := a (i := 203) (c := 200) (by decide) (by decide) (by decide +kernel)
  have s1 : mAdv aliveS13 = ⟨201, 0, [1, 1], [0], aliveM13, bs [], bs [], 0, 0, 0⟩ := by
    have := run_dup (n := 0) (hd := 0) (rd := 0) (code := 0) (a := 1) (st := []) (bk := [0]) (out := bs []) (inp := bs []) o0 (by simp) (by simp)
    exact congrArg Prod.fst this
  have s2 : mAdv ⟨201, 0, [1, 1], [0], aliveM13, bs [], bs [], 0, 0, 0⟩ = ⟨202, 0, [1], [0], aliveM13, bs [], bs [], 0, 0, 0⟩ := by
    have := run_drop (n := 0) (hd := 0) (rd := 0) (code := 0) (a := 1) (st := [1]) (bk := [0]) (out := bs []) (inp := bs []) o1 (by simp) (by simp)
    exact congrArg Prod.fst this
  have s3 : mAdv ⟨202, 0, [1], [0], aliveM13, bs [], bs [], 0, 0, 0⟩ = ⟨200, 0, [1], [0], aliveM13, bs [], bs [], 0, 0, 0⟩ := by
    have := run_branch (n := 0) (hd := 0) (rd := 0) (code := 0) (x := 200) (st := [1]) (bk := [0]) (out := bs []) (inp := bs []) o2 o3 (by simp) (by simp)
    exact congrArg Prod.fst this
  have n1 := next_of (s := aliveS13) o0.1 o0.2.1 rfl o0.2.2 (by decide) (by rw [show ({ aliveS13 with handler := 0 } : StV) = aliveS13 from rfl, s1]; decide) s1 (by decide)
  have n2 := next_of (s := ⟨201, 0, [1, 1], [0], aliveM13, bs [], bs [], 0, 0, 0⟩) o1.1 o1.2.1 rfl o1.2.2 (by decide) (by simp only []; rw [s2]; decide) s2 (by decide)
  have n3 := next_of (s := ⟨202, 0, [1], [0], aliveM13, bs [], bs [], 0, 0, 0⟩) o2.1 o2.2.1 rfl o2.2.2 (by decide) (by simp only []; rw [s3]; decide) s3 (by decide)
  have e3 : getI aliveM13 203 = 200 := o3.2.2
  show recL 200 9 aliveS13 [] = _
  unfold recL
  rw [if_neg (by decide), n1]
  simp only []
  unfold recL
  rw [if_neg (by decide), n2]
  simp only []
  unfold recL
  rw [if_neg (by decide), n3]
  simp only []
  unfold recL
  rw [if_pos (by decide)]
  simp only [List.nil_append, List.cons_append]
  have z6 : arB 6 = false := by decide
  have z7 : arB 7 = false := by decide
  have z3 : arB 3 = true := by decide
  rw [z6, z7, z3]
  simp only [Bool.false_eq_true, if_false, if_true]
  show (⟨200, 200, true, [⟨200, 6, 0, 201⟩, ⟨201, 7, 0, 202⟩, ⟨202, 3, getI aliveM13 203, 200⟩]⟩ : RcV) = _
  rw [e3]
theorem alive13_any {w : World} (hg : Gl w) : Calls Tryz.prog fn_hollowaylaw13_alive #[] w fun e w' => e = .returned (.bool true) ∧ Chg No w w' := by
  refine (hollowaylaw13_alive_lift (K := fun v w' => v = .bool true ∧ Chg No w w') ?_).mono (by rintro e w' ⟨v, rfl, rfl, h⟩; exact ⟨rfl, h⟩)
  unfold hollowaylaw13_alive_sh
  refine (r9boot_any 300 (bs []) (M := 300) (by decide +kernel) w).mono ?_
  rintro e w2 ⟨S0, rfl, g0, c2⟩
  have z2 := c2.size
  refine ⟨_, _, _, _, _, _, _, _, _, _, rfl, ?_⟩
  refine (r9enter_any S0 g0.is 200).mono ?_
  rintro e w14 ⟨bS, rfl, gb, hbb, c14⟩
  have z14 := c14.size
  obtain ⟨n1, n2, n3, n4, n5, n6, n7⟩ := g0.nums
  obtain ⟨S1, hS1⟩ : ∃ S1 : StC, S1 = ⟨200, 0, S0.stack, bS, S0.mem, S0.out, S0.inp, S0.read, 0, 0⟩ := ⟨_, rfl⟩
  refine ⟨_, _, _, _, _, _, _, _, _, _, rfl, varSt ⟨200, 0, S0.stack, bS, S0.mem, S0.out, S0.inp, S0.read, 0, 0⟩ fun b25 w27 hb25 z27 o25 c27 => ?_⟩
  rw [← hS1] at o25
  have hmem : S1.mem = S0.mem := by rw [hS1]
  intro w28 hw28
  have c28 := dw hw28
  have p25 := o25.no c28
  have k28 := trN (trN (trN c2 c14) c27) c28
  have hbl := bootM_len 300
  have hbm : ∀ k, S0.mem.blk = some k → w.heap.size ≤ k ∧ k < w2.heap.size := fun k hk => ⟨(g0.meD k hk).1, g0.me.lt hk⟩
  have hne : S0.mem.blk ≠ some b25 := fun he => by have := hbm _ he; omega
  have m28 : Ox intE w28 S0.mem (bootM 300) := (((g0.me.no c14).no c27).no c28).ox
  have hheld : held (fun w' => Ob w' b25 (stC S1) T_api_State) ⟨b25, 4, none⟩ S0.mem.val := by rw [← hmem]; exact Ob.held (fun w' h => h) rfl
  refine ⟨fun w' => Ob w' b25 (stC S1) T_api_State, p25, S0.mem, hheld, S0.mem, hheld, S0.mem, hheld, S0.mem, hheld, ?_⟩
  refine setOx m28 (by decide) (by rw [hbl]; decide) fun w35 g35 c35 => ⟨p25.chg c35 hne, setOx g35 (by decide) (by simp [hbl]) fun w37 g37 c37 => ⟨(p25.chg c35 hne).chg c37 hne, setOx g37 (by decide) (by simp [hbl]) fun w39 g39 c39 => ⟨((p25.chg c35 hne).chg c37 hne).chg c39 hne, setOx g39 (by decide) (by simp [hbl]) fun w41 g41 c41 => ?_⟩⟩⟩
  have p41 := (((p25.chg c35 hne).chg c37 hne).chg c39 hne).chg c41 hne
  have d41 : Chg (fun x => S0.mem.blk = some x) w28 w41 := ((c35.trans c37 (fun _ _ h => h) (fun _ _ h => h)).trans c39 (fun _ _ h => h) (fun _ _ h => h)).trans c41 (fun _ _ h => h) (fun _ _ h => h)
  have z28 := c28.size
  have z41 := d41.size
  have k41 : Chg No w w41 := k28.trans d41 (fun _ _ h => h) (fun k hk he => by have := hbm k he; omega)
  intro b42 w43 hb42 hw43
  obtain ⟨l43, c43⟩ := litL [1] _ rfl hb42 hw43 (by simp)
  have hlt43 : b42 < w43.heap.size := l43.lt rfl
  obtain ⟨tS, htS⟩ : ∃ tS : Sl, tS = ⟨some ⟨b42, 0, none⟩, 1, 1⟩ := ⟨_, rfl⟩
  have htb : ∀ k, tS.blk = some k → k = b42 := fun k hk => by rw [htS] at hk; exact (Option.some.inj hk).symm
  have l43 : Ow intE w43 tS [1] := by rw [htS]; exact l43
  rw [show (Value.slice (some ⟨b42, 0, none⟩) 1 1) = tS.val by rw [htS]]
  refine setSt { S1 with stack := tS } (p41.no c43) (by decide) rfl rfl fun w44 o44 c44 => rdSt o44 ?_
  have z43 := c43.size
  have k44 : Chg No w w44 := (trN k41 c43).trans c44 (fun _ _ h => h) (fun k hk he => by omega)
  have hst : StIs (fun _ => True) w44 { S1 with stack := tS } aliveS13 := by
    rw [hS1]
    refine ⟨⟨rfl, rfl, n3, n4, n5, rfl, rfl⟩, (l43.chg c44 (fun k hk he => by have := htb k hk; omega)).rd, ?_, ?_, fun _ _ => trivial, fun _ _ => trivial, fun _ _ => trivial⟩
    · have g1 := ((gb.no c27).no c28).chg d41 (fun k hk he => by have := hbb k hk; have := hbm k he; omega)
      exact ((g1.no c43).chg c44 (fun k hk he => by have := hbb k hk; omega)).rd
    · exact ((g41.no c43).qs c44 (fun he => hne he)).rd
  have ok : MOk aliveS13 := ⟨by show 1 ≤ 48; omega, by show 1 ≤ 48; omega, by show aliveM13.length ≤ 3000; unfold aliveM13; simp [hbl], by show 0 ≤ 2000; omega, ⟨by show (0 : Int) ≤ 0; omega, by show (0 : Int) ≤ _; exact Int.natCast_nonneg _⟩, by show 0 ≤ _; omega⟩
  refine (loop_rc _ hst ok (hg.no k44) 9).mono ?_
  rintro e w56 ⟨R, rfl, gR, c56⟩
  rw [alive13_rec] at gR
  refine ⟨_, _, _, _, rfl, varRc R fun b61 w63 hb61 z63 o61 c63 => ?_⟩
  have k63 := trN (trN k44 c56) c63
  obtain ⟨r1, r2, r3⟩ := gR.nums
  have gs := (gR.no c63).steps.rd
  have hl3 : R.steps.len = 3 := gs.len
  refine ⟨R.loop, o61.cell rfl, brB_t' r3 ⟨R.steps, o61.cell rfl, brB_t' (by rw [hl3]; rfl) ⟨R.start, o61.cell rfl, brB_t' (by rw [r1]; rfl) ⟨R.fin, o61.cell rfl, brB_t' (by rw [r2]; rfl) ⟨R.steps, o61.cell rfl, ?_⟩⟩⟩⟩⟩
  refine gs.ix (i := 2) (by decide) (x := ⟨202, 3, 200, 200⟩) rfl fun a _ hcell => ?_
  have q := hcell 0 _ rfl
  rw [add0] at q
  refine ⟨_, _, _, _, q, hcell 1 _ rfl, hcell 2 _ rfl, hcell 3 _ rfl, _, _, sn_eql ⟨202, 3, 200, 200⟩ ⟨202, 3, 200, 200⟩ _ _ _, brB_t' (by decide) (rdRc o61 ?_)⟩
  refine (right_rc (D := fun _ => True) R (r := ⟨200, 200, true, [⟨200, 6, 0, 201⟩, ⟨201, 7, 0, 202⟩, ⟨202, 3, 200, 200⟩]⟩) ⟨r1, r2, r3⟩ gs (fun x hx => ?_)).mono ?_
  · simp only [List.mem_cons, List.mem_nil_iff, or_false] at hx
    rcases hx with rfl | rfl | rfl <;> (constructor <;> decide)
  rintro e w81 ⟨rfl, c81⟩
  exact ⟨_, rfl, congrArg Value.bool (by decide), trN k63 c81⟩
theorem same13_any {w : World} (A B : RcC) {r : RcV} (hA : A.start = r.start ∧ A.fin = r.fin ∧ A.loop = r.loop) (hB : B.start = r.start ∧ B.fin = r.fin ∧ B.loop = r.loop) (gA : Rd seE w A.steps r.steps) (gB : Rd seE w B.steps r.steps) :
    Calls Tryz.prog fn_hollowaylaw13_same #[.agg (rcC A).toArray, .agg (rcC B).toArray] w fun e w' => e = .returned (.bool true) ∧ Chg No w w' := by
  refine (hollowaylaw13_same_lift (K := fun v w' => v = .bool true ∧ Chg No w w') ?_).mono (by rintro e w' ⟨v, rfl, rfl, h⟩; exact ⟨rfl, h⟩)
  unfold hollowaylaw13_same_sh
  refine inRc A fun b9 w10 hb9 z10 o9 c10 => inRc B fun b11 w12 hb11 z12 o11 c12 => ?_
  have p9 := o9.no c12
  have k12 := trN c10 c12
  refine ⟨A.start, p9.cell rfl, B.start, o11.cell rfl, brB_t' (by rw [hA.1, hB.1]; simp) ⟨A.fin, p9.cell rfl, B.fin, o11.cell rfl, brB_t' (by rw [hA.2.1, hB.2.1]; simp) ⟨A.loop, p9.cell rfl, B.loop, o11.cell rfl, brB_t' (by rw [hA.2.2, hB.2.2]; simp) ⟨A.steps, p9.cell rfl, B.steps, o11.cell rfl, ?_⟩⟩⟩⟩
  refine (sameSeens_ok A.steps B.steps r.steps w12 (gA.no k12) (gB.no k12)).mono ?_
  rintro e w22 ⟨rfl, c22⟩
  exact ⟨_, rfl, rfl, trN k12 c22⟩
end Go.Proofs.YtkjpmkopnkkbmaaGreatDoor

/- slices.Sort and slices.Compact at lists of numbers: the shelf's contracts at this program. (Laid by the kit's own tools; see mksol.py.) -/
set_option maxRecDepth 100000
namespace Go.Proofs.YtkjpmkopnkkbmaaGreatDoor
def lays189_ren : Go.Shelf.Ren := ⟨fun | 189 => 82 | 125 => 109 | 257 => 108 | 128 => 130 | 129 => 131 | 294 => 121 | 295 => 122 | 296 => 123 | 297 => 124 | 298 => 125 | 299 => 126 | 216 => 127 | 300 => 128 | 301 => 129 | 328 => 149 | 329 => 150 | 330 => 151 | 331 => 152 | 332 => 153 | 215 => 154 | 343 => 166 | n => n, fun | 28 => 22 | 3 => 3 | 46 => 124 | 0 => 0 | 51 => 143 | 53 => 115 | 4 => 4 | 183 => 137 | 182 => 136 | 131 => 78 | 5 => 5 | 9 => 9 | 218 => 159 | 222 => 163 | 228 => 179 | 229 => 113 | n => n, fun | n => n⟩
theorem lays189 : Go.Proofs.Lays.n189 Tryz.prog lays189_ren := {
  mixed := by kernel_rfl
  f125 := Tryz.func109.trans (congrArg some (by kernel_rfl))
  f128 := Tryz.func130.trans (congrArg some (by kernel_rfl))
  f129 := Tryz.func131.trans (congrArg some (by kernel_rfl))
  f189 := Tryz.func82.trans (congrArg some (by kernel_rfl))
  f215 := Tryz.func154.trans (congrArg some (by kernel_rfl))
  f216 := Tryz.func127.trans (congrArg some (by kernel_rfl))
  f257 := Tryz.func108.trans (congrArg some (by kernel_rfl))
  f294 := Tryz.func121.trans (congrArg some (by kernel_rfl))
  f295 := Tryz.func122.trans (congrArg some (by kernel_rfl))
  f296 := Tryz.func123.trans (congrArg some (by kernel_rfl))
  f297 := Tryz.func124.trans (congrArg some (by kernel_rfl))
  f298 := Tryz.func125.trans (congrArg some (by kernel_rfl))
  f299 := Tryz.func126.trans (congrArg some (by kernel_rfl))
  f300 := Tryz.func128.trans (congrArg some (by kernel_rfl))
  f301 := Tryz.func129.trans (congrArg some (by kernel_rfl))
  f328 := Tryz.func149.trans (congrArg some (by kernel_rfl))
  f329 := Tryz.func150.trans (congrArg some (by kernel_rfl))
  f330 := Tryz.func151.trans (congrArg some (by kernel_rfl))
  f331 := Tryz.func152.trans (congrArg some (by kernel_rfl))
  f332 := Tryz.func153.trans (congrArg some (by kernel_rfl))
  f343 := Tryz.func166.trans (congrArg some (by kernel_rfl))
  t0 := Tryz.underlying0
  a0 := Tryz.isAgg0
  z0 := Tryz.sizeOf0
  v0 := Tryz.zeroValue0
  t3 := Tryz.underlying3
  a3 := Tryz.isAgg3
  z3 := Tryz.sizeOf3
  v3 := Tryz.zeroValue3
  t4 := Tryz.underlying4
  a4 := Tryz.isAgg4
  z4 := Tryz.sizeOf4
  v4 := Tryz.zeroValue4
  t5 := Tryz.underlying5
  a5 := Tryz.isAgg5
  z5 := Tryz.sizeOf5
  v5 := Tryz.zeroValue5
  t9 := Tryz.underlying9
  a9 := Tryz.isAgg9
  z9 := Tryz.sizeOf9
  v9 := Tryz.zeroValue9
  t28 := Tryz.underlying22
  a28 := Tryz.isAgg22
  z28 := Tryz.sizeOf22
  v28 := Tryz.zeroValue22
  t46 := Tryz.underlying124
  a46 := Tryz.isAgg124
  z46 := Tryz.sizeOf124
  v46 := Tryz.zeroValue124
  t51 := Tryz.underlying143
  a51 := Tryz.isAgg143
  z51 := Tryz.sizeOf143
  v51 := Tryz.zeroValue143
  t53 := Tryz.underlying115
  a53 := Tryz.isAgg115
  z53 := Tryz.sizeOf115
  v53 := Tryz.zeroValue115
  t131 := Tryz.underlying78
  a131 := Tryz.isAgg78
  z131 := Tryz.sizeOf78
  v131 := Tryz.zeroValue78
  t182 := Tryz.underlying136
  a182 := Tryz.isAgg136
  z182 := Tryz.sizeOf136
  v182 := Tryz.zeroValue136
  t183 := Tryz.underlying137
  a183 := Tryz.isAgg137
  z183 := Tryz.sizeOf137
  v183 := Tryz.zeroValue137
  t218 := Tryz.underlying159
  a218 := Tryz.isAgg159
  z218 := Tryz.sizeOf159
  v218 := Tryz.zeroValue159
  t222 := Tryz.underlying163
  a222 := Tryz.isAgg163
  z222 := Tryz.sizeOf163
  v222 := Tryz.zeroValue163
  t228 := Tryz.underlying179
  a228 := Tryz.isAgg179
  z228 := Tryz.sizeOf179
  v228 := Tryz.zeroValue179
  t229 := Tryz.underlying113
  a229 := Tryz.isAgg113
  z229 := Tryz.sizeOf113
  v229 := Tryz.zeroValue113 }
open Go.Sort Go.RowKit in
theorem slices_Sort_int (blk off cap : Nat) (zs : List Int) (w : World) (hH : Holds (Value.int .i64) w blk off zs.toArray) (hblk : blk < w.heap.size) (hsz : zs.length < 4611686018427387904) :
    Calls Tryz.prog 82 #[.slice (some ⟨blk, off, none⟩) zs.length cap] w fun e w' =>
      e = .returned (.tuple #[]) ∧ ∃ n os, w' = grow (putRow (Value.int .i64) (Sort.ahead w n) blk off (zs.mergeSort fun x y => decide (x ≤ y)).toArray) os := Any.slices_Sort_int lays189 blk off cap zs w hH hblk hsz
def laysNm220_ren : Go.Shelf.Ren := ⟨fun | 20 => 83 | n => n, fun | 22 => 22 | 3 => 3 | 4 => 4 | 0 => 0 | n => n, fun | n => n⟩
theorem laysNm220 : Go.Proofs.Lays2.n20 Tryz.prog laysNm220_ren := {
  mixed := by kernel_rfl
  f20 := Tryz.func83.trans (congrArg some (by kernel_rfl))
  t0 := Tryz.underlying0
  a0 := Tryz.isAgg0
  z0 := Tryz.sizeOf0
  v0 := Tryz.zeroValue0
  t3 := Tryz.underlying3
  a3 := Tryz.isAgg3
  z3 := Tryz.sizeOf3
  v3 := Tryz.zeroValue3
  t4 := Tryz.underlying4
  a4 := Tryz.isAgg4
  z4 := Tryz.sizeOf4
  v4 := Tryz.zeroValue4
  t22 := Tryz.underlying22
  a22 := Tryz.isAgg22
  z22 := Tryz.sizeOf22
  v22 := Tryz.zeroValue22
  i3 := by kernel_rfl }
open Go.RowKit Go.Lib Go.Sort in
theorem slices_Compact_int (blk off cap : Nat) (zs : List Int) (w : World) (hH : Holds (Value.int .i64) w blk off zs.toArray) (hsz : zs.length ≤ 9223372036854775807) (hcap : zs.length ≤ cap) :
    Calls Tryz.prog 83 #[.slice (some ⟨blk, off, none⟩) zs.length cap] w fun e w' => e = .returned (.slice (some ⟨blk, off, none⟩) (Lib.compact zs).length cap) ∧ ∃ q, w' = putRow (Value.int .i64) (Sort.ahead w q) blk off (Lib.compact zs ++ List.replicate (zs.length - (Lib.compact zs).length) 0).toArray := Any.slices_Compact_int laysNm220 blk off cap zs w hH hsz hcap
open Go.RowKit Go.Lib Go.Sort in
theorem slices_Compact_int_empty (a : Option Addr) (cap : Nat) (w : World) :
    Calls Tryz.prog 83 #[.slice a 0 cap] w fun e w' => e = .returned (.slice a 0 cap) ∧ w' = w := Any.slices_Compact_int_empty laysNm220 a cap w
open Go.RowKit Go.Sort in
theorem slices_Sort_int_none (p : Option Addr) (cap : Nat) (w : World) :
    Calls Tryz.prog 82 #[.slice p 0 cap] w fun e w' => e = .returned (.tuple #[]) ∧ w' = w := Any.slices_Sort_int_none lays189 p cap w
end Go.Proofs.YtkjpmkopnkkbmaaGreatDoor

/- A cell that no recorded step looked at does not matter. No program in sight. -/
set_option maxRecDepth 100000
namespace Go.Proofs.YtkjpmkopnkkbmaaGreatDoor
open Go.RowKit

def Agr (a : Nat) (m m' : List Int) : Prop := m.length = m'.length ∧ ∀ n : Nat, n ≠ a → m.getD n 0 = m'.getD n 0
theorem Agr.get {a : Nat} {m m' : List Int} (h : Agr a m m') {i : Int} (hi : i.toNat ≠ a) : getI m' i = getI m i := (h.2 _ hi).symm
theorem Agr.put {a : Nat} {m m' : List Int} (h : Agr a m m') (i : Nat) (v : Int) : Agr a (m.set i v) (m'.set i v) := by
  refine ⟨by simp [h.1], fun n hn => ?_⟩
  have e := h.2 n hn
  simp only [List.getD_eq_getElem?_getD, List.getElem?_set, h.1] at e ⊢
  by_cases hin : i = n
  · simp only [hin, if_true]
  · simp only [hin, if_false]; exact e
theorem stepV_go {s : StV} (h : s.status = 0) : stepV s = mAdv s := by
  unfold stepV
  rw [runM_go h (by decide), runM_stop (Or.inr (by decide))]
def plsX (x : SnV) : List Int := x.ip :: (if arB x.cell = true then [x.ip + 1] else [])
def plsL : List SnV → List Int
  | [] => []
  | x :: r => plsX x ++ plsL r
theorem recL_place (start : Int) : ∀ (n : Nat) (s : StV) (l : List SnV), MOk s → (∀ x ∈ l, (0 ≤ x.ip ∧ x.ip < 3000)) → ∀ x ∈ (recL start n s l).steps, 0 ≤ x.ip ∧ x.ip < 3000
  | 0, s, l, _, h => h
  | n + 1, s, l, hm, h => by
    unfold recL
    split
    · exact h
    cases hn : nextV s with
    | none => exact h
    | some p =>
      obtain ⟨x, t⟩ := p
      obtain ⟨r0, r1, r2, r3, r4, r5, r6, _⟩ := nextV_run hn
      have k3 := hm.me
      refine recL_place start n t (l ++ [x]) (by rw [r2]; exact mok_adv hm) fun y hy => ?_
      rcases List.mem_append.1 hy with hy | hy
      · exact h y hy
      · rw [List.mem_singleton.1 hy, r3]; omega
theorem recV_place {s : StV} (hm : MOk s) (most : Int) : ∀ x ∈ (recV s most).steps, 0 ≤ x.ip ∧ x.ip < 3000 := recL_place s.ip _ s [] hm fun _ h => by cases h
end Go.Proofs.YtkjpmkopnkkbmaaGreatDoor

/- Places that are sorted, each once. No program in sight. -/
set_option maxRecDepth 100000
namespace Go.Proofs.YtkjpmkopnkkbmaaGreatDoor
open Go.RowKit

theorem uniq_lt : ∀ {l m : List Int}, l.Pairwise (· < ·) → m.Pairwise (· < ·) → (∀ x, x ∈ l ↔ x ∈ m) → l = m
  | [], [], _, _, _ => rfl
  | [], b :: m, _, _, h => absurd ((h b).2 (List.mem_cons.2 (Or.inl rfl))) (by simp)
  | a :: l, [], _, _, h => absurd ((h a).1 (List.mem_cons.2 (Or.inl rfl))) (by simp)
  | a :: l, b :: m, hl, hm, h => by
    obtain ⟨l1, l2⟩ := List.pairwise_cons.1 hl
    obtain ⟨m1, m2⟩ := List.pairwise_cons.1 hm
    have e : a = b := by
      rcases List.mem_cons.1 ((h a).1 (List.mem_cons.2 (Or.inl rfl))) with e | e
      · exact e
      rcases List.mem_cons.1 ((h b).2 (List.mem_cons.2 (Or.inl rfl))) with e' | e'
      · exact e'.symm
      · have := m1 a e; have := l1 b e'; omega
    subst e
    congr 1
    refine uniq_lt l2 m2 fun x => ⟨fun hx => ?_, fun hx => ?_⟩
    · rcases List.mem_cons.1 ((h x).1 (List.mem_cons.2 (Or.inr hx))) with e | e
      · have := l1 x hx; omega
      · exact e
    · rcases List.mem_cons.1 ((h x).2 (List.mem_cons.2 (Or.inr hx))) with e | e
      · have := m1 x hx; omega
      · exact e
theorem cUp (d : Array Int) (hs : ∀ i j, i ≤ j → j < d.size → d[i]! ≤ d[j]!) : ∀ m, m ≤ d.size → (Lib.compactUpTo d m).Pairwise (· < ·) ∧ ∀ x, x ∈ Lib.compactUpTo d m ↔ ∃ j, j < m ∧ d[j]! = x
  | 0, _ => ⟨List.Pairwise.nil, fun x => ⟨(fun h => by cases h), fun ⟨j, h, _⟩ => by omega⟩⟩
  | m + 1, hm => by
    obtain ⟨h1, h2⟩ := cUp d hs m (by omega)
    rw [Lib.compactUpTo_succ]
    by_cases hk : Lib.keeps d m = true
    · rw [if_pos hk]
      have hk' : m = 0 ∨ d[m]! ≠ d[m - 1]! := of_decide_eq_true hk
      refine ⟨List.pairwise_append.2 ⟨h1, List.pairwise_singleton _ _, fun a ha b hb => ?_⟩, fun x => ?_⟩
      · rw [List.mem_singleton.1 hb]
        obtain ⟨j, hj, rfl⟩ := (h2 a).1 ha
        have p1 := hs j (m - 1) (by omega) (by omega)
        have p2 := hs (m - 1) m (by omega) (by omega)
        have p3 := hk'.resolve_left (by omega)
        omega
      · rw [List.mem_append, List.mem_singleton, h2]
        refine ⟨fun h => ?_, fun ⟨j, hj, e⟩ => ?_⟩
        · rcases h with ⟨j, hj, e⟩ | h
          · exact ⟨j, by omega, e⟩
          · exact ⟨m, by omega, h.symm⟩
        · by_cases hjm : j = m
          · subst hjm; exact Or.inr e.symm
          · exact Or.inl ⟨j, by omega, e⟩
    · rw [if_neg hk, List.append_nil]
      have hk' : ¬ (m = 0 ∨ d[m]! ≠ d[m - 1]!) := fun h => hk (decide_eq_true h)
      have hm0 : m ≠ 0 := fun h => hk' (Or.inl h)
      have he : d[m]! = d[m - 1]! := Classical.byContradiction fun h => hk' (Or.inr h)
      refine ⟨h1, fun x => ?_⟩
      rw [h2]
      refine ⟨fun ⟨j, hj, e⟩ => ⟨j, by omega, e⟩, fun ⟨j, hj, e⟩ => ?_⟩
      by_cases hjm : j = m
      · exact ⟨m - 1, by omega, by rw [← he, ← hjm]; exact e⟩
      · exact ⟨j, by omega, e⟩
def sortI (zs : List Int) : List Int := zs.mergeSort fun x y => decide (x ≤ y)
def onceI (zs : List Int) : List Int := Lib.compact (sortI zs)
theorem sortI_len (zs : List Int) : (sortI zs).length = zs.length := List.length_mergeSort _
theorem sortI_le (zs : List Int) : (sortI zs).Pairwise (· ≤ ·) := by
  have h := List.pairwise_mergeSort (le := fun x y : Int => decide (x ≤ y)) (fun a b c h1 h2 => by
    have h1 := of_decide_eq_true h1
    have h2 := of_decide_eq_true h2
    exact decide_eq_true (by omega)) (fun a b => by
    by_cases h : a ≤ b
    · simp [h]
    · simp [show b ≤ a by omega]) zs
  exact h.imp fun h => of_decide_eq_true h
theorem onceI_ok (zs : List Int) : (onceI zs).Pairwise (· < ·) ∧ ∀ x, x ∈ onceI zs ↔ x ∈ zs := by
  have hp := sortI_le zs
  obtain ⟨l, hl⟩ : ∃ l, l = sortI zs := ⟨_, rfl⟩
  have hm : ∀ x, x ∈ l ↔ x ∈ zs := fun x => by rw [hl]; exact List.mem_mergeSort
  unfold onceI
  rw [← hl] at hp ⊢
  have hg : ∀ j, j < l.length → l.toArray[j]! = l[j]! := fun j hj => by simp
  have hs : ∀ i j, i ≤ j → j < l.toArray.size → l.toArray[i]! ≤ l.toArray[j]! := fun i j hij hj => by
    have hj : j < l.length := by simpa using hj
    rw [hg i (by omega), hg j hj, List.getElem!_eq_getElem?_getD, List.getElem!_eq_getElem?_getD, List.getElem?_eq_getElem (by omega), List.getElem?_eq_getElem hj]
    show l[i] ≤ l[j]
    rcases Nat.lt_or_ge i j with h | h
    · exact List.pairwise_iff_getElem.1 hp i j (by omega) hj h
    · have : i = j := by omega
      subst this; exact Int.le_refl _
  obtain ⟨h1, h2⟩ := cUp l.toArray hs l.length (by simp)
  refine ⟨h1, fun x => ?_⟩
  show x ∈ Lib.compactUpTo l.toArray l.length ↔ _
  rw [h2 x, ← hm x]
  refine ⟨fun ⟨j, hj, e⟩ => ?_, fun h => ?_⟩
  · rw [hg j hj, List.getElem!_eq_getElem?_getD, List.getElem?_eq_getElem hj] at e
    have e : l[j] = x := e
    rw [← e]; exact List.getElem_mem hj
  · obtain ⟨j, hj, e⟩ := List.getElem_of_mem h
    refine ⟨j, hj, ?_⟩
    rw [hg j hj, List.getElem!_eq_getElem?_getD, List.getElem?_eq_getElem hj]
    exact e
def inN (l : List Int) (n : Nat) : List Int := ((List.range n).map fun k => ((k : Nat) : Int)).filter fun x => decide (x ∈ l)
theorem inN_succ (l : List Int) (n : Nat) : inN l (n + 1) = inN l n ++ (if (n : Int) ∈ l then [(n : Int)] else []) := by
  unfold inN
  rw [List.range_succ, List.map_append, List.filter_append]
  congr 1
  by_cases h : (n : Int) ∈ l <;> simp [h]
theorem inN_ok (l : List Int) : ∀ n : Nat, (inN l n).Pairwise (· < ·) ∧ (∀ x, x ∈ inN l n ↔ x ∈ l ∧ 0 ≤ x ∧ x < n) ∧ (inN l n).length ≤ n
  | 0 => ⟨List.Pairwise.nil, fun x => ⟨(fun h => by cases h), fun h => by omega⟩, Nat.le_refl _⟩
  | n + 1 => by
    obtain ⟨h1, h2, h3⟩ := inN_ok l n
    rw [inN_succ]
    by_cases h : (n : Int) ∈ l
    · rw [if_pos h]
      refine ⟨List.pairwise_append.2 ⟨h1, List.pairwise_singleton _ _, fun a ha b hb => ?_⟩, fun x => ?_, by simp; omega⟩
      · rw [List.mem_singleton.1 hb]
        have := (h2 a).1 ha
        omega
      · rw [List.mem_append, List.mem_singleton, h2]
        refine ⟨fun g => ?_, fun g => ?_⟩
        · rcases g with g | g
          · exact ⟨g.1, by omega, by omega⟩
          · rw [g]; exact ⟨h, by omega, by omega⟩
        · by_cases hx : x = n
          · exact Or.inr hx
          · exact Or.inl ⟨g.1, by omega, by omega⟩
    · rw [if_neg h, List.append_nil]
      refine ⟨h1, fun x => ?_, by omega⟩
      rw [h2]
      refine ⟨fun g => ⟨g.1, by omega, by omega⟩, fun g => ⟨g.1, by omega, ?_⟩⟩
      have : x ≠ n := fun e => h (by rw [← e]; exact g.1)
      omega
theorem once_in {l : List Int} {n : Nat} (h : ∀ x ∈ l, 0 ≤ x ∧ x < n) : onceI l = inN l n := by
  obtain ⟨h1, h2⟩ := onceI_ok l
  obtain ⟨g1, g2, _⟩ := inN_ok l n
  refine uniq_lt h1 g1 fun x => ?_
  rw [h2, g2]
  exact ⟨fun g => ⟨g, h x g⟩, fun g => g.1⟩
theorem plsL_app (l r : List SnV) : plsL (l ++ r) = plsL l ++ plsL r := by
  induction l with
  | nil => rfl
  | cons x l ih => show plsX x ++ plsL (l ++ r) = _; rw [ih]; show _ = (plsX x ++ plsL l) ++ plsL r; rw [List.append_assoc]
theorem plsL_in {l : List SnV} (h : ∀ x ∈ l, 0 ≤ x.ip ∧ x.ip < 3000) : ∀ y ∈ plsL l, 0 ≤ y ∧ y < 3001 := by
  induction l with
  | nil => intro y hy; cases hy
  | cons x l ih =>
    intro y hy
    rcases List.mem_append.1 hy with hy | hy
    · have hx := h x (List.mem_cons.2 (Or.inl rfl))
      unfold plsX at hy
      rcases List.mem_cons.1 hy with hy | hy
      · omega
      · split at hy
        · rw [List.mem_singleton.1 hy]; omega
        · cases hy
    · exact ih (fun z hz => h z (List.mem_cons.2 (Or.inr hz))) y hy
theorem plsL_len (l : List SnV) : (plsL l).length ≤ 2 * l.length := by
  induction l with
  | nil => exact Nat.le_refl _
  | cons x l ih =>
    show (plsX x ++ plsL l).length ≤ _
    rw [List.length_append, List.length_cons]
    have : (plsX x).length ≤ 2 := by unfold plsX; split <;> simp
    omega
theorem onceI_len (l : List Int) : (onceI l).length ≤ l.length := by
  have := Lib.compact_length_le (sortI l)
  rw [sortI_len] at this
  exact this
end Go.Proofs.YtkjpmkopnkkbmaaGreatDoor

/- slices.Sort and slices.Compact of a list of numbers that lies in a block of its own. -/
set_option maxRecDepth 100000
namespace Go.Proofs.YtkjpmkopnkkbmaaGreatDoor
open Go.RowKit

theorem flI (xs : List Int) : fl intE xs = xs.map (Value.int .i64) := by
  induction xs with
  | nil => rfl
  | cons x xs ih => rw [fl_cons, ih]; rfl
theorem ow_cases {w : World} {s : Sl} {xs : List Int} (h : Ow intE w s xs) : (xs = [] ∧ s = nilS) ∨ ∃ g cur, s.val = .slice (some ⟨g, 0, none⟩) xs.length s.cap ∧ w.heap[g]? = some (.cells cur T_int (0, 0)) ∧ xs.length ≤ s.cap ∧ s.cap ≤ maxLen ∧ cur.size = s.cap * 1 ∧ cur.toList.take xs.length = xs.map (Value.int .i64) := by
  obtain ⟨ptr, len, cap⟩ := s
  rcases h.2 with ⟨h1, h2⟩ | ⟨g, cap', cur, h1, _, h3, h4, h5, h6, h7⟩
  · have h1 : Value.slice ptr len cap = .slice none 0 0 := h1
    injection h1 with e1 e2 e3
    subst e1 e2 e3
    exact Or.inl ⟨List.eq_nil_of_length_eq_zero h2, rfl⟩
  · have h1 : Value.slice ptr len cap = .slice (some ⟨g, 0, none⟩) xs.length cap' := h1
    injection h1 with e1 e2 e3
    subst e1 e2 e3
    refine Or.inr ⟨g, cur, rfl, h3, h4, h5, h6, ?_⟩
    rw [flI] at h7
    have h7 : cur.toList.take (xs.length * 1) = _ := h7
    rw [Nat.mul_one] at h7; exact h7
theorem sort_any {w : World} {s : Sl} {xs : List Int} (h : Ow intE w s xs) (hl : xs.length ≤ 100000000) :
    Calls Tryz.prog fn_slices_Sort_sl_int_int #[s.val] w fun e w' => e = .returned (.tuple #[]) ∧ Ow intE w' s (sortI xs) ∧ Chg (fun k => s.blk = some k) w w' := by
  rcases ow_cases h with ⟨rfl, rfl⟩ | ⟨g, cur, hv, hb, h4, h5, h6, h7⟩
  · refine (slices_Sort_int_none none 0 w).mono ?_
    rintro e w' ⟨rfl, rfl⟩
    have e0 : sortI [] = [] := by simp [sortI]
    rw [e0]
    exact ⟨rfl, Ow.nil _ _, Chg.refl _ _⟩
  · have hg : g < w.heap.size := (Array.getElem?_eq_some_iff.1 hb).1
    rw [hv]
    refine (slices_Sort_int g 0 s.cap xs w (holds_of_blockI hb h7) hg (by omega)).mono ?_
    rintro e w' ⟨rfl, n, os, rfl⟩
    refine ⟨rfl, ?_, Chg.grown (grownBy_sortedI _) (fun k hk => ?_)⟩
    · have o := ownsRow_sortedI (base := 0) (n := n) (os := os) (ts := sortI xs) (ss := xs) (sortI_len xs) (Nat.zero_le _) hb h4 h5 h6
      show World.ownsRow _ 0 T_int 1 s.val (sortI xs).length (fl intE (sortI xs))
      rw [flI, hv, sortI_len]; exact o
    · unfold Sl.blk; rw [hv]; exact hk
theorem compact_any {w : World} {s : Sl} {xs : List Int} (h : Ow intE w s xs) (hl : xs.length ≤ 100000000) :
    Calls Tryz.prog fn_slices_Compact_sl_int_int #[s.val] w fun e w' => ∃ s' : Sl, e = .returned s'.val ∧ Ow intE w' s' (Lib.compact xs) ∧ s'.blk = s.blk ∧ Chg (fun k => s.blk = some k) w w' := by
  rcases ow_cases h with ⟨rfl, rfl⟩ | ⟨g, cur, hv, hb, h4, h5, h6, h7⟩
  · refine (slices_Compact_int_empty none 0 w).mono ?_
    rintro e w' ⟨rfl, rfl⟩
    exact ⟨nilS, rfl, Ow.nil _ _, rfl, Chg.refl _ _⟩
  · have hc := Lib.compact_length_le xs
    obtain ⟨ys, hys⟩ : ∃ ys, ys = Lib.compact xs ++ List.replicate (xs.length - (Lib.compact xs).length) 0 := ⟨_, rfl⟩
    have hyl : ys.length = xs.length := by rw [hys]; simp; omega
    rw [hv]
    refine (slices_Compact_int g 0 s.cap xs w (holds_of_blockI hb h7) (by omega) h4).mono ?_
    rintro e w' ⟨rfl, q, rfl⟩
    rw [← hys, ← Sort.grow_empty (Sort.putRow (Value.int .i64) (Sort.ahead w q) g 0 ys.toArray)]
    have o := ownsRow_sortedI (base := 0) (n := q) (os := #[]) (ts := ys) (ss := xs) hyl (Nat.zero_le _) hb h4 h5 h6
    have o' : Ow intE (Sort.grow (Sort.putRow (Value.int .i64) (Sort.ahead w q) g 0 ys.toArray) #[]) ⟨some ⟨g, 0, none⟩, xs.length, s.cap⟩ ys := by
      show World.ownsRow _ 0 T_int 1 _ ys.length (fl intE ys)
      rw [flI, hyl]; exact o
    refine ⟨⟨some ⟨g, 0, none⟩, (Lib.compact xs).length, s.cap⟩, rfl, ?_, ?_, Chg.grown (grownBy_sortedI _) (fun k hk => ?_)⟩
    · have := o'.take (n := (Lib.compact xs).length) (by omega)
      rw [hys, List.take_left] at this
      rw [hys]; exact this
    · show some g = s.blk
      unfold Sl.blk; rw [hv]; rfl
    · unfold Sl.blk; rw [hv]; exact hk
end Go.Proofs.YtkjpmkopnkkbmaaGreatDoor

/- The cells of code that a recording looked at: record.Cells, and the document's. -/
set_option maxRecDepth 100000
namespace Go.Proofs.YtkjpmkopnkkbmaaGreatDoor
open Go.RowKit

theorem app1y {w w2 : World} {l : Sl} {b : Nat} {xs : List Int} {x : Int} (hb : b = w.heap.size) (hw : w2 = World.alloc w (.cells #[.int .i64 x] T_int)) (h : Ow intE w l xs) (hl : xs.length ≤ 10000000) {G : Sl → World → Prop}
    (k : ∀ (s' : Sl) (w' : World), Ow intE w' s' (xs ++ [x]) → Chg (fun k => l.blk = some k) w w' → (∀ k, s'.blk = some k → l.blk = some k ∨ w.heap.size ≤ k) → G s' w') :
    ∃ s' : Sl, ∃ w' : World, (Builtin.append_ #[T_sl_int, T_sl_int] T_sl_int #[l.val, .slice (some ⟨b, 0, none⟩) 1 1]).run Tryz.prog w2 = .ok s'.val w' ∧ G s' w' := by
  have h1 : Ow intE w2 ⟨some ⟨b, 0, none⟩, 1, 1⟩ [x] := by
    rw [hw, hb]; exact Ow.lit (E := intE) w [x] [.int .i64 x] rfl (by show 1 ≤ maxLen; unfold maxLen; omega)
  have h2 : Chg No w w2 := al hw
  have z2 := h2.size
  refine app_ok intOk (s := l) (t := ⟨some ⟨b, 0, none⟩, 1, 1⟩) rfl rfl (h.no h2) h1.rd (by show (xs.length + 1) * 8 ≤ _; omega) (by show xs.length + 1 ≤ _; unfold maxLen; omega) ?_
  intro s' w' h' c hbk
  refine k s' w' h' (h2.trans c (fun _ _ h => h.elim) (fun _ _ h => h)) (fun j hj => ?_)
  rcases hbk with hh | hh
  · exact Or.inl (hh ▸ hj)
  · have := Option.some.inj (hh.symm.trans hj)
    exact Or.inr (by omega)
theorem take_pls {xs : List SnV} {j : Nat} {x : SnV} (hx : xs[j]? = some x) : plsL (xs.take (j + 1)) = plsL (xs.take j) ++ plsX x := by
  have hj : j < xs.length := (List.getElem?_eq_some_iff.1 hx).1
  have e : xs.take (j + 1) = xs.take j ++ [x] := by
    rw [List.take_succ_eq_append_getElem hj, (List.getElem?_eq_some_iff.1 hx).2]
  rw [e, plsL_app]
  show _ ++ (plsX x ++ []) = _
  rw [List.append_nil]
theorem cells_rc {w : World} (R : RcC) {xs : List SnV} (hst : Rd seE w R.steps xs) (hin : ∀ x ∈ xs, 0 ≤ x.ip ∧ x.ip < 3000) (hl : xs.length ≤ 1000) :
    Calls Tryz.prog fn_record_Cells #[.agg (rcC R).toArray] w fun e w' => ∃ s : Sl, e = .returned s.val ∧ Ow intE w' s (onceI (plsL xs)) ∧ Chg No w w' ∧ (∀ k, s.blk = some k → w.heap.size ≤ k) := by
  refine (record_Cells_lift (K := fun v w' => ∃ s : Sl, v = s.val ∧ Ow intE w' s (onceI (plsL xs)) ∧ Chg No w w' ∧ (∀ k, s.blk = some k → w.heap.size ≤ k)) ?_).mono (by rintro e w' ⟨v, rfl, s, rfl, h⟩; exact ⟨s, rfl, h⟩)
  unfold record_Cells_sh
  have hlen := hst.len
  refine inRc R fun b5 w6 hb5 z6 o6 c6 => ⟨R.steps, o6.cell rfl, ?_⟩
  refine ⟨fun out n w' => ∃ j : Nat, n = j ∧ j ≤ xs.length ∧ Ow intE w' out (plsL (xs.take j)) ∧ (∀ k, out.blk = some k → w6.heap.size ≤ k) ∧ Chg No w6 w', fun _ n _ => xs.length - n.toNat, ⟨0, rfl, Nat.zero_le _, Ow.nil _ _, (fun k hk => by cases hk), Chg.refl _ _⟩, ?_⟩
  rintro out n w8 ⟨j, rfl, hj, hout, hnew, c8⟩
  have hpl := plsL_len (xs.take j)
  have hpl2 : (xs.take j).length ≤ 1000 := by rw [List.length_take]; omega
  refine brB_of (fun hlt => ?_) (fun hge => ?_)
  · have hlt : j < xs.length := by have := of_decide_eq_true hlt; omega
    obtain ⟨x, hx⟩ : ∃ x, xs[j]? = some x := ⟨_, List.getElem?_eq_getElem hlt⟩
    have hxin := hin x (List.mem_of_getElem? hx)
    have htk := take_pls hx
    refine ⟨fun out' w' => Ow intE w' out' (plsL (xs.take j) ++ plsX x) ∧ (∀ k, out'.blk = some k → w6.heap.size ≤ k) ∧ Chg No w6 w', ?_, ?_⟩
    · rintro out' w33 ⟨h1, h2, h3⟩
      rw [wr_in (by omega)]
      exact ⟨⟨j + 1, by omega, by omega, by rw [htk]; exact h1, h2, h3⟩, by show xs.length - Int.toNat ((j : Int) + 1) < xs.length - Int.toNat (j : Int); omega⟩
    refine (hst.no (trN c6 c8)).ix (i := (j : Int)) (by omega) (by rw [Int.toNat_natCast]; exact hx) fun ad _ hcell => ?_
    have q0 := hcell 0 _ rfl
    rw [add0] at q0
    refine ⟨x.ip, x.cell, x.arg, x.next, q0, hcell 1 _ rfl, hcell 2 _ rfl, hcell 3 _ rfl, varSn x fun b15 w17 hb15 z15 o17 c17 => ⟨x.ip, o17.cell rfl, ?_⟩⟩
    intro b20 w21 hb20 hw21
    have l17 := o17.lt
    have lout : ∀ k, out.blk = some k → k < w8.heap.size := fun k hk => hout.lt hk
    refine app1y hb20 hw21 (hout.no c17) (by omega) ?_
    intro s22 w23 h22 c23 b22
    have z23 := c23.size
    have z17 := c17.size
    have z8 := c8.size
    have o23 := o17.chg c23 (fun he => by have := lout _ he; omega)
    have k23 : Chg No w6 w23 := (trN c8 c17).trans c23 (fun _ _ h => h) (fun k hk he => by have := hnew k he; omega)
    have n22 : ∀ k, s22.blk = some k → w6.heap.size ≤ k := fun k hk => by
      rcases b22 k hk with e | e
      · exact hnew k e
      · omega
    refine ⟨x.cell, o23.cell rfl, (arg_rc _ w23).mono ?_⟩
    rintro e w26 ⟨rfl, rfl⟩
    refine ⟨_, rfl, brB_of (fun ha => ⟨x.ip, o23.cell rfl, ?_⟩) (fun ha => ?_)⟩
    · intro b29 w30 hb29 hw30
      refine app1y hb29 hw30 h22 (by rw [List.length_append, List.length_singleton]; omega) ?_
      intro s31 w32 h31 c32 b31
      rw [wr_in (by omega)] at h31
      refine ⟨?_, fun k hk => ?_, k23.trans c32 (fun _ _ h => h) (fun k hk he => by have := n22 k he; omega)⟩
      · unfold plsX
        rw [if_pos ha]
        rw [List.append_assoc] at h31
        exact h31
      · rcases b31 k hk with e | e
        · exact n22 k e
        · have := k23.size; omega
    · refine ⟨?_, n22, k23⟩
      unfold plsX
      rw [if_neg (by rw [ha]; decide)]
      exact h22
  · have hge : j = xs.length := by have := of_decide_eq_false hge; omega
    subst hge
    rw [List.take_length] at hout hpl
    refine (sort_any hout (by omega)).mono ?_
    rintro e w35 ⟨rfl, h35, c35⟩
    refine ⟨rfl, ?_⟩
    refine (compact_any h35 (by rw [sortI_len]; omega)).mono ?_
    rintro e w37 ⟨s', rfl, h37, b37, c37⟩
    refine ⟨s', rfl, s', rfl, h37, (((trN c6 c8).trans c35 (fun _ _ h => h) (fun k hk he => ?_)).trans c37 (fun _ _ h => h) (fun k hk he => ?_)), fun k hk => ?_⟩
    · have := hnew k he; omega
    · have := hnew k he; omega
    · rw [b37] at hk
      have := hnew k hk; omega
/-! ### The document's -/
def flE : Enc Bool := ⟨T_bool, 1, 1, fun b => [.bool b], by intro x; rfl, by intro x u hu; simp at hu; subst hu; rfl, by decide⟩
theorem flOk : EncOk Tryz.prog flE T_sl_bool := EncOk.of (z := .bool false) (by kernel_rfl) (by kernel_rfl) (by kernel_rfl)
theorem fl_rep_fl (n : Nat) : fl flE (List.replicate n false) = List.replicate n (Value.bool false) := by
  induction n with
  | zero => rfl
  | succ m ih => rw [List.replicate_succ, List.replicate_succ, fl_cons, ih]; rfl
theorem make_flags {w : World} {n : Int} {N : Nat} (hn : n = (N : Int)) (hN : N ≤ 1000000) : ∃ w' : World, (Instr.makeSlice T_sl_bool (.int .i64 n) (.int .i64 n)).run Tryz.prog w = .ok (⟨some ⟨w.heap.size, 0, none⟩, N, N⟩ : Sl).val w' ∧ Ow flE w' ⟨some ⟨w.heap.size, 0, none⟩, N, N⟩ (List.replicate N false) ∧ Chg No w w' := by
  subst hn
  obtain ⟨i, z, hi, hz, h1, h2, h3⟩ := flOk.info
  have hz0 : z = .bool false := by
    have e : (Tryz.prog.info? T_bool).bind (·.zero) = some (.bool false) := by kernel_rfl
    have hi' : Tryz.prog.info? T_bool = some i := hi
    rw [hi'] at e
    exact Option.some.inj (hz.symm.trans e)
  subst hz0
  have h1' : i.size = 1 := h1
  have h2' : i.bytes = 1 := h2
  have hr := run_make (P := Tryz.prog) w T_sl_bool T_bool i (.bool false) flOk.und hi hz .i64 .i64 (N : Int) (N : Int) (by omega) (by omega) (by rw [h2']; omega) (by omega)
  rw [Int.toNat_natCast, h1', Nat.mul_one] at hr
  have hz1 : (Value.bool false).cells = #[.bool false] := rfl
  rw [hz1] at hr
  refine ⟨_, hr, ?_, Chg.alloc _ _ _⟩
  have hm : madeCells #[Value.bool false] N = (List.replicate N (Value.bool false)).toArray := Array.ext' (by rw [madeOne])
  rw [hm]
  have := Ow.lit (E := flE) w (List.replicate N false) (List.replicate N (Value.bool false)) (fl_rep_fl N).symm (by rw [List.length_replicate]; unfold maxLen; omega)
  rw [List.length_replicate] at this
  exact this
def mkB (L : List Int) (N : Nat) : List Bool := (List.range N).map fun k => decide (((k : Nat) : Int) ∈ L)
theorem mkB_len (L : List Int) (N : Nat) : (mkB L N).length = N := by simp [mkB]
theorem mkB_at {L : List Int} {N k : Nat} (h : k < N) : (mkB L N)[k]? = some (decide (((k : Nat) : Int) ∈ L)) := by
  unfold mkB
  rw [List.getElem?_map, List.getElem?_range h]; rfl
theorem mkB_nil (N : Nat) : mkB [] N = List.replicate N false := by
  refine List.ext_getElem? fun k => ?_
  by_cases h : k < N
  · rw [mkB_at h, List.getElem?_replicate_of_lt h]; rfl
  · rw [List.getElem?_eq_none (by rw [mkB_len]; omega), List.getElem?_eq_none (by rw [List.length_replicate]; omega)]
theorem mkB_set {L : List Int} {N : Nat} {n : Int} (h0 : 0 ≤ n) (h1 : n < N) : (mkB L N).set n.toNat true = mkB (L ++ [n]) N := by
  refine List.ext_getElem? fun k => ?_
  by_cases h : k < N
  · rw [mkB_at h]
    by_cases hk : n.toNat = k
    · rw [← hk, List.getElem?_set_self (by rw [mkB_len]; omega)]
      rw [decide_eq_true (List.mem_append.2 (Or.inr (List.mem_singleton.2 (by omega))))]
    · rw [List.getElem?_set_ne hk, mkB_at h]
      congr 1
      refine decide_eq_decide.2 ⟨fun g => List.mem_append.2 (Or.inl g), fun g => ?_⟩
      rcases List.mem_append.1 g with g | g
      · exact g
      · have := List.mem_singleton.1 g; omega
  · rw [List.getElem?_eq_none (by rw [List.length_set, mkB_len]; omega), List.getElem?_eq_none (by rw [mkB_len]; omega)]
theorem arB_op (c : Int) : arB c = opArg c := by
  unfold arB
  by_cases h : c < 64
  · rw [decide_eq_true h]; rfl
  · rw [decide_eq_false h]; unfold opArg; rw [decide_eq_false (by omega)]; rfl
theorem rcells_any {w : World} (R : RcC) {xs : List SnV} (hst : Rd seE w R.steps xs) (hin : ∀ x ∈ xs, 0 ≤ x.ip ∧ x.ip < 3000) (hl : xs.length ≤ 1000) :
    Calls Tryz.prog fn_hollowayref9_Cells #[.agg (rcC R).toArray] w fun e w' => ∃ s : Sl, e = .returned s.val ∧ Ow intE w' s (inN (plsL xs) 3001) ∧ Chg No w w' ∧ (∀ k, s.blk = some k → w.heap.size ≤ k) := by
  refine (hollowayref9_Cells_lift (K := fun v w' => ∃ s : Sl, v = s.val ∧ Ow intE w' s (inN (plsL xs) 3001) ∧ Chg No w w' ∧ (∀ k, s.blk = some k → w.heap.size ≤ k)) ?_).mono (by rintro e w' ⟨v, rfl, s, rfl, h⟩; exact ⟨s, rfl, h⟩)
  unfold hollowayref9_Cells_sh
  have hlen := hst.len
  refine inRc R fun b5 w6 hb5 z6 o6 c6 => ?_
  obtain ⟨w8, hr, hB, c8⟩ := make_flags (w := w6) (n := 3001) (N := 3001) rfl (by omega)
  obtain ⟨s7, hs7⟩ : ∃ s7 : Sl, s7 = ⟨some ⟨w6.heap.size, 0, none⟩, 3001, 3001⟩ := ⟨_, rfl⟩
  rw [← hs7] at hr hB
  have hp7 : s7.blk = some w6.heap.size := by rw [hs7]; rfl
  have hl7 : s7.len = 3001 := by rw [hs7]
  have l5 := o6.lt
  refine ⟨s7, w8, hr, ?_⟩
  refine ⟨fun n w' => ∃ j : Nat, n = j ∧ j ≤ xs.length ∧ Ow flE w' s7 (mkB (plsL (xs.take j)) 3001) ∧ Ob w' b5 (rcC R) T_api_Recording ∧ Chg No w6 w', fun n _ => xs.length - n.toNat, ⟨0, rfl, Nat.zero_le _, by rw [List.take_zero]; show Ow flE w8 s7 (mkB [] 3001); rw [mkB_nil]; exact hB, o6.no c8, c8⟩, ?_⟩
  rintro n w9 ⟨j, rfl, hj, hB9, o9, c9⟩
  refine ⟨R.steps, o9.cell rfl, brB_of (fun hlt => ?_) (fun hge => ?_)⟩
  · have hlt : j < xs.length := by have := of_decide_eq_true hlt; omega
    obtain ⟨x, hx⟩ : ∃ x, xs[j]? = some x := ⟨_, List.getElem?_eq_getElem hlt⟩
    have hxin := hin x (List.mem_of_getElem? hx)
    have htk := take_pls hx
    refine ⟨fun w' => Ow flE w' s7 (mkB (plsL (xs.take j) ++ plsX x) 3001) ∧ Ob w' b5 (rcC R) T_api_Recording ∧ Chg No w6 w', ?_, R.steps, o9.cell rfl, ?_⟩
    · rintro w28 ⟨h1, h2, h3⟩
      rw [wr_in (by omega)]
      exact ⟨⟨j + 1, by omega, by omega, by rw [htk]; exact h1, h2, h3⟩, by show xs.length - Int.toNat ((j : Int) + 1) < xs.length - Int.toNat (j : Int); omega⟩
    have put : ∀ {wa : World} {L : List Int} {v : Int} {G : World → Prop}, 0 ≤ v → v < 3001 → Ow flE wa s7 (mkB L 3001) → Ob wa b5 (rcC R) T_api_Recording → Chg No w6 wa → (∀ wb, Ow flE wb s7 (mkB (L ++ [v]) 3001) → Ob wb b5 (rcC R) T_api_Recording → Chg No w6 wb → G wb) →
        ∃ a : Addr, s7.ptr = some a ∧ 0 ≤ v ∧ v < (s7.len : Int) ∧ wrOk wa (a.add (Int.toNat v * 1)) 1 ∧ ∀ wb : World, wb = stW wa (a.add (Int.toNat v * 1)) 0 [.bool true] → G wb := by
      intro wa L v G h0 h1 gB gO gC k
      refine gB.rd.ix (i := v) h0 (mkB_at (by omega)) fun a ha _ => ?_
      obtain ⟨f1, f2⟩ := gB.set1 ha (k := v.toNat) (j := 0) (x' := true) (u := .bool true) (mkB_at (by omega)) (by decide) rfl
      rw [add0] at f1 f2
      refine ⟨f1, fun wb hwb => ?_⟩
      have c : Chg (fun k => s7.blk = some k) wa wb := by rw [hwb]; exact Chg.st (S := fun k => s7.blk = some k) (by rw [add_block]; exact blk_ptr ha)
      refine k wb ?_ (gO.chg c (fun he => ?_)) (gC.trans c (fun _ _ h => h) (fun k hk he => ?_))
      · rw [hwb, ← mkB_set h0 (by omega)]; exact f2
      · rw [hp7] at he; injection he with he; omega
      · rw [hp7] at he; injection he with he; omega
    refine (hst.no (trN c6 c9)).ix (i := (j : Int)) (by omega) (by rw [Int.toNat_natCast]; exact hx) fun ad _ hcell => ?_
    have q0 := hcell 0 _ rfl
    rw [add0] at q0
    refine ⟨x.ip, q0, put hxin.1 (by omega) hB9 o9 c9 fun w16 hB16 o16 c16 => ⟨R.steps, o16.cell rfl, ?_⟩⟩
    refine (hst.no (trN c6 c16)).ix (i := (j : Int)) (by omega) (by rw [Int.toNat_natCast]; exact hx) fun ad' _ hcell' => ?_
    refine ⟨x.cell, hcell' 1 _ rfl, (refArg_any _ w16).mono ?_⟩
    rintro e w21 ⟨rfl, rfl⟩
    rw [← arB_op]
    refine ⟨_, rfl, brB_of (fun ha => ⟨R.steps, o16.cell rfl, ?_⟩) (fun ha => ?_)⟩
    · have q0' := hcell' 0 _ rfl
      rw [add0] at q0'
      refine (hst.no (trN c6 c16)).ix (i := (j : Int)) (by omega) (by rw [Int.toNat_natCast]; exact hx) fun ad2 _ hcell2 => ?_
      have q2 := hcell2 0 _ rfl
      rw [add0] at q2
      refine ⟨x.ip, q2, ?_⟩
      rw [wr_in (x := x.ip + 1) (by omega)]
      refine put (by omega) (by omega) hB16 o16 c16 fun w27 hB27 o27 c27 => ⟨?_, o27, c27⟩
      unfold plsX
      rw [if_pos ha]
      rw [List.append_assoc] at hB27
      exact hB27
    · refine ⟨?_, o16, c16⟩
      unfold plsX
      rw [if_neg (by rw [ha]; decide)]
      exact hB16
  · have hge : j = xs.length := by have := of_decide_eq_false hge; omega
    subst hge
    rw [List.take_length] at hB9
    obtain ⟨L, hL⟩ : ∃ L, L = plsL xs := ⟨_, rfl⟩
    rw [← hL] at hB9 ⊢
    refine ⟨fun out k w' => ∃ m : Nat, k = m ∧ m ≤ 3001 ∧ Ow intE w' out (inN L m) ∧ (∀ k, out.blk = some k → w9.heap.size ≤ k) ∧ Chg No w9 w', fun _ k _ => 3001 - k.toNat, ⟨0, rfl, Nat.zero_le _, Ow.nil _ _, (fun k hk => by cases hk), Chg.refl _ _⟩, ?_⟩
    rintro out k w29 ⟨m, rfl, hm, hout, hnew, c29⟩
    have hil := (inN_ok L m).2.2
    refine brB_of (fun hlt => ?_) (fun hge => ?_)
    · have hlt : m < 3001 := by have := of_decide_eq_true hlt; rw [hl7] at this; omega
      refine ⟨fun out' w' => Ow intE w' out' (inN L (m + 1)) ∧ (∀ k, out'.blk = some k → w9.heap.size ≤ k) ∧ Chg No w9 w', ?_, ?_⟩
      · rintro out' w38 ⟨h1, h2, h3⟩
        rw [wr_in (by omega)]
        exact ⟨⟨m + 1, by omega, by omega, h1, h2, h3⟩, by show 3001 - Int.toNat ((m : Int) + 1) < 3001 - Int.toNat (m : Int); omega⟩
      refine (hB9.no c29).rd.ix (i := (m : Int)) (by omega) (by rw [Int.toNat_natCast]; exact mkB_at hlt) fun a ha hcell => ?_
      have q0 := hcell 0 _ rfl
      rw [add0] at q0
      refine ⟨_, q0, brB_of (fun hb => ?_) (fun hb => ?_)⟩
      · have hmem := of_decide_eq_true hb
        intro b34 w35 hb34 hw35
        refine app1y hb34 hw35 hout (by omega) ?_
        intro s36 w37 h36 c37 b36
        refine ⟨by rw [inN_succ, if_pos hmem]; exact h36, fun k hk => ?_, c29.trans c37 (fun _ _ h => h) (fun k hk he => by have := hnew k he; omega)⟩
        rcases b36 k hk with e | e
        · exact hnew k e
        · have := c29.size; omega
      · have hmem := of_decide_eq_false hb
        exact ⟨by rw [inN_succ, if_neg hmem, List.append_nil]; exact hout, hnew, c29⟩
    · have hge : m = 3001 := by have := of_decide_eq_false hge; rw [hl7] at this; omega
      subst hge
      refine ⟨out, rfl, hout, trN (trN c6 c9) c29, fun k hk => ?_⟩
      have := hnew k hk
      have := c9.size
      omega
end Go.Proofs.YtkjpmkopnkkbmaaGreatDoor

/- A recording may be; a machine behind so many steps. No program in sight. -/
set_option maxRecDepth 100000
namespace Go.Proofs.YtkjpmkopnkkbmaaGreatDoor
open Go.RowKit

theorem nextV_arg {s t : StV} {x : SnV} (h : nextV s = some (x, t)) (ha : arB x.cell = true) : s.ip + 1 < s.mem.length := by
  obtain ⟨h0, _, _, _, _, h5, h6, h7, h8, _, _⟩ := nextV_run h
  rw [h7] at ha
  rcases Int.lt_or_le (s.ip + 1) s.mem.length with g | g
  · exact g
  exfalso
  have hop : opArg (getI s.mem s.ip) = true := by
    unfold arB at ha
    cases ho : opArg (getI s.mem s.ip) with
    | true => rfl
    | false => rw [ho] at ha; simp at ha
  have hc := of_decide_eq_true (show decide _ = true from hop)
  have e : mStep { s with handler := 0 } = .bad (-9) false := by
    unfold mStep
    show (if s.ip < 0 ∨ (s.mem.length : Int) ≤ s.ip then Rs.bad (-9) false else
      if 64 ≤ getI s.mem s.ip then _ else if ¬ (0 ≤ getI s.mem s.ip ∧ getI s.mem s.ip < 48) then _ else
      if opArg (getI s.mem s.ip) = true ∧ (s.mem.length : Int) ≤ s.ip + 1 then Rs.bad (-9) false else _) = _
    rw [if_neg (by omega), if_neg (by omega), if_neg (by omega), if_pos ⟨hop, g⟩]
  have e1 : stepV { s with handler := 0 } = mAdv { s with handler := 0 } := stepV_go (s := { s with handler := 0 }) h0
  have e2 : (stepV { s with handler := 0 }).status = 2 := by
    rw [e1]; unfold mAdv; rw [e]
    show (mFault { s with handler := 0 } (-9)).status = 2
    unfold mFault mCaught
    rw [if_neg (by show ¬ ((3 : Int) ≤ 0 ∧ _); omega)]
  unfold nextV at h
  split at h
  · cases h
  first
  | cases h
  | (rw [if_pos e2] at h; cases h)
theorem nextV_single {s t : StV} {x : SnV} (ok : MOk s) (h : nextV s = some (x, t)) : singleB x = true := by
  obtain ⟨h0, _, _, h3, h4, h5, h6, h7, h8, h9, h10⟩ := nextV_run h
  have k3 := ok.me
  have ha := nextV_arg h
  have p1 : placeB x.ip = true := by unfold placeB; rw [h3, decide_eq_true h5, decide_eq_true (by omega)]; rfl
  have p3 : placeB x.next = true := by rw [h4]; exact h9
  unfold singleB
  rw [h8, p1, p3]
  cases hr : arB x.cell with
  | true =>
    have := ha hr
    have p2 : placeB (x.ip + 1) = true := by unfold placeB; rw [h3, decide_eq_true (by omega), decide_eq_true (by omega)]; rfl
    show (true && ((true || _) && (true && (placeB (if true = true then x.ip + 1 else x.ip) && true)))) = true
    rw [if_pos rfl, p2]; rfl
  | false =>
    rw [hr] at h10
    have h10 : x.arg = 0 := h10
    show (true && ((false || decide (x.arg = 0)) && (true && (placeB (if false = true then x.ip + 1 else x.ip) && true)))) = true
    rw [h10, if_neg (by decide), p1]; rfl
theorem rightL_snoc (start : Int) (x : SnV) : ∀ (l : List SnV) (a : Int) (m : Bool) (b : Int), rightL start a m l = some b → singleB x = true → x.ip = b → ((m = true ∨ l ≠ []) → x.ip ≠ start) → rightL start a m (l ++ [x]) = some x.next
  | [], a, m, b, h, h1, h2, h3 => by
    have h : some a = some b := h
    injection h with h
    show (if singleB x = false ∨ x.ip ≠ a ∨ (m = true ∧ x.ip = start) then none else some x.next) = _
    refine if_neg fun hb => ?_
    rcases hb with hb | hb | hb
    · rw [h1] at hb; cases hb
    · exact hb (by rw [h]; exact h2)
    · exact h3 (Or.inl hb.1) hb.2
  | y :: l, a, m, b, h, h1, h2, h3 => by
    have h : (if singleB y = false ∨ y.ip ≠ a ∨ (m = true ∧ y.ip = start) then none else rightL start y.next true l) = some b := h
    show (if singleB y = false ∨ y.ip ≠ a ∨ (m = true ∧ y.ip = start) then none else rightL start y.next true (l ++ [x])) = _
    split at h
    · cases h
    next hn =>
    rw [if_neg hn]
    exact rightL_snoc start x l y.next true b h h1 h2 fun _ => h3 (Or.inr (by simp))
theorem recL_right (start : Int) : ∀ (n : Nat) (s : StV) (l : List SnV), MOk s → l.length + n ≤ 120 → rightL start start false l = some s.ip → rightR (recL start n s l) = true := by
  have fin : ∀ (s : StV) (l : List SnV) (lp : Bool), l.length ≤ 120 → rightL start start false l = some s.ip → lp = lpB start s l → rightR ⟨start, s.ip, lp, l⟩ = true := fun s l lp hl hr hp => by
    unfold rightR
    rw [if_neg (by show ¬ 120 < l.length; omega), if_neg (by show ¬ lp ≠ _; rw [hp]; exact fun h => h rfl)]
    show (match rightL start start false l with | none => false | some a => decide (a = s.ip)) = true
    rw [hr]
    exact decide_eq_true rfl
  intro n
  induction n with
  | zero => intro s l ok hl hr; exact fin s l _ (by omega) hr rfl
  | succ n ih =>
    intro s l ok hl hr
    by_cases hp : lpB start s l = true
    · unfold recL; rw [if_pos hp]; exact fin s l true (by omega) hr hp.symm
    have hp' : lpB start s l = false := by simpa using hp
    cases hn : nextV s with
    | none => unfold recL; rw [if_neg hp, hn]; exact fin s l false (by omega) hr hp'.symm
    | some p =>
      obtain ⟨x, t⟩ := p
      have e1 : recL start (n + 1) s l = recL start n t (l ++ [x]) := by
        show (if lpB start s l = true then _ else match nextV s with | none => _ | some (x, t) => recL start n t (l ++ [x])) = _
        rw [if_neg hp, hn]
      obtain ⟨r0, r1, r2, r3, r4, _⟩ := nextV_run hn
      rw [e1]
      refine ih t (l ++ [x]) (by rw [r2]; exact mok_adv ok) (by rw [List.length_append, List.length_singleton]; omega) ?_
      rw [rightL_snoc start x l start false s.ip hr (nextV_single ok hn) r3 (fun h => ?_), r4]
      intro he
      rcases h with h | h
      · cases h
      · have : 0 < l.length := by cases l with | nil => exact absurd rfl h | cons => simp
        unfold lpB at hp'
        rw [decide_eq_true this, decide_eq_true (by rw [← r3]; exact he)] at hp'
        cases hp'
theorem recV_right {s : StV} (ok : MOk s) (most : Int) : rightR (recV s most) = true := by
  have := (mostN_le most).1
  exact recL_right s.ip (mostN most) s [] ok (by simpa using this) rfl
def stI : Nat → StV → StV
  | 0, s => s
  | n + 1, s => stI n (if s.status = 0 then mAdv s else s)
theorem stI_run : ∀ (n : Nat) (s : StV), (mRun n s).1 = stI n s
  | 0, _ => rfl
  | n + 1, s => by
    show (if s.status = 0 then mRun n (mAdv s) else (s, n + 1)).1 = stI n _
    split
    · next h => exact stI_run n (mAdv s)
    · next h =>
      have : ∀ m, stI m s = s := by
        intro m
        induction m with
        | zero => rfl
        | succ m ih => show stI m (if s.status = 0 then _ else s) = s; rw [if_neg h]; exact ih
      exact (this n).symm
theorem runM_stI (s : StV) (n : Nat) : (runM s (n : Int)).1 = stI n s := by
  unfold runM
  rw [if_pos (by omega), Int.toNat_natCast]
  exact stI_run n s
end Go.Proofs.YtkjpmkopnkkbmaaGreatDoor

/- A book of numbers alone: what is put in leaves the lists as they were. -/
set_option maxRecDepth 100000
namespace Go.Proofs.YtkjpmkopnkkbmaaGreatDoor
open Go.RowKit

def BkJ (D P : Nat → Prop) (w : World) (b : Nat) : Prop := ∃ (A Bs : Sl) (ls was : List Sl) (xss : List (List Int)), (Ob w b (bookI A Bs) T_hollowaybook_Book ∧ KO D intE T_sl_int w b A Bs ls was xss ∧ D b ∧ ls.length ≤ 250) ∧ ∀ k, k = b ∨ A.blk = some k ∨ Bs.blk = some k → P k
theorem BkJ.all {D P : Nat → Prop} {w : World} {b : Nat} (h : BkJ D P w b) : BkI D w b := by
  obtain ⟨A, Bs, ls, was, xss, h, _⟩ := h
  exact ⟨A, Bs, ls, was, xss, h⟩
theorem BkJ.apart {D P : Nat → Prop} {w : World} {b : Nat} (h : BkJ D P w b) : Calls Tryz.prog fn_hollowaybook_Book_Apart #[.pointer (some ⟨b, 0, none⟩)] w fun e w' => e = .returned (.bool true) ∧ Chg D w w' := h.all.apart
theorem BkJ.chg {D P S : Nat → Prop} {w w' : World} {b : Nat} (h : BkJ D P w b) (c : Chg S w w') (hS : ∀ k, D k → ¬ S k) : BkJ D P w' b := by
  obtain ⟨A, Bs, ls, was, xss, ⟨ho, hk, hb, hfew⟩, hP⟩ := h
  exact ⟨A, Bs, ls, was, xss, ⟨ho.chg c (hS _ hb), hk.chg c hS, hb, hfew⟩, hP⟩
theorem BkJ.no {D P : Nat → Prop} {w w' : World} {b : Nat} (h : BkJ D P w b) (c : Chg No w w') : BkJ D P w' b := h.chg c (fun _ _ h => h)
theorem BkJ.empty {D P : Nat → Prop} {w : World} {b : Nat} (h : Ob w b (bookI nilS nilS) T_hollowaybook_Book) (hb : D b) (hp : P b) : BkJ D P w b := ⟨nilS, nilS, [], [], [], ⟨h, KO.empty _ _ _ _ _, hb, Nat.zero_le _⟩, fun k e => by
  rcases e with e | e | e
  · rw [e]; exact hp
  all_goals cases e⟩
theorem BkJ.nar {D P : Nat → Prop} {w : World} {b : Nat} (h : BkJ D P w b) : BkJ (fun k => D k ∧ k < w.heap.size) (fun k => P k ∧ k < w.heap.size) w b := by
  obtain ⟨A, Bs, ls, was, xss, ⟨h1, h2, h3, h4⟩, hP⟩ := h
  refine ⟨A, Bs, ls, was, xss, ⟨h1, h2.nar, ⟨h3, h1.lt⟩, h4⟩, fun k e => ⟨hP k e, ?_⟩⟩
  rcases e with e | e | e
  · rw [e]; exact h1.lt
  · exact h2.oA.lt e
  · exact h2.oB.lt e
theorem BkJ.wid {D D' P P' : Nat → Prop} {w : World} {b : Nat} (h : BkJ D P w b) (hd : ∀ k, D k → D' k) (hp : ∀ k, P k → P' k) : BkJ D' P' w b := by
  obtain ⟨A, Bs, ls, was, xss, ⟨h1, h2, h3, h4⟩, hP⟩ := h
  exact ⟨A, Bs, ls, was, xss, ⟨h1, h2.wid hd, hd _ h3, h4⟩, fun k e => hp _ (hP k e)⟩
theorem BkJ.ints {D P : Nat → Prop} {w : World} {b : Nat} (h : BkJ D P w b) (hD : ∀ k, w.heap.size ≤ k → D k) (hp : ∀ k, w.heap.size ≤ k → P k) {l : Sl} {xs : List Int} (hx : Ox intE w l xs) (hxs : xs.length ≤ 10000000) {D' : Nat → Prop} (hD' : ∀ k, D k → D' k) (hl : ∀ k, l.blk = some k → D' k ∧ ¬ D k) :
    Calls Tryz.prog fn_hollowaybook_Book_Ints #[.pointer (some ⟨b, 0, none⟩), l.val] w fun e w' => e = .returned (.tuple #[]) ∧ BkJ D' P w' b ∧ Chg P w w' := by
  refine (hollowaybook_Book_Ints_lift (K := fun r w' => r = .tuple #[] ∧ BkJ D' P w' b ∧ Chg P w w') ?_).mono (by rintro e w' ⟨r, rfl, rfl, h⟩; exact ⟨rfl, h⟩)
  unfold hollowaybook_Book_Ints_sh
  obtain ⟨A1, B1, l1, s1, x1, ⟨ho, hk, hb, hfew⟩, hPP⟩ := h
  have hw : KO D' intE T_sl_int w b A1 B1 l1 s1 x1 := hk.wid hD'
  have hll : ∀ k, l.blk = some k → D' k ∧ k ≠ b ∧ A1.blk ≠ some k ∧ B1.blk ≠ some k ∧ ¬ blksOf l1 k ∧ ¬ blksOf s1 k := fun k hlk => by
    obtain ⟨h1, h2⟩ := hl k hlk
    exact ⟨h1, fun e => h2 (e ▸ hb), fun e => h2 (hk.dA k e).1, fun e => h2 (hk.dB k e).1, fun e => h2 (hk.dl k e).1, fun e => h2 (hk.dw k e).1⟩
  refine addx_core (K := fun r w' => r = .tuple #[] ∧ BkJ D' P w' b ∧ Chg P w w') (TB := T_hollowaybook_Book) (cs := bookI A1 B1) slIntOk ho rfl rfl hw.half (fun k e => hD' k (hD k e)) hx hxs hll (G := fun s' w10 w14 => Ow intE w14 s' xs) (fun w10 c10 => ?_)
    (fun _ => ⟨rfl, ⟨A1, B1, l1, s1, x1, ⟨ho, hw, hD' b hb, hfew⟩, hPP⟩, Chg.refl _ _⟩)
    (fun hlt A' B' c' w10 w14 w' o' k'' hG c10 c14 c1420 hbk hA10 hAn hB14 ch => ?_)
  · refine (copyInts_any l xs w10 (hx.chg c10 (fun k hk he => ?_)).rd hxs).mono ?_
    · rcases he with he | he
      · exact (hll k hk).2.1 he
      · exact (hll k hk).2.2.1 he
    · rintro e w' ⟨s', rfl, h1, h2, h3⟩
      exact ⟨s', rfl, h1, fun k hk => ⟨h3 k hk, h1.lt hk⟩, h2⟩
  have z10 := c10.size
  have k' : KO D' intE T_sl_int w' b A' B' (l1 ++ [l]) (s1 ++ [c']) (x1 ++ [xs]) := by
    refine ⟨k''.oA, k''.oB, k''.len, k''.lenB, k''.ox, fun i s ys hs hy => ?_, k''.dis, k''.dA, k''.dB, k''.dl, k''.dw⟩
    rcases app_at hs with ⟨h5, h6⟩ | ⟨h5, rfl⟩
    · rw [List.getElem?_append_left (by have := hk.lenB; omega)] at hy
      refine (hk.rd i s ys h6 hy).chg ch (fun m hm he => ?_)
      have h9 : blksOf s1 m := ⟨i, s, h6, hm⟩
      rcases he with he | he | he
      · exact (hk.dw m h9).2.1 he
      · exact (hk.dA m he).2.2.2.2 h9
      · exact (hk.dB m he).2.2.2 h9
    · rcases app_at hy with ⟨h6, _⟩ | ⟨_, rfl⟩
      · have := hk.lenB; omega
      · refine (hG.chg c1420 (fun m hm he => ?_)).rd
        have hm' := hbk m hm
        rcases he with he | he
        · have := ho.lt; omega
        · have := hk.oB.lt he; omega
  refine ⟨rfl, ⟨A', B', l1 ++ [l], s1 ++ [c'], x1 ++ [xs], ⟨o', k', hD' b hb, by rw [List.length_append]; show l1.length + 1 ≤ 250; omega⟩, fun k e => ?_⟩, ch.mono (fun k _ e => hPP k e)⟩
  rcases e with e | e | e
  · exact hPP k (Or.inl e)
  · rcases hAn k e with e | e
    · exact hPP k (Or.inr (Or.inl e))
    · exact hp k e
  · rcases hB14 k e with e | e
    · exact hPP k (Or.inr (Or.inr e))
    · exact hp k (by have := c14.size; omega)
theorem BkJ.state {D P : Nat → Prop} {w : World} {b : Nat} (h : BkJ D P w b) (hD : ∀ k, w.heap.size ≤ k → D k) (hp : ∀ k, w.heap.size ≤ k → P k) {S : StC} {s : StV} {F : Nat → Prop} (hs : StX F w S s) (h1 : s.stack.length ≤ 1000000) (h2 : s.back.length ≤ 1000000) (h3 : s.mem.length ≤ 1000000) {D' : Nat → Prop} (hD' : ∀ k, D k → D' k) (hF : ∀ k, F k → D' k ∧ ¬ D k ∧ ¬ P k) :
    Calls Tryz.prog fn_hollowaybook_Book_State #[.pointer (some ⟨b, 0, none⟩), .agg (stC S).toArray] w fun e w' => e = .returned (.tuple #[]) ∧ BkJ D' P w' b ∧ Chg P w w' := by
  refine (hollowaybook_Book_State_lift (K := fun r w' => r = .tuple #[] ∧ BkJ D' P w' b ∧ Chg P w w') ?_).mono (by rintro e w' ⟨r, rfl, rfl, h⟩; exact ⟨rfl, h⟩)
  unfold hollowaybook_Book_State_sh
  intro b11 w12 hb11 hw12
  have c12 := al hw12
  have z12 : w12.heap.size = w.heap.size + 1 := by rw [hw12]; simp
  have o12 : Ob w12 b11 (stC S) T_api_State := by rw [hw12, hb11]; exact Ob.new w (stC S) T_api_State
  have lt12 := o12.lt
  obtain ⟨E, hE⟩ : ∃ E : Nat → Prop, E = fun k => D k ∧ k ≠ b11 := ⟨_, rfl⟩
  obtain ⟨Q, hQ⟩ : ∃ Q : Nat → Prop, Q = fun k => P k ∧ k ≠ b11 := ⟨_, rfl⟩
  have hE1 : ∀ k, E k → D k ∧ k ≠ b11 := fun k hk => by rw [hE] at hk; exact hk
  have hQ1 : ∀ k, Q k → P k ∧ k ≠ b11 := fun k hk => by rw [hQ] at hk; exact hk
  have h12 : BkJ E Q w12 b := by
    have g := h.nar
    rw [hE, hQ]
    exact (g.no c12).wid (fun k hk => ⟨hk.1, by have := hk.2; omega⟩) (fun k hk => ⟨hk.1, by have := hk.2; omega⟩)
  have hEs : ∀ k, w12.heap.size ≤ k → E k := fun k hk => by rw [hE]; exact ⟨hD k (by omega), by omega⟩
  have hQs : ∀ k, w12.heap.size ≤ k → Q k := fun k hk => by rw [hQ]; exact ⟨hp k (by omega), by omega⟩
  have nE : ∀ k, F k → ¬ E k := fun k hk he => (hF k hk).2.1 (hE1 k he).1
  have nQ : ∀ k, F k → ¬ Q k := fun k hk he => (hF k hk).2.2 (hQ1 k he).1
  have hs12 := hs.no c12
  refine ⟨S.stack, o12.cell rfl, ?_⟩
  refine (h12.ints hEs hQs hs12.st (by omega) (D' := fun k => E k ∨ S.stack.blk = some k) (fun k hk => Or.inl hk) (fun k hk => ⟨Or.inr hk, nE k (hs.stD k hk).1⟩)).mono ?_
  rintro e w15 ⟨rfl, h15, c15⟩
  have z15 := c15.size
  have o15 := o12.chg c15 (fun he => (hQ1 _ he).2 rfl)
  have hs15 := hs12.chg c15 (fun k hk he => nQ k hk he)
  refine ⟨rfl, S.back, o15.cell rfl, ?_⟩
  refine (h15.ints (fun k hk => Or.inl (hEs k (by omega))) (fun k hk => hQs k (by omega)) hs15.bk (by omega) (D' := fun k => (E k ∨ S.stack.blk = some k) ∨ S.back.blk = some k) (fun k hk => Or.inl hk) (fun k hk => ⟨Or.inr hk, fun he => ?_⟩)).mono ?_
  · rcases he with he | he
    · exact nE k (hs.bkD k hk).1 he
    · exact (hs.stD k he).2.1 hk
  rintro e w18 ⟨rfl, h18, c18⟩
  have z18 := c18.size
  have o18 := o15.chg c18 (fun he => (hQ1 _ he).2 rfl)
  have hs18 := hs15.chg c18 (fun k hk he => nQ k hk he)
  refine ⟨rfl, S.mem, o18.cell rfl, ?_⟩
  refine (h18.ints (fun k hk => Or.inl (Or.inl (hEs k (by omega)))) (fun k hk => hQs k (by omega)) hs18.me (by omega) (D' := D') (fun k hk => ?_) (fun k hk => ⟨(hF k (hs.meD k hk)).1, fun he => ?_⟩)).mono ?_
  · rcases hk with (hk | hk) | hk
    · exact hD' k (hE1 k hk).1
    · exact (hF k (hs.stD k hk).1).1
    · exact (hF k (hs.bkD k hk).1).1
  · rcases he with (he | he) | he
    · exact nE k (hs.meD k hk) he
    · exact (hs.stD k he).2.2 hk
    · exact (hs.bkD k he).2 hk
  rintro e w21 ⟨rfl, h21, c21⟩
  exact ⟨rfl, rfl, h21.wid (fun k hk => hk) (fun k hk => (hQ1 k hk).1), (((c12.mono (fun _ _ h => h.elim)).trans c15 (U := P) (fun _ _ h => h) (fun k _ hk => (hQ1 k hk).1)).trans c18 (fun _ _ h => h) (fun k _ hk => (hQ1 k hk).1)).trans c21 (fun _ _ h => h) (fun k _ hk => (hQ1 k hk).1)⟩
end Go.Proofs.YtkjpmkopnkkbmaaGreatDoor

/- A book of numbers and of recorded steps: put in, looked at to the end. (Turned from BkT, BkU.) -/
set_option maxRecDepth 100000
namespace Go.Proofs.YtkjpmkopnkkbmaaGreatDoor
open Go.RowKit

section
theorem copySeensY_any (s : Sl) (xs : List SnV) (w : World) (h : Rd seE w s xs) (hl : xs.length ≤ 1000000) : Calls Tryz.prog fn_hollowaybook_copySeens #[s.val] w fun e w' => ∃ s' : Sl, e = .returned s'.val ∧ Ow seE w' s' xs ∧ Chg No w w' ∧ (∀ k, s'.blk = some k → w.heap.size ≤ k) := by
  refine (hollowaybook_copySeens_lift (K := fun r w' => ∃ s' : Sl, r = s'.val ∧ Ow seE w' s' xs ∧ Chg No w w' ∧ (∀ k, s'.blk = some k → w.heap.size ≤ k)) ?_).mono (by rintro e w' ⟨r, rfl, s', rfl, h⟩; exact ⟨s', rfl, h⟩)
  unfold hollowaybook_copySeens_sh
  refine app_ok seOk (s := nilS) (t := s) rfl rfl (Ow.nil _ _) h (by show (0 + xs.length) * 32 ≤ _; omega) (by show 0 + xs.length ≤ _; unfold maxLen; omega) ?_
  intro s' w' h' c' b'
  refine ⟨s', rfl, h', c'.trans (Chg.refl No _) (fun k hk he => by cases he) (fun _ _ h => h), fun k hk => ?_⟩
  rcases b' with hh | hh
  · rw [hh] at hk; cases hk
  · have := Option.some.inj (hh.symm.trans hk); omega
def mkS (i k : Int) : SnV := ⟨wr ((wr ((wr ((-1000 : Int) * i)) - k)) - (1 : Int)), 0, 0, 0⟩
theorem markSeens_ok : MarkOk Tryz.prog seE mkS fn_hollowaybook_markSeens := by
  intro i f m w hi hf
  refine (hollowaybook_markSeens_lift (K := fun r w' => ∃ s : Sl, r = s.val ∧ Ow seE w' s (marks (mkS i) f m) ∧ Chg No w w' ∧ (∀ j, s.blk = some j → w.heap.size ≤ j)) ?_).mono (by rintro e w' ⟨r, rfl, s, rfl, h⟩; exact ⟨s, rfl, h⟩)
  unfold hollowaybook_markSeens_sh
  exact mark_core (K := fun r w' => ∃ s : Sl, r = s.val ∧ Ow seE w' s (marks (mkS i) f m) ∧ Chg No w w' ∧ (∀ j, s.blk = some j → w.heap.size ≤ j)) seOk (by decide) (mkS i) f m hf fun s' w' h1 h2 h3 => ⟨s', rfl, h1, h2, h3⟩
def qS (S : World → Prop) (p : Addr) (F : List Value → Prop) : Prop := ∃ n : Int, ∃ m : Int, ∃ o : Int, ∃ q : Int, held S p (.int .i64 n) ∧ held S (p.add 1) (.int .i64 m) ∧ held S (p.add 2) (.int .i64 o) ∧ held S (p.add 3) (.int .i64 q) ∧ F [.int .i64 n, .int .i64 m, .int .i64 o, .int .i64 q]
theorem qS_ok (w : World) (p : Addr) (x : SnV) (F : List Value → Prop) (h : ∀ (j : Nat) (u : Value), (seE.e x)[j]? = some u → w.cell? (p.add j) = some u) (hF : F (seE.e x)) : qS (Lw w) p F := by
  have h0 := h 0 _ rfl
  rw [add0] at h0
  exact ⟨_, _, _, _, held_Lw h0, held_Lw (h 1 _ rfl), held_Lw (h 2 _ rfl), held_Lw (h 3 _ rfl), hF⟩
theorem slSeenOk : EncOk Tryz.prog (slE T_sl_api_Seen) T_sl_sl_api_Seen := EncOk.of (z := .slice none 0 0) (by kernel_rfl) (by kernel_rfl) (by kernel_rfl)
end
section
variable {w : World} {b : Nat} {A Bs : Sl} {ls was : List Sl}
theorem stillSeens_any {xss : List (List SnV)} (h : KB seE T_sl_api_Seen w b 6 A Bs ls was xss) : Calls Tryz.prog fn_hollowaybook_Book_stillSeens #[.pointer (some ⟨b, 0, none⟩)] w fun e w' => e = .returned (.bool true) ∧ Chg No w w' := by
  refine (hollowaybook_Book_stillSeens_lift (K := fun r w' => r = .bool true ∧ Chg No w w') ?_).mono (by rintro e w' ⟨r, rfl, rfl, h⟩; exact ⟨rfl, h⟩)
  unfold hollowaybook_Book_stillSeens_sh
  exact still_core (K := fun r w' => r = .bool true ∧ Chg No w w') sameSeens_ok h.cA h.cB h.rA h.rB h.len h.lenB h.few (fun i s xs hs hx => (h.ox i s xs hs hx).1.rd) h.rd fun w' c => ⟨rfl, c⟩
theorem putIntsY_any {xss : List (List Int)} (h : KP intE T_sl_int w b 2 A ls xss) : Calls Tryz.prog fn_hollowaybook_Book_putInts #[.pointer (some ⟨b, 0, none⟩)] w fun e w' => e = .returned (.tuple #[]) ∧ KM intE T_sl_int mkI w' b 2 A ls ∧ Chg (blksOf ls) w w' := by
  refine (hollowaybook_Book_putInts_lift (K := fun r w' => r = .tuple #[] ∧ KM intE T_sl_int mkI w' b 2 A ls ∧ Chg (blksOf ls) w w') ?_).mono (by rintro e w' ⟨r, rfl, rfl, h⟩; exact ⟨rfl, h⟩)
  unfold hollowaybook_Book_putInts_sh
  exact put_core (Q := qI) (mk := mkI) (K := fun r w' => r = .tuple #[] ∧ KM intE T_sl_int mkI w' b 2 A ls ∧ Chg (blksOf ls) w w') qI_ok (Or.inr markInts_ok) h.cA h.rA h.len h.few h.ox h.dis h.nb h.nA fun w' hm c => ⟨rfl, h.marked c hm, c⟩
theorem putSeens_any {xss : List (List SnV)} (h : KP seE T_sl_api_Seen w b 6 A ls xss) : Calls Tryz.prog fn_hollowaybook_Book_putSeens #[.pointer (some ⟨b, 0, none⟩)] w fun e w' => e = .returned (.tuple #[]) ∧ KM seE T_sl_api_Seen mkS w' b 6 A ls ∧ Chg (blksOf ls) w w' := by
  refine (hollowaybook_Book_putSeens_lift (K := fun r w' => r = .tuple #[] ∧ KM seE T_sl_api_Seen mkS w' b 6 A ls ∧ Chg (blksOf ls) w w') ?_).mono (by rintro e w' ⟨r, rfl, rfl, h⟩; exact ⟨rfl, h⟩)
  unfold hollowaybook_Book_putSeens_sh
  exact put_core (Q := qS) (mk := mkS) (K := fun r w' => r = .tuple #[] ∧ KM seE T_sl_api_Seen mkS w' b 6 A ls ∧ Chg (blksOf ls) w w') qS_ok (Or.inr markSeens_ok) h.cA h.rA h.len h.few h.ox h.dis h.nb h.nA fun w' hm c => ⟨rfl, h.marked c hm, c⟩
theorem growIntsY_any (h : KM intE T_sl_int mkI w b 2 A ls) : Calls Tryz.prog fn_hollowaybook_Book_growInts #[.pointer (some ⟨b, 0, none⟩)] w fun e w' => ∃ out : Sl, e = .returned out.val ∧ GrX intE T_sl_int mkI w' w.heap.size ls out ∧ Marked' intE mkI w' ls ∧ Chg (blksOf ls) w w' := by
  refine (hollowaybook_Book_growInts_lift (K := fun r w' => ∃ out : Sl, r = out.val ∧ GrX intE T_sl_int mkI w' w.heap.size ls out ∧ Marked' intE mkI w' ls ∧ Chg (blksOf ls) w w') ?_).mono (by rintro e w' ⟨r, rfl, s, rfl, h⟩; exact ⟨s, rfl, h⟩)
  unfold hollowaybook_Book_growInts_sh
  exact growx_core (mk := mkI) (K := fun r w' => ∃ out : Sl, r = out.val ∧ GrX intE T_sl_int mkI w' w.heap.size ls out ∧ Marked' intE mkI w' ls ∧ Chg (blksOf ls) w w') intOk slIntOk (by decide) (Or.inr markInts_ok) h.cA h.rA h.few h.ox h.dis h.nb h.nA fun out outs w' h1 h2 h3 h4 h5 h6 h7 => ⟨out, rfl, ⟨⟨outs, h1, h2, fun i t ht => ⟨h3 i t ht, fun k => h5 i t k ht⟩⟩, h4⟩, h6, h7⟩
theorem growSeens_any (h : KM seE T_sl_api_Seen mkS w b 6 A ls) : Calls Tryz.prog fn_hollowaybook_Book_growSeens #[.pointer (some ⟨b, 0, none⟩)] w fun e w' => ∃ out : Sl, e = .returned out.val ∧ GrX seE T_sl_api_Seen mkS w' w.heap.size ls out ∧ Marked' seE mkS w' ls ∧ Chg (blksOf ls) w w' := by
  refine (hollowaybook_Book_growSeens_lift (K := fun r w' => ∃ out : Sl, r = out.val ∧ GrX seE T_sl_api_Seen mkS w' w.heap.size ls out ∧ Marked' seE mkS w' ls ∧ Chg (blksOf ls) w w') ?_).mono (by rintro e w' ⟨r, rfl, s, rfl, h⟩; exact ⟨s, rfl, h⟩)
  unfold hollowaybook_Book_growSeens_sh
  exact growx_core (mk := mkS) (K := fun r w' => ∃ out : Sl, r = out.val ∧ GrX seE T_sl_api_Seen mkS w' w.heap.size ls out ∧ Marked' seE mkS w' ls ∧ Chg (blksOf ls) w w') seOk slSeenOk (by decide) (Or.inr markSeens_ok) h.cA h.rA h.few h.ox h.dis h.nb h.nA fun out outs w' h1 h2 h3 h4 h5 h6 h7 => ⟨out, rfl, ⟨⟨outs, h1, h2, fun i t ht => ⟨h3 i t ht, fun k => h5 i t k ht⟩⟩, h4⟩, h6, h7⟩
theorem markedSeens_any {n : Nat} (hn : n ≤ 100000) {out : Sl} (h : Grown' seE T_sl_api_Seen mkS w out n) : Calls Tryz.prog fn_hollowaybook_markedSeens #[out.val] w fun e w' => e = .returned (.bool true) ∧ Chg No w w' := by
  refine (hollowaybook_markedSeens_lift (K := fun r w' => r = .bool true ∧ Chg No w w') ?_).mono (by rintro e w' ⟨r, rfl, rfl, h⟩; exact ⟨rfl, h⟩)
  unfold hollowaybook_markedSeens_sh
  obtain ⟨outs, h1, h2, h3⟩ := h
  exact marked_core (mk := mkS) (K := fun r w' => r = .bool true ∧ Chg No w w') sameSeens_ok markSeens_ok h1 (by omega) (fun i s hs => ⟨by have := (h3 i s hs).1; omega, (h3 i s hs).2⟩) fun w' c => ⟨rfl, c⟩
end
def bookY (A1 B1 A2 B2 : Sl) : List Value := [nilS.val, nilS.val, A1.val, B1.val, nilS.val, nilS.val, A2.val, B2.val, nilS.val, nilS.val, nilS.val, nilS.val]
structure BkZ (w : World) (b : Nat) (A1 B1 : Sl) (l1 s1 : List Sl) (x1 : List (List Int)) (A2 B2 : Sl) (l2 s2 : List Sl) (x2 : List (List SnV)) (D1 D2 : Nat → Prop) : Prop where
  ob : Ob w b (bookY A1 B1 A2 B2) T_hollowaybook_Book
  k1 : KO D1 intE T_sl_int w b A1 B1 l1 s1 x1
  k2 : KO D2 seE T_sl_api_Seen w b A2 B2 l2 s2 x2
  n1 : l1.length ≤ 250
  n2 : l2.length ≤ 250
  d12 : ∀ k, D1 k → ¬ D2 k
  nb : ¬ D1 b ∧ ¬ D2 b
  lo : ∀ k, D1 k ∨ D2 k → k < w.heap.size
def BkY (D P : Nat → Prop) (w : World) (b : Nat) : Prop := ∃ A1 B1 l1 s1 x1 A2 B2 l2 s2 x2 D1 D2, BkZ w b A1 B1 l1 s1 x1 A2 B2 l2 s2 x2 D1 D2 ∧ (D b ∧ ∀ k, D1 k ∨ D2 k → D k) ∧ ∀ k, k = b ∨ A1.blk = some k ∨ B1.blk = some k ∨ A2.blk = some k ∨ B2.blk = some k → P k
theorem BkY.chg {D P S : Nat → Prop} {w w' : World} {b : Nat} (h : BkY D P w b) (c : Chg S w w') (hS : ∀ k, D k → ¬ S k) : BkY D P w' b := by
  obtain ⟨A1, B1, l1, s1, x1, A2, B2, l2, s2, x2, D1, D2, h, ⟨hb, hD⟩, hP⟩ := h
  have z := c.size
  exact ⟨A1, B1, l1, s1, x1, A2, B2, l2, s2, x2, D1, D2, ⟨h.ob.chg c (hS _ hb), h.k1.chg c (fun k e => hS _ (hD k (Or.inl e))), h.k2.chg c (fun k e => hS _ (hD k (Or.inr e))), h.n1, h.n2, h.d12, h.nb, fun k e => by have := h.lo k e; omega⟩, ⟨hb, hD⟩, hP⟩
theorem BkY.no {D P : Nat → Prop} {w w' : World} {b : Nat} (h : BkY D P w b) (c : Chg No w w') : BkY D P w' b := h.chg c (fun _ _ h => h)
theorem BkZ.plt {w : World} {b : Nat} {A1 B1 : Sl} {l1 s1 : List Sl} {x1 : List (List Int)} {A2 B2 : Sl} {l2 s2 : List Sl} {x2 : List (List SnV)} {D1 D2 : Nat → Prop} (h : BkZ w b A1 B1 l1 s1 x1 A2 B2 l2 s2 x2 D1 D2) : ∀ k, k = b ∨ A1.blk = some k ∨ B1.blk = some k ∨ A2.blk = some k ∨ B2.blk = some k → k < w.heap.size := fun k e => by
  rcases e with e | e | e | e | e
  · rw [e]; exact h.ob.lt
  · exact h.k1.oA.lt e
  · exact h.k1.oB.lt e
  · exact h.k2.oA.lt e
  · exact h.k2.oB.lt e
theorem BkY.nar {D P : Nat → Prop} {w : World} {b : Nat} (h : BkY D P w b) : BkY (fun k => D k ∧ k < w.heap.size) (fun k => P k ∧ k < w.heap.size) w b := by
  obtain ⟨A1, B1, l1, s1, x1, A2, B2, l2, s2, x2, D1, D2, h, ⟨hb, hD⟩, hP⟩ := h
  exact ⟨A1, B1, l1, s1, x1, A2, B2, l2, s2, x2, D1, D2, h, ⟨⟨hb, h.ob.lt⟩, fun k e => ⟨hD k e, h.lo k e⟩⟩, fun k e => ⟨hP k e, h.plt k e⟩⟩
theorem BkY.wid {D D' P P' : Nat → Prop} {w : World} {b : Nat} (h : BkY D P w b) (hd : ∀ k, D k → D' k) (hp : ∀ k, P k → P' k) : BkY D' P' w b := by
  obtain ⟨A1, B1, l1, s1, x1, A2, B2, l2, s2, x2, D1, D2, h, ⟨hb, hD⟩, hP⟩ := h
  exact ⟨A1, B1, l1, s1, x1, A2, B2, l2, s2, x2, D1, D2, h, ⟨hd _ hb, fun k e => hd _ (hD k e)⟩, fun k e => hp _ (hP k e)⟩
theorem BkY.empty {D P : Nat → Prop} {w : World} {b : Nat} (h : Ob w b (bookY nilS nilS nilS nilS) T_hollowaybook_Book) (hb : D b) (hp : P b) : BkY D P w b :=
  ⟨nilS, nilS, [], [], [], nilS, nilS, [], [], [], No, No, ⟨h, KO.empty _ _ _ _ _, KO.empty _ _ _ _ _, Nat.zero_le _, Nat.zero_le _, fun _ _ h => h, ⟨fun h => h, fun h => h⟩, fun k e => by rcases e with e | e <;> exact e.elim⟩, ⟨hb, fun k e => by rcases e with e | e <;> exact e.elim⟩, fun k e => by
    rcases e with e | e | e | e | e
    · rw [e]; exact hp
    all_goals cases e⟩
theorem BkY.ints {D P : Nat → Prop} {w : World} {b : Nat} (h : BkY D P w b) (hD : ∀ k, w.heap.size ≤ k → D k) (hp : ∀ k, w.heap.size ≤ k → P k) {l : Sl} {xs : List Int} (hx : Ox intE w l xs) (hxs : xs.length ≤ 1000000) {D' : Nat → Prop} (hD' : ∀ k, D k → D' k) (hl : ∀ k, l.blk = some k → D' k ∧ ¬ D k) :
    Calls Tryz.prog fn_hollowaybook_Book_Ints #[.pointer (some ⟨b, 0, none⟩), l.val] w fun e w' => e = .returned (.tuple #[]) ∧ BkY D' P w' b ∧ Chg P w w' := by
  refine (hollowaybook_Book_Ints_lift (K := fun r w' => r = .tuple #[] ∧ BkY D' P w' b ∧ Chg P w w') ?_).mono (by rintro e w' ⟨r, rfl, rfl, h⟩; exact ⟨rfl, h⟩)
  unfold hollowaybook_Book_Ints_sh
  obtain ⟨A1, B1, l1, s1, x1, A2, B2, l2, s2, x2, D1, D2, h, ⟨hb, hDD⟩, hPP⟩ := h
  have hw : KO (fun k => D1 k ∨ w.heap.size ≤ k ∨ l.blk = some k) intE T_sl_int w b A1 B1 l1 s1 x1 := h.k1.wid fun k e => Or.inl e
  have em : ∀ k, D1 k → D k := fun k e => hDD k (Or.inl e)
  have hll : ∀ k, l.blk = some k → (D1 k ∨ w.heap.size ≤ k ∨ l.blk = some k) ∧ k ≠ b ∧ A1.blk ≠ some k ∧ B1.blk ≠ some k ∧ ¬ blksOf l1 k ∧ ¬ blksOf s1 k := fun k hlk => by
    obtain ⟨h1, h2⟩ := hl k hlk
    exact ⟨Or.inr (Or.inr hlk), fun e => h2 (e ▸ hb), fun e => h2 (em k (h.k1.dA k e).1), fun e => h2 (em k (h.k1.dB k e).1), fun e => h2 (em k (h.k1.dl k e).1), fun e => h2 (em k (h.k1.dw k e).1)⟩
  have av : ∀ {k : Nat}, (k = b ∨ A1.blk = some k ∨ B1.blk = some k) → k = b ∨ D1 k := fun e => by
    rcases e with e | e | e
    · exact Or.inl e
    · exact Or.inr (h.k1.dA _ e).1
    · exact Or.inr (h.k1.dB _ e).1
  refine addx_core (K := fun r w' => r = .tuple #[] ∧ BkY D' P w' b ∧ Chg P w w') (TB := T_hollowaybook_Book) (cs := bookY A1 B1 A2 B2) slIntOk h.ob rfl rfl hw.half (fun k e => Or.inr (Or.inl e)) hx (by omega) hll (G := fun s' w10 w14 => Ow intE w14 s' xs) (fun w10 c10 => ?_)
    (fun _ => ⟨rfl, ⟨A1, B1, l1, s1, x1, A2, B2, l2, s2, x2, D1, D2, h, ⟨hD' b hb, fun k e => hD' _ (hDD k e)⟩, hPP⟩, Chg.refl _ _⟩)
    (fun hlt A' B' c' w10 w14 w' o' k' hG c10 c14 c1420 hbk hA10 hAn hB14 ch => ?_)
  · refine (copyInts_any l xs w10 (hx.chg c10 (fun k hk he => ?_)).rd (by omega)).mono ?_
    · rcases he with he | he
      · exact (hll k hk).2.1 he
      · exact (hll k hk).2.2.1 he
    · rintro e w' ⟨s', rfl, h1, h2, h3⟩
      exact ⟨s', rfl, h1, fun k hk => ⟨h3 k hk, h1.lt hk⟩, h2⟩
  have z := ch.size
  have z10 := c10.size
  have kk : KO (fun k => D1 k ∨ w.heap.size ≤ k ∨ l.blk = some k) intE T_sl_int w' b A' B' (l1 ++ [l]) (s1 ++ [c']) (x1 ++ [xs]) := by
    refine ⟨k'.oA, k'.oB, k'.len, k'.lenB, k'.ox, fun i s ys hs hy => ?_, k'.dis, k'.dA, k'.dB, k'.dl, k'.dw⟩
    rcases app_at hs with ⟨h5, h6⟩ | ⟨h5, rfl⟩
    · rw [List.getElem?_append_left (by have := h.k1.lenB; omega)] at hy
      refine (h.k1.rd i s ys h6 hy).chg ch (fun m hm he => ?_)
      have h9 : blksOf s1 m := ⟨i, s, h6, hm⟩
      rcases he with he | he | he
      · exact (h.k1.dw m h9).2.1 he
      · exact (h.k1.dA m he).2.2.2.2 h9
      · exact (h.k1.dB m he).2.2.2 h9
    · rcases app_at hy with ⟨h6, _⟩ | ⟨_, rfl⟩
      · have := h.k1.lenB; omega
      · refine (hG.chg c1420 (fun m hm he => ?_)).rd
        have hm' := hbk m hm
        rcases he with he | he
        · have := h.ob.lt; omega
        · have := h.k1.oB.lt he; omega
  refine ⟨rfl, ⟨A', B', l1 ++ [l], s1 ++ [c'], x1 ++ [xs], A2, B2, l2, s2, x2, _, D2, ⟨o', kk.nar, h.k2.chg ch (fun k e he => ?_), by rw [List.length_append]; show l1.length + 1 ≤ 250; omega, h.n2, fun k e f => ?_, ⟨fun e => ?_, h.nb.2⟩, fun k e => ?_⟩, ⟨hD' b hb, fun k e => ?_⟩, fun k e => ?_⟩, ch.mono (fun k _ e => ?_)⟩
  · rcases av he with e' | e'
    · subst e'; exact h.nb.2 e
    · exact h.d12 k e' e
  · rcases e.1 with e | e | e
    · exact h.d12 k e f
    · have := h.lo k (Or.inr f); omega
    · exact (hl k e).2 (hDD k (Or.inr f))
  · rcases e.1 with e | e | e
    · exact h.nb.1 e
    · have := h.ob.lt; omega
    · exact (hl _ e).2 hb
  · rcases e with e | e
    · exact e.2
    · have := h.lo k (Or.inr e); omega
  · rcases e with e | e
    · rcases e.1 with e | e | e
      · exact hD' _ (em k e)
      · exact hD' _ (hD k e)
      · exact (hl k e).1
    · exact hD' _ (hDD k (Or.inr e))
  · rcases e with e | e | e | e | e
    · exact hPP k (Or.inl e)
    · rcases hAn k e with e | e
      · exact hPP k (Or.inr (Or.inl e))
      · exact hp k e
    · rcases hB14 k e with e | e
      · exact hPP k (Or.inr (Or.inr (Or.inl e)))
      · exact hp k (by have := c14.size; omega)
    · exact hPP k (Or.inr (Or.inr (Or.inr (Or.inl e))))
    · exact hPP k (Or.inr (Or.inr (Or.inr (Or.inr e))))
  · rcases e with e | e | e
    · exact hPP k (Or.inl e)
    · exact hPP k (Or.inr (Or.inl e))
    · exact hPP k (Or.inr (Or.inr (Or.inl e)))
theorem BkY.seens {D P : Nat → Prop} {w : World} {b : Nat} (h : BkY D P w b) (hD : ∀ k, w.heap.size ≤ k → D k) (hp : ∀ k, w.heap.size ≤ k → P k) {l : Sl} {xs : List SnV} (hx : Ox seE w l xs) (hxs : xs.length ≤ 1000000) {D' : Nat → Prop} (hD' : ∀ k, D k → D' k) (hl : ∀ k, l.blk = some k → D' k ∧ ¬ D k) :
    Calls Tryz.prog fn_hollowaybook_Book_Seens #[.pointer (some ⟨b, 0, none⟩), l.val] w fun e w' => e = .returned (.tuple #[]) ∧ BkY D' P w' b ∧ Chg P w w' := by
  refine (hollowaybook_Book_Seens_lift (K := fun r w' => r = .tuple #[] ∧ BkY D' P w' b ∧ Chg P w w') ?_).mono (by rintro e w' ⟨r, rfl, rfl, h⟩; exact ⟨rfl, h⟩)
  unfold hollowaybook_Book_Seens_sh
  obtain ⟨A1, B1, l1, s1, x1, A2, B2, l2, s2, x2, D1, D2, h, ⟨hb, hDD⟩, hPP⟩ := h
  have hw : KO (fun k => D2 k ∨ w.heap.size ≤ k ∨ l.blk = some k) seE T_sl_api_Seen w b A2 B2 l2 s2 x2 := h.k2.wid fun k e => Or.inl e
  have em : ∀ k, D2 k → D k := fun k e => hDD k (Or.inr e)
  have hll : ∀ k, l.blk = some k → (D2 k ∨ w.heap.size ≤ k ∨ l.blk = some k) ∧ k ≠ b ∧ A2.blk ≠ some k ∧ B2.blk ≠ some k ∧ ¬ blksOf l2 k ∧ ¬ blksOf s2 k := fun k hlk => by
    obtain ⟨h1, h2⟩ := hl k hlk
    exact ⟨Or.inr (Or.inr hlk), fun e => h2 (e ▸ hb), fun e => h2 (em k (h.k2.dA k e).1), fun e => h2 (em k (h.k2.dB k e).1), fun e => h2 (em k (h.k2.dl k e).1), fun e => h2 (em k (h.k2.dw k e).1)⟩
  have av : ∀ {k : Nat}, (k = b ∨ A2.blk = some k ∨ B2.blk = some k) → k = b ∨ D2 k := fun e => by
    rcases e with e | e | e
    · exact Or.inl e
    · exact Or.inr (h.k2.dA _ e).1
    · exact Or.inr (h.k2.dB _ e).1
  refine addx_core (K := fun r w' => r = .tuple #[] ∧ BkY D' P w' b ∧ Chg P w w') (TB := T_hollowaybook_Book) (cs := bookY A1 B1 A2 B2) slSeenOk h.ob rfl rfl hw.half (fun k e => Or.inr (Or.inl e)) hx (by omega) hll (G := fun s' w10 w14 => Ow seE w14 s' xs) (fun w10 c10 => ?_)
    (fun _ => ⟨rfl, ⟨A1, B1, l1, s1, x1, A2, B2, l2, s2, x2, D1, D2, h, ⟨hD' b hb, fun k e => hD' _ (hDD k e)⟩, hPP⟩, Chg.refl _ _⟩)
    (fun hlt A' B' c' w10 w14 w' o' k' hG c10 c14 c1420 hbk hA10 hAn hB14 ch => ?_)
  · refine (copySeensY_any l xs w10 (hx.chg c10 (fun k hk he => ?_)).rd (by omega)).mono ?_
    · rcases he with he | he
      · exact (hll k hk).2.1 he
      · exact (hll k hk).2.2.1 he
    · rintro e w' ⟨s', rfl, h1, h2, h3⟩
      exact ⟨s', rfl, h1, fun k hk => ⟨h3 k hk, h1.lt hk⟩, h2⟩
  have z := ch.size
  have z10 := c10.size
  have kk : KO (fun k => D2 k ∨ w.heap.size ≤ k ∨ l.blk = some k) seE T_sl_api_Seen w' b A' B' (l2 ++ [l]) (s2 ++ [c']) (x2 ++ [xs]) := by
    refine ⟨k'.oA, k'.oB, k'.len, k'.lenB, k'.ox, fun i s ys hs hy => ?_, k'.dis, k'.dA, k'.dB, k'.dl, k'.dw⟩
    rcases app_at hs with ⟨h5, h6⟩ | ⟨h5, rfl⟩
    · rw [List.getElem?_append_left (by have := h.k2.lenB; omega)] at hy
      refine (h.k2.rd i s ys h6 hy).chg ch (fun m hm he => ?_)
      have h9 : blksOf s2 m := ⟨i, s, h6, hm⟩
      rcases he with he | he | he
      · exact (h.k2.dw m h9).2.1 he
      · exact (h.k2.dA m he).2.2.2.2 h9
      · exact (h.k2.dB m he).2.2.2 h9
    · rcases app_at hy with ⟨h6, _⟩ | ⟨_, rfl⟩
      · have := h.k2.lenB; omega
      · refine (hG.chg c1420 (fun m hm he => ?_)).rd
        have hm' := hbk m hm
        rcases he with he | he
        · have := h.ob.lt; omega
        · have := h.k2.oB.lt he; omega
  refine ⟨rfl, ⟨A1, B1, l1, s1, x1, A', B', l2 ++ [l], s2 ++ [c'], x2 ++ [xs], D1, _, ⟨o', h.k1.chg ch (fun k e he => ?_), kk.nar, h.n1, by rw [List.length_append]; show l2.length + 1 ≤ 250; omega, fun k f e => ?_, ⟨h.nb.1, fun e => ?_⟩, fun k e => ?_⟩, ⟨hD' b hb, fun k e => ?_⟩, fun k e => ?_⟩, ch.mono (fun k _ e => ?_)⟩
  · rcases av he with e' | e'
    · subst e'; exact h.nb.1 e
    · exact h.d12 k e e'
  · rcases e.1 with e | e | e
    · exact h.d12 k f e
    · have := h.lo k (Or.inl f); omega
    · exact (hl k e).2 (hDD k (Or.inl f))
  · rcases e.1 with e | e | e
    · exact h.nb.2 e
    · have := h.ob.lt; omega
    · exact (hl _ e).2 hb
  · rcases e with e | e
    · have := h.lo k (Or.inl e); omega
    · exact e.2
  · rcases e with e | e
    · exact hD' _ (hDD k (Or.inl e))
    · rcases e.1 with e | e | e
      · exact hD' _ (em k e)
      · exact hD' _ (hD k e)
      · exact (hl k e).1
  · rcases e with e | e | e | e | e
    · exact hPP k (Or.inl e)
    · exact hPP k (Or.inr (Or.inl e))
    · exact hPP k (Or.inr (Or.inr (Or.inl e)))
    · rcases hAn k e with e | e
      · exact hPP k (Or.inr (Or.inr (Or.inr (Or.inl e))))
      · exact hp k e
    · rcases hB14 k e with e | e
      · exact hPP k (Or.inr (Or.inr (Or.inr (Or.inr e))))
      · exact hp k (by have := c14.size; omega)
  · rcases e with e | e | e
    · exact hPP k (Or.inl e)
    · exact hPP k (Or.inr (Or.inr (Or.inr (Or.inl e))))
    · exact hPP k (Or.inr (Or.inr (Or.inr (Or.inr e))))
theorem BkY.state {D P : Nat → Prop} {w : World} {b : Nat} (h : BkY D P w b) (hD : ∀ k, w.heap.size ≤ k → D k) (hp : ∀ k, w.heap.size ≤ k → P k) {S : StC} {s : StV} {F : Nat → Prop} (hs : StX F w S s) (h1 : s.stack.length ≤ 1000000) (h2 : s.back.length ≤ 1000000) (h3 : s.mem.length ≤ 1000000) {D' : Nat → Prop} (hD' : ∀ k, D k → D' k) (hF : ∀ k, F k → D' k ∧ ¬ D k ∧ ¬ P k) :
    Calls Tryz.prog fn_hollowaybook_Book_State #[.pointer (some ⟨b, 0, none⟩), .agg (stC S).toArray] w fun e w' => e = .returned (.tuple #[]) ∧ BkY D' P w' b ∧ Chg P w w' := by
  refine (hollowaybook_Book_State_lift (K := fun r w' => r = .tuple #[] ∧ BkY D' P w' b ∧ Chg P w w') ?_).mono (by rintro e w' ⟨r, rfl, rfl, h⟩; exact ⟨rfl, h⟩)
  unfold hollowaybook_Book_State_sh
  intro b11 w12 hb11 hw12
  have c12 := al hw12
  have z12 : w12.heap.size = w.heap.size + 1 := by rw [hw12]; simp
  have o12 : Ob w12 b11 (stC S) T_api_State := by rw [hw12, hb11]; exact Ob.new w (stC S) T_api_State
  have lt12 := o12.lt
  obtain ⟨E, hE⟩ : ∃ E : Nat → Prop, E = fun k => D k ∧ k ≠ b11 := ⟨_, rfl⟩
  obtain ⟨Q, hQ⟩ : ∃ Q : Nat → Prop, Q = fun k => P k ∧ k ≠ b11 := ⟨_, rfl⟩
  have hE1 : ∀ k, E k → D k ∧ k ≠ b11 := fun k hk => by rw [hE] at hk; exact hk
  have hQ1 : ∀ k, Q k → P k ∧ k ≠ b11 := fun k hk => by rw [hQ] at hk; exact hk
  have h12 : BkY E Q w12 b := by
    have g := h.nar
    rw [hE, hQ]
    exact (g.no c12).wid (fun k hk => ⟨hk.1, by have := hk.2; omega⟩) (fun k hk => ⟨hk.1, by have := hk.2; omega⟩)
  have hEs : ∀ k, w12.heap.size ≤ k → E k := fun k hk => by rw [hE]; exact ⟨hD k (by omega), by omega⟩
  have hQs : ∀ k, w12.heap.size ≤ k → Q k := fun k hk => by rw [hQ]; exact ⟨hp k (by omega), by omega⟩
  have nE : ∀ k, F k → ¬ E k := fun k hk he => (hF k hk).2.1 (hE1 k he).1
  have nQ : ∀ k, F k → ¬ Q k := fun k hk he => (hF k hk).2.2 (hQ1 k he).1
  have hs12 := hs.no c12
  refine ⟨S.stack, o12.cell rfl, ?_⟩
  refine (h12.ints hEs hQs hs12.st (by omega) (D' := fun k => E k ∨ S.stack.blk = some k) (fun k hk => Or.inl hk) (fun k hk => ⟨Or.inr hk, nE k (hs.stD k hk).1⟩)).mono ?_
  rintro e w15 ⟨rfl, h15, c15⟩
  have z15 := c15.size
  have o15 := o12.chg c15 (fun he => (hQ1 _ he).2 rfl)
  have hs15 := hs12.chg c15 (fun k hk he => nQ k hk he)
  refine ⟨rfl, S.back, o15.cell rfl, ?_⟩
  refine (h15.ints (fun k hk => Or.inl (hEs k (by omega))) (fun k hk => hQs k (by omega)) hs15.bk (by omega) (D' := fun k => (E k ∨ S.stack.blk = some k) ∨ S.back.blk = some k) (fun k hk => Or.inl hk) (fun k hk => ⟨Or.inr hk, fun he => ?_⟩)).mono ?_
  · rcases he with he | he
    · exact nE k (hs.bkD k hk).1 he
    · exact (hs.stD k he).2.1 hk
  rintro e w18 ⟨rfl, h18, c18⟩
  have z18 := c18.size
  have o18 := o15.chg c18 (fun he => (hQ1 _ he).2 rfl)
  have hs18 := hs15.chg c18 (fun k hk he => nQ k hk he)
  refine ⟨rfl, S.mem, o18.cell rfl, ?_⟩
  refine (h18.ints (fun k hk => Or.inl (Or.inl (hEs k (by omega)))) (fun k hk => hQs k (by omega)) hs18.me (by omega) (D' := D') (fun k hk => ?_) (fun k hk => ⟨(hF k (hs.meD k hk)).1, fun he => ?_⟩)).mono ?_
  · rcases hk with (hk | hk) | hk
    · exact hD' k (hE1 k hk).1
    · exact (hF k (hs.stD k hk).1).1
    · exact (hF k (hs.bkD k hk).1).1
  · rcases he with (he | he) | he
    · exact nE k (hs.meD k hk) he
    · exact (hs.stD k he).2.2 hk
    · exact (hs.bkD k he).2 hk
  rintro e w21 ⟨rfl, h21, c21⟩
  exact ⟨rfl, rfl, h21.wid (fun k hk => hk) (fun k hk => (hQ1 k hk).1), (((c12.mono (fun _ _ h => h.elim)).trans c15 (U := P) (fun _ _ h => h) (fun k _ hk => (hQ1 k hk).1)).trans c18 (fun _ _ h => h) (fun k _ hk => (hQ1 k hk).1)).trans c21 (fun _ _ h => h) (fun k _ hk => (hQ1 k hk).1)⟩
theorem BkY.apart {D P : Nat → Prop} {w : World} {b : Nat} (h : BkY D P w b) : Calls Tryz.prog fn_hollowaybook_Book_Apart #[.pointer (some ⟨b, 0, none⟩)] w fun e w' => e = .returned (.bool true) ∧ Chg D w w' := by
  refine (hollowaybook_Book_Apart_lift (K := fun r w' => r = .bool true ∧ Chg D w w') ?_).mono (by rintro e w' ⟨r, rfl, rfl, h⟩; exact ⟨rfl, h⟩)
  unfold hollowaybook_Book_Apart_sh
  obtain ⟨A1, B1, l1, s1, x1, A2, B2, l2, s2, x2, D1, D2, h, ⟨hb, hDD⟩, _⟩ := h
  have L1 : ∀ k, blksOf l1 k → D1 k := fun k e => (h.k1.dl k e).1
  have L2 : ∀ k, blksOf l2 k → D2 k := fun k e => (h.k2.dl k e).1
  have M1 : ∀ k, A1.blk = some k → D1 k := fun k e => (h.k1.dA k e).1
  have M2 : ∀ k, A2.blk = some k → D2 k := fun k e => (h.k2.dA k e).1
  have b1 : ¬ blksOf l1 b := fun e => h.nb.1 (L1 b e)
  have b2 : ¬ blksOf l2 b := fun e => h.nb.2 (L2 b e)
  have d12 := h.d12
  have o1 : ∀ k, blksOf l1 k → k < w.heap.size := fun k e => (h.k1.dl k e).2.2
  have o2 : ∀ k, blksOf l2 k → k < w.heap.size := fun k e => (h.k2.dl k e).2.2
  have hK1 : KB intE T_sl_int w b 2 A1 B1 l1 s1 x1 := ⟨h.ob.cell rfl, h.ob.cell rfl, h.k1.oA.rd, h.k1.oB.rd, h.k1.len, h.k1.lenB, by have := h.n1; omega, h.k1.ox, h.k1.rd, h.k1.dis, b1, fun k e => (h.k1.dA k e).2.2.2.1⟩
  have hK2 : KB seE T_sl_api_Seen w b 6 A2 B2 l2 s2 x2 := ⟨h.ob.cell rfl, h.ob.cell rfl, h.k2.oA.rd, h.k2.oB.rd, h.k2.len, h.k2.lenB, by have := h.n2; omega, h.k2.ox, h.k2.rd, h.k2.dis, b2, fun k e => (h.k2.dA k e).2.2.2.1⟩
  have hP1 : KP intE T_sl_int w b 2 A1 l1 x1 := ⟨h.ob.cell rfl, h.k1.oA.rd, h.k1.len, by have := h.n1; omega, h.k1.ox, h.k1.dis, b1, fun k e => (h.k1.dA k e).2.2.2.1⟩
  have hP2 : KP seE T_sl_api_Seen w b 6 A2 l2 x2 := ⟨h.ob.cell rfl, h.k2.oA.rd, h.k2.len, by have := h.n2; omega, h.k2.ox, h.k2.dis, b2, fun k e => (h.k2.dA k e).2.2.2.1⟩
  have hc : ∀ j : Nat, j = 0 ∨ j = 4 ∨ j = 8 ∨ j = 10 → w.cell? ⟨b, j, none⟩ = some nilS.val := fun j hj => by rcases hj with rfl | rfl | rfl | rfl <;> exact h.ob.cell rfl
  refine (stillTexts_nil (hc 0 (by omega))).mono ?_
  rintro e wz ⟨rfl, rfl⟩
  refine ⟨_, rfl, brN_f ?_⟩
  refine (stillInts_any hK1).mono ?_
  rintro e w1 ⟨rfl, c1⟩
  have hc1 : ∀ j : Nat, j = 0 ∨ j = 4 ∨ j = 8 ∨ j = 10 → w1.cell? ⟨b, j, none⟩ = some nilS.val := fun j hj => c1.cell (hc j hj) (fun h => h)
  refine ⟨_, rfl, brN_f ?_⟩
  refine (stillWords_nil (hc1 4 (by omega))).mono ?_
  rintro e wz ⟨rfl, rfl⟩
  refine ⟨_, rfl, brN_f ?_⟩
  refine (stillSeens_any (hK2.no c1)).mono ?_
  rintro e w3 ⟨rfl, c3⟩
  have cS := trN c1 c3
  have hcS : ∀ j : Nat, j = 0 ∨ j = 4 ∨ j = 8 ∨ j = 10 → w3.cell? ⟨b, j, none⟩ = some nilS.val := fun j hj => cS.cell (hc j hj) (fun h => h)
  refine ⟨_, rfl, brN_f ?_⟩
  refine (stillCodes_nil (hcS 8 (by omega))).mono ?_
  rintro e wz ⟨rfl, rfl⟩
  refine ⟨_, rfl, brN_f ?_⟩
  refine (stillExits_nil (hcS 10 (by omega))).mono ?_
  rintro e wz ⟨rfl, rfl⟩
  refine ⟨_, rfl, brN_f ?_⟩
  refine (putExits_nil (hcS 10 (by omega))).mono ?_
  rintro e wz ⟨rfl, rfl⟩
  refine ⟨rfl, ?_⟩
  refine (putTexts_nil (hcS 0 (by omega))).mono ?_
  rintro e wz ⟨rfl, rfl⟩
  refine ⟨rfl, ?_⟩
  refine (putIntsY_any (hP1.chg cS (fun h => h) (fun _ _ h => h) (fun _ _ h => h))).mono ?_
  rintro e w5 ⟨rfl, m1, c5⟩
  have k5 : Chg (blksOf l1) w w5 := cS.trans c5 (fun _ _ h => h.elim) (fun _ _ h => h)
  have hc5 : ∀ j : Nat, j = 0 ∨ j = 4 ∨ j = 8 ∨ j = 10 → w5.cell? ⟨b, j, none⟩ = some nilS.val := fun j hj => k5.cell (hc j hj) b1
  refine ⟨rfl, ?_⟩
  refine (putWords_nil (hc5 4 (by omega))).mono ?_
  rintro e wz ⟨rfl, rfl⟩
  refine ⟨rfl, ?_⟩
  refine (putSeens_any (hP2.chg k5 b1 (fun k e f => d12 k (L1 k f) (M2 k e)) (fun k e f => d12 k (L1 k f) (L2 k e)))).mono ?_
  rintro e w6 ⟨rfl, m2, c6⟩
  have m1x := m1.chg c6 b2 (fun k e f => d12 k (M1 k e) (L2 k f)) (fun k e f => d12 k (L1 k e) (L2 k f))
  have hc6 : ∀ j : Nat, j = 0 ∨ j = 4 ∨ j = 8 ∨ j = 10 → w6.cell? ⟨b, j, none⟩ = some nilS.val := fun j hj => c6.cell (hc5 j hj) b2
  have k6 : Chg (fun k => blksOf l1 k ∨ blksOf l2 k) w w6 := k5.trans c6 (fun _ _ h => Or.inl h) (fun _ _ h => Or.inr h)
  have z6 := k6.size
  refine ⟨rfl, ?_⟩
  refine (putCodes_nil (hc6 8 (by omega))).mono ?_
  rintro e wz ⟨rfl, rfl⟩
  refine ⟨rfl, ?_⟩
  refine (growTexts_nil (hc6 0 (by omega))).mono ?_
  rintro e wz ⟨rfl, rfl⟩
  refine ⟨nilS, rfl, ?_⟩
  refine (growIntsY_any m1x).mono ?_
  rintro e w7 ⟨out1, rfl, g1, q1, c7⟩
  have m2x := m2.chg c7 b1 (fun k e f => d12 k (L1 k f) (M2 k e)) (fun k e f => d12 k (L1 k f) (L2 k e))
  have hc7 : ∀ j : Nat, j = 0 ∨ j = 4 ∨ j = 8 ∨ j = 10 → w7.cell? ⟨b, j, none⟩ = some nilS.val := fun j hj => c7.cell (hc6 j hj) b1
  have z7 := c7.size
  refine ⟨out1, rfl, ?_⟩
  refine (growWords_nil (hc7 4 (by omega))).mono ?_
  rintro e wz ⟨rfl, rfl⟩
  refine ⟨nilS, rfl, ?_⟩
  refine (growSeens_any m2x).mono ?_
  rintro e w9 ⟨out2, rfl, g2, q2, c8⟩
  have z8 := c8.size
  have hc9 : ∀ j : Nat, j = 0 ∨ j = 4 ∨ j = 8 ∨ j = 10 → w9.cell? ⟨b, j, none⟩ = some nilS.val := fun j hj => c8.cell (hc7 j hj) b2
  refine ⟨out2, rfl, ?_⟩
  refine (growCodes_nil (hc9 8 (by omega))).mono ?_
  rintro e wz ⟨rfl, rfl⟩
  refine ⟨nilS, rfl, ?_⟩
  refine (growExits_nil (hc9 10 (by omega))).mono ?_
  rintro e wz ⟨rfl, rfl⟩
  refine ⟨nilS, rfl, ?_⟩
  have G1 := g1.chg c8 (fun k e f => d12 k (L1 k e) (L2 k f)) (fun k f => by have := o2 k f; omega)
  have Q1 := q1.chg c8 (fun k e f => d12 k (L1 k e) (L2 k f))
  have c69 : Chg (fun k => blksOf l1 k ∨ blksOf l2 k) w6 w9 := c7.trans c8 (fun _ _ h => Or.inl h) (fun _ _ h => Or.inr h)
  have k9 : Chg (fun k => blksOf l1 k ∨ blksOf l2 k) w w9 := k6.trans c69 (fun _ _ h => h) (fun _ _ h => h)
  have nL : ¬ (blksOf l1 b ∨ blksOf l2 b) := fun f => f.elim b1 b2
  have U1 : Grown' intE T_sl_int mkI w9 A1 l1.length := Q1.asGrown (m1x.rA.chg c69 (fun k e f => f.elim (m1x.nA k e) (fun f => d12 k (M1 k e) (L2 k f)))) (fun i s hs => by have := (m1x.ox i s hs).2; omega)
  have U2 : Grown' seE T_sl_api_Seen mkS w9 A2 l2.length := q2.asGrown (m2x.rA.chg c8 m2x.nA) (fun i s hs => by have := (m2x.ox i s hs).2; omega)
  have cl1 : w9.cell? ⟨b, 2, none⟩ = some A1.val := k9.cell (h.ob.cell rfl) nL
  have cl2 : w9.cell? ⟨b, 6, none⟩ = some A2.val := k9.cell (h.ob.cell rfl) nL
  refine (markedTexts_nil _).mono ?_
  rintro e wz ⟨rfl, rfl⟩
  refine ⟨_, rfl, brB_t ⟨nilS, hc9 0 (by omega), ?_⟩⟩
  refine (markedTexts_nil _).mono ?_
  rintro e wz ⟨rfl, rfl⟩
  refine ⟨_, rfl, brB_t ?_⟩
  refine (markedInts_any (by have := h.n1; omega) G1.old).mono ?_
  rintro e wa1 ⟨rfl, e1⟩
  refine ⟨_, rfl, brB_t ⟨A1, e1.cell cl1 (fun h => h), ?_⟩⟩
  refine (markedInts_any (by have := h.n1; omega) (U1.no e1)).mono ?_
  rintro e wb1 ⟨rfl, cb1⟩
  have f1 := trN e1 cb1
  have hf1 : ∀ j : Nat, j = 0 ∨ j = 4 ∨ j = 8 ∨ j = 10 → wb1.cell? ⟨b, j, none⟩ = some nilS.val := fun j hj => f1.cell (hc9 j hj) (fun h => h)
  refine ⟨_, rfl, brB_t ?_⟩
  refine (markedWords_nil _).mono ?_
  rintro e wz ⟨rfl, rfl⟩
  refine ⟨_, rfl, brB_t ⟨nilS, hf1 4 (by omega), ?_⟩⟩
  refine (markedWords_nil _).mono ?_
  rintro e wz ⟨rfl, rfl⟩
  refine ⟨_, rfl, brB_t ?_⟩
  refine (markedSeens_any (by have := h.n2; omega) (g2.old.no f1)).mono ?_
  rintro e wa2 ⟨rfl, ca2⟩
  have e2 := trN f1 ca2
  refine ⟨_, rfl, brB_t ⟨A2, e2.cell cl2 (fun h => h), ?_⟩⟩
  refine (markedSeens_any (by have := h.n2; omega) (U2.no e2)).mono ?_
  rintro e wb2 ⟨rfl, cb2⟩
  have f2 := trN e2 cb2
  have hf2 : ∀ j : Nat, j = 0 ∨ j = 4 ∨ j = 8 ∨ j = 10 → wb2.cell? ⟨b, j, none⟩ = some nilS.val := fun j hj => f2.cell (hc9 j hj) (fun h => h)
  refine ⟨_, rfl, brB_t ?_⟩
  refine (markedCodes_nil _).mono ?_
  rintro e wz ⟨rfl, rfl⟩
  refine ⟨_, rfl, brB_t ⟨nilS, hf2 8 (by omega), ?_⟩⟩
  refine (markedCodes_nil _).mono ?_
  rintro e wz ⟨rfl, rfl⟩
  refine ⟨_, rfl, brB_t ?_⟩
  refine (markedExits_nil _).mono ?_
  rintro e wz ⟨rfl, rfl⟩
  refine ⟨_, rfl, brB_t ⟨nilS, hf2 10 (by omega), ?_⟩⟩
  refine (markedExits_nil _).mono ?_
  rintro e wz ⟨rfl, rfl⟩
  exact ⟨_, rfl, rfl, k9.trans f2 (fun k _ f => f.elim (fun f => hDD k (Or.inl (L1 k f))) (fun f => hDD k (Or.inr (L2 k f)))) (fun _ _ h => h.elim)⟩
end Go.Proofs.YtkjpmkopnkkbmaaGreatDoor

/- Machines whose lists have room behind them, in which a mark stands. -/
set_option maxRecDepth 100000
namespace Go.Proofs.YtkjpmkopnkkbmaaGreatDoor
open Go.RowKit

structure StLent (D : Nat → Prop) (w : World) (S : StC) (s : StV) : Prop where
  nums : StNums S s
  st : Lent w S.stack s.stack
  bk : Lent w S.back s.back
  me : Lent w S.mem s.mem
  stD : ∀ k, S.stack.blk = some k → D k
  bkD : ∀ k, S.back.blk = some k → D k
  meD : ∀ k, S.mem.blk = some k → D k
theorem StLent.is {D : Nat → Prop} {w : World} {S : StC} {s : StV} (h : StLent D w S s) : StIs D w S s := ⟨h.nums, h.st.rd, h.bk.rd, h.me.rd, h.stD, h.bkD, h.meD⟩
theorem StLent.chg {D S' : Nat → Prop} {w w' : World} {S : StC} {s : StV} (h : StLent D w S s) (c : Chg S' w w') (hS : ∀ k, D k → ¬ S' k) : StLent D w' S s :=
  ⟨h.nums, h.st.chg c (fun k hk => hS _ (h.stD k hk)), h.bk.chg c (fun k hk => hS _ (h.bkD k hk)), h.me.chg c (fun k hk => hS _ (h.meD k hk)), h.stD, h.bkD, h.meD⟩
theorem StLent.no {D : Nat → Prop} {w w' : World} {S : StC} {s : StV} (h : StLent D w S s) (c : Chg No w w') : StLent D w' S s := h.chg c (fun _ _ h => h)
theorem lentState_any {D : Nat → Prop} {w : World} (S : StC) {s : StV} (h : StIs D w S s) (h1 : s.stack.length ≤ 1000000) (h2 : s.back.length ≤ 1000000) (h3 : s.mem.length ≤ 1000000) : Calls Tryz.prog fn_hollowaybook_LentState #[.agg (stC S).toArray] w fun e w' => ∃ S' : StC, e = .returned (.agg (stC S').toArray) ∧ StLent (fun k => w.heap.size ≤ k ∧ k < w'.heap.size) w' S' s ∧ Chg No w w' := by
  refine (hollowaybook_LentState_lift (K := fun r w' => ∃ S' : StC, r = .agg (stC S').toArray ∧ StLent (fun k => w.heap.size ≤ k ∧ k < w'.heap.size) w' S' s ∧ Chg No w w') ?_).mono (by rintro e w' ⟨r, rfl, S', rfl, h⟩; exact ⟨S', rfl, h⟩)
  unfold hollowaybook_LentState_sh
  intro b11 w12 hb11 hw12 b13 w14 hb13 hw14
  have c12 := al hw12
  have c14 := al hw14
  have z12 : w12.heap.size = w.heap.size + 1 := by rw [hw12]; simp
  have z14 : w14.heap.size = w12.heap.size + 1 := by rw [hw14]; simp
  have o11 : Ob w14 b11 (stC S) T_api_State := by
    have : Ob w12 b11 (stC S) T_api_State := by rw [hw12, hb11]; exact Ob.new w (stC S) T_api_State
    exact this.no c14
  have o13 : Ob w14 b13 (stC st0) T_api_State := by rw [hw14, hb13]; exact Ob.new w12 (stC st0) T_api_State
  intro w15 hw15
  have c15 := dw hw15
  have k15 := trN (trN c12 c14) c15
  have z15 := c15.size
  have p11 := o11.no c15
  have p13 := o13.no c15
  have hd : ∀ {j : Nat} {u : Value}, (stC S)[j]? = some u → held (fun w' => Chg No w15 w') ⟨b11, j, none⟩ u := fun h => Ob.held (fun w' c => p11.no c) h
  refine ⟨fun w' => Chg No w15 w', Chg.refl _ _, S.stack, hd rfl, S.back, hd rfl, S.mem, hd rfl, ?_⟩
  refine (lentInts_any (h.st.no k15) h1).mono ?_
  rintro e w21 ⟨s22, rfl, g22, c21, n22⟩
  have k21 := trN k15 c21
  have z21 := c21.size
  refine ⟨s22, rfl, c21, ?_⟩
  refine (lentInts_any (h.bk.no k21) h2).mono ?_
  rintro e w24 ⟨s25, rfl, g25, c24, n25⟩
  have k24 := trN k21 c24
  have z24 := c24.size
  refine ⟨s25, rfl, trN c21 c24, ?_⟩
  refine (lentInts_any (h.me.no k24) h3).mono ?_
  rintro e w27 ⟨s28, rfl, g28, c27, n28⟩
  have k27 := trN k24 c27
  have z27 := c27.size
  have c1527 := trN (trN c21 c24) c27
  refine ⟨s28, rfl, c1527, (p11.no c1527).wr (by simp [stC]), fun w29 hw29 => ?_⟩
  obtain ⟨q11, d29⟩ := (p11.no c1527).up (k := 2) (vs := [s22.val]) (cs' := stC { S with stack := s22 }) (by simp [stC]) rfl hw29
  refine ⟨q11.wr (by simp [stC]), fun w30 hw30 => ?_⟩
  obtain ⟨q11, d30⟩ := q11.up (k := 3) (vs := [s25.val]) (cs' := stC { S with stack := s22, back := s25 }) (by simp [stC]) rfl hw30
  refine ⟨q11.wr (by simp [stC]), fun w31 hw31 => ?_⟩
  obtain ⟨q11, d31⟩ := q11.up (k := 4) (vs := [s28.val]) (cs' := stC { S with stack := s22, back := s25, mem := s28 }) (by simp [stC]) rfl hw31
  have d2731 : Chg (fun j => j = b11) w27 w31 := (d29.trans d30 (fun _ _ h => h) (fun _ _ h => h)).trans d31 (fun _ _ h => h) (fun _ _ h => h)
  have r13 := (p13.no c1527).chg d2731 (fun he => by omega)
  refine ⟨_, _, _, _, _, _, _, _, _, _, q11.cell rfl, q11.cell rfl, q11.cell rfl, q11.cell rfl, q11.cell rfl, q11.cell rfl, q11.cell rfl, q11.cell rfl, q11.cell rfl, q11.cell rfl, r13.wr (by simp [stC]), fun w42 hw42 => ?_⟩
  obtain ⟨r13, d42⟩ := r13.up (k := 0) (vs := stC { S with stack := s22, back := s25, mem := s28 }) (cs' := stC { S with stack := s22, back := s25, mem := s28 }) (by simp [stC]) rfl hw42
  have d2742 : Chg (fun j => j = b11 ∨ j = b13) w27 w42 := d2731.trans d42 (fun _ _ h => Or.inl h) (fun _ _ h => Or.inr h)
  have z42 := d2742.size
  have b22 : ∀ k, s22.blk = some k → w15.heap.size ≤ k ∧ k < w27.heap.size := fun k hk => by have := n22 k hk; omega
  have b25 : ∀ k, s25.blk = some k → w15.heap.size ≤ k ∧ k < w27.heap.size := fun k hk => by have := n25 k hk; omega
  have b28 : ∀ k, s28.blk = some k → w15.heap.size ≤ k ∧ k < w27.heap.size := fun k hk => by have := n28 k hk; omega
  have m : StLent (fun k => w15.heap.size ≤ k ∧ k < w27.heap.size) w27 { S with stack := s22, back := s25, mem := s28 } s :=
    ⟨h.nums, (g22.no c24).no c27, g25.no c27, g28, b22, b25, b28⟩
  have m' := m.chg d2742 (fun k hk he => by omega)
  refine ⟨_, _, _, _, _, _, _, _, _, _, r13.cell rfl, r13.cell rfl, r13.cell rfl, r13.cell rfl, r13.cell rfl, r13.cell rfl, r13.cell rfl, r13.cell rfl, r13.cell rfl, r13.cell rfl, { S with stack := s22, back := s25, mem := s28 }, rfl, ?_, k27.trans d2742 (fun _ _ h => h) (fun k hk he => by omega)⟩
  exact ⟨m'.nums, m'.st, m'.bk, m'.me, fun k hk => by have := m'.stD k hk; omega, fun k hk => by have := m'.bkD k hk; omega, fun k hk => by have := m'.meD k hk; omega⟩
theorem staysState_any {D D' : Nat → Prop} {w : World} (m S : StC) {s : StV} (hm : StLent D w m s) (h : StIs D' w S s) : Calls Tryz.prog fn_hollowaybook_StaysState #[.agg (stC m).toArray, .agg (stC S).toArray] w fun e w' => e = .returned (.bool true) ∧ Chg No w w' := by
  refine (hollowaybook_StaysState_lift (K := fun r w' => r = .bool true ∧ Chg No w w') ?_).mono (by rintro e w' ⟨r, rfl, rfl, h⟩; exact ⟨rfl, h⟩)
  unfold hollowaybook_StaysState_sh
  intro b21 w22 hb21 hw22 b23 w24 hb23 hw24
  have c22 := al hw22
  have c24 := al hw24
  have o21 : Ob w24 b21 (stC m) T_api_State := by
    have : Ob w22 b21 (stC m) T_api_State := by rw [hw22, hb21]; exact Ob.new w (stC m) T_api_State
    exact this.no c24
  have o23 : Ob w24 b23 (stC S) T_api_State := by rw [hw24, hb23]; exact Ob.new w22 (stC S) T_api_State
  have k24 := trN c22 c24
  refine ⟨_, _, _, _, _, _, _, _, _, _, o21.cell rfl, o21.cell rfl, o21.cell rfl, o21.cell rfl, o21.cell rfl, o21.cell rfl, o21.cell rfl, o21.cell rfl, o21.cell rfl, o21.cell rfl, ?_⟩
  refine ⟨_, _, _, _, _, _, _, _, _, _, o23.cell rfl, o23.cell rfl, o23.cell rfl, o23.cell rfl, o23.cell rfl, o23.cell rfl, o23.cell rfl, o23.cell rfl, o23.cell rfl, o23.cell rfl, (sameState_any m S (hm.no k24).is (h.no k24)).mono ?_⟩
  rintro e w46 ⟨rfl, c46⟩
  have k46 := trN k24 c46
  refine ⟨_, rfl, brB_t ⟨m.stack, (o21.no c46).cell rfl, S.stack, (o23.no c46).cell rfl, (staysInts_any (hm.no k46).st (h.no k46).st).mono ?_⟩⟩
  rintro e w51 ⟨rfl, c51⟩
  have k51 := trN k46 c51
  have d51 := trN c46 c51
  refine ⟨_, rfl, brB_t ⟨m.back, (o21.no d51).cell rfl, S.back, (o23.no d51).cell rfl, (staysInts_any (hm.no k51).bk (h.no k51).bk).mono ?_⟩⟩
  rintro e w56 ⟨rfl, c56⟩
  have k56 := trN k51 c56
  have d56 := trN d51 c56
  refine ⟨_, rfl, brB_t ⟨m.mem, (o21.no d56).cell rfl, S.mem, (o23.no d56).cell rfl, (staysInts_any (hm.no k56).me (h.no k56).me).mono ?_⟩⟩
  rintro e w61 ⟨rfl, c61⟩
  exact ⟨_, rfl, rfl, trN k56 c61⟩
end Go.Proofs.YtkjpmkopnkkbmaaGreatDoor

/- A log of what came behind what. -/
set_option maxRecDepth 100000
namespace Go.Proofs.YtkjpmkopnkkbmaaGreatDoor
open Go.RowKit

/-! ### A log -/
def ZL (E : Nat × List Value → Nat → Nat → World → Prop) (lo : Nat) (lg : List (Nat × List Value)) (w : World) : Prop :=
  ∃ rng : Nat × List Value → Nat × Nat, (∀ e ∈ lg, E e (rng e).1 (rng e).2 w ∧ lo ≤ (rng e).1 ∧ (rng e).2 ≤ w.heap.size) ∧ ∀ e ∈ lg, ∀ e' ∈ lg, e ≠ e' → (rng e).2 ≤ (rng e').1 ∨ (rng e').2 ≤ (rng e).1
theorem ZL.nil (E : Nat × List Value → Nat → Nat → World → Prop) (lo : Nat) (w : World) : ZL E lo [] w := ⟨fun _ => (0, 0), fun e h => by simp at h, fun e h => by simp at h⟩
open Classical in
theorem ZL.snoc {E : Nat × List Value → Nat → Nat → World → Prop} {lo : Nat} {lg : List (Nat × List Value)} {w w' : World} (h : ZL E lo lg w) (hlo : lo ≤ w.heap.size) (c : w.heap.size ≤ w'.heap.size) (up : ∀ e a b, E e a b w → E e a b w') {e : Nat × List Value} (he : E e w.heap.size w'.heap.size w') : ZL E lo (lg ++ [e]) w' := by
  obtain ⟨rng, h1, h2⟩ := h
  by_cases hm : e ∈ lg
  · refine ⟨rng, fun x hx => ?_, fun x hx y hy => ?_⟩
    · have hx : x ∈ lg := by
        rcases List.mem_append.1 hx with hx | hx
        · exact hx
        · have : x = e := by simpa using hx
          rw [this]; exact hm
      obtain ⟨g1, g2, g3⟩ := h1 x hx
      exact ⟨up _ _ _ g1, g2, by omega⟩
    · have hx : x ∈ lg := by
        rcases List.mem_append.1 hx with hx | hx
        · exact hx
        · have : x = e := by simpa using hx
          rw [this]; exact hm
      have hy : y ∈ lg := by
        rcases List.mem_append.1 hy with hy | hy
        · exact hy
        · have : y = e := by simpa using hy
          rw [this]; exact hm
      exact h2 x hx y hy
  · have new : ∀ x, x ∈ lg → x ≠ e := fun x hx he => hm (he ▸ hx)
    refine ⟨fun x => if x = e then (w.heap.size, w'.heap.size) else rng x, fun x hx => ?_, fun x hx y hy hxy => ?_⟩
    · by_cases hxe : x = e
      · simp only [if_pos hxe]; rw [hxe]; exact ⟨he, hlo, Nat.le_refl _⟩
      · have hx : x ∈ lg := by
          rcases List.mem_append.1 hx with hx | hx
          · exact hx
          · exact absurd (by simpa using hx) hxe
        obtain ⟨g1, g2, g3⟩ := h1 x hx
        simp only [if_neg hxe]
        exact ⟨up _ _ _ g1, g2, by omega⟩
    · by_cases hxe : x = e
      · have hye : y ≠ e := fun h => hxy (by rw [hxe, h])
        have hy : y ∈ lg := by
          rcases List.mem_append.1 hy with hy | hy
          · exact hy
          · exact absurd (by simpa using hy) hye
        obtain ⟨g1, g2, g3⟩ := h1 y hy
        simp only [if_pos hxe, if_neg hye]
        exact Or.inr g3
      · have hx : x ∈ lg := by
          rcases List.mem_append.1 hx with hx | hx
          · exact hx
          · exact absurd (by simpa using hx) hxe
        by_cases hye : y = e
        · obtain ⟨g1, g2, g3⟩ := h1 x hx
          simp only [if_pos hye, if_neg hxe]
          exact Or.inl g3
        · have hy : y ∈ lg := by
            rcases List.mem_append.1 hy with hy | hy
            · exact hy
            · exact absurd (by simpa using hy) hye
          simp only [if_neg hxe, if_neg hye]
          exact h2 x hx y hy hxy
end Go.Proofs.YtkjpmkopnkkbmaaGreatDoor

/- RecordTells: the walk. -/
set_option maxRecDepth 100000
namespace Go.Proofs.YtkjpmkopnkkbmaaGreatDoor
open Go.RowKit

theorem rcC_inj {a b : RcC} (h : rcC a = rcC b) : a = b := by
  obtain ⟨a1, a2, a3, ⟨p, l, c⟩⟩ := a
  obtain ⟨b1, b2, b3, ⟨q, m, d⟩⟩ := b
  simp only [rcC, List.cons.injEq, Value.int.injEq, Value.bool.injEq, val_eq, Value.slice.injEq, and_true, true_and] at h
  obtain ⟨rfl, rfl, rfl, rfl, rfl, rfl⟩ := h
  rfl
def EntR (f : Nat → Option RcV) (e : Nat × List Value) (lo hi : Nat) (w : World) : Prop := match f e.1 with
  | some r => ∃ R : RcC, e.2 = rcC R ∧ RcOw (fun k => lo ≤ k ∧ k < hi) w R r
  | none => ∃ a : Nat, e.2 = [.pointer (some ⟨a, 0, none⟩)] ∧ Ob w a (rcC rc0) T_api_Recording ∧ lo ≤ a ∧ a < hi
theorem EntR.no {f : Nat → Option RcV} {e : Nat × List Value} {lo hi : Nat} {w w' : World} (h : EntR f e lo hi w) (c : Chg No w w') : EntR f e lo hi w' := by
  unfold EntR at h ⊢
  cases hf : f e.1 with
  | some r => rw [hf] at h; obtain ⟨R, h1, h2⟩ := h; exact ⟨R, h1, h2.no c⟩
  | none => rw [hf] at h; obtain ⟨a, h1, h2, h3⟩ := h; exact ⟨a, h1, h2.no c, h3⟩
theorem BkY.reset {D P X : Nat → Prop} {w w' : World} {b : Nat} (h : BkY D P w b) (c : Chg X w w') (hX : ∀ k, X k → w.heap.size ≤ k) : BkY (fun k => (D k ∧ k < w.heap.size) ∨ w'.heap.size ≤ k) (fun k => (P k ∧ k < w.heap.size) ∨ w'.heap.size ≤ k) w' b :=
  (h.nar.chg c (fun k hk hx => by have := hX k hx; omega)).wid (fun _ h => Or.inl h) (fun _ h => Or.inl h)
theorem recordTells_walk {w : World} (S : StC) {s : StV} (h : StIs (fun _ => True) w S s) (hg : Gl w) (hi : SIn s) (most : Int) :
    Calls Tryz.prog fn_hollowaylaw13_RecordTells #[.agg (stC S).toArray, .int .i64 most] w fun e w' => e = .returned (.bool true) ∧ Chg No w w' := by
  refine (hollowaylaw13_RecordTells_lift (K := fun v w' => v = .bool true ∧ Chg No w w') ?_).mono (by rintro e w' ⟨v, rfl, rfl, h⟩; exact ⟨rfl, h⟩)
  unfold hollowaylaw13_RecordTells_sh
  obtain ⟨m1, m2, m3, m4, m5, m6, m7⟩ := h.nums
  refine inSt S fun b12 w13 hb12 z13 o12 c13 => ?_
  refine ⟨fun b' w' => (b' = false → LightS s) ∧ Chg No w13 w', ?_, rdSt o12 ?_⟩
  rotate_left
  · refine (light9_any S (h.no c13)).mono ?_
    rintro e w25 ⟨b', rfl, hb, c25⟩
    refine ⟨b', rfl, brB_of (fun _ => ⟨(fun h => by cases h), c25⟩) (fun hl => ?_)⟩
    have hl := hb.1 (by simpa using hl)
    refine (alive13_any (hg.no (trN c13 c25))).mono ?_
    rintro e w28 ⟨rfl, c28⟩
    exact ⟨_, rfl, fun _ => hl, trN c25 c28⟩
  rintro b' w30 ⟨hb, c30⟩
  have k30 := trN c13 c30
  refine brB_of (fun _ => ?_) (fun hf => ?_)
  · refine (alive13_any (hg.no k30)).mono ?_
    rintro e w33 ⟨rfl, c33⟩
    exact ⟨_, rfl, rfl, trN k30 c33⟩
  have ok := (hb hf).ok
  have k1 := ok.st
  have k2 := ok.bk
  have k3 := ok.me
  have o12 := o12.no c30
  have y12 : w.heap.size ≤ b12 := by omega
  have l12 := o12.lt
  obtain ⟨r, hr⟩ : ∃ r, r = recV s most := ⟨_, rfl⟩
  have hplace : ∀ x ∈ r.steps, 0 ≤ x.ip ∧ x.ip < 3000 := by rw [hr]; exact recV_place ok most
  have hlen : r.steps.length ≤ 120 := by
    have h3 := (recL_len s.ip (mostN most) s []).2
    have h4 := (mostN_le most).1
    have h5 : r.steps.length = (recL s.ip (mostN most) s []).steps.length := by rw [hr]; rfl
    simp at h3; omega
  refine rdSt o12 ((lentState_any S (h.no k30) (by omega) (by omega) (by omega)).mono ?_)
  rintro e w46 ⟨M, rfl, xM, c46⟩
  have z30 := k30.size
  have z46 := c46.size
  refine ⟨_, _, _, _, _, _, _, _, _, _, rfl, varSt M fun b57 w59 hb57 z59 o57 c59 => ?_⟩
  intro b60 w61 hb60 hw61
  have c61 := al hw61
  have z61 : w61.heap.size = w59.heap.size + 1 := by rw [hw61]; simp
  have o60 : Ob w61 b60 (bookY nilS nilS nilS nilS) T_hollowaybook_Book := by rw [hw61, hb60]; exact Ob.new w59 (bookY nilS nilS nilS nilS) T_hollowaybook_Book
  intro w62 hw62
  have c62 := dw hw62
  have z62 := c62.size
  have z59' := c59.size
  have k62 := trN (trN (trN (trN k30 c46) c59) c61) c62
  have o60 := o60.no c62
  have l57 := o57.lt
  have o57 := (o57.no c61).no c62
  have o12 := (((o12.no c46).no c59).no c61).no c62
  have xM := ((xM.no c59).no c61).no c62
  obtain ⟨f, hf'⟩ : ∃ f : Nat → Option RcV, f = fun i => if i = 2 then some r else if i = 5 then some r else none := ⟨_, rfl⟩
  have f2 : f 2 = some r := by rw [hf']; rfl
  have f5 : f 5 = some r := by rw [hf']; rfl
  have f6 : f 6 = none := by rw [hf']; rfl
  have f7 : f 7 = none := by rw [hf']; rfl
  have loopA : ∀ (i : Nat), f i = some r → ∀ (lg : List (Nat × List Value)) (w1 : World), Chg No w62 w1 → ZL (EntR f) w62.heap.size lg w1 → Calls Tryz.prog fn_record_Loop #[.agg (stC M).toArray, .int .i64 most] w1 fun e w2 => ∃ R : RcC, e = .returned (.agg (rcC R).toArray) ∧ Chg No w62 w2 ∧ ZL (EntR f) w62.heap.size (lg ++ [(i, rcC R)]) w2 := by
    intro i hi lg w1 c1 hZ
    refine (loop_rc M ((xM.no c1).is.wid (fun _ _ => trivial)) ok (hg.no (trN k62 c1)) most).mono ?_
    rintro e w2 ⟨R, rfl, gR, c2⟩
    refine ⟨R, rfl, trN c1 c2, hZ.snoc c1.size c2.size (fun e a b h => h.no c2) ?_⟩
    show EntR f (i, rcC R) _ _ _
    unfold EntR
    rw [hi, hr]
    exact ⟨R, rfl, gR⟩
  have alA : ∀ (i : Nat), f i = none → ∀ (lg : List (Nat × List Value)) (w1 : World), Chg No w62 w1 → ZL (EntR f) w62.heap.size lg w1 → ∀ (a : Nat) (w2 : World), a = w1.heap.size → w2 = World.alloc w1 (.cells (rcC rc0).toArray T_api_Recording) → Chg No w62 w2 ∧ True ∧ ZL (EntR f) w62.heap.size (lg ++ [(i, [.pointer (some ⟨a, 0, none⟩)])]) w2 := by
    intro i hi lg w1 c1 hZ a w2 ha hw2
    have c2 := al hw2
    have z2 : w2.heap.size = w1.heap.size + 1 := by rw [hw2]; simp
    refine ⟨trN c1 c2, trivial, hZ.snoc c1.size c2.size (fun e a b h => h.no c2) ?_⟩
    show EntR f (i, _) _ _ _
    unfold EntR
    rw [hi]
    exact ⟨a, rfl, by rw [hw2, ha]; exact Ob.new w1 (rcC rc0) T_api_Recording, by omega, by omega⟩
  refine ⟨fun w' => Chg No w62 w', Chg.refl _ _, hdSt (fun w' c => o57.no c) (hdSt (fun w' c => o57.no c) ⟨ZL (EntR f) w62.heap.size, ZL.nil _ _ _, ?_⟩)⟩
  refine ⟨fun lg w1 c1 hZ => (loopA 2 f2 lg w1 c1 hZ).mono (by rintro e w2 ⟨R, rfl, h1, h2⟩; exact ⟨_, _, _, _, rfl, h1, trivial, h2⟩), fun lg w1 c1 hZ => (loopA 5 f5 lg w1 c1 hZ).mono (by rintro e w2 ⟨R, rfl, h1, h2⟩; exact ⟨_, _, _, _, rfl, h1, trivial, h2⟩), fun lg w1 c1 hZ => alA 6 f6 lg w1 c1 hZ, fun lg w1 c1 hZ => alA 7 f7 lg w1 c1 hZ, ?_⟩
  intro lg w110 c110 hZ n85 n86 b87 s88 inA n89 n90 b91 s92 inB a119 inx b120 iny
  obtain ⟨rng, z1, z2⟩ := hZ
  obtain ⟨A, hA⟩ : ∃ A : RcC, A = ⟨n85, n86, b87, s88⟩ := ⟨_, rfl⟩
  obtain ⟨B, hB⟩ : ∃ B : RcC, B = ⟨n89, n90, b91, s92⟩ := ⟨_, rfl⟩
  have inA' : (2, rcC A) ∈ lg := by rw [hA]; exact inA
  have inB' : (5, rcC B) ∈ lg := by rw [hB]; exact inB
  have ne : ∀ {i j : Nat} {x y : List Value}, i ≠ j → (i, x) ≠ (j, y) := fun h e => h (congrArg Prod.fst e)
  obtain ⟨EA, EA1, EA2⟩ := z1 _ inA'
  obtain ⟨EB, EB1, EB2⟩ := z1 _ inB'
  obtain ⟨Ex, Ex1, Ex2⟩ := z1 _ inx
  obtain ⟨Ey, Ey1, Ey2⟩ := z1 _ iny
  have dAB := z2 _ inA' _ inB' (ne (by decide))
  have dAx := z2 _ inA' _ inx (ne (by decide))
  have dAy := z2 _ inA' _ iny (ne (by decide))
  have dBx := z2 _ inB' _ inx (ne (by decide))
  have dBy := z2 _ inB' _ iny (ne (by decide))
  have dxy := z2 _ inx _ iny (ne (by decide))
  generalize rng (2, rcC A) = rA at *
  generalize rng (5, rcC B) = rB at *
  generalize rng (6, [.pointer (some ⟨a119, 0, none⟩)]) = rx at *
  generalize rng (7, [.pointer (some ⟨b120, 0, none⟩)]) = ry at *
  unfold EntR at EA EB Ex Ey
  simp only [f2, f5, f6, f7] at EA EB Ex Ey
  obtain ⟨A', hA', gA⟩ := EA
  obtain rfl := rcC_inj hA'
  obtain ⟨B', hB', gB⟩ := EB
  obtain rfl := rcC_inj hB'
  obtain ⟨x', hx', ox, lx1, lx2⟩ := Ex
  obtain rfl : a119 = x' := by injection hx' with h1 _; injection h1 with h1; injection h1 with h1; injection h1
  obtain ⟨y', hy', oy, ly1, ly2⟩ := Ey
  obtain rfl : b120 = y' := by injection hy' with h1 _; injection h1 with h1; injection h1 with h1; injection h1
  have z110 := c110.size
  have hxy : a119 ≠ b120 := fun he => by omega
  refine setRc A ox (by decide) rfl (by rw [hA]; rfl) fun w121 o121 c121 => setRc B (oy.chg c121 (fun he => hxy he.symm)) (by decide) rfl (by rw [hB]; rfl) fun w122 o122 c122 => ?_
  have p121 := o121.chg c122 (fun he => hxy he)
  have d122 : Chg (fun j => j = a119 ∨ j = b120) w110 w122 := c121.trans c122 (fun _ _ h => Or.inl h) (fun _ _ h => Or.inr h)
  have gA := gA.chg d122 (fun k hk he => by rcases he with he | he <;> omega)
  have gB := gB.chg d122 (fun k hk he => by rcases he with he | he <;> omega)
  have e122 : Chg No w62 w122 := c110.trans d122 (fun _ _ h => h) (fun k hk he => by rcases he with he | he <;> omega)
  have k122 := trN k62 e122
  have z122 := e122.size
  have zd := d122.size
  have o12 := o12.no e122
  have o57 := o57.no e122
  have xM := xM.no e122
  have kb0 : BkY (fun k => k = b60 ∨ w122.heap.size ≤ k) (fun k => k = b60 ∨ w122.heap.size ≤ k) w122 b60 := BkY.empty (o60.no e122) (Or.inl rfl) (Or.inl rfl)
  have lA := p121.lt
  have lB := o122.lt
  have bA : ∀ k, A.steps.blk = some k → w62.heap.size ≤ k ∧ k < w122.heap.size ∧ rA.1 ≤ k ∧ k < rA.2 := fun k hk => by have := gA.stD k hk; omega
  have bB : ∀ k, B.steps.blk = some k → w62.heap.size ≤ k ∧ k < w122.heap.size ∧ rB.1 ≤ k ∧ k < rB.2 := fun k hk => by have := gB.stD k hk; omega
  refine ⟨A.steps, p121.cell rfl, ?_⟩
  refine (kb0.seens (fun k hk => Or.inr hk) (fun k hk => Or.inr hk) gA.steps (by omega) (D' := fun k => (k = b60 ∨ w122.heap.size ≤ k) ∨ A.steps.blk = some k) (fun k hk => Or.inl hk) (fun k hk => ⟨Or.inr hk, fun he => by have := bA k hk; omega⟩)).mono ?_
  rintro e w125 ⟨rfl, kb1, c125⟩
  have z125 := c125.size
  have nP0 : ∀ k, k < w122.heap.size → k ≠ b60 → ¬ (k = b60 ∨ w122.heap.size ≤ k) := fun k h1 h2 he => by omega
  have q120 := o122.chg c125 (nP0 _ lB (by omega))
  refine ⟨rfl, B.steps, q120.cell rfl, ?_⟩
  have gB125 := gB.chg c125 (fun k hk => nP0 k (by omega) (by omega))
  refine (kb1.seens (fun k hk => Or.inl (Or.inr (by omega))) (fun k hk => Or.inr (by omega)) gB125.steps (by omega) (D' := fun k => ((k = b60 ∨ w122.heap.size ≤ k) ∨ A.steps.blk = some k) ∨ B.steps.blk = some k) (fun k hk => Or.inl hk) (fun k hk => ⟨Or.inr hk, fun he => ?_⟩)).mono ?_
  · have := bB k hk
    rcases he with he | he
    · omega
    · have := bA k he; omega
  rintro e w128 ⟨rfl, kb2, c128⟩
  have c128 : Chg (fun k => k = b60 ∨ w122.heap.size ≤ k) w122 w128 := c125.trans c128 (fun _ _ h => h) (fun _ _ h => h)
  have z128 := c128.size
  have k128 : Chg No w w128 := k122.trans c128 (fun _ _ h => h) (fun k hk he => by omega)
  have o12 := o12.chg c128 (nP0 _ (by omega) (by omega))
  have o57 := o57.chg c128 (nP0 _ (by omega) (by omega))
  have p119 := p121.chg c128 (nP0 _ lA (by omega))
  have q120 := o122.chg c128 (nP0 _ lB (by omega))
  have xM := xM.chg c128 (fun k hk => nP0 k (by omega) (by omega))
  have gA := gA.chg c128 (fun k hk => nP0 k (by omega) (by omega))
  have gB := gB.chg c128 (fun k hk => nP0 k (by omega) (by omega))
  refine ⟨rfl, rdSt o12 ((rrecord_any S (h.no k128) ok hi most).mono ?_)⟩
  rintro e w140 ⟨Rr, rfl, gR, c140⟩
  rw [← hr] at gR
  have z140 := c140.size
  refine ⟨_, _, _, _, rfl, varRc Rr fun b145 w147 hb145 z147 o145 c147 => ?_⟩
  have e147 := trN c140 c147
  have k147 := trN k128 e147
  have gA := gA.no e147
  have gB := gB.no e147
  have gR := gR.no c147
  have p119 := p119.no e147
  have q120 := q120.no e147
  have o12 := o12.no e147
  have o57 := o57.no e147
  have xM := xM.no e147
  have l145 := o145.lt
  refine ⟨fun b w' => b = false ∧ Chg No w147 w', ?_, ?_⟩
  rotate_left
  · refine rdRc p119 (rdRc o145 ((same13_any A Rr gA.nums gR.nums gA.steps.rd gR.steps.rd).mono ?_))
    rintro e w157 ⟨rfl, c157⟩
    refine ⟨_, rfl, brN_f (rdRc (q120.no c157) (rdRc (o145.no c157) ((same13_any B Rr gB.nums gR.nums (gB.no c157).steps.rd (gR.no c157).steps.rd).mono ?_)))⟩
    rintro e w168 ⟨rfl, c168⟩
    have d168 := trN c157 c168
    refine ⟨_, rfl, brN_f ⟨S.ip, (o12.no d168).cell rfl, brB_of (fun _ => ⟨S.ip, (o12.no d168).cell rfl, brB_of (fun _ => ?_) (fun _ => ⟨rfl, d168⟩)⟩) (fun _ => ⟨rfl, d168⟩)⟩⟩
    refine rdRc (p119.no d168) ((right_rc (D := fun _ => True) A gA.nums (gA.no d168).steps.rd (fun x hx => by have := hplace x hx; exact in_sm (by omega))).mono ?_)
    rintro e w177 ⟨rfl, c177⟩
    refine ⟨_, rfl, ?_, trN d168 c177⟩
    rw [hr, recV_right ok most]; rfl
  rintro b w179 ⟨rfl, c179⟩
  refine brB_f ?_
  intro w181 hw181
  have c181 := dw hw181
  have e181 := trN c179 c181
  have k181 := trN k147 e181
  have z181 := e181.size
  have z147' := c147.size
  have gA := gA.no e181
  have gB := gB.no e181
  have gR := gR.no e181
  have p119 := p119.no e181
  have q120 := q120.no e181
  have o12 := o12.no e181
  have o57 := o57.no e181
  have o145 := o145.no e181
  have xM := xM.no e181
  refine ⟨fun w' => Chg No w181 w', Chg.refl _ _, hdRc (fun w' c => p119.no c) (hdRc (fun w' c => q120.no c) ?_)⟩
  refine (cells_rc A gA.steps.rd hplace (by omega)).mono ?_
  rintro e w192 ⟨X, rfl, gX, c192, bX⟩
  refine ⟨X, rfl, c192, ?_⟩
  refine (cells_rc B (gB.no c192).steps.rd hplace (by omega)).mono ?_
  rintro e w195 ⟨Y, rfl, gY, c195, bY⟩
  refine ⟨Y, rfl, ?_⟩
  have z192 := c192.size
  have z195 := c195.size
  have lX : ∀ k, X.blk = some k → w181.heap.size ≤ k ∧ k < w192.heap.size := fun k hk => ⟨bX k hk, gX.lt hk⟩
  have lY : ∀ k, Y.blk = some k → w192.heap.size ≤ k ∧ k < w195.heap.size := fun k hk => ⟨bY k hk, gY.lt hk⟩
  have gX := gX.no c195
  have e195 := trN c192 c195
  have k195 := trN k181 e195
  have j195 : Chg No w128 w195 := trN (trN e147 e181) e195
  have kb3 := kb2.reset j195 (fun _ h => h.elim)
  have lpl := plsL_len r.steps
  have lon := onceI_len (plsL r.steps)
  obtain ⟨P2, hP2⟩ : ∃ P2 : Nat → Prop, P2 = fun k => ((k = b60 ∨ w122.heap.size ≤ k) ∧ k < w128.heap.size) ∨ w195.heap.size ≤ k := ⟨_, rfl⟩
  rw [← hP2] at kb3
  have hP2' : ∀ k, P2 k ↔ ((k = b60 ∨ w122.heap.size ≤ k) ∧ k < w128.heap.size) ∨ w195.heap.size ≤ k := fun k => by rw [hP2]
  obtain ⟨D2, hD2⟩ : ∃ D2 : Nat → Prop, D2 = fun k => ((((k = b60 ∨ w122.heap.size ≤ k) ∨ A.steps.blk = some k) ∨ B.steps.blk = some k) ∧ k < w128.heap.size) ∨ w195.heap.size ≤ k := ⟨_, rfl⟩
  rw [← hD2] at kb3
  have hD2' : ∀ k, D2 k → (w59.heap.size ≤ k ∧ k < w128.heap.size) ∨ w195.heap.size ≤ k := fun k hk => by
    rw [hD2] at hk
    rcases hk with ⟨hk, h5⟩ | hk
    · refine Or.inl ⟨?_, h5⟩
      rcases hk with (hk | hk) | hk
      · omega
      · have := bA k hk; omega
      · have := bB k hk; omega
    · exact Or.inr hk
  have hDn : ∀ k, w195.heap.size ≤ k → D2 k := fun k hk => by rw [hD2]; exact Or.inr hk
  refine (kb3.ints (fun k hk => hDn k hk) (fun k hk => (hP2' k).2 (Or.inr hk)) gX.ox (by omega) (D' := fun k => D2 k ∨ X.blk = some k) (fun k hk => Or.inl hk) (fun k hk => ⟨Or.inr hk, fun he => ?_⟩)).mono ?_
  · have := lX k hk
    have := hD2' k he
    omega
  rintro e w198 ⟨rfl, kb4, c198⟩
  have z198 := c198.size
  have gY198 := gY.chg c198 (fun k hk he => by have := lY k hk; have := (hP2' k).1 he; omega)
  refine ⟨rfl, ?_⟩
  refine (kb4.ints (fun k hk => Or.inl (hDn k (by omega))) (fun k hk => (hP2' k).2 (Or.inr (by omega))) gY198.ox (by omega) (D' := fun k => (D2 k ∨ X.blk = some k) ∨ Y.blk = some k) (fun k hk => Or.inl hk) (fun k hk => ⟨Or.inr hk, fun he => ?_⟩)).mono ?_
  · have := lY k hk
    rcases he with he | he
    · have := hD2' k he; omega
    · have := lX k he; omega
  rintro e w200 ⟨rfl, kb5, c200⟩
  have c200 : Chg P2 w195 w200 := c198.trans c200 (fun _ _ h => h) (fun _ _ h => h)
  have z200 := c200.size
  have nP2 : ∀ k, k < w195.heap.size → (k < w59.heap.size ∨ (w62.heap.size ≤ k ∧ k < w122.heap.size) ∨ w128.heap.size ≤ k) → ¬ P2 k := fun k h1 h2 he => by have := (hP2' k).1 he; omega
  have k200 : Chg No w w200 := k195.trans c200 (fun _ _ h => h) (fun k hk => nP2 k (by have := k195.size; omega) (Or.inl (by omega)))
  have o12 := (o12.no e195).chg c200 (nP2 _ (by omega) (Or.inl (by omega)))
  have o57 := (o57.no e195).chg c200 (nP2 _ (by omega) (Or.inl (by omega)))
  have p119 := (p119.no e195).chg c200 (nP2 _ (by omega) (Or.inr (Or.inl (by omega))))
  have o145 := (o145.no e195).chg c200 (nP2 _ (by omega) (Or.inr (Or.inr (by omega))))
  have xM := (xM.no e195).chg c200 (fun k hk => nP2 k (by omega) (Or.inl (by omega)))
  have gA := (gA.no e195).chg c200 (fun k hk => nP2 k (by omega) (Or.inr (Or.inl (by omega))))
  have gR := (gR.no e195).chg c200 (fun k hk => nP2 k (by omega) (Or.inr (Or.inr (by omega))))
  have gX := gX.chg c200 (fun k hk => nP2 k (by have := lX k hk; omega) (Or.inr (Or.inr (by have := lX k hk; omega))))
  have lRr := gR.steps.rd.len
  have lAs := gA.steps.rd.len
  refine ⟨rfl, rdSt o12 (varSt S fun b211 w213 hb211 z213 o211 c213 => ?_)⟩
  have k213 := trN k200 c213
  have z213' := c213.size
  obtain ⟨V, hV⟩ : ∃ V : Nat → Prop, V = fun k => k = b211 ∨ (P2 k ∧ k < w200.heap.size) := ⟨_, rfl⟩
  have hVw : ∀ k, V k → w.heap.size ≤ k ∧ k < w213.heap.size := fun k hk => by
    rw [hV] at hk
    rcases hk with hk | hk
    · have := o211.lt; omega
    · have := (hP2' k).1 hk.1; omega
  refine ⟨fun i w' => ∃ (j : Nat) (T : StC) (t : StV), i = j ∧ j ≤ r.steps.length ∧ Ob w' b211 (stC T) T_api_State ∧ (∀ w2, Chg V w' w2 → StIs (fun _ => True) w2 T t) ∧ stI (r.steps.length - j) t = stI r.steps.length s ∧ MOk t ∧ SIn t ∧ Chg No w200 w' ∧ w213.heap.size ≤ w'.heap.size, fun i _ => r.steps.length - i.toNat, ⟨0, S, s, rfl, Nat.zero_le _, o211, fun w2 c2 => h.no (k213.trans c2 (fun _ _ h => h) (fun k hk he => by have := hVw k he; omega)), rfl, ok, hi, c213, Nat.le_refl _⟩, ?_⟩
  rintro i w214 ⟨j, T, t, rfl, hj, oT, rT, hrun, hok, hin, d214, z214⟩
  have q145 := o145.no d214
  refine ⟨Rr.steps, q145.cell rfl, brB_of (fun hlt => ?_) (fun hge => ?_)⟩
  · have hlt : j < r.steps.length := by have := of_decide_eq_true hlt; omega
    have hd : Hd (fun _ => True) V w214 T t := ⟨rT, fun k hk => by have := hVw k hk; omega⟩
    refine rdSt oT ((rstep_any T hd hok hin.st).mono ?_)
    rintro e w228 ⟨v, rfl, T', rfl, rT', c228⟩
    have z228 := c228.size
    refine ⟨_, _, _, _, _, _, _, _, _, _, rfl, setSt T' (oT.no c228) (by decide) rfl rfl fun w239 o239 c239 => ?_⟩
    have z239 := c239.size
    have Vb : V b211 := by rw [hV]; exact Or.inl rfl
    rw [wr_in (by omega)]
    refine ⟨⟨j + 1, T', stepA t, by omega, by omega, o239, fun w2 c2 => (rT' w2 (c239.trans c2 (fun k _ he => by rw [he]; exact Vb) (fun _ _ h => h))).wid (fun _ _ => trivial), ?_, ?_, ?_, (trN d214 c228).trans c239 (fun _ _ h => h) (fun k hk he => by omega), by omega⟩, by show r.steps.length - Int.toNat ((j : Int) + 1) < r.steps.length - Int.toNat (j : Int); omega⟩
    · rw [← hrun, show r.steps.length - j = (r.steps.length - (j + 1)) + 1 by omega]; rfl
    · unfold stepA; split
      · exact mok_adv hok
      · exact hok
    · unfold stepA; split
      · exact sin_adv hin hok
      · exact hin
  have hjl : j = r.steps.length := by have := of_decide_eq_false hge; omega
  subst hjl
  rw [Nat.sub_self] at hrun
  have hrun : t = stI r.steps.length s := hrun
  have k214 := trN k200 d214
  have o12 := o12.no d214
  have o57 := o57.no d214
  have p119 := p119.no d214
  have xM := xM.no d214
  have gA := gA.no d214
  have gR := gR.no d214
  have gX := gX.no d214
  have l211 := oT.lt
  have z214' := d214.size
  refine rdSt o57 (rdRc p119 ((after_rc M xM.is ok (hg.no k214) A (by omega)).mono ?_))
  rintro e w255 ⟨Z, rfl, xZ, c255⟩
  have z255 := c255.size
  rw [lAs, runM_stI, ← hrun] at xZ
  refine ⟨_, _, _, _, _, _, _, _, _, _, rfl, varSt Z fun b266 w268 hb266 z268 o266 c268 => rdSt o266 ?_⟩
  have e268 := trN c255 c268
  have z268' := c268.size
  have l266 := o266.lt
  have kb6 := kb5.reset (trN d214 e268) (fun _ h => h.elim)
  obtain ⟨P4, hP4⟩ : ∃ P4 : Nat → Prop, P4 = fun k => (P2 k ∧ k < w200.heap.size) ∨ w268.heap.size ≤ k := ⟨_, rfl⟩
  rw [← hP4] at kb6
  obtain ⟨D4, hD4⟩ : ∃ D4 : Nat → Prop, D4 = fun k => (((D2 k ∨ X.blk = some k) ∨ Y.blk = some k) ∧ k < w200.heap.size) ∨ w268.heap.size ≤ k := ⟨_, rfl⟩
  rw [← hD4] at kb6
  have hP4' : ∀ k, P4 k → (P2 k ∧ k < w200.heap.size) ∨ w268.heap.size ≤ k := fun k hk => by rw [hP4] at hk; exact hk
  have hD4' : ∀ k, D4 k → (w59.heap.size ≤ k ∧ k < w200.heap.size) ∨ w268.heap.size ≤ k := fun k hk => by
    rw [hD4] at hk
    rcases hk with ⟨hk, h5⟩ | hk
    · refine Or.inl ⟨?_, h5⟩
      rcases hk with (hk | hk) | hk
      · have := hD2' k hk; omega
      · have := lX k hk; omega
      · have := lY k hk; omega
    · exact Or.inr hk
  have k268 := trN k214 e268
  refine (kb6.state (fun k hk => by rw [hD4]; exact Or.inr hk) (fun k hk => by rw [hP4]; exact Or.inr hk) (xZ.no c268) (by have := (mok_run ok r.steps.length).st; rw [runM_stI, ← hrun] at this; omega) (by have := (mok_run ok r.steps.length).bk; rw [runM_stI, ← hrun] at this; omega) (by have := (mok_run ok r.steps.length).me; rw [runM_stI, ← hrun] at this; omega) (D' := fun k => D4 k ∨ (w214.heap.size ≤ k ∧ k < w255.heap.size)) (fun k hk => Or.inl hk) (fun k hk => ⟨Or.inr hk, fun he => ?_, fun he => ?_⟩)).mono ?_
  · have := hD4' k he; omega
  · have := hP4' k he; omega
  rintro e w280 ⟨rfl, kb7, c280⟩
  have z280 := c280.size
  have nP4 : ∀ k, k < w268.heap.size → (w200.heap.size ≤ k ∨ (k < w195.heap.size ∧ (k < w59.heap.size ∨ (w62.heap.size ≤ k ∧ k < w122.heap.size) ∨ w128.heap.size ≤ k))) → ¬ P4 k := fun k h1 h2 he => by
    rcases hP4' k he with g | g
    · rcases h2 with h2 | ⟨h2, h3⟩
      · omega
      · exact nP2 k h2 h3 g.1
    · omega
  have k280 : Chg No w w280 := k268.trans c280 (fun _ _ h => h) (fun k hk => nP4 k (by have := k268.size; omega) (Or.inr ⟨by omega, Or.inl (by omega)⟩))
  have o12 := (o12.no e268).chg c280 (nP4 _ (by omega) (Or.inr ⟨by omega, Or.inl (by omega)⟩))
  have o57 := (o57.no e268).chg c280 (nP4 _ (by omega) (Or.inr ⟨by omega, Or.inl (by omega)⟩))
  have q145 := (q145.no e268).chg c280 (nP4 _ (by omega) (Or.inr ⟨by omega, Or.inr (Or.inr (by omega))⟩))
  have oT := (oT.no e268).chg c280 (nP4 _ (by omega) (Or.inl (by omega)))
  have o266 := o266.chg c280 (nP4 _ (by omega) (Or.inl (by omega)))
  have xM := (xM.no e268).chg c280 (fun k hk => nP4 k (by omega) (Or.inr ⟨by omega, Or.inl (by omega)⟩))
  have gR := (gR.no e268).chg c280 (fun k hk => nP4 k (by omega) (Or.inr ⟨by omega, Or.inr (Or.inr (by omega))⟩))
  have gX := (gX.no e268).chg c280 (fun k hk => nP4 k (by have := lX k hk; omega) (Or.inr ⟨by have := lX k hk; omega, Or.inr (Or.inr (by have := lX k hk; omega))⟩))
  have xZ := (xZ.no c268).chg c280 (fun k hk => nP4 k (by omega) (Or.inl (by omega)))
  have rT280 : ∀ w2, Chg No w280 w2 → StIs (fun _ => True) w2 T t := fun w2 c2 => rT w2 ((e268.trans c280 (U := V) (fun _ _ h => h.elim) (fun k hk he => by
    rcases hP4' k he with g | g
    · rw [hV]; exact Or.inr g
    · omega)).trans c2 (fun _ _ h => h) (fun _ _ h => h.elim))
  refine ⟨rfl, rdRc q145 ((rcells_any Rr gR.steps.rd hplace (by omega)).mono ?_)⟩
  rintro e w286 ⟨Q, rfl, gQ, c286, bQ⟩
  have eqn : onceI (plsL r.steps) = inN (plsL r.steps) 3001 := once_in (plsL_in hplace)
  rw [← eqn] at gQ
  refine ⟨Q, rfl, (sameInts_ok X Q _ w286 (gX.no c286).rd gQ.rd).mono ?_⟩
  rintro e w289 ⟨rfl, c289⟩
  have d289 := trN c286 c289
  refine ⟨_, rfl, brB_t (rdSt (o266.no d289) (rdSt (oT.no d289) ((sameState_any Z T (xZ.no d289).is (rT280 _ d289)).mono ?_)))⟩
  rintro e w312 ⟨rfl, c312⟩
  have d312 := trN d289 c312
  refine ⟨_, rfl, brB_t (rdSt (o57.no d312) (rdSt (o12.no d312) ((staysState_any M S (xM.no d312) (h.no (trN k280 d312))).mono ?_)))⟩
  rintro e w335 ⟨rfl, c335⟩
  have d335 := trN d312 c335
  refine ⟨_, rfl, brB_t ((kb7.no d335).apart.mono ?_)⟩
  rintro e w338 ⟨rfl, c338⟩
  refine ⟨_, rfl, rfl, (trN k280 d335).trans c338 (fun _ _ h => h) (fun k hk he => ?_)⟩
  rcases he with he | he
  · have := hD4' k he; omega
  · omega
end Go.Proofs.YtkjpmkopnkkbmaaGreatDoor
