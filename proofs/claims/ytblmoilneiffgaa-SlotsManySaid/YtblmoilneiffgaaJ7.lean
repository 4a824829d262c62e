/- The document's own answers (hollowayref1, hollowayref15). -/
import Derived.Test.YtblmoilneiffgaaJ3
import Derived.Test.YtblmoilneiffgaaJ5
import Derived.Test.YtblmoilneiffgaaJ4
import Derived.Test.YtblmoilneiffgaaJ9

/- The document's own answer to cells and digits (hollowayref1), over the lifted text. -/
set_option maxRecDepth 100000
namespace Go.Proofs.Ytblmoilneiffgaa
open Go.RowKit

end Go.Proofs.Ytblmoilneiffgaa

/- The document's own answer to traces (hollowayref15): what is named, which traces may be. -/
set_option maxRecDepth 100000
namespace Go.Proofs.Ytblmoilneiffgaa
open Go.RowKit

/-- A literal of one number, of two. -/
theorem lit1 {w w' : World} {b : Nat} (x : Int) (hb : b = w.heap.size) (hw : w' = World.alloc w (.cells #[.int .i64 x] T_int)) : Ow intE w' ⟨some ⟨b, 0, none⟩, 1, 1⟩ [x] ∧ Chg No w w' := by
  rw [hw, hb]
  exact ⟨Ow.lit (E := intE) w [x] [.int .i64 x] rfl (by show 1 ≤ maxLen; unfold maxLen; omega), Chg.alloc _ _ _⟩
theorem lit2 {w w' : World} {b : Nat} (x y : Int) (hb : b = w.heap.size) (hw : w' = World.alloc w (.cells #[.int .i64 x, .int .i64 y] T_int)) : Ow intE w' ⟨some ⟨b, 0, none⟩, 2, 2⟩ [x, y] ∧ Chg No w w' := by
  rw [hw, hb]
  exact ⟨Ow.lit (E := intE) w [x, y] [.int .i64 x, .int .i64 y] rfl (by show 2 ≤ maxLen; unfold maxLen; omega), Chg.alloc _ _ _⟩
/-- A list that is new. -/
def NewI (w w' : World) (r : Value) (xs : List Int) : Prop := ∃ s : Sl, r = s.val ∧ Ow intE w' s xs ∧ Chg No w w' ∧ ∀ k, s.blk = some k → w.heap.size ≤ k
theorem NewI.one {w0 w w' : World} {b : Nat} {x : Int} (c : Chg No w0 w) (hb : b = w.heap.size) (hw : w' = World.alloc w (.cells #[.int .i64 x] T_int)) : NewI w0 w' (.slice (some ⟨b, 0, none⟩) 1 1) [x] := by
  obtain ⟨h1, h2⟩ := lit1 x hb hw
  have := c.size
  exact ⟨⟨some ⟨b, 0, none⟩, 1, 1⟩, rfl, h1, trN c h2, fun k hk => by have : b = k := Option.some.inj hk; omega⟩
theorem NewI.two {w0 w w' : World} {b : Nat} {x y : Int} (c : Chg No w0 w) (hb : b = w.heap.size) (hw : w' = World.alloc w (.cells #[.int .i64 x, .int .i64 y] T_int)) : NewI w0 w' (.slice (some ⟨b, 0, none⟩) 2 2) [x, y] := by
  obtain ⟨h1, h2⟩ := lit2 x y hb hw
  have := c.size
  exact ⟨⟨some ⟨b, 0, none⟩, 2, 2⟩, rfl, h1, trN c h2, fun k hk => by have : b = k := Option.some.inj hk; omega⟩
theorem NewI.nil {w w' : World} (c : Chg No w w') : NewI w w' (.slice none 0 0) [] := ⟨nilS, rfl, Ow.nil _ _, c, fun k hk => by cases hk⟩
theorem insAt_ix {t : TrG} {p : Int} (h0 : 0 ≤ p) (h1 : p < t.ins.length) : t.ins[p.toNat]? = some (insAt t p) := by
  unfold insAt; rw [List.getD_eq_getElem?_getD, List.getElem?_eq_getElem (by omega)]; rfl
theorem outAt_ix {t : TrG} {p : Int} (h0 : 0 ≤ p) (h1 : p < t.outs.length) : t.outs[p.toNat]? = some (outAt t p) := by
  unfold outAt; rw [List.getD_eq_getElem?_getD, List.getElem?_eq_getElem (by omega)]; rfl
end Go.Proofs.Ytblmoilneiffgaa

/- The document's own answer to traces (hollowayref15): which traces may be. -/
set_option maxRecDepth 100000
namespace Go.Proofs.Ytblmoilneiffgaa
open Go.RowKit

/-- An instruction may be, its exits aside. -/
def EachA (t : TrG) (k : Nat) (i : In5) : Prop :=
  (1 ≤ i.a ∧ i.a ≤ 12) ∧ (i.a = 4 → Cn.risTwo i.b = true ∨ Cn.risOne i.b = true) ∧ (i.a = 2 → 0 ≤ i.b ∧ i.b ≤ t.slots - 1) ∧ (i.a = 3 → 0 ≤ i.b ∧ i.b ≤ t.backs - 1) ∧ NamedV t (usesV i) k
theorem eachV_iff {t : TrG} {k : Nat} {i : In5} : EachV t k i ↔ EachA t k i ∧ ∀ x ∈ outsV i, OutV t x k :=
  ⟨fun ⟨a, b, c, d, e, f⟩ => ⟨⟨a, b, c, d, e⟩, f⟩, fun ⟨⟨a, b, c, d, e⟩, f⟩ => ⟨a, b, c, d, e, f⟩⟩
end Go.Proofs.Ytblmoilneiffgaa

/- The document's own answer to traces (hollowayref15): an exit is taken. -/
set_option maxRecDepth 100000
namespace Go.Proofs.Ytblmoilneiffgaa
open Go.RowKit

end Go.Proofs.Ytblmoilneiffgaa
