/- States held in blocks: made, read, written. -/
import Derived.Test.YtkjpmkopnkkbmaaGreatDoorMaR
import Derived.Test.YtkjpmkopnkkbmaaGreatDoorMaW
import Derived.Test.YtkjpmkopnkkbmaaGreatDoorLwS
set_option maxRecDepth 100000
namespace Go.Proofs.YtkjpmkopnkkbmaaGreatDoor
open Go.RowKit

theorem inSt {w : World} (S : StC) {G : Nat → World → Prop} (k : ∀ b w', b = w.heap.size → w'.heap.size = w.heap.size + 1 → Ob w' b (stC S) T_api_State → Chg No w w' → G b w') : ∀ (b : Nat) (w' : World), b = w.heap.size → w' = World.alloc w (.cells (stC S).toArray T_api_State) → G b w' := fun b w' hb hw =>
  k b w' hb (by rw [hw]; simp) (by rw [hw, hb]; exact Ob.new w (stC S) T_api_State) (al hw)
/-- A variable that is given a state. -/
theorem varSt {w : World} (S : StC) {G : Nat → World → Prop} (k : ∀ b w', b = w.heap.size → w.heap.size + 1 ≤ w'.heap.size → Ob w' b (stC S) T_api_State → Chg No w w' → G b w') : ∀ (b : Nat) (w1 : World), b = w.heap.size → w1 = World.alloc w (.cells (stC st0).toArray T_api_State) → wrOk w1 ⟨b, 0, none⟩ 10 ∧ ∀ w2 : World, w2 = stW w1 ⟨b, 0, none⟩ 0 (stC S) → G b w2 := fun b w1 hb hw => by
  have hn := fun (w2 : World) => newOb (w2 := w2) (T := T_api_State) (stC st0) (stC S) rfl hb hw
  refine ⟨(hn w1).1, fun w2 hw2 => ?_⟩
  obtain ⟨o, c⟩ := (hn w2).2 hw2
  exact k b w2 hb (by have := o.lt; omega) o c
theorem rdSt {w : World} {b : Nat} {S : StC} {T : TypeId} {G : Int → Int → Sl → Sl → Sl → ByteArray → ByteArray → Int → Int → Int → Prop} (o : Ob w b (stC S) T) (g : G S.ip S.handler S.stack S.back S.mem S.out S.inp S.read S.status S.code) :
    ∃ n1 : Int, ∃ n2 : Int, ∃ s3 : Sl, ∃ s4 : Sl, ∃ s5 : Sl, ∃ t6 : ByteArray, ∃ t7 : ByteArray, ∃ n8 : Int, ∃ n9 : Int, ∃ n10 : Int, w.cell? ⟨b, 0, none⟩ = some (.int .i64 n1) ∧ w.cell? ⟨b, 1, none⟩ = some (.int .i64 n2) ∧ w.cell? ⟨b, 2, none⟩ = some (s3.val) ∧ w.cell? ⟨b, 3, none⟩ = some (s4.val) ∧ w.cell? ⟨b, 4, none⟩ = some (s5.val) ∧ w.cell? ⟨b, 5, none⟩ = some (.string t6) ∧ w.cell? ⟨b, 6, none⟩ = some (.string t7) ∧ w.cell? ⟨b, 7, none⟩ = some (.int .i64 n8) ∧ w.cell? ⟨b, 8, none⟩ = some (.int .i64 n9) ∧ w.cell? ⟨b, 9, none⟩ = some (.int .i64 n10) ∧ G n1 n2 s3 s4 s5 t6 t7 n8 n9 n10 :=
  ⟨_, _, _, _, _, _, _, _, _, _, o.cell rfl, o.cell rfl, o.cell rfl, o.cell rfl, o.cell rfl, o.cell rfl, o.cell rfl, o.cell rfl, o.cell rfl, o.cell rfl, g⟩
/-- Cells of a state written anew. -/
theorem setSt {w : World} {b : Nat} {S : StC} (S' : StC) {k n : Nat} {vs : List Value} {G : World → Prop} (o : Ob w b (stC S) T_api_State) (hl : k + n ≤ 10) (hn : n = vs.length) (hc : wrL (stC S) k vs = stC S') (g : ∀ w', Ob w' b (stC S') T_api_State → Chg (fun j => j = b) w w' → G w') :
    wrOk w ⟨b, k, none⟩ n ∧ ∀ w' : World, w' = stW w ⟨b, k, none⟩ 0 vs → G w' := by
  subst hn
  refine ⟨o.wr (by simpa [stC] using hl), fun w' hw' => ?_⟩
  obtain ⟨o', c'⟩ := o.up (cs' := stC S') (by simpa [stC] using hl) hc hw'
  exact g w' o' c'
/-- A number written into a list. -/
theorem setOx {w : World} {s : Sl} {xs : List Int} (h : Ox intE w s xs) {i v : Int} (h0 : 0 ≤ i) (h1 : i < xs.length) {G : World → Prop} (g : ∀ w', Ox intE w' s (xs.set i.toNat v) → Chg (fun j => s.blk = some j) w w' → G w') :
    ∃ a : Addr, s.ptr = some a ∧ 0 ≤ i ∧ i < (s.len : Int) ∧ wrOk w (Addr.add a (Int.toNat i * 1)) 1 ∧ ∀ w' : World, w' = stW w (Addr.add a (Int.toNat i * 1)) 0 [.int .i64 v] → G w' := by
  have hlen := h.rd.len
  refine h.rd.ix (i := i) h0 (x := getI xs i) (by unfold getI; rw [List.getD_eq_getElem?_getD, List.getElem?_eq_getElem (by omega)]; rfl) fun a ha _ => ?_
  obtain ⟨f1, f2⟩ := h.set ha (k := i.toNat) (by omega) v
  refine ⟨f1, fun w' hw' => ?_⟩
  refine g w' (by rw [hw']; exact f2) ?_
  rw [hw']; exact Chg.st (S := fun j => s.blk = some j) (by rw [add_block]; exact blk_ptr ha)
theorem MOk.of {s : StV} (h : RightS s) (hi : s.inp.size ≤ 1000000) : MOk s := ⟨h.st, h.bk, h.me, h.out, h.rd, hi⟩
theorem LightS.ok {s : StV} (h : LightS s) : MOk s := MOk.of h.right (by have := h.inp; omega)
theorem Gl.no {w w' : World} (h : Gl w) (c : Chg No w w') : Gl w' := h.chg c (fun h => h)
end Go.Proofs.YtkjpmkopnkkbmaaGreatDoor
