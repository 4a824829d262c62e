/- An empty book; sets of blocks narrowed. -/
import Derived.Test.YtijoigpggphajaaBookR
set_option maxRecDepth 100000
namespace Go.Proofs.Ytijoigpggphajaa
open Go.RowKit

theorem noBlks (k : Nat) : ¬ blksOf [] k := by rintro ⟨i, s, hs, _⟩; simp at hs
theorem KO.empty {α : Type} (D : Nat → Prop) (E : Enc α) (T : TypeId) (w : World) (b : Nat) : KO D E T w b nilS nilS [] [] [] :=
  ⟨Ow.nil _ _, Ow.nil _ _, rfl, rfl, (fun i s xs hs => by simp at hs), (fun i s xs hs => by simp at hs), (fun i j s t k hs => by simp at hs), (fun k hk => by cases hk), (fun k hk => by cases hk), fun k hk => absurd hk (noBlks k), fun k hk => absurd hk (noBlks k)⟩
theorem BkW.empty {D : Nat → Prop} {w : World} {b : Nat} (h : Ob w b (bookW nilS nilS) T_hollowaybook_Book) (hb : D b) : BkW D w b := ⟨nilS, nilS, [], [], [], h, KO.empty _ _ _ _ _, hb, Nat.zero_le _⟩
theorem BkI.empty {D : Nat → Prop} {w : World} {b : Nat} (h : Ob w b (bookI nilS nilS) T_hollowaybook_Book) (hb : D b) : BkI D w b := ⟨nilS, nilS, [], [], [], h, KO.empty _ _ _ _ _, hb, Nat.zero_le _⟩
theorem KO.nar {α : Type} {D : Nat → Prop} {E : Enc α} {T : TypeId} {w : World} {b : Nat} {A Bs : Sl} {ls was : List Sl} {xss : List (List α)} (h : KO D E T w b A Bs ls was xss) : KO (fun k => D k ∧ k < w.heap.size) E T w b A Bs ls was xss :=
  ⟨h.oA, h.oB, h.len, h.lenB, h.ox, h.rd, h.dis, fun k e => ⟨⟨(h.dA k e).1, h.oA.lt e⟩, (h.dA k e).2⟩, fun k e => ⟨⟨(h.dB k e).1, h.oB.lt e⟩, (h.dB k e).2⟩, fun k e => ⟨⟨(h.dl k e).1, (h.dl k e).2.2⟩, (h.dl k e).2⟩, fun k e => ⟨⟨(h.dw k e).1, (h.dw k e).2.2.1⟩, (h.dw k e).2⟩⟩
theorem KO.wid {α : Type} {D D' : Nat → Prop} {E : Enc α} {T : TypeId} {w : World} {b : Nat} {A Bs : Sl} {ls was : List Sl} {xss : List (List α)} (h : KO D E T w b A Bs ls was xss) (hd : ∀ k, D k → D' k) : KO D' E T w b A Bs ls was xss :=
  ⟨h.oA, h.oB, h.len, h.lenB, h.ox, h.rd, h.dis, fun k e => ⟨hd _ (h.dA k e).1, (h.dA k e).2⟩, fun k e => ⟨hd _ (h.dB k e).1, (h.dB k e).2⟩, fun k e => ⟨hd _ (h.dl k e).1, (h.dl k e).2⟩, fun k e => ⟨hd _ (h.dw k e).1, (h.dw k e).2⟩⟩
theorem BkW.nar {D : Nat → Prop} {w : World} {b : Nat} (h : BkW D w b) : BkW (fun k => D k ∧ k < w.heap.size) w b := by
  obtain ⟨A, Bs, ls, was, xss, h1, h2, h3, h4⟩ := h
  exact ⟨A, Bs, ls, was, xss, h1, h2.nar, ⟨h3, h1.lt⟩, h4⟩
theorem BkW.wid {D D' : Nat → Prop} {w : World} {b : Nat} (h : BkW D w b) (hd : ∀ k, D k → D' k) : BkW D' w b := by
  obtain ⟨A, Bs, ls, was, xss, h1, h2, h3, h4⟩ := h
  exact ⟨A, Bs, ls, was, xss, h1, h2.wid hd, hd _ h3, h4⟩
theorem BkI.nar {D : Nat → Prop} {w : World} {b : Nat} (h : BkI D w b) : BkI (fun k => D k ∧ k < w.heap.size) w b := by
  obtain ⟨A, Bs, ls, was, xss, h1, h2, h3, h4⟩ := h
  exact ⟨A, Bs, ls, was, xss, h1, h2.nar, ⟨h3, h1.lt⟩, h4⟩
theorem BkI.wid {D D' : Nat → Prop} {w : World} {b : Nat} (h : BkI D w b) (hd : ∀ k, D k → D' k) : BkI D' w b := by
  obtain ⟨A, Bs, ls, was, xss, h1, h2, h3, h4⟩ := h
  exact ⟨A, Bs, ls, was, xss, h1, h2.wid hd, hd _ h3, h4⟩
end Go.Proofs.Ytijoigpggphajaa
