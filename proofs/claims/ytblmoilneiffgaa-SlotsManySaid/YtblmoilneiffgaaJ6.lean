/- The book of lists over any kind; lists that are lent. -/
import Derived.Test.YtblmoilneiffgaaJ2
import Derived.Test.YtblmoilneiffgaaJ4
import Derived.Test.YtblmoilneiffgaaJA

/- The book of lists (hollowaybook), one kind of lists at a time and over any kind: marks, still, marked. -/
set_option maxRecDepth 100000
namespace Go.Proofs.Ytblmoilneiffgaa
open Go.RowKit

variable {α : Type} {P : Program}
/-- A slice as an element of a list. -/
def slE (t : TypeId) : Enc Sl := ⟨t, 1, 24, fun s => [s.val], by intro x; rfl, by intro x u hu; simp at hu; subst hu; rw [val_eq]; rfl, by decide⟩
/-- Marks from number f on, m of them. -/
def marks (mk : Int → α) (f m : Nat) : List α := (List.range m).map fun j => mk (((f + j : Nat) : Int))
end Go.Proofs.Ytblmoilneiffgaa

/- The book of lists: each list is marked (putX), over any kind. -/
set_option maxRecDepth 100000
namespace Go.Proofs.Ytblmoilneiffgaa
open Go.RowKit

variable {α : Type} {P : Program}
/-- The blocks of these lists. -/
def blksOf (ls : List Sl) : Nat → Prop := fun k => ∃ (i : Nat) (s : Sl), ls[i]? = some s ∧ s.blk = some k
end Go.Proofs.Ytblmoilneiffgaa

/- The book of lists: each list is grown (growX), over any kind. -/
set_option maxRecDepth 100000
namespace Go.Proofs.Ytblmoilneiffgaa
open Go.RowKit

variable {α : Type} {P : Program}
end Go.Proofs.Ytblmoilneiffgaa

/- The book of lists over any kind: lists as put in, marked, grown; one more list. -/
set_option maxRecDepth 100000
namespace Go.Proofs.Ytblmoilneiffgaa
open Go.RowKit

section
variable {α : Type}
/-- A kind's lists in the book b (at cells o, o + 1), as they were put in. -/
structure KB (E : Enc α) (T : TypeId) (w : World) (b o : Nat) (A Bs : Sl) (ls was : List Sl) (xss : List (List α)) : Prop where
  cA : w.cell? ⟨b, o, none⟩ = some A.val
  cB : w.cell? ⟨b, o + 1, none⟩ = some Bs.val
  rA : Rd (slE T) w A ls
  rB : Rd (slE T) w Bs was
  len : ls.length = xss.length
  lenB : was.length = xss.length
  few : ls.length ≤ 100000
  ox : ∀ (i : Nat) (s : Sl) (xs : List α), ls[i]? = some s → xss[i]? = some xs → Ox E w s xs ∧ xs.length ≤ 10000000
  rd : ∀ (i : Nat) (s : Sl) (xs : List α), was[i]? = some s → xss[i]? = some xs → Rd E w s xs
  dis : ∀ (i j : Nat) (s t : Sl) (k : Nat), ls[i]? = some s → ls[j]? = some t → s.blk = some k → t.blk = some k → i = j
  nb : ¬ blksOf ls b
  nA : ∀ k, A.blk = some k → ¬ blksOf ls k
/-- The same lists, marked. -/
structure KM (E : Enc α) (T : TypeId) (mk : Int → Int → α) (w : World) (b o : Nat) (A : Sl) (ls : List Sl) : Prop where
  cA : w.cell? ⟨b, o, none⟩ = some A.val
  rA : Rd (slE T) w A ls
  few : ls.length ≤ 100000
  ox : ∀ (i : Nat) (s : Sl), ls[i]? = some s → Ox E w s (marks (mk i) 0 s.len) ∧ s.len ≤ 10000000
  dis : ∀ (i j : Nat) (s t : Sl) (k : Nat), ls[i]? = some s → ls[j]? = some t → s.blk = some k → t.blk = some k → i = j
  nb : ¬ blksOf ls b
  nA : ∀ k, A.blk = some k → ¬ blksOf ls k
variable {w : World} {b : Nat} {A Bs : Sl} {ls was : List Sl}
theorem KB.marked {E : Enc α} {T : TypeId} {mk : Int → Int → α} {o : Nat} {xss : List (List α)} (h : KB E T w b o A Bs ls was xss) {w' : World} (c : Chg (blksOf ls) w w') (hm : ∀ (i : Nat) (s : Sl), ls[i]? = some s → Ox E w' s (marks (mk i) 0 s.len)) : KM E T mk w' b o A ls := by
  refine ⟨c.cell h.cA h.nb, h.rA.chg c h.nA, h.few, fun i s hs => ⟨hm i s hs, ?_⟩, h.dis, h.nb, h.nA⟩
  obtain ⟨xs, hxs⟩ : ∃ xs, xss[i]? = some xs := ⟨_, List.getElem?_eq_getElem (by have := (List.getElem?_eq_some_iff.1 hs).1; have := h.len; omega)⟩
  obtain ⟨h1, h2⟩ := h.ox i s xs hs hxs
  rw [h1.rd.len]; exact h2
/-- Grown forms of the lists: marked all through. -/
def Grown' (E : Enc α) (T : TypeId) (mk : Int → Int → α) (w : World) (out : Sl) (n : Nat) : Prop := ∃ outs : List Sl, Rd (slE T) w out outs ∧ outs.length = n ∧ ∀ (i : Nat) (t : Sl), outs[i]? = some t → t.len ≤ 20000000 ∧ Rd E w t (marks (mk i) 0 t.len)
end
section
variable {α : Type} {w w' : World} {b o : Nat} {A Bs : Sl} {ls was : List Sl}
theorem KB.no {E : Enc α} {T : TypeId} {xss : List (List α)} (h : KB E T w b o A Bs ls was xss) (c : Chg No w w') : KB E T w' b o A Bs ls was xss :=
  ⟨c.cell h.cA (fun h => h), c.cell h.cB (fun h => h), h.rA.no c, h.rB.no c, h.len, h.lenB, h.few, fun i s xs hs hx => ⟨(h.ox i s xs hs hx).1.no c, (h.ox i s xs hs hx).2⟩, fun i s xs hs hx => (h.rd i s xs hs hx).no c, h.dis, h.nb, h.nA⟩
theorem Grown'.no {E : Enc α} {T : TypeId} {mk : Int → Int → α} {out : Sl} {n : Nat} (h : Grown' E T mk w out n) (c : Chg No w w') : Grown' E T mk w' out n := by
  obtain ⟨outs, h1, h2, h3⟩ := h
  exact ⟨outs, h1.no c, h2, fun i t ht => ⟨(h3 i t ht).1, (h3 i t ht).2.no c⟩⟩
end
section
variable {α : Type} {P : Program}
/-- A kind's lists in the book, all in blocks of D, each where no other of them lies. -/
structure KO (D : Nat → Prop) (E : Enc α) (T : TypeId) (w : World) (b : Nat) (A Bs : Sl) (ls was : List Sl) (xss : List (List α)) : Prop where
  oA : Ow (slE T) w A ls
  oB : Ow (slE T) w Bs was
  len : ls.length = xss.length
  lenB : was.length = xss.length
  ox : ∀ (i : Nat) (s : Sl) (xs : List α), ls[i]? = some s → xss[i]? = some xs → Ox E w s xs ∧ xs.length ≤ 10000000
  rd : ∀ (i : Nat) (s : Sl) (xs : List α), was[i]? = some s → xss[i]? = some xs → Rd E w s xs
  dis : ∀ (i j : Nat) (s t : Sl) (k : Nat), ls[i]? = some s → ls[j]? = some t → s.blk = some k → t.blk = some k → i = j
  dA : ∀ k, A.blk = some k → D k ∧ k ≠ b ∧ Bs.blk ≠ some k ∧ ¬ blksOf ls k ∧ ¬ blksOf was k
  dB : ∀ k, Bs.blk = some k → D k ∧ k ≠ b ∧ ¬ blksOf ls k ∧ ¬ blksOf was k
  dl : ∀ k, blksOf ls k → D k ∧ k ≠ b ∧ k < w.heap.size
  dw : ∀ k, blksOf was k → D k ∧ k ≠ b ∧ k < w.heap.size ∧ ¬ blksOf ls k
end
section
theorem KO.wid {α : Type} {D D' : Nat → Prop} {E : Enc α} {T : TypeId} {w : World} {b : Nat} {A Bs : Sl} {ls was : List Sl} {xss : List (List α)} (h : KO D E T w b A Bs ls was xss) (hd : ∀ k, D k → D' k) : KO D' E T w b A Bs ls was xss :=
  ⟨h.oA, h.oB, h.len, h.lenB, h.ox, h.rd, h.dis, fun k e => ⟨hd _ (h.dA k e).1, (h.dA k e).2⟩, fun k e => ⟨hd _ (h.dB k e).1, (h.dB k e).2⟩, fun k e => ⟨hd _ (h.dl k e).1, (h.dl k e).2⟩, fun k e => ⟨hd _ (h.dw k e).1, (h.dw k e).2⟩⟩
end
end Go.Proofs.Ytblmoilneiffgaa

/- The book's kind numbers. -/
set_option maxRecDepth 100000
namespace Go.Proofs.Ytblmoilneiffgaa
open Go.RowKit

section
theorem add0 (q : Addr) : q.add 0 = q := by unfold Addr.add; simp
end
section
variable {α : Type}
variable {w : World} {b : Nat} {A Bs : Sl} {ls was : List Sl}
end
section
end
end Go.Proofs.Ytblmoilneiffgaa

/- hollowaybook.LentInts, StaysInts: lists with room behind them, in which a mark stands. -/
set_option maxRecDepth 100000
namespace Go.Proofs.Ytblmoilneiffgaa
open Go.RowKit

/-- s reads as these, and behind them stands the mark, in a block of its own. -/
def Lent (w : World) (s : Sl) (xs : List Int) : Prop := s.len = xs.length ∧ Ow intE w ⟨s.ptr, xs.length + 1, s.cap⟩ (xs ++ [-77])
theorem Lent.rd {w : World} {s : Sl} {xs : List Int} (h : Lent w s xs) : Rd intE w s xs := by
  have ht := (h.2.take (n := xs.length) (by simp)).rd
  rw [List.take_left] at ht
  have : s = ⟨s.ptr, xs.length, s.cap⟩ := by rw [← h.1]
  rw [this]; exact ht
theorem Lent.chg {S : Nat → Prop} {w w' : World} {s : Sl} {xs : List Int} (h : Lent w s xs) (c : Chg S w w') (hS : ∀ k, s.blk = some k → ¬ S k) : Lent w' s xs := by
  refine ⟨h.1, h.2.chg c (fun k hk => hS k ?_)⟩
  rw [← hk]; unfold Sl.blk Sl.val; cases s.ptr <;> rfl
theorem Lent.no {w w' : World} {s : Sl} {xs : List Int} (h : Lent w s xs) (c : Chg No w w') : Lent w' s xs := h.chg c (fun _ _ h => h)
end Go.Proofs.Ytblmoilneiffgaa
