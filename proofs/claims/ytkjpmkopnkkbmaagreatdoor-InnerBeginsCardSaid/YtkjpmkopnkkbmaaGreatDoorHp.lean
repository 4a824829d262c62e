/- The heap, in the words of the lifted texts: which blocks may have changed, what a slice reads as, what a block holds, what a slice owns, append. Over any program. -/
import Derived.Test.YtkjpmkopnkkbmaaGreatDoorLiftH
import Derived.Test.YtkjpmkopnkkbmaaGreatDoorMem
namespace Go.Proofs.YtkjpmkopnkkbmaaGreatDoor
open Go.RowKit

/-! ### Elements and their cells -/
structure Enc (α : Type) where
  t : TypeId
  sz : Nat
  bytes : Nat
  e : α → List Value
  len : ∀ x, (e x).length = sz
  one : ∀ x, ∀ u ∈ e x, u.oneCell' = true
  pos : 0 < sz
variable {α : Type}
def fl (E : Enc α) (xs : List α) : List Value := xs.flatMap E.e
theorem fl_nil (E : Enc α) : fl E [] = [] := rfl
theorem fl_append (E : Enc α) (xs ys : List α) : fl E (xs ++ ys) = fl E xs ++ fl E ys := by simp [fl]
theorem fl_one (E : Enc α) (x : α) : fl E [x] = E.e x := by simp [fl]
theorem fl_cons (E : Enc α) (x : α) (xs : List α) : fl E (x :: xs) = E.e x ++ fl E xs := by simp [fl]
theorem fl_length (E : Enc α) : ∀ xs : List α, (fl E xs).length = xs.length * E.sz
  | [] => by simp [fl]
  | x :: xs => by rw [fl_cons, List.length_append, fl_length E xs, E.len]; simp [Nat.succ_mul, Nat.add_comm]
theorem fl_oneCell (E : Enc α) (xs : List α) : ∀ u ∈ fl E xs, u.oneCell' = true := by
  intro u hu; simp only [fl, List.mem_flatMap] at hu; obtain ⟨x, _, h⟩ := hu; exact E.one x u h
theorem fl_get (E : Enc α) : ∀ (xs : List α) (i j : Nat) (x : α) (u : Value), xs[i]? = some x → (E.e x)[j]? = some u → (fl E xs)[i * E.sz + j]? = some u
  | [], i, j, x, u, h, _ => by simp at h
  | y :: ys, 0, j, x, u, h, hu => by
    have hx : y = x := by simpa using h
    subst hx
    have hj : j < (E.e y).length := (List.getElem?_eq_some_iff.1 hu).1
    rw [fl_cons, Nat.zero_mul, Nat.zero_add, List.getElem?_append_left hj]; exact hu
  | y :: ys, i + 1, j, x, u, h, hu => by
    rw [fl_cons, List.getElem?_append_right (by rw [E.len, Nat.succ_mul]; omega), E.len, show (i + 1) * E.sz + j - E.sz = i * E.sz + j from by rw [Nat.succ_mul]; omega]
    exact fl_get E ys i j x u (by simpa using h) hu
theorem fl_take (E : Enc α) : ∀ (xs : List α) (n : Nat), (fl E xs).take (n * E.sz) = fl E (xs.take n)
  | xs, 0 => by simp [fl]
  | [], n + 1 => by simp [fl]
  | x :: xs, n + 1 => by
    rw [List.take_succ_cons, fl_cons, fl_cons, Nat.succ_mul, Nat.add_comm, List.take_append, E.len]
    rw [List.take_of_length_le (by rw [E.len]; omega), show E.sz + n * E.sz - E.sz = n * E.sz from by omega, fl_take E xs n]
theorem fl_drop (E : Enc α) : ∀ (xs : List α) (n : Nat), (fl E xs).drop (n * E.sz) = fl E (xs.drop n)
  | xs, 0 => by simp
  | [], n + 1 => by simp [fl]
  | x :: xs, n + 1 => by
    rw [List.drop_succ_cons, fl_cons, Nat.succ_mul, Nat.add_comm, List.drop_append, E.len]
    rw [List.drop_of_length_le (by rw [E.len]; omega), show E.sz + n * E.sz - E.sz = n * E.sz from by omega, fl_drop E xs n, List.nil_append]

/-! ### What a slice reads as -/
def Rd (E : Enc α) (w : World) (s : Sl) (xs : List α) : Prop := RdC w s.val xs.length (fl E xs)
def Ow (E : Enc α) (w : World) (s : Sl) (xs : List α) : Prop := Own w E.t E.sz s.val xs.length (fl E xs)
theorem Ow.rd {E : Enc α} {w : World} {s : Sl} {xs : List α} (h : Ow E w s xs) : Rd E w s xs := Own.rd h
def nilS : Sl := ⟨none, 0, 0⟩
theorem Ow.nil (E : Enc α) (w : World) : Ow E w nilS [] := Own.nil w _ _
theorem Rd.nil (E : Enc α) (w : World) : Rd E w nilS [] := RdC.nil w
theorem Rd.len {E : Enc α} {w : World} {s : Sl} {xs : List α} (h : Rd E w s xs) : s.len = xs.length := by obtain ⟨ao, cap, he, _⟩ := h; cases s; simp [Sl.val] at he; exact he.2.1
theorem Rd.capL {E : Enc α} {w : World} {s : Sl} {xs : List α} (h : Rd E w s xs) : xs.length ≤ s.cap ∧ s.cap ≤ 9223372036854775807 := by
  obtain ⟨ao, cap, he, h1, h2, _⟩ := h; cases s; simp [Sl.val] at he; obtain ⟨_, _, rfl⟩ := he; exact ⟨h1, by unfold maxLen at h2; omega⟩
/-- The block in which a slice lies. -/
def Sl.blk (s : Sl) : Option Nat := s.val.ownBlock
theorem Rd.chg {E : Enc α} {S : Nat → Prop} {w w' : World} {s : Sl} {xs : List α} (h : Rd E w s xs) (c : Chg S w w') (hS : ∀ k, s.blk = some k → ¬ S k) : Rd E w' s xs := RdC.chg h c hS
theorem Rd.no {E : Enc α} {w w' : World} {s : Sl} {xs : List α} (h : Rd E w s xs) (c : Chg No w w') : Rd E w' s xs := RdC.chg h c (fun _ _ h => h)
theorem Rd.qt {E : Enc α} {w w' : World} {s : Sl} {xs : List α} (h : Rd E w s xs) (c : Qt w w') : Rd E w' s xs := h.no (Chg.qt c)
theorem Ow.chg {E : Enc α} {S : Nat → Prop} {w w' : World} {s : Sl} {xs : List α} (h : Ow E w s xs) (c : Chg S w w') (hS : ∀ k, s.blk = some k → ¬ S k) : Ow E w' s xs := Own.chg h c hS
theorem Ow.no {E : Enc α} {w w' : World} {s : Sl} {xs : List α} (h : Ow E w s xs) (c : Chg No w w') : Ow E w' s xs := Own.chg h c (fun _ _ h => h)
theorem Ow.qt {E : Enc α} {w w' : World} {s : Sl} {xs : List α} (h : Ow E w s xs) (c : Qt w w') : Ow E w' s xs := h.no (Chg.qt c)
theorem Ow.lt {E : Enc α} {w : World} {s : Sl} {xs : List α} (h : Ow E w s xs) {k : Nat} (hk : s.blk = some k) : k < w.heap.size := Own.lt h hk
theorem Qt.drew (w : World) : Qt w w.drew := ⟨1, rfl⟩

/-- An element's cells. -/
theorem Rd.at {E : Enc α} {w : World} {s : Sl} {xs : List α} (h : Rd E w s xs) {i : Nat} {x : α} (hi : xs[i]? = some x) :
    ∃ a, s.ptr = some a ∧ ∀ j u, (E.e x)[j]? = some u → w.cell? ((a.add (i * E.sz)).add j) = some u := by
  obtain ⟨ao, cap, he, h1, h2, h3, h4⟩ := h
  have hp : s.ptr = ao := by cases s; simp [Sl.val] at he; exact he.1
  have h0 : (E.e x)[0]? = some ((E.e x)[0]'(by rw [E.len]; exact E.pos)) := List.getElem?_eq_getElem _
  obtain ⟨a, ha, _⟩ := h4 _ _ (fl_get E xs i 0 x _ hi h0)
  refine ⟨a, hp.trans ha, fun j u hu => ?_⟩
  obtain ⟨a', ha', hc⟩ := h4 _ _ (fl_get E xs i j x u hi hu)
  rw [ha] at ha'; cases ha'
  rw [add_add]; exact hc
/-- As the lifted texts ask it: an element's address, then something of it. -/
theorem Rd.ix {E : Enc α} {w : World} {s : Sl} {xs : List α} {i : Int} {x : α} (h : Rd E w s xs) (h0 : 0 ≤ i) (hi : xs[i.toNat]? = some x) {G : Addr → Prop}
    (k : ∀ a, s.ptr = some a → (∀ j u, (E.e x)[j]? = some u → w.cell? ((a.add (i.toNat * E.sz)).add j) = some u) → G a) : ∃ a, s.ptr = some a ∧ 0 ≤ i ∧ i < (s.len : Int) ∧ G a := by
  obtain ⟨a, ha, hc⟩ := h.at hi
  have hlt : i.toNat < xs.length := (List.getElem?_eq_some_iff.1 hi).1
  exact ⟨a, ha, h0, by rw [h.len]; omega, k a ha hc⟩

/-! ### Blocks -/
/-- Block b holds these cells, and may be written. -/
def Ob (w : World) (b : Nat) (cs : List Value) (T : TypeId) : Prop := w.heap[b]? = some (.cells cs.toArray T (0, 0))
theorem Ob.lt {w : World} {b : Nat} {cs : List Value} {T : TypeId} (h : Ob w b cs T) : b < w.heap.size := lt_of_block h
theorem Ob.chg {S : Nat → Prop} {w w' : World} {b : Nat} {cs : List Value} {T : TypeId} (h : Ob w b cs T) (c : Chg S w w') (hb : ¬ S b) : Ob w' b cs T := c.row h hb
theorem Ob.no {w w' : World} {b : Nat} {cs : List Value} {T : TypeId} (h : Ob w b cs T) (c : Chg No w w') : Ob w' b cs T := c.row h (fun h => h)
theorem Ob.qt {w w' : World} {b : Nat} {cs : List Value} {T : TypeId} (h : Ob w b cs T) (c : Qt w w') : Ob w' b cs T := h.no (Chg.qt c)
theorem Ob.cell {w : World} {b : Nat} {cs : List Value} {T : TypeId} (h : Ob w b cs T) {k : Nat} {v : Value} (hk : cs[k]? = some v) : w.cell? ⟨b, k, none⟩ = some v := by
  unfold Ob at h; simp [World.cell?, h, hk]
theorem Ob.held {S : World → Prop} {b : Nat} {cs : List Value} {T : TypeId} (h : ∀ w, S w → Ob w b cs T) {k : Nat} {v : Value} (hk : cs[k]? = some v) : held S ⟨b, k, none⟩ v := fun w hw => (h w hw).cell hk
theorem held_Lw {w : World} {p : Addr} {v : Value} (h : w.cell? p = some v) : held (Lw w) p v := fun w' e => by rw [show w' = w from e]; exact h
theorem add_mk (b o n : Nat) : (⟨b, o, none⟩ : Addr).add n = ⟨b, o + n, none⟩ := by unfold Addr.add; split <;> simp_all
theorem Ob.wr {w : World} {b : Nat} {cs : List Value} {T : TypeId} (h : Ob w b cs T) {k n : Nat} (hk : k + n ≤ cs.length) : wrOk w ⟨b, k, none⟩ n := by
  intro i hi
  unfold Ob at h
  rw [add_mk]
  refine ⟨⟨cs[k + i]'(by omega), by simp [World.cell?, h]⟩, by simp [World.frozen?, h]⟩
/-- A row of cells with some of them written. -/
def wrL (cs : List Value) (k : Nat) : List Value → List Value
  | [] => cs
  | v :: r => wrL (cs.set k v) (k + 1) r
theorem Ob.st {b : Nat} {T : TypeId} : ∀ {vs : List Value} {cs : List Value} {k i : Nat} {w : World}, Ob w b cs T → Ob (stW w ⟨b, k, none⟩ i vs) b (wrL cs (k + i) vs) T
  | [], cs, k, i, w, h => h
  | v :: r, cs, k, i, w, h => by
    have h1 : Ob (w.setCell ((⟨b, k, none⟩ : Addr).add i) v) b (cs.set (k + i) v) T := by
      rw [add_mk]
      have := row_setCell (o := k + i) (u := v) h
      unfold Ob
      rw [this]
      simp
    have := Ob.st (vs := r) (k := k) (i := i + 1) h1
    exact this
theorem Chg.st {S : Nat → Prop} {p : Addr} (hp : S p.block) : ∀ {vs : List Value} {i : Nat} {w : World}, Chg S w (stW w p i vs)
  | [], i, w => Chg.refl _ _
  | v :: r, i, w => (Chg.setCell (S := S) w (p.add i) v (Or.inl (by rw [add_block]; exact hp))).trans (Chg.st hp (i := i + 1)) (fun _ _ h => h) (fun _ _ h => h)
theorem Ob.new (w : World) (cs : List Value) (T : TypeId) : Ob (w.alloc (.cells cs.toArray T)) w.heap.size cs T := heap_alloc_new w _
/-- A literal's slice. -/
theorem Ow.lit {E : Enc α} (w : World) (xs : List α) (cs : List Value) (hc : cs = fl E xs) (hm : xs.length ≤ maxLen) : Ow E (w.alloc (.cells cs.toArray E.t)) ⟨some ⟨w.heap.size, 0, none⟩, xs.length, xs.length⟩ xs := by
  subst hc
  have := Own.lit w E.t E.sz (fl E xs).toArray xs.length hm (by simp [fl_length])
  simpa [Ow, Sl.val] using this

/-! ### Slices of slices -/
theorem sub0_blk (s : Sl) (n sz : Nat) (h : s.cap ≠ 0 ∨ True) : (Sl.sub s.ptr s.cap 0 n sz).blk = s.blk := by
  unfold Sl.sub Sl.blk Sl.val
  split
  · cases s.ptr <;> rfl
  · cases hp : s.ptr with
    | none => simp [Value.ownBlock]
    | some a => simp [Value.ownBlock, add_block]
theorem sub0 (s : Sl) (n sz : Nat) : Sl.sub s.ptr s.cap 0 n sz = ⟨s.ptr, n, s.cap⟩ := by
  unfold Sl.sub
  have : (fun a : Addr => a.add (0 * sz)) = id := by funext a; simp [Addr.add]
  rw [this]
  simp
theorem Rd.take {E : Enc α} {w : World} {s : Sl} {xs : List α} (h : Rd E w s xs) {n : Nat} (hn : n ≤ xs.length) : Rd E w ⟨s.ptr, n, s.cap⟩ (xs.take n) := by
  obtain ⟨ao, cap, he, h1, h2, h3, h4⟩ := h
  have hs : s.ptr = ao ∧ s.len = xs.length ∧ s.cap = cap := by cases s; simpa [Sl.val] using he
  obtain ⟨rfl, hl, rfl⟩ := hs
  have hl2 : (xs.take n).length = n := by rw [List.length_take]; omega
  refine ⟨s.ptr, s.cap, by simp [Sl.val, hl2], by omega, h2, fun h => by have := h3 h; omega, fun j u hu => h4 j u ?_⟩
  rw [← fl_take, List.getElem?_take] at hu
  split at hu
  · exact hu
  · cases hu
theorem Rd.drop {E : Enc α} {w : World} {s : Sl} {xs : List α} (h : Rd E w s xs) {m : Nat} (hm : m ≤ xs.length) : Rd E w (Sl.sub s.ptr s.cap m xs.length E.sz) (xs.drop m) := by
  have hcap := h.capL
  obtain ⟨ao, cap, he, h1, h2, h3, h4⟩ := h
  have hs : s.ptr = ao ∧ s.len = xs.length ∧ s.cap = cap := by cases s; simpa [Sl.val] using he
  obtain ⟨rfl, hl, rfl⟩ := hs
  have hl2 : (xs.drop m).length = xs.length - m := by rw [List.length_drop]
  unfold Sl.sub
  by_cases hc : s.cap = m
  · rw [if_pos hc]
    have hz : xs.length - m = 0 := by omega
    refine ⟨s.ptr, s.cap - m, by simp [Sl.val], by omega, by omega, fun _ => by rw [hl2]; omega, fun j u hu => ?_⟩
    rw [List.eq_nil_of_length_eq_zero (l := xs.drop m) (by omega)] at hu
    simp [fl] at hu
  · rw [if_neg hc]
    refine ⟨s.ptr.map (fun x => x.add (m * E.sz)), s.cap - m, by simp [Sl.val], by omega, by omega, fun hn => ?_, fun j u hu => ?_⟩
    · have := h3 (by cases hp : s.ptr <;> simp_all); omega
    · rw [← fl_drop, List.getElem?_drop] at hu
      obtain ⟨a, ha, hcell⟩ := h4 _ _ hu
      exact ⟨a.add (m * E.sz), by simp [ha], by rw [add_add]; exact hcell⟩
theorem Ow.take {E : Enc α} {w : World} {s : Sl} {xs : List α} (h : Ow E w s xs) {n : Nat} (hn : n ≤ xs.length) : Ow E w ⟨s.ptr, n, s.cap⟩ (xs.take n) := by
  have hl := h.rd.len
  have h' : Own w E.t E.sz (.slice s.ptr xs.length s.cap) xs.length (fl E xs) := by have := h; unfold Ow Sl.val at this; rw [hl] at this; exact this
  have := Own.cut h' hn
  unfold Ow Sl.val
  rw [List.length_take, Nat.min_eq_left hn, ← fl_take]
  exact this

/-! ### append -/
section
variable {P : Program}
/-- What is known of the element's type, for append. -/
structure EncOk (P : Program) (E : Enc α) (T : TypeId) : Prop where
  und : P.underlying T = some (.slice E.t)
  info : ∃ (i : TypeInfo) (z : Value), P.info? E.t = some i ∧ i.zero = some z ∧ i.size = E.sz ∧ i.bytes = E.bytes ∧ z.cells.size = E.sz
theorem EncOk.of {E : Enc α} {T : TypeId} {z : Value} (h1 : P.underlying T = some (.slice E.t)) (h2 : (P.info? E.t).map (fun i => (i.zero, i.size, i.bytes)) = some (some z, E.sz, E.bytes)) (h3 : z.cells.size = E.sz) : EncOk P E T := by
  obtain ⟨i, hi, h4, h5, h6⟩ := info_parts h2
  exact ⟨h1, i, z, hi, h4, h5, h6, h3⟩
theorem app_ok {E : Enc α} {T : TypeId} (ok : EncOk P E T) {w : World} {s t : Sl} {v y : Value} {xs ys : List α} (hv : v = s.val) (hy : y = t.val) (hs : Ow E w s xs) (ht : Rd E w t ys) (hb : (xs.length + ys.length) * E.bytes ≤ 140737488355328) (hb2 : xs.length + ys.length ≤ maxLen)
    {G : Sl → World → Prop} (k : ∀ (s' : Sl) (w' : World), Ow E w' s' (xs ++ ys) → Chg (fun k => s.blk = some k) w w' → (s'.blk = s.blk ∨ s'.blk = some w.heap.size) → G s' w') :
    ∃ s' : Sl, ∃ w' : World, (Builtin.append_ #[T, T] T #[v, y]).run P w = .ok s'.val w' ∧ G s' w' := by
  subst hv hy
  obtain ⟨i, z, hi, hz, h1, h2, h3⟩ := ok.info
  obtain ⟨v', w', hr, ho, hg, hbk⟩ := run_append_sep (P := P) w T T E.t i z E.sz E.bytes ok.und hi hz h1 h2 h3 E.pos s.val xs.length (fl E xs) hs t.val ys.length (fl E ys) ht (fl_length E ys) (fl_oneCell E ys) hb2 hb
  obtain ⟨ao, cap, rfl⟩ := Own.form ho
  refine ⟨⟨ao, xs.length + ys.length, cap⟩, w', hr, k _ _ ?_ (Chg.grown hg (fun k hk => hk)) hbk⟩
  unfold Ow
  rw [List.length_append, fl_append]
  exact ho
end
end Go.Proofs.YtkjpmkopnkkbmaaGreatDoor
