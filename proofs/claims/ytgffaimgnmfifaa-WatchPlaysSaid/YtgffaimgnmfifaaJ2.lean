/- The heap, slices, append, in the words of the lifted texts. -/
import Derived.Test.YtgffaimgnmfifaaJ1
import Derived.Laws.AppendOwnNone
import Derived.ArgAppend
import Derived.Lib.AppendZeros
import Derived.Laws.CopyRow

/- Memory, in plain words: which blocks may have changed ('Chg'), what a slice value reads as ('RdC', 'Rd'), a slice that lies at the head of a block of its own ('Own'), and append and make said of these. Over any program. -/
namespace Go.Proofs.Ytgffaimgnmfifaa
open Go.RowKit

/-! ### Which blocks may have changed -/
/-- w' is w with new blocks, and with changes to old blocks of S alone. -/
structure Chg (S : Nat → Prop) (w w' : World) : Prop where
  os : w'.os = w.os
  tape : w'.tape = w.tape
  output : w'.output = w.output
  size : w.heap.size ≤ w'.heap.size
  block : ∀ k, k < w.heap.size → ¬ S k → w'.heap[k]? = w.heap[k]?

def No : Nat → Prop := fun _ => False

theorem Chg.refl (S : Nat → Prop) (w : World) : Chg S w w := ⟨rfl, rfl, rfl, Nat.le_refl _, fun _ _ _ => rfl⟩
theorem Chg.trans {S T U : Nat → Prop} {a b c : World} (h : Chg S a b) (k : Chg T b c) (hS : ∀ x, x < a.heap.size → S x → U x) (hT : ∀ x, x < a.heap.size → T x → U x) : Chg U a c :=
  ⟨k.os.trans h.os, k.tape.trans h.tape, k.output.trans h.output, Nat.le_trans h.size k.size,
    fun x hx hU => (k.block x (Nat.lt_of_lt_of_le hx h.size) (fun t => hU (hT x hx t))).trans (h.block x hx (fun s => hU (hS x hx s)))⟩
theorem Chg.mono {S U : Nat → Prop} {a b : World} (h : Chg S a b) (hS : ∀ x, x < a.heap.size → S x → U x) : Chg U a b :=
  h.trans (Chg.refl S b) hS hS
theorem Chg.qt {S : Nat → Prop} {a b : World} (h : Qt a b) : Chg S a b := by
  obtain ⟨n, rfl⟩ := h; exact ⟨rfl, rfl, rfl, Nat.le_refl _, fun _ _ _ => rfl⟩
theorem Chg.drewN (S : Nat → Prop) (w : World) (n : Nat) : Chg S w (w.drewN n) := ⟨rfl, rfl, rfl, Nat.le_refl _, fun _ _ _ => rfl⟩
theorem Chg.drew (S : Nat → Prop) (w : World) : Chg S w w.drew := ⟨rfl, rfl, rfl, Nat.le_refl _, fun _ _ _ => rfl⟩
theorem Chg.alloc (S : Nat → Prop) (w : World) (o : Obj) : Chg S w (w.alloc o) :=
  ⟨rfl, rfl, rfl, by simp, fun k hk _ => Below.heap_alloc _ _ _ hk⟩
theorem Chg.setCell {S : Nat → Prop} (w : World) (a : Addr) (u : Value) (h : S a.block ∨ w.heap.size ≤ a.block) : Chg S w (w.setCell a u) :=
  ⟨rfl, rfl, rfl, by simp [World.setCell], fun k hk hS => Below.heap_setCell _ _ _ _ (fun e => by subst e; rcases h with h | h; exact hS h; omega)⟩
theorem Chg.grown {S : Nat → Prop} {w w' : World} {row : Option Nat} (h : w.grownBy w' row) (hr : ∀ k, row = some k → S k) : Chg S w w' :=
  ⟨h.os, h.tape, h.output, h.size, fun k hk hS => h.block k hk (fun e => hS (hr k e.symm))⟩
theorem Chg.below {S : Nat → Prop} {w w' : World} {B : Nat} (h : Chg S w w') (hS : ∀ k, k < B → ¬ S k) (hB : B ≤ w.heap.size) : Below B w w' :=
  ⟨h.os, h.tape, h.output, h.size, fun k hk => h.block k (by omega) (hS k hk)⟩
theorem Chg.done {w w' : World} (h : Chg No w w') : Below w.heap.size w w' := h.below (fun _ _ h => h) (Nat.le_refl _)
theorem Chg.of_below {S : Nat → Prop} {w w' : World} {B : Nat} (h : Below B w w') (hS : ∀ k, B ≤ k → k < w.heap.size → S k) : Chg S w w' :=
  ⟨h.os, h.tape, h.output, h.size, fun k hk hn => h.block k (by refine Classical.byContradiction fun hc => hn (hS k (by omega) hk))⟩
theorem Chg.cell {S : Nat → Prop} {w w' : World} (h : Chg S w w') {p : Addr} {v : Value} (hv : w.cell? p = some v) (hp : ¬ S p.block) : w'.cell? p = some v := by
  have hlt : p.block < w.heap.size := by
    unfold World.cell? at hv
    split at hv
    · rename_i hh; exact lt_of_block hh
    · simp at hv
  rw [World.cell?_of_block (w := w) (h.block p.block hlt hp), hv]
theorem Chg.row {S : Nat → Prop} {w w' : World} (h : Chg S w w') {k : Nat} {o : Obj} (hv : w.heap[k]? = some o) (hp : ¬ S k) : w'.heap[k]? = some o :=
  (h.block k (lt_of_block hv) hp).trans hv

/-! ### What a slice value reads as -/
/-- The slice value v has n elements, whose cells are these. -/
def RdC (w : World) (v : Value) (n : Nat) (cells : List Value) : Prop :=
  ∃ ao cap, v = .slice ao n cap ∧ n ≤ cap ∧ cap ≤ maxLen ∧ (ao = none → n = 0 ∧ cap = 0) ∧ ∀ j u, cells[j]? = some u → ∃ a, ao = some a ∧ w.cell? (a.add j) = some u

theorem RdC.nil (w : World) : RdC w (.slice none 0 0) 0 [] := ⟨none, 0, rfl, Nat.le_refl _, Nat.zero_le _, fun _ => ⟨rfl, rfl⟩, fun j u h => by simp at h⟩
theorem RdC.chg {S : Nat → Prop} {w w' : World} {v : Value} {n : Nat} {cells : List Value} (h : RdC w v n cells) (c : Chg S w w') (hS : ∀ k, v.ownBlock = some k → ¬ S k) : RdC w' v n cells := by
  obtain ⟨ao, cap, rfl, h1, h2, h3, h4⟩ := h
  refine ⟨ao, cap, rfl, h1, h2, h3, fun j u hu => ?_⟩
  obtain ⟨a, rfl, hc⟩ := h4 j u hu
  exact ⟨a, rfl, c.cell hc (by have : (a.add j).block = a.block := by unfold Addr.add; split <;> rfl
                               rw [this]; exact hS _ rfl)⟩

/-- A slice that lies at the head of a block of its own (or is nil). -/
def Own (w : World) (e : TypeId) (size : Nat) (v : Value) (n : Nat) (cells : List Value) : Prop := w.ownsRow 0 e size v n cells

/-- Its form. -/
theorem Own.form {w : World} {e size n : Nat} {v : Value} {cells : List Value} (h : Own w e size v n cells) : ∃ ao cap, v = .slice ao n cap := by
  rcases h.2 with ⟨rfl, rfl⟩ | ⟨g, cap, cur, rfl, _⟩
  · exact ⟨_, _, rfl⟩
  · exact ⟨_, _, rfl⟩
theorem Own.nil (w : World) (e size : Nat) : Own w e size (.slice none 0 0) 0 [] := World.ownsRow_nil w 0 e size
theorem Own.lt {w : World} {e size n : Nat} {v : Value} {cells : List Value} (h : Own w e size v n cells) {k : Nat} (hk : v.ownBlock = some k) : k < w.heap.size := (World.ownsRow.lt h k hk).2
theorem Own.rd {w : World} {e size n : Nat} {v : Value} {cells : List Value} (h : Own w e size v n cells) : RdC w v n cells := by
  have hc := fun g => World.ownsRow.cells (g := g) h
  rcases h.2 with ⟨rfl, rfl⟩ | ⟨g, cap, cur, rfl, _, hg, h1, h2, _, _⟩
  · have : cells = [] := List.eq_nil_of_length_eq_zero (by simpa using h.1)
    subst this; exact RdC.nil w
  · exact ⟨some ⟨g, 0, none⟩, cap, rfl, h1, h2, fun h => by simp at h, fun j u hu => ⟨_, rfl, hc g rfl j u hu⟩⟩
theorem Own.chg {S : Nat → Prop} {w w' : World} {e size n : Nat} {v : Value} {cells : List Value} (h : Own w e size v n cells) (c : Chg S w w') (hS : ∀ k, v.ownBlock = some k → ¬ S k) : Own w' e size v n cells := by
  refine ⟨h.1, ?_⟩
  rcases h.2 with h2 | ⟨g, cap, cur, rfl, hb, hg, h1, h2, h3, h4⟩
  · exact Or.inl h2
  · exact Or.inr ⟨g, cap, cur, rfl, hb, c.row hg (hS g rfl), h1, h2, h3, h4⟩
/-- The first m elements of it. -/
theorem Own.cut {w : World} {e size n m : Nat} {ao : Option Addr} {cap : Nat} {cells : List Value} (h : Own w e size (.slice ao n cap) n cells) (hm : m ≤ n) : Own w e size (.slice ao m cap) m (cells.take (m * size)) := by
  have hle : m * size ≤ n * size := Nat.mul_le_mul_right _ hm
  refine ⟨by rw [List.length_take, h.1]; omega, ?_⟩
  rcases h.2 with ⟨h1, h2⟩ | ⟨g, cap', cur, h0, hb, hg, h1, h2, h3, h4⟩
  · cases h1; exact Or.inl ⟨by rw [show m = 0 by omega], by omega⟩
  · cases h0
    exact Or.inr ⟨g, cap, cur, rfl, hb, hg, by omega, h2, h3, by rw [← h4, List.take_take]; congr 1; omega⟩

/-- A literal of its own. -/
theorem Own.lit (w : World) (e size : Nat) (cs : Array Value) (n : Nat) (hm : n ≤ maxLen) (hs : cs.size = n * size) : Own (w.alloc (.cells cs e)) e size (.slice (some ⟨w.heap.size, 0, none⟩) n n) n cs.toList :=
  World.ownsRow_lit w cs n (Nat.zero_le _) hm hs
theorem no_not (S : Prop) (k : Nat) (h : No k) : S := h.elim

/-- A row behind a store into it. -/
theorem row_setCell {w : World} {b o : Nat} {c : Array Value} {e : TypeId} {fr : Nat × Nat} {u : Value} (h : w.heap[b]? = some (.cells c e fr)) : (w.setCell ⟨b, o, none⟩ u).heap[b]? = some (.cells (c.setIfInBounds o u) e fr) := by
  simp [World.setCell, Array.getElem?_modify, h]

theorem own_block (ao : Option Addr) (n c m d : Nat) : (Value.slice ao n c).ownBlock = (Value.slice ao m d).ownBlock := by cases ao <;> rfl
theorem add_add (a : Addr) (m j : Nat) : (a.add m).add j = a.add (m + j) := by
  unfold Addr.add
  by_cases hm : m = 0
  · subst hm; simp
  · by_cases hj : j = 0
    · subst hj; simp [hm]
    · simp [hm, hj]; omega
theorem add_block (a : Addr) (m : Nat) : (a.add m).block = a.block := by unfold Addr.add; split <;> rfl
/-- What is behind the first m elements, as Go reslices it. -/
theorem RdC.tail {w : World} {ao : Option Addr} {n cap m : Nat} {size : Nat} {cells : List Value} (h : RdC w (.slice ao n cap) n cells) (hl : cells.length = n * size) (hm : m ≤ n) :
    (cap = m → RdC w (.slice ao (n - m) 0) (n - m) (cells.drop (m * size))) ∧ (size = 1 → cap ≠ m → RdC w (.slice (ao.map (·.add m)) (n - m) (cap - m)) (n - m) (cells.drop m)) := by
  obtain ⟨ao', cap', he, h1, h2, h3, h4⟩ := h
  cases he
  constructor
  · rintro rfl
    have e : n - cap = 0 := by omega
    refine ⟨ao, 0, rfl, by omega, Nat.zero_le _, fun _ => ⟨e, rfl⟩, fun j u hu => ?_⟩
    have hlen : (cells.drop (cap * size)).length = 0 := by rw [List.length_drop, hl, ← Nat.sub_mul, e]; simp
    rw [List.eq_nil_of_length_eq_zero hlen] at hu
    simp at hu
  · rintro rfl hne
    refine ⟨_, _, rfl, by omega, by omega, fun hn => ?_, fun j u hu => ?_⟩
    · have := h3 (by cases ao <;> simp_all); omega
    · rw [List.getElem?_drop] at hu
      obtain ⟨a, rfl, hc⟩ := h4 _ _ hu
      exact ⟨a.add m, rfl, by rw [add_add]; exact hc⟩

/-! ### append -/
section
variable {P : Program}
/-- append onto a slice of its own: whatever source; where the new slice lies. -/
theorem run_append_sep (w : World) (t ty e : TypeId) (i : TypeInfo) (z : Value) (size bytes : Nat) (ht : P.underlying t = some (.slice e)) (hi : P.info? e = some i) (hz : i.zero = some z)
    (hsize : i.size = size) (hby : i.bytes = bytes) (hzs : z.cells.size = size) (hsz : 0 < size)
    (v : Value) (n : Nat) (xs : List Value) (hown : Own w e size v n xs) (y : Value) (m : Nat) (news : List Value) (hy : RdC w y m news) (hl : news.length = m * size) (h1 : ∀ u ∈ news, u.oneCell' = true)
    (h63 : n + m ≤ maxLen) (hbytes : (n + m) * bytes ≤ 140737488355328) :
    ∃ v' w', (Builtin.append_ #[t, t] ty #[v, y]).run P w = .ok v' w' ∧ Own w' e size v' (n + m) (xs ++ news) ∧ w.grownBy w' v.ownBlock ∧ (v'.ownBlock = v.ownBlock ∨ v'.ownBlock = some w.heap.size) := by
  obtain ⟨ao, c, rfl, hmc, hcm, hnone, hcells⟩ := hy
  rcases ao with _ | a
  · obtain ⟨rfl, rfl⟩ := hnone rfl
    have hn : news = [] := List.eq_nil_of_length_eq_zero (by simpa using hl)
    subst hn
    refine ⟨v, w, run_append_owned_none (P := P) w 0 t ty e i size ht hi v n xs hown, by simpa using hown, World.grownBy.refl w _, Or.inl rfl⟩
  · have hnews : ∀ j u, news[j]? = some u → w.cell? (a.add j) = some u := fun j u hu => by
      obtain ⟨a', ha, hc⟩ := hcells j u hu; cases ha; exact hc
    rcases hown.2 with ⟨rfl, rfl⟩ | ⟨g, cap, cur, rfl, hbg, hg, hnc, hcm', hcs, htake⟩
    · have hx : xs = [] := List.eq_nil_of_length_eq_zero (by simpa using hown.1)
      subst hx
      obtain ⟨v', w', hr, ho, hgr, hnil⟩ := run_append_own (P := P) w w.heap.size t ty e i z size bytes ht hi hz hsize hby hzs hsz (.slice none 0 0) 0 [] (World.ownsRow_nil w _ e size) a m c news hl hnews h1 h63 hbytes (Nat.le_refl _)
      by_cases hm : m = 0
      · subst hm
        have hn : news = [] := List.eq_nil_of_length_eq_zero (by simpa using hl)
        subst hn
        obtain rfl := hnil.2 ⟨rfl, rfl⟩
        exact ⟨_, w', hr, World.ownsRow_nil w' 0 e size, hgr, Or.inl rfl⟩
      · have hm' : 0 < m := by omega
        subst hsize hby
        have hb := hbytes; simp only [Nat.zero_add] at hb
        have h6 := h63; simp only [maxLen] at h6
        have hr2 := run_append_nil (P := P) w t ty e i z ht hi hz a m c news hl hnews hm' (by omega) (by omega)
        rw [hr2] at hr
        injection hr with e1 e2
        subst e1 e2
        refine ⟨_, _, hr2, ?_, hgr, Or.inr rfl⟩
        exact ⟨ho.1, ho.2.imp id fun ⟨g, cap, cur, q1, _, q3⟩ => ⟨g, cap, cur, q1, Nat.zero_le _, q3⟩⟩
    · obtain ⟨v', w', hr, ho, hgr, _⟩ := run_append_own (P := P) w 0 t ty e i z size bytes ht hi hz hsize hby hzs hsz _ n xs hown a m c news hl hnews h1 h63 hbytes (Nat.zero_le _)
      refine ⟨v', w', hr, ho, hgr, ?_⟩
      subst hsize hby
      by_cases hroom : n + m ≤ cap
      · have hfit : n * i.size + news.length ≤ cur.size := by rw [hl, hcs, ← Nat.add_mul]; exact Nat.mul_le_mul_right _ hroom
        have hr2 := run_append_room (P := P) w t ty e i ht hi g n cap cur hg a m c news hl hnews h1 hroom hfit
        rw [hr2] at hr
        injection hr with e1 e2
        subst e1
        exact Or.inl rfl
      · have holds : ∀ j u, xs[j]? = some u → w.cell? ((⟨g, 0, none⟩ : Addr).add j) = some u := World.ownsRow.cells hown (g := g) rfl
        have h6 := h63; simp only [maxLen] at h6
        have hr2 := run_append_grow (P := P) w t ty e i z ht hi hz ⟨g, 0, none⟩ n cap xs hown.1 holds a m c news hl hnews (by omega) (by omega) (growslice_fits (by omega) hbytes)
        rw [hr2] at hr
        injection hr with e1 e2
        subst e1
        exact Or.inr rfl

/-- Guarded, and wanted. -/
theorem wpList_append_want (w : World) {ops : Array Oper} {rest : List Oper} {o : Oper} {a : Act} {Q : Exit → Act → World → Prop} (hgd : Region.wanted o (yielded ops a.tmps) = true) (s x : Operand) (t : TypeId)
    (ho : o.op = .call { callee := .builtin .append, args := #[s, x], argTypes := #[t, t] })
    (e : TypeId) (i : TypeInfo) (z : Value) (size bytes : Nat) (ht : P.underlying t = some (.slice e)) (hi : P.info? e = some i) (hz : i.zero = some z)
    (hsize : i.size = size) (hby : i.bytes = bytes) (hzs : z.cells.size = size) (hsz : 0 < size)
    (v : Value) (n : Nat) (xs : List Value) (hs : a.eval s = v) (hown : Own w e size v n xs) (y : Value) (m : Nat) (news : List Value) (hx : a.eval x = y) (hy : RdC w y m news) (hl : news.length = m * size) (h1 : ∀ u ∈ news, u.oneCell' = true)
    (h63 : n + m ≤ maxLen) (hbytes : (n + m) * bytes ≤ 140737488355328)
    (h : ∀ v' w', Own w' e size v' (n + m) (xs ++ news) → w.grownBy w' v.ownBlock → (v'.ownBlock = v.ownBlock ∨ v'.ownBlock = some w.heap.size) → wpList P ops Q rest (a.put o.dst v') w') : wpList P ops Q (o :: rest) a w := by
  refine wpList_step fun K hK => ?_
  rw [if_pos hgd]
  obtain ⟨v', w', hr, h2, h3, h4⟩ := run_append_sep (P := P) w t o.type e i z size bytes ht hi hz hsize hby hzs hsz v n xs hown y m news hy hl h1 h63 hbytes
  unfold Oper.wp execOp
  simp only [ho, resolve, invoke, builtin, Sem.run_bind, Sem.run_pure, Result.andThen_ok, List.map_toArray, List.map_cons, List.map_nil, hs, hx, hr]
  exact hK _ _ (h v' w' h2 h3 h4)
theorem wpList_append_sep (w : World) {ops : Array Oper} {rest : List Oper} {o : Oper} {a : Act} {Q : Exit → Act → World → Prop} (hgd : o.guard = none) (s x : Operand) (t : TypeId)
    (ho : o.op = .call { callee := .builtin .append, args := #[s, x], argTypes := #[t, t] })
    (e : TypeId) (i : TypeInfo) (z : Value) (size bytes : Nat) (ht : P.underlying t = some (.slice e)) (hi : P.info? e = some i) (hz : i.zero = some z)
    (hsize : i.size = size) (hby : i.bytes = bytes) (hzs : z.cells.size = size) (hsz : 0 < size)
    (v : Value) (n : Nat) (xs : List Value) (hs : a.eval s = v) (hown : Own w e size v n xs) (y : Value) (m : Nat) (news : List Value) (hx : a.eval x = y) (hy : RdC w y m news) (hl : news.length = m * size) (h1 : ∀ u ∈ news, u.oneCell' = true)
    (h63 : n + m ≤ maxLen) (hbytes : (n + m) * bytes ≤ 140737488355328)
    (h : ∀ v' w', Own w' e size v' (n + m) (xs ++ news) → w.grownBy w' v.ownBlock → (v'.ownBlock = v.ownBlock ∨ v'.ownBlock = some w.heap.size) → wpList P ops Q rest (a.put o.dst v') w') : wpList P ops Q (o :: rest) a w :=
  wpList_append_want w (by simp [Region.wanted, hgd]) s x t ho e i z size bytes ht hi hz hsize hby hzs hsz v n xs hs hown y m news hx hy hl h1 h63 hbytes h
end

end Go.Proofs.Ytgffaimgnmfifaa

/- The heap, in the words of the lifted texts: which blocks may have changed, what a slice reads as, what a block holds, what a slice owns, append. Over any program. -/
namespace Go.Proofs.Ytgffaimgnmfifaa
open Go.RowKit

/-! ### Elements and their cells -/
structure Enc (α : Type) where
  t : TypeId
  sz : Nat
  bytes : Nat
  e : α → List Value
  len : ∀ x, (e x).length = sz
  one : ∀ x, ∀ u ∈ e x, u.oneCell' = true
  pos : 0 < sz
variable {α : Type}
def fl (E : Enc α) (xs : List α) : List Value := xs.flatMap E.e
theorem fl_nil (E : Enc α) : fl E [] = [] := rfl
theorem fl_append (E : Enc α) (xs ys : List α) : fl E (xs ++ ys) = fl E xs ++ fl E ys := by simp [fl]
theorem fl_one (E : Enc α) (x : α) : fl E [x] = E.e x := by simp [fl]
theorem fl_cons (E : Enc α) (x : α) (xs : List α) : fl E (x :: xs) = E.e x ++ fl E xs := by simp [fl]
theorem fl_length (E : Enc α) : ∀ xs : List α, (fl E xs).length = xs.length * E.sz
  | [] => by simp [fl]
  | x :: xs => by rw [fl_cons, List.length_append, fl_length E xs, E.len]; simp [Nat.succ_mul, Nat.add_comm]
theorem fl_oneCell (E : Enc α) (xs : List α) : ∀ u ∈ fl E xs, u.oneCell' = true := by
  intro u hu; simp only [fl, List.mem_flatMap] at hu; obtain ⟨x, _, h⟩ := hu; exact E.one x u h
theorem fl_get (E : Enc α) : ∀ (xs : List α) (i j : Nat) (x : α) (u : Value), xs[i]? = some x → (E.e x)[j]? = some u → (fl E xs)[i * E.sz + j]? = some u
  | [], i, j, x, u, h, _ => by simp at h
  | y :: ys, 0, j, x, u, h, hu => by
    have hx : y = x := by simpa using h
    subst hx
    have hj : j < (E.e y).length := (List.getElem?_eq_some_iff.1 hu).1
    rw [fl_cons, Nat.zero_mul, Nat.zero_add, List.getElem?_append_left hj]; exact hu
  | y :: ys, i + 1, j, x, u, h, hu => by
    rw [fl_cons, List.getElem?_append_right (by rw [E.len, Nat.succ_mul]; omega), E.len, show (i + 1) * E.sz + j - E.sz = i * E.sz + j from by rw [Nat.succ_mul]; omega]
    exact fl_get E ys i j x u (by simpa using h) hu
theorem fl_take (E : Enc α) : ∀ (xs : List α) (n : Nat), (fl E xs).take (n * E.sz) = fl E (xs.take n)
  | xs, 0 => by simp [fl]
  | [], n + 1 => by simp [fl]
  | x :: xs, n + 1 => by
    rw [List.take_succ_cons, fl_cons, fl_cons, Nat.succ_mul, Nat.add_comm, List.take_append, E.len]
    rw [List.take_of_length_le (by rw [E.len]; omega), show E.sz + n * E.sz - E.sz = n * E.sz from by omega, fl_take E xs n]
theorem fl_drop (E : Enc α) : ∀ (xs : List α) (n : Nat), (fl E xs).drop (n * E.sz) = fl E (xs.drop n)
  | xs, 0 => by simp
  | [], n + 1 => by simp [fl]
  | x :: xs, n + 1 => by
    rw [List.drop_succ_cons, fl_cons, Nat.succ_mul, Nat.add_comm, List.drop_append, E.len]
    rw [List.drop_of_length_le (by rw [E.len]; omega), show E.sz + n * E.sz - E.sz = n * E.sz from by omega, fl_drop E xs n, List.nil_append]

/-! ### What a slice reads as -/
def Rd (E : Enc α) (w : World) (s : Sl) (xs : List α) : Prop := RdC w s.val xs.length (fl E xs)
def Ow (E : Enc α) (w : World) (s : Sl) (xs : List α) : Prop := Own w E.t E.sz s.val xs.length (fl E xs)
theorem Ow.rd {E : Enc α} {w : World} {s : Sl} {xs : List α} (h : Ow E w s xs) : Rd E w s xs := Own.rd h
def nilS : Sl := ⟨none, 0, 0⟩
theorem Ow.nil (E : Enc α) (w : World) : Ow E w nilS [] := Own.nil w _ _
theorem Rd.nil (E : Enc α) (w : World) : Rd E w nilS [] := RdC.nil w
theorem Rd.len {E : Enc α} {w : World} {s : Sl} {xs : List α} (h : Rd E w s xs) : s.len = xs.length := by obtain ⟨ao, cap, he, _⟩ := h; cases s; simp [Sl.val] at he; exact he.2.1
theorem Rd.capL {E : Enc α} {w : World} {s : Sl} {xs : List α} (h : Rd E w s xs) : xs.length ≤ s.cap ∧ s.cap ≤ 9223372036854775807 := by
  obtain ⟨ao, cap, he, h1, h2, _⟩ := h; cases s; simp [Sl.val] at he; obtain ⟨_, _, rfl⟩ := he; exact ⟨h1, by unfold maxLen at h2; omega⟩
/-- The block in which a slice lies. -/
def Sl.blk (s : Sl) : Option Nat := s.val.ownBlock
theorem Rd.chg {E : Enc α} {S : Nat → Prop} {w w' : World} {s : Sl} {xs : List α} (h : Rd E w s xs) (c : Chg S w w') (hS : ∀ k, s.blk = some k → ¬ S k) : Rd E w' s xs := RdC.chg h c hS
theorem Rd.no {E : Enc α} {w w' : World} {s : Sl} {xs : List α} (h : Rd E w s xs) (c : Chg No w w') : Rd E w' s xs := RdC.chg h c (fun _ _ h => h)
theorem Rd.qt {E : Enc α} {w w' : World} {s : Sl} {xs : List α} (h : Rd E w s xs) (c : Qt w w') : Rd E w' s xs := h.no (Chg.qt c)
theorem Ow.chg {E : Enc α} {S : Nat → Prop} {w w' : World} {s : Sl} {xs : List α} (h : Ow E w s xs) (c : Chg S w w') (hS : ∀ k, s.blk = some k → ¬ S k) : Ow E w' s xs := Own.chg h c hS
theorem Ow.no {E : Enc α} {w w' : World} {s : Sl} {xs : List α} (h : Ow E w s xs) (c : Chg No w w') : Ow E w' s xs := Own.chg h c (fun _ _ h => h)
theorem Ow.qt {E : Enc α} {w w' : World} {s : Sl} {xs : List α} (h : Ow E w s xs) (c : Qt w w') : Ow E w' s xs := h.no (Chg.qt c)
theorem Ow.lt {E : Enc α} {w : World} {s : Sl} {xs : List α} (h : Ow E w s xs) {k : Nat} (hk : s.blk = some k) : k < w.heap.size := Own.lt h hk
theorem Qt.drew (w : World) : Qt w w.drew := ⟨1, rfl⟩

/-- An element's cells. -/
theorem Rd.at {E : Enc α} {w : World} {s : Sl} {xs : List α} (h : Rd E w s xs) {i : Nat} {x : α} (hi : xs[i]? = some x) :
    ∃ a, s.ptr = some a ∧ ∀ j u, (E.e x)[j]? = some u → w.cell? ((a.add (i * E.sz)).add j) = some u := by
  obtain ⟨ao, cap, he, h1, h2, h3, h4⟩ := h
  have hp : s.ptr = ao := by cases s; simp [Sl.val] at he; exact he.1
  have h0 : (E.e x)[0]? = some ((E.e x)[0]'(by rw [E.len]; exact E.pos)) := List.getElem?_eq_getElem _
  obtain ⟨a, ha, _⟩ := h4 _ _ (fl_get E xs i 0 x _ hi h0)
  refine ⟨a, hp.trans ha, fun j u hu => ?_⟩
  obtain ⟨a', ha', hc⟩ := h4 _ _ (fl_get E xs i j x u hi hu)
  rw [ha] at ha'; cases ha'
  rw [add_add]; exact hc
/-- As the lifted texts ask it: an element's address, then something of it. -/
theorem Rd.ix {E : Enc α} {w : World} {s : Sl} {xs : List α} {i : Int} {x : α} (h : Rd E w s xs) (h0 : 0 ≤ i) (hi : xs[i.toNat]? = some x) {G : Addr → Prop}
    (k : ∀ a, s.ptr = some a → (∀ j u, (E.e x)[j]? = some u → w.cell? ((a.add (i.toNat * E.sz)).add j) = some u) → G a) : ∃ a, s.ptr = some a ∧ 0 ≤ i ∧ i < (s.len : Int) ∧ G a := by
  obtain ⟨a, ha, hc⟩ := h.at hi
  have hlt : i.toNat < xs.length := (List.getElem?_eq_some_iff.1 hi).1
  exact ⟨a, ha, h0, by rw [h.len]; omega, k a ha hc⟩

/-! ### Blocks -/
/-- Block b holds these cells, and may be written. -/
def Ob (w : World) (b : Nat) (cs : List Value) (T : TypeId) : Prop := w.heap[b]? = some (.cells cs.toArray T (0, 0))
theorem Ob.lt {w : World} {b : Nat} {cs : List Value} {T : TypeId} (h : Ob w b cs T) : b < w.heap.size := lt_of_block h
theorem Ob.chg {S : Nat → Prop} {w w' : World} {b : Nat} {cs : List Value} {T : TypeId} (h : Ob w b cs T) (c : Chg S w w') (hb : ¬ S b) : Ob w' b cs T := c.row h hb
theorem Ob.no {w w' : World} {b : Nat} {cs : List Value} {T : TypeId} (h : Ob w b cs T) (c : Chg No w w') : Ob w' b cs T := c.row h (fun h => h)
theorem Ob.qt {w w' : World} {b : Nat} {cs : List Value} {T : TypeId} (h : Ob w b cs T) (c : Qt w w') : Ob w' b cs T := h.no (Chg.qt c)
theorem Ob.cell {w : World} {b : Nat} {cs : List Value} {T : TypeId} (h : Ob w b cs T) {k : Nat} {v : Value} (hk : cs[k]? = some v) : w.cell? ⟨b, k, none⟩ = some v := by
  unfold Ob at h; simp [World.cell?, h, hk]
theorem Ob.held {S : World → Prop} {b : Nat} {cs : List Value} {T : TypeId} (h : ∀ w, S w → Ob w b cs T) {k : Nat} {v : Value} (hk : cs[k]? = some v) : held S ⟨b, k, none⟩ v := fun w hw => (h w hw).cell hk
theorem held_Lw {w : World} {p : Addr} {v : Value} (h : w.cell? p = some v) : held (Lw w) p v := fun w' e => by rw [show w' = w from e]; exact h
theorem add_mk (b o n : Nat) : (⟨b, o, none⟩ : Addr).add n = ⟨b, o + n, none⟩ := by unfold Addr.add; split <;> simp_all
theorem Ob.wr {w : World} {b : Nat} {cs : List Value} {T : TypeId} (h : Ob w b cs T) {k n : Nat} (hk : k + n ≤ cs.length) : wrOk w ⟨b, k, none⟩ n := by
  intro i hi
  unfold Ob at h
  rw [add_mk]
  refine ⟨⟨cs[k + i]'(by omega), by simp [World.cell?, h]⟩, by simp [World.frozen?, h]⟩
/-- A row of cells with some of them written. -/
def wrL (cs : List Value) (k : Nat) : List Value → List Value
  | [] => cs
  | v :: r => wrL (cs.set k v) (k + 1) r
theorem Ob.st {b : Nat} {T : TypeId} : ∀ {vs : List Value} {cs : List Value} {k i : Nat} {w : World}, Ob w b cs T → Ob (stW w ⟨b, k, none⟩ i vs) b (wrL cs (k + i) vs) T
  | [], cs, k, i, w, h => h
  | v :: r, cs, k, i, w, h => by
    have h1 : Ob (w.setCell ((⟨b, k, none⟩ : Addr).add i) v) b (cs.set (k + i) v) T := by
      rw [add_mk]
      have := row_setCell (o := k + i) (u := v) h
      unfold Ob
      rw [this]
      simp
    have := Ob.st (vs := r) (k := k) (i := i + 1) h1
    exact this
theorem Chg.st {S : Nat → Prop} {p : Addr} (hp : S p.block) : ∀ {vs : List Value} {i : Nat} {w : World}, Chg S w (stW w p i vs)
  | [], i, w => Chg.refl _ _
  | v :: r, i, w => (Chg.setCell (S := S) w (p.add i) v (Or.inl (by rw [add_block]; exact hp))).trans (Chg.st hp (i := i + 1)) (fun _ _ h => h) (fun _ _ h => h)
theorem Ob.new (w : World) (cs : List Value) (T : TypeId) : Ob (w.alloc (.cells cs.toArray T)) w.heap.size cs T := heap_alloc_new w _
/-- A literal's slice. -/
theorem Ow.lit {E : Enc α} (w : World) (xs : List α) (cs : List Value) (hc : cs = fl E xs) (hm : xs.length ≤ maxLen) : Ow E (w.alloc (.cells cs.toArray E.t)) ⟨some ⟨w.heap.size, 0, none⟩, xs.length, xs.length⟩ xs := by
  subst hc
  have := Own.lit w E.t E.sz (fl E xs).toArray xs.length hm (by simp [fl_length])
  simpa [Ow, Sl.val] using this

/-! ### Slices of slices -/
theorem sub0_blk (s : Sl) (n sz : Nat) (h : s.cap ≠ 0 ∨ True) : (Sl.sub s.ptr s.cap 0 n sz).blk = s.blk := by
  unfold Sl.sub Sl.blk Sl.val
  split
  · cases s.ptr <;> rfl
  · cases hp : s.ptr with
    | none => simp [Value.ownBlock]
    | some a => simp [Value.ownBlock, add_block]
theorem sub0 (s : Sl) (n sz : Nat) : Sl.sub s.ptr s.cap 0 n sz = ⟨s.ptr, n, s.cap⟩ := by
  unfold Sl.sub
  have : (fun a : Addr => a.add (0 * sz)) = id := by funext a; simp [Addr.add]
  rw [this]
  simp
theorem Rd.take {E : Enc α} {w : World} {s : Sl} {xs : List α} (h : Rd E w s xs) {n : Nat} (hn : n ≤ xs.length) : Rd E w ⟨s.ptr, n, s.cap⟩ (xs.take n) := by
  obtain ⟨ao, cap, he, h1, h2, h3, h4⟩ := h
  have hs : s.ptr = ao ∧ s.len = xs.length ∧ s.cap = cap := by cases s; simpa [Sl.val] using he
  obtain ⟨rfl, hl, rfl⟩ := hs
  have hl2 : (xs.take n).length = n := by rw [List.length_take]; omega
  refine ⟨s.ptr, s.cap, by simp [Sl.val, hl2], by omega, h2, fun h => by have := h3 h; omega, fun j u hu => h4 j u ?_⟩
  rw [← fl_take, List.getElem?_take] at hu
  split at hu
  · exact hu
  · cases hu
theorem Rd.drop {E : Enc α} {w : World} {s : Sl} {xs : List α} (h : Rd E w s xs) {m : Nat} (hm : m ≤ xs.length) : Rd E w (Sl.sub s.ptr s.cap m xs.length E.sz) (xs.drop m) := by
  have hcap := h.capL
  obtain ⟨ao, cap, he, h1, h2, h3, h4⟩ := h
  have hs : s.ptr = ao ∧ s.len = xs.length ∧ s.cap = cap := by cases s; simpa [Sl.val] using he
  obtain ⟨rfl, hl, rfl⟩ := hs
  have hl2 : (xs.drop m).length = xs.length - m := by rw [List.length_drop]
  unfold Sl.sub
  by_cases hc : s.cap = m
  · rw [if_pos hc]
    have hz : xs.length - m = 0 := by omega
    refine ⟨s.ptr, s.cap - m, by simp [Sl.val], by omega, by omega, fun _ => by rw [hl2]; omega, fun j u hu => ?_⟩
    rw [List.eq_nil_of_length_eq_zero (l := xs.drop m) (by omega)] at hu
    simp [fl] at hu
  · rw [if_neg hc]
    refine ⟨s.ptr.map (fun x => x.add (m * E.sz)), s.cap - m, by simp [Sl.val], by omega, by omega, fun hn => ?_, fun j u hu => ?_⟩
    · have := h3 (by cases hp : s.ptr <;> simp_all); omega
    · rw [← fl_drop, List.getElem?_drop] at hu
      obtain ⟨a, ha, hcell⟩ := h4 _ _ hu
      exact ⟨a.add (m * E.sz), by simp [ha], by rw [add_add]; exact hcell⟩
theorem Ow.take {E : Enc α} {w : World} {s : Sl} {xs : List α} (h : Ow E w s xs) {n : Nat} (hn : n ≤ xs.length) : Ow E w ⟨s.ptr, n, s.cap⟩ (xs.take n) := by
  have hl := h.rd.len
  have h' : Own w E.t E.sz (.slice s.ptr xs.length s.cap) xs.length (fl E xs) := by have := h; unfold Ow Sl.val at this; rw [hl] at this; exact this
  have := Own.cut h' hn
  unfold Ow Sl.val
  rw [List.length_take, Nat.min_eq_left hn, ← fl_take]
  exact this

/-! ### append -/
section
variable {P : Program}
/-- What is known of the element's type, for append. -/
structure EncOk (P : Program) (E : Enc α) (T : TypeId) : Prop where
  und : P.underlying T = some (.slice E.t)
  info : ∃ (i : TypeInfo) (z : Value), P.info? E.t = some i ∧ i.zero = some z ∧ i.size = E.sz ∧ i.bytes = E.bytes ∧ z.cells.size = E.sz
theorem EncOk.of {E : Enc α} {T : TypeId} {z : Value} (h1 : P.underlying T = some (.slice E.t)) (h2 : (P.info? E.t).map (fun i => (i.zero, i.size, i.bytes)) = some (some z, E.sz, E.bytes)) (h3 : z.cells.size = E.sz) : EncOk P E T := by
  obtain ⟨i, hi, h4, h5, h6⟩ := info_parts h2
  exact ⟨h1, i, z, hi, h4, h5, h6, h3⟩
theorem app_ok {E : Enc α} {T : TypeId} (ok : EncOk P E T) {w : World} {s t : Sl} {v y : Value} {xs ys : List α} (hv : v = s.val) (hy : y = t.val) (hs : Ow E w s xs) (ht : Rd E w t ys) (hb : (xs.length + ys.length) * E.bytes ≤ 140737488355328) (hb2 : xs.length + ys.length ≤ maxLen)
    {G : Sl → World → Prop} (k : ∀ (s' : Sl) (w' : World), Ow E w' s' (xs ++ ys) → Chg (fun k => s.blk = some k) w w' → (s'.blk = s.blk ∨ s'.blk = some w.heap.size) → G s' w') :
    ∃ s' : Sl, ∃ w' : World, (Builtin.append_ #[T, T] T #[v, y]).run P w = .ok s'.val w' ∧ G s' w' := by
  subst hv hy
  obtain ⟨i, z, hi, hz, h1, h2, h3⟩ := ok.info
  obtain ⟨v', w', hr, ho, hg, hbk⟩ := run_append_sep (P := P) w T T E.t i z E.sz E.bytes ok.und hi hz h1 h2 h3 E.pos s.val xs.length (fl E xs) hs t.val ys.length (fl E ys) ht (fl_length E ys) (fl_oneCell E ys) hb2 hb
  obtain ⟨ao, cap, rfl⟩ := Own.form ho
  refine ⟨⟨ao, xs.length + ys.length, cap⟩, w', hr, k _ _ ?_ (Chg.grown hg (fun k hk => hk)) hbk⟩
  unfold Ow
  rw [List.length_append, fl_append]
  exact ho
end
end Go.Proofs.Ytgffaimgnmfifaa

/- A slice that may be written, wherever it lies in its block: what it reads, append onto it, what is cut off at its head, cleared. Over any program. -/
namespace Go.Proofs.Ytgffaimgnmfifaa
open Go.RowKit

variable {α : Type}
/-- s reads as xs, and all its room is there and may be written. -/
structure Ox (E : Enc α) (w : World) (s : Sl) (xs : List α) : Prop where
  rd : Rd E w s xs
  room : ∀ a, s.ptr = some a → a.spot = none ∧ ∀ j, j < s.cap * E.sz → (w.cell? (a.add j)).isSome = true ∧ w.frozen? (a.add j) = false
  lt : ∀ k, s.blk = some k → k < w.heap.size
theorem Ox.nil (E : Enc α) (w : World) : Ox E w nilS [] := ⟨Rd.nil E w, (fun a h => by cases h), (fun k h => by cases h)⟩
theorem blk_ptr {s : Sl} {a : Addr} (h : s.ptr = some a) : s.blk = some a.block := by unfold Sl.blk Sl.val; rw [h]; rfl
theorem frozen_chg {S : Nat → Prop} {w w' : World} (c : Chg S w w') {a : Addr} (hlt : a.block < w.heap.size) (hS : ¬ S a.block) : w'.frozen? a = w.frozen? a := by
  unfold World.frozen?; rw [c.block _ hlt hS]
theorem Ox.chg {E : Enc α} {S : Nat → Prop} {w w' : World} {s : Sl} {xs : List α} (h : Ox E w s xs) (c : Chg S w w') (hS : ∀ k, s.blk = some k → ¬ S k) : Ox E w' s xs := by
  refine ⟨h.rd.chg c hS, fun a ha => ⟨(h.room a ha).1, fun j hj => ?_⟩, fun k hk => Nat.lt_of_lt_of_le (h.lt k hk) c.size⟩
  obtain ⟨h1, h2⟩ := (h.room a ha).2 j hj
  have hb := blk_ptr ha
  have hne := hS _ hb
  have hlt := h.lt _ hb
  refine ⟨?_, ?_⟩
  · obtain ⟨u, hu⟩ := Option.isSome_iff_exists.1 h1
    rw [c.cell hu (by rw [add_block]; exact hne)]; rfl
  · rw [frozen_chg c (by rw [add_block]; exact hlt) (by rw [add_block]; exact hne)]; exact h2
theorem Ox.no {E : Enc α} {w w' : World} {s : Sl} {xs : List α} (h : Ox E w s xs) (c : Chg No w w') : Ox E w' s xs := h.chg c (fun _ _ h => h)
theorem Ox.qt {E : Enc α} {w w' : World} {s : Sl} {xs : List α} (h : Ox E w s xs) (c : Qt w w') : Ox E w' s xs := h.no (Chg.qt c)
theorem Ow.ox {E : Enc α} {w : World} {s : Sl} {xs : List α} (h : Ow E w s xs) : Ox E w s xs := by
  refine ⟨h.rd, fun a ha => ?_, fun k hk => h.lt hk⟩
  rcases h.2 with ⟨h1, _⟩ | ⟨g, cap, cur, h1, _, hg, hnc, hcm, hcs, _⟩
  · have : s.ptr = none := by cases s; simp [Sl.val] at h1; exact h1.1
    rw [this] at ha; cases ha
  · have hp : s.ptr = some ⟨g, 0, none⟩ ∧ s.cap = cap := by cases s; simp [Sl.val] at h1; exact ⟨h1.1, h1.2.2⟩
    rw [hp.1] at ha; cases ha
    refine ⟨rfl, fun j hj => ?_⟩
    rw [hp.2, ← hcs] at hj
    rw [add_mk, Nat.zero_add]
    refine ⟨?_, ?_⟩
    · simp [World.cell?, hg, Array.getElem?_eq_getElem hj]
    · simp [World.frozen?, hg]
theorem chg_setCells {b : Nat} : ∀ (vs : List Value) (o : Nat) (w : World), Chg (fun k => k = b) w (w.setCells b o vs)
  | [], _, w => Chg.refl _ _
  | v :: r, o, w => (Chg.setCell (S := fun k => k = b) w ⟨b, o, none⟩ v (Or.inl rfl)).trans (chg_setCells r (o + 1) _) (fun _ _ h => h) (fun _ _ h => h)
theorem add_at {a : Addr} (h : a.spot = none) (j : Nat) : a.add j = ⟨a.block, a.off + j, none⟩ := by
  obtain ⟨b, o, s⟩ := a
  cases h
  exact add_mk b o j
/-- What is written into the room of a slice, from its element n on. -/
theorem Ox.put {E : Enc α} {w : World} {s : Sl} {xs : List α} (h : Ox E w s xs) {a : Addr} (ha : s.ptr = some a) {n : Nat} (hn : n ≤ xs.length) {ys : List α} (hroom : n + ys.length ≤ s.cap) :
    Ox E (w.setCells a.block (a.off + n * E.sz) (fl E ys)) ⟨s.ptr, n + ys.length, s.cap⟩ (xs.take n ++ ys) := by
  obtain ⟨hsp, hr⟩ := h.room a ha
  have hfl := fl_length E ys
  have hmul : (n + ys.length) * E.sz ≤ s.cap * E.sz := Nat.mul_le_mul_right _ hroom
  have hsome : ∀ j, j < s.cap * E.sz → ((w.setCells a.block (a.off + n * E.sz) (fl E ys)).cell? (a.add j)).isSome = true := by
    intro j hj
    rw [add_at hsp]
    by_cases hin : n * E.sz ≤ j ∧ j < n * E.sz + (fl E ys).length
    · obtain ⟨d, rfl⟩ : ∃ d, j = n * E.sz + d := ⟨j - n * E.sz, by omega⟩
      have := World.cell?_setCells_in a.block (fl E ys) (a.off + n * E.sz) w (fun i hi => by
        have := (hr (n * E.sz + i) (by rw [Nat.add_mul] at hmul; omega)).1
        rw [add_at hsp, ← Nat.add_assoc] at this; exact this) d (by omega)
      rw [← Nat.add_assoc, this]; rfl
    · rw [World.cell?_setCells_out a.block (fl E ys) (a.off + n * E.sz) w _ (fun _ _ => by show a.off + j < _ ∨ _ ≤ a.off + j; omega), ← add_at hsp]
      exact (hr j hj).1
  refine ⟨?_, fun a' ha' => ?_, fun k hk => ?_⟩
  · have hl : (xs.take n ++ ys).length = n + ys.length := by rw [List.length_append, List.length_take]; omega
    refine ⟨s.ptr, s.cap, (by rw [hl]), (by rw [hl]; exact hroom), (by have := h.rd.capL.2; unfold maxLen; omega), (fun hno => by rw [ha] at hno; cases hno), fun j u hu => ⟨a, ha, ?_⟩⟩
    rw [fl_append, List.getElem?_append] at hu
    have hlt : (fl E (xs.take n)).length = n * E.sz := by rw [fl_length, List.length_take]; congr 1; omega
    rw [hlt] at hu
    rw [add_at hsp]
    split at hu
    · rename_i hj
      rw [World.cell?_setCells_out a.block (fl E ys) (a.off + n * E.sz) w _ (fun _ _ => by show a.off + j < _ ∨ _ ≤ a.off + j; omega), ← add_at hsp]
      obtain ⟨ao, cap, he, _, _, _, h4⟩ := h.rd
      have hp : s.ptr = ao := by cases s; simp [Sl.val] at he; exact he.1
      obtain ⟨a2, ha2, hc⟩ := h4 j u (by
        rw [← List.take_append_drop n xs, fl_append, List.getElem?_append_left (by omega)]; exact hu)
      rw [← hp, ha] at ha2; cases ha2
      exact hc
    · rename_i hj
      obtain ⟨hlt2, hget⟩ := List.getElem?_eq_some_iff.1 hu
      have := World.cell?_setCells_in a.block (fl E ys) (a.off + n * E.sz) w (fun i hi => by
        have := (hr (n * E.sz + i) (by rw [Nat.add_mul] at hmul; omega)).1
        rw [add_at hsp, ← Nat.add_assoc] at this; exact this) (j - n * E.sz) hlt2
      rw [show a.off + n * E.sz + (j - n * E.sz) = a.off + j by omega] at this
      rw [this, hget]
  · have ha' : s.ptr = some a' := ha'
    rw [ha] at ha'; cases ha'
    refine ⟨hsp, fun j hj => ⟨hsome j hj, ?_⟩⟩
    rw [World.frozen?_setCells]; exact (hr j hj).2
  · have hk : s.blk = some k := by rw [← hk]; unfold Sl.blk Sl.val; cases s.ptr <;> rfl
    exact Nat.lt_of_lt_of_le (h.lt k hk) (chg_setCells _ _ _).size
theorem sub_blk (s : Sl) (m n sz : Nat) : (Sl.sub s.ptr s.cap m n sz).blk = s.blk := by
  unfold Sl.sub Sl.blk Sl.val
  split
  · cases s.ptr <;> rfl
  · cases hp : s.ptr with
    | none => simp [Value.ownBlock]
    | some a => simp [Value.ownBlock, add_block]
/-- What is behind the first m. -/
theorem Ox.drop {E : Enc α} {w : World} {s : Sl} {xs : List α} (h : Ox E w s xs) {m : Nat} (hm : m ≤ xs.length) : Ox E w (Sl.sub s.ptr s.cap m xs.length E.sz) (xs.drop m) := by
  have hcap := h.rd.capL
  refine ⟨h.rd.drop hm, fun a ha => ?_, fun k hk => h.lt k (by rw [← hk, sub_blk])⟩
  unfold Sl.sub at ha ⊢
  by_cases hc : s.cap = m
  · rw [if_pos hc] at ha ⊢
    refine ⟨(h.room a ha).1, fun j hj => ?_⟩
    have hz : s.cap - m = 0 := by omega
    simp only [hz, Nat.zero_mul] at hj
    omega
  · rw [if_neg hc] at ha ⊢
    cases hp : s.ptr with
    | none => rw [hp] at ha; cases ha
    | some b =>
      rw [hp] at ha
      obtain rfl : b.add (m * E.sz) = a := Option.some.inj ha
      obtain ⟨h1, h2⟩ := h.room b hp
      refine ⟨by rw [add_at h1], fun j hj => ?_⟩
      rw [add_add]
      refine h2 _ ?_
      have hj : j < (s.cap - m) * E.sz := hj
      have : m * E.sz + (s.cap - m) * E.sz = s.cap * E.sz := by rw [← Nat.add_mul]; congr 1; omega
      omega
theorem Ox.take {E : Enc α} {w : World} {s : Sl} {xs : List α} (h : Ox E w s xs) {n : Nat} (hn : n ≤ xs.length) : Ox E w ⟨s.ptr, n, s.cap⟩ (xs.take n) :=
  ⟨h.rd.take hn, fun a ha => h.room a ha, fun k hk => h.lt k (by rw [← hk]; unfold Sl.blk Sl.val; cases s.ptr <;> rfl)⟩
theorem stW_setCells {a : Addr} (h : a.spot = none) : ∀ (vs : List Value) (i : Nat) (w : World), stW w a i vs = w.setCells a.block (a.off + i) vs
  | [], _, _ => rfl
  | v :: r, i, w => by
    show stW (w.setCell (a.add i) v) a (i + 1) r = (w.setCell ⟨a.block, a.off + i, none⟩ v).setCells a.block (a.off + i + 1) r
    rw [stW_setCells h r (i + 1), add_at h]; rfl
/-- One element written. -/
theorem Ox.set {E : Enc α} {w : World} {s : Sl} {xs : List α} (h : Ox E w s xs) {a : Addr} (ha : s.ptr = some a) {k : Nat} (hk : k < xs.length) (x : α) :
    wrOk w (a.add (k * E.sz)) E.sz ∧ Ox E (stW w (a.add (k * E.sz)) 0 (E.e x)) s (xs.set k x) := by
  obtain ⟨hsp, hr⟩ := h.room a ha
  have hcap := h.rd.capL
  have hmul : (k + 1) * E.sz ≤ s.cap * E.sz := Nat.mul_le_mul_right _ (by omega)
  rw [Nat.succ_mul] at hmul
  have hw : stW w (a.add (k * E.sz)) 0 (E.e x) = w.setCells a.block (a.off + k * E.sz) (E.e x) := by
    rw [stW_setCells (by rw [add_at hsp]), add_at hsp]; rfl
  have hin : ∀ i, i < (E.e x).length → (w.cell? ⟨a.block, a.off + k * E.sz + i, none⟩).isSome = true := fun i hi => by
    rw [E.len] at hi
    have := (hr (k * E.sz + i) (by omega)).1
    rw [add_at hsp, ← Nat.add_assoc] at this; exact this
  have hel := E.len x
  refine ⟨fun i hi => ?_, ?_⟩
  · rw [add_add]
    obtain ⟨h1, h2⟩ := hr (k * E.sz + i) (by omega)
    exact ⟨Option.isSome_iff_exists.1 h1, h2⟩
  rw [hw]
  refine ⟨?_, fun b hb => ⟨(h.room b hb).1, fun j hj => ⟨?_, ?_⟩⟩, fun j hj => Nat.lt_of_lt_of_le (h.lt j hj) (chg_setCells _ _ _).size⟩
  · obtain ⟨ao, cap, he, h1, h2, h3, h4⟩ := h.rd
    have hp : s.ptr = ao := by cases s; simp [Sl.val] at he; exact he.1
    refine ⟨ao, cap, by rw [List.length_set]; exact he, by rw [List.length_set]; exact h1, h2, fun hno => by rw [List.length_set]; exact h3 hno, fun j u hu => ⟨a, hp ▸ ha, ?_⟩⟩
    have hsplit : xs.set k x = xs.take k ++ x :: xs.drop (k + 1) := List.set_eq_take_append_cons_drop.trans (if_pos hk)
    have hsplit2 : xs = xs.take k ++ xs[k] :: xs.drop (k + 1) := by
      rw [← List.drop_eq_getElem_cons hk, List.take_append_drop]
    have hlt : (fl E (xs.take k)).length = k * E.sz := by rw [fl_length, List.length_take]; congr 1; omega
    rw [hsplit, fl_append, fl_cons] at hu
    rw [add_at hsp]
    by_cases hj : k * E.sz ≤ j ∧ j < k * E.sz + E.sz
    · rw [List.getElem?_append_right (by omega), hlt, List.getElem?_append_left (by omega)] at hu
      obtain ⟨hlt2, hget⟩ := List.getElem?_eq_some_iff.1 hu
      have := World.cell?_setCells_in a.block (E.e x) (a.off + k * E.sz) w hin (j - k * E.sz) hlt2
      rw [show a.off + k * E.sz + (j - k * E.sz) = a.off + j by omega] at this
      rw [this, hget]
    · rw [World.cell?_setCells_out a.block (E.e x) (a.off + k * E.sz) w _ (fun _ _ => by show a.off + j < _ ∨ _ ≤ a.off + j; omega), ← add_at hsp]
      have hu2 : (fl E xs)[j]? = some u := by
        rw [hsplit2, fl_append, fl_cons]
        by_cases hj2 : j < k * E.sz
        · rw [List.getElem?_append_left (by omega)] at hu ⊢; exact hu
        · rw [List.getElem?_append_right (by omega), hlt, List.getElem?_append_right (by rw [E.len]; omega), E.len] at hu ⊢; exact hu
      obtain ⟨a2, ha2, hc⟩ := h4 j u hu2
      rw [← hp, ha] at ha2; cases ha2
      exact hc
  · rw [ha] at hb; cases hb
    rw [add_at hsp]
    by_cases hj2 : k * E.sz ≤ j ∧ j < k * E.sz + E.sz
    · have := World.cell?_setCells_in a.block (E.e x) (a.off + k * E.sz) w hin (j - k * E.sz) (by omega)
      rw [show a.off + k * E.sz + (j - k * E.sz) = a.off + j by omega] at this
      rw [this]; rfl
    · rw [World.cell?_setCells_out a.block (E.e x) (a.off + k * E.sz) w _ (fun _ _ => by show a.off + j < _ ∨ _ ≤ a.off + j; omega), ← add_at hsp]
      exact (hr j hj).1
  · rw [World.frozen?_setCells]; exact ((h.room b hb).2 j hj).2
theorem Rd.cells {E : Enc α} {w : World} {s : Sl} {xs : List α} (h : Rd E w s xs) {a : Addr} (ha : s.ptr = some a) : ∀ j u, (fl E xs)[j]? = some u → w.cell? (a.add j) = some u := by
  obtain ⟨ao, cap, he, _, _, _, h4⟩ := h
  have hp : s.ptr = ao := by cases s; simp [Sl.val] at he; exact he.1
  intro j u hu
  obtain ⟨a2, ha2, hc⟩ := h4 j u hu
  rw [← hp, ha] at ha2; cases ha2
  exact hc
theorem val_eq (s : Sl) : s.val = .slice s.ptr s.len s.cap := rfl
section
variable {P : Program}
/-- append onto a slice that may be written; what was read of it is still read. -/
theorem appk_ok {E : Enc α} {T : TypeId} (ok : EncOk P E T) {w : World} {s t : Sl} {v y : Value} {xs ys : List α} (hv : v = s.val) (hy : y = t.val) (hs : Ox E w s xs) (ht : Rd E w t ys) {at' : Addr} (htp : t.ptr = some at') (h0 : s.ptr = none → ys ≠ []) (hb : (xs.length + ys.length) * E.bytes ≤ 140737488355328) (hb2 : xs.length + ys.length ≤ maxLen)
    {G : Sl → World → Prop} (k : ∀ (s' : Sl) (w' : World), Ox E w' s' (xs ++ ys) → Chg (fun k => s.blk = some k) w w' → (s'.blk = s.blk ∨ ∀ k, s'.blk = some k → w.heap.size ≤ k) → (xs.length + ys.length ≤ s.cap → s'.ptr = s.ptr ∧ s'.cap = s.cap) → Rd E w' s xs → (s.cap < xs.length + ys.length → ∀ k, s'.blk = some k → w.heap.size ≤ k) → G s' w') :
    ∃ s' : Sl, ∃ w' : World, (Builtin.append_ #[T, T] T #[v, y]).run P w = .ok s'.val w' ∧ G s' w' := by
  subst hv hy
  obtain ⟨i, z, hi, hz, h1, h2, h3⟩ := ok.info
  have hsl := hs.rd.len
  have htl := ht.len
  have hcap := hs.rd.capL
  rw [val_eq t, htp]
  cases hp : s.ptr with
  | none =>
    have hys := h0 hp
    have hnil : xs.length = 0 ∧ s.cap = 0 := by
      obtain ⟨ao, cap, he, _, _, h5, _⟩ := hs.rd
      have hq : s.ptr = ao ∧ s.cap = cap := by cases s; simp [Sl.val] at he; exact ⟨he.1, he.2.2⟩
      have := h5 (hq.1.symm.trans hp)
      exact ⟨this.1, hq.2.trans this.2⟩
    have hx : xs = [] := List.eq_nil_of_length_eq_zero hnil.1
    subst hx
    have hpos : 0 < ys.length := List.length_pos_iff.2 hys
    obtain ⟨v', w', hr, ho, hg, hbk⟩ := run_append_sep (P := P) w T T E.t i z E.sz E.bytes ok.und hi hz h1 h2 h3 E.pos s.val 0 [] (by
      rw [val_eq, hp, hnil.2]; have : s.len = 0 := by rw [hsl]; rfl
      rw [this]; exact Own.nil w _ _) t.val ys.length (fl E ys) ht (fl_length E ys) (fl_oneCell E ys) (by have h9 : ([] : List α).length + ys.length ≤ maxLen := hb2; rw [List.length_nil] at h9; exact h9) (by have h9 : (([] : List α).length + ys.length) * E.bytes ≤ 140737488355328 := hb; rw [List.length_nil] at h9; exact h9)
    obtain ⟨ao, cap, rfl⟩ := Own.form ho
    have ho' : Ow E w' ⟨ao, ys.length, cap⟩ ys := by
      have := ho; simp only [Nat.zero_add, List.nil_append] at this; exact this
    refine ⟨⟨ao, ys.length, cap⟩, w', ?_, k _ _ ho'.ox (Chg.grown hg (fun k hk => by
      exact hk)) ?_ (fun hle => absurd hle (by rw [hnil.2, List.length_nil]; omega)) (by
        have hz : s = nilS := by
          have h0' : s.len = 0 := hsl
          cases s; simp at hp h0'; have := hnil.2; simp at this; subst hp h0' this; rfl
        rw [hz]; exact Rd.nil E w') (fun _ k hk => by
        have h8 : (⟨ao, ys.length, cap⟩ : Sl).blk = (Value.slice ao (0 + ys.length) cap).ownBlock := by unfold Sl.blk Sl.val; cases ao <;> rfl
        rw [h8] at hk
        rcases hbk with h | h
        · rw [h, val_eq, hp] at hk; cases hk
        · rw [h] at hk; cases hk; exact Nat.le_refl _)⟩
    · rw [val_eq t, htp] at hr
      simpa [Sl.val] using hr
    · rcases hbk with h | h
      · left
        have h' : (⟨ao, ys.length, cap⟩ : Sl).blk = s.blk := by
          rw [show (⟨ao, ys.length, cap⟩ : Sl).blk = (Value.slice ao (0 + ys.length) cap).ownBlock from by unfold Sl.blk Sl.val; cases ao <;> rfl, h]; rfl
        exact h'
      · right; intro k hk
        have h' : (⟨ao, ys.length, cap⟩ : Sl).blk = some w.heap.size := by
          rw [show (⟨ao, ys.length, cap⟩ : Sl).blk = (Value.slice ao (0 + ys.length) cap).ownBlock from by unfold Sl.blk Sl.val; cases ao <;> rfl, h]
        rw [h'] at hk; cases hk; exact Nat.le_refl _
  | some b =>
    have hbs := (hs.room b hp).1
    by_cases hroom : xs.length + ys.length ≤ s.cap
    · have hr := run_append_room_cells (P := P) w T T E.t i ok.und hi b.block b.off xs.length s.cap at' ys.length t.cap (fl E ys) (by rw [h1]; exact fl_length E ys) (ht.cells htp) (fl_oneCell E ys) hroom (fun j hj => by
          have hj2 : xs.length * E.sz + j < s.cap * E.sz := by
            have := Nat.mul_le_mul_right E.sz hroom
            rw [fl_length] at hj
            rw [Nat.add_mul] at this; omega
          have := ((hs.room b hp).2 _ hj2).1
          rw [add_at hbs, ← Nat.add_assoc] at this; rw [h1]; exact this) (fun j hj => by
          have hj2 : xs.length * E.sz + j < s.cap * E.sz := by
            have := Nat.mul_le_mul_right E.sz hroom
            rw [fl_length] at hj
            rw [Nat.add_mul] at this; omega
          have := ((hs.room b hp).2 _ hj2).2
          rw [add_at hbs, ← Nat.add_assoc] at this; rw [h1]; exact this)
      have hbe : b = ⟨b.block, b.off, none⟩ := by obtain ⟨b1, b2, b3⟩ := b; cases hbs; rfl
      rw [h1] at hr
      have hput := hs.put hp (Nat.le_refl _) (ys := ys) hroom
      rw [List.take_length] at hput
      refine ⟨⟨s.ptr, xs.length + ys.length, s.cap⟩, _, ?_, k _ _ hput ?_ (Or.inl ?_) (fun _ => ⟨rfl, rfl⟩) ?_ (fun h => by omega)⟩
      · rw [val_eq s, hp, hsl, htl, hbe, hr]
      · exact (chg_setCells _ _ _).mono (fun k _ hk => by rw [hk]; exact blk_ptr hp)
      · unfold Sl.blk Sl.val; cases s.ptr <;> rfl
      · have h9 := hput.rd.take (n := xs.length) (by rw [List.length_append]; omega)
        rw [List.take_left' rfl] at h9
        have e9 : (⟨s.ptr, xs.length, s.cap⟩ : Sl) = s := by rw [← hsl]
        rw [← e9]; exact h9
    · obtain ⟨v', w', hr, ho, hg⟩ := run_append_arg_grows (P := P) w T T E.t i z E.sz E.bytes ok.und hi hz h1 h2 h3 E.pos b xs.length s.cap (fl E xs) (fl_length E xs) (hs.rd.cells hp) at' ys.length t.cap (fl E ys) (fl_length E ys) (ht.cells htp) (by omega) hb2 hb
      have ho' : Own w' E.t E.sz v' (xs.length + ys.length) (fl E xs ++ fl E ys) := ⟨ho.1, ho.2.imp id fun ⟨g, cap, cur, q1, _, q3⟩ => ⟨g, cap, cur, q1, Nat.zero_le _, q3⟩⟩
      obtain ⟨ao, cap, rfl⟩ := Own.form ho'
      have ho2 : Ow E w' ⟨ao, xs.length + ys.length, cap⟩ (xs ++ ys) := by
        unfold Ow; rw [List.length_append, fl_append]; exact ho'
      refine ⟨⟨ao, xs.length + ys.length, cap⟩, w', ?_, k _ _ ho2.ox (Chg.grown hg (fun k hk => by cases hk)) (Or.inr fun k hk => ?_) (fun h => absurd h hroom) (hs.rd.chg (Chg.grown (S := No) hg (fun k hk => by cases hk)) (fun _ _ h => h)) (fun _ k hk => (World.ownsRow.lt ho k hk).1)⟩
      · rw [val_eq s, hp, hsl, htl, hr, val_eq]
      · exact (World.ownsRow.lt ho k hk).1
theorem appx_ok {E : Enc α} {T : TypeId} (ok : EncOk P E T) {w : World} {s t : Sl} {v y : Value} {xs ys : List α} (hv : v = s.val) (hy : y = t.val) (hs : Ox E w s xs) (ht : Rd E w t ys) {at' : Addr} (htp : t.ptr = some at') (h0 : s.ptr = none → ys ≠ []) (hb : (xs.length + ys.length) * E.bytes ≤ 140737488355328) (hb2 : xs.length + ys.length ≤ maxLen)
    {G : Sl → World → Prop} (k : ∀ (s' : Sl) (w' : World), Ox E w' s' (xs ++ ys) → Chg (fun k => s.blk = some k) w w' → (s'.blk = s.blk ∨ ∀ k, s'.blk = some k → w.heap.size ≤ k) → (xs.length + ys.length ≤ s.cap → s'.ptr = s.ptr ∧ s'.cap = s.cap) → G s' w') :
    ∃ s' : Sl, ∃ w' : World, (Builtin.append_ #[T, T] T #[v, y]).run P w = .ok s'.val w' ∧ G s' w' :=
  appk_ok ok hv hy hs ht htp h0 hb hb2 fun s' w' h1 h2 h3 h4 _ _ => k s' w' h1 h2 h3 h4
end
end Go.Proofs.Ytgffaimgnmfifaa

/- Numbers that fit are not wrapped. -/
namespace Go.Proofs.Ytgffaimgnmfifaa
open Go.RowKit

theorem wr_of {x : Int} (h : -9223372036854775808 ≤ x) (h' : x ≤ 9223372036854775807) : wr x = x := IntWalk.i64_in _ (by omega)
theorem wrL_all : ∀ (vs cs done : List Value) (k : Nat), cs.length = vs.length → k = done.length → wrL (done ++ cs) k vs = done ++ vs
  | [], cs, done, k, h, _ => by
    have : cs = [] := List.eq_nil_of_length_eq_zero (by simpa using h)
    subst this; rfl
  | v :: r, [], done, k, h, _ => by simp at h
  | v :: r, c :: cs, done, k, h, hk => by
    unfold wrL
    subst hk
    have := wrL_all r cs (done ++ [v]) (done.length + 1) (by simpa using h) (by simp)
    simpa using this
theorem wrL_whole {vs cs : List Value} (h : cs.length = vs.length) : wrL cs 0 vs = vs := by
  have := wrL_all vs cs [] 0 h rfl
  simpa using this
end Go.Proofs.Ytgffaimgnmfifaa

/- append(s, make([]T, m)...): the new elements are zeros: over any program, elements of one cell. -/
namespace Go.Proofs.Ytgffaimgnmfifaa
open Go.RowKit

section
variable {P : Program}
theorem zeroCells_one (z : Value) (n : Nat) : Builtin.zeroCells #[z] n = (List.replicate n z).toArray := by
  apply Array.ext'
  simp [Builtin.zeroCells]
  apply List.ext_getElem
  · simp
  · intro i h1 h2
    simp [Nat.mod_one]

theorem run_append_zeros (w : World) (t tn ty e : TypeId) (i : TypeInfo) (z : Value) (ht : P.underlying t = some (.slice e)) (htn : P.underlying tn = some (.int .i64)) (hi : P.info? e = some i) (hz : i.zero = some z)
    (hsize : i.size = 1) (hzc : z.cells = #[z]) (hone : z.oneCell' = true) (v : Value) (n : Nat) (xs : List Value) (hown : Own w e 1 v n xs) (m : Nat) (h6 : n + m ≤ 1000000) (hb : i.bytes ≤ 64) :
    ∃ v' w', (Builtin.append_ #[t, tn] ty #[v, .int .i64 m]).run P w = .ok v' w' ∧ Own w' e 1 v' (n + m) (xs ++ List.replicate m z) ∧ w.grownBy w' v.ownBlock ∧ (v'.ownBlock = v.ownBlock ∨ v'.ownBlock = some w.heap.size) := by
  have hw : IntKind.i64.wrap (m : Int) = m := by rw [IntKind.wrap_i64]; omega
  have hneg : ¬ ((m : Int) < 0) := by omega
  have hbm : m * i.bytes ≤ 1000000 * 64 := Nat.mul_le_mul (by omega) hb
  have hbn : (n + m) * i.bytes ≤ 1000000 * 64 := Nat.mul_le_mul (by omega) hb
  have h48i : ¬ (281474976710656 < (m : Int) * (i.bytes : Int)) := by rw [← Int.natCast_mul]; omega
  have hlen : (xs ++ List.replicate m z).length = (n + m) * 1 := by rw [List.length_append, hown.1, List.length_replicate]; omega
  rcases hown.2 with ⟨rfl, rfl⟩ | ⟨g, cap, cur, rfl, hbg, hg, hnc, hcm, hcs, htake⟩
  · have hx : xs = [] := List.eq_nil_of_length_eq_zero (by simpa using hown.1)
    subst hx
    by_cases hm : m = 0
    · subst hm
      refine ⟨.slice none 0 0, w, ?_, Own.nil w e 1, World.grownBy.refl w _, Or.inl rfl⟩
      have hw0 : IntKind.i64.wrap 0 = 0 := hw
      simp [Builtin.append_, run_underlying ht, run_underlying htn, sizeOf, typeInfo, hi, asInt, asIntOf, hw0]
    · have hr := Lib.run_append_nil_zeros (P := P) w t tn ty e i z .i64 .i64 ht htn hi hz m (by omega) (by omega) (by omega) (by omega)
      refine ⟨_, _, hr, ⟨hlen, .inr ⟨w.heap.size, _, _, by rw [Nat.zero_add], Nat.zero_le _, heap_alloc_new w.drew _, by rw [Nat.zero_add]; exact grownCap_ge w m 0 e, grownCap_le_maxLen w m 0 e (by unfold maxLen; omega), ?_, ?_⟩⟩, ⟨rfl, rfl, rfl, by simp, fun k hk _ => heap_alloc_old w.drew _ hk⟩, Or.inr rfl⟩
      · have := grownCap_ge w m 0 e
        simp [hzc, zeroCells_one]; omega
      · simp [hzc, zeroCells_one]
  · by_cases hroom : n + m ≤ cap
    · have hst := run_storeCells_at P g n e (List.replicate m z) 0 cur w hg (by rw [List.length_replicate]; omega) (fun u hu => by rw [(List.mem_replicate.1 hu).2]; exact hone)
      simp only [Nat.add_zero] at hst
      have hr : (Builtin.append_ #[t, tn] ty #[.slice (some ⟨g, 0, none⟩) n cap, .int .i64 m]).run P w =
          .ok (.slice (some ⟨g, 0, none⟩) (n + m) cap) (w.setRow g (cur.toList.take n ++ List.replicate m z ++ cur.toList.drop (n + (List.replicate m z).length)).toArray) := by
        by_cases hm : m = 0
        · subst hm
          simp at hst
          have hw0 : IntKind.i64.wrap 0 = 0 := hw
          simp [Builtin.append_, run_underlying ht, run_underlying htn, sizeOf, typeInfo, hi, asInt, asIntOf, hw0, hnc, hsize, Addr.add_lit, hst]
        · simp [Builtin.append_, run_underlying ht, run_underlying htn, sizeOf, typeInfo, zeroValue, hi, hz, asInt, asIntOf, hw, hneg, h48i, hroom, hsize, hm, hzc, zeroCells_one, Addr.add_lit, hst]
      refine ⟨_, _, hr, ⟨hlen, .inr ⟨g, cap, _, rfl, hbg, setRow_heap w g cur _ e _ hg, hroom, hcm, ?_, ?_⟩⟩, ⟨rfl, rfl, rfl, by simp, fun k hk hk2 => setRow_other w g k _ (fun e => hk2 (by simp [Value.ownBlock, e]))⟩, Or.inl rfl⟩
      · simp only [List.size_toArray, List.length_append, List.length_take, List.length_drop, Array.length_toList, List.length_replicate]
        omega
      · have : cur.toList.take n = xs := by rw [← htake, Nat.mul_one]
        simp only [this]
        rw [← hlen]
        exact List.take_left
    · have holds : ∀ j u, xs[j]? = some u → w.cell? ((⟨g, 0, none⟩ : Addr).add j) = some u := World.ownsRow.cells hown (g := g) rfl
      have hlo : xs.length = n * i.size := by rw [hsize, hown.1]
      have hfo := run_firstCells_some (P := P) w.drew i.size n ⟨g, 0, none⟩ n cap xs hlo (by simpa using holds)
      have hn : ¬ (n + m ≤ cap) := hroom
      have h48' : ¬ (281474976710656 < Builtin.nextslicecap (n + m) cap * i.bytes) := by have := growslice_fits (need := n + m) (old := cap) (bytes := i.bytes) (by omega) (by omega); omega
      have h63' : ¬ (9223372036854775807 < ((n : Int) + (m : Int))) := by omega
      have hm : m ≠ 0 := by omega
      have hr : (Builtin.append_ #[t, tn] ty #[.slice (some ⟨g, 0, none⟩) n cap, .int .i64 m]).run P w =
          .ok (.slice (some ⟨w.heap.size, 0, none⟩) (n + m) (grownCap w (n + m) cap e))
            (w.drew.alloc (.cells (xs.toArray ++ (List.replicate m z).toArray ++ (List.replicate (grownCap w (n + m) cap e - (n + m)) z).toArray) e)) := by
        rw [hsize] at hfo
        simp [Builtin.append_, run_underlying ht, run_underlying htn, sizeOf, typeInfo, zeroValue, hi, hz, asInt, asIntOf, hw, hneg, h48i, hn, h63', h48', hsize, hm, hzc, zeroCells_one, Question.forced, hfo, newRow, grownCap]
      have hge := grownCap_ge w (n + m) cap e
      refine ⟨_, _, hr, ⟨hlen, .inr ⟨w.heap.size, _, _, rfl, Nat.zero_le _, heap_alloc_new w.drew _, hge, grownCap_le_maxLen w (n + m) cap e (by unfold maxLen; omega), ?_, ?_⟩⟩, ⟨rfl, rfl, rfl, by simp, fun k hk _ => heap_alloc_old w.drew _ hk⟩, Or.inr rfl⟩
      · have := hown.1
        simp only [Array.size_append, List.size_toArray, List.length_replicate]; omega
      · simp only [Array.toList_append, List.append_assoc]
        rw [← List.append_assoc, ← hlen]
        exact List.take_left
/-- At a step of a region that draws its order. -/
theorem step_append_zeros {ops : Array Oper} {o : Oper} {a : Act} {w : World} {K : Act → World → Prop} {Q : Exit → Act → World → Prop} {E : Prop}
    (hg : o.guard = none) (s x : Operand) (t tn : TypeId) (hop : o.op = Op.call { callee := Callee.builtin Builtin.append, args := #[s, x], argTypes := #[t, tn] })
    (e : TypeId) (i : TypeInfo) (z : Value) (ht : P.underlying t = some (.slice e)) (htn : P.underlying tn = some (.int .i64)) (hi : P.info? e = some i) (hz : i.zero = some z)
    (hsize : i.size = 1) (hzc : z.cells = #[z]) (hone : z.oneCell' = true) (hb : i.bytes ≤ 64) (v : Value) (n : Nat) (xs : List Value) (hs : a.eval s = v) (hown : Own w e 1 v n xs) (mi : Int) (hx : a.eval x = .int .i64 mi) (m : Nat) (hmi : mi = m) (h6 : n + m ≤ 1000000)
    (hK : ∀ v' w', Own w' e 1 v' (n + m) (xs ++ List.replicate m z) → w.grownBy w' v.ownBlock → (v'.ownBlock = v.ownBlock ∨ v'.ownBlock = some w.heap.size) → K (a.put o.dst v') w') :
    if Region.wanted o (yielded ops a.tmps) = true then Oper.wp P o a w K Q else E := by
  have hw : Region.wanted o (yielded ops a.tmps) = true := by simp [Region.wanted, hg]
  rw [if_pos hw]
  subst hmi
  obtain ⟨v', w', hrun, r1, r2, r3⟩ := run_append_zeros (P := P) w t tn o.type e i z ht htn hi hz hsize hzc hone v n xs hown m h6 hb
  unfold Oper.wp
  simp [execOp, hop, resolve, invoke, builtin, hs, hx, hrun, Result.andThen]
  exact hK v' w' r1 r2 r3
end
end Go.Proofs.Ytgffaimgnmfifaa
