/- Memory, in plain words: which blocks may have changed ('Chg'), what a slice value reads as ('RdC', 'Rd'), a slice that lies at the head of a block of its own ('Own'), and append and make said of these. Over any program. -/
import Derived.Test.YtkjpmkopnkkbmaaGreatDoorBase
import Derived.Laws.AppendOwnNone
namespace Go.Proofs.YtkjpmkopnkkbmaaGreatDoor
open Go.RowKit

/-! ### Which blocks may have changed -/
/-- w' is w with new blocks, and with changes to old blocks of S alone. -/
structure Chg (S : Nat → Prop) (w w' : World) : Prop where
  os : w'.os = w.os
  tape : w'.tape = w.tape
  output : w'.output = w.output
  size : w.heap.size ≤ w'.heap.size
  block : ∀ k, k < w.heap.size → ¬ S k → w'.heap[k]? = w.heap[k]?

def No : Nat → Prop := fun _ => False

theorem Chg.refl (S : Nat → Prop) (w : World) : Chg S w w := ⟨rfl, rfl, rfl, Nat.le_refl _, fun _ _ _ => rfl⟩
theorem Chg.trans {S T U : Nat → Prop} {a b c : World} (h : Chg S a b) (k : Chg T b c) (hS : ∀ x, x < a.heap.size → S x → U x) (hT : ∀ x, x < a.heap.size → T x → U x) : Chg U a c :=
  ⟨k.os.trans h.os, k.tape.trans h.tape, k.output.trans h.output, Nat.le_trans h.size k.size,
    fun x hx hU => (k.block x (Nat.lt_of_lt_of_le hx h.size) (fun t => hU (hT x hx t))).trans (h.block x hx (fun s => hU (hS x hx s)))⟩
theorem Chg.mono {S U : Nat → Prop} {a b : World} (h : Chg S a b) (hS : ∀ x, x < a.heap.size → S x → U x) : Chg U a b :=
  h.trans (Chg.refl S b) hS hS
theorem Chg.qt {S : Nat → Prop} {a b : World} (h : Qt a b) : Chg S a b := by
  obtain ⟨n, rfl⟩ := h; exact ⟨rfl, rfl, rfl, Nat.le_refl _, fun _ _ _ => rfl⟩
theorem Chg.drewN (S : Nat → Prop) (w : World) (n : Nat) : Chg S w (w.drewN n) := ⟨rfl, rfl, rfl, Nat.le_refl _, fun _ _ _ => rfl⟩
theorem Chg.drew (S : Nat → Prop) (w : World) : Chg S w w.drew := ⟨rfl, rfl, rfl, Nat.le_refl _, fun _ _ _ => rfl⟩
theorem Chg.alloc (S : Nat → Prop) (w : World) (o : Obj) : Chg S w (w.alloc o) :=
  ⟨rfl, rfl, rfl, by simp, fun k hk _ => Below.heap_alloc _ _ _ hk⟩
theorem Chg.setCell {S : Nat → Prop} (w : World) (a : Addr) (u : Value) (h : S a.block ∨ w.heap.size ≤ a.block) : Chg S w (w.setCell a u) :=
  ⟨rfl, rfl, rfl, by simp [World.setCell], fun k hk hS => Below.heap_setCell _ _ _ _ (fun e => by subst e; rcases h with h | h; exact hS h; omega)⟩
theorem Chg.grown {S : Nat → Prop} {w w' : World} {row : Option Nat} (h : w.grownBy w' row) (hr : ∀ k, row = some k → S k) : Chg S w w' :=
  ⟨h.os, h.tape, h.output, h.size, fun k hk hS => h.block k hk (fun e => hS (hr k e.symm))⟩
theorem Chg.below {S : Nat → Prop} {w w' : World} {B : Nat} (h : Chg S w w') (hS : ∀ k, k < B → ¬ S k) (hB : B ≤ w.heap.size) : Below B w w' :=
  ⟨h.os, h.tape, h.output, h.size, fun k hk => h.block k (by omega) (hS k hk)⟩
theorem Chg.done {w w' : World} (h : Chg No w w') : Below w.heap.size w w' := h.below (fun _ _ h => h) (Nat.le_refl _)
theorem Chg.of_below {S : Nat → Prop} {w w' : World} {B : Nat} (h : Below B w w') (hS : ∀ k, B ≤ k → k < w.heap.size → S k) : Chg S w w' :=
  ⟨h.os, h.tape, h.output, h.size, fun k hk hn => h.block k (by refine Classical.byContradiction fun hc => hn (hS k (by omega) hk))⟩
theorem Chg.cell {S : Nat → Prop} {w w' : World} (h : Chg S w w') {p : Addr} {v : Value} (hv : w.cell? p = some v) (hp : ¬ S p.block) : w'.cell? p = some v := by
  have hlt : p.block < w.heap.size := by
    unfold World.cell? at hv
    split at hv
    · rename_i hh; exact lt_of_block hh
    · simp at hv
  rw [World.cell?_of_block (w := w) (h.block p.block hlt hp), hv]
theorem Chg.row {S : Nat → Prop} {w w' : World} (h : Chg S w w') {k : Nat} {o : Obj} (hv : w.heap[k]? = some o) (hp : ¬ S k) : w'.heap[k]? = some o :=
  (h.block k (lt_of_block hv) hp).trans hv

/-! ### What a slice value reads as -/
/-- The slice value v has n elements, whose cells are these. -/
def RdC (w : World) (v : Value) (n : Nat) (cells : List Value) : Prop :=
  ∃ ao cap, v = .slice ao n cap ∧ n ≤ cap ∧ cap ≤ maxLen ∧ (ao = none → n = 0 ∧ cap = 0) ∧ ∀ j u, cells[j]? = some u → ∃ a, ao = some a ∧ w.cell? (a.add j) = some u

theorem RdC.nil (w : World) : RdC w (.slice none 0 0) 0 [] := ⟨none, 0, rfl, Nat.le_refl _, Nat.zero_le _, fun _ => ⟨rfl, rfl⟩, fun j u h => by simp at h⟩
theorem RdC.chg {S : Nat → Prop} {w w' : World} {v : Value} {n : Nat} {cells : List Value} (h : RdC w v n cells) (c : Chg S w w') (hS : ∀ k, v.ownBlock = some k → ¬ S k) : RdC w' v n cells := by
  obtain ⟨ao, cap, rfl, h1, h2, h3, h4⟩ := h
  refine ⟨ao, cap, rfl, h1, h2, h3, fun j u hu => ?_⟩
  obtain ⟨a, rfl, hc⟩ := h4 j u hu
  exact ⟨a, rfl, c.cell hc (by have : (a.add j).block = a.block := by unfold Addr.add; split <;> rfl
                               rw [this]; exact hS _ rfl)⟩

/-- A slice that lies at the head of a block of its own (or is nil). -/
def Own (w : World) (e : TypeId) (size : Nat) (v : Value) (n : Nat) (cells : List Value) : Prop := w.ownsRow 0 e size v n cells

/-- Its form. -/
theorem Own.form {w : World} {e size n : Nat} {v : Value} {cells : List Value} (h : Own w e size v n cells) : ∃ ao cap, v = .slice ao n cap := by
  rcases h.2 with ⟨rfl, rfl⟩ | ⟨g, cap, cur, rfl, _⟩
  · exact ⟨_, _, rfl⟩
  · exact ⟨_, _, rfl⟩
theorem Own.nil (w : World) (e size : Nat) : Own w e size (.slice none 0 0) 0 [] := World.ownsRow_nil w 0 e size
theorem Own.lt {w : World} {e size n : Nat} {v : Value} {cells : List Value} (h : Own w e size v n cells) {k : Nat} (hk : v.ownBlock = some k) : k < w.heap.size := (World.ownsRow.lt h k hk).2
theorem Own.rd {w : World} {e size n : Nat} {v : Value} {cells : List Value} (h : Own w e size v n cells) : RdC w v n cells := by
  have hc := fun g => World.ownsRow.cells (g := g) h
  rcases h.2 with ⟨rfl, rfl⟩ | ⟨g, cap, cur, rfl, _, hg, h1, h2, _, _⟩
  · have : cells = [] := List.eq_nil_of_length_eq_zero (by simpa using h.1)
    subst this; exact RdC.nil w
  · exact ⟨some ⟨g, 0, none⟩, cap, rfl, h1, h2, fun h => by simp at h, fun j u hu => ⟨_, rfl, hc g rfl j u hu⟩⟩
theorem Own.chg {S : Nat → Prop} {w w' : World} {e size n : Nat} {v : Value} {cells : List Value} (h : Own w e size v n cells) (c : Chg S w w') (hS : ∀ k, v.ownBlock = some k → ¬ S k) : Own w' e size v n cells := by
  refine ⟨h.1, ?_⟩
  rcases h.2 with h2 | ⟨g, cap, cur, rfl, hb, hg, h1, h2, h3, h4⟩
  · exact Or.inl h2
  · exact Or.inr ⟨g, cap, cur, rfl, hb, c.row hg (hS g rfl), h1, h2, h3, h4⟩
/-- The first m elements of it. -/
theorem Own.cut {w : World} {e size n m : Nat} {ao : Option Addr} {cap : Nat} {cells : List Value} (h : Own w e size (.slice ao n cap) n cells) (hm : m ≤ n) : Own w e size (.slice ao m cap) m (cells.take (m * size)) := by
  have hle : m * size ≤ n * size := Nat.mul_le_mul_right _ hm
  refine ⟨by rw [List.length_take, h.1]; omega, ?_⟩
  rcases h.2 with ⟨h1, h2⟩ | ⟨g, cap', cur, h0, hb, hg, h1, h2, h3, h4⟩
  · cases h1; exact Or.inl ⟨by rw [show m = 0 by omega], by omega⟩
  · cases h0
    exact Or.inr ⟨g, cap, cur, rfl, hb, hg, by omega, h2, h3, by rw [← h4, List.take_take]; congr 1; omega⟩

/-- A literal of its own. -/
theorem Own.lit (w : World) (e size : Nat) (cs : Array Value) (n : Nat) (hm : n ≤ maxLen) (hs : cs.size = n * size) : Own (w.alloc (.cells cs e)) e size (.slice (some ⟨w.heap.size, 0, none⟩) n n) n cs.toList :=
  World.ownsRow_lit w cs n (Nat.zero_le _) hm hs
theorem no_not (S : Prop) (k : Nat) (h : No k) : S := h.elim

/-- A row behind a store into it. -/
theorem row_setCell {w : World} {b o : Nat} {c : Array Value} {e : TypeId} {fr : Nat × Nat} {u : Value} (h : w.heap[b]? = some (.cells c e fr)) : (w.setCell ⟨b, o, none⟩ u).heap[b]? = some (.cells (c.setIfInBounds o u) e fr) := by
  simp [World.setCell, Array.getElem?_modify, h]

theorem own_block (ao : Option Addr) (n c m d : Nat) : (Value.slice ao n c).ownBlock = (Value.slice ao m d).ownBlock := by cases ao <;> rfl
theorem add_add (a : Addr) (m j : Nat) : (a.add m).add j = a.add (m + j) := by
  unfold Addr.add
  by_cases hm : m = 0
  · subst hm; simp
  · by_cases hj : j = 0
    · subst hj; simp [hm]
    · simp [hm, hj]; omega
theorem add_block (a : Addr) (m : Nat) : (a.add m).block = a.block := by unfold Addr.add; split <;> rfl
/-- What is behind the first m elements, as Go reslices it. -/
theorem RdC.tail {w : World} {ao : Option Addr} {n cap m : Nat} {size : Nat} {cells : List Value} (h : RdC w (.slice ao n cap) n cells) (hl : cells.length = n * size) (hm : m ≤ n) :
    (cap = m → RdC w (.slice ao (n - m) 0) (n - m) (cells.drop (m * size))) ∧ (size = 1 → cap ≠ m → RdC w (.slice (ao.map (·.add m)) (n - m) (cap - m)) (n - m) (cells.drop m)) := by
  obtain ⟨ao', cap', he, h1, h2, h3, h4⟩ := h
  cases he
  constructor
  · rintro rfl
    have e : n - cap = 0 := by omega
    refine ⟨ao, 0, rfl, by omega, Nat.zero_le _, fun _ => ⟨e, rfl⟩, fun j u hu => ?_⟩
    have hlen : (cells.drop (cap * size)).length = 0 := by rw [List.length_drop, hl, ← Nat.sub_mul, e]; simp
    rw [List.eq_nil_of_length_eq_zero hlen] at hu
    simp at hu
  · rintro rfl hne
    refine ⟨_, _, rfl, by omega, by omega, fun hn => ?_, fun j u hu => ?_⟩
    · have := h3 (by cases ao <;> simp_all); omega
    · rw [List.getElem?_drop] at hu
      obtain ⟨a, rfl, hc⟩ := h4 _ _ hu
      exact ⟨a.add m, rfl, by rw [add_add]; exact hc⟩

/-! ### append -/
section
variable {P : Program}
/-- append onto a slice of its own: whatever source; where the new slice lies. -/
theorem run_append_sep (w : World) (t ty e : TypeId) (i : TypeInfo) (z : Value) (size bytes : Nat) (ht : P.underlying t = some (.slice e)) (hi : P.info? e = some i) (hz : i.zero = some z)
    (hsize : i.size = size) (hby : i.bytes = bytes) (hzs : z.cells.size = size) (hsz : 0 < size)
    (v : Value) (n : Nat) (xs : List Value) (hown : Own w e size v n xs) (y : Value) (m : Nat) (news : List Value) (hy : RdC w y m news) (hl : news.length = m * size) (h1 : ∀ u ∈ news, u.oneCell' = true)
    (h63 : n + m ≤ maxLen) (hbytes : (n + m) * bytes ≤ 140737488355328) :
    ∃ v' w', (Builtin.append_ #[t, t] ty #[v, y]).run P w = .ok v' w' ∧ Own w' e size v' (n + m) (xs ++ news) ∧ w.grownBy w' v.ownBlock ∧ (v'.ownBlock = v.ownBlock ∨ v'.ownBlock = some w.heap.size) := by
  obtain ⟨ao, c, rfl, hmc, hcm, hnone, hcells⟩ := hy
  rcases ao with _ | a
  · obtain ⟨rfl, rfl⟩ := hnone rfl
    have hn : news = [] := List.eq_nil_of_length_eq_zero (by simpa using hl)
    subst hn
    refine ⟨v, w, run_append_owned_none (P := P) w 0 t ty e i size ht hi v n xs hown, by simpa using hown, World.grownBy.refl w _, Or.inl rfl⟩
  · have hnews : ∀ j u, news[j]? = some u → w.cell? (a.add j) = some u := fun j u hu => by
      obtain ⟨a', ha, hc⟩ := hcells j u hu; cases ha; exact hc
    rcases hown.2 with ⟨rfl, rfl⟩ | ⟨g, cap, cur, rfl, hbg, hg, hnc, hcm', hcs, htake⟩
    · have hx : xs = [] := List.eq_nil_of_length_eq_zero (by simpa using hown.1)
      subst hx
      obtain ⟨v', w', hr, ho, hgr, hnil⟩ := run_append_own (P := P) w w.heap.size t ty e i z size bytes ht hi hz hsize hby hzs hsz (.slice none 0 0) 0 [] (World.ownsRow_nil w _ e size) a m c news hl hnews h1 h63 hbytes (Nat.le_refl _)
      by_cases hm : m = 0
      · subst hm
        have hn : news = [] := List.eq_nil_of_length_eq_zero (by simpa using hl)
        subst hn
        obtain rfl := hnil.2 ⟨rfl, rfl⟩
        exact ⟨_, w', hr, World.ownsRow_nil w' 0 e size, hgr, Or.inl rfl⟩
      · have hm' : 0 < m := by omega
        subst hsize hby
        have hb := hbytes; simp only [Nat.zero_add] at hb
        have h6 := h63; simp only [maxLen] at h6
        have hr2 := run_append_nil (P := P) w t ty e i z ht hi hz a m c news hl hnews hm' (by omega) (by omega)
        rw [hr2] at hr
        injection hr with e1 e2
        subst e1 e2
        refine ⟨_, _, hr2, ?_, hgr, Or.inr rfl⟩
        exact ⟨ho.1, ho.2.imp id fun ⟨g, cap, cur, q1, _, q3⟩ => ⟨g, cap, cur, q1, Nat.zero_le _, q3⟩⟩
    · obtain ⟨v', w', hr, ho, hgr, _⟩ := run_append_own (P := P) w 0 t ty e i z size bytes ht hi hz hsize hby hzs hsz _ n xs hown a m c news hl hnews h1 h63 hbytes (Nat.zero_le _)
      refine ⟨v', w', hr, ho, hgr, ?_⟩
      subst hsize hby
      by_cases hroom : n + m ≤ cap
      · have hfit : n * i.size + news.length ≤ cur.size := by rw [hl, hcs, ← Nat.add_mul]; exact Nat.mul_le_mul_right _ hroom
        have hr2 := run_append_room (P := P) w t ty e i ht hi g n cap cur hg a m c news hl hnews h1 hroom hfit
        rw [hr2] at hr
        injection hr with e1 e2
        subst e1
        exact Or.inl rfl
      · have holds : ∀ j u, xs[j]? = some u → w.cell? ((⟨g, 0, none⟩ : Addr).add j) = some u := World.ownsRow.cells hown (g := g) rfl
        have h6 := h63; simp only [maxLen] at h6
        have hr2 := run_append_grow (P := P) w t ty e i z ht hi hz ⟨g, 0, none⟩ n cap xs hown.1 holds a m c news hl hnews (by omega) (by omega) (growslice_fits (by omega) hbytes)
        rw [hr2] at hr
        injection hr with e1 e2
        subst e1
        exact Or.inr rfl

/-- Guarded, and wanted. -/
theorem wpList_append_want (w : World) {ops : Array Oper} {rest : List Oper} {o : Oper} {a : Act} {Q : Exit → Act → World → Prop} (hgd : Region.wanted o (yielded ops a.tmps) = true) (s x : Operand) (t : TypeId)
    (ho : o.op = .call { callee := .builtin .append, args := #[s, x], argTypes := #[t, t] })
    (e : TypeId) (i : TypeInfo) (z : Value) (size bytes : Nat) (ht : P.underlying t = some (.slice e)) (hi : P.info? e = some i) (hz : i.zero = some z)
    (hsize : i.size = size) (hby : i.bytes = bytes) (hzs : z.cells.size = size) (hsz : 0 < size)
    (v : Value) (n : Nat) (xs : List Value) (hs : a.eval s = v) (hown : Own w e size v n xs) (y : Value) (m : Nat) (news : List Value) (hx : a.eval x = y) (hy : RdC w y m news) (hl : news.length = m * size) (h1 : ∀ u ∈ news, u.oneCell' = true)
    (h63 : n + m ≤ maxLen) (hbytes : (n + m) * bytes ≤ 140737488355328)
    (h : ∀ v' w', Own w' e size v' (n + m) (xs ++ news) → w.grownBy w' v.ownBlock → (v'.ownBlock = v.ownBlock ∨ v'.ownBlock = some w.heap.size) → wpList P ops Q rest (a.put o.dst v') w') : wpList P ops Q (o :: rest) a w := by
  refine wpList_step fun K hK => ?_
  rw [if_pos hgd]
  obtain ⟨v', w', hr, h2, h3, h4⟩ := run_append_sep (P := P) w t o.type e i z size bytes ht hi hz hsize hby hzs hsz v n xs hown y m news hy hl h1 h63 hbytes
  unfold Oper.wp execOp
  simp only [ho, resolve, invoke, builtin, Sem.run_bind, Sem.run_pure, Result.andThen_ok, List.map_toArray, List.map_cons, List.map_nil, hs, hx, hr]
  exact hK _ _ (h v' w' h2 h3 h4)
theorem wpList_append_sep (w : World) {ops : Array Oper} {rest : List Oper} {o : Oper} {a : Act} {Q : Exit → Act → World → Prop} (hgd : o.guard = none) (s x : Operand) (t : TypeId)
    (ho : o.op = .call { callee := .builtin .append, args := #[s, x], argTypes := #[t, t] })
    (e : TypeId) (i : TypeInfo) (z : Value) (size bytes : Nat) (ht : P.underlying t = some (.slice e)) (hi : P.info? e = some i) (hz : i.zero = some z)
    (hsize : i.size = size) (hby : i.bytes = bytes) (hzs : z.cells.size = size) (hsz : 0 < size)
    (v : Value) (n : Nat) (xs : List Value) (hs : a.eval s = v) (hown : Own w e size v n xs) (y : Value) (m : Nat) (news : List Value) (hx : a.eval x = y) (hy : RdC w y m news) (hl : news.length = m * size) (h1 : ∀ u ∈ news, u.oneCell' = true)
    (h63 : n + m ≤ maxLen) (hbytes : (n + m) * bytes ≤ 140737488355328)
    (h : ∀ v' w', Own w' e size v' (n + m) (xs ++ news) → w.grownBy w' v.ownBlock → (v'.ownBlock = v.ownBlock ∨ v'.ownBlock = some w.heap.size) → wpList P ops Q rest (a.put o.dst v') w') : wpList P ops Q (o :: rest) a w :=
  wpList_append_want w (by simp [Region.wanted, hgd]) s x t ho e i z size bytes ht hi hz hsize hby hzs hsz v n xs hs hown y m news hx hy hl h1 h63 hbytes h
end

end Go.Proofs.YtkjpmkopnkkbmaaGreatDoor
