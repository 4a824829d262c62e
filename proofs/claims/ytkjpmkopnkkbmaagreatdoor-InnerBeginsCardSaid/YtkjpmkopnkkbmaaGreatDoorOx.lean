/- A slice that may be written, wherever it lies in its block: what it reads, append onto it, what is cut off at its head, cleared. Over any program. -/
import Derived.Test.YtkjpmkopnkkbmaaGreatDoorHp
import Derived.ArgAppend
namespace Go.Proofs.YtkjpmkopnkkbmaaGreatDoor
open Go.RowKit

variable {α : Type}
/-- s reads as xs, and all its room is there and may be written. -/
structure Ox (E : Enc α) (w : World) (s : Sl) (xs : List α) : Prop where
  rd : Rd E w s xs
  room : ∀ a, s.ptr = some a → a.spot = none ∧ ∀ j, j < s.cap * E.sz → (w.cell? (a.add j)).isSome = true ∧ w.frozen? (a.add j) = false
  lt : ∀ k, s.blk = some k → k < w.heap.size
theorem Ox.nil (E : Enc α) (w : World) : Ox E w nilS [] := ⟨Rd.nil E w, (fun a h => by cases h), (fun k h => by cases h)⟩
theorem blk_ptr {s : Sl} {a : Addr} (h : s.ptr = some a) : s.blk = some a.block := by unfold Sl.blk Sl.val; rw [h]; rfl
theorem frozen_chg {S : Nat → Prop} {w w' : World} (c : Chg S w w') {a : Addr} (hlt : a.block < w.heap.size) (hS : ¬ S a.block) : w'.frozen? a = w.frozen? a := by
  unfold World.frozen?; rw [c.block _ hlt hS]
theorem Ox.chg {E : Enc α} {S : Nat → Prop} {w w' : World} {s : Sl} {xs : List α} (h : Ox E w s xs) (c : Chg S w w') (hS : ∀ k, s.blk = some k → ¬ S k) : Ox E w' s xs := by
  refine ⟨h.rd.chg c hS, fun a ha => ⟨(h.room a ha).1, fun j hj => ?_⟩, fun k hk => Nat.lt_of_lt_of_le (h.lt k hk) c.size⟩
  obtain ⟨h1, h2⟩ := (h.room a ha).2 j hj
  have hb := blk_ptr ha
  have hne := hS _ hb
  have hlt := h.lt _ hb
  refine ⟨?_, ?_⟩
  · obtain ⟨u, hu⟩ := Option.isSome_iff_exists.1 h1
    rw [c.cell hu (by rw [add_block]; exact hne)]; rfl
  · rw [frozen_chg c (by rw [add_block]; exact hlt) (by rw [add_block]; exact hne)]; exact h2
theorem Ox.no {E : Enc α} {w w' : World} {s : Sl} {xs : List α} (h : Ox E w s xs) (c : Chg No w w') : Ox E w' s xs := h.chg c (fun _ _ h => h)
theorem Ox.qt {E : Enc α} {w w' : World} {s : Sl} {xs : List α} (h : Ox E w s xs) (c : Qt w w') : Ox E w' s xs := h.no (Chg.qt c)
theorem Ow.ox {E : Enc α} {w : World} {s : Sl} {xs : List α} (h : Ow E w s xs) : Ox E w s xs := by
  refine ⟨h.rd, fun a ha => ?_, fun k hk => h.lt hk⟩
  rcases h.2 with ⟨h1, _⟩ | ⟨g, cap, cur, h1, _, hg, hnc, hcm, hcs, _⟩
  · have : s.ptr = none := by cases s; simp [Sl.val] at h1; exact h1.1
    rw [this] at ha; cases ha
  · have hp : s.ptr = some ⟨g, 0, none⟩ ∧ s.cap = cap := by cases s; simp [Sl.val] at h1; exact ⟨h1.1, h1.2.2⟩
    rw [hp.1] at ha; cases ha
    refine ⟨rfl, fun j hj => ?_⟩
    rw [hp.2, ← hcs] at hj
    rw [add_mk, Nat.zero_add]
    refine ⟨?_, ?_⟩
    · simp [World.cell?, hg, Array.getElem?_eq_getElem hj]
    · simp [World.frozen?, hg]
theorem chg_setCells {b : Nat} : ∀ (vs : List Value) (o : Nat) (w : World), Chg (fun k => k = b) w (w.setCells b o vs)
  | [], _, w => Chg.refl _ _
  | v :: r, o, w => (Chg.setCell (S := fun k => k = b) w ⟨b, o, none⟩ v (Or.inl rfl)).trans (chg_setCells r (o + 1) _) (fun _ _ h => h) (fun _ _ h => h)
theorem add_at {a : Addr} (h : a.spot = none) (j : Nat) : a.add j = ⟨a.block, a.off + j, none⟩ := by
  obtain ⟨b, o, s⟩ := a
  cases h
  exact add_mk b o j
/-- What is written into the room of a slice, from its element n on. -/
theorem Ox.put {E : Enc α} {w : World} {s : Sl} {xs : List α} (h : Ox E w s xs) {a : Addr} (ha : s.ptr = some a) {n : Nat} (hn : n ≤ xs.length) {ys : List α} (hroom : n + ys.length ≤ s.cap) :
    Ox E (w.setCells a.block (a.off + n * E.sz) (fl E ys)) ⟨s.ptr, n + ys.length, s.cap⟩ (xs.take n ++ ys) := by
  obtain ⟨hsp, hr⟩ := h.room a ha
  have hfl := fl_length E ys
  have hmul : (n + ys.length) * E.sz ≤ s.cap * E.sz := Nat.mul_le_mul_right _ hroom
  have hsome : ∀ j, j < s.cap * E.sz → ((w.setCells a.block (a.off + n * E.sz) (fl E ys)).cell? (a.add j)).isSome = true := by
    intro j hj
    rw [add_at hsp]
    by_cases hin : n * E.sz ≤ j ∧ j < n * E.sz + (fl E ys).length
    · obtain ⟨d, rfl⟩ : ∃ d, j = n * E.sz + d := ⟨j - n * E.sz, by omega⟩
      have := World.cell?_setCells_in a.block (fl E ys) (a.off + n * E.sz) w (fun i hi => by
        have := (hr (n * E.sz + i) (by rw [Nat.add_mul] at hmul; omega)).1
        rw [add_at hsp, ← Nat.add_assoc] at this; exact this) d (by omega)
      rw [← Nat.add_assoc, this]; rfl
    · rw [World.cell?_setCells_out a.block (fl E ys) (a.off + n * E.sz) w _ (fun _ _ => by show a.off + j < _ ∨ _ ≤ a.off + j; omega), ← add_at hsp]
      exact (hr j hj).1
  refine ⟨?_, fun a' ha' => ?_, fun k hk => ?_⟩
  · have hl : (xs.take n ++ ys).length = n + ys.length := by rw [List.length_append, List.length_take]; omega
    refine ⟨s.ptr, s.cap, (by rw [hl]), (by rw [hl]; exact hroom), (by have := h.rd.capL.2; unfold maxLen; omega), (fun hno => by rw [ha] at hno; cases hno), fun j u hu => ⟨a, ha, ?_⟩⟩
    rw [fl_append, List.getElem?_append] at hu
    have hlt : (fl E (xs.take n)).length = n * E.sz := by rw [fl_length, List.length_take]; congr 1; omega
    rw [hlt] at hu
    rw [add_at hsp]
    split at hu
    · rename_i hj
      rw [World.cell?_setCells_out a.block (fl E ys) (a.off + n * E.sz) w _ (fun _ _ => by show a.off + j < _ ∨ _ ≤ a.off + j; omega), ← add_at hsp]
      obtain ⟨ao, cap, he, _, _, _, h4⟩ := h.rd
      have hp : s.ptr = ao := by cases s; simp [Sl.val] at he; exact he.1
      obtain ⟨a2, ha2, hc⟩ := h4 j u (by
        rw [← List.take_append_drop n xs, fl_append, List.getElem?_append_left (by omega)]; exact hu)
      rw [← hp, ha] at ha2; cases ha2
      exact hc
    · rename_i hj
      obtain ⟨hlt2, hget⟩ := List.getElem?_eq_some_iff.1 hu
      have := World.cell?_setCells_in a.block (fl E ys) (a.off + n * E.sz) w (fun i hi => by
        have := (hr (n * E.sz + i) (by rw [Nat.add_mul] at hmul; omega)).1
        rw [add_at hsp, ← Nat.add_assoc] at this; exact this) (j - n * E.sz) hlt2
      rw [show a.off + n * E.sz + (j - n * E.sz) = a.off + j by omega] at this
      rw [this, hget]
  · have ha' : s.ptr = some a' := ha'
    rw [ha] at ha'; cases ha'
    refine ⟨hsp, fun j hj => ⟨hsome j hj, ?_⟩⟩
    rw [World.frozen?_setCells]; exact (hr j hj).2
  · have hk : s.blk = some k := by rw [← hk]; unfold Sl.blk Sl.val; cases s.ptr <;> rfl
    exact Nat.lt_of_lt_of_le (h.lt k hk) (chg_setCells _ _ _).size
theorem sub_blk (s : Sl) (m n sz : Nat) : (Sl.sub s.ptr s.cap m n sz).blk = s.blk := by
  unfold Sl.sub Sl.blk Sl.val
  split
  · cases s.ptr <;> rfl
  · cases hp : s.ptr with
    | none => simp [Value.ownBlock]
    | some a => simp [Value.ownBlock, add_block]
/-- What is behind the first m. -/
theorem Ox.drop {E : Enc α} {w : World} {s : Sl} {xs : List α} (h : Ox E w s xs) {m : Nat} (hm : m ≤ xs.length) : Ox E w (Sl.sub s.ptr s.cap m xs.length E.sz) (xs.drop m) := by
  have hcap := h.rd.capL
  refine ⟨h.rd.drop hm, fun a ha => ?_, fun k hk => h.lt k (by rw [← hk, sub_blk])⟩
  unfold Sl.sub at ha ⊢
  by_cases hc : s.cap = m
  · rw [if_pos hc] at ha ⊢
    refine ⟨(h.room a ha).1, fun j hj => ?_⟩
    have hz : s.cap - m = 0 := by omega
    simp only [hz, Nat.zero_mul] at hj
    omega
  · rw [if_neg hc] at ha ⊢
    cases hp : s.ptr with
    | none => rw [hp] at ha; cases ha
    | some b =>
      rw [hp] at ha
      obtain rfl : b.add (m * E.sz) = a := Option.some.inj ha
      obtain ⟨h1, h2⟩ := h.room b hp
      refine ⟨by rw [add_at h1], fun j hj => ?_⟩
      rw [add_add]
      refine h2 _ ?_
      have hj : j < (s.cap - m) * E.sz := hj
      have : m * E.sz + (s.cap - m) * E.sz = s.cap * E.sz := by rw [← Nat.add_mul]; congr 1; omega
      omega
theorem Ox.take {E : Enc α} {w : World} {s : Sl} {xs : List α} (h : Ox E w s xs) {n : Nat} (hn : n ≤ xs.length) : Ox E w ⟨s.ptr, n, s.cap⟩ (xs.take n) :=
  ⟨h.rd.take hn, fun a ha => h.room a ha, fun k hk => h.lt k (by rw [← hk]; unfold Sl.blk Sl.val; cases s.ptr <;> rfl)⟩
theorem stW_setCells {a : Addr} (h : a.spot = none) : ∀ (vs : List Value) (i : Nat) (w : World), stW w a i vs = w.setCells a.block (a.off + i) vs
  | [], _, _ => rfl
  | v :: r, i, w => by
    show stW (w.setCell (a.add i) v) a (i + 1) r = (w.setCell ⟨a.block, a.off + i, none⟩ v).setCells a.block (a.off + i + 1) r
    rw [stW_setCells h r (i + 1), add_at h]; rfl
/-- One element written. -/
theorem Ox.set {E : Enc α} {w : World} {s : Sl} {xs : List α} (h : Ox E w s xs) {a : Addr} (ha : s.ptr = some a) {k : Nat} (hk : k < xs.length) (x : α) :
    wrOk w (a.add (k * E.sz)) E.sz ∧ Ox E (stW w (a.add (k * E.sz)) 0 (E.e x)) s (xs.set k x) := by
  obtain ⟨hsp, hr⟩ := h.room a ha
  have hcap := h.rd.capL
  have hmul : (k + 1) * E.sz ≤ s.cap * E.sz := Nat.mul_le_mul_right _ (by omega)
  rw [Nat.succ_mul] at hmul
  have hw : stW w (a.add (k * E.sz)) 0 (E.e x) = w.setCells a.block (a.off + k * E.sz) (E.e x) := by
    rw [stW_setCells (by rw [add_at hsp]), add_at hsp]; rfl
  have hin : ∀ i, i < (E.e x).length → (w.cell? ⟨a.block, a.off + k * E.sz + i, none⟩).isSome = true := fun i hi => by
    rw [E.len] at hi
    have := (hr (k * E.sz + i) (by omega)).1
    rw [add_at hsp, ← Nat.add_assoc] at this; exact this
  have hel := E.len x
  refine ⟨fun i hi => ?_, ?_⟩
  · rw [add_add]
    obtain ⟨h1, h2⟩ := hr (k * E.sz + i) (by omega)
    exact ⟨Option.isSome_iff_exists.1 h1, h2⟩
  rw [hw]
  refine ⟨?_, fun b hb => ⟨(h.room b hb).1, fun j hj => ⟨?_, ?_⟩⟩, fun j hj => Nat.lt_of_lt_of_le (h.lt j hj) (chg_setCells _ _ _).size⟩
  · obtain ⟨ao, cap, he, h1, h2, h3, h4⟩ := h.rd
    have hp : s.ptr = ao := by cases s; simp [Sl.val] at he; exact he.1
    refine ⟨ao, cap, by rw [List.length_set]; exact he, by rw [List.length_set]; exact h1, h2, fun hno => by rw [List.length_set]; exact h3 hno, fun j u hu => ⟨a, hp ▸ ha, ?_⟩⟩
    have hsplit : xs.set k x = xs.take k ++ x :: xs.drop (k + 1) := List.set_eq_take_append_cons_drop.trans (if_pos hk)
    have hsplit2 : xs = xs.take k ++ xs[k] :: xs.drop (k + 1) := by
      rw [← List.drop_eq_getElem_cons hk, List.take_append_drop]
    have hlt : (fl E (xs.take k)).length = k * E.sz := by rw [fl_length, List.length_take]; congr 1; omega
    rw [hsplit, fl_append, fl_cons] at hu
    rw [add_at hsp]
    by_cases hj : k * E.sz ≤ j ∧ j < k * E.sz + E.sz
    · rw [List.getElem?_append_right (by omega), hlt, List.getElem?_append_left (by omega)] at hu
      obtain ⟨hlt2, hget⟩ := List.getElem?_eq_some_iff.1 hu
      have := World.cell?_setCells_in a.block (E.e x) (a.off + k * E.sz) w hin (j - k * E.sz) hlt2
      rw [show a.off + k * E.sz + (j - k * E.sz) = a.off + j by omega] at this
      rw [this, hget]
    · rw [World.cell?_setCells_out a.block (E.e x) (a.off + k * E.sz) w _ (fun _ _ => by show a.off + j < _ ∨ _ ≤ a.off + j; omega), ← add_at hsp]
      have hu2 : (fl E xs)[j]? = some u := by
        rw [hsplit2, fl_append, fl_cons]
        by_cases hj2 : j < k * E.sz
        · rw [List.getElem?_append_left (by omega)] at hu ⊢; exact hu
        · rw [List.getElem?_append_right (by omega), hlt, List.getElem?_append_right (by rw [E.len]; omega), E.len] at hu ⊢; exact hu
      obtain ⟨a2, ha2, hc⟩ := h4 j u hu2
      rw [← hp, ha] at ha2; cases ha2
      exact hc
  · rw [ha] at hb; cases hb
    rw [add_at hsp]
    by_cases hj2 : k * E.sz ≤ j ∧ j < k * E.sz + E.sz
    · have := World.cell?_setCells_in a.block (E.e x) (a.off + k * E.sz) w hin (j - k * E.sz) (by omega)
      rw [show a.off + k * E.sz + (j - k * E.sz) = a.off + j by omega] at this
      rw [this]; rfl
    · rw [World.cell?_setCells_out a.block (E.e x) (a.off + k * E.sz) w _ (fun _ _ => by show a.off + j < _ ∨ _ ≤ a.off + j; omega), ← add_at hsp]
      exact (hr j hj).1
  · rw [World.frozen?_setCells]; exact ((h.room b hb).2 j hj).2
theorem Rd.cells {E : Enc α} {w : World} {s : Sl} {xs : List α} (h : Rd E w s xs) {a : Addr} (ha : s.ptr = some a) : ∀ j u, (fl E xs)[j]? = some u → w.cell? (a.add j) = some u := by
  obtain ⟨ao, cap, he, _, _, _, h4⟩ := h
  have hp : s.ptr = ao := by cases s; simp [Sl.val] at he; exact he.1
  intro j u hu
  obtain ⟨a2, ha2, hc⟩ := h4 j u hu
  rw [← hp, ha] at ha2; cases ha2
  exact hc
theorem val_eq (s : Sl) : s.val = .slice s.ptr s.len s.cap := rfl
section
variable {P : Program}
/-- append onto a slice that may be written; what was read of it is still read. -/
theorem appk_ok {E : Enc α} {T : TypeId} (ok : EncOk P E T) {w : World} {s t : Sl} {v y : Value} {xs ys : List α} (hv : v = s.val) (hy : y = t.val) (hs : Ox E w s xs) (ht : Rd E w t ys) {at' : Addr} (htp : t.ptr = some at') (h0 : s.ptr = none → ys ≠ []) (hb : (xs.length + ys.length) * E.bytes ≤ 140737488355328) (hb2 : xs.length + ys.length ≤ maxLen)
    {G : Sl → World → Prop} (k : ∀ (s' : Sl) (w' : World), Ox E w' s' (xs ++ ys) → Chg (fun k => s.blk = some k) w w' → (s'.blk = s.blk ∨ ∀ k, s'.blk = some k → w.heap.size ≤ k) → (xs.length + ys.length ≤ s.cap → s'.ptr = s.ptr ∧ s'.cap = s.cap) → Rd E w' s xs → (s.cap < xs.length + ys.length → ∀ k, s'.blk = some k → w.heap.size ≤ k) → G s' w') :
    ∃ s' : Sl, ∃ w' : World, (Builtin.append_ #[T, T] T #[v, y]).run P w = .ok s'.val w' ∧ G s' w' := by
  subst hv hy
  obtain ⟨i, z, hi, hz, h1, h2, h3⟩ := ok.info
  have hsl := hs.rd.len
  have htl := ht.len
  have hcap := hs.rd.capL
  rw [val_eq t, htp]
  cases hp : s.ptr with
  | none =>
    have hys := h0 hp
    have hnil : xs.length = 0 ∧ s.cap = 0 := by
      obtain ⟨ao, cap, he, _, _, h5, _⟩ := hs.rd
      have hq : s.ptr = ao ∧ s.cap = cap := by cases s; simp [Sl.val] at he; exact ⟨he.1, he.2.2⟩
      have := h5 (hq.1.symm.trans hp)
      exact ⟨this.1, hq.2.trans this.2⟩
    have hx : xs = [] := List.eq_nil_of_length_eq_zero hnil.1
    subst hx
    have hpos : 0 < ys.length := List.length_pos_iff.2 hys
    obtain ⟨v', w', hr, ho, hg, hbk⟩ := run_append_sep (P := P) w T T E.t i z E.sz E.bytes ok.und hi hz h1 h2 h3 E.pos s.val 0 [] (by
      rw [val_eq, hp, hnil.2]; have : s.len = 0 := by rw [hsl]; rfl
      rw [this]; exact Own.nil w _ _) t.val ys.length (fl E ys) ht (fl_length E ys) (fl_oneCell E ys) (by have h9 : ([] : List α).length + ys.length ≤ maxLen := hb2; rw [List.length_nil] at h9; exact h9) (by have h9 : (([] : List α).length + ys.length) * E.bytes ≤ 140737488355328 := hb; rw [List.length_nil] at h9; exact h9)
    obtain ⟨ao, cap, rfl⟩ := Own.form ho
    have ho' : Ow E w' ⟨ao, ys.length, cap⟩ ys := by
      have := ho; simp only [Nat.zero_add, List.nil_append] at this; exact this
    refine ⟨⟨ao, ys.length, cap⟩, w', ?_, k _ _ ho'.ox (Chg.grown hg (fun k hk => by
      exact hk)) ?_ (fun hle => absurd hle (by rw [hnil.2, List.length_nil]; omega)) (by
        have hz : s = nilS := by
          have h0' : s.len = 0 := hsl
          cases s; simp at hp h0'; have := hnil.2; simp at this; subst hp h0' this; rfl
        rw [hz]; exact Rd.nil E w') (fun _ k hk => by
        have h8 : (⟨ao, ys.length, cap⟩ : Sl).blk = (Value.slice ao (0 + ys.length) cap).ownBlock := by unfold Sl.blk Sl.val; cases ao <;> rfl
        rw [h8] at hk
        rcases hbk with h | h
        · rw [h, val_eq, hp] at hk; cases hk
        · rw [h] at hk; cases hk; exact Nat.le_refl _)⟩
    · rw [val_eq t, htp] at hr
      simpa [Sl.val] using hr
    · rcases hbk with h | h
      · left
        have h' : (⟨ao, ys.length, cap⟩ : Sl).blk = s.blk := by
          rw [show (⟨ao, ys.length, cap⟩ : Sl).blk = (Value.slice ao (0 + ys.length) cap).ownBlock from by unfold Sl.blk Sl.val; cases ao <;> rfl, h]; rfl
        exact h'
      · right; intro k hk
        have h' : (⟨ao, ys.length, cap⟩ : Sl).blk = some w.heap.size := by
          rw [show (⟨ao, ys.length, cap⟩ : Sl).blk = (Value.slice ao (0 + ys.length) cap).ownBlock from by unfold Sl.blk Sl.val; cases ao <;> rfl, h]
        rw [h'] at hk; cases hk; exact Nat.le_refl _
  | some b =>
    have hbs := (hs.room b hp).1
    by_cases hroom : xs.length + ys.length ≤ s.cap
    · have hr := run_append_room_cells (P := P) w T T E.t i ok.und hi b.block b.off xs.length s.cap at' ys.length t.cap (fl E ys) (by rw [h1]; exact fl_length E ys) (ht.cells htp) (fl_oneCell E ys) hroom (fun j hj => by
          have hj2 : xs.length * E.sz + j < s.cap * E.sz := by
            have := Nat.mul_le_mul_right E.sz hroom
            rw [fl_length] at hj
            rw [Nat.add_mul] at this; omega
          have := ((hs.room b hp).2 _ hj2).1
          rw [add_at hbs, ← Nat.add_assoc] at this; rw [h1]; exact this) (fun j hj => by
          have hj2 : xs.length * E.sz + j < s.cap * E.sz := by
            have := Nat.mul_le_mul_right E.sz hroom
            rw [fl_length] at hj
            rw [Nat.add_mul] at this; omega
          have := ((hs.room b hp).2 _ hj2).2
          rw [add_at hbs, ← Nat.add_assoc] at this; rw [h1]; exact this)
      have hbe : b = ⟨b.block, b.off, none⟩ := by obtain ⟨b1, b2, b3⟩ := b; cases hbs; rfl
      rw [h1] at hr
      have hput := hs.put hp (Nat.le_refl _) (ys := ys) hroom
      rw [List.take_length] at hput
      refine ⟨⟨s.ptr, xs.length + ys.length, s.cap⟩, _, ?_, k _ _ hput ?_ (Or.inl ?_) (fun _ => ⟨rfl, rfl⟩) ?_ (fun h => by omega)⟩
      · rw [val_eq s, hp, hsl, htl, hbe, hr]
      · exact (chg_setCells _ _ _).mono (fun k _ hk => by rw [hk]; exact blk_ptr hp)
      · unfold Sl.blk Sl.val; cases s.ptr <;> rfl
      · have h9 := hput.rd.take (n := xs.length) (by rw [List.length_append]; omega)
        rw [List.take_left' rfl] at h9
        have e9 : (⟨s.ptr, xs.length, s.cap⟩ : Sl) = s := by rw [← hsl]
        rw [← e9]; exact h9
    · obtain ⟨v', w', hr, ho, hg⟩ := run_append_arg_grows (P := P) w T T E.t i z E.sz E.bytes ok.und hi hz h1 h2 h3 E.pos b xs.length s.cap (fl E xs) (fl_length E xs) (hs.rd.cells hp) at' ys.length t.cap (fl E ys) (fl_length E ys) (ht.cells htp) (by omega) hb2 hb
      have ho' : Own w' E.t E.sz v' (xs.length + ys.length) (fl E xs ++ fl E ys) := ⟨ho.1, ho.2.imp id fun ⟨g, cap, cur, q1, _, q3⟩ => ⟨g, cap, cur, q1, Nat.zero_le _, q3⟩⟩
      obtain ⟨ao, cap, rfl⟩ := Own.form ho'
      have ho2 : Ow E w' ⟨ao, xs.length + ys.length, cap⟩ (xs ++ ys) := by
        unfold Ow; rw [List.length_append, fl_append]; exact ho'
      refine ⟨⟨ao, xs.length + ys.length, cap⟩, w', ?_, k _ _ ho2.ox (Chg.grown hg (fun k hk => by cases hk)) (Or.inr fun k hk => ?_) (fun h => absurd h hroom) (hs.rd.chg (Chg.grown (S := No) hg (fun k hk => by cases hk)) (fun _ _ h => h)) (fun _ k hk => (World.ownsRow.lt ho k hk).1)⟩
      · rw [val_eq s, hp, hsl, htl, hr, val_eq]
      · exact (World.ownsRow.lt ho k hk).1
theorem appx_ok {E : Enc α} {T : TypeId} (ok : EncOk P E T) {w : World} {s t : Sl} {v y : Value} {xs ys : List α} (hv : v = s.val) (hy : y = t.val) (hs : Ox E w s xs) (ht : Rd E w t ys) {at' : Addr} (htp : t.ptr = some at') (h0 : s.ptr = none → ys ≠ []) (hb : (xs.length + ys.length) * E.bytes ≤ 140737488355328) (hb2 : xs.length + ys.length ≤ maxLen)
    {G : Sl → World → Prop} (k : ∀ (s' : Sl) (w' : World), Ox E w' s' (xs ++ ys) → Chg (fun k => s.blk = some k) w w' → (s'.blk = s.blk ∨ ∀ k, s'.blk = some k → w.heap.size ≤ k) → (xs.length + ys.length ≤ s.cap → s'.ptr = s.ptr ∧ s'.cap = s.cap) → G s' w') :
    ∃ s' : Sl, ∃ w' : World, (Builtin.append_ #[T, T] T #[v, y]).run P w = .ok s'.val w' ∧ G s' w' :=
  appk_ok ok hv hy hs ht htp h0 hb hb2 fun s' w' h1 h2 h3 h4 _ _ => k s' w' h1 h2 h3 h4
end
end Go.Proofs.YtkjpmkopnkkbmaaGreatDoor
