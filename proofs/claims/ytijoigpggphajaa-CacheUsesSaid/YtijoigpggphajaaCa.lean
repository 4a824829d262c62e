/- The cache: what it holds; place, Len, Has, New; slices.Delete. -/
import Derived.Test.YtijoigpggphajaaOwnT
set_option maxRecDepth 100000
namespace Go.Proofs.Ytijoigpggphajaa
open Go.RowKit

/-- Cache c holds the traces vs, the eldest first; all of it lies in blocks of B. -/
def CAt (B : Nat → Prop) (w : World) (c : Nat) (most : Int) (vs : List TrV) : Prop :=
  ∃ (s : Sl) (l : List Tr), Ob w c [.int .i64 most, s.val] T_cache_Cache ∧ Ox trE w s l ∧ B c ∧ (∀ k, s.blk = some k → B k ∧ k ≠ c) ∧ l.length = vs.length ∧
    ∀ (i : Nat) (t : Tr) (v : TrV), l[i]? = some t → vs[i]? = some v → TrIs (fun k => B k ∧ k < w.heap.size ∧ k ≠ c ∧ s.blk ≠ some k) w t v ∧ SmV v
theorem CAt.chg {B S : Nat → Prop} {w w' : World} {c : Nat} {most : Int} {vs : List TrV} (h : CAt B w c most vs) (k : Chg S w w') (hS : ∀ k, B k → ¬ S k) : CAt B w' c most vs := by
  obtain ⟨s, l, h1, h2, h3, h4, h5, h6⟩ := h
  refine ⟨s, l, h1.chg k (hS _ h3), h2.chg k (fun j hj => hS _ (h4 j hj).1), h3, h4, h5, fun i t v hi hv => ?_⟩
  obtain ⟨a, b⟩ := h6 i t v hi hv
  exact ⟨(a.chg k (fun j hj => hS _ hj.1)).wid (fun j hj => ⟨hj.1, Nat.lt_of_lt_of_le hj.2.1 k.size, hj.2.2⟩), b⟩
theorem CAt.no {B : Nat → Prop} {w w' : World} {c : Nat} {most : Int} {vs : List TrV} (h : CAt B w c most vs) (k : Chg No w w') : CAt B w' c most vs := h.chg k (fun _ _ h => h)
theorem CAt.nar {B : Nat → Prop} {w : World} {c : Nat} {most : Int} {vs : List TrV} (h : CAt B w c most vs) : CAt (fun k => B k ∧ k < w.heap.size) w c most vs := by
  obtain ⟨s, l, h1, h2, h3, h4, h5, h6⟩ := h
  refine ⟨s, l, h1, h2, ⟨h3, h1.lt⟩, fun k hk => ⟨⟨(h4 k hk).1, h2.lt k hk⟩, (h4 k hk).2⟩, h5, fun i t v hi hv => ?_⟩
  obtain ⟨a, b⟩ := h6 i t v hi hv
  exact ⟨a.wid (fun j hj => ⟨⟨hj.1, hj.2.1⟩, hj.2⟩), b⟩
theorem CAt.wid {B C : Nat → Prop} {w : World} {c : Nat} {most : Int} {vs : List TrV} (h : CAt B w c most vs) (hc : ∀ k, B k → C k) : CAt C w c most vs := by
  obtain ⟨s, l, h1, h2, h3, h4, h5, h6⟩ := h
  refine ⟨s, l, h1, h2, hc _ h3, fun k hk => ⟨hc _ (h4 k hk).1, (h4 k hk).2⟩, h5, fun i t v hi hv => ?_⟩
  obtain ⟨a, b⟩ := h6 i t v hi hv
  exact ⟨a.wid (fun j hj => ⟨hc _ hj.1, hj.2⟩), b⟩
theorem starts_eq {D : Nat → Prop} {w : World} {l : List Tr} {vs : List TrV} (h5 : l.length = vs.length) (h6 : ∀ (i : Nat) (t : Tr) (v : TrV), l[i]? = some t → vs[i]? = some v → TrIs D w t v ∧ SmV v) : l.map (·.start) = vs.map (·.start) := by
  refine List.ext_getElem? fun i => ?_
  rw [List.getElem?_map, List.getElem?_map]
  by_cases hi : i < l.length
  · rw [List.getElem?_eq_getElem hi, List.getElem?_eq_getElem (by omega)]
    have := (h6 i _ _ (List.getElem?_eq_getElem hi) (List.getElem?_eq_getElem (by omega))).1.nums.1
    simp [this]
  · rw [List.getElem?_eq_none (by omega), List.getElem?_eq_none (by omega)]; rfl
/-- Where x stands in xs; -1: nowhere. -/
def PlaceS (x : Int) (xs : List Int) (n : Int) : Prop := (n = -1 ∧ x ∉ xs) ∨ ∃ k : Nat, n = k ∧ xs[k]? = some x ∧ ∀ j : Nat, j < k → xs[j]? ≠ some x
theorem clos_any (t : Tr) (b : Nat) (x : Int) (w : World) (h : Ob w b [.int .i64 x] T_int) : Calls Try.prog fn_cache_Cache_place_1 #[.agg (trC t).toArray, .pointer (some ⟨b, 0, none⟩)] w fun e w' => e = .returned (.bool (t.start == x)) ∧ Chg No w w' := by
  refine (cache_Cache_place_1_lift (K := fun v w' => v = .bool (t.start == x) ∧ Chg No w w') ?_).mono (by rintro e w' ⟨v, rfl, rfl, h⟩; exact ⟨rfl, h⟩)
  unfold cache_Cache_place_1_sh
  intro b11 w12 hb hw
  have ho : Ob w12 b11 (trC t) T_api_Trace := by rw [hw, hb]; exact Ob.new w (trC t) T_api_Trace
  have hc : Chg No w w12 := by rw [hw]; exact Chg.alloc _ _ _
  exact ⟨_, ho.cell rfl, _, (h.no hc).cell rfl, rfl, hc⟩
theorem index_any {w : World} {s : Sl} {l : List Tr} (h : Rd trE w s l) (b : Nat) (x : Int) (ho : Ob w b [.int .i64 x] T_int) : Calls Try.prog fn_slices_IndexFunc_sl_api_Trace_api_Trace #[s.val, .func (.func fn_cache_Cache_place_1) #[] #[.pointer (some ⟨b, 0, none⟩)]] w fun e w' => ∃ n : Int, e = .returned (.int .i64 n) ∧ PlaceS x (l.map (·.start)) n ∧ Chg No w w' := by
  refine (slices_IndexFunc_sl_api_Trace_api_Trace_at_cache_Cache_place_1_lift (K := fun v w' => ∃ n : Int, v = .int .i64 n ∧ PlaceS x (l.map (·.start)) n ∧ Chg No w w') ?_).mono (by rintro e w' ⟨v, rfl, n, rfl, h⟩; exact ⟨n, rfl, h⟩)
  unfold slices_IndexFunc_sl_api_Trace_api_Trace_at_cache_Cache_place_1_sh
  have hlen := h.len
  have hcap := h.capL
  have e0 : ∀ q : Addr, q.add 0 = q := fun q => by unfold Addr.add; simp
  refine ⟨fun n w' => ∃ k : Nat, n = k ∧ k ≤ l.length ∧ (∀ j : Nat, j < k → (l.map (·.start))[j]? ≠ some x) ∧ Chg No w w', fun n _ => l.length - n.toNat, ⟨0, rfl, Nat.zero_le _, fun j h => by omega, Chg.refl _ _⟩, ?_⟩
  rintro n w3 ⟨k, rfl, hk, hj, hc⟩
  refine brB_of (fun hlt => ?_) (fun hlt => ?_)
  · have hlt : k < l.length := by simp at hlt; omega
    obtain ⟨t, ht⟩ : ∃ t, l[k]? = some t := ⟨_, List.getElem?_eq_getElem hlt⟩
    refine (h.no hc).ix (by omega) (by rw [Int.toNat_natCast]; exact ht) fun a ha hcell => ?_
    have c0 := hcell 0 _ rfl
    rw [e0] at c0
    refine ⟨_, _, _, _, _, t.ins, t.outs, _, t.cells, c0, hcell 1 _ rfl, hcell 2 _ rfl, hcell 3 _ rfl, hcell 4 _ rfl, hcell 5 _ rfl, hcell 6 _ rfl, hcell 7 _ rfl, hcell 8 _ rfl, ?_⟩
    refine (clos_any t b x w3 (ho.no hc)).mono ?_
    rintro e w16 ⟨rfl, hc16⟩
    have hc2 := hc.trans hc16 (U := No) (fun _ _ h => h) (fun _ _ h => h)
    have hm : (l.map (·.start))[k]? = some t.start := by rw [List.getElem?_map, ht]; rfl
    refine ⟨_, rfl, brB_of (fun he => ?_) (fun he => ?_)⟩
    · have he : t.start = x := by simpa using he
      exact ⟨_, rfl, Or.inr ⟨k, rfl, by rw [hm, he], hj⟩, hc2⟩
    · have he : t.start ≠ x := by simpa using he
      rw [wr_of (by omega) (by omega)]
      refine ⟨⟨k + 1, by omega, by omega, fun j hj' => ?_, hc2⟩, by show l.length - Int.toNat ((k : Int) + 1) < l.length - Int.toNat (k : Int); omega⟩
      rcases Nat.lt_succ_iff_lt_or_eq.1 hj' with h2 | rfl
      · exact hj j h2
      · rw [hm]; intro h3; exact he (Option.some.inj h3)
  · have hlt : k = l.length := by simp at hlt; omega
    subst hlt
    refine ⟨-1, rfl, Or.inl ⟨rfl, fun hm => ?_⟩, hc⟩
    obtain ⟨j, hj1, hj2⟩ := List.mem_iff_getElem.1 hm
    exact hj j (by simpa using hj1) (by rw [List.getElem?_eq_getElem hj1, hj2])
theorem place_any {B : Nat → Prop} {w : World} {c : Nat} {most : Int} {vs : List TrV} (h : CAt B w c most vs) (x : Int) : Calls Try.prog fn_cache_Cache_place #[.pointer (some ⟨c, 0, none⟩), .int .i64 x] w fun e w' => ∃ n : Int, e = .returned (.int .i64 n) ∧ PlaceS x (vs.map (·.start)) n ∧ Chg No w w' := by
  refine (cache_Cache_place_lift (K := fun v w' => ∃ n : Int, v = .int .i64 n ∧ PlaceS x (vs.map (·.start)) n ∧ Chg No w w') ?_).mono (by rintro e w' ⟨v, rfl, n, rfl, h⟩; exact ⟨n, rfl, h⟩)
  unfold cache_Cache_place_sh
  intro b w4 hb hw
  have ho : Ob w4 b [.int .i64 x] T_int := by rw [hw, hb]; exact Ob.new w [.int .i64 x] T_int
  have hc : Chg No w w4 := by rw [hw]; exact Chg.alloc _ _ _
  obtain ⟨s, l, h1, h2, h3, h4, h5, h6⟩ := h.no hc
  refine ⟨s, h1.cell rfl, ?_⟩
  refine (index_any h2.rd b x ho).mono ?_
  rintro e w7 ⟨n, rfl, hp, hc7⟩
  rw [starts_eq h5 h6] at hp
  exact ⟨n, rfl, n, rfl, hp, hc.trans hc7 (fun _ _ h => h) (fun _ _ h => h)⟩
theorem clen_any {B : Nat → Prop} {w : World} {c : Nat} {most : Int} {vs : List TrV} (h : CAt B w c most vs) : Calls Try.prog fn_cache_Cache_Len #[.pointer (some ⟨c, 0, none⟩)] w fun e w' => e = .returned (.int .i64 vs.length) ∧ w = w' := by
  refine (cache_Cache_Len_lift (K := fun v w' => v = .int .i64 vs.length ∧ w = w') ?_).mono (by rintro e w' ⟨v, rfl, rfl, h⟩; exact ⟨rfl, h⟩)
  obtain ⟨s, l, h1, h2, h3, h4, h5, h6⟩ := h
  exact ⟨s, h1.cell rfl, by rw [h2.rd.len, h5], rfl⟩
theorem has_any {B : Nat → Prop} {w : World} {c : Nat} {most : Int} {vs : List TrV} (h : CAt B w c most vs) (x : Int) : Calls Try.prog fn_cache_Cache_Has #[.pointer (some ⟨c, 0, none⟩), .int .i64 x] w fun e w' => e = .returned (.bool (decide (x ∈ vs.map (·.start)))) ∧ Chg No w w' := by
  refine (cache_Cache_Has_lift (K := fun v w' => v = .bool (decide (x ∈ vs.map (·.start))) ∧ Chg No w w') ?_).mono (by rintro e w' ⟨v, rfl, rfl, h⟩; exact ⟨rfl, h⟩)
  unfold cache_Cache_Has_sh
  refine (place_any h x).mono ?_
  rintro e w4 ⟨n, rfl, hp, hc⟩
  refine ⟨n, rfl, ?_, hc⟩
  congr 1
  rcases hp with ⟨rfl, hn⟩ | ⟨k, rfl, hk, _⟩
  · rw [decide_eq_false hn]; rfl
  · rw [decide_eq_true (List.mem_of_getElem? hk), decide_eq_true (by omega)]
theorem cnew_any (most : Int) (w : World) : Calls Try.prog fn_cache_New #[.int .i64 most] w fun e w' => ∃ c : Nat, e = .returned (.pointer (some ⟨c, 0, none⟩)) ∧ CAt (fun k => w.heap.size ≤ k) w' c (imin (imax most 0) 100) [] ∧ Chg No w w' := by
  refine (cache_New_lift (K := fun v w' => ∃ c : Nat, v = .pointer (some ⟨c, 0, none⟩) ∧ CAt (fun k => w.heap.size ≤ k) w' c (imin (imax most 0) 100) [] ∧ Chg No w w') ?_).mono (by rintro e w' ⟨v, rfl, c, rfl, h⟩; exact ⟨c, rfl, h⟩)
  unfold cache_New_sh
  intro b w3 hb hw
  have ho : Ob w3 b [.int .i64 (imin (imax most 0) 100), nilS.val] T_cache_Cache := by rw [hw, hb]; exact Ob.new w [.int .i64 (imin (imax most 0) 100), nilS.val] T_cache_Cache
  refine ⟨b, rfl, ⟨nilS, [], ho, Ox.nil _ _, (by omega), (fun k hk => by cases hk), rfl, (fun i t v hi => by simp at hi)⟩, ?_⟩
  rw [hw]; exact Chg.alloc _ _ _
end Go.Proofs.Ytijoigpggphajaa
