/- cache.Put of a trace that is not there yet. -/
import Derived.Test.YtijoigpggphajaaCa
set_option maxRecDepth 100000
namespace Go.Proofs.Ytijoigpggphajaa
open Go.RowKit

theorem put_new {B D : Nat → Prop} {w : World} {c : Nat} {most : Int} {vs : List TrV} (h : CAt B w c most vs) (hm : 0 ≤ most) (t : Tr) (v : TrV) (ht : TrIs D w t v) (hv : SmV v) (hB : ∀ k, w.heap.size ≤ k → B k) (hD : ∀ k, D k → ¬ B k) (hl : vs.length ≤ 100000) (hx : v.start ∉ vs.map (·.start)) :
    Calls Try.prog fn_cache_Cache_Put #[.pointer (some ⟨c, 0, none⟩), .agg (trC t).toArray] w fun e w' => ∃ g : Sl, e = .returned g.val ∧ Ow intE w' g (((vs ++ [v]).take ((vs ++ [v]).length - most.toNat)).map (·.start)) ∧
      CAt (fun k => B k ∧ g.blk ≠ some k) w' c most ((vs ++ [v]).drop ((vs ++ [v]).length - most.toNat)) ∧ Chg B w w' ∧ (∀ k, g.blk = some k → w.heap.size ≤ k) := by
  refine (cache_Cache_Put_lift (K := fun r w' => ∃ g : Sl, r = g.val ∧ Ow intE w' g (((vs ++ [v]).take ((vs ++ [v]).length - most.toNat)).map (·.start)) ∧
      CAt (fun k => B k ∧ g.blk ≠ some k) w' c most ((vs ++ [v]).drop ((vs ++ [v]).length - most.toNat)) ∧ Chg B w w' ∧ (∀ k, g.blk = some k → w.heap.size ≤ k)) ?_).mono (by rintro e w' ⟨r, rfl, g, rfl, h⟩; exact ⟨g, rfl, h⟩)
  obtain ⟨L, hL⟩ : ∃ L, L = vs ++ [v] := ⟨_, rfl⟩
  rw [← hL]
  have hLl : L.length = vs.length + 1 := by rw [hL]; simp
  unfold cache_Cache_Put_sh
  intro b11 w12 hb11 hw12
  have ho12 : Ob w12 b11 (trC t) T_api_Trace := by rw [hw12, hb11]; exact Ob.new w (trC t) T_api_Trace
  have c12 : Chg No w w12 := by rw [hw12]; exact Chg.alloc _ _ _
  refine ⟨_, ho12.cell rfl, ?_⟩
  rw [ht.nums.1]
  refine (place_any (h.no c12) v.start).mono ?_
  rintro e w15 ⟨n, rfl, hp, c15⟩
  have hn : n = -1 := by
    rcases hp with ⟨rfl, _⟩ | ⟨k, rfl, hk, _⟩
    · rfl
    · exact absurd (List.mem_of_getElem? hk) hx
  subst hn
  refine ⟨_, rfl, ?_⟩
  have cw15 : Chg No w w15 := c12.trans c15 (fun _ _ h => h) (fun _ _ h => h)
  have ho15 := ho12.no c15
  have h15 : CAt (fun k => B k ∧ k < w.heap.size) w15 c most vs := h.nar.no cw15
  have t15 := ht.no cw15
  refine ⟨fun w22 => w22 = w15, fun w22 hw22 => ?_, by rw [decide_eq_false (by omega)]; exact brB_f rfl⟩
  subst hw22
  intro w23 hw23
  have c23 : Chg No w22 w23 := by rw [hw23]; exact Chg.drew _ _
  have cw23 : Chg No w w23 := cw15.trans c23 (fun _ _ h => h) (fun _ _ h => h)
  obtain ⟨s, l, h1, h2, h3, h4, h5, h6⟩ := h15.no c23
  have ho23 := ho15.no c23
  have s23 := cw23.size
  have hb11lt := ho23.lt
  have nb : ∀ k, s.blk = some k → k ≠ b11 := fun k hk => by have := (h4 k hk).1.2; omega
  have nc : c ≠ b11 := by have := h3.2; omega
  refine ⟨fun w' => Ob w' c [.int .i64 most, s.val] T_cache_Cache ∧ Ob w' b11 (trC t) T_api_Trace, ⟨h1, ho23⟩, s, fun w' hw' => hw'.1.cell rfl, t.start, t.slots, t.backs, t.grow, t.growBack, t.ins, t.outs, t.last, t.cells, fun w' hw' => hw'.2.cell rfl, fun w' hw' => hw'.2.cell rfl, fun w' hw' => hw'.2.cell rfl, fun w' hw' => hw'.2.cell rfl, fun w' hw' => hw'.2.cell rfl, fun w' hw' => hw'.2.cell rfl, fun w' hw' => hw'.2.cell rfl, fun w' hw' => hw'.2.cell rfl, fun w' hw' => hw'.2.cell rfl, ?_⟩
  refine (own_any t v w23 D (t15.no c23) hv).mono ?_
  rintro e w36 ⟨t', rfl, ht', c36⟩
  refine ⟨t'.start, t'.slots, t'.backs, t'.grow, t'.growBack, t'.ins, t'.outs, t'.last, t'.cells, rfl, ⟨h1.no c36, ho23.no c36⟩, ?_⟩
  intro b46 w47 hb46 hw47
  have c47 : Chg No w36 w47 := by rw [hw47]; exact Chg.alloc _ _ _
  have s36 := c36.size
  have s47 := c47.size
  have hlit : Ow trE w47 ⟨some ⟨b46, 0, none⟩, 1, 1⟩ [t'] := by
    rw [hw47, hb46]
    exact Ow.lit w36 [t'] (trC t') (by rw [fl_one]; rfl) (by show 1 ≤ maxLen; unfold maxLen; omega)
  have g1 := (h1.no c36).no c47
  have g11 := (ho23.no c36).no c47
  have g2 := (h2.no c36).no c47
  refine ⟨⟨g1, g11⟩, ?_⟩
  have hll : l.length ≤ 100000 := by omega
  refine appx_ok trOk rfl rfl g2 hlit.rd (at' := ⟨b46, 0, none⟩) rfl (fun _ => by simp) (by show (l.length + 1) * 120 ≤ _; omega) (by show l.length + 1 ≤ _; unfold maxLen; omega) ?_
  intro s' w49 h49 c49 hbk _
  have f1 := g1.chg c49 (fun hk => (h4 c hk).2 rfl)
  have f11 := g11.chg c49 (fun hk => nb b11 hk rfl)
  refine ⟨⟨f1, f11⟩, f1.wr (by simp), ?_⟩
  intro w50 hw50
  have k1 : Ob w50 c [.int .i64 most, s'.val] T_cache_Cache := by
    have := Ob.st (vs := [s'.val]) (k := 1) (i := 0) f1
    rw [hw50]; exact this
  have c50 : Chg (fun k => k = c) w49 w50 := by rw [hw50]; exact Chg.st (S := fun k => k = c) rfl
  have s49 := c49.size
  have s50 := c50.size
  have hs' : ∀ k, s'.blk = some k → (B k ∧ k ≠ c) := by
    intro k hk
    rcases hbk with hh | hh
    · rw [hh] at hk; exact ⟨(h4 k hk).1.1, (h4 k hk).2⟩
    · have := hh k hk
      exact ⟨hB k (by omega), by have := h3.2; omega⟩
  have cw47 : Chg No w w47 := (cw23.trans c36 (fun _ _ h => h) (fun _ _ h => h)).trans c47 (fun _ _ h => h) (fun _ _ h => h)
  have cw50 : Chg B w w50 := (cw47.trans c49 (U := B) (fun _ _ h => h.elim) (fun k _ hk => (h4 k hk).1.1)).trans c50 (fun _ _ h => h) (fun k _ hk => by rw [hk]; exact h3.1)
  have k2 : Ox trE w50 s' (l ++ [t']) := h49.chg c50 (fun k hk he => (hs' k hk).2 he)
  have hca : CAt B w50 c most L := by
    refine ⟨s', l ++ [t'], k1, k2, h3.1, hs', by rw [hL]; simp [h5], fun i x y hi hy => ?_⟩
    rw [hL] at hy
    by_cases hil : i < l.length
    · rw [List.getElem?_append_left hil] at hi
      rw [List.getElem?_append_left (by omega)] at hy
      obtain ⟨a, b⟩ := h6 i x y hi hy
      refine ⟨(((((a.no c36).no c47).chg c49 (fun k hk he => hk.2.2.2 he)).chg c50 (fun k hk he => hk.2.2.1 he)).wid (fun k hk => ?_)), b⟩
      refine ⟨hk.1.1, by have := hk.2.1; omega, hk.2.2.1, fun he => ?_⟩
      rcases hbk with hh | hh
      · rw [hh] at he; exact hk.2.2.2 he
      · have := hh k he; have := hk.2.1; omega
    · have hi2 : i = l.length := by
        have := (List.getElem?_eq_some_iff.1 hi).1; simp at this; omega
      subst hi2
      rw [List.getElem?_append_right (Nat.le_refl _), Nat.sub_self] at hi
      rw [h5, List.getElem?_append_right (Nat.le_refl _), Nat.sub_self] at hy
      cases hi; cases hy
      refine ⟨(((ht'.no c47).chg c49 (fun k hk he => by have := (h4 k he).1.2; omega)).chg c50 (fun k hk he => by have := h3.2; omega)).wid (fun k hk => ?_), hv⟩
      refine ⟨hB k (by omega), by omega, by have := h3.2; omega, fun he => ?_⟩
      rcases hbk with hh | hh
      · rw [hh] at he; have := (h4 k he).1.2; omega
      · have := hh k he; omega
  refine ⟨fun g w' => ∃ j : Nat, j ≤ L.length - most.toNat ∧ Ow intE w' g ((L.take j).map (·.start)) ∧ CAt (fun k => B k ∧ g.blk ≠ some k) w' c most (L.drop j) ∧ Chg B w w' ∧ (∀ k, g.blk = some k → w.heap.size ≤ k), fun g _ => L.length - g.len, ⟨0, Nat.zero_le _, Ow.nil _ _, hca.wid (fun k hk => ⟨hk, fun e => by cases e⟩), cw50, fun k hk => by cases hk⟩, ?_⟩
  rintro g w51 ⟨j, hj, hg, hc51, cw51, hgb⟩
  intro w52 hw52
  have q52 : Chg No w51 w52 := by rw [hw52]; exact Chg.drew _ _
  have hg52 := hg.no q52
  have hc52 := hc51.no q52
  have cw52 : Chg B w w52 := cw51.trans q52 (fun _ _ h => h) (fun _ _ h => h.elim)
  have hc52' := hc52
  obtain ⟨s, l, h1, h2, h3, h4, h5, h6⟩ := hc52
  have hlen := h2.rd.len
  have hld : (L.drop j).length = L.length - j := by simp
  have hgl : g.len = j := by rw [hg.lenOf, List.length_map, List.length_take]; omega
  refine ⟨s, held_Lw (h1.cell rfl), most, held_Lw (h1.cell rfl), brB_of (fun hlt => ?_) (fun hlt => ?_)⟩
  · have hlt : most < (s.len : Int) := of_decide_eq_true hlt
    have hjlt : j < L.length - most.toNat := by omega
    obtain ⟨x, hx0⟩ : ∃ x, l[0]? = some x := ⟨_, List.getElem?_eq_getElem (by omega)⟩
    obtain ⟨y, hy0⟩ : ∃ y, (L.drop j)[0]? = some y := ⟨_, List.getElem?_eq_getElem (by omega)⟩
    have hxy : x.start = y.start := (h6 0 x y hx0 hy0).1.nums.1
    refine ⟨s, h1.cell rfl, h2.rd.ix (Int.le_refl 0) hx0 fun a ha hcell => ?_⟩
    have e0 : ∀ q : Addr, q.add 0 = q := fun q => by unfold Addr.add; simp
    have c0 := hcell 0 _ rfl
    rw [e0] at c0
    refine ⟨_, c0, ?_⟩
    intro b59 w60 hb59 hw60
    have c60 : Chg No w52 w60 := by rw [hw60]; exact Chg.alloc _ _ _
    have hlit : Ow intE w60 ⟨some ⟨b59, 0, none⟩, 1, 1⟩ [x.start] := by
      rw [hw60, hb59]
      exact Ow.lit w52 [x.start] [.int .i64 x.start] (by rw [fl_one]; rfl) (by show 1 ≤ maxLen; unfold maxLen; omega)
    have hgl2 : ((L.take j).map (·.start)).length = j := by rw [List.length_map, List.length_take]; omega
    refine app_ok intOk rfl rfl (hg52.no c60) hlit.rd (by rw [hgl2]; show (j + 1) * 8 ≤ _; omega) (by rw [hgl2]; show j + 1 ≤ _; unfold maxLen; omega) ?_
    intro g' w62 hg' c62 hgbk
    have s52 := cw52.size
    have s60 := c60.size
    have s62 := c62.size
    have hg'b : ∀ k, g'.blk = some k → w.heap.size ≤ k := by
      intro k hk
      rcases hgbk with hh | hh
      · rw [hh] at hk; exact hgb k hk
      · rw [hh] at hk; cases hk; omega
    have o62 := (h1.no c60).chg c62 (fun hk => h3.2 hk)
    have x62 := (h2.no c60).chg c62 (fun k hk he => (h4 k hk).1.2 he)
    refine ⟨s, o62.cell rfl, by omega, by omega, ?_⟩
    intro s64 hs64
    refine ⟨o62.wr (by simp), ?_⟩
    intro w65 hw65
    have o65 : Ob w65 c [.int .i64 most, s64.val] T_cache_Cache := by
      have := Ob.st (vs := [s64.val]) (k := 1) (i := 0) o62
      rw [hw65]; exact this
    have c65 : Chg (fun k => k = c) w62 w65 := by rw [hw65]; exact Chg.st (S := fun k => k = c) rfl
    have s65 := c65.size
    have hdrop := x62.drop (m := 1) (by omega)
    have e64 : s64 = Sl.sub s.ptr s.cap 1 l.length trE.sz := by rw [hs64, hlen]; rfl
    rw [← e64] at hdrop
    have b64 : s64.blk = s.blk := by rw [e64]; exact sub_blk s 1 l.length trE.sz
    have hclt := (h1.lt)
    have gc : g'.blk ≠ some c := by
      intro e
      rcases hgbk with hh | hh
      · rw [hh] at e; exact h3.2 e
      · rw [hh] at e; cases e; omega
    have gs : ∀ k, s.blk = some k → g'.blk ≠ some k := by
      intro k hk e
      rcases hgbk with hh | hh
      · rw [hh] at e; exact (h4 k hk).1.2 e
      · have e := Option.some.inj (hh.symm.trans e); have := h2.lt k hk; omega
    refine ⟨⟨j + 1, by omega, ?_, ?_, ?_, hg'b⟩, ?_⟩
    · have e1 : (L.take j).map (·.start) ++ [x.start] = (L.take (j + 1)).map (·.start) := by
        have hLj : L[j]? = some y := by rw [List.getElem?_drop] at hy0; simpa using hy0
        rw [List.take_add_one, hLj, List.map_append, hxy]; rfl
      rw [← e1]
      exact hg'.chg c65 (fun k hk he => gc (by rw [hk, he]))
    · refine ⟨s64, l.drop 1, o65, hdrop.chg c65 (fun k hk he => (h4 k (b64 ▸ hk)).2 he), ⟨h3.1, gc⟩, fun k hk => ?_, by rw [List.length_drop, h5]; simp; omega, fun i x2 y2 hi hy => ?_⟩
      · have hk := b64 ▸ hk
        exact ⟨⟨(h4 k hk).1.1, gs k hk⟩, (h4 k hk).2⟩
      · rw [List.getElem?_drop] at hi hy
        obtain ⟨a, b⟩ := h6 (1 + i) x2 y2 hi (by rw [List.getElem?_drop]; rw [show j + (1 + i) = j + 1 + i by omega]; exact hy)
        refine ⟨(((a.no c60).chg c62 (fun k hk he => hk.1.2 he)).chg c65 (fun k hk he => hk.2.2.1 he)).wid (fun k hk => ?_), b⟩
        refine ⟨⟨hk.1.1, fun e => ?_⟩, by have := hk.2.1; omega, hk.2.2.1, by rw [b64]; exact hk.2.2.2⟩
        rcases hgbk with hh | hh
        · rw [hh] at e; exact hk.1.2 e
        · have e := Option.some.inj (hh.symm.trans e); have := hk.2.1; omega
    · have c1 : Chg B w w60 := cw52.trans c60 (fun _ _ h => h) (fun _ _ h => h.elim)
      have c2 : Chg B w w62 := c1.trans c62 (fun _ _ h => h) (fun k hk he => by have := hgb k he; omega)
      exact c2.trans c65 (fun _ _ h => h) (fun k _ hk => by rw [hk]; exact h3.1)
    · have : g'.len = j + 1 := by rw [hg'.lenOf, List.length_append, hgl2]; rfl
      show L.length - g'.len < L.length - g.len
      omega
  · have hlt : ¬ most < (s.len : Int) := of_decide_eq_false hlt
    have hje : j = L.length - most.toNat := by omega
    subst hje
    exact ⟨g, rfl, hg52, hc52', cw52, hgb⟩
end Go.Proofs.Ytijoigpggphajaa
