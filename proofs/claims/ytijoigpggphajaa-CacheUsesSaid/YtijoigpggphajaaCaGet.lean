/- slices.Delete of one trace; cache.Get, Eldest. -/
import Derived.Test.YtijoigpggphajaaCaLaw
import Derived.Laws.IdiomCopy
set_option maxRecDepth 100000
namespace Go.Proofs.Ytijoigpggphajaa
open Go.RowKit

theorem Try.infoTr : (Try.prog.info? T_api_Trace).map (fun i => (i.zero, i.size, i.bytes)) = some (some (.agg #[.int .i64 0, .int .i64 0, .int .i64 0, .int .i64 0, .int .i64 0, .slice none 0 0, .slice none 0 0, .int .i64 0, .slice none 0 0]), 9, 120) := by kernel_rfl
theorem clear_one (w : World) (ty : TypeId) (a : Addr) (hsp : a.spot = none) (c : Nat) (hc : ∀ j, j < 9 → (w.cell? (a.add j)).isSome = true ∧ w.frozen? (a.add j) = false) :
    (Builtin.clear_ #[T_sl_api_Trace] ty #[.slice (some a) 1 c]).run Try.prog w = .ok (.tuple #[]) (w.setCells a.block a.off (fl trE [tr0])) := by
  obtain ⟨i, hi, hz, _, _⟩ := info_parts Try.infoTr
  have hv : (zeroValue T_api_Trace).run Try.prog w = .ok (.agg #[.int .i64 0, .int .i64 0, .int .i64 0, .int .i64 0, .int .i64 0, .slice none 0 0, .slice none 0 0, .int .i64 0, .slice none 0 0]) w := by
    simp [zeroValue, typeInfo, hi, hz]
  have ht : Try.prog.underlying T_sl_api_Trace = some (.slice T_api_Trace) := by kernel_rfl
  have hl : (fl trE [tr0]).length = 9 := rfl
  have hzc : (Builtin.zeroCells (Value.agg #[.int .i64 0, .int .i64 0, .int .i64 0, .int .i64 0, .int .i64 0, .slice none 0 0, .slice none 0 0, .int .i64 0, .slice none 0 0]).cells 1).toList = fl trE [tr0] := by kernel_rfl
  obtain ⟨b, o, sp⟩ := a
  cases hsp
  have hst := run_storeCells_cells (P := Try.prog) b o (fl trE [tr0]) 0 w (fun j hj => by have := (hc j (by omega)).1; rw [add_mk] at this; rw [Nat.add_zero]; exact this) (fun j hj => by have := (hc j (by omega)).2; rw [add_mk] at this; rw [Nat.add_zero]; exact this) (fl_oneCell trE [tr0])
  simp only [Nat.add_zero] at hst
  simp [Builtin.clear_, run_underlying ht, hv, hzc, hst]
theorem del_any {w : World} {s : Sl} {l : List Tr} (h : Ox trE w s l) {k : Nat} (hk : k < l.length) (hsm : l.length ≤ 1000000) : Calls Try.prog fn_slices_Delete_sl_api_Trace_api_Trace #[s.val, .int .i64 k, .int .i64 ((k : Int) + 1)] w fun e w' => ∃ s' : Sl, e = .returned s'.val ∧ Ox trE w' s' (l.eraseIdx k) ∧ s'.blk = s.blk ∧ Chg (fun j => s.blk = some j) w w' := by
  refine (slices_Delete_sl_api_Trace_api_Trace_lift (K := fun v w' => ∃ s' : Sl, v = s'.val ∧ Ox trE w' s' (l.eraseIdx k) ∧ s'.blk = s.blk ∧ Chg (fun j => s.blk = some j) w w') ?_).mono (by rintro e w' ⟨v, rfl, n, rfl, h⟩; exact ⟨n, rfl, h⟩)
  unfold slices_Delete_sl_api_Trace_api_Trace_sh
  have hlen := h.rd.len
  have hcap := h.rd.capL
  refine ⟨by omega, by omega, by omega, by omega, fun s4 _ => ?_⟩
  have he : ((k : Int) == (k : Int) + 1) = false := by simp; omega
  rw [he]
  refine brB_f ?_
  intro w5 hw5
  have q5 : Chg No w w5 := by rw [hw5]; exact Chg.drew _ _
  have h5 := h.no q5
  obtain ⟨x, hx⟩ : ∃ x, l[k]? = some x := ⟨_, List.getElem?_eq_getElem hk⟩
  obtain ⟨a, ha, _⟩ := h.rd.at hx
  refine ⟨by omega, by omega, by omega, by omega, ?_⟩
  have e1 : Int.toNat (k : Int) = k := Int.toNat_natCast k
  have e2 : Int.toNat ((k : Int) + 1) = k + 1 := by omega
  rw [e1, e2, sub0, hlen]
  have htk := h5.take (n := k) (by omega)
  have hdr := h5.rd.drop (m := k + 1) (by omega)
  have hdp : ∃ a', (Sl.sub s.ptr s.cap (k + 1) l.length trE.sz).ptr = some a' := by
    unfold Sl.sub
    split
    · exact ⟨a, ha⟩
    · rw [ha]; exact ⟨_, rfl⟩
  obtain ⟨a', ha'⟩ := hdp
  have l1 : (l.take k).length = k := by rw [List.length_take]; omega
  have l2 : (l.drop (k + 1)).length = l.length - (k + 1) := List.length_drop
  refine appx_ok trOk rfl rfl htk hdr ha' (fun hn => by rw [show (⟨s.ptr, k, s.cap⟩ : Sl).ptr = s.ptr from rfl, ha] at hn; cases hn) (by rw [l1, l2]; show (k + (l.length - (k + 1))) * 120 ≤ _; omega) (by rw [l1, l2]; unfold maxLen; omega) ?_
  intro s6 w7 h6 c7 _ hroom
  rw [← List.eraseIdx_eq_take_drop_succ] at h6
  have hbs : (⟨s.ptr, k, s.cap⟩ : Sl).blk = s.blk := by unfold Sl.blk Sl.val; cases s.ptr <;> rfl
  rw [hbs] at c7
  obtain ⟨hp6, hc6⟩ := hroom (by rw [l1, l2]; show _ ≤ s.cap; omega)
  have hp6 : s6.ptr = some a := hp6.trans ha
  have hc6 : s6.cap = s.cap := hc6
  have hle : (l.eraseIdx k).length = l.length - 1 := by rw [List.length_eraseIdx, if_pos hk]
  have hl6 := h6.rd.len
  have b6 : s6.blk = s.blk := by rw [blk_ptr hp6, blk_ptr ha]
  refine ⟨by omega, by omega, by omega, ?_⟩
  intro s8 hs8
  have hn6 : Int.toNat (s6.len : Int) = l.length - 1 := by omega
  have hnl : Int.toNat (l.length : Int) = l.length := Int.toNat_natCast _
  rw [hn6, hnl, hp6] at hs8
  have hs8' : s8 = ⟨some (a.add ((l.length - 1) * 9)), 1, s6.cap - (l.length - 1)⟩ := by
    rw [hs8]; unfold Sl.sub
    rw [if_neg (by omega)]
    have : l.length - (l.length - 1) = 1 := by omega
    rw [this]; rfl
  obtain ⟨hsp, hrm⟩ := h6.room a hp6
  have hsp8 : (a.add ((l.length - 1) * 9)).spot = none := by rw [add_at hsp]
  have hcl := clear_one w7 T_x (a.add ((l.length - 1) * 9)) hsp8 (s6.cap - (l.length - 1)) (fun j hj => by
    rw [add_add]
    refine hrm _ ?_
    show (l.length - 1) * 9 + j < s6.cap * 9
    omega)
  refine ⟨_, _, by rw [hs8']; exact hcl, s6, rfl, ?_, b6, ?_⟩
  · have hput := h6.put hp6 (n := l.length - 1) (by omega) (ys := [tr0]) (by show l.length - 1 + 1 ≤ _; omega)
    have hoff : (a.add ((l.length - 1) * 9)).block = a.block ∧ (a.add ((l.length - 1) * 9)).off = a.off + (l.length - 1) * trE.sz := by rw [add_at hsp]; exact ⟨rfl, rfl⟩
    rw [hoff.1, hoff.2]
    have ht : (l.eraseIdx k).take (l.length - 1) = l.eraseIdx k := List.take_of_length_le (by omega)
    rw [ht] at hput
    have h2 := hput.take (n := l.length - 1) (by rw [List.length_append]; omega)
    rw [List.take_left' (by omega)] at h2
    have hs6 : s6 = ⟨s6.ptr, l.length - 1, s6.cap⟩ := by
      have : s6.len = l.length - 1 := by omega
      rw [← this]
    rw [hs6]; exact h2
  · have c8 : Chg (fun j => s.blk = some j) w7 (w7.setCells (a.add ((l.length - 1) * 9)).block (a.add ((l.length - 1) * 9)).off (fl trE [tr0])) := (chg_setCells _ _ _).mono (fun j _ hj => by rw [hj, add_block]; exact blk_ptr ha)
    exact ((q5.trans c7 (U := fun j => s.blk = some j) (fun _ _ h => h.elim) (fun _ _ h => h))).trans c8 (fun _ _ h => h) (fun _ _ h => h)
/-- What Get answers. -/
theorem get_any {B : Nat → Prop} {w : World} {c : Nat} {most : Int} {vs : List TrV} (h : CAt B w c most vs) (hB : ∀ k, w.heap.size ≤ k → B k) (hl : vs.length ≤ 100000) (x : Int) (hx : x ∈ vs.map (·.start)) :
    Calls Try.prog fn_cache_Cache_Get #[.pointer (some ⟨c, 0, none⟩), .int .i64 x] w fun e w' => ∃ (k : Nat) (v : TrV) (t' : Tr) (m : Nat), vs[k]? = some v ∧ v.start = x ∧ e = .returned (.tuple #[.agg (trC t').toArray, .bool true]) ∧ TrIs (fun j => m ≤ j ∧ j < w'.heap.size) w' t' v ∧ CAt (fun j => B j ∧ j < m) w' c most (vs.eraseIdx k ++ [v]) ∧ Chg B w w' := by
  refine (cache_Cache_Get_lift (K := fun r w' => ∃ (k : Nat) (v : TrV) (t' : Tr) (m : Nat), vs[k]? = some v ∧ v.start = x ∧ r = .tuple #[.agg (trC t').toArray, .bool true] ∧ TrIs (fun j => m ≤ j ∧ j < w'.heap.size) w' t' v ∧ CAt (fun j => B j ∧ j < m) w' c most (vs.eraseIdx k ++ [v]) ∧ Chg B w w') ?_).mono (by rintro e w' ⟨r, rfl, k, v, t', m, h1, h2, rfl, h3⟩; exact ⟨k, v, t', m, h1, h2, rfl, h3⟩)
  have tr : ∀ {x y z : World}, Chg No x y → Chg No y z → Chg No x z := fun h k => h.trans k (fun _ _ h => h) (fun _ _ h => h)
  unfold cache_Cache_Get_sh
  intro b3 w4 hb3 hw4
  have o4 : Ob w4 b3 (trC tr0) T_api_Trace := by rw [hw4, hb3]; exact Ob.new w (trC tr0) T_api_Trace
  have c4 : Chg No w w4 := by rw [hw4]; exact Chg.alloc _ _ _
  refine (place_any (h.no c4) x).mono ?_
  rintro e w6 ⟨n, rfl, hp, c6⟩
  obtain ⟨k, hnk, hkx⟩ : ∃ k : Nat, n = k ∧ (vs.map (·.start))[k]? = some x := by
    rcases hp with ⟨_, hno⟩ | ⟨k, hk1, hk2, _⟩
    · exact absurd hx hno
    · exact ⟨k, hk1, hk2⟩
  subst hnk
  obtain ⟨v, hv, hvx⟩ : ∃ v, vs[k]? = some v ∧ v.start = x := by
    rw [List.getElem?_map] at hkx
    cases hq : vs[k]? with
    | none => rw [hq] at hkx; cases hkx
    | some v => rw [hq] at hkx; exact ⟨v, rfl, Option.some.inj hkx⟩
  refine ⟨(k : Int), rfl, ?_⟩
  rw [decide_eq_false (by omega)]
  refine brB_f ?_
  have cw6 := tr c4 c6
  have hn6 : CAt (fun j => B j ∧ j < w.heap.size) w6 c most vs := h.nar.no cw6
  obtain ⟨s, l, h1, h2, h3, h4, h5, h6⟩ := hn6
  have hlen := h2.rd.len
  have hklt : k < vs.length := (List.getElem?_eq_some_iff.1 hv).1
  obtain ⟨t, ht⟩ : ∃ t, l[k]? = some t := ⟨_, List.getElem?_eq_getElem (by omega)⟩
  obtain ⟨htv, hsm⟩ := h6 k t v ht hv
  have s6 := cw6.size
  have o6 := o4.no c6
  have lb3 := o6.lt
  refine ⟨s, h1.cell rfl, h2.rd.ix (by omega) (by rw [Int.toNat_natCast]; exact ht) fun a ha hcell => ?_⟩
  have e0 : ∀ q : Addr, q.add 0 = q := fun q => by unfold Addr.add; simp
  have cc0 := hcell 0 _ rfl
  rw [e0] at cc0
  refine ⟨_, _, _, _, _, t.ins, t.outs, _, t.cells, cc0, hcell 1 _ rfl, hcell 2 _ rfl, hcell 3 _ rfl, hcell 4 _ rfl, hcell 5 _ rfl, hcell 6 _ rfl, hcell 7 _ rfl, hcell 8 _ rfl, ?_⟩
  intro b29 w30 hb29 hw30
  have o30 : Ob w30 b29 (trC tr0) T_api_Trace := by rw [hw30, hb29]; exact Ob.new w6 (trC tr0) T_api_Trace
  have c30 : Chg No w6 w30 := by rw [hw30]; exact Chg.alloc _ _ _
  refine ⟨o30.wr (by simp [trC]), ?_⟩
  intro w31 hw31
  have o31 : Ob w31 b29 (trC t) T_api_Trace := by
    have := Ob.st (vs := trC t) (k := 0) (i := 0) o30
    rw [trC_whole] at this
    rw [hw31]; exact this
  have c31 : Chg No w6 w31 := by
    rw [hw31]
    exact c30.trans (Chg.st (S := fun k => k = b29) rfl) (fun _ _ h => h) (fun j hj he => by omega)
  refine ⟨fun w60 => CAt (fun j => B j ∧ j ≠ b3 ∧ j ≠ b29) w60 c most (vs.eraseIdx k ++ [v]) ∧ Ob w60 b29 (trC t) T_api_Trace ∧ Ob w60 b3 (trC tr0) T_api_Trace ∧ TrIs (fun j => (B j ∧ j < w.heap.size) ∧ j < w6.heap.size ∧ j ≠ c ∧ s.blk ≠ some j) w60 t v ∧ Chg B w w60, ?_, ?_⟩
  · rintro w60 ⟨hca, ho, hz, hti, hch⟩
    refine ⟨t.start, t.slots, t.backs, t.grow, t.growBack, t.ins, t.outs, t.last, t.cells, ho.cell rfl, ho.cell rfl, ho.cell rfl, ho.cell rfl, ho.cell rfl, ho.cell rfl, ho.cell rfl, ho.cell rfl, ho.cell rfl, ?_⟩
    refine (own_any t v w60 _ hti hsm).mono ?_
    rintro e w71 ⟨t', rfl, ht', c71⟩
    have hz71 := hz.no c71
    refine ⟨t'.start, t'.slots, t'.backs, t'.grow, t'.growBack, t'.ins, t'.outs, t'.last, t'.cells, rfl, hz71.wr (by simp [trC]), ?_⟩
    intro w81 hw81
    have o81 : Ob w81 b3 (trC t') T_api_Trace := by
      have := Ob.st (vs := trC t') (k := 0) (i := 0) hz71
      rw [trC_whole] at this
      rw [hw81]; exact this
    have c81 : Chg (fun k => k = b3) w71 w81 := by rw [hw81]; exact Chg.st (S := fun k => k = b3) rfl
    have s71 := c71.size
    have s81 := c81.size
    have lz := hz.lt
    refine ⟨t'.start, t'.slots, t'.backs, t'.grow, t'.growBack, t'.ins, t'.outs, t'.last, t'.cells, o81.cell rfl, o81.cell rfl, o81.cell rfl, o81.cell rfl, o81.cell rfl, o81.cell rfl, o81.cell rfl, o81.cell rfl, o81.cell rfl, k, v, t', w60.heap.size, hv, hvx, rfl, ?_, ?_, ?_⟩
    · exact (ht'.chg c81 (fun j hj he => by omega)).wid (fun j hj => ⟨hj.1, by omega⟩)
    · exact ((hca.nar.no c71).chg c81 (fun j hj he => hj.1.2.1 he)).wid (fun j hj => ⟨hj.1.1, hj.2⟩)
    · exact (hch.trans c71 (U := B) (fun _ _ h => h) (fun _ _ h => h.elim)).trans c81 (fun _ _ h => h) (fun j hj he => by omega)
  · intro w32 hw32
    have c32 : Chg No w6 w32 := c31.trans (by rw [hw32]; exact Chg.drew No _) (fun _ _ h => h) (fun _ _ h => h)
    have s32 := c32.size
    have p1 := h1.no c32
    have p29 : Ob w32 b29 (trC t) T_api_Trace := o31.no (by rw [hw32]; exact Chg.drew No _)
    have p2 := h2.no c32
    have p3 := o6.no c32
    have lb29 := p29.lt
    have lc := h1.lt
    have nbs : ∀ j, s.blk = some j → j < w.heap.size ∧ j ≠ c := fun j hj => ⟨(h4 j hj).1.2, (h4 j hj).2⟩
    have hcw := h3.2
    have fin : ∀ (y : World) (s46 : Sl) (b : Nat), Chg (fun j => s.blk = some j) w32 y → Ox trE y s46 (l.eraseIdx k) → s46.blk = s.blk → Ow trE y ⟨some ⟨b, 0, none⟩, 1, 1⟩ [t] →
        ∃ s49 : Sl, ∃ w50 : World, (Builtin.append_ #[T_sl_api_Trace, T_sl_api_Trace] T_sl_api_Trace #[s46.val, .slice (some ⟨b, 0, none⟩) 1 1]).run Try.prog y = .ok s49.val w50 ∧
          (Ob w50 c [.int .i64 most, s.val] T_cache_Cache ∧ Ob w50 b29 (trC t) T_api_Trace) ∧ wrOk w50 ⟨c, 1, none⟩ 1 ∧ ∀ w51 : World, w51 = stW w50 ⟨c, 1, none⟩ 0 [s49.val] →
          (CAt (fun j => B j ∧ j ≠ b3 ∧ j ≠ b29) w51 c most (vs.eraseIdx k ++ [v]) ∧ Ob w51 b29 (trC t) T_api_Trace ∧ Ob w51 b3 (trC tr0) T_api_Trace ∧ TrIs (fun j => (B j ∧ j < w.heap.size) ∧ j < w6.heap.size ∧ j ≠ c ∧ s.blk ≠ some j) w51 t v ∧ Chg B w w51) := by
      intro y s46 b cy hx46 hb46 hlit
      have sy := cy.size
      have hle : (l.eraseIdx k).length = l.length - 1 := by rw [List.length_eraseIdx, if_pos (by omega)]
      refine appx_ok trOk rfl rfl hx46 hlit.rd (at' := ⟨b, 0, none⟩) rfl (fun _ => by simp) (by rw [hle]; show (l.length - 1 + 1) * 120 ≤ _; omega) (by rw [hle]; show l.length - 1 + 1 ≤ _; unfold maxLen; omega) ?_
      intro s49 w50 h49 c50 hbk _
      rw [hb46] at c50 hbk
      have s50 := c50.size
      have cy50 : Chg (fun j => s.blk = some j) w32 w50 := cy.trans c50 (fun _ _ h => h) (fun _ _ h => h)
      have q1 := p1.chg cy50 (fun hj => (nbs c hj).2 rfl)
      have q29 := p29.chg cy50 (fun hj => by have := (nbs b29 hj).1; omega)
      have q3 := p3.chg cy50 (fun hj => by have := (nbs b3 hj).1; have := c4.size; omega)
      refine ⟨⟨q1, q29⟩, q1.wr (by simp), ?_⟩
      intro w51 hw51
      have r1 : Ob w51 c [.int .i64 most, s49.val] T_cache_Cache := by
        have := Ob.st (vs := [s49.val]) (k := 1) (i := 0) q1
        rw [hw51]; exact this
      have c51 : Chg (fun j => j = c) w50 w51 := by rw [hw51]; exact Chg.st (S := fun j => j = c) rfl
      have s51 := c51.size
      have hs49 : ∀ j, s49.blk = some j → (B j ∧ j ≠ b3 ∧ j ≠ b29) ∧ j ≠ c := by
        intro j hj
        rcases hbk with hh | hh
        · rw [hh] at hj
          have := (h4 j hj).1
          exact ⟨⟨this.1, by omega, by omega⟩, (h4 j hj).2⟩
        · have := hh j hj
          exact ⟨⟨hB j (by omega), by omega, by omega⟩, by omega⟩
      have keep : ∀ (x2 : Tr) (y2 : TrV), TrIs (fun j => (B j ∧ j < w.heap.size) ∧ j < w6.heap.size ∧ j ≠ c ∧ s.blk ≠ some j) w6 x2 y2 → TrIs (fun j => (B j ∧ j < w.heap.size) ∧ j < w6.heap.size ∧ j ≠ c ∧ s.blk ≠ some j) w51 x2 y2 := fun x2 y2 hh =>
        ((hh.no c32).chg cy50 (fun j hj he => hj.2.2.2 he)).chg c51 (fun j hj he => hj.2.2.1 he)
      have fit : ∀ j, ((B j ∧ j < w.heap.size) ∧ j < w6.heap.size ∧ j ≠ c ∧ s.blk ≠ some j) → (B j ∧ j ≠ b3 ∧ j ≠ b29) ∧ j < w51.heap.size ∧ j ≠ c ∧ s49.blk ≠ some j := by
        intro j hj
        refine ⟨⟨hj.1.1, by omega, by omega⟩, by omega, hj.2.2.1, fun he => ?_⟩
        rcases hbk with hh | hh
        · rw [hh] at he; exact hj.2.2.2 he
        · have := hh j he; omega
      refine ⟨⟨s49, l.eraseIdx k ++ [t], r1, h49.chg c51 (fun j hj he => (hs49 j hj).2 he), ⟨h3.1, by omega, by omega⟩, hs49, ?_, fun i x2 y2 hi hy => ?_⟩, q29.chg c51 (fun he => by omega), q3.chg c51 (fun he => by omega), keep t v htv, ?_⟩
      · rw [List.length_append, List.length_append, List.length_eraseIdx, List.length_eraseIdx, h5]; rfl
      · have hle2 : (vs.eraseIdx k).length = l.length - 1 := by rw [List.length_eraseIdx, if_pos hklt, h5]
        by_cases hil : i < l.length - 1
        · rw [List.getElem?_append_left (by omega)] at hi hy
          rw [List.getElem?_eraseIdx] at hi hy
          split at hi
          · rename_i hik
            rw [if_pos hik] at hy
            obtain ⟨u1, u2⟩ := h6 i x2 y2 hi hy
            exact ⟨(keep _ _ u1).wid fit, u2⟩
          · rename_i hik
            rw [if_neg hik] at hy
            obtain ⟨u1, u2⟩ := h6 (i + 1) x2 y2 hi hy
            exact ⟨(keep _ _ u1).wid fit, u2⟩
        · have hi2 : i = l.length - 1 := by
            have := (List.getElem?_eq_some_iff.1 hi).1
            rw [List.length_append, hle] at this; simp at this; omega
          subst hi2
          rw [List.getElem?_append_right (by omega), hle, Nat.sub_self] at hi
          rw [List.getElem?_append_right (by omega), hle2, Nat.sub_self] at hy
          cases hi; cases hy
          exact ⟨(keep _ _ htv).wid fit, hsm⟩
      · have d1 : Chg No w w32 := tr cw6 c32
        have d2 : Chg B w w50 := d1.trans cy50 (fun _ _ h => h.elim) (fun j _ hj => (h4 j hj).1.1)
        exact d2.trans c51 (fun _ _ h => h) (fun j _ hj => by rw [hj]; exact h3.1)
    have hwr : wr ((k : Int) + 1) = (k : Int) + 1 := wr_of (by omega) (by omega)
    rw [hwr]
    have S32 : Ob w32 c [.int .i64 most, s.val] T_cache_Cache ∧ Ob w32 b29 (trC t) T_api_Trace := ⟨p1, p29⟩
    refine ⟨fun w' => Ob w' c [.int .i64 most, s.val] T_cache_Cache ∧ Ob w' b29 (trC t) T_api_Trace, S32, s, fun w' hw' => hw'.1.cell rfl, t.start, t.slots, t.backs, t.grow, t.growBack, t.ins, t.outs, t.last, t.cells, fun w' hw' => hw'.2.cell rfl, fun w' hw' => hw'.2.cell rfl, fun w' hw' => hw'.2.cell rfl, fun w' hw' => hw'.2.cell rfl, fun w' hw' => hw'.2.cell rfl, fun w' hw' => hw'.2.cell rfl, fun w' hw' => hw'.2.cell rfl, fun w' hw' => hw'.2.cell rfl, fun w' hw' => hw'.2.cell rfl, ?_, ?_⟩
    · refine (del_any p2 (k := k) (by omega) (by omega)).mono ?_
      rintro e w45 ⟨s46, rfl, h46, b46, c45⟩
      have t1 := p1.chg c45 (fun hj => (nbs c hj).2 rfl)
      have t29 := p29.chg c45 (fun hj => by have := (nbs b29 hj).1; omega)
      refine ⟨s46, rfl, ⟨t1, t29⟩, ?_⟩
      intro b47 w48 hb47 hw48
      have c48 : Chg No w45 w48 := by rw [hw48]; exact Chg.alloc _ _ _
      have hlit : Ow trE w48 ⟨some ⟨b47, 0, none⟩, 1, 1⟩ [t] := by
        rw [hw48, hb47]
        exact Ow.lit w45 [t] (trC t) (by rw [fl_one]; rfl) (by show 1 ≤ maxLen; unfold maxLen; omega)
      exact ⟨⟨t1.no c48, t29.no c48⟩, fin w48 s46 b47 (c45.trans c48 (fun _ _ h => h) (fun _ _ h => h.elim)) (h46.no c48) b46 hlit⟩
    · intro b52 w53 hb52 hw53
      have c53 : Chg No w32 w53 := by rw [hw53]; exact Chg.alloc _ _ _
      have hlit : Ow trE w53 ⟨some ⟨b52, 0, none⟩, 1, 1⟩ [t] := by
        rw [hw53, hb52]
        exact Ow.lit w32 [t] (trC t) (by rw [fl_one]; rfl) (by show 1 ≤ maxLen; unfold maxLen; omega)
      refine ⟨⟨p1.no c53, p29.no c53⟩, ?_⟩
      refine (del_any (p2.no c53) (k := k) (by omega) (by omega)).mono ?_
      rintro e w55 ⟨s56, rfl, h56, b56, c55⟩
      have t1 := (p1.no c53).chg c55 (fun hj => (nbs c hj).2 rfl)
      have t29 := (p29.no c53).chg c55 (fun hj => by have := (nbs b29 hj).1; omega)
      refine ⟨s56, rfl, ⟨t1, t29⟩, ?_⟩
      have hb52s : ∀ j, (⟨some ⟨b52, 0, none⟩, 1, 1⟩ : Sl).blk = some j → j = b52 := fun j hj => (Option.some.inj hj).symm
      exact fin w55 s56 b52 (c53.trans c55 (fun _ _ h => h.elim) (fun _ _ h => h)) h56 b56 (hlit.chg c55 (fun j hj he => by have := hb52s j hj; have := (nbs j he).1; omega))
theorem eldest_any {B : Nat → Prop} {w : World} {c : Nat} {most : Int} {vs : List TrV} (h : CAt B w c most vs) {v : TrV} (hv : vs[0]? = some v) : Calls Try.prog fn_cache_Cache_Eldest #[.pointer (some ⟨c, 0, none⟩)] w fun e w' => e = .returned (.tuple #[.int .i64 v.start, .bool true]) ∧ w = w' := by
  refine (cache_Cache_Eldest_lift (K := fun r w' => r = .tuple #[.int .i64 v.start, .bool true] ∧ w = w') ?_).mono (by rintro e w' ⟨v, rfl, rfl, h⟩; exact ⟨rfl, h⟩)
  unfold cache_Cache_Eldest_sh
  refine (clen_any h).mono ?_
  rintro e w3 ⟨rfl, rfl⟩
  have hlt : 0 < vs.length := (List.getElem?_eq_some_iff.1 hv).1
  refine ⟨_, rfl, ?_⟩
  have he : ((vs.length : Int) == 0) = false := by simp; intro e; rw [e] at hlt; exact absurd hlt (by decide)
  rw [he]
  refine brB_f ?_
  obtain ⟨s, l, h1, h2, h3, h4, h5, h6⟩ := h
  obtain ⟨t, ht⟩ : ∃ t, l[0]? = some t := ⟨_, List.getElem?_eq_getElem (by omega)⟩
  have hst := (h6 0 t v ht hv).1.nums.1
  refine ⟨s, h1.cell rfl, h2.rd.get (x := t) ht rfl fun a ha hcell => ⟨_, hcell, ?_, rfl⟩⟩
  rw [hst]
end Go.Proofs.Ytijoigpggphajaa
