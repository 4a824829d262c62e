/- CacheSmall: the walk. -/
import Derived.Test.YtijoigpggphajaaCaPut
import Derived.Test.YtijoigpggphajaaShHollowaylaw21
set_option maxRecDepth 100000
namespace Go.Proofs.Ytijoigpggphajaa
open Go.RowKit

/-- A cache in blocks from b0 on. -/
def Ca (b0 : Nat) (w : World) (c : Nat) (most : Int) (vs : List TrV) : Prop := ∃ B : Nat → Prop, (∀ k, B k → b0 ≤ k) ∧ CAt B w c most vs
theorem Ca.no {b0 : Nat} {w w' : World} {c : Nat} {most : Int} {vs : List TrV} (h : Ca b0 w c most vs) (k : Chg No w w') : Ca b0 w' c most vs := by
  obtain ⟨B, h1, h2⟩ := h; exact ⟨B, h1, h2.no k⟩
def trV (start v : Int) : TrV := ⟨start, 0, 0, 0, 0, [⟨1, v, 0, 0, 0⟩], [(5, 1)], 0, [1]⟩
theorem trV_small (start v : Int) : SmV (trV start v) := ⟨by show 1 ≤ _; omega, by show 1 ≤ _; omega, by show 1 ≤ _; omega⟩
theorem trace_any (start v : Int) (w : World) : Calls Try.prog fn_hollowaylaw21_trace #[.int .i64 start, .int .i64 v] w fun e w' => ∃ t : Tr, e = .returned (.agg (trC t).toArray) ∧ TrIs (fun k => w.heap.size ≤ k ∧ k < w'.heap.size) w' t (trV start v) ∧ Chg No w w' := by
  refine (hollowaylaw21_trace_lift (K := fun r w' => ∃ t : Tr, r = .agg (trC t).toArray ∧ TrIs (fun k => w.heap.size ≤ k ∧ k < w'.heap.size) w' t (trV start v) ∧ Chg No w w') ?_).mono (by rintro e w' ⟨v, rfl, t', rfl, h⟩; exact ⟨t', rfl, h⟩)
  unfold hollowaylaw21_trace_sh
  intro b3 w4 hb3 hw4
  have o4 : Ob w4 b3 (trC tr0) T_api_Trace := by rw [hw4, hb3]; exact Ob.new w (trC tr0) T_api_Trace
  have c4 : Chg No w w4 := by rw [hw4]; exact Chg.alloc _ _ _
  intro b5 w6 hb5 hw6
  have h6 : Ow insE w6 ⟨some ⟨b5, 0, none⟩, 1, 1⟩ [⟨1, v, 0, 0, 0⟩] := by
    rw [hw6, hb5]; exact Ow.lit (E := insE) w4 [⟨1, v, 0, 0, 0⟩] (insE.e ⟨1, v, 0, 0, 0⟩) (by rw [fl_one]) (by show 1 ≤ maxLen; unfold maxLen; omega)
  have c6 : Chg No w4 w6 := by rw [hw6]; exact Chg.alloc _ _ _
  intro b7 w8 hb7 hw8
  have h8 : Ow ouE w8 ⟨some ⟨b7, 0, none⟩, 1, 1⟩ [(5, 1)] := by
    rw [hw8, hb7]; exact Ow.lit (E := ouE) w6 [(5, 1)] (ouE.e (5, 1)) (by rw [fl_one]) (by show 1 ≤ maxLen; unfold maxLen; omega)
  have c8 : Chg No w6 w8 := by rw [hw8]; exact Chg.alloc _ _ _
  intro b9 w10 hb9 hw10
  have h10 : Ow intE w10 ⟨some ⟨b9, 0, none⟩, 1, 1⟩ [1] := by
    rw [hw10, hb9]; exact Ow.lit (E := intE) w8 [1] (intE.e 1) (by rw [fl_one]) (by show 1 ≤ maxLen; unfold maxLen; omega)
  have c10 : Chg No w8 w10 := by rw [hw10]; exact Chg.alloc _ _ _
  have o10 := ((o4.no c6).no c8).no c10
  refine ⟨o10.wr (by simp [trC]), ?_⟩
  intro w11 hw11
  obtain ⟨t, ht⟩ : ∃ t : Tr, t = ⟨start, 0, 0, 0, 0, ⟨some ⟨b5, 0, none⟩, 1, 1⟩, ⟨some ⟨b7, 0, none⟩, 1, 1⟩, 0, ⟨some ⟨b9, 0, none⟩, 1, 1⟩⟩ := ⟨_, rfl⟩
  have o11 : Ob w11 b3 (trC t) T_api_Trace := by
    have := Ob.st (vs := trC t) (k := 0) (i := 0) o10
    rw [trC_whole] at this
    rw [hw11, ht]; rw [ht] at this; exact this
  have c11 : Chg (fun k => k = b3) w10 w11 := by rw [hw11]; exact Chg.st (S := fun k => k = b3) rfl
  have s4 := c4.size
  have s6 := c6.size
  have s8 := c8.size
  have s10 := c10.size
  have s11 := c11.size
  have l3 := o4.lt
  have l5 : b5 < w6.heap.size := h6.lt rfl
  have l7 : b7 < w8.heap.size := h8.lt rfl
  have l9 : b9 < w10.heap.size := h10.lt rfl
  refine ⟨t.start, t.slots, t.backs, t.grow, t.growBack, t.ins, t.outs, t.last, t.cells, o11.cell rfl, o11.cell rfl, o11.cell rfl, o11.cell rfl, o11.cell rfl, o11.cell rfl, o11.cell rfl, o11.cell rfl, o11.cell rfl, t, rfl, ?_, ?_⟩
  · subst ht
    have e5 : ∀ k, (⟨some ⟨b5, 0, none⟩, 1, 1⟩ : Sl).blk = some k → k = b5 := fun k hk => (Option.some.inj hk).symm
    have e7 : ∀ k, (⟨some ⟨b7, 0, none⟩, 1, 1⟩ : Sl).blk = some k → k = b7 := fun k hk => (Option.some.inj hk).symm
    have e9 : ∀ k, (⟨some ⟨b9, 0, none⟩, 1, 1⟩ : Sl).blk = some k → k = b9 := fun k hk => (Option.some.inj hk).symm
    refine ⟨⟨rfl, rfl, rfl, rfl, rfl, rfl⟩, (((h6.no c8).no c10).chg c11 (fun k hk he => by have := e5 k hk; omega)).rd, ((h8.no c10).chg c11 (fun k hk he => by have := e7 k hk; omega)).rd, (h10.chg c11 (fun k hk he => by have := e9 k hk; omega)).rd, fun k hk => ?_, fun k hk => ?_, fun k hk => ?_⟩
    · have := e5 k hk; omega
    · have := e7 k hk; omega
    · have := e9 k hk; omega
  · have c : Chg No w w10 := ((c4.trans c6 (fun _ _ h => h) (fun _ _ h => h)).trans c8 (fun _ _ h => h) (fun _ _ h => h)).trans c10 (fun _ _ h => h) (fun _ _ h => h)
    exact c.trans c11 (fun _ _ h => h) (fun k hk he => by omega)
theorem ca_put {b0 : Nat} {w w5 : World} {c : Nat} {most : Int} {vs : List TrV} {t : Tr} {v : TrV} (h : Ca b0 w c most vs) (hb : b0 ≤ w.heap.size) (c5 : Chg No w w5) (ht : TrIs (fun k => w.heap.size ≤ k ∧ k < w5.heap.size) w5 t v) (hv : SmV v) (hm : 0 ≤ most) (hl : vs.length ≤ 100000) (hx : v.start ∉ vs.map (·.start)) :
    Calls Try.prog fn_cache_Cache_Put #[.pointer (some ⟨c, 0, none⟩), .agg (trC t).toArray] w5 fun e w' => ∃ g : Sl, e = .returned g.val ∧ Ow intE w' g (((vs ++ [v]).take ((vs ++ [v]).length - most.toNat)).map (·.start)) ∧ Ca b0 w' c most ((vs ++ [v]).drop ((vs ++ [v]).length - most.toNat)) ∧ Chg (fun k => b0 ≤ k) w5 w' := by
  obtain ⟨B, h1, h2⟩ := h
  have s5 := c5.size
  have hB5 : CAt (fun k => (B k ∧ k < w.heap.size) ∨ w5.heap.size ≤ k) w5 c most vs := (h2.nar.no c5).wid (fun k hk => Or.inl hk)
  refine (put_new hB5 hm t v ht hv (fun k hk => Or.inr hk) (fun k hk => by omega) hl hx).mono ?_
  rintro e w' ⟨g, rfl, hg, hc, hch, _⟩
  have hle : ∀ k, ((B k ∧ k < w.heap.size) ∨ w5.heap.size ≤ k) → b0 ≤ k := fun k hk => by
    rcases hk with hk | hk
    · exact h1 k hk.1
    · omega
  exact ⟨g, rfl, hg, ⟨_, fun k hk => hle k hk.1, hc⟩, hch.mono (fun k _ hk => hle k hk)⟩
theorem starts_any {b0 : Nat} {w : World} {c : Nat} {most : Int} {vs : List TrV} (h : Ca b0 w c most vs) (hl : vs.length ≤ 100000) : Calls Try.prog fn_cache_Cache_Starts #[.pointer (some ⟨c, 0, none⟩)] w fun e w' => ∃ s' : Sl, e = .returned s'.val ∧ Ow intE w' s' (vs.map (·.start)) ∧ Chg No w w' := by
  refine (cache_Cache_Starts_lift (K := fun r w' => ∃ s' : Sl, r = s'.val ∧ Ow intE w' s' (vs.map (·.start)) ∧ Chg No w w') ?_).mono (by rintro e w' ⟨v, rfl, t', rfl, h⟩; exact ⟨t', rfl, h⟩)
  have tr : ∀ {x y z : World}, Chg No x y → Chg No y z → Chg No x z := fun h k => h.trans k (fun _ _ h => h) (fun _ _ h => h)
  unfold cache_Cache_Starts_sh
  obtain ⟨B, _, s, l, h1, h2, h3, h4, h5, h6⟩ := h
  have hst := starts_eq h5 h6
  have hlen := h2.rd.len
  refine ⟨s, h1.cell rfl, ?_⟩
  rw [← hst]
  refine ⟨fun o n w' => ∃ k : Nat, n = k ∧ k ≤ l.length ∧ Ow intE w' o ((l.take k).map (·.start)) ∧ (∀ k, o.blk = some k → w.heap.size ≤ k) ∧ Chg No w w', fun o n _ => l.length - n.toNat, ⟨0, rfl, Nat.zero_le _, Ow.nil _ _, (fun k hk => by cases hk), Chg.refl _ _⟩, ?_⟩
  rintro o n w3 ⟨k, rfl, hk, ho, hob, hc⟩
  refine brB_of (fun hlt => ?_) (fun hlt => ?_)
  · have hlt : k < l.length := by simp at hlt; omega
    obtain ⟨t, ht⟩ : ∃ t, l[k]? = some t := ⟨_, List.getElem?_eq_getElem hlt⟩
    refine (h2.rd.no hc).ix (by omega) (by rw [Int.toNat_natCast]; exact ht) fun a ha hcell => ?_
    have e0 : ∀ q : Addr, q.add 0 = q := fun q => by unfold Addr.add; simp
    have c0 := hcell 0 _ rfl
    rw [e0] at c0
    refine ⟨_, _, _, _, _, t.ins, t.outs, _, t.cells, c0, hcell 1 _ rfl, hcell 2 _ rfl, hcell 3 _ rfl, hcell 4 _ rfl, hcell 5 _ rfl, hcell 6 _ rfl, hcell 7 _ rfl, hcell 8 _ rfl, ?_⟩
    intro b15 w16 hb15 hw16
    have o16 : Ob w16 b15 (trC tr0) T_api_Trace := by rw [hw16, hb15]; exact Ob.new w3 (trC tr0) T_api_Trace
    have c16 : Chg No w3 w16 := by rw [hw16]; exact Chg.alloc _ _ _
    refine ⟨o16.wr (by simp [trC]), ?_⟩
    intro w17 hw17
    have o17 : Ob w17 b15 (trC t) T_api_Trace := by
      have := Ob.st (vs := trC t) (k := 0) (i := 0) o16
      rw [trC_whole] at this
      rw [hw17]; exact this
    have c17 : Chg No w3 w17 := by
      rw [hw17]
      exact c16.trans (Chg.st (S := fun k => k = b15) rfl) (fun _ _ h => h) (fun j hj he => by omega)
    refine ⟨_, o17.cell rfl, ?_⟩
    intro b20 w21 hb20 hw21
    have c21 : Chg No w17 w21 := by rw [hw21]; exact Chg.alloc _ _ _
    have hlit : Ow intE w21 ⟨some ⟨b20, 0, none⟩, 1, 1⟩ [t.start] := by
      rw [hw21, hb20]
      exact Ow.lit w17 [t.start] [.int .i64 t.start] (by rw [fl_one]; rfl) (by show 1 ≤ maxLen; unfold maxLen; omega)
    have hol : ((l.take k).map (·.start)).length = k := by rw [List.length_map, List.length_take]; omega
    refine app_ok intOk rfl rfl ((ho.no c17).no c21) hlit.rd (by rw [hol]; show (k + 1) * 8 ≤ _; omega) (by rw [hol]; show k + 1 ≤ _; unfold maxLen; omega) ?_
    intro o' w23 ho' c23 hbk
    have s3 := hc.size
    have s17 := c17.size
    have s21 := c21.size
    rw [wr_of (by omega) (by omega)]
    refine ⟨⟨k + 1, by omega, by omega, ?_, fun j hj => ?_, ?_⟩, by show l.length - Int.toNat ((k : Int) + 1) < l.length - Int.toNat (k : Int); omega⟩
    · have e1 : (l.take k).map (·.start) ++ [t.start] = (l.take (k + 1)).map (·.start) := by
        rw [List.take_add_one, ht, List.map_append]; rfl
      rw [← e1]; exact ho'
    · rcases hbk with hh | hh
      · rw [hh] at hj; exact hob j hj
      · have := Option.some.inj (hh.symm.trans hj); omega
    · exact (tr (tr hc c17) c21).trans c23 (fun _ _ h => h) (fun j hj he => by have := hob j he; omega)
  · have hlt : k = l.length := by simp at hlt; omega
    subst hlt
    rw [List.take_length] at ho
    exact ⟨o, rfl, ho, hc⟩
theorem Rd.get {α : Type} {E : Enc α} {w : World} {s : Sl} {xs : List α} (h : Rd E w s xs) {x : α} (hx : xs[0]? = some x) {u : Value} (hu : (E.e x)[0]? = some u) {G : Addr → Prop} (k : ∀ a, s.ptr = some a → w.cell? (a.add (Int.toNat 0 * E.sz)) = some u → G a) : ∃ a, s.ptr = some a ∧ 0 ≤ (0 : Int) ∧ (0 : Int) < (s.len : Int) ∧ G a := by
  refine h.ix (i := 0) (Int.le_refl 0) hx fun a ha hc => k a ha ?_
  have := hc 0 u hu
  have e0 : ∀ q : Addr, q.add 0 = q := fun q => by unfold Addr.add; simp
  rwa [e0] at this
theorem alive21_any (w : World) : Calls Try.prog fn_hollowaylaw21_alive #[] w fun e w' => e = .returned (.bool true) ∧ Chg No w w' := by
  refine (hollowaylaw21_alive_lift (K := fun v w' => v = .bool true ∧ Chg No w w') ?_).mono (by rintro e w' ⟨v, rfl, rfl, h⟩; exact ⟨rfl, h⟩)
  have tr : ∀ {x y z : World}, Chg No x y → Chg No y z → Chg No x z := fun h k => h.trans k (fun _ _ h => h) (fun _ _ h => h)
  unfold hollowaylaw21_alive_sh
  refine (cnew_any 1 w).mono ?_
  rintro e w2 ⟨c, rfl, h2, hc2⟩
  have h2 : Ca w.heap.size w2 c 1 [] := ⟨_, fun k hk => hk, h2⟩
  refine ⟨_, rfl, brB_f ?_⟩
  refine (trace_any 5 1 w2).mono ?_
  rintro e w5 ⟨t, rfl, ht, hc5⟩
  refine ⟨_, _, _, _, _, t.ins, t.outs, _, t.cells, rfl, ?_⟩
  refine (ca_put h2 hc2.size hc5 ht (trV_small _ _) (by omega) (by simp) (by simp)).mono ?_
  rintro e w16 ⟨s17, rfl, g17, h16, hc16⟩
  have l17 : s17.len = 0 := g17.lenOf
  have h16 : Ca w.heap.size w16 c 1 [trV 5 1] := h16
  have cw16 : Chg No w w16 := (tr hc2 hc5).trans hc16 (fun _ _ h => h) (fun k hk he => by omega)
  refine ⟨s17, rfl, ?_⟩
  refine (trace_any 7 2 w16).mono ?_
  rintro e w19 ⟨t2, rfl, ht2, hc19⟩
  refine ⟨_, _, _, _, _, t2.ins, t2.outs, _, t2.cells, rfl, ?_⟩
  refine (ca_put h16 cw16.size hc19 ht2 (trV_small _ _) (by omega) (by simp) (by simp [trV])).mono ?_
  rintro e w30 ⟨s31, rfl, g31, h30, hc30⟩
  have g31 : Ow intE w30 s31 [5] := g31
  have h30 : Ca w.heap.size w30 c 1 [trV 7 2] := h30
  have cw30 : Chg No w w30 := (tr cw16 hc19).trans hc30 (fun _ _ h => h) (fun k hk he => by omega)
  refine ⟨s31, rfl, ?_⟩
  refine (starts_any h30 (by simp)).mono ?_
  rintro e w33 ⟨s34, rfl, g34, hc33⟩
  have g34 : Ow intE w33 s34 [7] := g34
  have l31 : s31.len = 1 := g31.lenOf
  have l34 : s34.len = 1 := g34.lenOf
  refine ⟨s34, rfl, ?_⟩
  rw [l17]
  refine brB_t ?_
  have e1 : ((s31.len : Int) == 1) = true := by rw [l31]; rfl
  rw [e1]
  refine brB_t ?_
  refine (g31.rd.no hc33).get rfl rfl fun a ha hcell => ⟨5, hcell, brB_t ?_⟩
  have e2 : ((s34.len : Int) == 1) = true := by rw [l34]; rfl
  rw [e2]
  refine brB_t ?_
  refine g34.rd.get rfl rfl fun a ha hcell => ⟨7, hcell, brB_t ?_⟩
  obtain ⟨B, hB, h33⟩ := h30.no hc33
  refine (clen_any h33).mono ?_
  rintro e w40 ⟨rfl, rfl⟩
  refine ⟨_, rfl, brB_t ?_⟩
  refine (has_any h33 7).mono ?_
  rintro e w43 ⟨rfl, hc43⟩
  refine ⟨_, rfl, ?_, tr (tr cw30 hc33) hc43⟩
  rw [decide_eq_true (by simp [trV])]
theorem cacheSmall_walk (s : Sl) (xs : List Int) (w : World) (h : Rd intE w s xs) : Calls Try.prog fn_hollowaylaw21_CacheSmall #[s.val] w fun e w' => e = .returned (.bool true) ∧ Chg No w w' := by
  refine (hollowaylaw21_CacheSmall_lift (K := fun v w' => v = .bool true ∧ Chg No w w') ?_).mono (by rintro e w' ⟨v, rfl, rfl, h⟩; exact ⟨rfl, h⟩)
  have tr : ∀ {x y z : World}, Chg No x y → Chg No y z → Chg No x z := fun h k => h.trans k (fun _ _ h => h) (fun _ _ h => h)
  unfold hollowaylaw21_CacheSmall_sh
  have hlen := h.len
  refine ⟨fun b w' => (b = false → xs.length ≤ 40) ∧ Chg No w w', ?_, ?_⟩
  · rintro b w6 ⟨hb, h6⟩
    refine brB_of (fun _ => ?_) (fun hf => ?_)
    · refine (alive21_any w6).mono ?_
      rintro e w9 ⟨rfl, h9⟩
      exact ⟨_, rfl, rfl, tr h6 h9⟩
    have hl := hb hf
    refine (cnew_any 0 w6).mono ?_
    rintro e w11 ⟨c, rfl, h11, hc11⟩
    have h11 : Ca w.heap.size w11 c 0 [] := ⟨_, fun k hk => by have := h6.size; omega, h11⟩
    refine ⟨_, rfl, brB_f ?_⟩
    refine ⟨fun i w' => ∃ k : Nat, i = k ∧ k ≤ xs.length ∧ Ca w.heap.size w' c 0 [] ∧ Chg No w w', fun i _ => xs.length - i.toNat, ⟨0, rfl, Nat.zero_le _, h11, tr h6 hc11⟩, ?_⟩
    rintro i w13 ⟨k, rfl, hk, hca, hc⟩
    refine brB_of (fun hlt => ?_) (fun hlt => ?_)
    · have hlt : k < xs.length := by simp at hlt; omega
      obtain ⟨x, hx⟩ : ∃ x, xs[k]? = some x := ⟨_, List.getElem?_eq_getElem hlt⟩
      have hx' : xs[(k : Int).toNat]? = some x := by rw [Int.toNat_natCast]; exact hx
      have e0 : ∀ q : Addr, q.add 0 = q := fun q => by unfold Addr.add; simp
      have arg : ∀ y : World, Chg No w y → ∀ {G : Addr → Prop}, (∀ a, s.ptr = some a → (∀ z, Chg No w z → z.cell? (a.add ((k : Int).toNat * 1)) = some (.int .i64 x)) → G a) → ∃ a, s.ptr = some a ∧ 0 ≤ (k : Int) ∧ (k : Int) < (s.len : Int) ∧ G a := by
        intro y hy G hG
        refine (h.no hy).ix (by omega) hx' fun a ha _ => hG a ha fun z hz => ?_
        obtain ⟨a', ha', hcell⟩ := (h.no hz).at hx
        rw [ha] at ha'; cases ha'
        have := hcell 0 _ rfl
        rw [e0] at this
        rw [Int.toNat_natCast]; exact this
      refine arg w13 hc fun a ha hcell => ⟨x, hcell _ hc, ?_⟩
      refine (trace_any x k w13).mono ?_
      rintro e w18 ⟨t, rfl, ht, hc18⟩
      refine ⟨_, _, _, _, _, t.ins, t.outs, _, t.cells, rfl, ?_⟩
      refine (ca_put hca hc.size hc18 ht (trV_small _ _) (by omega) (by simp) (by simp)).mono ?_
      rintro e w29 ⟨s30, rfl, g30, h29, hc29⟩
      have g30 : Ow intE w29 s30 [x] := g30
      have h29 : Ca w.heap.size w29 c 0 [] := h29
      have cw29 : Chg No w w29 := (tr hc hc18).trans hc29 (fun _ _ h => h) (fun k hk he => by omega)
      refine ⟨s30, rfl, ?_⟩
      refine ⟨fun b w' => b = false ∧ Ca w.heap.size w' c 0 [] ∧ Chg No w w', ?_, ?_⟩
      · rintro b w45 ⟨rfl, h45, hc45⟩
        refine brB_f ?_
        rw [wr_of (by omega) (by omega)]
        exact ⟨⟨k + 1, by omega, by omega, h45, hc45⟩, by show xs.length - Int.toNat ((k : Int) + 1) < xs.length - Int.toNat (k : Int); omega⟩
      intro w31 hw31
      have c31 : Chg No w29 w31 := by rw [hw31]; exact Chg.drew _ _
      have g31 := g30.no c31
      have h31 := h29.no c31
      have cw31 := tr cw29 c31
      refine ⟨fun w' => Ow intE w' s30 [x] ∧ Chg No w w', ⟨g31, cw31⟩, ?_⟩
      have l30 : s30.len = 1 := g30.lenOf
      have e1 : ((s30.len : Int) != 1) = false := by rw [l30]; rfl
      rw [e1]
      refine brB_f ?_
      refine g31.rd.get (x := x) rfl rfl fun a30 ha30 _ => ⟨x, ?_, ?_⟩
      · rintro w' ⟨hw', _⟩
        obtain ⟨a', ha', hcell'⟩ := hw'.rd.at (i := 0) (x := x) rfl
        rw [ha30] at ha'; cases ha'
        have := hcell' 0 _ rfl
        rw [e0] at this
        exact this
      refine arg w31 cw31 fun a2 ha2 hcell2 => ⟨x, fun w' hw' => hcell2 _ hw'.2, ?_⟩
      have e2 : (x != x) = false := by simp
      rw [e2]
      refine brB_f ?_
      obtain ⟨B, hB, hca31⟩ := h31
      refine (clen_any hca31).mono ?_
      rintro e w38 ⟨rfl, rfl⟩
      refine ⟨_, rfl, ⟨g31, cw31⟩, brB_f ?_⟩
      refine arg w31 cw31 fun a3 ha3 hcell3 => ⟨x, fun w' hw' => hcell3 _ hw'.2, ?_⟩
      refine (has_any hca31 x).mono ?_
      rintro e w43 ⟨rfl, hc43⟩
      refine ⟨_, rfl, ?_, ⟨B, hB, hca31.no hc43⟩, tr cw31 hc43⟩
      rw [decide_eq_false (by simp)]
    · refine (starts_any hca (by simp)).mono ?_
      rintro e w48 ⟨s49, rfl, g49, hc49⟩
      have l49 : s49.len = 0 := g49.lenOf
      refine ⟨s49, rfl, ?_, tr hc hc49⟩
      rw [l49]; rfl
  · refine brB_of (fun h => ⟨(fun h => Bool.noConfusion h), Chg.refl _ _⟩) (fun h1 => ?_)
    refine (alive21_any w).mono ?_
    rintro e w4 ⟨rfl, h4⟩
    have h1 := of_decide_eq_false h1
    exact ⟨_, rfl, fun _ => by omega, h4⟩
end Go.Proofs.Ytijoigpggphajaa
