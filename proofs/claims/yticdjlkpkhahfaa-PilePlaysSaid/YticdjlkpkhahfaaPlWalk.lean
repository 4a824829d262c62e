/- PilePlays: the walk. -/
import Derived.Test.YticdjlkpkhahfaaPlPlay
set_option maxRecDepth 100000
namespace Go.Proofs.Yticdjlkpkhahfaa
open Go.RowKit

theorem wr_in {x : Int} (h : -9223372036854775808 ≤ x ∧ x ≤ 9223372036854775807) : wr x = x := wr_of h.1 h.2
theorem pilePlays_walk (most : Int) (fi : Sl) (fs : List Int) (l : Sl) (os : List OpP) (ask : Int) (w : World) (hfi : Rd intE w fi fs) (hr : Rd oppE w l os) (hq : ∀ o ∈ os, ∃ xs, Rd intE w o.l xs) :
    Calls Try.prog fn_hollowaylaw5_PilePlays #[.int .i64 most, fi.val, l.val, .int .i64 ask] w fun e w' => e = .returned (.bool true) ∧ Chg No w w' := by
  refine (hollowaylaw5_PilePlays_lift (K := fun r w' => r = .bool true ∧ Chg No w w') ?_).mono (by rintro e w' ⟨r, rfl, rfl, h⟩; exact ⟨rfl, h⟩)
  unfold hollowaylaw5_PilePlays_sh
  obtain ⟨M, hM, hM1⟩ : ∃ M : Nat, imin (imax most 0) 1000 = (M : Int) ∧ M ≤ 1000 := by
    refine ⟨(imin (imax most 0) 1000).toNat, ?_, ?_⟩ <;> unfold imin imax <;> split <;> split <;> omega
  rw [hM]
  refine ⟨fun b w' => (b = false → fi.len ≤ 60 ∧ l.len ≤ 80) ∧ Chg No w w', ?_, ?_⟩
  · rintro b w8 ⟨hb, c8⟩
    refine brB_of (fun _ => ?_) (fun hf => ?_)
    · refine (alive5_any _).mono ?_
      rintro e w11 ⟨rfl, c11⟩
      exact ⟨_, rfl, rfl, trN c8 c11⟩
    obtain ⟨hfi60, hl80⟩ := hb hf
    have hfl := hfi.len
    have hfc := hfi.capL
    have hll := hr.len
    refine (lentInts_any (hfi.no c8) (by omega)).mono ?_
    rintro e w14 ⟨s15, rfl, h15, c14, b15⟩
    refine ⟨s15, rfl, ?_⟩
    refine (pnew_any most M hM s15 fs w14 h15.rd (by omega)).mono ?_
    rintro e w17 ⟨p, rfl, h17, c17⟩
    have z8 := c8.size
    have z14 := c14.size
    have z17 := c17.size
    have hn : ∃ n : Nat, imin (fi.len : Int) (M : Int) = (n : Int) ∧ n ≤ fs.length ∧ fs.take M = fs.take n := by
      unfold imin
      split
      · exact ⟨M, rfl, by omega, rfl⟩
      · exact ⟨fi.len, rfl, by omega, by rw [List.take_of_length_le (by omega), List.take_of_length_le (by omega)]⟩
    obtain ⟨n, e1, e2, e4⟩ := hn
    refine ⟨_, rfl, ?_⟩
    rw [e1]
    refine ⟨by omega, by omega, ?_⟩
    intro s19 hs19
    rw [sub0, Int.toNat_natCast] at hs19
    have k17 := trN (trN c8 c14) c17
    have r19 : Rd intE w17 s19 (fs.take n) := by rw [hs19]; exact (hfi.no k17).take e2
    rw [← e4] at r19
    refine appNilI rfl r19 (by rw [List.length_take]; omega) ?_
    intro s20 w21 h20 c21 b20
    have z21 := c21.size
    refine ⟨fun b w' => b = false ∧ Chg No w21 w', ?_, ?_⟩
    · rintro b w25 ⟨rfl, c25⟩
      refine brB_f ?_
      intro b27 w28 hb27 hw28
      have o28 : Ob w28 b27 (bookI nilS nilS) T_hollowaybook_Book := by rw [hw28, hb27]; exact Ob.new w25 (bookI nilS nilS) T_hollowaybook_Book
      have c28 : Chg No w25 w28 := by rw [hw28]; exact Chg.alloc _ _ _
      have z25 := c25.size
      have z28 : w28.heap.size = w25.heap.size + 1 := by rw [hw28]; simp
      have k28 := trN c25 c28
      have start : PWx (fun k => w14.heap.size ≤ k ∧ k < w17.heap.size) (fun k => k = b27) w w28 p s20 (fs.take M) (fs.take M) M b27 := by
        refine ⟨(h17.nar.no c21).no k28, h20.no k28, BkI.empty o28 rfl, fun k hk => ⟨by omega, by omega, fun he => by omega⟩, fun k hk => ⟨by omega, by omega⟩, fun k hk => ⟨by have := b20 k hk; omega, fun he => by have := b20 k hk; omega, fun he => by have := h20.lt hk; omega⟩, trN k17 (trN c21 k28)⟩
      refine ⟨fun p' s i w' => ∃ (k pn : Nat) (B D : Nat → Prop) (m : List Int), i = k ∧ k ≤ os.length + 1 ∧ p' = some ⟨pn, 0, none⟩ ∧ PWx B D w w' pn s m m M b27, fun _ _ i _ => os.length + 1 - i.toNat, ⟨0, p, _, _, _, rfl, Nat.zero_le _, rfl, start⟩, ?_⟩
      rintro p' want i w29 ⟨k, pn, B, D, m, rfl, hk, rfl, hx⟩
      refine brB_of (fun hlt => ?_) (fun hlt => ?_)
      · have hlt : k ≤ os.length := by simp at hlt; omega
        have hwl := hx.want.rd.len
        have hwc := hx.want.rd.capL
        have hml := hx.dic.len
        refine ⟨fun p' s ok w' => ∃ (pn : Nat) (B D : Nat → Prop) (m : List Int), p' = some ⟨pn, 0, none⟩ ∧ ok = true ∧ PWx B D w w' pn s m m M b27, ?_, ?_⟩
        · -- behind the switch
          rintro p130 want' ok w129 ⟨pn', B', D', m', rfl, rfl, x129⟩
          have hw129 := x129.want.rd.len
          have hc129 := x129.want.rd.capL
          have hm' := x129.dic.len
          refine (pall_any x129.dic).mono ?_
          rintro e w132 ⟨s133, rfl, h133, c132, b133⟩
          refine ⟨s133, rfl, ?_⟩
          refine ((x129.no c132).keep h133 (by omega) (fun k hk => x129.apart (b133 k hk))).mono ?_
          rintro e w135 ⟨rfl, ⟨D2, x135⟩, h135, c135⟩
          refine ⟨rfl, ?_⟩
          refine (ppeek_any ask x135.dic).mono ?_
          rintro e w137 ⟨rfl, rfl⟩
          by_cases hin : 0 ≤ ask ∧ ask < m'.length
          · unfold peekV
            rw [if_pos hin]
            refine ⟨_, _, rfl, ?_⟩
            refine ⟨fun b w' => b = true ∧ w' = w135, ?_, ?_⟩
            · rintro b w141 ⟨rfl, rfl⟩
              refine ⟨fun b w' => b = false ∧ Chg No w141 w', ?_, ?_⟩
              · rintro b w152 ⟨rfl, c152⟩
                refine brB_f ?_
                rw [wr_in (by omega)]
                exact ⟨⟨k + 1, pn', _, _, m', by omega, by omega, rfl, x135.no c152⟩, by show os.length + 1 - Int.toNat ((k : Int) + 1) < os.length + 1 - Int.toNat (k : Int); omega⟩
              refine brB_f ?_
              refine (sameInts_ok s133 want' m' _ h135.rd x135.want.rd).mono ?_
              rintro e w144 ⟨rfl, c144⟩
              refine ⟨_, rfl, brB_f ?_⟩
              refine (plen_any (x135.dic.no c144)).mono ?_
              rintro e w147 ⟨rfl, rfl⟩
              refine ⟨_, rfl, ?_⟩
              rw [hw129, show ((m'.length : Int) != (m'.length : Int)) = false by simp]
              refine brB_f (brB_f (brB_t ?_))
              have e1 : wr (wr ((m'.length : Int) - 1) - ask) = (m'.length : Int) - 1 - ask := by rw [wr_in (x := (m'.length : Int) - 1) (by omega), wr_in (by omega)]
              rw [e1, ← hw129]
              have e2 : Int.toNat ((want'.len : Int) - 1 - ask) = m'.length - 1 - ask.toNat := by omega
              refine ((x135.want.no c144).rd).ix (x := m'.getD (m'.length - 1 - ask.toNat) 0) (by omega) ?_ fun a ha hcell => ?_
              · rw [e2, List.getD_eq_getElem?_getD, List.getElem?_eq_getElem (by omega)]; rfl
              · have q1 := hcell 0 _ rfl
                rw [add0] at q1
                refine ⟨_, q1, ?_⟩
                rw [show (m'.getD (want'.len - 1 - ask.toNat) 0 != m'.getD (m'.length - 1 - ask.toNat) 0) = false by rw [hw129]; simp]
                exact brB_f (brB_f ⟨rfl, c144⟩)
            · refine brB_of (fun _ => ⟨?_, rfl⟩) (fun h => by have := of_decide_eq_false h; omega)
              apply decide_eq_true; omega
          · unfold peekV
            rw [if_neg hin]
            refine ⟨_, _, rfl, ?_⟩
            refine ⟨fun b w' => b = false ∧ w' = w135, ?_, ?_⟩
            · rintro b w141 ⟨rfl, rfl⟩
              refine ⟨fun b w' => b = false ∧ Chg No w141 w', ?_, ?_⟩
              · rintro b w152 ⟨rfl, c152⟩
                refine brB_f ?_
                rw [wr_in (by omega)]
                exact ⟨⟨k + 1, pn', _, _, m', by omega, by omega, rfl, x135.no c152⟩, by show os.length + 1 - Int.toNat ((k : Int) + 1) < os.length + 1 - Int.toNat (k : Int); omega⟩
              refine brB_f ?_
              refine (sameInts_ok s133 want' m' _ h135.rd x135.want.rd).mono ?_
              rintro e w144 ⟨rfl, c144⟩
              refine ⟨_, rfl, brB_f ?_⟩
              refine (plen_any (x135.dic.no c144)).mono ?_
              rintro e w147 ⟨rfl, rfl⟩
              refine ⟨_, rfl, ?_⟩
              rw [hw129, show ((m'.length : Int) != (m'.length : Int)) = false by simp]
              exact brB_f (brB_f (brB_f (brB_t ⟨rfl, c144⟩)))
            · refine brB_of (fun h => ⟨?_, rfl⟩) (fun _ => ⟨rfl, rfl⟩)
              have h := of_decide_eq_true h
              apply decide_eq_false; omega
        · refine brB_of (fun h0 => ?_) (fun _ => ⟨pn, B, D, m, rfl, rfl, hx⟩)
          have h0 : 0 < k := by have := of_decide_eq_true h0; omega
          have ek : wr ((k : Int) - 1) = ((k - 1 : Nat) : Int) := by rw [wr_in (by omega)]; omega
          rw [ek]
          obtain ⟨o, ho⟩ : ∃ o, os[k - 1]? = some o := ⟨_, List.getElem?_eq_getElem (by omega)⟩
          obtain ⟨ys, hys⟩ := hq o (List.mem_of_getElem? ho)
          refine (hr.no hx.chg).ix (i := ((k - 1 : Nat) : Int)) (by omega) (by rw [Int.toNat_natCast]; exact ho) fun a _ hcell => ?_
          have q0 := hcell 0 _ rfl
          rw [add0] at q0
          refine ⟨o.kind, o.n, o.v, o.l, q0, hcell 1 _ rfl, hcell 2 _ rfl, hcell 3 _ rfl, ?_⟩
          intro b36 w37 hb36 hw37
          obtain ⟨f1, f2⟩ := opput o hb36 hw37
          refine ⟨f1, fun w38 hw38 => ?_⟩
          obtain ⟨o38, c38⟩ := f2 w38 hw38
          have x38 := hx.no c38
          have hyl := hys.len
          refine ⟨o.l, o38.cell rfl, brB_of (fun _ => ⟨rfl, x38.chg⟩) (fun h60 => ?_)⟩
          have h60 : ys.length ≤ 60 := by have := of_decide_eq_false h60; omega
          have z38 := x38.chg.size
          have ob : ∀ k, B k → k ≠ b36 := fun k hb he => by have := (hx.bB k hb).2.1; omega
          have od : ∀ k, D k → k ≠ b36 := fun k hb he => by have := (hx.bD k hb).2; omega
          refine ⟨o.kind, o38.cell rfl, ?_⟩
          refine brB_of (fun h1 => ?_) (fun h1 => brB_of (fun h2 => ?_) (fun h2 => brB_of (fun h3 => ?_) (fun h3 => brB_of (fun h4 => ?_) (fun h4 => ?_))))
          · -- Push
            refine ⟨o.l, o38.cell rfl, ?_⟩
            refine (lentInts_any (hys.no x38.chg) (by omega)).mono ?_
            rintro e w44 ⟨s45, rfl, h45, c44, b45⟩
            have o44 := o38.no c44
            have x44 := x38.no c44
            refine ⟨s45, rfl, o.l, o44.cell rfl, ?_⟩
            rw [hyl, hwl, wr_in (by omega)]
            have hd : decide ((ys.length : Int) ≤ (M : Int) - (m.length : Int)) = decide (m.length + ys.length ≤ M) := by rw [Bool.eq_iff_iff]; simp; omega
            rw [hd]
            refine ⟨fun ok w' => ok = true ∧ Ob w' b36 (oppC o) T_hollowaylaw5_Op ∧ ∃ B' , PWx B' D w w' pn want (if m.length + ys.length ≤ M then m ++ ys else m) m M b27, ?_, ?_⟩
            · rintro ok w55 ⟨rfl, o55, B', x55⟩
              refine brB_of (fun hm => ?_) (fun hm => ?_)
              · have hm := of_decide_eq_true hm
                rw [if_pos hm] at x55
                intro w56 hw56
                have c56 : Chg No w55 w56 := by rw [hw56]; exact Chg.drew _ _
                have x56 := x55.no c56
                refine ⟨fun w' => Chg No w55 w', c56, o.l, Ob.held (fun w' hw' => o55.no hw') rfl, ?_⟩
                refine appNilI rfl x56.want.rd (by omega) ?_
                intro s59 w60 h59 c60 b59
                refine ⟨trN c56 c60, appI rfl rfl h59 ((hys.no x56.chg).no c60) (by omega) ?_⟩
                intro s61 w62 h61 c62 b61
                have z60 := c60.size
                have c' : Chg No w56 w62 := c60.trans c62 (fun _ _ h => h) (fun j hj he => by have := b59 j he; omega)
                refine ⟨pn, _, D, _, rfl, rfl, x56.new c' h61 (fun j hj => ?_)⟩
                rcases b61 with hh | hh
                · exact b59 j (hh ▸ hj)
                · have := Option.some.inj (hh.symm.trans hj); omega
              · have hm := of_decide_eq_false hm
                rw [if_neg hm] at x55
                exact ⟨pn, _, D, _, rfl, rfl, x55⟩
            · refine (ppush_any (x44.dic.wid (C := upT B w44.heap.size) (fun k hk => Or.inl hk)) (fun k hk => Or.inr hk) h45.rd).mono ?_
              rintro e w49 ⟨rfl, h49, c49⟩
              obtain ⟨x49, cB⟩ := x44.dict h49 c49
              have o49 := o44.chg cB (fun hb => ob _ hb rfl)
              refine ⟨_, rfl, ?_⟩
              rw [beq_self_eq_true]
              refine brB_t ⟨o.l, o49.cell rfl, ?_⟩
              have h45' : Lent w49 s45 ys := h45.chg cB (fun k hk hb => by have := (b45 k hk).1; have := (x38.bB k hb).2.1; omega)
              refine (staysInts_any h45' (hys.no x49.chg)).mono ?_
              rintro e w53 ⟨rfl, c53⟩
              exact ⟨_, rfl, rfl, o49.no c53, _, x49.no c53⟩
          · -- Pop
            refine ⟨fun b w' => b = decide (0 ≤ o.n ∧ o.n ≤ m.length) ∧ w' = w38, ?_, ?_⟩
            · rintro b w65 ⟨rfl, rfl⟩
              refine ⟨_, o38.cell rfl, ?_⟩
              refine (ppop_any o.n x38.dic).mono ?_
              rintro e w68 ⟨s69, rfl, h69, b69, h68, c68⟩
              have x68 := x38.dict0 h68 c68
              have o68 := o38.chg c68 (fun hb => ob _ hb rfl)
              refine ⟨s69, _, rfl, ?_⟩
              have hsl : (if 0 ≤ o.n ∧ o.n ≤ (m.length : Int) then m.drop (m.length - o.n.toNat) else []).length ≤ m.length := by
                split
                · rw [List.length_drop]; omega
                · exact Nat.zero_le _
              refine (x68.keep h69 (by omega) (fun k hk => x38.apart (b69 k hk))).mono ?_
              rintro e w72 ⟨rfl, ⟨D2, x72⟩, h72, c72⟩
              have o72 := o68.chg c72 (fun hb => od _ hb rfl)
              refine ⟨rfl, ?_⟩
              refine ⟨fun ok w' => ok = true ∧ Chg No w72 w', ?_, ?_⟩
              · rintro ok w79 ⟨rfl, c79⟩
                have x79 := x72.no c79
                have o79 := o72.no c79
                refine brB_of (fun hm => ?_) (fun hm => ?_)
                · have hm := of_decide_eq_true hm
                  rw [if_pos hm] at x79
                  refine ⟨_, o79.cell rfl, ?_⟩
                  have e1 : wr ((want.len : Int) - o.n) = ((m.length - o.n.toNat : Nat) : Int) := by rw [wr_in (by omega)]; omega
                  rw [e1]
                  refine ⟨by omega, by omega, fun s81 hs81 => ?_⟩
                  rw [sub0, Int.toNat_natCast] at hs81
                  have ht := x79.want.rd.take (n := m.length - o.n.toNat) (by omega)
                  rw [← hs81] at ht
                  refine appNilI rfl ht (by rw [List.length_take]; omega) ?_
                  intro s82 w83 h82 c83 b82
                  exact ⟨pn, _, D2, _, rfl, rfl, x79.new c83 h82 b82⟩
                · have hm := of_decide_eq_false hm
                  rw [if_neg hm] at x79
                  exact ⟨pn, _, D2, _, rfl, rfl, x79⟩
              · rw [beq_self_eq_true]
                refine brB_t (brB_of (fun hm => ?_) (fun hm => ?_))
                · have hm' := of_decide_eq_true hm
                  rw [if_pos hm'] at h72
                  refine ⟨_, o72.cell rfl, ?_⟩
                  have e1 : wr ((want.len : Int) - o.n) = ((m.length - o.n.toNat : Nat) : Int) := by rw [wr_in (by omega)]; omega
                  rw [e1]
                  refine ⟨by omega, by omega, fun s75 hs75 => ?_⟩
                  rw [Int.toNat_natCast, hwl] at hs75
                  have hd := x72.want.rd.drop (m := m.length - o.n.toNat) (by omega)
                  have hd' : Rd intE w72 s75 (m.drop (m.length - o.n.toNat)) := by rw [hs75]; exact hd
                  refine (sameInts_ok s69 s75 _ _ h72.rd hd').mono ?_
                  rintro e w77 ⟨rfl, c77⟩
                  exact ⟨_, rfl, brB_t ⟨rfl, c77⟩⟩
                · have hm' := of_decide_eq_false hm
                  rw [if_neg hm'] at h72
                  rw [hm]
                  refine brB_t ⟨?_, Chg.refl _ _⟩
                  have := h72.rd.len
                  rw [this]; rfl
            · refine ⟨_, o38.cell rfl, brB_of (fun h0 => ⟨_, o38.cell rfl, ?_, rfl⟩) (fun h0 => ⟨?_, rfl⟩)⟩
              · have h0 := of_decide_eq_true h0
                rw [hwl, Bool.eq_iff_iff]; simp; omega
              · have h0 := of_decide_eq_false h0
                symm; apply decide_eq_false; omega
          · -- Set
            refine ⟨fun b w' => b = decide (0 ≤ o.n ∧ o.n < m.length) ∧ w' = w38, ?_, ?_⟩
            · rintro b w86 ⟨rfl, rfl⟩
              refine ⟨_, o38.cell rfl, _, o38.cell rfl, ?_⟩
              refine (pset_any o.n o.v x38.dic).mono ?_
              rintro e w90 ⟨rfl, h90, c90⟩
              have x90 := x38.dict0 h90 c90
              have o90 := o38.chg c90 (fun hb => ob _ hb rfl)
              refine ⟨_, rfl, brB_of (fun hm => ?_) (fun hm => ?_)⟩
              · have hm' := of_decide_eq_true hm
                rw [if_pos hm'] at x90
                refine appNilI rfl x90.want.rd (by omega) ?_
                intro s93 w94 h93 c94 b93
                have o94 := o90.no c94
                refine ⟨_, o94.cell rfl, _, o94.cell rfl, ?_⟩
                have e1 : wr (wr ((want.len : Int) - 1) - o.n) = ((m.length - 1 - o.n.toNat : Nat) : Int) := by rw [wr_in (x := (want.len : Int) - 1) (by omega), wr_in (by omega)]; omega
                rw [e1, Int.toNat_natCast]
                obtain ⟨x, hx'⟩ : ∃ x, m[m.length - 1 - o.n.toNat]? = some x := ⟨_, List.getElem?_eq_getElem (by omega)⟩
                obtain ⟨a, ha, _⟩ := h93.rd.at hx'
                obtain ⟨g1, g2⟩ := h93.set1 ha (k := m.length - 1 - o.n.toNat) (j := 0) (x' := o.v) (u := .int .i64 o.v) hx' (by decide) rfl
                rw [add0] at g1 g2
                have hl93 := h93.rd.len
                refine ⟨a, ha, by omega, by omega, g1, fun w98 hw98 => ?_⟩
                have hb := blk_ptr ha
                have z93 := b93 _ hb
                have c98 : Chg (fun k => k = a.block) w94 w98 := by rw [hw98]; exact Chg.st (S := fun k => k = a.block) (by rw [add_block])
                have c' : Chg No w90 w98 := c94.trans c98 (fun _ _ h => h) (fun j hj he => by omega)
                refine ⟨pn, _, D, _, rfl, by rw [beq_self_eq_true], x90.new c' ?_ b93⟩
                rw [hw98]; exact g2
              · have hm' := of_decide_eq_false hm
                rw [if_neg hm'] at x90
                exact ⟨pn, _, D, _, rfl, by rw [beq_self_eq_true], x90⟩
            · refine ⟨_, o38.cell rfl, brB_of (fun h0 => ⟨_, o38.cell rfl, ?_, rfl⟩) (fun h0 => ⟨?_, rfl⟩)⟩
              · have h0 := of_decide_eq_true h0
                rw [hwl, Bool.eq_iff_iff]; simp; omega
              · have h0 := of_decide_eq_false h0
                symm; apply decide_eq_false; omega
          · -- Cut
            refine ⟨fun b w' => b = decide (0 ≤ o.n ∧ o.n ≤ M) ∧ w' = w38, ?_, ?_⟩
            · rintro b w101 ⟨rfl, rfl⟩
              refine ⟨_, o38.cell rfl, ?_⟩
              refine (pcut_any o.n (x38.dic.wid (C := upT B w101.heap.size) (fun k hk => Or.inl hk)) (fun k hk => Or.inr hk)).mono ?_
              rintro e w104 ⟨rfl, h104, c104⟩
              obtain ⟨x104, cB⟩ := x38.dict h104 c104
              have o104 := o38.chg cB (fun hb => ob _ hb rfl)
              refine ⟨_, rfl, brB_of (fun hm => ?_) (fun hm => ?_)⟩
              · have hm' := of_decide_eq_true hm
                rw [if_pos hm'] at x104
                refine ⟨_, o104.cell rfl, ?_⟩
                have hn : ∃ n : Nat, imin (want.len : Int) o.n = (n : Int) ∧ n ≤ m.length ∧ m.take n = m.take o.n.toNat := by
                  unfold imin
                  split
                  · exact ⟨o.n.toNat, by omega, by omega, rfl⟩
                  · exact ⟨want.len, rfl, by omega, by rw [List.take_of_length_le (by omega), List.take_of_length_le (by omega)]⟩
                obtain ⟨n, e1, e2, e3⟩ := hn
                rw [e1]
                refine ⟨by omega, by omega, fun s108 hs108 => ?_⟩
                rw [sub0, Int.toNat_natCast] at hs108
                have ht := x104.want.rd.take e2
                rw [← hs108, e3] at ht
                refine appNilI rfl ht (by rw [List.length_take]; omega) ?_
                intro s109 w110 h109 c110 b109
                refine ⟨fun s w' => ∃ j : Nat, (m.take o.n.toNat).length + j ≤ o.n.toNat ∧ Ow intE w' s (m.take o.n.toNat ++ List.replicate j 0) ∧ Chg No w104 w' ∧ (∀ k, s.blk = some k → w104.heap.size ≤ k), fun s _ => o.n.toNat - s.len, ⟨0, by rw [List.length_take]; omega, by simpa using h109, c110, b109⟩, ?_⟩
                rintro s112 w111 ⟨j, hj, h112, c111, b112⟩
                have hl112 := h112.rd.len
                rw [List.length_append, List.length_replicate] at hl112
                have o111 := o104.no c111
                refine ⟨_, o111.cell rfl, brB_of (fun hlt => ?_) (fun hlt => ?_)⟩
                · have hlt := of_decide_eq_true hlt
                  intro b114 w115 hb114 hw115
                  obtain ⟨l115, c115⟩ := litI [0] hb114 hw115 (by decide)
                  refine appI rfl (t := ⟨some ⟨b114, 0, none⟩, 1, 1⟩) rfl (h112.no c115) l115.rd (by rw [List.length_append, List.length_replicate]; show _ + 1 ≤ _; omega) ?_
                  intro s116 w117 h116 c117 b116
                  have hl116 := h116.rd.len
                  rw [List.length_append, List.length_append, List.length_replicate] at hl116
                  have z111 := c111.size
                  have z115 := c115.size
                  have hone : [(0 : Int)].length = 1 := rfl
                  have k117 : Chg No w104 w117 := (trN c111 c115).trans c117 (fun _ _ h => h) (fun i hi he => by have := b112 i he; omega)
                  refine ⟨⟨j + 1, by omega, ?_, k117, fun i hi => ?_⟩, by show o.n.toNat - s116.len < o.n.toNat - s112.len; omega⟩
                  · rw [List.replicate_succ', ← List.append_assoc]; exact h116
                  · rcases b116 with hh | hh
                    · exact b112 i (hh ▸ hi)
                    · have := Option.some.inj (hh.symm.trans hi); omega
                · have hlt := of_decide_eq_false hlt
                  have hlt' := List.length_take (i := o.n.toNat) (l := m)
                  have hjj : j = o.n.toNat - m.length := by omega
                  refine ⟨pn, _, D, _, rfl, by rw [beq_self_eq_true], x104.new c111 ?_ b112⟩
                  rw [hjj] at h112; exact h112
              · have hm' := of_decide_eq_false hm
                rw [if_neg hm'] at x104
                exact ⟨pn, _, D, _, rfl, by rw [beq_self_eq_true], x104⟩
            · refine ⟨_, o38.cell rfl, brB_of (fun h0 => ⟨_, o38.cell rfl, ?_, rfl⟩) (fun h0 => ⟨?_, rfl⟩)⟩
              · have h0 := of_decide_eq_true h0
                rw [Bool.eq_iff_iff]; simp; omega
              · have h0 := of_decide_eq_false h0
                symm; apply decide_eq_false; omega
          · -- Copy
            refine (pcopy_any x38.dic).mono ?_
            rintro e w119 ⟨q, rfl, h119, c119⟩
            have x119 := x38.no c119
            refine ⟨_, rfl, brB_f ?_⟩
            intro b121 w122 hb121 hw122
            obtain ⟨l122, c122⟩ := litI [7] hb121 hw122 (by decide)
            have x122 := x119.no c122
            refine (ppush_any (t := ⟨some ⟨b121, 0, none⟩, 1, 1⟩) (x122.dic.wid (C := upT B w122.heap.size) (fun k hk => Or.inl hk)) (fun k hk => Or.inr hk) l122.rd).mono ?_
            rintro e w124 ⟨rfl, h124, c124⟩
            obtain ⟨x124, cB⟩ := x122.dict h124 c124
            refine ⟨_, rfl, ?_⟩
            refine (pset_any 0 (-7) x124.dic).mono ?_
            rintro e w127 ⟨rfl, h127, c127⟩
            have x127 := x124.dict0 h127 c127
            refine ⟨_, rfl, ?_⟩
            have z119 := c119.size
            have z122 := c122.size
            have z124 := c124.size
            have z127 := c127.size
            have nB : ∀ k, w38.heap.size ≤ k → ¬ B k := fun k h hb => by have := (x38.bB k hb).2.1; omega
            have q119 := h119.nar
            have q122 := q119.no c122
            have q124 := q122.chg cB (fun k hk hb => nB k hk.1 hb)
            have q127 := q124.chg c127 (fun k hk hb => by
              obtain ⟨h | h, _⟩ := hb
              · exact nB k hk.1 h
              · omega)
            exact ⟨q, _, D, m, rfl, rfl, x127.swap q127 (fun k hk => ⟨by omega, by omega, fun hd => by have := (x38.bD k hd).2; omega, fun hs => by have := x38.want.lt hs; omega⟩)⟩
      · -- the end
        refine (ppopN_any 0 _).mono ?_
        rintro e w155 ⟨rfl, rfl⟩
        refine ⟨nilS, _, rfl, ?_⟩
        refine (ppeekN_any 0 _).mono ?_
        rintro e w159 ⟨rfl, rfl⟩
        refine ⟨_, _, rfl, brB_t (brB_t ?_)⟩
        intro b162 w163 hb162 hw163
        obtain ⟨_, c163⟩ := litI [1] hb162 hw163 (by decide)
        refine (ppushN_any ⟨some ⟨b162, 0, none⟩, 1, 1⟩ _).mono ?_
        rintro e w165 ⟨rfl, c165⟩
        have x165 := hx.no (trN c163 c165)
        refine ⟨_, rfl, brB_t ?_⟩
        refine (psetN_any _ _ _).mono ?_
        rintro e w168 ⟨rfl, rfl⟩
        refine ⟨_, rfl, brB_t ?_⟩
        refine (pcutN_any _ _).mono ?_
        rintro e w171 ⟨rfl, rfl⟩
        refine ⟨_, rfl, brB_t ?_⟩
        refine (plenN_any _).mono ?_
        rintro e w174 ⟨rfl, rfl⟩
        refine ⟨_, rfl, ?_⟩
        refine (pallN_any _).mono ?_
        rintro e w177 ⟨rfl, rfl⟩
        refine ⟨_, rfl, brB_t ?_⟩
        refine (pcopyN_any _).mono ?_
        rintro e w180 ⟨rfl, rfl⟩
        refine ⟨_, rfl, brB_t ?_⟩
        refine x165.book.apart.mono ?_
        rintro e w183 ⟨rfl, c183⟩
        have z := x165.chg.size
        exact ⟨_, rfl, rfl, x165.chg.trans c183 (fun _ _ h => h) (fun k hk hd => by have := (x165.bD k hd).1; omega)⟩
    · refine brB_f ?_
      have k21 := trN k17 c21
      have h21 : Lent w21 s15 fs := (h15.no c17).no c21
      refine (staysInts_any h21 (hfi.no k21)).mono ?_
      rintro e w23 ⟨rfl, c23⟩
      exact ⟨_, rfl, rfl, c23⟩
  · refine brB_of (fun h => ⟨(fun h => by cases h), Chg.refl _ _⟩) (fun h1 => brB_of (fun h => ⟨(fun h => by cases h), Chg.refl _ _⟩) (fun h2 => ?_))
    refine (alive5_any _).mono ?_
    rintro e w6 ⟨rfl, c6⟩
    refine ⟨_, rfl, fun _ => ?_, c6⟩
    have h1 := of_decide_eq_false h1
    have h2 := of_decide_eq_false h2
    omega
end Go.Proofs.Yticdjlkpkhahfaa
