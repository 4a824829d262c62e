/- The walk of PileParts. -/
import Derived.Test.YtaikagkakajdfaaPileLaw
namespace Go.Proofs.Ytaikagkakajdfaa
open Go.RowKit

theorem kmod (n : Int) (x y : Nat) (h : x + y ≤ 80) : ∃ K : Nat, K ≤ x + y ∧ (wrap64 (wrap64 (n.tmod ((x : Int) + y + 1) + ((x : Int) + y)) + 1)).tmod ((x : Int) + y + 1) = K := by
  have h1 : (n.tmod ((x : Int) + y + 1)).natAbs < ((x : Int) + y + 1).natAbs := by rw [Int.natAbs_tmod]; exact Nat.mod_lt _ (by omega)
  generalize n.tmod ((x : Int) + y + 1) = r at *
  have h4 : -((x : Int) + y) ≤ r ∧ r ≤ (x : Int) + y := by omega
  rw [IntWalk.wrap64_in (r + ((x : Int) + y)) (by omega), IntWalk.wrap64_in _ (by omega), Int.tmod_eq_emod_of_nonneg (by omega)]
  have h2 := Int.emod_lt_of_pos (r + ((x : Int) + y) + 1) (show (0 : Int) < x + y + 1 by omega)
  have h3 := Int.emod_nonneg (r + ((x : Int) + y) + 1) (show ((x : Int) + y + 1) ≠ 0 by omega)
  exact ⟨((r + ((x : Int) + y) + 1) % ((x : Int) + y + 1)).toNat, by omega, by omega⟩
theorem pop_ourI (w0 : World) (F : Nat → Prop) (b : Nat) (most : Nat) (xs : List Int) (n : Int) (N : Nat) (hN : n = N) (w : World) (h : Our w0 w F b most xs) (hn : N ≤ xs.length) :
    Calls Try.prog 18 #[.pointer (some ⟨b, 0, none⟩), .int .i64 n] w fun e w' =>
      ∃ ao len cap, e = .returned (.tuple #[.slice ao len cap, .bool true]) ∧ len = N ∧ RdI w' (.slice ao len cap) (xs.drop (xs.length - N)) ∧ Our w0 w' F b most (xs.take (xs.length - N)) ∧ Fresh w w' (.slice ao len cap) ∧ Chg F w w' := by
  subst hN; exact pop_our w0 F b most xs N w h hn

/-- A list of the call's own, in a block of F. -/
def Lst (w : World) (F : Nat → Prop) (v : Value) (xs : List Int) : Prop := RdI w v xs ∧ ∀ k, v.ownBlock = some k → F k
theorem Lst.other {S : Nat → Prop} {w w' : World} {F : Nat → Prop} {v : Value} {xs : List Int} (h : Lst w F v xs) (c : Chg S w w') (hF : ∀ k, F k → ¬ S k) : Lst w' F v xs :=
  ⟨h.1.chg c (fun k hk => hF k (h.2 k hk)), h.2⟩
/-- The blocks that have come between w and w'. -/
def Betw (w w' : World) : Nat → Prop := fun k => w.heap.size ≤ k ∧ k < w'.heap.size

set_option maxRecDepth 100000 in
set_option maxHeartbeats 4000000 in
theorem pileParts_walk (a b : Value) (xs ys : List Int) (n : Int) (w : World) (ha : RdI w a xs) (hb : RdI w b ys) :
    Calls Try.prog 4 #[a, b, .int .i64 n] w fun e w' => e = .returned (.bool true) ∧ Chg No w w' := by
  obtain ⟨i0, hi, hz0, hz1, hz2⟩ := info_parts Try.infoInt
  obtain ⟨fo, fc, rfl, _⟩ := id ha
  obtain ⟨lo, lc, rfl, _⟩ := id hb
  obtain ⟨_, hf1, hf2, _⟩ := RdI.cells ha
  obtain ⟨_, hl1, hl2, _⟩ := RdI.cells hb
  unfold maxLen at hf2 hl2
  have HA := Lib.hid ha
  have HB := Lib.hid hb
  clear ha hb
  by_cases h1 : xs.length ≤ 40 ∧ ys.length ≤ 40
  · obtain ⟨h1, h2⟩ := h1
    go_enter Try.func4, Try.ntmps4
    go_wp2_with (go_at_call 13; refine (alive5_any _).mono ?_; rintro e w1 ⟨rfl, hc1⟩)
    refine (new_any 100 100 _ xs _ (HA.out.old hc1) (Fits.of (by omega)) (by omega)).mono ?_
    intro e w2 hnew
    obtain ⟨p, rfl, ho⟩ := Our.new (w0 := w) hnew hc1
    rw [List.take_of_length_le (by omega)] at ho
    have HP := Lib.hid ho
    have HC := Lib.hid ho.chg
    clear hnew ho hc1
    go_wp2_with (at_builtin; refine wpList_append_sep _ rfl (.const (.slice none 0 0)) (.tmp 32) 22 rfl 3 i0 (.int .i64 0) 1 8 Try.underlying22 hi hz0 hz1 hz2 rfl (by decide) _ 0 [] rfl (Own.nil _ _ _) _ _ _ rfl (HA.out.old HC.out) (by rw [is_length, Nat.mul_one]) (is_one _) ?c1 ?c2 ?_)
    case c1 => unfold maxLen; omega
    case c2 => omega
    intro v3 w3 hown3 hgr3 hblk3
    have hc3 : Chg No w2 w3 := Chg.grown hgr3 (fun k hk => by simp [Value.ownBlock] at hk)
    have hb3 : ∀ k, v3.ownBlock = some k → Betw w2 w3 k := fun k hk => by
      have h1 := Own.lt hown3 hk
      rcases hblk3 with e | e
      · rw [hk] at e; simp [Value.ownBlock] at e
      · rw [hk] at e; cases e; exact ⟨Nat.le_refl _, h1⟩
    have HP3 := Lib.hid (HP.out.no hc3)
    have HC3 := Lib.hid hc3
    have HB3 := Lib.hid hb3
    have HO3 := Lib.hid hown3
    obtain ⟨vo, vc, hv3⟩ := Own.form hown3
    rw [hv3] at HB3 HO3 ⊢
    clear hgr3 hblk3 hc3 hb3 hown3 hv3 HP
    go_wp2_with (at_builtin; refine wpList_append_sep _ rfl (.tmp 33) (.tmp 34) 22 rfl 3 i0 (.int .i64 0) 1 8 Try.underlying22 hi hz0 hz1 hz2 rfl (by decide) _ xs.length (is xs) rfl HO3.out _ _ _ rfl (HB.out.old HP3.out.chg) (by rw [is_length, Nat.mul_one]) (is_one _) ?d1 ?d2 ?_)
    case d1 => unfold maxLen; omega
    case d2 => omega
    intro v4 w4 hown4 hgr4 hblk4
    rw [← List.length_append, ← is_append] at hown4
    have hc4 : Chg (Betw w2 w3) w3 w4 := Chg.grown hgr4 (fun k hk => HB3.out k hk)
    have HP4 := Lib.hid (HP3.out.other hc4 (fun k hk hF => by have := (HP3.out.lt hk); rcases hk with hk | hk; exact hk.elim; unfold Betw at hF; omega) (fun k hk => by have := HC.out.size; unfold Betw at hk; omega))
    have HS4 := Lib.hid hc4.size
    have HS3 := Lib.hid HC3.out.size
    have HO4 := Lib.hid hown4
    have HR4 := Lib.hid (Own.rd hown4 : RdI w4 v4 (xs ++ ys))
    obtain ⟨vo', vc', hv4⟩ := Own.form hown4
    rw [hv4] at HR4 ⊢
    clear hgr4 hblk4 hc4 hown4 hv4 HP3 HO3 HB3 HO4
    obtain ⟨zs, hzs⟩ : ∃ zs, zs = xs ++ ys := ⟨_, rfl⟩
    have hzl : zs.length = xs.length + ys.length := by rw [hzs, List.length_append]
    have HZ := Lib.hid hzs
    have HZL := Lib.hid hzl
    rw [← hzs] at HR4 ⊢
    clear hzs hzl
    go_wp2_with fail
    refine (new_any 100 100 _ zs _ HR4.out (Fits.of (by rw [HZL.out]; omega)) (by omega)).mono ?_
    intro e w5 hnew
    obtain ⟨q, rfl, ho⟩ := Our.new (w0 := w) hnew HP4.out.chg
    rw [List.take_of_length_le (by rw [HZL.out]; omega)] at ho
    have hc5 : Chg No w4 w5 := by obtain ⟨_, _, _, _, hc, _⟩ := hnew; exact hc
    have HP5 := Lib.hid (HP4.out.no hc5)
    have HQ5 := Lib.hid ho
    have HS5 := Lib.hid hc5.size
    clear hnew ho hc5 HP4 HR4
    go_wp2_with fail
    refine (push_our w _ p _ 100 xs ys _ HP5.out (HB.out.old HP5.out.chg)).mono ?_
    rintro e w6 ⟨rfl, ho6, hc6⟩
    have hroom : xs.length + ys.length ≤ 100 := by omega
    rw [decide_eq_true hroom]
    rw [if_pos hroom, ← HZ.out] at ho6
    have hq6 := HQ5.out.other hc6 (fun k hk hF => by rcases hk with hk | hk; exact hk.elim; rcases hF with hF | hF; exact hF.elim; have := HS4.out; have := HS3.out; omega) (fun k hk => (HP5.out.lt hk).1)
    have HP6 := Lib.hid ho6
    have HQ6 := Lib.hid hq6
    have HS6 := Lib.hid hc6.size
    clear ho6 hc6 hq6 HP5 HQ5 hroom
    go_wp2_with fail
    refine (all_our w _ p 100 zs _ HP6.out).mono ?_
    rintro e w7 ⟨ao, ac, rfl, hr7, ho7, hn7, hc7⟩
    have HP7 := Lib.hid ho7
    have HQ7 := Lib.hid (HQ6.out.no hc7)
    have HR7 := Lib.hid hr7
    have HS7 := Lib.hid hc7.size
    clear hr7 ho7 hn7 hc7 HP6 HQ6
    go_wp2_with fail
    refine (all_our w _ q 100 zs _ HQ7.out).mono ?_
    rintro e w8 ⟨bo, bc, rfl, hr8, ho8, hn8, hc8⟩
    have HQ8 := Lib.hid ho8
    have HP8 := Lib.hid (HP7.out.no hc8)
    have HR8 := Lib.hid hr8
    have HR7' := Lib.hid (HR7.out.no hc8)
    have HS8 := Lib.hid hc8.size
    clear hr8 ho8 hn8 hc8 HP7 HQ7 HR7
    go_wp2_with fail
    refine (sameInts_any _ _ zs zs _ HR7'.out HR8.out).mono ?_
    rintro e w9 ⟨rfl, n9, rfl⟩
    rw [decide_eq_true rfl]
    have HQ9 := Lib.hid (HQ8.out.qt (Qt.drewN _ n9))
    have HP9 := Lib.hid (HP8.out.qt (Qt.drewN _ n9))
    clear HR7' HR8 HQ8 HP8
    go_wp2_with fail
    obtain ⟨K, hK, hk⟩ := kmod n xs.length ys.length (by omega)
    rw [hk]
    clear hk
    have HPl := Lib.hid (fun k (hk : More (More No w1 w2) w5 w6 k) => show (k < w2.heap.size ∨ (w5.heap.size ≤ k ∧ k < w6.heap.size)) by rcases hk with hk | hk; rcases hk with hk | hk; exact hk.elim; omega; omega)
    have HQl := Lib.hid (fun k (hk : More No w4 w5 k) => show (w4.heap.size ≤ k ∧ k < w5.heap.size) by rcases hk with hk | hk; exact hk.elim; omega)
    refine (pop_ourI w _ p 100 zs K K rfl _ HP9.out (by rw [HZL.out]; exact hK)).mono ?_
    rintro e w10 ⟨xo, xl, xc, rfl, hxl, hr10, ho10, hn10, hc10⟩
    have HXL := Lib.hid hxl
    clear hxl
    have HQ10 := Lib.hid (HQ9.out.other hc10 (fun k hk hF => by have h1 := HPl.out k hF; have h2 := HQl.out k hk; have := HS3.out; have := HS4.out; omega) (fun k hk => (HP9.out.lt hk).1))
    have HP10 := Lib.hid ho10
    have HX10 := Lib.hid hr10
    have HXF := Lib.hid hn10
    have HS10 := Lib.hid hc10.size
    clear ho10 hr10 hn10 hc10 HP9 HQ9
    go_wp2_with fail
    refine (pop_ourI w _ p 100 _ _ (xs.length + ys.length - K) (by omega) _ HP10.out (by rw [List.length_take, HZL.out]; omega)).mono ?_
    rintro e w11 ⟨yo, yl, yc, rfl, hyl, hr11, ho11, hn11, hc11⟩
    have e1 : (zs.take (zs.length - K)).length = xs.length + ys.length - K := by rw [List.length_take, HZL.out]; omega
    rw [e1, Nat.sub_self, List.drop_zero] at hr11
    rw [e1, Nat.sub_self, List.take_zero] at ho11
    have HQ11 := Lib.hid (HQ10.out.other hc11 (fun k hk hF => by have h1 := HPl.out k hF; have h2 := HQl.out k hk; have := HS3.out; have := HS4.out; omega) (fun k hk => (HP10.out.lt hk).1))
    have HP11 := Lib.hid ho11
    have HY11 := Lib.hid hr11
    have HYF := Lib.hid hn11
    have HX11 := Lib.hid (HX10.out.chg hc11 (fun k hk hF => by have s3 := HS3.out; have s4 := HS4.out; have s5 := HS5.out; have s6 := HS6.out; have s7 := HS7.out; have s8 := HS8.out; have h1 : w8.heap.size ≤ k := (HXF.out k hk).1; have h3 := HPl.out k hF; omega))
    have HS11 := Lib.hid hc11.size
    have HYL := Lib.hid hyl
    clear ho11 hr11 hn11 hc11 HP10 HQ10 HX10 hyl e1
    go_wp2_with fail
    refine (pop_ourI w _ q 100 zs _ (xs.length + ys.length) (by omega) _ HQ11.out (by rw [HZL.out]; omega)).mono ?_
    rintro e w12 ⟨zo, zl, zc, rfl, hzl, hr12, ho12, hn12, hc12⟩
    have e2 : zs.length - (xs.length + ys.length) = 0 := by rw [HZL.out]; omega
    rw [e2, List.drop_zero] at hr12
    rw [e2, List.take_zero] at ho12
    clear e2
    have HP12 := Lib.hid (HP11.out.other hc12 (fun k hk hF => by have h1 := HPl.out k hk; have h2 := HQl.out k hF; have := HS3.out; have := HS4.out; omega) (fun k hk => (HQ11.out.lt hk).1))
    have HQ12 := Lib.hid ho12
    have HZ12 := Lib.hid hr12
    have HZF := Lib.hid hn12
    have HX12 := Lib.hid (HX11.out.chg hc12 (fun k hk hF => by have s3 := HS3.out; have s4 := HS4.out; have s5 := HS5.out; have s6 := HS6.out; have s7 := HS7.out; have s8 := HS8.out; have h1 : w8.heap.size ≤ k := (HXF.out k hk).1; have h3 := HQl.out k hF; omega))
    have HY12 := Lib.hid (HY11.out.chg hc12 (fun k hk hF => by have s3 := HS3.out; have s4 := HS4.out; have s5 := HS5.out; have s6 := HS6.out; have s7 := HS7.out; have s8 := HS8.out; have s10 : w8.heap.size ≤ w10.heap.size := HS10.out; have h1 : w10.heap.size ≤ k := (HYF.out k hk).1; have h3 := HQl.out k hF; omega))
    have HS12 := Lib.hid hc12.size
    have HBIG := Lib.hid (show w2.heap.size ≤ w6.heap.size ∧ w6.heap.size ≤ w12.heap.size ∧ w5.heap.size ≤ w6.heap.size by have s3 := HS3.out; have s4 := HS4.out; have s5 := HS5.out; have s6 := HS6.out; have s7 := HS7.out; have s8 := HS8.out; have s10 : w8.heap.size ≤ w10.heap.size := HS10.out; have s11 := HS11.out; have s12 := HS12.out; omega)
    clear ho12 hr12 hn12 hc12 HP11 HQ11 HX11 HY11 hzl
    have HCH := Lib.hid HP12.out.chg
    have e1 : (List.drop (zs.length - K) zs).length = K := by rw [List.length_drop, HZL.out]; omega
    have e3 : (zs.take (zs.length - K)).length = xs.length + ys.length - K := by rw [List.length_take, HZL.out]; omega
    obtain ⟨us, hus⟩ : ∃ us, us = zs.take (zs.length - K) := ⟨_, rfl⟩
    obtain ⟨vs, hvs⟩ : ∃ vs, vs = zs.drop (zs.length - K) := ⟨_, rfl⟩
    have huv : us ++ vs = zs := by rw [hus, hvs, List.take_append_drop]
    rw [← hus] at HY12 e3
    rw [← hvs] at HX12 e1
    have HUV := Lib.hid huv
    have huL : us.length ≤ 80 := by rw [e3]; omega
    have hvL : vs.length ≤ 80 := by rw [e1]; omega
    clear hus hvs huv e1 e3
    go_wp2_with (first | (at_builtin; refine wpList_append_want _ (by rfl) (.const (.slice none 0 0)) (.tmp 100) 22 rfl 3 i0 (.int .i64 0) 1 8 Try.underlying22 hi hz0 hz1 hz2 rfl (by decide) _ 0 [] rfl (Own.nil _ _ _) _ us.length (is us) rfl HY12.out (by rw [is_length, Nat.mul_one]) (is_one _) ?f1 ?f2 ?_))
    case f1 => unfold maxLen; omega
    case f2 => omega
    intro v13 w13 hown13 hgr13 hblk13
    have hc13 : Chg No w12 w13 := Chg.grown hgr13 (fun k hk => by simp [Value.ownBlock] at hk)
    have hb13 : ∀ k, v13.ownBlock = some k → Betw w12 w13 k := fun k hk => by
      have h1 := Own.lt hown13 hk
      rcases hblk13 with e | e
      · rw [hk] at e; simp [Value.ownBlock] at e
      · rw [hk] at e; cases e; exact ⟨Nat.le_refl _, h1⟩
    have HP13 := Lib.hid (HP12.out.no hc13)
    have HQ13 := Lib.hid (HQ12.out.no hc13)
    have HX13 := Lib.hid (HX12.out.no hc13)
    have HZ13 := Lib.hid (HZ12.out.no hc13)
    have HXL12 := Lib.hid (fun k (hk : (Value.slice xo xl xc).ownBlock = some k) => show k < w12.heap.size by have h1 := (HXF.out k hk).2; have h2 := HS11.out; have h3 := HS12.out; omega)
    have HB13 := Lib.hid hb13
    have HO13 := Lib.hid hown13
    obtain ⟨go, gc, hv13⟩ := Own.form hown13
    rw [hv13] at HB13 HO13 ⊢
    clear hgr13 hblk13 hc13 hb13 hown13 hv13 HP12 HQ12 HX12 HZ12 HY12
    go_wp2_with (at_builtin; refine wpList_append_want _ (by rfl) (.tmp 101) (.tmp 102) 22 rfl 3 i0 (.int .i64 0) 1 8 Try.underlying22 hi hz0 hz1 hz2 rfl (by decide) _ us.length (is us) rfl HO13.out _ vs.length (is vs) rfl HX13.out (by rw [is_length, Nat.mul_one]) (is_one _) ?g1 ?g2 ?_)
    case g1 => unfold maxLen; omega
    case g2 => omega
    intro v14 w14 hown14 hgr14 hblk14
    rw [← List.length_append, ← is_append] at hown14
    have hc14 : Chg (Betw w12 w13) w13 w14 := Chg.grown hgr14 (fun k hk => HB13.out k hk)
    have hP14 := HP13.out.other hc14 (fun k hk hF => by have h1 := HPl.out k hk; have h2 : w12.heap.size ≤ k := hF.1; have h3 := HBIG.out; omega) (fun k hk => by have h1 := HCH.out.size; have h2 : w12.heap.size ≤ k := hk.1; omega)
    have hQ14 := HQ13.out.other hc14 (fun k hk hF => by have h1 := HQl.out k hk; have h2 : w12.heap.size ≤ k := hF.1; have h3 := HBIG.out; omega) (fun k hk => by have h1 := HCH.out.size; have h2 : w12.heap.size ≤ k := hk.1; omega)
    have hZ14 := HZ13.out.chg hc14 (fun k hk hF => by have h1 := (HZF.out k hk).2; have h2 : w12.heap.size ≤ k := hF.1; omega)
    have HP14 := Lib.hid hP14
    have HQ14 := Lib.hid hQ14
    have HZ14 := Lib.hid hZ14
    have HR14 := Lib.hid (Own.rd hown14 : RdI w14 v14 (us ++ vs))
    obtain ⟨ho, hc, hv14⟩ := Own.form hown14
    rw [hv14] at HR14 ⊢
    clear hgr14 hblk14 hc14 hown14 hv14 HP13 HQ13 HZ13 HX13 HO13 HB13 hP14 hQ14 hZ14
    rw [HUV.out] at HR14 ⊢
    go_wp2_with fail
    refine (sameInts_any _ _ zs zs _ HR14.out HZ14.out).mono ?_
    rintro e w15 ⟨rfl, n15, rfl⟩
    rw [decide_eq_true rfl]
    go_wp2_with fail
    refine (len_our w _ p 100 [] _ (HP14.out.qt (Qt.drewN _ _))).mono ?_
    rintro e w16 ⟨rfl, rfl⟩
    go_wp2_with fail
    refine (len_our w _ q 100 [] _ (HQ14.out.qt (Qt.drewN _ _))).mono ?_
    rintro e w16 ⟨rfl, rfl⟩
    go_wp2
    go_ret
    exact ⟨rfl, HP14.out.chg.later (Chg.drewN No _ _) (fun _ h => h.elim)⟩
  · have hc : 40 < xs.length ∨ (xs.length ≤ 40 ∧ 40 < ys.length) := by omega
    clear h1
    rcases hc with h1 | ⟨h1, h2⟩
    all_goals
      go_enter Try.func4, Try.ntmps4
      go_wp2_with (go_at_call 13; refine (alive5_any _).mono ?_; rintro e w1 ⟨rfl, hc1⟩)
      go_ret
      exact ⟨rfl, by assumption⟩
end Go.Proofs.Ytaikagkakajdfaa
