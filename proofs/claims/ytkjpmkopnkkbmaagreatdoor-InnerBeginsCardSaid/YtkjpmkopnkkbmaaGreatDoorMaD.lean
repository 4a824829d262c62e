/- A machine in memory: what calls and catches; an operation; a step. -/
import Derived.Test.YtkjpmkopnkkbmaaGreatDoorMaC
import Derived.Test.YtkjpmkopnkkbmaaGreatDoorCellW
set_option maxRecDepth 100000
namespace Go.Proofs.YtkjpmkopnkkbmaaGreatDoor
open Go.RowKit

section
variable {D : Nat → Prop} {w : World} {m : Nat} {S : StC} {s : StV} {th : Bool}
theorem mend_any (h : MS D w m S s false) (hD : ∀ k, w.heap.size ≤ k → D k) (hn : s.stack.length ≤ 100) (hn2 : s.back.length ≤ 100) :
    Calls Tryz.prog fn_inner_machine_endCatch #[.pointer (some ⟨m, 0, none⟩)] w fun e w' => ∃ v, e = .returned v ∧ MX D w m S s 0 (mEnd s) v w' := by
  refine (inner_machine_endCatch_lift (K := fun v w' => MX D w m S s 0 (mEnd s) v w') ?_).mono (by rintro e w' ⟨r, rfl, h⟩; exact ⟨r, rfl, h⟩)
  unfold inner_machine_endCatch_sh
  obtain ⟨m1, m2, m3, m4, m5, m6, m7⟩ := h.nums
  have lb := h.bk.rd.len
  have ls := h.st.rd.len
  refine ⟨fun b w' => Chg No w w' ∧ b = decide (s.handler < 3 ∨ (s.back.length : Int) ≠ s.handler), ?_, ?_⟩
  · rintro b w6 ⟨c6, rfl⟩
    have h6 := MR.no h c6
    refine brB_of (fun hb => ?_) (fun hb => ?_)
    · have hb := of_decide_eq_true hb
      refine (mfails_any h6.1 (by decide)).mono ?_
      rintro e w9 ⟨v, rfl, hv, c9⟩
      refine ⟨v, rfl, ?_⟩
      have he : mEnd s = .bad (-25) false := by unfold mEnd; rw [if_pos hb]
      rw [he]
      exact MX.bad h6 rfl hv (by decide) (Nat.le_refl _) c9
    have hb := of_decide_eq_false hb
    refine ⟨S.stack, h6.1.ob.cell rfl, brB_of (fun hs => ?_) (fun hs => ?_)⟩
    · have hs : 48 ≤ s.stack.length := by have := of_decide_eq_true hs; omega
      refine (mfails_any h6.1 (by decide)).mono ?_
      rintro e w9 ⟨v, rfl, hv, c9⟩
      refine ⟨v, rfl, ?_⟩
      have he : mEnd s = .bad (-3) false := by unfold mEnd; rw [if_neg hb, if_pos hs]
      rw [he]
      exact MX.bad h6 rfl hv (by decide) (Nat.le_refl _) c9
    have hs : ¬ 48 ≤ s.stack.length := by have := of_decide_eq_false hs; omega
    have l1 := popB_len s
    have l2 := popB_len (popB s)
    refine (mpopB_any h6.1 (by omega) (by omega)).mono ?_
    rintro e w16 ⟨rfl, S16, h16⟩
    refine ⟨_, rfl, (mpopB_any h16.1 (by omega) (by omega)).mono ?_⟩
    rintro e w19 ⟨rfl, S19, h19⟩
    have h19 := (h6.trans h16).trans h19
    obtain ⟨p1, p2, p3, p4, p5, p6, p7⟩ := h19.1.nums
    refine ⟨_, rfl, h19.1.wr (by omega), fun w21 hw21 => ?_⟩
    have h21 := h19.1.put (k := 1) (vs := [.int .i64 (topB (popB s))]) (S' := { S19 with handler := topB (popB s) }) (s' := { popB (popB s) with handler := topB (popB s) }) (th' := false) (by simp) rfl hw21 ⟨p1, rfl, p3, p4, p5, p6, p7⟩ rfl rfl rfl rfl rfl rfl
    refine (mpopB_any h21.1 (by show 1 ≤ (popB (popB s)).back.length; omega) (by show (popB (popB s)).back.length ≤ _; omega)).mono ?_
    rintro e w23 ⟨rfl, S23, h23⟩
    have h23 := (h19.trans h21).trans h23
    obtain ⟨q1, q2, q3, q4, q5, q6, q7⟩ := h23.1.nums
    refine ⟨_, rfl, h23.1.wr (by omega), fun w25 hw25 => ?_⟩
    have h25 := h23.1.put (k := 0) (vs := [.int .i64 (topB (popB (popB s)))]) (S' := { S23 with ip := topB (popB (popB s)) }) (s' := { popB (popB (popB s)) with handler := topB (popB s), ip := topB (popB (popB s)) }) (th' := false) (by simp) rfl hw25 ⟨rfl, q2, q3, q4, q5, q6, q7⟩ rfl rfl rfl rfl rfl rfl
    have h25 := h23.trans h25
    have he : mEnd s = .ok (pushV { popB (popB (popB s)) with handler := topB (popB s), ip := topB (popB (popB s)) } [0]) := by unfold mEnd; rw [if_neg hb, if_neg hs]
    rw [he]
    refine mpushL h25.1 (MS.up hD h25.size) [0] _ rfl (by simp) (by simp) (by show s.stack.length ≤ _; omega) (fun w2 S2 g2 => MX.ok 0 (h25.trans g2)) rfl
  · intro w2 hw2
    have c2 := dw hw2
    have h2 := h.no c2
    refine ⟨S.handler, held_Lw (h2.ob.cell rfl), brB_of (fun h3 => ?_) (fun h3 => ?_)⟩
    · have h3 := of_decide_eq_true h3
      exact ⟨c2, (decide_eq_true (Or.inl (by omega))).symm⟩
    · have h3 := of_decide_eq_false h3
      refine ⟨S.back, held_Lw (h2.ob.cell rfl), S.handler, held_Lw (h2.ob.cell rfl), c2, ?_⟩
      rw [Bool.eq_iff_iff, decide_eq_true_iff, bne_iff_ne, lb, m2]
      constructor
      · intro h; exact Or.inr h
      · intro h; omega
theorem mflow_any (h : MS D w m S s false) (hD : ∀ k, w.heap.size ≤ k → D k) (c : Int) (h1 : c = 44 ∨ c = 45 ∨ c = 46 → 1 ≤ s.stack.length) (hn : s.stack.length ≤ 100) (hn2 : s.back.length ≤ 100) :
    Calls Tryz.prog fn_inner_machine_flow #[.pointer (some ⟨m, 0, none⟩), .int .i64 c] w fun e w' => ∃ v, e = .returned v ∧ MX D w m S s 0 (mFlow s c) v w' := by
  refine (inner_machine_flow_lift (K := fun v w' => MX D w m S s 0 (mFlow s c) v w') ?_).mono (by rintro e w' ⟨r, rfl, h⟩; exact ⟨r, rfl, h⟩)
  unfold inner_machine_flow_sh
  obtain ⟨m1, m2, m3, m4, m5, m6, m7⟩ := h.nums
  have lm := h.me.rd.len
  refine brB_of (fun hc => ?_) (fun hc => ?_)
  · have hc : c = 44 := by simpa using hc
    refine (mpop_any h (h1 (Or.inl hc)) (by omega)).mono ?_
    rintro e w4 ⟨rfl, S4, h4⟩
    obtain ⟨p1, p2, p3, p4, p5, p6, p7⟩ := h4.1.nums
    have lm4 := h4.1.me.rd.len
    refine ⟨_, rfl, fun b w' => w' = w4 ∧ b = decide (topV s < 64 ∨ (s.mem.length : Int) ≤ topV s), ?_, ?_⟩
    · rintro b w7 ⟨rfl, rfl⟩
      refine brB_of (fun hb => ?_) (fun hb => ?_)
      · have hb := of_decide_eq_true hb
        refine (mfails_any h4.1 (by decide)).mono ?_
        rintro e w9 ⟨v, rfl, hv, c9⟩
        refine ⟨v, rfl, ?_⟩
        have he : mFlow s c = .bad (-13) false := by unfold mFlow; rw [if_pos hc, if_pos hb]
        rw [he]
        exact MX.bad h4 rfl hv (by decide) (Nat.le_refl _) c9
      · have hb := of_decide_eq_false hb
        have p1 : S4.ip = s.ip := p1
        refine ⟨S4.ip, h4.1.ob.cell rfl, ?_⟩
        rw [p1]
        refine mbackL h4.1 (MS.up hD h4.size) [s.ip] _ rfl (by simp) (by simp) (by show s.back.length ≤ _; omega) (fun w2 S2 g2 => ⟨g2.1.wr (by omega), fun w17 hw17 => ?_⟩) rfl
        obtain ⟨q1, q2, q3, q4, q5, q6, q7⟩ := g2.1.nums
        have g3 := g2.1.put (k := 0) (vs := [.int .i64 (topV s)]) (S' := { S2 with ip := topV s }) (s' := { backV (popV s) [s.ip] with ip := topV s }) (th' := false) (by simp) rfl hw17 ⟨rfl, q2, q3, q4, q5, q6, q7⟩ rfl rfl rfl rfl rfl rfl
        have he : mFlow s c = .ok { backV (popV s) [s.ip] with ip := topV s } := by unfold mFlow; rw [if_pos hc, if_neg hb]
        rw [he]
        exact MX.ok 0 ((h4.trans g2).trans g3)
    · refine brB_of (fun hb => ?_) (fun hb => ?_)
      · have hb := of_decide_eq_true hb
        exact ⟨rfl, (decide_eq_true (Or.inl hb)).symm⟩
      · have hb := of_decide_eq_false hb
        refine ⟨S4.mem, h4.1.ob.cell rfl, rfl, decide_eq_decide.2 ?_⟩
        have lm4 : S4.mem.len = s.mem.length := lm4
        rw [lm4]; omega
  have c44 : c ≠ 44 := by simpa using hc
  refine brB_of (fun hc => ?_) (fun hc => ?_)
  · have hc : c = 45 := by simpa using hc
    refine ⟨h.wr (by omega), fun w18 hw18 => ?_⟩
    have h18 := h.put (k := 10) (vs := [.bool true]) (S' := S) (s' := s) (th' := true) (by simp) rfl hw18 h.nums rfl rfl rfl rfl rfl rfl
    intro w19 hw19
    have c19 := dw hw19
    have h19 := h18.trans (MR.no h18.1 c19)
    refine ⟨fun w' => ∃ S' s' t', MS D w' m S' s' t' ∧ s'.ip = s.ip, ⟨S, s, true, h19.1, rfl⟩, s.ip, ?_, ?_⟩
    · rintro w' ⟨S', s', t', g, e⟩
      have := g.ob.cell (k := 0) (v := .int .i64 S'.ip) rfl
      rw [g.nums.1, e] at this; exact this
    refine (mpop_any h19.1 (h1 (Or.inr (Or.inl hc))) (by omega)).mono ?_
    rintro e w23 ⟨rfl, S23, h23⟩
    have h23 := h19.trans h23
    refine ⟨_, rfl, ⟨S23, _, _, h23.1, rfl⟩, ?_⟩
    by_cases h0 : topV s = 0
    · rw [h0]
      refine (new_none s.ip w23).mono ?_
      rintro e w26 ⟨rfl, rfl⟩
      refine ⟨_, rfl, ?_⟩
      have he : mFlow s c = .ok (popV s) := by unfold mFlow; rw [if_neg c44, if_pos hc, if_pos h0]
      rw [he]
      exact MX.ok 0 h23
    · refine (new_any (topV s) s.ip h0 w23).mono ?_
      rintro e w26 ⟨v, rfl, hv, c26⟩
      refine ⟨_, rfl, ?_⟩
      have he : mFlow s c = .bad (topV s) true := by unfold mFlow; rw [if_neg c44, if_pos hc, if_neg h0]
      rw [he]
      exact MX.bad h23 rfl hv h0 (Nat.le_refl _) c26
  have c45 : c ≠ 45 := by simpa using hc
  refine brB_of (fun hc => ?_) (fun hc => ?_)
  · have hc : c = 46 := by simpa using hc
    refine (mpop_any h (h1 (Or.inr (Or.inr hc))) (by omega)).mono ?_
    rintro e w29 ⟨rfl, S29, h29⟩
    obtain ⟨p1, p2, p3, p4, p5, p6, p7⟩ := h29.1.nums
    refine ⟨_, rfl, ?_⟩
    intro w31 hw31
    have c31 := dw hw31
    have h31 := h29.trans (MR.no h29.1 c31)
    have z31 := h31.size
    have ls := h31.1.st.rd.len
    have hO : ∀ w', Chg No w31 w' → Ob w' m (mcC S29 false) T_inner_machine := fun w' c => h31.1.ob.no c
    refine ⟨fun w' => Chg No w31 w', Chg.refl _ _, S29.ip, Ob.held hO rfl, S29.handler, Ob.held hO rfl, S29.stack, Ob.held hO rfl, ?_⟩
    intro b36 w37 hb36 hw37
    rw [p1, p2, ls] at hw37
    obtain ⟨g, c37⟩ := litL [(popV s).ip, (popV s).handler, ((popV s).stack.length : Int)] _ rfl hb36 hw37 (by simp)
    have z37 := c37.size
    have h37 := h31.trans (MR.no h31.1 c37)
    refine ⟨c37, (mback_any h37.1 (fun k hk => hD k (by omega)) g.rd rfl (by simp) (by show s.back.length + 3 ≤ _; omega)).mono ?_⟩
    rintro e w39 ⟨rfl, S39, h39⟩
    have h39 := h37.trans h39
    obtain ⟨q1, q2, q3, q4, q5, q6, q7⟩ := h39.1.nums
    have lb39 := h39.1.bk.rd.len
    rw [backV_len] at lb39
    refine ⟨rfl, S39.back, h39.1.ob.cell rfl, h39.1.wr (by omega), fun w41 hw41 => ?_⟩
    have hlen : (S39.back.len : Int) = (s.back.length : Int) + 3 := by rw [lb39]; show (((popV s).back.length + 3 : Nat) : Int) = _; rfl
    rw [hlen] at hw41
    have h41 := h39.1.put (k := 1) (vs := [.int .i64 ((s.back.length : Int) + 3)]) (S' := { S39 with handler := (s.back.length : Int) + 3 }) (s' := { backV (popV s) [(popV s).ip, (popV s).handler, ((popV s).stack.length : Int)] with handler := (s.back.length : Int) + 3 }) (th' := false) (by simp) rfl hw41 ⟨q1, rfl, q3, q4, q5, q6, q7⟩ rfl rfl rfl rfl rfl rfl
    have h41 := h39.trans h41
    refine mbackL h41.1 (MS.up hD h41.size) [1] _ rfl (by simp) (by simp) (by show (backV (popV s) [_, _, _]).back.length ≤ _; rw [backV_len]; show s.back.length + 3 ≤ _; omega) (fun w2 S2 g2 => ⟨g2.1.wr (by omega), fun w46 hw46 => ?_⟩) rfl
    obtain ⟨r1, r2, r3, r4, r5, r6, r7⟩ := g2.1.nums
    have g3 := g2.1.put (k := 0) (vs := [.int .i64 (topV s)]) (S' := { S2 with ip := topV s }) (s' := mCatch (popV s) (topV s)) (th' := false) (by simp) rfl hw46 ⟨rfl, r2, r3, r4, r5, r6, r7⟩ rfl rfl rfl rfl rfl rfl
    have he : mFlow s c = .ok (mCatch (popV s) (topV s)) := by unfold mFlow; rw [if_neg c44, if_neg c45, if_pos hc]
    rw [he]
    exact MX.ok 0 ((h41.trans g2).trans g3)
  have c46 : c ≠ 46 := by simpa using hc
  refine (mend_any h hD hn hn2).mono ?_
  rintro e w48 ⟨v, rfl, hv⟩
  refine ⟨v, rfl, ?_⟩
  have he : mFlow s c = mEnd s := by unfold mFlow; rw [if_neg c44, if_neg c45, if_neg c46]
  rw [he]; exact hv
theorem mreck_any (h : MS D w m S s false) (hD : ∀ k, w.heap.size ≤ k → D k) (c : Int) (h1 : 1 ≤ s.stack.length) (h2 : Cn.isOne c = false → 2 ≤ s.stack.length) (hn : s.stack.length ≤ 100) :
    Calls Tryz.prog fn_inner_machine_reckon #[.pointer (some ⟨m, 0, none⟩), .int .i64 c] w fun e w' => ∃ v, e = .returned v ∧ MX D w m S s 0 (mReck s c) v w' := by
  refine (inner_machine_reckon_lift (K := fun v w' => MX D w m S s 0 (mReck s c) v w') ?_).mono (by rintro e w' ⟨r, rfl, h⟩; exact ⟨r, rfl, h⟩)
  unfold inner_machine_reckon_sh
  have l1 := popV_len s
  have l2 := popV_len (popV s)
  refine (mpop_any h h1 (by omega)).mono ?_
  rintro e w4 ⟨rfl, S4, h4⟩
  refine ⟨_, rfl, (one_any c (topV s) w4).mono ?_⟩
  rintro e w7 ⟨rfl, rfl⟩
  refine ⟨_, _, rfl, brB_of (fun hb => ?_) (fun hb => ?_)⟩
  · have he : mReck s c = .ok (pushV (popV s) [Cn.one c (topV s)]) := by unfold mReck; rw [if_pos hb]
    rw [he]
    exact mpushL h4.1 (MS.up hD h4.size) [Cn.one c (topV s)] _ rfl (by simp) (by simp) (by omega) (fun w2 S2 g2 => MX.ok 0 (h4.trans g2)) rfl
  · have := h2 hb
    refine (mpop_any h4.1 (by omega) (by omega)).mono ?_
    rintro e w15 ⟨rfl, S15, h15⟩
    have h15 := h4.trans h15
    refine ⟨_, rfl, (two_any c (topV (popV s)) (topV s) w15).mono ?_⟩
    rintro e w18 ⟨rfl, q18⟩
    have c18 : Chg No w15 w18 := Chg.qt q18
    have h18 := h15.trans (MR.no h15.1 c18)
    refine ⟨_, _, rfl, brB_of (fun ht => ?_) (fun ht => ?_)⟩
    · have ht : Cn.isTwo c (topV s) = false := by simpa using ht
      refine (mfails_any h18.1 (by decide)).mono ?_
      rintro e w22 ⟨v, rfl, hv, c22⟩
      refine ⟨v, rfl, ?_⟩
      have he : mReck s c = .bad (-10) false := by unfold mReck; rw [if_neg (by rw [hb]; decide), if_neg (by rw [ht]; decide)]
      rw [he]
      exact MX.bad h18 rfl hv (by decide) (Nat.le_refl _) c22
    · have ht : Cn.isTwo c (topV s) = true := by simpa using ht
      have he : mReck s c = .ok (pushV (popV (popV s)) [Cn.two c (topV (popV s)) (topV s)]) := by unfold mReck; rw [if_neg (by rw [hb]; decide), if_pos ht]
      rw [he]
      exact mpushL h18.1 (MS.up hD h18.size) [Cn.two c (topV (popV s)) (topV s)] _ rfl (by simp) (by simp) (by omega) (fun w2 S2 g2 => MX.ok 0 (h18.trans g2)) rfl
theorem mroom_any (S : StC) {s : StV} (hs : S.stack.len = s.stack.length) (hb : S.back.len = s.back.length) (n1 : s.stack.length ≤ 1000) (n2 : s.back.length ≤ 1000) {c : Int} (hc : 0 ≤ c ∧ c < 48) (w : World) :
    Calls Tryz.prog fn_inner_room #[.agg (stC S).toArray, .int .i64 c] w fun e w' => e = .returned (.int .i64 (mRoom s c)) ∧ Chg No w w' := by
  refine (inner_room_lift (K := fun r w' => r = .int .i64 (mRoom s c) ∧ Chg No w w') ?_).mono (by rintro e w' ⟨r, rfl, rfl, h⟩; exact ⟨rfl, h⟩)
  unfold inner_room_sh
  intro b12 w13 hb12 hw13
  have c13 := al hw13
  have o13 : Ob w13 b12 (stC S) T_api_State := by rw [hw13, hb12]; exact Ob.new w (stC S) T_api_State
  obtain ⟨t1, t2, t3, t4, t5, t6, t7, t8⟩ := (rows_small c.toNat (by omega)).1
  rw [show ((c.toNat : Nat) : Int) = c by omega] at t1 t2 t3 t4 t5 t6 t7 t8
  refine (takes_any c w13).mono ?_
  rintro e w15 ⟨rfl, c15⟩
  refine ⟨_, _, rfl, (gives_any c w15).mono ?_⟩
  rintro e w19 ⟨rfl, c19⟩
  have k19 := trN (trN c13 c15) c19
  have o19 := (o13.no c15).no c19
  unfold mRoom
  refine ⟨_, _, rfl, S.stack, o19.cell rfl, ?_⟩
  rw [hs]
  refine brB_of (fun h => ⟨by rw [if_pos (of_decide_eq_true h)], k19⟩) (fun h => ?_)
  rw [if_neg (of_decide_eq_false h)]
  refine ⟨S.back, o19.cell rfl, ?_⟩
  rw [hb]
  refine brB_of (fun h => ⟨by rw [if_pos (of_decide_eq_true h)], k19⟩) (fun h => ?_)
  rw [if_neg (of_decide_eq_false h)]
  refine ⟨S.stack, o19.cell rfl, ?_⟩
  rw [hs, wr_in (x := (s.stack.length : Int) - (opRow c).takes) (by omega), wr_in (by omega)]
  refine brB_of (fun h => ⟨by rw [if_pos (of_decide_eq_true h)], k19⟩) (fun h => ?_)
  rw [if_neg (of_decide_eq_false h)]
  refine ⟨S.back, o19.cell rfl, ?_⟩
  rw [hb, wr_in (x := (s.back.length : Int) - (opRow c).backs) (by omega), wr_in (by omega)]
  refine brB_of (fun h => ⟨by rw [if_pos (of_decide_eq_true h)], k19⟩) (fun h => ?_)
  rw [if_neg (of_decide_eq_false h)]
  exact ⟨rfl, k19⟩
end
end Go.Proofs.YtkjpmkopnkkbmaaGreatDoor
