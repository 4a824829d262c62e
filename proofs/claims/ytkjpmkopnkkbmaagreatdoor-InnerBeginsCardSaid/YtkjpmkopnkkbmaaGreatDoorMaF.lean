/- A machine in memory: a step. -/
import Derived.Test.YtkjpmkopnkkbmaaGreatDoorMaE
set_option maxRecDepth 100000
namespace Go.Proofs.YtkjpmkopnkkbmaaGreatDoor
open Go.RowKit

section
variable {D : Nat → Prop} {w : World} {m : Nat} {S : StC} {s : StV} {th : Bool}
theorem mcall_any (h : MS D w m S s false) (hD : ∀ k, w.heap.size ≤ k → D k) (xt : Int) (ok : MOk s) (hip : -9223372036854775808 ≤ s.ip + 1 ∧ s.ip + 1 ≤ 9223372036854775807) :
    Calls Tryz.prog fn_inner_machine_call #[.pointer (some ⟨m, 0, none⟩), .int .i64 xt] w fun e w' => ∃ v, e = .returned v ∧ MX D w m S s 0 (if 48 ≤ s.back.length then .bad (-5) false else .ok { backV s [s.ip + 1] with ip := xt }) v w' := by
  refine (inner_machine_call_lift (K := fun v w' => MX D w m S s 0 (if 48 ≤ s.back.length then .bad (-5) false else .ok { backV s [s.ip + 1] with ip := xt }) v w') ?_).mono (by rintro e w' ⟨r, rfl, h⟩; exact ⟨r, rfl, h⟩)
  unfold inner_machine_call_sh
  have lb := h.bk.rd.len
  have k2 := ok.bk
  obtain ⟨m1, m2, m3, m4, m5, m6, m7⟩ := h.nums
  refine ⟨S.back, h.ob.cell rfl, brB_of (fun hb => ?_) (fun hb => ?_)⟩
  · have hb : 48 ≤ s.back.length := by have := of_decide_eq_true hb; omega
    refine (mfails_any h (by decide)).mono ?_
    rintro e w5 ⟨v, rfl, hv, c5⟩
    refine ⟨v, rfl, ?_⟩
    rw [if_pos hb]
    exact MX.bad (MR.same h) rfl hv (by decide) (Nat.le_refl _) c5
  · have hb : ¬ 48 ≤ s.back.length := by have := of_decide_eq_false hb; omega
    refine ⟨S.ip, h.ob.cell rfl, ?_⟩
    rw [m1, wr_in hip, if_neg hb]
    refine mbackL h hD [s.ip + 1] _ rfl (by simp) (by simp) (by omega) (fun w2 S2 g2 => ⟨g2.1.wr (by omega), fun w12 hw12 => ?_⟩) rfl
    obtain ⟨p1, p2, p3, p4, p5, p6, p7⟩ := g2.1.nums
    have g3 := g2.1.put (k := 0) (vs := [.int .i64 xt]) (S' := { S2 with ip := xt }) (s' := { backV s [s.ip + 1] with ip := xt }) (th' := false) (by simp) rfl hw12 ⟨rfl, p2, p3, p4, p5, p6, p7⟩ rfl rfl rfl rfl rfl rfl
    exact MX.ok 0 (g2.trans g3)
theorem need_ip {s : StV} {c x : Int} (h : NeedM s c) : NeedM { s with ip := x } c := ⟨h.n1, h.n2, h.n3, h.b1, h.b2, h.b3, h.one⟩
theorem mok_ip {s : StV} {x : Int} (h : MOk s) : MOk { s with ip := x } := ⟨h.st, h.bk, h.me, h.out, h.rd, h.inp⟩
theorem mstep_any (h : MS D w m S s false) (hD : ∀ k, w.heap.size ≤ k → D k) (ok : MOk s) :
    Calls Tryz.prog fn_inner_machine_step #[.pointer (some ⟨m, 0, none⟩)] w fun e w' => ∃ v, e = .returned v ∧ MX D w m S s 2 (mStep s) v w' := by
  refine (inner_machine_step_lift (K := fun v w' => MX D w m S s 2 (mStep s) v w') ?_).mono (by rintro e w' ⟨r, rfl, h⟩; exact ⟨r, rfl, h⟩)
  unfold inner_machine_step_sh
  obtain ⟨m1, m2, m3, m4, m5, m6, m7⟩ := h.nums
  have k1 := ok.st
  have k2 := ok.bk
  have k3 := ok.me
  refine ⟨S.ip, h.ob.cell rfl, ?_⟩
  rw [m1]
  refine (mload_any h s.ip).mono ?_
  rintro e w4 ⟨c4, hl⟩
  rcases hl with ⟨hin, rfl⟩ | ⟨hout, v, rfl, hv⟩
  rotate_left
  · obtain ⟨t, u, rfl⟩ := hv.if
    refine ⟨_, _, rfl, _, _, ne_if _ _ _ _, brB_t ?_⟩
    have hb : mStep s = .bad (-9) false := by unfold mStep; rw [if_pos hout]
    rw [hb]
    exact MX.bad (MR.same h) rfl hv (by decide) (by omega) c4
  have h4 := h.no c4
  have g4 := MR.no h c4
  refine ⟨_, _, rfl, _, _, ne_nil _ _, brB_f ?_⟩
  have e1 : mStep s = if 64 ≤ getI s.mem s.ip then (if 48 ≤ s.back.length then .bad (-5) false else .ok { backV s [s.ip + 1] with ip := getI s.mem s.ip }) else
      if ¬ (0 ≤ getI s.mem s.ip ∧ getI s.mem s.ip < 48) then .bad (-13) false else
      if opArg (getI s.mem s.ip) = true ∧ (s.mem.length : Int) ≤ s.ip + 1 then .bad (-9) false else
      if mRoom s (getI s.mem s.ip) ≠ 0 then .bad (mRoom s (getI s.mem s.ip)) false else
      mDo { s with ip := mNext s (getI s.mem s.ip) } (getI s.mem s.ip) (mArg s (getI s.mem s.ip)) s.ip := by unfold mStep; rw [if_neg hin]
  generalize getI s.mem s.ip = c at *
  refine brB_of (fun hc => ?_) (fun hc => ?_)
  · have hc : 64 ≤ c := by have := of_decide_eq_true hc; omega
    refine (mcall_any h4 (MS.up hD c4.size) c ok (by omega)).mono ?_
    rintro e w10 ⟨v, rfl, hv⟩
    refine ⟨v, rfl, ?_⟩
    rw [e1, if_pos hc]
    exact (MX.pre g4 rfl hv).to (by omega)
  have hc : ¬ 64 ≤ c := by have := of_decide_eq_false hc; omega
  rw [if_neg hc] at e1
  refine (right_any c w4).mono ?_
  rintro e w13 ⟨rfl, rfl⟩
  refine ⟨_, rfl, brB_of (fun hr => ?_) (fun hr => ?_)⟩
  · have hr : ¬ (0 ≤ c ∧ c < 48) := of_decide_eq_false ((Bool.not_eq_true' _).mp hr)
    refine (mfails_any h4 (by decide)).mono ?_
    rintro e w16 ⟨v, rfl, hv, c16⟩
    refine ⟨v, rfl, ?_⟩
    rw [e1, if_pos hr]
    exact MX.bad g4 rfl hv (by decide) (by omega) c16
  have hr : 0 ≤ c ∧ c < 48 := of_decide_eq_true (by simpa using hr)
  rw [if_neg (fun h => h hr)] at e1
  intro w18 hw18
  have c18 := dw hw18
  have h18 := h4.no c18
  refine ⟨S.ip, held_Lw (h18.ob.cell rfl), ?_⟩
  rw [m1]
  refine ⟨fun arg next w29 => arg = mArg s c ∧ next = mNext s c ∧ Chg No w w29 ∧ ¬ (opArg c = true ∧ (s.mem.length : Int) ≤ s.ip + 1), ?_, ?_⟩
  · rintro arg next w29 ⟨rfl, rfl, c29, hna⟩
    rw [if_neg hna] at e1
    have h29 := h.no c29
    have g29 := MR.no h c29
    refine ⟨_, _, _, _, _, _, _, _, _, _, h29.ob.cell rfl, h29.ob.cell rfl, h29.ob.cell rfl, h29.ob.cell rfl, h29.ob.cell rfl, h29.ob.cell rfl, h29.ob.cell rfl, h29.ob.cell rfl, h29.ob.cell rfl, h29.ob.cell rfl, (mroom_any S (s := s) h.st.rd.len h.bk.rd.len (by omega) (by omega) hr w29).mono ?_⟩
    rintro e w41 ⟨rfl, c41⟩
    have c41' := trN c29 c41
    have h41 := h.no c41'
    have g41 := MR.no h c41'
    refine ⟨_, rfl, brB_of (fun hz => ?_) (fun hz => ?_)⟩
    · have hz : mRoom s c ≠ 0 := by simpa using hz
      refine (mfails_any h41 hz).mono ?_
      rintro e w44 ⟨v, rfl, hv, c44⟩
      refine ⟨v, rfl, ?_⟩
      rw [e1, if_pos hz]
      exact MX.bad g41 rfl hv hz (by omega) c44
    · have hz : mRoom s c = 0 := by simpa using hz
      rw [if_neg (fun h => h hz)] at e1
      refine ⟨S.ip, h41.ob.cell rfl, h41.wr (by omega), fun w48 hw48 => ?_⟩
      rw [m1]
      have g48 := h41.put (k := 0) (vs := [.int .i64 (mNext s c)]) (S' := { S with ip := mNext s c }) (s' := { s with ip := mNext s c }) (th' := false) (by simp) rfl hw48 ⟨rfl, m2, m3, m4, m5, m6, m7⟩ rfl rfl rfl rfl rfl rfl
      have g48 := g41.trans g48
      refine (mdo_any g48.1 (MS.up hD g48.size) c (mArg s c) s.ip hr (need_ip (need_of hr hz)) (mok_ip ok)).mono ?_
      rintro e w51 ⟨v, rfl, hv⟩
      have hv := MX.pre g48 rfl hv
      rw [← e1] at hv
      refine ⟨v, rfl, ?_⟩
      cases hst : mStep s with
      | ok s' =>
        rw [hst] at hv
        obtain ⟨rfl, S', th', g⟩ := hv
        exact ⟨_, _, ne_nil _ _, brB_f (MX.ok 2 g)⟩
      | bad c' t =>
        rw [hst] at hv
        obtain ⟨hc', ⟨d', hd', hE⟩, S', s', g, hm⟩ := hv
        obtain ⟨t', u', rfl⟩ := hE.if
        refine ⟨_, _, ne_if _ _ _ _, brB_t ?_⟩
        refine (name_any c w51).mono ?_
        rintro e w56 ⟨rfl, c56⟩
        refine ⟨_, rfl, (wrap_any (hE.no c56) (by have := g.size; have := c56.size; omega) _).mono ?_⟩
        rintro e w59 ⟨v', rfl, hv', c59⟩
        exact ⟨v', rfl, hc', ⟨d' + 1, by omega, hv'⟩, S', s', g.trans (MR.no g.1 (trN c56 c59)), hm⟩
  · have c18' := trN c4 c18
    refine (arg_any c w18).mono ?_
    rintro e w21 ⟨rfl, rfl⟩
    refine ⟨_, rfl, brB_of (fun ha => ?_) (fun ha => ?_)⟩
    · rw [wr_in (x := s.ip + 1) (by omega)]
      refine (mload_any h18 (s.ip + 1)).mono ?_
      rintro e w24 ⟨c24, hl⟩
      rcases hl with ⟨hin2, rfl⟩ | ⟨hout2, v, rfl, hv⟩
      · refine ⟨_, _, rfl, _, _, ne_nil _ _, brB_f ?_⟩
        rw [wr_in (by omega)]
        refine ⟨by unfold mArg; rw [if_pos ha], by unfold mNext; rw [if_pos ha]; omega, trN c18' c24, fun hh => hin2 (Or.inr hh.2)⟩
      · obtain ⟨t, u, rfl⟩ := hv.if
        refine ⟨_, _, rfl, _, _, ne_if _ _ _ _, brB_t ?_⟩
        have hcond : opArg c = true ∧ (s.mem.length : Int) ≤ s.ip + 1 := ⟨ha, by omega⟩
        rw [e1, if_pos hcond]
        exact MX.bad (MR.no h c18') rfl hv (by decide) (by omega) c24
    · rw [wr_in (x := s.ip + 1) (by omega)]
      exact ⟨by unfold mArg; rw [if_neg (by rw [ha]; decide)], by unfold mNext; rw [if_neg (by rw [ha]; decide)], c18', fun hh => by rw [ha] at hh; cases hh.1⟩
end
end Go.Proofs.YtkjpmkopnkkbmaaGreatDoor
