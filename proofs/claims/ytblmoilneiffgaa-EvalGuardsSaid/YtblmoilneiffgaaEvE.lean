/- A trace's engine: an exit, a whole run. -/
import Derived.Test.YtblmoilneiffgaaEvD
set_option maxRecDepth 100000
namespace Go.Proofs.Ytblmoilneiffgaa
open Go.RowKit

def leaveR (S : StC) (x steps hit : Int) : Value := .tuple #[.agg (stC S).toArray, .agg #[.int .i64 x, .int .i64 steps, .bool (decide (hit ≥ 0))], .int .i64 hit]
theorem StOw.wid {D D' : Nat → Prop} {w : World} {S : StC} {s : StV} (h : StOw D w S s) (hd : ∀ k, D k → D' k) : StOw D' w S s :=
  ⟨h.nums, h.st, h.bk, h.me, fun k hk => hd _ (h.stD k hk), fun k hk => ⟨hd _ (h.bkD k hk).1, (h.bkD k hk).2⟩, fun k hk => ⟨hd _ (h.meD k hk).1, (h.meD k hk).2⟩⟩
/-- An exit may be taken. -/
def ExOk (v : TrG) (n : Nat) (x : Int) : Prop := (0 ≤ x ∧ x < v.outs.length) ∧ PlOk n (outAt v x).stack ∧ PlOk n (outAt v x).back ∧ (outAt v x).stack.length ≤ 100000 ∧ (outAt v x).back.length ≤ 100000
section
variable {w0 : World} {B : Nat → Prop} {w : World} {p : Nat} {T : TrP} {S : StC} {rg atS waS : Sl} {ats wl : List Int} {e : En}
theorem valsV_len (ats l : List Int) (e : En) : (valsV ats l e).length = l.length := by unfold valsV; rw [List.length_map]
theorem eleave_any {D : Nat → Prop} (h : EnAt w0 B w p T S rg atS waS ats wl e) {v : TrG} (ht : TrIs D w0 T v) (hB : ∀ k, B k → k < w.heap.size) (x : Int) (hx : ExOk v ats.length x) (hsl : 0 ≤ v.slots ∧ v.slots ≤ e.s.stack.length) (hbl : 0 ≤ v.backs ∧ v.backs ≤ e.s.back.length) (n1 : e.s.stack.length ≤ 100000) (n2 : e.s.back.length ≤ 100000) :
    Calls Try.prog fn_eval_engine_leave #[.pointer (some ⟨p, 0, none⟩), .int .i64 x] w fun r w' => ∃ S' : StC, r = .returned (leaveR S' x (outAt v x).steps e.hit) ∧ StOw (fun k => B k ∨ w.heap.size ≤ k) w' S' (leaveV v ats x e) ∧ Chg B w w' := by
  refine (eval_engine_leave_lift (K := fun r w' => ∃ S' : StC, r = leaveR S' x (outAt v x).steps e.hit ∧ StOw (fun k => B k ∨ w.heap.size ≤ k) w' S' (leaveV v ats x e) ∧ Chg B w w') ?_).mono (by rintro e w' ⟨r, rfl, n, rfl, h⟩; exact ⟨n, rfl, h⟩)
  unfold eval_engine_leave_sh
  obtain ⟨⟨hx0, hx1⟩, hp1, hp2, hn1, hn2⟩ := hx
  intro b3 w4 hb3 hw4 b5 w6 hb5 hw6
  have z4 : w4.heap.size = w.heap.size + 1 := by rw [hw4]; simp
  have z6 : w6.heap.size = w4.heap.size + 1 := by rw [hw6]; simp
  have c6 := trN (al hw4) (al hw6)
  have h6 := h.no c6
  have o3 : Ob w6 b3 (stC st0) T_api_State := by
    have : Ob w4 b3 (stC st0) T_api_State := by rw [hw4, hb3]; exact Ob.new w (stC st0) T_api_State
    exact this.no (al hw6)
  have o5 : Ob w6 b5 [.int .i64 0, .int .i64 0, .bool false] T_eval_Done := by rw [hw6, hb5]; exact Ob.new w4 [.int .i64 0, .int .i64 0, .bool false] T_eval_Done
  obtain ⟨os, hos, hov⟩ := ht.outs
  have hos6 := hos.no h6.base
  obtain ⟨t1, t2, t3, t4, t5, t6⟩ := ht.nums
  obtain ⟨m1, m2, m3, m4, m5, m6, m7⟩ := h.nums
  obtain ⟨o, ho⟩ : ∃ o, os[x.toNat]? = some o := ⟨_, List.getElem?_eq_getElem (by rw [hov.1]; omega)⟩
  have hvo : v.outs[x.toNat]? = some (outAt v x) := by
    unfold outAt; rw [List.getD_eq_getElem?_getD, List.getElem?_eq_getElem (by omega)]; rfl
  obtain ⟨u1, u2, u3, u4, _, _⟩ := hov.2 _ _ _ ho hvo
  refine ⟨T.outs, h6.ob.cell rfl, hos6.ix hx0 ho fun a _ hcell => ?_⟩
  have q0 := hcell 0 _ rfl
  rw [add0] at q0
  refine ⟨o.ip, o.steps, o.stack, o.back, q0, hcell 1 _ rfl, hcell 2 _ rfl, hcell 3 _ rfl, ?_⟩
  intro b13 w14 hb13 hw14
  have hn14 := fun (w2 : World) => newOb (w2 := w2) (T := T_api_Out) (ouC ⟨0, 0, nilS, nilS⟩) (ouC o) rfl hb13 hw14
  refine ⟨(hn14 w14).1, fun w15 hw15 => ?_⟩
  obtain ⟨o15, c15⟩ := (hn14 w15).2 hw15
  have h15 := h6.no c15
  have z15 := c15.size
  have hb13lt := o15.lt
  have z14 : w14.heap.size = w6.heap.size + 1 := by rw [hw14]; simp
  have hplt := h.ob.lt
  refine ⟨o.ip, o15.cell rfl, h15.ob.wr (by simp [enC]), fun w17 hw17 => ?_⟩
  obtain ⟨o17, c17⟩ := h15.ob.up (k := 9) (vs := [.int .i64 o.ip]) (cs' := enC T { S with ip := o.ip } rg atS waS e.hit) (by simp [enC]) rfl hw17
  obtain ⟨h17, cB17⟩ := h15.turn (e' := { e with s := { e.s with ip := o.ip } }) (S' := { S with ip := o.ip }) c17 (fun k hk => hk ▸ h.pB) o17 ⟨rfl, m2, m3, m4, m5, m6, m7⟩ (h15.me.chg c17 (fun k hk he => (h15.meB k hk).2 he)) (h15.reg.chg c17 (fun k hk he => (h15.rgB k hk).2.1 he)) ⟨rfl, rfl, rfl⟩ ⟨rfl, rfl, rfl⟩
  have ob17 := o15.chg c17 (fun he => by omega)
  intro w18 hw18
  have c18 := dw hw18
  have h18 := h17.no c18
  have hsl18 := h18.st.len
  have hsc18 := h18.st.capL
  have hbl18 := h18.bk.len
  have hbc18 := h18.bk.capL
  have hst : { S with ip := o.ip }.stack = S.stack := rfl
  have e1 : wr ((S.stack.len : Int) - T.slots) = ((e.s.stack.length - v.slots.toNat : Nat) : Int) := by
    have : S.stack.len = e.s.stack.length := hsl18
    rw [t2, this, wr_in (by omega)]; omega
  have e2 : wr ((S.back.len : Int) - T.backs) = ((e.s.back.length - v.backs.toNat : Nat) : Int) := by
    have : S.back.len = e.s.back.length := hbl18
    rw [t3, this, wr_in (by omega)]; omega
  refine ⟨S.stack, held_Lw (h18.ob.cell rfl), S.stack, held_Lw (h18.ob.cell rfl), T.slots, held_Lw (h18.ob.cell rfl), ?_⟩
  rw [e1]
  have hcs : e.s.stack.length ≤ S.stack.cap := hsc18.1
  have hcb : e.s.back.length ≤ S.back.cap := hbc18.1
  refine ⟨by omega, by omega, ?_⟩
  intro w22 hw22
  have c22 := dw hw22
  have h22 := h18.no c22
  refine ⟨S.back, held_Lw (h22.ob.cell rfl), S.back, held_Lw (h22.ob.cell rfl), T.backs, held_Lw (h22.ob.cell rfl), ?_⟩
  rw [e2]
  refine ⟨by omega, by omega, ?_⟩
  intro w26 hw26
  have c26 := dw hw26
  have h26 := h22.no c26
  have k26 := trN (trN c18 c22) c26
  have ob26 := ob17.no k26
  have z17 := c17.size
  have z26 := k26.size
  rw [sub0, Int.toNat_natCast]
  have hr26 : Rd intE w26 ⟨S.stack.ptr, e.s.stack.length - v.slots.toNat, S.stack.cap⟩ (e.s.stack.take (e.s.stack.length - v.slots.toNat)) := h26.st.take (n := e.s.stack.length - v.slots.toNat) (Nat.sub_le e.s.stack.length v.slots.toNat)
  refine ⟨fun w' => Chg No w26 w', Chg.refl _ _, o.stack, Ob.held (fun w' c => ob26.no c) rfl, (clone_ints hr26 (by rw [List.length_take]; omega)).mono ?_⟩
  rintro r w30 ⟨s31, rfl, g31, c30, b31, _⟩
  have h30 := h26.no c30
  refine ⟨s31, rfl, c30, (evalues_any h30 (u3.no h30.base) hp1 (by omega)).mono ?_⟩
  rintro r w33 ⟨s34, rfl, g34, c33, b34⟩
  refine ⟨s34, rfl, trN c30 c33, ?_⟩
  have hvl := valsV_len ats (outAt v x).stack e
  have hvl' : (valsV ats (outAt v x).stack { e with s := { e.s with ip := o.ip } }).length = (outAt v x).stack.length := valsV_len _ _ _
  refine app_ok intOk rfl rfl (g31.no c33) g34.rd (by rw [hvl', List.length_take]; show (min _ _ + _) * 8 ≤ _; omega) (by rw [hvl', List.length_take]; unfold maxLen; omega) ?_
  intro s35 w36 g36 c36 b36
  have z30 := c30.size
  have z33 := c33.size
  have z36 := c36.size
  have k36 : Chg No w26 w36 := (trN c30 c33).trans c36 (fun _ _ h => h) (fun j hj he => by have := b31 j he; omega)
  have h36 := h26.no k36
  have b35 : ∀ k, s35.blk = some k → w26.heap.size ≤ k := fun k hk => by
    rcases b36 with hh | hh
    · have := b31 k (hh ▸ hk); omega
    · have := Option.some.inj (hh.symm.trans hk); omega
  refine ⟨k36, h36.ob.wr (by simp [enC]), fun w37 hw37 => ?_⟩
  obtain ⟨o37, c37⟩ := h36.ob.up (k := 11) (vs := [s35.val]) (cs' := enC T { S with ip := o.ip, stack := s35 } rg atS waS e.hit) (by simp [enC]) rfl hw37
  have nB : ∀ k, w26.heap.size ≤ k → ¬ B k := fun k h hb => by have := hB k hb; omega
  have g37 := g36.chg c37 (fun k hk he => by have := b35 k hk; omega)
  have h37 : EnAt w0 B w37 p T { S with ip := o.ip, stack := s35 } rg atS waS ats wl { e with s := { e.s with ip := o.ip, stack := e.s.stack.take (e.s.stack.length - v.slots.toNat) ++ valsV ats (outAt v x).stack e } } := by
    refine ⟨o37, ⟨rfl, m2, m3, m4, m5, m6, m7⟩, g37.rd, h36.bk.chg c37 (fun k hk he => h36.bkN k hk (he ▸ h.pB)), h36.me.chg c37 (fun k hk he => (h36.meB k hk).2 he), h36.reg.chg c37 (fun k hk he => (h36.rgB k hk).2.1 he), h36.at', h36.wa, h36.base.trans c37 (fun _ _ h => h) (fun k hk he => by have := h.bN k (he ▸ h.pB); omega), h.bN, h.pB, h36.meB, h36.rgB, fun k hk hb => nB k (b35 k hk) hb, h36.bkN, h36.ok⟩
  have ob37 := (ob26.no k36).chg c37 (fun he => by omega)
  have z37 := c37.size
  intro w38 hw38
  have c38 := dw hw38
  have h38 := h37.no c38
  have g38 := g37.no c38
  have ob38 := ob37.no c38
  have z38 := c38.size
  rw [sub0, Int.toNat_natCast]
  have hr38 : Rd intE w38 ⟨S.back.ptr, e.s.back.length - v.backs.toNat, S.back.cap⟩ (e.s.back.take (e.s.back.length - v.backs.toNat)) := h38.bk.take (n := e.s.back.length - v.backs.toNat) (Nat.sub_le e.s.back.length v.backs.toNat)
  refine ⟨fun w' => Chg No w38 w', Chg.refl _ _, o.back, Ob.held (fun w' c => ob38.no c) rfl, (clone_ints hr38 (by rw [List.length_take]; omega)).mono ?_⟩
  rintro r w42 ⟨s43, rfl, g43, c42, b43, _⟩
  have h42 := h38.no c42
  refine ⟨s43, rfl, c42, (evalues_any h42 (u4.no h42.base) hp2 (by omega)).mono ?_⟩
  rintro r w45 ⟨s46, rfl, g46, c45, b46⟩
  refine ⟨s46, rfl, trN c42 c45, ?_⟩
  have hvb : ∀ e' : En, e'.regs = e.regs → valsV ats (outAt v x).back e' = valsV ats (outAt v x).back e := fun e' he => by unfold valsV valV; rw [he]
  have g46 : Ow intE w45 s46 (valsV ats (outAt v x).back e) := g46
  refine app_ok intOk rfl rfl (g43.no c45) g46.rd (by rw [valsV_len, List.length_take]; show (min _ _ + _) * 8 ≤ _; omega) (by rw [valsV_len, List.length_take]; unfold maxLen; omega) ?_
  intro s47 w48 g48 c48 b48
  have z42 := c42.size
  have z45 := c45.size
  have z48 := c48.size
  have k48 : Chg No w38 w48 := (trN c42 c45).trans c48 (fun _ _ h => h) (fun j hj he => by have := b43 j he; omega)
  have h48 := h38.no k48
  have g48' := g38.no k48
  have b47 : ∀ k, s47.blk = some k → w38.heap.size ≤ k := fun k hk => by
    rcases b48 with hh | hh
    · have := b43 k (hh ▸ hk); omega
    · have := Option.some.inj (hh.symm.trans hk); omega
  refine ⟨k48, h48.ob.wr (by simp [enC]), fun w49 hw49 => ?_⟩
  obtain ⟨o49, c49⟩ := h48.ob.up (k := 12) (vs := [s47.val]) (cs' := enC T { S with ip := o.ip, stack := s35, back := s47 } rg atS waS e.hit) (by simp [enC]) rfl hw49
  have g49 := g48.chg c49 (fun k hk he => by have := b47 k hk; omega)
  have g49' := g48'.chg c49 (fun k hk he => by have := b35 k hk; omega)
  have hme49 : Ow intE w49 S.mem e.s.mem := h48.me.chg c49 (fun k hk he => (h48.meB k hk).2 he)
  have ob49 := (ob38.no k48).chg c49 (fun he => by omega)
  have z49 := c49.size
  -- the two result variables, untouched so far
  have cw49 : Chg B w6 w49 := by
    refine ((((c15.trans c17 (U := B) (fun _ _ h => h.elim) (fun k _ hk => by have hk : k = p := hk; rw [hk]; exact h.pB)).trans k26 (fun _ _ h => h) (fun _ _ h => h.elim)).trans (k36.trans c37 (U := B) (fun _ _ h => h.elim) (fun k _ hk => by have hk : k = p := hk; rw [hk]; exact h.pB)) (fun _ _ h => h) (fun _ _ h => h)).trans (c38.trans k48 (U := B) (fun _ _ h => h.elim) (fun _ _ h => h.elim)) (fun _ _ h => h) (fun _ _ h => h)).trans c49 (fun _ _ h => h) (fun k _ hk => by have hk : k = p := hk; rw [hk]; exact h.pB)
  have o3' := o3.chg cw49 (fun hb => by have := hB _ hb; omega)
  have o5' := o5.chg cw49 (fun hb => by have := hB _ hb; omega)
  intro w50 hw50
  have c50 := dw hw50
  have o50 := o49.no c50
  have ob50 := ob49.no c50
  have hold : ∀ {w' : World}, Chg (fun k => k = b3 ∨ k = b5) w50 w' → Ob w' p (enC T { S with ip := o.ip, stack := s35, back := s47 } rg atS waS e.hit) T_eval_engine := fun c => o50.chg c (fun he => by omega)
  have hold' : ∀ {w' : World}, Chg (fun k => k = b3 ∨ k = b5) w50 w' → Ob w' b13 (ouC o) T_api_Out := fun c => ob50.chg c (fun he => by omega)
  refine ⟨fun w' => Chg (fun k => k = b3 ∨ k = b5) w50 w', Chg.refl _ _, o.ip, S.handler, s35, s47, S.mem, S.out, S.inp, S.read, S.status, S.code, fun w' c => (hold c).cell rfl, fun w' c => (hold c).cell rfl, fun w' c => (hold c).cell rfl, fun w' c => (hold c).cell rfl, fun w' c => (hold c).cell rfl, fun w' c => (hold c).cell rfl, fun w' c => (hold c).cell rfl, fun w' c => (hold c).cell rfl, fun w' c => (hold c).cell rfl, fun w' c => (hold c).cell rfl, o.steps, fun w' c => (hold' c).cell rfl, e.hit, fun w' c => (hold c).cell rfl, e.hit, fun w' c => (hold c).cell rfl, ?_⟩
  have o3w := o3'.no c50
  have o5w := o5'.no c50
  have fin : ∀ (w65 w66 : World), w65 = stW w50 ⟨b3, 0, none⟩ 0 (stC { S with ip := o.ip, stack := s35, back := s47 }) → w66 = stW w65 ⟨b5, 0, none⟩ 0 [.int .i64 x, .int .i64 o.steps, .bool (decide (e.hit ≥ 0))] →
      Chg (fun k => k = b3 ∨ k = b5) w50 w65 ∧ wrOk w65 ⟨b5, 0, none⟩ 3 ∧ Chg (fun k => k = b3 ∨ k = b5) w50 w66 ∧ eval_engine_leave_j1 b3 b5 e.hit w66 (fun r w' => ∃ S' : StC, r = leaveR S' x (outAt v x).steps e.hit ∧ StOw (fun k => B k ∨ w.heap.size ≤ k) w' S' (leaveV v ats x e) ∧ Chg B w w') := by
    intro w65 w66 hw65 hw66
    obtain ⟨q3, d3⟩ := o3w.up (k := 0) (vs := stC { S with ip := o.ip, stack := s35, back := s47 }) (cs' := stC { S with ip := o.ip, stack := s35, back := s47 }) (by simp [stC]) rfl hw65
    have q5 := o5w.chg d3 (fun he => by omega)
    obtain ⟨q5', d5⟩ := q5.up (k := 0) (vs := [.int .i64 x, .int .i64 o.steps, .bool (decide (e.hit ≥ 0))]) (cs' := [.int .i64 x, .int .i64 o.steps, .bool (decide (e.hit ≥ 0))]) (by simp) rfl hw66
    have q3' := q3.chg d5 (fun he => by omega)
    have d66 : Chg (fun k => k = b3 ∨ k = b5) w50 w66 := d3.trans d5 (fun _ _ h => Or.inl h) (fun _ _ h => Or.inr h)
    refine ⟨d3.mono (fun _ _ h => Or.inl h), q5.wr (by simp), d66, ?_⟩
    unfold eval_engine_leave_j1
    refine ⟨_, _, _, _, _, _, _, _, _, _, q3'.cell rfl, q3'.cell rfl, q3'.cell rfl, q3'.cell rfl, q3'.cell rfl, q3'.cell rfl, q3'.cell rfl, q3'.cell rfl, q3'.cell rfl, q3'.cell rfl, _, _, _, q5'.cell rfl, q5'.cell rfl, q5'.cell rfl, { S with ip := o.ip, stack := s35, back := s47 }, ?_, ?_, ?_⟩
    · rw [← u2]; rfl
    · have t66 : Chg (fun k => k = b3 ∨ k = b5) w49 w66 := c50.trans d66 (fun _ _ h => h.elim) (fun _ _ h => h)
      refine ⟨⟨u1, m2, m3, m4, m5, m6, m7⟩, g49'.chg t66 (fun k hk he => by have := b35 k hk; omega), g49.chg t66 (fun k hk he => by have := b47 k hk; omega), hme49.chg t66 (fun k hk he => by have := hB k (h.meB k hk).1; omega), fun k hk => Or.inr ?_, fun k hk => ⟨Or.inr ?_, fun he => ?_⟩, fun k hk => ⟨Or.inl (h.meB k hk).1, fun he => ?_, fun he => ?_⟩⟩
      · have := b35 k hk; omega
      · have := b47 k hk; omega
      · have := b47 k hk; have := g37.lt he; omega
      · exact nB k (b35 k he) (h.meB k hk).1
      · have := b47 k he; exact nB k (by omega) (h.meB k hk).1
    · exact ((c6.trans cw49 (U := B) (fun _ _ h => h.elim) (fun _ _ h => h)).trans c50 (fun _ _ h => h) (fun _ _ h => h.elim)).trans d66 (fun _ _ h => h) (fun k hk he => by omega)
  refine ⟨⟨Chg.refl _ _, o3w.wr (by simp [stC]), fun w65 hw65 => ?_⟩, o3w.wr (by simp [stC]), fun w65 hw65 => ?_⟩
  · obtain ⟨f1, f2, _, _⟩ := fin w65 _ hw65 rfl
    exact ⟨f1, f2, fun w66 hw66 => ⟨(fin w65 w66 hw65 hw66).2.2.1, (fin w65 w66 hw65 hw66).2.2.2⟩⟩
  · obtain ⟨f1, f2, _, _⟩ := fin w65 _ hw65 rfl
    exact ⟨f1, f1, f2, fun w66 hw66 => ⟨(fin w65 w66 hw65 hw66).2.2.1, (fin w65 w66 hw65 hw66).2.2.2⟩⟩
end
end Go.Proofs.Ytblmoilneiffgaa
