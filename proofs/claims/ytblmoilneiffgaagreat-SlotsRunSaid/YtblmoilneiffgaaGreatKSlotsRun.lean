/- The walk of SlotsRun. -/
import Derived.Test.YtblmoilneiffgaaGreatJH
import Derived.Test.YtblmoilneiffgaaGreatJ8
import Derived.Test.YtblmoilneiffgaaGreatJ7
import Derived.Test.YtblmoilneiffgaaGreatJ3
import Derived.Test.YtblmoilneiffgaaGreatJG

/- EvalTells: the walk. -/
set_option maxRecDepth 100000
namespace Go.Proofs.YtblmoilneiffgaaGreat
open Go.RowKit

theorem LightT.sm {v : TrG} (h : LightT v) : SmT v := ⟨by have := h.ins; omega, by have := h.outs; omega, fun o ho => by
  obtain ⟨k, hk⟩ := List.mem_iff_getElem?.1 ho
  have := h.each k o hk; omega, by have := h.cells; omega⟩
theorem goV_keeps (ats wl : List Int) (last : Int) : ∀ (r : List In5) (q : Int) (e : En), Keeps e (goV ats wl last r q e).2
  | [], _, e => Keeps.refl e
  | i :: r, q, e => by
    rw [goV_cons]
    have h1 := insV_keeps ats wl q i e
    split
    · exact h1
    · have h2 := goV_keeps ats wl last r (q + 1) (insV ats wl q i e).2
      exact ⟨h2.1.trans h1.1, h2.2.1.trans h1.2.1, h2.2.2.1.trans h1.2.2.1, h2.2.2.2.1.trans h1.2.2.2.1, h2.2.2.2.2.trans h1.2.2.2.2⟩
theorem outAt_small {v : TrG} (hR : RightV v) (x : Int) : (outAt v x).stack.length ≤ 96 ∧ (outAt v x).back.length ≤ 96 := by
  obtain ⟨_, _, _, q4, q5, q6, q7⟩ := hR.head
  unfold outAt
  rw [List.getD_eq_getElem?_getD]
  cases h : v.outs[x.toNat]? with
  | none => exact ⟨by decide, by decide⟩
  | some o =>
    obtain ⟨_, _, e3, e4⟩ := hR.exits _ o h
    show o.stack.length ≤ 96 ∧ o.back.length ≤ 96
    omega
theorem outS_small {v : TrG} (hR : RightV v) {s : StV} {wl : List Int} (h1 : s.stack.length ≤ 48) (h2 : s.back.length ≤ 48) (h3 : s.mem.length ≤ 700) : (outS v s wl).stack.length ≤ 1000000 ∧ (outS v s wl).back.length ≤ 1000000 ∧ (outS v s wl).mem.length ≤ 1000000 := by
  unfold outS
  split
  · have hk := goV_keeps (idA v.ins.length) wl v.last v.ins 0 (en0 v.ins.length s)
    obtain ⟨_, k2, k3, _, k5⟩ := hk
    obtain ⟨o1, o2⟩ := outAt_small hR (runG v s wl).1
    have e2 : (runG v s wl).2.s.stack = s.stack := k2
    have e3 : (runG v s wl).2.s.back = s.back := k3
    have e5 : (runG v s wl).2.s.mem.length = s.mem.length := k5
    refine ⟨?_, ?_, ?_⟩
    · show (List.take _ (runG v s wl).2.s.stack ++ valsV _ (outAt v (runG v s wl).1).stack _).length ≤ _
      rw [List.length_append, List.length_take, e2]
      unfold valsV; rw [List.length_map]; omega
    · show (List.take _ (runG v s wl).2.s.back ++ valsV _ (outAt v (runG v s wl).1).back _).length ≤ _
      rw [List.length_append, List.length_take, e3]
      unfold valsV; rw [List.length_map]; omega
    · show (runG v s wl).2.s.mem.length ≤ _
      omega
  · omega
theorem brB_t' {b : Bool} {P Q : Prop} (h : b = true) (p : P) : brB b P Q := by rw [h]; exact brB_t p
def Nb (a b : Nat) : Nat → Prop := fun k => a ≤ k ∧ k < b
end Go.Proofs.YtblmoilneiffgaaGreat

/- SlotsRun: the walk. -/
set_option maxRecDepth 100000
namespace Go.Proofs.YtblmoilneiffgaaGreat
open Go.RowKit

theorem brB_f'' {b : Bool} {P Q : Prop} (h : b = false) (q : Q) : brB b P Q := by rw [h]; exact brB_f q
set_option maxHeartbeats 1000000 in
theorem slotsRun_walk {D D' : Nat → Prop} (t : TrP) (S : StC) {v : TrG} {s : StV} (wS : Sl) (wl : List Int) (more : Int) (at_ : Bool) (w : World) (ht : TrIs D w t v) (h : StIs D' w S s) (hwa : Rd intE w wS wl) (hir : ∀ i ∈ v.ins, Cn.In i.b) (hi1 : InL s.mem) (hi2 : InL s.stack) (hi3 : InL s.back) :
    Calls Tryz.prog fn_hollowaylaw20_SlotsRun #[.agg (trP t).toArray, .agg (stC S).toArray, wS.val, .int .i64 more, .bool at_] w fun e w' => e = .returned (.bool true) ∧ Chg No w w' := by
  refine (hollowaylaw20_SlotsRun_lift (K := fun v w' => v = .bool true ∧ Chg No w w') ?_).mono (by rintro e w' ⟨v, rfl, rfl, h⟩; exact ⟨rfl, h⟩)
  unfold hollowaylaw20_SlotsRun_sh
  intro b22 w23 hb22 hw23 b24 w25 hb24 hw25
  have c23 := al hw23
  have c25 := al hw25
  have z23 : w23.heap.size = w.heap.size + 1 := by rw [hw23]; simp
  have z25 : w25.heap.size = w23.heap.size + 1 := by rw [hw25]; simp
  have o22 : Ob w25 b22 (trP t) T_api_Trace := by
    have : Ob w23 b22 (trP t) T_api_Trace := by rw [hw23, hb22]; exact Ob.new w (trP t) T_api_Trace
    exact this.no c25
  have o24 : Ob w25 b24 (stC S) T_api_State := by rw [hw25, hb24]; exact Ob.new w23 (stC S) T_api_State
  have k25 := trN c23 c25
  obtain ⟨m1, m2, m3, m4, m5, m6, m7⟩ := h.nums
  obtain ⟨n1, n2, n3, n4, n5, n6⟩ := ht.nums
  have hwl := hwa.len
  refine ⟨fun b w' => (b = false → LightT v ∧ LightS s ∧ wl.length ≤ 60 ∧ 0 ≤ more ∧ more ≤ 200) ∧ Chg No w25 w', ?_, ?_⟩
  rotate_left
  · refine ⟨_, _, _, _, _, _, _, _, _, o22.cell rfl, o22.cell rfl, o22.cell rfl, o22.cell rfl, o22.cell rfl, o22.cell rfl, o22.cell rfl, o22.cell rfl, o22.cell rfl, (light14_any t (ht.no k25)).mono ?_⟩
    rintro e w36 ⟨b, rfl, hb, c36⟩
    refine ⟨_, rfl, brB_of (fun _ => ⟨(fun h => by cases h), c36⟩) (fun hx => ?_)⟩
    have hT := hb (by simpa using hx)
    have p24 := o24.no c36
    refine ⟨_, _, _, _, _, _, _, _, _, _, p24.cell rfl, p24.cell rfl, p24.cell rfl, p24.cell rfl, p24.cell rfl, p24.cell rfl, p24.cell rfl, p24.cell rfl, p24.cell rfl, p24.cell rfl, (light9_any S (h.no (trN k25 c36))).mono ?_⟩
    rintro e w49 ⟨b, rfl, hb, c49⟩
    have c2549 := trN c36 c49
    refine ⟨_, rfl, brB_of (fun _ => ⟨(fun h => by cases h), c2549⟩) (fun hx => ?_)⟩
    have hL := hb.1 (by simpa using hx)
    refine brB_of (fun _ => ⟨(fun h => by cases h), c2549⟩) (fun h60 => ?_)
    have h60 := of_decide_eq_false h60
    refine brB_of (fun _ => ⟨(fun h => by cases h), c2549⟩) (fun h0 => ?_)
    have h0 := of_decide_eq_false h0
    refine brB_of (fun _ => ⟨(fun h => by cases h), c2549⟩) (fun h200 => ?_)
    have h200 := of_decide_eq_false h200
    refine (alive20_any _).mono ?_
    rintro e w64 ⟨rfl, c64⟩
    exact ⟨_, rfl, fun _ => ⟨hT, hL, by omega, by omega, by omega⟩, trN c2549 c64⟩
  rintro b w66 ⟨hb, c66⟩
  have k66 := trN k25 c66
  refine brB_of (fun _ => ?_) (fun hf => ?_)
  · refine (alive20_any _).mono ?_
    rintro e w69 ⟨rfl, c69⟩
    exact ⟨_, rfl, rfl, trN k66 c69⟩
  obtain ⟨hT, hL, hw60, hm0, hm200⟩ := hb hf
  have gs := hL.right.st
  have gb := hL.right.bk
  have gm := hL.me
  have gc := hT.cells
  have z66 := c66.size
  have p22 := o22.no c66
  have p24 := o24.no c66
  -- the trace that is lent
  refine ⟨_, _, _, _, _, _, _, _, _, p22.cell rfl, p22.cell rfl, p22.cell rfl, p22.cell rfl, p22.cell rfl, p22.cell rfl, p22.cell rfl, p22.cell rfl, p22.cell rfl, (lentTrace_any t (ht.no k66) hT.sm).mono ?_⟩
  rintro e w70 ⟨M, rfl, hM, c70⟩
  have k70 := trN k66 c70
  have z70 := c70.size
  refine ⟨_, _, _, _, _, _, _, _, _, rfl, ?_⟩
  intro b80 w81 hb80 hw81
  have hnw := fun (w2 : World) => newOb (w2 := w2) (T := T_api_Trace) (trP ⟨0, 0, 0, 0, 0, nilS, nilS, 0, nilS⟩) (trP M) rfl hb80 hw81
  refine ⟨(hnw w81).1, fun w82 hw82 => ?_⟩
  obtain ⟨o80, c82⟩ := (hnw w82).2 hw82
  have k82 := trN k70 c82
  have z82 := c82.size
  have hM82 := hM.no c82
  have hMlt : ∀ k, Lb w66 w70 k → k < w82.heap.size := fun k hk => by have := hk.1.2; omega
  have q22 := p22.no (trN c70 c82)
  have q24 := p24.no (trN c70 c82)
  refine ⟨_, _, _, _, _, _, _, _, _, q22.cell rfl, q22.cell rfl, q22.cell rfl, q22.cell rfl, q22.cell rfl, q22.cell rfl, q22.cell rfl, q22.cell rfl, q22.cell rfl, (rright_any t (ht.no k82)).mono ?_⟩
  rintro e w93 ⟨b, rfl, hb, c93⟩
  have k93 := trN k82 c93
  have z93 := c93.size
  have q80 := o80.no c93
  have hM93 := hM82.no c93
  refine ⟨_, rfl, brB_of (fun hx => ?_) (fun hx => ?_)⟩
  · have hno : ¬ RightV v := fun h => by rw [hb.2 h] at hx; cases hx
    refine ⟨_, _, _, _, _, _, _, _, _, q80.cell rfl, q80.cell rfl, q80.cell rfl, q80.cell rfl, q80.cell rfl, q80.cell rfl, q80.cell rfl, q80.cell rfl, q80.cell rfl, (make_any M hM93.is (fun k hk => by have := hMlt k hk; omega) (by omega) 200).mono ?_⟩
    rintro e w105 ⟨c105, hmk⟩
    have hmk : e = .returned (.tuple #[.pointer none, .bool false]) := by
      rcases hmk with h | h
      · exact h.2
      · exact absurd h.1 hno
    subst hmk
    have z105 := c105.size
    have r80 := q80.no c105
    refine ⟨_, _, rfl, brB_t' rfl (brB_t' rfl ?_)⟩
    refine ⟨_, _, _, _, _, _, _, _, _, r80.cell rfl, r80.cell rfl, r80.cell rfl, r80.cell rfl, r80.cell rfl, r80.cell rfl, r80.cell rfl, r80.cell rfl, r80.cell rfl, (least_any M (hM93.no c105).is (fun k hk => by have := hMlt k hk; omega)).mono ?_⟩
    rintro e w118 ⟨n, rfl, _, hn, c118⟩
    rw [hn hno]
    exact ⟨_, rfl, rfl, trN k93 (trN c105 c118)⟩
  have hR := hb.1 (by simpa using hx)
  have hrl := regs_le v
  obtain ⟨q1, q2, q3, q4, q5, q6, q7⟩ := hR.head
  have r22 := q22.no c93
  refine ⟨_, _, _, _, _, _, _, _, _, r22.cell rfl, r22.cell rfl, r22.cell rfl, r22.cell rfl, r22.cell rfl, r22.cell rfl, r22.cell rfl, r22.cell rfl, r22.cell rfl, (least15_any t (ht.no k93) hR).mono ?_⟩
  rintro e w132 ⟨rfl, c132⟩
  have k132 := trN k93 c132
  have z132 := c132.size
  have r80 := q80.no c132
  have hM132 := hM93.no c132
  refine ⟨_, rfl, _, _, _, _, _, _, _, _, _, r80.cell rfl, r80.cell rfl, r80.cell rfl, r80.cell rfl, r80.cell rfl, r80.cell rfl, r80.cell rfl, r80.cell rfl, r80.cell rfl, ?_⟩
  rw [wr_in (by omega)]
  refine (make_any M hM132.is (fun k hk => by have := hMlt k hk; omega) (by omega) _).mono ?_
  rintro e w144 ⟨c144, hmk⟩
  have hmk : e = .returned (.tuple #[.pointer none, .bool false]) := by
    rcases hmk with h | h
    · exact h.2
    · have := h.2.1; omega
  subst hmk
  have k144 := trN k132 c144
  have z144 := c144.size
  have s80 := r80.no c144
  have hM144 := hM132.no c144
  refine ⟨_, _, rfl, _, _, _, _, _, _, _, _, _, s80.cell rfl, s80.cell rfl, s80.cell rfl, s80.cell rfl, s80.cell rfl, s80.cell rfl, s80.cell rfl, s80.cell rfl, s80.cell rfl, ?_⟩
  rw [wr_in (by omega)]
  refine (make_any M hM144.is (fun k hk => by have := hMlt k hk; omega) (by omega) _).mono ?_
  rintro e w157 ⟨c157, hmk⟩
  obtain ⟨p, he, hC⟩ : ∃ p : Nat, e = .returned (.tuple #[.pointer (some ⟨p, 0, none⟩), .bool true]) ∧ CodeAt (fun k => w144.heap.size ≤ k ∧ k < w157.heap.size) w157 p v := by
    rcases hmk with h | h
    · exact absurd ⟨hR, by omega⟩ h.1
    · exact h.2.2
  subst he
  have k157 := trN k144 c157
  have z157 := c157.size
  have t80 := s80.no c157
  have hM157 := hM144.no c157
  have c93157 := trN (trN c132 c144) c157
  have t22 := r22.no c93157
  have t24 := (q24.no c93).no c93157
  refine ⟨_, _, rfl, fun b w' => b = false ∧ Chg No w157 w', ?_, ?_⟩
  rotate_left
  · intro w160 hw160
    have c160 := dw hw160
    have z160 := c160.size
    have hO80 : ∀ w', Chg No w160 w' → Ob w' b80 (trP M) T_api_Trace := fun w' c => (t80.no c160).no c
    have hO22 : ∀ w', Chg No w160 w' → Ob w' b22 (trP t) T_api_Trace := fun w' c => (t22.no c160).no c
    have h80 : ∀ {j : Nat} {u : Value}, (trP M)[j]? = some u → held (fun w' => Chg No w160 w') ⟨b80, j, none⟩ u := fun h => Ob.held hO80 h
    have h22 : ∀ {j : Nat} {u : Value}, (trP t)[j]? = some u → held (fun w' => Chg No w160 w') ⟨b22, j, none⟩ u := fun h => Ob.held hO22 h
    refine ⟨fun w' => Chg No w160 w', Chg.refl _ _, _, _, _, _, _, _, _, _, _, h80 rfl, h80 rfl, h80 rfl, h80 rfl, h80 rfl, h80 rfl, h80 rfl, h80 rfl, h80 rfl, (least_any M (hM157.no c160).is (fun k hk => by have := hMlt k hk; omega)).mono ?_⟩
    rintro e w172 ⟨n, rfl, hn, _, c172⟩
    rw [hn hR]
    refine ⟨_, rfl, c172, brB_f'' (by simp) (brB_f'' rfl (brB_f'' rfl (brB_f'' rfl ?_)))⟩
    have hil := ht.ins.len
    refine ⟨t.ins, h22 rfl, ((clen_any ((hC.no c160).no c172))).mono ?_⟩
    rintro e w176 ⟨rfl, rfl⟩
    refine ⟨_, rfl, c172, brB_f'' (by rw [hil]; simp) ?_⟩
    refine ((creg_any ((hC.no c160).no c172))).mono ?_
    rintro e w179 ⟨rfl, rfl⟩
    refine ⟨_, rfl, c172, brB_f'' (decide_eq_false (by omega)) ?_⟩
    have stays := fun (u : World) (cu : Chg No w160 u) => staysTrace_any M t ((hM157.no c160).no cu) (ht.no (trN (trN k157 c160) cu))
    refine brB_of (fun hp => ?_) (fun hp => ?_)
    · have hp := of_decide_eq_true hp
      refine ((creg_any ((hC.no c160).no c172))).mono ?_
      rintro e w182 ⟨rfl, rfl⟩
      refine ⟨_, rfl, c172, brB_f'' (decide_eq_false (by omega)) ?_⟩
      refine ⟨_, _, _, _, _, _, _, _, _, h80 rfl, h80 rfl, h80 rfl, h80 rfl, h80 rfl, h80 rfl, h80 rfl, h80 rfl, h80 rfl, _, _, _, _, _, _, _, _, _, h22 rfl, h22 rfl, h22 rfl, h22 rfl, h22 rfl, h22 rfl, h22 rfl, h22 rfl, h22 rfl, (stays _ c172).mono ?_⟩
      rintro e w203 ⟨rfl, c203⟩
      exact ⟨_, rfl, rfl, trN (trN c160 c172) c203⟩
    · refine ⟨_, _, _, _, _, _, _, _, _, h80 rfl, h80 rfl, h80 rfl, h80 rfl, h80 rfl, h80 rfl, h80 rfl, h80 rfl, h80 rfl, _, _, _, _, _, _, _, _, _, h22 rfl, h22 rfl, h22 rfl, h22 rfl, h22 rfl, h22 rfl, h22 rfl, h22 rfl, h22 rfl, (stays _ c172).mono ?_⟩
      rintro e w203 ⟨rfl, c203⟩
      exact ⟨_, rfl, rfl, trN (trN c160 c172) c203⟩
  rintro b w226 ⟨rfl, c226⟩
  have k226 := trN k157 c226
  have z226 := c226.size
  have hC226 := hC.no c226
  have u22 := t22.no c226
  have u24 := t24.no c226
  refine brB_f ?_
  -- the machine that is run
  obtain ⟨S1, hS1⟩ : ∃ S1 : StC, S1 = if at_ = true then { S with ip := t.start, status := 0 } else S := ⟨_, rfl⟩
  obtain ⟨s1, hs1⟩ : ∃ s1 : StV, s1 = if at_ = true then { s with ip := v.start, status := 0 } else s := ⟨_, rfl⟩
  have hlists : s1.stack = s.stack ∧ s1.back = s.back ∧ s1.mem = s.mem := by rw [hs1]; split <;> exact ⟨rfl, rfl, rfl⟩
  have hst : StIs D' w S1 s1 := by
    rw [hS1, hs1]
    split
    · exact ⟨⟨n1, m2, m3, m4, m5, rfl, m7⟩, h.st, h.bk, h.me, h.stD, h.bkD, h.meD⟩
    · exact h
  have htx : TxOk s1 := by rw [hs1]; split <;> exact hL.tx
  obtain ⟨l1, l2, l3⟩ := hlists
  refine ⟨fun w' => Ob w' b24 (stC S1) T_api_State ∧ Chg (fun k => k = b24) w226 w', ?_, ?_⟩
  rotate_left
  · refine brB_of (fun hat => ?_) (fun hat => ?_)
    · refine ⟨t.start, u22.cell rfl, u24.wr (by simp [stC]), fun w72 hw72 => ?_⟩
      obtain ⟨o72, c72⟩ := u24.up (k := 0) (vs := [.int .i64 t.start]) (cs' := stC { S with ip := t.start }) (by simp [stC]) rfl hw72
      refine ⟨o72.wr (by simp [stC]), fun w73 hw73 => ?_⟩
      obtain ⟨o73, c73⟩ := o72.up (k := 8) (vs := [.int .i64 0]) (cs' := stC { S with ip := t.start, status := 0 }) (by simp [stC]) rfl hw73
      rw [hS1, if_pos hat]
      exact ⟨o73, c72.trans c73 (fun _ _ h => h) (fun _ _ h => h)⟩
    · rw [hS1, if_neg (by rw [hat]; decide)]
      exact ⟨u24, Chg.refl _ _⟩
  rintro w231 ⟨v24, c231⟩
  have z231 := c231.size
  have lt24 := u24.lt
  have lt22 := o22.lt
  have k231 : Chg No w w231 := k226.trans c231 (fun _ _ h => h) (fun k hk he => by omega)
  have v22 := u22.chg c231 (fun he => by omega)
  have hC231 := hC226.chg c231 (fun k hk he => by have := k144.size; omega)
  refine ⟨_, _, _, _, _, _, _, _, _, _, v24.cell rfl, v24.cell rfl, v24.cell rfl, v24.cell rfl, v24.cell rfl, v24.cell rfl, v24.cell rfl, v24.cell rfl, v24.cell rfl, v24.cell rfl, ?_⟩
  intro b242 w243 hb242 hw243 b244 w245 hb244 hw245
  have c243 := al hw243
  have c245 := al hw245
  have z243 : w243.heap.size = w231.heap.size + 1 := by rw [hw243]; simp
  have z245 : w245.heap.size = w243.heap.size + 1 := by rw [hw245]; simp
  have o242 : Ob w245 b242 (stC st0) T_api_State := by
    have : Ob w243 b242 (stC st0) T_api_State := by rw [hw243, hb242]; exact Ob.new w231 (stC st0) T_api_State
    exact this.no c245
  have o244 : Ob w245 b244 [.int .i64 0, .int .i64 0, .bool false] T_eval_Done := by rw [hw245, hb244]; exact Ob.new w243 [.int .i64 0, .int .i64 0, .bool false] T_eval_Done
  refine ⟨o242.wr (by simp [stC]), fun w246 hw246 => ?_⟩
  obtain ⟨p242, d246⟩ := o242.up (k := 0) (vs := stC S1) (cs' := stC S1) (by simp [stC]) rfl hw246
  have p244 := o244.chg d246 (fun he => by omega)
  refine ⟨p244.wr (by simp), fun w247 hw247 => ?_⟩
  obtain ⟨q244, d247⟩ := p244.up (k := 0) (vs := [.int .i64 (-1), .int .i64 0, .bool false]) (cs' := [.int .i64 (-1), .int .i64 0, .bool false]) (by simp) rfl hw247
  have q242 := p242.chg d247 (fun he => by omega)
  have zd246 := d246.size
  have zd247 := d247.size
  have d247' : Chg (fun j => j = b242 ∨ j = b244) w231 w247 := ((trN c243 c245).trans d246 (U := fun j => j = b242 ∨ j = b244) (fun _ _ h => h.elim) (fun _ _ h => Or.inl h)).trans d247 (fun _ _ h => h) (fun _ _ h => Or.inr h)
  have c231247 : Chg No w231 w247 := d247'.trans (Chg.refl No _) (fun j hj he => by omega) (fun _ _ h => h)
  have k247 := trN k231 c231247
  have x22 := v22.no c231247
  have x24 := v24.no c231247
  have hC247 := hC231.no c231247
  have zw := k247.size
  refine ⟨fun w' => ∃ W : StC, Ob w' b242 (stC W) T_api_State ∧ StIs Any w' W (outS v s1 wl) ∧ Ob w' b244 [.int .i64 (outX v s1 wl), .int .i64 (outN v s1 wl), .bool (outH v s1 wl)] T_eval_Done ∧ Chg (fun j => j = b242 ∨ j = b244) w247 w', ?_, ?_⟩
  rotate_left
  · refine ⟨_, _, _, _, _, _, _, _, _, x22.cell rfl, x22.cell rfl, x22.cell rfl, x22.cell rfl, x22.cell rfl, x22.cell rfl, x22.cell rfl, x22.cell rfl, x22.cell rfl, _, _, _, _, _, _, _, _, _, _, x24.cell rfl, x24.cell rfl, x24.cell rfl, x24.cell rfl, x24.cell rfl, x24.cell rfl, x24.cell rfl, x24.cell rfl, x24.cell rfl, x24.cell rfl, (rmay_any t S1 (ht.no k247) (hst.no k247) (by omega) (by omega) (by rw [l1]; omega) (by rw [l2]; omega)).mono ?_⟩
    rintro e w268 ⟨rfl, c268⟩
    have k268 := trN k247 c268
    have z268 := c268.size
    have y22 := x22.no c268
    have y24 := x24.no c268
    have r242 := q242.no c268
    have r244 := q244.no c268
    refine ⟨_, rfl, brB_of (fun hmay => ?_) (fun hmay => ?_)⟩
    · refine ⟨_, _, _, _, _, _, _, _, _, y22.cell rfl, y22.cell rfl, y22.cell rfl, y22.cell rfl, y22.cell rfl, y22.cell rfl, y22.cell rfl, y22.cell rfl, y22.cell rfl, _, _, _, _, _, _, _, _, _, _, y24.cell rfl, y24.cell rfl, y24.cell rfl, y24.cell rfl, y24.cell rfl, y24.cell rfl, y24.cell rfl, y24.cell rfl, y24.cell rfl, y24.cell rfl, (rrun_any t S1 (ht.no k268) hR (hst.no k268) (hwa.no k268) hmay (by rw [l3]; omega) htx (fun i hi _ => hir i hi) (by rw [l3]; exact hi1) (by rw [l1]; exact hi2) (by rw [l2]; exact hi3)).mono ?_⟩
      rintro e w290 ⟨W, rfl, hW, c290⟩
      have z290 := c290.size
      refine ⟨_, _, _, _, _, _, _, _, _, _, _, _, rfl, ?_⟩
      intro b303 w304 hb303 hw304
      have hnw := fun (w2 : World) => newOb (w2 := w2) (T := T_api_State) (stC st0) (stC W) rfl hb303 hw304
      refine ⟨(hnw w304).1, fun w305 hw305 => ?_⟩
      obtain ⟨o303, c305⟩ := (hnw w305).2 hw305
      intro w306 hw306
      have c306 := dw hw306
      have e268306 := trN (trN c290 c305) c306
      have k306 := trN k268 e268306
      have z306 := e268306.size
      have zz305 := c305.size
      have r22 := y22.no e268306
      have s242 := r242.no e268306
      have s244 := r244.no e268306
      have s303 := o303.no c306
      have lt242 := r242.lt
      have lt244 := r244.lt
      have hOs : ∀ w', Chg (fun j => j = b242 ∨ j = b244) w306 w' → Ob w' b303 (stC W) T_api_State := fun w' c => s303.chg c (fun he => by omega)
      have hOt : ∀ w', Chg (fun j => j = b242 ∨ j = b244) w306 w' → Ob w' b22 (trP t) T_api_Trace := fun w' c => r22.chg c (fun he => by omega)
      have hs : ∀ {j : Nat} {u : Value}, (stC W)[j]? = some u → held (fun w' => Chg (fun j => j = b242 ∨ j = b244) w306 w') ⟨b303, j, none⟩ u := fun h => Ob.held hOs h
      have hkw : ∀ w', Chg (fun j => j = b242 ∨ j = b244) w306 w' → Chg No w w' := fun w' c => k306.trans c (fun _ _ h => h) (fun j hj he => by omega)
      obtain ⟨os, hos, hov⟩ := ht.outs
      obtain ⟨y1, y2⟩ := runG_out hR s1 wl
      obtain ⟨o, ho⟩ : ∃ o, os[(runG v s1 wl).1.toNat]? = some o := ⟨_, List.getElem?_eq_getElem (by rw [hov.1]; omega)⟩
      obtain ⟨_, u2, _⟩ := hov.2 _ _ _ ho (outAt_ix y1 y2)
      refine ⟨fun w' => Chg (fun j => j = b242 ∨ j = b244) w306 w', Chg.refl _ _, _, _, _, _, _, _, _, _, _, _, hs rfl, hs rfl, hs rfl, hs rfl, hs rfl, hs rfl, hs rfl, hs rfl, hs rfl, hs rfl, t.outs, Ob.held hOt rfl, ?_⟩
      refine Rd.hix (S := fun w' => Chg (fun j => j = b242 ∨ j = b244) w306 w') (Chg.refl _ _) (fun w' c => hos.no (hkw w' c)) y1 ho fun a _ hc => ⟨o.steps, hc 1 _ rfl, ?_⟩
      have hx1 : outX v s1 wl = (runG v s1 wl).1 := by unfold outX; rw [if_pos hmay]
      have hx2 : outN v s1 wl = o.steps := by rw [u2]; unfold outN; rw [if_pos hmay]
      have hx3 : outH v s1 wl = decide ((runG v s1 wl).2.hit ≥ 0) := by unfold outH; rw [if_pos hmay]
      rw [← hx1, ← hx2, ← hx3]
      have hfin : ∀ w321, w321 = stW w306 ⟨b242, 0, none⟩ 0 (stC W) → Chg (fun j => j = b242 ∨ j = b244) w306 w321 ∧ wrOk w321 ⟨b244, 0, none⟩ 3 ∧ ∀ w322, w322 = stW w321 ⟨b244, 0, none⟩ 0 [.int .i64 (outX v s1 wl), .int .i64 (outN v s1 wl), .bool (outH v s1 wl)] → ∃ W : StC, Ob w322 b242 (stC W) T_api_State ∧ StIs Any w322 W (outS v s1 wl) ∧ Ob w322 b244 [.int .i64 (outX v s1 wl), .int .i64 (outN v s1 wl), .bool (outH v s1 wl)] T_eval_Done ∧ Chg (fun j => j = b242 ∨ j = b244) w247 w322 := fun w321 hw321 => by
        obtain ⟨t242, d321⟩ := s242.up (k := 0) (vs := stC W) (cs' := stC W) (by simp [stC]) rfl hw321
        have t244 := s244.chg d321 (fun he => by omega)
        refine ⟨d321.mono (fun _ _ h => Or.inl h), t244.wr (by simp), fun w322 hw322 => ?_⟩
        obtain ⟨u244, d322⟩ := t244.up (k := 0) (vs := [.int .i64 (outX v s1 wl), .int .i64 (outN v s1 wl), .bool (outH v s1 wl)]) (cs' := [.int .i64 (outX v s1 wl), .int .i64 (outN v s1 wl), .bool (outH v s1 wl)]) (by simp) rfl hw322
        have u242 := t242.chg d322 (fun he => by omega)
        have dd : Chg (fun j => j = b242 ∨ j = b244) w306 w322 := d321.trans d322 (fun _ _ h => Or.inl h) (fun _ _ h => Or.inr h)
        refine ⟨W, u242, ?_, u244, (trN c268 e268306).trans dd (fun _ _ h => h.elim) (fun _ _ h => h)⟩
        have hW' := (hW.no (trN c305 c306)).chg dd (fun k hk he => by omega)
        unfold outS; rw [if_pos hmay]
        exact stis hW'.nums hW'.st.rd hW'.bk.rd hW'.me.rd
      refine ⟨⟨Chg.refl _ _, s242.wr (by simp [stC]), fun w321 hw321 => hfin w321 hw321⟩, s242.wr (by simp [stC]), fun w323 hw323 => ?_⟩
      obtain ⟨f1, f2⟩ := hfin w323 hw323
      exact ⟨f1, f1, f2⟩
    · have hmay' : ¬ mayV v s1 = true := by rw [hmay]; decide
      have g := hst.no k268
      have hx1 : outX v s1 wl = -1 := by unfold outX; rw [if_neg hmay']
      have hx2 : outN v s1 wl = 0 := by unfold outN; rw [if_neg hmay']
      have hx3 : outH v s1 wl = false := by unfold outH; rw [if_neg hmay']
      refine ⟨S1, r242, ?_, by rw [hx1, hx2, hx3]; exact r244, c268.mono (fun _ _ h => h.elim)⟩
      unfold outS; rw [if_neg hmay']
      exact stis g.nums g.st g.bk g.me
  rintro w325 ⟨W, a242, hW, a244, d325⟩
  have c247325 : Chg No w231 w325 := (trN c231247 (Chg.refl _ _)).trans d325 (fun _ _ h => h) (fun j hj he => by omega)
  have z325 := d325.size
  have k325 := trN k231 c247325
  have x22 := v22.no c247325
  have x24 := v24.no c247325
  have hC325 := hC231.no c247325
  refine ⟨_, _, _, _, _, _, _, _, _, _, x24.cell rfl, x24.cell rfl, x24.cell rfl, x24.cell rfl, x24.cell rfl, x24.cell rfl, x24.cell rfl, x24.cell rfl, x24.cell rfl, x24.cell rfl, (lentState_any S1 (hst.no k325) (by rw [l1]; omega) (by rw [l2]; omega) (by rw [l3]; omega)).mono ?_⟩
  rintro e w337 ⟨N, rfl, hN, c337⟩
  have z337 := c337.size
  refine ⟨_, _, _, _, _, _, _, _, _, _, rfl, ?_⟩
  refine (lentInts_any (hwa.no (trN k325 c337)) (by omega)).mono ?_
  rintro e w349 ⟨s350, rfl, hWt, c349, n350⟩
  have z349 := c349.size
  refine ⟨_, rfl, ?_⟩
  intro b351 w352 hb351 hw352
  have hnw := fun (w2 : World) => newOb (w2 := w2) (T := T_api_State) (stC st0) (stC N) rfl hb351 hw352
  refine ⟨(hnw w352).1, fun w353 hw353 => ?_⟩
  obtain ⟨o351, c353⟩ := (hnw w353).2 hw353
  have z353 := c353.size
  intro b354 w355 hb354 hw355
  have c355 := al hw355
  have z355 : w355.heap.size = w353.heap.size + 1 := by rw [hw355]; simp
  have o354 : Ob w355 b354 (bookT nilS nilS nilS nilS nilS nilS) T_hollowaybook_Book := by rw [hw355, hb354]; exact Ob.new w353 (bookT nilS nilS nilS nilS nilS nilS) T_hollowaybook_Book
  have e325353 := trN (trN c337 c349) c353
  have k353 := trN k325 e325353
  have hN353 := hN.no (trN c349 c353)
  have hWt353 := hWt.no c353
  have hC353 := hC325.no e325353
  have b242' := a242.no e325353
  have b244' := a244.no e325353
  have hW353 := hW.no e325353
  have y24 := x24.no e325353
  have s351 := o351
  obtain ⟨sm1, sm2, sm3⟩ := outS_small (v := v) hR (s := s1) (wl := wl) (by rw [l1]; exact gs) (by rw [l2]; exact gb) (by rw [l3]; exact gm)
  refine ⟨fun q w' => ∃ i : Nat, q = i ∧ i ≤ 2 ∧ Chg No w353 w' ∧ BkT (Nb w353.heap.size w'.heap.size) (Nb w353.heap.size w'.heap.size) w' b354, fun q _ => 2 - q.toNat, ⟨0, rfl, by omega, c355, BkT.empty o354 ⟨by omega, by omega⟩ ⟨by omega, by omega⟩⟩, ?_⟩
  rintro q w242 ⟨i, rfl, hi, c242, hB⟩
  have z242 := c242.size
  have k242 := trN k353 c242
  have xn2 := s351.no c242
  refine brB_of (fun hlt => ?_) (fun hlt => ?_)
  · have hlt : i < 2 := by have := of_decide_eq_true hlt; omega
    refine ⟨_, _, _, _, _, _, _, _, _, _, xn2.cell rfl, xn2.cell rfl, xn2.cell rfl, xn2.cell rfl, xn2.cell rfl, xn2.cell rfl, xn2.cell rfl, xn2.cell rfl, xn2.cell rfl, xn2.cell rfl, ?_⟩
    refine (crun_any N (hC353.no c242) hR (hN353.no c242).is (hWt353.no c242).rd (by rw [l1]; omega) (by rw [l2]; omega) (by rw [l3]; omega) htx).mono ?_
    rintro e w264 ⟨S', rfl, hS', c264⟩
    have z264 := c264.size
    refine ⟨_, _, _, _, _, _, _, _, _, _, _, _, _, rfl, ?_⟩
    intro b278 w279 hb278 hw279 b280 w281 hb280 hw281
    have c279 := al hw279
    have c281 := al hw281
    have z279 : w279.heap.size = w264.heap.size + 1 := by rw [hw279]; simp
    have z281 : w281.heap.size = w279.heap.size + 1 := by rw [hw281]; simp
    have o278 : Ob w281 b278 (stC st0) T_api_State := by
      have : Ob w279 b278 (stC st0) T_api_State := by rw [hw279, hb278]; exact Ob.new w264 (stC st0) T_api_State
      exact this.no c281
    have o280 : Ob w281 b280 [.int .i64 0, .int .i64 0, .bool false] T_eval_Done := by rw [hw281, hb280]; exact Ob.new w279 [.int .i64 0, .int .i64 0, .bool false] T_eval_Done
    refine ⟨o278.wr (by simp [stC]), fun w282 hw282 => ?_⟩
    obtain ⟨p278, d282⟩ := o278.up (k := 0) (vs := stC S') (cs' := stC S') (by simp [stC]) rfl hw282
    have p280 := o280.chg d282 (fun he => by omega)
    refine ⟨p280.wr (by simp), fun w283 hw283 => ?_⟩
    obtain ⟨q280, d283⟩ := p280.up (k := 0) (vs := [.int .i64 (outX v s1 wl), .int .i64 (outN v s1 wl), .bool (outH v s1 wl)]) (cs' := [.int .i64 (outX v s1 wl), .int .i64 (outN v s1 wl), .bool (outH v s1 wl)]) (by simp) rfl hw283
    have q278 := p278.chg d283 (fun he => by omega)
    have cY : Chg (fun j => j = b278 ∨ j = b280) w264 w283 := ((trN c279 c281).trans d282 (U := fun j => j = b278 ∨ j = b280) (fun _ _ h => h.elim) (fun _ _ h => Or.inl h)).trans d283 (fun _ _ h => h) (fun _ _ h => Or.inr h)
    have eY : Chg No w264 w283 := cY.trans (Chg.refl No _) (fun j hj he => by omega) (fun _ _ h => h)
    have z283 := eY.size
    have zd282 := d282.size
    have zd283 := d283.size
    have e242283 := trN c264 eY
    have F283 : StOw (Nb w242.heap.size w264.heap.size) w283 S' (outS v s1 wl) := by
      have g := hS'.no eY
      exact ⟨g.nums, g.st, g.bk, g.me, fun k hk => ⟨hS'.stD k hk, hS'.st.lt hk⟩, fun k hk => ⟨⟨(hS'.bkD k hk).1, hS'.bk.lt hk⟩, (hS'.bkD k hk).2⟩, fun k hk => ⟨⟨(hS'.meD k hk).1, hS'.me.lt hk⟩, (hS'.meD k hk).2⟩⟩
    refine ⟨_, _, _, _, _, _, _, _, _, _, q278.cell rfl, q278.cell rfl, q278.cell rfl, q278.cell rfl, q278.cell rfl, q278.cell rfl, q278.cell rfl, q278.cell rfl, q278.cell rfl, q278.cell rfl, ?_⟩
    have hB283 : BkT (fun k => Nb w353.heap.size w242.heap.size k ∨ w283.heap.size ≤ k) (fun k => Nb w353.heap.size w242.heap.size k ∨ w283.heap.size ≤ k) w283 b354 := (hB.no e242283).wid (fun k hk => Or.inl hk) (fun k hk => Or.inl hk)
    refine (hB283.state (fun k hk => Or.inr hk) (fun k hk => Or.inr hk) F283 sm1 sm2 sm3 (D' := fun k => w353.heap.size ≤ k) (fun k hk => by rcases hk with hk | hk; exact hk.1; omega) (fun k hk => ⟨by have := hk.1; omega, fun he => ?_, fun he => ?_⟩)).mono ?_
    · rcases he with he | he
      · have := he.2; have := hk.1; omega
      · have := hk.2; omega
    · rcases he with he | he
      · have := he.2; have := hk.1; omega
      · have := hk.2; omega
    rintro e w295 ⟨rfl, hB295, c295⟩
    have z295 := c295.size
    have av : ∀ k, w242.heap.size ≤ k → k < w283.heap.size → ¬ (Nb w353.heap.size w242.heap.size k ∨ w283.heap.size ≤ k) := fun k h1 h2 he => by
      rcases he with he | he
      · have := he.2; omega
      · omega
    have r278 := q278.chg c295 (av _ (by omega) (by omega))
    have r280 := q280.chg c295 (av _ (by omega) (by omega))
    have F295 := F283.chg c295 (fun k hk => av k hk.1 (by have := hk.2; omega))
    have e353295 : Chg No w353 w295 := (trN c242 e242283).trans c295 (fun _ _ h => h) (fun k hk he => by
      rcases he with he | he
      · have := he.1; omega
      · omega)
    have xW := b242'.no e353295
    have xD := b244'.no e353295
    refine ⟨rfl, fun b w' => b = false ∧ Chg No w295 w', ?_, ?_⟩
    · rintro b w327 ⟨rfl, c327⟩
      have z327 := c327.size
      refine brB_f ?_
      rw [wr_in (by omega)]
      refine ⟨⟨i + 1, by omega, by omega, trN e353295 c327, ((hB295.nar.no c327).wid (fun k hk => ⟨hk.1, by have := hk.2; omega⟩) (fun k hk => ⟨?_, by have := hk.2; omega⟩))⟩, by show 2 - Int.toNat ((i : Int) + 1) < 2 - Int.toNat (i : Int); omega⟩
      rcases hk.1 with h | h
      · exact h.1
      · omega
    · refine ⟨_, _, _, _, _, _, _, _, _, _, r278.cell rfl, r278.cell rfl, r278.cell rfl, r278.cell rfl, r278.cell rfl, r278.cell rfl, r278.cell rfl, r278.cell rfl, r278.cell rfl, r278.cell rfl, _, _, _, _, _, _, _, _, _, _, xW.cell rfl, xW.cell rfl, xW.cell rfl, xW.cell rfl, xW.cell rfl, xW.cell rfl, xW.cell rfl, xW.cell rfl, xW.cell rfl, xW.cell rfl, (sameState_any S' W F295.is (hW353.no e353295)).mono ?_⟩
      rintro e w317 ⟨rfl, c317⟩
      have y280 := r280.no c317
      have yD := xD.no c317
      refine ⟨_, rfl, brB_f ⟨_, _, _, y280.cell rfl, y280.cell rfl, y280.cell rfl, _, _, _, yD.cell rfl, yD.cell rfl, yD.cell rfl, _, _, done_neq _ _ _ _ _ _ _ _ _, by simp, c317⟩⟩
  · have w24' := y24.no c242
    refine ⟨_, _, _, _, _, _, _, _, _, _, w24'.cell rfl, w24'.cell rfl, w24'.cell rfl, w24'.cell rfl, w24'.cell rfl, w24'.cell rfl, w24'.cell rfl, w24'.cell rfl, w24'.cell rfl, w24'.cell rfl, (crunN_any S1 (hst.no k242) nilS (by rw [l1]; omega) (by rw [l2]; omega) (by rw [l3]; omega)).mono ?_⟩
    rintro e w445 ⟨S', rfl, hS', c445⟩
    have z445 := c445.size
    refine ⟨_, _, _, _, _, _, _, _, _, _, _, _, _, rfl, ?_⟩
    intro b459 w460 hb459 hw460 b461 w462 hb461 hw462
    have c460 := al hw460
    have c462 := al hw462
    have z460 : w460.heap.size = w445.heap.size + 1 := by rw [hw460]; simp
    have z462 : w462.heap.size = w460.heap.size + 1 := by rw [hw462]; simp
    have o459 : Ob w462 b459 (stC st0) T_api_State := by
      have : Ob w460 b459 (stC st0) T_api_State := by rw [hw460, hb459]; exact Ob.new w445 (stC st0) T_api_State
      exact this.no c462
    have o461 : Ob w462 b461 [.int .i64 0, .int .i64 0, .bool false] T_eval_Done := by rw [hw462, hb461]; exact Ob.new w460 [.int .i64 0, .int .i64 0, .bool false] T_eval_Done
    refine ⟨o459.wr (by simp [stC]), fun w463 hw463 => ?_⟩
    obtain ⟨p459, d463⟩ := o459.up (k := 0) (vs := stC S') (cs' := stC S') (by simp [stC]) rfl hw463
    have p461 := o461.chg d463 (fun he => by omega)
    refine ⟨p461.wr (by simp), fun w464 hw464 => ?_⟩
    obtain ⟨q461, d464⟩ := p461.up (k := 0) (vs := [.int .i64 (-1), .int .i64 0, .bool false]) (cs' := [.int .i64 (-1), .int .i64 0, .bool false]) (by simp) rfl hw464
    have q459 := p459.chg d464 (fun he => by omega)
    have cY : Chg (fun j => j = b459 ∨ j = b461) w445 w464 := ((trN c460 c462).trans d463 (U := fun j => j = b459 ∨ j = b461) (fun _ _ h => h.elim) (fun _ _ h => Or.inl h)).trans d464 (fun _ _ h => h) (fun _ _ h => Or.inr h)
    have eY : Chg No w445 w464 := cY.trans (Chg.refl No _) (fun j hj he => by omega) (fun _ _ h => h)
    have e464 := trN c445 eY
    have w24 := w24'.no e464
    refine ⟨_, _, _, _, _, _, _, _, _, _, q459.cell rfl, q459.cell rfl, q459.cell rfl, q459.cell rfl, q459.cell rfl, q459.cell rfl, q459.cell rfl, q459.cell rfl, q459.cell rfl, q459.cell rfl, _, _, _, _, _, _, _, _, _, _, w24.cell rfl, w24.cell rfl, w24.cell rfl, w24.cell rfl, w24.cell rfl, w24.cell rfl, w24.cell rfl, w24.cell rfl, w24.cell rfl, w24.cell rfl, (sameState_any S' S1 (hS'.no eY).is (hst.no (trN k242 e464))).mono ?_⟩
    rintro e w486 ⟨rfl, c486⟩
    have r461 := q461.no c486
    refine ⟨_, rfl, brB_t ⟨_, _, _, r461.cell rfl, r461.cell rfl, r461.cell rfl, _, _, done_eql _ _ _ _ _ _ _ _ _, brB_t' (by simp) ?_⟩⟩
    refine (cregN_any w486).mono ?_
    rintro e w494 ⟨rfl, rfl⟩
    refine ⟨_, rfl, (clenN_any w486).mono ?_⟩
    rintro e w497 ⟨rfl, rfl⟩
    refine ⟨_, rfl, brB_t' (by rw [wr_in (by omega)]; rfl) ?_⟩
    have e486 := trN e464 c486
    have zn := xn2.no e486
    have z24 := w24.no c486
    refine ⟨_, _, _, _, _, _, _, _, _, _, zn.cell rfl, zn.cell rfl, zn.cell rfl, zn.cell rfl, zn.cell rfl, zn.cell rfl, zn.cell rfl, zn.cell rfl, zn.cell rfl, zn.cell rfl, _, _, _, _, _, _, _, _, _, _, z24.cell rfl, z24.cell rfl, z24.cell rfl, z24.cell rfl, z24.cell rfl, z24.cell rfl, z24.cell rfl, z24.cell rfl, z24.cell rfl, z24.cell rfl, (staysState_any N S1 ((hN353.no c242).no e486) (hst.no (trN k242 e486))).mono ?_⟩
    rintro e w393 ⟨rfl, c393⟩
    have e393 := trN e486 c393
    refine ⟨_, rfl, brB_t ((staysInts_any ((hWt353.no c242).no e393) (hwa.no (trN k242 e393))).mono ?_)⟩
    rintro e w396 ⟨rfl, c396⟩
    refine ⟨_, rfl, brB_t ?_⟩
    have e396 := trN e393 c396
    refine ((hB.no e396).apart).mono ?_
    rintro e w399 ⟨rfl, c399⟩
    exact ⟨_, rfl, rfl, (trN k242 e396).trans c399 (fun _ _ h => h) (fun k hk he => by have := he.1; have := k353.size; omega)⟩
end Go.Proofs.YtblmoilneiffgaaGreat
