/- The package record: Loop. -/
import Derived.Test.YtkjpmkopnkkbmaaGreatDoorRcA
set_option maxRecDepth 100000
namespace Go.Proofs.YtkjpmkopnkkbmaaGreatDoor
open Go.RowKit

structure RcC where
  start : Int
  fin : Int
  loop : Bool
  steps : Sl
def rcC (r : RcC) : List Value := [.int .i64 r.start, .int .i64 r.fin, .bool r.loop, r.steps.val]
def rc0 : RcC := ⟨0, 0, false, nilS⟩
theorem varRc {w : World} (x : RcC) {G : Nat → World → Prop} (k : ∀ b w', b = w.heap.size → w.heap.size + 1 ≤ w'.heap.size → Ob w' b (rcC x) T_api_Recording → Chg No w w' → G b w') : ∀ (b : Nat) (w1 : World), b = w.heap.size → w1 = World.alloc w (.cells (rcC rc0).toArray T_api_Recording) → wrOk w1 ⟨b, 0, none⟩ 4 ∧ ∀ w2 : World, w2 = stW w1 ⟨b, 0, none⟩ 0 (rcC x) → G b w2 := fun b w1 hb hw => by
  have hn := fun (w2 : World) => newOb (w2 := w2) (T := T_api_Recording) (rcC rc0) (rcC x) rfl hb hw
  refine ⟨(hn w1).1, fun w2 hw2 => ?_⟩
  obtain ⟨o, c⟩ := (hn w2).2 hw2
  exact k b w2 hb (by have := o.lt; omega) o c
theorem inRc {w : World} (x : RcC) {G : Nat → World → Prop} (k : ∀ b w', b = w.heap.size → w'.heap.size = w.heap.size + 1 → Ob w' b (rcC x) T_api_Recording → Chg No w w' → G b w') : ∀ (b : Nat) (w' : World), b = w.heap.size → w' = World.alloc w (.cells (rcC x).toArray T_api_Recording) → G b w' := fun b w' hb hw =>
  k b w' hb (by rw [hw]; simp) (by rw [hw, hb]; exact Ob.new w (rcC x) T_api_Recording) (al hw)
theorem rdRc {w : World} {b : Nat} {x : RcC} {T : TypeId} {G : Int → Int → Bool → Sl → Prop} (o : Ob w b (rcC x) T) (g : G x.start x.fin x.loop x.steps) :
    ∃ n1 : Int, ∃ n2 : Int, ∃ b3 : Bool, ∃ s4 : Sl, w.cell? ⟨b, 0, none⟩ = some (.int .i64 n1) ∧ w.cell? ⟨b, 1, none⟩ = some (.int .i64 n2) ∧ w.cell? ⟨b, 2, none⟩ = some (.bool b3) ∧ w.cell? ⟨b, 3, none⟩ = some (s4.val) ∧ G n1 n2 b3 s4 :=
  ⟨_, _, _, _, o.cell rfl, o.cell rfl, o.cell rfl, o.cell rfl, g⟩
theorem hdRc {Q : World → Prop} {b : Nat} {x : RcC} {T : TypeId} {G : Int → Int → Bool → Sl → Prop} (h : ∀ w', Q w' → Ob w' b (rcC x) T) (g : G x.start x.fin x.loop x.steps) :
    ∃ n1 : Int, ∃ n2 : Int, ∃ b3 : Bool, ∃ s4 : Sl, held Q ⟨b, 0, none⟩ (.int .i64 n1) ∧ held Q ⟨b, 1, none⟩ (.int .i64 n2) ∧ held Q ⟨b, 2, none⟩ (.bool b3) ∧ held Q ⟨b, 3, none⟩ (s4.val) ∧ G n1 n2 b3 s4 :=
  ⟨_, _, _, _, Ob.held h rfl, Ob.held h rfl, Ob.held h rfl, Ob.held h rfl, g⟩
theorem setRc {w : World} {b : Nat} {x : RcC} (x' : RcC) {k n : Nat} {vs : List Value} {G : World → Prop} (o : Ob w b (rcC x) T_api_Recording) (hl : k + n ≤ 4) (hn : n = vs.length) (hc : wrL (rcC x) k vs = rcC x') (g : ∀ w', Ob w' b (rcC x') T_api_Recording → Chg (fun j => j = b) w w' → G w') :
    wrOk w ⟨b, k, none⟩ n ∧ ∀ w' : World, w' = stW w ⟨b, k, none⟩ 0 vs → G w' := by
  subst hn
  refine ⟨o.wr (by simpa [rcC] using hl), fun w' hw' => ?_⟩
  obtain ⟨o', c'⟩ := o.up (cs' := rcC x') (by simpa [rcC] using hl) hc hw'
  exact g w' o' c'
/-- A recording in memory; its steps in blocks of D. -/
structure RcOw (D : Nat → Prop) (w : World) (R : RcC) (r : RcV) : Prop where
  nums : R.start = r.start ∧ R.fin = r.fin ∧ R.loop = r.loop
  steps : Ox seE w R.steps r.steps
  stD : ∀ k, R.steps.blk = some k → D k
theorem RcOw.chg {D X : Nat → Prop} {w w' : World} {R : RcC} {r : RcV} (h : RcOw D w R r) (c : Chg X w w') (hX : ∀ k, D k → ¬ X k) : RcOw D w' R r := ⟨h.nums, h.steps.chg c (fun k hk => hX k (h.stD k hk)), h.stD⟩
theorem RcOw.no {D : Nat → Prop} {w w' : World} {R : RcC} {r : RcV} (h : RcOw D w R r) (c : Chg No w w') : RcOw D w' R r := h.chg c (fun _ _ h => h)
theorem stxA' {D : Nat → Prop} {w : World} {S : StC} {s : StV} (h : StX D w S s) : StIs (fun _ => True) w S s := ⟨h.nums, h.st.rd, h.bk.rd, h.me.rd, fun _ _ => trivial, fun _ _ => trivial, fun _ _ => trivial⟩
theorem loop_rc {w : World} (S : StC) {s : StV} (h : StIs (fun _ => True) w S s) (ok : MOk s) (hg : Gl w) (most : Int) :
    Calls Tryz.prog fn_record_Loop #[.agg (stC S).toArray, .int .i64 most] w fun e w' => ∃ R : RcC, e = .returned (.agg (rcC R).toArray) ∧ RcOw (fun k => w.heap.size ≤ k ∧ k < w'.heap.size) w' R (recV s most) ∧ Chg No w w' := by
  refine (record_Loop_lift (K := fun v w' => ∃ R : RcC, v = .agg (rcC R).toArray ∧ RcOw (fun k => w.heap.size ≤ k ∧ k < w'.heap.size) w' R (recV s most) ∧ Chg No w w') ?_).mono (by rintro e w' ⟨v, rfl, R, rfl, h⟩; exact ⟨R, rfl, h⟩)
  unfold record_Loop_sh
  have m1 := h.nums.1
  obtain ⟨hml, hmi⟩ := mostN_le most
  refine inSt S fun b12 w13 hb12 z13 o12 c13 => inRc rc0 fun b14 w15 hb14 z15 o14 c15 => ⟨S.ip, (o12.no c15).cell rfl, S.ip, (o12.no c15).cell rfl, ?_⟩
  refine varRc ⟨S.ip, S.ip, false, nilS⟩ fun b18 w20 hb18 z20 o18 c20 => ?_
  have k20 := trN (trN c13 c15) c20
  have p12 := (o12.no c15).no c20
  have p14 := o14.no c20
  rw [← hmi]
  refine ⟨fun w' => ∃ (n : Nat) (s' : StV) (S' : StC) (sl : Sl) (l : List SnV) (fin0 : Int) (lp0 : Bool), recL s.ip n s' l = recV s most ∧ n + l.length = mostN most ∧ Ob w' b12 (stC S') T_api_State ∧ Ob w' b18 (rcC ⟨s.ip, fin0, lp0, sl⟩) T_api_Recording ∧ Ob w' b14 (rcC rc0) T_api_Recording ∧ Ox seE w' sl l ∧ (∀ k, sl.blk = some k → w20.heap.size ≤ k) ∧ MOk s' ∧
    (∀ w'', Chg (fun k => k = b12 ∨ k = b14 ∨ k = b18 ∨ sl.blk = some k) w' w'' → StIs (fun _ => True) w'' S' s') ∧ Chg No w w' ∧ w20.heap.size ≤ w'.heap.size, fun w' => 200 - sliceLen (w'.cell? ⟨b18, 3, none⟩),
    ⟨mostN most, s, S, nilS, [], S.ip, false, rfl, by simp, p12, by rw [← m1]; exact o18, p14, Ox.nil _ _, (fun k hk => by cases hk), ok, fun w'' c'' => h.no (k20.trans c'' (fun _ _ h => h) (fun k hk he => by
      rcases he with he | he | he | he
      · omega
      · omega
      · omega
      · cases he)), k20, Nat.le_refl _⟩, ?_⟩
  rintro w21 ⟨n, s', S', sl, l, fin0, lp0, hrec, hn, q12, q18, q14, hox, hslD, ok', hst, k21, z21⟩
  have hll := hox.rd.len
  have h21 := hst w21 (Chg.refl _ _)
  have mm1 := h21.nums.1
  have lt12 := p12.lt
  have lt14 := p14.lt
  have lt18 := o18.lt
  refine ⟨fun w' => Ob w' b18 (rcC ⟨s.ip, fin0, lpB s.ip s' l, sl⟩) T_api_Recording ∧ Chg (fun k => k = b18) w21 w', ?_, ?_⟩
  rotate_left
  · refine ⟨sl, q18.cell rfl, brB_of (fun hp => ?_) (fun hp => ?_)⟩
    · have hp : 0 < l.length := by have := of_decide_eq_true hp; omega
      refine ⟨S'.ip, q12.cell rfl, s.ip, q18.cell rfl, setRc ⟨s.ip, fin0, lpB s.ip s' l, sl⟩ q18 (by decide) rfl ?_ fun w25 o25 c25 => ⟨o25, c25⟩⟩
      have : lpB s.ip s' l = (S'.ip == s.ip) := by
        unfold lpB; rw [decide_eq_true hp, mm1, Bool.true_and]; rfl
      rw [this]; rfl
    · have hp : ¬ 0 < l.length := by have := of_decide_eq_false hp; omega
      refine setRc ⟨s.ip, fin0, lpB s.ip s' l, sl⟩ q18 (by decide) rfl ?_ fun w26 o26 c26 => ⟨o26, c26⟩
      have : lpB s.ip s' l = false := by unfold lpB; rw [decide_eq_false hp]; rfl
      rw [this]; rfl
  rintro w27 ⟨o27, c27⟩
  have r12 := q12.chg c27 (fun he => by omega)
  refine ⟨S'.ip, r12.cell rfl, setRc ⟨s.ip, s'.ip, lpB s.ip s' l, sl⟩ o27 (by decide) rfl (by rw [mm1]; rfl) fun w29 o29 c29 => ?_⟩
  have d29 : Chg (fun k => k = b18) w21 w29 := c27.trans c29 (fun _ _ h => h) (fun _ _ h => h)
  have z29 := d29.size
  have k29 : Chg No w w29 := k21.trans d29 (fun _ _ h => h) (fun k hk he => by have := k20.size; omega)
  have t12 := q12.chg d29 (fun he => by omega)
  have t14 := q14.chg d29 (fun he => by omega)
  have x29 : Ox seE w29 sl l := hox.qs d29 (fun he => by have := hslD _ he; omega)
  have h29 := hst w29 (d29.mono (fun _ _ h => Or.inr (Or.inr (Or.inl h))))
  refine rdSt t12 ((next_rc S' h29 ok' (hg.no k29)).mono ?_)
  rintro e w41 ⟨x, S2, b56, rfl, hnx, c41⟩
  have z41 := c41.size
  refine ⟨_, _, _, _, _, _, _, _, _, _, _, _, _, _, _, rfl, ?_⟩
  intro b57 w58 hb57 hw58
  have c58 := al hw58
  have z58 : w58.heap.size = w41.heap.size + 1 := by rw [hw58]; simp
  have o57 : Ob w58 b57 (seC se0) T_api_Seen := by rw [hw58, hb57]; exact Ob.new w41 (seC se0) T_api_Seen
  refine inSt st0 fun b59 w60 hb59 z60 o59 c60 => ?_
  refine setSn x (o57.no c60) (by decide) rfl rfl fun w61 o61 c61 => setSt S2 (o59.chg c61 (fun he => by omega)) (by decide) rfl rfl fun w62 o62 c62 => ?_
  have d62 : Chg (fun k => k = b57 ∨ k = b59) w60 w62 := c61.trans c62 (fun _ _ h => Or.inl h) (fun _ _ h => Or.inr h)
  have z62 := d62.size
  have e62 : Chg No w29 w62 := (trN (trN c41 c58) c60).trans d62 (fun _ _ h => h) (fun k hk he => by omega)
  have k62 := trN k29 e62
  have u57 := o61.chg c62 (fun he => by omega)
  have u12 := t12.no e62
  have u14 := t14.no e62
  have u18 := o29.no e62
  have x62 := x29.no e62
  have lt29 : ∀ k, sl.blk = some k → k < w29.heap.size := x29.lt
  refine ⟨fun w' => ∃ (lp : Bool) (fin : Int), recV s most = ⟨s.ip, fin, lp, l⟩ ∧ Ob w' b18 (rcC ⟨s.ip, fin, lp, sl⟩) T_api_Recording ∧ w' = w62, ?_, ?_⟩
  · rintro w69 ⟨lp, fin, he, o69, rfl⟩
    refine rdRc o69 (setRc ⟨s.ip, fin, lp, sl⟩ u14 (by decide) rfl rfl fun w74 o74 c74 => rdRc o74 ?_)
    have z74 := c74.size
    have k20z := k20.size
    refine ⟨⟨s.ip, fin, lp, sl⟩, rfl, ?_, k62.trans c74 (fun _ _ h => h) (fun k hk he => by omega)⟩
    rw [he]
    exact ⟨⟨rfl, rfl, rfl⟩, x62.qs c74 (fun he => by have := hslD _ he; omega), fun k hk => by have := hslD k hk; have := lt29 k hk; omega⟩
  refine ⟨sl, u18.cell rfl, brB_of (fun hm => ?_) (fun hm => ?_)⟩
  · have hm : mostN most ≤ l.length := by have := of_decide_eq_true hm; omega
    have hn0 : n = 0 := by omega
    subst hn0
    exact ⟨_, _, by rw [← hrec]; rfl, u18, rfl⟩
  have hm : l.length < mostN most := by have := of_decide_eq_false hm; omega
  obtain ⟨n, rfl⟩ : ∃ m, n = m + 1 := ⟨n - 1, by omega⟩
  refine ⟨lpB s.ip s' l, u18.cell rfl, brB_of (fun hlp => ?_) (fun hlp => ?_)⟩
  · unfold record_Loop_j1
    rw [hlp]
    refine brB_t ⟨true, s'.ip, ?_, by rw [hlp] at u18; exact u18, rfl⟩
    rw [← hrec]; unfold recL; rw [if_pos hlp]
  unfold record_Loop_j1
  unfold NxR at hnx
  have hrl : recL s.ip (n + 1) s' l = match nextV s' with
      | none => ⟨s.ip, s'.ip, false, l⟩
      | some (x, t) => recL s.ip n t (l ++ [x]) := by
    conv => lhs; unfold recL
    rw [if_neg (by rw [hlp]; decide)]
    all_goals (cases nextV s' <;> rfl)
  cases hnv : nextV s' with
  | none =>
    rw [hnv] at hnx hrl
    have hnx : b56 = false := hnx
    rw [hnx]
    refine brB_t ⟨false, s'.ip, ?_, by rw [hlp] at u18; exact u18, rfl⟩
    rw [← hrec, hrl]
  | some p =>
    obtain ⟨v, t⟩ := p
    rw [hnv] at hnx hrl
    obtain ⟨hb, hx, g2⟩ := hnx
    subst hb hx
    refine brB_f ?_
    refine ⟨sl, u18.cell rfl, rdSn u57 ?_⟩
    intro b84 w85 hb84 hw85
    have c85 := al hw85
    have z85 : w85.heap.size = w62.heap.size + 1 := by rw [hw85]; simp
    have l85 : Ow seE w85 ⟨some ⟨b84, 0, none⟩, 1, 1⟩ [x] := by
      rw [hw85, hb84]; exact Ow.lit (E := seE) w62 [x] (seC x) (by simp [fl, seE]) (by show 1 ≤ maxLen; unfold maxLen; omega)
    refine appx_ok seOk rfl rfl (x62.no c85) l85.rd rfl (fun _ => by simp) (by show (_ + 1) * 32 ≤ _; omega) (by show _ + 1 ≤ maxLen; unfold maxLen; omega) ?_
    intro s86 w87 g87 c87 b87 _
    have z87 := c87.size
    have hns : ∀ k, s86.blk = some k → w20.heap.size ≤ k ∧ (sl.blk = some k ∨ w85.heap.size ≤ k) := fun k hk => by
      rcases b87 with hh | hh
      · have hk' : sl.blk = some k := hh ▸ hk
        exact ⟨hslD k hk', Or.inl hk'⟩
      · have := hh k hk; exact ⟨by omega, Or.inr this⟩
    have nsl : ∀ {b : Nat}, b < w20.heap.size → sl.blk ≠ some b := fun hb he => by have := hslD _ he; omega
    have v18 := (u18.no c85).chg c87 (fun he => nsl lt18 he)
    have v12 := (u12.no c85).chg c87 (fun he => nsl lt12 he)
    have v14 := (u14.no c85).chg c87 (fun he => nsl lt14 he)
    have v59 := (o62.no c85).chg c87 (fun he => by have := lt29 _ he; omega)
    refine setRc ⟨s.ip, s'.ip, lpB s.ip s' l, s86⟩ v18 (by decide) rfl rfl fun w88 o88 c88 => rdSt (v59.chg c88 (fun he => by omega)) ?_
    refine setSt S2 (v12.chg c88 (fun he => by omega)) (by decide) rfl rfl fun w99 o99 c99 => ?_
    have d99 : Chg (fun k => (sl.blk = some k ∨ k = b18) ∨ k = b12) w85 w99 := (c87.trans c88 (U := fun k => sl.blk = some k ∨ k = b18) (fun _ _ h => Or.inl h) (fun _ _ h => Or.inr h)).trans c99 (fun _ _ h => Or.inl h) (fun _ _ h => Or.inr h)
    have z99 := d99.size
    have g99 : Ox seE w99 s86 (l ++ [x]) := (g87.qs c88 (fun he => by have := hns _ he; omega)).qs c99 (fun he => by have := hns _ he; omega)
    have k20z := k20.size
    have hlen99 : s86.len = (l ++ [x]).length := g99.rd.len
    have o18' : Ob w99 b18 (rcC ⟨s.ip, s'.ip, lpB s.ip s' l, s86⟩) T_api_Recording := o88.chg c99 (fun he => by omega)
    refine ⟨⟨n, t, S2, s86, l ++ [x], s'.ip, lpB s.ip s' l, ?_, ?_, o99, o18', (v14.chg c88 (fun he => by omega)).chg c99 (fun he => by omega), g99, fun k hk => (hns k hk).1, ?_, fun w'' c'' => ?_, ?_, by omega⟩, ?_⟩
    · rw [← hrec, hrl]
    · rw [List.length_append, List.length_singleton]; omega
    · rw [(nextV_run hnv).2.2.1]; exact mok_adv ok'
    · have e41 : Chg (fun k => ((k = b57 ∨ k = b59) ∨ ((sl.blk = some k ∨ k = b18) ∨ k = b12))) w41 w99 := (((trN c58 c60).trans d62 (U := fun k => k = b57 ∨ k = b59) (fun _ _ h => h.elim) (fun _ _ h => h)).trans c85 (fun _ _ h => h) (fun _ _ h => h.elim)).trans d99 (fun _ _ h => Or.inl h) (fun _ _ h => Or.inr h)
      have g3 := (g2.chg e41 (fun k hk he => by
        rcases he with (he | he) | ((he | he) | he)
        · omega
        · omega
        · have := lt29 k he; omega
        · omega
        · omega)).chg c'' (fun k hk he => by
        rcases he with he | he | he | he
        · omega
        · omega
        · omega
        · have h9 := (hns k he).2
          rcases h9 with h9 | h9
          · have := lt29 k h9; omega
          · omega)
      exact stxA' g3
    · exact (trN k62 c85).trans d99 (fun _ _ h => h) (fun k hk he => by
        rcases he with (he | he) | he
        · have := hslD k he; omega
        · omega
        · omega)
    · show 200 - sliceLen (w99.cell? ⟨b18, 3, none⟩) < 200 - sliceLen (w21.cell? ⟨b18, 3, none⟩)
      have a1 : w99.cell? ⟨b18, 3, none⟩ = some s86.val := o18'.cell rfl
      have a2 : w21.cell? ⟨b18, 3, none⟩ = some sl.val := q18.cell rfl
      rw [a1, a2, sliceLen_val, sliceLen_val, hlen99, List.length_append, List.length_singleton]
      omega
end Go.Proofs.YtkjpmkopnkkbmaaGreatDoor
