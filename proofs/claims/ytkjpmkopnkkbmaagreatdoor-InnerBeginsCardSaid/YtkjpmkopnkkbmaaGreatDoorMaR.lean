/- inner.Run: steps as long as there is fuel. -/
import Derived.Test.YtkjpmkopnkkbmaaGreatDoorMaH
import Derived.Test.YtkjpmkopnkkbmaaGreatDoorMaK
set_option maxRecDepth 100000
namespace Go.Proofs.YtkjpmkopnkkbmaaGreatDoor
open Go.RowKit

/-- A machine whose lists may be written: each in a block of its own. -/
structure StX (D : Nat → Prop) (w : World) (S : StC) (s : StV) : Prop where
  nums : StNums S s
  st : Ox intE w S.stack s.stack
  bk : Ox intE w S.back s.back
  me : Ox intE w S.mem s.mem
  stD : ∀ k, S.stack.blk = some k → D k ∧ S.back.blk ≠ some k ∧ S.mem.blk ≠ some k
  bkD : ∀ k, S.back.blk = some k → D k ∧ S.mem.blk ≠ some k
  meD : ∀ k, S.mem.blk = some k → D k
theorem StX.is {D : Nat → Prop} {w : World} {S : StC} {s : StV} (h : StX D w S s) : StIs D w S s := ⟨h.nums, h.st.rd, h.bk.rd, h.me.rd, fun k hk => (h.stD k hk).1, fun k hk => (h.bkD k hk).1, h.meD⟩
theorem StX.chg {D X : Nat → Prop} {w w' : World} {S : StC} {s : StV} (h : StX D w S s) (c : Chg X w w') (hX : ∀ k, D k → ¬ X k) : StX D w' S s :=
  ⟨h.nums, h.st.chg c (fun k hk => hX k (h.stD k hk).1), h.bk.chg c (fun k hk => hX k (h.bkD k hk).1), h.me.chg c (fun k hk => hX k (h.meD k hk)), h.stD, h.bkD, h.meD⟩
theorem StX.no {D : Nat → Prop} {w w' : World} {S : StC} {s : StV} (h : StX D w S s) (c : Chg No w w') : StX D w' S s := h.chg c (fun _ _ h => h)
theorem StX.wid {D C : Nat → Prop} {w : World} {S : StC} {s : StV} (h : StX D w S s) (hd : ∀ k, D k → C k) : StX C w S s :=
  ⟨h.nums, h.st, h.bk, h.me, fun k hk => ⟨hd k (h.stD k hk).1, (h.stD k hk).2⟩, fun k hk => ⟨hd k (h.bkD k hk).1, (h.bkD k hk).2⟩, fun k hk => hd k (h.meD k hk)⟩
theorem MS.stx {D : Nat → Prop} {w : World} {m : Nat} {S : StC} {s : StV} {th : Bool} (h : MS D w m S s th) : StX D w S s :=
  ⟨h.nums, h.st, h.bk, h.me, fun k hk => ⟨(h.dst k hk).1, (h.dst k hk).2.2⟩, fun k hk => ⟨(h.dbk k hk).1, (h.dbk k hk).2.2⟩, fun k hk => (h.dme k hk).1⟩
theorem irun_any {D : Nat → Prop} {w : World} (S : StC) {s : StV} (h : StIs D w S s) (ok : MOk s) (hg : Gl w) (fuel : Int) (hf : fuel ≤ 9223372036854775807) :
    Calls Tryz.prog fn_inner_Run #[.agg (stC S).toArray, .int .i64 fuel] w fun e w' => ∃ S' : StC, e = .returned (.tuple #[.agg (stC S').toArray, .int .i64 (runM s fuel).2]) ∧ StX (fun k => w.heap.size ≤ k ∧ k < w'.heap.size) w' S' (runM s fuel).1 ∧ Chg No w w' := by
  refine (inner_Run_lift (K := fun r w' => ∃ S' : StC, r = .tuple #[.agg (stC S').toArray, .int .i64 (runM s fuel).2] ∧ StX (fun k => w.heap.size ≤ k ∧ k < w'.heap.size) w' S' (runM s fuel).1 ∧ Chg No w w') ?_).mono (by rintro e w' ⟨r, rfl, S', rfl, h⟩; exact ⟨S', rfl, h⟩)
  unfold inner_Run_sh
  have k1 := ok.st
  have k2 := ok.bk
  have k3 := ok.me
  have l0 := hg.lt
  intro b12 w13 hb12 hw13 b14 w15 hb14 hw15
  have c13 := al hw13
  have c15 := al hw15
  have z13 : w13.heap.size = w.heap.size + 1 := by rw [hw13]; simp
  have z15 : w15.heap.size = w13.heap.size + 1 := by rw [hw15]; simp
  have k15 := trN c13 c15
  have o12 : Ob w15 b12 (stC S) T_api_State := by
    have : Ob w13 b12 (stC S) T_api_State := by rw [hw13, hb12]; exact Ob.new w (stC S) T_api_State
    exact this.no c15
  have o14 : Ob w15 b14 (stC st0) T_api_State := by rw [hw15, hb14]; exact Ob.new w13 (stC st0) T_api_State
  refine ⟨_, _, _, _, _, _, _, _, _, _, o12.cell rfl, o12.cell rfl, o12.cell rfl, o12.cell rfl, o12.cell rfl, o12.cell rfl, o12.cell rfl, o12.cell rfl, o12.cell rfl, o12.cell rfl, (icopy_any S (h.no k15) (by omega) (by omega) (by omega)).mono ?_⟩
  rintro e w27 ⟨S1, rfl, h1, c27⟩
  have z27 := c27.size
  refine ⟨_, _, _, _, _, _, _, _, _, _, rfl, ?_⟩
  intro b38 w39 hb38 hw39
  have c39 := al hw39
  have z39 : w39.heap.size = w27.heap.size + 1 := by rw [hw39]; simp
  have o38 : Ob w39 b38 (mcC S1 false) T_inner_machine := by rw [hw39, hb38]; exact Ob.new w27 (mcC S1 false) T_inner_machine
  have k39 := trN (trN k15 c27) c39
  have h39 := h1.no c39
  have ms : MS (fun k => w15.heap.size ≤ k) w39 b38 S1 s false :=
    ⟨o38, h1.nums, h39.st.ox, h39.bk.ox, h39.me.ox, by show w15.heap.size ≤ b38; omega, fun k hk => ⟨(h1.stD k hk).1, by have := (h1.stD k hk).2; omega, fun he => (h1.bkD k he).2 hk, fun he => (h1.meD k he).2.1 hk⟩, fun k hk => ⟨(h1.bkD k hk).1.1, by have := (h1.bkD k hk).1.2; omega, fun he => (h1.meD k he).2.2 hk⟩, fun k hk => ⟨(h1.meD k hk).1.1, by have := (h1.meD k hk).1.2; omega⟩⟩
  refine ⟨fun f w' => ∃ (S' : StC) (s' : StV) (t : Bool), MS (fun k => w15.heap.size ≤ k) w' b38 S' s' t ∧ MOk s' ∧ Chg (fun k => w15.heap.size ≤ k) w15 w' ∧ runM s' f = runM s fuel ∧ f ≤ 9223372036854775807, fun f _ => f.toNat, ⟨S1, s, false, ms, ok, (trN c27 c39).mono (fun _ _ h => h.elim), rfl, hf⟩, ?_⟩
  rintro f w40 ⟨S2, s2, t, g, ok2, c40, hrun, hf2⟩
  have z40 := c40.size
  have kw40 : Chg No w w40 := k15.trans c40 (fun _ _ h => h) (fun k hk he => by have he : w15.heap.size ≤ k := he; omega)
  have fin : s2.status ≠ 0 ∨ f ≤ 0 → inner_Run_j1 b38 (fun f w' => ∃ (S' : StC) (s' : StV) (t : Bool), MS (fun k => w15.heap.size ≤ k) w' b38 S' s' t ∧ MOk s' ∧ Chg (fun k => w15.heap.size ≤ k) w15 w' ∧ runM s' f = runM s fuel ∧ f ≤ 9223372036854775807) f (fun f _ => f.toNat) w40 b14 false w40 (fun r w' => ∃ S' : StC, r = .tuple #[.agg (stC S').toArray, .int .i64 (runM s fuel).2] ∧ StX (fun k => w.heap.size ≤ k ∧ k < w'.heap.size) w' S' (runM s fuel).1 ∧ Chg No w w') := fun hstop => by
    unfold inner_Run_j1
    refine brB_f ?_
    rw [runM_stop hstop] at hrun
    have q14 := o14.chg c40 (fun he => by have he : w15.heap.size ≤ b14 := he; omega)
    refine ⟨_, _, _, _, _, _, _, _, _, _, g.ob.cell rfl, g.ob.cell rfl, g.ob.cell rfl, g.ob.cell rfl, g.ob.cell rfl, g.ob.cell rfl, g.ob.cell rfl, g.ob.cell rfl, g.ob.cell rfl, g.ob.cell rfl, q14.wr (by simp [stC]), fun w59 hw59 => ?_⟩
    obtain ⟨r14, d59⟩ := q14.up (k := 0) (vs := stC S2) (cs' := stC S2) (by simp [stC]) rfl hw59
    have z59 := d59.size
    refine ⟨_, _, _, _, _, _, _, _, _, _, r14.cell rfl, r14.cell rfl, r14.cell rfl, r14.cell rfl, r14.cell rfl, r14.cell rfl, r14.cell rfl, r14.cell rfl, r14.cell rfl, r14.cell rfl, S2, ?_, ?_, kw40.trans d59 (fun _ _ h => h) (fun k hk he => by omega)⟩
    · rw [← hrun]; rfl
    · rw [← hrun]
      have gx := g.stx
      have gy : StX (fun k => w.heap.size ≤ k ∧ k < w40.heap.size ∧ k ≠ b14) w40 S2 s2 :=
        ⟨gx.nums, gx.st, gx.bk, gx.me, fun k hk => ⟨⟨by have : w15.heap.size ≤ k := (gx.stD k hk).1; omega, gx.st.lt k hk, by have : w15.heap.size ≤ k := (gx.stD k hk).1; omega⟩, (gx.stD k hk).2⟩,
          fun k hk => ⟨⟨by have : w15.heap.size ≤ k := (gx.bkD k hk).1; omega, gx.bk.lt k hk, by have : w15.heap.size ≤ k := (gx.bkD k hk).1; omega⟩, (gx.bkD k hk).2⟩, fun k hk => ⟨by have : w15.heap.size ≤ k := gx.meD k hk; omega, gx.me.lt k hk, by have : w15.heap.size ≤ k := gx.meD k hk; omega⟩⟩
      exact (gy.chg d59 (fun k hk he => hk.2.2 he)).wid fun k hk => ⟨hk.1, by omega⟩
  refine ⟨S2.status, g.ob.cell rfl, ?_⟩
  rw [g.nums.2.2.2.2.2.1]
  refine brB_of (fun hs => ?_) (fun hs => ?_)
  · have hs : s2.status = 0 := by simpa using hs
    by_cases hpos : f > 0
    · rw [decide_eq_true hpos]
      unfold inner_Run_j1
      refine brB_t ?_
      refine (madv_any g (fun k hk => by show w15.heap.size ≤ k; omega) ok2 (hg.chg kw40 (fun h => h)) (by show ¬ w15.heap.size ≤ 0; omega)).mono ?_
      rintro e w48 ⟨rfl, S3, t3, g3, c48⟩
      rw [wr_in (by omega)]
      exact ⟨rfl, ⟨S3, _, t3, g3, mok_adv ok2, c40.trans c48 (fun _ _ h => h) (fun _ _ h => h), by rw [← hrun, runM_go hs hpos], by omega⟩, by show (f - 1).toNat < f.toNat; omega⟩
    · rw [decide_eq_false hpos]
      exact fin (Or.inr (by omega))
  · have hs : s2.status ≠ 0 := by simpa using hs
    exact fin (Or.inl hs)
end Go.Proofs.YtkjpmkopnkkbmaaGreatDoor
