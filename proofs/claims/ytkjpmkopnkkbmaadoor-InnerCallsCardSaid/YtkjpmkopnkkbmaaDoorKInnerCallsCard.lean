/- The walk of InnerCallsCard. -/
import Derived.Test.YtkjpmkopnkkbmaaDoorJN

/- InnerFuel, InnerCalls: the walks. -/
set_option maxRecDepth 100000
namespace Go.Proofs.YtkjpmkopnkkbmaaDoor
open Go.RowKit

theorem stxA {D : Nat → Prop} {w : World} {S : StC} {s : StV} (h : StX D w S s) : StIs (fun _ => True) w S s := ⟨h.nums, h.st.rd, h.bk.rd, h.me.rd, fun _ _ => trivial, fun _ _ => trivial, fun _ _ => trivial⟩
theorem runM_st {s : StV} {n : Int} (h : MOk s) : MOk (runM s n).1 := mok_run h n
theorem innerFuel_walk {D : Nat → Prop} {w : World} (S : StC) {s : StV} (h : StIs D w S s) (hg : Gl w) (a b : Int) :
    Calls Tryd.prog fn_hollowaylaw9_InnerFuel #[.agg (stC S).toArray, .int .i64 a, .int .i64 b] w fun e w' => e = .returned (.bool true) ∧ Chg No w w' := by
  refine (hollowaylaw9_InnerFuel_lift (K := fun v w' => v = .bool true ∧ Chg No w w') ?_).mono (by rintro e w' ⟨v, rfl, rfl, h⟩; exact ⟨rfl, h⟩)
  unfold hollowaylaw9_InnerFuel_sh
  refine inSt S fun b13 w14 hb13 z14 o13 c14 => ?_
  refine ⟨fun b' w' => (b' = false → LightS s ∧ 0 ≤ a ∧ 0 ≤ b ∧ a ≤ 200 ∧ b ≤ 200) ∧ Chg No w14 w', ?_, rdSt o13 ?_⟩
  rotate_left
  · refine (light9_any S (h.no c14)).mono ?_
    rintro e w26 ⟨b', rfl, hb, c26⟩
    have yes : (true = false → LightS s ∧ 0 ≤ a ∧ 0 ≤ b ∧ a ≤ 200 ∧ b ≤ 200) ∧ Chg No w14 w26 := ⟨(fun h => by cases h), c26⟩
    refine ⟨b', rfl, brB_of (fun _ => yes) (fun hl => brB_of (fun _ => yes) (fun h1 => brB_of (fun _ => yes) (fun h2 => brB_of (fun _ => yes) (fun h3 => brB_of (fun _ => yes) (fun h4 => ?_)))))⟩
    have hl := hb.1 (by simpa using hl)
    have h1 := of_decide_eq_false h1
    have h2 := of_decide_eq_false h2
    have h3 := of_decide_eq_false h3
    have h4 := of_decide_eq_false h4
    refine (alive9_any (hg.no (trN c14 c26))).mono ?_
    rintro e w29 ⟨rfl, c29⟩
    exact ⟨_, rfl, fun _ => ⟨hl, by omega, by omega, by omega, by omega⟩, trN c26 c29⟩
  rintro b' w31 ⟨hb, c31⟩
  have k31 := trN c14 c31
  refine brB_of (fun _ => ?_) (fun hf => ?_)
  · refine (alive9_any (hg.no k31)).mono ?_
    rintro e w34 ⟨rfl, c34⟩
    exact ⟨_, rfl, rfl, trN k31 c34⟩
  obtain ⟨hL, ha0, hb0, ha1, hb1⟩ := hb hf
  have ok := hL.ok
  obtain ⟨e1, e2, e3, e4⟩ := runM_parts (s := s) ha0 hb0
  have p13 := o13.no c31
  refine rdSt p13 ((irun_any S (h.no k31) ok (hg.no k31) a (by omega)).mono ?_)
  rintro e w47 ⟨S1, rfl, g1, c47⟩
  have k47 := trN k31 c47
  refine ⟨_, _, _, _, _, _, _, _, _, _, _, rfl, varSt S1 fun b59 w61 hb59 z61 o59 c61 => rdSt o59 ?_⟩
  have k61 := trN k47 c61
  rw [wr_in (x := b + (runM s a).2) (by omega), wr_in (x := a + b) (by omega)]
  refine (irun_any S1 (stxA (g1.no c61)) (runM_st ok) (hg.no k61) (b + (runM s a).2) (by omega)).mono ?_
  rintro e w73 ⟨S2, rfl, g2, c73⟩
  have k73 := trN k61 c73
  refine ⟨_, _, _, _, _, _, _, _, _, _, _, rfl, varSt S2 fun b85 w87 hb85 z87 o85 c87 => ?_⟩
  have k87 := trN k73 c87
  have q13 := ((((p13.no c47).no c61).no c73).no c87)
  refine rdSt q13 ((irun_any S (h.no k87) ok (hg.no k87) (a + b) (by omega)).mono ?_)
  rintro e w99 ⟨S3, rfl, g3, c99⟩
  have k99 := trN k87 c99
  refine ⟨_, _, _, _, _, _, _, _, _, _, _, rfl, varSt S3 fun b111 w113 hb111 z113 o111 c113 => ?_⟩
  have k113 := trN k99 c113
  have d113 := trN (trN c87 c99) c113
  have g2' := stxA (g2.no d113)
  rw [e1] at g2' ⊢
  refine rdSt ((o85.no c99).no c113) (rdSt o111 ((sameState_any S2 S3 g2' (stxA (g3.no c113))).mono ?_))
  rintro e w135 ⟨rfl, c135⟩
  have q59 := ((((o59.no c73).no c87).no c99).no c113).no c135
  have k135 := trN k113 c135
  have hst := g1.nums.2.2.2.2.2.1
  refine ⟨_, rfl, brB_t (brB_t' (by simp) ⟨S1.status, q59.cell rfl, brB_of (fun _ => ⟨S1.status, q59.cell rfl, by simp, k135⟩) (fun hm => ⟨?_, k135⟩)⟩)⟩
  have hm : (runM s a).2 ≠ 0 := by simpa using hm
  have : ¬ (S1.status = 0) := fun h0 => hm (e2 (by rw [← hst]; exact h0))
  simp [this]
theorem innerCalls_walk {D : Nat → Prop} {w : World} (S : StC) {s : StV} (h : StIs D w S s) (hg : Gl w) (at_ v : Int) :
    Calls Tryd.prog fn_hollowaylaw9_InnerCalls #[.agg (stC S).toArray, .int .i64 at_, .int .i64 v] w fun e w' => e = .returned (.bool true) ∧ Chg No w w' := by
  refine (hollowaylaw9_InnerCalls_lift (K := fun v w' => v = .bool true ∧ Chg No w w') ?_).mono (by rintro e w' ⟨v, rfl, rfl, h⟩; exact ⟨rfl, h⟩)
  unfold hollowaylaw9_InnerCalls_sh
  have l1 := h.st.len
  have l2 := h.bk.len
  have l3 := h.me.len
  refine inSt S fun b13 w14 hb13 z14 o13 c14 => ?_
  refine ⟨fun b' w' => (b' = false → LightS s ∧ 20 ≤ s.mem.length ∧ s.stack.length < 48 ∧ s.back.length < 48 ∧ 64 ≤ at_ ∧ at_ ≤ (s.mem.length : Int) - 5) ∧ Chg No w14 w', ?_, rdSt o13 ?_⟩
  rotate_left
  · refine (light9_any S (h.no c14)).mono ?_
    rintro e w26 ⟨b', rfl, hb, c26⟩
    have p13 := o13.no c26
    have yes : (true = false → LightS s ∧ 20 ≤ s.mem.length ∧ s.stack.length < 48 ∧ s.back.length < 48 ∧ 64 ≤ at_ ∧ at_ ≤ (s.mem.length : Int) - 5) ∧ Chg No w14 w26 := ⟨(fun h => by cases h), c26⟩
    refine ⟨b', rfl, brB_of (fun _ => yes) (fun hl => ⟨S.mem, p13.cell rfl, brB_of (fun _ => yes) (fun h1 => ⟨S.stack, p13.cell rfl, brB_of (fun _ => yes) (fun h2 => ⟨S.back, p13.cell rfl, brB_of (fun _ => yes) (fun h3 => brB_of (fun _ => yes) (fun h4 => ⟨S.mem, p13.cell rfl, ?_⟩))⟩)⟩)⟩)⟩
    have hl := hb.1 (by simpa using hl)
    have := hl.me
    rw [wr_in (by omega)]
    refine brB_of (fun _ => yes) (fun h5 => brB_of (fun _ => yes) (fun h6 => ?_))
    have h1 := of_decide_eq_false h1
    have h2 := of_decide_eq_false h2
    have h3 := of_decide_eq_false h3
    have h4 := of_decide_eq_false h4
    have h5 := of_decide_eq_false h5
    have h6 := of_decide_eq_false h6
    refine (alive9_any (hg.no (trN c14 c26))).mono ?_
    rintro e w29 ⟨rfl, c29⟩
    exact ⟨_, rfl, fun _ => ⟨hl, by omega, by omega, by omega, by omega, by omega⟩, trN c26 c29⟩
  rintro b' w35 ⟨hb, c35⟩
  have k35 := trN c14 c35
  refine brB_of (fun _ => ?_) (fun hf => ?_)
  · refine (alive9_any (hg.no k35)).mono ?_
    rintro e w34 ⟨rfl, c34⟩
    exact ⟨_, rfl, rfl, trN k35 c34⟩
  obtain ⟨hL, h20, hs48, hb48, h64, hat⟩ := hb hf
  have hme := hL.me
  have p13 := o13.no c35
  refine rdSt p13 ((icopy_any S (h.no k35) (by omega) (by omega) (by omega)).mono ?_)
  rintro e w51 ⟨S1, rfl, g1, c51⟩
  have z51 := c51.size
  refine ⟨_, _, _, _, _, _, _, _, _, _, rfl, varSt S1 fun b62 w64 hb62 z64 o62 c64 => ?_⟩
  have g64 := g1.no c64
  have k64 := trN (trN k35 c51) c64
  have l4 := g64.me.rd.len
  have q13 := (p13.no c51).no c64
  refine ⟨S1.mem, o62.cell rfl, S.mem, q13.cell rfl, brB_of (fun hx => ?_) (fun _ => ?_)⟩
  · rw [l4, l3] at hx; simp at hx
  intro w67 hw67
  have c67 := dw hw67
  have p62 := o62.no c67
  have hbm : ∀ k, S1.mem.blk = some k → w35.heap.size ≤ k ∧ k < w51.heap.size := fun k hk => (g1.meD k hk).1
  have hne : S1.mem.blk ≠ some b62 := fun he => by have := hbm _ he; omega
  have hlt13 := p13.lt
  have hne3 : S1.mem.blk ≠ some b13 := fun he => by have := hbm _ he; omega
  have gm := (g64.no c67).me.ox
  rw [wr_in (x := at_ + 1) (by omega), wr_in (x := at_ + 2) (by omega)]
  refine ⟨fun w' => Ob w' b62 (stC S1) T_api_State, p62, S1.mem, Ob.held (fun w' h => h) rfl, S1.mem, Ob.held (fun w' h => h) rfl, S1.mem, Ob.held (fun w' h => h) rfl, ?_⟩
  refine setOx gm (by omega) (by omega) fun w73 g73 c73 => ⟨p62.chg c73 hne, setOx g73 (by omega) (by rw [List.length_set]; omega) fun w75 g75 c75 => ⟨(p62.chg c73 hne).chg c75 hne, setOx g75 (by omega) (by rw [List.length_set, List.length_set]; omega) fun w77 g77 c77 => ?_⟩⟩
  have r62 := ((p62.chg c73 hne).chg c75 hne).chg c77 hne
  refine ⟨S1.mem, r62.cell rfl, setOx g77 (by decide) (by rw [List.length_set, List.length_set, List.length_set]; omega) fun w80 g80 c80 => ?_⟩
  have d80 : Chg (fun j => S1.mem.blk = some j) w67 w80 := ((c73.trans c75 (fun _ _ h => h) (fun _ _ h => h)).trans c77 (fun _ _ h => h) (fun _ _ h => h)).trans c80 (fun _ _ h => h) (fun _ _ h => h)
  refine setSt { S1 with ip := 0 } (r62.chg c80 hne) (by decide) rfl rfl fun w81 o81 c81 => setSt { S1 with ip := 0, status := 0 } o81 (by decide) rfl rfl fun w82 o82 c82 => ?_
  have d82 : Chg (fun j => j = b62) w80 w82 := c81.trans c82 (fun _ _ h => h) (fun _ _ h => h)
  have e82 : Chg (fun j => S1.mem.blk = some j ∨ j = b62) w67 w82 := d80.trans d82 (fun _ _ h => Or.inl h) (fun _ _ h => Or.inr h)
  have k82 : Chg No w w82 := (trN k64 c67).trans e82 (fun _ _ h => h) (fun k hk he => by
    have := k35.size
    rcases he with he | he
    · have := hbm k he; omega
    · omega)
  obtain ⟨n1, n2, n3, n4, n5, n6, n7⟩ := g1.nums
  obtain ⟨s1, hs1⟩ : ∃ s1 : StV, s1 = { s with ip := 0, status := 0, mem := (((s.mem.set at_.toNat 2).set (at_ + 1).toNat v).set (at_ + 2).toNat 5).set 0 at_ } := ⟨_, rfl⟩
  have hst : StIs (fun _ => True) w82 { S1 with ip := 0, status := 0 } s1 := by
    rw [hs1]
    refine ⟨⟨rfl, n2, n3, n4, n5, rfl, n7⟩, (((g64.no c67).st.chg e82 (fun k hk he => ?_))).rd, ((g64.no c67).bk.chg e82 (fun k hk he => ?_)).rd, (g80.chg d82 (fun k hk he => by have := hbm k hk; omega)).rd, fun _ _ => trivial, fun _ _ => trivial, fun _ _ => trivial⟩
    · rcases he with he | he
      · exact (g1.meD k he).2.1 hk
      · have := g1.stD k hk; omega
    · rcases he with he | he
      · exact (g1.meD k he).2.2 hk
      · have := (g1.bkD k hk).1; omega
  have hm : s1.mem.length = s.mem.length := by rw [hs1]; simp
  have ok0 := hL.ok
  have ok : MOk s1 := ⟨by rw [hs1]; exact ok0.st, by rw [hs1]; exact ok0.bk, by rw [hm]; exact ok0.me, by rw [hs1]; exact ok0.out, by rw [hs1]; exact ok0.rd, by rw [hs1]; exact ok0.inp⟩
  refine rdSt o82 ((irun_any _ hst ok (hg.no k82) 3 (by decide)).mono ?_)
  rintro e w94 ⟨S2, rfl, g2, c94⟩
  have hr := calls_law (s := s) (v := v) h64 hat hs48 hb48
  rw [← hs1] at hr
  have hr := runM_eq hr
  have hr : runM s1 3 = _ := hr
  rw [hr] at g2 ⊢
  refine ⟨_, _, _, _, _, _, _, _, _, _, _, rfl, varSt S2 fun b106 w108 hb106 z108 o106 c108 => ?_⟩
  have g108 := g2.no c108
  obtain ⟨m1, m2, m3, m4, m5, m6, m7⟩ := g2.nums
  have r13 : Ob w108 b13 (stC S) T_api_State := ((((q13.no c67).chg e82 (fun he => by
    rcases he with he | he
    · exact hne3 he
    · have := q13.lt; omega)).no c94).no c108)
  have k108 := trN (trN k82 c94) c108
  have l5 : S2.stack.len = (s.stack ++ [v]).length := g108.st.rd.len
  rw [List.length_append, List.length_singleton] at l5
  refine brB_t' rfl ⟨S2.status, o106.cell rfl, brB_t' (by rw [m6]; rfl) ⟨S2.ip, o106.cell rfl, brB_t' (by rw [m1]; rfl) ⟨S2.stack, o106.cell rfl, S.stack, r13.cell rfl, ?_⟩⟩⟩
  rw [wr_in (by omega)]
  refine brB_t' (by rw [l5, l1]; simp) ⟨S2.stack, o106.cell rfl, S.stack, r13.cell rfl, ?_⟩
  refine g108.st.rd.ix (i := (S.stack.len : Int)) (by omega) (x := v) (by rw [l1, Int.toNat_natCast]; simp) fun a _ hcell => ?_
  have q := hcell 0 _ rfl
  rw [add0] at q
  refine ⟨_, q, brB_t' (by simp) ⟨S2.back, o106.cell rfl, S.back, r13.cell rfl, ?_⟩⟩
  refine (sameInts_ok S2.back S.back s.back w108 g108.bk.rd (h.bk.no k108)).mono ?_
  rintro e w120 ⟨rfl, c120⟩
  exact ⟨_, rfl, rfl, trN k108 c120⟩
end Go.Proofs.YtkjpmkopnkkbmaaDoor
