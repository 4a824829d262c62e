/- The walk of InnerTalksCard. -/
import Derived.Test.YtkjpmkopnkkbmaaDoorJN

/- InnerFuel, InnerCalls: the walks. -/
set_option maxRecDepth 100000
namespace Go.Proofs.YtkjpmkopnkkbmaaDoor
open Go.RowKit

theorem stxA {D : Nat → Prop} {w : World} {S : StC} {s : StV} (h : StX D w S s) : StIs (fun _ => True) w S s := ⟨h.nums, h.st.rd, h.bk.rd, h.me.rd, fun _ _ => trivial, fun _ _ => trivial, fun _ _ => trivial⟩
theorem runM_st {s : StV} {n : Int} (h : MOk s) : MOk (runM s n).1 := mok_run h n
theorem innerFuel_walk {D : Nat → Prop} {w : World} (S : StC) {s : StV} (h : StIs D w S s) (hg : Gl w) (a b : Int) :
    Calls Tryd.prog fn_hollowaylaw9_InnerFuel #[.agg (stC S).toArray, .int .i64 a, .int .i64 b] w fun e w' => e = .returned (.bool true) ∧ Chg No w w' := by
  refine (hollowaylaw9_InnerFuel_lift (K := fun v w' => v = .bool true ∧ Chg No w w') ?_).mono (by rintro e w' ⟨v, rfl, rfl, h⟩; exact ⟨rfl, h⟩)
  unfold hollowaylaw9_InnerFuel_sh
  refine inSt S fun b13 w14 hb13 z14 o13 c14 => ?_
  refine ⟨fun b' w' => (b' = false → LightS s ∧ 0 ≤ a ∧ 0 ≤ b ∧ a ≤ 200 ∧ b ≤ 200) ∧ Chg No w14 w', ?_, rdSt o13 ?_⟩
  rotate_left
  · refine (light9_any S (h.no c14)).mono ?_
    rintro e w26 ⟨b', rfl, hb, c26⟩
    have yes : (true = false → LightS s ∧ 0 ≤ a ∧ 0 ≤ b ∧ a ≤ 200 ∧ b ≤ 200) ∧ Chg No w14 w26 := ⟨(fun h => by cases h), c26⟩
    refine ⟨b', rfl, brB_of (fun _ => yes) (fun hl => brB_of (fun _ => yes) (fun h1 => brB_of (fun _ => yes) (fun h2 => brB_of (fun _ => yes) (fun h3 => brB_of (fun _ => yes) (fun h4 => ?_)))))⟩
    have hl := hb.1 (by simpa using hl)
    have h1 := of_decide_eq_false h1
    have h2 := of_decide_eq_false h2
    have h3 := of_decide_eq_false h3
    have h4 := of_decide_eq_false h4
    refine (alive9_any (hg.no (trN c14 c26))).mono ?_
    rintro e w29 ⟨rfl, c29⟩
    exact ⟨_, rfl, fun _ => ⟨hl, by omega, by omega, by omega, by omega⟩, trN c26 c29⟩
  rintro b' w31 ⟨hb, c31⟩
  have k31 := trN c14 c31
  refine brB_of (fun _ => ?_) (fun hf => ?_)
  · refine (alive9_any (hg.no k31)).mono ?_
    rintro e w34 ⟨rfl, c34⟩
    exact ⟨_, rfl, rfl, trN k31 c34⟩
  obtain ⟨hL, ha0, hb0, ha1, hb1⟩ := hb hf
  have ok := hL.ok
  obtain ⟨e1, e2, e3, e4⟩ := runM_parts (s := s) ha0 hb0
  have p13 := o13.no c31
  refine rdSt p13 ((irun_any S (h.no k31) ok (hg.no k31) a (by omega)).mono ?_)
  rintro e w47 ⟨S1, rfl, g1, c47⟩
  have k47 := trN k31 c47
  refine ⟨_, _, _, _, _, _, _, _, _, _, _, rfl, varSt S1 fun b59 w61 hb59 z61 o59 c61 => rdSt o59 ?_⟩
  have k61 := trN k47 c61
  rw [wr_in (x := b + (runM s a).2) (by omega), wr_in (x := a + b) (by omega)]
  refine (irun_any S1 (stxA (g1.no c61)) (runM_st ok) (hg.no k61) (b + (runM s a).2) (by omega)).mono ?_
  rintro e w73 ⟨S2, rfl, g2, c73⟩
  have k73 := trN k61 c73
  refine ⟨_, _, _, _, _, _, _, _, _, _, _, rfl, varSt S2 fun b85 w87 hb85 z87 o85 c87 => ?_⟩
  have k87 := trN k73 c87
  have q13 := ((((p13.no c47).no c61).no c73).no c87)
  refine rdSt q13 ((irun_any S (h.no k87) ok (hg.no k87) (a + b) (by omega)).mono ?_)
  rintro e w99 ⟨S3, rfl, g3, c99⟩
  have k99 := trN k87 c99
  refine ⟨_, _, _, _, _, _, _, _, _, _, _, rfl, varSt S3 fun b111 w113 hb111 z113 o111 c113 => ?_⟩
  have k113 := trN k99 c113
  have d113 := trN (trN c87 c99) c113
  have g2' := stxA (g2.no d113)
  rw [e1] at g2' ⊢
  refine rdSt ((o85.no c99).no c113) (rdSt o111 ((sameState_any S2 S3 g2' (stxA (g3.no c113))).mono ?_))
  rintro e w135 ⟨rfl, c135⟩
  have q59 := ((((o59.no c73).no c87).no c99).no c113).no c135
  have k135 := trN k113 c135
  have hst := g1.nums.2.2.2.2.2.1
  refine ⟨_, rfl, brB_t (brB_t' (by simp) ⟨S1.status, q59.cell rfl, brB_of (fun _ => ⟨S1.status, q59.cell rfl, by simp, k135⟩) (fun hm => ⟨?_, k135⟩)⟩)⟩
  have hm : (runM s a).2 ≠ 0 := by simpa using hm
  have : ¬ (S1.status = 0) := fun h0 => hm (e2 (by rw [← hst]; exact h0))
  simp [this]
theorem innerCalls_walk {D : Nat → Prop} {w : World} (S : StC) {s : StV} (h : StIs D w S s) (hg : Gl w) (at_ v : Int) :
    Calls Tryd.prog fn_hollowaylaw9_InnerCalls #[.agg (stC S).toArray, .int .i64 at_, .int .i64 v] w fun e w' => e = .returned (.bool true) ∧ Chg No w w' := by
  refine (hollowaylaw9_InnerCalls_lift (K := fun v w' => v = .bool true ∧ Chg No w w') ?_).mono (by rintro e w' ⟨v, rfl, rfl, h⟩; exact ⟨rfl, h⟩)
  unfold hollowaylaw9_InnerCalls_sh
  have l1 := h.st.len
  have l2 := h.bk.len
  have l3 := h.me.len
  refine inSt S fun b13 w14 hb13 z14 o13 c14 => ?_
  refine ⟨fun b' w' => (b' = false → LightS s ∧ 20 ≤ s.mem.length ∧ s.stack.length < 48 ∧ s.back.length < 48 ∧ 64 ≤ at_ ∧ at_ ≤ (s.mem.length : Int) - 5) ∧ Chg No w14 w', ?_, rdSt o13 ?_⟩
  rotate_left
  · refine (light9_any S (h.no c14)).mono ?_
    rintro e w26 ⟨b', rfl, hb, c26⟩
    have p13 := o13.no c26
    have yes : (true = false → LightS s ∧ 20 ≤ s.mem.length ∧ s.stack.length < 48 ∧ s.back.length < 48 ∧ 64 ≤ at_ ∧ at_ ≤ (s.mem.length : Int) - 5) ∧ Chg No w14 w26 := ⟨(fun h => by cases h), c26⟩
    refine ⟨b', rfl, brB_of (fun _ => yes) (fun hl => ⟨S.mem, p13.cell rfl, brB_of (fun _ => yes) (fun h1 => ⟨S.stack, p13.cell rfl, brB_of (fun _ => yes) (fun h2 => ⟨S.back, p13.cell rfl, brB_of (fun _ => yes) (fun h3 => brB_of (fun _ => yes) (fun h4 => ⟨S.mem, p13.cell rfl, ?_⟩))⟩)⟩)⟩)⟩
    have hl := hb.1 (by simpa using hl)
    have := hl.me
    rw [wr_in (by omega)]
    refine brB_of (fun _ => yes) (fun h5 => brB_of (fun _ => yes) (fun h6 => ?_))
    have h1 := of_decide_eq_false h1
    have h2 := of_decide_eq_false h2
    have h3 := of_decide_eq_false h3
    have h4 := of_decide_eq_false h4
    have h5 := of_decide_eq_false h5
    have h6 := of_decide_eq_false h6
    refine (alive9_any (hg.no (trN c14 c26))).mono ?_
    rintro e w29 ⟨rfl, c29⟩
    exact ⟨_, rfl, fun _ => ⟨hl, by omega, by omega, by omega, by omega, by omega⟩, trN c26 c29⟩
  rintro b' w35 ⟨hb, c35⟩
  have k35 := trN c14 c35
  refine brB_of (fun _ => ?_) (fun hf => ?_)
  · refine (alive9_any (hg.no k35)).mono ?_
    rintro e w34 ⟨rfl, c34⟩
    exact ⟨_, rfl, rfl, trN k35 c34⟩
  obtain ⟨hL, h20, hs48, hb48, h64, hat⟩ := hb hf
  have hme := hL.me
  have p13 := o13.no c35
  refine rdSt p13 ((icopy_any S (h.no k35) (by omega) (by omega) (by omega)).mono ?_)
  rintro e w51 ⟨S1, rfl, g1, c51⟩
  have z51 := c51.size
  refine ⟨_, _, _, _, _, _, _, _, _, _, rfl, varSt S1 fun b62 w64 hb62 z64 o62 c64 => ?_⟩
  have g64 := g1.no c64
  have k64 := trN (trN k35 c51) c64
  have l4 := g64.me.rd.len
  have q13 := (p13.no c51).no c64
  refine ⟨S1.mem, o62.cell rfl, S.mem, q13.cell rfl, brB_of (fun hx => ?_) (fun _ => ?_)⟩
  · rw [l4, l3] at hx; simp at hx
  intro w67 hw67
  have c67 := dw hw67
  have p62 := o62.no c67
  have hbm : ∀ k, S1.mem.blk = some k → w35.heap.size ≤ k ∧ k < w51.heap.size := fun k hk => (g1.meD k hk).1
  have hne : S1.mem.blk ≠ some b62 := fun he => by have := hbm _ he; omega
  have hlt13 := p13.lt
  have hne3 : S1.mem.blk ≠ some b13 := fun he => by have := hbm _ he; omega
  have gm := (g64.no c67).me.ox
  rw [wr_in (x := at_ + 1) (by omega), wr_in (x := at_ + 2) (by omega)]
  refine ⟨fun w' => Ob w' b62 (stC S1) T_api_State, p62, S1.mem, Ob.held (fun w' h => h) rfl, S1.mem, Ob.held (fun w' h => h) rfl, S1.mem, Ob.held (fun w' h => h) rfl, ?_⟩
  refine setOx gm (by omega) (by omega) fun w73 g73 c73 => ⟨p62.chg c73 hne, setOx g73 (by omega) (by rw [List.length_set]; omega) fun w75 g75 c75 => ⟨(p62.chg c73 hne).chg c75 hne, setOx g75 (by omega) (by rw [List.length_set, List.length_set]; omega) fun w77 g77 c77 => ?_⟩⟩
  have r62 := ((p62.chg c73 hne).chg c75 hne).chg c77 hne
  refine ⟨S1.mem, r62.cell rfl, setOx g77 (by decide) (by rw [List.length_set, List.length_set, List.length_set]; omega) fun w80 g80 c80 => ?_⟩
  have d80 : Chg (fun j => S1.mem.blk = some j) w67 w80 := ((c73.trans c75 (fun _ _ h => h) (fun _ _ h => h)).trans c77 (fun _ _ h => h) (fun _ _ h => h)).trans c80 (fun _ _ h => h) (fun _ _ h => h)
  refine setSt { S1 with ip := 0 } (r62.chg c80 hne) (by decide) rfl rfl fun w81 o81 c81 => setSt { S1 with ip := 0, status := 0 } o81 (by decide) rfl rfl fun w82 o82 c82 => ?_
  have d82 : Chg (fun j => j = b62) w80 w82 := c81.trans c82 (fun _ _ h => h) (fun _ _ h => h)
  have e82 : Chg (fun j => S1.mem.blk = some j ∨ j = b62) w67 w82 := d80.trans d82 (fun _ _ h => Or.inl h) (fun _ _ h => Or.inr h)
  have k82 : Chg No w w82 := (trN k64 c67).trans e82 (fun _ _ h => h) (fun k hk he => by
    have := k35.size
    rcases he with he | he
    · have := hbm k he; omega
    · omega)
  obtain ⟨n1, n2, n3, n4, n5, n6, n7⟩ := g1.nums
  obtain ⟨s1, hs1⟩ : ∃ s1 : StV, s1 = { s with ip := 0, status := 0, mem := (((s.mem.set at_.toNat 2).set (at_ + 1).toNat v).set (at_ + 2).toNat 5).set 0 at_ } := ⟨_, rfl⟩
  have hst : StIs (fun _ => True) w82 { S1 with ip := 0, status := 0 } s1 := by
    rw [hs1]
    refine ⟨⟨rfl, n2, n3, n4, n5, rfl, n7⟩, (((g64.no c67).st.chg e82 (fun k hk he => ?_))).rd, ((g64.no c67).bk.chg e82 (fun k hk he => ?_)).rd, (g80.chg d82 (fun k hk he => by have := hbm k hk; omega)).rd, fun _ _ => trivial, fun _ _ => trivial, fun _ _ => trivial⟩
    · rcases he with he | he
      · exact (g1.meD k he).2.1 hk
      · have := g1.stD k hk; omega
    · rcases he with he | he
      · exact (g1.meD k he).2.2 hk
      · have := (g1.bkD k hk).1; omega
  have hm : s1.mem.length = s.mem.length := by rw [hs1]; simp
  have ok0 := hL.ok
  have ok : MOk s1 := ⟨by rw [hs1]; exact ok0.st, by rw [hs1]; exact ok0.bk, by rw [hm]; exact ok0.me, by rw [hs1]; exact ok0.out, by rw [hs1]; exact ok0.rd, by rw [hs1]; exact ok0.inp⟩
  refine rdSt o82 ((irun_any _ hst ok (hg.no k82) 3 (by decide)).mono ?_)
  rintro e w94 ⟨S2, rfl, g2, c94⟩
  have hr := calls_law (s := s) (v := v) h64 hat hs48 hb48
  rw [← hs1] at hr
  have hr := runM_eq hr
  have hr : runM s1 3 = _ := hr
  rw [hr] at g2 ⊢
  refine ⟨_, _, _, _, _, _, _, _, _, _, _, rfl, varSt S2 fun b106 w108 hb106 z108 o106 c108 => ?_⟩
  have g108 := g2.no c108
  obtain ⟨m1, m2, m3, m4, m5, m6, m7⟩ := g2.nums
  have r13 : Ob w108 b13 (stC S) T_api_State := ((((q13.no c67).chg e82 (fun he => by
    rcases he with he | he
    · exact hne3 he
    · have := q13.lt; omega)).no c94).no c108)
  have k108 := trN (trN k82 c94) c108
  have l5 : S2.stack.len = (s.stack ++ [v]).length := g108.st.rd.len
  rw [List.length_append, List.length_singleton] at l5
  refine brB_t' rfl ⟨S2.status, o106.cell rfl, brB_t' (by rw [m6]; rfl) ⟨S2.ip, o106.cell rfl, brB_t' (by rw [m1]; rfl) ⟨S2.stack, o106.cell rfl, S.stack, r13.cell rfl, ?_⟩⟩⟩
  rw [wr_in (by omega)]
  refine brB_t' (by rw [l5, l1]; simp) ⟨S2.stack, o106.cell rfl, S.stack, r13.cell rfl, ?_⟩
  refine g108.st.rd.ix (i := (S.stack.len : Int)) (by omega) (x := v) (by rw [l1, Int.toNat_natCast]; simp) fun a _ hcell => ?_
  have q := hcell 0 _ rfl
  rw [add0] at q
  refine ⟨_, q, brB_t' (by simp) ⟨S2.back, o106.cell rfl, S.back, r13.cell rfl, ?_⟩⟩
  refine (sameInts_ok S2.back S.back s.back w108 g108.bk.rd (h.bk.no k108)).mono ?_
  rintro e w120 ⟨rfl, c120⟩
  exact ⟨_, rfl, rfl, trN k108 c120⟩
end Go.Proofs.YtkjpmkopnkkbmaaDoor

/- A machine with code laid at 200. -/
set_option maxRecDepth 100000
namespace Go.Proofs.YtkjpmkopnkkbmaaDoor
open Go.RowKit

/-- The machine that the statements make: code at 200, such a stack. -/
def plainV (code st bk : List Int) : StV := stk 200 (st.take 40) (bk.take 40) (lay (bootM 400) 200 code)
theorem imin_nat (a b : Nat) : imin (a : Int) (b : Int) = ((min a b : Nat) : Int) := by unfold imin; split <;> omega
theorem take_min (l : List Int) (n : Nat) : l.take (min l.length n) = l.take n := by
  rcases Nat.le_total l.length n with h | h
  · rw [Nat.min_eq_left h, List.take_length, List.take_of_length_le h]
  · rw [Nat.min_eq_right h]
theorem plain9_any {w : World} {cS sS bS : Sl} {code st bk : List Int} (hc : Rd intE w cS code) (hs : Rd intE w sS st) (hb : Rd intE w bS bk) (hn : code.length ≤ 150) :
    Calls Tryd.prog fn_hollowaylaw9_plain #[cS.val, sS.val, bS.val] w fun e w' => ∃ S : StC, e = .returned (.agg (stC S).toArray) ∧ StX (fun k => w.heap.size ≤ k ∧ k < w'.heap.size) w' S (plainV code st bk) ∧ Chg No w w' := by
  refine (hollowaylaw9_plain_lift (K := fun r w' => ∃ S : StC, r = .agg (stC S).toArray ∧ StX (fun k => w.heap.size ≤ k ∧ k < w'.heap.size) w' S (plainV code st bk) ∧ Chg No w w') ?_).mono (by rintro e w' ⟨r, rfl, S, rfl, h⟩; exact ⟨S, rfl, h⟩)
  unfold hollowaylaw9_plain_sh
  have lc := hc.len
  have ls := hs.len
  have lb := hb.len
  have cs := hs.capL
  have cb := hb.capL
  refine inSt st0 fun b4 w5 hb4 z5 o4 c5 => ?_
  refine (r9boot_any 400 (bs []) (M := 400) (by decide +kernel) w5).mono ?_
  rintro e w7 ⟨S0, rfl, g0, c7⟩
  have z7 := c7.size
  have hbm : ∀ k, S0.mem.blk = some k → w5.heap.size ≤ k ∧ k < w7.heap.size := fun k hk => ⟨(g0.meD k hk).1, g0.me.lt hk⟩
  obtain ⟨n1, n2, n3, n4, n5, n6, n7⟩ := g0.nums
  refine ⟨_, _, _, _, _, _, _, _, _, _, rfl, varSt S0 fun b18 w20 hb18 z20 o18 c20 => setSt { S0 with ip := 200 } o18 (by decide) rfl rfl fun w21 o21 c21 => setSt { S0 with ip := 200, status := 0 } o21 (by decide) rfl rfl fun w22 o22 c22 => ?_⟩
  intro w23 hw23
  have c23 := dw hw23
  have d22 : Chg (fun j => j = b18) w20 w22 := c21.trans c22 (fun _ _ h => h) (fun _ _ h => h)
  have z22 := d22.size
  have z23 := c23.size
  have k23 : Chg No w w23 := trN ((trN (trN c5 c7) c20).trans d22 (fun _ _ h => h) (fun k hk he => by omega)) c23
  have hne : S0.mem.blk ≠ some b18 := fun he => by have := hbm _ he; omega
  have m23 : Ox intE w23 S0.mem (bootM 400) := ((g0.me.no c20).ox.chg d22 (fun k hk he => hne (by rw [hk]; exact congrArg some he))).no c23
  have o23 := o22.no c23
  have e1 : imin (sS.len : Int) 40 = ((min st.length 40 : Nat) : Int) := by rw [ls]; exact imin_nat _ 40
  have e2 : imin (bS.len : Int) 40 = ((min bk.length 40 : Nat) : Int) := by rw [lb]; exact imin_nat _ 40
  rw [e1, e2, Int.toNat_natCast, Int.toNat_natCast, sub0, sub0]
  refine ⟨by omega, by omega, by omega, by omega, ?_⟩
  have t1 := hs.take (n := min st.length 40) (by omega)
  have t2 := hb.take (n := min bk.length 40) (by omega)
  rw [take_min] at t1 t2
  refine app_ok intOk (s := nilS) rfl rfl (Ow.nil _ _) (t1.no k23) (by show ([].length + _) * 8 ≤ _; simp [List.length_take]; omega) (by unfold maxLen; simp [List.length_take]; omega) ?_
  intro s24 w25 g24 c24 b24
  have c24 : Chg No w23 w25 := c24.mono (fun k _ hk => by cases hk)
  have hs24 : ∀ k, s24.blk = some k → k = w23.heap.size := fun k hk => by
    rcases b24 with h | h
    · rw [h] at hk; cases hk
    · rw [h] at hk; exact (Option.some.inj hk).symm
  rw [List.nil_append] at g24
  have z25 := c24.size
  refine ⟨trivial, ?_⟩
  refine app_ok intOk (s := nilS) rfl rfl (Ow.nil _ _) ((t2.no k23).no c24) (by show ([].length + _) * 8 ≤ _; simp [List.length_take]; omega) (by unfold maxLen; simp [List.length_take]; omega) ?_
  intro s26 w27 g26 c26 b26
  have c26 : Chg No w25 w27 := c26.mono (fun k _ hk => by cases hk)
  have hs26 : ∀ k, s26.blk = some k → k = w25.heap.size := fun k hk => by
    rcases b26 with h | h
    · rw [h] at hk; cases hk
    · rw [h] at hk; exact (Option.some.inj hk).symm
  rw [List.nil_append] at g26
  have z27 := c26.size
  have l24 : ∀ k, s24.blk = some k → k < w25.heap.size := fun k hk => g24.lt hk
  have l26 : ∀ k, s26.blk = some k → k < w27.heap.size := fun k hk => g26.lt hk
  obtain ⟨S1, hS1⟩ : ∃ S1 : StC, S1 = { S0 with ip := 200, status := 0, stack := s24, back := s26 } := ⟨_, rfl⟩
  refine ⟨trivial, setSt { S0 with ip := 200, status := 0, stack := s24 } ((o23.no c24).no c26) (by decide) rfl rfl fun w28 o28 c28 => setSt S1 o28 (by decide) rfl (by rw [hS1]; rfl) fun w29 o29 c29 => ?_⟩
  have hmem : S1.mem = S0.mem := by rw [hS1]
  have d29 : Chg (fun j => j = b18) w27 w29 := c28.trans c29 (fun _ _ h => h) (fun _ _ h => h)
  have z29 := d29.size
  have k29 : Chg No w w29 := (trN (trN k23 c24) c26).trans d29 (fun _ _ h => h) (fun k hk he => by omega)
  have m29 : Ox intE w29 S0.mem (bootM 400) := ((m23.no c24).no c26).chg d29 (fun k hk he => hne (by rw [hk]; exact congrArg some he))
  have hl400 := bootM_len 400
  refine ⟨fun n w' => ∃ j : Nat, n = j ∧ j ≤ code.length ∧ Ox intE w' S0.mem (lay (bootM 400) 200 (code.take j)) ∧ Chg (fun x => S0.mem.blk = some x) w29 w', fun n _ => code.length - n.toNat, ⟨0, rfl, Nat.zero_le _, by rw [List.take_zero, lay_nil]; exact m29, Chg.refl _ _⟩, ?_⟩
  rintro n w30 ⟨j, rfl, hj, g30, c30⟩
  have k30 : Chg No w w30 := k29.trans c30 (fun _ _ h => h) (fun k hk he => by have := hbm k he; omega)
  have o30 := o29.chg c30 hne
  refine brB_of (fun hlt => ?_) (fun hge => ?_)
  · have hlt : j < code.length := by have := of_decide_eq_true hlt; omega
    unfold hollowaylaw9_plain_j1
    refine brB_t' (decide_eq_true (by omega)) ?_
    intro w36 hw36
    have c36 := dw hw36
    refine ⟨S1.mem, held_Lw ((o30.no c36).cell rfl), ?_⟩
    rw [hmem]
    refine ((hc.no k30).no c36).ix (i := (j : Int)) (by omega) (x := code[j]) (by rw [Int.toNat_natCast]; exact List.getElem?_eq_getElem hlt) fun a _ hcell => ?_
    have q := hcell 0 _ rfl
    rw [add0] at q
    refine ⟨_, held_Lw q, ?_⟩
    rw [wr_in (x := 200 + (j : Int)) (by omega), wr_in (x := (j : Int) + 1) (by omega)]
    have hll : (lay (bootM 400) 200 (code.take j)).length = 400 := by rw [lay_len (by rw [List.length_take, hl400]; omega), hl400]
    refine setOx (g30.no c36) (by omega) (by rw [hll]; omega) fun w41 g41 c41 => ⟨⟨j + 1, by omega, by omega, ?_, (c30.trans c36 (fun _ _ h => h) (fun _ _ h => h.elim)).trans c41 (fun _ _ h => h) (fun _ _ h => h)⟩, by show code.length - Int.toNat ((j : Int) + 1) < code.length - Int.toNat (j : Int); omega⟩
    have e5 : (200 + (j : Int)).toNat = 200 + (code.take j).length := by rw [List.length_take]; omega
    rw [e5, lay_snoc (by rw [List.length_take, hl400]; omega)] at g41
    rw [← List.take_append_getElem hlt]
    exact g41
  · have hge : j = code.length := by have := of_decide_eq_false hge; omega
    subst hge
    rw [List.take_length] at g30
    unfold hollowaylaw9_plain_j1
    refine brB_f (rdSt o30 ?_)
    have q4 : Ob w30 b4 (stC st0) T_api_State := ((((((o4.no c7).no c20).chg d22 (fun he => by omega)).no c23).no c24).no c26).chg (d29.trans c30 (U := fun j => j = b18 ∨ S0.mem.blk = some j) (fun _ _ h => Or.inl h) (fun _ _ h => Or.inr h)) (fun he => by
      rcases he with he | he
      · omega
      · have := hbm _ he; omega)
    have z30 := c30.size
    refine setSt S1 q4 (by decide) rfl rfl fun w52 o52 c52 => rdSt o52 ?_
    have z52 := c52.size
    have d52 : Chg (fun j => (j = b18 ∨ j = b4) ∨ S0.mem.blk = some j) w27 w52 := (d29.trans c30 (U := fun j => (j = b18 ∨ j = b4) ∨ S0.mem.blk = some j) (fun _ _ h => Or.inl (Or.inl h)) (fun _ _ h => Or.inr h)).trans c52 (fun _ _ h => h) (fun _ _ h => Or.inl (Or.inr h))
    refine ⟨S1, rfl, ⟨?_, ?_, ?_, ?_, fun k hk => ?_, fun k hk => ?_, fun k hk => ?_⟩, k30.trans c52 (fun _ _ h => h) (fun k hk he => by omega)⟩
    · rw [hS1]; exact ⟨rfl, n2, n3, n4, n5, rfl, n7⟩
    · rw [hS1]
      exact (g24.no c26).ox.chg d52 (fun k hk he => by
        have := hs24 k hk
        rcases he with he | he
        · omega
        · have := hbm _ he; omega)
    · rw [hS1]
      exact g26.ox.chg d52 (fun k hk he => by
        have := hs26 k hk
        rcases he with he | he
        · omega
        · have := hbm _ he; omega)
    · rw [hmem]; exact g30.qs c52 (fun he => by have := hbm _ he; omega)
    · rw [hS1] at hk ⊢
      have h1 := hs24 k hk
      have h2 := l24 k hk
      exact ⟨by omega, fun he => by have := hs26 k he; have := l26 k he; have := g24.lt hk; omega, fun he => by have := hbm k he; omega⟩
    · rw [hS1] at hk ⊢
      have h1 := hs26 k hk
      have h2 := l26 k hk
      exact ⟨by omega, fun he => by have := hbm k he; omega⟩
    · rw [hS1] at hk
      have := hbm k hk; omega
theorem plain_ok {code st bk : List Int} (h : code.length ≤ 200) : MOk (plainV code st bk) := by
  refine ⟨?_, ?_, ?_, by show 0 ≤ 2000; omega, ⟨by show (0 : Int) ≤ 0; omega, by show (0 : Int) ≤ _; exact Int.natCast_nonneg _⟩, by show 0 ≤ _; omega⟩
  · show (st.take 40).length ≤ 48; rw [List.length_take]; omega
  · show (bk.take 40).length ≤ 48; rw [List.length_take]; omega
  · show (lay (bootM 400) 200 code).length ≤ 3000; rw [lay_len (by rw [bootM_len]; omega), bootM_len]; omega
theorem plain_has {code : List Int} (h : code.length ≤ 200) : HasC (lay (bootM 400) 200 code) 200 code := has_lay (at_ := 200) (by rw [bootM_len]; omega)
end Go.Proofs.YtkjpmkopnkkbmaaDoor

/- InnerFaults, InnerMemory: the walks. -/
set_option maxRecDepth 100000
namespace Go.Proofs.YtkjpmkopnkkbmaaDoor
open Go.RowKit

theorem brB_f'' {b : Bool} {P Q : Prop} (h : b = false) (q : Q) : brB b P Q := by rw [h]; exact brB_f q
theorem runM_one {s : StV} (hs : s.status = 0) : (runM s 1).1 = mAdv s := by
  have := runM_eq (s := s) (k := 1) (s' := mAdv s) (m := 0) (by rw [mRun_go 0 hs rfl]; rfl)
  rw [show ((1 : Nat) : Int) = 1 from rfl] at this
  rw [this]
theorem runM_off {s : StV} (hs : s.status ≠ 0) (n : Int) : (runM s n).1 = s := by rw [runM_stop (Or.inl hs)]
theorem litRd {w : World} (xs : List Int) (cs : List Value) (hcs : cs = fl intE xs) {n : Nat} (hn : n = xs.length) (hl : xs.length ≤ 100) {G : Nat → World → Prop} (k : ∀ b w', Rd intE w' ⟨some ⟨b, 0, none⟩, n, n⟩ xs → b = w.heap.size → Chg No w w' → G b w') :
    ∀ (b : Nat) (w' : World), b = w.heap.size → w' = World.alloc w (.cells cs.toArray T_int) → G b w' := fun b w' hb hw => by
  subst hn
  obtain ⟨g, c⟩ := litL xs cs hcs hb hw hl
  exact k b w' g.rd hb c
theorem innerFaults_walk {w : World} (hg : Gl w) (op : Int) {sS bS : Sl} {st bk : List Int} (hs : Rd intE w sS st) (hb : Rd intE w bS bk) :
    Calls Tryd.prog fn_hollowaylaw9_InnerFaults #[.int .i64 op, sS.val, bS.val] w fun e w' => e = .returned (.bool true) ∧ Chg No w w' := by
  refine (hollowaylaw9_InnerFaults_lift (K := fun v w' => v = .bool true ∧ Chg No w w') ?_).mono (by rintro e w' ⟨v, rfl, rfl, h⟩; exact ⟨rfl, h⟩)
  unfold hollowaylaw9_InnerFaults_sh
  have yes : ∀ {w' : World}, Chg No w w' → (true = false → 0 ≤ op ∧ op < 48) ∧ Chg No w w' := fun c => ⟨(fun h => by cases h), c⟩
  refine ⟨fun b' w' => (b' = false → 0 ≤ op ∧ op < 48) ∧ Chg No w w', ?_, brB_of (fun _ => yes (Chg.refl _ _)) (fun h1 => brB_of (fun _ => yes (Chg.refl _ _)) (fun h2 => ?_))⟩
  rotate_left
  · have h1 := of_decide_eq_false h1
    have h2 := of_decide_eq_false h2
    refine (alive9_any hg).mono ?_
    rintro e w5 ⟨rfl, c5⟩
    exact ⟨_, rfl, fun _ => ⟨by omega, by omega⟩, c5⟩
  rintro b' w7 ⟨hb', c7⟩
  refine brB_of (fun _ => ?_) (fun hf => ?_)
  · refine (alive9_any (hg.no c7)).mono ?_
    rintro e w10 ⟨rfl, c10⟩
    exact ⟨_, rfl, rfl, trN c7 c10⟩
  obtain ⟨h0, h48⟩ := hb' hf
  refine litRd [op, 7] _ rfl rfl (by simp) fun b12 w13 l13 hb12 c13 => ?_
  have k13 := trN c7 c13
  refine (plain9_any l13 (hs.no k13) (hb.no k13) (by simp)).mono ?_
  rintro e w15 ⟨S0, rfl, g0, c15⟩
  have k15 := trN k13 c15
  refine ⟨_, _, _, _, _, _, _, _, _, _, rfl, varSt S0 fun b26 w28 hb26 z28 o26 c28 => rdSt o26 ?_⟩
  have k28 := trN k15 c28
  obtain ⟨s, hsv⟩ : ∃ s, s = plainV [op, 7] st bk := ⟨_, rfl⟩
  rw [← hsv] at g0
  have ok : MOk s := by rw [hsv]; exact plain_ok (by simp)
  have hst : s.status = 0 := by rw [hsv]; rfl
  have hhd : s.handler < 3 := by rw [hsv]; show (0 : Int) < 3; omega
  have hcell : getI s.mem s.ip = op := by
    rw [hsv]; exact (plain_has (code := [op, 7]) (by simp)).1.2.2
  refine (istep_any S0 (stxA (g0.no c28)) ok (hg.no k28)).mono ?_
  rintro e w40 ⟨S1, rfl, g1, c40⟩
  rw [runM_one hst] at g1
  have k40 := trN k28 c40
  refine ⟨_, _, _, _, _, _, _, _, _, _, rfl, varSt S1 fun b51 w53 hb51 z53 o51 c53 => ?_⟩
  have k53 := trN k40 c53
  have p26 := (o26.no c40).no c53
  have gs0 := stxA (g0.no (trN (trN c28 c40) c53))
  have gs1 := stxA (g1.no c53)
  obtain ⟨m1, m2, m3, m4, m5, m6, m7⟩ := g1.nums
  obtain ⟨n1, n2, n3, n4, n5, n6, n7⟩ := g0.nums
  have hrs := mAdv_rs hhd hst
  rw [hcell] at hrs
  refine ⟨S1.status, o51.cell rfl, brB_of (fun hx => ⟨S1.status, o51.cell rfl, brB_of (fun _ => ⟨rfl, k53⟩) (fun hy => ⟨?_, k53⟩)⟩) (fun hx => ?_)⟩
  · have hx : S1.status ≠ 2 := by simpa using hx
    have hy : S1.status ≠ 0 := by simpa using hy
    rcases hrs with (h | h) | ⟨c, h, _⟩ | ⟨_, _, h, _⟩
    · exact absurd (m6.trans h) hy
    · rw [h.1]; rfl
    · rw [m6, h] at hx; exact absurd rfl hx
    · rw [m6, h] at hx; exact absurd rfl hx
  have hx : S1.status = 2 := by simpa using hx
  refine rdSt o51 (varSt S1 fun b68 w70 hb68 z70 o68 c70 => ?_)
  intro w71 hw71
  have c71 := dw hw71
  have k71 := trN (trN k53 c70) c71
  have q68 := o68.no c71
  have q26 := (p26.no c70).no c71
  have q51 := (o51.no c70).no c71
  have n26 : b26 ≠ b68 := by have := p26.lt; omega
  have n51 : b51 ≠ b68 := by have := o51.lt; omega
  refine ⟨fun w' => Ob w' b26 (stC S0) T_api_State ∧ Ob w' b51 (stC S1) T_api_State, ⟨q26, q51⟩, S0.status, Ob.held (fun w' h => h.1) rfl, S0.code, Ob.held (fun w' h => h.1) rfl, ?_⟩
  refine setSt { S1 with status := S0.status } q68 (by decide) rfl rfl fun w75 o75 c75 => ⟨⟨q26.chg c75 n26, q51.chg c75 n51⟩, setSt { S1 with status := S0.status, code := S0.code } o75 (by decide) rfl rfl fun w76 o76 c76 => ?_⟩
  have d76 : Chg (fun j => j = b68) w71 w76 := c75.trans c76 (fun _ _ h => h) (fun _ _ h => h)
  have z71 := c71.size
  have k76 : Chg No w w76 := k71.trans d76 (fun _ _ h => h) (fun k hk he => by have := k53.size; omega)
  have r26 := q26.chg d76 n26
  have r51 := q51.chg d76 n51
  have z53' := c53.size
  have d5376 : Chg No w53 w76 := (trN c70 c71).trans d76 (fun _ _ h => h) (fun k hk he => by omega)
  have gs0 := gs0.no d5376
  have gs1 := gs1.no d5376
  refine brB_of (fun h45 => ?_) (fun h45 => ?_)
  · have h45 : op = 45 := by simpa using h45
    intro w77 hw77
    have c77 := dw hw77
    have k77 := trN k76 c77
    have t26 := r26.no c77
    have t51 := r51.no c77
    have gt := gs0.no c77
    have l0 := gt.st.len
    have lc := gt.st.capL
    -- what the step was
    have hcase : (s.stack.length = 0 ∧ S1.code = -4) ∨ (0 < s.stack.length ∧ S1.code = topV s ∧ topV s ≠ 0) := by
      rcases hrs with (h | h) | ⟨c, h, hc1, hc2, hb2⟩ | ⟨_, hl1, h, hz⟩
      · rw [m6, h] at hx; exact absurd hx (by decide)
      · rw [h45] at h; exact absurd h.1 (by decide)
      · by_cases hl : s.stack.length = 0
        · refine Or.inl ⟨hl, ?_⟩
          rw [m7, h]
          show c = -4
          have hr4 : mStep s = .bad (-4) false := by
            have hin := (plain_has (code := [op, 7]) (by simp)).1
            unfold mStep
            rw [hcell, h45]
            have e1 : s.ip = 200 := by rw [hsv]; rfl
            have e2 : (s.mem.length : Int) = 400 := by rw [hsv]; show ((lay (bootM 400) 200 [op, 7]).length : Int) = 400; rw [lay_len (by rw [bootM_len]; simp), bootM_len]; rfl
            rw [if_neg (by omega), if_neg (by decide), if_neg (by decide), if_neg (by intro hh; cases hh.1)]
            have e3 : mRoom s 45 = -4 := by
              unfold mRoom
              have : (opRow 45).takes = 1 := rfl
              rw [this, if_pos (by omega)]
            rw [e3, if_pos (by decide)]
          rw [hr4] at hb2
          injection hb2 with h1 h2
          omega
        · exfalso
          have hin := (plain_has (code := [op, 7]) (by simp)).1
          have e1 : s.ip = 200 := by rw [hsv]; rfl
          have e2 : (s.mem.length : Int) = 400 := by rw [hsv]; show ((lay (bootM 400) 200 [op, 7]).length : Int) = 400; rw [lay_len (by rw [bootM_len]; simp), bootM_len]; rfl
          have hk1 := ok.st
          have hk2 := ok.bk
          have e5 := mStep_op (s := s) 45 1 0 0 0 ⟨rfl, rfl, rfl, rfl⟩ (by decide) (by omega) (by omega) (by rw [hcell, h45]) (fun h => by cases h) ⟨by omega, by omega, by omega, by omega⟩
          rw [e5] at hb2
          unfold mDo mFlow at hb2
          simp only [] at hb2
          by_cases hz : topV { s with ip := mNext s 45 } = 0
          · simp [hz] at hb2
          · simp [hz] at hb2
      · exact Or.inr ⟨by omega, by rw [m7, h], hz⟩
    refine ⟨S0.stack, held_Lw (t26.cell rfl), brB_of (fun hl => ?_) (fun hl => ?_)⟩
    · have hl : s.stack.length = 0 := by rw [l0] at hl; simpa using hl
      rcases hcase with ⟨_, hc⟩ | ⟨hp, _⟩
      · exact ⟨S1.code, held_Lw (t51.cell rfl), brB_t' (by rw [hc]; rfl) ⟨rfl, k77⟩⟩
      · omega
    · have hl : s.stack.length ≠ 0 := by rw [l0] at hl; simpa using hl
      rcases hcase with ⟨hp, _⟩ | ⟨hp, hc, hz⟩
      · omega
      refine ⟨S0.stack, held_Lw (t26.cell rfl), brB_t' (decide_eq_true (by omega)) ⟨S1.code, held_Lw (t51.cell rfl), S0.stack, held_Lw (t26.cell rfl), S0.stack, held_Lw (t26.cell rfl), ?_⟩⟩
      have := ok.st
      rw [wr_in (by omega)]
      refine gt.st.ix (i := (S0.stack.len : Int) - 1) (by omega) (x := topV s) (by rw [l0]; exact getI_last (by omega)) fun a _ hcl => ?_
      have q := hcl 0 _ rfl
      rw [add0] at q
      refine ⟨_, held_Lw q, brB_t' (by rw [hc]; simp) ⟨S1.code, held_Lw (t51.cell rfl), ?_, k77⟩⟩
      rw [hc]; simp [hz]
  · have h45 : op ≠ 45 := by simpa using h45
    obtain ⟨c, hadv, hc1, hc2⟩ : ∃ c, mAdv s = { s with status := 2, code := c } ∧ -57 ≤ c ∧ c < 0 := by
      rcases hrs with (h | h) | ⟨c, h, hc1, hc2, _⟩ | ⟨h, _⟩
      · rw [m6, h] at hx; exact absurd hx (by decide)
      · exact absurd (m6.symm.trans hx) h.2
      · exact ⟨c, h, hc1, hc2⟩
      · exact absurd h h45
    intro w96 hw96
    have c96 := dw hw96
    have k96 := trN k76 c96
    have q68 := o76.no c96
    have t26 := r26.no c96
    have t51 := r51.no c96
    have gt0 := gs0.no c96
    have gt1 := gs1.no c96
    rw [hadv] at gt1 m7
    have h68 : ∀ {j : Nat} {u : Value}, (stC { S1 with status := S0.status, code := S0.code })[j]? = some u → held (fun w' => Chg No w96 w') ⟨b68, j, none⟩ u := fun h => Ob.held (fun w' c => q68.no c) h
    have h26 : ∀ {j : Nat} {u : Value}, (stC S0)[j]? = some u → held (fun w' => Chg No w96 w') ⟨b26, j, none⟩ u := fun h => Ob.held (fun w' c => t26.no c) h
    have h51 : ∀ {j : Nat} {u : Value}, (stC S1)[j]? = some u → held (fun w' => Chg No w96 w') ⟨b51, j, none⟩ u := fun h => Ob.held (fun w' c => t51.no c) h
    refine ⟨fun w' => Chg No w96 w', Chg.refl _ _, _, _, _, _, _, _, _, _, _, _, h68 rfl, h68 rfl, h68 rfl, h68 rfl, h68 rfl, h68 rfl, h68 rfl, h68 rfl, h68 rfl, h68 rfl, _, _, _, _, _, _, _, _, _, _, h26 rfl, h26 rfl, h26 rfl, h26 rfl, h26 rfl, h26 rfl, h26 rfl, h26 rfl, h26 rfl, h26 rfl, ?_⟩
    have gu : StIs (fun _ => True) w96 { S1 with status := S0.status, code := S0.code } s := by
      obtain ⟨u1, u2, u3, u4, u5, _, _⟩ := gt1.nums
      exact ⟨⟨u1, u2, u3, u4, u5, n6, n7⟩, gt1.st, gt1.bk, gt1.me, gt1.stD, gt1.bkD, gt1.meD⟩
    refine (sameState_any { S1 with status := S0.status, code := S0.code } S0 gu gt0).mono ?_
    rintro e w119 ⟨rfl, c119⟩
    refine ⟨_, rfl, c119, brB_t ⟨S1.code, h51 rfl, brB_t' (decide_eq_true (by rw [m7]; exact hc2)) ⟨S1.code, h51 rfl, brB_t' (decide_eq_true (by rw [m7]; exact hc1)) ⟨_, _, _, _, _, _, _, _, _, _, h51 rfl, h51 rfl, h51 rfl, h51 rfl, h51 rfl, h51 rfl, h51 rfl, h51 rfl, h51 rfl, h51 rfl, _, _, _, _, _, _, _, _, _, _, h51 rfl, h51 rfl, h51 rfl, h51 rfl, h51 rfl, h51 rfl, h51 rfl, h51 rfl, h51 rfl, h51 rfl, ?_⟩⟩⟩⟩
    have k119 := trN k96 c119
    have ok2 : MOk { s with status := 2, code := c } := ⟨ok.st, ok.bk, ok.me, ok.out, ok.rd, ok.inp⟩
    refine (istep_any S1 (gt1.no c119) ok2 (hg.no k119)).mono ?_
    rintro e w144 ⟨S2, rfl, g2, c144⟩
    rw [runM_off (by show (2 : Int) ≠ 0; decide)] at g2
    refine ⟨_, _, _, _, _, _, _, _, _, _, rfl, trN c119 c144, ?_⟩
    refine (sameState_any S2 S1 (stxA g2) ((gt1.no c119).no c144)).mono ?_
    rintro e w156 ⟨rfl, c156⟩
    exact ⟨_, rfl, rfl, trN (trN k119 c144) c156⟩
theorem innerMemory_walk {w : World} (hg : Gl w) (at_ v n : Int) (hv : -9223372036854775808 ≤ v ∧ v ≤ 9223372036854775807) :
    Calls Tryd.prog fn_hollowaylaw9_InnerMemory #[.int .i64 at_, .int .i64 v, .int .i64 n] w fun e w' => e = .returned (.bool true) ∧ Chg No w w' := by
  refine (hollowaylaw9_InnerMemory_lift (K := fun v w' => v = .bool true ∧ Chg No w w') ?_).mono (by rintro e w' ⟨v, rfl, rfl, h⟩; exact ⟨rfl, h⟩)
  unfold hollowaylaw9_InnerMemory_sh
  have yes : ∀ {w' : World}, Chg No w w' → (true = false → 0 ≤ at_ ∧ at_ < 400 ∧ ¬ (200 ≤ at_ ∧ at_ < 220)) ∧ Chg No w w' := fun c => ⟨(fun h => by cases h), c⟩
  refine ⟨fun b' w' => (b' = false → 0 ≤ at_ ∧ at_ < 400 ∧ ¬ (200 ≤ at_ ∧ at_ < 220)) ∧ Chg No w w', ?_, brB_of (fun _ => yes (Chg.refl _ _)) (fun h1 => brB_of (fun _ => yes (Chg.refl _ _)) (fun h2 => brB_of (fun h3 => brB_of (fun _ => yes (Chg.refl _ _)) (fun h4 => ?_)) (fun h3 => ?_)))⟩
  rotate_left
  · have h1 := of_decide_eq_false h1
    have h2 := of_decide_eq_false h2
    have h4 := of_decide_eq_false h4
    refine (alive9_any hg).mono ?_
    rintro e w5 ⟨rfl, c5⟩
    exact ⟨_, rfl, fun _ => ⟨by omega, by omega, by omega⟩, c5⟩
  · have h1 := of_decide_eq_false h1
    have h2 := of_decide_eq_false h2
    have h3 := of_decide_eq_false h3
    refine (alive9_any hg).mono ?_
    rintro e w5 ⟨rfl, c5⟩
    exact ⟨_, rfl, fun _ => ⟨by omega, by omega, by omega⟩, c5⟩
  rintro b' w10 ⟨hb', c10⟩
  refine brB_of (fun _ => ?_) (fun hf => ?_)
  · refine (alive9_any (hg.no c10)).mono ?_
    rintro e w13 ⟨rfl, c13⟩
    exact ⟨_, rfl, rfl, trN c10 c13⟩
  obtain ⟨h0, h400, hno⟩ := hb' hf
  obtain ⟨code, hcode⟩ : ∃ code, code = [2, v, 2, at_, 31, 2, n, 2, at_, 32, 2, at_, 30, 47] := ⟨_, rfl⟩
  refine litRd code _ (by subst hcode; rfl) (by subst hcode; rfl) (by rw [hcode]; simp) fun b15 w16 l16 hb15 c16 => ?_
  have k16 := trN c10 c16
  refine (plain9_any (sS := nilS) (bS := nilS) l16 (Rd.nil _ _) (Rd.nil _ _) (by rw [hcode]; simp)).mono ?_
  rintro e w18 ⟨S0, rfl, g0, c18⟩
  have k18 := trN k16 c18
  have hcl : code.length = 14 := by rw [hcode]; rfl
  refine ⟨_, _, _, _, _, _, _, _, _, _, rfl, varSt S0 fun b29 w31 hb29 z31 o29 c31 => rdSt o29 ?_⟩
  have k31 := trN k18 c31
  have ok : MOk (plainV code [] []) := plain_ok (by omega)
  obtain ⟨M, hM⟩ : ∃ M, M = lay (bootM 400) 200 code := ⟨_, rfl⟩
  have hml : M.length = 400 := by rw [hM, lay_len (by rw [bootM_len]; omega), bootM_len]
  have hpl : plainV code [] [] = stk 200 [] [] M := by rw [hM]; rfl
  rw [hpl] at g0 ok
  have hhas : HasC M 200 ([2, v, 2, at_, 31, 2, n, 2, at_, 32, 2, at_, 30] ++ [47]) := by
    have := plain_has (code := code) (by omega)
    rw [← hM, hcode] at this; exact this
  have hlaw := memory_law hv (has_app hhas).1 h0 (by omega) hno
  have hr := runM_eq hlaw
  have hr : runM (stk 200 [] [] M) 8 = (stk 213 [wr (v + n)] [] (M.set at_.toNat (wr (v + n))), 0) := hr
  refine (irun_any S0 (stxA (g0.no c31)) ok (hg.no k31) 8 (by decide)).mono ?_
  rintro e w43 ⟨S1, rfl, g1, c43⟩
  rw [hr] at g1 ⊢
  have k43 := trN k31 c43
  refine ⟨_, _, _, _, _, _, _, _, _, _, _, rfl, varSt S1 fun b55 w57 hb55 z57 o55 c57 => ?_⟩
  have k57 := trN k43 c57
  have p29 := (o29.no c43).no c57
  have gs0 := stxA (g0.no (trN (trN c31 c43) c57))
  have gs1 := stxA (g1.no c57)
  obtain ⟨m1, m2, m3, m4, m5, m6, m7⟩ := g1.nums
  have l1 : S1.stack.len = 1 := gs1.st.len
  have lm0 : S0.mem.len = M.length := gs0.me.len
  have lm1 : S1.mem.len = (M.set at_.toNat (wr (v + n))).length := gs1.me.len
  rw [List.length_set] at lm1
  refine ⟨fun b w' => b = false ∧ w' = w57, ?_, S1.stack, o55.cell rfl, brB_f'' (by rw [l1]; rfl) ⟨S1.stack, o55.cell rfl, ?_⟩⟩
  rotate_left
  · refine gs1.st.ix (i := 0) (by decide) (x := wr (v + n)) rfl fun a _ hcell => ?_
    have q := hcell 0 _ rfl
    rw [add0] at q
    exact ⟨_, q, brB_f'' (by simp) ⟨S1.mem, o55.cell rfl, S0.mem, p29.cell rfl, by rw [lm0, lm1]; simp, rfl⟩⟩
  rintro b w64 ⟨rfl, rfl⟩
  refine brB_f ?_
  refine ⟨fun k w' => ∃ j : Nat, k = j ∧ j ≤ 400 ∧ Chg No w64 w', fun k _ => 400 - k.toNat, ⟨0, rfl, by omega, Chg.refl _ _⟩, ?_⟩
  rintro k w66 ⟨j, rfl, hj, c66⟩
  have q29 := p29.no c66
  have q55 := o55.no c66
  refine ⟨S0.mem, q29.cell rfl, brB_of (fun hlt => ?_) (fun hge => ?_)⟩
  · have hlt : j < 400 := by have := of_decide_eq_true hlt; omega
    refine ⟨fun b w' => b = false ∧ Chg No w64 w', ?_, ?_⟩
    · rintro b w82 ⟨rfl, c82⟩
      refine brB_f ?_
      rw [wr_in (by omega)]
      exact ⟨⟨j + 1, by omega, by omega, c82⟩, by show 400 - Int.toNat ((j : Int) + 1) < 400 - Int.toNat (j : Int); omega⟩
    intro w69 hw69
    have c69 := dw hw69
    have k69 := trN c66 c69
    have t29 := q29.no c69
    have t55 := q55.no c69
    have mem1 : ∀ {G : Int → Prop}, G (getI (M.set at_.toNat (wr (v + n))) (j : Int)) → ∃ s70 : Sl, held (Lw w69) ⟨b55, 4, none⟩ (s70.val) ∧ ∃ a71 : Addr, s70.ptr = some a71 ∧ 0 ≤ (j : Int) ∧ (j : Int) < (s70.len : Int) ∧ ∃ n72 : Int, held (Lw w69) (Addr.add a71 (Int.toNat (j : Int) * 1)) (.int .i64 n72) ∧ G n72 := fun {G} hG => by
      refine ⟨S1.mem, held_Lw (t55.cell rfl), ?_⟩
      refine (gs1.me.no k69).ix (i := (j : Int)) (by omega) (getI_at (by omega) (by show (j : Int) < ((M.set at_.toNat (wr (v + n))).length : Int); rw [List.length_set]; omega)) fun a _ hcell => ?_
      have q := hcell 0 _ rfl
      rw [add0] at q
      exact ⟨_, held_Lw q, hG⟩
    refine brB_of (fun hx => ?_) (fun hx => ?_)
    · have hx : (j : Int) ≠ at_ := by simpa using hx
      refine mem1 ⟨S0.mem, held_Lw (t29.cell rfl), ?_⟩
      refine (gs0.me.no k69).ix (i := (j : Int)) (by omega) (getI_at (xs := M) (by omega) (by omega)) fun a _ hcell => ?_
      have q := hcell 0 _ rfl
      rw [add0] at q
      have he : getI (M.set at_.toNat (wr (v + n))) (j : Int) = getI M (j : Int) := by
        unfold getI; rw [List.getD_eq_getElem?_getD, List.getD_eq_getElem?_getD, List.getElem?_set_ne (by omega)]
      exact ⟨_, held_Lw q, brB_f'' (by rw [he]; simp) (brB_f'' (by simpa using hx) ⟨rfl, k69⟩)⟩
    · have hx : (j : Int) = at_ := by simpa using hx
      refine brB_t' (by simpa using hx) (mem1 ⟨?_, k69⟩)
      have he : getI (M.set at_.toNat (wr (v + n))) (j : Int) = wr (v + n) := by
        rw [hx]; unfold getI; rw [List.getD_eq_getElem?_getD, List.getElem?_set_self (by omega)]; rfl
      rw [he]; simp
  · refine ⟨S1.ip, q55.cell rfl, brB_t' (by rw [m1]; rfl) ⟨S1.status, q55.cell rfl, by rw [m6]; rfl, trN k57 c66⟩⟩
end Go.Proofs.YtkjpmkopnkkbmaaDoor

/- InnerStacks, InnerLoops: the walks. -/
set_option maxRecDepth 100000
namespace Go.Proofs.YtkjpmkopnkkbmaaDoor
open Go.RowKit

/-- How many operations code has. -/
def cnt : List Int → Nat
  | [] => 0
  | [_] => 1
  | x :: y :: r => if x = 2 then 1 + cnt r else 1 + cnt (y :: r)
theorem cnt_le : ∀ l : List Int, cnt l ≤ l.length
  | [] => Nat.le_refl _
  | [_] => Nat.le_refl _
  | x :: y :: r => by
    have h1 := cnt_le r
    have h2 := cnt_le (y :: r)
    unfold cnt
    simp only [List.length_cons] at *
    split <;> omega
theorem cnt_lit {l : List Int} {i : Nat} (h : l[i]? = some 2) : cnt (l.drop i) = 1 + cnt (l.drop (i + 2)) := by
  have hi : i < l.length := by
    by_cases hi : i < l.length
    · exact hi
    · rw [List.getElem?_eq_none (by omega)] at h; cases h
  rw [List.getElem?_eq_getElem hi] at h
  have h := Option.some.inj h
  rw [List.drop_eq_getElem_cons hi, h]
  by_cases h2 : i + 1 < l.length
  · rw [List.drop_eq_getElem_cons h2]
    conv => lhs; unfold cnt
    rw [if_pos rfl]
  · rw [List.drop_eq_nil_of_le (by omega : l.length ≤ i + 1), List.drop_eq_nil_of_le (by omega : l.length ≤ i + 2)]; rfl
theorem cnt_op {l : List Int} {i : Nat} {x : Int} (h : l[i]? = some x) (hx : x ≠ 2) : cnt (l.drop i) = 1 + cnt (l.drop (i + 1)) := by
  have hi : i < l.length := by
    by_cases hi : i < l.length
    · exact hi
    · rw [List.getElem?_eq_none (by omega)] at h; cases h
  rw [List.getElem?_eq_getElem hi] at h
  have h := Option.some.inj h
  rw [List.drop_eq_getElem_cons hi, h]
  by_cases h2 : i + 1 < l.length
  · rw [List.drop_eq_getElem_cons h2]
    conv => lhs; unfold cnt
    rw [if_neg hx]
  · rw [List.drop_eq_nil_of_le (by omega : l.length ≤ i + 1)]; rfl
/-- What each code comes to. -/
def CodeOk (a b c : Int) (code : List Int) : Prop := code.length ≤ 4 ∧ ∀ (l bk M : List Int), HasC M 200 code → l.length ≤ 30 → bk.length ≤ 40 → mRun (cnt code) (stk 200 (l ++ [a, b, c]) bk M) = (stk (200 + code.length) (l ++ [a, b, c]) bk M, 0)
theorem codes_ok (a b c : Int) (hc : Cn.In c) : ∀ code ∈ ([[8, 8], [10, 10, 10], [6, 7], [9, 7], [33, 34], [16, 16], [20, 20], [2, b, 7], [33, 35, 34, 7], [9, 9, 7, 7]] : List (List Int)), CodeOk a b c code := by
  intro code h
  simp only [List.mem_cons, List.mem_nil_iff, or_false] at h
  rcases h with rfl | rfl | rfl | rfl | rfl | rfl | rfl | rfl | rfl | rfl
  · exact ⟨by decide, fun l bk M h h1 h2 => st_swap h h1 h2⟩
  · exact ⟨by decide, fun l bk M h h1 h2 => st_rot h h1 h2⟩
  · exact ⟨by decide, fun l bk M h h1 h2 => st_dup h h1 h2⟩
  · exact ⟨by decide, fun l bk M h h1 h2 => st_copy h h1 h2⟩
  · exact ⟨by decide, fun l bk M h h1 h2 => st_over h h1 h2⟩
  · exact ⟨by decide, fun l bk M h h1 h2 => st_neg hc h h1 h2⟩
  · exact ⟨by decide, fun l bk M h h1 h2 => st_inv hc h h1 h2⟩
  · exact ⟨by simp, fun l bk M h h1 h2 => st_lit h h1 h2⟩
  · exact ⟨by decide, fun l bk M h h1 h2 => st_atBack h h1 h2⟩
  · exact ⟨by decide, fun l bk M h h1 h2 => st_copies h h1 h2⟩
theorem innerStacks_walk {w : World} (hg : Gl w) {sS bS : Sl} {st bk : List Int} (hs : Rd intE w sS st) (hb : Rd intE w bS bk) (a b c : Int) (hc : -9223372036854775808 ≤ c ∧ c ≤ 9223372036854775807) :
    Calls Tryd.prog fn_hollowaylaw9_InnerStacks #[sS.val, bS.val, .int .i64 a, .int .i64 b, .int .i64 c] w fun e w' => e = .returned (.bool true) ∧ Chg No w w' := by
  refine (hollowaylaw9_InnerStacks_lift (K := fun v w' => v = .bool true ∧ Chg No w w') ?_).mono (by rintro e w' ⟨v, rfl, rfl, h⟩; exact ⟨rfl, h⟩)
  unfold hollowaylaw9_InnerStacks_sh
  have ls := hs.len
  have cs := hs.capL
  refine (alive9_any hg).mono ?_
  rintro e w7 ⟨rfl, c7⟩
  have e1 : imin (sS.len : Int) 30 = ((min st.length 30 : Nat) : Int) := by rw [ls]; exact imin_nat _ 30
  refine ⟨_, rfl, brB_f'' rfl ?_⟩
  rw [e1, Int.toNat_natCast, sub0]
  refine ⟨by omega, by omega, fun s9 hs9 => ?_⟩
  subst hs9
  have t1 := (hs.no c7).take (n := min st.length 30) (by omega)
  rw [take_min] at t1
  refine app_ok intOk (s := nilS) rfl rfl (Ow.nil _ _) t1 (by show ([].length + _) * 8 ≤ _; simp [List.length_take]; omega) (by unfold maxLen; simp [List.length_take]; omega) ?_
  intro s10 w11 g10 c11 b11
  have c11 : Chg No w7 w11 := c11.mono (fun k _ hk => by cases hk)
  rw [List.nil_append] at g10
  have hn10 : ∀ k, s10.blk = some k → w7.heap.size ≤ k := fun k hk => by
    rcases b11 with h | h
    · rw [h] at hk; cases hk
    · rw [h] at hk; have := Option.some.inj hk; omega
  refine litRd [a, b, c] _ rfl rfl (by simp) fun b12 w13 l13 hb12 c13 => ?_
  refine app_ok intOk rfl rfl (g10.no c13) l13 (by show (_ + 3) * 8 ≤ _; simp [List.length_take]; omega) (by unfold maxLen; simp [List.length_take]; omega) ?_
  intro s14 w15 g14 c15 b15
  have k15 : Chg No w w15 := (trN (trN c7 c11) c13).trans c15 (fun _ _ h => h) (fun k hk he => by have := hn10 k he; have := c7.size; omega)
  obtain ⟨l, hl⟩ : ∃ l, l = st.take 30 := ⟨_, rfl⟩
  have hll : l.length ≤ 30 := by rw [hl, List.length_take]; omega
  rw [← hl] at g14
  refine litRd [8, 8] _ rfl rfl (by simp) fun b16 w17 r0 hb16 c17 => litRd [10, 10, 10] _ rfl rfl (by simp) fun b18 w19 r1 hb18 c19 => litRd [6, 7] _ rfl rfl (by simp) fun b20 w21 r2 hb20 c21 => litRd [9, 7] _ rfl rfl (by simp) fun b22 w23 r3 hb22 c23 => litRd [33, 34] _ rfl rfl (by simp) fun b24 w25 r4 hb24 c25 => litRd [16, 16] _ rfl rfl (by simp) fun b26 w27 r5 hb26 c27 => litRd [20, 20] _ rfl rfl (by simp) fun b28 w29 r6 hb28 c29 => litRd [2, b, 7] _ rfl rfl (by simp) fun b30 w31 r7 hb30 c31 => litRd [33, 35, 34, 7] _ rfl rfl (by simp) fun b32 w33 r8 hb32 c33 => litRd [9, 9, 7, 7] _ rfl rfl (by simp) fun b34 w35 r9 hb34 c35 => ?_
  intro b36 w37 hb36 hw37
  have c37 := al hw37
  obtain ⟨sls, hsls⟩ : ∃ sls : List Sl, sls = [⟨some ⟨b16, 0, none⟩, 2, 2⟩, ⟨some ⟨b18, 0, none⟩, 3, 3⟩, ⟨some ⟨b20, 0, none⟩, 2, 2⟩, ⟨some ⟨b22, 0, none⟩, 2, 2⟩, ⟨some ⟨b24, 0, none⟩, 2, 2⟩, ⟨some ⟨b26, 0, none⟩, 2, 2⟩, ⟨some ⟨b28, 0, none⟩, 2, 2⟩, ⟨some ⟨b30, 0, none⟩, 3, 3⟩, ⟨some ⟨b32, 0, none⟩, 4, 4⟩, ⟨some ⟨b34, 0, none⟩, 4, 4⟩] := ⟨_, rfl⟩
  have o36 : Ob w37 b36 (sls.map Sl.val) T_sl_int := by rw [hw37, hb36, hsls]; exact Ob.new _ _ _
  have k1737 := trN (trN (trN (trN (trN (trN (trN (trN (trN c19 c21) c23) c25) c27) c29) c31) c33) c35) c37
  have hall : ∀ j : Nat, j < 10 → ∃ sl code, sls[j]? = some sl ∧ Rd intE w37 sl code ∧ CodeOk a b c code := by
    intro j hj
    have ok := codes_ok a b c hc
    have q9 := r9.no c37
    have q8 := (r8.no c35).no c37
    have q7 := ((r7.no c33).no c35).no c37
    have q6 := (((r6.no c31).no c33).no c35).no c37
    have q5 := ((((r5.no c29).no c31).no c33).no c35).no c37
    have q4 := (((((r4.no c27).no c29).no c31).no c33).no c35).no c37
    have q3 := ((((((r3.no c25).no c27).no c29).no c31).no c33).no c35).no c37
    have q2 := (((((((r2.no c23).no c25).no c27).no c29).no c31).no c33).no c35).no c37
    have q1 := ((((((((r1.no c21).no c23).no c25).no c27).no c29).no c31).no c33).no c35).no c37
    have q0 := r0.no k1737
    rw [hsls]
    match j, hj with
    | 0, _ => exact ⟨_, _, rfl, q0, ok _ (by simp)⟩
    | 1, _ => exact ⟨_, _, rfl, q1, ok _ (by simp)⟩
    | 2, _ => exact ⟨_, _, rfl, q2, ok _ (by simp)⟩
    | 3, _ => exact ⟨_, _, rfl, q3, ok _ (by simp)⟩
    | 4, _ => exact ⟨_, _, rfl, q4, ok _ (by simp)⟩
    | 5, _ => exact ⟨_, _, rfl, q5, ok _ (by simp)⟩
    | 6, _ => exact ⟨_, _, rfl, q6, ok _ (by simp)⟩
    | 7, _ => exact ⟨_, _, rfl, q7, ok _ (by simp)⟩
    | 8, _ => exact ⟨_, _, rfl, q8, ok _ (by simp)⟩
    | 9, _ => exact ⟨_, _, rfl, q9, ok _ (by simp)⟩
  have k37 : Chg No w w37 := trN (trN k15 c17) k1737
  have g37 := ((g14.no c17).no k1737).rd
  refine ⟨fun n w' => ∃ j : Nat, n = j ∧ j ≤ 10 ∧ Chg No w37 w', fun n _ => 10 - n.toNat, ⟨0, rfl, by omega, Chg.refl _ _⟩, ?_⟩
  rintro n w38 ⟨j, rfl, hj, c38⟩
  refine brB_of (fun hlt => ?_) (fun _ => ⟨rfl, trN k37 c38⟩)
  have hlt : j < 10 := by have := of_decide_eq_true hlt; omega
  obtain ⟨sl, code, hsl, hcode, hlen, hlaw⟩ := hall j hlt
  have hcell : w38.cell? (Addr.add ⟨b36, 0, none⟩ (Int.toNat (j : Int) * 1)) = some sl.val := by
    have := (o36.no c38).cell (k := j) (v := sl.val) (by rw [List.getElem?_map, hsl]; rfl)
    rw [Int.toNat_natCast, Nat.mul_one]
    rw [show Addr.add ⟨b36, 0, none⟩ j = ⟨b36, j, none⟩ by rw [add_at rfl]; simp]
    exact this
  refine ⟨_, rfl, by omega, by omega, sl, hcell, ?_⟩
  have k38 := trN k37 c38
  refine (plain9_any (hcode.no c38) (g37.no c38) (hb.no k38) (by omega)).mono ?_
  rintro e w43 ⟨S0, rfl, g0, c43⟩
  have lsl := hcode.len
  refine ⟨_, _, _, _, _, _, _, _, _, _, rfl, varSt S0 fun b54 w56 hb54 z56 o54 c56 => ?_⟩
  have k56 := trN (trN k38 c43) c56
  have hcc := cnt_le code
  refine ⟨fun n k w' => ∃ i m : Nat, k = i ∧ n = m ∧ m + cnt (code.drop i) = cnt code ∧ w' = w56, fun _ k _ => code.length - k.toNat, ⟨0, 0, rfl, rfl, by simp, rfl⟩, ?_⟩
  rintro n k w57 ⟨i, m, rfl, rfl, him, rfl⟩
  refine brB_of (fun hlt => ?_) (fun hge => ?_)
  · have hlt : i < code.length := by have := of_decide_eq_true hlt; omega
    obtain ⟨x, hx⟩ : ∃ x, code[i]? = some x := ⟨_, List.getElem?_eq_getElem hlt⟩
    refine ⟨fun k w' => w' = w57 ∧ ((x = 2 ∧ k = (i : Int) + 1) ∨ (x ≠ 2 ∧ k = i)), ?_, ?_⟩
    · rintro k w61 ⟨rfl, hk⟩
      rcases hk with ⟨h2, rfl⟩ | ⟨h2, rfl⟩
      · subst h2
        have := cnt_lit hx
        rw [wr_in (x := (m : Int) + 1) (by omega), wr_in (x := (i : Int) + 1 + 1) (by omega)]
        exact ⟨⟨i + 2, m + 1, by omega, by omega, by omega, rfl⟩, by show code.length - Int.toNat ((i : Int) + 1 + 1) < code.length - Int.toNat (i : Int); omega⟩
      · have := cnt_op hx h2
        rw [wr_in (x := (m : Int) + 1) (by omega), wr_in (x := (i : Int) + 1) (by omega)]
        exact ⟨⟨i + 1, m + 1, by omega, by omega, by omega, rfl⟩, by show code.length - Int.toNat ((i : Int) + 1) < code.length - Int.toNat (i : Int); omega⟩
    · refine (hcode.no (trN (trN c38 c43) c56)).ix (i := (i : Int)) (by omega) (by rw [Int.toNat_natCast]; exact hx) fun ad _ hcl => ?_
      have q := hcl 0 _ rfl
      rw [add0] at q
      refine ⟨_, q, brB_of (fun h2 => ?_) (fun h2 => ?_)⟩
      · have h2 : x = 2 := by simpa using h2
        rw [wr_in (by omega)]
        exact ⟨rfl, Or.inl ⟨h2, rfl⟩⟩
      · have h2 : x ≠ 2 := by simpa using h2
        exact ⟨rfl, Or.inr ⟨h2, rfl⟩⟩
  · have hge : code.length ≤ i := by have := of_decide_eq_false hge; omega
    rw [List.drop_eq_nil_of_le hge] at him
    have him : m = cnt code := him
    subst him
    have ok : MOk (plainV code (l ++ [a, b, c]) bk) := plain_ok (by omega)
    have hpl : plainV code (l ++ [a, b, c]) bk = stk 200 (l ++ [a, b, c]) (bk.take 40) (lay (bootM 400) 200 code) := by
      unfold plainV; rw [List.take_of_length_le (by simp; omega)]
    have hr := runM_eq (hlaw l (bk.take 40) _ (plain_has (code := code) (by omega)) hll (by rw [List.length_take]; omega))
    rw [← hpl] at hr
    refine rdSt o54 ((irun_any S0 (stxA (g0.no c56)) ok (hg.no k56) (cnt code : Int) (by omega)).mono ?_)
    rintro e w75 ⟨S1, rfl, g1, c75⟩
    rw [hr] at g1 ⊢
    have k75 := trN k56 c75
    refine ⟨_, _, _, _, _, _, _, _, _, _, _, rfl, varSt S1 fun b87 w89 hb87 z89 o87 c89 => ?_⟩
    have k89 := trN k75 c89
    have gs1 := stxA (g1.no c89)
    have gs0 := stxA (g0.no (trN (trN c56 c75) c89))
    rw [hpl] at gs0
    have c3889 := trN (trN (trN c43 c56) c75) c89
    refine ⟨fun b' w' => b' = false ∧ Chg No w37 w', ?_, S1.stack, o87.cell rfl, ?_⟩
    · rintro b' w100 ⟨rfl, c100⟩
      refine brB_f ?_
      rw [wr_in (by omega)]
      exact ⟨⟨j + 1, by omega, by omega, c100⟩, by show 10 - Int.toNat ((j : Int) + 1) < 10 - Int.toNat (j : Int); omega⟩
    refine (sameInts_ok S1.stack s14 (l ++ [a, b, c]) w89 gs1.st ((g37.no c38).no c3889)).mono ?_
    rintro e w92 ⟨rfl, c92⟩
    refine ⟨_, rfl, brB_f'' rfl ⟨S1.back, (o87.no c92).cell rfl, S0.back, (((o54.no c75).no c89).no c92).cell rfl, ?_⟩⟩
    refine (sameInts_ok S1.back S0.back (bk.take 40) w92 (gs1.no c92).bk (gs0.no c92).bk).mono ?_
    rintro e w97 ⟨rfl, c97⟩
    refine ⟨_, rfl, brB_f'' rfl ⟨S1.ip, ((o87.no c92).no c97).cell rfl, ?_, trN (trN (trN c38 c3889) c92) c97⟩⟩
    rw [g1.nums.1, wr_in (by omega), lsl]
    show ((200 + (code.length : Int)) != _) = false
    simp
theorem innerLoops_walk {w : World} (hg : Gl w) (limit start step : Int) :
    Calls Tryd.prog fn_hollowaylaw9_InnerLoops #[.int .i64 limit, .int .i64 start, .int .i64 step] w fun e w' => e = .returned (.bool true) ∧ Chg No w w' := by
  refine (hollowaylaw9_InnerLoops_lift (K := fun v w' => v = .bool true ∧ Chg No w w') ?_).mono (by rintro e w' ⟨v, rfl, rfl, h⟩; exact ⟨rfl, h⟩)
  unfold hollowaylaw9_InnerLoops_sh
  obtain ⟨P, hP⟩ : ∃ P : Prop, P = (-1000 ≤ limit ∧ limit ≤ 1000 ∧ -1000 ≤ start ∧ start < limit ∧ limit - start ≤ 60 ∧ 1 ≤ step ∧ step ≤ 60) := ⟨_, rfl⟩
  have yes : ∀ {w' : World}, Chg No w w' → (true = false → P) ∧ Chg No w w' := fun c => ⟨(fun h => by cases h), c⟩
  refine ⟨fun b' w' => (b' = false → P) ∧ Chg No w w', ?_, brB_of (fun _ => yes (Chg.refl _ _)) (fun h1 => brB_of (fun _ => yes (Chg.refl _ _)) (fun h2 => brB_of (fun _ => yes (Chg.refl _ _)) (fun h3 => brB_of (fun _ => yes (Chg.refl _ _)) (fun h4 => ?_))))⟩
  rotate_left
  · have h1 := of_decide_eq_false h1
    have h2 := of_decide_eq_false h2
    have h3 := of_decide_eq_false h3
    have h4 := of_decide_eq_false h4
    rw [wr_in (by omega)]
    refine brB_of (fun _ => yes (Chg.refl _ _)) (fun h5 => brB_of (fun _ => yes (Chg.refl _ _)) (fun h6 => brB_of (fun _ => yes (Chg.refl _ _)) (fun h7 => ?_)))
    have h5 := of_decide_eq_false h5
    have h6 := of_decide_eq_false h6
    have h7 := of_decide_eq_false h7
    refine (alive9_any hg).mono ?_
    rintro e w5 ⟨rfl, c5⟩
    exact ⟨_, rfl, fun _ => by rw [hP]; omega, c5⟩
  rintro b' w7 ⟨hb', c7⟩
  refine brB_of (fun _ => ?_) (fun hf => ?_)
  · refine (alive9_any (hg.no c7)).mono ?_
    rintro e w10 ⟨rfl, c10⟩
    exact ⟨_, rfl, rfl, trN c7 c10⟩
  have hp := hb' hf
  rw [hP] at hp
  obtain ⟨p1, p2, p3, p4, p5, p6, p7⟩ := hp
  obtain ⟨A, hA⟩ : ∃ A, A = [2, 0, 2, limit, 2, start, 36, 2, 1, 11, 2, step, 38, 207, 0] := ⟨_, rfl⟩
  refine litRd A _ (by subst hA; rfl) (by subst hA; rfl) (by rw [hA]; simp) fun b12 w13 l13 hb12 c13 => ?_
  have k13 := trN c7 c13
  refine (plain9_any (sS := nilS) (bS := nilS) l13 (Rd.nil _ _) (Rd.nil _ _) (by rw [hA]; simp)).mono ?_
  rintro e w15 ⟨S0, rfl, g0, c15⟩
  have k15 := trN k13 c15
  refine ⟨_, _, _, _, _, _, _, _, _, _, rfl, varSt S0 fun b26 w28 hb26 z28 o26 c28 => rdSt o26 ?_⟩
  have k28 := trN k15 c28
  have ok : MOk (plainV A [] []) := plain_ok (by rw [hA]; simp)
  obtain ⟨kk, hr⟩ := plus_law (M := lay (bootM 400) 200 A) (limit := limit) (start := start) (step := step) (by have := plain_has (code := A) (by rw [hA]; simp); rw [hA] at this ⊢; exact this) ⟨p1, p2⟩ ⟨p6, p7⟩ p3 p4 p5
  have hr : runM (plainV A [] []) 2000 = _ := runM_eq (k := 2000) hr
  refine (irun_any S0 (stxA (g0.no c28)) ok (hg.no k28) 2000 (by decide)).mono ?_
  rintro e w40 ⟨S1, rfl, g1, c40⟩
  rw [hr] at g1 ⊢
  have k40 := trN k28 c40
  refine ⟨_, _, _, _, _, _, _, _, _, _, _, rfl, varSt S1 fun b52 w54 hb52 z54 o52 c54 => ?_⟩
  have k54 := trN k40 c54
  obtain ⟨B, hB⟩ : ∃ B, B = [2, 0, 2, limit, 2, start, 36, 2, 1, 11, 37, 207, 0] := ⟨_, rfl⟩
  refine litRd B _ (by subst hB; rfl) (by subst hB; rfl) (by rw [hB]; simp) fun b55 w56 l56 hb55 c56 => ?_
  have k56 := trN k54 c56
  refine (plain9_any (sS := nilS) (bS := nilS) l56 (Rd.nil _ _) (Rd.nil _ _) (by rw [hB]; simp)).mono ?_
  rintro e w58 ⟨S2, rfl, g2, c58⟩
  have k58 := trN k56 c58
  refine ⟨_, _, _, _, _, _, _, _, _, _, rfl, varSt S2 fun b69 w71 hb69 z71 o69 c71 => rdSt o69 ?_⟩
  have k71 := trN k58 c71
  have ok2 : MOk (plainV B [] []) := plain_ok (by rw [hB]; simp)
  obtain ⟨kk2, hr2⟩ := loop_law (M := lay (bootM 400) 200 B) (limit := limit) (start := start) (by have := plain_has (code := B) (by rw [hB]; simp); rw [hB] at this ⊢; exact this) ⟨p1, p2⟩ p3 p4 p5
  have hr2 : runM (plainV B [] []) 2000 = _ := runM_eq (k := 2000) hr2
  refine (irun_any S2 (stxA (g2.no c71)) ok2 (hg.no k71) 2000 (by decide)).mono ?_
  rintro e w83 ⟨S3, rfl, g3, c83⟩
  rw [hr2] at g3 ⊢
  have k83 := trN k71 c83
  refine ⟨_, _, _, _, _, _, _, _, _, _, _, rfl, varSt S3 fun b95 w97 hb95 z97 o95 c97 => ?_⟩
  have k97 := trN k83 c97
  intro w98 hw98
  have c98 := dw hw98
  have k98 := trN k97 c98
  have d5498 := trN (trN (trN (trN (trN c56 c58) c71) c83) c97) c98
  have q52 := o52.no d5498
  have q95 := o95.no c98
  have gs1 := stxA ((g1.no c54).no d5498)
  have gs3 := stxA ((g3.no c97).no c98)
  have a1 := g1.nums.2.2.2.2.2.1
  have a3 := g3.nums.2.2.2.2.2.1
  have l1 : S1.stack.len = 1 := gs1.st.len
  have l3 : S3.stack.len = 1 := gs3.st.len
  have m1 : S1.back.len = 0 := gs1.bk.len
  have m3 : S3.back.len = 0 := gs3.bk.len
  refine ⟨S1.status, held_Lw (q52.cell rfl), brB_t' (by rw [a1]; rfl) ⟨S1.stack, held_Lw (q52.cell rfl), brB_t' (by rw [l1]; rfl) ⟨S1.stack, held_Lw (q52.cell rfl), ?_⟩⟩⟩
  refine gs1.st.ix (i := 0) (by decide) rfl fun ad _ hcl => ?_
  have q := hcl 0 _ rfl
  rw [add0] at q
  have ec : wr (Int.tdiv (wr (wr (wr (limit - start) + step) - 1)) step) = (limit - start + step - 1) / step := by
    rw [wr_in (x := limit - start) (by omega), wr_in (x := limit - start + step) (by omega), wr_in (x := limit - start + step - 1) (by omega), Int.tdiv_eq_ediv_of_nonneg (by omega)]
    refine wr_in ?_
    have h1 := Int.ediv_le_self step (a := limit - start + step - 1) (by omega)
    have h2 := Int.ediv_nonneg (a := limit - start + step - 1) (b := step) (by omega) (by omega)
    omega
  refine ⟨_, held_Lw q, by omega, brB_t' (by rw [ec]; simp) ⟨S3.status, held_Lw (q95.cell rfl), brB_t' (by rw [a3]; rfl) ⟨S3.stack, held_Lw (q95.cell rfl), brB_t' (by rw [l3]; rfl) ⟨S3.stack, held_Lw (q95.cell rfl), ?_⟩⟩⟩⟩
  refine gs3.st.ix (i := 0) (by decide) rfl fun ad _ hcl => ?_
  have q := hcl 0 _ rfl
  rw [add0] at q
  refine ⟨_, held_Lw q, brB_t' (by rw [wr_in (by omega)]; simp) ⟨S1.back, held_Lw (q52.cell rfl), S3.back, held_Lw (q95.cell rfl), ?_, k98⟩⟩
  rw [m1, m3]; rfl
end Go.Proofs.YtkjpmkopnkkbmaaDoor

/- InnerCatch, InnerTalks: the walks. -/
set_option maxRecDepth 100000
namespace Go.Proofs.YtkjpmkopnkkbmaaDoor
open Go.RowKit

theorem litsC_snoc (l : List Int) (x : Int) : litsC (l ++ [x]) = litsC l ++ [2, x] := by unfold litsC; simp
theorem emitsC_snoc (l : List Int) (x : Int) : emitsC (l ++ [x]) = emitsC l ++ [2, x, 41] := by unfold emitsC; simp
theorem take_snoc {l : List Int} {i : Nat} (h : i < l.length) : l.take (i + 1) = l.take i ++ [l[i]] := (List.take_append_getElem h).symm
/-- A number laid behind code that is laid. -/
theorem setLay {w : World} {s : Sl} {mem code : List Int} {at_ : Nat} (h : Ox intE w s (lay mem at_ code)) {i v : Int} (hi : i = ((at_ + code.length : Nat) : Int)) (hl : at_ + code.length < mem.length) {G : World → Prop} (g : ∀ w', Ox intE w' s (lay mem at_ (code ++ [v])) → Chg (fun j => s.blk = some j) w w' → G w') :
    ∃ a : Addr, s.ptr = some a ∧ 0 ≤ i ∧ i < (s.len : Int) ∧ wrOk w (Addr.add a (Int.toNat i * 1)) 1 ∧ ∀ w' : World, w' = stW w (Addr.add a (Int.toNat i * 1)) 0 [.int .i64 v] → G w' := by
  subst hi
  refine setOx h (by omega) (by rw [lay_len (by omega)]; omega) fun w' g' c' => g w' ?_ c'
  rw [Int.toNat_natCast, lay_snoc hl] at g'; exact g'
theorem innerCatch_walk {w : World} (hg : Gl w) {sS mS : Sl} {st more : List Int} (hs : Rd intE w sS st) (hm : Rd intE w mS more) (v : Int) :
    Calls Tryd.prog fn_hollowaylaw9_InnerCatch #[sS.val, .int .i64 v, mS.val] w fun e w' => e = .returned (.bool true) ∧ Chg No w w' := by
  refine (hollowaylaw9_InnerCatch_lift (K := fun v w' => v = .bool true ∧ Chg No w w') ?_).mono (by rintro e w' ⟨v, rfl, rfl, h⟩; exact ⟨rfl, h⟩)
  unfold hollowaylaw9_InnerCatch_sh
  have ls := hs.len
  have cs := hs.capL
  have lm := hm.len
  have yes : ∀ {w' : World}, Chg No w w' → (true = false → more.length ≤ 20) ∧ Chg No w w' := fun c => ⟨(fun h => by cases h), c⟩
  refine ⟨fun b' w' => (b' = false → more.length ≤ 20) ∧ Chg No w w', ?_, brB_of (fun _ => yes (Chg.refl _ _)) (fun h1 => ?_)⟩
  rotate_left
  · have h1 := of_decide_eq_false h1
    refine (alive9_any hg).mono ?_
    rintro e w5 ⟨rfl, c5⟩
    exact ⟨_, rfl, fun _ => by omega, c5⟩
  rintro b' w7 ⟨hb', c7⟩
  refine brB_of (fun _ => ?_) (fun hf => ?_)
  · refine (alive9_any (hg.no c7)).mono ?_
    rintro e w10 ⟨rfl, c10⟩
    exact ⟨_, rfl, rfl, trN c7 c10⟩
  have h20 := hb' hf
  have e1 : imin (sS.len : Int) 10 = ((min st.length 10 : Nat) : Int) := by rw [ls]; exact imin_nat _ 10
  rw [e1, Int.toNat_natCast, sub0]
  refine ⟨by omega, by omega, fun s12 hs12 => ?_⟩
  have t1 := hs.take (n := min st.length 10) (by omega)
  rw [← hs12, take_min] at t1
  obtain ⟨l, hl⟩ : ∃ l, l = st.take 10 := ⟨_, rfl⟩
  have hll : l.length ≤ 10 := by rw [hl, List.length_take]; omega
  rw [← hl] at t1
  have l12 := t1.len
  have cap12 := t1.capL
  obtain ⟨A, hA⟩ : ∃ A : List Int, A = [2, 220, 46, 3, 205] := ⟨_, rfl⟩
  refine litRd A _ (by subst hA; rfl) (by subst hA; rfl) (by rw [hA]; simp) fun b13 w14 l14 hb13 c14 => ?_
  have k14 := trN c7 c14
  have hAl : A.length = 5 := by rw [hA]; rfl
  refine (plain9_any (bS := nilS) l14 (t1.no k14) (Rd.nil _ _) (by omega)).mono ?_
  rintro e w16 ⟨S0, rfl, g0, c16⟩
  have z16 := c16.size
  refine ⟨_, _, _, _, _, _, _, _, _, _, rfl, varSt S0 fun b27 w29 hb27 z29 o27 c29 => ?_⟩
  have k29 := trN (trN k14 c16) c29
  have g29 := g0.no c29
  have hbm : ∀ k, S0.mem.blk = some k → w14.heap.size ≤ k ∧ k < w16.heap.size := fun k hk => g0.meD k hk
  have hne : S0.mem.blk ≠ some b27 := fun he => by have := hbm _ he; omega
  have z7 := k14.size
  obtain ⟨M0, hM0⟩ : ∃ M0, M0 = lay (bootM 400) 200 A := ⟨_, rfl⟩
  have hM0l : M0.length = 400 := by rw [hM0, lay_len (by rw [bootM_len]; omega), bootM_len]
  have m29 : Ox intE w29 S0.mem (lay M0 220 (litsC (more.take 0))) := by
    rw [List.take_zero]; show Ox intE w29 S0.mem (lay M0 220 []); rw [lay_nil, hM0]; exact g29.me
  refine ⟨fun a n w' => ∃ j : Nat, a = 220 + 2 * (j : Int) ∧ n = j ∧ j ≤ more.length ∧ Ox intE w' S0.mem (lay M0 220 (litsC (more.take j))) ∧ Chg (fun x => S0.mem.blk = some x) w29 w', fun _ n _ => more.length - n.toNat, ⟨0, rfl, rfl, Nat.zero_le _, m29, Chg.refl _ _⟩, ?_⟩
  rintro a n w30 ⟨j, rfl, rfl, hj, g30, c30⟩
  have k30 : Chg No w w30 := k29.trans c30 (fun _ _ h => h) (fun k hk he => by have := hbm k he; omega)
  have o30 := o27.chg c30 hne
  have hlj : (litsC (more.take j)).length = 2 * j := by rw [litsC_len, List.length_take]; omega
  refine brB_of (fun hlt => ?_) (fun hge => ?_)
  · have hlt : j < more.length := by have := of_decide_eq_true hlt; omega
    refine (hm.no k30).ix (i := (j : Int)) (by omega) (x := more[j]) (by rw [Int.toNat_natCast]; exact List.getElem?_eq_getElem hlt) fun ad _ hcl => ?_
    have q := hcl 0 _ rfl
    rw [add0] at q
    refine ⟨_, q, ?_⟩
    intro w34 hw34
    have c34 := dw hw34
    have p34 := o30.no c34
    rw [wr_in (x := 220 + 2 * (j : Int) + 1) (by omega), wr_in (x := 220 + 2 * (j : Int) + 2) (by omega), wr_in (x := (j : Int) + 1) (by omega)]
    refine ⟨fun w' => Ob w' b27 (stC S0) T_api_State, p34, S0.mem, Ob.held (fun w' h => h) rfl, S0.mem, Ob.held (fun w' h => h) rfl, ?_⟩
    refine setLay (g30.no c34) (by rw [hlj]; omega) (by rw [hlj]; omega) fun w40 g40 c40 => ⟨p34.chg c40 hne, setLay g40 (by rw [List.length_append, hlj, List.length_singleton]; omega) (by rw [List.length_append, hlj, List.length_singleton]; omega) fun w42 g42 c42 => ?_⟩
    refine ⟨⟨j + 1, by omega, by omega, by omega, ?_, ((c30.trans c34 (fun _ _ h => h) (fun _ _ h => h.elim)).trans c40 (fun _ _ h => h) (fun _ _ h => h)).trans c42 (fun _ _ h => h) (fun _ _ h => h)⟩, by show more.length - Int.toNat ((j : Int) + 1) < more.length - Int.toNat (j : Int); omega⟩
    rw [take_snoc hlt, litsC_snoc]
    rw [List.append_assoc] at g42; exact g42
  have hge : j = more.length := by have := of_decide_eq_false hge; omega
  subst hge
  rw [List.take_length] at g30 hlj
  intro w43 hw43
  have c43 := dw hw43
  have p43 := o30.no c43
  rw [wr_in (x := 220 + 2 * (more.length : Int) + 1) (by omega), wr_in (x := 220 + 2 * (more.length : Int) + 2) (by omega), wr_in (x := 220 + 2 * (more.length : Int) + 3) (by omega), wr_in (x := 4 + (mS.len : Int)) (by omega), wr_in (x := 4 + (mS.len : Int) + 2) (by omega), lm]
  refine ⟨fun w' => Ob w' b27 (stC S0) T_api_State, p43, S0.mem, Ob.held (fun w' h => h) rfl, S0.mem, Ob.held (fun w' h => h) rfl, S0.mem, Ob.held (fun w' h => h) rfl, S0.mem, Ob.held (fun w' h => h) rfl, ?_⟩
  refine setLay (g30.no c43) (by rw [hlj]; omega) (by rw [hlj]; omega) fun w50 g50 c50 => ⟨p43.chg c50 hne, setLay g50 (by simp [hlj]; omega) (by simp [hlj]; omega) fun w52 g52 c52 => ⟨(p43.chg c50 hne).chg c52 hne, setLay g52 (by simp [hlj]; omega) (by simp [hlj]; omega) fun w54 g54 c54 => ⟨((p43.chg c50 hne).chg c52 hne).chg c54 hne, setLay g54 (by simp [hlj]; omega) (by simp [hlj]; omega) fun w56 g56 c56 => ?_⟩⟩⟩
  have p56 := (((p43.chg c50 hne).chg c52 hne).chg c54 hne).chg c56 hne
  have d56 : Chg (fun x => S0.mem.blk = some x) w29 w56 := ((((c30.trans c43 (fun _ _ h => h) (fun _ _ h => h.elim)).trans c50 (fun _ _ h => h) (fun _ _ h => h)).trans c52 (fun _ _ h => h) (fun _ _ h => h)).trans c54 (fun _ _ h => h) (fun _ _ h => h)).trans c56 (fun _ _ h => h) (fun _ _ h => h)
  have k56 : Chg No w w56 := k29.trans d56 (fun _ _ h => h) (fun k hk he => by have := hbm k he; omega)
  obtain ⟨M, hM⟩ : ∃ M, M = lay M0 220 (catchC more v) := ⟨_, rfl⟩
  have hcl : (catchC more v).length = 2 * more.length + 4 := by unfold catchC; rw [List.length_append, litsC_len]; rfl
  have hMl : M.length = 400 := by rw [hM, lay_len (by rw [hM0l, hcl]; omega), hM0l]
  have g56 : Ox intE w56 S0.mem M := by
    rw [hM]; unfold catchC
    simpa [List.append_assoc] using g56
  have hs1 : StIs (fun _ => True) w56 S0 (stk 200 l [] M) := by
    obtain ⟨n1, n2, n3, n4, n5, n6, n7⟩ := g0.nums
    have e2 : l.take 40 = l := List.take_of_length_le (by omega)
    refine ⟨⟨n1, n2, n3, n4, n5, n6, n7⟩, ?_, (g29.bk.chg d56 (fun k hk he => (g0.bkD k hk).2 he)).rd, g56.rd, fun _ _ => trivial, fun _ _ => trivial, fun _ _ => trivial⟩
    have := (g29.st.chg d56 (fun k hk he => (g0.stD k hk).2.2 he)).rd
    have e3 : (plainV A l []).stack = l := e2
    rw [e3] at this; exact this
  have ok : MOk (stk 200 l [] M) := ⟨by show l.length ≤ 48; omega, by show 0 ≤ 48; omega, by show M.length ≤ 3000; omega, by show 0 ≤ 2000; omega, ⟨by show (0 : Int) ≤ 0; omega, by show (0 : Int) ≤ _; exact Int.natCast_nonneg _⟩, by show 0 ≤ _; omega⟩
  -- what stands in the memory
  have hA0 : HasC M0 200 A := by rw [hM0]; exact plain_has (by omega)
  have out0 : ∀ {i c : Int}, OpAt M0 i c → i < 220 → OpAt M i c := fun {i c} h hi => ⟨h.1, by have := h.2.1; omega, by rw [hM, lay_out (by rw [hM0l, hcl]; omega) (by have := h.1; omega)]; exact h.2.2⟩
  have h205 : OpAt M0 205 0 := ⟨by decide, by rw [hM0l]; decide, by
    rw [hM0, lay_out (by rw [bootM_len]; omega) (Or.inr (by rw [hAl]; decide)), bootM_at (by decide)]; rfl⟩
  have h1' : OpAt M0 1 1 := ⟨by decide, by rw [hM0l]; decide, by
    rw [hM0, lay_out (by rw [bootM_len]; omega) (Or.inl (by decide)), bootM_at (by decide)]; rfl⟩
  have hcode : HasC M 200 [2, 220, 46, 3, 205, 0] := by
    rw [hA] at hA0
    obtain ⟨a0, a1, a2, a3, a4, -⟩ := hA0
    exact ⟨out0 a0 (by decide), out0 a1 (by decide), out0 a2 (by decide), out0 a3 (by decide), out0 a4 (by decide), out0 h205 (by decide), trivial⟩
  have hbody : HasC M 220 (catchC more v) := by rw [hM]; exact has_lay (at_ := 220) (by rw [hM0l, hcl]; omega)
  have h100 : (runM (stk 200 l [] M) 100).1.status ≠ 0 := by
    by_cases hv : v = 0
    · rw [hv] at hbody
      have := (catch_zero hcode (out0 h1' (by decide)) hbody hll h20).2 (92 - more.length)
      rw [show 92 - more.length + 6 + 2 + more.length = 100 by omega] at this
      have h : runM (stk 200 l [] M) 100 = _ := runM_eq (k := 100) this
      rw [h]; show (1 : Int) ≠ 0; decide
    · have := (catch_throws hcode hbody hv hll h20).2 (94 - more.length)
      rw [show 94 - more.length + 4 + 2 + more.length = 100 by omega] at this
      have h : runM (stk 200 l [] M) 100 = _ := runM_eq (k := 100) this
      rw [h]; show (1 : Int) ≠ 0; decide
  refine rdSt p56 ((irun_any S0 hs1 ok (hg.no k56) 100 (by decide)).mono ?_)
  rintro e w68 ⟨S1, rfl, g1, c68⟩
  have k68 := trN k56 c68
  refine ⟨_, _, _, _, _, _, _, _, _, _, _, rfl, varSt S1 fun b80 w82 hb80 z82 o80 c82 => ⟨S1.status, o80.cell rfl, brB_f'' ?_ ?_⟩⟩
  · have := g1.nums.2.2.2.2.2.1
    rw [this]; simpa using h100
  have k82 := trN k68 c82
  have c5682 := trN c68 c82
  refine rdSt (p56.no c5682) ((irun_any S0 (hs1.no c5682) ok (hg.no k82) (4 + (more.length : Int)) (by omega)).mono ?_)
  rintro e w95 ⟨S2, rfl, g2, c95⟩
  have k95 := trN k82 c95
  refine ⟨_, _, _, _, _, _, _, _, _, _, _, rfl, varSt S2 fun b107 w109 hb107 z109 o107 c109 => ?_⟩
  have k109 := trN k95 c109
  have c56109 := trN (trN c5682 c95) c109
  refine brB_of (fun hv => ?_) (fun hv => ?_)
  · have hv : v = 0 := by simpa using hv
    rw [hv] at hbody
    have hw := (catch_zero hcode (out0 h1' (by decide)) hbody hll h20).1 0
    have hr : runM (stk 200 l [] M) (4 + (more.length : Int) + 2) = (stk 203 (l ++ more ++ [0]) [] M, 0) := by
      have := runM_eq (k := 0 + 4 + 2 + more.length) (m := 0) hw
      rw [show ((0 + 4 + 2 + more.length : Nat) : Int) = 4 + (more.length : Int) + 2 by omega] at this
      exact this
    refine rdSt (p56.no c56109) ((irun_any S0 (hs1.no c56109) ok (hg.no k109) (4 + (more.length : Int) + 2) (by omega)).mono ?_)
    rintro e w121 ⟨S3, rfl, g3, c121⟩
    rw [hr] at g3 ⊢
    have k121 := trN k109 c121
    refine ⟨_, _, _, _, _, _, _, _, _, _, _, rfl, varSt S3 fun b133 w135 hb133 z135 o133 c135 => ?_⟩
    have g135 := stxA (g3.no c135)
    obtain ⟨u1, u2, u3, u4, u5, u6, u7⟩ := g135.nums
    have l3 : S3.stack.len = (l ++ more ++ [0]).length := g135.st.len
    have l3' : (l ++ more ++ [0] : List Int).length = l.length + more.length + 1 := by simp; omega
    have m3 : S3.back.len = 0 := g135.bk.len
    refine ⟨S3.stack, o133.cell rfl, brB_t' (by rw [l3, l3', l12, wr_in (x := (l.length : Int) + (more.length : Int)) (by omega), wr_in (by omega)]; simp) ⟨S3.stack, o133.cell rfl, S3.stack, o133.cell rfl, ?_⟩⟩
    rw [wr_in (by omega)]
    refine g135.st.ix (i := (S3.stack.len : Int) - 1) (by omega) (x := 0) (by rw [l3, l3']; show (l ++ more ++ [0])[_]? = _; rw [show (((l.length + more.length + 1 : Nat) : Int) - 1).toNat = (l ++ more).length by rw [List.length_append]; omega]; simp) fun ad _ hcl => ?_
    have q := hcl 0 _ rfl
    rw [add0] at q
    exact ⟨_, q, brB_t' rfl ⟨S3.back, o133.cell rfl, brB_t' (by rw [m3]; rfl) ⟨S3.handler, o133.cell rfl, brB_t' (by rw [u2]; rfl) ⟨S3.ip, o133.cell rfl, by rw [u1]; rfl, trN k121 c135⟩⟩⟩⟩
  · have hv : v ≠ 0 := by simpa using hv
    have hw := (catch_throws hcode hbody hv hll h20).1 0
    have hr : runM (stk 200 l [] M) (4 + (more.length : Int)) = (stk 203 (l ++ [v]) [] M, 0) := by
      have := runM_eq (k := 0 + 2 + 2 + more.length) (m := 0) hw
      rw [show ((0 + 2 + 2 + more.length : Nat) : Int) = 4 + (more.length : Int) by omega] at this
      exact this
    rw [hr] at g2
    have g109 := stxA (g2.no c109)
    obtain ⟨u1, u2, u3, u4, u5, u6, u7⟩ := g109.nums
    have l2 : S2.stack.len = (l ++ [v]).length := g109.st.len
    have l2' : (l ++ [v] : List Int).length = l.length + 1 := by simp
    have cap2 := g109.st.capL
    have m2 : S2.back.len = 0 := g109.bk.len
    refine ⟨S2.stack, o107.cell rfl, brB_t' (by rw [l2, l2', l12, wr_in (by omega)]; simp) ⟨S2.stack, o107.cell rfl, ?_⟩⟩
    refine g109.st.ix (i := (s12.len : Int)) (by omega) (x := v) (by rw [l12, Int.toNat_natCast]; show (l ++ [v])[_]? = _; simp) fun ad _ hcl => ?_
    have q := hcl 0 _ rfl
    rw [add0] at q
    have hcap : (l ++ [v]).length ≤ S2.stack.cap := cap2.1
    refine ⟨_, q, brB_t' (by simp) ⟨S2.stack, o107.cell rfl, by omega, by omega, fun s151 hs151 => ?_⟩⟩
    rw [sub0, Int.toNat_natCast, l12] at hs151
    have t151 : Rd intE w109 s151 l := by
      have := g109.st.take (n := l.length) (by show l.length ≤ (l ++ [v]).length; omega)
      have e2 : (stk 203 (l ++ [v]) [] M).stack.take l.length = l := by show (l ++ [v]).take l.length = l; rw [List.take_left]
      rw [e2] at this
      rw [hs151]; exact this
    refine (sameInts_ok s151 s12 l w109 t151 (t1.no k109)).mono ?_
    rintro e w153 ⟨rfl, c153⟩
    have p107 := o107.no c153
    exact ⟨_, rfl, brB_t ⟨S2.back, p107.cell rfl, brB_t' (by rw [m2]; rfl) ⟨S2.handler, p107.cell rfl, brB_t' (by rw [u2]; rfl) ⟨S2.ip, p107.cell rfl, by rw [u1]; rfl, trN k109 c153⟩⟩⟩⟩
theorem innerTalks_walk {w : World} (hg : Gl w) (inp : ByteArray) {lS : Sl} {l : List Int} (hl : Rd intE w lS l) :
    Calls Tryd.prog fn_hollowaylaw9_InnerTalks #[.string inp, lS.val] w fun e w' => e = .returned (.bool true) ∧ Chg No w w' := by
  refine (hollowaylaw9_InnerTalks_lift (K := fun v w' => v = .bool true ∧ Chg No w w') ?_).mono (by rintro e w' ⟨v, rfl, rfl, h⟩; exact ⟨rfl, h⟩)
  unfold hollowaylaw9_InnerTalks_sh
  have ll := hl.len
  have yes : ∀ {w' : World}, Chg No w w' → (true = false → inp.size ≤ 60 ∧ l.length ≤ 30) ∧ Chg No w w' := fun c => ⟨(fun h => by cases h), c⟩
  refine ⟨fun b' w' => (b' = false → inp.size ≤ 60 ∧ l.length ≤ 30) ∧ Chg No w w', ?_, brB_of (fun _ => yes (Chg.refl _ _)) (fun h1 => brB_of (fun _ => yes (Chg.refl _ _)) (fun h2 => ?_))⟩
  rotate_left
  · have h1 := of_decide_eq_false h1
    have h2 := of_decide_eq_false h2
    refine (alive9_any hg).mono ?_
    rintro e w5 ⟨rfl, c5⟩
    exact ⟨_, rfl, fun _ => ⟨by omega, by omega⟩, c5⟩
  rintro b' w6 ⟨hb', c6⟩
  refine brB_of (fun _ => ?_) (fun hf => ?_)
  · refine (alive9_any (hg.no c6)).mono ?_
    rintro e w10 ⟨rfl, c10⟩
    exact ⟨_, rfl, rfl, trN c6 c10⟩
  obtain ⟨h60, h30⟩ := hb' hf
  have hbl := bootM_len 400
  refine (r9boot_any 400 inp (M := 400) (by decide +kernel) w6).mono ?_
  rintro e w12 ⟨S0, rfl, g0, c12⟩
  have z12 := c12.size
  have hbm : ∀ k, S0.mem.blk = some k → w6.heap.size ≤ k ∧ k < w12.heap.size := fun k hk => ⟨(g0.meD k hk).1, g0.me.lt hk⟩
  obtain ⟨n1, n2, n3, n4, n5, n6, n7⟩ := g0.nums
  obtain ⟨S1, hS1⟩ : ∃ S1 : StC, S1 = { S0 with ip := 200, status := 0 } := ⟨_, rfl⟩
  have hmem : S1.mem = S0.mem := by rw [hS1]
  refine ⟨_, _, _, _, _, _, _, _, _, _, rfl, varSt S0 fun b23 w25 hb23 z25 o23 c25 => setSt { S0 with ip := 200 } o23 (by decide) rfl rfl fun w26 o26 c26 => setSt S1 o26 (by decide) rfl (by rw [hS1]; rfl) fun w27 o27 c27 => ?_⟩
  have d27 : Chg (fun j => j = b23) w25 w27 := c26.trans c27 (fun _ _ h => h) (fun _ _ h => h)
  have hne : S0.mem.blk ≠ some b23 := fun he => by have := hbm _ he; omega
  have z27 := d27.size
  have z6 := c6.size
  have k27 : Chg No w w27 := (trN (trN c6 c12) c25).trans d27 (fun _ _ h => h) (fun k hk he => by omega)
  have m27 : Ox intE w27 S0.mem (bootM 400) := (g0.me.no c25).ox.chg d27 (fun k hk he => hne (by rw [hk]; exact congrArg some he))
  have hheld : held (fun w' => Ob w' b23 (stC S1) T_api_State) ⟨b23, 4, none⟩ S0.mem.val := by rw [← hmem]; exact Ob.held (fun w' h => h) rfl
  have hcell : ∀ {w' : World}, Ob w' b23 (stC S1) T_api_State → w'.cell? ⟨b23, 4, none⟩ = some S0.mem.val := fun h => by rw [← hmem]; exact h.cell rfl
  refine ⟨fun a t i w' => ∃ j : Nat, a = 200 + 3 * (j : Int) ∧ t = bs ((l.take j).map byteC) ∧ i = j ∧ j ≤ l.length ∧ Ox intE w' S0.mem (lay (bootM 400) 200 (emitsC (l.take j))) ∧ Chg (fun x => S0.mem.blk = some x) w27 w', fun _ _ i _ => l.length - i.toNat, ⟨0, rfl, rfl, rfl, Nat.zero_le _, by rw [List.take_zero]; show Ox intE w27 S0.mem (lay (bootM 400) 200 []); rw [lay_nil]; exact m27, Chg.refl _ _⟩, ?_⟩
  rintro a t i w28 ⟨j, rfl, rfl, rfl, hj, g28, c28⟩
  have k28 : Chg No w w28 := k27.trans c28 (fun _ _ h => h) (fun k hk he => by have := hbm k he; omega)
  have o28 := o27.chg c28 hne
  have hlj : (emitsC (l.take j)).length = 3 * j := by rw [emitsC_len, List.length_take]; omega
  refine brB_of (fun hlt => ?_) (fun hge => ?_)
  · have hlt : j < l.length := by have := of_decide_eq_true hlt; omega
    intro w30 hw30
    have c30 := dw hw30
    have p30 := o28.no c30
    have k30 := trN k28 c30
    rw [wr_in (x := 200 + 3 * (j : Int) + 1) (by omega), wr_in (x := 200 + 3 * (j : Int) + 2) (by omega), wr_in (x := 200 + 3 * (j : Int) + 3) (by omega), wr_in (x := (j : Int) + 1) (by omega)]
    refine ⟨fun w' => Ob w' b23 (stC S1) T_api_State ∧ Rd intE w' lS l, ⟨p30, hl.no k30⟩, S0.mem, fun w' h => hheld w' h.1, S0.mem, fun w' h => hheld w' h.1, S0.mem, fun w' h => hheld w' h.1, ?_⟩
    refine Rd.hix (S := fun w' => Ob w' b23 (stC S1) T_api_State ∧ Rd intE w' lS l) ⟨p30, hl.no k30⟩ (fun w' h => h.2) (i := (j : Int)) (by omega) (x := l[j]) (by rw [Int.toNat_natCast]; exact List.getElem?_eq_getElem hlt) fun ad _ hcl => ?_
    have q := hcl 0 _ rfl
    rw [add0] at q
    refine ⟨_, q, ?_⟩
    have hlb : ∀ {w1 w2 : World}, Chg No w w1 → Chg (fun x => S0.mem.blk = some x) w1 w2 → Chg No w w2 := fun h c => h.trans c (fun _ _ h => h) (fun k hk he => by have := hbm k he; omega)
    have r30 := hl.no k30
    refine setLay (g28.no c30) (by rw [hlj]; omega) (by rw [hlj, hbl]; omega) fun w39 g39 c39 => ⟨⟨p30.chg c39 hne, hl.no (hlb k30 c39)⟩, setLay g39 (by simp [hlj]; omega) (by simp [hlj, hbl]; omega) fun w41 g41 c41 => ⟨⟨(p30.chg c39 hne).chg c41 hne, hl.no (hlb (hlb k30 c39) c41)⟩, setLay g41 (by simp [hlj]; omega) (by simp [hlj, hbl]; omega) fun w43 g43 c43 => ?_⟩⟩
    have r43 := hl.no (hlb (hlb (hlb k30 c39) c41) c43)
    refine r43.ix (i := (j : Int)) (by omega) (x := l[j]) (by rw [Int.toNat_natCast]; exact List.getElem?_eq_getElem hlt) fun ad _ hcl => ?_
    have q := hcl 0 _ rfl
    rw [add0] at q
    refine ⟨_, q, ?_⟩
    intro b47 w48 hb47 hw48
    obtain ⟨l48, c48⟩ := lit8 (byteC l[j]) (byte_lit _) hb47 hw48
    refine ⟨_, w48, u8_str (s := ⟨some ⟨b47, 0, none⟩, 1, 1⟩) l48.rd (by simp), ?_⟩
    have esz : (bs ((l.take j).map byteC)).size = j := by show ((l.take j).map byteC).length = j; rw [List.length_map, List.length_take]; omega
    have esz2 : (bs [byteC l[j]]).size = 1 := rfl
    refine ⟨by omega, ⟨j + 1, by omega, ?_, by omega, by omega, ?_, ((((c28.trans c30 (fun _ _ h => h) (fun _ _ h => h.elim)).trans c39 (fun _ _ h => h) (fun _ _ h => h)).trans c41 (fun _ _ h => h) (fun _ _ h => h)).trans c43 (fun _ _ h => h) (fun _ _ h => h)).trans c48 (fun _ _ h => h) (fun _ _ h => h.elim)⟩, by show l.length - Int.toNat ((j : Int) + 1) < l.length - Int.toNat (j : Int); omega⟩
    · rw [take_snoc hlt, List.map_append]
      apply ByteArray.ext; rw [ByteArray.data_append]; simp
    · rw [take_snoc hlt, emitsC_snoc]
      rw [List.append_assoc, List.append_assoc] at g43
      exact g43.no c48
  have hge : j = l.length := by have := of_decide_eq_false hge; omega
  subst hge
  rw [List.take_length] at g28 hlj ⊢
  refine ⟨fun a i w' => ∃ j : Nat, a = 200 + 3 * (l.length : Int) + j ∧ i = j ∧ j ≤ 20 ∧ Ox intE w' S0.mem (lay (bootM 400) 200 (emitsC l ++ List.replicate j 43)) ∧ Chg (fun x => S0.mem.blk = some x) w27 w', fun _ i _ => 20 - i.toNat, ⟨0, by omega, rfl, by omega, by simpa using g28, c28⟩, ?_⟩
  rintro a i w51 ⟨j, rfl, rfl, hj20, g51, c51⟩
  have k51 : Chg No w w51 := k27.trans c51 (fun _ _ h => h) (fun k hk he => by have := hbm k he; omega)
  have o51 := o27.chg c51 hne
  have hll : (emitsC l ++ List.replicate j 43).length = 3 * l.length + j := by rw [List.length_append, hlj, List.length_replicate]
  refine brB_of (fun hlt => ?_) (fun hge => ?_)
  · have hlt : j < 20 := by have := of_decide_eq_true hlt; omega
    rw [wr_in (x := 200 + 3 * (l.length : Int) + (j : Int) + 1) (by omega), wr_in (x := (j : Int) + 1) (by omega)]
    refine ⟨S0.mem, hcell o51, setLay g51 (by rw [hll]; omega) (by rw [hll, hbl]; omega) fun w56 g56 c56 => ⟨⟨j + 1, by omega, by omega, by omega, ?_, c51.trans c56 (fun _ _ h => h) (fun _ _ h => h)⟩, by show 20 - Int.toNat ((j : Int) + 1) < 20 - Int.toNat (j : Int); omega⟩⟩
    rw [List.append_assoc, ← List.replicate_succ'] at g56
    exact g56
  have hge : j = 20 := by have := of_decide_eq_false hge; omega
  subst hge
  refine ⟨S0.mem, hcell o51, setLay g51 (by rw [hll]; omega) (by rw [hll, hbl]; omega) fun w59 g59 c59 => ?_⟩
  rw [List.append_assoc] at g59
  have o59 := o51.chg c59 hne
  have d59 : Chg (fun x => S0.mem.blk = some x) w27 w59 := c51.trans c59 (fun _ _ h => h) (fun _ _ h => h)
  have k59 : Chg No w w59 := k27.trans d59 (fun _ _ h => h) (fun k hk he => by have := hbm k he; omega)
  obtain ⟨M, hM⟩ : ∃ M, M = lay (bootM 400) 200 (emitsC l ++ (List.replicate 20 43 ++ [0])) := ⟨_, rfl⟩
  have hcl : (emitsC l ++ (List.replicate 20 43 ++ [0]) : List Int).length = 3 * l.length + 21 := by rw [List.length_append, hlj, List.length_append, List.length_replicate]; rfl
  have hMl : M.length = 400 := by rw [hM, lay_len (by rw [hbl, hcl]; omega), hbl]
  rw [← hM] at g59
  have hs1 : StIs (fun _ => True) w59 S1 ⟨200, 0, [], [], M, bs [], inp, 0, 0, 0⟩ := by
    rw [hS1]
    refine ⟨⟨rfl, n2, n3, n4, n5, rfl, n7⟩, ((((g0.st.no c25).ox.chg d27 (fun k hk he => by have := g0.st.lt hk; omega))).chg d59 (fun k hk he => (g0.meD k he).2.1 hk)).rd, ((((g0.bk.no c25).ox.chg d27 (fun k hk he => by have := g0.bk.lt hk; omega))).chg d59 (fun k hk he => (g0.meD k he).2.2 hk)).rd, g59.rd, fun _ _ => trivial, fun _ _ => trivial, fun _ _ => trivial⟩
  have ok : MOk ⟨200, 0, [], [], M, bs [], inp, 0, 0, 0⟩ := ⟨by show 0 ≤ 48; omega, by show 0 ≤ 48; omega, by show M.length ≤ 3000; omega, by show 0 ≤ 2000; omega, ⟨by show (0 : Int) ≤ 0; omega, by show (0 : Int) ≤ _; exact Int.natCast_nonneg _⟩, by show inp.size ≤ _; omega⟩
  obtain ⟨kk, hr⟩ := talks_law (M := M) (l := l) (inp := inp) (by rw [hM]; exact has_lay (at_ := 200) (by rw [hbl, hcl]; omega)) h30
  have hr : runM ⟨200, 0, [], [], M, bs [], inp, 0, 0, 0⟩ 500 = _ := runM_eq (k := 500) hr
  refine rdSt o59 ((irun_any S1 hs1 ok (hg.no k59) 500 (by decide)).mono ?_)
  rintro e w71 ⟨S2, rfl, g2, c71⟩
  rw [hr] at g2 ⊢
  have k71 := trN k59 c71
  refine ⟨_, _, _, _, _, _, _, _, _, _, _, rfl, varSt S2 fun b83 w85 hb83 z85 o83 c85 => ?_⟩
  have k85 := trN k71 c85
  have g85 := stxA (g2.no c85)
  obtain ⟨u1, u2, u3, u4, u5, u6, u7⟩ := g85.nums
  have l2 : S2.stack.len = ((List.range 20).map (keyV inp)).length := g85.st.len
  rw [List.length_map, List.length_range] at l2
  refine ⟨fun b w' => b = false ∧ w' = w85, ?_, S2.status, o83.cell rfl, brB_f'' (by rw [u6]; rfl) ⟨S2.out, o83.cell rfl, brB_f'' (by rw [u3]; simp) ⟨S2.stack, o83.cell rfl, brB_f'' (by rw [l2]; rfl) ⟨S2.read, o83.cell rfl, ?_, rfl⟩⟩⟩⟩
  rotate_left
  · rw [u5]
    have : imin 20 (inp.size : Int) = ((min 20 inp.size : Nat) : Int) := imin_nat 20 _
    rw [this]; simp
  rintro b w90 ⟨rfl, rfl⟩
  refine brB_f ⟨fun i w' => ∃ j : Nat, i = j ∧ j ≤ 20 ∧ w' = w90, fun i _ => 20 - i.toNat, ⟨0, rfl, by omega, rfl⟩, ?_⟩
  rintro i w92 ⟨j, rfl, hj, rfl⟩
  refine brB_of (fun hlt => ?_) (fun _ => ⟨rfl, k85⟩)
  have hlt : j < 20 := by have := of_decide_eq_true hlt; omega
  refine ⟨fun x w' => x = keyV inp j ∧ w' = w92, ?_, ?_⟩
  · rintro x w94 ⟨rfl, rfl⟩
    refine ⟨S2.stack, o83.cell rfl, ?_⟩
    refine g85.st.ix (i := (j : Int)) (by omega) (x := keyV inp j) (by rw [Int.toNat_natCast]; show ((List.range 20).map (keyV inp))[j]? = _; rw [List.getElem?_map, List.getElem?_range hlt]; rfl) fun ad _ hcl => ?_
    have q := hcl 0 _ rfl
    rw [add0] at q
    rw [wr_in (by omega)]
    exact ⟨_, q, brB_f'' (by simp) ⟨⟨j + 1, by omega, by omega, rfl⟩, by show 20 - Int.toNat ((j : Int) + 1) < 20 - Int.toNat (j : Int); omega⟩⟩
  · refine brB_of (fun hx => ?_) (fun hx => ?_)
    · have hx := of_decide_eq_true hx
      refine ⟨by omega, hx, ?_, rfl⟩
      have := sb_byte inp j
      rw [wr_in (by omega)]
      unfold keyV; rw [if_neg (by omega)]
    · have hx := of_decide_eq_false hx
      refine ⟨?_, rfl⟩
      unfold keyV; rw [if_pos (by omega)]
end Go.Proofs.YtkjpmkopnkkbmaaDoor
