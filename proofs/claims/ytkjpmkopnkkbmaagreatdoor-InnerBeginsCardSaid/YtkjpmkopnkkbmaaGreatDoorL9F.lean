/- InnerBegins: the walk. -/
import Derived.Test.YtkjpmkopnkkbmaaGreatDoorBkJ
import Derived.Test.YtkjpmkopnkkbmaaGreatDoorLenI
import Derived.Test.YtkjpmkopnkkbmaaGreatDoorInR
import Derived.Test.YtkjpmkopnkkbmaaGreatDoorRcD
import Derived.Test.YtkjpmkopnkkbmaaGreatDoorRmB
import Derived.Test.YtkjpmkopnkkbmaaGreatDoorZlG
set_option maxRecDepth 100000
namespace Go.Proofs.YtkjpmkopnkkbmaaGreatDoor
open Go.RowKit

theorem BkJ.reset {D P X : Nat → Prop} {w w' : World} {b : Nat} (h : BkJ D P w b) (c : Chg X w w') (hX : ∀ k, X k → w.heap.size ≤ k) : BkJ (fun k => (D k ∧ k < w.heap.size) ∨ w'.heap.size ≤ k) (fun k => (P k ∧ k < w.heap.size) ∨ w'.heap.size ≤ k) w' b :=
  (h.nar.chg c (fun k hk hx => by have := hX k hx; omega)).wid (fun _ h => Or.inl h) (fun _ h => Or.inl h)
theorem stC_inj {a b : StC} (h : stC a = stC b) : a = b := by
  obtain ⟨a1, a2, ⟨p1, l1, c1⟩, ⟨p2, l2, c2⟩, ⟨p3, l3, c3⟩, a6, a7, a8, a9, a10⟩ := a
  obtain ⟨b1, b2, ⟨q1, m1, d1⟩, ⟨q2, m2, d2⟩, ⟨q3, m3, d3⟩, b6, b7, b8, b9, b10⟩ := b
  simp only [stC, List.cons.injEq, Value.int.injEq, Value.string.injEq, val_eq, Value.slice.injEq, and_true, true_and] at h
  obtain ⟨rfl, rfl, ⟨rfl, rfl, rfl⟩, ⟨rfl, rfl, rfl⟩, ⟨rfl, rfl, rfl⟩, rfl, rfl, rfl, rfl, rfl⟩ := h
  rfl
/-- An entry: a machine, or a new place for one. -/
def EntV (f : Nat → Option StV) (e : Nat × List Value) (lo hi : Nat) (w : World) : Prop := match f e.1 with
  | some s => ∃ S : StC, e.2 = stC S ∧ StX (fun k => lo ≤ k ∧ k < hi) w S s
  | none => ∃ a : Nat, e.2 = [.pointer (some ⟨a, 0, none⟩)] ∧ Ob w a (stC st0) T_api_State ∧ lo ≤ a ∧ a < hi
theorem EntV.no {f : Nat → Option StV} {e : Nat × List Value} {lo hi : Nat} {w w' : World} (h : EntV f e lo hi w) (c : Chg No w w') : EntV f e lo hi w' := by
  unfold EntV at h ⊢
  cases hf : f e.1 with
  | some r => rw [hf] at h; obtain ⟨R, h1, h2⟩ := h; exact ⟨R, h1, h2.no c⟩
  | none => rw [hf] at h; obtain ⟨a, h1, h2, h3⟩ := h; exact ⟨a, h1, h2.no c, h3⟩
theorem innerBegins_walk {w : World} (n : Int) (inp : ByteArray) (S : StC) {s : StV} (h : StIs (fun _ => True) w S s) (hg : Gl w) (xt code : Int) :
    Calls Tryz.prog fn_hollowaylaw9_InnerBegins #[.int .i64 n, .string inp, .agg (stC S).toArray, .int .i64 xt, .int .i64 code] w fun e w' => e = .returned (.bool true) ∧ Chg No w w' := by
  refine (hollowaylaw9_InnerBegins_lift (K := fun v w' => v = .bool true ∧ Chg No w w') ?_).mono (by rintro e w' ⟨v, rfl, rfl, h⟩; exact ⟨rfl, h⟩)
  unfold hollowaylaw9_InnerBegins_sh
  refine inSt S fun b15 w16 hb15 z16 o15 c16 => ?_
  have l1 := h.st.len
  have l2 := h.bk.len
  have l3 := h.me.len
  refine ⟨fun b' w' => (b' = false → s.stack.length ≤ 200 ∧ s.back.length ≤ 200 ∧ s.mem.length ≤ 4000) ∧ Chg No w16 w', ?_, ?_⟩
  rotate_left
  · have yes : (true = false → s.stack.length ≤ 200 ∧ s.back.length ≤ 200 ∧ s.mem.length ≤ 4000) ∧ Chg No w16 w16 := ⟨(fun h => by cases h), Chg.refl _ _⟩
    refine brB_of (fun _ => yes) (fun _ => ⟨S.mem, o15.cell rfl, brB_of (fun _ => yes) (fun t2 => ⟨S.stack, o15.cell rfl, brB_of (fun _ => yes) (fun t3 => ⟨S.back, o15.cell rfl, brB_of (fun _ => yes) (fun t4 => ⟨S.out, o15.cell rfl, brB_of (fun _ => yes) (fun _ => ⟨S.inp, o15.cell rfl, brB_of (fun _ => yes) (fun _ => brB_of (fun _ => yes) (fun _ => ?_))⟩)⟩)⟩)⟩)⟩)
    have t2 := of_decide_eq_false t2
    have t3 := of_decide_eq_false t3
    have t4 := of_decide_eq_false t4
    refine (alive9_any (hg.no c16)).mono ?_
    rintro e w23 ⟨rfl, c23⟩
    exact ⟨_, rfl, fun _ => ⟨by omega, by omega, by omega⟩, c23⟩
  rintro b' w25 ⟨hb, c25⟩
  have k25 := trN c16 c25
  refine brB_of (fun _ => ?_) (fun hf => ?_)
  · refine (alive9_any (hg.no k25)).mono ?_
    rintro e w28 ⟨rfl, c28⟩
    exact ⟨_, rfl, rfl, trN k25 c28⟩
  obtain ⟨n1, n2, n3⟩ := hb hf
  obtain ⟨M, hM⟩ : ∃ M : Nat, imin (imax n 0) 3000 = (M : Int) := ⟨(imin (imax n 0) 3000).toNat, by unfold imin imax; split <;> split <;> omega⟩
  have hM' : M ≤ 3000 := by unfold imin at hM; split at hM <;> omega
  have p15 := o15.no c25
  intro b30 w31 hb30 hw31
  have c31 := al hw31
  have z31 : w31.heap.size = w25.heap.size + 1 := by rw [hw31]; simp
  have o30 : Ob w31 b30 (bookI nilS nilS) T_hollowaybook_Book := by rw [hw31, hb30]; exact Ob.new w25 (bookI nilS nilS) T_hollowaybook_Book
  refine (iboot_any n inp hM w31).mono ?_
  rintro e w33 ⟨B, rfl, xB, c33⟩
  have z33 := c33.size
  have lt15 := p15.lt
  refine ⟨_, _, _, _, _, _, _, _, _, _, rfl, varSt B fun b44 w46 hb44 z46 o44 c46 => rdSt o44 ?_⟩
  have kb0 : BkJ (fun k => k = b30 ∨ w46.heap.size ≤ k) (fun k => k = b30 ∨ w46.heap.size ≤ k) w46 b30 := BkJ.empty ((o30.no c33).no c46) (Or.inl rfl) (Or.inl rfl)
  have xB46 := xB.no c46
  have k46 := trN (trN (trN k25 c31) c33) c46
  have lB : (bootV M inp).mem.length = M := by show (bootM M).length = M; rw [← bootP_end]; exact bootP_len M 48
  refine (kb0.state (fun k hk => Or.inr hk) (fun k hk => Or.inr hk) xB46 (Nat.zero_le _) (Nat.zero_le _) (by omega) (D' := fun k => (k = b30 ∨ w46.heap.size ≤ k) ∨ (w31.heap.size ≤ k ∧ k < w33.heap.size)) (fun k hk => Or.inl hk) (fun k hk => ⟨Or.inr hk, by omega, by omega⟩)).mono ?_
  rintro e w58 ⟨rfl, kb1, c58⟩
  have z58 := c58.size
  have q15 : Ob w58 b15 (stC S) T_api_State := ((((p15.no c31).no c33).no c46)).chg c58 (fun he => by omega)
  have q44 : Ob w58 b44 (stC B) T_api_State := o44.chg c58 (fun he => by omega)
  have xB58 := xB46.chg c58 (fun k hk he => by omega)
  have k58 : Chg No w w58 := k46.trans c58 (fun _ _ h => h) (fun k hk he => by have := k25.size; omega)
  refine ⟨rfl, fun b w' => b = false ∧ Chg No w58 w', ?_, ?_⟩
  rotate_left
  · intro w59 hw59
    have c59 := dw hw59
    have k59 := trN k58 c59
    have r15 := q15.no c59
    have r44 := q44.no c59
    refine ⟨fun w' => Chg No w59 w', Chg.refl _ _, hdSt (fun w' c => r44.no c) ?_⟩
    refine (r9boot_any n inp hM w59).mono ?_
    rintro e w72 ⟨R, rfl, xR, c72⟩
    refine ⟨_, _, _, _, _, _, _, _, _, _, rfl, c72, (sameState_any B R (xB58.no (trN c59 c72)).is xR.is).mono ?_⟩
    rintro e w84 ⟨rfl, c84⟩
    have d84 := trN c72 c84
    refine ⟨_, rfl, d84, brN_f (hdSt (fun w' c => r15.no c) (hdSt (fun w' c => r15.no c) ?_))⟩
    refine (iright_any S (h.no (trN k59 d84))).mono ?_
    rintro e w107 ⟨bi, rfl, hbi, c107⟩
    have d107 := trN d84 c107
    refine ⟨bi, rfl, d107, (r9right_any S (h.no (trN k59 d107))).mono ?_⟩
    rintro e w110 ⟨br, rfl, hbr, c110⟩
    have d110 := trN d107 c110
    have ebr : bi = br := by rw [Bool.eq_iff_iff, hbi, hbr]
    refine ⟨br, rfl, d110, ?_⟩
    rw [ebr, beq_self_eq_true]
    refine brN_f (hdSt (fun w' c => r15.no c) (hdSt (fun w' c => r15.no c) ?_))
    refine (icopy_any S (h.no (trN k59 d110)) (by omega) (by omega) (by omega)).mono ?_
    rintro e w133 ⟨C, rfl, xC, c133⟩
    have d133 := trN d110 c133
    refine ⟨_, _, _, _, _, _, _, _, _, _, rfl, d133, (sameState_any C S xC.is (h.no (trN k59 d133))).mono ?_⟩
    rintro e w145 ⟨rfl, c145⟩
    exact ⟨_, rfl, rfl, trN c59 (trN d133 c145)⟩
  rintro b w147 ⟨rfl, c147⟩
  have k147 := trN k58 c147
  refine brB_f (rdSt (q15.no c147) ?_)
  refine (icopy_any S (h.no k147) (by omega) (by omega) (by omega)).mono ?_
  rintro e w160 ⟨C, rfl, xC, c160⟩
  refine ⟨_, _, _, _, _, _, _, _, _, _, rfl, varSt C fun b171 w173 hb171 z173 o171 c173 => rdSt o171 ?_⟩
  have d173 := trN (trN c147 c160) c173
  have z147 := c147.size
  have z160 := c160.size
  have kb2 := kb1.reset d173 (fun _ h => h.elim)
  have s15 := q15.no d173
  have k173 := trN k58 d173
  refine (kb2.state (fun k hk => Or.inr hk) (fun k hk => Or.inr hk) (xC.x.no c173) (by omega) (by omega) (by omega) (D' := fun k => (w25.heap.size ≤ k ∧ k ≠ b44)) (fun k hk => by omega) (fun k hk => ⟨by omega, by omega, by omega⟩)).mono ?_
  rintro e w185 ⟨rfl, kb3, c185⟩
  have z185 := c185.size
  have u15 : Ob w185 b15 (stC S) T_api_State := s15.chg c185 (fun he => by omega)
  have k185 : Chg No w w185 := k173.trans c185 (fun _ _ h => h) (fun k hk he => by have := k25.size; omega)
  refine ⟨rfl, fun w' => ∃ D P, BkJ D P w' b30 ∧ Chg No w w' ∧ ∀ k, D k → w25.heap.size ≤ k, ?_, ?_⟩
  · rintro w430 ⟨D, P, kb, k430, hD⟩
    refine kb.apart.mono ?_
    rintro e w432 ⟨rfl, c432⟩
    exact ⟨_, rfl, rfl, k430.trans c432 (fun _ _ h => h) (fun k hk he => by have := hD k he; have := k25.size; omega)⟩
  refine rdSt u15 ((r9right_any S (h.no k185)).mono ?_)
  rintro e w197 ⟨br, rfl, hbr, c197⟩
  have k197 := trN k185 c197
  refine ⟨br, rfl, brB_of (fun ht => ?_) (fun _ => ⟨_, _, kb3.no c197, k197, fun k hk => hk.1⟩)⟩
  have hR := hbr.1 ht
  have r1 := hR.st
  have r2 := hR.bk
  have r3 := hR.me
  refine rdSt (u15.no c197) ((lentState_any S (h.no k197) (by omega) (by omega) (by omega)).mono ?_)
  rintro e w210 ⟨M1, rfl, xM, c210⟩
  refine ⟨_, _, _, _, _, _, _, _, _, _, rfl, varSt M1 fun b221 w223 hb221 z223 o221 c223 => ?_⟩
  intro w224 hw224
  have c224 := dw hw224
  have z197 := c197.size
  have z210 := c210.size
  have z223' := c223.size
  have z224 := c224.size
  have d224 := trN (trN (trN c197 c210) c223) c224
  have k224 := trN k185 d224
  have o221 := o221.no c224
  have xM := (xM.no c223).no c224
  have u15 := u15.no d224
  obtain ⟨f, hf'⟩ : ∃ f : Nat → Option StV, f = fun i => if i = 2 then some (enterV s xt) else if i = 5 then some (mFault s code) else none := ⟨_, rfl⟩
  have f2 : f 2 = some (enterV s xt) := by rw [hf']; rfl
  have f5 : f 5 = some (mFault s code) := by rw [hf']; rfl
  have f6 : f 6 = none := by rw [hf']; rfl
  have f7 : f 7 = none := by rw [hf']; rfl
  have alA : ∀ (i : Nat), f i = none → ∀ (lg : List (Nat × List Value)) (w1 : World), Chg No w224 w1 → ZL (EntV f) w224.heap.size lg w1 → ∀ (a : Nat) (w2 : World), a = w1.heap.size → w2 = World.alloc w1 (.cells (stC st0).toArray T_api_State) → Chg No w224 w2 ∧ True ∧ ZL (EntV f) w224.heap.size (lg ++ [(i, [.pointer (some ⟨a, 0, none⟩)])]) w2 := by
    intro i hi lg w1 c1 hZ a w2 ha hw2
    have c2 := al hw2
    have z2 : w2.heap.size = w1.heap.size + 1 := by rw [hw2]; simp
    refine ⟨trN c1 c2, trivial, hZ.snoc c1.size c2.size (fun e a b h => h.no c2) ?_⟩
    show EntV f (i, _) _ _ _
    unfold EntV
    rw [hi]
    exact ⟨a, rfl, by rw [hw2, ha]; exact Ob.new w1 (stC st0) T_api_State, by omega, by omega⟩
  refine ⟨fun w' => Chg No w224 w', Chg.refl _ _, hdSt (fun w' c => o221.no c) (hdSt (fun w' c => o221.no c) ⟨ZL (EntV f) w224.heap.size, ZL.nil _ _ _, ?_⟩)⟩
  refine ⟨fun lg w1 c1 hZ => (ienter_any M1 (xM.no c1).is (by omega) (by omega) (by omega) xt).mono ?_, fun lg w1 c1 hZ => (ifault_any M1 (xM.no c1).is (by omega) (by omega) (by omega) code).mono ?_, fun lg w1 c1 hZ => alA 6 f6 lg w1 c1 hZ, fun lg w1 c1 hZ => alA 7 f7 lg w1 c1 hZ, ?_⟩
  · rintro e w2 ⟨E, rfl, gE, c2⟩
    refine ⟨_, _, _, _, _, _, _, _, _, _, rfl, trN c1 c2, trivial, hZ.snoc c1.size c2.size (fun e a b h => h.no c2) ?_⟩
    show EntV f (2, stC E) _ _ _
    unfold EntV
    rw [f2]
    exact ⟨E, rfl, gE.x⟩
  · rintro e w2 ⟨E, rfl, gE, c2⟩
    refine ⟨_, _, _, _, _, _, _, _, _, _, rfl, trN c1 c2, trivial, hZ.snoc c1.size c2.size (fun e a b h => h.no c2) ?_⟩
    show EntV f (5, stC E) _ _ _
    unfold EntV
    rw [f5]
    exact ⟨E, rfl, gE⟩
  intro lg w284 c284 hZ n285 n286 s287 s288 s289 t290 t291 n292 n293 n294 inA n295 n296 s297 s298 s299 t300 t301 n302 n303 n304 inB x93 inx y94 iny
  obtain ⟨rng, z1, z2⟩ := hZ
  obtain ⟨A, hA⟩ : ∃ A : StC, A = ⟨n285, n286, s287, s288, s289, t290, t291, n292, n293, n294⟩ := ⟨_, rfl⟩
  obtain ⟨Q, hQ⟩ : ∃ Q : StC, Q = ⟨n295, n296, s297, s298, s299, t300, t301, n302, n303, n304⟩ := ⟨_, rfl⟩
  have inA' : (2, stC A) ∈ lg := by rw [hA]; exact inA
  have inB' : (5, stC Q) ∈ lg := by rw [hQ]; exact inB
  have ne : ∀ {i j : Nat} {x y : List Value}, i ≠ j → (i, x) ≠ (j, y) := fun h e => h (congrArg Prod.fst e)
  obtain ⟨EA, EA1, EA2⟩ := z1 _ inA'
  obtain ⟨EB, EB1, EB2⟩ := z1 _ inB'
  obtain ⟨Ex, Ex1, Ex2⟩ := z1 _ inx
  obtain ⟨Ey, Ey1, Ey2⟩ := z1 _ iny
  have dAB := z2 _ inA' _ inB' (ne (by decide))
  have dAx := z2 _ inA' _ inx (ne (by decide))
  have dAy := z2 _ inA' _ iny (ne (by decide))
  have dBx := z2 _ inB' _ inx (ne (by decide))
  have dBy := z2 _ inB' _ iny (ne (by decide))
  have dxy := z2 _ inx _ iny (ne (by decide))
  generalize rng (2, stC A) = rA at *
  generalize rng (5, stC Q) = rB at *
  generalize rng (6, [.pointer (some ⟨x93, 0, none⟩)]) = rx at *
  generalize rng (7, [.pointer (some ⟨y94, 0, none⟩)]) = ry at *
  unfold EntV at EA EB Ex Ey
  simp only [f2, f5, f6, f7] at EA EB Ex Ey
  obtain ⟨A', hA', gA⟩ := EA
  obtain rfl := stC_inj hA'
  obtain ⟨B', hB', gB⟩ := EB
  obtain rfl := stC_inj hB'
  obtain ⟨x', hx', ox, lx1, lx2⟩ := Ex
  obtain rfl : x93 = x' := by injection hx' with h1 _; injection h1 with h1; injection h1 with h1; injection h1
  obtain ⟨y', hy', oy, ly1, ly2⟩ := Ey
  obtain rfl : y94 = y' := by injection hy' with h1 _; injection h1 with h1; injection h1 with h1; injection h1
  have k284 := trN k224 c284
  have hxy : x93 ≠ y94 := fun he => by omega
  refine setSt A ox (by decide) rfl (by rw [hA]; rfl) fun w307 o307 c307 => setSt Q (oy.chg c307 (fun he => hxy he.symm)) (by decide) rfl (by rw [hQ]; rfl) fun w308 o308 c308 => ?_
  have p307 := o307.chg c308 (fun he => hxy he)
  have d308 : Chg (fun j => j = x93 ∨ j = y94) w284 w308 := c307.trans c308 (fun _ _ h => Or.inl h) (fun _ _ h => Or.inr h)
  have z284 := c284.size
  have z308 := d308.size
  have gA := gA.chg d308 (fun k hk he => by rcases he with he | he <;> omega)
  have gB := gB.chg d308 (fun k hk he => by rcases he with he | he <;> omega)
  have k308 : Chg No w w308 := k284.trans d308 (fun _ _ h => h) (fun k hk he => by have := k25.size; rcases he with he | he <;> omega)
  have e308 : Chg (fun j => j = x93 ∨ j = y94) w185 w308 := ((trN d224 c284).trans d308 (fun _ _ h => h.elim) (fun _ _ h => h))
  have kb4 := kb3.reset e308 (fun k hk => by rcases hk with hk | hk <;> omega)
  have v15 : Ob w308 b15 (stC S) T_api_State := (u15.no c284).chg d308 (fun he => by rcases he with he | he <;> omega)
  have v221 : Ob w308 b221 (stC M1) T_api_State := (o221.no c284).chg d308 (fun he => by have := o221.lt; rcases he with he | he <;> omega)
  have xM := (xM.no c284).chg d308 (fun k hk he => by rcases he with he | he <;> omega)
  have lt221 := o221.lt
  have lA : (enterV s xt).stack.length ≤ 48 ∧ (enterV s xt).back.length = 1 ∧ (enterV s xt).mem.length ≤ 3000 := ⟨r1, rfl, r3⟩
  have lQ : (mFault s code).stack.length ≤ 1000000 ∧ (mFault s code).back.length ≤ 1000000 ∧ (mFault s code).mem.length ≤ 1000000 := by
    unfold mFault
    split
    · next kk hk =>
      have hk48 : kk < 48 := by unfold mCaught at hk; split at hk; · { injection hk with hk; omega }; · cases hk
      refine ⟨?_, ?_, by show s.mem.length ≤ _; omega⟩
      · show ((s.stack.take kk ++ List.replicate (kk - s.stack.length) 0) ++ [code]).length ≤ _
        simp only [List.length_append, List.length_take, List.length_replicate, List.length_cons, List.length_nil]; omega
      · show (s.back.take _).length ≤ _
        rw [List.length_take]; omega
    · exact ⟨by show s.stack.length ≤ _; omega, by show s.back.length ≤ _; omega, by show s.mem.length ≤ _; omega⟩
  refine rdSt p307 ((kb4.state (fun k hk => Or.inr hk) (fun k hk => Or.inr hk) gA (by omega) (by omega) (by omega) (D' := fun k => ((w25.heap.size ≤ k ∧ k < w185.heap.size) ∨ w308.heap.size ≤ k) ∨ (rA.1 ≤ k ∧ k < rA.2)) (fun k hk => by omega) (fun k hk => ⟨Or.inr hk, by omega, by omega⟩)).mono ?_)
  rintro e w320 ⟨rfl, kb5, c320⟩
  have z320 := c320.size
  have gA := gA.chg c320 (fun k hk he => by omega)
  have gB := gB.chg c320 (fun k hk he => by omega)
  have p307 := p307.chg c320 (fun he => by omega)
  have o308 := o308.chg c320 (fun he => by omega)
  have v15 := v15.chg c320 (fun he => by omega)
  have v221 := v221.chg c320 (fun he => by omega)
  have xM := xM.chg c320 (fun k hk he => by omega)
  have k320 : Chg No w w320 := k308.trans c320 (fun _ _ h => h) (fun k hk he => by have := k25.size; omega)
  refine ⟨rfl, rdSt o308 ((kb5.state (fun k hk => Or.inl (Or.inr (by omega))) (fun k hk => Or.inr (by omega)) gB lQ.1 lQ.2.1 lQ.2.2 (D' := fun k => w25.heap.size ≤ k) (fun k hk => by omega) (fun k hk => ⟨by omega, by omega, by omega⟩)).mono ?_)⟩
  rintro e w332 ⟨rfl, kb6, c332⟩
  have z332 := c332.size
  have gA := gA.chg c332 (fun k hk he => by omega)
  have gB := gB.chg c332 (fun k hk he => by omega)
  have p307 := p307.chg c332 (fun he => by omega)
  have o308 := o308.chg c332 (fun he => by omega)
  have v15 := v15.chg c332 (fun he => by omega)
  have v221 := v221.chg c332 (fun he => by omega)
  have xM := xM.chg c332 (fun k hk he => by omega)
  have k332 : Chg No w w332 := k320.trans c332 (fun _ _ h => h) (fun k hk he => by have := k25.size; omega)
  refine ⟨rfl, fun b w' => b = false ∧ Chg No w332 w', ?_, ?_⟩
  · rintro b w428 ⟨rfl, c428⟩
    exact brB_f ⟨_, _, kb6.no c428, trN k332 c428, fun k hk => hk⟩
  intro w333 hw333
  have c333 := dw hw333
  have k333 := trN k332 c333
  have p307 := p307.no c333
  have o308 := o308.no c333
  have v15 := v15.no c333
  have v221 := v221.no c333
  refine ⟨fun w' => Chg No w333 w', Chg.refl _ _, hdSt (fun w' c => p307.no c) (hdSt (fun w' c => v15.no c) ?_)⟩
  refine (r9enter_any S (h.no k333) xt).mono ?_
  rintro e w356 ⟨bS, rfl, hbS, _, c356⟩
  obtain ⟨m1, m2, m3, m4, m5, m6, m7⟩ := h.nums
  have isE : StIs (fun _ => True) w356 ⟨xt, 0, S.stack, bS, S.mem, S.out, S.inp, S.read, 0, 0⟩ (enterV s xt) := by
    have g := h.no (trN k333 c356)
    exact ⟨⟨rfl, rfl, m3, m4, m5, rfl, rfl⟩, g.st, hbS.rd, g.me, fun _ _ => trivial, fun _ _ => trivial, fun _ _ => trivial⟩
  refine ⟨_, _, _, _, _, _, _, _, _, _, rfl, c356, (sameState_any A ⟨xt, 0, S.stack, bS, S.mem, S.out, S.inp, S.read, 0, 0⟩ (gA.no (trN c333 c356)).is isE).mono ?_⟩
  rintro e w368 ⟨rfl, c368⟩
  have d368 := trN c356 c368
  refine ⟨_, rfl, d368, brN_f (hdSt (fun w' c => o308.no c) (hdSt (fun w' c => v15.no c) ?_))⟩
  have hd0 : Hd (fun _ => True) No w S s := ⟨fun w2 c2 => h.no c2, fun k hk => hk.elim⟩
  refine (rfault_any S hd0 (trN k333 d368) (by omega) (by omega) code).mono ?_
  rintro e w391 ⟨R, rfl, hR2, c391⟩
  have d391 := trN d368 c391
  have isF := hR2 w391 No (Chg.refl _ _) (fun _ _ h => h) (trN k333 d391)
  refine ⟨_, _, _, _, _, _, _, _, _, _, rfl, d391, (sameState_any Q R (gB.no (trN c333 d391)).is isF).mono ?_⟩
  rintro e w403 ⟨rfl, c403⟩
  have d403 := trN d391 c403
  refine ⟨_, rfl, d403, brN_f (hdSt (fun w' c => v221.no c) (hdSt (fun w' c => v15.no c) ?_))⟩
  refine (staysState_any M1 S (xM.no (trN c333 d403)) (h.no (trN k333 d403))).mono ?_
  rintro e w426 ⟨rfl, c426⟩
  exact ⟨_, rfl, rfl, trN c333 (trN d403 c426)⟩
end Go.Proofs.YtkjpmkopnkkbmaaGreatDoor
