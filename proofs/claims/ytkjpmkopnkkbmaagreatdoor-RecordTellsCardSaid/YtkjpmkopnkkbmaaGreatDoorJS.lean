/- Small machines; how arguments are opened. -/
import Derived.Test.YtkjpmkopnkkbmaaGreatDoorJ5
import Derived.Test.YtkjpmkopnkkbmaaGreatDoorJ6
import Derived.Test.YtkjpmkopnkkbmaaGreatDoorJA
import Derived.Test.YtkjpmkopnkkbmaaGreatDoorJR
import Derived.Test.YtkjpmkopnkkbmaaGreatDoorJ2
import Derived.ChangeArms
import Derived.ChangeSlices
import Derived.Test.YtkjpmkopnkkbmaaGreatDoorJ3

/- Small machines; machines alike; a machine at its beginning. -/
set_option maxRecDepth 100000
namespace Go.Proofs.YtkjpmkopnkkbmaaGreatDoor
open Go.RowKit

structure RightS (s : StV) : Prop where
  st : s.stack.length ≤ 48
  bk : s.back.length ≤ 48
  me : s.mem.length ≤ 3000
  out : s.out.size ≤ 2000
  rd : 0 ≤ s.read ∧ s.read ≤ s.inp.size
  status : 0 ≤ s.status ∧ s.status ≤ 2
theorem r9right_any {D : Nat → Prop} {w : World} (S : StC) {s : StV} (h : StIs D w S s) : Calls Tryz.prog fn_hollowayref9_Right #[.agg (stC S).toArray] w fun e w' => ∃ b : Bool, e = .returned (.bool b) ∧ (b = true ↔ RightS s) ∧ Chg No w w' := by
  refine (hollowayref9_Right_lift (K := fun r w' => ∃ b : Bool, r = .bool b ∧ (b = true ↔ RightS s) ∧ Chg No w w') ?_).mono (by rintro e w' ⟨r, rfl, b, rfl, h⟩; exact ⟨b, rfl, h⟩)
  unfold hollowayref9_Right_sh
  intro b11 w12 hb11 hw12
  have o : Ob w12 b11 (stC S) T_api_State := by rw [hw12, hb11]; exact Ob.new w (stC S) T_api_State
  have c := al hw12
  obtain ⟨m1, m2, m3, m4, m5, m6, m7⟩ := h.nums
  have l1 := h.st.len
  have l2 := h.bk.len
  have l3 := h.me.len
  have no : ¬ RightS s → ∃ b : Bool, Value.bool false = .bool b ∧ (b = true ↔ RightS s) ∧ Chg No w w12 := fun h => ⟨false, rfl, ⟨(fun h => by cases h), fun h' => absurd h' h⟩, c⟩
  refine ⟨S.stack, o.cell rfl, brB_of (fun h1 => ?_) (fun h1 => no fun hh => ?_)⟩
  rotate_left
  · have := of_decide_eq_false h1; have := hh.st; omega
  have h1 := of_decide_eq_true h1
  refine ⟨S.back, o.cell rfl, brB_of (fun h2 => ?_) (fun h2 => no fun hh => ?_)⟩
  rotate_left
  · have := of_decide_eq_false h2; have := hh.bk; omega
  have h2 := of_decide_eq_true h2
  refine ⟨S.mem, o.cell rfl, brB_of (fun h3 => ?_) (fun h3 => no fun hh => ?_)⟩
  rotate_left
  · have := of_decide_eq_false h3; have := hh.me; omega
  have h3 := of_decide_eq_true h3
  refine ⟨S.out, o.cell rfl, brB_of (fun h4 => ?_) (fun h4 => no fun hh => ?_)⟩
  rotate_left
  · have := of_decide_eq_false h4; have := hh.out; rw [m3] at *; omega
  have h4 := of_decide_eq_true h4
  refine ⟨S.read, o.cell rfl, brB_of (fun h5 => ?_) (fun h5 => no fun hh => ?_)⟩
  rotate_left
  · have := of_decide_eq_false h5; have := hh.rd; omega
  have h5 := of_decide_eq_true h5
  refine ⟨S.read, o.cell rfl, S.inp, o.cell rfl, brB_of (fun h6 => ?_) (fun h6 => no fun hh => ?_)⟩
  rotate_left
  · have := of_decide_eq_false h6; have := hh.rd; rw [m4] at *; omega
  have h6 := of_decide_eq_true h6
  refine ⟨S.status, o.cell rfl, brB_of (fun h7 => ?_) (fun h7 => no fun hh => ?_)⟩
  rotate_left
  · have := of_decide_eq_false h7; have := hh.status; omega
  have h7 := of_decide_eq_true h7
  rw [m3] at h4
  rw [m4] at h6
  refine ⟨S.status, o.cell rfl, _, rfl, ⟨fun h8 => ?_, fun hh => ?_⟩, c⟩
  · have h8 := of_decide_eq_true h8
    exact ⟨by omega, by omega, by omega, by omega, by omega, by omega⟩
  · have := hh.status
    apply decide_eq_true; omega
structure LightS (s : StV) : Prop where
  right : RightS s
  me : s.mem.length ≤ 700
  inp : s.inp.size ≤ 300
theorem light9_any {D : Nat → Prop} {w : World} (S : StC) {s : StV} (h : StIs D w S s) : Calls Tryz.prog fn_hollowaylaw9_Light #[.agg (stC S).toArray] w fun e w' => ∃ b : Bool, e = .returned (.bool b) ∧ (b = true ↔ LightS s) ∧ Chg No w w' := by
  refine (hollowaylaw9_Light_lift (K := fun r w' => ∃ b : Bool, r = .bool b ∧ (b = true ↔ LightS s) ∧ Chg No w w') ?_).mono (by rintro e w' ⟨r, rfl, b, rfl, h⟩; exact ⟨b, rfl, h⟩)
  unfold hollowaylaw9_Light_sh
  intro b11 w12 hb11 hw12
  have o : Ob w12 b11 (stC S) T_api_State := by rw [hw12, hb11]; exact Ob.new w (stC S) T_api_State
  have c := al hw12
  obtain ⟨m1, m2, m3, m4, m5, m6, m7⟩ := h.nums
  have l3 := h.me.len
  have no : ¬ LightS s → ∃ b : Bool, Value.bool false = .bool b ∧ (b = true ↔ LightS s) ∧ Chg No w w12 := fun h => ⟨false, rfl, ⟨(fun h => by cases h), fun h' => absurd h' h⟩, c⟩
  refine ⟨S.mem, o.cell rfl, brB_of (fun h3 => ?_) (fun h3 => no fun hh => ?_)⟩
  rotate_left
  · have := of_decide_eq_false h3; have := hh.me; omega
  have h3 := of_decide_eq_true h3
  refine ⟨S.inp, o.cell rfl, brB_of (fun h4 => ?_) (fun h4 => no fun hh => ?_)⟩
  rotate_left
  · have := of_decide_eq_false h4; have := hh.inp; rw [m4] at *; omega
  have h4 := of_decide_eq_true h4
  rw [m4] at h4
  refine ⟨_, _, _, _, _, _, _, _, _, _, o.cell rfl, o.cell rfl, o.cell rfl, o.cell rfl, o.cell rfl, o.cell rfl, o.cell rfl, o.cell rfl, o.cell rfl, o.cell rfl, (r9right_any S (h.no c)).mono ?_⟩
  rintro e w26 ⟨b, rfl, hb, c26⟩
  exact ⟨b, rfl, b, rfl, ⟨fun h => ⟨hb.1 h, by omega, by omega⟩, fun h => hb.2 h.right⟩, trN c c26⟩
theorem sameState_any {D D' : Nat → Prop} {w : World} (S S' : StC) {s : StV} (h : StIs D w S s) (h' : StIs D' w S' s) : Calls Tryz.prog fn_hollowaybook_SameState #[.agg (stC S).toArray, .agg (stC S').toArray] w fun e w' => e = .returned (.bool true) ∧ Chg No w w' := by
  refine (hollowaybook_SameState_lift (K := fun r w' => r = .bool true ∧ Chg No w w') ?_).mono (by rintro e w' ⟨r, rfl, rfl, h⟩; exact ⟨rfl, h⟩)
  unfold hollowaybook_SameState_sh
  intro b21 w22 hb21 hw22 b23 w24 hb23 hw24
  have o21 : Ob w24 b21 (stC S) T_api_State := by
    have : Ob w22 b21 (stC S) T_api_State := by rw [hw22, hb21]; exact Ob.new w (stC S) T_api_State
    exact this.no (al hw24)
  have o23 : Ob w24 b23 (stC S') T_api_State := by rw [hw24, hb23]; exact Ob.new w22 (stC S') T_api_State
  have c24 := trN (al hw22) (al hw24)
  obtain ⟨m1, m2, m3, m4, m5, m6, m7⟩ := h.nums
  obtain ⟨n1, n2, n3, n4, n5, n6, n7⟩ := h'.nums
  have eqI : ∀ {x y : Int} {A B : Prop}, x = y → A → brB (x == y) A B := fun h k => by rw [show (_ == _) = true from by simpa using h]; exact brB_t k
  have eqS : ∀ {x y : ByteArray} {A B : Prop}, x = y → A → brB (x.toList == y.toList) A B := fun h k => by rw [show (_ == _) = true from by simp [h]]; exact brB_t k
  refine ⟨S.ip, o21.cell rfl, S'.ip, o23.cell rfl, eqI (m1.trans n1.symm) ⟨S.handler, o21.cell rfl, S'.handler, o23.cell rfl, eqI (m2.trans n2.symm) ?_⟩⟩
  refine ⟨S.stack, o21.cell rfl, S'.stack, o23.cell rfl, (sameInts_ok _ _ s.stack _ (h.st.no c24) (h'.st.no c24)).mono ?_⟩
  rintro e w32 ⟨rfl, c32⟩
  have k32 := trN c24 c32
  refine ⟨_, rfl, brB_t ⟨S.back, (o21.no c32).cell rfl, S'.back, (o23.no c32).cell rfl, (sameInts_ok _ _ s.back _ (h.bk.no k32) (h'.bk.no k32)).mono ?_⟩⟩
  rintro e w37 ⟨rfl, c37⟩
  have k37 := trN k32 c37
  have c37' := trN c32 c37
  refine ⟨_, rfl, brB_t ⟨S.mem, (o21.no c37').cell rfl, S'.mem, (o23.no c37').cell rfl, (sameInts_ok _ _ s.mem _ (h.me.no k37) (h'.me.no k37)).mono ?_⟩⟩
  rintro e w42 ⟨rfl, c42⟩
  have c42' := trN c37' c42
  have p21 := o21.no c42'
  have p23 := o23.no c42'
  refine ⟨_, rfl, brB_t ⟨S.out, p21.cell rfl, S'.out, p23.cell rfl, eqS (m3.trans n3.symm) ⟨S.inp, p21.cell rfl, S'.inp, p23.cell rfl, eqS (m4.trans n4.symm) ⟨S.read, p21.cell rfl, S'.read, p23.cell rfl, eqI (m5.trans n5.symm) ⟨S.status, p21.cell rfl, S'.status, p23.cell rfl, eqI (m6.trans n6.symm) ⟨S.code, p21.cell rfl, S'.code, p23.cell rfl, ?_, trN k37 c42⟩⟩⟩⟩⟩⟩
  rw [m7, n7]; simp
/-! ### A machine at its beginning -/
def bootC (k : Nat) : Int := if k = 1 then 1 else if 64 ≤ k ∧ k < 160 then (if k % 2 = 0 then ((k : Int) - 64) / 2 else 5) else 0
def bootM (M : Nat) : List Int := (List.range M).map bootC
def bootV (M : Nat) (inp : ByteArray) : StV := ⟨0, 0, [], [], bootM M, bs [], inp, 0, 1, 0⟩
theorem bootM_of {xs : List Int} {M : Nat} (hl : xs.length = M) (h : ∀ q : Nat, q < M → xs[q]? = some (bootC q)) : xs = bootM M := by
  apply List.ext_getElem?
  intro q
  by_cases hq : q < M
  · rw [h q hq]; unfold bootM
    rw [List.getElem?_map, List.getElem?_range hq]; rfl
  · rw [List.getElem?_eq_none (by omega), List.getElem?_eq_none (by unfold bootM; simp; omega)]
theorem r9boot_any (n : Int) (inp : ByteArray) {M : Nat} (hM : imin (imax n 0) 3000 = (M : Int)) (w : World) : Calls Tryz.prog fn_hollowayref9_Boot #[.int .i64 n, .string inp] w fun e w' => ∃ S : StC, e = .returned (.agg (stC S).toArray) ∧ StOw (fun k => w.heap.size ≤ k) w' S (bootV M inp) ∧ Chg No w w' := by
  refine (hollowayref9_Boot_lift (K := fun r w' => ∃ S : StC, r = .agg (stC S).toArray ∧ StOw (fun k => w.heap.size ≤ k) w' S (bootV M inp) ∧ Chg No w w') ?_).mono (by rintro e w' ⟨r, rfl, S, rfl, h⟩; exact ⟨S, rfl, h⟩)
  unfold hollowayref9_Boot_sh
  have hM' : M ≤ 3000 := by unfold imin at hM; split at hM <;> omega
  intro b3 w4 hb3 hw4
  have o3 : Ob w4 b3 (stC st0) T_api_State := by rw [hw4, hb3]; exact Ob.new w (stC st0) T_api_State
  have c4 := al hw4
  have z4 : w4.heap.size = w.heap.size + 1 := by rw [hw4]; simp
  rw [hM]
  obtain ⟨w6, hrun, hme, c6⟩ := make_ints (w := w4) (n := (M : Int)) (N := M) rfl (by omega)
  refine ⟨_, w6, hrun, ?_⟩
  have z6 : w4.heap.size < w6.heap.size := hme.lt rfl
  have hsb : ∀ k, (⟨some ⟨w4.heap.size, 0, none⟩, M, M⟩ : Sl).blk = some k → k = w4.heap.size := fun k hk => (Option.some.inj hk).symm
  obtain ⟨mS, hmS⟩ : ∃ mS : Sl, mS = ⟨some ⟨w4.heap.size, 0, none⟩, M, M⟩ := ⟨_, rfl⟩
  have hptr : mS.ptr = some ⟨w4.heap.size, 0, none⟩ := by rw [hmS]
  have hlen : mS.len = M := by rw [hmS]
  rw [← hmS] at hme hsb ⊢
  have p3 := o3.no c6
  refine ⟨fun n w' => ∃ (k : Nat) (xs : List Int), n = k ∧ k ≤ M ∧ Ow intE w' mS xs ∧ xs.length = M ∧ (∀ q : Nat, q < k → xs[q]? = some (bootC q)) ∧ (∀ q : Nat, k ≤ q → q < M → xs[q]? = some 0) ∧ Chg (fun k => k = w4.heap.size) w6 w', fun n _ => M - n.toNat, ⟨0, _, rfl, Nat.zero_le _, hme, List.length_replicate, fun q hq => by omega, fun q _ hq => by rw [List.getElem?_replicate, if_pos hq], Chg.refl _ _⟩, ?_⟩
  rintro n w7 ⟨k, xs, rfl, hk, hox, hxl, hx1, hx2, c7⟩
  refine brB_of (fun hlt => ?_) (fun hlt => ?_)
  · have hlt : k < M := by rw [hlen] at hlt; simpa using hlt
    -- a cell is written
    have put : ∀ {wx : World} {ys : List Int} (x : Int) {G : World → Prop}, Ow intE wx mS ys → ys.length = M → Chg (fun k => k = w4.heap.size) w6 wx → (∀ wy, Ow intE wy mS (ys.set k x) → Chg (fun k => k = w4.heap.size) w6 wy → G wy) →
        ∃ a : Addr, mS.ptr = some a ∧ 0 ≤ (k : Int) ∧ (k : Int) < (mS.len : Int) ∧ wrOk wx (Addr.add a (Int.toNat (k : Int) * 1)) 1 ∧ ∀ wy : World, wy = stW wx (Addr.add a (Int.toNat (k : Int) * 1)) 0 [.int .i64 x] → G wy := by
      intro wx ys x G ho hl cx kk
      obtain ⟨y, hy⟩ : ∃ y, ys[k]? = some y := ⟨_, List.getElem?_eq_getElem (by omega)⟩
      obtain ⟨f1, f2⟩ := ho.set1 hptr (k := k) (j := 0) (x' := x) (u := .int .i64 x) hy (by decide) rfl
      rw [add0] at f1 f2
      refine ⟨_, hptr, by omega, by rw [hlen]; omega, f1, fun wy hwy => kk wy (by rw [hwy]; exact f2) (cx.trans (by rw [hwy]; exact Chg.st (S := fun j => j = w4.heap.size) (by rw [add_block])) (fun _ _ h => h) (fun _ _ h => h))⟩
    refine ⟨fun w' => ∃ ys : List Int, Ow intE w' mS ys ∧ ys.length = M ∧ ys[k]? = some (bootC k) ∧ (∀ q : Nat, q ≠ k → ys[q]? = xs[q]?) ∧ Chg (fun k => k = w4.heap.size) w6 w', ?_, ?_⟩
    · rintro w18 ⟨ys, h1, h2, h3, h4, c18⟩
      rw [wr_in (by omega)]
      refine ⟨⟨k + 1, ys, by omega, by omega, h1, h2, fun q hq => ?_, fun q hq hq' => ?_, c18⟩, by show M - Int.toNat ((k : Int) + 1) < M - Int.toNat (k : Int); omega⟩
      · by_cases hqk : q = k
        · subst hqk; exact h3
        · rw [h4 q hqk]; exact hx1 q (by omega)
      · rw [h4 q (by omega)]; exact hx2 q (by omega) hq'
    · refine ⟨fun w' => ∃ ys : List Int, Ow intE w' mS ys ∧ ys.length = M ∧ ys[k]? = some (if k = 1 then 1 else 0) ∧ (∀ q : Nat, q ≠ k → ys[q]? = xs[q]?) ∧ Chg (fun k => k = w4.heap.size) w6 w', ?_, ?_⟩
      · rintro w11 ⟨ys, h1, h2, h3, h4, c11⟩
        refine ⟨fun b w' => b = decide (64 ≤ k ∧ k < 160) ∧ w' = w11, ?_, ?_⟩
        · rintro b w12 ⟨rfl, rfl⟩
          refine brB_of (fun hin => ?_) (fun hout => ?_)
          · have hin := of_decide_eq_true hin
            refine put 5 h1 h2 c11 fun w15 g15 c15 => ⟨by decide, ?_⟩
            have em : Int.tmod (k : Int) 2 = ((k % 2 : Nat) : Int) := by rw [Int.tmod_eq_emod_of_nonneg (by omega)]; omega
            rw [em]
            refine brB_of (fun he => ?_) (fun he => ?_)
            · have he : k % 2 = 0 := by simp at he; omega
              have ed : wr (Int.tdiv (wr ((k : Int) - 64)) 2) = ((k : Int) - 64) / 2 := by
                rw [wr_in (x := (k : Int) - 64) (by omega), Int.tdiv_eq_ediv_of_nonneg (by omega), wr_in (by omega)]
              rw [ed]
              refine ⟨by decide, put (((k : Int) - 64) / 2) g15 (by rw [List.length_set]; exact h2) c15 fun w17 g17 c17 => ⟨_, g17, by rw [List.length_set, List.length_set]; exact h2, ?_, fun q hq => ?_, c17⟩⟩
              · rw [List.getElem?_set_self (by rw [List.length_set]; omega)]
                unfold bootC; rw [if_neg (by omega), if_pos hin, if_pos he]
              · rw [List.getElem?_set_ne (by omega), List.getElem?_set_ne (by omega)]; exact h4 q hq
            · have he : ¬ k % 2 = 0 := by simp at he; omega
              refine ⟨_, g15, by rw [List.length_set]; exact h2, ?_, fun q hq => ?_, c15⟩
              · rw [List.getElem?_set_self (by omega)]
                unfold bootC; rw [if_neg (by omega), if_pos hin, if_neg he]
              · rw [List.getElem?_set_ne (by omega)]; exact h4 q hq
          · have hout := of_decide_eq_false hout
            refine ⟨ys, h1, h2, ?_, h4, c11⟩
            rw [h3]; unfold bootC
            by_cases h1 : k = 1
            · rw [if_pos h1, if_pos h1]
            · rw [if_neg h1, if_neg h1, if_neg hout]
        · refine brB_of (fun hb => ⟨?_, rfl⟩) (fun hb => ⟨?_, rfl⟩)
          all_goals rw [Bool.eq_iff_iff]; simp at *; omega
      · refine brB_of (fun h1 => ?_) (fun h1 => ?_)
        · have h1 : k = 1 := by simp at h1; omega
          refine put 1 hox hxl c7 fun w10 g10 c10 => ⟨_, g10, by rw [List.length_set]; exact hxl, ?_, fun q hq => ?_, c10⟩
          · rw [List.getElem?_set_self (by omega), if_pos h1]
          · rw [List.getElem?_set_ne (by omega)]
        · have h1 : k ≠ 1 := by simp at h1; omega
          exact ⟨xs, hox, hxl, by rw [if_neg h1]; exact hx2 k (Nat.le_refl _) hlt, fun q _ => rfl, c7⟩
  · have hlt : k = M := by have : ¬ (k : Int) < (mS.len : Int) := by simpa using hlt
                           rw [hlen] at this; omega
    subst hlt
    have hid := bootM_of hxl hx1
    subst hid
    have q3 := p3.chg c7 (fun he => by omega)
    refine ⟨q3.wr (by simp [stC]), fun w19 hw19 => ?_⟩
    obtain ⟨r3, c19⟩ := q3.up (k := 0) (vs := stC ⟨0, 0, nilS, nilS, mS, bs [], inp, 0, 1, 0⟩) (cs' := stC ⟨0, 0, nilS, nilS, mS, bs [], inp, 0, 1, 0⟩) (by simp [stC]) rfl hw19
    refine ⟨_, _, _, _, _, _, _, _, _, _, r3.cell rfl, r3.cell rfl, r3.cell rfl, r3.cell rfl, r3.cell rfl, r3.cell rfl, r3.cell rfl, r3.cell rfl, r3.cell rfl, r3.cell rfl, ⟨0, 0, nilS, nilS, mS, bs [], inp, 0, 1, 0⟩, rfl, ?_, ?_⟩
    · refine ⟨⟨rfl, rfl, rfl, rfl, rfl, rfl, rfl⟩, Ow.nil _ _, Ow.nil _ _, hox.chg c19 (fun k hk he => by have := hsb k hk; omega), (fun k hk => by cases hk), (fun k hk => by cases hk), fun k hk => ⟨?_, (fun h => by cases h), (fun h => by cases h)⟩⟩
      have := hsb k hk; omega
    · exact ((trN c4 c6).trans c7 (fun _ _ h => h) (fun k hk he => by omega)).trans c19 (fun _ _ h => h) (fun k hk he => by omega)
end Go.Proofs.YtkjpmkopnkkbmaaGreatDoor

/- From what a statement's frame tells of an argument to what the walks ask of it: slices of any elements. Over any program. -/
namespace Go.Proofs.YtkjpmkopnkkbmaaGreatDoor
open Go.RowKit

section
variable {H : Type} {enc : TypeId × Value → H} {P : Program} {w : World} {base : Nat} {sp : Nat → Bool} {held : Bool}
def ElOk {α : Type} (enc : TypeId × Value → H) (P : Program) (w : World) (base : Nat) (sp : Nat → Bool) (held : Bool) (E : Enc α) (e : TypeId) (Q : α → Prop) : Prop :=
  P.cellsOf e = E.sz ∧ ∀ (n : Nat) (cs : List Value) (y : DataW H × List MemPlace), cs.length = E.sz → DataW.trod enc P w base sp held n e cs = some y → ∃ x, cs = E.e x ∧ Q x
theorem open_cells {α : Type} {E : Enc α} {t e : TypeId} {Q : α → Prop} (ht : P.underlying t = some (.slice e)) (he : ElOk enc P w base sp held E e Q) {n : Nat} {cs : List Value} {y : DataW H × List MemPlace} (h : DataW.trod enc P w base sp held n t cs = some y) :
    ∃ (s : Sl) (xs : List α), cs = [s.val] ∧ Rd E w s xs ∧ ∀ x ∈ xs, Q x := by
  rcases DataW.trod_slice ht h with ⟨h0, _⟩ | ⟨a, len, cap, elems, rest, m, _, rfl, _, _, hl, hm, hlen, hel, _, _⟩
  · exact ⟨nilS, [], h0, Rd.nil E w, fun x hx => by simp at hx⟩
  have each : ∀ k, k ≤ len → ∃ xs : List α, xs.length = k ∧ (∀ x ∈ xs, Q x) ∧ ∀ j u, (fl E xs)[j]? = some u → w.cell? (a.add j) = some u := by
    intro k
    induction k with
    | zero => exact fun _ => ⟨[], rfl, (fun x hx => by simp at hx), fun j u hu => by simp [fl] at hu⟩
    | succ k ih =>
      intro hk
      obtain ⟨xs, h1, h2, h3⟩ := ih (by omega)
      have hb := hel k (by omega)
      rw [List.getElem?_eq_getElem (by omega), Option.bind_eq_some_iff] at hb
      obtain ⟨cs', hcs, hy⟩ := hb
      obtain ⟨_, hcl, hcell⟩ := World.cells?_some hcs
      obtain ⟨x, rfl, hq⟩ := he.2 _ _ _ (by rw [hcl, he.1]) hy
      refine ⟨xs ++ [x], by rw [List.length_append, h1]; rfl, fun z hz => ?_, fun j u hu => ?_⟩
      · rcases List.mem_append.1 hz with hz | hz
        · exact h2 z hz
        · rw [List.mem_singleton.1 hz]; exact hq
      · rw [fl_append, fl_one] at hu
        by_cases hj : j < (fl E xs).length
        · rw [List.getElem?_append_left hj] at hu; exact h3 j u hu
        · rw [List.getElem?_append_right (by omega)] at hu
          have hi : j - (fl E xs).length < E.sz := by
            have := (List.getElem?_eq_some_iff.1 hu).1
            rw [E.len] at this; exact this
          have := hcell (j - (fl E xs).length) (by rw [he.1]; exact hi)
          rw [hu, add_add, he.1] at this
          rw [fl_length, h1] at this hj
          rw [← this]; congr 2; omega
  obtain ⟨xs, h1, h2, h3⟩ := each len (Nat.le_refl _)
  refine ⟨⟨some a, len, cap⟩, xs, rfl, ⟨some a, cap, by rw [h1], by omega, hm, (fun h => by simp at h), fun j u hu => ⟨a, rfl, h3 j u hu⟩⟩, h2⟩
theorem open_fields {fs : Array Field} {t : TypeId} (ht : P.underlying t = some (.struct fs)) {n : Nat} {cs : List Value} {y : DataW H × List MemPlace} (h : DataW.trod enc P w base sp held n t cs = some y) :
    cs.length = P.cellsOf t ∧ ∃ m, ∀ (i : Nat) (f : Field), fs[i]? = some f → ∃ z, DataW.trod enc P w base sp held m f.type ((cs.drop f.offset).take (P.cellsOf f.type)) = some z := by
  obtain ⟨xs, m, _, _, h1, h2, h3⟩ := DataW.trod_struct ht h
  refine ⟨h1, m, fun i f hf => ?_⟩
  have hi : i < xs.length := by rw [h2]; exact (Array.getElem?_eq_some_iff.1 hf).1
  exact ⟨xs[i], by rw [h3 i f hf]; exact List.getElem?_eq_getElem hi⟩
def I64 (n : Int) : Prop := (Lit.int .i64 n).wf = true
theorem I64.le {n : Int} (h : I64 n) : -9223372036854775808 ≤ n ∧ n ≤ 9223372036854775807 := by
  unfold I64 Lit.wf at h
  rw [Bool.and_eq_true, decide_eq_true_iff, decide_eq_true_iff] at h
  have e1 : IntKind.i64.min = -9223372036854775808 := by decide
  have e2 : IntKind.i64.max = 9223372036854775807 := by decide
  rw [e1, e2] at h
  exact h
end
end Go.Proofs.YtkjpmkopnkkbmaaGreatDoor

/- Numbers and machines, as a statement's frame tells of them. -/
set_option maxRecDepth 100000
namespace Go.Proofs.YtkjpmkopnkkbmaaGreatDoor
open Go.RowKit Go.WideShapes

theorem int_open {H : Type} (enc : TypeId × Value → H) (w : World) (base : Nat) (sp : Nat → Bool) (held : Bool) : ElOk enc Tryz.prog w base sp held intE T_int Cn.In := by
  refine ⟨by kernel_rfl, fun n cs y hl h => ?_⟩
  obtain ⟨m, rfl, _, hw⟩ := DataW.trod_int Tryz.underlying3 h
  have hw : I64 m := hw
  exact ⟨m, rfl, hw.le⟩
theorem state_open {H : Type} (enc : TypeId × Value → H) (W : World) {v : Value} {d : DataW H} {p : List MemPlace} (hv : Value.okWide Tryz.prog W .any 0 T_api_State v) (h : DataW.Trod enc Tryz.prog W 0 (fun _ => true) true T_api_State v d p) :
    ∃ S : StC, v = .agg (stC S).toArray ∧ ∃ s : StV, StIs (fun _ => True) W S s ∧ (∀ x ∈ s.stack, Cn.In x) ∧ (∀ x ∈ s.back, Cn.In x) ∧ (∀ x ∈ s.mem, Cn.In x) ∧ Cn.In s.handler := by
  obtain ⟨cs, rfl, hsz⟩ := okWide_struct Tryz.underlying24 hv
  obtain ⟨n, hn⟩ := h
  obtain ⟨_, m, hf⟩ := open_fields Tryz.underlying24 hn
  have hcc : Tryz.prog.cellsOf T_api_State = 10 := by kernel_rfl
  rw [hcc] at hsz
  obtain ⟨l, rfl⟩ : ∃ l : List Value, cs = l.toArray := ⟨cs.toList, by simp⟩
  have hl : l.length = 10 := by simpa using hsz
  obtain ⟨c0, c1, c2, c3, c4, c5, c6, c7, c8, c9, rfl⟩ : ∃ c0 c1 c2 c3 c4 c5 c6 c7 c8 c9, l = [c0, c1, c2, c3, c4, c5, c6, c7, c8, c9] := by
    match l, hl with
    | [c0, c1, c2, c3, c4, c5, c6, c7, c8, c9], _ => exact ⟨_, _, _, _, _, _, _, _, _, _, rfl⟩
  have s1 : Tryz.prog.cellsOf 3 = 1 := by kernel_rfl
  have s2 : Tryz.prog.cellsOf 22 = 1 := by kernel_rfl
  have s3 : Tryz.prog.cellsOf 9 = 1 := by kernel_rfl
  obtain ⟨z0, h0⟩ := hf 0 _ rfl
  obtain ⟨z1, h1⟩ := hf 1 _ rfl
  obtain ⟨z2, h2⟩ := hf 2 _ rfl
  obtain ⟨z3, h3⟩ := hf 3 _ rfl
  obtain ⟨z4, h4⟩ := hf 4 _ rfl
  obtain ⟨z5, h5⟩ := hf 5 _ rfl
  obtain ⟨z6, h6⟩ := hf 6 _ rfl
  obtain ⟨z7, h7⟩ := hf 7 _ rfl
  obtain ⟨z8, h8⟩ := hf 8 _ rfl
  obtain ⟨z9, h9⟩ := hf 9 _ rfl
  obtain ⟨x0, e0, _⟩ := DataW.trod_int Tryz.underlying3 h0
  obtain ⟨x1, e1, _, hw1⟩ := DataW.trod_int Tryz.underlying3 h1
  have hw1 : I64 x1 := hw1
  obtain ⟨q2, l2, e2, r2, i2⟩ := open_cells Tryz.underlying22 (int_open enc W 0 (fun _ => true) true) h2
  obtain ⟨q3, l3, e3, r3, i3⟩ := open_cells Tryz.underlying22 (int_open enc W 0 (fun _ => true) true) h3
  obtain ⟨q4, l4, e4, r4, i4⟩ := open_cells Tryz.underlying22 (int_open enc W 0 (fun _ => true) true) h4
  obtain ⟨x5, e5, _⟩ := DataW.trod_string Tryz.underlying9 h5
  obtain ⟨x6, e6, _⟩ := DataW.trod_string Tryz.underlying9 h6
  obtain ⟨x7, e7, _⟩ := DataW.trod_int Tryz.underlying3 h7
  obtain ⟨x8, e8, _⟩ := DataW.trod_int Tryz.underlying3 h8
  obtain ⟨x9, e9, _⟩ := DataW.trod_int Tryz.underlying3 h9
  simp [Value.cells, s1, s2, s3] at e0 e1 e2 e3 e4 e5 e6 e7 e8 e9
  exact ⟨⟨x0, x1, q2, q3, q4, x5, x6, x7, x8, x9⟩, by rw [e0, e1, e2, e3, e4, e5, e6, e7, e8, e9]; rfl, ⟨x0, x1, l2, l3, l4, x5, x6, x7, x8, x9⟩, ⟨⟨rfl, rfl, rfl, rfl, rfl, rfl, rfl⟩, r2, r3, r4, fun _ _ => trivial, fun _ _ => trivial, fun _ _ => trivial⟩, i2, i3, i4, hw1.le⟩
end Go.Proofs.YtkjpmkopnkkbmaaGreatDoor
