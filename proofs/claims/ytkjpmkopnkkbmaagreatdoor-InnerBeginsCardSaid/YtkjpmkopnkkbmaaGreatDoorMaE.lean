/- A machine in memory: an operation; a step. -/
import Derived.Test.YtkjpmkopnkkbmaaGreatDoorMaD
set_option maxRecDepth 100000
namespace Go.Proofs.YtkjpmkopnkkbmaaGreatDoor
open Go.RowKit

theorem rows_d1 : ∀ n : Nat, n < 48 → (n = 4 → (opRow n).takes = 1) ∧ (n = 5 → (opRow n).backs = 1) ∧ (n = 6 ∨ n = 7 → (opRow n).takes = 1) ∧ (n = 8 ∨ n = 9 → (opRow n).takes = 2) ∧ (n = 10 → (opRow n).takes = 3) := by decide +kernel
theorem rows_d2 : ∀ n : Nat, n < 48 → (n = 30 ∨ n = 33 ∨ n = 41 ∨ n = 42 ∨ n = 44 ∨ n = 45 ∨ n = 46 → (opRow n).takes = 1) ∧ (n = 31 ∨ n = 32 ∨ n = 36 → (opRow n).takes = 2) ∧ (n = 34 ∨ n = 35 → (opRow n).backs = 1) := by decide +kernel
theorem rows_d3 : ∀ n : Nat, n < 48 → (n = 37 ∨ n = 40 → (opRow n).backs = 2) ∧ (n = 38 → (opRow n).takes = 1 ∧ (opRow n).backs = 2) ∧ (n = 39 → (opRow n).backs = 3) := by decide +kernel
/-- How long the stacks must be. -/
structure NeedM (s : StV) (c : Int) : Prop where
  n1 : (c = 4 ∨ c = 6 ∨ c = 7 ∨ c = 30 ∨ c = 33 ∨ c = 38 ∨ c = 41 ∨ c = 42 ∨ c = 44 ∨ c = 45 ∨ c = 46) → 1 ≤ s.stack.length
  n2 : (c = 8 ∨ c = 9 ∨ c = 31 ∨ c = 32 ∨ c = 36) → 2 ≤ s.stack.length
  n3 : c = 10 → 3 ≤ s.stack.length
  b1 : (c = 5 ∨ c = 34 ∨ c = 35) → 1 ≤ s.back.length
  b2 : (c = 37 ∨ c = 38 ∨ c = 40) → 2 ≤ s.back.length
  b3 : c = 39 → 3 ≤ s.back.length
  one : 11 ≤ c ∧ c ≤ 29 → 1 ≤ s.stack.length ∧ (Cn.isOne c = false → 2 ≤ s.stack.length)
theorem isOne_ops {c : Int} (h : Cn.isOne c = false) : c ≠ 16 ∧ c ≠ 20 ∧ c ≠ 26 ∧ c ≠ 27 := by
  refine ⟨?_, ?_, ?_, ?_⟩ <;> (rintro rfl; revert h; decide)
theorem need_of {s : StV} {c : Int} (hc : 0 ≤ c ∧ c < 48) (h : mRoom s c = 0) : NeedM s c := by
  obtain ⟨r1, r2, _, _⟩ := mRoom_no h
  obtain ⟨a1, a2, a3, a4, a5⟩ := rows_d1 c.toNat (by omega)
  obtain ⟨a6, a7, a8⟩ := rows_d2 c.toNat (by omega)
  obtain ⟨a9, a10, a11⟩ := rows_d3 c.toNat (by omega)
  obtain ⟨_, t⟩ := rows_small c.toNat (by omega)
  have e : ((c.toNat : Nat) : Int) = c := by omega
  rw [e] at a1 a2 a3 a4 a5 a6 a7 a8 a9 a10 a11 t
  refine ⟨fun h => ?_, fun h => ?_, fun h => ?_, fun h => ?_, fun h => ?_, fun h => ?_, fun h => ?_⟩
  · rcases h with h | h | h | h | h | h | h | h | h | h | h
    · have := a1 (by omega); omega
    · have := a3 (by omega); omega
    · have := a3 (by omega); omega
    · have := a6 (by omega); omega
    · have := a6 (by omega); omega
    · have := (a10 (by omega)).1; omega
    · have := a6 (by omega); omega
    · have := a6 (by omega); omega
    · have := a6 (by omega); omega
    · have := a6 (by omega); omega
    · have := a6 (by omega); omega
  · rcases h with h | h | h | h | h
    · have := a4 (by omega); omega
    · have := a4 (by omega); omega
    · have := a7 (by omega); omega
    · have := a7 (by omega); omega
    · have := a7 (by omega); omega
  · have := a5 (by omega); omega
  · rcases h with h | h | h
    · have := a2 (by omega); omega
    · have := a8 (by omega); omega
    · have := a8 (by omega); omega
  · rcases h with h | h | h
    · have := a9 (by omega); omega
    · have := (a10 (by omega)).2; omega
    · have := a9 (by omega); omega
  · have := a11 (by omega); omega
  · obtain ⟨_, _, _, t4⟩ := t (by omega)
    split at t4
    · next hh =>
      refine ⟨by omega, fun h1 => ?_⟩
      have := isOne_ops h1
      omega
    · exact ⟨by omega, fun _ => by omega⟩
section
variable {D : Nat → Prop} {w : World} {m : Nat} {S : StC} {s : StV} {th : Bool}
theorem MX.to {w' : World} {d d' : Nat} {r : Rs} {v : Value} (hd : d ≤ d') (g : MX D w m S s d r v w') : MX D w m S s d' r v w' := by
  cases r with
  | ok s' => exact g
  | bad c t => obtain ⟨a, ⟨d0, e1, e2⟩, b⟩ := g; exact ⟨a, ⟨d0, by omega, e2⟩, b⟩
theorem mdo_any (h : MS D w m S s false) (hD : ∀ k, w.heap.size ≤ k → D k) (c arg was : Int) (hc : 0 ≤ c ∧ c < 48) (nd : NeedM s c) (ok : MOk s) :
    Calls Tryz.prog fn_inner_machine_do #[.pointer (some ⟨m, 0, none⟩), .int .i64 c, .int .i64 arg, .int .i64 was] w fun e w' => ∃ v, e = .returned v ∧ MX D w m S s 1 (mDo s c arg was) v w' := by
  refine (inner_machine_do_lift (K := fun v w' => MX D w m S s 1 (mDo s c arg was) v w') ?_).mono (by rintro e w' ⟨r, rfl, h⟩; exact ⟨r, rfl, h⟩)
  unfold inner_machine_do_sh
  obtain ⟨m1, m2, m3, m4, m5, m6, m7⟩ := h.nums
  have k1 := ok.st
  have k2 := ok.bk
  refine ⟨fun w38 => ∃ S' s' , MR D w m S w38 S' s' false ∧ mDo s c arg was = .ok { s' with ip := arg }, ?_, ?_⟩
  · rintro w38 ⟨S', s', g, he⟩
    obtain ⟨p1, p2, p3, p4, p5, p6, p7⟩ := g.1.nums
    refine ⟨g.1.wr (by omega), fun w39 hw39 => ?_⟩
    have g2 := g.1.put (k := 0) (vs := [.int .i64 arg]) (S' := { S' with ip := arg }) (s' := { s' with ip := arg }) (th' := false) (by simp) rfl hw39 ⟨rfl, p2, p3, p4, p5, p6, p7⟩ rfl rfl rfl rfl rfl rfl
    rw [he]
    exact MX.ok 1 (g.trans g2)
  have go : ∀ r : Rs, mDo s c arg was = r → ∀ {v : Value} {w' : World} {d : Nat}, d ≤ 1 → MX D w m S s d r v w' → MX D w m S s 1 (mDo s c arg was) v w' := fun r hr {v w' d} hd g => by rw [hr]; exact g.to hd
  refine brB_of (fun hc0 => ?_) (fun hc0 => ?_)
  · have hc0 : c = 0 := by simpa using hc0
    refine ⟨h.wr (by omega), fun w29 hw29 => ?_⟩
    have g1 := h.put (k := 0) (vs := [.int .i64 was]) (S' := { S with ip := was }) (s' := { s with ip := was }) (th' := false) (by simp) rfl hw29 ⟨rfl, m2, m3, m4, m5, m6, m7⟩ rfl rfl rfl rfl rfl rfl
    refine ⟨g1.1.wr (by omega), fun w30 hw30 => ?_⟩
    have g2 := g1.1.put (k := 8) (vs := [.int .i64 1]) (S' := { S with ip := was, status := 1 }) (s' := { s with ip := was, status := 1 }) (th' := false) (by simp) rfl hw30 ⟨rfl, m2, m3, m4, m5, rfl, m7⟩ rfl rfl rfl rfl rfl rfl
    exact go _ (by unfold mDo; rw [if_pos hc0]) (Nat.le_refl _) (MX.ok 1 (g1.trans g2))
  have c0 : c ≠ 0 := by simpa using hc0
  refine brB_of (fun hx => ?_) (fun hx => ?_)
  · have hx : c = 2 := by simpa using hx
    refine mpushL h hD [arg] _ rfl (by simp) (by simp) (by omega) (fun w2 S2 g2 => ?_) rfl
    exact go _ (by unfold mDo; rw [if_neg c0, if_pos hx]) (Nat.le_refl _) (MX.ok 1 g2)
  have c2 : c ≠ 2 := by simpa using hx
  refine brB_of (fun hx => ?_) (fun hx => ?_)
  · have hx : c = 4 := by simpa using hx
    refine (mpop_any h (nd.n1 (by omega)) (by omega)).mono ?_
    rintro e w36 ⟨rfl, S36, g36⟩
    refine ⟨_, rfl, brB_of (fun hz => ?_) (fun hz => ?_)⟩
    · have hz : topV s ≠ 0 := by simpa using hz
      exact go _ (by unfold mDo; rw [if_neg c0, if_neg c2, if_pos hx, if_pos hz]) (Nat.le_refl _) (MX.ok 1 g36)
    · have hz : topV s = 0 := by simpa using hz
      exact ⟨S36, _, g36, by unfold mDo; rw [if_neg c0, if_neg c2, if_pos hx, if_neg (fun h => h hz)]⟩
  have c4 : c ≠ 4 := by simpa using hx
  refine brB_of (fun hx => ?_) (fun hx => ?_)
  · have hx : c = 3 := by simpa using hx
    exact ⟨S, s, MR.same h, by unfold mDo; rw [if_neg c0, if_neg c2, if_neg c4, if_pos hx]⟩
  have c3 : c ≠ 3 := by simpa using hx
  refine brB_of (fun hx => ?_) (fun hx => ?_)
  · have hx : c = 5 := by simpa using hx
    refine (mpopB_any h (nd.b1 (by omega)) (by omega)).mono ?_
    rintro e w41 ⟨rfl, S41, g41⟩
    obtain ⟨p1, p2, p3, p4, p5, p6, p7⟩ := g41.1.nums
    refine ⟨_, rfl, g41.1.wr (by omega), fun w43 hw43 => ?_⟩
    have g2 := g41.1.put (k := 0) (vs := [.int .i64 (topB s)]) (S' := { S41 with ip := topB s }) (s' := { popB s with ip := topB s }) (th' := false) (by simp) rfl hw43 ⟨rfl, p2, p3, p4, p5, p6, p7⟩ rfl rfl rfl rfl rfl rfl
    exact go _ (by unfold mDo; rw [if_neg c0, if_neg c2, if_neg c4, if_neg c3, if_pos hx]) (Nat.le_refl _) (MX.ok 1 (g41.trans g2))
  have c5 : c ≠ 5 := by simpa using hx
  have e0 : mDo s c arg was = if 6 ≤ c ∧ c ≤ 10 then .ok (mShuf s c) else if 30 ≤ c ∧ c ≤ 32 then mMem s c else
      if (33 ≤ c ∧ c ≤ 36) ∨ c = 39 ∨ c = 40 then .ok (mBacks s c) else if c = 37 ∨ c = 38 then .ok (mLoop s c arg) else if c = 41 ∨ c = 42 then mSay s c else
      if c = 43 then .ok (mKey s) else if (44 ≤ c ∧ c ≤ 46) ∨ c = 1 then mFlow s c else if c = 47 then .ok s else mReck s c := by
    unfold mDo; rw [if_neg c0, if_neg c2, if_neg c4, if_neg c3, if_neg c5]
  have shuf : 6 ≤ c ∧ c ≤ 10 → Calls Tryz.prog fn_inner_machine_shuffle #[.pointer (some ⟨m, 0, none⟩), .int .i64 c] w fun e w' => e = .returned (.tuple #[]) ∧ MX D w m S s 1 (mDo s c arg was) .nilIface w' := fun hr => by
    have h1 : 1 ≤ s.stack.length := by
      by_cases h8 : c = 8 ∨ c = 9
      · have := nd.n2 (by omega); omega
      · by_cases h10 : c = 10
        · have := nd.n3 h10; omega
        · exact nd.n1 (by omega)
    refine (mshuf_any h hD c h1 (fun h => nd.n2 (by omega)) (fun h => nd.n3 h) (by omega)).mono ?_
    rintro e w' ⟨rfl, S', g⟩
    exact ⟨rfl, go _ (by rw [e0, if_pos hr]) (Nat.le_refl _) (MX.ok 1 g)⟩
  have mem : 30 ≤ c ∧ c ≤ 32 → Calls Tryz.prog fn_inner_machine_memory #[.pointer (some ⟨m, 0, none⟩), .int .i64 c] w fun e w' => ∃ v, e = .returned v ∧ MX D w m S s 1 (mDo s c arg was) v w' := fun hr => by
    have h1 : 1 ≤ s.stack.length := by
      by_cases h30 : c = 30
      · exact nd.n1 (by omega)
      · have := nd.n2 (by omega); omega
    refine (mmem_any h hD c h1 (fun _ => nd.n2 (by omega)) (by omega)).mono ?_
    rintro e w' ⟨v, rfl, g⟩
    exact ⟨v, rfl, go _ (by rw [e0, if_neg (by omega), if_pos hr]) (Nat.le_refl _) g⟩
  have backs : (33 ≤ c ∧ c ≤ 36) ∨ c = 39 ∨ c = 40 → Calls Tryz.prog fn_inner_machine_backs #[.pointer (some ⟨m, 0, none⟩), .int .i64 c] w fun e w' => e = .returned (.tuple #[]) ∧ MX D w m S s 1 (mDo s c arg was) .nilIface w' := fun hr => by
    refine (mbacks_any h hD c (fun h => nd.n1 (by omega)) (fun h => nd.b1 (by omega)) (fun h => nd.n2 (by omega)) (fun h => nd.b3 h) (fun h => nd.b2 (by omega)) hr (by omega) (by omega)).mono ?_
    rintro e w' ⟨rfl, S', g⟩
    exact ⟨rfl, go _ (by rw [e0, if_neg (by omega), if_neg (by omega), if_pos hr]) (Nat.le_refl _) (MX.ok 1 g)⟩
  have lp : c = 37 ∨ c = 38 → Calls Tryz.prog fn_inner_machine_loop #[.pointer (some ⟨m, 0, none⟩), .int .i64 c, .int .i64 arg] w fun e w' => e = .returned (.tuple #[]) ∧ MX D w m S s 1 (mDo s c arg was) .nilIface w' := fun hr => by
    refine (mloop_any h hD c arg (nd.b2 (by omega)) (fun h => nd.n1 (by omega)) (by omega) (by omega)).mono ?_
    rintro e w' ⟨rfl, S', g⟩
    exact ⟨rfl, go _ (by rw [e0, if_neg (by omega), if_neg (by omega), if_neg (by omega), if_pos hr]) (Nat.le_refl _) (MX.ok 1 g)⟩
  have say : c = 41 ∨ c = 42 → Calls Tryz.prog fn_inner_machine_say #[.pointer (some ⟨m, 0, none⟩), .int .i64 c] w fun e w' => ∃ v, e = .returned v ∧ MX D w m S s 1 (mDo s c arg was) v w' := fun hr => by
    refine (msay_any h c (nd.n1 (by omega)) (by omega) (by have := ok.out; omega)).mono ?_
    rintro e w' ⟨v, rfl, g⟩
    refine ⟨v, rfl, go _ (by rw [e0, if_neg (by omega), if_neg (by omega), if_neg (by omega), if_neg (by omega), if_pos hr]) (Nat.zero_le _) (d := 0) ?_⟩
    have hs : mSay s c = .bad (-57) false ∨ ∃ s', mSay s c = .ok s' := by
      unfold mSay
      split
      · exact Or.inl rfl
      · exact Or.inr ⟨_, rfl⟩
    rcases hs with hs | ⟨s', hs⟩ <;> (rw [hs] at g ⊢; exact g)
  have flow : (44 ≤ c ∧ c ≤ 46) ∨ c = 1 → Calls Tryz.prog fn_inner_machine_flow #[.pointer (some ⟨m, 0, none⟩), .int .i64 c] w fun e w' => ∃ v, e = .returned v ∧ MX D w m S s 1 (mDo s c arg was) v w' := fun hr => by
    refine (mflow_any h hD c (fun h => nd.n1 (by omega)) (by omega) (by omega)).mono ?_
    rintro e w' ⟨v, rfl, g⟩
    exact ⟨v, rfl, go _ (by rw [e0, if_neg (by omega), if_neg (by omega), if_neg (by omega), if_neg (by omega), if_neg (by omega), if_neg (by omega), if_pos hr]) (Nat.zero_le _) g⟩
  have j1 : ∀ b : Bool, (b = true → (44 ≤ c ∧ c ≤ 46) ∨ c = 1) → (b = false → c = 47 ∨ (11 ≤ c ∧ c ≤ 29)) → inner_machine_do_j1 m c b w (fun v w' => MX D w m S s 1 (mDo s c arg was) v w') := fun b h1 h2 => by
    unfold inner_machine_do_j1
    refine brB_of (fun hb => ?_) (fun hb => ?_)
    · refine (flow (h1 hb)).mono ?_
      rintro e w' ⟨v, rfl, g⟩
      exact ⟨v, rfl, g⟩
    have h2 := h2 hb
    refine brB_of (fun h47 => ?_) (fun h47 => ?_)
    · have h47 : c = 47 := by simpa using h47
      exact go _ (by rw [e0, if_neg (by omega), if_neg (by omega), if_neg (by omega), if_neg (by omega), if_neg (by omega), if_neg (by omega), if_neg (by omega), if_pos h47]) (Nat.le_refl _) (MX.ok 1 (MR.same h))
    · have h47 : c ≠ 47 := by simpa using h47
      obtain ⟨o1, o2⟩ := nd.one (by omega)
      refine (mreck_any h hD c o1 o2 (by omega)).mono ?_
      rintro e w' ⟨v, rfl, g⟩
      exact ⟨v, rfl, go _ (by rw [e0, if_neg (by omega), if_neg (by omega), if_neg (by omega), if_neg (by omega), if_neg (by omega), if_neg (by omega), if_neg (by omega), if_neg h47]) (Nat.zero_le _) g⟩
  have rest : (c = 1 ∨ (11 ≤ c ∧ c ≤ 29) ∨ (43 ≤ c)) → ∀ b : Bool, (b = false) → inner_machine_do_j2 m c b w (fun v w' => MX D w m S s 1 (mDo s c arg was) v w') := fun hr b hb => by
    unfold inner_machine_do_j2
    rw [hb]
    refine brB_f ?_
    refine brB_of (fun hx => ?_) (fun hx => ?_)
    · have hx : c = 43 := by simpa using hx
      refine (mkey_any h hD ok.rd.1 (by have := ok.inp; omega) (by omega)).mono ?_
      rintro e w' ⟨rfl, S', g⟩
      exact ⟨rfl, go _ (by rw [e0, if_neg (by omega), if_neg (by omega), if_neg (by omega), if_neg (by omega), if_neg (by omega), if_pos hx]) (Nat.le_refl _) (MX.ok 1 g)⟩
    have x43 : c ≠ 43 := by simpa using hx
    refine brB_of (fun hx => ?_) (fun hx => ?_)
    · have hx' : c = 44 := by simpa using hx
      exact j1 _ (fun _ => by omega) (fun hb => by rw [hx] at hb; cases hb)
    have x44 : c ≠ 44 := by simpa using hx
    refine brB_of (fun hx => ?_) (fun hx => ?_)
    · have hx' : c = 45 := by simpa using hx
      exact j1 _ (fun _ => by omega) (fun hb => by rw [hx] at hb; cases hb)
    have x45 : c ≠ 45 := by simpa using hx
    refine brB_of (fun hx => ?_) (fun hx => ?_)
    · have hx' : c = 46 := by simpa using hx
      exact j1 _ (fun _ => by omega) (fun hb => by rw [hx] at hb; cases hb)
    have x46 : c ≠ 46 := by simpa using hx
    exact j1 _ (fun hb => by have : c = 1 := by simpa using hb
                             omega) (fun hb => by have : c ≠ 1 := by simpa using hb
                                                  omega)
  have j2 : ∀ b : Bool, (b = true → c = 41 ∨ c = 42) → (b = false → c = 1 ∨ (11 ≤ c ∧ c ≤ 29) ∨ 43 ≤ c) → inner_machine_do_j2 m c b w (fun v w' => MX D w m S s 1 (mDo s c arg was) v w') := fun b h1 h2 => by
    cases hb : b with
    | false => exact rest (h2 hb) false rfl
    | true =>
      unfold inner_machine_do_j2
      refine brB_t ?_
      refine (say (h1 hb)).mono ?_
      rintro e w' ⟨v, rfl, g⟩
      exact ⟨v, rfl, g⟩
  have j3 : ∀ b : Bool, (b = true → c = 37 ∨ c = 38) → (b = false → c = 1 ∨ (11 ≤ c ∧ c ≤ 29) ∨ 41 ≤ c) → inner_machine_do_j3 m c arg b w (fun v w' => MX D w m S s 1 (mDo s c arg was) v w') := fun b h1 h2 => by
    unfold inner_machine_do_j3
    refine brB_of (fun hb => ?_) (fun hb => ?_)
    · refine (lp (h1 hb)).mono ?_
      rintro e w' ⟨rfl, g⟩
      exact ⟨rfl, g⟩
    have h2 := h2 hb
    refine brB_of (fun hx => ?_) (fun hx => ?_)
    · have hx' : c = 41 := by simpa using hx
      exact j2 _ (fun _ => Or.inl hx') (fun hb => by rw [hx] at hb; cases hb)
    · have hx' : c ≠ 41 := by simpa using hx
      exact j2 _ (fun hb => by have : c = 42 := by simpa using hb
                               omega) (fun hb => by have : c ≠ 42 := by simpa using hb
                                                    omega)
  have j4 : ∀ b : Bool, (b = true → (33 ≤ c ∧ c ≤ 36) ∨ c = 39 ∨ c = 40) → (b = false → c = 1 ∨ (11 ≤ c ∧ c ≤ 29) ∨ c = 37 ∨ c = 38 ∨ 41 ≤ c) → inner_machine_do_j4 m c arg b w (fun v w' => MX D w m S s 1 (mDo s c arg was) v w') := fun b h1 h2 => by
    unfold inner_machine_do_j4
    refine brB_of (fun hb => ?_) (fun hb => ?_)
    · refine (backs (h1 hb)).mono ?_
      rintro e w' ⟨rfl, g⟩
      exact ⟨rfl, g⟩
    have h2 := h2 hb
    refine brB_of (fun hx => ?_) (fun hx => ?_)
    · have hx' : c = 37 := by simpa using hx
      exact j3 _ (fun _ => Or.inl hx') (fun hb => by rw [hx] at hb; cases hb)
    · have hx' : c ≠ 37 := by simpa using hx
      exact j3 _ (fun hb => by have : c = 38 := by simpa using hb
                               omega) (fun hb => by have : c ≠ 38 := by simpa using hb
                                                    omega)
  have j5 : ∀ b : Bool, (b = true → 30 ≤ c ∧ c ≤ 32) → (b = false → c = 1 ∨ (11 ≤ c ∧ c ≤ 29) ∨ 33 ≤ c) → inner_machine_do_j5 m c arg b w (fun v w' => MX D w m S s 1 (mDo s c arg was) v w') := fun b h1 h2 => by
    unfold inner_machine_do_j5
    refine brB_of (fun hb => ?_) (fun hb => ?_)
    · refine (mem (h1 hb)).mono ?_
      rintro e w' ⟨v, rfl, g⟩
      exact ⟨v, rfl, g⟩
    have h2 := h2 hb
    refine brB_of (fun hx => ?_) (fun hx => ?_)
    · have hx' : c = 33 := by simpa using hx
      exact j4 _ (fun _ => by omega) (fun hb => by rw [hx] at hb; cases hb)
    have x33 : c ≠ 33 := by simpa using hx
    refine brB_of (fun hx => ?_) (fun hx => ?_)
    · have hx' : c = 34 := by simpa using hx
      exact j4 _ (fun _ => by omega) (fun hb => by rw [hx] at hb; cases hb)
    have x34 : c ≠ 34 := by simpa using hx
    refine brB_of (fun hx => ?_) (fun hx => ?_)
    · have hx' : c = 35 := by simpa using hx
      exact j4 _ (fun _ => by omega) (fun hb => by rw [hx] at hb; cases hb)
    have x35 : c ≠ 35 := by simpa using hx
    refine brB_of (fun hx => ?_) (fun hx => ?_)
    · have hx' : c = 36 := by simpa using hx
      exact j4 _ (fun _ => by omega) (fun hb => by rw [hx] at hb; cases hb)
    have x36 : c ≠ 36 := by simpa using hx
    refine brB_of (fun hx => ?_) (fun hx => ?_)
    · have hx' : c = 39 := by simpa using hx
      exact j4 _ (fun _ => by omega) (fun hb => by rw [hx] at hb; cases hb)
    have x39 : c ≠ 39 := by simpa using hx
    exact j4 _ (fun hb => by have : c = 40 := by simpa using hb
                             omega) (fun hb => by have : c ≠ 40 := by simpa using hb
                                                  omega)
  have j6 : ∀ b : Bool, (b = true → 6 ≤ c ∧ c ≤ 10) → (b = false → c = 1 ∨ 11 ≤ c) → inner_machine_do_j6 m c arg b w (fun v w' => MX D w m S s 1 (mDo s c arg was) v w') := fun b h1 h2 => by
    unfold inner_machine_do_j6
    refine brB_of (fun hb => ?_) (fun hb => ?_)
    · refine (shuf (h1 hb)).mono ?_
      rintro e w' ⟨rfl, g⟩
      exact ⟨rfl, g⟩
    have h2 := h2 hb
    refine brB_of (fun hx => ?_) (fun hx => ?_)
    · have hx' : c = 30 := by simpa using hx
      exact j5 _ (fun _ => by omega) (fun hb => by rw [hx] at hb; cases hb)
    have x30 : c ≠ 30 := by simpa using hx
    refine brB_of (fun hx => ?_) (fun hx => ?_)
    · have hx' : c = 31 := by simpa using hx
      exact j5 _ (fun _ => by omega) (fun hb => by rw [hx] at hb; cases hb)
    have x31 : c ≠ 31 := by simpa using hx
    exact j5 _ (fun hb => by have : c = 32 := by simpa using hb
                             omega) (fun hb => by have : c ≠ 32 := by simpa using hb
                                                  omega)
  refine brB_of (fun hx => ?_) (fun hx => ?_)
  · have hx' : c = 6 := by simpa using hx
    exact j6 _ (fun _ => by omega) (fun hb => by rw [hx] at hb; cases hb)
  have x6 : c ≠ 6 := by simpa using hx
  refine brB_of (fun hx => ?_) (fun hx => ?_)
  · have hx' : c = 7 := by simpa using hx
    exact j6 _ (fun _ => by omega) (fun hb => by rw [hx] at hb; cases hb)
  have x7 : c ≠ 7 := by simpa using hx
  refine brB_of (fun hx => ?_) (fun hx => ?_)
  · have hx' : c = 8 := by simpa using hx
    exact j6 _ (fun _ => by omega) (fun hb => by rw [hx] at hb; cases hb)
  have x8 : c ≠ 8 := by simpa using hx
  refine brB_of (fun hx => ?_) (fun hx => ?_)
  · have hx' : c = 9 := by simpa using hx
    exact j6 _ (fun _ => by omega) (fun hb => by rw [hx] at hb; cases hb)
  have x9 : c ≠ 9 := by simpa using hx
  exact j6 _ (fun hb => by have : c = 10 := by simpa using hb
                           omega) (fun hb => by have : c ≠ 10 := by simpa using hb
                                                omega)
end
end Go.Proofs.YtkjpmkopnkkbmaaGreatDoor
