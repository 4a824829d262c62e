/- A machine in memory: loops, texts, cells of memory, words that are called, caught. -/
import Derived.Test.YtkjpmkopnkkbmaaGreatDoorMaB
import Derived.Test.YtkjpmkopnkkbmaaGreatDoorShCell
set_option maxRecDepth 100000
namespace Go.Proofs.YtkjpmkopnkkbmaaGreatDoor
open Go.RowKit

section
variable {D : Nat → Prop} {w : World} {m : Nat} {S : StC} {s : StV} {th : Bool}
theorem sb_byte (t : ByteArray) (i : Int) : 0 ≤ sb t i ∧ sb t i ≤ 255 := by
  unfold sb
  have h : ∀ x : UInt8, (x.toNat : Int) < 256 := fun x => by have := x.toNat_lt; omega
  constructor
  · exact Int.natCast_nonneg _
  · have := h ((t.data[i.toNat]?).getD 0); omega
theorem crosses_any (x n : Int) (w : World) : Calls Tryz.prog fn_cell_Crosses #[.int .i64 x, .int .i64 n] w fun e w' => e = .returned (.bool (Cn.crosses x n)) ∧ w = w' := by
  refine (cell_Crosses_lift (K := fun r w' => r = .bool (Cn.crosses x n) ∧ w = w') ?_).mono (by rintro e w' ⟨r, rfl, rfl, h⟩; exact ⟨rfl, h⟩)
  unfold cell_Crosses_sh
  refine ⟨?_, rfl⟩
  unfold Cn.crosses
  rw [← IntWalk.i64_left]; rfl
theorem mloop_any (h : MS D w m S s th) (hD : ∀ k, w.heap.size ≤ k → D k) (c arg : Int) (h1 : 2 ≤ s.back.length) (h2 : c = 38 → 1 ≤ s.stack.length) (hn : s.stack.length ≤ 100) (hn2 : s.back.length ≤ 100) :
    Calls Tryz.prog fn_inner_machine_loop #[.pointer (some ⟨m, 0, none⟩), .int .i64 c, .int .i64 arg] w fun e w' => e = .returned (.tuple #[]) ∧ ∃ S', MR D w m S w' S' (mLoop s c arg) th := by
  refine (inner_machine_loop_lift (K := fun r w' => r = .tuple #[] ∧ ∃ S', MR D w m S w' S' (mLoop s c arg) th) ?_).mono (by rintro e w' ⟨r, rfl, rfl, h⟩; exact ⟨rfl, h⟩)
  unfold inner_machine_loop_sh
  have l1 := popB_len s
  have l2 := popB_len (popB s)
  refine (mpopB_any h (by omega) (by omega)).mono ?_
  rintro e w5 ⟨rfl, S5, h5⟩
  refine ⟨_, rfl, (mpopB_any h5.1 (by omega) (by omega)).mono ?_⟩
  rintro e w8 ⟨rfl, S8, h8⟩
  have h8 := h5.trans h8
  refine ⟨_, rfl, fun n ends w' => ∃ S' s', MR D w m S w' S' s' th ∧ s'.back.length ≤ 100 ∧ mLoop s c arg = mLoopR s' (topB s) (topB (popB s)) n arg ends, ?_, ?_⟩
  · rintro n ends w16 ⟨S', s', g, gl, he⟩
    rw [he]
    refine brB_of (fun hb => ?_) (fun hb => ?_)
    · have hb : ends = false := by simpa using hb
      subst hb
      refine mbackL g.1 (MS.up hD g.size) [topB (popB s), wr (topB s + n)] _ rfl (by simp) (by simp) (by omega) (fun w2 S2 g2 => ⟨g2.1.wr (by omega), fun w23 hw23 => ⟨rfl, { S2 with ip := arg }, ?_⟩⟩) rfl
      obtain ⟨m1, m2, m3, m4, m5, m6, m7⟩ := g2.1.nums
      have g3 := g2.1.put (k := 0) (vs := [.int .i64 arg]) (S' := { S2 with ip := arg }) (s' := { backV s' [topB (popB s), wr (topB s + n)] with ip := arg }) (th' := th) (by simp) rfl hw23 ⟨rfl, m2, m3, m4, m5, m6, m7⟩ rfl rfl rfl rfl rfl rfl
      exact (g.trans g2).trans g3
    · have hb : ends = true := by simpa using hb
      subst hb
      exact ⟨rfl, S', g⟩
  · refine brB_of (fun hc => ?_) (fun hc => ?_)
    · have hc : c = 38 := by simpa using hc
      have := h2 hc
      have hst : (popB (popB s)).stack = s.stack := rfl
      refine (mpop_any h8.1 (by rw [hst]; exact this) (by rw [hst]; omega)).mono ?_
      rintro e w11 ⟨rfl, S11, h11⟩
      refine ⟨_, rfl, (crosses_any _ _ w11).mono ?_⟩
      rintro e w14 ⟨rfl, rfl⟩
      refine ⟨_, rfl, S11, _, h8.trans h11, (by show (popB (popB s)).back.length ≤ 100; omega), ?_⟩
      unfold mLoop; rw [if_pos hc]; rfl
    · have hc : c ≠ 38 := by simpa using hc
      refine ⟨S8, _, h8, (by omega), ?_⟩
      unfold mLoop; rw [if_neg hc]; rfl
theorem mtext_size (c v : Int) : (mText c v).size ≤ 22 := by
  unfold mText
  split
  · have := putV_size v
    rw [ByteArray.size_append]; show _ + 1 ≤ 22; omega
  · show 1 ≤ 22; omega
theorem msay_any (h : MS D w m S s th) (c : Int) (h1 : 1 ≤ s.stack.length) (hn : s.stack.length ≤ 100) (ho : s.out.size ≤ 100000) :
    Calls Tryz.prog fn_inner_machine_say #[.pointer (some ⟨m, 0, none⟩), .int .i64 c] w fun e w' => ∃ v, e = .returned v ∧ MX D w m S s 0 (match mSay s c with | .ok s' => .ok s' | .bad c _ => .bad c th) v w' := by
  refine (inner_machine_say_lift (K := fun v w' => MX D w m S s 0 (match mSay s c with | .ok s' => .ok s' | .bad c _ => .bad c th) v w') ?_).mono (by rintro e w' ⟨r, rfl, h⟩; exact ⟨r, rfl, h⟩)
  unfold inner_machine_say_sh
  refine (mpop_any h h1 (by omega)).mono ?_
  rintro e w4 ⟨rfl, S4, h4⟩
  refine ⟨_, rfl, ?_⟩
  intro b6 w7 hb6 hw7
  obtain ⟨l7, c7⟩ := lit8 (byteC (topV s)) (byte_lit _) hb6 hw7
  refine ⟨_, w7, u8_str (s := ⟨some ⟨b6, 0, none⟩, 1, 1⟩) l7.rd (by simp), ?_⟩
  have h7 := h4.trans (MR.no h4.1 c7)
  have hsz := mtext_size c (topV s)
  refine ⟨fun t w' => t = mText c (topV s) ∧ Chg No w7 w', ?_, ?_⟩
  · rintro t w13 ⟨rfl, c13⟩
    have h13 := h7.trans (MR.no h7.1 c13)
    obtain ⟨m1, m2, m3, m4, m5, m6, m7⟩ := h13.1.nums
    have m3 : S4.out = s.out := m3
    refine ⟨S4.out, h13.1.ob.cell rfl, ?_⟩
    rw [m3, wr_in (by omega)]
    refine brB_of (fun hf => ?_) (fun hf => ?_)
    · have hf := of_decide_eq_true hf
      refine (mfails_any h13.1 (by decide)).mono ?_
      rintro e w17 ⟨v, rfl, hv, c17⟩
      have hb : mSay s c = .bad (-57) false := by unfold mSay; rw [if_pos (by omega)]
      refine ⟨v, rfl, ?_⟩
      rw [hb]
      exact MX.bad h13 rfl hv (by decide) (Nat.le_refl _) c17
    · have hf := of_decide_eq_false hf
      refine ⟨S4.out, h13.1.ob.cell rfl, by rw [m3]; omega, h13.1.wr (by omega), fun w20 hw20 => ?_⟩
      have g := h13.1.put (k := 5) (vs := [.string (S4.out ++ mText c (topV s))]) (S' := { S4 with out := S4.out ++ mText c (topV s) }) (s' := { popV s with out := s.out ++ mText c (topV s) }) (th' := th) (by simp) rfl hw20 ⟨m1, m2, by rw [m3], m4, m5, m6, m7⟩ rfl rfl rfl rfl rfl rfl
      have hb : mSay s c = .ok { popV s with out := s.out ++ mText c (topV s) } := by unfold mSay; rw [if_neg (by omega)]
      rw [hb]
      exact MX.ok 0 (h13.trans g)
  · refine brB_of (fun h42 => ?_) (fun h42 => ?_)
    · have h42 : c = 42 := by simpa using h42
      refine (put_any (topV s) w7).mono ?_
      rintro x w19 ⟨rfl, c19⟩
      have := putV_size (topV s)
      refine ⟨_, rfl, ?_, ?_, c19⟩
      · show _ + (1 : Int) ≤ _; omega
      · unfold mText; rw [if_pos h42]
    · have h42 : c ≠ 42 := by simpa using h42
      refine ⟨?_, Chg.refl _ _⟩
      unfold mText; rw [if_neg h42]
theorem mkey_any (h : MS D w m S s th) (hD : ∀ k, w.heap.size ≤ k → D k) (hr : 0 ≤ s.read) (hi : s.inp.size ≤ 10000000) (hn : s.stack.length ≤ 100) :
    Calls Tryz.prog fn_inner_machine_key #[.pointer (some ⟨m, 0, none⟩)] w fun e w' => e = .returned (.tuple #[]) ∧ ∃ S', MR D w m S w' S' (mKey s) th := by
  refine (inner_machine_key_lift (K := fun r w' => r = .tuple #[] ∧ ∃ S', MR D w m S w' S' (mKey s) th) ?_).mono (by rintro e w' ⟨r, rfl, rfl, h⟩; exact ⟨rfl, h⟩)
  unfold inner_machine_key_sh
  obtain ⟨m1, m2, m3, m4, m5, m6, m7⟩ := h.nums
  intro w2 hw2
  have c2 := dw hw2
  have h2 := h.no c2
  have z2 := c2.size
  refine ⟨S.read, held_Lw (h2.ob.cell rfl), S.inp, held_Lw (h2.ob.cell rfl), ?_⟩
  rw [m4, m5]
  refine brB_of (fun hc => ?_) (fun hc => ?_)
  · have hc : (s.inp.size : Int) ≤ s.read := by simpa using hc
    refine mpushL h2 (MS.up hD z2) [-1] _ rfl (by simp) (by simp) (by omega) (fun w2 S2 g2 => ⟨rfl, S2, ?_⟩) rfl
    unfold mKey; rw [if_pos hc]; exact g2.pre c2
  · have hc : s.read < (s.inp.size : Int) := by have := of_decide_eq_false hc; omega
    intro w9 hw9
    have c9 := trN c2 (dw hw9)
    have z9 := c9.size
    have h9 := h.no c9
    have hO : ∀ w', Chg No w9 w' → Ob w' m (mcC S th) T_inner_machine := fun w' c => h9.ob.no c
    refine ⟨fun w' => Chg No w9 w', Chg.refl _ _, s.inp, m4 ▸ Ob.held hO rfl, s.read, m5 ▸ Ob.held hO rfl, hr, hc, fun b w1 hb hw => ?_⟩
    have hsb : wr (sb s.inp s.read) = sb s.inp s.read := wr_in (by have := sb_byte s.inp s.read; omega)
    rw [hsb] at hw
    obtain ⟨g, c1⟩ := litL [sb s.inp s.read] _ rfl hb hw (by simp)
    have k1 := trN c9 c1
    have := k1.size
    refine ⟨c1, (mpush_any (h.no k1) (fun k hk => hD k (by omega)) g.rd rfl (by simp) (by simp; omega)).mono ?_⟩
    rintro e w16 ⟨rfl, S2, h16⟩
    have h16 := h16.pre k1
    obtain ⟨p1, p2, p3, p4, p5, p6, p7⟩ := h16.1.nums
    have p5 : S2.read = s.read := p5
    refine ⟨rfl, S2.read, h16.1.ob.cell rfl, h16.1.wr (by omega), fun w18 hw18 => ⟨rfl, { S2 with read := s.read + 1 }, ?_⟩⟩
    rw [p5, wr_in (by omega)] at hw18
    have g3 := h16.1.put (k := 7) (vs := [.int .i64 (s.read + 1)]) (S' := { S2 with read := s.read + 1 }) (s' := { pushV s [sb s.inp s.read] with read := s.read + 1 }) (th' := th) (by simp) rfl hw18 ⟨p1, p2, p3, p4, rfl, p6, p7⟩ rfl rfl rfl rfl rfl rfl
    unfold mKey; rw [if_neg (by omega)]
    exact h16.trans g3
theorem mmem_any (h : MS D w m S s false) (hD : ∀ k, w.heap.size ≤ k → D k) (c : Int) (h1 : 1 ≤ s.stack.length) (h2 : c ≠ 30 → 2 ≤ s.stack.length) (hn : s.stack.length ≤ 100) :
    Calls Tryz.prog fn_inner_machine_memory #[.pointer (some ⟨m, 0, none⟩), .int .i64 c] w fun e w' => ∃ v, e = .returned v ∧ MX D w m S s 1 (mMem s c) v w' := by
  refine (inner_machine_memory_lift (K := fun v w' => MX D w m S s 1 (mMem s c) v w') ?_).mono (by rintro e w' ⟨r, rfl, h⟩; exact ⟨r, rfl, h⟩)
  unfold inner_machine_memory_sh
  have l1 := popV_len s
  refine (mpop_any h h1 (by omega)).mono ?_
  rintro e w4 ⟨rfl, S4, h4⟩
  refine ⟨_, rfl, (mload_any h4.1 (topV s)).mono ?_⟩
  rintro e w7 ⟨c7, hl⟩
  have h7 := h4.trans (MR.no h4.1 c7)
  rcases hl with ⟨hin, rfl⟩ | ⟨hout, v, rfl, hv⟩
  · have hin : ¬ (topV s < 0 ∨ (s.mem.length : Int) ≤ topV s) := hin
    refine ⟨_, _, rfl, _, _, ne_nil _ _, brB_f ?_⟩
    refine ⟨fun x w' => w7 = w' ∧ x = (if c = 31 then 0 else getI s.mem (topV s)) ∧ c ≠ 30, ?_, ?_⟩
    · rintro x w16 ⟨rfl, rfl, c30⟩
      intro w17 hw17
      have c17 := dw hw17
      have h17 := h7.trans (MR.no h7.1 c17)
      have := h2 c30
      refine ⟨fun w' => ∃ S' s' t', MS D w' m S' s' t' ∧ S'.mem = S.mem, ⟨S4, _, _, h17.1, h17.2.1⟩, S.mem, fun w' hS => ?_, ?_⟩
      · obtain ⟨S', s', t', g, e⟩ := hS
        rw [← e]; exact g.ob.cell rfl
      refine (mpop_any h17.1 (by omega) (by omega)).mono ?_
      rintro e w22 ⟨rfl, S22, h22⟩
      have h22 := h17.trans h22
      refine ⟨_, rfl, ⟨S22, _, _, h22.1, h22.2.1⟩, ?_⟩
      have hm22 := h22.1.me
      rw [h22.2.1] at hm22
      have hm22 : Ox intE w22 S.mem s.mem := hm22
      refine hm22.rd.ix (i := topV s) (by omega) (getI_at (by omega) (by omega)) fun a ha _ => ?_
      obtain ⟨f1, f2⟩ := hm22.set ha (k := (topV s).toNat) (by omega) (wr ((if c = 31 then 0 else getI s.mem (topV s)) + topV (popV s)))
      refine ⟨f1, fun w25 hw25 => ?_⟩
      have hbk : S.mem.blk = some a.block := blk_ptr ha
      have hS22 : S22.mem.blk = some a.block := by rw [h22.2.1]; exact hbk
      have c25 : Chg (fun k => k = a.block) w22 w25 := by rw [hw25]; exact Chg.st (S := fun k => k = a.block) (by rw [add_block])
      have hb : mMem s c = .ok { popV (popV s) with mem := s.mem.set (topV s).toNat (wr ((if c = 31 then 0 else getI s.mem (topV s)) + topV (popV s))) } := by unfold mMem; rw [if_neg hin, if_neg c30]
      rw [hb]
      refine MX.ok 1 (S' := S22) (th' := false) ⟨⟨h22.1.ob.chg c25 (fun he => (h22.1.dme _ hS22).2 he.symm), h22.1.nums, h22.1.st.chg c25 (fun k hk he => (h22.1.dst k hk).2.2.2 (he ▸ hS22)), h22.1.bk.chg c25 (fun k hk he => (h22.1.dbk k hk).2.2 (he ▸ hS22)), ?_, h22.1.dm, h22.1.dst, h22.1.dbk, h22.1.dme⟩, h22.2.1, h22.2.2.trans c25 (fun _ _ h => h) (fun k _ hk => by have hk : k = a.block := hk; rw [hk]; exact (h22.1.dme _ hS22).1)⟩
      rw [h22.2.1, hw25]
      exact f2
    · refine brB_of (fun hc => ?_) (fun hc => ?_)
      · have hc : c = 30 := by simpa using hc
        refine mpushL h7.1 (MS.up hD h7.size) [getI s.mem (topV s)] _ rfl (by simp) (by simp) (by show (popV s).stack.length ≤ _; omega) (fun w2 S2 g2 => ?_) rfl
        have hb : mMem s c = .ok (pushV (popV s) [getI s.mem (topV s)]) := by unfold mMem; rw [if_neg hin, if_pos hc]
        rw [hb]
        exact MX.ok 1 (h7.trans g2)
      · have hc : c ≠ 30 := by simpa using hc
        refine brB_of (fun hc1 => ?_) (fun hc1 => ?_)
        · have hc1 : c = 31 := by simpa using hc1
          exact ⟨rfl, by rw [if_pos hc1], hc⟩
        · have hc1 : c ≠ 31 := by simpa using hc1
          exact ⟨rfl, by rw [if_neg hc1]; rfl, hc⟩
  · have hout : topV s < 0 ∨ (s.mem.length : Int) ≤ topV s := hout
    obtain ⟨t, u, rfl⟩ := hv.if
    refine ⟨_, _, rfl, _, _, ne_if _ _ _ _, brB_t ?_⟩
    have hb : mMem s c = .bad (-9) false := by unfold mMem; rw [if_pos hout]
    rw [hb]
    exact MX.bad h4 rfl hv (by decide) (Nat.le_refl _) c7
end
end Go.Proofs.YtkjpmkopnkkbmaaGreatDoor
