/- A machine's steps in plain words; machines made. -/
import Derived.Test.YtkjpmkopnkkbmaaGreatDoorJM
import Derived.Test.YtkjpmkopnkkbmaaGreatDoorJ3
import Derived.Test.YtkjpmkopnkkbmaaGreatDoorJS

/- A machine's steps, one operation at a time: what a run of one more step is. No program in sight. -/
set_option maxRecDepth 100000
namespace Go.Proofs.YtkjpmkopnkkbmaaGreatDoor
open Go.RowKit

theorem mRun_go {s s' : StV} (n : Nat) (hs : s.status = 0) (h : mAdv s = s') : mRun (n + 1) s = mRun n s' := by
  show (if s.status = 0 then mRun n (mAdv s) else (s, n + 1)) = _
  rw [if_pos hs, h]
theorem mRun_off {s : StV} (n : Nat) (hs : s.status ≠ 0) : mRun n s = (s, n) := by
  cases n with
  | zero => rfl
  | succ n =>
    show (if s.status = 0 then mRun n (mAdv s) else (s, n + 1)) = _
    rw [if_neg hs]
/-- A step that does an operation. -/
theorem mStep_op {s : StV} (c t b g gb : Int) (hrow : (opRow c).takes = t ∧ (opRow c).backs = b ∧ (opRow c).gives = g ∧ (opRow c).givesBak = gb) (hr : 0 ≤ c ∧ c < 48) (h0 : 0 ≤ s.ip) (h1 : s.ip < s.mem.length) (hc : getI s.mem s.ip = c)
    (ha : opArg c = true → s.ip + 1 < s.mem.length) (hz : t ≤ s.stack.length ∧ b ≤ s.back.length ∧ (s.stack.length : Int) - t + g ≤ 48 ∧ (s.back.length : Int) - b + gb ≤ 48) : mStep s = mDo { s with ip := mNext s c } c (mArg s c) s.ip := by
  obtain ⟨r1, r2, r3, r4⟩ := hrow
  have hz0 : mRoom s c = 0 := by
    unfold mRoom
    rw [r1, r2, r3, r4, if_neg (by omega), if_neg (by omega), if_neg (by omega), if_neg (by omega)]
  unfold mStep
  rw [hc, if_neg (by omega), if_neg (by omega), if_neg (fun h => h hr), if_neg (fun h => by have := ha h.1; omega), if_neg (fun h => h hz0)]
theorem mAdv_op {s s' : StV} (c t b g gb : Int) (hrow : (opRow c).takes = t ∧ (opRow c).backs = b ∧ (opRow c).gives = g ∧ (opRow c).givesBak = gb) (hr : 0 ≤ c ∧ c < 48) (h0 : 0 ≤ s.ip) (h1 : s.ip < s.mem.length) (hc : getI s.mem s.ip = c)
    (ha : opArg c = true → s.ip + 1 < s.mem.length) (hz : t ≤ s.stack.length ∧ b ≤ s.back.length ∧ (s.stack.length : Int) - t + g ≤ 48 ∧ (s.back.length : Int) - b + gb ≤ 48) (hd : mDo { s with ip := mNext s c } c (mArg s c) s.ip = .ok s') : mAdv s = s' := by
  unfold mAdv
  rw [mStep_op c t b g gb hrow hr h0 h1 hc ha hz, hd]
theorem top1n (l : List Int) (a : Int) : getI (l ++ [a]) (l.length : Int) = a := by unfold getI; simp
theorem top2n (l : List Int) (a b : Int) : getI (l ++ [a, b]) ((l.length : Int) + 2 - 1) = b := by
  unfold getI; rw [show ((l.length : Int) + 2 - 1).toNat = l.length + 1 by omega]; simp []
theorem tk2 (l : List Int) (a b : Int) : (l ++ [a, b]).take (l.length + 1) = l ++ [a] := by rw [List.take_append, List.take_of_length_le (by omega)]; simp
/-- What stands in a cell. -/
def OpAt (mem : List Int) (ip c : Int) : Prop := 0 ≤ ip ∧ ip < mem.length ∧ getI mem ip = c
section
variable {n : Nat} {ip hd rd code x a b d : Int} {st bk mem : List Int} {out inp : ByteArray}
theorem run_lit (h : OpAt mem ip 2) (hx : OpAt mem (ip + 1) x) (hl : st.length < 48) (hb : bk.length ≤ 48) :
    mRun (n + 1) ⟨ip, hd, st, bk, mem, out, inp, rd, 0, code⟩ = mRun n ⟨ip + 1 + 1, hd, st ++ [x], bk, mem, out, inp, rd, 0, code⟩ := by
  refine mRun_go n rfl (mAdv_op 2 0 0 1 0 ⟨rfl, rfl, rfl, rfl⟩ (by decide) h.1 h.2.1 h.2.2 (fun _ => hx.2.1) ?_ ?_)
  · refine ⟨?_, ?_, ?_, ?_⟩ <;> simp <;> omega
  · have hx := hx.2.2
    have e2 : ip + 2 = ip + 1 + 1 := by omega
    simp [mDo, mNext, mArg, opArg, pushV, hx, e2]
theorem run_halt (h : OpAt mem ip 0) (hl : st.length ≤ 48) (hb : bk.length ≤ 48) :
    mRun (n + 1) ⟨ip, hd, st, bk, mem, out, inp, rd, 0, code⟩ = (⟨ip, hd, st, bk, mem, out, inp, rd, 1, code⟩, n) := by
  rw [mRun_go n rfl (mAdv_op (s' := ⟨ip, hd, st, bk, mem, out, inp, rd, 1, code⟩) 0 0 0 0 0 ⟨rfl, rfl, rfl, rfl⟩ (by decide) h.1 h.2.1 h.2.2 (fun h => by cases h) ?_ ?_)]
  · exact mRun_off n (show (1 : Int) ≠ 0 by decide)
  · refine ⟨?_, ?_, ?_, ?_⟩ <;> simp <;> omega
  · simp [mDo]
theorem run_exit (h : OpAt mem ip 5) (hl : st.length ≤ 48) (hb : bk.length < 48) :
    mRun (n + 1) ⟨ip, hd, st, bk ++ [a], mem, out, inp, rd, 0, code⟩ = mRun n ⟨a, hd, st, bk, mem, out, inp, rd, 0, code⟩ := by
  refine mRun_go n rfl (mAdv_op 5 0 1 0 0 ⟨rfl, rfl, rfl, rfl⟩ (by decide) h.1 h.2.1 h.2.2 (fun h => by cases h) ?_ ?_)
  · refine ⟨?_, ?_, ?_, ?_⟩ <;> simp <;> omega
  · simp [mDo, mNext, opArg, popB, topB, top1n]
theorem run_dup (h : OpAt mem ip 6) (hl : st.length < 47) (hb : bk.length ≤ 48) :
    mRun (n + 1) ⟨ip, hd, st ++ [a], bk, mem, out, inp, rd, 0, code⟩ = mRun n ⟨ip + 1, hd, st ++ [a, a], bk, mem, out, inp, rd, 0, code⟩ := by
  refine mRun_go n rfl (mAdv_op 6 1 0 2 0 ⟨rfl, rfl, rfl, rfl⟩ (by decide) h.1 h.2.1 h.2.2 (fun h => by cases h) ?_ ?_)
  · refine ⟨?_, ?_, ?_, ?_⟩ <;> simp <;> omega
  · simp [mDo, mNext, opArg, mShuf, popV, topV, pushV, top1n]
theorem run_store (h : OpAt mem ip 31) (hx : 0 ≤ a ∧ a < mem.length) (hl : st.length < 47) (hb : bk.length ≤ 48) :
    mRun (n + 1) ⟨ip, hd, st ++ [b, a], bk, mem, out, inp, rd, 0, code⟩ = mRun n ⟨ip + 1, hd, st, bk, mem.set a.toNat (wr (0 + b)), out, inp, rd, 0, code⟩ := by
  refine mRun_go n rfl (mAdv_op 31 2 0 0 0 ⟨rfl, rfl, rfl, rfl⟩ (by decide) h.1 h.2.1 h.2.2 (fun h => by cases h) ?_ ?_)
  · refine ⟨?_, ?_, ?_, ?_⟩ <;> simp <;> omega
  · simp [mDo, mNext, opArg, mMem, popV, topV, top1n, top2n, tk2]; omega
theorem run_mul (h : OpAt mem ip 13) (hl : st.length < 47) (hb : bk.length ≤ 48) :
    mRun (n + 1) ⟨ip, hd, st ++ [a, b], bk, mem, out, inp, rd, 0, code⟩ = mRun n ⟨ip + 1, hd, st ++ [wrap64 (a * b)], bk, mem, out, inp, rd, 0, code⟩ := by
  refine mRun_go n rfl (mAdv_op 13 2 0 1 0 ⟨rfl, rfl, rfl, rfl⟩ (by decide) h.1 h.2.1 h.2.2 (fun h => by cases h) ?_ ?_)
  · refine ⟨?_, ?_, ?_, ?_⟩ <;> simp <;> omega
  · simp [mDo, mNext, opArg, mReck, popV, topV, pushV, top1n, top2n, tk2, Cn.isOne, Cn.isTwo, Cn.two]
end
end Go.Proofs.YtkjpmkopnkkbmaaGreatDoor

/- What the statements on a machine's steps come to, in plain words. No program in sight. -/
set_option maxRecDepth 100000
namespace Go.Proofs.YtkjpmkopnkkbmaaGreatDoor
open Go.RowKit

/-! ### Fuel in two parts -/
/-! ### Words that are called -/
end Go.Proofs.YtkjpmkopnkkbmaaGreatDoor

/- Code that is laid into a memory; the memory at the beginning; laws on stacks, memory, loops. No program in sight. -/
set_option maxRecDepth 100000
namespace Go.Proofs.YtkjpmkopnkkbmaaGreatDoor
open Go.RowKit

theorem bootM_len (n : Nat) : (bootM n).length = n := by unfold bootM; simp
/-! ### Stacks -/
section
variable {l bk M : List Int} {a b c : Int}
end

/-! ### Memory -/
/-! ### Loops -/
end Go.Proofs.YtkjpmkopnkkbmaaGreatDoor

/- Words that are caught; talks; faults: what they come to. No program in sight. -/
set_option maxRecDepth 100000
namespace Go.Proofs.YtkjpmkopnkkbmaaGreatDoor
open Go.RowKit

/-! ### Catch -/
section
variable {M l more : List Int} {v : Int}
end

/-! ### Talks -/
end Go.Proofs.YtkjpmkopnkkbmaaGreatDoor

/- States held in blocks: made, read, written. -/
set_option maxRecDepth 100000
namespace Go.Proofs.YtkjpmkopnkkbmaaGreatDoor
open Go.RowKit

theorem inSt {w : World} (S : StC) {G : Nat → World → Prop} (k : ∀ b w', b = w.heap.size → w'.heap.size = w.heap.size + 1 → Ob w' b (stC S) T_api_State → Chg No w w' → G b w') : ∀ (b : Nat) (w' : World), b = w.heap.size → w' = World.alloc w (.cells (stC S).toArray T_api_State) → G b w' := fun b w' hb hw =>
  k b w' hb (by rw [hw]; simp) (by rw [hw, hb]; exact Ob.new w (stC S) T_api_State) (al hw)
/-- A variable that is given a state. -/
theorem varSt {w : World} (S : StC) {G : Nat → World → Prop} (k : ∀ b w', b = w.heap.size → w.heap.size + 1 ≤ w'.heap.size → Ob w' b (stC S) T_api_State → Chg No w w' → G b w') : ∀ (b : Nat) (w1 : World), b = w.heap.size → w1 = World.alloc w (.cells (stC st0).toArray T_api_State) → wrOk w1 ⟨b, 0, none⟩ 10 ∧ ∀ w2 : World, w2 = stW w1 ⟨b, 0, none⟩ 0 (stC S) → G b w2 := fun b w1 hb hw => by
  have hn := fun (w2 : World) => newOb (w2 := w2) (T := T_api_State) (stC st0) (stC S) rfl hb hw
  refine ⟨(hn w1).1, fun w2 hw2 => ?_⟩
  obtain ⟨o, c⟩ := (hn w2).2 hw2
  exact k b w2 hb (by have := o.lt; omega) o c
theorem rdSt {w : World} {b : Nat} {S : StC} {T : TypeId} {G : Int → Int → Sl → Sl → Sl → ByteArray → ByteArray → Int → Int → Int → Prop} (o : Ob w b (stC S) T) (g : G S.ip S.handler S.stack S.back S.mem S.out S.inp S.read S.status S.code) :
    ∃ n1 : Int, ∃ n2 : Int, ∃ s3 : Sl, ∃ s4 : Sl, ∃ s5 : Sl, ∃ t6 : ByteArray, ∃ t7 : ByteArray, ∃ n8 : Int, ∃ n9 : Int, ∃ n10 : Int, w.cell? ⟨b, 0, none⟩ = some (.int .i64 n1) ∧ w.cell? ⟨b, 1, none⟩ = some (.int .i64 n2) ∧ w.cell? ⟨b, 2, none⟩ = some (s3.val) ∧ w.cell? ⟨b, 3, none⟩ = some (s4.val) ∧ w.cell? ⟨b, 4, none⟩ = some (s5.val) ∧ w.cell? ⟨b, 5, none⟩ = some (.string t6) ∧ w.cell? ⟨b, 6, none⟩ = some (.string t7) ∧ w.cell? ⟨b, 7, none⟩ = some (.int .i64 n8) ∧ w.cell? ⟨b, 8, none⟩ = some (.int .i64 n9) ∧ w.cell? ⟨b, 9, none⟩ = some (.int .i64 n10) ∧ G n1 n2 s3 s4 s5 t6 t7 n8 n9 n10 :=
  ⟨_, _, _, _, _, _, _, _, _, _, o.cell rfl, o.cell rfl, o.cell rfl, o.cell rfl, o.cell rfl, o.cell rfl, o.cell rfl, o.cell rfl, o.cell rfl, o.cell rfl, g⟩
/-- Cells of a state written anew. -/
theorem setSt {w : World} {b : Nat} {S : StC} (S' : StC) {k n : Nat} {vs : List Value} {G : World → Prop} (o : Ob w b (stC S) T_api_State) (hl : k + n ≤ 10) (hn : n = vs.length) (hc : wrL (stC S) k vs = stC S') (g : ∀ w', Ob w' b (stC S') T_api_State → Chg (fun j => j = b) w w' → G w') :
    wrOk w ⟨b, k, none⟩ n ∧ ∀ w' : World, w' = stW w ⟨b, k, none⟩ 0 vs → G w' := by
  subst hn
  refine ⟨o.wr (by simpa [stC] using hl), fun w' hw' => ?_⟩
  obtain ⟨o', c'⟩ := o.up (cs' := stC S') (by simpa [stC] using hl) hc hw'
  exact g w' o' c'
/-- A number written into a list. -/
theorem setOx {w : World} {s : Sl} {xs : List Int} (h : Ox intE w s xs) {i v : Int} (h0 : 0 ≤ i) (h1 : i < xs.length) {G : World → Prop} (g : ∀ w', Ox intE w' s (xs.set i.toNat v) → Chg (fun j => s.blk = some j) w w' → G w') :
    ∃ a : Addr, s.ptr = some a ∧ 0 ≤ i ∧ i < (s.len : Int) ∧ wrOk w (Addr.add a (Int.toNat i * 1)) 1 ∧ ∀ w' : World, w' = stW w (Addr.add a (Int.toNat i * 1)) 0 [.int .i64 v] → G w' := by
  have hlen := h.rd.len
  refine h.rd.ix (i := i) h0 (x := getI xs i) (by unfold getI; rw [List.getD_eq_getElem?_getD, List.getElem?_eq_getElem (by omega)]; rfl) fun a ha _ => ?_
  obtain ⟨f1, f2⟩ := h.set ha (k := i.toNat) (by omega) v
  refine ⟨f1, fun w' hw' => ?_⟩
  refine g w' (by rw [hw']; exact f2) ?_
  rw [hw']; exact Chg.st (S := fun j => s.blk = some j) (by rw [add_block]; exact blk_ptr ha)
theorem MOk.of {s : StV} (h : RightS s) (hi : s.inp.size ≤ 1000000) : MOk s := ⟨h.st, h.bk, h.me, h.out, h.rd, hi⟩
theorem LightS.ok {s : StV} (h : LightS s) : MOk s := MOk.of h.right (by have := h.inp; omega)
theorem Gl.no {w w' : World} (h : Gl w) (c : Chg No w w') : Gl w' := h.chg c (fun h => h)
end Go.Proofs.YtkjpmkopnkkbmaaGreatDoor

/- inner.Boot, Enter, Step; the first call of chapter 9's statements. -/
set_option maxRecDepth 100000
namespace Go.Proofs.YtkjpmkopnkkbmaaGreatDoor
open Go.RowKit

theorem brB_t' {b : Bool} {P Q : Prop} (h : b = true) (p : P) : brB b P Q := by rw [h]; exact brB_t p
theorem runM_eq {s s' : StV} {k m : Nat} (h : mRun k s = (s', m)) : runM s (k : Int) = (s', (m : Int)) := by
  unfold runM; rw [if_pos (by omega), Int.toNat_natCast, h]
theorem bput_any {w : World} {b : Nat} {S : StC} {ys : List Int} (o : Ob w b (stC S) T_api_State) (h : Ox intE w S.mem ys) (hb : S.mem.blk ≠ some b) {a v : Int} (h0 : 0 ≤ a) :
    Calls Tryz.prog fn_inner_Boot_1 #[.int .i64 a, .int .i64 v, .pointer (some ⟨b, 0, none⟩)] w fun e w' => e = .returned (.tuple #[]) ∧ Ox intE w' S.mem (ys.set a.toNat v) ∧ Ob w' b (stC S) T_api_State ∧ Chg (fun j => S.mem.blk = some j) w w' := by
  refine (inner_Boot_1_lift (K := fun r w' => r = .tuple #[] ∧ Ox intE w' S.mem (ys.set a.toNat v) ∧ Ob w' b (stC S) T_api_State ∧ Chg (fun j => S.mem.blk = some j) w w') ?_).mono (by rintro e w' ⟨r, rfl, rfl, h⟩; exact ⟨rfl, h⟩)
  unfold inner_Boot_1_sh
  have hl := h.rd.len
  refine ⟨S.mem, o.cell rfl, brB_of (fun hlt => ?_) (fun hge => ?_)⟩
  · have hlt := of_decide_eq_true hlt
    exact ⟨S.mem, o.cell rfl, setOx h h0 (by omega) fun w' g c => ⟨rfl, g, o.chg c hb, c⟩⟩
  · have hge := of_decide_eq_false hge
    refine ⟨rfl, ?_, o, Chg.refl _ _⟩
    rw [List.set_eq_of_length_le (by omega)]; exact h
/-- A memory at its beginning, so far. -/
def bootP (M k : Nat) : List Int := (List.range M).map fun q => if q < 64 + 2 * k then bootC q else 0
theorem bootP_len (M k : Nat) : (bootP M k).length = M := by unfold bootP; simp
theorem bootP_zero (M : Nat) : ((List.replicate M (0 : Int)).set 0 0).set 1 1 = bootP M 0 := by
  apply List.ext_getElem?
  intro q
  by_cases hq : q < M
  · unfold bootP
    rw [List.getElem?_map, List.getElem?_range hq]
    by_cases h1 : q = 1
    · subst h1; rw [List.getElem?_set_self (by simp; omega)]; rfl
    · rw [List.getElem?_set_ne (by omega)]
      by_cases h0 : q = 0
      · subst h0; rw [List.getElem?_set_self (by simp; omega)]; rfl
      · rw [List.getElem?_set_ne (by omega), List.getElem?_replicate, if_pos hq]
        show some (0 : Int) = some (if q < 64 + 2 * 0 then bootC q else 0)
        by_cases h64 : q < 64 + 2 * 0
        · rw [if_pos h64]; unfold bootC; rw [if_neg h1, if_neg (by omega)]
        · rw [if_neg h64]
  · rw [List.getElem?_eq_none (by simp; omega), List.getElem?_eq_none (by rw [bootP_len]; omega)]
theorem bootP_step (M k : Nat) (hk : k < 48) : ((bootP M k).set (64 + 2 * k) (k : Int)).set (64 + 2 * k + 1) 5 = bootP M (k + 1) := by
  apply List.ext_getElem?
  intro q
  by_cases hq : q < M
  · by_cases h1 : q = 64 + 2 * k + 1
    · subst h1
      rw [List.getElem?_set_self (by rw [List.length_set, bootP_len]; omega)]
      unfold bootP
      rw [List.getElem?_map, List.getElem?_range hq]
      show some (5 : Int) = some (if 64 + 2 * k + 1 < 64 + 2 * (k + 1) then bootC (64 + 2 * k + 1) else 0)
      rw [if_pos (by omega)]; unfold bootC; rw [if_neg (by omega), if_pos (by omega), if_neg (by omega)]
    · rw [List.getElem?_set_ne (by omega)]
      by_cases h0 : q = 64 + 2 * k
      · subst h0
        rw [List.getElem?_set_self (by rw [bootP_len]; omega)]
        unfold bootP
        rw [List.getElem?_map, List.getElem?_range hq]
        show some (k : Int) = some (if 64 + 2 * k < 64 + 2 * (k + 1) then bootC (64 + 2 * k) else 0)
        rw [if_pos (by omega)]; unfold bootC; rw [if_neg (by omega), if_pos (by omega), if_pos (by omega)]; congr 1; omega
      · rw [List.getElem?_set_ne (by omega)]
        unfold bootP
        rw [List.getElem?_map, List.getElem?_map, List.getElem?_range hq]
        show some (if q < 64 + 2 * k then bootC q else 0) = some (if q < 64 + 2 * (k + 1) then bootC q else 0)
        by_cases hlt : q < 64 + 2 * k
        · rw [if_pos hlt, if_pos (by omega)]
        · rw [if_neg hlt, if_neg (by omega)]
  · rw [List.getElem?_eq_none (by simp [bootP_len]; omega), List.getElem?_eq_none (by rw [bootP_len]; omega)]
theorem bootP_end (M : Nat) : bootP M 48 = bootM M := by
  unfold bootP bootM
  apply List.map_congr_left
  intro q _
  split
  · rfl
  · unfold bootC; rw [if_neg (by omega), if_neg (by omega)]
theorem iboot_any (n : Int) (inp : ByteArray) {M : Nat} (hM : imin (imax n 0) 3000 = (M : Int)) (w : World) :
    Calls Tryz.prog fn_inner_Boot #[.int .i64 n, .string inp] w fun e w' => ∃ S : StC, e = .returned (.agg (stC S).toArray) ∧ StX (fun k => w.heap.size ≤ k ∧ k < w'.heap.size) w' S (bootV M inp) ∧ Chg No w w' := by
  refine (inner_Boot_lift (K := fun r w' => ∃ S : StC, r = .agg (stC S).toArray ∧ StX (fun k => w.heap.size ≤ k ∧ k < w'.heap.size) w' S (bootV M inp) ∧ Chg No w w') ?_).mono (by rintro e w' ⟨r, rfl, S, rfl, h⟩; exact ⟨S, rfl, h⟩)
  unfold inner_Boot_sh
  have hM' : M ≤ 3000 := by unfold imin at hM; split at hM <;> omega
  refine inSt st0 fun b3 w4 hb3 z4 o3 c4 => ?_
  rw [hM]
  obtain ⟨w6, hrun, hme, c6⟩ := make_ints (w := w4) (n := (M : Int)) (N := M) rfl (by omega)
  refine ⟨_, w6, hrun, ?_⟩
  have hsb : ∀ k, (⟨some ⟨w4.heap.size, 0, none⟩, M, M⟩ : Sl).blk = some k → k = w4.heap.size := fun k hk => (Option.some.inj hk).symm
  have z6 := c6.size
  have hlt6 : w4.heap.size < w6.heap.size := hme.lt rfl
  obtain ⟨mS, hmS⟩ : ∃ mS : Sl, mS = ⟨some ⟨w4.heap.size, 0, none⟩, M, M⟩ := ⟨_, rfl⟩
  rw [← hmS] at hme hsb ⊢
  refine varSt { st0 with mem := mS, inp := inp, status := 1 } fun b7 w9 hb7 z9 o7 c9 => ?_
  have q3 := (o3.no c6).no c9
  have hne7 : mS.blk ≠ some b7 := fun he => by have := hsb _ he; omega
  have hne3 : mS.blk ≠ some b3 := fun he => by have := hsb _ he; omega
  have k9 := trN (trN c4 c6) c9
  refine ⟨fn_inner_Boot_1, #[], #[.pointer (some ⟨b7, 0, none⟩)], rfl, fun args w => orc.sok _ _ rfl args w, ?_⟩
  refine (bput_any o7 (hme.no c9).ox hne7 (a := 0) (v := 0) (by decide)).mono ?_
  rintro e w14 ⟨rfl, g14, o14, c14⟩
  refine ⟨rfl, fn_inner_Boot_1, #[], #[.pointer (some ⟨b7, 0, none⟩)], rfl, fun args w => orc.sok _ _ rfl args w, ?_⟩
  refine (bput_any o14 g14 hne7 (a := 1) (v := 1) (by decide)).mono ?_
  rintro e w19 ⟨rfl, g19, o19, c19⟩
  have d19 : Chg (fun j => mS.blk = some j) w9 w19 := c14.trans c19 (fun _ _ h => h) (fun _ _ h => h)
  refine ⟨rfl, fun n w' => ∃ k : Nat, n = k ∧ k ≤ 48 ∧ Ox intE w' mS (bootP M k) ∧ Ob w' b7 (stC { st0 with mem := mS, inp := inp, status := 1 }) T_api_State ∧ Chg (fun j => mS.blk = some j) w9 w', fun n _ => 48 - n.toNat, ⟨0, rfl, by omega, ?_, o19, d19⟩, ?_⟩
  · rw [← bootP_zero]; exact g19
  rintro n w20 ⟨k, rfl, hk, g20, o20, d20⟩
  refine brB_of (fun hlt => ?_) (fun hge => ?_)
  · have hlt : k < 48 := by have := of_decide_eq_true hlt; omega
    refine ⟨fn_inner_Boot_1, #[], #[.pointer (some ⟨b7, 0, none⟩)], rfl, fun args w => orc.sok _ _ rfl args w, ?_⟩
    rw [wr_in (x := 2 * (k : Int)) (by omega), wr_in (x := 64 + 2 * (k : Int)) (by omega), wr_in (x := 64 + 2 * (k : Int) + 1) (by omega), wr_in (x := (k : Int) + 1) (by omega)]
    refine (bput_any o20 g20 hne7 (a := 64 + 2 * (k : Int)) (v := (k : Int)) (by omega)).mono ?_
    rintro e w26 ⟨rfl, g26, o26, c26⟩
    refine ⟨rfl, fn_inner_Boot_1, #[], #[.pointer (some ⟨b7, 0, none⟩)], rfl, fun args w => orc.sok _ _ rfl args w, ?_⟩
    refine (bput_any o26 g26 hne7 (a := 64 + 2 * (k : Int) + 1) (v := 5) (by omega)).mono ?_
    rintro e w31 ⟨rfl, g31, o31, c31⟩
    rw [show (64 + 2 * (k : Int)).toNat = 64 + 2 * k by omega, show (64 + 2 * (k : Int) + 1).toNat = 64 + 2 * k + 1 by omega, bootP_step M k hlt] at g31
    refine ⟨rfl, ⟨k + 1, by omega, by omega, g31, o31, (d20.trans c26 (fun _ _ h => h) (fun _ _ h => h)).trans c31 (fun _ _ h => h) (fun _ _ h => h)⟩, by show 48 - Int.toNat ((k : Int) + 1) < 48 - Int.toNat (k : Int); omega⟩
  · have hge : k = 48 := by have := of_decide_eq_false hge; omega
    subst hge
    rw [bootP_end] at g20
    have q3 := q3.chg d20 hne3
    refine rdSt o20 (setSt { st0 with mem := mS, inp := inp, status := 1 } q3 (by decide) rfl rfl fun w42 o42 c42 => rdSt o42 ?_)
    have z20 := d20.size
    have z42 := c42.size
    refine ⟨{ st0 with mem := mS, inp := inp, status := 1 }, rfl, ⟨⟨rfl, rfl, rfl, rfl, rfl, rfl, rfl⟩, Ox.nil _ _, Ox.nil _ _, g20.qs c42 hne3, (fun k hk => by cases hk), (fun k hk => by cases hk), fun k hk => ?_⟩, ?_⟩
    · have := hsb k hk; omega
    · exact (k9.trans d20 (fun _ _ h => h) (fun k hk he => by have := hsb k he; omega)).trans c42 (fun _ _ h => h) (fun k hk he => by omega)
/-- A machine that runs from a cell on. -/
def enterV (s : StV) (xt : Int) : StV := ⟨xt, 0, s.stack, [0], s.mem, s.out, s.inp, s.read, 0, 0⟩
theorem ienter_any {D : Nat → Prop} {w : World} (S : StC) {s : StV} (h : StIs D w S s) (h1 : s.stack.length ≤ 1000000) (h2 : s.back.length ≤ 1000000) (h3 : s.mem.length ≤ 1000000) (xt : Int) :
    Calls Tryz.prog fn_inner_Enter #[.agg (stC S).toArray, .int .i64 xt] w fun e w' => ∃ S' : StC, e = .returned (.agg (stC S').toArray) ∧ StOw (fun k => w.heap.size ≤ k ∧ k < w'.heap.size) w' S' (enterV s xt) ∧ Chg No w w' := by
  refine (inner_Enter_lift (K := fun r w' => ∃ S' : StC, r = .agg (stC S').toArray ∧ StOw (fun k => w.heap.size ≤ k ∧ k < w'.heap.size) w' S' (enterV s xt) ∧ Chg No w w') ?_).mono (by rintro e w' ⟨r, rfl, S, rfl, h⟩; exact ⟨S, rfl, h⟩)
  unfold inner_Enter_sh
  obtain ⟨m1, m2, m3, m4, m5, m6, m7⟩ := h.nums
  refine inSt S fun b12 w13 hb12 z13 o12 c13 => inSt st0 fun b14 w15 hb14 z15 o14 c15 => rdSt (o12.no c15) ?_
  have k15 := trN c13 c15
  refine (icopy_any S (h.no k15) h1 h2 h3).mono ?_
  rintro e w27 ⟨S1, rfl, g1, c27⟩
  have z27 := c27.size
  refine ⟨_, _, _, _, _, _, _, _, _, _, rfl, setSt S1 ((o12.no c15).no c27) (by decide) rfl rfl fun w38 o38 c38 => ?_⟩
  intro b39 w40 hb39 hw40
  obtain ⟨l40, c40⟩ := litL [0] _ rfl hb39 hw40 (by simp)
  have z38 := c38.size
  have z40 := c40.size
  have hlt40 : b39 < w40.heap.size := l40.lt rfl
  obtain ⟨bS, hbS⟩ : ∃ bS : Sl, bS = ⟨some ⟨b39, 0, none⟩, 1, 1⟩ := ⟨_, rfl⟩
  have hbb : ∀ k, bS.blk = some k → k = b39 := fun k hk => by rw [hbS] at hk; exact (Option.some.inj hk).symm
  have l40 : Ow intE w40 bS [0] := by rw [hbS]; exact l40
  rw [show (Value.slice (some ⟨b39, 0, none⟩) 1 1) = bS.val by rw [hbS]]
  refine setSt { S1 with ip := xt } (o38.no c40) (by decide) rfl rfl fun w41 o41 c41 => setSt { S1 with ip := xt, handler := 0 } o41 (by decide) rfl rfl fun w42 o42 c42 => setSt { S1 with ip := xt, handler := 0, back := bS } o42 (by decide) rfl rfl fun w43 o43 c43 => setSt { S1 with ip := xt, handler := 0, back := bS, status := 0 } o43 (by decide) rfl rfl fun w44 o44 c44 => setSt { S1 with ip := xt, handler := 0, back := bS, status := 0, code := 0 } o44 (by decide) rfl rfl fun w45 o45 c45 => rdSt o45 ?_
  have d45 : Chg (fun j => j = b12) w40 w45 := (((c41.trans c42 (fun _ _ h => h) (fun _ _ h => h)).trans c43 (fun _ _ h => h) (fun _ _ h => h)).trans c44 (fun _ _ h => h) (fun _ _ h => h)).trans c45 (fun _ _ h => h) (fun _ _ h => h)
  have d2745 : Chg (fun j => j = b12) w27 w45 := (c38.trans c40 (fun _ _ h => h) (fun _ _ h => h.elim)).trans d45 (fun _ _ h => h) (fun _ _ h => h)
  have z45 := d45.size
  have q14 := (o14.no c27).chg d2745 (fun he => by omega)
  refine setSt { S1 with ip := xt, handler := 0, back := bS, status := 0, code := 0 } q14 (by decide) rfl rfl fun w56 o56 c56 => rdSt o56 ?_
  have z56 := c56.size
  have dd : Chg (fun j => j = b12 ∨ j = b14) w27 w56 := d2745.trans c56 (fun _ _ h => Or.inl h) (fun _ _ h => Or.inr h)
  have g56 := g1.chg dd (fun k hk he => by omega)
  obtain ⟨n1, n2, n3, n4, n5, n6, n7⟩ := g1.nums
  have lb : Ow intE w56 bS [0] := (l40.chg d45 (fun k hk he => by have := hbb k hk; omega)).chg c56 (fun k hk he => by have := hbb k hk; omega)
  refine ⟨{ S1 with ip := xt, handler := 0, back := bS, status := 0, code := 0 }, rfl, ⟨⟨rfl, rfl, n3, n4, n5, rfl, rfl⟩, g56.st, lb, g56.me, fun k hk => ?_, fun k hk => ⟨?_, fun he => ?_⟩, fun k hk => ⟨?_, fun he => ?_, fun he => ?_⟩⟩, ?_⟩
  · have := g1.stD k hk; omega
  · have := hbb k hk; omega
  · have := hbb k hk; have := g1.stD k he; omega
  · have := (g1.meD k hk).1; omega
  · exact (g1.meD k hk).2.1 he
  · have := hbb k he; have := (g1.meD k hk).1; omega
  · exact (trN k15 c27).trans dd (fun _ _ h => h) (fun k hk he => by omega)
theorem istep_any {D : Nat → Prop} {w : World} (S : StC) {s : StV} (h : StIs D w S s) (ok : MOk s) (hg : Gl w) :
    Calls Tryz.prog fn_inner_Step #[.agg (stC S).toArray] w fun e w' => ∃ S' : StC, e = .returned (.agg (stC S').toArray) ∧ StX (fun k => w.heap.size ≤ k ∧ k < w'.heap.size) w' S' (runM s 1).1 ∧ Chg No w w' := by
  refine (inner_Step_lift (K := fun r w' => ∃ S' : StC, r = .agg (stC S').toArray ∧ StX (fun k => w.heap.size ≤ k ∧ k < w'.heap.size) w' S' (runM s 1).1 ∧ Chg No w w') ?_).mono (by rintro e w' ⟨r, rfl, S, rfl, h⟩; exact ⟨S, rfl, h⟩)
  unfold inner_Step_sh
  refine inSt S fun b11 w12 hb11 z12 o11 c12 => inSt st0 fun b13 w14 hb13 z14 o13 c14 => rdSt (o11.no c14) ?_
  have k14 := trN c12 c14
  refine (irun_any S (h.no k14) ok (hg.no k14) 1 (by decide)).mono ?_
  rintro e w26 ⟨S1, rfl, g1, c26⟩
  have z26 := c26.size
  refine ⟨_, _, _, _, _, _, _, _, _, _, _, rfl, varSt S1 fun b38 w40 hb38 z40 o38 c40 => rdSt o38 ?_⟩
  refine setSt S1 ((o13.no c26).no c40) (by decide) rfl rfl fun w51 o51 c51 => rdSt o51 ?_
  have z51 := c51.size
  refine ⟨S1, rfl, ((g1.no c40).chg c51 (fun k hk he => by omega)).wid (fun k hk => by omega), ?_⟩
  exact (trN (trN k14 c26) c40).trans c51 (fun _ _ h => h) (fun k hk he => by omega)
def aliveM : List Int := (((((bootM 300).set 192 2).set 193 3).set 194 6).set 195 13).set 196 5
theorem alive_run : mRun 99 ⟨192, 0, [], [0], aliveM, bs [], bs [], 0, 0, 0⟩ = (⟨0, 0, [9], [], aliveM, bs [], bs [], 0, 1, 0⟩, 94) := by
  have hl : aliveM.length = 300 := by unfold aliveM; simp [bootM_len]
  have a : ∀ {i c : Int}, 0 ≤ i → i < 300 → getI aliveM i = c → OpAt aliveM i c := fun h0 h1 h2 => ⟨h0, by omega, h2⟩
  rw [run_lit (x := 3) (a (by decide) (by decide) (by decide +kernel)) (a (by decide) (by decide) (by decide +kernel)) (by simp) (by simp)]
  rw [show ([] : List Int) ++ [3] = [] ++ [3] from rfl, run_dup (a (by decide) (by decide) (by decide +kernel)) (by simp) (by simp)]
  rw [run_mul (a (by decide) (by decide) (by decide +kernel)) (by simp) (by simp), show ([0] : List Int) = [] ++ [0] from rfl]
  rw [run_exit (a (by decide) (by decide) (by decide +kernel)) (by simp) (by simp), run_halt (a (by decide) (by decide) (by decide +kernel)) (by simp) (by simp)]
  have e : wrap64 (3 * 3) = 9 := by decide +kernel
  rw [e]; rfl
theorem alive9_any {w : World} (hg : Gl w) : Calls Tryz.prog fn_hollowaylaw9_alive #[] w fun e w' => e = .returned (.bool true) ∧ Chg No w w' := by
  refine (hollowaylaw9_alive_lift (K := fun v w' => v = .bool true ∧ Chg No w w') ?_).mono (by rintro e w' ⟨v, rfl, rfl, h⟩; exact ⟨rfl, h⟩)
  unfold hollowaylaw9_alive_sh
  refine (iboot_any 300 (bs []) (M := 300) (by decide +kernel) w).mono ?_
  rintro e w2 ⟨S0, rfl, g0, c2⟩
  have z2 := c2.size
  refine ⟨_, _, _, _, _, _, _, _, _, _, rfl, varSt S0 fun b13 w15 hb13 z15 o13 c15 => ?_⟩
  have k15 := trN c2 c15
  have g15 := g0.no c15
  have hl : (bootM 300).length = 300 := bootM_len 300
  have hlen : S0.mem.len = (bootM 300).length := g15.me.rd.len
  have hbm : ∀ k, S0.mem.blk = some k → w.heap.size ≤ k ∧ k < w2.heap.size := fun k hk => g0.meD k hk
  have hne : S0.mem.blk ≠ some b13 := fun he => by have := hbm _ he; omega
  refine ⟨fun b w' => b = false ∧ w' = w15, ?_, S0.mem, o13.cell rfl, brB_of (fun h => ?_) (fun _ => ⟨S0.mem, o13.cell rfl, ?_⟩)⟩
  rotate_left
  · rw [hlen, hl] at h; simp at h
  · refine g15.me.rd.ix (i := 76) (by decide) (x := 6) (by show (bootM 300)[76]? = some 6; decide +kernel) fun a _ hcell => ?_
    have q := hcell 0 _ rfl
    rw [add0] at q
    exact ⟨_, q, rfl, rfl⟩
  rintro b w20 ⟨rfl, rfl⟩
  refine brB_f ?_
  intro w22 hw22
  have c22 := dw hw22
  have p13 := o13.no c22
  have g22 := g15.no c22
  have hO : ∀ {w'}, Ob w' b13 (stC S0) T_api_State → Ob w' b13 (stC S0) T_api_State := fun h => h
  refine ⟨fun w' => Ob w' b13 (stC S0) T_api_State, p13, S0.mem, Ob.held (fun w' h => h) rfl, S0.mem, Ob.held (fun w' h => h) rfl, S0.mem, Ob.held (fun w' h => h) rfl, S0.mem, Ob.held (fun w' h => h) rfl, S0.mem, Ob.held (fun w' h => h) rfl, ?_⟩
  have gm : Ox intE w22 S0.mem (bootM 300) := g22.me
  refine setOx gm (by decide) (by rw [hl]; decide) fun w30 g30 c30 => ⟨p13.chg c30 hne, setOx g30 (by decide) (by simp [hl]) fun w32 g32 c32 => ⟨(p13.chg c30 hne).chg c32 hne, setOx g32 (by decide) (by simp [hl]) fun w34 g34 c34 => ⟨((p13.chg c30 hne).chg c32 hne).chg c34 hne, setOx g34 (by decide) (by simp [hl]) fun w36 g36 c36 => ⟨(((p13.chg c30 hne).chg c32 hne).chg c34 hne).chg c36 hne, setOx g36 (by decide) (by simp [hl]) fun w38 g38 c38 => ?_⟩⟩⟩⟩
  have d38 : Chg (fun j => S0.mem.blk = some j) w22 w38 := (((c30.trans c32 (fun _ _ h => h) (fun _ _ h => h)).trans c34 (fun _ _ h => h) (fun _ _ h => h)).trans c36 (fun _ _ h => h) (fun _ _ h => h)).trans c38 (fun _ _ h => h) (fun _ _ h => h)
  have p38 := p13.chg d38 hne
  refine rdSt p38 ?_
  have z22 := c22.size
  have z38 := d38.size
  have k38 : Chg No w w38 := (trN k15 c22).trans d38 (fun _ _ h => h) (fun k hk he => by have := hbm k he; omega)
  have e38 : StIs (fun _ => True) w38 S0 { bootV 300 (bs []) with mem := aliveM } :=
    ⟨g0.nums, (g22.st.chg d38 (fun k hk he => (g0.stD k hk).2.2 he)).rd, (g22.bk.chg d38 (fun k hk he => (g0.bkD k hk).2 he)).rd, g38.rd, fun _ _ => trivial, fun _ _ => trivial, fun _ _ => trivial⟩
  refine (ienter_any S0 e38 (by show 0 ≤ _; omega) (by show 0 ≤ _; omega) (by show aliveM.length ≤ _; unfold aliveM; simp [hl]) 192).mono ?_
  rintro e w50 ⟨S1, rfl, g50, c50⟩
  have z50 := c50.size
  have k50 := trN k38 c50
  refine ⟨_, _, _, _, _, _, _, _, _, _, rfl, ?_⟩
  have ok : MOk (enterV { bootV 300 (bs []) with mem := aliveM } 192) := ⟨by show 0 ≤ 48; omega, by show 1 ≤ 48; omega, by show aliveM.length ≤ _; unfold aliveM; simp [hl], by show 0 ≤ 2000; omega, ⟨by show (0 : Int) ≤ 0; omega, by show (0 : Int) ≤ _; exact Int.natCast_nonneg _⟩, by show 0 ≤ _; omega⟩
  refine (irun_any S1 g50.is ok (hg.no k50) 99 (by decide)).mono ?_
  rintro e w62 ⟨S2, rfl, g62, c62⟩
  have hr : runM (enterV { bootV 300 (bs []) with mem := aliveM } 192) 99 = (⟨0, 0, [9], [], aliveM, bs [], bs [], 0, 1, 0⟩, 94) := runM_eq (k := 99) (m := 94) alive_run
  rw [hr] at g62 ⊢
  have k62 := trN k50 c62
  refine ⟨_, _, _, _, _, _, _, _, _, _, _, rfl, varSt S2 fun b74 w76 hb74 z76 o74 c76 => ?_⟩
  have k76 := trN k62 c76
  obtain ⟨m1, m2, m3, m4, m5, m6, m7⟩ := g62.nums
  have hs : S2.stack.len = 1 := (g62.st.rd).len
  refine ⟨S2.status, o74.cell rfl, brB_t' (by rw [m6]; rfl) ⟨S2.stack, o74.cell rfl, brB_t' (by rw [hs]; rfl) ⟨S2.stack, o74.cell rfl, ?_⟩⟩⟩
  refine (g62.st.rd.no c76).ix (i := 0) (by decide) (x := 9) rfl fun a _ hcell => ?_
  have q := hcell 0 _ rfl
  rw [add0] at q
  exact ⟨_, q, brB_t' rfl ⟨rfl, k76⟩⟩
end Go.Proofs.YtkjpmkopnkkbmaaGreatDoor

/- Faults: what a step that is one comes to. No program in sight. -/
set_option maxRecDepth 100000
namespace Go.Proofs.YtkjpmkopnkkbmaaGreatDoor
open Go.RowKit

/-- What a step may come to: a machine that runs on (or ends), a fault with a code of its own, or one that a word threw. -/
def RsOk (s : StV) (c : Int) : Rs → Prop
  | .ok s' => s'.status = s.status ∨ c = 0
  | .bad c' false => -57 ≤ c' ∧ c' < 0
  | .bad c' true => c = 45 ∧ c' = topV s ∧ c' ≠ 0 ∧ 1 ≤ s.stack.length
theorem rsOk_ok {s s' : StV} {c : Int} (h : s'.status = s.status) : RsOk s c (.ok s') := Or.inl h
theorem mMem_rs (s : StV) (c : Int) : RsOk s c (mMem s c) := by
  unfold mMem
  split
  · exact ⟨by decide, by decide⟩
  split
  · exact rsOk_ok rfl
  · exact rsOk_ok rfl
theorem mSay_rs (s : StV) (c : Int) : RsOk s c (mSay s c) := by
  unfold mSay
  split
  · exact ⟨by decide, by decide⟩
  · exact rsOk_ok rfl
theorem mEnd_rs (s : StV) (c : Int) : RsOk s c (mEnd s) := by
  unfold mEnd
  split
  · exact ⟨by decide, by decide⟩
  split
  · exact ⟨by decide, by decide⟩
  · exact rsOk_ok rfl
theorem mReck_rs (s : StV) (c : Int) : RsOk s c (mReck s c) := by
  unfold mReck
  split
  · exact rsOk_ok rfl
  split
  · exact rsOk_ok rfl
  · exact ⟨by decide, by decide⟩
theorem mFlow_rs {s : StV} {c : Int} (h1 : c = 45 → 1 ≤ s.stack.length) : RsOk s c (mFlow s c) := by
  unfold mFlow
  split
  · split
    · exact ⟨by decide, by decide⟩
    · exact rsOk_ok rfl
  split
  · next h45 =>
    split
    · exact rsOk_ok rfl
    · next hz => exact ⟨h45, rfl, hz, h1 h45⟩
  split
  · exact rsOk_ok rfl
  · exact mEnd_rs _ _
theorem mShuf_st (s : StV) (c : Int) : (mShuf s c).status = s.status := by
  unfold mShuf; repeat' split
  all_goals rfl
theorem mBacks_st (s : StV) (c : Int) : (mBacks s c).status = s.status := by
  unfold mBacks; repeat' split
  all_goals rfl
theorem mLoopR_st (s : StV) (i l n a : Int) (e : Bool) : (mLoopR s i l n a e).status = s.status := by
  unfold mLoopR; split <;> rfl
theorem mLoop_st (s : StV) (c a : Int) : (mLoop s c a).status = s.status := by
  unfold mLoop; split
  · rw [mLoopR_st]; rfl
  · rw [mLoopR_st]; rfl
theorem mKey_st (s : StV) : (mKey s).status = s.status := by unfold mKey; split <;> rfl
theorem mDo_rs {s : StV} {c arg was : Int} (h1 : c = 45 → 1 ≤ s.stack.length) : RsOk s c (mDo s c arg was) := by
  unfold mDo
  by_cases h0 : c = 0
  · rw [if_pos h0]; exact Or.inr h0
  rw [if_neg h0]
  by_cases h2 : c = 2
  · rw [if_pos h2]; exact rsOk_ok rfl
  rw [if_neg h2]
  by_cases h4 : c = 4
  · rw [if_pos h4]; split <;> exact rsOk_ok rfl
  rw [if_neg h4]
  by_cases h3 : c = 3
  · rw [if_pos h3]; exact rsOk_ok rfl
  rw [if_neg h3]
  by_cases h5 : c = 5
  · rw [if_pos h5]; exact rsOk_ok rfl
  rw [if_neg h5]
  by_cases h6 : 6 ≤ c ∧ c ≤ 10
  · rw [if_pos h6]; exact rsOk_ok (mShuf_st _ _)
  rw [if_neg h6]
  by_cases h7 : 30 ≤ c ∧ c ≤ 32
  · rw [if_pos h7]; exact mMem_rs _ _
  rw [if_neg h7]
  by_cases h8 : (33 ≤ c ∧ c ≤ 36) ∨ c = 39 ∨ c = 40
  · rw [if_pos h8]; exact rsOk_ok (mBacks_st _ _)
  rw [if_neg h8]
  by_cases h9 : c = 37 ∨ c = 38
  · rw [if_pos h9]; exact rsOk_ok (mLoop_st _ _ _)
  rw [if_neg h9]
  by_cases h10 : c = 41 ∨ c = 42
  · rw [if_pos h10]; exact mSay_rs _ _
  rw [if_neg h10]
  by_cases h11 : c = 43
  · rw [if_pos h11]; exact rsOk_ok (mKey_st _)
  rw [if_neg h11]
  by_cases h12 : (44 ≤ c ∧ c ≤ 46) ∨ c = 1
  · rw [if_pos h12]; exact mFlow_rs h1
  rw [if_neg h12]
  by_cases h13 : c = 47
  · rw [if_pos h13]; exact rsOk_ok rfl
  rw [if_neg h13]
  exact mReck_rs _ _
theorem mStep_rs (s : StV) : RsOk s (getI s.mem s.ip) (mStep s) := by
  unfold mStep
  split
  · exact ⟨by decide, by decide⟩
  split
  · split
    · exact ⟨by decide, by decide⟩
    · exact rsOk_ok rfl
  split
  · exact ⟨by decide, by decide⟩
  split
  · exact ⟨by decide, by decide⟩
  split
  · next hz =>
    have := mRoom_neg s (getI s.mem s.ip)
    show -57 ≤ mRoom s _ ∧ mRoom s _ < 0
    omega
  next hr _ hz =>
  have hr : 0 ≤ getI s.mem s.ip ∧ getI s.mem s.ip < 48 := Classical.byContradiction hr
  have hz : mRoom s (getI s.mem s.ip) = 0 := Classical.byContradiction hz
  exact mDo_rs (s := { s with ip := mNext s (getI s.mem s.ip) }) (fun h => (need_of hr hz).n1 (by omega))
end Go.Proofs.YtkjpmkopnkkbmaaGreatDoor
