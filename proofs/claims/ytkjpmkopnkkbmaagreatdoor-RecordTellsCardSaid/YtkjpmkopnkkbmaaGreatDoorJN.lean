/- A machine's steps in plain words; machines made. -/
import Derived.Test.YtkjpmkopnkkbmaaGreatDoorJM
import Derived.Test.YtkjpmkopnkkbmaaGreatDoorJ3
import Derived.Test.YtkjpmkopnkkbmaaGreatDoorJS

/- A machine's steps, one operation at a time: what a run of one more step is. No program in sight. -/
set_option maxRecDepth 100000
namespace Go.Proofs.YtkjpmkopnkkbmaaGreatDoor
open Go.RowKit

theorem mRun_go {s s' : StV} (n : Nat) (hs : s.status = 0) (h : mAdv s = s') : mRun (n + 1) s = mRun n s' := by
  show (if s.status = 0 then mRun n (mAdv s) else (s, n + 1)) = _
  rw [if_pos hs, h]
theorem mStep_op {s : StV} (c t b g gb : Int) (hrow : (opRow c).takes = t ∧ (opRow c).backs = b ∧ (opRow c).gives = g ∧ (opRow c).givesBak = gb) (hr : 0 ≤ c ∧ c < 48) (h0 : 0 ≤ s.ip) (h1 : s.ip < s.mem.length) (hc : getI s.mem s.ip = c)
    (ha : opArg c = true → s.ip + 1 < s.mem.length) (hz : t ≤ s.stack.length ∧ b ≤ s.back.length ∧ (s.stack.length : Int) - t + g ≤ 48 ∧ (s.back.length : Int) - b + gb ≤ 48) : mStep s = mDo { s with ip := mNext s c } c (mArg s c) s.ip := by
  obtain ⟨r1, r2, r3, r4⟩ := hrow
  have hz0 : mRoom s c = 0 := by
    unfold mRoom
    rw [r1, r2, r3, r4, if_neg (by omega), if_neg (by omega), if_neg (by omega), if_neg (by omega)]
  unfold mStep
  rw [hc, if_neg (by omega), if_neg (by omega), if_neg (fun h => h hr), if_neg (fun h => by have := ha h.1; omega), if_neg (fun h => h hz0)]
theorem mAdv_op {s s' : StV} (c t b g gb : Int) (hrow : (opRow c).takes = t ∧ (opRow c).backs = b ∧ (opRow c).gives = g ∧ (opRow c).givesBak = gb) (hr : 0 ≤ c ∧ c < 48) (h0 : 0 ≤ s.ip) (h1 : s.ip < s.mem.length) (hc : getI s.mem s.ip = c)
    (ha : opArg c = true → s.ip + 1 < s.mem.length) (hz : t ≤ s.stack.length ∧ b ≤ s.back.length ∧ (s.stack.length : Int) - t + g ≤ 48 ∧ (s.back.length : Int) - b + gb ≤ 48) (hd : mDo { s with ip := mNext s c } c (mArg s c) s.ip = .ok s') : mAdv s = s' := by
  unfold mAdv
  rw [mStep_op c t b g gb hrow hr h0 h1 hc ha hz, hd]
theorem top1n (l : List Int) (a : Int) : getI (l ++ [a]) (l.length : Int) = a := by unfold getI; simp
theorem top2n (l : List Int) (a b : Int) : getI (l ++ [a, b]) ((l.length : Int) + 2 - 1) = b := by
  unfold getI; rw [show ((l.length : Int) + 2 - 1).toNat = l.length + 1 by omega]; simp []
theorem tk2 (l : List Int) (a b : Int) : (l ++ [a, b]).take (l.length + 1) = l ++ [a] := by rw [List.take_append, List.take_of_length_le (by omega)]; simp
def OpAt (mem : List Int) (ip c : Int) : Prop := 0 ≤ ip ∧ ip < mem.length ∧ getI mem ip = c
section
variable {n : Nat} {ip hd rd code x a b d : Int} {st bk mem : List Int} {out inp : ByteArray}
theorem run_branch (h : OpAt mem ip 3) (hx : OpAt mem (ip + 1) x) (hl : st.length ≤ 48) (hb : bk.length ≤ 48) :
    mRun (n + 1) ⟨ip, hd, st, bk, mem, out, inp, rd, 0, code⟩ = mRun n ⟨x, hd, st, bk, mem, out, inp, rd, 0, code⟩ := by
  refine mRun_go n rfl (mAdv_op 3 0 0 0 0 ⟨rfl, rfl, rfl, rfl⟩ (by decide) h.1 h.2.1 h.2.2 (fun _ => hx.2.1) ?_ ?_)
  · refine ⟨?_, ?_, ?_, ?_⟩ <;> simp <;> omega
  · have hx := hx.2.2
    have e2 : ip + 2 = ip + 1 + 1 := by omega
    simp [mDo, mArg, opArg, hx]
theorem run_dup (h : OpAt mem ip 6) (hl : st.length < 47) (hb : bk.length ≤ 48) :
    mRun (n + 1) ⟨ip, hd, st ++ [a], bk, mem, out, inp, rd, 0, code⟩ = mRun n ⟨ip + 1, hd, st ++ [a, a], bk, mem, out, inp, rd, 0, code⟩ := by
  refine mRun_go n rfl (mAdv_op 6 1 0 2 0 ⟨rfl, rfl, rfl, rfl⟩ (by decide) h.1 h.2.1 h.2.2 (fun h => by cases h) ?_ ?_)
  · refine ⟨?_, ?_, ?_, ?_⟩ <;> simp <;> omega
  · simp [mDo, mNext, opArg, mShuf, popV, topV, pushV, top1n]
theorem run_drop (h : OpAt mem ip 7) (hl : st.length < 48) (hb : bk.length ≤ 48) :
    mRun (n + 1) ⟨ip, hd, st ++ [a], bk, mem, out, inp, rd, 0, code⟩ = mRun n ⟨ip + 1, hd, st, bk, mem, out, inp, rd, 0, code⟩ := by
  refine mRun_go n rfl (mAdv_op 7 1 0 0 0 ⟨rfl, rfl, rfl, rfl⟩ (by decide) h.1 h.2.1 h.2.2 (fun h => by cases h) ?_ ?_)
  · refine ⟨?_, ?_, ?_, ?_⟩ <;> simp <;> omega
  · simp [mDo, mNext, opArg, mShuf, popV]
theorem run_store (h : OpAt mem ip 31) (hx : 0 ≤ a ∧ a < mem.length) (hl : st.length < 47) (hb : bk.length ≤ 48) :
    mRun (n + 1) ⟨ip, hd, st ++ [b, a], bk, mem, out, inp, rd, 0, code⟩ = mRun n ⟨ip + 1, hd, st, bk, mem.set a.toNat (wr (0 + b)), out, inp, rd, 0, code⟩ := by
  refine mRun_go n rfl (mAdv_op 31 2 0 0 0 ⟨rfl, rfl, rfl, rfl⟩ (by decide) h.1 h.2.1 h.2.2 (fun h => by cases h) ?_ ?_)
  · refine ⟨?_, ?_, ?_, ?_⟩ <;> simp <;> omega
  · simp [mDo, mNext, opArg, mMem, popV, topV, top1n, top2n, tk2]; omega
end
end Go.Proofs.YtkjpmkopnkkbmaaGreatDoor

/- What the statements on a machine's steps come to, in plain words. No program in sight. -/
set_option maxRecDepth 100000
namespace Go.Proofs.YtkjpmkopnkkbmaaGreatDoor
open Go.RowKit

/-! ### Fuel in two parts -/
/-! ### Words that are called -/
end Go.Proofs.YtkjpmkopnkkbmaaGreatDoor

/- Code that is laid into a memory; the memory at the beginning; laws on stacks, memory, loops. No program in sight. -/
set_option maxRecDepth 100000
namespace Go.Proofs.YtkjpmkopnkkbmaaGreatDoor
open Go.RowKit

theorem bootM_len (n : Nat) : (bootM n).length = n := by unfold bootM; simp
/-! ### Stacks -/
section
variable {l bk M : List Int} {a b c : Int}
end

/-! ### Memory -/
/-! ### Loops -/
end Go.Proofs.YtkjpmkopnkkbmaaGreatDoor

/- Faults: what a step that is one comes to. No program in sight. -/
set_option maxRecDepth 100000
namespace Go.Proofs.YtkjpmkopnkkbmaaGreatDoor
open Go.RowKit

def RsOk (s : StV) (c : Int) : Rs → Prop
  | .ok s' => s'.status = s.status ∨ c = 0
  | .bad c' false => -57 ≤ c' ∧ c' < 0
  | .bad c' true => c = 45 ∧ c' = topV s ∧ c' ≠ 0 ∧ 1 ≤ s.stack.length
theorem rsOk_ok {s s' : StV} {c : Int} (h : s'.status = s.status) : RsOk s c (.ok s') := Or.inl h
theorem mMem_rs (s : StV) (c : Int) : RsOk s c (mMem s c) := by
  unfold mMem
  split
  · exact ⟨by decide, by decide⟩
  split
  · exact rsOk_ok rfl
  · exact rsOk_ok rfl
theorem mSay_rs (s : StV) (c : Int) : RsOk s c (mSay s c) := by
  unfold mSay
  split
  · exact ⟨by decide, by decide⟩
  · exact rsOk_ok rfl
theorem mEnd_rs (s : StV) (c : Int) : RsOk s c (mEnd s) := by
  unfold mEnd
  split
  · exact ⟨by decide, by decide⟩
  split
  · exact ⟨by decide, by decide⟩
  · exact rsOk_ok rfl
theorem mReck_rs (s : StV) (c : Int) : RsOk s c (mReck s c) := by
  unfold mReck
  split
  · exact rsOk_ok rfl
  split
  · exact rsOk_ok rfl
  · exact ⟨by decide, by decide⟩
theorem mFlow_rs {s : StV} {c : Int} (h1 : c = 45 → 1 ≤ s.stack.length) : RsOk s c (mFlow s c) := by
  unfold mFlow
  split
  · split
    · exact ⟨by decide, by decide⟩
    · exact rsOk_ok rfl
  split
  · next h45 =>
    split
    · exact rsOk_ok rfl
    · next hz => exact ⟨h45, rfl, hz, h1 h45⟩
  split
  · exact rsOk_ok rfl
  · exact mEnd_rs _ _
theorem mShuf_st (s : StV) (c : Int) : (mShuf s c).status = s.status := by
  unfold mShuf; repeat' split
  all_goals rfl
theorem mBacks_st (s : StV) (c : Int) : (mBacks s c).status = s.status := by
  unfold mBacks; repeat' split
  all_goals rfl
theorem mLoopR_st (s : StV) (i l n a : Int) (e : Bool) : (mLoopR s i l n a e).status = s.status := by
  unfold mLoopR; split <;> rfl
theorem mLoop_st (s : StV) (c a : Int) : (mLoop s c a).status = s.status := by
  unfold mLoop; split
  · rw [mLoopR_st]; rfl
  · rw [mLoopR_st]; rfl
theorem mKey_st (s : StV) : (mKey s).status = s.status := by unfold mKey; split <;> rfl
theorem mDo_rs {s : StV} {c arg was : Int} (h1 : c = 45 → 1 ≤ s.stack.length) : RsOk s c (mDo s c arg was) := by
  unfold mDo
  by_cases h0 : c = 0
  · rw [if_pos h0]; exact Or.inr h0
  rw [if_neg h0]
  by_cases h2 : c = 2
  · rw [if_pos h2]; exact rsOk_ok rfl
  rw [if_neg h2]
  by_cases h4 : c = 4
  · rw [if_pos h4]; split <;> exact rsOk_ok rfl
  rw [if_neg h4]
  by_cases h3 : c = 3
  · rw [if_pos h3]; exact rsOk_ok rfl
  rw [if_neg h3]
  by_cases h5 : c = 5
  · rw [if_pos h5]; exact rsOk_ok rfl
  rw [if_neg h5]
  by_cases h6 : 6 ≤ c ∧ c ≤ 10
  · rw [if_pos h6]; exact rsOk_ok (mShuf_st _ _)
  rw [if_neg h6]
  by_cases h7 : 30 ≤ c ∧ c ≤ 32
  · rw [if_pos h7]; exact mMem_rs _ _
  rw [if_neg h7]
  by_cases h8 : (33 ≤ c ∧ c ≤ 36) ∨ c = 39 ∨ c = 40
  · rw [if_pos h8]; exact rsOk_ok (mBacks_st _ _)
  rw [if_neg h8]
  by_cases h9 : c = 37 ∨ c = 38
  · rw [if_pos h9]; exact rsOk_ok (mLoop_st _ _ _)
  rw [if_neg h9]
  by_cases h10 : c = 41 ∨ c = 42
  · rw [if_pos h10]; exact mSay_rs _ _
  rw [if_neg h10]
  by_cases h11 : c = 43
  · rw [if_pos h11]; exact rsOk_ok (mKey_st _)
  rw [if_neg h11]
  by_cases h12 : (44 ≤ c ∧ c ≤ 46) ∨ c = 1
  · rw [if_pos h12]; exact mFlow_rs h1
  rw [if_neg h12]
  by_cases h13 : c = 47
  · rw [if_pos h13]; exact rsOk_ok rfl
  rw [if_neg h13]
  exact mReck_rs _ _
theorem mStep_rs (s : StV) : RsOk s (getI s.mem s.ip) (mStep s) := by
  unfold mStep
  split
  · exact ⟨by decide, by decide⟩
  split
  · split
    · exact ⟨by decide, by decide⟩
    · exact rsOk_ok rfl
  split
  · exact ⟨by decide, by decide⟩
  split
  · exact ⟨by decide, by decide⟩
  split
  · next hz =>
    have := mRoom_neg s (getI s.mem s.ip)
    show -57 ≤ mRoom s _ ∧ mRoom s _ < 0
    omega
  next hr _ hz =>
  have hr : 0 ≤ getI s.mem s.ip ∧ getI s.mem s.ip < 48 := Classical.byContradiction hr
  have hz : mRoom s (getI s.mem s.ip) = 0 := Classical.byContradiction hz
  exact mDo_rs (s := { s with ip := mNext s (getI s.mem s.ip) }) (fun h => (need_of hr hz).n1 (by omega))
end Go.Proofs.YtkjpmkopnkkbmaaGreatDoor

/- Words that are caught; talks; faults: what they come to. No program in sight. -/
set_option maxRecDepth 100000
namespace Go.Proofs.YtkjpmkopnkkbmaaGreatDoor
open Go.RowKit

/-! ### Catch -/
section
variable {M l more : List Int} {v : Int}
end

/-! ### Talks -/
end Go.Proofs.YtkjpmkopnkkbmaaGreatDoor

/- States held in blocks: made, read, written. -/
set_option maxRecDepth 100000
namespace Go.Proofs.YtkjpmkopnkkbmaaGreatDoor
open Go.RowKit

theorem inSt {w : World} (S : StC) {G : Nat → World → Prop} (k : ∀ b w', b = w.heap.size → w'.heap.size = w.heap.size + 1 → Ob w' b (stC S) T_api_State → Chg No w w' → G b w') : ∀ (b : Nat) (w' : World), b = w.heap.size → w' = World.alloc w (.cells (stC S).toArray T_api_State) → G b w' := fun b w' hb hw =>
  k b w' hb (by rw [hw]; simp) (by rw [hw, hb]; exact Ob.new w (stC S) T_api_State) (al hw)
theorem varSt {w : World} (S : StC) {G : Nat → World → Prop} (k : ∀ b w', b = w.heap.size → w.heap.size + 1 ≤ w'.heap.size → Ob w' b (stC S) T_api_State → Chg No w w' → G b w') : ∀ (b : Nat) (w1 : World), b = w.heap.size → w1 = World.alloc w (.cells (stC st0).toArray T_api_State) → wrOk w1 ⟨b, 0, none⟩ 10 ∧ ∀ w2 : World, w2 = stW w1 ⟨b, 0, none⟩ 0 (stC S) → G b w2 := fun b w1 hb hw => by
  have hn := fun (w2 : World) => newOb (w2 := w2) (T := T_api_State) (stC st0) (stC S) rfl hb hw
  refine ⟨(hn w1).1, fun w2 hw2 => ?_⟩
  obtain ⟨o, c⟩ := (hn w2).2 hw2
  exact k b w2 hb (by have := o.lt; omega) o c
theorem rdSt {w : World} {b : Nat} {S : StC} {T : TypeId} {G : Int → Int → Sl → Sl → Sl → ByteArray → ByteArray → Int → Int → Int → Prop} (o : Ob w b (stC S) T) (g : G S.ip S.handler S.stack S.back S.mem S.out S.inp S.read S.status S.code) :
    ∃ n1 : Int, ∃ n2 : Int, ∃ s3 : Sl, ∃ s4 : Sl, ∃ s5 : Sl, ∃ t6 : ByteArray, ∃ t7 : ByteArray, ∃ n8 : Int, ∃ n9 : Int, ∃ n10 : Int, w.cell? ⟨b, 0, none⟩ = some (.int .i64 n1) ∧ w.cell? ⟨b, 1, none⟩ = some (.int .i64 n2) ∧ w.cell? ⟨b, 2, none⟩ = some (s3.val) ∧ w.cell? ⟨b, 3, none⟩ = some (s4.val) ∧ w.cell? ⟨b, 4, none⟩ = some (s5.val) ∧ w.cell? ⟨b, 5, none⟩ = some (.string t6) ∧ w.cell? ⟨b, 6, none⟩ = some (.string t7) ∧ w.cell? ⟨b, 7, none⟩ = some (.int .i64 n8) ∧ w.cell? ⟨b, 8, none⟩ = some (.int .i64 n9) ∧ w.cell? ⟨b, 9, none⟩ = some (.int .i64 n10) ∧ G n1 n2 s3 s4 s5 t6 t7 n8 n9 n10 :=
  ⟨_, _, _, _, _, _, _, _, _, _, o.cell rfl, o.cell rfl, o.cell rfl, o.cell rfl, o.cell rfl, o.cell rfl, o.cell rfl, o.cell rfl, o.cell rfl, o.cell rfl, g⟩
theorem setSt {w : World} {b : Nat} {S : StC} (S' : StC) {k n : Nat} {vs : List Value} {G : World → Prop} (o : Ob w b (stC S) T_api_State) (hl : k + n ≤ 10) (hn : n = vs.length) (hc : wrL (stC S) k vs = stC S') (g : ∀ w', Ob w' b (stC S') T_api_State → Chg (fun j => j = b) w w' → G w') :
    wrOk w ⟨b, k, none⟩ n ∧ ∀ w' : World, w' = stW w ⟨b, k, none⟩ 0 vs → G w' := by
  subst hn
  refine ⟨o.wr (by simpa [stC] using hl), fun w' hw' => ?_⟩
  obtain ⟨o', c'⟩ := o.up (cs' := stC S') (by simpa [stC] using hl) hc hw'
  exact g w' o' c'
theorem setOx {w : World} {s : Sl} {xs : List Int} (h : Ox intE w s xs) {i v : Int} (h0 : 0 ≤ i) (h1 : i < xs.length) {G : World → Prop} (g : ∀ w', Ox intE w' s (xs.set i.toNat v) → Chg (fun j => s.blk = some j) w w' → G w') :
    ∃ a : Addr, s.ptr = some a ∧ 0 ≤ i ∧ i < (s.len : Int) ∧ wrOk w (Addr.add a (Int.toNat i * 1)) 1 ∧ ∀ w' : World, w' = stW w (Addr.add a (Int.toNat i * 1)) 0 [.int .i64 v] → G w' := by
  have hlen := h.rd.len
  refine h.rd.ix (i := i) h0 (x := getI xs i) (by unfold getI; rw [List.getD_eq_getElem?_getD, List.getElem?_eq_getElem (by omega)]; rfl) fun a ha _ => ?_
  obtain ⟨f1, f2⟩ := h.set ha (k := i.toNat) (by omega) v
  refine ⟨f1, fun w' hw' => ?_⟩
  refine g w' (by rw [hw']; exact f2) ?_
  rw [hw']; exact Chg.st (S := fun j => s.blk = some j) (by rw [add_block]; exact blk_ptr ha)
theorem MOk.of {s : StV} (h : RightS s) (hi : s.inp.size ≤ 1000000) : MOk s := ⟨h.st, h.bk, h.me, h.out, h.rd, hi⟩
theorem LightS.ok {s : StV} (h : LightS s) : MOk s := MOk.of h.right (by have := h.inp; omega)
theorem Gl.no {w w' : World} (h : Gl w) (c : Chg No w w') : Gl w' := h.chg c (fun h => h)
end Go.Proofs.YtkjpmkopnkkbmaaGreatDoor

/- inner.Boot, Enter, Step; the first call of chapter 9's statements. -/
set_option maxRecDepth 100000
namespace Go.Proofs.YtkjpmkopnkkbmaaGreatDoor
open Go.RowKit

theorem brB_t' {b : Bool} {P Q : Prop} (h : b = true) (p : P) : brB b P Q := by rw [h]; exact brB_t p
theorem istep_any {D : Nat → Prop} {w : World} (S : StC) {s : StV} (h : StIs D w S s) (ok : MOk s) (hg : Gl w) :
    Calls Tryz.prog fn_inner_Step #[.agg (stC S).toArray] w fun e w' => ∃ S' : StC, e = .returned (.agg (stC S').toArray) ∧ StX (fun k => w.heap.size ≤ k ∧ k < w'.heap.size) w' S' (runM s 1).1 ∧ Chg No w w' := by
  refine (inner_Step_lift (K := fun r w' => ∃ S' : StC, r = .agg (stC S').toArray ∧ StX (fun k => w.heap.size ≤ k ∧ k < w'.heap.size) w' S' (runM s 1).1 ∧ Chg No w w') ?_).mono (by rintro e w' ⟨r, rfl, S, rfl, h⟩; exact ⟨S, rfl, h⟩)
  unfold inner_Step_sh
  refine inSt S fun b11 w12 hb11 z12 o11 c12 => inSt st0 fun b13 w14 hb13 z14 o13 c14 => rdSt (o11.no c14) ?_
  have k14 := trN c12 c14
  refine (irun_any S (h.no k14) ok (hg.no k14) 1 (by decide)).mono ?_
  rintro e w26 ⟨S1, rfl, g1, c26⟩
  have z26 := c26.size
  refine ⟨_, _, _, _, _, _, _, _, _, _, _, rfl, varSt S1 fun b38 w40 hb38 z40 o38 c40 => rdSt o38 ?_⟩
  refine setSt S1 ((o13.no c26).no c40) (by decide) rfl rfl fun w51 o51 c51 => rdSt o51 ?_
  have z51 := c51.size
  refine ⟨S1, rfl, ((g1.no c40).chg c51 (fun k hk he => by omega)).wid (fun k hk => by omega), ?_⟩
  exact (trN (trN k14 c26) c40).trans c51 (fun _ _ h => h) (fun k hk he => by omega)
end Go.Proofs.YtkjpmkopnkkbmaaGreatDoor
