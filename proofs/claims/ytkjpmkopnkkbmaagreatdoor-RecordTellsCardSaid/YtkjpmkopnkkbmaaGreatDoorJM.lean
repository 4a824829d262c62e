/- A machine in memory: its steps. -/
import Derived.Test.YtkjpmkopnkkbmaaGreatDoorJJ
import Derived.Test.YtkjpmkopnkkbmaaGreatDoorJ3
import Derived.Test.YtkjpmkopnkkbmaaGreatDoorJI
import Derived.Test.YtkjpmkopnkkbmaaGreatDoorJ5
import Derived.Test.YtkjpmkopnkkbmaaGreatDoorJ2
import Derived.Test.YtkjpmkopnkkbmaaGreatDoorJ4

/- A machine's steps, in plain words. -/
set_option maxRecDepth 100000
namespace Go.Proofs.YtkjpmkopnkkbmaaGreatDoor
open Go.RowKit

def topV (s : StV) : Int := getI s.stack ((s.stack.length : Int) - 1)
def topB (s : StV) : Int := getI s.back ((s.back.length : Int) - 1)
def popV (s : StV) : StV := { s with stack := s.stack.take (s.stack.length - 1) }
def popB (s : StV) : StV := { s with back := s.back.take (s.back.length - 1) }
def pushV (s : StV) (l : List Int) : StV := { s with stack := s.stack ++ l }
def backV (s : StV) (l : List Int) : StV := { s with back := s.back ++ l }
inductive Rs where
  | ok (s : StV)
  | bad (c : Int) (th : Bool)
def mShuf (s : StV) (c : Int) : StV :=
  if c = 6 then pushV (popV s) [topV s, topV s] else
  if c = 8 then pushV (popV (popV s)) [topV s, topV (popV s)] else
  if c = 9 then pushV (popV (popV s)) [topV (popV s), topV s, topV (popV s)] else
  if c = 10 then pushV (popV (popV (popV s))) [topV (popV s), topV s, topV (popV (popV s))] else popV s
def mMem (s : StV) (c : Int) : Rs :=
  if topV s < 0 ∨ (s.mem.length : Int) ≤ topV s then .bad (-9) false else
  if c = 30 then .ok (pushV (popV s) [getI s.mem (topV s)]) else
  .ok { popV (popV s) with mem := s.mem.set (topV s).toNat (wr ((if c = 31 then 0 else getI s.mem (topV s)) + topV (popV s))) }
def mBacks (s : StV) (c : Int) : StV :=
  if c = 33 then backV (popV s) [topV s] else
  if c = 34 then pushV (popB s) [topB s] else
  if c = 35 then pushV s [topB s] else
  if c = 36 then backV (popV (popV s)) [topV (popV s), topV s] else
  if c = 39 then pushV s [getI s.back ((s.back.length : Int) - 3)] else { s with back := s.back.take (s.back.length - 2) }
def mLoopR (s : StV) (index limit n arg : Int) (ends : Bool) : StV := if ends = true then s else { backV s [limit, wr (index + n)] with ip := arg }
def mLoop (s : StV) (c arg : Int) : StV :=
  if c = 38 then mLoopR (popV (popB (popB s))) (topB s) (topB (popB s)) (topV s) arg (Cn.crosses (wr (topB s - topB (popB s))) (topV s))
  else mLoopR (popB (popB s)) (topB s) (topB (popB s)) 1 arg (decide (wr (topB s + 1) = topB (popB s)))
def mText (c v : Int) : ByteArray := if c = 42 then putV v ++ bs [32] else bs [byteC v]
def mSay (s : StV) (c : Int) : Rs :=
  if 2000 < (s.out.size : Int) + (mText c (topV s)).size then .bad (-57) false else .ok { popV s with out := s.out ++ mText c (topV s) }
def mKey (s : StV) : StV := if (s.inp.size : Int) ≤ s.read then pushV s [-1] else { pushV s [sb s.inp s.read] with read := s.read + 1 }
def mCatch (s : StV) (xt : Int) : StV :=
  { backV { backV s [s.ip, s.handler, (s.stack.length : Int)] with handler := (s.back.length : Int) + 3 } [1] with ip := xt }
def mEnd (s : StV) : Rs :=
  if s.handler < 3 ∨ (s.back.length : Int) ≠ s.handler then .bad (-25) false else
  if 48 ≤ s.stack.length then .bad (-3) false else
  .ok (pushV { popB (popB (popB s)) with handler := topB (popB s), ip := topB (popB (popB s)) } [0])
def mFlow (s : StV) (c : Int) : Rs :=
  if c = 44 then (if topV s < 64 ∨ (s.mem.length : Int) ≤ topV s then .bad (-13) false else .ok { backV (popV s) [s.ip] with ip := topV s }) else
  if c = 45 then (if topV s = 0 then .ok (popV s) else .bad (topV s) true) else
  if c = 46 then .ok (mCatch (popV s) (topV s)) else mEnd s
def mReck (s : StV) (c : Int) : Rs :=
  if Cn.isOne c = true then .ok (pushV (popV s) [Cn.one c (topV s)]) else
  if Cn.isTwo c (topV s) = true then .ok (pushV (popV (popV s)) [Cn.two c (topV (popV s)) (topV s)]) else .bad (-10) false
def mDo (s : StV) (c arg was : Int) : Rs :=
  if c = 0 then .ok { s with ip := was, status := 1 } else
  if c = 2 then .ok (pushV s [arg]) else
  if c = 4 then (if topV s ≠ 0 then .ok (popV s) else .ok { popV s with ip := arg }) else
  if c = 3 then .ok { s with ip := arg } else
  if c = 5 then .ok { popB s with ip := topB s } else
  if 6 ≤ c ∧ c ≤ 10 then .ok (mShuf s c) else
  if 30 ≤ c ∧ c ≤ 32 then mMem s c else
  if (33 ≤ c ∧ c ≤ 36) ∨ c = 39 ∨ c = 40 then .ok (mBacks s c) else
  if c = 37 ∨ c = 38 then .ok (mLoop s c arg) else
  if c = 41 ∨ c = 42 then mSay s c else
  if c = 43 then .ok (mKey s) else
  if (44 ≤ c ∧ c ≤ 46) ∨ c = 1 then mFlow s c else
  if c = 47 then .ok s else mReck s c
def mRoom (s : StV) (c : Int) : Int :=
  if (s.stack.length : Int) < (opRow c).takes then -4 else
  if (s.back.length : Int) < (opRow c).backs then -6 else
  if 48 < (s.stack.length : Int) - (opRow c).takes + (opRow c).gives then -3 else
  if 48 < (s.back.length : Int) - (opRow c).backs + (opRow c).givesBak then -5 else 0
def mArg (s : StV) (c : Int) : Int := if opArg c = true then getI s.mem (s.ip + 1) else 0
def mNext (s : StV) (c : Int) : Int := if opArg c = true then s.ip + 2 else s.ip + 1
def mStep (s : StV) : Rs :=
  if s.ip < 0 ∨ (s.mem.length : Int) ≤ s.ip then .bad (-9) false else
  if 64 ≤ getI s.mem s.ip then (if 48 ≤ s.back.length then .bad (-5) false else .ok { backV s [s.ip + 1] with ip := getI s.mem s.ip }) else
  if ¬ (0 ≤ getI s.mem s.ip ∧ getI s.mem s.ip < 48) then .bad (-13) false else
  if opArg (getI s.mem s.ip) = true ∧ (s.mem.length : Int) ≤ s.ip + 1 then .bad (-9) false else
  if mRoom s (getI s.mem s.ip) ≠ 0 then .bad (mRoom s (getI s.mem s.ip)) false else
  mDo { s with ip := mNext s (getI s.mem s.ip) } (getI s.mem s.ip) (mArg s (getI s.mem s.ip)) s.ip
def mCaught (s : StV) : Option Nat :=
  if 3 ≤ s.handler ∧ s.handler ≤ s.back.length ∧ 0 ≤ getI s.back (s.handler - 1) ∧ getI s.back (s.handler - 1) < 48 then some (getI s.back (s.handler - 1)).toNat else none
def mFault (s : StV) (c : Int) : StV := match mCaught s with
  | some n => { s with ip := getI s.back (s.handler - 3), handler := getI s.back (s.handler - 2), back := s.back.take (s.handler - 3).toNat, stack := (s.stack.take n ++ List.replicate (n - s.stack.length) 0) ++ [c] }
  | none => { s with status := 2, code := c }
def mAdv (s : StV) : StV := match mStep s with
  | .ok s' => s'
  | .bad c th => mFault (if th = true then popV s else s) c
def mRun : Nat → StV → StV × Nat
  | 0, s => (s, 0)
  | n + 1, s => if s.status = 0 then mRun n (mAdv s) else (s, n + 1)

structure MOk (s : StV) : Prop where
  st : s.stack.length ≤ 48
  bk : s.back.length ≤ 48
  me : s.mem.length ≤ 3000
  out : s.out.size ≤ 2000
  rd : 0 ≤ s.read ∧ s.read ≤ s.inp.size
  inp : s.inp.size ≤ 1000000
theorem rows_small : ∀ n : Nat, n < 48 → (0 ≤ (opRow n).takes ∧ (opRow n).takes ≤ 3 ∧ 0 ≤ (opRow n).backs ∧ (opRow n).backs ≤ 3 ∧ 0 ≤ (opRow n).gives ∧ (opRow n).gives ≤ 3 ∧ 0 ≤ (opRow n).givesBak ∧ (opRow n).givesBak ≤ 4) ∧
    ((11 ≤ n ∧ n ≤ 29) → (opRow n).backs = 0 ∧ (opRow n).gives = 1 ∧ (opRow n).givesBak = 0 ∧ if n = 16 ∨ n = 20 ∨ n = 26 ∨ n = 27 then (opRow n).takes = 1 else (opRow n).takes = 2) := by decide +kernel
theorem mRoom_no {s : StV} {c : Int} (h : mRoom s c = 0) : (opRow c).takes ≤ s.stack.length ∧ (opRow c).backs ≤ s.back.length ∧ (s.stack.length : Int) - (opRow c).takes + (opRow c).gives ≤ 48 ∧ (s.back.length : Int) - (opRow c).backs + (opRow c).givesBak ≤ 48 := by
  unfold mRoom at h
  split at h
  · omega
  split at h
  · omega
  split at h
  · omega
  split at h
  · omega
  omega
theorem mRoom_neg (s : StV) (c : Int) : mRoom s c = 0 ∨ mRoom s c = -4 ∨ mRoom s c = -6 ∨ mRoom s c = -3 ∨ mRoom s c = -5 := by
  unfold mRoom
  repeat' split
  all_goals omega
end Go.Proofs.YtkjpmkopnkkbmaaGreatDoor

/- A machine in memory: cells laid and taken, faults made, cells read. -/
set_option maxRecDepth 100000
namespace Go.Proofs.YtkjpmkopnkkbmaaGreatDoor
open Go.RowKit

def mcC (S : StC) (th : Bool) : List Value := stC S ++ [.bool th]
structure MS (D : Nat → Prop) (w : World) (m : Nat) (S : StC) (s : StV) (th : Bool) : Prop where
  ob : Ob w m (mcC S th) T_inner_machine
  nums : StNums S s
  st : Ox intE w S.stack s.stack
  bk : Ox intE w S.back s.back
  me : Ox intE w S.mem s.mem
  dm : D m
  dst : ∀ k, S.stack.blk = some k → D k ∧ k ≠ m ∧ S.back.blk ≠ some k ∧ S.mem.blk ≠ some k
  dbk : ∀ k, S.back.blk = some k → D k ∧ k ≠ m ∧ S.mem.blk ≠ some k
  dme : ∀ k, S.mem.blk = some k → D k ∧ k ≠ m
def MR (D : Nat → Prop) (w : World) (m : Nat) (S : StC) (w' : World) (S' : StC) (s' : StV) (th : Bool) : Prop := MS D w' m S' s' th ∧ S'.mem = S.mem ∧ Chg D w w'
section
variable {D : Nat → Prop} {w : World} {m : Nat} {S : StC} {s : StV} {th : Bool}
theorem MS.no {w' : World} (h : MS D w m S s th) (c : Chg No w w') : MS D w' m S s th := ⟨h.ob.no c, h.nums, h.st.no c, h.bk.no c, h.me.no c, h.dm, h.dst, h.dbk, h.dme⟩
theorem MS.lt (h : MS D w m S s th) : m < w.heap.size := h.ob.lt
theorem MR.same (h : MS D w m S s th) : MR D w m S w S s th := ⟨h, rfl, Chg.refl _ _⟩
theorem MR.no {w' : World} (h : MS D w m S s th) (c : Chg No w w') : MR D w m S w' S s th := ⟨h.no c, rfl, c.mono (fun _ _ h => h.elim)⟩
theorem MR.trans {w1 w2 : World} {S1 S2 : StC} {s1 s2 : StV} {t1 t2 : Bool} (h : MR D w m S w1 S1 s1 t1) (g : MR D w1 m S1 w2 S2 s2 t2) : MR D w m S w2 S2 s2 t2 :=
  ⟨g.1, g.2.1.trans h.2.1, h.2.2.trans g.2.2 (fun _ _ h => h) (fun _ _ h => h)⟩
theorem MR.pre {w1 w2 : World} {S2 : StC} {s2 : StV} {t2 : Bool} (c : Chg No w w1) (g : MR D w1 m S w2 S2 s2 t2) : MR D w m S w2 S2 s2 t2 := ⟨g.1, g.2.1, c.trans g.2.2 (fun _ _ h => h.elim) (fun _ _ h => h)⟩
theorem MR.size {w1 : World} {S1 : StC} {s1 : StV} {t1 : Bool} (h : MR D w m S w1 S1 s1 t1) : w.heap.size ≤ w1.heap.size := h.2.2.size
theorem MS.put {w' : World} {S' : StC} {s' : StV} {th' : Bool} {k : Nat} {vs : List Value} (h : MS D w m S s th) (hl : k + vs.length ≤ 11) (hc : wrL (mcC S th) k vs = mcC S' th') (hw : w' = stW w ⟨m, k, none⟩ 0 vs) (nums : StNums S' s')
    (e1 : S'.stack = S.stack) (e2 : S'.back = S.back) (e3 : S'.mem = S.mem) (f1 : s'.stack = s.stack) (f2 : s'.back = s.back) (f3 : s'.mem = s.mem) : MR D w m S w' S' s' th' := by
  obtain ⟨o, c⟩ := h.ob.up hl hc hw
  have hm : ∀ k, S.stack.blk = some k ∨ S.back.blk = some k ∨ S.mem.blk = some k → k ≠ m := fun k hk => by
    rcases hk with hk | hk | hk
    · exact (h.dst k hk).2.1
    · exact (h.dbk k hk).2.1
    · exact (h.dme k hk).2
  refine ⟨⟨o, nums, ?_, ?_, ?_, h.dm, ?_, ?_, ?_⟩, e3, c.mono (fun k _ hk => by have hk : k = m := hk; rw [hk]; exact h.dm)⟩
  · rw [e1, f1]; exact h.st.chg c (fun k hk => hm k (Or.inl hk))
  · rw [e2, f2]; exact h.bk.chg c (fun k hk => hm k (Or.inr (Or.inl hk)))
  · rw [e3, f3]; exact h.me.chg c (fun k hk => hm k (Or.inr (Or.inr hk)))
  · rw [e1, e2, e3]; exact h.dst
  · rw [e2, e3]; exact h.dbk
  · rw [e3]; exact h.dme
theorem MS.wr (h : MS D w m S s th) {k n : Nat} (hk : k + n ≤ 11) : wrOk w ⟨m, k, none⟩ n := h.ob.wr hk
theorem litL {w w' : World} {b : Nat} (xs : List Int) (cs : List Value) (hcs : cs = fl intE xs) (hb : b = w.heap.size) (hw : w' = World.alloc w (.cells cs.toArray T_int)) (hl : xs.length ≤ 100) : Ow intE w' ⟨some ⟨b, 0, none⟩, xs.length, xs.length⟩ xs ∧ Chg No w w' := by
  rw [hw, hb]
  exact ⟨Ow.lit (E := intE) w xs cs hcs (by unfold maxLen; omega), Chg.alloc _ _ _⟩
theorem mpush_any (h : MS D w m S s th) (hD : ∀ k, w.heap.size ≤ k → D k) {l : Sl} {ys : List Int} {a : Addr} (hl : Rd intE w l ys) (hp : l.ptr = some a) (hne : ys ≠ []) (hn : s.stack.length + ys.length ≤ 100000) :
    Calls Tryz.prog fn_inner_machine_push #[.pointer (some ⟨m, 0, none⟩), l.val] w fun e w' => e = .returned (.tuple #[]) ∧ ∃ S', MR D w m S w' S' (pushV s ys) th := by
  refine (inner_machine_push_lift (K := fun r w' => r = .tuple #[] ∧ ∃ S', MR D w m S w' S' (pushV s ys) th) ?_).mono (by rintro e w' ⟨r, rfl, rfl, h⟩; exact ⟨rfl, h⟩)
  unfold inner_machine_push_sh
  refine ⟨S.stack, h.ob.cell rfl, ?_⟩
  refine appx_ok intOk rfl rfl h.st hl hp (fun _ => hne) (by show (_ + _) * 8 ≤ _; omega) (by unfold maxLen; omega) ?_
  intro s4 w5 g4 c5 b4 _
  have ltm := h.lt
  have hmst : ¬ S.stack.blk = some m := fun he => (h.dst m he).2.1 rfl
  have o5 := h.ob.chg c5 hmst
  have bk5 := h.bk.chg c5 (fun k hk he => (h.dst k he).2.2.1 hk)
  have me5 := h.me.chg c5 (fun k hk he => (h.dst k he).2.2.2 hk)
  refine ⟨o5.wr (by simp [mcC, stC]), fun w6 hw6 => ⟨rfl, { S with stack := s4 }, ?_⟩⟩
  obtain ⟨o6, c6⟩ := o5.up (k := 2) (vs := [s4.val]) (cs' := mcC { S with stack := s4 } th) (by simp [mcC, stC]) rfl hw6
  have ds4 : ∀ k, s4.blk = some k → D k ∧ k ≠ m ∧ S.back.blk ≠ some k ∧ S.mem.blk ≠ some k := fun k hk => by
    rcases b4 with hh | hh
    · exact h.dst k (hh ▸ hk)
    · have := hh k hk
      exact ⟨hD k this, by omega, fun he => by have := h.bk.lt k he; omega, fun he => by have := h.me.lt k he; omega⟩
  refine ⟨⟨o6, h.nums, g4.chg c6 (fun k hk => (ds4 k hk).2.1), bk5.chg c6 (fun k hk => (h.dbk k hk).2.1), me5.chg c6 (fun k hk => (h.dme k hk).2), h.dm, ds4, h.dbk, h.dme⟩, rfl, ?_⟩
  exact c5.trans c6 (fun k _ hk => (h.dst k hk).1) (fun k _ hk => by have hk : k = m := hk; rw [hk]; exact h.dm)
theorem mback_any (h : MS D w m S s th) (hD : ∀ k, w.heap.size ≤ k → D k) {l : Sl} {ys : List Int} {a : Addr} (hl : Rd intE w l ys) (hp : l.ptr = some a) (hne : ys ≠ []) (hn : s.back.length + ys.length ≤ 100000) :
    Calls Tryz.prog fn_inner_machine_back #[.pointer (some ⟨m, 0, none⟩), l.val] w fun e w' => e = .returned (.tuple #[]) ∧ ∃ S', MR D w m S w' S' (backV s ys) th := by
  refine (inner_machine_back_lift (K := fun r w' => r = .tuple #[] ∧ ∃ S', MR D w m S w' S' (backV s ys) th) ?_).mono (by rintro e w' ⟨r, rfl, rfl, h⟩; exact ⟨rfl, h⟩)
  unfold inner_machine_back_sh
  refine ⟨S.back, h.ob.cell rfl, ?_⟩
  refine appx_ok intOk rfl rfl h.bk hl hp (fun _ => hne) (by show (_ + _) * 8 ≤ _; omega) (by unfold maxLen; omega) ?_
  intro s4 w5 g4 c5 b4 _
  have ltm := h.lt
  have hmst : ¬ S.back.blk = some m := fun he => (h.dbk m he).2.1 rfl
  have o5 := h.ob.chg c5 hmst
  have st5 := h.st.chg c5 (fun k hk he => (h.dst k hk).2.2.1 he)
  have me5 := h.me.chg c5 (fun k hk he => (h.dbk k he).2.2 hk)
  refine ⟨o5.wr (by simp [mcC, stC]), fun w6 hw6 => ⟨rfl, { S with back := s4 }, ?_⟩⟩
  obtain ⟨o6, c6⟩ := o5.up (k := 3) (vs := [s4.val]) (cs' := mcC { S with back := s4 } th) (by simp [mcC, stC]) rfl hw6
  have ds4 : ∀ k, s4.blk = some k → D k ∧ k ≠ m ∧ S.stack.blk ≠ some k ∧ S.mem.blk ≠ some k := fun k hk => by
    rcases b4 with hh | hh
    · have hk' := hh ▸ hk
      exact ⟨(h.dbk k hk').1, (h.dbk k hk').2.1, fun he => (h.dst k he).2.2.1 hk', (h.dbk k hk').2.2⟩
    · have := hh k hk
      exact ⟨hD k this, by omega, fun he => by have := h.st.lt k he; omega, fun he => by have := h.me.lt k he; omega⟩
  refine ⟨⟨o6, h.nums, st5.chg c6 (fun k hk => (h.dst k hk).2.1), g4.chg c6 (fun k hk => (ds4 k hk).2.1), me5.chg c6 (fun k hk => (h.dme k hk).2), h.dm, fun k hk => ⟨(h.dst k hk).1, (h.dst k hk).2.1, fun he => (ds4 k he).2.2.1 hk, (h.dst k hk).2.2.2⟩, fun k hk => ⟨(ds4 k hk).1, (ds4 k hk).2.1, (ds4 k hk).2.2.2⟩, h.dme⟩, rfl, ?_⟩
  exact c5.trans c6 (fun k _ hk => (h.dbk k hk).1) (fun k _ hk => by have hk : k = m := hk; rw [hk]; exact h.dm)
theorem MS.up (hD : ∀ k, w.heap.size ≤ k → D k) {w' : World} (z : w.heap.size ≤ w'.heap.size) : ∀ k, w'.heap.size ≤ k → D k := fun k hk => hD k (by omega)
theorem mpushL (h : MS D w m S s th) (hD : ∀ k, w.heap.size ≤ k → D k) (ys : List Int) (cs : List Value) (hcs : cs = fl intE ys) (hne : ys ≠ []) (hl : ys.length ≤ 100) (hn : s.stack.length ≤ 10000) {G : World → Prop} (k : ∀ w2 S', MR D w m S w2 S' (pushV s ys) th → G w2) {n : Nat} (hlen : n = ys.length) :
    ∀ (b : Nat) (w1 : World), b = w.heap.size → w1 = World.alloc w (.cells cs.toArray T_int) → Calls Tryz.prog fn_inner_machine_push #[.pointer (some ⟨m, 0, none⟩), .slice (some ⟨b, 0, none⟩) n n] w1 fun e w2 => e = .returned (.tuple #[]) ∧ G w2 := by
  intro b w1 hb hw
  subst hlen
  obtain ⟨g, c1⟩ := litL ys cs hcs hb hw hl
  have := c1.size
  refine (mpush_any (h.no c1) (fun k hk => hD k (by omega)) g.rd rfl hne (by omega)).mono ?_
  rintro e w2 ⟨rfl, S', h2⟩
  exact ⟨rfl, k w2 S' (h2.pre c1)⟩
theorem mbackL (h : MS D w m S s th) (hD : ∀ k, w.heap.size ≤ k → D k) (ys : List Int) (cs : List Value) (hcs : cs = fl intE ys) (hne : ys ≠ []) (hl : ys.length ≤ 100) (hn : s.back.length ≤ 10000) {G : World → Prop} (k : ∀ w2 S', MR D w m S w2 S' (backV s ys) th → G w2) {n : Nat} (hlen : n = ys.length) :
    ∀ (b : Nat) (w1 : World), b = w.heap.size → w1 = World.alloc w (.cells cs.toArray T_int) → Calls Tryz.prog fn_inner_machine_back #[.pointer (some ⟨m, 0, none⟩), .slice (some ⟨b, 0, none⟩) n n] w1 fun e w2 => e = .returned (.tuple #[]) ∧ G w2 := by
  intro b w1 hb hw
  subst hlen
  obtain ⟨g, c1⟩ := litL ys cs hcs hb hw hl
  have := c1.size
  refine (mback_any (h.no c1) (fun k hk => hD k (by omega)) g.rd rfl hne (by omega)).mono ?_
  rintro e w2 ⟨rfl, S', h2⟩
  exact ⟨rfl, k w2 S' (h2.pre c1)⟩
theorem getI_last {xs : List Int} (h : 0 < xs.length) : xs[((xs.length : Int) - 1).toNat]? = some (getI xs ((xs.length : Int) - 1)) := by
  unfold getI; rw [List.getD_eq_getElem?_getD, List.getElem?_eq_getElem (by omega)]; rfl
theorem mpop_any (h : MS D w m S s th) (hne : 1 ≤ s.stack.length) (hn : s.stack.length ≤ 100000) :
    Calls Tryz.prog fn_inner_machine_pop #[.pointer (some ⟨m, 0, none⟩)] w fun e w' => e = .returned (.int .i64 (topV s)) ∧ ∃ S', MR D w m S w' S' (popV s) th := by
  refine (inner_machine_pop_lift (K := fun r w' => r = .int .i64 (topV s) ∧ ∃ S', MR D w m S w' S' (popV s) th) ?_).mono (by rintro e w' ⟨r, rfl, rfl, h⟩; exact ⟨rfl, h⟩)
  unfold inner_machine_pop_sh
  have hl := h.st.rd.len
  have hc := h.st.rd.capL
  refine ⟨S.stack, h.ob.cell rfl, S.stack, h.ob.cell rfl, ?_⟩
  rw [wr_in (by omega)]
  have hx : s.stack[((S.stack.len : Int) - 1).toNat]? = some (topV s) := by rw [hl]; exact getI_last hne
  refine h.st.rd.ix (by omega) hx fun a _ hcell => ?_
  have q := hcell 0 _ rfl
  rw [add0] at q
  refine ⟨_, q, S.stack, h.ob.cell rfl, by omega, by omega, fun s7 hs7 => ?_⟩
  rw [sub0] at hs7
  refine ⟨h.wr (by omega), fun w8 hw8 => ⟨rfl, { S with stack := s7 }, ?_⟩⟩
  obtain ⟨o8, c8⟩ := h.ob.up (k := 2) (vs := [s7.val]) (cs' := mcC { S with stack := s7 } th) (by simp [mcC, stC]) rfl hw8
  have hb7 : s7.blk = S.stack.blk := by rw [hs7]; unfold Sl.blk Sl.val; dsimp only; cases S.stack.ptr <;> rfl
  have ht : Ox intE w s7 (popV s).stack := by
    rw [hs7, show ((S.stack.len : Int) - 1).toNat = s.stack.length - 1 by omega]
    exact h.st.take (by omega)
  exact ⟨⟨o8, h.nums, ht.chg c8 (fun k hk => (h.dst k (hb7 ▸ hk)).2.1), h.bk.chg c8 (fun k hk => (h.dbk k hk).2.1), h.me.chg c8 (fun k hk => (h.dme k hk).2), h.dm, fun k hk => h.dst k (hb7 ▸ hk), h.dbk, h.dme⟩, rfl, c8.mono (fun k _ hk => by have hk : k = m := hk; rw [hk]; exact h.dm)⟩
theorem mpopB_any (h : MS D w m S s th) (hne : 1 ≤ s.back.length) (hn : s.back.length ≤ 100000) :
    Calls Tryz.prog fn_inner_machine_popBack #[.pointer (some ⟨m, 0, none⟩)] w fun e w' => e = .returned (.int .i64 (topB s)) ∧ ∃ S', MR D w m S w' S' (popB s) th := by
  refine (inner_machine_popBack_lift (K := fun r w' => r = .int .i64 (topB s) ∧ ∃ S', MR D w m S w' S' (popB s) th) ?_).mono (by rintro e w' ⟨r, rfl, rfl, h⟩; exact ⟨rfl, h⟩)
  unfold inner_machine_popBack_sh
  have hl := h.bk.rd.len
  have hc := h.bk.rd.capL
  refine ⟨S.back, h.ob.cell rfl, S.back, h.ob.cell rfl, ?_⟩
  rw [wr_in (by omega)]
  have hx : s.back[((S.back.len : Int) - 1).toNat]? = some (topB s) := by rw [hl]; exact getI_last hne
  refine h.bk.rd.ix (by omega) hx fun a _ hcell => ?_
  have q := hcell 0 _ rfl
  rw [add0] at q
  refine ⟨_, q, S.back, h.ob.cell rfl, by omega, by omega, fun s7 hs7 => ?_⟩
  rw [sub0] at hs7
  refine ⟨h.wr (by omega), fun w8 hw8 => ⟨rfl, { S with back := s7 }, ?_⟩⟩
  obtain ⟨o8, c8⟩ := h.ob.up (k := 3) (vs := [s7.val]) (cs' := mcC { S with back := s7 } th) (by simp [mcC, stC]) rfl hw8
  have hb7 : s7.blk = S.back.blk := by rw [hs7]; unfold Sl.blk Sl.val; dsimp only; cases S.back.ptr <;> rfl
  have ht : Ox intE w s7 (popB s).back := by
    rw [hs7, show ((S.back.len : Int) - 1).toNat = s.back.length - 1 by omega]
    exact h.bk.take (by omega)
  exact ⟨⟨o8, h.nums, h.st.chg c8 (fun k hk => (h.dst k hk).2.1), ht.chg c8 (fun k hk => (h.dbk k (hb7 ▸ hk)).2.1), h.me.chg c8 (fun k hk => (h.dme k hk).2), h.dm, fun k hk => ⟨(h.dst k hk).1, (h.dst k hk).2.1, fun he => (h.dst k hk).2.2.1 (hb7 ▸ he), (h.dst k hk).2.2.2⟩, fun k hk => h.dbk k (hb7 ▸ hk), h.dme⟩, rfl, c8.mono (fun k _ hk => by have hk : k = m := hk; rw [hk]; exact h.dm)⟩
theorem mfails_any (h : MS D w m S s th) {c : Int} (hc : c ≠ 0) : Calls Tryz.prog fn_inner_machine_fails #[.pointer (some ⟨m, 0, none⟩), .int .i64 c] w fun e w' => ∃ v : Value, e = .returned v ∧ ErrD w.heap.size w' 0 v c ∧ Chg No w w' := by
  refine (inner_machine_fails_lift (K := fun r w' => ErrD w.heap.size w' 0 r c ∧ Chg No w w') ?_).mono (by rintro e w' ⟨r, rfl, h⟩; exact ⟨r, rfl, h⟩)
  unfold inner_machine_fails_sh
  refine ⟨S.ip, h.ob.cell rfl, (new_any c S.ip hc w).mono ?_⟩
  rintro e w5 ⟨v, rfl, hv, c5⟩
  exact ⟨v, rfl, hv, c5⟩
theorem mload_any (h : MS D w m S s th) (a : Int) : Calls Tryz.prog fn_inner_machine_load #[.pointer (some ⟨m, 0, none⟩), .int .i64 a] w fun e w' => Chg No w w' ∧ ((¬ (a < 0 ∨ (s.mem.length : Int) ≤ a) ∧ e = .returned (.tuple #[.int .i64 (getI s.mem a), .nilIface])) ∨ ((a < 0 ∨ (s.mem.length : Int) ≤ a) ∧ ∃ v : Value, e = .returned (.tuple #[.int .i64 0, v]) ∧ ErrD w.heap.size w' 1 v (-9))) := by
  refine (inner_machine_load_lift (K := fun r w' => Chg No w w' ∧ ((¬ (a < 0 ∨ (s.mem.length : Int) ≤ a) ∧ r = .tuple #[.int .i64 (getI s.mem a), .nilIface]) ∨ ((a < 0 ∨ (s.mem.length : Int) ≤ a) ∧ ∃ v : Value, r = .tuple #[.int .i64 0, v] ∧ ErrD w.heap.size w' 1 v (-9)))) ?_).mono (by
    rintro e w' ⟨r, rfl, h1, h2⟩
    exact ⟨h1, h2.imp (fun h => ⟨h.1, by rw [h.2]⟩) (fun ⟨h, v, hv, g⟩ => ⟨h, v, by rw [hv], g⟩)⟩)
  unfold inner_machine_load_sh
  have hl := h.me.rd.len
  refine ⟨fun b w' => w = w' ∧ b = decide (a < 0 ∨ (s.mem.length : Int) ≤ a), ?_, ?_⟩
  · rintro b w4 ⟨rfl, rfl⟩
    refine brB_of (fun hb => ?_) (fun hb => ?_)
    · have hb := of_decide_eq_true hb
      refine (mfails_any h (by decide)).mono ?_
      rintro e w7 ⟨v, rfl, hv, c7⟩
      refine ⟨v, rfl, (wrap_any hv c7.size _).mono ?_⟩
      rintro e w10 ⟨v', rfl, hv', c10⟩
      exact ⟨v', rfl, trN c7 c10, Or.inr ⟨hb, v', rfl, hv'⟩⟩
    · have hb := of_decide_eq_false hb
      refine ⟨S.mem, h.ob.cell rfl, ?_⟩
      refine h.me.rd.ix (i := a) (by omega) (x := getI s.mem a) (by unfold getI; rw [List.getD_eq_getElem?_getD, List.getElem?_eq_getElem (by omega)]; rfl) fun a' _ hcell => ?_
      have q := hcell 0 _ rfl
      rw [add0] at q
      exact ⟨_, q, Chg.refl _ _, Or.inl ⟨hb, rfl⟩⟩
  · refine brB_of (fun h0 => ?_) (fun h0 => ?_)
    · have h0 := of_decide_eq_true h0
      exact ⟨rfl, (decide_eq_true (Or.inl h0)).symm⟩
    · have h0 := of_decide_eq_false h0
      refine ⟨S.mem, h.ob.cell rfl, rfl, decide_eq_decide.2 ?_⟩
      rw [hl]; omega
end
end Go.Proofs.YtkjpmkopnkkbmaaGreatDoor

/- A machine in memory: its operations. -/
set_option maxRecDepth 100000
namespace Go.Proofs.YtkjpmkopnkkbmaaGreatDoor
open Go.RowKit

theorem popV_len (s : StV) : (popV s).stack.length = s.stack.length - 1 := by show (s.stack.take _).length = _; rw [List.length_take]; omega
theorem popB_len (s : StV) : (popB s).back.length = s.back.length - 1 := by show (s.back.take _).length = _; rw [List.length_take]; omega
theorem pushV_len (s : StV) (l : List Int) : (pushV s l).stack.length = s.stack.length + l.length := by show (s.stack ++ l).length = _; rw [List.length_append]
theorem backV_len (s : StV) (l : List Int) : (backV s l).back.length = s.back.length + l.length := by show (s.back ++ l).length = _; rw [List.length_append]
def MX (D : Nat → Prop) (w : World) (m : Nat) (S : StC) (s : StV) (d : Nat) (r : Rs) (v : Value) (w' : World) : Prop := match r with
  | .ok s' => v = .nilIface ∧ ∃ S' th', MR D w m S w' S' s' th'
  | .bad c t => c ≠ 0 ∧ (∃ d', d' ≤ d ∧ ErrD w.heap.size w' d' v c) ∧ ∃ S' s', MR D w m S w' S' s' t ∧ s'.mem = s.mem
section
variable {D : Nat → Prop} {w : World} {m : Nat} {S : StC} {s : StV} {th : Bool}
theorem MX.ok {w' : World} {S' : StC} {s' : StV} {th' : Bool} (d : Nat) (h : MR D w m S w' S' s' th') : MX D w m S s d (.ok s') .nilIface w' := ⟨rfl, S', th', h⟩
theorem MX.bad {w1 w' : World} {S' : StC} {s' : StV} {t : Bool} {d d' : Nat} {v : Value} {c : Int} (h : MR D w m S w1 S' s' t) (hm : s'.mem = s.mem) (he : ErrD w1.heap.size w' d' v c) (hc : c ≠ 0) (hd : d' ≤ d) (k : Chg No w1 w') : MX D w m S s d (.bad c t) v w' :=
  ⟨hc, ⟨d', hd, he.lo h.size⟩, S', s', h.trans (MR.no h.1 k), hm⟩
theorem MX.pre {w1 w' : World} {S1 : StC} {s1 : StV} {t1 : Bool} {d : Nat} {r : Rs} {v : Value} (h : MR D w m S w1 S1 s1 t1) (hm : s1.mem = s.mem) (g : MX D w1 m S1 s1 d r v w') : MX D w m S s d r v w' := by
  cases r with
  | ok s' => obtain ⟨a, S', th', b⟩ := g; exact ⟨a, S', th', h.trans b⟩
  | bad c t => obtain ⟨a, ⟨d', e1, e2⟩, S', s', b, c⟩ := g; exact ⟨a, ⟨d', e1, e2.lo h.size⟩, S', s', h.trans b, c.trans hm⟩
theorem mshuf_any (h : MS D w m S s th) (hD : ∀ k, w.heap.size ≤ k → D k) (c : Int) (h1 : 1 ≤ s.stack.length) (h2 : c = 8 ∨ c = 9 → 2 ≤ s.stack.length) (h3 : c = 10 → 3 ≤ s.stack.length) (hn : s.stack.length ≤ 100) :
    Calls Tryz.prog fn_inner_machine_shuffle #[.pointer (some ⟨m, 0, none⟩), .int .i64 c] w fun e w' => e = .returned (.tuple #[]) ∧ ∃ S', MR D w m S w' S' (mShuf s c) th := by
  refine (inner_machine_shuffle_lift (K := fun r w' => r = .tuple #[] ∧ ∃ S', MR D w m S w' S' (mShuf s c) th) ?_).mono (by rintro e w' ⟨r, rfl, rfl, h⟩; exact ⟨rfl, h⟩)
  unfold inner_machine_shuffle_sh
  have l1 := popV_len s
  have l2 := popV_len (popV s)
  have l3 := popV_len (popV (popV s))
  refine (mpop_any h h1 (by omega)).mono ?_
  rintro e w4 ⟨rfl, S4, h4⟩
  have D4 := MS.up hD h4.size
  refine ⟨_, rfl, brB_of (fun hc => ?_) (fun hc => ?_)⟩
  · have hc : c = 6 := by simpa using hc
    refine mpushL h4.1 D4 [topV s, topV s] _ rfl (by simp) (by simp) (by omega) (fun w2 S2 g2 => ⟨rfl, S2, ?_⟩) rfl
    unfold mShuf; rw [if_pos hc]; exact h4.trans g2
  have c6 : c ≠ 6 := by simpa using hc
  refine brB_of (fun hc => ?_) (fun hc => ?_)
  · have hc : c = 8 := by simpa using hc
    have := h2 (Or.inl hc)
    refine (inner_machine_swapped_lift (K := fun r w' => r = .int .i64 (topV (popV s)) ∧ ∃ S', MR D w m S w' S' (popV (popV s)) th) ?_).mono ?_
    · unfold inner_machine_swapped_sh
      refine (mpop_any h4.1 (by omega) (by omega)).mono ?_
      rintro e w5 ⟨rfl, S5, h5⟩
      exact ⟨_, rfl, rfl, S5, h4.trans h5⟩
    rintro e w11 ⟨r, rfl, rfl, S5, h5⟩
    refine ⟨_, rfl, ?_⟩
    refine mpushL h5.1 (MS.up hD h5.size) [topV s, topV (popV s)] _ rfl (by simp) (by simp) (by omega) (fun w2 S2 g2 => ⟨rfl, S2, ?_⟩) rfl
    unfold mShuf; rw [if_neg c6, if_pos hc]; exact h5.trans g2
  have c8 : c ≠ 8 := by simpa using hc
  refine brB_of (fun hc => ?_) (fun hc => ?_)
  · have hc : c = 9 := by simpa using hc
    have := h2 (Or.inr hc)
    refine (mpop_any h4.1 (by omega) (by omega)).mono ?_
    rintro e w5 ⟨rfl, S5, h5⟩
    have h5' := h4.trans h5
    refine ⟨_, rfl, ?_⟩
    refine mpushL h5.1 (MS.up hD h5'.size) [topV (popV s), topV s, topV (popV s)] _ rfl (by simp) (by simp) (by omega) (fun w2 S2 g2 => ⟨rfl, S2, ?_⟩) rfl
    unfold mShuf; rw [if_neg c6, if_neg c8, if_pos hc]; exact h5'.trans g2
  have c9 : c ≠ 9 := by simpa using hc
  refine brB_of (fun hc => ?_) (fun hc => ?_)
  · have hc : c = 10 := by simpa using hc
    have := h3 hc
    refine (mpop_any h4.1 (by omega) (by omega)).mono ?_
    rintro e w5 ⟨rfl, S5, h5⟩
    refine ⟨_, rfl, (mpop_any h5.1 (by omega) (by omega)).mono ?_⟩
    rintro e w6 ⟨rfl, S6, h6⟩
    have h6' := (h4.trans h5).trans h6
    refine ⟨_, rfl, ?_⟩
    refine mpushL h6.1 (MS.up hD h6'.size) [topV (popV s), topV s, topV (popV (popV s))] _ rfl (by simp) (by simp) (by omega) (fun w2 S2 g2 => ⟨rfl, S2, ?_⟩) rfl
    unfold mShuf; rw [if_neg c6, if_neg c8, if_neg c9, if_pos hc]; exact h6'.trans g2
  have c10 : c ≠ 10 := by simpa using hc
  refine ⟨rfl, S4, ?_⟩
  unfold mShuf; rw [if_neg c6, if_neg c8, if_neg c9, if_neg c10]; exact h4
theorem getI_at {xs : List Int} {i : Int} (h0 : 0 ≤ i) (h1 : i < xs.length) : xs[i.toNat]? = some (getI xs i) := by
  unfold getI; rw [List.getD_eq_getElem?_getD, List.getElem?_eq_getElem (by omega)]; rfl
theorem mbacks_any (h : MS D w m S s th) (hD : ∀ k, w.heap.size ≤ k → D k) (c : Int) (h33 : c = 33 → 1 ≤ s.stack.length) (h34 : c = 34 ∨ c = 35 → 1 ≤ s.back.length) (h36 : c = 36 → 2 ≤ s.stack.length) (h39 : c = 39 → 3 ≤ s.back.length) (h40 : c = 40 → 2 ≤ s.back.length) (hr : (33 ≤ c ∧ c ≤ 36) ∨ c = 39 ∨ c = 40) (hn : s.stack.length ≤ 100) (hn2 : s.back.length ≤ 100) :
    Calls Tryz.prog fn_inner_machine_backs #[.pointer (some ⟨m, 0, none⟩), .int .i64 c] w fun e w' => e = .returned (.tuple #[]) ∧ ∃ S', MR D w m S w' S' (mBacks s c) th := by
  refine (inner_machine_backs_lift (K := fun r w' => r = .tuple #[] ∧ ∃ S', MR D w m S w' S' (mBacks s c) th) ?_).mono (by rintro e w' ⟨r, rfl, rfl, h⟩; exact ⟨rfl, h⟩)
  unfold inner_machine_backs_sh
  have l1 := popV_len s
  have l2 := popV_len (popV s)
  have lb := h.bk.rd.len
  have cb := h.bk.rd.capL
  refine brB_of (fun hc => ?_) (fun hc => ?_)
  · have hc : c = 33 := by simpa using hc
    refine (mpop_any h (h33 hc) (by omega)).mono ?_
    rintro e w4 ⟨rfl, S4, h4⟩
    refine ⟨_, rfl, ?_⟩
    refine mbackL h4.1 (MS.up hD h4.size) [topV s] _ rfl (by simp) (by simp) (by show s.back.length ≤ _; omega) (fun w2 S2 g2 => ⟨rfl, S2, ?_⟩) rfl
    unfold mBacks; rw [if_pos hc]; exact h4.trans g2
  have c33 : c ≠ 33 := by simpa using hc
  refine brB_of (fun hc => ?_) (fun hc => ?_)
  · have hc : c = 34 := by simpa using hc
    refine (mpopB_any h (h34 (Or.inl hc)) (by omega)).mono ?_
    rintro e w4 ⟨rfl, S4, h4⟩
    refine ⟨_, rfl, ?_⟩
    refine mpushL h4.1 (MS.up hD h4.size) [topB s] _ rfl (by simp) (by simp) (by show s.stack.length ≤ _; omega) (fun w2 S2 g2 => ⟨rfl, S2, ?_⟩) rfl
    unfold mBacks; rw [if_neg c33, if_pos hc]; exact h4.trans g2
  have c34 : c ≠ 34 := by simpa using hc
  have peek : ∀ (i : Int) (hi0 : 0 ≤ (s.back.length : Int) - i) (hi1 : 1 ≤ i) (hi2 : i ≤ 3), mBacks s c = pushV s [getI s.back ((s.back.length : Int) - i)] → ∀ w17 : World, w17 = World.drew w →
      ∃ S18 : World → Prop, S18 w17 ∧ ∃ s19 : Sl, held S18 ⟨m, 3, none⟩ (s19.val) ∧ ∃ s20 : Sl, held S18 ⟨m, 3, none⟩ (s20.val) ∧
        ∃ a21 : Addr, s19.ptr = some a21 ∧ 0 ≤ (wr ((s20.len : Int) - i)) ∧ (wr ((s20.len : Int) - i)) < (s19.len : Int) ∧
        ∃ n22 : Int, held S18 (Addr.add a21 (Int.toNat (wr ((s20.len : Int) - i)) * 1)) (.int .i64 n22) ∧
        ∀ (b23 : Nat) (w24 : World), b23 = w17.heap.size → w24 = World.alloc w17 (.cells #[.int .i64 n22] T_int) →
        S18 w24 ∧ Calls Tryz.prog fn_inner_machine_push #[.pointer (some ⟨m, 0, none⟩), .slice (some ⟨b23, 0, none⟩) 1 1] w24 fun e25 w26 => e25 = .returned (.tuple #[]) ∧
        (fun (r : Value) w' => r = .tuple #[] ∧ ∃ S', MR D w m S w' S' (mBacks s c) th) (.tuple #[]) w26 := fun i hi0 hi1 hi2 he w17 hw17 => by
    have c17 := dw hw17
    have h17 := h.no c17
    have hO : ∀ w', Chg No w17 w' → Ob w' m (mcC S th) T_inner_machine := fun w' c => h17.ob.no c
    refine ⟨fun w' => Chg No w17 w', Chg.refl _ _, S.back, Ob.held hO rfl, S.back, Ob.held hO rfl, ?_⟩
    rw [wr_in (by omega)]
    refine Rd.hix (S := fun w' => Chg No w17 w') (Chg.refl No w17) (fun w' c => h17.bk.rd.no c) (i := (S.back.len : Int) - i) (by omega) (x := getI s.back ((s.back.length : Int) - i)) (by rw [lb]; exact getI_at hi0 (by omega)) fun a _ hcell => ?_
    have q := hcell 0 _ rfl
    rw [add0] at q
    refine ⟨_, q, fun b w1 hb hw => ?_⟩
    obtain ⟨g, c1⟩ := litL [getI s.back ((s.back.length : Int) - i)] _ rfl hb hw (by simp)
    have k1 := trN c17 c1
    have := k1.size
    refine ⟨c1, (mpush_any (h.no k1) (fun k hk => hD k (by omega)) g.rd rfl (by simp) (by simp; omega)).mono ?_⟩
    rintro e w2 ⟨rfl, S2, h2⟩
    refine ⟨rfl, rfl, S2, ?_⟩
    rw [he]; exact h2.pre k1
  refine brB_of (fun hc => ?_) (fun hc => ?_)
  · have hc : c = 35 := by simpa using hc
    have := h34 (Or.inr hc)
    exact peek 1 (by omega) (by omega) (by omega) (by unfold mBacks; rw [if_neg c33, if_neg c34, if_pos hc]; rfl)
  have c35 : c ≠ 35 := by simpa using hc
  refine brB_of (fun hc => ?_) (fun hc => ?_)
  · have hc : c = 36 := by simpa using hc
    have := h36 hc
    refine (mpop_any h (by omega) (by omega)).mono ?_
    rintro e w4 ⟨rfl, S4, h4⟩
    refine ⟨_, rfl, (mpop_any h4.1 (by omega) (by omega)).mono ?_⟩
    rintro e w5 ⟨rfl, S5, h5⟩
    have h5' := h4.trans h5
    refine ⟨_, rfl, ?_⟩
    refine mbackL h5.1 (MS.up hD h5'.size) [topV (popV s), topV s] _ rfl (by simp) (by simp) (by show s.back.length ≤ _; omega) (fun w2 S2 g2 => ⟨rfl, S2, ?_⟩) rfl
    unfold mBacks; rw [if_neg c33, if_neg c34, if_neg c35, if_pos hc]; exact h5'.trans g2
  have c36 : c ≠ 36 := by simpa using hc
  refine brB_of (fun hc => ?_) (fun hc => ?_)
  · have hc : c = 39 := by simpa using hc
    have := h39 hc
    exact peek 3 (by omega) (by omega) (by omega) (by unfold mBacks; rw [if_neg c33, if_neg c34, if_neg c35, if_neg c36, if_pos hc])
  have c39 : c ≠ 39 := by simpa using hc
  have := h40 (by omega)
  intro w47 hw47
  have c47 := dw hw47
  have h47 := h.no c47
  refine ⟨S.back, held_Lw (h47.ob.cell rfl), S.back, held_Lw (h47.ob.cell rfl), ?_⟩
  rw [wr_in (by omega), sub0, show ((S.back.len : Int) - 2).toNat = s.back.length - 2 by omega]
  refine ⟨by omega, by omega, h47.wr (by omega), fun w50 hw50 => ⟨rfl, { S with back := ⟨S.back.ptr, s.back.length - 2, S.back.cap⟩ }, ?_⟩⟩
  obtain ⟨o8, c8⟩ := h47.ob.up (k := 3) (vs := [(⟨S.back.ptr, s.back.length - 2, S.back.cap⟩ : Sl).val]) (cs' := mcC { S with back := ⟨S.back.ptr, s.back.length - 2, S.back.cap⟩ } th) (by simp [mcC, stC]) rfl hw50
  have hb7 : (⟨S.back.ptr, s.back.length - 2, S.back.cap⟩ : Sl).blk = S.back.blk := by unfold Sl.blk Sl.val; dsimp only; cases S.back.ptr <;> rfl
  have ht : Ox intE w47 ⟨S.back.ptr, s.back.length - 2, S.back.cap⟩ (s.back.take (s.back.length - 2)) := h47.bk.take (by omega)
  unfold mBacks; rw [if_neg c33, if_neg c34, if_neg c35, if_neg c36, if_neg c39]
  exact ⟨⟨o8, h.nums, h47.st.chg c8 (fun k hk => (h.dst k hk).2.1), ht.chg c8 (fun k hk => (h.dbk k (hb7 ▸ hk)).2.1), h47.me.chg c8 (fun k hk => (h.dme k hk).2), h.dm, fun k hk => ⟨(h.dst k hk).1, (h.dst k hk).2.1, fun he => (h.dst k hk).2.2.1 (hb7 ▸ he), (h.dst k hk).2.2.2⟩, fun k hk => h.dbk k (hb7 ▸ hk), h.dme⟩, rfl, c47.trans c8 (fun _ _ h => h.elim) (fun k _ hk => by have hk : k = m := hk; rw [hk]; exact h.dm)⟩
end
end Go.Proofs.YtkjpmkopnkkbmaaGreatDoor

/- A machine in memory: loops, texts, cells of memory, words that are called, caught. -/
set_option maxRecDepth 100000
namespace Go.Proofs.YtkjpmkopnkkbmaaGreatDoor
open Go.RowKit

section
variable {D : Nat → Prop} {w : World} {m : Nat} {S : StC} {s : StV} {th : Bool}
theorem sb_byte (t : ByteArray) (i : Int) : 0 ≤ sb t i ∧ sb t i ≤ 255 := by
  unfold sb
  have h : ∀ x : UInt8, (x.toNat : Int) < 256 := fun x => by have := x.toNat_lt; omega
  constructor
  · exact Int.natCast_nonneg _
  · have := h ((t.data[i.toNat]?).getD 0); omega
theorem crosses_any (x n : Int) (w : World) : Calls Tryz.prog fn_cell_Crosses #[.int .i64 x, .int .i64 n] w fun e w' => e = .returned (.bool (Cn.crosses x n)) ∧ w = w' := by
  refine (cell_Crosses_lift (K := fun r w' => r = .bool (Cn.crosses x n) ∧ w = w') ?_).mono (by rintro e w' ⟨r, rfl, rfl, h⟩; exact ⟨rfl, h⟩)
  unfold cell_Crosses_sh
  refine ⟨?_, rfl⟩
  unfold Cn.crosses
  rw [← IntWalk.i64_left]; rfl
theorem mloop_any (h : MS D w m S s th) (hD : ∀ k, w.heap.size ≤ k → D k) (c arg : Int) (h1 : 2 ≤ s.back.length) (h2 : c = 38 → 1 ≤ s.stack.length) (hn : s.stack.length ≤ 100) (hn2 : s.back.length ≤ 100) :
    Calls Tryz.prog fn_inner_machine_loop #[.pointer (some ⟨m, 0, none⟩), .int .i64 c, .int .i64 arg] w fun e w' => e = .returned (.tuple #[]) ∧ ∃ S', MR D w m S w' S' (mLoop s c arg) th := by
  refine (inner_machine_loop_lift (K := fun r w' => r = .tuple #[] ∧ ∃ S', MR D w m S w' S' (mLoop s c arg) th) ?_).mono (by rintro e w' ⟨r, rfl, rfl, h⟩; exact ⟨rfl, h⟩)
  unfold inner_machine_loop_sh
  have l1 := popB_len s
  have l2 := popB_len (popB s)
  refine (mpopB_any h (by omega) (by omega)).mono ?_
  rintro e w5 ⟨rfl, S5, h5⟩
  refine ⟨_, rfl, (mpopB_any h5.1 (by omega) (by omega)).mono ?_⟩
  rintro e w8 ⟨rfl, S8, h8⟩
  have h8 := h5.trans h8
  refine ⟨_, rfl, fun n ends w' => ∃ S' s', MR D w m S w' S' s' th ∧ s'.back.length ≤ 100 ∧ mLoop s c arg = mLoopR s' (topB s) (topB (popB s)) n arg ends, ?_, ?_⟩
  · rintro n ends w16 ⟨S', s', g, gl, he⟩
    rw [he]
    refine brB_of (fun hb => ?_) (fun hb => ?_)
    · have hb : ends = false := by simpa using hb
      subst hb
      refine mbackL g.1 (MS.up hD g.size) [topB (popB s), wr (topB s + n)] _ rfl (by simp) (by simp) (by omega) (fun w2 S2 g2 => ⟨g2.1.wr (by omega), fun w23 hw23 => ⟨rfl, { S2 with ip := arg }, ?_⟩⟩) rfl
      obtain ⟨m1, m2, m3, m4, m5, m6, m7⟩ := g2.1.nums
      have g3 := g2.1.put (k := 0) (vs := [.int .i64 arg]) (S' := { S2 with ip := arg }) (s' := { backV s' [topB (popB s), wr (topB s + n)] with ip := arg }) (th' := th) (by simp) rfl hw23 ⟨rfl, m2, m3, m4, m5, m6, m7⟩ rfl rfl rfl rfl rfl rfl
      exact (g.trans g2).trans g3
    · have hb : ends = true := by simpa using hb
      subst hb
      exact ⟨rfl, S', g⟩
  · refine brB_of (fun hc => ?_) (fun hc => ?_)
    · have hc : c = 38 := by simpa using hc
      have := h2 hc
      have hst : (popB (popB s)).stack = s.stack := rfl
      refine (mpop_any h8.1 (by rw [hst]; exact this) (by rw [hst]; omega)).mono ?_
      rintro e w11 ⟨rfl, S11, h11⟩
      refine ⟨_, rfl, (crosses_any _ _ w11).mono ?_⟩
      rintro e w14 ⟨rfl, rfl⟩
      refine ⟨_, rfl, S11, _, h8.trans h11, (by show (popB (popB s)).back.length ≤ 100; omega), ?_⟩
      unfold mLoop; rw [if_pos hc]; rfl
    · have hc : c ≠ 38 := by simpa using hc
      refine ⟨S8, _, h8, (by omega), ?_⟩
      unfold mLoop; rw [if_neg hc]; rfl
theorem mtext_size (c v : Int) : (mText c v).size ≤ 22 := by
  unfold mText
  split
  · have := putV_size v
    rw [ByteArray.size_append]; show _ + 1 ≤ 22; omega
  · show 1 ≤ 22; omega
theorem msay_any (h : MS D w m S s th) (c : Int) (h1 : 1 ≤ s.stack.length) (hn : s.stack.length ≤ 100) (ho : s.out.size ≤ 100000) :
    Calls Tryz.prog fn_inner_machine_say #[.pointer (some ⟨m, 0, none⟩), .int .i64 c] w fun e w' => ∃ v, e = .returned v ∧ MX D w m S s 0 (match mSay s c with | .ok s' => .ok s' | .bad c _ => .bad c th) v w' := by
  refine (inner_machine_say_lift (K := fun v w' => MX D w m S s 0 (match mSay s c with | .ok s' => .ok s' | .bad c _ => .bad c th) v w') ?_).mono (by rintro e w' ⟨r, rfl, h⟩; exact ⟨r, rfl, h⟩)
  unfold inner_machine_say_sh
  refine (mpop_any h h1 (by omega)).mono ?_
  rintro e w4 ⟨rfl, S4, h4⟩
  refine ⟨_, rfl, ?_⟩
  intro b6 w7 hb6 hw7
  obtain ⟨l7, c7⟩ := lit8 (byteC (topV s)) (byte_lit _) hb6 hw7
  refine ⟨_, w7, u8_str (s := ⟨some ⟨b6, 0, none⟩, 1, 1⟩) l7.rd (by simp), ?_⟩
  have h7 := h4.trans (MR.no h4.1 c7)
  have hsz := mtext_size c (topV s)
  refine ⟨fun t w' => t = mText c (topV s) ∧ Chg No w7 w', ?_, ?_⟩
  · rintro t w13 ⟨rfl, c13⟩
    have h13 := h7.trans (MR.no h7.1 c13)
    obtain ⟨m1, m2, m3, m4, m5, m6, m7⟩ := h13.1.nums
    have m3 : S4.out = s.out := m3
    refine ⟨S4.out, h13.1.ob.cell rfl, ?_⟩
    rw [m3, wr_in (by omega)]
    refine brB_of (fun hf => ?_) (fun hf => ?_)
    · have hf := of_decide_eq_true hf
      refine (mfails_any h13.1 (by decide)).mono ?_
      rintro e w17 ⟨v, rfl, hv, c17⟩
      have hb : mSay s c = .bad (-57) false := by unfold mSay; rw [if_pos (by omega)]
      refine ⟨v, rfl, ?_⟩
      rw [hb]
      exact MX.bad h13 rfl hv (by decide) (Nat.le_refl _) c17
    · have hf := of_decide_eq_false hf
      refine ⟨S4.out, h13.1.ob.cell rfl, by rw [m3]; omega, h13.1.wr (by omega), fun w20 hw20 => ?_⟩
      have g := h13.1.put (k := 5) (vs := [.string (S4.out ++ mText c (topV s))]) (S' := { S4 with out := S4.out ++ mText c (topV s) }) (s' := { popV s with out := s.out ++ mText c (topV s) }) (th' := th) (by simp) rfl hw20 ⟨m1, m2, by rw [m3], m4, m5, m6, m7⟩ rfl rfl rfl rfl rfl rfl
      have hb : mSay s c = .ok { popV s with out := s.out ++ mText c (topV s) } := by unfold mSay; rw [if_neg (by omega)]
      rw [hb]
      exact MX.ok 0 (h13.trans g)
  · refine brB_of (fun h42 => ?_) (fun h42 => ?_)
    · have h42 : c = 42 := by simpa using h42
      refine (put_any (topV s) w7).mono ?_
      rintro x w19 ⟨rfl, c19⟩
      have := putV_size (topV s)
      refine ⟨_, rfl, ?_, ?_, c19⟩
      · show _ + (1 : Int) ≤ _; omega
      · unfold mText; rw [if_pos h42]
    · have h42 : c ≠ 42 := by simpa using h42
      refine ⟨?_, Chg.refl _ _⟩
      unfold mText; rw [if_neg h42]
theorem mkey_any (h : MS D w m S s th) (hD : ∀ k, w.heap.size ≤ k → D k) (hr : 0 ≤ s.read) (hi : s.inp.size ≤ 10000000) (hn : s.stack.length ≤ 100) :
    Calls Tryz.prog fn_inner_machine_key #[.pointer (some ⟨m, 0, none⟩)] w fun e w' => e = .returned (.tuple #[]) ∧ ∃ S', MR D w m S w' S' (mKey s) th := by
  refine (inner_machine_key_lift (K := fun r w' => r = .tuple #[] ∧ ∃ S', MR D w m S w' S' (mKey s) th) ?_).mono (by rintro e w' ⟨r, rfl, rfl, h⟩; exact ⟨rfl, h⟩)
  unfold inner_machine_key_sh
  obtain ⟨m1, m2, m3, m4, m5, m6, m7⟩ := h.nums
  intro w2 hw2
  have c2 := dw hw2
  have h2 := h.no c2
  have z2 := c2.size
  refine ⟨S.read, held_Lw (h2.ob.cell rfl), S.inp, held_Lw (h2.ob.cell rfl), ?_⟩
  rw [m4, m5]
  refine brB_of (fun hc => ?_) (fun hc => ?_)
  · have hc : (s.inp.size : Int) ≤ s.read := by simpa using hc
    refine mpushL h2 (MS.up hD z2) [-1] _ rfl (by simp) (by simp) (by omega) (fun w2 S2 g2 => ⟨rfl, S2, ?_⟩) rfl
    unfold mKey; rw [if_pos hc]; exact g2.pre c2
  · have hc : s.read < (s.inp.size : Int) := by have := of_decide_eq_false hc; omega
    intro w9 hw9
    have c9 := trN c2 (dw hw9)
    have z9 := c9.size
    have h9 := h.no c9
    have hO : ∀ w', Chg No w9 w' → Ob w' m (mcC S th) T_inner_machine := fun w' c => h9.ob.no c
    refine ⟨fun w' => Chg No w9 w', Chg.refl _ _, s.inp, m4 ▸ Ob.held hO rfl, s.read, m5 ▸ Ob.held hO rfl, hr, hc, fun b w1 hb hw => ?_⟩
    have hsb : wr (sb s.inp s.read) = sb s.inp s.read := wr_in (by have := sb_byte s.inp s.read; omega)
    rw [hsb] at hw
    obtain ⟨g, c1⟩ := litL [sb s.inp s.read] _ rfl hb hw (by simp)
    have k1 := trN c9 c1
    have := k1.size
    refine ⟨c1, (mpush_any (h.no k1) (fun k hk => hD k (by omega)) g.rd rfl (by simp) (by simp; omega)).mono ?_⟩
    rintro e w16 ⟨rfl, S2, h16⟩
    have h16 := h16.pre k1
    obtain ⟨p1, p2, p3, p4, p5, p6, p7⟩ := h16.1.nums
    have p5 : S2.read = s.read := p5
    refine ⟨rfl, S2.read, h16.1.ob.cell rfl, h16.1.wr (by omega), fun w18 hw18 => ⟨rfl, { S2 with read := s.read + 1 }, ?_⟩⟩
    rw [p5, wr_in (by omega)] at hw18
    have g3 := h16.1.put (k := 7) (vs := [.int .i64 (s.read + 1)]) (S' := { S2 with read := s.read + 1 }) (s' := { pushV s [sb s.inp s.read] with read := s.read + 1 }) (th' := th) (by simp) rfl hw18 ⟨p1, p2, p3, p4, rfl, p6, p7⟩ rfl rfl rfl rfl rfl rfl
    unfold mKey; rw [if_neg (by omega)]
    exact h16.trans g3
theorem mmem_any (h : MS D w m S s false) (hD : ∀ k, w.heap.size ≤ k → D k) (c : Int) (h1 : 1 ≤ s.stack.length) (h2 : c ≠ 30 → 2 ≤ s.stack.length) (hn : s.stack.length ≤ 100) :
    Calls Tryz.prog fn_inner_machine_memory #[.pointer (some ⟨m, 0, none⟩), .int .i64 c] w fun e w' => ∃ v, e = .returned v ∧ MX D w m S s 1 (mMem s c) v w' := by
  refine (inner_machine_memory_lift (K := fun v w' => MX D w m S s 1 (mMem s c) v w') ?_).mono (by rintro e w' ⟨r, rfl, h⟩; exact ⟨r, rfl, h⟩)
  unfold inner_machine_memory_sh
  have l1 := popV_len s
  refine (mpop_any h h1 (by omega)).mono ?_
  rintro e w4 ⟨rfl, S4, h4⟩
  refine ⟨_, rfl, (mload_any h4.1 (topV s)).mono ?_⟩
  rintro e w7 ⟨c7, hl⟩
  have h7 := h4.trans (MR.no h4.1 c7)
  rcases hl with ⟨hin, rfl⟩ | ⟨hout, v, rfl, hv⟩
  · have hin : ¬ (topV s < 0 ∨ (s.mem.length : Int) ≤ topV s) := hin
    refine ⟨_, _, rfl, _, _, ne_nil _ _, brB_f ?_⟩
    refine ⟨fun x w' => w7 = w' ∧ x = (if c = 31 then 0 else getI s.mem (topV s)) ∧ c ≠ 30, ?_, ?_⟩
    · rintro x w16 ⟨rfl, rfl, c30⟩
      intro w17 hw17
      have c17 := dw hw17
      have h17 := h7.trans (MR.no h7.1 c17)
      have := h2 c30
      refine ⟨fun w' => ∃ S' s' t', MS D w' m S' s' t' ∧ S'.mem = S.mem, ⟨S4, _, _, h17.1, h17.2.1⟩, S.mem, fun w' hS => ?_, ?_⟩
      · obtain ⟨S', s', t', g, e⟩ := hS
        rw [← e]; exact g.ob.cell rfl
      refine (mpop_any h17.1 (by omega) (by omega)).mono ?_
      rintro e w22 ⟨rfl, S22, h22⟩
      have h22 := h17.trans h22
      refine ⟨_, rfl, ⟨S22, _, _, h22.1, h22.2.1⟩, ?_⟩
      have hm22 := h22.1.me
      rw [h22.2.1] at hm22
      have hm22 : Ox intE w22 S.mem s.mem := hm22
      refine hm22.rd.ix (i := topV s) (by omega) (getI_at (by omega) (by omega)) fun a ha _ => ?_
      obtain ⟨f1, f2⟩ := hm22.set ha (k := (topV s).toNat) (by omega) (wr ((if c = 31 then 0 else getI s.mem (topV s)) + topV (popV s)))
      refine ⟨f1, fun w25 hw25 => ?_⟩
      have hbk : S.mem.blk = some a.block := blk_ptr ha
      have hS22 : S22.mem.blk = some a.block := by rw [h22.2.1]; exact hbk
      have c25 : Chg (fun k => k = a.block) w22 w25 := by rw [hw25]; exact Chg.st (S := fun k => k = a.block) (by rw [add_block])
      have hb : mMem s c = .ok { popV (popV s) with mem := s.mem.set (topV s).toNat (wr ((if c = 31 then 0 else getI s.mem (topV s)) + topV (popV s))) } := by unfold mMem; rw [if_neg hin, if_neg c30]
      rw [hb]
      refine MX.ok 1 (S' := S22) (th' := false) ⟨⟨h22.1.ob.chg c25 (fun he => (h22.1.dme _ hS22).2 he.symm), h22.1.nums, h22.1.st.chg c25 (fun k hk he => (h22.1.dst k hk).2.2.2 (he ▸ hS22)), h22.1.bk.chg c25 (fun k hk he => (h22.1.dbk k hk).2.2 (he ▸ hS22)), ?_, h22.1.dm, h22.1.dst, h22.1.dbk, h22.1.dme⟩, h22.2.1, h22.2.2.trans c25 (fun _ _ h => h) (fun k _ hk => by have hk : k = a.block := hk; rw [hk]; exact (h22.1.dme _ hS22).1)⟩
      rw [h22.2.1, hw25]
      exact f2
    · refine brB_of (fun hc => ?_) (fun hc => ?_)
      · have hc : c = 30 := by simpa using hc
        refine mpushL h7.1 (MS.up hD h7.size) [getI s.mem (topV s)] _ rfl (by simp) (by simp) (by show (popV s).stack.length ≤ _; omega) (fun w2 S2 g2 => ?_) rfl
        have hb : mMem s c = .ok (pushV (popV s) [getI s.mem (topV s)]) := by unfold mMem; rw [if_neg hin, if_pos hc]
        rw [hb]
        exact MX.ok 1 (h7.trans g2)
      · have hc : c ≠ 30 := by simpa using hc
        refine brB_of (fun hc1 => ?_) (fun hc1 => ?_)
        · have hc1 : c = 31 := by simpa using hc1
          exact ⟨rfl, by rw [if_pos hc1], hc⟩
        · have hc1 : c ≠ 31 := by simpa using hc1
          exact ⟨rfl, by rw [if_neg hc1]; rfl, hc⟩
  · have hout : topV s < 0 ∨ (s.mem.length : Int) ≤ topV s := hout
    obtain ⟨t, u, rfl⟩ := hv.if
    refine ⟨_, _, rfl, _, _, ne_if _ _ _ _, brB_t ?_⟩
    have hb : mMem s c = .bad (-9) false := by unfold mMem; rw [if_pos hout]
    rw [hb]
    exact MX.bad h4 rfl hv (by decide) (Nat.le_refl _) c7
end
end Go.Proofs.YtkjpmkopnkkbmaaGreatDoor

/- A machine in memory: what calls and catches; an operation; a step. -/
set_option maxRecDepth 100000
namespace Go.Proofs.YtkjpmkopnkkbmaaGreatDoor
open Go.RowKit

section
variable {D : Nat → Prop} {w : World} {m : Nat} {S : StC} {s : StV} {th : Bool}
theorem mend_any (h : MS D w m S s false) (hD : ∀ k, w.heap.size ≤ k → D k) (hn : s.stack.length ≤ 100) (hn2 : s.back.length ≤ 100) :
    Calls Tryz.prog fn_inner_machine_endCatch #[.pointer (some ⟨m, 0, none⟩)] w fun e w' => ∃ v, e = .returned v ∧ MX D w m S s 0 (mEnd s) v w' := by
  refine (inner_machine_endCatch_lift (K := fun v w' => MX D w m S s 0 (mEnd s) v w') ?_).mono (by rintro e w' ⟨r, rfl, h⟩; exact ⟨r, rfl, h⟩)
  unfold inner_machine_endCatch_sh
  obtain ⟨m1, m2, m3, m4, m5, m6, m7⟩ := h.nums
  have lb := h.bk.rd.len
  have ls := h.st.rd.len
  refine ⟨fun b w' => Chg No w w' ∧ b = decide (s.handler < 3 ∨ (s.back.length : Int) ≠ s.handler), ?_, ?_⟩
  · rintro b w6 ⟨c6, rfl⟩
    have h6 := MR.no h c6
    refine brB_of (fun hb => ?_) (fun hb => ?_)
    · have hb := of_decide_eq_true hb
      refine (mfails_any h6.1 (by decide)).mono ?_
      rintro e w9 ⟨v, rfl, hv, c9⟩
      refine ⟨v, rfl, ?_⟩
      have he : mEnd s = .bad (-25) false := by unfold mEnd; rw [if_pos hb]
      rw [he]
      exact MX.bad h6 rfl hv (by decide) (Nat.le_refl _) c9
    have hb := of_decide_eq_false hb
    refine ⟨S.stack, h6.1.ob.cell rfl, brB_of (fun hs => ?_) (fun hs => ?_)⟩
    · have hs : 48 ≤ s.stack.length := by have := of_decide_eq_true hs; omega
      refine (mfails_any h6.1 (by decide)).mono ?_
      rintro e w9 ⟨v, rfl, hv, c9⟩
      refine ⟨v, rfl, ?_⟩
      have he : mEnd s = .bad (-3) false := by unfold mEnd; rw [if_neg hb, if_pos hs]
      rw [he]
      exact MX.bad h6 rfl hv (by decide) (Nat.le_refl _) c9
    have hs : ¬ 48 ≤ s.stack.length := by have := of_decide_eq_false hs; omega
    have l1 := popB_len s
    have l2 := popB_len (popB s)
    refine (mpopB_any h6.1 (by omega) (by omega)).mono ?_
    rintro e w16 ⟨rfl, S16, h16⟩
    refine ⟨_, rfl, (mpopB_any h16.1 (by omega) (by omega)).mono ?_⟩
    rintro e w19 ⟨rfl, S19, h19⟩
    have h19 := (h6.trans h16).trans h19
    obtain ⟨p1, p2, p3, p4, p5, p6, p7⟩ := h19.1.nums
    refine ⟨_, rfl, h19.1.wr (by omega), fun w21 hw21 => ?_⟩
    have h21 := h19.1.put (k := 1) (vs := [.int .i64 (topB (popB s))]) (S' := { S19 with handler := topB (popB s) }) (s' := { popB (popB s) with handler := topB (popB s) }) (th' := false) (by simp) rfl hw21 ⟨p1, rfl, p3, p4, p5, p6, p7⟩ rfl rfl rfl rfl rfl rfl
    refine (mpopB_any h21.1 (by show 1 ≤ (popB (popB s)).back.length; omega) (by show (popB (popB s)).back.length ≤ _; omega)).mono ?_
    rintro e w23 ⟨rfl, S23, h23⟩
    have h23 := (h19.trans h21).trans h23
    obtain ⟨q1, q2, q3, q4, q5, q6, q7⟩ := h23.1.nums
    refine ⟨_, rfl, h23.1.wr (by omega), fun w25 hw25 => ?_⟩
    have h25 := h23.1.put (k := 0) (vs := [.int .i64 (topB (popB (popB s)))]) (S' := { S23 with ip := topB (popB (popB s)) }) (s' := { popB (popB (popB s)) with handler := topB (popB s), ip := topB (popB (popB s)) }) (th' := false) (by simp) rfl hw25 ⟨rfl, q2, q3, q4, q5, q6, q7⟩ rfl rfl rfl rfl rfl rfl
    have h25 := h23.trans h25
    have he : mEnd s = .ok (pushV { popB (popB (popB s)) with handler := topB (popB s), ip := topB (popB (popB s)) } [0]) := by unfold mEnd; rw [if_neg hb, if_neg hs]
    rw [he]
    refine mpushL h25.1 (MS.up hD h25.size) [0] _ rfl (by simp) (by simp) (by show s.stack.length ≤ _; omega) (fun w2 S2 g2 => MX.ok 0 (h25.trans g2)) rfl
  · intro w2 hw2
    have c2 := dw hw2
    have h2 := h.no c2
    refine ⟨S.handler, held_Lw (h2.ob.cell rfl), brB_of (fun h3 => ?_) (fun h3 => ?_)⟩
    · have h3 := of_decide_eq_true h3
      exact ⟨c2, (decide_eq_true (Or.inl (by omega))).symm⟩
    · have h3 := of_decide_eq_false h3
      refine ⟨S.back, held_Lw (h2.ob.cell rfl), S.handler, held_Lw (h2.ob.cell rfl), c2, ?_⟩
      rw [Bool.eq_iff_iff, decide_eq_true_iff, bne_iff_ne, lb, m2]
      constructor
      · intro h; exact Or.inr h
      · intro h; omega
theorem mflow_any (h : MS D w m S s false) (hD : ∀ k, w.heap.size ≤ k → D k) (c : Int) (h1 : c = 44 ∨ c = 45 ∨ c = 46 → 1 ≤ s.stack.length) (hn : s.stack.length ≤ 100) (hn2 : s.back.length ≤ 100) :
    Calls Tryz.prog fn_inner_machine_flow #[.pointer (some ⟨m, 0, none⟩), .int .i64 c] w fun e w' => ∃ v, e = .returned v ∧ MX D w m S s 0 (mFlow s c) v w' := by
  refine (inner_machine_flow_lift (K := fun v w' => MX D w m S s 0 (mFlow s c) v w') ?_).mono (by rintro e w' ⟨r, rfl, h⟩; exact ⟨r, rfl, h⟩)
  unfold inner_machine_flow_sh
  obtain ⟨m1, m2, m3, m4, m5, m6, m7⟩ := h.nums
  have lm := h.me.rd.len
  refine brB_of (fun hc => ?_) (fun hc => ?_)
  · have hc : c = 44 := by simpa using hc
    refine (mpop_any h (h1 (Or.inl hc)) (by omega)).mono ?_
    rintro e w4 ⟨rfl, S4, h4⟩
    obtain ⟨p1, p2, p3, p4, p5, p6, p7⟩ := h4.1.nums
    have lm4 := h4.1.me.rd.len
    refine ⟨_, rfl, fun b w' => w' = w4 ∧ b = decide (topV s < 64 ∨ (s.mem.length : Int) ≤ topV s), ?_, ?_⟩
    · rintro b w7 ⟨rfl, rfl⟩
      refine brB_of (fun hb => ?_) (fun hb => ?_)
      · have hb := of_decide_eq_true hb
        refine (mfails_any h4.1 (by decide)).mono ?_
        rintro e w9 ⟨v, rfl, hv, c9⟩
        refine ⟨v, rfl, ?_⟩
        have he : mFlow s c = .bad (-13) false := by unfold mFlow; rw [if_pos hc, if_pos hb]
        rw [he]
        exact MX.bad h4 rfl hv (by decide) (Nat.le_refl _) c9
      · have hb := of_decide_eq_false hb
        have p1 : S4.ip = s.ip := p1
        refine ⟨S4.ip, h4.1.ob.cell rfl, ?_⟩
        rw [p1]
        refine mbackL h4.1 (MS.up hD h4.size) [s.ip] _ rfl (by simp) (by simp) (by show s.back.length ≤ _; omega) (fun w2 S2 g2 => ⟨g2.1.wr (by omega), fun w17 hw17 => ?_⟩) rfl
        obtain ⟨q1, q2, q3, q4, q5, q6, q7⟩ := g2.1.nums
        have g3 := g2.1.put (k := 0) (vs := [.int .i64 (topV s)]) (S' := { S2 with ip := topV s }) (s' := { backV (popV s) [s.ip] with ip := topV s }) (th' := false) (by simp) rfl hw17 ⟨rfl, q2, q3, q4, q5, q6, q7⟩ rfl rfl rfl rfl rfl rfl
        have he : mFlow s c = .ok { backV (popV s) [s.ip] with ip := topV s } := by unfold mFlow; rw [if_pos hc, if_neg hb]
        rw [he]
        exact MX.ok 0 ((h4.trans g2).trans g3)
    · refine brB_of (fun hb => ?_) (fun hb => ?_)
      · have hb := of_decide_eq_true hb
        exact ⟨rfl, (decide_eq_true (Or.inl hb)).symm⟩
      · have hb := of_decide_eq_false hb
        refine ⟨S4.mem, h4.1.ob.cell rfl, rfl, decide_eq_decide.2 ?_⟩
        have lm4 : S4.mem.len = s.mem.length := lm4
        rw [lm4]; omega
  have c44 : c ≠ 44 := by simpa using hc
  refine brB_of (fun hc => ?_) (fun hc => ?_)
  · have hc : c = 45 := by simpa using hc
    refine ⟨h.wr (by omega), fun w18 hw18 => ?_⟩
    have h18 := h.put (k := 10) (vs := [.bool true]) (S' := S) (s' := s) (th' := true) (by simp) rfl hw18 h.nums rfl rfl rfl rfl rfl rfl
    intro w19 hw19
    have c19 := dw hw19
    have h19 := h18.trans (MR.no h18.1 c19)
    refine ⟨fun w' => ∃ S' s' t', MS D w' m S' s' t' ∧ s'.ip = s.ip, ⟨S, s, true, h19.1, rfl⟩, s.ip, ?_, ?_⟩
    · rintro w' ⟨S', s', t', g, e⟩
      have := g.ob.cell (k := 0) (v := .int .i64 S'.ip) rfl
      rw [g.nums.1, e] at this; exact this
    refine (mpop_any h19.1 (h1 (Or.inr (Or.inl hc))) (by omega)).mono ?_
    rintro e w23 ⟨rfl, S23, h23⟩
    have h23 := h19.trans h23
    refine ⟨_, rfl, ⟨S23, _, _, h23.1, rfl⟩, ?_⟩
    by_cases h0 : topV s = 0
    · rw [h0]
      refine (new_none s.ip w23).mono ?_
      rintro e w26 ⟨rfl, rfl⟩
      refine ⟨_, rfl, ?_⟩
      have he : mFlow s c = .ok (popV s) := by unfold mFlow; rw [if_neg c44, if_pos hc, if_pos h0]
      rw [he]
      exact MX.ok 0 h23
    · refine (new_any (topV s) s.ip h0 w23).mono ?_
      rintro e w26 ⟨v, rfl, hv, c26⟩
      refine ⟨_, rfl, ?_⟩
      have he : mFlow s c = .bad (topV s) true := by unfold mFlow; rw [if_neg c44, if_pos hc, if_neg h0]
      rw [he]
      exact MX.bad h23 rfl hv h0 (Nat.le_refl _) c26
  have c45 : c ≠ 45 := by simpa using hc
  refine brB_of (fun hc => ?_) (fun hc => ?_)
  · have hc : c = 46 := by simpa using hc
    refine (mpop_any h (h1 (Or.inr (Or.inr hc))) (by omega)).mono ?_
    rintro e w29 ⟨rfl, S29, h29⟩
    obtain ⟨p1, p2, p3, p4, p5, p6, p7⟩ := h29.1.nums
    refine ⟨_, rfl, ?_⟩
    intro w31 hw31
    have c31 := dw hw31
    have h31 := h29.trans (MR.no h29.1 c31)
    have z31 := h31.size
    have ls := h31.1.st.rd.len
    have hO : ∀ w', Chg No w31 w' → Ob w' m (mcC S29 false) T_inner_machine := fun w' c => h31.1.ob.no c
    refine ⟨fun w' => Chg No w31 w', Chg.refl _ _, S29.ip, Ob.held hO rfl, S29.handler, Ob.held hO rfl, S29.stack, Ob.held hO rfl, ?_⟩
    intro b36 w37 hb36 hw37
    rw [p1, p2, ls] at hw37
    obtain ⟨g, c37⟩ := litL [(popV s).ip, (popV s).handler, ((popV s).stack.length : Int)] _ rfl hb36 hw37 (by simp)
    have z37 := c37.size
    have h37 := h31.trans (MR.no h31.1 c37)
    refine ⟨c37, (mback_any h37.1 (fun k hk => hD k (by omega)) g.rd rfl (by simp) (by show s.back.length + 3 ≤ _; omega)).mono ?_⟩
    rintro e w39 ⟨rfl, S39, h39⟩
    have h39 := h37.trans h39
    obtain ⟨q1, q2, q3, q4, q5, q6, q7⟩ := h39.1.nums
    have lb39 := h39.1.bk.rd.len
    rw [backV_len] at lb39
    refine ⟨rfl, S39.back, h39.1.ob.cell rfl, h39.1.wr (by omega), fun w41 hw41 => ?_⟩
    have hlen : (S39.back.len : Int) = (s.back.length : Int) + 3 := by rw [lb39]; show (((popV s).back.length + 3 : Nat) : Int) = _; rfl
    rw [hlen] at hw41
    have h41 := h39.1.put (k := 1) (vs := [.int .i64 ((s.back.length : Int) + 3)]) (S' := { S39 with handler := (s.back.length : Int) + 3 }) (s' := { backV (popV s) [(popV s).ip, (popV s).handler, ((popV s).stack.length : Int)] with handler := (s.back.length : Int) + 3 }) (th' := false) (by simp) rfl hw41 ⟨q1, rfl, q3, q4, q5, q6, q7⟩ rfl rfl rfl rfl rfl rfl
    have h41 := h39.trans h41
    refine mbackL h41.1 (MS.up hD h41.size) [1] _ rfl (by simp) (by simp) (by show (backV (popV s) [_, _, _]).back.length ≤ _; rw [backV_len]; show s.back.length + 3 ≤ _; omega) (fun w2 S2 g2 => ⟨g2.1.wr (by omega), fun w46 hw46 => ?_⟩) rfl
    obtain ⟨r1, r2, r3, r4, r5, r6, r7⟩ := g2.1.nums
    have g3 := g2.1.put (k := 0) (vs := [.int .i64 (topV s)]) (S' := { S2 with ip := topV s }) (s' := mCatch (popV s) (topV s)) (th' := false) (by simp) rfl hw46 ⟨rfl, r2, r3, r4, r5, r6, r7⟩ rfl rfl rfl rfl rfl rfl
    have he : mFlow s c = .ok (mCatch (popV s) (topV s)) := by unfold mFlow; rw [if_neg c44, if_neg c45, if_pos hc]
    rw [he]
    exact MX.ok 0 ((h41.trans g2).trans g3)
  have c46 : c ≠ 46 := by simpa using hc
  refine (mend_any h hD hn hn2).mono ?_
  rintro e w48 ⟨v, rfl, hv⟩
  refine ⟨v, rfl, ?_⟩
  have he : mFlow s c = mEnd s := by unfold mFlow; rw [if_neg c44, if_neg c45, if_neg c46]
  rw [he]; exact hv
theorem mreck_any (h : MS D w m S s false) (hD : ∀ k, w.heap.size ≤ k → D k) (c : Int) (h1 : 1 ≤ s.stack.length) (h2 : Cn.isOne c = false → 2 ≤ s.stack.length) (hn : s.stack.length ≤ 100) :
    Calls Tryz.prog fn_inner_machine_reckon #[.pointer (some ⟨m, 0, none⟩), .int .i64 c] w fun e w' => ∃ v, e = .returned v ∧ MX D w m S s 0 (mReck s c) v w' := by
  refine (inner_machine_reckon_lift (K := fun v w' => MX D w m S s 0 (mReck s c) v w') ?_).mono (by rintro e w' ⟨r, rfl, h⟩; exact ⟨r, rfl, h⟩)
  unfold inner_machine_reckon_sh
  have l1 := popV_len s
  have l2 := popV_len (popV s)
  refine (mpop_any h h1 (by omega)).mono ?_
  rintro e w4 ⟨rfl, S4, h4⟩
  refine ⟨_, rfl, (one_any c (topV s) w4).mono ?_⟩
  rintro e w7 ⟨rfl, rfl⟩
  refine ⟨_, _, rfl, brB_of (fun hb => ?_) (fun hb => ?_)⟩
  · have he : mReck s c = .ok (pushV (popV s) [Cn.one c (topV s)]) := by unfold mReck; rw [if_pos hb]
    rw [he]
    exact mpushL h4.1 (MS.up hD h4.size) [Cn.one c (topV s)] _ rfl (by simp) (by simp) (by omega) (fun w2 S2 g2 => MX.ok 0 (h4.trans g2)) rfl
  · have := h2 hb
    refine (mpop_any h4.1 (by omega) (by omega)).mono ?_
    rintro e w15 ⟨rfl, S15, h15⟩
    have h15 := h4.trans h15
    refine ⟨_, rfl, (two_any c (topV (popV s)) (topV s) w15).mono ?_⟩
    rintro e w18 ⟨rfl, q18⟩
    have c18 : Chg No w15 w18 := Chg.qt q18
    have h18 := h15.trans (MR.no h15.1 c18)
    refine ⟨_, _, rfl, brB_of (fun ht => ?_) (fun ht => ?_)⟩
    · have ht : Cn.isTwo c (topV s) = false := by simpa using ht
      refine (mfails_any h18.1 (by decide)).mono ?_
      rintro e w22 ⟨v, rfl, hv, c22⟩
      refine ⟨v, rfl, ?_⟩
      have he : mReck s c = .bad (-10) false := by unfold mReck; rw [if_neg (by rw [hb]; decide), if_neg (by rw [ht]; decide)]
      rw [he]
      exact MX.bad h18 rfl hv (by decide) (Nat.le_refl _) c22
    · have ht : Cn.isTwo c (topV s) = true := by simpa using ht
      have he : mReck s c = .ok (pushV (popV (popV s)) [Cn.two c (topV (popV s)) (topV s)]) := by unfold mReck; rw [if_neg (by rw [hb]; decide), if_pos ht]
      rw [he]
      exact mpushL h18.1 (MS.up hD h18.size) [Cn.two c (topV (popV s)) (topV s)] _ rfl (by simp) (by simp) (by omega) (fun w2 S2 g2 => MX.ok 0 (h18.trans g2)) rfl
theorem mroom_any (S : StC) {s : StV} (hs : S.stack.len = s.stack.length) (hb : S.back.len = s.back.length) (n1 : s.stack.length ≤ 1000) (n2 : s.back.length ≤ 1000) {c : Int} (hc : 0 ≤ c ∧ c < 48) (w : World) :
    Calls Tryz.prog fn_inner_room #[.agg (stC S).toArray, .int .i64 c] w fun e w' => e = .returned (.int .i64 (mRoom s c)) ∧ Chg No w w' := by
  refine (inner_room_lift (K := fun r w' => r = .int .i64 (mRoom s c) ∧ Chg No w w') ?_).mono (by rintro e w' ⟨r, rfl, rfl, h⟩; exact ⟨rfl, h⟩)
  unfold inner_room_sh
  intro b12 w13 hb12 hw13
  have c13 := al hw13
  have o13 : Ob w13 b12 (stC S) T_api_State := by rw [hw13, hb12]; exact Ob.new w (stC S) T_api_State
  obtain ⟨t1, t2, t3, t4, t5, t6, t7, t8⟩ := (rows_small c.toNat (by omega)).1
  rw [show ((c.toNat : Nat) : Int) = c by omega] at t1 t2 t3 t4 t5 t6 t7 t8
  refine (takes_any c w13).mono ?_
  rintro e w15 ⟨rfl, c15⟩
  refine ⟨_, _, rfl, (gives_any c w15).mono ?_⟩
  rintro e w19 ⟨rfl, c19⟩
  have k19 := trN (trN c13 c15) c19
  have o19 := (o13.no c15).no c19
  unfold mRoom
  refine ⟨_, _, rfl, S.stack, o19.cell rfl, ?_⟩
  rw [hs]
  refine brB_of (fun h => ⟨by rw [if_pos (of_decide_eq_true h)], k19⟩) (fun h => ?_)
  rw [if_neg (of_decide_eq_false h)]
  refine ⟨S.back, o19.cell rfl, ?_⟩
  rw [hb]
  refine brB_of (fun h => ⟨by rw [if_pos (of_decide_eq_true h)], k19⟩) (fun h => ?_)
  rw [if_neg (of_decide_eq_false h)]
  refine ⟨S.stack, o19.cell rfl, ?_⟩
  rw [hs, wr_in (x := (s.stack.length : Int) - (opRow c).takes) (by omega), wr_in (by omega)]
  refine brB_of (fun h => ⟨by rw [if_pos (of_decide_eq_true h)], k19⟩) (fun h => ?_)
  rw [if_neg (of_decide_eq_false h)]
  refine ⟨S.back, o19.cell rfl, ?_⟩
  rw [hb, wr_in (x := (s.back.length : Int) - (opRow c).backs) (by omega), wr_in (by omega)]
  refine brB_of (fun h => ⟨by rw [if_pos (of_decide_eq_true h)], k19⟩) (fun h => ?_)
  rw [if_neg (of_decide_eq_false h)]
  exact ⟨rfl, k19⟩
end
end Go.Proofs.YtkjpmkopnkkbmaaGreatDoor

/- A machine in memory: an operation; a step. -/
set_option maxRecDepth 100000
namespace Go.Proofs.YtkjpmkopnkkbmaaGreatDoor
open Go.RowKit

theorem rows_d1 : ∀ n : Nat, n < 48 → (n = 4 → (opRow n).takes = 1) ∧ (n = 5 → (opRow n).backs = 1) ∧ (n = 6 ∨ n = 7 → (opRow n).takes = 1) ∧ (n = 8 ∨ n = 9 → (opRow n).takes = 2) ∧ (n = 10 → (opRow n).takes = 3) := by decide +kernel
theorem rows_d2 : ∀ n : Nat, n < 48 → (n = 30 ∨ n = 33 ∨ n = 41 ∨ n = 42 ∨ n = 44 ∨ n = 45 ∨ n = 46 → (opRow n).takes = 1) ∧ (n = 31 ∨ n = 32 ∨ n = 36 → (opRow n).takes = 2) ∧ (n = 34 ∨ n = 35 → (opRow n).backs = 1) := by decide +kernel
theorem rows_d3 : ∀ n : Nat, n < 48 → (n = 37 ∨ n = 40 → (opRow n).backs = 2) ∧ (n = 38 → (opRow n).takes = 1 ∧ (opRow n).backs = 2) ∧ (n = 39 → (opRow n).backs = 3) := by decide +kernel
structure NeedM (s : StV) (c : Int) : Prop where
  n1 : (c = 4 ∨ c = 6 ∨ c = 7 ∨ c = 30 ∨ c = 33 ∨ c = 38 ∨ c = 41 ∨ c = 42 ∨ c = 44 ∨ c = 45 ∨ c = 46) → 1 ≤ s.stack.length
  n2 : (c = 8 ∨ c = 9 ∨ c = 31 ∨ c = 32 ∨ c = 36) → 2 ≤ s.stack.length
  n3 : c = 10 → 3 ≤ s.stack.length
  b1 : (c = 5 ∨ c = 34 ∨ c = 35) → 1 ≤ s.back.length
  b2 : (c = 37 ∨ c = 38 ∨ c = 40) → 2 ≤ s.back.length
  b3 : c = 39 → 3 ≤ s.back.length
  one : 11 ≤ c ∧ c ≤ 29 → 1 ≤ s.stack.length ∧ (Cn.isOne c = false → 2 ≤ s.stack.length)
theorem isOne_ops {c : Int} (h : Cn.isOne c = false) : c ≠ 16 ∧ c ≠ 20 ∧ c ≠ 26 ∧ c ≠ 27 := by
  refine ⟨?_, ?_, ?_, ?_⟩ <;> (rintro rfl; revert h; decide)
theorem need_of {s : StV} {c : Int} (hc : 0 ≤ c ∧ c < 48) (h : mRoom s c = 0) : NeedM s c := by
  obtain ⟨r1, r2, _, _⟩ := mRoom_no h
  obtain ⟨a1, a2, a3, a4, a5⟩ := rows_d1 c.toNat (by omega)
  obtain ⟨a6, a7, a8⟩ := rows_d2 c.toNat (by omega)
  obtain ⟨a9, a10, a11⟩ := rows_d3 c.toNat (by omega)
  obtain ⟨_, t⟩ := rows_small c.toNat (by omega)
  have e : ((c.toNat : Nat) : Int) = c := by omega
  rw [e] at a1 a2 a3 a4 a5 a6 a7 a8 a9 a10 a11 t
  refine ⟨fun h => ?_, fun h => ?_, fun h => ?_, fun h => ?_, fun h => ?_, fun h => ?_, fun h => ?_⟩
  · rcases h with h | h | h | h | h | h | h | h | h | h | h
    · have := a1 (by omega); omega
    · have := a3 (by omega); omega
    · have := a3 (by omega); omega
    · have := a6 (by omega); omega
    · have := a6 (by omega); omega
    · have := (a10 (by omega)).1; omega
    · have := a6 (by omega); omega
    · have := a6 (by omega); omega
    · have := a6 (by omega); omega
    · have := a6 (by omega); omega
    · have := a6 (by omega); omega
  · rcases h with h | h | h | h | h
    · have := a4 (by omega); omega
    · have := a4 (by omega); omega
    · have := a7 (by omega); omega
    · have := a7 (by omega); omega
    · have := a7 (by omega); omega
  · have := a5 (by omega); omega
  · rcases h with h | h | h
    · have := a2 (by omega); omega
    · have := a8 (by omega); omega
    · have := a8 (by omega); omega
  · rcases h with h | h | h
    · have := a9 (by omega); omega
    · have := (a10 (by omega)).2; omega
    · have := a9 (by omega); omega
  · have := a11 (by omega); omega
  · obtain ⟨_, _, _, t4⟩ := t (by omega)
    split at t4
    · next hh =>
      refine ⟨by omega, fun h1 => ?_⟩
      have := isOne_ops h1
      omega
    · exact ⟨by omega, fun _ => by omega⟩
section
variable {D : Nat → Prop} {w : World} {m : Nat} {S : StC} {s : StV} {th : Bool}
theorem MX.to {w' : World} {d d' : Nat} {r : Rs} {v : Value} (hd : d ≤ d') (g : MX D w m S s d r v w') : MX D w m S s d' r v w' := by
  cases r with
  | ok s' => exact g
  | bad c t => obtain ⟨a, ⟨d0, e1, e2⟩, b⟩ := g; exact ⟨a, ⟨d0, by omega, e2⟩, b⟩
theorem mdo_any (h : MS D w m S s false) (hD : ∀ k, w.heap.size ≤ k → D k) (c arg was : Int) (hc : 0 ≤ c ∧ c < 48) (nd : NeedM s c) (ok : MOk s) :
    Calls Tryz.prog fn_inner_machine_do #[.pointer (some ⟨m, 0, none⟩), .int .i64 c, .int .i64 arg, .int .i64 was] w fun e w' => ∃ v, e = .returned v ∧ MX D w m S s 1 (mDo s c arg was) v w' := by
  refine (inner_machine_do_lift (K := fun v w' => MX D w m S s 1 (mDo s c arg was) v w') ?_).mono (by rintro e w' ⟨r, rfl, h⟩; exact ⟨r, rfl, h⟩)
  unfold inner_machine_do_sh
  obtain ⟨m1, m2, m3, m4, m5, m6, m7⟩ := h.nums
  have k1 := ok.st
  have k2 := ok.bk
  refine ⟨fun w38 => ∃ S' s' , MR D w m S w38 S' s' false ∧ mDo s c arg was = .ok { s' with ip := arg }, ?_, ?_⟩
  · rintro w38 ⟨S', s', g, he⟩
    obtain ⟨p1, p2, p3, p4, p5, p6, p7⟩ := g.1.nums
    refine ⟨g.1.wr (by omega), fun w39 hw39 => ?_⟩
    have g2 := g.1.put (k := 0) (vs := [.int .i64 arg]) (S' := { S' with ip := arg }) (s' := { s' with ip := arg }) (th' := false) (by simp) rfl hw39 ⟨rfl, p2, p3, p4, p5, p6, p7⟩ rfl rfl rfl rfl rfl rfl
    rw [he]
    exact MX.ok 1 (g.trans g2)
  have go : ∀ r : Rs, mDo s c arg was = r → ∀ {v : Value} {w' : World} {d : Nat}, d ≤ 1 → MX D w m S s d r v w' → MX D w m S s 1 (mDo s c arg was) v w' := fun r hr {v w' d} hd g => by rw [hr]; exact g.to hd
  refine brB_of (fun hc0 => ?_) (fun hc0 => ?_)
  · have hc0 : c = 0 := by simpa using hc0
    refine ⟨h.wr (by omega), fun w29 hw29 => ?_⟩
    have g1 := h.put (k := 0) (vs := [.int .i64 was]) (S' := { S with ip := was }) (s' := { s with ip := was }) (th' := false) (by simp) rfl hw29 ⟨rfl, m2, m3, m4, m5, m6, m7⟩ rfl rfl rfl rfl rfl rfl
    refine ⟨g1.1.wr (by omega), fun w30 hw30 => ?_⟩
    have g2 := g1.1.put (k := 8) (vs := [.int .i64 1]) (S' := { S with ip := was, status := 1 }) (s' := { s with ip := was, status := 1 }) (th' := false) (by simp) rfl hw30 ⟨rfl, m2, m3, m4, m5, rfl, m7⟩ rfl rfl rfl rfl rfl rfl
    exact go _ (by unfold mDo; rw [if_pos hc0]) (Nat.le_refl _) (MX.ok 1 (g1.trans g2))
  have c0 : c ≠ 0 := by simpa using hc0
  refine brB_of (fun hx => ?_) (fun hx => ?_)
  · have hx : c = 2 := by simpa using hx
    refine mpushL h hD [arg] _ rfl (by simp) (by simp) (by omega) (fun w2 S2 g2 => ?_) rfl
    exact go _ (by unfold mDo; rw [if_neg c0, if_pos hx]) (Nat.le_refl _) (MX.ok 1 g2)
  have c2 : c ≠ 2 := by simpa using hx
  refine brB_of (fun hx => ?_) (fun hx => ?_)
  · have hx : c = 4 := by simpa using hx
    refine (mpop_any h (nd.n1 (by omega)) (by omega)).mono ?_
    rintro e w36 ⟨rfl, S36, g36⟩
    refine ⟨_, rfl, brB_of (fun hz => ?_) (fun hz => ?_)⟩
    · have hz : topV s ≠ 0 := by simpa using hz
      exact go _ (by unfold mDo; rw [if_neg c0, if_neg c2, if_pos hx, if_pos hz]) (Nat.le_refl _) (MX.ok 1 g36)
    · have hz : topV s = 0 := by simpa using hz
      exact ⟨S36, _, g36, by unfold mDo; rw [if_neg c0, if_neg c2, if_pos hx, if_neg (fun h => h hz)]⟩
  have c4 : c ≠ 4 := by simpa using hx
  refine brB_of (fun hx => ?_) (fun hx => ?_)
  · have hx : c = 3 := by simpa using hx
    exact ⟨S, s, MR.same h, by unfold mDo; rw [if_neg c0, if_neg c2, if_neg c4, if_pos hx]⟩
  have c3 : c ≠ 3 := by simpa using hx
  refine brB_of (fun hx => ?_) (fun hx => ?_)
  · have hx : c = 5 := by simpa using hx
    refine (mpopB_any h (nd.b1 (by omega)) (by omega)).mono ?_
    rintro e w41 ⟨rfl, S41, g41⟩
    obtain ⟨p1, p2, p3, p4, p5, p6, p7⟩ := g41.1.nums
    refine ⟨_, rfl, g41.1.wr (by omega), fun w43 hw43 => ?_⟩
    have g2 := g41.1.put (k := 0) (vs := [.int .i64 (topB s)]) (S' := { S41 with ip := topB s }) (s' := { popB s with ip := topB s }) (th' := false) (by simp) rfl hw43 ⟨rfl, p2, p3, p4, p5, p6, p7⟩ rfl rfl rfl rfl rfl rfl
    exact go _ (by unfold mDo; rw [if_neg c0, if_neg c2, if_neg c4, if_neg c3, if_pos hx]) (Nat.le_refl _) (MX.ok 1 (g41.trans g2))
  have c5 : c ≠ 5 := by simpa using hx
  have e0 : mDo s c arg was = if 6 ≤ c ∧ c ≤ 10 then .ok (mShuf s c) else if 30 ≤ c ∧ c ≤ 32 then mMem s c else
      if (33 ≤ c ∧ c ≤ 36) ∨ c = 39 ∨ c = 40 then .ok (mBacks s c) else if c = 37 ∨ c = 38 then .ok (mLoop s c arg) else if c = 41 ∨ c = 42 then mSay s c else
      if c = 43 then .ok (mKey s) else if (44 ≤ c ∧ c ≤ 46) ∨ c = 1 then mFlow s c else if c = 47 then .ok s else mReck s c := by
    unfold mDo; rw [if_neg c0, if_neg c2, if_neg c4, if_neg c3, if_neg c5]
  have shuf : 6 ≤ c ∧ c ≤ 10 → Calls Tryz.prog fn_inner_machine_shuffle #[.pointer (some ⟨m, 0, none⟩), .int .i64 c] w fun e w' => e = .returned (.tuple #[]) ∧ MX D w m S s 1 (mDo s c arg was) .nilIface w' := fun hr => by
    have h1 : 1 ≤ s.stack.length := by
      by_cases h8 : c = 8 ∨ c = 9
      · have := nd.n2 (by omega); omega
      · by_cases h10 : c = 10
        · have := nd.n3 h10; omega
        · exact nd.n1 (by omega)
    refine (mshuf_any h hD c h1 (fun h => nd.n2 (by omega)) (fun h => nd.n3 h) (by omega)).mono ?_
    rintro e w' ⟨rfl, S', g⟩
    exact ⟨rfl, go _ (by rw [e0, if_pos hr]) (Nat.le_refl _) (MX.ok 1 g)⟩
  have mem : 30 ≤ c ∧ c ≤ 32 → Calls Tryz.prog fn_inner_machine_memory #[.pointer (some ⟨m, 0, none⟩), .int .i64 c] w fun e w' => ∃ v, e = .returned v ∧ MX D w m S s 1 (mDo s c arg was) v w' := fun hr => by
    have h1 : 1 ≤ s.stack.length := by
      by_cases h30 : c = 30
      · exact nd.n1 (by omega)
      · have := nd.n2 (by omega); omega
    refine (mmem_any h hD c h1 (fun _ => nd.n2 (by omega)) (by omega)).mono ?_
    rintro e w' ⟨v, rfl, g⟩
    exact ⟨v, rfl, go _ (by rw [e0, if_neg (by omega), if_pos hr]) (Nat.le_refl _) g⟩
  have backs : (33 ≤ c ∧ c ≤ 36) ∨ c = 39 ∨ c = 40 → Calls Tryz.prog fn_inner_machine_backs #[.pointer (some ⟨m, 0, none⟩), .int .i64 c] w fun e w' => e = .returned (.tuple #[]) ∧ MX D w m S s 1 (mDo s c arg was) .nilIface w' := fun hr => by
    refine (mbacks_any h hD c (fun h => nd.n1 (by omega)) (fun h => nd.b1 (by omega)) (fun h => nd.n2 (by omega)) (fun h => nd.b3 h) (fun h => nd.b2 (by omega)) hr (by omega) (by omega)).mono ?_
    rintro e w' ⟨rfl, S', g⟩
    exact ⟨rfl, go _ (by rw [e0, if_neg (by omega), if_neg (by omega), if_pos hr]) (Nat.le_refl _) (MX.ok 1 g)⟩
  have lp : c = 37 ∨ c = 38 → Calls Tryz.prog fn_inner_machine_loop #[.pointer (some ⟨m, 0, none⟩), .int .i64 c, .int .i64 arg] w fun e w' => e = .returned (.tuple #[]) ∧ MX D w m S s 1 (mDo s c arg was) .nilIface w' := fun hr => by
    refine (mloop_any h hD c arg (nd.b2 (by omega)) (fun h => nd.n1 (by omega)) (by omega) (by omega)).mono ?_
    rintro e w' ⟨rfl, S', g⟩
    exact ⟨rfl, go _ (by rw [e0, if_neg (by omega), if_neg (by omega), if_neg (by omega), if_pos hr]) (Nat.le_refl _) (MX.ok 1 g)⟩
  have say : c = 41 ∨ c = 42 → Calls Tryz.prog fn_inner_machine_say #[.pointer (some ⟨m, 0, none⟩), .int .i64 c] w fun e w' => ∃ v, e = .returned v ∧ MX D w m S s 1 (mDo s c arg was) v w' := fun hr => by
    refine (msay_any h c (nd.n1 (by omega)) (by omega) (by have := ok.out; omega)).mono ?_
    rintro e w' ⟨v, rfl, g⟩
    refine ⟨v, rfl, go _ (by rw [e0, if_neg (by omega), if_neg (by omega), if_neg (by omega), if_neg (by omega), if_pos hr]) (Nat.zero_le _) (d := 0) ?_⟩
    have hs : mSay s c = .bad (-57) false ∨ ∃ s', mSay s c = .ok s' := by
      unfold mSay
      split
      · exact Or.inl rfl
      · exact Or.inr ⟨_, rfl⟩
    rcases hs with hs | ⟨s', hs⟩ <;> (rw [hs] at g ⊢; exact g)
  have flow : (44 ≤ c ∧ c ≤ 46) ∨ c = 1 → Calls Tryz.prog fn_inner_machine_flow #[.pointer (some ⟨m, 0, none⟩), .int .i64 c] w fun e w' => ∃ v, e = .returned v ∧ MX D w m S s 1 (mDo s c arg was) v w' := fun hr => by
    refine (mflow_any h hD c (fun h => nd.n1 (by omega)) (by omega) (by omega)).mono ?_
    rintro e w' ⟨v, rfl, g⟩
    exact ⟨v, rfl, go _ (by rw [e0, if_neg (by omega), if_neg (by omega), if_neg (by omega), if_neg (by omega), if_neg (by omega), if_neg (by omega), if_pos hr]) (Nat.zero_le _) g⟩
  have j1 : ∀ b : Bool, (b = true → (44 ≤ c ∧ c ≤ 46) ∨ c = 1) → (b = false → c = 47 ∨ (11 ≤ c ∧ c ≤ 29)) → inner_machine_do_j1 m c b w (fun v w' => MX D w m S s 1 (mDo s c arg was) v w') := fun b h1 h2 => by
    unfold inner_machine_do_j1
    refine brB_of (fun hb => ?_) (fun hb => ?_)
    · refine (flow (h1 hb)).mono ?_
      rintro e w' ⟨v, rfl, g⟩
      exact ⟨v, rfl, g⟩
    have h2 := h2 hb
    refine brB_of (fun h47 => ?_) (fun h47 => ?_)
    · have h47 : c = 47 := by simpa using h47
      exact go _ (by rw [e0, if_neg (by omega), if_neg (by omega), if_neg (by omega), if_neg (by omega), if_neg (by omega), if_neg (by omega), if_neg (by omega), if_pos h47]) (Nat.le_refl _) (MX.ok 1 (MR.same h))
    · have h47 : c ≠ 47 := by simpa using h47
      obtain ⟨o1, o2⟩ := nd.one (by omega)
      refine (mreck_any h hD c o1 o2 (by omega)).mono ?_
      rintro e w' ⟨v, rfl, g⟩
      exact ⟨v, rfl, go _ (by rw [e0, if_neg (by omega), if_neg (by omega), if_neg (by omega), if_neg (by omega), if_neg (by omega), if_neg (by omega), if_neg (by omega), if_neg h47]) (Nat.zero_le _) g⟩
  have rest : (c = 1 ∨ (11 ≤ c ∧ c ≤ 29) ∨ (43 ≤ c)) → ∀ b : Bool, (b = false) → inner_machine_do_j2 m c b w (fun v w' => MX D w m S s 1 (mDo s c arg was) v w') := fun hr b hb => by
    unfold inner_machine_do_j2
    rw [hb]
    refine brB_f ?_
    refine brB_of (fun hx => ?_) (fun hx => ?_)
    · have hx : c = 43 := by simpa using hx
      refine (mkey_any h hD ok.rd.1 (by have := ok.inp; omega) (by omega)).mono ?_
      rintro e w' ⟨rfl, S', g⟩
      exact ⟨rfl, go _ (by rw [e0, if_neg (by omega), if_neg (by omega), if_neg (by omega), if_neg (by omega), if_neg (by omega), if_pos hx]) (Nat.le_refl _) (MX.ok 1 g)⟩
    have x43 : c ≠ 43 := by simpa using hx
    refine brB_of (fun hx => ?_) (fun hx => ?_)
    · have hx' : c = 44 := by simpa using hx
      exact j1 _ (fun _ => by omega) (fun hb => by rw [hx] at hb; cases hb)
    have x44 : c ≠ 44 := by simpa using hx
    refine brB_of (fun hx => ?_) (fun hx => ?_)
    · have hx' : c = 45 := by simpa using hx
      exact j1 _ (fun _ => by omega) (fun hb => by rw [hx] at hb; cases hb)
    have x45 : c ≠ 45 := by simpa using hx
    refine brB_of (fun hx => ?_) (fun hx => ?_)
    · have hx' : c = 46 := by simpa using hx
      exact j1 _ (fun _ => by omega) (fun hb => by rw [hx] at hb; cases hb)
    have x46 : c ≠ 46 := by simpa using hx
    exact j1 _ (fun hb => by have : c = 1 := by simpa using hb
                             omega) (fun hb => by have : c ≠ 1 := by simpa using hb
                                                  omega)
  have j2 : ∀ b : Bool, (b = true → c = 41 ∨ c = 42) → (b = false → c = 1 ∨ (11 ≤ c ∧ c ≤ 29) ∨ 43 ≤ c) → inner_machine_do_j2 m c b w (fun v w' => MX D w m S s 1 (mDo s c arg was) v w') := fun b h1 h2 => by
    cases hb : b with
    | false => exact rest (h2 hb) false rfl
    | true =>
      unfold inner_machine_do_j2
      refine brB_t ?_
      refine (say (h1 hb)).mono ?_
      rintro e w' ⟨v, rfl, g⟩
      exact ⟨v, rfl, g⟩
  have j3 : ∀ b : Bool, (b = true → c = 37 ∨ c = 38) → (b = false → c = 1 ∨ (11 ≤ c ∧ c ≤ 29) ∨ 41 ≤ c) → inner_machine_do_j3 m c arg b w (fun v w' => MX D w m S s 1 (mDo s c arg was) v w') := fun b h1 h2 => by
    unfold inner_machine_do_j3
    refine brB_of (fun hb => ?_) (fun hb => ?_)
    · refine (lp (h1 hb)).mono ?_
      rintro e w' ⟨rfl, g⟩
      exact ⟨rfl, g⟩
    have h2 := h2 hb
    refine brB_of (fun hx => ?_) (fun hx => ?_)
    · have hx' : c = 41 := by simpa using hx
      exact j2 _ (fun _ => Or.inl hx') (fun hb => by rw [hx] at hb; cases hb)
    · have hx' : c ≠ 41 := by simpa using hx
      exact j2 _ (fun hb => by have : c = 42 := by simpa using hb
                               omega) (fun hb => by have : c ≠ 42 := by simpa using hb
                                                    omega)
  have j4 : ∀ b : Bool, (b = true → (33 ≤ c ∧ c ≤ 36) ∨ c = 39 ∨ c = 40) → (b = false → c = 1 ∨ (11 ≤ c ∧ c ≤ 29) ∨ c = 37 ∨ c = 38 ∨ 41 ≤ c) → inner_machine_do_j4 m c arg b w (fun v w' => MX D w m S s 1 (mDo s c arg was) v w') := fun b h1 h2 => by
    unfold inner_machine_do_j4
    refine brB_of (fun hb => ?_) (fun hb => ?_)
    · refine (backs (h1 hb)).mono ?_
      rintro e w' ⟨rfl, g⟩
      exact ⟨rfl, g⟩
    have h2 := h2 hb
    refine brB_of (fun hx => ?_) (fun hx => ?_)
    · have hx' : c = 37 := by simpa using hx
      exact j3 _ (fun _ => Or.inl hx') (fun hb => by rw [hx] at hb; cases hb)
    · have hx' : c ≠ 37 := by simpa using hx
      exact j3 _ (fun hb => by have : c = 38 := by simpa using hb
                               omega) (fun hb => by have : c ≠ 38 := by simpa using hb
                                                    omega)
  have j5 : ∀ b : Bool, (b = true → 30 ≤ c ∧ c ≤ 32) → (b = false → c = 1 ∨ (11 ≤ c ∧ c ≤ 29) ∨ 33 ≤ c) → inner_machine_do_j5 m c arg b w (fun v w' => MX D w m S s 1 (mDo s c arg was) v w') := fun b h1 h2 => by
    unfold inner_machine_do_j5
    refine brB_of (fun hb => ?_) (fun hb => ?_)
    · refine (mem (h1 hb)).mono ?_
      rintro e w' ⟨v, rfl, g⟩
      exact ⟨v, rfl, g⟩
    have h2 := h2 hb
    refine brB_of (fun hx => ?_) (fun hx => ?_)
    · have hx' : c = 33 := by simpa using hx
      exact j4 _ (fun _ => by omega) (fun hb => by rw [hx] at hb; cases hb)
    have x33 : c ≠ 33 := by simpa using hx
    refine brB_of (fun hx => ?_) (fun hx => ?_)
    · have hx' : c = 34 := by simpa using hx
      exact j4 _ (fun _ => by omega) (fun hb => by rw [hx] at hb; cases hb)
    have x34 : c ≠ 34 := by simpa using hx
    refine brB_of (fun hx => ?_) (fun hx => ?_)
    · have hx' : c = 35 := by simpa using hx
      exact j4 _ (fun _ => by omega) (fun hb => by rw [hx] at hb; cases hb)
    have x35 : c ≠ 35 := by simpa using hx
    refine brB_of (fun hx => ?_) (fun hx => ?_)
    · have hx' : c = 36 := by simpa using hx
      exact j4 _ (fun _ => by omega) (fun hb => by rw [hx] at hb; cases hb)
    have x36 : c ≠ 36 := by simpa using hx
    refine brB_of (fun hx => ?_) (fun hx => ?_)
    · have hx' : c = 39 := by simpa using hx
      exact j4 _ (fun _ => by omega) (fun hb => by rw [hx] at hb; cases hb)
    have x39 : c ≠ 39 := by simpa using hx
    exact j4 _ (fun hb => by have : c = 40 := by simpa using hb
                             omega) (fun hb => by have : c ≠ 40 := by simpa using hb
                                                  omega)
  have j6 : ∀ b : Bool, (b = true → 6 ≤ c ∧ c ≤ 10) → (b = false → c = 1 ∨ 11 ≤ c) → inner_machine_do_j6 m c arg b w (fun v w' => MX D w m S s 1 (mDo s c arg was) v w') := fun b h1 h2 => by
    unfold inner_machine_do_j6
    refine brB_of (fun hb => ?_) (fun hb => ?_)
    · refine (shuf (h1 hb)).mono ?_
      rintro e w' ⟨rfl, g⟩
      exact ⟨rfl, g⟩
    have h2 := h2 hb
    refine brB_of (fun hx => ?_) (fun hx => ?_)
    · have hx' : c = 30 := by simpa using hx
      exact j5 _ (fun _ => by omega) (fun hb => by rw [hx] at hb; cases hb)
    have x30 : c ≠ 30 := by simpa using hx
    refine brB_of (fun hx => ?_) (fun hx => ?_)
    · have hx' : c = 31 := by simpa using hx
      exact j5 _ (fun _ => by omega) (fun hb => by rw [hx] at hb; cases hb)
    have x31 : c ≠ 31 := by simpa using hx
    exact j5 _ (fun hb => by have : c = 32 := by simpa using hb
                             omega) (fun hb => by have : c ≠ 32 := by simpa using hb
                                                  omega)
  refine brB_of (fun hx => ?_) (fun hx => ?_)
  · have hx' : c = 6 := by simpa using hx
    exact j6 _ (fun _ => by omega) (fun hb => by rw [hx] at hb; cases hb)
  have x6 : c ≠ 6 := by simpa using hx
  refine brB_of (fun hx => ?_) (fun hx => ?_)
  · have hx' : c = 7 := by simpa using hx
    exact j6 _ (fun _ => by omega) (fun hb => by rw [hx] at hb; cases hb)
  have x7 : c ≠ 7 := by simpa using hx
  refine brB_of (fun hx => ?_) (fun hx => ?_)
  · have hx' : c = 8 := by simpa using hx
    exact j6 _ (fun _ => by omega) (fun hb => by rw [hx] at hb; cases hb)
  have x8 : c ≠ 8 := by simpa using hx
  refine brB_of (fun hx => ?_) (fun hx => ?_)
  · have hx' : c = 9 := by simpa using hx
    exact j6 _ (fun _ => by omega) (fun hb => by rw [hx] at hb; cases hb)
  have x9 : c ≠ 9 := by simpa using hx
  exact j6 _ (fun hb => by have : c = 10 := by simpa using hb
                           omega) (fun hb => by have : c ≠ 10 := by simpa using hb
                                                omega)
end
end Go.Proofs.YtkjpmkopnkkbmaaGreatDoor

/- A machine stays small enough. -/
set_option maxRecDepth 100000
namespace Go.Proofs.YtkjpmkopnkkbmaaGreatDoor
open Go.RowKit

theorem rows_g1 : ∀ n : Nat, n < 48 → (n = 2 ∨ n = 34 ∨ n = 35 ∨ n = 39 ∨ n = 43 → (opRow n).takes = 0 ∧ (opRow n).gives = 1) ∧ (n = 6 → (opRow n).takes = 1 ∧ (opRow n).gives = 2) ∧ (n = 9 → (opRow n).takes = 2 ∧ (opRow n).gives = 3) := by decide +kernel
theorem rows_g2 : ∀ n : Nat, n < 48 → (n = 33 ∨ n = 44 → (opRow n).backs = 0 ∧ (opRow n).givesBak = 1) ∧ (n = 36 → (opRow n).backs = 0 ∧ (opRow n).givesBak = 2) ∧ (n = 46 → (opRow n).backs = 0 ∧ (opRow n).givesBak = 4) := by decide +kernel
theorem mok_fault {s : StV} (h : MOk s) (c : Int) : MOk (mFault s c) := by
  unfold mFault
  cases hk : mCaught s with
  | none => exact ⟨h.st, h.bk, h.me, h.out, h.rd, h.inp⟩
  | some n =>
    have hn : n < 48 := by
      unfold mCaught at hk
      split at hk
      · next hh => have := Option.some.inj hk; omega
      · cases hk
    have := h.st
    have := h.bk
    refine ⟨?_, ?_, h.me, h.out, h.rd, h.inp⟩
    · show ((s.stack.take n ++ List.replicate (n - s.stack.length) 0) ++ [c]).length ≤ 48
      rw [List.length_append, List.length_append, List.length_take, List.length_replicate, List.length_singleton]; omega
    · show (s.back.take (s.handler - 3).toNat).length ≤ 48
      rw [List.length_take]; omega
theorem mok_popV {s : StV} (h : MOk s) : MOk (popV s) := ⟨by have := popV_len s; have := h.st; omega, h.bk, h.me, h.out, h.rd, h.inp⟩
theorem mok_popB {s : StV} (h : MOk s) : MOk (popB s) := ⟨h.st, by have := popB_len s; have := h.bk; omega, h.me, h.out, h.rd, h.inp⟩
theorem mok_push {s : StV} (h : MOk s) {l : List Int} (hl : s.stack.length + l.length ≤ 48) : MOk (pushV s l) := ⟨by rw [pushV_len]; exact hl, h.bk, h.me, h.out, h.rd, h.inp⟩
theorem mok_back {s : StV} (h : MOk s) {l : List Int} (hl : s.back.length + l.length ≤ 48) : MOk (backV s l) := ⟨h.st, by rw [backV_len]; exact hl, h.me, h.out, h.rd, h.inp⟩
theorem mok_nums {s s' : StV} (h : MOk s) (e1 : s'.stack = s.stack) (e2 : s'.back = s.back) (e3 : s'.mem = s.mem) (e4 : s'.out = s.out) (e5 : s'.inp = s.inp) (e6 : s'.read = s.read) : MOk s' :=
  ⟨by rw [e1]; exact h.st, by rw [e2]; exact h.bk, by rw [e3]; exact h.me, by rw [e4]; exact h.out, by rw [e5, e6]; exact h.rd, by rw [e5]; exact h.inp⟩
theorem mok_do {s s' : StV} {c arg was : Int} (h : MOk s) (hc : 0 ≤ c ∧ c < 48) (hz : mRoom s c = 0) (he : mDo s c arg was = .ok s') : MOk s' := by
  have nd := need_of hc hz
  obtain ⟨r1, r2, r3, r4⟩ := mRoom_no hz
  obtain ⟨a1, a2, a3⟩ := rows_g1 c.toNat (by omega)
  obtain ⟨a4, a5, a6⟩ := rows_g2 c.toNat (by omega)
  have e : ((c.toNat : Nat) : Int) = c := by omega
  rw [e] at a1 a2 a3 a4 a5 a6
  have k1 := h.st
  have k2 := h.bk
  have p1 := popV_len s
  have p2 := popV_len (popV s)
  have p3 := popV_len (popV (popV s))
  have q1 := popB_len s
  have q2 := popB_len (popB s)
  have q3 := popB_len (popB (popB s))
  unfold mDo at he
  by_cases h0 : c = 0
  · rw [if_pos h0] at he; cases he; exact mok_nums h rfl rfl rfl rfl rfl rfl
  rw [if_neg h0] at he
  by_cases h2 : c = 2
  · rw [if_pos h2] at he; cases he
    have := a1 (by omega)
    exact mok_push h (by show _ + 1 ≤ 48; omega)
  rw [if_neg h2] at he
  by_cases h4 : c = 4
  · rw [if_pos h4] at he
    split at he
    · cases he; exact mok_popV h
    · cases he; exact mok_nums (mok_popV h) rfl rfl rfl rfl rfl rfl
  rw [if_neg h4] at he
  by_cases h3 : c = 3
  · rw [if_pos h3] at he; cases he; exact mok_nums h rfl rfl rfl rfl rfl rfl
  rw [if_neg h3] at he
  by_cases h5 : c = 5
  · rw [if_pos h5] at he; cases he; exact mok_nums (mok_popB h) rfl rfl rfl rfl rfl rfl
  rw [if_neg h5] at he
  by_cases h6 : 6 ≤ c ∧ c ≤ 10
  · rw [if_pos h6] at he; cases he
    unfold mShuf
    split
    · next hx => have := a2 (by omega); have := nd.n1 (by omega); exact mok_push (mok_popV h) (by show _ + 2 ≤ 48; omega)
    split
    · next hx => have := nd.n2 (by omega); exact mok_push (mok_popV (mok_popV h)) (by show _ + 2 ≤ 48; omega)
    split
    · next hx => have := a3 (by omega); have := nd.n2 (by omega); exact mok_push (mok_popV (mok_popV h)) (by show _ + 3 ≤ 48; omega)
    split
    · next hx => have := nd.n3 (by omega); exact mok_push (mok_popV (mok_popV (mok_popV h))) (by show _ + 3 ≤ 48; omega)
    · exact mok_popV h
  rw [if_neg h6] at he
  by_cases h30 : 30 ≤ c ∧ c ≤ 32
  · rw [if_pos h30] at he
    unfold mMem at he
    split at he
    · cases he
    split at he
    · next hx => cases he; have := nd.n1 (by omega); exact mok_push (mok_popV h) (by show _ + 1 ≤ 48; omega)
    · cases he
      have g := mok_popV (mok_popV h)
      exact ⟨g.st, g.bk, by show (s.mem.set _ _).length ≤ _; rw [List.length_set]; exact h.me, g.out, g.rd, g.inp⟩
  rw [if_neg h30] at he
  by_cases h33 : (33 ≤ c ∧ c ≤ 36) ∨ c = 39 ∨ c = 40
  · rw [if_pos h33] at he; cases he
    unfold mBacks
    split
    · next hx => have := a4 (by omega); exact mok_back (mok_popV h) (by show s.back.length + 1 ≤ 48; omega)
    split
    · next hx => have := a1 (by omega); exact mok_push (mok_popB h) (by show s.stack.length + 1 ≤ 48; omega)
    split
    · next hx => have := a1 (by omega); exact mok_push h (by show s.stack.length + 1 ≤ 48; omega)
    split
    · next hx => have := a5 (by omega); exact mok_back (mok_popV (mok_popV h)) (by show s.back.length + 2 ≤ 48; omega)
    split
    · next hx => have := a1 (by omega); exact mok_push h (by show s.stack.length + 1 ≤ 48; omega)
    · exact ⟨h.st, by show (s.back.take _).length ≤ 48; rw [List.length_take]; omega, h.me, h.out, h.rd, h.inp⟩
  rw [if_neg h33] at he
  by_cases h37 : c = 37 ∨ c = 38
  · rw [if_pos h37] at he; cases he
    have hb := nd.b2 (by omega)
    have lp : ∀ (s1 : StV) (index limit n : Int) (ends : Bool), MOk s1 → s1.back.length + 2 ≤ 48 → MOk (mLoopR s1 index limit n arg ends) := fun s1 index limit n ends g hl => by
      unfold mLoopR
      split
      · exact g
      · exact mok_nums (mok_back (l := [limit, wr (index + n)]) g hl) rfl rfl rfl rfl rfl rfl
    unfold mLoop
    split
    · exact lp _ _ _ _ _ (mok_popV (mok_popB (mok_popB h))) (by show (popB (popB s)).back.length + 2 ≤ 48; omega)
    · exact lp _ _ _ _ _ (mok_popB (mok_popB h)) (by omega)
  rw [if_neg h37] at he
  by_cases h41 : c = 41 ∨ c = 42
  · rw [if_pos h41] at he
    unfold mSay at he
    split at he
    · cases he
    · next hx =>
      cases he
      have g := mok_popV h
      exact ⟨g.st, g.bk, g.me, by show (s.out ++ _).size ≤ 2000; rw [ByteArray.size_append]; omega, g.rd, g.inp⟩
  rw [if_neg h41] at he
  by_cases h43 : c = 43
  · rw [if_pos h43] at he; cases he
    have := a1 (by omega)
    unfold mKey
    split
    · exact mok_push h (by show s.stack.length + 1 ≤ 48; omega)
    · next hx =>
      have g := mok_push h (l := [sb s.inp s.read]) (by show s.stack.length + 1 ≤ 48; omega)
      have := h.rd
      exact ⟨g.st, g.bk, g.me, g.out, ⟨by show 0 ≤ s.read + 1; omega, by show s.read + 1 ≤ _; show s.read + 1 ≤ (s.inp.size : Int); omega⟩, g.inp⟩
  rw [if_neg h43] at he
  by_cases h44 : (44 ≤ c ∧ c ≤ 46) ∨ c = 1
  · rw [if_pos h44] at he
    unfold mFlow at he
    split at he
    · next hx =>
      split at he
      · cases he
      · cases he; have := a4 (by omega); exact mok_nums (mok_back (l := [s.ip]) (mok_popV h) (by show s.back.length + 1 ≤ 48; omega)) rfl rfl rfl rfl rfl rfl
    split at he
    · split at he
      · cases he; exact mok_popV h
      · cases he
    split at he
    · next hx =>
      cases he
      have := a6 (by omega)
      refine ⟨(mok_popV h).st, ?_, h.me, h.out, h.rd, h.inp⟩
      show ((s.back ++ _) ++ _).length ≤ 48
      rw [List.length_append, List.length_append]; show s.back.length + 3 + 1 ≤ 48; omega
    · unfold mEnd at he
      split at he
      · cases he
      split at he
      · cases he
      · next hx =>
        cases he
        refine ⟨?_, ?_, h.me, h.out, h.rd, h.inp⟩
        · show (s.stack ++ [0]).length ≤ 48
          rw [List.length_append]; show _ + 1 ≤ 48; omega
        · show (popB (popB (popB s))).back.length ≤ 48; omega
  rw [if_neg h44] at he
  by_cases h47 : c = 47
  · rw [if_pos h47] at he; cases he; exact h
  rw [if_neg h47] at he
  obtain ⟨o1, o2⟩ := nd.one (by omega)
  unfold mReck at he
  split at he
  · cases he; exact mok_push (mok_popV h) (by show _ + 1 ≤ 48; omega)
  split at he
  · cases he; exact mok_push (mok_popV (mok_popV h)) (by show _ + 1 ≤ 48; omega)
  · cases he
theorem mok_adv {s : StV} (h : MOk s) : MOk (mAdv s) := by
  unfold mAdv
  cases hst : mStep s with
  | bad c t =>
    show MOk (mFault (if t = true then popV s else s) c)
    apply mok_fault
    split
    · exact mok_popV h
    · exact h
  | ok s' =>
    show MOk s'
    unfold mStep at hst
    split at hst
    · cases hst
    split at hst
    · split at hst
      · cases hst
      · next hx =>
        cases hst
        exact mok_nums (mok_back (l := [s.ip + 1]) h (by show _ + 1 ≤ 48; omega)) rfl rfl rfl rfl rfl rfl
    split at hst
    · cases hst
    split at hst
    · cases hst
    split at hst
    · cases hst
    next hr _ hz =>
    have hz : mRoom s (getI s.mem s.ip) = 0 := Classical.byContradiction hz
    exact mok_do (mok_nums (s' := { s with ip := mNext s (getI s.mem s.ip) }) h rfl rfl rfl rfl rfl rfl) (Classical.byContradiction hr) hz hst
def runM (s : StV) (fuel : Int) : StV × Int := if 0 ≤ fuel then ((mRun fuel.toNat s).1, ((mRun fuel.toNat s).2 : Int)) else (s, fuel)
theorem runM_go {s : StV} {fuel : Int} (h0 : s.status = 0) (hf : 0 < fuel) : runM s fuel = runM (mAdv s) (fuel - 1) := by
  unfold runM
  rw [if_pos (by omega), if_pos (by omega)]
  have e : fuel.toNat = (fuel - 1).toNat + 1 := by omega
  rw [e]
  show ((mRun ((fuel - 1).toNat + 1) s).1, ((mRun ((fuel - 1).toNat + 1) s).2 : Int)) = _
  have : mRun ((fuel - 1).toNat + 1) s = mRun (fuel - 1).toNat (mAdv s) := by
    show (if s.status = 0 then _ else _) = _
    rw [if_pos h0]
  rw [this]
theorem runM_stop {s : StV} {fuel : Int} (h : s.status ≠ 0 ∨ fuel ≤ 0) : runM s fuel = (s, fuel) := by
  unfold runM
  by_cases hf : 0 ≤ fuel
  · rw [if_pos hf]
    rcases Nat.eq_zero_or_pos fuel.toNat with h0 | h0
    · rw [h0]; show (s, ((0 : Nat) : Int)) = _; congr 1; omega
    · obtain ⟨n, hn⟩ : ∃ n, fuel.toNat = n + 1 := ⟨fuel.toNat - 1, by omega⟩
      rw [hn]
      have : mRun (n + 1) s = (s, n + 1) := by
        show (if s.status = 0 then _ else _) = _
        rw [if_neg (by omega)]
      rw [this]; show (s, ((n + 1 : Nat) : Int)) = _; congr 1; omega
  · rw [if_neg hf]
theorem mok_mrun : ∀ (n : Nat) {s : StV}, MOk s → MOk (mRun n s).1
  | 0, _, h => h
  | n + 1, s, h => by
    show MOk (if s.status = 0 then mRun n (mAdv s) else (s, n + 1)).1
    split
    · exact mok_mrun n (mok_adv h)
    · exact h
theorem mok_run {s : StV} (h : MOk s) (fuel : Int) : MOk (runM s fuel).1 := by
  unfold runM
  split
  · exact mok_mrun _ h
  · exact h
end Go.Proofs.YtkjpmkopnkkbmaaGreatDoor

/- A machine in memory: a step. -/
set_option maxRecDepth 100000
namespace Go.Proofs.YtkjpmkopnkkbmaaGreatDoor
open Go.RowKit

section
variable {D : Nat → Prop} {w : World} {m : Nat} {S : StC} {s : StV} {th : Bool}
theorem mcall_any (h : MS D w m S s false) (hD : ∀ k, w.heap.size ≤ k → D k) (xt : Int) (ok : MOk s) (hip : -9223372036854775808 ≤ s.ip + 1 ∧ s.ip + 1 ≤ 9223372036854775807) :
    Calls Tryz.prog fn_inner_machine_call #[.pointer (some ⟨m, 0, none⟩), .int .i64 xt] w fun e w' => ∃ v, e = .returned v ∧ MX D w m S s 0 (if 48 ≤ s.back.length then .bad (-5) false else .ok { backV s [s.ip + 1] with ip := xt }) v w' := by
  refine (inner_machine_call_lift (K := fun v w' => MX D w m S s 0 (if 48 ≤ s.back.length then .bad (-5) false else .ok { backV s [s.ip + 1] with ip := xt }) v w') ?_).mono (by rintro e w' ⟨r, rfl, h⟩; exact ⟨r, rfl, h⟩)
  unfold inner_machine_call_sh
  have lb := h.bk.rd.len
  have k2 := ok.bk
  obtain ⟨m1, m2, m3, m4, m5, m6, m7⟩ := h.nums
  refine ⟨S.back, h.ob.cell rfl, brB_of (fun hb => ?_) (fun hb => ?_)⟩
  · have hb : 48 ≤ s.back.length := by have := of_decide_eq_true hb; omega
    refine (mfails_any h (by decide)).mono ?_
    rintro e w5 ⟨v, rfl, hv, c5⟩
    refine ⟨v, rfl, ?_⟩
    rw [if_pos hb]
    exact MX.bad (MR.same h) rfl hv (by decide) (Nat.le_refl _) c5
  · have hb : ¬ 48 ≤ s.back.length := by have := of_decide_eq_false hb; omega
    refine ⟨S.ip, h.ob.cell rfl, ?_⟩
    rw [m1, wr_in hip, if_neg hb]
    refine mbackL h hD [s.ip + 1] _ rfl (by simp) (by simp) (by omega) (fun w2 S2 g2 => ⟨g2.1.wr (by omega), fun w12 hw12 => ?_⟩) rfl
    obtain ⟨p1, p2, p3, p4, p5, p6, p7⟩ := g2.1.nums
    have g3 := g2.1.put (k := 0) (vs := [.int .i64 xt]) (S' := { S2 with ip := xt }) (s' := { backV s [s.ip + 1] with ip := xt }) (th' := false) (by simp) rfl hw12 ⟨rfl, p2, p3, p4, p5, p6, p7⟩ rfl rfl rfl rfl rfl rfl
    exact MX.ok 0 (g2.trans g3)
theorem need_ip {s : StV} {c x : Int} (h : NeedM s c) : NeedM { s with ip := x } c := ⟨h.n1, h.n2, h.n3, h.b1, h.b2, h.b3, h.one⟩
theorem mok_ip {s : StV} {x : Int} (h : MOk s) : MOk { s with ip := x } := ⟨h.st, h.bk, h.me, h.out, h.rd, h.inp⟩
theorem mstep_any (h : MS D w m S s false) (hD : ∀ k, w.heap.size ≤ k → D k) (ok : MOk s) :
    Calls Tryz.prog fn_inner_machine_step #[.pointer (some ⟨m, 0, none⟩)] w fun e w' => ∃ v, e = .returned v ∧ MX D w m S s 2 (mStep s) v w' := by
  refine (inner_machine_step_lift (K := fun v w' => MX D w m S s 2 (mStep s) v w') ?_).mono (by rintro e w' ⟨r, rfl, h⟩; exact ⟨r, rfl, h⟩)
  unfold inner_machine_step_sh
  obtain ⟨m1, m2, m3, m4, m5, m6, m7⟩ := h.nums
  have k1 := ok.st
  have k2 := ok.bk
  have k3 := ok.me
  refine ⟨S.ip, h.ob.cell rfl, ?_⟩
  rw [m1]
  refine (mload_any h s.ip).mono ?_
  rintro e w4 ⟨c4, hl⟩
  rcases hl with ⟨hin, rfl⟩ | ⟨hout, v, rfl, hv⟩
  rotate_left
  · obtain ⟨t, u, rfl⟩ := hv.if
    refine ⟨_, _, rfl, _, _, ne_if _ _ _ _, brB_t ?_⟩
    have hb : mStep s = .bad (-9) false := by unfold mStep; rw [if_pos hout]
    rw [hb]
    exact MX.bad (MR.same h) rfl hv (by decide) (by omega) c4
  have h4 := h.no c4
  have g4 := MR.no h c4
  refine ⟨_, _, rfl, _, _, ne_nil _ _, brB_f ?_⟩
  have e1 : mStep s = if 64 ≤ getI s.mem s.ip then (if 48 ≤ s.back.length then .bad (-5) false else .ok { backV s [s.ip + 1] with ip := getI s.mem s.ip }) else
      if ¬ (0 ≤ getI s.mem s.ip ∧ getI s.mem s.ip < 48) then .bad (-13) false else
      if opArg (getI s.mem s.ip) = true ∧ (s.mem.length : Int) ≤ s.ip + 1 then .bad (-9) false else
      if mRoom s (getI s.mem s.ip) ≠ 0 then .bad (mRoom s (getI s.mem s.ip)) false else
      mDo { s with ip := mNext s (getI s.mem s.ip) } (getI s.mem s.ip) (mArg s (getI s.mem s.ip)) s.ip := by unfold mStep; rw [if_neg hin]
  generalize getI s.mem s.ip = c at *
  refine brB_of (fun hc => ?_) (fun hc => ?_)
  · have hc : 64 ≤ c := by have := of_decide_eq_true hc; omega
    refine (mcall_any h4 (MS.up hD c4.size) c ok (by omega)).mono ?_
    rintro e w10 ⟨v, rfl, hv⟩
    refine ⟨v, rfl, ?_⟩
    rw [e1, if_pos hc]
    exact (MX.pre g4 rfl hv).to (by omega)
  have hc : ¬ 64 ≤ c := by have := of_decide_eq_false hc; omega
  rw [if_neg hc] at e1
  refine (right_any c w4).mono ?_
  rintro e w13 ⟨rfl, rfl⟩
  refine ⟨_, rfl, brB_of (fun hr => ?_) (fun hr => ?_)⟩
  · have hr : ¬ (0 ≤ c ∧ c < 48) := of_decide_eq_false ((Bool.not_eq_true' _).mp hr)
    refine (mfails_any h4 (by decide)).mono ?_
    rintro e w16 ⟨v, rfl, hv, c16⟩
    refine ⟨v, rfl, ?_⟩
    rw [e1, if_pos hr]
    exact MX.bad g4 rfl hv (by decide) (by omega) c16
  have hr : 0 ≤ c ∧ c < 48 := of_decide_eq_true (by simpa using hr)
  rw [if_neg (fun h => h hr)] at e1
  intro w18 hw18
  have c18 := dw hw18
  have h18 := h4.no c18
  refine ⟨S.ip, held_Lw (h18.ob.cell rfl), ?_⟩
  rw [m1]
  refine ⟨fun arg next w29 => arg = mArg s c ∧ next = mNext s c ∧ Chg No w w29 ∧ ¬ (opArg c = true ∧ (s.mem.length : Int) ≤ s.ip + 1), ?_, ?_⟩
  · rintro arg next w29 ⟨rfl, rfl, c29, hna⟩
    rw [if_neg hna] at e1
    have h29 := h.no c29
    have g29 := MR.no h c29
    refine ⟨_, _, _, _, _, _, _, _, _, _, h29.ob.cell rfl, h29.ob.cell rfl, h29.ob.cell rfl, h29.ob.cell rfl, h29.ob.cell rfl, h29.ob.cell rfl, h29.ob.cell rfl, h29.ob.cell rfl, h29.ob.cell rfl, h29.ob.cell rfl, (mroom_any S (s := s) h.st.rd.len h.bk.rd.len (by omega) (by omega) hr w29).mono ?_⟩
    rintro e w41 ⟨rfl, c41⟩
    have c41' := trN c29 c41
    have h41 := h.no c41'
    have g41 := MR.no h c41'
    refine ⟨_, rfl, brB_of (fun hz => ?_) (fun hz => ?_)⟩
    · have hz : mRoom s c ≠ 0 := by simpa using hz
      refine (mfails_any h41 hz).mono ?_
      rintro e w44 ⟨v, rfl, hv, c44⟩
      refine ⟨v, rfl, ?_⟩
      rw [e1, if_pos hz]
      exact MX.bad g41 rfl hv hz (by omega) c44
    · have hz : mRoom s c = 0 := by simpa using hz
      rw [if_neg (fun h => h hz)] at e1
      refine ⟨S.ip, h41.ob.cell rfl, h41.wr (by omega), fun w48 hw48 => ?_⟩
      rw [m1]
      have g48 := h41.put (k := 0) (vs := [.int .i64 (mNext s c)]) (S' := { S with ip := mNext s c }) (s' := { s with ip := mNext s c }) (th' := false) (by simp) rfl hw48 ⟨rfl, m2, m3, m4, m5, m6, m7⟩ rfl rfl rfl rfl rfl rfl
      have g48 := g41.trans g48
      refine (mdo_any g48.1 (MS.up hD g48.size) c (mArg s c) s.ip hr (need_ip (need_of hr hz)) (mok_ip ok)).mono ?_
      rintro e w51 ⟨v, rfl, hv⟩
      have hv := MX.pre g48 rfl hv
      rw [← e1] at hv
      refine ⟨v, rfl, ?_⟩
      cases hst : mStep s with
      | ok s' =>
        rw [hst] at hv
        obtain ⟨rfl, S', th', g⟩ := hv
        exact ⟨_, _, ne_nil _ _, brB_f (MX.ok 2 g)⟩
      | bad c' t =>
        rw [hst] at hv
        obtain ⟨hc', ⟨d', hd', hE⟩, S', s', g, hm⟩ := hv
        obtain ⟨t', u', rfl⟩ := hE.if
        refine ⟨_, _, ne_if _ _ _ _, brB_t ?_⟩
        refine (name_any c w51).mono ?_
        rintro e w56 ⟨rfl, c56⟩
        refine ⟨_, rfl, (wrap_any (hE.no c56) (by have := g.size; have := c56.size; omega) _).mono ?_⟩
        rintro e w59 ⟨v', rfl, hv', c59⟩
        exact ⟨v', rfl, hc', ⟨d' + 1, by omega, hv'⟩, S', s', g.trans (MR.no g.1 (trN c56 c59)), hm⟩
  · have c18' := trN c4 c18
    refine (arg_any c w18).mono ?_
    rintro e w21 ⟨rfl, rfl⟩
    refine ⟨_, rfl, brB_of (fun ha => ?_) (fun ha => ?_)⟩
    · rw [wr_in (x := s.ip + 1) (by omega)]
      refine (mload_any h18 (s.ip + 1)).mono ?_
      rintro e w24 ⟨c24, hl⟩
      rcases hl with ⟨hin2, rfl⟩ | ⟨hout2, v, rfl, hv⟩
      · refine ⟨_, _, rfl, _, _, ne_nil _ _, brB_f ?_⟩
        rw [wr_in (by omega)]
        refine ⟨by unfold mArg; rw [if_pos ha], by unfold mNext; rw [if_pos ha]; omega, trN c18' c24, fun hh => hin2 (Or.inr hh.2)⟩
      · obtain ⟨t, u, rfl⟩ := hv.if
        refine ⟨_, _, rfl, _, _, ne_if _ _ _ _, brB_t ?_⟩
        have hcond : opArg c = true ∧ (s.mem.length : Int) ≤ s.ip + 1 := ⟨ha, by omega⟩
        rw [e1, if_pos hcond]
        exact MX.bad (MR.no h c18') rfl hv (by decide) (by omega) c24
    · rw [wr_in (x := s.ip + 1) (by omega)]
      exact ⟨by unfold mArg; rw [if_neg (by rw [ha]; decide)], by unfold mNext; rw [if_neg (by rw [ha]; decide)], c18', fun hh => by rw [ha] at hh; cases hh.1⟩
end
end Go.Proofs.YtkjpmkopnkkbmaaGreatDoor

/- A machine in memory: faults that are caught. -/
set_option maxRecDepth 100000
namespace Go.Proofs.YtkjpmkopnkkbmaaGreatDoor
open Go.RowKit

theorem Ox.qs {α : Type} {E : Enc α} {w w' : World} {s : Sl} {xs : List α} {b : Nat} (h : Ox E w s xs) (c : Chg (fun k => k = b) w w') (hb : s.blk ≠ some b) : Ox E w' s xs := h.chg c (fun k hk he => hb (by rw [hk]; exact congrArg some he))
theorem mcaught_any {w : World} (S : StC) {s : StV} (hb : Rd intE w S.back s.back) (hh : S.handler = s.handler) (n2 : s.back.length ≤ 1000) :
    Calls Tryz.prog fn_inner_caught #[.agg (stC S).toArray] w fun e w' => ∃ n : Int, e = .returned (.tuple #[.int .i64 n, .bool (mCaught s).isSome]) ∧ (∀ k, mCaught s = some k → n = k) ∧ Chg No w w' := by
  refine (inner_caught_lift (K := fun r w' => ∃ n : Int, r = .tuple #[.int .i64 n, .bool (mCaught s).isSome] ∧ (∀ k, mCaught s = some k → n = k) ∧ Chg No w w') ?_).mono (by rintro e w' ⟨r, rfl, n, rfl, h⟩; exact ⟨n, rfl, h⟩)
  unfold inner_caught_sh
  intro b11 w12 hb11 hw12
  have c12 := al hw12
  have o12 : Ob w12 b11 (stC S) T_api_State := by rw [hw12, hb11]; exact Ob.new w (stC S) T_api_State
  have lb := hb.len
  refine ⟨fun b w' => w' = w12 ∧ b = decide (s.handler < 3 ∨ (s.back.length : Int) < s.handler), ?_, ?_⟩
  · rintro b w16 ⟨rfl, rfl⟩
    refine brB_of (fun h => ?_) (fun h => ?_)
    · have h := of_decide_eq_true h
      have hn : mCaught s = none := by unfold mCaught; rw [if_neg (by omega)]
      rw [hn]
      exact ⟨0, rfl, (fun k hk => by cases hk), c12⟩
    · have h := of_decide_eq_false h
      refine ⟨S.back, o12.cell rfl, S.handler, o12.cell rfl, ?_⟩
      rw [hh, wr_in (by omega)]
      refine (hb.no c12).ix (i := s.handler - 1) (by omega) (getI_at (by omega) (by omega)) fun a _ hcell => ?_
      have q := hcell 0 _ rfl
      rw [add0] at q
      refine ⟨_, q, brB_of (fun h1 => ?_) (fun h1 => ?_)⟩
      · have h1 : 0 ≤ getI s.back (s.handler - 1) := by have := of_decide_eq_true h1; omega
        by_cases h2 : getI s.back (s.handler - 1) < 48
        · have hn : mCaught s = some (getI s.back (s.handler - 1)).toNat := by unfold mCaught; rw [if_pos (by omega)]
          rw [decide_eq_true h2, hn]
          exact ⟨_, rfl, (fun k hk => by cases hk; omega), c12⟩
        · have hn : mCaught s = none := by unfold mCaught; rw [if_neg (by omega)]
          rw [decide_eq_false h2, hn]
          exact ⟨_, rfl, (fun k hk => by cases hk), c12⟩
      · have h1 : ¬ 0 ≤ getI s.back (s.handler - 1) := by have := of_decide_eq_false h1; omega
        have hn : mCaught s = none := by unfold mCaught; rw [if_neg (by omega)]
        rw [hn]
        exact ⟨_, rfl, (fun k hk => by cases hk), c12⟩
  · refine ⟨S.handler, o12.cell rfl, ?_⟩
    rw [hh]
    refine brB_of (fun h => ?_) (fun h => ?_)
    · have h := of_decide_eq_true h
      exact ⟨rfl, (decide_eq_true (Or.inl h)).symm⟩
    · have h := of_decide_eq_false h
      refine ⟨S.handler, o12.cell rfl, S.back, o12.cell rfl, rfl, ?_⟩
      rw [hh, lb]
      exact decide_eq_decide.2 (by omega)
def sliceLen (o : Option Value) : Nat := match o with
  | some (.slice _ l _) => l
  | _ => 0
theorem sliceLen_val (s : Sl) : sliceLen (some s.val) = s.len := rfl
structure FtS (w w' : World) (S S' : StC) (s' : StV) : Prop where
  nums : StNums S' s'
  st : Ox intE w' S'.stack s'.stack
  bk : Ox intE w' S'.back s'.back
  stB : S'.stack.blk = S.stack.blk ∨ ∀ k, S'.stack.blk = some k → w.heap.size ≤ k
  bkB : S'.back.blk = S.back.blk
  me : S'.mem = S.mem
theorem mfaulty_any {w : World} (S : StC) {s : StV} (nums : StNums S s) (hs : Ox intE w S.stack s.stack) (hb : Ox intE w S.back s.back) (n1 : s.stack.length ≤ 100) (n2 : s.back.length ≤ 100) (c : Int) :
    Calls Tryz.prog fn_inner_faulty #[.agg (stC S).toArray, .int .i64 c] w fun e w' => ∃ S' : StC, e = .returned (.agg (stC S').toArray) ∧ FtS w w' S S' (mFault s c) ∧ Chg No w w' := by
  refine (inner_faulty_lift (K := fun r w' => ∃ S' : StC, r = .agg (stC S').toArray ∧ FtS w w' S S' (mFault s c) ∧ Chg No w w') ?_).mono (by rintro e w' ⟨r, rfl, S', rfl, h⟩; exact ⟨S', rfl, h⟩)
  unfold inner_faulty_sh
  obtain ⟨m1, m2, m3, m4, m5, m6, m7⟩ := nums
  intro b12 w13 hb12 hw13 b14 w15 hb14 hw15
  have c13 := al hw13
  have c15 := al hw15
  have z13 : w13.heap.size = w.heap.size + 1 := by rw [hw13]; simp
  have z15 : w15.heap.size = w13.heap.size + 1 := by rw [hw15]; simp
  have k15 := trN c13 c15
  have o12 : Ob w15 b12 (stC S) T_api_State := by
    have : Ob w13 b12 (stC S) T_api_State := by rw [hw13, hb12]; exact Ob.new w (stC S) T_api_State
    exact this.no c15
  have o14 : Ob w15 b14 (stC st0) T_api_State := by rw [hw15, hb14]; exact Ob.new w13 (stC st0) T_api_State
  refine ⟨_, _, _, _, _, _, _, _, _, _, o12.cell rfl, o12.cell rfl, o12.cell rfl, o12.cell rfl, o12.cell rfl, o12.cell rfl, o12.cell rfl, o12.cell rfl, o12.cell rfl, o12.cell rfl, (mcaught_any S (hb.no k15).rd m2 (by omega)).mono ?_⟩
  rintro e w27 ⟨n, rfl, hn, c27⟩
  have z27 := c27.size
  have k27 := trN k15 c27
  have p12 := o12.no c27
  have p14 := o14.no c27
  refine ⟨_, _, rfl, brB_of (fun hx => ?_) (fun hx => ?_)⟩
  · have hnone : mCaught s = none := by
      cases h : mCaught s with
      | none => rfl
      | some k => rw [h] at hx; cases hx
    refine ⟨p12.wr (by simp [stC]), fun w30 hw30 => ?_⟩
    obtain ⟨q12, d30⟩ := p12.up (k := 8) (vs := [.int .i64 2]) (cs' := stC { S with status := 2 }) (by simp [stC]) rfl hw30
    refine ⟨q12.wr (by simp [stC]), fun w31 hw31 => ?_⟩
    obtain ⟨q12, d31⟩ := q12.up (k := 9) (vs := [.int .i64 c]) (cs' := stC { S with status := 2, code := c }) (by simp [stC]) rfl hw31
    have d31' : Chg (fun k => k = b12) w27 w31 := d30.trans d31 (fun _ _ h => h) (fun _ _ h => h)
    have q14 := p14.chg d31' (fun he => by omega)
    refine ⟨_, _, _, _, _, _, _, _, _, _, q12.cell rfl, q12.cell rfl, q12.cell rfl, q12.cell rfl, q12.cell rfl, q12.cell rfl, q12.cell rfl, q12.cell rfl, q12.cell rfl, q12.cell rfl, q14.wr (by simp [stC]), fun w42 hw42 => ?_⟩
    obtain ⟨r14, d42⟩ := q14.up (k := 0) (vs := stC { S with status := 2, code := c }) (cs' := stC { S with status := 2, code := c }) (by simp [stC]) rfl hw42
    have e42 : Chg No w w42 := (k27.trans d31' (fun _ _ h => h) (fun k hk he => by omega)).trans d42 (fun _ _ h => h) (fun k hk he => by omega)
    refine ⟨_, _, _, _, _, _, _, _, _, _, r14.cell rfl, r14.cell rfl, r14.cell rfl, r14.cell rfl, r14.cell rfl, r14.cell rfl, r14.cell rfl, r14.cell rfl, r14.cell rfl, r14.cell rfl, { S with status := 2, code := c }, rfl, ?_, e42⟩
    have hf : mFault s c = { s with status := 2, code := c } := by unfold mFault; rw [hnone]
    rw [hf]
    exact ⟨⟨m1, m2, m3, m4, m5, rfl, rfl⟩, hs.no e42, hb.no e42, Or.inl rfl, rfl, rfl⟩
  obtain ⟨k, hk⟩ : ∃ k, mCaught s = some k := by
    cases h : mCaught s with
    | none => rw [h] at hx; cases hx
    | some k => exact ⟨k, rfl⟩
  have hnk := hn k hk
  subst hnk
  have hcond : 3 ≤ s.handler ∧ s.handler ≤ s.back.length ∧ k < 48 := by
    unfold mCaught at hk
    split at hk
    · next h => have := Option.some.inj hk; omega
    · cases hk
  obtain ⟨h3, hle, hk48⟩ := hcond
  have ls := hs.rd.len
  have lb := hb.rd.len
  have cb := hb.rd.capL
  have cs := hs.rd.capL
  have hltb : ∀ j, S.back.blk = some j → j < w.heap.size := hb.lt
  have hlts : ∀ j, S.stack.blk = some j → j < w.heap.size := hs.lt
  refine ⟨S.handler, p12.cell rfl, ?_⟩
  rw [m2, wr_in (x := s.handler - 3) (by omega), wr_in (x := s.handler - 3 + 1) (by omega)]
  intro w54 hw54
  have c54 := dw hw54
  have z54 := c54.size
  have k54 := trN k27 c54
  have q12 := p12.no c54
  have q14 := p14.no c54
  refine ⟨fun w' => (∃ x y, Ob w' b12 (stC { S with ip := x, handler := y }) T_api_State) ∧ Rd intE w' S.back s.back, ⟨⟨_, _, q12⟩, (hb.no k54).rd⟩, S.back, fun w' h => ?_, ?_⟩
  · obtain ⟨⟨x, y, o⟩, _⟩ := h; exact o.cell rfl
  refine Rd.hix (S := fun w' => (∃ x y, Ob w' b12 (stC { S with ip := x, handler := y }) T_api_State) ∧ Rd intE w' S.back s.back) ⟨⟨_, _, q12⟩, (hb.no k54).rd⟩ (fun w' h => h.2) (i := s.handler - 3) (by omega) (getI_at (by omega) (by omega)) fun a57 _ hc57 => ?_
  have g57 := hc57 0 _ rfl
  rw [add0] at g57
  refine ⟨_, g57, S.back, fun w' h => ?_, ?_⟩
  · obtain ⟨⟨x, y, o⟩, _⟩ := h; exact o.cell rfl
  rw [show s.handler - 3 + 1 = s.handler - 2 by omega]
  refine Rd.hix (S := fun w' => (∃ x y, Ob w' b12 (stC { S with ip := x, handler := y }) T_api_State) ∧ Rd intE w' S.back s.back) ⟨⟨_, _, q12⟩, (hb.no k54).rd⟩ (fun w' h => h.2) (i := s.handler - 2) (by omega) (getI_at (by omega) (by omega)) fun a60 _ hc60 => ?_
  have g60 := hc60 0 _ rfl
  rw [add0] at g60
  refine ⟨_, g60, S.back, fun w' h => ?_, ?_⟩
  · obtain ⟨⟨x, y, o⟩, _⟩ := h; exact o.cell rfl
  refine ⟨by omega, by omega, q12.wr (by simp [stC]), fun w63 hw63 => ?_⟩
  obtain ⟨r12, d63⟩ := q12.up (k := 0) (vs := [.int .i64 (getI s.back (s.handler - 3))]) (cs' := stC { S with ip := getI s.back (s.handler - 3) }) (by simp [stC]) rfl hw63
  have hb63 : Ox intE w63 S.back s.back := (hb.no k54).qs d63 (fun he => by have := hltb _ he; omega)
  refine ⟨⟨⟨_, _, r12⟩, hb63.rd⟩, r12.wr (by simp [stC]), fun w64 hw64 => ?_⟩
  obtain ⟨r12, d64⟩ := r12.up (k := 1) (vs := [.int .i64 (getI s.back (s.handler - 2))]) (cs' := stC { S with ip := getI s.back (s.handler - 3), handler := getI s.back (s.handler - 2) }) (by simp [stC]) rfl hw64
  have hb64 : Ox intE w64 S.back s.back := hb63.qs d64 (fun he => by have := hltb _ he; omega)
  rw [sub0]
  refine ⟨⟨⟨_, _, r12⟩, hb64.rd⟩, r12.wr (by simp [stC]), fun w65 hw65 => ?_⟩
  obtain ⟨bS, hbS⟩ : ∃ bS : Sl, bS = ⟨S.back.ptr, (s.handler - 3).toNat, S.back.cap⟩ := ⟨_, rfl⟩
  rw [← hbS] at hw65
  obtain ⟨r12, d65⟩ := r12.up (k := 3) (vs := [bS.val]) (cs' := stC { S with ip := getI s.back (s.handler - 3), handler := getI s.back (s.handler - 2), back := bS }) (by simp [stC]) rfl hw65
  have hbB : bS.blk = S.back.blk := by rw [hbS]; unfold Sl.blk Sl.val; dsimp only; cases S.back.ptr <;> rfl
  have hb65 : Ox intE w65 bS (s.back.take (s.handler - 3).toNat) := by
    have := (hb64.take (n := (s.handler - 3).toNat) (by omega))
    rw [← hbS] at this
    exact this.qs d65 (fun he => by have := hltb _ (hbB ▸ he); omega)
  have dd : Chg (fun k => k = b12) w54 w65 := (d63.trans d64 (fun _ _ h => h) (fun _ _ h => h)).trans d65 (fun _ _ h => h) (fun _ _ h => h)
  have z65 := dd.size
  have k65 : Chg No w w65 := k54.trans dd (fun _ _ h => h) (fun j hj he => by omega)
  have r14 := q14.chg dd (fun he => by omega)
  have hs65 := hs.no k65
  refine ⟨S.stack, r12.cell rfl, S.stack, r12.cell rfl, ?_⟩
  rw [ls]
  have hmin : imin (k : Int) (s.stack.length : Int) = ((min k s.stack.length : Nat) : Int) := by unfold imin; split <;> omega
  rw [hmin]
  refine ⟨by omega, by omega, fun s68 hs68 => ?_⟩
  rw [sub0, Int.toNat_natCast] at hs68
  have ht68 : Ox intE w65 s68 (s.stack.take (min k s.stack.length)) := by rw [hs68]; exact hs65.take (by omega)
  refine (clone_ints ht68.rd (by rw [List.length_take]; omega)).mono ?_
  rintro e w70 ⟨s71, rfl, g71, c70, n71, _⟩
  have z70 := c70.size
  have k70 := trN k65 c70
  have o70 := r12.no c70
  refine ⟨s71, rfl, o70.wr (by simp [stC]), fun w72 hw72 => ?_⟩
  obtain ⟨o72, d72⟩ := o70.up (k := 2) (vs := [s71.val]) (cs' := stC { S with ip := getI s.back (s.handler - 3), handler := getI s.back (s.handler - 2), back := bS, stack := s71 }) (by simp [stC]) rfl hw72
  have g72 := g71.ox.qs d72 (fun he => by have := n71 _ he; omega)
  have k72 : Chg No w w72 := k70.trans d72 (fun _ _ h => h) (fun j hj he => by omega)
  have htk : s.stack.take (min k s.stack.length) = s.stack.take k := by
    rcases Nat.le_total k s.stack.length with h | h
    · rw [Nat.min_eq_left h]
    · rw [Nat.min_eq_right h, List.take_length, List.take_of_length_le h]
  rw [htk] at g72
  have z72 := d72.size
  refine ⟨fun w' => ∃ (sl : Sl) (j : Nat), Ob w' b12 (stC { S with ip := getI s.back (s.handler - 3), handler := getI s.back (s.handler - 2), back := bS, stack := sl }) T_api_State ∧ Ob w' b14 (stC st0) T_api_State ∧ Ox intE w' sl (s.stack.take k ++ List.replicate j 0) ∧ min k s.stack.length + j ≤ k ∧ (∀ x, sl.blk = some x → w65.heap.size ≤ x) ∧ Chg No w w' ∧ Ox intE w' bS (s.back.take (s.handler - 3).toNat) ∧ w65.heap.size ≤ w'.heap.size,
    fun w' => k - sliceLen (w'.cell? ⟨b12, 2, none⟩), ⟨s71, 0, o72, (r14.no c70).chg d72 (fun he => by omega), by simpa using g72, by omega, n71, k72, (hb65.no c70).qs d72 (fun he => by have := hltb _ (hbB ▸ he); omega), by omega⟩, ?_⟩
  rintro w73 ⟨sl, j, o73, r73, g73, hj, hsl, k73, hb73, z73⟩
  have l73 := g73.rd.len
  rw [List.length_append, List.length_take, List.length_replicate] at l73
  refine ⟨sl, o73.cell rfl, brB_of (fun hlt => ?_) (fun hlt => ?_)⟩
  · have hlt : sl.len < k := by have := of_decide_eq_true hlt; omega
    refine ⟨sl, o73.cell rfl, ?_⟩
    intro b76 w77 hb76 hw77
    obtain ⟨g76, c77⟩ := litL [0] _ rfl hb76 hw77 (by simp)
    have z77 := c77.size
    refine appx_ok intOk rfl rfl (g73.no c77) g76.rd rfl (fun _ => by simp) (by show (_ + _) * 8 ≤ _; simp; omega) (by unfold maxLen; simp; omega) ?_
    intro s78 w79 g79 c79 b79 _
    have z79 := c79.size
    have hns : ∀ x, s78.blk = some x → w65.heap.size ≤ x := fun x hx => by
      rcases b79 with hh | hh
      · exact hsl x (hh ▸ hx)
      · have := hh x hx; omega
    have o79 := (o73.no c77).chg c79 (fun he => by have := hsl _ he; omega)
    have r79 := (r73.no c77).chg c79 (fun he => by have := hsl _ he; omega)
    have hb79 := (hb73.no c77).chg c79 (fun x hx he => by have := hsl x he; have := hltb _ (hbB ▸ hx); omega)
    have k79 : Chg No w w79 := (trN k73 c77).trans c79 (fun _ _ h => h) (fun x hx he => by have := hsl x he; have := k65.size; omega)
    refine ⟨o79.wr (by simp [stC]), fun w80 hw80 => ?_⟩
    obtain ⟨o80, d80⟩ := o79.up (k := 2) (vs := [s78.val]) (cs' := stC { S with ip := getI s.back (s.handler - 3), handler := getI s.back (s.handler - 2), back := bS, stack := s78 }) (by simp [stC]) rfl hw80
    have z80 := d80.size
    have g80 := g79.qs d80 (fun he => by have := hns _ he; omega)
    have l80 := g80.rd.len
    rw [List.append_assoc, show List.replicate j (0 : Int) ++ [0] = List.replicate (j + 1) 0 from (List.replicate_succ').symm] at g80
    refine ⟨⟨s78, j + 1, o80, r79.chg d80 (fun he => by omega), g80, by omega, hns, k79.trans d80 (fun _ _ h => h) (fun x hx he => by omega), hb79.qs d80 (fun he => by have := hltb _ (hbB ▸ he); omega), by omega⟩, ?_⟩
    have e1 : w80.cell? ⟨b12, 2, none⟩ = some s78.val := o80.cell rfl
    have e2 : w73.cell? ⟨b12, 2, none⟩ = some sl.val := o73.cell rfl
    show k - sliceLen (w80.cell? ⟨b12, 2, none⟩) < k - sliceLen (w73.cell? ⟨b12, 2, none⟩)
    rw [e1, e2, sliceLen_val, sliceLen_val, l80]
    simp only [List.length_append, List.length_take, List.length_replicate, List.length_singleton]
    omega
  · have hlt : k ≤ sl.len := by have := of_decide_eq_false hlt; omega
    have hjv : j = k - s.stack.length := by omega
    refine ⟨sl, o73.cell rfl, ?_⟩
    intro b82 w83 hb82 hw83
    obtain ⟨g82, c83⟩ := litL [c] _ rfl hb82 hw83 (by simp)
    have z83 := c83.size
    refine appx_ok intOk rfl rfl (g73.no c83) g82.rd rfl (fun _ => by simp) (by show (_ + _) * 8 ≤ _; simp; omega) (by unfold maxLen; simp; omega) ?_
    intro s84 w85 g85 c85 b85 _
    have z85 := c85.size
    have hns : ∀ x, s84.blk = some x → w65.heap.size ≤ x := fun x hx => by
      rcases b85 with hh | hh
      · exact hsl x (hh ▸ hx)
      · have := hh x hx; omega
    have o85 := (o73.no c83).chg c85 (fun he => by have := hsl _ he; omega)
    have r85 := (r73.no c83).chg c85 (fun he => by have := hsl _ he; omega)
    have hb85 := (hb73.no c83).chg c85 (fun x hx he => by have := hsl x he; have := hltb _ (hbB ▸ hx); omega)
    have k85 : Chg No w w85 := (trN k73 c83).trans c85 (fun _ _ h => h) (fun x hx he => by have := hsl x he; have := k65.size; omega)
    refine ⟨o85.wr (by simp [stC]), fun w86 hw86 => ?_⟩
    obtain ⟨o86, d86⟩ := o85.up (k := 2) (vs := [s84.val]) (cs' := stC { S with ip := getI s.back (s.handler - 3), handler := getI s.back (s.handler - 2), back := bS, stack := s84 }) (by simp [stC]) rfl hw86
    have g86 := g85.qs d86 (fun he => by have := hns _ he; omega)
    have r86 := r85.chg d86 (fun he => by omega)
    refine ⟨_, _, _, _, _, _, _, _, _, _, o86.cell rfl, o86.cell rfl, o86.cell rfl, o86.cell rfl, o86.cell rfl, o86.cell rfl, o86.cell rfl, o86.cell rfl, o86.cell rfl, o86.cell rfl, r86.wr (by simp [stC]), fun w97 hw97 => ?_⟩
    obtain ⟨r97, d97⟩ := r86.up (k := 0) (vs := stC { S with ip := getI s.back (s.handler - 3), handler := getI s.back (s.handler - 2), back := bS, stack := s84 }) (cs' := stC { S with ip := getI s.back (s.handler - 3), handler := getI s.back (s.handler - 2), back := bS, stack := s84 }) (by simp [stC]) rfl hw97
    have d97' : Chg (fun x => x = b12 ∨ x = b14) w85 w97 := d86.trans d97 (fun _ _ h => Or.inl h) (fun _ _ h => Or.inr h)
    refine ⟨_, _, _, _, _, _, _, _, _, _, r97.cell rfl, r97.cell rfl, r97.cell rfl, r97.cell rfl, r97.cell rfl, r97.cell rfl, r97.cell rfl, r97.cell rfl, r97.cell rfl, r97.cell rfl, { S with ip := getI s.back (s.handler - 3), handler := getI s.back (s.handler - 2), back := bS, stack := s84 }, rfl, ?_, k85.trans d97' (fun _ _ h => h) (fun x hx he => by omega)⟩
    have hf : mFault s c = { s with ip := getI s.back (s.handler - 3), handler := getI s.back (s.handler - 2), back := s.back.take (s.handler - 3).toNat, stack := (s.stack.take k ++ List.replicate (k - s.stack.length) 0) ++ [c] } := by unfold mFault; rw [hk]
    rw [hf]
    refine ⟨⟨rfl, rfl, m3, m4, m5, m6, m7⟩, ?_, hb85.chg d97' (fun x hx he => by have := hltb _ (hbB ▸ hx); omega), Or.inr (fun x hx => by have := hns x hx; have := k65.size; omega), hbB, rfl⟩
    rw [← hjv]
    exact g86.qs d97 (fun he => by have := hns _ he; omega)
end Go.Proofs.YtkjpmkopnkkbmaaGreatDoor

/- A machine in memory: a step with its fault; inner.Run. -/
set_option maxRecDepth 100000
namespace Go.Proofs.YtkjpmkopnkkbmaaGreatDoor
open Go.RowKit

theorem mMem_no (s : StV) (c c' : Int) : mMem s c ≠ .bad c' true := fun h => by
  unfold mMem at h
  split at h
  · cases h
  split at h <;> cases h
theorem mSay_no (s : StV) (c c' : Int) : mSay s c ≠ .bad c' true := fun h => by
  unfold mSay at h
  split at h <;> cases h
theorem mEnd_no (s : StV) (c' : Int) : mEnd s ≠ .bad c' true := fun h => by
  unfold mEnd at h
  split at h
  · cases h
  split at h <;> cases h
theorem mReck_no (s : StV) (c c' : Int) : mReck s c ≠ .bad c' true := fun h => by
  unfold mReck at h
  split at h
  · cases h
  split at h <;> cases h
theorem mFlow_thr {s : StV} {c c' : Int} (h : mFlow s c = .bad c' true) : c = 45 := by
  unfold mFlow at h
  split at h
  · split at h <;> cases h
  split at h
  · assumption
  split at h
  · cases h
  · exact absurd h (mEnd_no _ _)
theorem mDo_thr {s : StV} {c arg was c' : Int} (h : mDo s c arg was = .bad c' true) : c = 45 := by
  unfold mDo at h
  by_cases h0 : c = 0
  · rw [if_pos h0] at h; cases h
  rw [if_neg h0] at h
  by_cases h1 : c = 2
  · rw [if_pos h1] at h; cases h
  rw [if_neg h1] at h
  by_cases h2 : c = 4
  · rw [if_pos h2] at h; split at h <;> cases h
  rw [if_neg h2] at h
  by_cases h3 : c = 3
  · rw [if_pos h3] at h; cases h
  rw [if_neg h3] at h
  by_cases h4 : c = 5
  · rw [if_pos h4] at h; cases h
  rw [if_neg h4] at h
  by_cases h5 : 6 ≤ c ∧ c ≤ 10
  · rw [if_pos h5] at h; cases h
  rw [if_neg h5] at h
  by_cases h6 : 30 ≤ c ∧ c ≤ 32
  · rw [if_pos h6] at h; exact absurd h (mMem_no _ _ _)
  rw [if_neg h6] at h
  by_cases h7 : (33 ≤ c ∧ c ≤ 36) ∨ c = 39 ∨ c = 40
  · rw [if_pos h7] at h; cases h
  rw [if_neg h7] at h
  by_cases h8 : c = 37 ∨ c = 38
  · rw [if_pos h8] at h; cases h
  rw [if_neg h8] at h
  by_cases h9 : c = 41 ∨ c = 42
  · rw [if_pos h9] at h; exact absurd h (mSay_no _ _ _)
  rw [if_neg h9] at h
  by_cases h10 : c = 43
  · rw [if_pos h10] at h; cases h
  rw [if_neg h10] at h
  by_cases h11 : (44 ≤ c ∧ c ≤ 46) ∨ c = 1
  · rw [if_pos h11] at h; exact mFlow_thr h
  rw [if_neg h11] at h
  by_cases h12 : c = 47
  · rw [if_pos h12] at h; cases h
  rw [if_neg h12] at h
  exact absurd h (mReck_no _ _ _)
theorem mStep_thr {s : StV} {c' : Int} (h : mStep s = .bad c' true) : 1 ≤ s.stack.length := by
  unfold mStep at h
  split at h
  · cases h
  split at h
  · split at h <;> cases h
  split at h
  · cases h
  split at h
  · cases h
  split at h
  · cases h
  next hr _ hz =>
  have hc : 0 ≤ getI s.mem s.ip ∧ getI s.mem s.ip < 48 := Classical.byContradiction hr
  have hz : mRoom s (getI s.mem s.ip) = 0 := Classical.byContradiction hz
  have h45 := mDo_thr h
  exact (need_of hc hz).n1 (by omega)
section
variable {D : Nat → Prop} {w : World} {m : Nat} {S : StC} {s : StV} {th : Bool}
theorem MS.wid {C : Nat → Prop} (h : MS D w m S s th) (hd : ∀ k, D k → C k) : MS C w m S s th :=
  ⟨h.ob, h.nums, h.st, h.bk, h.me, hd _ h.dm, fun k hk => ⟨hd _ (h.dst k hk).1, (h.dst k hk).2⟩, fun k hk => ⟨hd _ (h.dbk k hk).1, (h.dbk k hk).2⟩, fun k hk => ⟨hd _ (h.dme k hk).1, (h.dme k hk).2⟩⟩
def Bm (m : Nat) (S : StC) : Nat → Prop := fun k => k = m ∨ S.stack.blk = some k ∨ S.back.blk = some k ∨ S.mem.blk = some k
theorem MS.own (h : MS D w m S s th) {k : Nat} (hk : Bm m S k) : D k := by
  rcases hk with rfl | hk | hk | hk
  · exact h.dm
  · exact (h.dst k hk).1
  · exact (h.dbk k hk).1
  · exact (h.dme k hk).1
theorem MS.bm {C : Nat → Prop} (h : MS D w m S s th) (hC : ∀ k, Bm m S k → C k) : MS C w m S s th :=
  ⟨h.ob, h.nums, h.st, h.bk, h.me, hC _ (Or.inl rfl), fun k hk => ⟨hC k (Or.inr (Or.inl hk)), (h.dst k hk).2⟩, fun k hk => ⟨hC k (Or.inr (Or.inr (Or.inl hk))), (h.dbk k hk).2⟩, fun k hk => ⟨hC k (Or.inr (Or.inr (Or.inr hk))), (h.dme k hk).2⟩⟩
theorem MS.chg {w' : World} {X : Nat → Prop} (h : MS D w m S s th) (c : Chg X w w') (hX : ∀ k, Bm m S k → ¬ X k) : MS D w' m S s th :=
  ⟨h.ob.chg c (hX _ (Or.inl rfl)), h.nums, h.st.chg c (fun k hk => hX k (Or.inr (Or.inl hk))), h.bk.chg c (fun k hk => hX k (Or.inr (Or.inr (Or.inl hk)))), h.me.chg c (fun k hk => hX k (Or.inr (Or.inr (Or.inr hk)))), h.dm, h.dst, h.dbk, h.dme⟩
theorem madv_any (h : MS D w m S s th) (hD : ∀ k, w.heap.size ≤ k → D k) (ok : MOk s) (hg : Gl w) (h0 : ¬ D 0) :
    Calls Tryz.prog fn_inner_machine_advance #[.pointer (some ⟨m, 0, none⟩)] w fun e w' => e = .returned (.tuple #[]) ∧ ∃ S' th', MS D w' m S' (mAdv s) th' ∧ Chg D w w' := by
  refine (inner_machine_advance_lift (K := fun r w' => r = .tuple #[] ∧ ∃ S' th', MS D w' m S' (mAdv s) th' ∧ Chg D w w') ?_).mono (by rintro e w' ⟨r, rfl, rfl, h⟩; exact ⟨rfl, h⟩)
  unfold inner_machine_advance_sh
  have k1 := ok.st
  have k2 := ok.bk
  have ltm := h.lt
  have lts := h.st.lt
  have ltb := h.bk.lt
  have ltx := h.me.lt
  have l0 := hg.lt
  refine ⟨_, _, _, _, _, _, _, _, _, _, h.ob.cell rfl, h.ob.cell rfl, h.ob.cell rfl, h.ob.cell rfl, h.ob.cell rfl, h.ob.cell rfl, h.ob.cell rfl, h.ob.cell rfl, h.ob.cell rfl, h.ob.cell rfl, ?_⟩
  intro b12 w13 hb12 hw13
  have hnw := fun (w2 : World) => newOb (w2 := w2) (T := T_api_State) (stC st0) (stC S) rfl hb12 hw13
  refine ⟨(hnw w13).1, fun w14 hw14 => ?_⟩
  obtain ⟨o12, c14⟩ := (hnw w14).2 hw14
  have z13 : w13.heap.size = w.heap.size + 1 := by rw [hw13]; simp
  have z14 : w13.heap.size ≤ w14.heap.size := by rw [hw14]; exact (Chg.st (S := fun _ => True) trivial).size
  intro w15 hw15
  have c15 := trN c14 (dw hw15)
  have z15 := (dw hw15).size
  have h15 := h.no c15
  have p12 := o12.no (dw hw15)
  have hO : ∀ w', Chg No w15 w' → Ob w' m (mcC S th) T_inner_machine := fun w' c => h15.ob.no c
  refine ⟨fun w' => Chg No w15 w', Chg.refl _ _, S.stack, Ob.held hO rfl, S.back, Ob.held hO rfl, ?_⟩
  refine (clone_ints h15.st.rd (by omega)).mono ?_
  rintro e w20 ⟨s21, rfl, g21, c20, n21, _⟩
  have z20 := c20.size
  have lt21 : ∀ k, s21.blk = some k → k < w20.heap.size := fun k hk => g21.lt hk
  refine ⟨s21, rfl, c20, ?_⟩
  refine (clone_ints (h15.bk.no c20).rd (by omega)).mono ?_
  rintro e w23 ⟨s24, rfl, g24, c23, n24, _⟩
  have z23 := c23.size
  have c1523 := trN c20 c23
  have g21 := g21.no c23
  have lt24 : ∀ k, s24.blk = some k → k < w23.heap.size := fun k hk => g24.lt hk
  have q12 := p12.no c1523
  refine ⟨s24, rfl, c1523, q12.wr (by simp [stC]), fun w25 hw25 => ?_⟩
  obtain ⟨q12, d25⟩ := q12.up (k := 2) (vs := [s21.val]) (cs' := stC { S with stack := s21 }) (by simp [stC]) rfl hw25
  refine ⟨q12.wr (by simp [stC]), fun w26 hw26 => ?_⟩
  obtain ⟨q12, d26⟩ := q12.up (k := 3) (vs := [s24.val]) (cs' := stC { S with stack := s21, back := s24 }) (by simp [stC]) rfl hw26
  have d26 : Chg (fun k => k = b12) w23 w26 := d25.trans d26 (fun _ _ h => h) (fun _ _ h => h)
  have z26 := d26.size
  have h26 : MS D w26 m S s th := (h15.no c1523).chg d26 (fun k hk he => by
    have he : k = b12 := he
    rcases hk with hk | hk | hk | hk
    · omega
    · have := lts k hk; omega
    · have := ltb k hk; omega
    · have := ltx k hk; omega)
  refine ⟨h26.wr (by omega), fun w27 hw27 => ?_⟩
  have g27 := h26.put (k := 10) (vs := [.bool false]) (S' := S) (s' := s) (th' := false) (by simp) rfl hw27 h26.nums rfl rfl rfl rfl rfl rfl
  have z27 := g27.size
  have dm27 : Chg (fun k => k = m) w26 w27 := by rw [hw27]; exact Chg.st (S := fun k => k = m) rfl
  have zz : w.heap.size < w27.heap.size := by omega
  have cA : Chg D w w27 := ((trN c15 c1523).trans d26 (fun _ _ h => h.elim) (fun k _ hk => by have hk : k = b12 := hk; rw [hk]; exact hD _ (by omega))).trans g27.2.2 (fun _ _ h => h) (fun _ _ h => h)
  have hsub : ∀ k, (Bm m S k ∨ w27.heap.size ≤ k) → D k := fun k hk => hk.elim h.own (fun hk => hD k (by omega))
  have q12 : Ob w27 b12 (stC { S with stack := s21, back := s24 }) T_api_State := q12.chg dm27 (fun he => by omega)
  have x21 : Ox intE w27 s21 s.stack := ((g21.ox.qs d26 (fun he => by have := n21 _ he; omega)).qs dm27 (fun he => by have := n21 _ he; omega))
  have x24 : Ox intE w27 s24 s.back := ((g24.ox.qs d26 (fun he => by have := n24 _ he; omega)).qs dm27 (fun he => by have := n24 _ he; omega))
  refine (mstep_any (D := fun k => Bm m S k ∨ w27.heap.size ≤ k) (g27.1.bm fun k hk => Or.inl hk) (fun k hk => Or.inr hk) ok).mono ?_
  rintro e w29 ⟨v30, rfl, hv⟩
  refine ⟨v30, rfl, ?_⟩
  cases hst : mStep s with
  | ok s' =>
    rw [hst] at hv
    obtain ⟨rfl, S', th', g⟩ := hv
    refine ⟨_, _, eq_nil _ _, brB_t ⟨rfl, S', th', ?_, cA.trans g.2.2 (fun _ _ h => h) (fun k _ hk => hsub k hk)⟩⟩
    have : mAdv s = s' := by unfold mAdv; rw [hst]
    rw [this]
    exact g.1.wid hsub
  | bad c t =>
    rw [hst] at hv
    obtain ⟨hc', ⟨d', hd', hE⟩, S', s', g, hm⟩ := hv
    obtain ⟨t', u', rfl⟩ := hE.if
    refine ⟨_, _, eq_if _ _ _ _, brB_f ?_⟩
    have z29 := g.size
    have nob : ∀ k, w.heap.size ≤ k → k < w27.heap.size → ¬ (Bm m S k ∨ w27.heap.size ≤ k) := fun k h1 h2 hh => by
      rcases hh with (hh | hh | hh | hh) | hh
      · omega
      · have := lts k hh; omega
      · have := ltb k hh; omega
      · have := ltx k hh; omega
      · omega
    have q29 := q12.chg g.2.2 (nob b12 (by omega) (by omega))
    have y21 := x21.chg g.2.2 (fun k hk => nob k (by have := n21 k hk; omega) (by have := lt21 k hk; omega))
    have y24 := x24.chg g.2.2 (fun k hk => nob k (by have := n24 k hk; omega) (by have := lt24 k hk; omega))
    have hme : Ox intE w29 S.mem s.mem := by have := g.1.me; rw [g.2.1, hm] at this; exact this
    have hadv : mAdv s = mFault (if t = true then popV s else s) c := by unfold mAdv; rw [hst]
    rw [hadv]
    have cB : Chg D w w29 := cA.trans g.2.2 (fun _ _ h => h) (fun k _ hk => hsub k hk)
    refine ⟨fun w' => ∃ sl : Sl, Ob w' b12 (stC { S with stack := sl, back := s24 }) T_api_State ∧ sl.blk = s21.blk ∧ Ox intE w' sl (if t = true then popV s else s).stack ∧ Chg (fun k => k = b12) w29 w', ?_, ?_⟩
    rotate_left
    · refine ⟨t, g.1.ob.cell rfl, ?_⟩
      cases ht : t with
      | false => exact brB_f ⟨s21, q29, rfl, y21, Chg.refl _ _⟩
      | true =>
        refine brB_t ?_
        subst ht
        have hne := mStep_thr hst
        have l21 := y21.rd.len
        have c21 := y21.rd.capL
        refine ⟨s21, q29.cell rfl, s21, q29.cell rfl, ?_⟩
        rw [wr_in (by omega)]
        refine ⟨by omega, by omega, fun s36 hs36 => ?_⟩
        rw [sub0, show ((s21.len : Int) - 1).toNat = s.stack.length - 1 by omega] at hs36
        have hb36 : s36.blk = s21.blk := by rw [hs36]; unfold Sl.blk Sl.val; dsimp only; cases s21.ptr <;> rfl
        refine ⟨q29.wr (by simp [stC]), fun w37 hw37 => ?_⟩
        obtain ⟨q37, d37⟩ := q29.up (k := 2) (vs := [s36.val]) (cs' := stC { S with stack := s36, back := s24 }) (by simp [stC]) rfl hw37
        have y36 : Ox intE w29 s36 (s.stack.take (s.stack.length - 1)) := by rw [hs36]; exact y21.take (by omega)
        exact ⟨s36, q37, hb36, y36.qs d37 (fun he => by have := n21 _ (hb36 ▸ he); omega), d37⟩
    · rintro w38 ⟨sl, o38, hb38, x38, d38⟩
      intro w39 hw39
      have c39 := dw hw39
      have z38 := d38.size
      have z39 := c39.size
      have hE39 := (hE.chg d38 (fun k hk he => by have he : k = b12 := he; omega)).no c39
      have cC : Chg D w w39 := (cB.trans d38 (fun _ _ h => h) (fun k _ hk => by have hk : k = b12 := hk; rw [hk]; exact hD _ (by omega))).trans c39 (fun _ _ h => h) (fun _ _ h => h.elim)
      have o39 := o38.no c39
      have y24' := (y24.qs d38 (fun he => by have := n24 _ he; omega)).no c39
      have hme39 := (hme.qs d38 (fun he => by have := ltx _ he; omega)).no c39
      have om39 := (g.1.ob.chg d38 (fun he => by have he : m = b12 := he; omega)).no c39
      have hO : ∀ w', Chg No w39 w' → Ob w' b12 (stC { S with stack := sl, back := s24 }) T_api_State := fun w' c => o39.no c
      refine ⟨fun w' => Chg No w39 w', Chg.refl _ _, _, _, _, _, _, _, _, _, _, _, Ob.held hO rfl, Ob.held hO rfl, Ob.held hO rfl, Ob.held hO rfl, Ob.held hO rfl, Ob.held hO rfl, Ob.held hO rfl, Ob.held hO rfl, Ob.held hO rfl, Ob.held hO rfl, ?_⟩
      refine (code_any hd' (hg.chg cC h0) hE39).mono ?_
      rintro e w52 ⟨rfl, c52⟩
      have z52 := c52.size
      obtain ⟨m1, m2, m3, m4, m5, m6, m7⟩ := h.nums
      have hst2 : (if t = true then popV s else s).stack.length ≤ 100 := by
        split
        · have := popV_len s; omega
        · omega
      have hbk2 : (if t = true then popV s else s).back = s.back := by split <;> rfl
      have hme2 : (if t = true then popV s else s).mem = s.mem := by split <;> rfl
      have hnum2 : StNums { S with stack := sl, back := s24 } (if t = true then popV s else s) := by
        split
        · exact ⟨m1, m2, m3, m4, m5, m6, m7⟩
        · exact ⟨m1, m2, m3, m4, m5, m6, m7⟩
      refine ⟨_, rfl, c52, ?_⟩
      refine (mfaulty_any { S with stack := sl, back := s24 } hnum2 ((x38.no c39).no c52) (by rw [hbk2]; exact y24'.no c52) hst2 (by rw [hbk2]; omega) c).mono ?_
      rintro e w55 ⟨S3, rfl, ft, c55⟩
      have c3955 := trN c52 c55
      have om55 := om39.no c3955
      refine ⟨_, _, _, _, _, _, _, _, _, _, rfl, c3955, om55.wr (by simp [mcC, stC]), fun w66 hw66 => ⟨rfl, S3, t, ?_, ?_⟩⟩
      · obtain ⟨o66, d66⟩ := om55.up (k := 0) (vs := stC S3) (cs' := mcC S3 t) (by simp [mcC, stC]) rfl hw66
        have bs : ∀ k, S3.stack.blk = some k → (w15.heap.size ≤ k ∧ k < w20.heap.size) ∨ w52.heap.size ≤ k := fun k hk => by
          rcases ft.stB with hh | hh
          · have hk2 : s21.blk = some k := by rw [← hb38]; exact hh ▸ hk
            exact Or.inl ⟨n21 k hk2, lt21 k hk2⟩
          · exact Or.inr (hh k hk)
        have bb : ∀ k, S3.back.blk = some k → w20.heap.size ≤ k ∧ k < w23.heap.size := fun k hk => by
          have hk2 : s24.blk = some k := ft.bkB ▸ hk
          exact ⟨n24 k hk2, lt24 k hk2⟩
        have bm : ∀ k, S3.mem.blk = some k → k < w.heap.size ∧ S.mem.blk = some k := fun k hk => by
          have hk2 : S.mem.blk = some k := ft.me ▸ hk
          exact ⟨ltx k hk2, hk2⟩
        have hmem3 : Ox intE w55 S3.mem (mFault (if t = true then popV s else s) c).mem := by
          have e1 : (mFault (if t = true then popV s else s) c).mem = s.mem := by
            rw [← hme2]; unfold mFault; split <;> rfl
          rw [ft.me, e1]; exact hme39.no c3955
        refine ⟨o66, ft.nums, ft.st.qs d66 (fun he => by have := bs _ he; omega), ft.bk.qs d66 (fun he => by have := bb _ he; omega), hmem3.qs d66 (fun he => (h.dme _ (bm _ he).2).2 rfl), h.dm, fun k hk => ⟨hD k (by have := bs k hk; omega), by have := bs k hk; omega, fun he => by have := bs k hk; have := bb k he; omega, fun he => by have := bs k hk; have := (bm k he).1; omega⟩,
          fun k hk => ⟨hD k (by have := bb k hk; omega), by have := bb k hk; omega, fun he => by have := bb k hk; have := (bm k he).1; omega⟩, fun k hk => ⟨(h.dme k (bm k hk).2).1, (h.dme k (bm k hk).2).2⟩⟩
      · have d66 : Chg (fun k => k = m) w55 w66 := by rw [hw66]; exact Chg.st (S := fun k => k = m) rfl
        exact (cC.trans c3955 (fun _ _ h => h) (fun _ _ h => h.elim)).trans d66 (fun _ _ h => h) (fun k _ hk => by have hk : k = m := hk; rw [hk]; exact h.dm)
end
end Go.Proofs.YtkjpmkopnkkbmaaGreatDoor

/- inner.Run: steps as long as there is fuel. -/
set_option maxRecDepth 100000
namespace Go.Proofs.YtkjpmkopnkkbmaaGreatDoor
open Go.RowKit

structure StX (D : Nat → Prop) (w : World) (S : StC) (s : StV) : Prop where
  nums : StNums S s
  st : Ox intE w S.stack s.stack
  bk : Ox intE w S.back s.back
  me : Ox intE w S.mem s.mem
  stD : ∀ k, S.stack.blk = some k → D k ∧ S.back.blk ≠ some k ∧ S.mem.blk ≠ some k
  bkD : ∀ k, S.back.blk = some k → D k ∧ S.mem.blk ≠ some k
  meD : ∀ k, S.mem.blk = some k → D k
theorem StX.is {D : Nat → Prop} {w : World} {S : StC} {s : StV} (h : StX D w S s) : StIs D w S s := ⟨h.nums, h.st.rd, h.bk.rd, h.me.rd, fun k hk => (h.stD k hk).1, fun k hk => (h.bkD k hk).1, h.meD⟩
theorem StX.chg {D X : Nat → Prop} {w w' : World} {S : StC} {s : StV} (h : StX D w S s) (c : Chg X w w') (hX : ∀ k, D k → ¬ X k) : StX D w' S s :=
  ⟨h.nums, h.st.chg c (fun k hk => hX k (h.stD k hk).1), h.bk.chg c (fun k hk => hX k (h.bkD k hk).1), h.me.chg c (fun k hk => hX k (h.meD k hk)), h.stD, h.bkD, h.meD⟩
theorem StX.no {D : Nat → Prop} {w w' : World} {S : StC} {s : StV} (h : StX D w S s) (c : Chg No w w') : StX D w' S s := h.chg c (fun _ _ h => h)
theorem StX.wid {D C : Nat → Prop} {w : World} {S : StC} {s : StV} (h : StX D w S s) (hd : ∀ k, D k → C k) : StX C w S s :=
  ⟨h.nums, h.st, h.bk, h.me, fun k hk => ⟨hd k (h.stD k hk).1, (h.stD k hk).2⟩, fun k hk => ⟨hd k (h.bkD k hk).1, (h.bkD k hk).2⟩, fun k hk => hd k (h.meD k hk)⟩
theorem MS.stx {D : Nat → Prop} {w : World} {m : Nat} {S : StC} {s : StV} {th : Bool} (h : MS D w m S s th) : StX D w S s :=
  ⟨h.nums, h.st, h.bk, h.me, fun k hk => ⟨(h.dst k hk).1, (h.dst k hk).2.2⟩, fun k hk => ⟨(h.dbk k hk).1, (h.dbk k hk).2.2⟩, fun k hk => (h.dme k hk).1⟩
theorem irun_any {D : Nat → Prop} {w : World} (S : StC) {s : StV} (h : StIs D w S s) (ok : MOk s) (hg : Gl w) (fuel : Int) (hf : fuel ≤ 9223372036854775807) :
    Calls Tryz.prog fn_inner_Run #[.agg (stC S).toArray, .int .i64 fuel] w fun e w' => ∃ S' : StC, e = .returned (.tuple #[.agg (stC S').toArray, .int .i64 (runM s fuel).2]) ∧ StX (fun k => w.heap.size ≤ k ∧ k < w'.heap.size) w' S' (runM s fuel).1 ∧ Chg No w w' := by
  refine (inner_Run_lift (K := fun r w' => ∃ S' : StC, r = .tuple #[.agg (stC S').toArray, .int .i64 (runM s fuel).2] ∧ StX (fun k => w.heap.size ≤ k ∧ k < w'.heap.size) w' S' (runM s fuel).1 ∧ Chg No w w') ?_).mono (by rintro e w' ⟨r, rfl, S', rfl, h⟩; exact ⟨S', rfl, h⟩)
  unfold inner_Run_sh
  have k1 := ok.st
  have k2 := ok.bk
  have k3 := ok.me
  have l0 := hg.lt
  intro b12 w13 hb12 hw13 b14 w15 hb14 hw15
  have c13 := al hw13
  have c15 := al hw15
  have z13 : w13.heap.size = w.heap.size + 1 := by rw [hw13]; simp
  have z15 : w15.heap.size = w13.heap.size + 1 := by rw [hw15]; simp
  have k15 := trN c13 c15
  have o12 : Ob w15 b12 (stC S) T_api_State := by
    have : Ob w13 b12 (stC S) T_api_State := by rw [hw13, hb12]; exact Ob.new w (stC S) T_api_State
    exact this.no c15
  have o14 : Ob w15 b14 (stC st0) T_api_State := by rw [hw15, hb14]; exact Ob.new w13 (stC st0) T_api_State
  refine ⟨_, _, _, _, _, _, _, _, _, _, o12.cell rfl, o12.cell rfl, o12.cell rfl, o12.cell rfl, o12.cell rfl, o12.cell rfl, o12.cell rfl, o12.cell rfl, o12.cell rfl, o12.cell rfl, (icopy_any S (h.no k15) (by omega) (by omega) (by omega)).mono ?_⟩
  rintro e w27 ⟨S1, rfl, h1, c27⟩
  have z27 := c27.size
  refine ⟨_, _, _, _, _, _, _, _, _, _, rfl, ?_⟩
  intro b38 w39 hb38 hw39
  have c39 := al hw39
  have z39 : w39.heap.size = w27.heap.size + 1 := by rw [hw39]; simp
  have o38 : Ob w39 b38 (mcC S1 false) T_inner_machine := by rw [hw39, hb38]; exact Ob.new w27 (mcC S1 false) T_inner_machine
  have k39 := trN (trN k15 c27) c39
  have h39 := h1.no c39
  have ms : MS (fun k => w15.heap.size ≤ k) w39 b38 S1 s false :=
    ⟨o38, h1.nums, h39.st.ox, h39.bk.ox, h39.me.ox, by show w15.heap.size ≤ b38; omega, fun k hk => ⟨(h1.stD k hk).1, by have := (h1.stD k hk).2; omega, fun he => (h1.bkD k he).2 hk, fun he => (h1.meD k he).2.1 hk⟩, fun k hk => ⟨(h1.bkD k hk).1.1, by have := (h1.bkD k hk).1.2; omega, fun he => (h1.meD k he).2.2 hk⟩, fun k hk => ⟨(h1.meD k hk).1.1, by have := (h1.meD k hk).1.2; omega⟩⟩
  refine ⟨fun f w' => ∃ (S' : StC) (s' : StV) (t : Bool), MS (fun k => w15.heap.size ≤ k) w' b38 S' s' t ∧ MOk s' ∧ Chg (fun k => w15.heap.size ≤ k) w15 w' ∧ runM s' f = runM s fuel ∧ f ≤ 9223372036854775807, fun f _ => f.toNat, ⟨S1, s, false, ms, ok, (trN c27 c39).mono (fun _ _ h => h.elim), rfl, hf⟩, ?_⟩
  rintro f w40 ⟨S2, s2, t, g, ok2, c40, hrun, hf2⟩
  have z40 := c40.size
  have kw40 : Chg No w w40 := k15.trans c40 (fun _ _ h => h) (fun k hk he => by have he : w15.heap.size ≤ k := he; omega)
  have fin : s2.status ≠ 0 ∨ f ≤ 0 → inner_Run_j1 b38 (fun f w' => ∃ (S' : StC) (s' : StV) (t : Bool), MS (fun k => w15.heap.size ≤ k) w' b38 S' s' t ∧ MOk s' ∧ Chg (fun k => w15.heap.size ≤ k) w15 w' ∧ runM s' f = runM s fuel ∧ f ≤ 9223372036854775807) f (fun f _ => f.toNat) w40 b14 false w40 (fun r w' => ∃ S' : StC, r = .tuple #[.agg (stC S').toArray, .int .i64 (runM s fuel).2] ∧ StX (fun k => w.heap.size ≤ k ∧ k < w'.heap.size) w' S' (runM s fuel).1 ∧ Chg No w w') := fun hstop => by
    unfold inner_Run_j1
    refine brB_f ?_
    rw [runM_stop hstop] at hrun
    have q14 := o14.chg c40 (fun he => by have he : w15.heap.size ≤ b14 := he; omega)
    refine ⟨_, _, _, _, _, _, _, _, _, _, g.ob.cell rfl, g.ob.cell rfl, g.ob.cell rfl, g.ob.cell rfl, g.ob.cell rfl, g.ob.cell rfl, g.ob.cell rfl, g.ob.cell rfl, g.ob.cell rfl, g.ob.cell rfl, q14.wr (by simp [stC]), fun w59 hw59 => ?_⟩
    obtain ⟨r14, d59⟩ := q14.up (k := 0) (vs := stC S2) (cs' := stC S2) (by simp [stC]) rfl hw59
    have z59 := d59.size
    refine ⟨_, _, _, _, _, _, _, _, _, _, r14.cell rfl, r14.cell rfl, r14.cell rfl, r14.cell rfl, r14.cell rfl, r14.cell rfl, r14.cell rfl, r14.cell rfl, r14.cell rfl, r14.cell rfl, S2, ?_, ?_, kw40.trans d59 (fun _ _ h => h) (fun k hk he => by omega)⟩
    · rw [← hrun]; rfl
    · rw [← hrun]
      have gx := g.stx
      have gy : StX (fun k => w.heap.size ≤ k ∧ k < w40.heap.size ∧ k ≠ b14) w40 S2 s2 :=
        ⟨gx.nums, gx.st, gx.bk, gx.me, fun k hk => ⟨⟨by have : w15.heap.size ≤ k := (gx.stD k hk).1; omega, gx.st.lt k hk, by have : w15.heap.size ≤ k := (gx.stD k hk).1; omega⟩, (gx.stD k hk).2⟩,
          fun k hk => ⟨⟨by have : w15.heap.size ≤ k := (gx.bkD k hk).1; omega, gx.bk.lt k hk, by have : w15.heap.size ≤ k := (gx.bkD k hk).1; omega⟩, (gx.bkD k hk).2⟩, fun k hk => ⟨by have : w15.heap.size ≤ k := gx.meD k hk; omega, gx.me.lt k hk, by have : w15.heap.size ≤ k := gx.meD k hk; omega⟩⟩
      exact (gy.chg d59 (fun k hk he => hk.2.2 he)).wid fun k hk => ⟨hk.1, by omega⟩
  refine ⟨S2.status, g.ob.cell rfl, ?_⟩
  rw [g.nums.2.2.2.2.2.1]
  refine brB_of (fun hs => ?_) (fun hs => ?_)
  · have hs : s2.status = 0 := by simpa using hs
    by_cases hpos : f > 0
    · rw [decide_eq_true hpos]
      unfold inner_Run_j1
      refine brB_t ?_
      refine (madv_any g (fun k hk => by show w15.heap.size ≤ k; omega) ok2 (hg.chg kw40 (fun h => h)) (by show ¬ w15.heap.size ≤ 0; omega)).mono ?_
      rintro e w48 ⟨rfl, S3, t3, g3, c48⟩
      rw [wr_in (by omega)]
      exact ⟨rfl, ⟨S3, _, t3, g3, mok_adv ok2, c40.trans c48 (fun _ _ h => h) (fun _ _ h => h), by rw [← hrun, runM_go hs hpos], by omega⟩, by show (f - 1).toNat < f.toNat; omega⟩
    · rw [decide_eq_false hpos]
      exact fin (Or.inr (by omega))
  · have hs : s2.status ≠ 0 := by simpa using hs
    exact fin (Or.inl hs)
end Go.Proofs.YtkjpmkopnkkbmaaGreatDoor
