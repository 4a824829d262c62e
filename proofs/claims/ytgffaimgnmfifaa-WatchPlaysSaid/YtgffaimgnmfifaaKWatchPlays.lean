/- The walk of WatchPlays. -/
import Derived.Test.YtgffaimgnmfifaaJ6
import Derived.Test.YtgffaimgnmfifaaJX
import Derived.Test.YtgffaimgnmfifaaJS
import Derived.Test.YtgffaimgnmfifaaJ4

/- A book of numbers alone: what is put in leaves the lists as they were (lines of BkJ, for seats without machines). -/
set_option maxRecDepth 100000
namespace Go.Proofs.Ytgffaimgnmfifaa
open Go.RowKit

def BkJ (D P : Nat → Prop) (w : World) (b : Nat) : Prop := ∃ (A Bs : Sl) (ls was : List Sl) (xss : List (List Int)), (Ob w b (bookI A Bs) T_hollowaybook_Book ∧ KO D intE T_sl_int w b A Bs ls was xss ∧ D b ∧ ls.length ≤ 250) ∧ ∀ k, k = b ∨ A.blk = some k ∨ Bs.blk = some k → P k
theorem BkJ.all {D P : Nat → Prop} {w : World} {b : Nat} (h : BkJ D P w b) : BkI D w b := by
  obtain ⟨A, Bs, ls, was, xss, h, _⟩ := h
  exact ⟨A, Bs, ls, was, xss, h⟩
theorem BkJ.apart {D P : Nat → Prop} {w : World} {b : Nat} (h : BkJ D P w b) : Calls Try.prog fn_hollowaybook_Book_Apart #[.pointer (some ⟨b, 0, none⟩)] w fun e w' => e = .returned (.bool true) ∧ Chg D w w' := h.all.apart
theorem BkJ.chg {D P S : Nat → Prop} {w w' : World} {b : Nat} (h : BkJ D P w b) (c : Chg S w w') (hS : ∀ k, D k → ¬ S k) : BkJ D P w' b := by
  obtain ⟨A, Bs, ls, was, xss, ⟨ho, hk, hb, hfew⟩, hP⟩ := h
  exact ⟨A, Bs, ls, was, xss, ⟨ho.chg c (hS _ hb), hk.chg c hS, hb, hfew⟩, hP⟩
theorem BkJ.no {D P : Nat → Prop} {w w' : World} {b : Nat} (h : BkJ D P w b) (c : Chg No w w') : BkJ D P w' b := h.chg c (fun _ _ h => h)
theorem BkJ.empty {D P : Nat → Prop} {w : World} {b : Nat} (h : Ob w b (bookI nilS nilS) T_hollowaybook_Book) (hb : D b) (hp : P b) : BkJ D P w b := ⟨nilS, nilS, [], [], [], ⟨h, KO.empty _ _ _ _ _, hb, Nat.zero_le _⟩, fun k e => by
  rcases e with e | e | e
  · rw [e]; exact hp
  all_goals cases e⟩
theorem BkJ.nar {D P : Nat → Prop} {w : World} {b : Nat} (h : BkJ D P w b) : BkJ (fun k => D k ∧ k < w.heap.size) (fun k => P k ∧ k < w.heap.size) w b := by
  obtain ⟨A, Bs, ls, was, xss, ⟨h1, h2, h3, h4⟩, hP⟩ := h
  refine ⟨A, Bs, ls, was, xss, ⟨h1, h2.nar, ⟨h3, h1.lt⟩, h4⟩, fun k e => ⟨hP k e, ?_⟩⟩
  rcases e with e | e | e
  · rw [e]; exact h1.lt
  · exact h2.oA.lt e
  · exact h2.oB.lt e
theorem BkJ.wid {D D' P P' : Nat → Prop} {w : World} {b : Nat} (h : BkJ D P w b) (hd : ∀ k, D k → D' k) (hp : ∀ k, P k → P' k) : BkJ D' P' w b := by
  obtain ⟨A, Bs, ls, was, xss, ⟨h1, h2, h3, h4⟩, hP⟩ := h
  exact ⟨A, Bs, ls, was, xss, ⟨h1, h2.wid hd, hd _ h3, h4⟩, fun k e => hp _ (hP k e)⟩
theorem BkJ.ints {D P : Nat → Prop} {w : World} {b : Nat} (h : BkJ D P w b) (hD : ∀ k, w.heap.size ≤ k → D k) (hp : ∀ k, w.heap.size ≤ k → P k) {l : Sl} {xs : List Int} (hx : Ox intE w l xs) (hxs : xs.length ≤ 10000000) {D' : Nat → Prop} (hD' : ∀ k, D k → D' k) (hl : ∀ k, l.blk = some k → D' k ∧ ¬ D k) :
    Calls Try.prog fn_hollowaybook_Book_Ints #[.pointer (some ⟨b, 0, none⟩), l.val] w fun e w' => e = .returned (.tuple #[]) ∧ BkJ D' P w' b ∧ Chg P w w' := by
  refine (hollowaybook_Book_Ints_lift (K := fun r w' => r = .tuple #[] ∧ BkJ D' P w' b ∧ Chg P w w') ?_).mono (by rintro e w' ⟨r, rfl, rfl, h⟩; exact ⟨rfl, h⟩)
  unfold hollowaybook_Book_Ints_sh
  obtain ⟨A1, B1, l1, s1, x1, ⟨ho, hk, hb, hfew⟩, hPP⟩ := h
  have hw : KO D' intE T_sl_int w b A1 B1 l1 s1 x1 := hk.wid hD'
  have hll : ∀ k, l.blk = some k → D' k ∧ k ≠ b ∧ A1.blk ≠ some k ∧ B1.blk ≠ some k ∧ ¬ blksOf l1 k ∧ ¬ blksOf s1 k := fun k hlk => by
    obtain ⟨h1, h2⟩ := hl k hlk
    exact ⟨h1, fun e => h2 (e ▸ hb), fun e => h2 (hk.dA k e).1, fun e => h2 (hk.dB k e).1, fun e => h2 (hk.dl k e).1, fun e => h2 (hk.dw k e).1⟩
  refine addx_core (K := fun r w' => r = .tuple #[] ∧ BkJ D' P w' b ∧ Chg P w w') (TB := T_hollowaybook_Book) (cs := bookI A1 B1) slIntOk ho rfl rfl hw.half (fun k e => hD' k (hD k e)) hx hxs hll (G := fun s' w10 w14 => Ow intE w14 s' xs) (fun w10 c10 => ?_)
    (fun _ => ⟨rfl, ⟨A1, B1, l1, s1, x1, ⟨ho, hw, hD' b hb, hfew⟩, hPP⟩, Chg.refl _ _⟩)
    (fun hlt A' B' c' w10 w14 w' o' k'' hG c10 c14 c1420 hbk hA10 hAn hB14 ch => ?_)
  · refine (copyInts_any l xs w10 (hx.chg c10 (fun k hk he => ?_)).rd hxs).mono ?_
    · rcases he with he | he
      · exact (hll k hk).2.1 he
      · exact (hll k hk).2.2.1 he
    · rintro e w' ⟨s', rfl, h1, h2, h3⟩
      exact ⟨s', rfl, h1, fun k hk => ⟨h3 k hk, h1.lt hk⟩, h2⟩
  have z10 := c10.size
  have k' : KO D' intE T_sl_int w' b A' B' (l1 ++ [l]) (s1 ++ [c']) (x1 ++ [xs]) := by
    refine ⟨k''.oA, k''.oB, k''.len, k''.lenB, k''.ox, fun i s ys hs hy => ?_, k''.dis, k''.dA, k''.dB, k''.dl, k''.dw⟩
    rcases app_at hs with ⟨h5, h6⟩ | ⟨h5, rfl⟩
    · rw [List.getElem?_append_left (by have := hk.lenB; omega)] at hy
      refine (hk.rd i s ys h6 hy).chg ch (fun m hm he => ?_)
      have h9 : blksOf s1 m := ⟨i, s, h6, hm⟩
      rcases he with he | he | he
      · exact (hk.dw m h9).2.1 he
      · exact (hk.dA m he).2.2.2.2 h9
      · exact (hk.dB m he).2.2.2 h9
    · rcases app_at hy with ⟨h6, _⟩ | ⟨_, rfl⟩
      · have := hk.lenB; omega
      · refine (hG.chg c1420 (fun m hm he => ?_)).rd
        have hm' := hbk m hm
        rcases he with he | he
        · have := ho.lt; omega
        · have := hk.oB.lt he; omega
  refine ⟨rfl, ⟨A', B', l1 ++ [l], s1 ++ [c'], x1 ++ [xs], ⟨o', k', hD' b hb, by rw [List.length_append]; show l1.length + 1 ≤ 250; omega⟩, fun k e => ?_⟩, ch.mono (fun k _ e => hPP k e)⟩
  rcases e with e | e | e
  · exact hPP k (Or.inl e)
  · rcases hAn k e with e | e
    · exact hPP k (Or.inr (Or.inl e))
    · exact hp k e
  · rcases hB14 k e with e | e
    · exact hPP k (Or.inr (Or.inr e))
    · exact hp k (by have := c14.size; omega)
end Go.Proofs.Ytgffaimgnmfifaa

/- WatchPlays: what stands at the head of a round; its steps. -/
set_option maxRecDepth 100000
namespace Go.Proofs.Ytgffaimgnmfifaa
open Go.RowKit

structure OpW where
  kind : Int
  start : Int
  l : Sl
def owC (o : OpW) : List Value := [.int .i64 o.kind, .int .i64 o.start, o.l.val]
theorem sl1 (s : Sl) : s.val.oneCell' = true := by rw [val_eq]; rfl
def owE : Enc OpW := ⟨T_hollowaylaw22_Op, 3, 40, owC, by intro x; rfl, by intro x u hu; simp [owC] at hu; rcases hu with rfl | rfl | rfl <;> first | rfl | exact sl1 _, by decide⟩
theorem owput {w w12 : World} {b : Nat} (x : OpW) (hb : b = w.heap.size) (hw : w12 = World.alloc w (.cells (owC ⟨0, 0, nilS⟩).toArray T_hollowaylaw22_Op)) : wrOk w12 ⟨b, 0, none⟩ 3 ∧ ∀ w13 : World, w13 = stW w12 ⟨b, 0, none⟩ 0 (owC x) → Ob w13 b (owC x) T_hollowaylaw22_Op ∧ Chg No w w13 := by
  obtain ⟨h1, h2⟩ := newOb (w := w) (w1 := w12) (b := b) (T := T_hollowaylaw22_Op) (w2 := stW w12 ⟨b, 0, none⟩ 0 (owC x)) (owC ⟨0, 0, nilS⟩) (owC x) rfl hb hw
  exact ⟨h1, fun w13 h13 => by subst h13; exact h2 rfl⟩
/-- Between rounds: the watch says f, the law's own map g; their blocks and the book's lie apart. -/
structure PW (B H D P : Nat → Prop) (w0 w : World) (c mh b n : Nat) (f g : Int → Option (List Int)) : Prop where
  wat : WA B w c n f
  hav : ∃ ys, MAt H w (some mh) ys ∧ Fit ys g ∧ ys.length ≤ n
  bok : BkJ D P w b
  bB : ∀ k, B k → w0.heap.size ≤ k ∧ k < w.heap.size ∧ ¬ D k ∧ ¬ H k
  bH : ∀ k, H k → w0.heap.size ≤ k ∧ k < w.heap.size ∧ ¬ D k
  bD : ∀ k, D k → w0.heap.size ≤ k ∧ k < w.heap.size
  bP : ∀ k, P k → D k
  chg : Chg No w0 w
section
variable {B H D P : Nat → Prop} {w0 w w' : World} {c mh b n : Nat} {f g : Int → Option (List Int)}
theorem MAt.no {ys : List Et} {m : Option Nat} (h : MAt B w m ys) (ch : Chg No w w') : MAt B w' m ys := h.chg ch (fun _ _ h => h)
theorem PW.no (h : PW B H D P w0 w c mh b n f g) (ch : Chg No w w') : PW B H D P w0 w' c mh b n f g := by
  obtain ⟨ys, h1, h2, h3⟩ := h.hav
  have z := ch.size
  exact ⟨h.wat.chg ch (fun _ _ h => h), ⟨ys, h1.chg ch (fun _ _ h => h), h2, h3⟩, h.bok.no ch, fun k hk => ⟨(h.bB k hk).1, by have := (h.bB k hk).2.1; omega, (h.bB k hk).2.2⟩, fun k hk => ⟨(h.bH k hk).1, by have := (h.bH k hk).2.1; omega, (h.bH k hk).2.2⟩, fun k hk => ⟨(h.bD k hk).1, by have := (h.bD k hk).2; omega⟩, h.bP, trN h.chg ch⟩
theorem PW.wat0 {f' : Int → Option (List Int)} {n' : Nat} (h : PW B H D P w0 w c mh b n f g) (h' : WA B w' c n' f') (hn : n ≤ n') (ch : Chg B w w') : PW B H D P w0 w' c mh b n' f' g := by
  obtain ⟨ys, h1, h2, h3⟩ := h.hav
  have z := ch.size
  exact ⟨h', ⟨ys, h1.chg ch (fun k hk hb => (h.bB k hb).2.2.2 hk), h2, by omega⟩, h.bok.chg ch (fun k hk hb => (h.bB k hb).2.2.1 hk), fun k hk => ⟨(h.bB k hk).1, by have := (h.bB k hk).2.1; omega, (h.bB k hk).2.2⟩, fun k hk => ⟨(h.bH k hk).1, by have := (h.bH k hk).2.1; omega, (h.bH k hk).2.2⟩, fun k hk => ⟨(h.bD k hk).1, by have := (h.bD k hk).2; omega⟩, h.bP, h.chg.trans ch (fun _ _ h => h) (fun k hk hb => by have := (h.bB k hb).1; omega)⟩
theorem PW.watU {f' : Int → Option (List Int)} {n' : Nat} (h : PW B H D P w0 w c mh b n f g) (h' : WA (fun k => B k ∨ w.heap.size ≤ k) w' c n' f') (hn : n ≤ n') (ch : Chg (fun k => B k ∨ w.heap.size ≤ k) w w') :
    PW (fun k => (B k ∨ w.heap.size ≤ k) ∧ k < w'.heap.size) H D P w0 w' c mh b n' f' g ∧ Chg B w w' := by
  have cB : Chg B w w' := ch.mono (fun k hk h => h.elim id fun h => by omega)
  have z := ch.size
  have z0 := h.chg.size
  obtain ⟨ys, h1, h2, h3⟩ := h.hav
  refine ⟨⟨h'.nar, ⟨ys, h1.chg cB (fun k hk hb => (h.bB k hb).2.2.2 hk), h2, by omega⟩, h.bok.chg cB (fun k hk hb => (h.bB k hb).2.2.1 hk), fun k hk => ⟨?_, hk.2, fun hd => ?_, fun hd => ?_⟩, fun k hk => ⟨(h.bH k hk).1, by have := (h.bH k hk).2.1; omega, (h.bH k hk).2.2⟩, fun k hk => ⟨(h.bD k hk).1, by have := (h.bD k hk).2; omega⟩, h.bP, h.chg.trans cB (fun _ _ h => h) (fun k hk hb => by have := (h.bB k hb).1; omega)⟩, cB⟩
  · rcases hk.1 with hb | hb
    · exact (h.bB k hb).1
    · omega
  · rcases hk.1 with hb | hb
    · exact (h.bB k hb).2.2.1 hd
    · have := (h.bD k hd).2; omega
  · rcases hk.1 with hb | hb
    · exact (h.bB k hb).2.2.2 hd
    · have := (h.bH k hd).2.1; omega
theorem PW.havU {H' : Nat → Prop} {ys : List Et} {g' : Int → Option (List Int)} {n' : Nat} (h : PW B H D P w0 w c mh b n f g) (h1 : MAt H' w' (some mh) ys) (h2 : Fit ys g') (h3 : ys.length ≤ n') (hn : n ≤ n') (hH : ∀ k, H' k → H k ∨ (w0.heap.size ≤ k ∧ k < w.heap.size ∧ ¬ B k ∧ ¬ D k)) (ch : Chg (fun j => j = mh) w w') : PW B H' D P w0 w' c mh b n' f g' := by
  have hmh : H mh := by
    obtain ⟨zs, q1, _⟩ := h.hav
    exact q1.bb mh rfl
  have z := ch.size
  obtain ⟨mb, xs, a1, a2, a3, a4, a5⟩ := h.wat.chg (S := fun j => j = mh) ch (fun k hk e => (h.bB k hk).2.2.2 (by rw [show k = mh from e]; exact hmh))
  refine ⟨⟨mb, xs, a1, a2, a3, by omega, a5⟩, ⟨ys, h1, h2, h3⟩, h.bok.chg ch (fun k hk e => (h.bH mh hmh).2.2 (by rw [← show k = mh from e]; exact hk)), fun k hk => ⟨(h.bB k hk).1, by have := (h.bB k hk).2.1; omega, (h.bB k hk).2.2.1, fun hh => ?_⟩, fun k hk => ?_, fun k hk => ⟨(h.bD k hk).1, by have := (h.bD k hk).2; omega⟩, h.bP, h.chg.trans ch (fun _ _ h => h) (fun k hk e => by have := (h.bH mh hmh).1; have e : k = mh := e; omega)⟩
  · rcases hH k hh with q | q
    · exact (h.bB k hk).2.2.2 q
    · exact q.2.2.1 hk
  · rcases hH k hk with q | q
    · exact ⟨(h.bH k q).1, by have := (h.bH k q).2.1; omega, (h.bH k q).2.2⟩
    · exact ⟨q.1, by omega, q.2.2.2⟩
theorem PW.keep (h : PW B H D P w0 w c mh b n f g) {t : Sl} {xs : List Int} (ht : Ow intE w t xs) (hxs : xs.length ≤ 10000000) (hf : ∀ k, t.blk = some k → w0.heap.size ≤ k ∧ ¬ B k ∧ ¬ H k ∧ ¬ D k) :
    Calls Try.prog fn_hollowaybook_Book_Ints #[.pointer (some ⟨b, 0, none⟩), t.val] w fun e w' => e = .returned (.tuple #[]) ∧ ∃ D' P', PW B H D' P' w0 w' c mh b n f g ∧ Chg P w w' ∧ (∀ k, D' k → D k ∨ t.blk = some k ∨ w.heap.size ≤ k) ∧ ∀ k, P' k → P k ∨ w.heap.size ≤ k := by
  refine ((h.bok.wid (D' := fun k => D k ∨ w.heap.size ≤ k) (P' := fun k => P k ∨ w.heap.size ≤ k) (fun k hk => Or.inl hk) (fun k hk => Or.inl hk)).ints (fun k hk => Or.inr hk) (fun k hk => Or.inr hk) ht.ox hxs (D' := fun k => (D k ∨ w.heap.size ≤ k) ∨ t.blk = some k) (fun k hk => Or.inl hk) (fun k hk => ⟨Or.inr hk, ?_⟩)).mono ?_
  · rintro (hd | hd)
    · exact (hf k hk).2.2.2 hd
    · have := ht.lt hk; omega
  rintro e w' ⟨rfl, hk', ch⟩
  have cP : Chg P w w' := ch.mono (fun k hk h => h.elim id fun h => by omega)
  have z := ch.size
  have z0 := h.chg.size
  obtain ⟨ys, h1, h2, h3⟩ := h.hav
  refine ⟨rfl, _, _, ⟨h.wat.chg cP (fun k hk hp => (h.bB k hk).2.2.1 (h.bP k hp)), ⟨ys, h1.chg cP (fun k hk hp => (h.bH k hk).2.2 (h.bP k hp)), h2, h3⟩, hk'.nar, fun k hk => ⟨(h.bB k hk).1, by have := (h.bB k hk).2.1; omega, ?_, (h.bB k hk).2.2.2⟩, fun k hk => ⟨(h.bH k hk).1, by have := (h.bH k hk).2.1; omega, ?_⟩, fun k hk => ⟨?_, hk.2⟩, fun k hk => ⟨?_, hk.2⟩, h.chg.trans cP (fun _ _ h => h) (fun k hk hp => by have := (h.bD k (h.bP k hp)).1; omega)⟩, cP, fun k hk => ?_, fun k hk => hk.1⟩
  · rintro ⟨(hd | hd) | hd, _⟩
    · exact (h.bB k hk).2.2.1 hd
    · have := (h.bB k hk).2.1; omega
    · exact (hf k hd).2.1 hk
  · rintro ⟨(hd | hd) | hd, _⟩
    · exact (h.bH k hk).2.2 hd
    · have := (h.bH k hk).2.1; omega
    · exact (hf k hd).2.2.1 hk
  · rcases hk.1 with (hd | hd) | hd
    · exact (h.bD k hd).1
    · omega
    · exact (hf k hd).1
  · rcases hk.1 with hp | hp
    · exact Or.inl (Or.inl (h.bP k hp))
    · exact Or.inl (Or.inr hp)
  · rcases hk.1 with (hd | hd) | hd
    · exact Or.inl hd
    · exact Or.inr (Or.inr hd)
    · exact Or.inr (Or.inl hd)
/-- What is new at some world is apart from all. -/
theorem PW.apart (h : PW B H D P w0 w c mh b n f g) {k : Nat} (hk : w.heap.size ≤ k) : w0.heap.size ≤ k ∧ ¬ B k ∧ ¬ H k ∧ ¬ D k := by
  have z0 := h.chg.size
  exact ⟨by omega, fun hb => by have := (h.bB k hb).2.1; omega, fun hb => by have := (h.bH k hb).2.1; omega, fun hb => by have := (h.bD k hb).2; omega⟩
end
/-- Blocks that are apart from a round's. -/
def Ap (B H D : Nat → Prop) (k : Nat) : Prop := ¬ B k ∧ ¬ H k ∧ ¬ D k
end Go.Proofs.Ytgffaimgnmfifaa

/- WatchPlays: a start is watched, or watched no more. -/
set_option maxRecDepth 100000
namespace Go.Proofs.Ytgffaimgnmfifaa
open Go.RowKit

section
variable {B H D P : Nat → Prop} {w0 w29 : World} {b11 b13 b15 b23 n : Nat} {f : Int → Option (List Int)} {o : OpW} {s30 : Sl} {xs : List Int} {J18 : World → Prop} {K : Value → World → Prop}
/-- Behind an operation: what was handed in is as it was. -/
def Aft (w0 : World) (b11 b13 b15 b23 n : Nat) (o : OpW) (s30 : Sl) (xs : List Int) (w : World) : Prop :=
  ∃ B H D P f, PW B H D P w0 w b11 b13 b15 n f f ∧ Ob w b23 (owC o) T_hollowaylaw22_Op ∧ Lent w s30 xs
theorem arm_add (h : PW B H D P w0 w29 b11 b13 b15 n f f) (o29 : Ob w29 b23 (owC o) T_hollowaylaw22_Op) (a23 : Ap B H D b23) (hl : Lent w29 s30 xs) (al : ∀ k, s30.blk = some k → Ap B H D k) (hx : Rd intE w0 o.l xs) (hn : xs.length ≤ 40)
    (hJ : ∀ w98, Aft w0 b11 b13 b15 b23 (n + 1) o s30 xs w98 → J18 w98) :
    ∃ n32 : Int, w29.cell? ⟨b23, 1, none⟩ = some (.int .i64 n32) ∧
     Calls Try.prog fn_watch_Watch_Add #[.pointer (some ⟨b11, 0, none⟩), .int .i64 n32, s30.val] w29 fun e33 w34 => e33 = .returned (.tuple #[]) ∧
     ∀ w35 : World, w35 = World.drew w34 →
     ∃ S36 : World → Prop, S36 w35 ∧
     ∃ n37 : Int, held S36 ⟨b23, 1, none⟩ (.int .i64 n37) ∧
     ∃ s38 : Sl, held S36 ⟨b23, 2, none⟩ (s38.val) ∧
     Calls Try.prog fn_hollowaylaw22_rise #[s38.val] w35 fun e39 w40 => ∃ s41 : Sl, e39 = .returned (s41.val) ∧
     S36 w40 ∧
     ∃ w42 : World, (Instr.mapUpdate T_map_int_sl_int (.map (some b13)) (.int .i64 n37) (s41.val)).run Try.prog w40 = .ok () w42 ∧
     J18 w42 := by
  refine ⟨o.start, o29.cell rfl, ?_⟩
  have hlt : ∀ k, s30.blk = some k → k < w29.heap.size := fun k hk => by
    refine hl.2.lt ?_
    rw [← hk]; unfold Sl.blk Sl.val; cases s30.ptr <;> rfl
  refine (add_any (B := fun k => B k ∨ w29.heap.size ≤ k) (h.wat.wid (fun k hk => Or.inl hk)) (fun k hk => Or.inr hk) hl.rd (fun _ k hk hb => ?_) (by omega) o.start).mono ?_
  · rcases hb with hb | hb
    · exact (al k hk).1 hb
    · have := hlt k hk; omega
  rintro e w34 ⟨rfl, h34, c34⟩
  obtain ⟨p34, cB⟩ := h.watU h34 (Nat.le_succ n) c34
  refine ⟨rfl, ?_⟩
  intro w35 hw35
  have c35 : Chg No w34 w35 := dw hw35
  have o34 := o29.chg cB a23.1
  have l34 := hl.chg cB (fun k hk => (al k hk).1)
  have p35 := p34.no c35
  refine ⟨fun W => Chg No w34 W, c35, o.start, Ob.held (fun W hW => o34.no hW) rfl, o.l, Ob.held (fun W hW => o34.no hW) rfl, ?_⟩
  refine (rise_any (hx.no p35.chg) (by omega)).mono ?_
  rintro e w40 ⟨s41, rfl, o41, c40, b41⟩
  have p40 := p35.no c40
  refine ⟨s41, rfl, trN c35 c40, ?_⟩
  obtain ⟨ys, y1', y2, y3⟩ := h.hav
  have y1 := ((y1'.chg cB (fun k hk hb => (h.bB k hb).2.2.2 hk)).no c35).no c40
  have hon := onceI_ok xs
  have z34 := c34.size
  have z35 := c35.size
  have h13 : H b13 := y1.bb b13 rfl
  have h13l := (h.bH b13 h13).2.1
  refine ma_update (y1.wid (B' := fun k => H k ∨ s41.blk = some k) (fun k hk => Or.inl hk)) o.start o41 hon.1 (Nat.le_trans (onceI_len xs) (by omega)) (fun q hq => ⟨Or.inr hq, fun e => by have := b41 q hq; omega⟩) ?_
  intro m w42 m42 c42
  have p42 := p40.havU m42 (fit_up y2 o.start s41 (onceI xs) m) (n' := n + 1) (Nat.le_trans (mup_len ..) (Nat.succ_le_succ y3)) (Nat.le_refl _) (fun k hk => ?_) c42
  · refine hJ w42 ⟨_, _, _, _, _, p42, ((o34.no c35).no c40).chg c42 (fun e => a23.2.1 (by rw [show b23 = b13 from e]; exact h13)), ((l34.no c35).no c40).chg c42 (fun k hk e => (al k hk).2.1 (by rw [show k = b13 from e]; exact h13))⟩
  · rcases hk with q | q
    · exact Or.inl q
    · have := b41 k q
      have a := p35.apart this
      exact Or.inr ⟨a.1, o41.lt q, a.2.1, a.2.2.2⟩
theorem arm_drop (h : PW B H D P w0 w29 b11 b13 b15 n f f) (o29 : Ob w29 b23 (owC o) T_hollowaylaw22_Op) (a23 : Ap B H D b23) (hl : Lent w29 s30 xs) (al : ∀ k, s30.blk = some k → Ap B H D k)
    (hJ : ∀ w98, Aft w0 b11 b13 b15 b23 (n + 1) o s30 xs w98 → J18 w98) :
    ∃ n43 : Int, w29.cell? ⟨b23, 1, none⟩ = some (.int .i64 n43) ∧
     ∃ (v45 : Value) (b46 : Bool) (w44 : World), (Instr.lookup T_map_int_sl_int (.map (some b13)) (.int .i64 n43) true).run Try.prog w29 = .ok (.tuple #[v45, .bool b46]) w44 ∧
     ∃ n47 : Int, w44.cell? ⟨b23, 1, none⟩ = some (.int .i64 n47) ∧
     Calls Try.prog fn_watch_Watch_Drop #[.pointer (some ⟨b11, 0, none⟩), .int .i64 n47] w44 fun e48 w49 => ∃ b50 : Bool, e48 = .returned (.bool b50) ∧
     brB (!(b50 == b46))
     (K (.bool false) w49)
     (∃ n51 : Int, w49.cell? ⟨b23, 1, none⟩ = some (.int .i64 n51) ∧
     ∃ v52 : Value, ∃ w53 : World, (Builtin.delete_ #[T_map_int_sl_int, T_int] T_x #[.map (some b13), .int .i64 n51]).run Try.prog w49 = .ok v52 w53 ∧
     J18 w53) := by
  obtain ⟨ys, y1, y2, y3⟩ := h.hav
  have h13 : H b13 := y1.bb b13 rfl
  obtain ⟨v, hv⟩ := ma_has y1 y2 o.start
  refine ⟨o.start, o29.cell rfl, v, _, w29, hv, o.start, o29.cell rfl, ?_⟩
  refine (drop_any h.wat o.start).mono ?_
  rintro e w49 ⟨rfl, h49, c49⟩
  have p49 := h.wat0 h49 (Nat.le_refl n) c49
  have o49 := o29.chg c49 a23.1
  refine ⟨_, rfl, brB_f' (by simp) ⟨o.start, o49.cell rfl, ?_⟩⟩
  have y49 := y1.chg c49 (fun k hk hb => (h.bB k hb).2.2.2 hk)
  refine ma_delete y49 o.start fun w53 m53 c53 => ?_
  have c53' : Chg (fun j => j = b13) w49 w53 := c53.mono fun j _ e => (Option.some.inj e).symm
  have p53 := p49.havU m53 (fit_del y2 o.start) (n' := n + 1) (Nat.le_trans (List.length_filter_le ..) (Nat.le_succ_of_le y3)) (Nat.le_succ n) (fun k hk => Or.inl hk) c53'
  exact hJ w53 ⟨_, _, _, _, _, p53, o49.chg c53' (fun e => a23.2.1 (by rw [show b23 = b13 from e]; exact h13)), (hl.chg c49 (fun k hk => (al k hk).1)).chg c53' (fun k hk e => (al k hk).2.1 (by rw [show k = b13 from e]; exact h13))⟩
end
end Go.Proofs.Ytgffaimgnmfifaa

/- WatchPlays: cells are touched. -/
set_option maxRecDepth 100000
namespace Go.Proofs.Ytgffaimgnmfifaa
open Go.RowKit

theorem touchOk_once {f : Int → Option (List Int)} {cs outs : List Int} (h : ∀ k, k ∈ outs ↔ ∃ l, f k = some l ∧ hitB l cs = true) {r : List Int} (hr : TouchOk f cs r) : r = onceI outs := by
  obtain ⟨h1, h2⟩ := onceI_ok outs
  exact uniq_lt hr.1 h1 fun k => (hr.2 k).trans ((h k).symm.trans (h2 k).symm)
theorem hit_in {l cs : List Int} : hitB l cs = true ↔ ∃ x ∈ l, ∃ y ∈ cs, x = y := by
  rw [hitB_iff]
  constructor
  · rintro ⟨c, h1, h2⟩; exact ⟨c, h2, c, h1, rfl⟩
  · rintro ⟨x, h1, y, h2, rfl⟩; exact ⟨x, h2, h1⟩
section
variable {B H D P : Nat → Prop} {w0 w29 : World} {b11 b13 b15 b23 n : Nat} {f : Int → Option (List Int)} {o : OpW} {s30 : Sl} {xs : List Int} {J18 : World → Prop} {K : Value → World → Prop}
theorem arm_touch (h : PW B H D P w0 w29 b11 b13 b15 n f f) (hn : n ≤ 100) (o29 : Ob w29 b23 (owC o) T_hollowaylaw22_Op) (a23 : Ap B H D b23) (hl : Lent w29 s30 xs) (al : ∀ k, s30.blk = some k → Ap B H D k) (hx : Rd intE w0 o.l xs) (hxn : xs.length ≤ 40)
    (hJ : ∀ w98, Aft w0 b11 b13 b15 b23 (n + 1) o s30 xs w98 → J18 w98) :
    ∃ (b54 : Nat) (w55 : World), (Instr.range T_map_int_sl_int (.map (some b13))).run Try.prog w29 = .ok (.pointer (some ⟨b54, 0, none⟩)) w55 ∧
     ∃ (I2 : Sl → World → Prop) (μ2 : Sl → World → Nat), I2 (⟨none, 0, 0⟩ : Sl) w55 ∧ ∀ (want76 : Sl) (w56 : World), I2 want76 w56 →
     ((∃ w57 : World, (Instr.next (.pointer (some ⟨b54, 0, none⟩)) false T_x).run Try.prog w56 = .ok (.tuple #[.bool false]) w57 ∧
     Calls Try.prog fn_hollowaylaw22_rise #[want76.val] w57 fun e81 w82 => ∃ s83 : Sl, e81 = .returned (s83.val) ∧
     ∃ (I5 : Int → World → Prop) (μ5 : Int → World → Nat), I5 (0 : Int) w82 ∧ ∀ (n85 : Int) (w84 : World), I5 n85 w84 →
     brB (decide (n85 < (s83.len : Int)))
     (∃ a86 : Addr, s83.ptr = some a86 ∧ 0 ≤ n85 ∧ n85 < (s83.len : Int) ∧
     ∃ n87 : Int, w84.cell? (Addr.add a86 (Int.toNat n85 * 1)) = some (.int .i64 n87) ∧
     ∃ v88 : Value, ∃ w89 : World, (Builtin.delete_ #[T_map_int_sl_int, T_int] T_x #[.map (some b13), .int .i64 n87]).run Try.prog w84 = .ok v88 w89 ∧
     I5 (wr (n85 + (1 : Int))) w89 ∧ μ5 (wr (n85 + (1 : Int))) w89 < μ5 n85 w84)
     (Calls Try.prog fn_watch_Watch_Touch #[.pointer (some ⟨b11, 0, none⟩), s30.val] w84 fun e90 w91 => ∃ s92 : Sl, e90 = .returned (s92.val) ∧
     Calls Try.prog fn_hollowaybook_Book_Ints #[.pointer (some ⟨b15, 0, none⟩), s92.val] w91 fun e93 w94 => e93 = .returned (.tuple #[]) ∧
     Calls Try.prog fn_hollowaybook_SameInts #[s92.val, s83.val] w94 fun e95 w96 => ∃ b97 : Bool, e95 = .returned (.bool b97) ∧
     brB (!b97)
     (K (.bool false) w96)
     (J18  w96))) ∨
      (∃ (k59 v60 : Value) (w58 : World), (Instr.next (.pointer (some ⟨b54, 0, none⟩)) false T_x).run Try.prog w56 = .ok (.tuple #[.bool true, k59, v60]) w58 ∧
     ∃ (n61 : Int) (s62 : Sl) (w63 : World), (Instr.entry (.pointer (some ⟨b54, 0, none⟩))).run Try.prog w58 = .ok (.tuple #[.int .i64 n61, s62.val]) w63 ∧
     ∃ (I3 : Bool → Int → World → Prop) (μ3 : Bool → Int → World → Nat), I3 false (0 : Int) w63 ∧ ∀ (in75 : Bool) (n65 : Int) (w64 : World), I3 in75 n65 w64 →
     brB (decide (n65 < (s62.len : Int)))
     (∃ a66 : Addr, s62.ptr = some a66 ∧ 0 ≤ n65 ∧ n65 < (s62.len : Int) ∧
     ∃ n67 : Int, w64.cell? (Addr.add a66 (Int.toNat n65 * 1)) = some (.int .i64 n67) ∧
     ∃ s68 : Sl, w64.cell? ⟨b23, 2, none⟩ = some (s68.val) ∧
     ∃ (I4 : Bool → Int → World → Prop) (μ4 : Bool → Int → World → Nat), I4 in75 (0 : Int) w64 ∧ ∀ (in73 : Bool) (n70 : Int) (w69 : World), I4 in73 n70 w69 →
     brB (decide (n70 < (s68.len : Int)))
     (∃ J44 : Bool → World → Prop, (∀ (in162 : Bool) (w74 : World), J44 in162 w74 →
     I4 in162 (wr (n70 + (1 : Int))) w74 ∧ μ4 in162 (wr (n70 + (1 : Int))) w74 < μ4 in73 n70 w69) ∧
     ∃ a71 : Addr, s68.ptr = some a71 ∧ 0 ≤ n70 ∧ n70 < (s68.len : Int) ∧
     ∃ n72 : Int, w69.cell? (Addr.add a71 (Int.toNat n70 * 1)) = some (.int .i64 n72) ∧
     brB in73
     (J44 true w69)
     (J44 (n67 == n72) w69))
     (I3 in73 (wr (n65 + (1 : Int))) w69 ∧ μ3 in73 (wr (n65 + (1 : Int))) w69 < μ3 in75 n65 w64))
     (brB in75
     (∀ (b77 : Nat) (w78 : World), b77 = w64.heap.size → w78 = World.alloc w64 (.cells #[.int .i64 n61] T_int) →
     ∃ s79 : Sl, ∃ w80 : World, (Builtin.append_ #[T_sl_int, T_sl_int] T_sl_int #[want76.val, .slice (some ⟨b77, 0, none⟩) 1 1]).run Try.prog w78 = .ok (s79.val) w80 ∧
     I2 s79 w80 ∧ μ2 s79 w80 < μ2 want76 w56)
     (I2 want76 w64 ∧ μ2 want76 w64 < μ2 want76 w56)))) := by
  obtain ⟨ys, y1, y2, y3⟩ := h.hav
  have h13 : H b13 := y1.bb b13 rfl
  have hm : MR w29 b13 ys := y1.mo
  have hbl := hm.lt
  obtain ⟨w55, r55, i55, c55, z55⟩ := mr_range mapT hm
  refine ⟨_, w55, r55, fun out W => ∃ done, IT W w29.heap.size b13 ys done ∧ Ow intE W out ((done.filter fun e => hitB e.l xs).map (·.k)) ∧ Chg No w29 W ∧ ∀ k, out.blk = some k → w29.heap.size < k, fun _ W => ys.length - itN W w29.heap.size, ⟨[], i55, Ow.nil _ _, c55, fun k hk => by cases hk⟩, ?_⟩
  rintro out w6 ⟨done, i6, o6, c6, b6⟩
  rcases mr_next i6 T_x with ⟨ha, hnx⟩ | ⟨e, w8, m1, m2, hnx, i8, c8⟩
  · obtain ⟨d1, d2⟩ := i6.all ha
    refine Or.inl ⟨w6, hnx, ?_⟩
    obtain ⟨outs, houts⟩ : ∃ outs, outs = (done.filter fun e => hitB e.l xs).map (·.k) := ⟨_, rfl⟩
    rw [← houts] at o6
    have hol : outs.length ≤ ys.length := by
      rw [houts, List.length_map]; exact Nat.le_trans (List.length_filter_le ..) (Nat.le_of_eq d2)
    have hmem : ∀ k, k ∈ outs ↔ ∃ l, f k = some l ∧ hitB l xs = true := fun k => by
      rw [houts, List.mem_map]
      constructor
      · rintro ⟨e, he, rfl⟩
        obtain ⟨he1, he2⟩ := List.mem_filter.1 he
        refine ⟨e.l, ?_, he2⟩
        rw [← y2 e.k, mgt_mem hm.keys ((d1 e).1 he1)]; rfl
      · rintro ⟨l, hk, hh⟩
        rw [← y2 k] at hk
        obtain ⟨e, he, rfl⟩ := Option.map_eq_some_iff.1 hk
        exact ⟨e, List.mem_filter.2 ⟨(d1 e).2 (mgt_some he).1, hh⟩, (mgt_some he).2⟩
    have p6 := h.no c6
    refine (rise_any o6.rd (by omega)).mono ?_
    rintro e w82 ⟨s83, rfl, o83, c83, b83⟩
    refine ⟨s83, rfl, ?_⟩
    have p82 := p6.no c83
    have c82 := trN c6 c83
    have hol2 := onceI_len outs
    have hlen := o83.rd.len
    have z6 := c6.size
    have hmh : ∀ k, s83.blk = some k → k ≠ b13 := fun k hk e => by have := b83 k hk; omega
    refine ⟨fun m W => 0 ≤ m ∧ m ≤ (onceI outs).length ∧ (∃ zs, PW B H D P w0 W b11 b13 b15 n f (fun q => if q ∈ (onceI outs).take m.toNat then none else f q) ∧ MAt H W (some b13) zs ∧ Fit zs (fun q => if q ∈ (onceI outs).take m.toNat then none else f q) ∧ zs.length ≤ n) ∧ Chg (fun j => j = b13) w82 W, fun m _ => (onceI outs).length - m.toNat, ⟨by omega, by omega, ⟨ys, by simpa using p82, y1.chg c82 (fun _ _ h => h), by simpa using y2, y3⟩, Chg.refl _ _⟩, ?_⟩
    rintro m w84 ⟨m0, m1, ⟨zs, p84, mz, fz, lz⟩, c84⟩
    rw [hlen]
    refine brB_of (fun hd => ?_) (fun hd => ?_)
    · have hd := of_decide_eq_true hd
      obtain ⟨x, hx'⟩ : ∃ x, (onceI outs)[m.toNat]? = some x := ⟨_, List.getElem?_eq_getElem (by omega)⟩
      obtain ⟨a86, ha86, q1, q2, hc86⟩ := rd_ix (o83.chg c84 hmh).rd m0 hx'
      rw [hlen] at q2
      refine ⟨a86, ha86, q1, q2, x, hc86, ?_⟩
      refine ma_delete mz x fun w89 m89 c89 => ?_
      rw [wr_of (by omega) (by omega)]
      have c89' : Chg (fun j => j = b13) w84 w89 := c89.mono fun j _ e => (Option.some.inj e).symm
      have ff : Fit (zs.filter fun e => decide (e.k ≠ x)) (fun q => if q ∈ (onceI outs).take (m + 1).toNat then none else f q) := by
        have := fit_del fz x
        have et : (onceI outs).take (m + 1).toNat = (onceI outs).take m.toNat ++ [x] := by
          rw [show (m + 1).toNat = m.toNat + 1 by omega, List.take_add_one, hx']; rfl
        rw [et]
        refine fun q => (this q).trans ?_
        show (if q = x then none else if q ∈ (onceI outs).take m.toNat then none else f q) = if q ∈ (onceI outs).take m.toNat ++ [x] then none else f q
        by_cases h1 : q = x
        · simp [h1]
        · by_cases h2 : q ∈ (onceI outs).take m.toNat <;> simp [h1, h2]
      have ll : (zs.filter fun e => decide (e.k ≠ x)).length ≤ n := Nat.le_trans (List.length_filter_le ..) lz
      exact ⟨⟨by omega, by omega, ⟨_, p84.havU m89 ff ll (Nat.le_refl _) (fun k hk => Or.inl hk) c89', m89, ff, ll⟩, c84.trans c89' (fun _ _ h => h) (fun _ _ h => h)⟩, by show (onceI outs).length - (m + 1).toNat < (onceI outs).length - m.toNat; omega⟩
    · have hd := of_decide_eq_false hd
      have et : (onceI outs).take m.toNat = onceI outs := List.take_of_length_le (by omega)
      rw [et] at p84
      have l84 : Lent w84 s30 xs := (hl.no c82).chg c84 (fun k hk e => (al k hk).2.1 (by rw [show k = b13 from e]; exact h13))
      have o84 : Ob w84 b23 (owC o) T_hollowaylaw22_Op := (o29.no c82).chg c84 (fun e => a23.2.1 (by rw [show b23 = b13 from e]; exact h13))
      have o83' := o83.chg c84 hmh
      refine (touch_any p84.wat (fun k hk => (p84.bB k hk).2.1) l84.rd (by omega) (by omega)).mono ?_
      rintro e w91 ⟨t, r, rfl, o91, tk, rl, h91, c91, b91⟩
      have hr : r = onceI outs := touchOk_once hmem tk
      subst hr
      have p91 := p84.wat0 h91 (Nat.le_refl n) c91
      have o83b : Ow intE w91 s83 (onceI outs) := o83'.chg c91 (fun k hk hb => by have := b83 k hk; have := (h.bB k hb).2.1; omega)
      refine ⟨t, rfl, ?_⟩
      refine (p91.keep o91 (by omega) (fun k hk => p84.apart (b91 k hk))).mono ?_
      rintro e w94 ⟨rfl, D', P', p94, c94, hD', hP'⟩
      have nP : ∀ k, w29.heap.size ≤ k → k < w84.heap.size → ¬ P k := fun k hk hk2 hp => by have := (h.bD k (h.bP k hp)).2; omega
      have z84 := c84.size
      have z83 := c83.size
      have q91 : Ow intE w94 t (onceI outs) := o91.chg c94 (fun k hk hp => by have := b91 k hk; have := (h.bD k (h.bP k hp)).2; omega)
      have q83 : Ow intE w94 s83 (onceI outs) := o83b.chg c94 (fun k hk hp => by have := b83 k hk; have := (h.bD k (h.bP k hp)).2; omega)
      refine ⟨rfl, ?_⟩
      refine (sameInts_ok t s83 _ _ q91.rd q83.rd).mono ?_
      rintro e w96 ⟨rfl, c96⟩
      refine ⟨_, rfl, brB_f' rfl (hJ w96 ⟨B, H, D', P', (fun q => if q ∈ onceI outs then none else f q), ?_, ?_, ?_⟩)⟩
      · have := p94.no c96
        obtain ⟨zs', r1, r2, r3⟩ := this.hav
        obtain ⟨mb, xs', a1, a2, a3, a4, a5⟩ := this.wat
        exact ⟨⟨mb, xs', a1, a2, a3, by omega, a5⟩, ⟨zs', r1, r2, by omega⟩, this.bok, this.bB, this.bH, this.bD, this.bP, this.chg⟩
      · exact ((o84.chg c91 a23.1).chg c94 (fun hp => a23.2.2 (h.bP _ hp))).no c96
      · exact ((l84.chg c91 (fun k hk => (al k hk).1)).chg c94 (fun k hk hp => (al k hk).2.2 (h.bP _ hp))).no c96
  · refine Or.inr ⟨_, _, w8, hnx, e.k, e.v, w8, mr_entry i8, ?_⟩
    have c8' : Chg No w29 w8 := c6.trans c8 (fun _ _ h => h) (fun k hk e => by omega)
    obtain ⟨e1, e2, e3, e4⟩ := y1.el e m1
    have hlt := i6.more m1 m2
    have ev8 := e1.no c8'
    have evl := ev8.rd.len
    have o8 := o29.no c8'
    have hx8 := hx.no (trN h.chg c8')
    have hxl := hx8.len
    refine ⟨fun inn m W => 0 ≤ m ∧ m ≤ e.l.length ∧ (inn = true ↔ ∃ x ∈ e.l.take m.toNat, ∃ y ∈ xs, x = y) ∧ w8 = W, fun _ m _ => e.l.length - m.toNat, ⟨by omega, by omega, by simp, rfl⟩, ?_⟩
    rintro inn m w64 ⟨m0, m1', hin, rfl⟩
    rw [evl]
    refine brB_of (fun hd => ?_) (fun hd => ?_)
    · have hd := of_decide_eq_true hd
      obtain ⟨x, hx'⟩ : ∃ x, e.l[m.toNat]? = some x := ⟨_, List.getElem?_eq_getElem (by omega)⟩
      obtain ⟨a66, ha66, q1, q2, hc66⟩ := rd_ix ev8.rd m0 hx'
      rw [evl] at q2
      have et : e.l.take (m + 1).toNat = e.l.take m.toNat ++ [x] := by
        rw [show (m + 1).toNat = m.toNat + 1 by omega, List.take_add_one, hx']; rfl
      refine ⟨a66, ha66, q1, q2, x, hc66, o.l, o8.cell rfl, ?_⟩
      refine ⟨fun i' q W => 0 ≤ q ∧ q ≤ xs.length ∧ (i' = true ↔ inn = true ∨ x ∈ xs.take q.toNat) ∧ w8 = W, fun _ q _ => xs.length - q.toNat, ⟨by omega, by omega, by simp, rfl⟩, ?_⟩
      rintro i' q w69 ⟨q0, q1', hi, rfl⟩
      rw [hxl]
      refine brB_of (fun hd2 => ?_) (fun hd2 => ?_)
      · have hd2 := of_decide_eq_true hd2
        obtain ⟨y, hy⟩ : ∃ y, xs[q.toNat]? = some y := ⟨_, List.getElem?_eq_getElem (by omega)⟩
        obtain ⟨a71, ha71, q3, q4, hc71⟩ := rd_ix hx8 q0 hy
        rw [hxl] at q4
        refine ⟨fun i'' W => (i'' = true ↔ inn = true ∨ x ∈ xs.take (q + 1).toNat) ∧ w8 = W, ?_, a71, ha71, q3, q4, y, hc71, ?_⟩
        · rintro i'' W ⟨hh, rfl⟩
          rw [wr_of (by omega) (by omega)]
          exact ⟨⟨by omega, by omega, hh, rfl⟩, by show xs.length - (q + 1).toNat < xs.length - q.toNat; omega⟩
        · rw [in_step q0 hy]
          refine brB_of (fun ht => ⟨⟨fun _ => ?_, fun _ => rfl⟩, rfl⟩) (fun hf => ⟨?_, rfl⟩)
          · rcases hi.1 ht with h | h
            · exact Or.inl h
            · exact Or.inr (Or.inl h)
          · have hni : ¬ (inn = true ∨ x ∈ xs.take q.toNat) := fun h => by rw [hi.2 h] at hf; cases hf
            constructor
            · intro h
              exact Or.inr (Or.inr (by have : x = y := by simpa using h
                                       exact this.symm))
            · rintro (h | h | h)
              · exact absurd (Or.inl h) hni
              · exact absurd (Or.inr h) hni
              · simp [h]
      · have hd2 := of_decide_eq_false hd2
        have et2 : xs.take q.toNat = xs := List.take_of_length_le (by omega)
        rw [et2] at hi
        rw [wr_of (by omega) (by omega)]
        refine ⟨⟨by omega, by omega, ?_, rfl⟩, by show e.l.length - (m + 1).toNat < e.l.length - m.toNat; omega⟩
        rw [hi, hin, et]
        constructor
        · rintro (⟨x', h1, h2⟩ | h)
          · exact ⟨x', List.mem_append_left _ h1, h2⟩
          · exact ⟨x, List.mem_append_right _ (by simp), x, h, rfl⟩
        · rintro ⟨x', h1, y, h2, rfl⟩
          rcases List.mem_append.1 h1 with h1 | h1
          · exact Or.inl ⟨x', h1, x', h2, rfl⟩
          · rw [List.mem_singleton.1 h1] at h2; exact Or.inr h2
    · have hd := of_decide_eq_false hd
      have et : e.l.take m.toNat = e.l := List.take_of_length_le (by omega)
      rw [et, ← hit_in] at hin
      have o8' : Ow intE w8 out ((done.filter fun e => hitB e.l xs).map (·.k)) := o6.chg c8 (fun k hk e => by have := b6 k hk; omega)
      have hdl : ((done.filter fun e => hitB e.l xs).map (·.k)).length ≤ 1000 := by
        rw [List.length_map]
        have := List.length_filter_le (fun e : Et => hitB e.l xs) done
        omega
      refine brB_of (fun hh => ?_) (fun hh => ?_)
      · have hh' := hin.1 hh
        intro b18 w19 hb18 hw19
        have c19 : Chg No w8 w19 := Go.Proofs.Ytgffaimgnmfifaa.al hw19
        have hlit : Ow intE w19 ⟨some ⟨b18, 0, none⟩, 1, 1⟩ [e.k] := by rw [hw19, hb18]; exact Ow.lit w8 [e.k] [.int .i64 e.k] rfl (by unfold maxLen; simp)
        refine app_ok intOk rfl rfl (o8'.no c19) hlit.rd (by show (_ + 1) * 8 ≤ _; omega) (by show _ + 1 ≤ _; unfold maxLen; omega) ?_
        intro s20 w21 o21 c21 b21
        have hsz : w29.heap.size < w8.heap.size := i8.lt.1
        have i21 := (i8.chg c19 (fun h => h) (fun h => h)).chg c21 (fun h => by have := b6 _ h; omega) (fun h => by have := b6 _ h; omega)
        refine ⟨⟨_, i21, ?_, (trN c8' c19).trans c21 (fun _ _ h => h) (fun k hk h => by have := b6 _ h; omega), fun k hk => ?_⟩, ?_⟩
        · rw [List.filter_append, List.map_append, List.filter_cons, if_pos hh']; exact o21
        · rcases b21 with h | h
          · exact b6 k (h ▸ hk)
          · have := Option.some.inj (h.symm.trans hk)
            have := c19.size; omega
        · show ys.length - itN w21 w29.heap.size < ys.length - itN w6 w29.heap.size
          rw [i21.cnt, i6.cnt, List.length_append, List.length_singleton]; omega
      · have hh' : hitB e.l xs = false := by
          cases hq : hitB e.l xs with
          | false => rfl
          | true => rw [hin.2 hq] at hh; cases hh
        refine ⟨⟨_, i8, ?_, c8', b6⟩, ?_⟩
        · rw [List.filter_append, List.map_append, List.filter_cons, if_neg (by rw [hh']; decide)]
          simpa using o8'
        · show ys.length - itN w8 w29.heap.size < ys.length - itN w6 w29.heap.size
          rw [i8.cnt, i6.cnt, List.length_append, List.length_singleton]; omega
end
end Go.Proofs.Ytgffaimgnmfifaa

/- WatchPlays: what is asked behind each operation. -/
set_option maxRecDepth 100000
namespace Go.Proofs.Ytgffaimgnmfifaa
open Go.RowKit

theorem flat_len {ds : List Et} {m : Nat} (h : ∀ e ∈ ds, e.l.length ≤ m) : (ds.flatMap (·.l)).length ≤ ds.length * m := by
  induction ds with
  | nil => simp
  | cons a r ih =>
    have h1 := h a List.mem_cons_self
    have h2 := ih fun e he => h e (List.mem_cons_of_mem _ he)
    rw [List.flatMap_cons, List.length_append, List.length_cons, Nat.succ_mul]; omega
section
variable {w0 w98 : World} {b11 b13 b15 b23 n : Nat} {o : OpW} {s30 : Sl} {xs : List Int} {N : World → Prop} {K : Value → World → Prop}
theorem tail_any (h : Aft w0 b11 b13 b15 b23 n o s30 xs w98) (hn : n ≤ 100) (hx : Rd intE w0 o.l xs) (hxn : xs.length ≤ 40) (ask2 : Int)
    (hN : ∀ w137 B H D P f, PW B H D P w0 w137 b11 b13 b15 n f f → N w137) :
     ∃ s99 : Sl, w98.cell? ⟨b23, 2, none⟩ = some (s99.val) ∧
     Calls Try.prog fn_hollowaybook_StaysInts #[s30.val, s99.val] w98 fun e100 w101 => ∃ b102 : Bool, e100 = .returned (.bool b102) ∧
     brB (!b102)
     (K (.bool false) w101)
     (∃ (b103 : Nat) (w104 : World), (Instr.range T_map_int_sl_int (.map (some b13))).run Try.prog w101 = .ok (.pointer (some ⟨b103, 0, none⟩)) w104 ∧
     ∃ (I6 : Sl → World → Prop) (μ6 : Sl → World → Nat), I6 (⟨none, 0, 0⟩ : Sl) w104 ∧ ∀ (all113 : Sl) (w105 : World), I6 all113 w105 →
     ((∃ w106 : World, (Instr.next (.pointer (some ⟨b103, 0, none⟩)) false T_x).run Try.prog w105 = .ok (.tuple #[.bool false]) w106 ∧
     Calls Try.prog fn_watch_Watch_Cells #[.pointer (some ⟨b11, 0, none⟩)] w106 fun e116 w117 => ∃ s118 : Sl, e116 = .returned (s118.val) ∧
     Calls Try.prog fn_watch_Watch_Of #[.pointer (some ⟨b11, 0, none⟩), .int .i64 ask2] w117 fun e119 w120 => ∃ s121 : Sl, e119 = .returned (s121.val) ∧
     Calls Try.prog fn_hollowaybook_Book_Ints #[.pointer (some ⟨b15, 0, none⟩), s118.val] w120 fun e122 w123 => e122 = .returned (.tuple #[]) ∧
     Calls Try.prog fn_hollowaybook_Book_Ints #[.pointer (some ⟨b15, 0, none⟩), s121.val] w123 fun e124 w125 => e124 = .returned (.tuple #[]) ∧
     ∃ J71 : Bool → World → Prop, (∀ (b138 : Bool) (w137 : World), J71 b138 w137 →
     brB b138
     (K (.bool false) w137)
     (N w137)) ∧
     Calls Try.prog fn_hollowaylaw22_rise #[all113.val] w125 fun e126 w127 => ∃ s128 : Sl, e126 = .returned (s128.val) ∧
     Calls Try.prog fn_hollowaybook_SameInts #[s118.val, s128.val] w127 fun e129 w130 => ∃ b131 : Bool, e129 = .returned (.bool b131) ∧
     brB (!b131)
     (J71 true w130)
     (∃ s133 : Sl, ∃ w132 : World, (Instr.lookup T_map_int_sl_int (.map (some b13)) (.int .i64 ask2) false).run Try.prog w130 = .ok (s133.val) w132 ∧
     Calls Try.prog fn_hollowaybook_SameInts #[s121.val, s133.val] w132 fun e134 w135 => ∃ b136 : Bool, e134 = .returned (.bool b136) ∧
     J71 (!b136) w135)) ∨
      (∃ (k108 v109 : Value) (w107 : World), (Instr.next (.pointer (some ⟨b103, 0, none⟩)) false T_x).run Try.prog w105 = .ok (.tuple #[.bool true, k108, v109]) w107 ∧
     ∃ (n110 : Int) (s111 : Sl) (w112 : World), (Instr.entry (.pointer (some ⟨b103, 0, none⟩))).run Try.prog w107 = .ok (.tuple #[.int .i64 n110, s111.val]) w112 ∧
     ∃ s114 : Sl, ∃ w115 : World, (Builtin.append_ #[T_sl_int, T_sl_int] T_sl_int #[all113.val, s111.val]).run Try.prog w112 = .ok (s114.val) w115 ∧
     I6 s114 w115 ∧ μ6 s114 w115 < μ6 all113 w105))) := by
  obtain ⟨B, H, D, P, f, p98, o98, l98⟩ := h
  refine ⟨o.l, o98.cell rfl, ?_⟩
  refine (staysInts_any l98 (hx.no p98.chg)).mono ?_
  rintro e w101 ⟨rfl, c101⟩
  have p101 := p98.no c101
  refine ⟨_, rfl, brB_f' rfl ?_⟩
  obtain ⟨ys, y1, y2, y3⟩ := p101.hav
  have hm : MR w101 b13 ys := y1.mo
  have hbl := hm.lt
  obtain ⟨w104, r104, i104, c104, z104⟩ := mr_range mapT hm
  refine ⟨_, w104, r104, fun out W => ∃ done, IT W w101.heap.size b13 ys done ∧ Ow intE W out (done.flatMap (·.l)) ∧ Chg No w101 W ∧ ∀ k, out.blk = some k → w101.heap.size < k, fun _ W => ys.length - itN W w101.heap.size, ⟨[], i104, Ow.nil _ _, c104, fun k hk => by cases hk⟩, ?_⟩
  rintro out w6 ⟨done, i6, o6, c6, b6⟩
  rcases mr_next i6 T_x with ⟨ha, hnx⟩ | ⟨e, w8, m1, m2, hnx, i8, c8⟩
  · obtain ⟨d1, d2⟩ := i6.all ha
    refine Or.inl ⟨w6, hnx, ?_⟩
    have hfl : (done.flatMap (·.l)).length ≤ done.length * 1000 := flat_len fun e he => (y1.el e ((d1 e).1 he)).2.2.1
    have hmem : ∀ x, x ∈ done.flatMap (·.l) ↔ ∃ k l, f k = some l ∧ x ∈ l := fun x => by
      rw [List.mem_flatMap]
      constructor
      · rintro ⟨e, he, hx⟩
        refine ⟨e.k, e.l, ?_, hx⟩
        rw [← y2 e.k, mgt_mem hm.keys ((d1 e).1 he)]; rfl
      · rintro ⟨k, l, hk, hx⟩
        rw [← y2 k] at hk
        obtain ⟨e, he, rfl⟩ := Option.map_eq_some_iff.1 hk
        exact ⟨e, (d1 e).2 (mgt_some he).1, hx⟩
    have p6 := p101.no c6
    refine (cells_any p6.wat (by omega)).mono ?_
    rintro e w117 ⟨s118, r, rfl, o118, pr, mr, lr, c117, b117⟩
    have p117 := p6.no c117
    refine ⟨s118, rfl, ?_⟩
    refine (of_any p117.wat ask2).mono ?_
    rintro e w120 ⟨s121, rfl, o121, c120, b120⟩
    have p120 := p117.no c120
    have o118b := o118.no c120
    refine ⟨s121, rfl, ?_⟩
    have hof : ((f ask2).getD []).length ≤ 1000 := by
      obtain ⟨zs, z1, z2, z3⟩ := p120.hav
      obtain ⟨s, _, _, hl⟩ := ma_get z1 z2 ask2
      exact hl
    refine (p120.keep o118b (by omega) (fun k hk => p6.apart (b117 k hk))).mono ?_
    rintro e w123 ⟨rfl, D1, P1, p123, c123, hD1, hP1⟩
    refine ⟨rfl, ?_⟩
    have k117 := c117.size
    have k120 := c120.size
    have k123 := c123.size
    have nP : ∀ k, w6.heap.size ≤ k → ¬ P k := fun k hk hp => by have := (p6.bD k (p6.bP k hp)).2; omega
    have nD : ∀ k, w6.heap.size ≤ k → ¬ D k := fun k hk hp => by have := (p6.bD k hp).2; omega
    have o118c := o118b.chg c123 (fun k hk hp => nP k (b117 k hk) hp)
    have o121c := o121.chg c123 (fun k hk hp => nP k (by have := b120 k hk; omega) hp)
    have l118 : ∀ k, s118.blk = some k → k < w117.heap.size := fun k hk => o118.lt hk
    have l121 : ∀ k, s121.blk = some k → k < w120.heap.size := fun k hk => o121.lt hk
    refine (p123.keep o121c (by omega) (fun k hk => ?_)).mono ?_
    · have q := p117.apart (b120 k hk)
      refine ⟨q.1, q.2.1, q.2.2.1, fun hd => ?_⟩
      rcases hD1 k hd with hd | hd | hd
      · exact q.2.2.2 hd
      · have := l118 k hd; have := b120 k hk; omega
      · have := l121 k hk; omega
    rintro e w125 ⟨rfl, D2, P2, p125, c125, hD2, hP2⟩
    refine ⟨rfl, ?_⟩
    have o118d := o118c.chg c125 (fun k hk hp => by
      rcases hP1 k hp with hp | hp
      · exact nP k (b117 k hk) hp
      · have := l118 k hk; omega)
    have o121d := o121c.chg c125 (fun k hk hp => by
      rcases hP1 k hp with hp | hp
      · exact nP k (by have := b120 k hk; omega) hp
      · have := l121 k hk; omega)
    refine ⟨fun b' W => b' = false ∧ Chg No w125 W, ?_, ?_⟩
    · rintro b' W ⟨rfl, cW⟩
      exact brB_f (hN W _ _ _ _ _ (p125.no cW))
    have hla : ∀ k, out.blk = some k → k < w6.heap.size := fun k hk => o6.lt hk
    have o6d : Ow intE w125 out (done.flatMap (·.l)) := (((o6.no c117).no c120).chg c123 (fun k hk hp => by have h1 := hla k hk; have h2 := b6 k hk; have h3 := (p101.bD k (p101.bP k hp)).2; omega)).chg c125 (fun k hk hp => by
      rcases hP1 k hp with hp | hp
      · have h2 := b6 k hk; have h3 := (p101.bD k (p101.bP k hp)).2; omega
      · have := hla k hk; omega)
    refine (rise_any o6d.rd (by omega)).mono ?_
    rintro e w127 ⟨s128, rfl, o128, c127, b127⟩
    refine ⟨s128, rfl, ?_⟩
    have hon := onceI_ok (done.flatMap (·.l))
    have er : r = onceI (done.flatMap (·.l)) := uniq_lt pr hon.1 fun x => (mr x).trans ((hmem x).symm.trans (hon.2 x).symm)
    rw [← er] at o128
    refine (sameInts_ok s118 s128 _ _ (o118d.no c127).rd o128.rd).mono ?_
    rintro e w130 ⟨rfl, c130⟩
    refine ⟨_, rfl, brB_f' rfl ?_⟩
    have p130 := (p125.no c127).no c130
    obtain ⟨zs, z1, z2, z3⟩ := p130.hav
    obtain ⟨s133, hs, os, _⟩ := ma_get z1 z2 ask2
    refine ⟨s133, w130, hs, ?_⟩
    refine (sameInts_ok s121 s133 _ _ ((o121d.no c127).no c130).rd os.rd).mono ?_
    rintro e w135 ⟨rfl, c135⟩
    exact ⟨_, rfl, rfl, trN c127 (trN c130 c135)⟩
  · refine Or.inr ⟨_, _, w8, hnx, e.k, e.v, w8, mr_entry i8, ?_⟩
    have c8' : Chg No w101 w8 := c6.trans c8 (fun _ _ h => h) (fun k hk e => by omega)
    obtain ⟨e1, e2, e3, e4⟩ := y1.el e m1
    have hlt := i6.more m1 m2
    have o8' : Ow intE w8 out (done.flatMap (·.l)) := o6.chg c8 (fun k hk e => by have := b6 k hk; omega)
    have hfl : (done.flatMap (·.l)).length ≤ done.length * 1000 := flat_len fun e he => (y1.el e (i6.sub e he)).2.2.1
    refine app_ok intOk rfl rfl o8' (e1.no c8').rd (by show _ * 8 ≤ _; omega) (by unfold maxLen; omega) ?_
    intro s114 w115 o115 c115 b115
    have hsz : w101.heap.size < w8.heap.size := i8.lt.1
    have i115 := i8.chg c115 (fun h => by have := b6 _ h; omega) (fun h => by have := b6 _ h; omega)
    refine ⟨⟨_, i115, ?_, c8'.trans c115 (fun _ _ h => h) (fun k hk h => by have := b6 _ h; omega), fun k hk => ?_⟩, ?_⟩
    · rw [List.flatMap_append, List.flatMap_singleton]; exact o115
    · rcases b115 with h | h
      · exact b6 k (h ▸ hk)
      · have := Option.some.inj (h.symm.trans hk); omega
    · show ys.length - itN w115 w101.heap.size < ys.length - itN w6 w101.heap.size
      rw [i115.cnt, i6.cnt, List.length_append, List.length_singleton]; omega
end
/-- The law. -/
theorem watchPlays_any {w : World} {s : Sl} {os : List OpW} (ask : Int) (hs : Rd owE w s os) (ho : ∀ o ∈ os, ∃ xs, Rd intE w o.l xs) :
    Calls Try.prog fn_hollowaylaw22_WatchPlays #[s.val, .int .i64 ask] w fun e w' => e = .returned (.bool true) ∧ Chg No w w' := by
  refine (hollowaylaw22_WatchPlays_lift (K := fun v w' => v = .bool true ∧ Chg No w w') ?_).mono (by rintro e w' ⟨v, rfl, rfl, h⟩; exact ⟨rfl, h⟩)
  unfold hollowaylaw22_WatchPlays_sh
  have hsl := hs.len
  refine ⟨fun b7 w6 => (b7 = false → os.length ≤ 60) ∧ Chg No w w6, ?_, ?_⟩
  · rintro b7 w6 ⟨hl, c6⟩
    refine brB_of (fun hh => ?_) (fun hh => ?_)
    · refine (alive_any w6).mono ?_
      rintro e w9 ⟨rfl, c9⟩
      exact ⟨_, rfl, rfl, trN c6 c9⟩
    have hl := hl hh
    intro b11 w12 hb11 hw12 b13 w14 hb13 hw14 b15 w16 hb15 hw16
    have c12 : Chg No w6 w12 := al hw12
    have c14 : Chg No w12 w14 := al hw14
    have c16 : Chg No w14 w16 := al hw16
    have z6 := c6.size
    have e12 : w12.heap.size = w6.heap.size + 1 := by rw [hw12]; simp
    have e14 : w14.heap.size = w12.heap.size + 1 := by rw [hw14]; simp
    have e16 : w16.heap.size = w14.heap.size + 1 := by rw [hw16]; simp
    have wa : WA (fun k => k = b11) w16 b11 0 (fun _ => none) := ((WA.new (B := fun k => k = b11) hb11 hw12 rfl 0).chg c14 (fun _ _ h => h)).chg c16 (fun _ _ h => h)
    have ma : MAt (fun k => k = b13) w16 (some b13) [] := ⟨(MR.new hb13 hw14).no c16, (fun e he => by cases he), fun b e => (Option.some.inj e).symm⟩
    have bk : BkJ (fun k => k = b15) (fun k => k = b15) w16 b15 := BkJ.empty (by rw [hw16, hb15]; exact Ob.new w14 (bookI nilS nilS) T_hollowaybook_Book) rfl rfl
    have p16 : PW (fun k => k = b11) (fun k => k = b13) (fun k => k = b15) (fun k => k = b15) w w16 b11 b13 b15 0 (fun _ => none) (fun _ => none) := by
      refine ⟨wa, ⟨[], ma, fit_none, Nat.le_refl _⟩, bk, fun k hk => ?_, fun k hk => ?_, fun k hk => ?_, fun k hk => hk, trN (trN (trN c6 c12) c14) c16⟩
      · have hk : k = b11 := hk
        exact ⟨by omega, by omega, fun h => by have h : k = b15 := h; omega, fun h => by have h : k = b13 := h; omega⟩
      · have hk : k = b13 := hk
        exact ⟨by omega, by omega, fun h => by have h : k = b15 := h; omega⟩
      · have hk : k = b15 := hk
        exact ⟨by omega, by omega⟩
    refine ⟨fun i W => 0 ≤ i ∧ i ≤ os.length ∧ ∃ B H D P f, PW B H D P w W b11 b13 b15 i.toNat f f, fun i _ => os.length - i.toNat, ⟨by omega, by omega, _, _, _, _, _, p16⟩, ?_⟩
    rintro i w17 ⟨i0, i1, B, H, D, P, f, p17⟩
    rw [hsl]
    refine brB_of (fun hd => ?_) (fun hd => ?_)
    · have hd := of_decide_eq_true hd
      obtain ⟨o, ho'⟩ : ∃ o, os[i.toNat]? = some o := ⟨_, List.getElem?_eq_getElem (by omega)⟩
      obtain ⟨xs, hxs⟩ := ho o (List.mem_of_getElem? ho')
      obtain ⟨a, ha, hc⟩ := (hs.no p17.chg).at ho'
      refine ⟨a, ha, i0, hd, o.kind, o.start, o.l, ?_, hc 1 _ rfl, hc 2 _ rfl, ?_⟩
      · have := hc 0 _ rfl
        rw [addA0] at this; exact this
      intro b23 w24 hb23 hw24
      obtain ⟨q1, q2⟩ := owput o hb23 hw24
      refine ⟨q1, fun w25 hw25 => ?_⟩
      obtain ⟨o25, c25⟩ := q2 w25 hw25
      have p25 := p17.no c25
      have hxl := hxs.len
      refine ⟨o.l, o25.cell rfl, ?_⟩
      rw [hxl]
      refine brB_of (fun _ => ⟨rfl, p25.chg⟩) (fun h40 => ?_)
      have h40 := of_decide_eq_false h40
      refine ⟨o.l, o25.cell rfl, ?_⟩
      refine (lentInts_any (hxs.no p25.chg) (by omega)).mono ?_
      rintro e w29 ⟨s30, rfl, l29, c29, b29⟩
      have p29 := p25.no c29
      have o29 := o25.no c29
      have a23 : Ap B H D b23 := by
        have := p17.apart (k := b23) (by omega)
        exact ⟨this.2.1, this.2.2.1, this.2.2.2⟩
      have a30 : ∀ k, s30.blk = some k → Ap B H D k := fun k hk => by
        have := p25.apart (b29 k hk).1
        exact ⟨this.2.1, this.2.2.1, this.2.2.2⟩
      refine ⟨s30, rfl, fun w98 => Aft w b11 b13 b15 b23 (i.toNat + 1) o s30 xs w98, fun w98 h98 => ?_, o.kind, o29.cell rfl, ?_⟩
      · refine tail_any (K := fun v w' => v = .bool true ∧ Chg No w w') (N := fun w137 => (0 ≤ wr (i + 1) ∧ wr (i + 1) ≤ os.length ∧ ∃ B H D P f, PW B H D P w w137 b11 b13 b15 (wr (i + 1)).toNat f f) ∧ os.length - (wr (i + 1)).toNat < os.length - i.toNat) h98 (by omega) hxs (by omega) ask fun w137 B' H' D' P' f' p137 => ?_
        rw [wr_of (by omega) (by omega)]
        have et : (i + 1).toNat = i.toNat + 1 := by omega
        exact ⟨⟨by omega, by omega, _, _, _, _, _, by rw [et]; exact p137⟩, by show os.length - (i + 1).toNat < os.length - i.toNat; omega⟩
      · refine brB_of (fun _ => ?_) (fun _ => brB_of (fun _ => ?_) (fun _ => ?_))
        · exact arm_add p29 o29 a23 l29 a30 hxs (by omega) fun _ h => h
        · exact arm_drop (K := fun v w' => v = .bool true ∧ Chg No w w') p29 o29 a23 l29 a30 fun _ h => h
        · exact arm_touch (K := fun v w' => v = .bool true ∧ Chg No w w') p29 (by omega) o29 a23 l29 a30 hxs (by omega) fun _ h => h
    · intro b139 w140 hb139 hw140
      have p140 := p17.no (al hw140)
      refine (add_none 1 ⟨some ⟨b139, 0, none⟩, 1, 1⟩ w140).mono ?_
      rintro e w142 ⟨rfl, rfl⟩
      refine ⟨rfl, ?_⟩
      refine (drop_none 1 w140).mono ?_
      rintro e w144 ⟨rfl, rfl⟩
      refine ⟨_, rfl, brB_t' rfl ?_⟩
      intro b146 w147 hb146 hw147
      have p147 := p140.no (al hw147)
      refine (touch_none ⟨some ⟨b146, 0, none⟩, 1, 1⟩ w147).mono ?_
      rintro e w149 ⟨rfl, rfl⟩
      refine ⟨nilS, rfl, ?_⟩
      refine (cells_none w147).mono ?_
      rintro e w152 ⟨rfl, rfl⟩
      refine ⟨nilS, rfl, ?_⟩
      refine (of_none 1 w147).mono ?_
      rintro e w155 ⟨rfl, rfl⟩
      refine ⟨nilS, rfl, brB_t' (by decide +kernel) ?_⟩
      refine p147.bok.apart.mono ?_
      rintro e w158 ⟨rfl, c158⟩
      exact ⟨_, rfl, rfl, p147.chg.trans c158 (fun _ _ h => h) (fun k hk hd => by have := (p147.bD k hd).1; omega)⟩
  · rw [hsl]
    refine brB_of (fun h => ⟨(fun h => by cases h), Chg.refl _ _⟩) (fun h1 => ?_)
    refine (alive_any w).mono ?_
    rintro e w4 ⟨rfl, c4⟩
    have h1 := of_decide_eq_false h1
    exact ⟨_, rfl, fun _ => by omega, c4⟩
end Go.Proofs.Ytgffaimgnmfifaa

/- Numbers as elements of a slice, as a statement's frame tells of them. -/
set_option maxRecDepth 100000
namespace Go.Proofs.Ytgffaimgnmfifaa
open Go.RowKit

theorem int_open {H : Type} (enc : TypeId × Value → H) (w : World) (base : Nat) (sp : Nat → Bool) (held : Bool) : ElOk enc Try.prog w base sp held intE T_int (fun _ => True) := by
  refine ⟨by kernel_rfl, fun n cs y hl h => ?_⟩
  obtain ⟨m, rfl, _, hw⟩ := DataW.trod_int Try.underlying3 h
  exact ⟨m, rfl, trivial⟩
theorem blkLt {p : Option Addr} {n len cap : Nat} (h : ∀ x ∈ p, x.block < n) : ∀ k, (⟨p, len, cap⟩ : Sl).blk = some k → k < n := by
  intro k hk
  cases p with
  | none => cases hk
  | some a =>
    have e : a.block = k := Option.some.inj hk
    rw [← e]; exact h a rfl
end Go.Proofs.Ytgffaimgnmfifaa

/- Operations on watches, as a statement's frame tells of them. -/
set_option maxRecDepth 100000
namespace Go.Proofs.Ytgffaimgnmfifaa
open Go.RowKit

theorem ow_open {H : Type} (enc : TypeId × Value → H) (w : World) (base : Nat) (sp : Nat → Bool) (held : Bool) : ElOk enc Try.prog w base sp held owE T_hollowaylaw22_Op (fun o => ∃ xs, Rd intE w o.l xs) := by
  refine ⟨by kernel_rfl, fun n cs y hl h => ?_⟩
  obtain ⟨_, m, hf⟩ := open_fields Try.underlying45 h
  have hl : cs.length = 3 := hl
  obtain ⟨c0, c1, c2, rfl⟩ : ∃ c0 c1 c2, cs = [c0, c1, c2] := by
    match cs, hl with
    | [c0, c1, c2], _ => exact ⟨_, _, _, rfl⟩
  have s1 : Try.prog.cellsOf 3 = 1 := by kernel_rfl
  have s2 : Try.prog.cellsOf 22 = 1 := by kernel_rfl
  obtain ⟨z0, h0⟩ := hf 0 _ rfl
  obtain ⟨z1, h1⟩ := hf 1 _ rfl
  obtain ⟨z2, h2⟩ := hf 2 _ rfl
  obtain ⟨x0, e0, _⟩ := DataW.trod_int Try.underlying3 h0
  obtain ⟨x1, e1, _⟩ := DataW.trod_int Try.underlying3 h1
  obtain ⟨s, xs, e2, hr, _⟩ := open_cells Try.underlying22 (int_open enc w base sp held) h2
  simp [s1, s2] at e0 e1 e2
  exact ⟨⟨x0, x1, s⟩, by rw [e0, e1, e2]; rfl, xs, hr⟩
end Go.Proofs.Ytgffaimgnmfifaa
