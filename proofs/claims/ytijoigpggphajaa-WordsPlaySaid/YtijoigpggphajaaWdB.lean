/- Dictionaries: words.Find, Len, Cut, New; the first call of the law. -/
import Derived.Test.YtijoigpggphajaaWd
set_option maxRecDepth 100000
namespace Go.Proofs.Ytijoigpggphajaa
open Go.RowKit

/-- The last word of a name. -/
def fnd (s : ByteArray) (l : List Wd) : Option Wd := l.foldl (fun a x => if upS x.name = upS s then some x else a) none
theorem fnd_app (s : ByteArray) (l : List Wd) (x : Wd) : fnd s (l ++ [x]) = if upS x.name = upS s then some x else fnd s l := by
  unfold fnd; rw [List.foldl_append]; rfl
theorem fnd_nil (s : ByteArray) : fnd s [] = none := rfl
theorem fnd_mem (s : ByteArray) : ∀ (n : Nat) (l : List Wd) (y : Wd), l.length = n → fnd s l = some y → y ∈ l
  | 0, l, y, hl, h => by rw [List.eq_nil_of_length_eq_zero hl] at h; cases h
  | n + 1, l, y, hl, h => by
    have hd : l ≠ [] := fun e => by rw [e] at hl; cases hl
    rw [← List.dropLast_concat_getLast hd, fnd_app] at h
    rw [← List.dropLast_concat_getLast hd]
    split at h
    · cases h; simp
    · exact List.mem_append_left _ (fnd_mem s n _ y (by simp [hl]) h)
def fndV (o : Option Wd) : Value := .tuple #[.agg (wdC (o.getD wd0)).toArray, .bool o.isSome]
theorem wdC_whole (x y : Wd) : wrL (wdC x) 0 (wdC y) = wdC y := wrL_whole rfl
theorem wfind_any {B : Nat → Prop} {w : World} {p : Nat} {l : List Wd} (s : ByteArray) (h : WdsAt B w p l) (hn : ∀ x ∈ l, x.name.size ≤ 9223372036854775807) :
    Calls Try.prog fn_words_Words_Find #[.pointer (some ⟨p, 0, none⟩), .string s] w fun e w' => e = .returned (fndV (fnd s l)) ∧ Chg No w w' := by
  refine (words_Words_Find_lift (K := fun v w' => v = fndV (fnd s l) ∧ Chg No w w') ?_).mono (by rintro e w' ⟨v, rfl, rfl, h⟩; exact ⟨rfl, h⟩)
  unfold words_Words_Find_sh
  intro b w4 hb hw4
  have ho : Ob w4 b (wdC wd0) T_api_Word := by rw [hw4, hb]; exact Ob.new w (wdC wd0) T_api_Word
  have hc4 : Chg No w w4 := by rw [hw4]; exact Chg.alloc _ _ _
  obtain ⟨sl, h1, h2, _, _⟩ := h.no hc4
  have hlen := h2.rd.len
  have hcap := h2.rd.capL
  have fin : ∀ (x : Wd) (v : Bool) (w6 : World), Ob w6 b (wdC wd0) T_api_Word → Chg No w w6 → wrOk w6 ⟨b, 0, none⟩ 4 ∧ ∀ w20 : World, w20 = stW w6 ⟨b, 0, none⟩ 0 (wdC x) → Ob w20 b (wdC x) T_api_Word ∧ Chg No w w20 := by
    intro x v w6 h6 hc6
    refine ⟨h6.wr (by simp [wdC]), fun w20 h20 => ⟨?_, ?_⟩⟩
    · have := Ob.st (vs := wdC x) (k := 0) (i := 0) h6
      rw [wdC_whole] at this
      rw [h20]; exact this
    · rw [h20]
      refine hc6.trans (Chg.st (S := fun k => k = b) rfl) (fun _ _ h => h) (fun k hk he => ?_)
      subst he; omega
  refine ⟨sl, h1.cell rfl, ?_⟩
  rw [wr_of (by omega) (by omega)]
  refine ⟨fun i w' => ∃ k : Nat, i = (k : Int) - 1 ∧ k ≤ l.length ∧ fnd s l = fnd s (l.take k) ∧ Ob w' b (wdC wd0) T_api_Word ∧ Ob w' p [sl.val] T_words_Words ∧ Rd wdE w' sl l ∧ Chg No w w', fun i _ => (i + 1).toNat, ⟨l.length, by rw [hlen], Nat.le_refl _, by rw [List.take_length], ho, h1, h2.rd, hc4⟩, ?_⟩
  rintro i w6 ⟨k, rfl, hk, hf, hb6, hp6, hr6, hc6⟩
  refine brB_of (fun hi => ?_) (fun hi => ?_)
  · have hi : 1 ≤ k := by simp at hi; omega
    obtain ⟨m, rfl⟩ : ∃ m, k = m + 1 := ⟨k - 1, by omega⟩
    have hm : ((m + 1 : Nat) : Int) - 1 = (m : Int) := by omega
    rw [hm]
    obtain ⟨x, hx⟩ : ∃ x, l[m]? = some x := ⟨_, List.getElem?_eq_getElem (by omega)⟩
    have hx' : l[(m : Int).toNat]? = some x := by rw [Int.toNat_natCast]; exact hx
    refine ⟨sl, hp6.cell rfl, hr6.ix (by omega) hx' fun a ha hcell => ?_⟩
    have c0 := hcell 0 (.string x.name) rfl
    have e0 : ∀ q : Addr, q.add 0 = q := fun q => by unfold Addr.add; simp
    rw [e0] at c0
    refine ⟨_, c0, ?_⟩
    refine (wsame_any x.name s (hn x (List.mem_of_getElem? hx)) w6).mono ?_
    rintro e w12 ⟨rfl, hq⟩
    have ht : l.take (m + 1) = l.take m ++ [x] := by rw [List.take_add_one, hx]; rfl
    rw [ht, fnd_app] at hf
    refine ⟨_, rfl, brB_of (fun he => ?_) (fun he => ?_)⟩
    · rw [if_pos (of_decide_eq_true he)] at hf
      refine ⟨sl, (hp6.qt hq).cell rfl, (hr6.qt hq).ix (by omega) hx' fun a ha hcell => ?_⟩
      have c0 := hcell 0 (.string x.name) rfl
      rw [e0] at c0
      obtain ⟨f1, f2⟩ := fin x true w12 (hb6.qt hq) (hc6.trans (Chg.qt (S := No) hq) (fun _ _ h => h) (fun _ _ h => h))
      refine ⟨x.name, x.xt, x.op, x.imm, c0, hcell 1 _ rfl, hcell 2 _ rfl, hcell 3 _ rfl, f1, fun w20 h20 => ?_⟩
      obtain ⟨f3, f4⟩ := f2 w20 h20
      refine ⟨_, _, _, _, f3.cell rfl, f3.cell rfl, f3.cell rfl, f3.cell rfl, ?_, f4⟩
      rw [hf]; rfl
    · rw [if_neg (of_decide_eq_false he)] at hf
      rw [wr_of (by omega) (by omega)]
      exact ⟨⟨m, rfl, by omega, hf, hb6.qt hq, hp6.qt hq, hr6.qt hq, hc6.trans (Chg.qt (S := No) hq) (fun _ _ h => h) (fun _ _ h => h)⟩, by show Int.toNat ((m : Int) - 1 + 1) < Int.toNat ((m : Int) + 1); omega⟩
  · have hi : k = 0 := by simp at hi; omega
    subst hi
    obtain ⟨f1, f2⟩ := fin wd0 false w6 hb6 hc6
    refine ⟨f1, fun w20 h20 => ?_⟩
    obtain ⟨f3, f4⟩ := f2 w20 h20
    refine ⟨_, _, _, _, f3.cell rfl, f3.cell rfl, f3.cell rfl, f3.cell rfl, ?_, f4⟩
    rw [hf]; rfl
theorem wlen_any {B : Nat → Prop} {w : World} {p : Nat} {l : List Wd} (h : WdsAt B w p l) : Calls Try.prog fn_words_Words_Len #[.pointer (some ⟨p, 0, none⟩)] w fun e w' => e = .returned (.int .i64 l.length) ∧ w = w' := by
  refine (words_Words_Len_lift (K := fun v w' => v = .int .i64 l.length ∧ w = w') ?_).mono (by rintro e w' ⟨v, rfl, rfl, h⟩; exact ⟨rfl, h⟩)
  obtain ⟨sl, h1, h2, _, _⟩ := h
  exact ⟨sl, h1.cell rfl, by rw [h2.rd.len], rfl⟩
theorem wcut_any {B : Nat → Prop} {w : World} {p : Nat} {l : List Wd} (n : Int) (h : WdsAt B w p l) : Calls Try.prog fn_words_Words_Cut #[.pointer (some ⟨p, 0, none⟩), .int .i64 n] w fun e w' => e = .returned (.bool (decide (0 ≤ n ∧ n ≤ l.length))) ∧ WdsAt B w' p (if 0 ≤ n ∧ n ≤ l.length then l.take n.toNat else l) ∧ Chg B w w' := by
  refine (words_Words_Cut_lift (K := fun v w' => v = .bool (decide (0 ≤ n ∧ n ≤ l.length)) ∧ WdsAt B w' p (if 0 ≤ n ∧ n ≤ l.length then l.take n.toNat else l) ∧ Chg B w w') ?_).mono (by rintro e w' ⟨v, rfl, rfl, h⟩; exact ⟨rfl, h⟩)
  unfold words_Words_Cut_sh
  have h' := h
  obtain ⟨sl, h1, h2, h3, h4⟩ := h
  have hlen := h2.rd.len
  have hcap := h2.rd.capL
  refine ⟨fun b w' => b = decide (¬ (0 ≤ n ∧ n ≤ l.length)) ∧ w = w', ?_, ?_⟩
  · rintro b w4 ⟨rfl, rfl⟩
    refine brB_of (fun hf => ?_) (fun hf => ?_)
    · have hf := of_decide_eq_true hf
      rw [if_neg hf, decide_eq_false hf]
      exact ⟨rfl, h', Chg.refl _ _⟩
    · have hf : 0 ≤ n ∧ n ≤ l.length := Decidable.not_not.1 (of_decide_eq_false hf)
      rw [if_pos hf, decide_eq_true hf]
      refine ⟨sl, h1.cell rfl, hf.1, by omega, ?_⟩
      intro s7 hs7
      rw [sub0] at hs7
      refine ⟨h1.wr (by simp), fun w8 hw8 => ⟨rfl, ?_, ?_⟩⟩
      · have ho : Ob w8 p [s7.val] T_words_Words := by
          have := Ob.st (vs := [s7.val]) (k := 0) (i := 0) h1
          rw [hw8]; exact this
        have hc : Chg (fun k => k = p) w w8 := by rw [hw8]; exact Chg.st (S := fun k => k = p) rfl
        have ht := h2.take (n := n.toNat) (by omega)
        have hbk : s7.blk = sl.blk := by rw [hs7]; unfold Sl.blk Sl.val; cases sl.ptr <;> rfl
        rw [← hs7] at ht
        exact ⟨s7, ho, ht.chg hc (fun k hk he => (h4 k (hbk ▸ hk)).2 he), h3, fun k hk => h4 k (hbk ▸ hk)⟩
      · rw [hw8]; exact (Chg.st (S := fun k => k = p) rfl).mono (fun k _ he => by rw [he]; exact h3)
  · refine brB_of (fun h => ⟨?_, rfl⟩) (fun h => ⟨sl, h1.cell rfl, ?_, rfl⟩)
    · have h := of_decide_eq_true h
      symm; apply decide_eq_true; omega
    · have h := of_decide_eq_false h
      rw [Bool.eq_iff_iff]; simp; omega

/-! ### A new dictionary -/
def newTo (k : Nat) : List Wd := (List.range k).foldl (fun l (o : Nat) => if isFirst o then addL l ⟨opName o, 64 + 2 * (o : Int), o, false⟩ else l) []
theorem newTo_succ (k : Nat) : newTo (k + 1) = if isFirst k then addL (newTo k) ⟨opName k, 64 + 2 * k, k, false⟩ else newTo k := by
  unfold newTo; rw [List.range_succ, List.foldl_append]; rfl
def newL : List Wd := newTo 48
theorem newL_ok : ∀ x ∈ newL, x.name.size ≤ 20 ∧ x.xt < 200 := by
  have h : newL.all (fun x => decide (x.name.size ≤ 20 ∧ x.xt < 200)) = true := by decide +kernel
  exact fun x hx => of_decide_eq_true (List.all_eq_true.1 h x hx)
theorem newL_short : newL.length < 60 := by
  have h : decide (newL.length < 60) = true := by decide +kernel
  exact of_decide_eq_true h
theorem wnew_any (w : World) : Calls Try.prog fn_words_New #[] w fun e w' => ∃ p : Nat, e = .returned (.pointer (some ⟨p, 0, none⟩)) ∧ WdsAt (fun k => w.heap.size ≤ k) w' p newL ∧ Chg No w w' := by
  refine (words_New_lift (K := fun v w' => ∃ p : Nat, v = .pointer (some ⟨p, 0, none⟩) ∧ WdsAt (fun k => w.heap.size ≤ k) w' p newL ∧ Chg No w w') ?_).mono (by rintro e w' ⟨v, rfl, p, rfl, h⟩; exact ⟨p, rfl, h⟩)
  unfold words_New_sh
  intro p w2 hp hw2
  have ho : Ob w2 p [nilS.val] T_words_Words := by rw [hw2, hp]; exact Ob.new w [nilS.val] T_words_Words
  have hc : Chg No w w2 := by rw [hw2]; exact Chg.alloc _ _ _
  refine ⟨fun n w' => ∃ k : Nat, n = k ∧ k ≤ 48 ∧ WdsAt (fun k => w.heap.size ≤ k) w' p (newTo k) ∧ Chg No w w', fun n _ => 48 - n.toNat, ⟨0, rfl, by omega, ⟨nilS, ho, Ow.nil _ _, by omega, fun k hk => by cases hk⟩, hc⟩, ?_⟩
  rintro n w3 ⟨k, rfl, hk, h3, hc3⟩
  refine brB_of (fun hlt => ?_) (fun hlt => ?_)
  · have hlt : k < 48 := by simp at hlt; omega
    refine ⟨fun w' => WdsAt (fun k => w.heap.size ≤ k) w' p (newTo (k + 1)) ∧ Chg No w w', ?_, ?_⟩
    · rintro w14 ⟨h14, hc14⟩
      rw [wr_of (by omega) (by omega)]
      exact ⟨⟨k + 1, by omega, by omega, h14, hc14⟩, by show 48 - Int.toNat ((k : Int) + 1) < 48 - Int.toNat (k : Int); omega⟩
    · refine (first_any _ _).mono ?_
      rintro e w6 ⟨rfl, rfl⟩
      refine ⟨_, rfl, brB_of (fun hf => ?_) (fun hf => ?_)⟩
      · refine (name_any _ _).mono ?_
        rintro e w9 ⟨rfl, h9⟩
        refine ⟨_, rfl, ?_⟩
        rw [opName_row _ (by omega) (by omega), Int.toNat_natCast, wr_of (x := 2 * (k : Int)) (by omega) (by omega), wr_of (by omega) (by omega)]
        have hs9 := h9.size
        have hs3 := hc3.size
        refine (wadd_any ⟨opName k, 64 + 2 * k, k, false⟩ (h3.no h9) (fun j hj => by omega) (by have := opName_size k; show (opName k).size ≤ _; omega)).mono ?_
        rintro e w12 ⟨rfl, h12, hc12⟩
        refine ⟨_, rfl, ?_, ?_⟩
        · rw [newTo_succ, if_pos hf]; exact h12
        · exact (hc3.trans h9 (fun _ _ h => h) (fun _ _ h => h)).trans hc12 (fun _ _ h => h) (fun j hj h => by omega)
      · refine ⟨?_, hc3⟩
        rw [newTo_succ, if_neg (by rw [hf]; decide)]; exact h3
  · have hlt : k = 48 := by simp at hlt; omega
    subst hlt
    exact ⟨p, rfl, h3, hc3⟩
/-- A word put into a variable of its own. -/
theorem wput {w w12 : World} {b : Nat} (x : Wd) (hb : b = w.heap.size) (hw : w12 = World.alloc w (.cells (wdC wd0).toArray T_api_Word)) : wrOk w12 ⟨b, 0, none⟩ 4 ∧ ∀ w13 : World, w13 = stW w12 ⟨b, 0, none⟩ 0 (wdC x) → Ob w13 b (wdC x) T_api_Word ∧ Chg No w w13 := by
  have ho : Ob w12 b (wdC wd0) T_api_Word := by rw [hw, hb]; exact Ob.new w (wdC wd0) T_api_Word
  have hc : Chg No w w12 := by rw [hw]; exact Chg.alloc _ _ _
  refine ⟨ho.wr (by simp [wdC]), fun w13 h13 => ⟨?_, ?_⟩⟩
  · have := Ob.st (vs := wdC x) (k := 0) (i := 0) ho
    rw [wdC_whole] at this
    rw [h13]; exact this
  · rw [h13]
    refine hc.trans (Chg.st (S := fun k => k = b) rfl) (fun _ _ h => h) (fun k hk he => ?_)
    subst he; omega
theorem wd_same (a : Wd) (x y : Operand) (w : World) : ((do eqGuard .eql T_api_Word x y (.agg (wdC a).toArray) (.agg (wdC a).toArray); binOp .eql T_api_Word (.agg (wdC a).toArray) (.agg (wdC a).toArray) : Sem Value)).run Try.prog w = .ok (.bool true) w := by
  rw [wd_eql]; simp
theorem alive7_any (w : World) : Calls Try.prog fn_hollowaylaw7_alive #[] w fun e w' => e = .returned (.bool true) ∧ Chg No w w' := by
  refine (hollowaylaw7_alive_lift (K := fun v w' => v = .bool true ∧ Chg No w w') ?_).mono (by rintro e w' ⟨v, rfl, rfl, h⟩; exact ⟨rfl, h⟩)
  unfold hollowaylaw7_alive_sh
  refine (wnew_any w).mono ?_
  rintro e w2 ⟨p, rfl, h2, hc2⟩
  refine ⟨_, rfl, ?_⟩
  refine (wfind_any _ h2 (fun x hx => by have := (newL_ok x hx).1; omega)).mono ?_
  rintro e w5 ⟨rfl, hc5⟩
  have hf : fnd (bs [68, 117, 112]) newL = some ⟨bs [68, 85, 80], 76, 6, false⟩ := by kernel_rfl
  rw [hf]
  refine ⟨_, _, _, _, _, rfl, ?_⟩
  intro b11 w12 hb11 hw12
  obtain ⟨f1, f2⟩ := wput ⟨bs [68, 85, 80], 76, 6, false⟩ hb11 hw12
  refine ⟨f1, fun w13 hw13 => brB_t (brB_t ?_)⟩
  obtain ⟨f3, f4⟩ := f2 w13 hw13
  have hc13 := (hc2.trans hc5 (fun _ _ h => h) (fun _ _ h => h)).trans f4 (fun _ _ h => h) (fun _ _ h => h)
  refine ⟨_, _, _, _, f3.cell rfl, f3.cell rfl, f3.cell rfl, f3.cell rfl, ?_⟩
  refine ⟨true, w13, wd_same ⟨bs [68, 85, 80], 76, 6, false⟩ _ _ w13, brB_t ?_⟩
  refine (wsame_any _ _ (by decide) _).mono ?_
  rintro e w21 ⟨rfl, hq⟩
  refine ⟨_, rfl, ?_⟩
  rw [decide_eq_true (by decide +kernel)]
  refine brB_t ?_
  refine (right_name _ (by decide) _).mono ?_
  rintro e w24 ⟨rfl, rfl⟩
  refine ⟨_, rfl, ?_, hc13.trans (Chg.qt (S := No) hq) (fun _ _ h => h) (fun _ _ h => h)⟩
  rw [show wordOk (bs [120]) = true from by decide +kernel]
end Go.Proofs.Ytijoigpggphajaa
