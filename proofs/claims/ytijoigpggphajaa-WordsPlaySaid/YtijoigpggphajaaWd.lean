/- Dictionaries: what a word is, when two are equal; the contracts of words.Right, great, Same, first, Add, Find, Len, Cut, New. -/
import Derived.Test.YtijoigpggphajaaRefOp
import Derived.Test.YtijoigpggphajaaShWords
import Derived.Test.YtijoigpggphajaaShHollowaylaw7
import Derived.Laws.StructEq
set_option maxRecDepth 100000
namespace Go.Proofs.Ytijoigpggphajaa
open Go.RowKit

structure Wd where
  name : ByteArray
  xt : Int
  op : Int
  imm : Bool
def wdC (x : Wd) : List Value := [.string x.name, .int .i64 x.xt, .int .i64 x.op, .bool x.imm]
def wdE : Enc Wd := ⟨T_api_Word, 4, 40, wdC, by intro x; rfl, by intro x u hu; simp [wdC] at hu; rcases hu with rfl | rfl | rfl | rfl <;> rfl, by decide⟩
theorem wdOk : EncOk Try.prog wdE T_sl_api_Word := EncOk.of (z := .agg #[.string (bs []), .int .i64 0, .int .i64 0, .bool false]) (by kernel_rfl) (by kernel_rfl) (by kernel_rfl)
def wd0 : Wd := ⟨bs [], 0, 0, false⟩
/-- Two words compared. -/
theorem wd_eql (a b : Wd) (x y : Operand) (w : World) : ((do eqGuard .eql T_api_Word x y (.agg (wdC a).toArray) (.agg (wdC b).toArray); binOp .eql T_api_Word (.agg (wdC a).toArray) (.agg (wdC b).toArray) : Sem Value)).run Try.prog w = .ok (.bool (a.name.toList == b.name.toList && a.xt == b.xt && a.op == b.op && a.imm == b.imm)) w := by
  have u1 := Try.underlying3
  have u2 := Try.underlying9
  have u3 := Try.underlying4
  have hS : Try.prog.underlying T_api_Word = some (.struct (Try.prog.fieldsOf T_api_Word)) := by kernel_rfl
  have hp : Try.prog.stoodInHeld T_api_Word = false := by kernel_rfl
  have hm : Try.prog.eqGuardType Try.prog.depth T_api_Word = false := by kernel_rfl
  simp only [Sem.run_bind, run_eqGuard_agg w .eql T_api_Word x y _ _ hm, Result.andThen_ok, run_eql_struct]
  rw [show (10000 : Nat) = 9999 + 1 from rfl, run_equalIn_agg w 9999 T_api_Word _ _ hS hp]
  simp only [Program.fieldsOf, Try.underlying74]
  go_simp
  rcases a with ⟨n1, x1, o1, i1⟩
  rcases b with ⟨n2, x2, o2, i2⟩
  simp only [wdC]
  go_simp
  by_cases h1 : n1.toList = n2.toList <;> by_cases h2 : x1 = x2 <;> by_cases h3 : o1 = o2 <;> by_cases h4 : i1 = i2 <;> simp [h1, h2, h3, h4]

/-! ### Names -/
def wordOk (s : ByteArray) : Bool := decide ((∀ k : Nat, k < s.size → 32 < sb s k) ∧ 0 < s.size ∧ s.size ≤ 20)
theorem right_name (s : ByteArray) (hs : s.size ≤ 9223372036854775807) (w : World) : Calls Try.prog fn_words_Right #[.string s] w fun e w' => e = .returned (.bool (wordOk s)) ∧ w = w' := by
  refine (words_Right_lift (K := fun v w' => v = .bool (wordOk s) ∧ w = w') ?_).mono (by rintro e w' ⟨v, rfl, rfl, h⟩; exact ⟨rfl, h⟩)
  unfold words_Right_sh
  refine ⟨fun n w' => ∃ k : Nat, n = k ∧ k ≤ s.size ∧ (∀ j : Nat, j < k → 32 < sb s j) ∧ w = w', fun n _ => s.size - n.toNat, ⟨0, rfl, Nat.zero_le _, fun j h => by omega, rfl⟩, ?_⟩
  rintro n w2 ⟨k, rfl, hk, hj, rfl⟩
  refine brB_of (fun hlt => ?_) (fun hlt => ?_)
  · have hlt : k < s.size := by simp at hlt; omega
    refine ⟨by omega, by omega, brB_of (fun h => ?_) (fun h => ?_)⟩
    · have h := of_decide_eq_true h
      refine ⟨?_, rfl⟩
      rw [show wordOk s = false from decide_eq_false fun hh => by have := hh.1 k hlt; omega]
    · have h := of_decide_eq_false h
      rw [wr_of (by omega) (by omega)]
      refine ⟨⟨k + 1, by omega, by omega, fun j hj' => ?_, rfl⟩, by show s.size - Int.toNat ((k : Int) + 1) < s.size - Int.toNat (k : Int); omega⟩
      rcases Nat.lt_succ_iff_lt_or_eq.1 hj' with h2 | rfl
      · exact hj j h2
      · omega
  · have hlt : k = s.size := by simp at hlt; omega
    subst hlt
    rw [bl_eq]
    refine brB_of (fun h => ⟨?_, rfl⟩) (fun h => ⟨?_, rfl⟩)
    · have h : s ≠ bs [] := by simpa using h
      have h0 : 0 < s.size := by
        rcases Nat.eq_zero_or_pos s.size with h1 | h1
        · exact absurd (ByteArray.ext (Array.eq_empty_of_size_eq_zero h1)) h
        · exact h1
      congr 1
      rw [Bool.eq_iff_iff]; simp [wordOk]
      constructor
      · intro h; exact ⟨hj, h0, by omega⟩
      · intro h; omega
    · have h : s = bs [] := by simpa using h
      rw [show wordOk s = false from decide_eq_false fun hh => by rw [h] at hh; exact absurd hh.2.1 (by decide)]
theorem ref_word (s : ByteArray) (hs : s.size ≤ 9223372036854775807) (w : World) : Calls Try.prog fn_hollowayref1_Word #[.string s] w fun e w' => e = .returned (.bool (wordOk s)) ∧ w = w' := by
  refine (hollowayref1_Word_lift (K := fun v w' => v = .bool (wordOk s) ∧ w = w') ?_).mono (by rintro e w' ⟨v, rfl, rfl, h⟩; exact ⟨rfl, h⟩)
  unfold hollowayref1_Word_sh
  refine ⟨fun n w' => ∃ k : Nat, n = k ∧ k ≤ s.size ∧ (∀ j : Nat, j < k → 32 < sb s j) ∧ w = w', fun n _ => s.size - n.toNat, ⟨0, rfl, Nat.zero_le _, fun j h => by omega, rfl⟩, ?_⟩
  rintro n w2 ⟨k, rfl, hk, hj, rfl⟩
  refine brB_of (fun hlt => ?_) (fun hlt => ?_)
  · have hlt : k < s.size := by simp at hlt; omega
    refine ⟨by omega, by omega, brB_of (fun h => ?_) (fun h => ?_)⟩
    · have h := of_decide_eq_true h
      refine ⟨?_, rfl⟩
      rw [show wordOk s = false from decide_eq_false fun hh => by have := hh.1 k hlt; omega]
    · have h := of_decide_eq_false h
      rw [wr_of (by omega) (by omega)]
      refine ⟨⟨k + 1, by omega, by omega, fun j hj' => ?_, rfl⟩, by show s.size - Int.toNat ((k : Int) + 1) < s.size - Int.toNat (k : Int); omega⟩
      rcases Nat.lt_succ_iff_lt_or_eq.1 hj' with h2 | rfl
      · exact hj j h2
      · omega
  · have hlt : k = s.size := by simp at hlt; omega
    subst hlt
    refine brB_of (fun h => ⟨?_, rfl⟩) (fun h => ⟨?_, rfl⟩)
    · have h := of_decide_eq_true h
      congr 1
      rw [Bool.eq_iff_iff]; simp [wordOk]
      constructor
      · intro h; exact ⟨hj, by omega, by omega⟩
      · intro h; omega
    · have h := of_decide_eq_false h
      rw [show wordOk s = false from decide_eq_false fun hh => by omega]
theorem great_byte (c : Int) (h0 : 0 ≤ c) (h1 : c < 256) (w : World) : Calls Try.prog fn_words_great #[.int .u8 c] w fun e w' => e = .returned (.int .u8 (upB c)) ∧ w = w' := by
  refine (words_great_lift (K := fun v w' => v = .int .u8 (upB c) ∧ w = w') ?_).mono (by rintro e w' ⟨v, rfl, rfl, h⟩; exact ⟨rfl, h⟩)
  unfold words_great_sh
  refine ⟨fun b w' => b = decide (97 ≤ c ∧ c ≤ 122) ∧ w = w', ?_, ?_⟩
  · rintro b w2 ⟨rfl, rfl⟩
    refine brB_of (fun h => ⟨?_, rfl⟩) (fun h => ⟨?_, rfl⟩)
    · have h := of_decide_eq_true h
      rw [wrap_u8 (x := c - 97) (by omega) (by omega), wrap_u8 (by omega) (by omega)]
      unfold upB; rw [if_pos h]
      congr 1; omega
    · have h := of_decide_eq_false h
      unfold upB; rw [if_neg h]
  · refine brB_of (fun h => ⟨?_, rfl⟩) (fun h => ⟨?_, rfl⟩)
    · have h := of_decide_eq_true h
      rw [Bool.eq_iff_iff]; simp; omega
    · have h := of_decide_eq_false h
      symm; apply decide_eq_false; omega
theorem wsame_any (a b : ByteArray) (ha : a.size ≤ 9223372036854775807) (w : World) :
    Calls Try.prog fn_words_Same #[.string a, .string b] w fun e w' => e = .returned (.bool (decide (upS a = upS b))) ∧ Qt w w' := by
  refine (words_Same_lift (K := fun v w' => v = .bool (decide (upS a = upS b)) ∧ Qt w w') ?_).mono (by rintro e w' ⟨v, rfl, rfl, h⟩; exact ⟨rfl, h⟩)
  unfold words_Same_sh
  refine brB_of (fun hl => ?_) (fun hl => ?_)
  · have hl : a.size ≠ b.size := by simp at hl; omega
    exact ⟨by rw [decide_eq_false (fun h => hl (upS_eq.1 h).1)], Qt.refl _⟩
  · have hl : a.size = b.size := by simp at hl; omega
    refine ⟨fun n w' => ∃ k : Nat, n = k ∧ k ≤ a.size ∧ (∀ j : Nat, j < k → upB (sb a j) = upB (sb b j)) ∧ Qt w w', fun n _ => a.size - n.toNat, ⟨0, rfl, Nat.zero_le _, fun j h => by omega, Qt.refl _⟩, ?_⟩
    rintro n w3 ⟨k, rfl, hk, hj, h3⟩
    refine brB_of (fun hlt => ?_) (fun hlt => ?_)
    · have hlt : k < a.size := by simpa using hlt
      rintro w5 rfl
      have h5 : Qt w w3.drew := h3.trans (Qt.drew _)
      refine ⟨by omega, by omega, by omega, by omega, ?_⟩
      have ba := sb_bound a k
      have bb := sb_bound b k
      refine (great_byte _ (by omega) (by omega) _).mono ?_
      rintro e w7 ⟨rfl, rfl⟩
      refine ⟨_, rfl, trivial, ?_⟩
      refine (great_byte _ (by omega) (by omega) _).mono ?_
      rintro e w10 ⟨rfl, rfl⟩
      refine ⟨_, rfl, brB_of (fun hne => ?_) (fun heq => ?_)⟩
      · have hne : upB (sb a k) ≠ upB (sb b k) := by simpa using hne
        exact ⟨by rw [decide_eq_false (fun h => hne ((upS_eq.1 h).2 k hlt))], h5⟩
      · have heq : upB (sb a k) = upB (sb b k) := by simpa using heq
        rw [wr_of (by omega) (by omega)]
        refine ⟨⟨k + 1, by omega, by omega, fun j hj' => ?_, h5⟩, by show a.size - Int.toNat ((k : Int) + 1) < a.size - Int.toNat (k : Int); omega⟩
        rcases Nat.lt_succ_iff_lt_or_eq.1 hj' with h | rfl
        · exact hj j h
        · exact heq
    · have hlt : ¬ k < a.size := by simpa using hlt
      exact ⟨by rw [decide_eq_true (upS_eq.2 ⟨hl, fun j h => hj j (by omega)⟩)], h3⟩
def isFirst (o : Int) : Bool := !opArg o && decide (o ≠ 5 ∧ o ≠ 36 ∧ o ≠ 39 ∧ o ≠ 40 ∧ o ≠ 47) && (decide (o = 45 ∨ o = 46) || opPlain o)
theorem first_any (o : Int) (w : World) : Calls Try.prog fn_words_first #[.int .i64 o] w fun e w' => e = .returned (.bool (isFirst o)) ∧ w = w' := by
  refine (words_first_lift (K := fun v w' => v = .bool (isFirst o) ∧ w = w') ?_).mono (by rintro e w' ⟨v, rfl, rfl, h⟩; exact ⟨rfl, h⟩)
  have hp : ∀ {b : Bool}, b = decide (o = 5 ∨ o = 36 ∨ o = 39 ∨ o = 40) → opArg o = false → words_first_j1 o b w (fun v w' => v = .bool (isFirst o) ∧ w = w') := by
    rintro b rfl ha
    unfold words_first_j1
    have eqb : ∀ {n : Int}, (o == n) = true → o = n := fun h => by simpa using h
    have neb : ∀ {n : Int}, (o == n) = false → o ≠ n := fun h => by simpa using h
    have pl : o ≠ 5 ∧ o ≠ 36 ∧ o ≠ 39 ∧ o ≠ 40 ∧ o ≠ 47 → ¬ (o = 45 ∨ o = 46) → Calls Try.prog fn_op_Plain #[.int .i64 o] w fun e14 w15 => ∃ b16 : Bool, e14 = .returned (.bool b16) ∧ (Value.bool b16 = .bool (isFirst o) ∧ w = w15) := by
      intro h1 h2
      refine (plain_any o w).mono ?_
      rintro e w15 ⟨rfl, rfl⟩
      refine ⟨_, rfl, ?_, rfl⟩
      unfold isFirst
      rw [ha, decide_eq_true h1, decide_eq_false h2]; rfl
    refine brB_of (fun h => ⟨?_, rfl⟩) (fun h => brB_of (fun h2 => ⟨?_, rfl⟩) (fun h2 => brB_of (fun h3 => ?_) (fun h3 => ?_)))
    · have h := of_decide_eq_true h
      unfold isFirst; rw [ha, decide_eq_false (by omega)]; rfl
    · have h2 := eqb h2
      unfold isFirst; rw [ha, decide_eq_false (by omega)]; rfl
    · have h := of_decide_eq_false h
      have h3 := eqb h3
      refine brB_of (fun _ => ⟨?_, rfl⟩) (fun h4 => absurd h3 (neb h4))
      unfold isFirst; rw [ha, decide_eq_true (by omega), decide_eq_true (by omega)]; rfl
    · have h := of_decide_eq_false h
      have h2 := neb h2
      have h3 := neb h3
      refine brB_of (fun h4 => ⟨?_, rfl⟩) (fun h4 => pl (by omega) (by have := neb h4; omega))
      have h4 := eqb h4
      unfold isFirst; rw [ha, decide_eq_true (by omega), decide_eq_true (by omega)]; rfl
  unfold words_first_sh
  refine (arg_any o w).mono ?_
  rintro e w3 ⟨rfl, rfl⟩
  refine ⟨_, rfl, brB_of (fun h => ⟨by unfold isFirst; rw [h]; rfl, rfl⟩) (fun ha => ?_)⟩
  refine brB_of (fun h => hp ?_ ha) (fun h1 => brB_of (fun h => hp ?_ ha) (fun h2 => brB_of (fun h => hp ?_ ha) (fun h3 => hp ?_ ha)))
  · simp at h; simp [h]
  · simp at h; simp [h]
  · simp at h; simp [h]
  · simp at h1 h2 h3; simp [h1, h2, h3]; rw [Bool.eq_iff_iff]; simp

/-! ### Dictionaries -/
/-- p is a dictionary of the words l; it and its list lie in blocks of B. -/
def WdsAt (B : Nat → Prop) (w : World) (p : Nat) (l : List Wd) : Prop := ∃ s : Sl, Ob w p [s.val] T_words_Words ∧ Ow wdE w s l ∧ B p ∧ (∀ k, s.blk = some k → B k ∧ k ≠ p)
theorem WdsAt.chg {B S : Nat → Prop} {w w' : World} {p : Nat} {l : List Wd} (h : WdsAt B w p l) (c : Chg S w w') (hS : ∀ k, B k → ¬ S k) : WdsAt B w' p l := by
  obtain ⟨s, h1, h2, h3, h4⟩ := h
  exact ⟨s, h1.chg c (hS _ h3), h2.chg c (fun k hk => hS _ (h4 k hk).1), h3, h4⟩
theorem WdsAt.no {B : Nat → Prop} {w w' : World} {p : Nat} {l : List Wd} (h : WdsAt B w p l) (c : Chg No w w') : WdsAt B w' p l := h.chg c (fun _ _ h => h)
theorem WdsAt.nar {B : Nat → Prop} {w : World} {p : Nat} {l : List Wd} (h : WdsAt B w p l) : WdsAt (fun k => B k ∧ k < w.heap.size) w p l := by
  obtain ⟨s, h1, h2, h3, h4⟩ := h
  exact ⟨s, h1, h2, ⟨h3, h1.lt⟩, fun k hk => ⟨⟨(h4 k hk).1, h2.lt hk⟩, (h4 k hk).2⟩⟩
theorem WdsAt.wid {B C : Nat → Prop} {w : World} {p : Nat} {l : List Wd} (h : WdsAt B w p l) (hc : ∀ k, B k → C k) : WdsAt C w p l := by
  obtain ⟨s, h1, h2, h3, h4⟩ := h
  exact ⟨s, h1, h2, hc _ h3, fun k hk => ⟨hc _ (h4 k hk).1, (h4 k hk).2⟩⟩
/-- What Add answers, and what it leaves. -/
def addC (l : List Wd) (x : Wd) : Int := if wordOk x.name = false then -16 else if 200 ≤ l.length then -8 else 0
def addL (l : List Wd) (x : Wd) : List Wd := if wordOk x.name = false then l else if 200 ≤ l.length then l else l ++ [x]
theorem wadd_any {B : Nat → Prop} {w : World} {p : Nat} {l : List Wd} (x : Wd) (h : WdsAt B w p l) (hB : ∀ k, w.heap.size ≤ k → B k) (hx : x.name.size ≤ 9223372036854775807) :
    Calls Try.prog fn_words_Words_Add #[.pointer (some ⟨p, 0, none⟩), .agg (wdC x).toArray] w fun e w' => e = .returned (.int .i64 (addC l x)) ∧ WdsAt B w' p (addL l x) ∧ Chg B w w' := by
  refine (words_Words_Add_lift (K := fun v w' => v = .int .i64 (addC l x) ∧ WdsAt B w' p (addL l x) ∧ Chg B w w') ?_).mono (by rintro e w' ⟨v, rfl, rfl, h⟩; exact ⟨rfl, h⟩)
  unfold words_Words_Add_sh
  intro b w7 hb hw7
  obtain ⟨s, h1o, h2o, h3, h4⟩ := h
  have ho : Ob w7 b (wdC x) T_api_Word := by rw [hw7, hb]; exact Ob.new w (wdC x) T_api_Word
  have hc7 : Chg No w w7 := by rw [hw7]; exact Chg.alloc _ _ _
  have h1 := h1o.no hc7
  have h2 := h2o.no hc7
  have hsb : ∀ k, s.blk = some k → k ≠ b := fun k hk he => by have := h2o.lt hk; omega
  have hcB : Chg B w w7 := hc7.mono (fun _ _ h => h.elim)
  refine ⟨_, ho.cell rfl, ?_⟩
  refine (right_name _ hx _).mono ?_
  rintro e w10 ⟨rfl, rfl⟩
  refine ⟨_, rfl, brB_of (fun hr => ?_) (fun hr => ?_)⟩
  · have hr : wordOk x.name = false := by simpa using hr
    refine ⟨by unfold addC; rw [if_pos hr], ?_, hcB⟩
    unfold addL; rw [if_pos hr]; exact ⟨s, h1, h2, h3, h4⟩
  · have hr : wordOk x.name = true := by simpa using hr
    have hlen := h2.rd.len
    refine ⟨s, h1.cell rfl, brB_of (fun hl => ?_) (fun hl => ?_)⟩
    · have hl : 200 ≤ l.length := by simp at hl; omega
      refine ⟨by unfold addC; rw [if_neg (by simp [hr]), if_pos hl], ?_, hcB⟩
      unfold addL; rw [if_neg (by simp [hr]), if_pos hl]; exact ⟨s, h1, h2, h3, h4⟩
    · have hl : ¬ 200 ≤ l.length := by simp at hl; omega
      intro w13 hw13
      have hq : Qt w7 w13 := by rw [hw13]; exact Qt.drew _
      have ho13 := ho.qt hq
      refine ⟨fun w' => Ob w' p [s.val] T_words_Words ∧ Ob w' b (wdC x) T_api_Word, ⟨h1.qt hq, ho13⟩, s, fun w' hw' => hw'.1.cell rfl, x.name, x.xt, x.op, x.imm, fun w' hw' => hw'.2.cell rfl, fun w' hw' => hw'.2.cell rfl, fun w' hw' => hw'.2.cell rfl, fun w' hw' => hw'.2.cell rfl, ?_⟩
      intro b20 w21 hb20 hw21
      have hc21 : Chg No w13 w21 := by rw [hw21]; exact Chg.alloc _ _ _
      have h1' := (h1.qt hq).no hc21
      have hlit : Ow wdE w21 ⟨some ⟨b20, 0, none⟩, 1, 1⟩ [x] := by
        rw [hw21, hb20]
        exact Ow.lit w13 [x] (wdC x) (by rw [fl_one]; rfl) (by show 1 ≤ maxLen; unfold maxLen; omega)
      refine ⟨⟨h1', ho13.no hc21⟩, ?_⟩
      refine app_ok wdOk rfl rfl ((h2.qt hq).no hc21) hlit.rd (by show (l.length + 1) * 40 ≤ _; omega) (by show l.length + 1 ≤ _; unfold maxLen; omega) ?_
      intro s' w23 h23 hc23 hbk
      have h1'' : Ob w23 p [s.val] T_words_Words := h1'.chg hc23 (fun hk => (h4 p hk).2 rfl)
      refine ⟨⟨h1'', (ho13.no hc21).chg hc23 (fun hk => hsb b hk rfl)⟩, h1''.wr (by simp), fun w24 hw24 => ?_⟩
      have hs7 := hc7.size
      have hs13 : w7.heap.size ≤ w13.heap.size := (Chg.qt (S := No) hq).size
      have hs21 := hc21.size
      have hp := h1'.lt
      have hp0 := h1o.lt
      have h24 : Ob w24 p [s'.val] T_words_Words := by
        have := Ob.st (vs := [s'.val]) (k := 0) (i := 0) h1''
        rw [hw24]; exact this
      have hc24 : Chg (fun k => k = p) w23 w24 := by rw [hw24]; exact Chg.st (S := fun k => k = p) rfl
      have hs'p : ∀ k, s'.blk = some k → B k ∧ k ≠ p := by
        intro k hk
        rcases hbk with h5 | h5
        · rw [h5] at hk; exact h4 k hk
        · rw [h5] at hk; obtain rfl := Option.some.inj hk; exact ⟨hB _ (by omega), by omega⟩
      refine ⟨by unfold addC; rw [if_neg (by simp [hr]), if_neg hl], ?_, ?_⟩
      · unfold addL; rw [if_neg (by simp [hr]), if_neg hl]
        exact ⟨s', h24, h23.chg hc24 (fun k hk he => (hs'p k hk).2 he), h3, hs'p⟩
      · have c1 : Chg No w w21 := (hc7.trans (Chg.qt (S := No) hq) (fun _ _ h => h) (fun _ _ h => h)).trans hc21 (fun _ _ h => h) (fun _ _ h => h)
        exact (c1.trans hc23 (U := B) (fun _ _ h => h.elim) (fun k _ hk => (h4 k hk).1)).trans hc24 (fun _ _ h => h) (fun k _ hk => by rw [hk]; exact h3)
end Go.Proofs.Ytijoigpggphajaa
