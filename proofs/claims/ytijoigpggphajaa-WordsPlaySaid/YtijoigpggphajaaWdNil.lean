/- Dictionaries: what a nil one answers; the document's own: hollowayref1.Find, Words. -/
import Derived.Test.YtijoigpggphajaaWdMore
set_option maxRecDepth 100000
namespace Go.Proofs.Ytijoigpggphajaa
open Go.RowKit

theorem lenN_any (w : World) : Calls Try.prog fn_words_Words_Len #[.pointer none] w fun e w' => e = .returned (.int .i64 0) ∧ w = w' :=
  (words_Words_Len_nil_lift (K := fun r w' => r = .int .i64 0 ∧ w = w') ⟨rfl, rfl⟩).mono (by rintro e w' ⟨r, rfl, rfl, h⟩; exact ⟨rfl, h⟩)
theorem allN_any (w : World) : Calls Try.prog fn_words_Words_All #[.pointer none] w fun e w' => e = .returned nilS.val ∧ w = w' :=
  (words_Words_All_nil_lift (K := fun r w' => r = nilS.val ∧ w = w') ⟨rfl, rfl⟩).mono (by rintro e w' ⟨r, rfl, rfl, h⟩; exact ⟨rfl, h⟩)
theorem copyN_any (w : World) : Calls Try.prog fn_words_Words_Copy #[.pointer none] w fun e w' => e = .returned (.pointer none) ∧ w = w' :=
  (words_Words_Copy_nil_lift (K := fun r w' => r = .pointer none ∧ w = w') ⟨rfl, rfl⟩).mono (by rintro e w' ⟨r, rfl, rfl, h⟩; exact ⟨rfl, h⟩)
theorem cutN_any (n : Int) (w : World) : Calls Try.prog fn_words_Words_Cut #[.pointer none, .int .i64 n] w fun e w' => e = .returned (.bool false) ∧ w = w' :=
  (words_Words_Cut_nil_lift (K := fun r w' => r = .bool false ∧ w = w') ⟨rfl, rfl⟩).mono (by rintro e w' ⟨r, rfl, rfl, h⟩; exact ⟨rfl, h⟩)
theorem immN_any (w : World) : Calls Try.prog fn_words_Words_Immediate #[.pointer none] w fun e w' => e = .returned (.bool false) ∧ w = w' := by
  refine (words_Words_Immediate_nil_lift (K := fun r w' => r = .bool false ∧ w = w') ?_).mono (by rintro e w' ⟨r, rfl, rfl, h⟩; exact ⟨rfl, h⟩)
  unfold words_Words_Immediate_nil_sh
  refine (lenN_any w).mono ?_
  rintro e w2 ⟨rfl, rfl⟩
  exact ⟨_, rfl, brB_t ⟨rfl, rfl⟩⟩
theorem addN_any (x : Wd) (w : World) : Calls Try.prog fn_words_Words_Add #[.pointer none, .agg (wdC x).toArray] w fun e w' => e = .returned (.int .i64 (-16)) ∧ Chg No w w' := by
  refine (words_Words_Add_nil_lift (K := fun r w' => r = .int .i64 (-16) ∧ Chg No w w') ?_).mono (by rintro e w' ⟨r, rfl, rfl, h⟩; exact ⟨rfl, h⟩)
  unfold words_Words_Add_nil_sh
  intro b w6 hb hw
  exact ⟨rfl, by rw [hw]; exact Chg.alloc _ _ _⟩
theorem findN_any (s : ByteArray) (w : World) : Calls Try.prog fn_words_Words_Find #[.pointer none, .string s] w fun e w' => e = .returned (fndV none) ∧ Chg No w w' := by
  refine (words_Words_Find_nil_lift (K := fun r w' => r = fndV none ∧ Chg No w w') ?_).mono (by rintro e w' ⟨r, rfl, rfl, h⟩; exact ⟨rfl, h⟩)
  unfold words_Words_Find_nil_sh
  intro b w3 hb hw
  obtain ⟨f1, f2⟩ := wput wd0 hb hw
  refine ⟨f1, fun w4 hw4 => ?_⟩
  obtain ⟨f3, f4⟩ := f2 w4 hw4
  exact ⟨_, _, _, _, f3.cell rfl, f3.cell rfl, f3.cell rfl, f3.cell rfl, rfl, f4⟩
/-- Where the document finds a name. -/
def FindAns (s : ByteArray) (l : List Wd) (n : Int) : Prop := (n = -1 ∧ fnd s l = none) ∨ ∃ (k : Nat) (x : Wd), n = k ∧ l[k]? = some x ∧ fnd s l = some x
theorem refFind_any {w : World} {t : Sl} {l : List Wd} (s : ByteArray) (hs : s.size ≤ 4611686018427387904) (h : Rd wdE w t l) (hn : ∀ x ∈ l, x.name.size ≤ 4611686018427387904) :
    Calls Try.prog fn_hollowayref1_Find #[t.val, .string s] w fun e w' => ∃ n : Int, e = .returned (.int .i64 n) ∧ FindAns s l n ∧ Chg No w w' := by
  refine (hollowayref1_Find_lift (K := fun r w' => ∃ n : Int, r = .int .i64 n ∧ FindAns s l n ∧ Chg No w w') ?_).mono (by rintro e w' ⟨r, rfl, n, rfl, h⟩; exact ⟨n, rfl, h⟩)
  unfold hollowayref1_Find_sh
  have hlen := h.len
  have hcap := h.capL
  rw [wr_of (by omega) (by omega)]
  refine ⟨fun i w' => ∃ k : Nat, i = (k : Int) - 1 ∧ k ≤ l.length ∧ fnd s l = fnd s (l.take k) ∧ Chg No w w', fun i _ => (i + 1).toNat, ⟨l.length, by rw [hlen], Nat.le_refl _, by rw [List.take_length], Chg.refl _ _⟩, ?_⟩
  rintro i w3 ⟨k, rfl, hk, hf, hc⟩
  refine brB_of (fun hi => ?_) (fun hi => ?_)
  · have hi : 1 ≤ k := by simp at hi; omega
    obtain ⟨m, rfl⟩ : ∃ m, k = m + 1 := ⟨k - 1, by omega⟩
    have hm : ((m + 1 : Nat) : Int) - 1 = (m : Int) := by omega
    rw [hm]
    obtain ⟨x, hx⟩ : ∃ x, l[m]? = some x := ⟨_, List.getElem?_eq_getElem (by omega)⟩
    refine (h.no hc).ix (by omega) (by rw [Int.toNat_natCast]; exact hx) fun a ha hcell => ?_
    have c0 := hcell 0 (.string x.name) rfl
    have e0 : ∀ q : Addr, q.add 0 = q := fun q => by unfold Addr.add; simp
    rw [e0] at c0
    refine ⟨_, c0, ?_⟩
    refine (refSame_any x.name s w3 (hn x (List.mem_of_getElem? hx)) hs).mono ?_
    rintro e w8 ⟨rfl, c8⟩
    have hc8 := hc.trans c8 (U := No) (fun _ _ h => h) (fun _ _ h => h)
    have ht : l.take (m + 1) = l.take m ++ [x] := by rw [List.take_add_one, hx]; rfl
    rw [ht, fnd_app] at hf
    refine ⟨_, rfl, brB_of (fun he => ?_) (fun he => ?_)⟩
    · rw [if_pos (of_decide_eq_true he)] at hf
      exact ⟨m, rfl, Or.inr ⟨m, x, rfl, hx, hf⟩, hc8⟩
    · rw [if_neg (of_decide_eq_false he)] at hf
      rw [wr_of (by omega) (by omega)]
      exact ⟨⟨m, rfl, by omega, hf, hc8⟩, by show Int.toNat ((m : Int) - 1 + 1) < Int.toNat ((m : Int) + 1); omega⟩
  · have hi : k = 0 := by simp at hi; omega
    subst hi
    exact ⟨-1, rfl, Or.inl ⟨rfl, hf⟩, hc⟩
end Go.Proofs.Ytijoigpggphajaa
