/- Strings: a copy of one (strings.Clone); names that are alike, letters great or small (op.same). -/
import Derived.Test.YtijoigpggphajaaShOp
import Derived.Test.YtijoigpggphajaaShStrings
import Derived.Test.YtijoigpggphajaaShInternalStringslite
import Derived.Test.YtijoigpggphajaaHp
import Derived.Lib.BufferWrite
import Derived.Lib.UnsafeStr
import Derived.Lib.Strings
import Derived.Laws.MakeOwn
set_option maxRecDepth 100000
namespace Go.Proofs.Ytijoigpggphajaa
open Go.RowKit

theorem Try.infoByte : (Try.prog.info? 5).map (fun i => (i.zero, i.size, i.bytes)) = some (some (.int .u8 0), 1, 1) := by kernel_rfl
theorem wr_of {x : Int} (h : -9223372036854775808 ≤ x) (h' : x ≤ 9223372036854775807) : wr x = x := IntWalk.i64_in _ (by omega)

theorem clone_lite (s : ByteArray) (w : World) (hlim : s.size ≤ 281474976710656) :
    Calls Try.prog fn_internal_stringslite_Clone #[.string s] w fun e w' => e = .returned (.string s) ∧ Chg No w w' := by
  refine (internal_stringslite_Clone_lift (K := fun v w' => v = .string s ∧ Below w.heap.size w w') ?_).mono (by rintro e w' ⟨v, rfl, rfl, h⟩; exact ⟨rfl, Chg.of_below h (fun k h1 h2 => by omega)⟩)
  unfold internal_stringslite_Clone_sh
  refine brB_of (fun h0 => ?_) (fun h0 => ?_)
  · have h0 : s.size = 0 := by simpa using h0
    have hs : s = bs [] := ByteArray.ext (Array.eq_empty_of_size_eq_zero h0)
    exact ⟨by rw [hs], Below.refl _ _⟩
  · have h0 : s.size ≠ 0 := by simpa using h0
    obtain ⟨i0, hi, hz0, hz1, hz2⟩ := info_parts Try.infoByte
    have hinfo : (Try.prog.info? 5).map (·.size) = some 1 := by rw [hi]; simp [hz1]
    have hco : Try.prog.cellsOf 5 = 1 := by simp [Program.cellsOf, hi, hz1]
    obtain ⟨M, hM⟩ : ∃ M, M = madeCells (Value.int .u8 0).cells (((s.size : Nat) : Int).toNat * i0.size) := ⟨_, rfl⟩
    have hMs : M.size = s.size := by rw [hM, size_madeCells, hz1]; simp
    have hmk : (Instr.makeSlice T_sl_uint8 (.int .i64 (s.size : Int)) (.int .i64 (s.size : Int))).run Try.prog w = .ok (.slice (some ⟨w.heap.size, 0, none⟩) s.size s.size) (w.alloc (.cells M 5)) := by
      have h := run_make (P := Try.prog) w T_sl_uint8 5 i0 (.int .u8 0) Try.underlying60 hi hz0 .i64 .i64 (s.size : Int) (s.size : Int) (by omega) (by omega) (by rw [hz2]; omega) (by omega)
      rw [← hM] at h
      simpa using h
    have hcp := Lib.run_copy_row_string (P := Try.prog) (w.alloc (.cells M 5)) 60 9 3 5 w.heap.size 0 s.size s.size s M 5 Try.underlying60 hinfo (heap_alloc_new w _) (Nat.le_refl _) (by omega)
    obtain ⟨Y, hY⟩ : ∃ Y, Y = (M.toList.take 0 ++ Lib.byteCells s.data.toList ++ M.toList.drop (0 + s.size)).toArray := ⟨_, rfl⟩
    rw [← hY] at hcp
    have hYl : Y.toList = Lib.byteCells s.data.toList := by
      rw [hY, List.toList_toArray, List.take_zero, List.nil_append, List.drop_of_length_le (by rw [Array.length_toList]; omega), List.append_nil]
    have hYs : Y.size = s.size := by rw [← Array.length_toList, hYl, Lib.byteCells_length, ← Lib.size_eq]
    have hgY : ((w.alloc (.cells M 5)).setRow w.heap.size Y).heap[w.heap.size]? = some (.cells Y 5 (0, 0)) := setRow_heap _ _ M _ 5 (0, 0) (heap_alloc_new w _)
    have hne : s.data.toList ≠ [] := fun e => h0 (by rw [Lib.size_eq, e]; rfl)
    have hUS := Lib.run_unsafeString_row (P := Try.prog) ((w.alloc (.cells M 5)).setRow w.heap.size Y) 138 3 9 5 Try.underlying138 hco w.heap.size Y.size (by unfold World.shape?; rw [hgY]) s.data.toList hne (by rw [← Lib.size_eq]; omega) (by rw [← Lib.size_eq]; omega)
      (fun j x hx => Lib.cells_of_row hgY Y.size j _ (by rw [List.take_of_length_le (by rw [Array.length_toList]; exact Nat.le_refl _), hYl]; simp [Lib.byteCells, hx]))
    rw [← Lib.size_eq] at hUS
    have hb1 : Below w.heap.size w (w.alloc (.cells M 5)) := (Below.refl _ w).alloc (Nat.le_refl _) _
    have hb2 : Below w.heap.size (w.alloc (.cells M 5)) ((w.alloc (.cells M 5)).setRow w.heap.size Y) := ⟨rfl, rfl, rfl, by simp, fun k hk => setRow_other _ _ _ _ (by omega)⟩
    refine ⟨⟨some ⟨w.heap.size, 0, none⟩, s.size, s.size⟩, _, hmk, _, _, hcp, ⟨w.heap.size, 0, none⟩, rfl, by omega, by simp; omega, _, _, hUS, ?_, ?_⟩
    · congr 1
    · exact Lib.below_freeze (hb1.trans hb2) (p := ⟨w.heap.size, 0, none⟩) (Nat.le_refl _) _
theorem clone_str (s : ByteArray) (w : World) (hlim : s.size ≤ 281474976710656) :
    Calls Try.prog fn_strings_Clone #[.string s] w fun e w' => e = .returned (.string s) ∧ Chg No w w' := by
  refine (strings_Clone_lift (K := fun v w' => v = .string s ∧ Chg No w w') ?_).mono (by rintro e w' ⟨v, rfl, rfl, h⟩; exact ⟨rfl, h⟩)
  unfold strings_Clone_sh
  refine (clone_lite s w hlim).mono ?_
  rintro e w3 ⟨rfl, h3⟩
  exact ⟨_, rfl, rfl, h3⟩

/-! ### Letters -/
/-- A byte, as a great letter. -/
def upB (x : Int) : Int := if 97 ≤ x ∧ x ≤ 122 then x - 32 else x
def upS (s : ByteArray) : List Int := s.data.toList.map fun c => upB (c.toNat : Int)
theorem sb_get {s : ByteArray} {k : Nat} (h : k < s.size) : sb s (k : Int) = ((s.data.toList[k]'(by simpa using h)).toNat : Int) := by
  unfold sb
  have : k < s.data.size := h
  simp only [Int.toNat_natCast, Array.getElem?_eq_getElem this, Option.getD_some, Array.getElem_toList]
theorem sb_bound (s : ByteArray) (i : Int) : 0 ≤ sb s i ∧ sb s i < 256 := by
  unfold sb
  have := (s.data[i.toNat]?.getD 0).toNat_lt
  omega
theorem upS_get {s : ByteArray} {k : Nat} (h : k < s.size) : (upS s)[k]? = some (upB (sb s k)) := by
  unfold upS
  rw [List.getElem?_map, List.getElem?_eq_getElem (by simpa using h), sb_get h]; rfl
theorem upS_length (s : ByteArray) : (upS s).length = s.size := by unfold upS; rw [List.length_map, Array.length_toList]; rfl
theorem upS_eq {a b : ByteArray} : upS a = upS b ↔ a.size = b.size ∧ ∀ k : Nat, k < a.size → upB (sb a k) = upB (sb b k) := by
  constructor
  · intro h
    have hl : a.size = b.size := by rw [← upS_length, ← upS_length, h]
    refine ⟨hl, fun k hk => ?_⟩
    have h1 := upS_get hk
    have h2 := upS_get (s := b) (k := k) (by omega)
    rw [h, h2] at h1
    exact (Option.some.inj h1).symm
  · rintro ⟨hl, h⟩
    refine List.ext_getElem? fun k => ?_
    by_cases hk : k < a.size
    · rw [upS_get hk, upS_get (by omega), h k hk]
    · rw [List.getElem?_eq_none (by rw [upS_length]; omega), List.getElem?_eq_none (by rw [upS_length]; omega)]
theorem wrap_u8 {x : Int} (h : 0 ≤ x) (h' : x < 256) : IntKind.wrap .u8 x = x := by rw [IntKind.wrap_u8]; omega

theorem same_any (a b : ByteArray) (w : World) (ha : a.size ≤ 4611686018427387904) :
    Calls Try.prog fn_op_same #[.string a, .string b] w fun e w' => e = .returned (.bool (decide (upS a = upS b))) ∧ Qt w w' := by
  refine (op_same_lift (K := fun v w' => v = .bool (decide (upS a = upS b)) ∧ Qt w w') ?_).mono (by rintro e w' ⟨v, rfl, rfl, h⟩; exact ⟨rfl, h⟩)
  unfold op_same_sh
  refine brB_of (fun hl => ?_) (fun hl => ?_)
  · have hl : a.size ≠ b.size := by simp at hl; omega
    exact ⟨by rw [decide_eq_false (fun h => hl (upS_eq.1 h).1)], Qt.refl _⟩
  · have hl : a.size = b.size := by simp at hl; omega
    refine ⟨fun n w' => ∃ k : Nat, n = k ∧ k ≤ a.size ∧ (∀ j : Nat, j < k → upB (sb a j) = upB (sb b j)) ∧ Qt w w', fun n _ => a.size - n.toNat, ⟨0, rfl, Nat.zero_le _, fun j h => by omega, Qt.refl _⟩, ?_⟩
    rintro n w3 ⟨k, rfl, hk, hj, h3⟩
    refine brB_of (fun hlt => ?_) (fun hlt => ?_)
    · have hlt : k < a.size := by simpa using hlt
      rintro w5 rfl
      have h5 : Qt w w3.drew := h3.trans (Qt.drew _)
      refine ⟨by omega, by omega, by omega, by omega, ?_⟩
      have ba := sb_bound a k
      have bb := sb_bound b k
      refine ⟨fun x w' => x = upB (sb a k) ∧ Qt w w', ?_, fun c w' => c = decide (97 ≤ sb a k ∧ sb a k ≤ 122) ∧ Qt w w', ?_, ?_⟩
      · rintro x w8 ⟨rfl, h8⟩
        refine ⟨fun y w' => y = upB (sb b k) ∧ Qt w w', ?_, fun c w' => c = decide (97 ≤ sb b k ∧ sb b k ≤ 122) ∧ Qt w w', ?_, ?_⟩
        · rintro y w11 ⟨rfl, h11⟩
          refine brB_of (fun hne => ?_) (fun heq => ?_)
          · have hne : upB (sb a k) ≠ upB (sb b k) := by simpa using hne
            exact ⟨by rw [decide_eq_false (fun h => hne ((upS_eq.1 h).2 k hlt))], h11⟩
          · have heq : upB (sb a k) = upB (sb b k) := by simpa using heq
            rw [wr_of (by omega) (by omega)]
            refine ⟨⟨k + 1, by omega, by omega, fun j hj' => ?_, h11⟩, by show a.size - Int.toNat ((k : Int) + 1) < a.size - Int.toNat (k : Int); omega⟩
            rcases Nat.lt_succ_iff_lt_or_eq.1 hj' with h | rfl
            · exact hj j h
            · exact heq
        · rintro c w9 ⟨rfl, h9⟩
          refine brB_of (fun hc => ⟨?_, h9⟩) (fun hc => ⟨?_, h9⟩)
          · have hc := of_decide_eq_true hc; rw [wrap_u8 (by omega) (by omega)]; unfold upB; rw [if_pos hc]
          · have hc := of_decide_eq_false hc; unfold upB; rw [if_neg hc]
        · refine brB_of (fun hc => ⟨?_, h8⟩) (fun hc => ⟨?_, h8⟩)
          · have hc := of_decide_eq_true hc; congr 1; simp; omega
          · have hc := of_decide_eq_false hc; symm; apply decide_eq_false; omega
      · rintro c w6 ⟨rfl, h6⟩
        refine brB_of (fun hc => ⟨?_, h6⟩) (fun hc => ⟨?_, h6⟩)
        · have hc := of_decide_eq_true hc; rw [wrap_u8 (by omega) (by omega)]; unfold upB; rw [if_pos hc]
        · have hc := of_decide_eq_false hc; unfold upB; rw [if_neg hc]
      · refine brB_of (fun hc => ⟨?_, h5⟩) (fun hc => ⟨?_, h5⟩)
        · have hc := of_decide_eq_true hc; congr 1; simp; omega
        · have hc := of_decide_eq_false hc; symm; apply decide_eq_false; omega
    · have hlt : ¬ k < a.size := by simpa using hlt
      exact ⟨by rw [decide_eq_true (upS_eq.2 ⟨hl, fun j h => hj j (by omega)⟩)], h3⟩
end Go.Proofs.Ytijoigpggphajaa
