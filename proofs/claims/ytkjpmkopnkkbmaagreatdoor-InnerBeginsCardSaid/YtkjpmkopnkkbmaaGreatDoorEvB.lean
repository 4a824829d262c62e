/- A trace's engine in memory: its values, its instructions one by one. -/
import Derived.Test.YtkjpmkopnkkbmaaGreatDoorStA
set_option maxRecDepth 100000
namespace Go.Proofs.YtkjpmkopnkkbmaaGreatDoor
open Go.RowKit

theorem madeOne (z : Value) (n : Nat) : (madeCells #[z] n).toList = List.replicate n z := by
  unfold madeCells
  apply List.ext_getElem
  · simp
  · intro i h1 h2
    simp [Nat.mod_one]
theorem fl_rep (n : Nat) : fl intE (List.replicate n 0) = List.replicate n (Value.int .i64 0) := by
  induction n with
  | zero => rfl
  | succ m ih => rw [List.replicate_succ, List.replicate_succ, fl_cons, ih]; rfl
/-- make([]int, n). -/
theorem make_ints {w : World} {n : Int} {N : Nat} (hn : n = (N : Int)) (hN : N ≤ 1000000) : ∃ w' : World, (Instr.makeSlice T_sl_int (.int .i64 n) (.int .i64 n)).run Tryz.prog w = .ok (⟨some ⟨w.heap.size, 0, none⟩, N, N⟩ : Sl).val w' ∧ Ow intE w' ⟨some ⟨w.heap.size, 0, none⟩, N, N⟩ (List.replicate N 0) ∧ Chg No w w' := by
  subst hn
  obtain ⟨i, z, hi, hz, h1, h2, h3⟩ := intOk.info
  have hz0 : z = .int .i64 0 := by
    have e : (Tryz.prog.info? T_int).bind (·.zero) = some (.int .i64 0) := by kernel_rfl
    have hi' : Tryz.prog.info? T_int = some i := hi
    rw [hi'] at e
    exact Option.some.inj (hz.symm.trans e)
  subst hz0
  have h1' : i.size = 1 := h1
  have h2' : i.bytes = 8 := h2
  have hr := run_make (P := Tryz.prog) w T_sl_int T_int i (.int .i64 0) intOk.und hi hz .i64 .i64 (N : Int) (N : Int) (by omega) (by omega) (by rw [h2']; omega) (by omega)
  rw [Int.toNat_natCast, h1', Nat.mul_one] at hr
  have hz1 : (Value.int .i64 0).cells = #[.int .i64 0] := rfl
  rw [hz1] at hr
  refine ⟨_, hr, ?_, Chg.alloc _ _ _⟩
  have hm : madeCells #[Value.int .i64 0] N = (List.replicate N (Value.int .i64 0)).toArray := Array.ext' (by rw [madeOne])
  rw [hm]
  have := Ow.lit (E := intE) w (List.replicate N 0) (List.replicate N (Value.int .i64 0)) (fl_rep N).symm (by rw [List.length_replicate]; unfold maxLen; omega)
  rw [List.length_replicate] at this
  exact this

/-! ### digits.Put -/
def u8E : Enc UInt8 := ⟨T_uint8, 1, 1, fun c => [.int .u8 c.toNat], by intro x; rfl, by intro x u hu; simp at hu; subst hu; rfl, by decide⟩
theorem u8Ok : EncOk Tryz.prog u8E T_sl_uint8 := EncOk.of (z := .int .u8 0) (by kernel_rfl) (by kernel_rfl) (by kernel_rfl)
theorem fl_u8 : ∀ (l : List UInt8) (j : Nat), (fl u8E l)[j]? = (l[j]?).map (fun c => Value.int .u8 c.toNat)
  | [], j => by simp [fl]
  | c :: l, 0 => by rw [fl_cons]; rfl
  | c :: l, j + 1 => by
    rw [fl_cons, List.getElem?_append_right (by show 1 ≤ j + 1; omega)]
    have := fl_u8 l j
    simpa [u8E] using this
theorem u8_str {w : World} {s : Sl} {l : List UInt8} (h : Rd u8E w s l) (hne : l ≠ []) : (convert T_sl_uint8 T_string s.val).run Tryz.prog w = .ok (.string (bs l)) w := by
  obtain ⟨ao, cap, he, h1, h2, h3, h4⟩ := h
  have h0 : 0 < l.length := List.length_pos_iff.2 hne
  obtain ⟨a, ha, _⟩ := h4 0 _ (by rw [fl_u8, List.getElem?_eq_getElem h0]; rfl)
  rw [he, ha]
  refine run_convert_bytes_back (P := Tryz.prog) w T_sl_uint8 T_string T_uint8 a cap l u8Ok.und Tryz.underlying5 Tryz.underlying9 (fun j hj => ?_)
  obtain ⟨a', ha', hc⟩ := h4 j _ (by rw [fl_u8, List.getElem?_eq_getElem hj]; rfl)
  rw [ha] at ha'; cases ha'
  exact hc
theorem lit8 {w w' : World} {b : Nat} {v : Value} (c : UInt8) (hv : v = .int .u8 c.toNat) (hb : b = w.heap.size) (hw : w' = World.alloc w (.cells #[v] T_uint8)) : Ow u8E w' ⟨some ⟨b, 0, none⟩, 1, 1⟩ [c] ∧ Chg No w w' := by
  subst hv
  rw [hw, hb]
  exact ⟨Ow.lit (E := u8E) w [c] [.int .u8 c.toNat] (by rw [fl_one]; rfl) (by show 1 ≤ maxLen; unfold maxLen; omega), Chg.alloc _ _ _⟩
theorem dig_c (n : Nat) : sb (bs [48, 49, 50, 51, 52, 53, 54, 55, 56, 57, 65, 66, 67, 68, 69, 70, 71, 72, 73, 74, 75, 76, 77, 78, 79, 80, 81, 82, 83, 84, 85, 86, 87, 88, 89, 90]) ((n % 10 : Nat) : Int) = ((UInt8.ofNat (48 + n % 10)).toNat : Int) := by
  have h : ∀ k : Fin 10, sb (bs [48, 49, 50, 51, 52, 53, 54, 55, 56, 57, 65, 66, 67, 68, 69, 70, 71, 72, 73, 74, 75, 76, 77, 78, 79, 80, 81, 82, 83, 84, 85, 86, 87, 88, 89, 90]) ((k.val : Nat) : Int) = ((UInt8.ofNat (48 + k.val)).toNat : Int) := by decide +kernel
  exact h ⟨n % 10, Nat.mod_lt _ (by decide)⟩
theorem right10 (w : World) : Calls Tryz.prog fn_digits_Right #[.int .i64 10] w fun e w' => e = .returned (.bool true) ∧ w = w' :=
  (digits_Right_lift (K := fun r w' => r = .bool true ∧ w = w') (by unfold digits_Right_sh; exact brB_t ⟨rfl, rfl⟩)).mono (by rintro e w' ⟨r, rfl, rfl, h⟩; exact ⟨rfl, h⟩)
theorem put_any (v : Int) (w : World) : Calls Tryz.prog fn_digits_Put #[.int .i64 v, .int .i64 10] w fun e w' => e = .returned (.string (putV v)) ∧ Chg No w w' := by
  refine (digits_Put_lift (K := fun r w' => r = .string (putV v) ∧ Chg No w w') ?_).mono (by rintro e w' ⟨r, rfl, rfl, h⟩; exact ⟨rfl, h⟩)
  unfold digits_Put_sh
  refine (right10 w).mono ?_
  rintro e w4 ⟨rfl, rfl⟩
  refine ⟨_, rfl, brB_f ?_⟩
  have e10 : IntKind.wrap .u64 10 = 10 := by decide
  have hu : ∀ x : Int, 0 ≤ IntKind.wrap .u64 x ∧ IntKind.wrap .u64 x < 18446744073709551616 := fun x => by rw [IntKind.wrap_u64]; omega
  refine ⟨fun n w' => n = (absN v : Int) ∧ w = w', ?_, ?_⟩
  · rintro n w6 ⟨rfl, rfl⟩
    have hN : absN v < 10 ^ 20 := by
      unfold absN
      have := hu (0 - IntKind.wrap .u64 v)
      have := hu v
      split <;> omega
    refine ⟨fun n o w' => ∃ (k f : Nat) (l : List UInt8), n = (k : Int) ∧ k < 10 ^ f ∧ (l = [] → 0 < f) ∧ f + l.length ≤ 20 ∧ dg f k l = dg 20 (absN v) [] ∧ Ow u8E w' o l ∧ (∀ j, o.blk = some j → w.heap.size ≤ j) ∧ Chg No w w', fun n o _ => if n = 0 ∧ o.len ≠ 0 then 0 else n.toNat + 1 + (1 - o.len), ⟨absN v, 20, [], rfl, hN, (fun _ => by decide), by simp, rfl, Ow.nil _ _, (fun j hj => by cases hj), Chg.refl _ _⟩, ?_⟩
    rintro n o w7 ⟨k, f, l, rfl, hk, hl, hfl, hd, ho, hob, hc⟩
    have hol := ho.rd.len
    have step : (0 < k ∨ l = []) → digits_Put_j1 10 (k : Int) o (fun n o w' => ∃ (k f : Nat) (l : List UInt8), n = (k : Int) ∧ k < 10 ^ f ∧ (l = [] → 0 < f) ∧ f + l.length ≤ 20 ∧ dg f k l = dg 20 (absN v) [] ∧ Ow u8E w' o l ∧ (∀ j, o.blk = some j → w.heap.size ≤ j) ∧ Chg No w w') (fun n o _ => if n = 0 ∧ o.len ≠ 0 then 0 else n.toNat + 1 + (1 - o.len)) w7 v true w7 (fun r w' => r = .string (putV v) ∧ Chg No w w') := by
      intro hgo
      have hf : 0 < f := by
        rcases hgo with h | h
        · rcases Nat.eq_zero_or_pos f with h0 | h0
          · subst h0; simp at hk; omega
          · exact h0
        · exact hl h
      obtain ⟨f', rfl⟩ : ∃ f', f = f' + 1 := ⟨f - 1, by omega⟩
      unfold digits_Put_j1
      rw [e10]
      have em : Int.tmod (k : Int) 10 = ((k % 10 : Nat) : Int) := by rw [Int.tmod_eq_emod_of_nonneg (by omega)]; omega
      have ed : Int.tdiv (k : Int) 10 = ((k / 10 : Nat) : Int) := by rw [Int.tdiv_eq_ediv_of_nonneg (by omega)]; omega
      rw [em, ed]
      refine brB_t ⟨by decide, by omega, ?_, ?_⟩
      · have : ((bs [48, 49, 50, 51, 52, 53, 54, 55, 56, 57, 65, 66, 67, 68, 69, 70, 71, 72, 73, 74, 75, 76, 77, 78, 79, 80, 81, 82, 83, 84, 85, 86, 87, 88, 89, 90]).size : Int) = 36 := by decide
        rw [this]; omega
      intro b14 w15 hb hw
      obtain ⟨l15, c15⟩ := lit8 (UInt8.ofNat (48 + k % 10)) (by rw [dig_c]) hb hw
      refine app_ok u8Ok (s := ⟨some ⟨b14, 0, none⟩, 1, 1⟩) rfl rfl l15 (ho.no c15).rd (by show (1 + l.length) * 1 ≤ _; omega) (by show 1 + l.length ≤ _; unfold maxLen; omega) ?_
      intro s16 w17 h17 c17 b17
      have z7 := hc.size
      have z15 := c15.size
      have hb14 : (⟨some ⟨b14, 0, none⟩, 1, 1⟩ : Sl).blk = some b14 := rfl
      have hlt : k / 10 < 10 ^ f' := by rw [Nat.div_lt_iff_lt_mul (by decide)]; rw [Nat.pow_succ] at hk; exact hk
      have hw64 : IntKind.wrap .u64 ((k / 10 : Nat) : Int) = ((k / 10 : Nat) : Int) := by
        rw [IntKind.wrap_u64]
        have : (10 : Nat) ^ f' ≤ 10 ^ 19 := Nat.pow_le_pow_right (by decide) (by omega)
        omega
      rw [hw64]
      have hl17 := h17.rd.len
      simp only [List.length_append, List.length_singleton] at hl17
      refine ⟨by decide, ⟨k / 10, f', UInt8.ofNat (48 + k % 10) :: l, rfl, hlt, (fun h => by cases h), by simp; omega, ?_, h17, fun j hj => ?_, ?_⟩, ?_⟩
      · rw [← hd]
        conv => rhs; unfold dg
        rw [if_neg (fun h => by
          rcases hgo with hg | hg
          · omega
          · exact h.2 hg)]
      · rcases b17 with hh | hh
        · have := Option.some.inj (hb14.symm.trans (hh.symm.trans hj)); omega
        · have := Option.some.inj (hh.symm.trans hj); omega
      · exact (trN hc c15).trans c17 (fun _ _ h => h) (fun j hj he => by have := Option.some.inj (hb14.symm.trans he); omega)
      · dsimp only
        rw [hol]
        have e1 : ¬ ((k : Int) = 0 ∧ l.length ≠ 0) := by
          rintro ⟨h1, h2⟩
          rcases hgo with hg | hg
          · omega
          · rw [hg] at h2; exact h2 rfl
        rw [if_neg (c := (k : Int) = 0 ∧ l.length ≠ 0) e1]
        split <;> omega
    refine brB_of (fun hp => ?_) (fun hp => ?_)
    · have hp := of_decide_eq_true hp
      exact step (Or.inl (by omega))
    · have hp := of_decide_eq_false hp
      have hk0 : k = 0 := by omega
      subst hk0
      by_cases hle : l = []
      · have : ((o.len : Int) == 0) = true := by rw [hol, hle]; rfl
        rw [this]
        exact step (Or.inr hle)
      · have : ((o.len : Int) == 0) = false := by
          rw [hol]
          have := List.length_pos_iff.2 hle
          simp; exact hle
        rw [this]
        unfold digits_Put_j1
        have hdd : dg 20 (absN v) [] = l := by rw [← hd, dg_zero _ _ hle]
        have hlen : (bs l).size = l.length := rfl
        refine brB_f (brB_of (fun hv => ?_) (fun hv => ?_))
        · have hv := of_decide_eq_true hv
          refine ⟨_, w7, u8_str ho.rd hle, ?_, ?_, hc⟩
          · rw [hlen]; show (1 : Int) + _ ≤ _; omega
          · unfold putV; rw [if_pos hv, hdd]
        · have hv := of_decide_eq_false hv
          refine ⟨_, w7, u8_str ho.rd hle, ?_, hc⟩
          unfold putV; rw [if_neg hv, hdd]
  · have a1 := hu (0 - IntKind.wrap .u64 v)
    have a2 := hu v
    refine brB_of (fun hv => ⟨?_, rfl⟩) (fun hv => ⟨?_, rfl⟩)
    · have hv := of_decide_eq_true hv
      unfold absN; rw [if_pos hv]; omega
    · have hv := of_decide_eq_false hv
      unfold absN; rw [if_neg hv]; omega
theorem putV_size (v : Int) : (putV v).size ≤ 21 := by
  unfold putV
  have := dg_len 20 (absN v) []
  simp only [List.length_nil, Nat.zero_add] at this
  split
  · rw [ByteArray.size_append]; show 1 + _ ≤ _; have h : (bs (dg 20 (absN v) [])).size = (dg 20 (absN v) []).length := rfl; omega
  · have h : (bs (dg 20 (absN v) [])).size = (dg 20 (absN v) []).length := rfl; omega
theorem sayV_size (op v : Int) : (sayV op v).size ≤ 22 := by
  unfold sayV
  split
  · rw [ByteArray.size_append]; have := putV_size v; show _ + 1 ≤ _; omega
  · show 1 ≤ 22; decide
theorem byte_lit (v : Int) : Value.int .u8 (IntKind.wrap .u8 v) = .int .u8 ((byteC v).toNat : Int) := by
  unfold byteC
  have h : 0 ≤ IntKind.wrap .u8 v ∧ IntKind.wrap .u8 v < 256 := by rw [IntKind.wrap_u8]; omega
  congr 1
  rw [UInt8.toNat_ofNat']
  omega
end Go.Proofs.YtkjpmkopnkkbmaaGreatDoor
