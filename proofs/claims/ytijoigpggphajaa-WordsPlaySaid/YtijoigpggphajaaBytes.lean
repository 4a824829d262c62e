/- Bytes of a string's own: []byte(s), what is read and written there, string(b); letters made great (hollowayref1.great, Same). -/
import Derived.Test.YtijoigpggphajaaStrs
import Derived.Test.YtijoigpggphajaaShHollowayref1
import Derived.Lib.ConvBytes
import Derived.Laws.IdiomStrings
set_option maxRecDepth 100000
namespace Go.Proofs.Ytijoigpggphajaa
open Go.RowKit

/-- s is the whole of block b, which holds the bytes l (and more room behind them). -/
structure By (w : World) (s : Sl) (b : Nat) (l : List UInt8) : Prop where
  form : ∃ cap, s = ⟨some ⟨b, 0, none⟩, l.length, cap⟩
  row : ∃ pad : List Value, w.heap[b]? = some (.cells (l.map (fun (c : UInt8) => Value.int .u8 c.toNat) ++ pad).toArray T_uint8 ((l.map (fun (c : UInt8) => Value.int .u8 c.toNat) ++ pad).length, (l.map (fun (c : UInt8) => Value.int .u8 c.toNat) ++ pad).length + 1))
theorem By.len {w : World} {s : Sl} {b : Nat} {l : List UInt8} (h : By w s b l) : s.len = l.length := by obtain ⟨cap, rfl⟩ := h.form; rfl
theorem By.ptr {w : World} {s : Sl} {b : Nat} {l : List UInt8} (h : By w s b l) : s.ptr = some ⟨b, 0, none⟩ := by obtain ⟨cap, rfl⟩ := h.form; rfl
theorem By.cell {w : World} {s : Sl} {b : Nat} {l : List UInt8} (h : By w s b l) {k : Nat} {c : UInt8} (hk : l[k]? = some c) : w.cell? ⟨b, k, none⟩ = some (.int .u8 c.toNat) := by
  obtain ⟨pad, hr⟩ := h.row
  have hlt : k < l.length := (List.getElem?_eq_some_iff.1 hk).1
  simp only [World.cell?, hr, Option.isSome_none, Bool.false_eq_true, if_false, List.getElem?_toArray]
  rw [List.getElem?_append_left (by simpa using hlt), List.getElem?_map, hk]; rfl
theorem addr_k (b : Nat) (k : Nat) : Addr.add ⟨b, 0, none⟩ (Int.toNat (k : Int) * 1) = ⟨b, k, none⟩ := by rw [add_mk]; simp
theorem By.wr {w : World} {s : Sl} {b : Nat} {l : List UInt8} (h : By w s b l) {k : Nat} (hk : k < l.length) : wrOk w ⟨b, k, none⟩ 1 := by
  intro i hi
  have hi0 : i = 0 := by omega
  subst hi0
  obtain ⟨pad, hr⟩ := h.row
  refine ⟨⟨_, by simpa [add_mk] using h.cell (List.getElem?_eq_getElem hk)⟩, ?_⟩
  rw [add_mk]
  simp only [World.frozen?, hr]
  simp; omega
theorem By.set {w : World} {s : Sl} {b : Nat} {l : List UInt8} (h : By w s b l) {k : Nat} (hk : k < l.length) (c : UInt8) : By (stW w ⟨b, k, none⟩ 0 [.int .u8 c.toNat]) s b (l.set k c) := by
  obtain ⟨cap, hs⟩ := h.form
  obtain ⟨pad, hr⟩ := h.row
  refine ⟨⟨cap, by rw [hs, List.length_set]⟩, ⟨pad, ?_⟩⟩
  have h1 : (stW w ⟨b, k, none⟩ 0 [.int .u8 c.toNat]) = w.setCell ⟨b, k, none⟩ (.int .u8 c.toNat) := by simp [stW, add_mk]
  rw [h1, row_setCell hr]
  have e : (l.set k c).map (fun (c : UInt8) => Value.int .u8 c.toNat) ++ pad = (l.map (fun (c : UInt8) => Value.int .u8 c.toNat) ++ pad).set k (.int .u8 c.toNat) := by
    rw [List.set_append_left _ _ (by simpa using hk), List.map_set]
  rw [e, List.length_set]
  congr 1
  simp
theorem By.chg {S : Nat → Prop} {w w' : World} {s : Sl} {b : Nat} {l : List UInt8} (h : By w s b l) (c : Chg S w w') (hb : ¬ S b) : By w' s b l :=
  ⟨h.form, h.row.imp fun _ hr => c.row hr hb⟩
theorem By.lt {w : World} {s : Sl} {b : Nat} {l : List UInt8} (h : By w s b l) : b < w.heap.size := by obtain ⟨pad, hr⟩ := h.row; exact lt_of_block hr
/-- '[]byte(s)'. -/
theorem bytes_of (s : ByteArray) (w : World) : ∃ (sl : Sl) (w' : World), (convert T_string T_sl_uint8 (.string s)).run Try.prog w = .ok sl.val w' ∧ By w' sl w.heap.size s.data.toList ∧ Chg No w w' := by
  refine ⟨⟨some ⟨w.heap.size, 0, none⟩, s.size, grownCap w s.size 0 T_uint8⟩, _, Lib.run_convert_string_bytes (P := Try.prog) w T_string T_sl_uint8 T_uint8 s Try.underlying9 Try.underlying60 Try.underlying5, ⟨⟨grownCap w s.size 0 T_uint8, ?_⟩, ⟨List.replicate (grownCap w s.size 0 T_uint8 - s.size) (.int .u8 0), ?_⟩⟩, ?_⟩
  · rw [Array.length_toList]; rfl
  · rw [Lib.bytesWorld_at_new]
    have e : Lib.bytesCells w T_uint8 s = (s.data.toList.map (fun (c : UInt8) => Value.int .u8 c.toNat) ++ List.replicate (grownCap w s.size 0 T_uint8 - s.size) (Value.int .u8 0)).toArray := by
      apply Array.ext'; simp [Lib.bytesCells]
    rw [e]; simp
  · exact ⟨rfl, rfl, rfl, by rw [Lib.bytesWorld_size]; omega, fun k hk _ => Lib.bytesWorld_at_old w T_uint8 s k hk⟩
/-- 'string(b)'. -/
theorem By.str {w : World} {s : Sl} {b : Nat} {l : List UInt8} (h : By w s b l) : (convert T_sl_uint8 T_string s.val).run Try.prog w = .ok (.string (bs l)) w := by
  obtain ⟨cap, rfl⟩ := h.form
  exact run_convert_bytes_back (P := Try.prog) w T_sl_uint8 T_string T_uint8 ⟨b, 0, none⟩ cap l Try.underlying60 Try.underlying5 Try.underlying9 (fun j hj => by rw [add_mk, Nat.zero_add]; exact h.cell (List.getElem?_eq_getElem hj))

/-! ### Letters made great -/
def upC (c : UInt8) : UInt8 := if 97 ≤ c.toNat ∧ c.toNat ≤ 122 then c - 32 else c
theorem upC_toNat (c : UInt8) : ((upC c).toNat : Int) = upB (c.toNat : Int) := by
  unfold upC upB
  by_cases h : 97 ≤ c.toNat ∧ c.toNat ≤ 122
  · rw [if_pos h, if_pos (by omega), UInt8.toNat_sub_of_le _ _ (by rw [UInt8.le_iff_toNat_le]; simp; omega)]
    simp; omega
  · rw [if_neg h, if_neg (by omega)]
theorem upS_map (s : ByteArray) : upS s = (s.data.toList.map upC).map fun c => (c.toNat : Int) := by
  unfold upS; rw [List.map_map]; apply List.map_congr_left; intro c _; exact (upC_toNat c).symm
theorem upS_iff (a b : ByteArray) : a.data.toList.map upC = b.data.toList.map upC ↔ upS a = upS b := by
  rw [upS_map, upS_map]
  constructor
  · intro h; rw [h]
  · intro h
    exact (List.map_inj_right (fun x y h => UInt8.toNat_inj.1 (Int.ofNat_inj.1 h))).1 h
/-- A list whose first k members were mapped. -/
def mapTo (f : UInt8 → UInt8) (l : List UInt8) (k : Nat) : List UInt8 := (l.take k).map f ++ l.drop k
theorem mapTo_length (f : UInt8 → UInt8) (l : List UInt8) (k : Nat) : (mapTo f l k).length = l.length := by unfold mapTo; simp; omega
theorem mapTo_zero (f : UInt8 → UInt8) (l : List UInt8) : mapTo f l 0 = l := by simp [mapTo]
theorem mapTo_all (f : UInt8 → UInt8) (l : List UInt8) : mapTo f l l.length = l.map f := by simp [mapTo]
theorem mapTo_at (f : UInt8 → UInt8) (l : List UInt8) (k i : Nat) : (mapTo f l k)[i]? = if i < k then (l[i]?).map f else l[i]? := by
  unfold mapTo
  by_cases hk : k ≤ l.length
  · by_cases h : i < k
    · rw [if_pos h, List.getElem?_append_left (by simp; omega), List.getElem?_map, List.getElem?_take, if_pos h]
    · rw [if_neg h, List.getElem?_append_right (by simp; omega), List.getElem?_drop]
      congr 1; simp; omega
  · rw [List.drop_of_length_le (by omega), List.append_nil, List.take_of_length_le (by omega), List.getElem?_map]
    split
    · rfl
    · rw [List.getElem?_eq_none (by omega)]; rfl
theorem mapTo_get (f : UInt8 → UInt8) (l : List UInt8) (k : Nat) : (mapTo f l k)[k]? = l[k]? := by rw [mapTo_at, if_neg (Nat.lt_irrefl _)]
theorem mapTo_succ (f : UInt8 → UInt8) (l : List UInt8) {k : Nat} {c : UInt8} (hk : l[k]? = some c) : mapTo f l (k + 1) = (mapTo f l k).set k (f c) := by
  have hlt : k < l.length := (List.getElem?_eq_some_iff.1 hk).1
  refine List.ext_getElem? fun i => ?_
  by_cases h : k = i
  · subst h
    rw [mapTo_at, if_pos (by omega), hk, List.getElem?_set_self (by rw [mapTo_length]; exact hlt)]; rfl
  · rw [List.getElem?_set_ne h, mapTo_at, mapTo_at]
    by_cases h2 : i < k
    · rw [if_pos (by omega), if_pos h2]
    · rw [if_neg (by omega), if_neg h2]
theorem mapTo_same (f : UInt8 → UInt8) (l : List UInt8) {k : Nat} {c : UInt8} (hk : l[k]? = some c) (hf : f c = c) : mapTo f l (k + 1) = mapTo f l k := by
  rw [mapTo_succ f l hk, hf]
  refine List.ext_getElem? fun i => ?_
  by_cases h : k = i
  · subst h
    have hlt : k < l.length := (List.getElem?_eq_some_iff.1 hk).1
    rw [List.getElem?_set_self (by rw [mapTo_length]; exact hlt), mapTo_get, hk]
  · rw [List.getElem?_set_ne h]

/-- The bytes of a conversion, as the lifted texts ask for one of them. -/
theorem By.ix {w : World} {s : Sl} {b : Nat} {l : List UInt8} (h : By w s b l) {k : Nat} {c : UInt8} (hk : l[k]? = some c) {G : Addr → Prop} (g : G ⟨b, 0, none⟩) : ∃ a, s.ptr = some a ∧ 0 ≤ (k : Int) ∧ (k : Int) < (s.len : Int) ∧ G a := by
  have hlt : k < l.length := (List.getElem?_eq_some_iff.1 hk).1
  exact ⟨_, h.ptr, by omega, by rw [h.len]; omega, g⟩
/-- A round that maps one byte: as 'great' and its like do it. -/
theorem great_any (s : ByteArray) (w : World) (hs : s.size ≤ 4611686018427387904) : Calls Try.prog fn_hollowayref1_great #[.string s] w fun e w' => e = .returned (.string (bs (s.data.toList.map upC))) ∧ Chg No w w' := by
  refine (hollowayref1_great_lift (K := fun v w' => v = .string (bs (s.data.toList.map upC)) ∧ Chg No w w') ?_).mono (by rintro e w' ⟨v, rfl, rfl, h⟩; exact ⟨rfl, h⟩)
  unfold hollowayref1_great_sh
  obtain ⟨sl, w3, hrun, hb, hc⟩ := bytes_of s w
  obtain ⟨b, hbe⟩ : ∃ b, b = w.heap.size := ⟨_, rfl⟩
  rw [← hbe] at hb
  have hsz : s.data.toList.length = s.size := by rw [Array.length_toList]; rfl
  refine ⟨sl, w3, hrun, fun i w' => ∃ k : Nat, i = k ∧ k ≤ s.size ∧ By w' sl b (mapTo upC s.data.toList k) ∧ Chg No w w', fun i _ => s.size - i.toNat, ⟨0, rfl, Nat.zero_le _, by rw [mapTo_zero]; exact hb, hc⟩, ?_⟩
  rintro i w4 ⟨k, rfl, hk, hb4, hc4⟩
  have hl4 := hb4.len
  rw [mapTo_length, hsz] at hl4
  rw [hl4]
  refine brB_of (fun hlt => ?_) (fun hlt => ?_)
  · have hlt : k < s.size := by simp at hlt; omega
    obtain ⟨c, hcc⟩ : ∃ c, s.data.toList[k]? = some c := ⟨_, List.getElem?_eq_getElem (by omega)⟩
    have hg : (mapTo upC s.data.toList k)[k]? = some c := by rw [mapTo_get]; exact hcc
    have hcell : ∀ w', By w' sl b (mapTo upC s.data.toList k) → w'.cell? (Addr.add ⟨b, 0, none⟩ (Int.toNat (k : Int) * 1)) = some (.int .u8 c.toNat) := fun w' h => by rw [addr_k]; exact h.cell hg
    have hix : ∀ {G : Addr → Prop}, G ⟨b, 0, none⟩ → ∃ a, sl.ptr = some a ∧ 0 ≤ (k : Int) ∧ (k : Int) < (s.size : Int) ∧ G a := fun g => ⟨_, hb4.ptr, by omega, by omega, g⟩
    refine ⟨fun w' => By w' sl b (mapTo upC s.data.toList (k + 1)) ∧ Chg No w w', ?_, ?_⟩
    · rintro w16 ⟨h1, h2⟩
      rw [wr_of (by omega) (by omega)]
      exact ⟨⟨k + 1, by omega, by omega, h1, h2⟩, by show s.size - Int.toNat ((k : Int) + 1) < s.size - Int.toNat (k : Int); omega⟩
    · refine ⟨fun t w' => t = decide (97 ≤ c.toNat ∧ c.toNat ≤ 122) ∧ By w' sl b (mapTo upC s.data.toList k) ∧ Chg No w w', ?_, ?_⟩
      · rintro t w10 ⟨rfl, h1, h2⟩
        refine brB_of (fun ht => ?_) (fun ht => ?_)
        · have ht := of_decide_eq_true ht
          refine hix ⟨_, hcell _ h1, hix ⟨?_, ?_⟩⟩
          · rw [addr_k]; exact h1.wr (by rw [mapTo_length]; omega)
          · rintro w15 rfl
            have hu : IntKind.wrap .u8 ((c.toNat : Int) - 32) = ((upC c).toNat : Int) := by
              rw [wrap_u8 (by omega) (by have := c.toNat_lt; omega), upC_toNat]; unfold upB; rw [if_pos (by omega)]
            rw [hu, addr_k]
            refine ⟨?_, ?_⟩
            · have := h1.set (k := k) (by rw [mapTo_length]; omega) (upC c)
              rw [← mapTo_succ upC _ hcc] at this
              exact this
            · refine h2.trans (Chg.st (S := fun k => k = b) rfl) (fun _ _ h => h) (fun x hx h => ?_)
              subst h; omega
        · have ht := of_decide_eq_false ht
          exact ⟨by rw [mapTo_same upC _ hcc (by unfold upC; rw [if_neg ht])]; exact h1, h2⟩
      · refine hix ⟨_, hcell _ hb4, ?_⟩
        refine brB_of (fun h => ?_) (fun h => ?_)
        · refine hix ⟨_, hcell _ hb4, ?_, hb4, hc4⟩
          have h := of_decide_eq_true h
          rw [Bool.eq_iff_iff]; simp; omega
        · have h := of_decide_eq_false h
          exact ⟨by symm; apply decide_eq_false; omega, hb4, hc4⟩
  · have hlt : k = s.size := by simp at hlt; omega
    subst hlt
    have h := hb4.str
    refine ⟨_, w4, h, ?_, hc4⟩
    rw [← hsz, mapTo_all]
theorem refSame_any (a b : ByteArray) (w : World) (ha : a.size ≤ 4611686018427387904) (hb : b.size ≤ 4611686018427387904) : Calls Try.prog fn_hollowayref1_Same #[.string a, .string b] w fun e w' => e = .returned (.bool (decide (upS a = upS b))) ∧ Chg No w w' := by
  refine (hollowayref1_Same_lift (K := fun v w' => v = .bool (decide (upS a = upS b)) ∧ Chg No w w') ?_).mono (by rintro e w' ⟨v, rfl, rfl, h⟩; exact ⟨rfl, h⟩)
  unfold hollowayref1_Same_sh
  refine (great_any a w ha).mono ?_
  rintro e w4 ⟨rfl, h4⟩
  refine ⟨_, rfl, ?_⟩
  refine (great_any b w4 hb).mono ?_
  rintro e w7 ⟨rfl, h7⟩
  refine ⟨_, rfl, ?_, h4.trans h7 (fun _ _ h => h) (fun _ _ h => h)⟩
  have e : ((bs (List.map upC a.data.toList)).toList == (bs (List.map upC b.data.toList)).toList) = decide (upS a = upS b) := by
    rw [Bool.eq_iff_iff, ByteArray.toList_eq, ByteArray.toList_eq]
    simp only [beq_iff_eq, decide_eq_true_eq]
    rw [← upS_iff]
  rw [e]
end Go.Proofs.Ytijoigpggphajaa
