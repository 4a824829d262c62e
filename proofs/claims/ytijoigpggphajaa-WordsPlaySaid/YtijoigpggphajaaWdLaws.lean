/- WordsCase and WordsMany: the walks. -/
import Derived.Test.YtijoigpggphajaaWdB
set_option maxRecDepth 100000
namespace Go.Proofs.Ytijoigpggphajaa
open Go.RowKit

theorem trN {x y z : World} (h : Chg No x y) (k : Chg No y z) : Chg No x z := h.trans k (fun _ _ h => h) (fun _ _ h => h)
theorem wordOk_size {s : ByteArray} (h : wordOk s = true) : s.size ≤ 20 := (of_decide_eq_true h).2.2
/-- A letter's other form. -/
def flipC (c : UInt8) : UInt8 := if 97 ≤ c.toNat ∧ c.toNat ≤ 122 then c - 32 else if 65 ≤ c.toNat ∧ c.toNat ≤ 90 then c + 32 else c
theorem flipC_toNat (c : UInt8) : (flipC c).toNat = if 97 ≤ c.toNat ∧ c.toNat ≤ 122 then c.toNat - 32 else if 65 ≤ c.toNat ∧ c.toNat ≤ 90 then c.toNat + 32 else c.toNat := by
  unfold flipC
  split
  · rw [UInt8.toNat_sub_of_le _ _ (by rw [UInt8.le_iff_toNat_le]; simp; omega)]; simp
  · split
    · rw [UInt8.toNat_add]; simp; omega
    · rfl
theorem upS_flip (l : List UInt8) : upS (bs (l.map flipC)) = upS (bs l) := by
  unfold upS
  show (l.map flipC).toArray.toList.map _ = l.toArray.toList.map _
  rw [List.toList_toArray, List.toList_toArray, List.map_map]
  apply List.map_congr_left
  intro c _
  show upB ((flipC c).toNat : Int) = upB (c.toNat : Int)
  rw [flipC_toNat]
  unfold upB
  split
  · rw [if_neg (by omega), if_pos (by omega)]; omega
  · split
    · rw [if_pos (by omega), if_neg (by omega)]; omega
    · rfl
theorem wordsCase_walk (name other : ByteArray) (hsz : name.size ≤ 9223372036854775807) (w : World) : Calls Try.prog fn_hollowaylaw7_WordsCase #[.string name, .string other] w fun e w' => e = .returned (.bool true) ∧ Chg No w w' := by
  refine (hollowaylaw7_WordsCase_lift (K := fun v w' => v = .bool true ∧ Chg No w w') ?_).mono (by rintro e w' ⟨v, rfl, rfl, h⟩; exact ⟨rfl, h⟩)
  unfold hollowaylaw7_WordsCase_sh
  refine ⟨fun b w' => (b = false → other.size ≤ 40 ∧ wordOk name = true) ∧ Chg No w w', ?_, ?_⟩
  · rintro b w6 ⟨hb, h6⟩
    refine brB_of (fun _ => ?_) (fun hf => ?_)
    · refine (alive7_any w6).mono ?_
      rintro e w9 ⟨rfl, h9⟩
      exact ⟨_, rfl, rfl, trN h6 h9⟩
    obtain ⟨hm, hok⟩ := hb hf
    have hn20 := wordOk_size hok
    refine (wnew_any w6).mono ?_
    rintro e w15 ⟨p, rfl, h15, hc15⟩
    refine ⟨_, rfl, ?_⟩
    obtain ⟨x, hx⟩ : ∃ x : Wd, x = ⟨name, 777, -1, false⟩ := ⟨_, rfl⟩
    have hlen := newL_short
    have hadd : addL newL x = newL ++ [x] := by unfold addL; rw [if_neg (by rw [hx]; simp [hok]), if_neg (by omega)]
    have hcode : addC newL x = 0 := by unfold addC; rw [if_neg (by rw [hx]; simp [hok]), if_neg (by omega)]
    refine ⟨fun t w' => t = false ∧ WdsAt (fun k => w6.heap.size ≤ k) w' p (newL ++ [x]) ∧ Chg No w w', ?_, ?_⟩
    · rintro t w20 ⟨rfl, h20, hc20⟩
      refine brB_f ?_
      obtain ⟨sl, w23, hcv, hby, hc23⟩ := bytes_of name w20
      refine ⟨sl, w23, hcv, ?_⟩
      obtain ⟨b, hbe⟩ : ∃ b, b = w20.heap.size := ⟨_, rfl⟩
      rw [← hbe] at hby
      have hd : WdsAt (fun k => k < b) w23 p (newL ++ [x]) := by rw [hbe]; exact (h20.nar.wid (fun k hk => hk.2)).no hc23
      have hnew : w.heap.size ≤ b := by rw [hbe]; exact hc20.size
      have hsz2 : name.data.toList.length = name.size := by rw [Array.length_toList]; rfl
      refine ⟨fun n w' => ∃ k : Nat, n = k ∧ k ≤ name.size ∧ By w' sl b (mapTo flipC name.data.toList k) ∧ WdsAt (fun k => k < b) w' p (newL ++ [x]) ∧ Chg No w w', fun n _ => name.size - n.toNat, ⟨0, rfl, Nat.zero_le _, by rw [mapTo_zero]; exact hby, hd, trN hc20 hc23⟩, ?_⟩
      rintro n w24 ⟨k, rfl, hk, hb4, hd4, hc4⟩
      have hsl : sl.len = name.size := by rw [hb4.len, mapTo_length, hsz2]
      refine brB_of (fun hlt => ?_) (fun hlt => ?_)
      · have hlt : k < name.size := by simp at hlt; omega
        obtain ⟨c, hcc⟩ : ∃ c, name.data.toList[k]? = some c := ⟨_, List.getElem?_eq_getElem (by omega)⟩
        have hcell : ∀ y, By y sl b (mapTo flipC name.data.toList k) → y.cell? (Addr.add ⟨b, 0, none⟩ (Int.toNat (k : Int) * 1)) = some (.int .u8 (c.toNat : Int)) := by
          intro y hy; rw [addr_k]; exact hy.cell (by rw [mapTo_get]; exact hcc)
        have hix : ∀ {Q : Addr → Prop}, Q ⟨b, 0, none⟩ → ∃ a, sl.ptr = some a ∧ 0 ≤ (k : Int) ∧ (k : Int) < (sl.len : Int) ∧ Q a := fun h => ⟨_, hb4.ptr, by omega, by omega, h⟩
        have wrt : ∀ {y y2 : World} {u : Int}, By y sl b (mapTo flipC name.data.toList k) → WdsAt (fun k => k < b) y p (newL ++ [x]) → Chg No w y → u = ((flipC c).toNat : Int) → y2 = stW y ⟨b, k, none⟩ 0 [.int .u8 u] → By y2 sl b (mapTo flipC name.data.toList (k + 1)) ∧ WdsAt (fun k => k < b) y2 p (newL ++ [x]) ∧ Chg No w y2 := by
          rintro y y2 u h1 h2 h3 rfl rfl
          refine ⟨?_, ?_, ?_⟩
          · have := h1.set (k := k) (by rw [mapTo_length]; omega) (flipC c)
            rw [← mapTo_succ flipC _ hcc] at this
            exact this
          · exact h2.chg (Chg.st (S := fun k => k = b) rfl) (fun j hj he => by omega)
          · refine h3.trans (Chg.st (S := fun k => k = b) rfl) (fun _ _ h => h) (fun j hj h => ?_)
            subst h; omega
        have hcl := c.toNat_lt
        refine ⟨fun w' => By w' sl b (mapTo flipC name.data.toList (k + 1)) ∧ WdsAt (fun k => k < b) w' p (newL ++ [x]) ∧ Chg No w w', ?_, ?_⟩
        · rintro w46 ⟨h1, h2, h3⟩
          rw [wr_of (by omega) (by omega)]
          exact ⟨⟨k + 1, by omega, by omega, h1, h2, h3⟩, by show name.size - Int.toNat ((k : Int) + 1) < name.size - Int.toNat (k : Int); omega⟩
        refine ⟨fun t w' => t = decide (97 ≤ c.toNat ∧ c.toNat ≤ 122) ∧ By w' sl b (mapTo flipC name.data.toList k) ∧ WdsAt (fun k => k < b) w' p (newL ++ [x]) ∧ Chg No w w', ?_, ?_⟩
        · rintro t w30 ⟨rfl, h1, h2, h3⟩
          refine brB_of (fun ht => ?_) (fun ht => ?_)
          · have ht := of_decide_eq_true ht
            refine hix ⟨_, hcell _ h1, hix ⟨?_, ?_⟩⟩
            · rw [addr_k]; exact h1.wr (by rw [mapTo_length]; omega)
            · rw [addr_k]; intro w35 h35
              refine wrt h1 h2 h3 ?_ h35
              rw [wrap_u8 (by omega) (by omega), flipC_toNat, if_pos ht]; omega
          · have ht := of_decide_eq_false ht
            refine ⟨fun t w' => t = decide (65 ≤ c.toNat ∧ c.toNat ≤ 90) ∧ By w' sl b (mapTo flipC name.data.toList k) ∧ WdsAt (fun k => k < b) w' p (newL ++ [x]) ∧ Chg No w w', ?_, ?_⟩
            · rintro t w40 ⟨rfl, h1, h2, h3⟩
              refine brB_of (fun ht2 => ?_) (fun ht2 => ?_)
              · have ht2 := of_decide_eq_true ht2
                refine hix ⟨_, hcell _ h1, hix ⟨?_, ?_⟩⟩
                · rw [addr_k]; exact h1.wr (by rw [mapTo_length]; omega)
                · rw [addr_k]; intro w35 h35
                  refine wrt h1 h2 h3 ?_ h35
                  rw [wrap_u8 (by omega) (by omega), flipC_toNat, if_neg ht, if_pos ht2]; omega
              · have ht2 := of_decide_eq_false ht2
                exact ⟨by rw [mapTo_same flipC _ hcc (by unfold flipC; rw [if_neg ht, if_neg ht2])]; exact h1, h2, h3⟩
            · refine hix ⟨_, hcell _ h1, ?_⟩
              refine brB_of (fun h => ?_) (fun h => ?_)
              · refine hix ⟨_, hcell _ h1, ?_, h1, h2, h3⟩
                have h := of_decide_eq_true h
                rw [Bool.eq_iff_iff]; simp; omega
              · have h := of_decide_eq_false h
                exact ⟨by symm; apply decide_eq_false; omega, h1, h2, h3⟩
        · refine hix ⟨_, hcell _ hb4, ?_⟩
          refine brB_of (fun h => ?_) (fun h => ?_)
          · refine hix ⟨_, hcell _ hb4, ?_, hb4, hd4, hc4⟩
            have h := of_decide_eq_true h
            rw [Bool.eq_iff_iff]; simp; omega
          · have h := of_decide_eq_false h
            exact ⟨by symm; apply decide_eq_false; omega, hb4, hd4, hc4⟩
      · have hlt : k = name.size := by simp at hlt; omega
        subst hlt
        have h := hb4.str
        rw [← hsz2, mapTo_all] at h
        refine ⟨_, w24, h, ?_⟩
        have hup : upS (bs (name.data.toList.map flipC)) = upS name := upS_flip _
        have hnames : ∀ y ∈ newL ++ [x], y.name.size ≤ 9223372036854775807 := by
          intro y hy
          rcases List.mem_append.1 hy with hy | hy
          · have := (newL_ok y hy).1; omega
          · rw [List.mem_singleton.1 hy, hx]; exact hsz
        refine (wfind_any _ hd4 hnames).mono ?_
        rintro e w50 ⟨rfl, hc50⟩
        have hf1 : fnd (bs (name.data.toList.map flipC)) (newL ++ [x]) = some x := by rw [fnd_app, if_pos (by rw [hup, hx])]
        rw [hf1]
        refine ⟨_, _, _, _, _, rfl, ?_⟩
        intro b56 w57 hb56 hw57
        obtain ⟨f1, f2⟩ := wput x hb56 hw57
        refine ⟨f1, fun w58 hw58 => ?_⟩
        obtain ⟨f3, f4⟩ := f2 w58 hw58
        refine (wfind_any other ((hd4.no hc50).no f4) hnames).mono ?_
        rintro e w60 ⟨rfl, hc60⟩
        refine ⟨_, _, _, _, _, rfl, ?_⟩
        intro b66 w67 hb66 hw67
        obtain ⟨g1, g2⟩ := wput ((fnd other (newL ++ [x])).getD wd0) hb66 hw67
        refine ⟨g1, fun w68 hw68 => ?_⟩
        obtain ⟨g3, g4⟩ := g2 w68 hw68
        intro w69 hw69
        have hq : Qt w68 w69 := by rw [hw69]; exact Qt.drew _
        have c6869 : Chg No w68 w69 := Chg.qt hq
        have hby9 : By w69 sl b (mapTo flipC name.data.toList name.size) := ((((hb4.chg hc50 (fun h => h)).chg f4 (fun h => h)).chg hc60 (fun h => h)).chg g4 (fun h => h)).chg c6869 (fun h => h)
        have hc69 : Chg No w w69 := trN (trN (trN (trN (trN hc4 hc50) f4) hc60) g4) c6869
        have x56 : Ob w69 b56 (wdC x) T_api_Word := ((f3.no hc60).no g4).no c6869
        have x66 := g3.no c6869
        have hs : ∀ y : World, Chg No w69 y → Ob y b56 (wdC x) T_api_Word ∧ Ob y b66 (wdC ((fnd other (newL ++ [x])).getD wd0)) T_api_Word := fun y hy => ⟨x56.no hy, x66.no hy⟩
        refine ⟨fun w' => Ob w' b56 (wdC x) T_api_Word ∧ Ob w' b66 (wdC ((fnd other (newL ++ [x])).getD wd0)) T_api_Word, hs _ (Chg.refl _ _), brB_t ⟨777, fun w' hw' => hw'.1.cell (by rw [hx]; rfl), brB_t ?_⟩⟩
        have h9 := hby9.str
        rw [← hsz2, mapTo_all] at h9
        refine ⟨_, w69, h9, hs _ (Chg.refl _ _), ?_⟩
        refine (wsame_any name _ hsz w69).mono ?_
        rintro e w75 ⟨rfl, hq75⟩
        have hc75 : Chg No w69 w75 := Chg.qt hq75
        refine ⟨_, rfl, hs _ hc75, ?_⟩
        rw [decide_eq_true hup.symm]
        refine brB_t ?_
        have last : ∀ is : Bool, is = decide (upS name = upS other) → ∀ y : World, Chg No w69 y → Calls Try.prog fn_words_Same #[.string name, .string other] y fun e78 w79 => ∃ b80 : Bool, e78 = .returned (.bool b80) ∧ (Ob w79 b56 (wdC x) T_api_Word ∧ Ob w79 b66 (wdC ((fnd other (newL ++ [x])).getD wd0)) T_api_Word) ∧ (Value.bool (is == b80) = .bool true ∧ Chg No w w79) := by
          rintro is rfl y hy
          refine (wsame_any name other hsz y).mono ?_
          rintro e w79 ⟨rfl, hq79⟩
          have hc79 : Chg No w69 w79 := trN hy (Chg.qt hq79)
          exact ⟨_, rfl, hs _ hc79, by simp, trN hc69 hc79⟩
        have hfo : fnd other (newL ++ [x]) = if upS name = upS other then some x else fnd other newL := by rw [fnd_app, hx]
        refine brB_of (fun hi => ?_) (fun hi => ?_)
        · refine ⟨_, fun w' hw' => hw'.2.cell rfl, last _ ?_ _ hc75⟩
          by_cases he : upS name = upS other
          · rw [hfo, if_pos he, decide_eq_true he, hx]; rfl
          · rw [hfo, if_neg he] at hi ⊢
            obtain ⟨y, hy⟩ := Option.isSome_iff_exists.1 hi
            have := (newL_ok y (fnd_mem other _ _ _ rfl hy)).2
            rw [hy, decide_eq_false he]
            simp; omega
        · refine last _ ?_ _ hc75
          symm; apply decide_eq_false
          intro he
          rw [hfo, if_pos he] at hi
          cases hi
    · refine brB_f ?_
      show Calls _ _ #[_, .agg (wdC ⟨name, 777, -1, false⟩).toArray] _ _
      rw [← hx]
      refine (wadd_any x h15 (fun j hj => by have := hc15.size; omega) (by rw [hx]; exact hsz)).mono ?_
      rintro e w18 ⟨rfl, h18, hc18⟩
      refine ⟨_, rfl, by rw [hcode]; rfl, by rw [← hadd]; exact h18, ?_⟩
      exact (trN h6 hc15).trans hc18 (fun _ _ h => h) (fun j hj h => by have := h6.size; omega)
  · refine (right_name name hsz w).mono ?_
    rintro e w4 ⟨rfl, rfl⟩
    refine ⟨_, rfl, brB_of (fun _ => ⟨(fun h => Bool.noConfusion h), Chg.refl _ _⟩) (fun h1 => brB_of (fun _ => ⟨(fun h => Bool.noConfusion h), Chg.refl _ _⟩) (fun h => ?_))⟩
    refine (alive7_any w).mono ?_
    rintro e w4 ⟨rfl, h4⟩
    refine ⟨_, rfl, fun _ => ⟨by simp at h; omega, by simpa using h1⟩, h4⟩
end Go.Proofs.Ytijoigpggphajaa
