/- CacheUses: the walk. -/
import Derived.Test.YtijoigpggphajaaCaGet
set_option maxRecDepth 100000
namespace Go.Proofs.Ytijoigpggphajaa
open Go.RowKit

/-- The traces of these numbers. -/
def vsOf (ns : List Nat) : List TrV := ns.map fun (i : Nat) => trV (i : Int) (i : Int)
theorem vsOf_starts (ns : List Nat) : (vsOf ns).map (·.start) = ns.map fun (i : Nat) => (i : Int) := by
  unfold vsOf; rw [List.map_map]; rfl
theorem vsOf_mem {ns : List Nat} {x : Nat} : (x : Int) ∈ (vsOf ns).map (·.start) ↔ x ∈ ns := by
  rw [vsOf_starts, List.mem_map]
  constructor
  · rintro ⟨a, ha, he⟩
    have : a = x := by omega
    exact this ▸ ha
  · intro h; exact ⟨x, h, rfl⟩
theorem vsOf_erase : ∀ (ns : List Nat) (k : Nat), (vsOf ns).eraseIdx k = vsOf (ns.eraseIdx k)
  | [], _ => rfl
  | a :: r, 0 => rfl
  | a :: r, k + 1 => by
    show trV a a :: (vsOf r).eraseIdx k = _
    rw [vsOf_erase r k]; rfl
theorem vsOf_app (ns ms : List Nat) : vsOf ns ++ vsOf ms = vsOf (ns ++ ms) := by unfold vsOf; rw [List.map_append]
theorem vsOf_drop (ns : List Nat) (k : Nat) : (vsOf ns).drop k = vsOf (ns.drop k) := by unfold vsOf; rw [List.map_drop]
theorem vsOf_take (ns : List Nat) (k : Nat) : (vsOf ns).take k = vsOf (ns.take k) := by unfold vsOf; rw [List.map_take]
theorem vsOf_len (ns : List Nat) : (vsOf ns).length = ns.length := by unfold vsOf; rw [List.length_map]
/-- The order behind a use of u. -/
def usedL (n u : Nat) : List Nat := (List.range n).eraseIdx u ++ [u]
def firstOf (u : Nat) : Nat := if u = 0 then 1 else 0
theorem used_facts (n u : Nat) (hn : 2 ≤ n) (hn2 : n ≤ 50) (hu : u < n) :
    (usedL n u).length = n ∧ 0 ∈ usedL n u ∧ (usedL n u)[0]? = some (firstOf u) ∧ n ∉ usedL n u ∧ u ∈ (usedL n u ++ [n]).drop 1 ∧ firstOf u ∉ (usedL n u ++ [n]).drop 1 ∧ (usedL n u ++ [n]).take 1 = [firstOf u] := by
  have h : (List.range 51).all (fun n => (List.range n).all fun u => decide (2 ≤ n → (usedL n u).length = n ∧ 0 ∈ usedL n u ∧ (usedL n u)[0]? = some (firstOf u) ∧ n ∉ usedL n u ∧ u ∈ (usedL n u ++ [n]).drop 1 ∧ firstOf u ∉ (usedL n u ++ [n]).drop 1 ∧ (usedL n u ++ [n]).take 1 = [firstOf u])) = true := by decide +kernel
  exact of_decide_eq_true (List.all_eq_true.1 (List.all_eq_true.1 h n (List.mem_range.2 (by omega))) u (List.mem_range.2 hu)) hn
theorem ca_get {b0 : Nat} {w : World} {c : Nat} {most : Int} {vs : List TrV} (h : Ca b0 w c most vs) (hb : b0 ≤ w.heap.size) (hl : vs.length ≤ 100000) (x : Int) (hx : x ∈ vs.map (·.start)) :
    Calls Try.prog fn_cache_Cache_Get #[.pointer (some ⟨c, 0, none⟩), .int .i64 x] w fun e w' => ∃ (k : Nat) (v : TrV) (t' : Tr), vs[k]? = some v ∧ v.start = x ∧ e = .returned (.tuple #[.agg (trC t').toArray, .bool true]) ∧ Ca b0 w' c most (vs.eraseIdx k ++ [v]) ∧ Chg (fun k => b0 ≤ k) w w' := by
  obtain ⟨B, h1, h2⟩ := h
  have hB : CAt (fun k => (B k ∧ k < w.heap.size) ∨ w.heap.size ≤ k) w c most vs := h2.nar.wid (fun k hk => Or.inl hk)
  refine (get_any hB (fun k hk => Or.inr hk) hl x hx).mono ?_
  rintro e w' ⟨k, v, t', m, hv, hvx, rfl, _, hca, hch⟩
  have hle : ∀ k, ((B k ∧ k < w.heap.size) ∨ w.heap.size ≤ k) → b0 ≤ k := fun k hk => by
    rcases hk with hk | hk
    · exact h1 k hk.1
    · omega
  exact ⟨k, v, t', hv, hvx, rfl, ⟨_, fun k hk => hle k hk.1, hca⟩, hch.mono (fun k _ hk => hle k hk)⟩
theorem use_num (n use : Int) (h : 2 ≤ n) (h2 : n ≤ 50) : ∃ u : Nat, (u : Int) < n ∧ Int.tmod (wr ((Int.tmod use n) + n)) n = u := by
  have h3 := Int.tmod_lt_of_pos use (show 0 < n by omega)
  have h4 : -n < Int.tmod use n := by
    have := Int.lt_tmod_of_pos use (show 0 < n by omega)
    omega
  rw [wr_of (by omega) (by omega)]
  have h5 := Int.tmod_lt_of_pos (Int.tmod use n + n) (show 0 < n by omega)
  have h6 := Int.tmod_nonneg n (show 0 ≤ Int.tmod use n + n by omega)
  exact ⟨(Int.tmod (Int.tmod use n + n) n).toNat, by omega, by omega⟩
theorem cacheUses_walk (n use : Int) (w : World) : Calls Try.prog fn_hollowaylaw21_CacheUses #[.int .i64 n, .int .i64 use] w fun e w' => e = .returned (.bool true) ∧ Chg No w w' := by
  refine (hollowaylaw21_CacheUses_lift (K := fun v w' => v = .bool true ∧ Chg No w w') ?_).mono (by rintro e w' ⟨v, rfl, rfl, h⟩; exact ⟨rfl, h⟩)
  have tr : ∀ {x y z : World}, Chg No x y → Chg No y z → Chg No x z := fun h k => h.trans k (fun _ _ h => h) (fun _ _ h => h)
  have tb : ∀ {y z : World}, Chg No w y → Chg (fun k => w.heap.size ≤ k) y z → Chg No w z := fun h k => h.trans k (fun _ _ h => h) (fun j hj he => by omega)
  unfold hollowaylaw21_CacheUses_sh
  refine ⟨fun b w' => (b = false → 2 ≤ n ∧ n ≤ 50) ∧ Chg No w w', ?_, ?_⟩
  · rintro b w6 ⟨hb, h6⟩
    refine brB_of (fun _ => ?_) (fun hf => ?_)
    · refine (alive21_any w6).mono ?_
      rintro e w9 ⟨rfl, h9⟩
      exact ⟨_, rfl, rfl, tr h6 h9⟩
    obtain ⟨hn2, hn50⟩ := hb hf
    obtain ⟨N, rfl⟩ : ∃ N : Nat, n = N := ⟨n.toNat, by omega⟩
    have hmost : imin (imax (N : Int) 0) 100 = N := by
      unfold imin imax
      split <;> split <;> omega
    refine (cnew_any N w6).mono ?_
    rintro e w12 ⟨c, rfl, h12, hc12⟩
    rw [hmost] at h12
    have h12 : Ca w.heap.size w12 c N (vsOf []) := ⟨_, fun k hk => by have := h6.size; omega, h12⟩
    refine ⟨_, rfl, brB_f ?_⟩
    refine ⟨fun i w' => ∃ k : Nat, i = k ∧ k ≤ N ∧ Ca w.heap.size w' c N (vsOf (List.range k)) ∧ Chg No w w', fun i _ => N - i.toNat, ⟨0, rfl, Nat.zero_le _, h12, tr h6 hc12⟩, ?_⟩
    rintro i w14 ⟨k, rfl, hk, hca, hc⟩
    refine brB_of (fun hlt => ?_) (fun hlt => ?_)
    · have hlt : k < N := by simp at hlt; omega
      refine (trace_any k k w14).mono ?_
      rintro e w17 ⟨t, rfl, ht, hc17⟩
      refine ⟨_, _, _, _, _, t.ins, t.outs, _, t.cells, rfl, ?_⟩
      have hll : (vsOf (List.range k)).length = k := by rw [vsOf_len, List.length_range]
      refine (ca_put hca hc.size hc17 ht (trV_small _ _) (by omega) (by omega) (by
        show ((k : Nat) : Int) ∉ _
        rw [vsOf_mem, List.mem_range]; omega)).mono ?_
      rintro e w28 ⟨s29, rfl, g29, h28, hc28⟩
      have hL : vsOf (List.range k) ++ [trV k k] = vsOf (List.range (k + 1)) := by
        rw [List.range_succ, ← vsOf_app]; rfl
      have hz : (vsOf (List.range (k + 1))).length - (N : Int).toNat = 0 := by rw [vsOf_len, List.length_range]; omega
      rw [hL, hz] at g29 h28
      have l29 : s29.len = 0 := g29.lenOf
      refine ⟨s29, rfl, ?_⟩
      rw [l29]
      refine brB_f ?_
      rw [wr_of (by omega) (by omega)]
      exact ⟨⟨k + 1, by omega, by omega, h28, tb (tr hc hc17) hc28⟩, by show N - Int.toNat ((k : Int) + 1) < N - Int.toNat (k : Int); omega⟩
    · have hlt : k = N := by simp at hlt; omega
      subst hlt
      obtain ⟨u, hu, hue⟩ := use_num k use hn2 hn50
      rw [hue]
      have hu : u < k := by omega
      obtain ⟨fl1, fl2, fl3, fl4, fl5, fl6, fl7⟩ := used_facts k u (by omega) (by omega) hu
      have hll : (vsOf (List.range k)).length = k := by rw [vsOf_len, List.length_range]
      refine ⟨by omega, by omega, ?_⟩
      refine (ca_get hca hc.size (by omega) u (by rw [vsOf_mem, List.mem_range]; exact hu)).mono ?_
      rintro e w31 ⟨i, v, t', hv, hvx, rfl, h31, hc31⟩
      have hiv : i = u ∧ v = trV u u := by
        have hik : i < k := by have := (List.getElem?_eq_some_iff.1 hv).1; omega
        unfold vsOf at hv
        rw [List.getElem?_map, List.getElem?_range hik] at hv
        have hv := Option.some.inj hv
        rw [← hv] at hvx
        have : (i : Int) = u := hvx
        have hi : i = u := by omega
        subst hi
        exact ⟨rfl, hv.symm⟩
      obtain ⟨rfl, rfl⟩ := hiv
      have hLu : (vsOf (List.range k)).eraseIdx i ++ [trV i i] = vsOf (usedL k i) := by
        rw [vsOf_erase]; unfold usedL; rw [← vsOf_app]; rfl
      rw [hLu] at h31
      have cw31 := tb hc hc31
      refine ⟨_, _, _, _, _, t'.ins, t'.outs, _, t'.cells, _, rfl, ?_⟩
      intro b42 w43 hb42 hw43
      have o43 : Ob w43 b42 (trC tr0) T_api_Trace := by rw [hw43, hb42]; exact Ob.new w31 (trC tr0) T_api_Trace
      have c43 : Chg No w31 w43 := by rw [hw43]; exact Chg.alloc _ _ _
      refine ⟨o43.wr (by simp [trC]), ?_⟩
      intro w44 hw44
      have c44 : Chg No w31 w44 := by
        rw [hw44]
        exact c43.trans (Chg.st (S := fun j => j = b42) rfl) (fun _ _ h => h) (fun j hj he => by omega)
      have cw44 := tr cw31 c44
      have h44 := h31.no c44
      refine ⟨fun b w' => b = false ∧ Ca w.heap.size w' c k (vsOf (usedL k i)) ∧ Chg No w w', ?_, ?_⟩
      · rintro b w48 ⟨rfl, h48, hc48⟩
        refine brB_f ?_
        refine ⟨fun f w' => f = (firstOf i : Nat) ∧ w48 = w', ?_, ?_⟩
        · rintro f w50 ⟨rfl, rfl⟩
          obtain ⟨B, hB, hca48⟩ := h48
          refine (eldest_any hca48 (v := trV (firstOf i) (firstOf i)) (by unfold vsOf; rw [List.getElem?_map, fl3]; rfl)).mono ?_
          rintro e w52 ⟨rfl, rfl⟩
          refine ⟨_, _, rfl, ?_⟩
          have h48 : Ca w.heap.size w48 c k (vsOf (usedL k i)) := ⟨B, hB, hca48⟩
          refine (trace_any k k w48).mono ?_
          rintro e w56 ⟨t2, rfl, ht2, hc56⟩
          refine ⟨_, _, _, _, _, t2.ins, t2.outs, _, t2.cells, rfl, ?_⟩
          refine (ca_put h48 hc48.size hc56 ht2 (trV_small _ _) (by omega) (by rw [vsOf_len, fl1]; omega) (by
            show ((k : Nat) : Int) ∉ _
            rw [vsOf_mem]; exact fl4)).mono ?_
          rintro e w67 ⟨s68, rfl, g68, h67, hc67⟩
          have hL : vsOf (usedL k i) ++ [trV k k] = vsOf (usedL k i ++ [k]) := by rw [← vsOf_app]; rfl
          have hz : (vsOf (usedL k i ++ [k])).length - (k : Int).toNat = 1 := by rw [vsOf_len, List.length_append, fl1]; simp
          rw [hL, hz, vsOf_take, fl7] at g68
          rw [hL, hz, vsOf_drop] at h67
          have g68 : Ow intE w67 s68 [((firstOf i : Nat) : Int)] := g68
          have cw67 := tb (tr hc48 hc56) hc67
          have l68 : s68.len = 1 := g68.lenOf
          have el : ((s68.len : Int) == 1) = true := by rw [l68]; rfl
          refine ⟨s68, rfl, brB_t ?_⟩
          have ef : ∀ z : Int, (z == z) = true := fun z => by simp
          refine (show ∀ {P Q : Prop}, P → brB ((trV (firstOf i) (firstOf i)).start == ((firstOf i : Nat) : Int)) P Q from fun h => by rw [show ((trV (firstOf i) (firstOf i)).start == ((firstOf i : Nat) : Int)) = true from ef _]; exact brB_t h) ?_
          rw [el]
          refine brB_t ?_
          refine g68.rd.get rfl rfl fun a ha hcell => ⟨_, hcell, ?_⟩
          rw [ef]
          refine brB_t ?_
          obtain ⟨B2, hB2, hca67⟩ := h67
          refine (has_any hca67 i).mono ?_
          rintro e w73 ⟨rfl, hc73⟩
          refine ⟨_, rfl, ?_⟩
          rw [decide_eq_true (vsOf_mem.2 fl5)]
          refine brB_t ?_
          have hca73 := hca67.no hc73
          refine (clen_any hca73).mono ?_
          rintro e w76 ⟨rfl, rfl⟩
          refine ⟨_, rfl, ?_⟩
          have hlen : (vsOf ((usedL k i ++ [k]).drop 1)).length = k := by rw [vsOf_len, List.length_drop, List.length_append, fl1]; simp
          rw [hlen, ef]
          refine brB_t ?_
          refine (has_any hca73 (firstOf i : Nat)).mono ?_
          rintro e w79 ⟨rfl, hc79⟩
          refine ⟨_, rfl, ?_, tr (tr cw67 hc73) hc79⟩
          rw [decide_eq_false (fun hm => fl6 (vsOf_mem.1 hm))]; rfl
        · refine brB_of (fun h => ⟨?_, rfl⟩) (fun h => ⟨?_, rfl⟩)
          · have h : i = 0 := by simp at h; omega
            subst h; rfl
          · have h : i ≠ 0 := by simp at h; omega
            unfold firstOf; rw [if_neg h]; rfl
      · refine brB_f ?_
        obtain ⟨B, hB, hca44⟩ := h44
        refine (has_any hca44 0).mono ?_
        rintro e w46 ⟨rfl, hc46⟩
        refine ⟨_, rfl, ?_, ⟨B, hB, hca44.no hc46⟩, tr cw44 hc46⟩
        rw [decide_eq_true (show (0 : Int) ∈ (vsOf (usedL k i)).map (·.start) from vsOf_mem.2 fl2)]; rfl
  · refine brB_of (fun h => ⟨(fun h => Bool.noConfusion h), Chg.refl _ _⟩) (fun h1 => brB_of (fun h => ⟨(fun h => Bool.noConfusion h), Chg.refl _ _⟩) (fun h2 => ?_))
    refine (alive21_any w).mono ?_
    rintro e w4 ⟨rfl, h4⟩
    have h1 := of_decide_eq_false h1
    have h2 := of_decide_eq_false h2
    exact ⟨_, rfl, fun _ => by omega, h4⟩
end Go.Proofs.Ytijoigpggphajaa
