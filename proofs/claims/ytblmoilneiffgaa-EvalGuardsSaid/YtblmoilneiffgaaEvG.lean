/- eval.Run: a whole run of a trace, in as many registers as it has places. -/
import Derived.Test.YtblmoilneiffgaaEvF
set_option maxRecDepth 100000
namespace Go.Proofs.Ytblmoilneiffgaa
open Go.RowKit

/-- What eval.Run hands back. -/
def runR (S : StC) (x steps : Int) (h : Bool) : Value := .tuple #[.agg (stC S).toArray, .agg #[.int .i64 x, .int .i64 steps, .bool h]]
/-- The machine behind eval.Run, its exit and its steps, whether a watched cell was hit. -/
def outS (v : TrG) (s : StV) (wl : List Int) : StV := if mayV v s = true then endV v (runG v s wl) else s
def outX (v : TrG) (s : StV) (wl : List Int) : Int := if mayV v s = true then (runG v s wl).1 else -1
def outN (v : TrG) (s : StV) (wl : List Int) : Int := if mayV v s = true then (outAt v (runG v s wl).1).steps else 0
def outH (v : TrG) (s : StV) (wl : List Int) : Bool := if mayV v s = true then decide ((runG v s wl).2.hit ≥ 0) else false
theorem idA_of {xs : List Int} {n : Nat} (hl : xs.length = n) (h : ∀ q : Nat, q < n → xs[q]? = some (q : Int)) : xs = idA n := by
  apply List.ext_getElem?
  intro q
  by_cases hq : q < n
  · rw [h q hq]
    unfold idA
    rw [List.getElem?_map, List.getElem?_range hq]; rfl
  · rw [List.getElem?_eq_none (by omega), List.getElem?_eq_none (by rw [idA_len]; omega)]
theorem erun_any {D D' : Nat → Prop} {w : World} (t : TrP) (S : StC) {v : TrG} {s : StV} (ht : TrIs D w t v) (hr : RightV v) (h : StIs D' w S s) {waS : Sl} {wl : List Int} (hwa : Rd intE w waS wl)
    (n1 : s.stack.length ≤ 100000) (n2 : s.back.length ≤ 100000) (n3 : s.mem.length ≤ 1000000) (hx : TxOk s) :
    Calls Try.prog fn_eval_Run #[.agg (trP t).toArray, .agg (stC S).toArray, waS.val] w fun e w' => ∃ S' : StC, e = .returned (runR S' (outX v s wl) (outN v s wl) (outH v s wl)) ∧ StOw (fun k => w.heap.size ≤ k) w' S' (outS v s wl) ∧ Chg No w w' := by
  refine (eval_Run_lift (K := fun r w' => ∃ S' : StC, r = runR S' (outX v s wl) (outN v s wl) (outH v s wl) ∧ StOw (fun k => w.heap.size ≤ k) w' S' (outS v s wl) ∧ Chg No w w') ?_).mono (by rintro e w' ⟨r, rfl, S', rfl, h⟩; exact ⟨S', rfl, h⟩)
  unfold eval_Run_sh
  intro b21 w22 hb21 hw22 b23 w24 hb23 hw24 b25 w26 hb25 hw26 b27 w28 hb27 hw28
  have c22 := al hw22
  have c24 := al hw24
  have c26 := al hw26
  have c28 := al hw28
  have z22 : w22.heap.size = w.heap.size + 1 := by rw [hw22]; simp
  have z24 : w24.heap.size = w22.heap.size + 1 := by rw [hw24]; simp
  have z26 : w26.heap.size = w24.heap.size + 1 := by rw [hw26]; simp
  have z28 : w28.heap.size = w26.heap.size + 1 := by rw [hw28]; simp
  have o21 : Ob w28 b21 (trP t) T_api_Trace := by
    have : Ob w22 b21 (trP t) T_api_Trace := by rw [hw22, hb21]; exact Ob.new w (trP t) T_api_Trace
    exact ((this.no c24).no c26).no c28
  have o23 : Ob w28 b23 (stC S) T_api_State := by
    have : Ob w24 b23 (stC S) T_api_State := by rw [hw24, hb23]; exact Ob.new w22 (stC S) T_api_State
    exact (this.no c26).no c28
  have o25 : Ob w28 b25 (stC st0) T_api_State := by
    have : Ob w26 b25 (stC st0) T_api_State := by rw [hw26, hb25]; exact Ob.new w24 (stC st0) T_api_State
    exact this.no c28
  have o27 : Ob w28 b27 [.int .i64 0, .int .i64 0, .bool false] T_eval_Done := by rw [hw28, hb27]; exact Ob.new w26 [.int .i64 0, .int .i64 0, .bool false] T_eval_Done
  have k28 : Chg No w w28 := trN (trN (trN c22 c24) c26) c28
  obtain ⟨q1, q2, q3, q4, q5, q6, q7⟩ := hr.head
  have hil := ht.ins.len
  refine ⟨t.ins, o21.cell rfl, ?_⟩
  rw [hil]
  obtain ⟨w31, hrun, hat, c31⟩ := make_ints (w := w28) (n := (v.ins.length : Int)) (N := v.ins.length) rfl (by omega)
  refine ⟨_, w31, hrun, ?_⟩
  have z31 : w28.heap.size < w31.heap.size := hat.lt rfl
  have hsb : (⟨some ⟨w28.heap.size, 0, none⟩, v.ins.length, v.ins.length⟩ : Sl).blk = some w28.heap.size := rfl
  have k31 := trN k28 c31
  refine ⟨fun n w' => ∃ (k : Nat) (xs : List Int), n = k ∧ k ≤ v.ins.length ∧ Ow intE w' ⟨some ⟨w28.heap.size, 0, none⟩, v.ins.length, v.ins.length⟩ xs ∧ xs.length = v.ins.length ∧ (∀ q : Nat, q < k → xs[q]? = some (q : Int)) ∧ Chg (fun k => k = w28.heap.size) w31 w', fun n _ => v.ins.length - n.toNat, ⟨0, _, rfl, Nat.zero_le _, hat, List.length_replicate, fun q hq => by omega, Chg.refl _ _⟩, ?_⟩
  rintro n w32 ⟨k, xs, rfl, hk, hox, hxl, hxs, c32⟩
  refine brB_of (fun hlt => ?_) (fun hlt => ?_)
  · have hlt : k < v.ins.length := by simpa using hlt
    obtain ⟨x, hx⟩ : ∃ x, xs[k]? = some x := ⟨_, List.getElem?_eq_getElem (by omega)⟩
    refine ⟨_, rfl, by omega, by show (k : Int) < (v.ins.length : Int); omega, ?_⟩
    obtain ⟨f1, f2⟩ := hox.set1 rfl (k := k) (j := 0) (x' := (k : Int)) (u := .int .i64 (k : Int)) hx (by decide) rfl
    rw [add0] at f1 f2
    refine ⟨f1, fun w35 hw35 => ?_⟩
    rw [wr_in (by omega)]
    refine ⟨⟨k + 1, xs.set k (k : Int), by omega, by omega, by rw [hw35]; exact f2, by rw [List.length_set]; exact hxl, fun q hq => ?_, c32.trans (by rw [hw35]; exact Chg.st (S := fun j => j = w28.heap.size) (by rw [add_block])) (fun _ _ h => h) (fun _ _ h => h)⟩, by show v.ins.length - Int.toNat ((k : Int) + 1) < v.ins.length - Int.toNat (k : Int); omega⟩
    by_cases hqk : q = k
    · subst hqk; rw [List.getElem?_set_self (by omega)]
    · rw [List.getElem?_set_ne (by omega)]; exact hxs q (by omega)
  · have hlt : k = v.ins.length := by have : ¬ (k : Int) < (v.ins.length : Int) := by simpa using hlt
                                      omega
    subst hlt
    have hid := idA_of hxl hxs
    subst hid
    have k32 : Chg No w w32 := k31.trans c32 (fun _ _ h => h) (fun k hk he => by have := k28.size; omega)
    have z32 := c32.size
    have p21 := (o21.no c31).chg c32 (fun he => by omega)
    have p23 := (o23.no c31).chg c32 (fun he => by omega)
    have p25 := (o25.no c31).chg c32 (fun he => by omega)
    have p27 := (o27.no c31).chg c32 (fun he => by omega)
    refine ⟨_, _, _, _, _, _, _, _, _, p21.cell rfl, p21.cell rfl, p21.cell rfl, p21.cell rfl, p21.cell rfl, p21.cell rfl, p21.cell rfl, p21.cell rfl, p21.cell rfl, ?_⟩
    refine ⟨_, _, _, _, _, _, _, _, _, _, p23.cell rfl, p23.cell rfl, p23.cell rfl, p23.cell rfl, p23.cell rfl, p23.cell rfl, p23.cell rfl, p23.cell rfl, p23.cell rfl, p23.cell rfl, ?_⟩
    refine (thr_any t S (ht.no k32) hr (h.no k32) hox.rd (idA_len _) (N := v.ins.length) (by omega) (idA_ok _) (hwa.no k32) n1 n2 n3 hx).mono ?_
    rintro e w56 ⟨r, rfl, S', hS', c56, hre⟩
    have z56 := c56.size
    have hre' : ∃ hit : Int, r = thrR S' (outX v s wl) (outN v s wl) (outH v s wl) hit := by
      rw [hre]; unfold outX outN outH
      by_cases hm : mayV v s = true
      · rw [if_pos hm, if_pos hm, if_pos hm, if_pos hm]; exact ⟨_, rfl⟩
      · rw [if_neg hm, if_neg hm, if_neg hm, if_neg hm]; exact ⟨_, rfl⟩
    obtain ⟨hit, rfl⟩ := hre'
    have hSo : StOw (fun k => w32.heap.size ≤ k) w56 S' (outS v s wl) := hS'
    refine ⟨_, _, _, _, _, _, _, _, _, _, _, _, _, _, rfl, ?_⟩
    intro b71 w72 hb71 hw72 b73 w74 hb73 hw74
    have c72 := al hw72
    have c74 := al hw74
    have z72 : w72.heap.size = w56.heap.size + 1 := by rw [hw72]; simp
    have z74 : w74.heap.size = w72.heap.size + 1 := by rw [hw74]; simp
    have o71 : Ob w74 b71 (stC st0) T_api_State := by
      have : Ob w72 b71 (stC st0) T_api_State := by rw [hw72, hb71]; exact Ob.new w56 (stC st0) T_api_State
      exact this.no c74
    have o73 : Ob w74 b73 [.int .i64 0, .int .i64 0, .bool false] T_eval_Done := by rw [hw74, hb73]; exact Ob.new w72 [.int .i64 0, .int .i64 0, .bool false] T_eval_Done
    refine ⟨o71.wr (by simp [stC]), fun w75 hw75 => ?_⟩
    obtain ⟨p71, c75⟩ := o71.up (k := 0) (vs := stC S') (cs' := stC S') (by simp [stC]) rfl hw75
    have p73 := o73.chg c75 (fun he => by omega)
    refine ⟨p73.wr (by simp), fun w76 hw76 => ?_⟩
    obtain ⟨q73, c76⟩ := p73.up (k := 0) (vs := [.int .i64 (outX v s wl), .int .i64 (outN v s wl), .bool (outH v s wl)]) (cs' := [.int .i64 (outX v s wl), .int .i64 (outN v s wl), .bool (outH v s wl)]) (by simp) rfl hw76
    have q71 := p71.chg c76 (fun he => by omega)
    intro w77 hw77
    have c77 := dw hw77
    have r71 := q71.no c77
    have r73 := q73.no c77
    have z75 := c75.size
    have z76 := c76.size
    have z77 := c77.size
    have c7 : Chg (fun j => j = b71 ∨ j = b73) w56 w77 := (((c72.trans c74 (U := fun j => j = b71 ∨ j = b73) (fun _ _ h => h.elim) (fun _ _ h => h.elim)).trans c75 (fun _ _ h => h) (fun _ _ h => Or.inl h)).trans c76 (fun _ _ h => h) (fun _ _ h => Or.inr h)).trans c77 (fun _ _ h => h) (fun _ _ h => h.elim)
    have hold : ∀ {w' : World}, Chg (fun j => j = b25 ∨ j = b27) w77 w' → Ob w' b71 (stC S') T_api_State := fun c => r71.chg c (fun he => by omega)
    have hold' : ∀ {w' : World}, Chg (fun j => j = b25 ∨ j = b27) w77 w' → Ob w' b73 [.int .i64 (outX v s wl), .int .i64 (outN v s wl), .bool (outH v s wl)] T_eval_Done := fun c => r73.chg c (fun he => by omega)
    have t25 := ((p25.no c56)).chg c7 (fun he => by omega)
    have t27 := ((p27.no c56)).chg c7 (fun he => by omega)
    refine ⟨fun w' => Chg (fun j => j = b25 ∨ j = b27) w77 w', Chg.refl _ _, _, _, _, _, _, _, _, _, _, _, fun w' c => (hold c).cell rfl, fun w' c => (hold c).cell rfl, fun w' c => (hold c).cell rfl, fun w' c => (hold c).cell rfl, fun w' c => (hold c).cell rfl, fun w' c => (hold c).cell rfl, fun w' c => (hold c).cell rfl, fun w' c => (hold c).cell rfl, fun w' c => (hold c).cell rfl, fun w' c => (hold c).cell rfl, _, _, _, fun w' c => (hold' c).cell rfl, fun w' c => (hold' c).cell rfl, fun w' c => (hold' c).cell rfl, ?_⟩
    refine ⟨t25.wr (by simp [stC]), fun w92 hw92 => ?_⟩
    obtain ⟨u25, c92⟩ := t25.up (k := 0) (vs := stC S') (cs' := stC S') (by simp [stC]) rfl hw92
    have u27 := t27.chg c92 (fun he => by omega)
    refine ⟨c92.mono (fun _ _ h => Or.inl h), u27.wr (by simp), fun w93 hw93 => ?_⟩
    obtain ⟨v27, c93⟩ := u27.up (k := 0) (vs := [.int .i64 (outX v s wl), .int .i64 (outN v s wl), .bool (outH v s wl)]) (cs' := [.int .i64 (outX v s wl), .int .i64 (outN v s wl), .bool (outH v s wl)]) (by simp) rfl hw93
    have v25 := u25.chg c93 (fun he => by omega)
    have z92 := c92.size
    have z93 := c93.size
    refine ⟨_, _, _, _, _, _, _, _, _, _, v25.cell rfl, v25.cell rfl, v25.cell rfl, v25.cell rfl, v25.cell rfl, v25.cell rfl, v25.cell rfl, v25.cell rfl, v25.cell rfl, v25.cell rfl, _, _, _, v27.cell rfl, v27.cell rfl, v27.cell rfl, S', rfl, ?_, ?_⟩
    · have ce : Chg (fun j => j = b25 ∨ j = b27) w77 w93 := c92.trans c93 (fun _ _ h => Or.inl h) (fun _ _ h => Or.inr h)
      have hnew : ∀ j, (∀ k, S'.stack.blk = some k → k ≠ j) → True := fun _ _ => trivial
      have lts := fun k hk => hSo.st.lt (k := k) hk
      have ltb := fun k hk => hSo.bk.lt (k := k) hk
      have ltm := fun k hk => hSo.me.lt (k := k) hk
      refine ⟨hSo.nums, (hSo.st.chg c7 (fun k hk he => ?_)).chg ce (fun k hk he => ?_), (hSo.bk.chg c7 (fun k hk he => ?_)).chg ce (fun k hk he => ?_), (hSo.me.chg c7 (fun k hk he => ?_)).chg ce (fun k hk he => ?_), fun k hk => ?_, fun k hk => ⟨?_, (hSo.bkD k hk).2⟩, fun k hk => ⟨?_, (hSo.meD k hk).2⟩⟩
      · have := lts k hk; omega
      · have := hSo.stD k hk; omega
      · have := ltb k hk; omega
      · have := (hSo.bkD k hk).1; omega
      · have := ltm k hk; omega
      · have := (hSo.meD k hk).1; omega
      · have := hSo.stD k hk; omega
      · have := (hSo.bkD k hk).1; omega
      · have := (hSo.meD k hk).1; omega
    · exact ((trN k32 c56).trans c7 (fun _ _ h => h) (fun k hk he => by omega)).trans (c92.trans c93 (U := fun j => j = b25 ∨ j = b27) (fun _ _ h => Or.inl h) (fun _ _ h => Or.inr h)) (fun _ _ h => h) (fun k hk he => by omega)
end Go.Proofs.Ytblmoilneiffgaa
