/- The law of chapter 22: its own sorting, its first call. -/
import Derived.Test.YtgffaimgnmfifaaJW

/- The law's own sorting (rise); its first call. -/
set_option maxRecDepth 100000
namespace Go.Proofs.Ytgffaimgnmfifaa
open Go.RowKit

theorem rd_ix {w : World} {s : Sl} {xs : List Int} (h : Rd intE w s xs) {i : Int} {x : Int} (h0 : 0 ≤ i) (hi : xs[i.toNat]? = some x) : ∃ a, s.ptr = some a ∧ 0 ≤ i ∧ i < (s.len : Int) ∧ w.cell? (Addr.add a (Int.toNat i * 1)) = some (.int .i64 x) :=
  h.ix h0 hi fun a _ hc => by have := hc 0 _ rfl; rw [addA0] at this; exact this
theorem rd_held {S : World → Prop} {s : Sl} {xs : List Int} (h : ∀ w, S w → Rd intE w s xs) {w : World} (hw : Rd intE w s xs) {i : Int} {x : Int} (h0 : 0 ≤ i) (hi : xs[i.toNat]? = some x) : ∃ a, s.ptr = some a ∧ 0 ≤ i ∧ i < (s.len : Int) ∧ held S (Addr.add a (Int.toNat i * 1)) (.int .i64 x) := by
  obtain ⟨a, ha, h1, h2, _⟩ := rd_ix hw h0 hi
  refine ⟨a, ha, h1, h2, fun w' hS => ?_⟩
  obtain ⟨a', ha', _, _, hc⟩ := rd_ix (h w' hS) h0 hi
  rw [ha] at ha'; cases ha'
  exact hc
/-- A number put into a list that rises, where it is not there yet. -/
theorem put_rise {r : List Int} {k : Nat} {x : Int} (hr : r.Pairwise (· < ·)) (hk : k ≤ r.length) (h1 : ∀ y ∈ r.take k, y < x) (h2 : ∀ y, r[k]? = some y → x < y) :
    (r.take k ++ [x] ++ r.drop k).Pairwise (· < ·) ∧ ∀ y, y ∈ r.take k ++ [x] ++ r.drop k ↔ y ∈ r ∨ y = x := by
  have hd : ∀ y ∈ r.drop k, x < y := fun y hy => by
    cases hx : r[k]? with
    | none =>
      have : r.drop k = [] := List.drop_eq_nil_of_le (List.getElem?_eq_none_iff.1 hx)
      rw [this] at hy; cases hy
    | some z =>
      have hz := h2 z hx
      have hlt : k < r.length := (List.getElem?_eq_some_iff.1 hx).1
      have ez : r[k] = z := (List.getElem?_eq_some_iff.1 hx).2
      rw [List.drop_eq_getElem_cons hlt, ez] at hy
      have hp : (r.drop k).Pairwise (· < ·) := hr.sublist (List.drop_sublist _ _)
      rw [List.drop_eq_getElem_cons hlt, ez] at hp
      rcases List.mem_cons.1 hy with e | e
      · omega
      · have := (List.pairwise_cons.1 hp).1 y e; omega
  have hp : (r.take k ++ r.drop k).Pairwise (· < ·) := by rw [List.take_append_drop]; exact hr
  obtain ⟨p1, p2, p3⟩ := List.pairwise_append.1 hp
  refine ⟨List.pairwise_append.2 ⟨List.pairwise_append.2 ⟨p1, List.pairwise_singleton _ _, fun a ha b hb => by rw [List.mem_singleton.1 hb]; exact h1 a ha⟩, p2, fun a ha b hb => ?_⟩, fun y => ?_⟩
  · rcases List.mem_append.1 ha with ha | ha
    · exact p3 a ha b hb
    · rw [List.mem_singleton.1 ha]; exact hd b hb
  · rw [List.mem_append, List.mem_append, List.mem_singleton]
    constructor
    · rintro ((h | h) | h)
      · exact Or.inl (List.mem_of_mem_take h)
      · exact Or.inr h
      · exact Or.inl (List.mem_of_mem_drop h)
    · rintro (h | h)
      · rw [← List.take_append_drop k r] at h
        rcases List.mem_append.1 h with h | h
        · exact Or.inl (Or.inl h)
        · exact Or.inr h
      · exact Or.inl (Or.inr h)
def RiseI (w : World) (xs : List Int) (out : Sl) (i : Int) (w2 : World) : Prop :=
  0 ≤ i ∧ i ≤ xs.length ∧ Chg No w w2 ∧ (∀ k, out.blk = some k → w.heap.size ≤ k) ∧ ∃ r, Ow intE w2 out r ∧ r.Pairwise (· < ·) ∧ (∀ x, x ∈ r ↔ x ∈ xs.take i.toNat) ∧ r.length ≤ i
theorem rise_any {w : World} {s : Sl} {xs : List Int} (h : Rd intE w s xs) (hl : xs.length ≤ 1000000) :
    Calls Try.prog fn_hollowaylaw22_rise #[s.val] w fun e w' => ∃ t : Sl, e = .returned t.val ∧ Ow intE w' t (onceI xs) ∧ Chg No w w' ∧ ∀ k, t.blk = some k → w.heap.size ≤ k := by
  refine (hollowaylaw22_rise_lift (K := fun v w' => ∃ t : Sl, v = t.val ∧ Ow intE w' t (onceI xs) ∧ Chg No w w' ∧ ∀ k, t.blk = some k → w.heap.size ≤ k) ?_).mono (by rintro e w' ⟨v, rfl, t, rfl, h⟩; exact ⟨t, rfl, h⟩)
  unfold hollowaylaw22_rise_sh
  refine ⟨RiseI w xs, fun _ i _ => xs.length - i.toNat, ⟨by omega, by omega, Chg.refl _ _, (fun k hk => by cases hk), [], Ow.nil _ _, List.Pairwise.nil, by simp, by simp⟩, ?_⟩
  rintro out i w2 ⟨i0, i1, c2, b2, r, o2, hr, hmem, hrl⟩
  have hlen := h.len
  rw [hlen]
  refine brB_of (fun hd => ?_) (fun hd => ?_)
  · have hd := of_decide_eq_true hd
    obtain ⟨x, hx⟩ : ∃ x, xs[i.toNat]? = some x := ⟨_, List.getElem?_eq_getElem (by omega)⟩
    have hol := o2.rd.len
    have et : xs.take (i + 1).toNat = xs.take i.toNat ++ [x] := by
      rw [show (i + 1).toNat = i.toNat + 1 by omega, List.take_add_one, hx]; rfl
    refine ⟨fun out' w' => RiseI w xs out' (i + 1) w', ?_, ?_⟩
    · intro out44 w43 h44
      rw [wr_of (by omega) (by omega)]
      exact ⟨h44, by show xs.length - (i + 1).toNat < xs.length - i.toNat; omega⟩
    refine ⟨fun k w4 => 0 ≤ k ∧ k ≤ r.length ∧ Chg No w2 w4 ∧ ∀ y ∈ r.take k.toNat, y < x, fun k _ => r.length - k.toNat, ⟨by omega, by omega, Chg.refl _ _, by simp⟩, ?_⟩
    rintro k w4 ⟨k0, k1, c4, hlt⟩ w5 hw5
    have c5 : Chg No w2 w5 := c4.trans (dw hw5) (fun _ _ h => h) (fun _ _ h => h)
    have cw5 : Chg No w w5 := c2.trans c5 (fun _ _ h => h) (fun _ _ h => h)
    rw [hol]
    have join : ∀ b : Bool, (b = true → ∃ y, r[k.toNat]? = some y ∧ y < x) → (b = false → ∀ y, r[k.toNat]? = some y → ¬ y < x) → hollowaylaw22_rise_j1 (fun k w4 => 0 ≤ k ∧ k ≤ r.length ∧ Chg No w2 w4 ∧ ∀ y ∈ r.take k.toNat, y < x) k (fun k _ => r.length - k.toNat) w4 out s i (fun out' w' => RiseI w xs out' (i + 1) w') b w5 (fun v w' => ∃ t : Sl, v = t.val ∧ Ow intE w' t (onceI xs) ∧ Chg No w w' ∧ ∀ k, t.blk = some k → w.heap.size ≤ k) := by
      intro b hbt hbf
      unfold hollowaylaw22_rise_j1
      refine brB_of (fun hb => ?_) (fun hb => ?_)
      · obtain ⟨y, hy, hyx⟩ := hbt hb
        have hk2 : k.toNat < r.length := (List.getElem?_eq_some_iff.1 hy).1
        rw [wr_of (by omega) (by omega)]
        refine ⟨⟨by omega, by omega, c5, fun z hz => ?_⟩, by show r.length - (k + 1).toNat < r.length - k.toNat; omega⟩
        rw [show (k + 1).toNat = k.toNat + 1 by omega, List.take_add_one, hy] at hz
        rcases List.mem_append.1 hz with hz | hz
        · exact hlt z hz
        · have : z = y := by simpa using hz
          omega
      · have hnl := hbf hb
        refine ⟨fun b' w' => Chg No w2 w' ∧ (b' = true → ∀ y, r[k.toNat]? = some y → x < y) ∧ (b' = false → r[k.toNat]? = some x), ?_, ?_⟩
        · rintro b' w21 ⟨c21, hT, hF⟩
          have cw21 : Chg No w w21 := c2.trans c21 (fun _ _ h => h) (fun _ _ h => h)
          refine brB_of (fun hb' => ?_) (fun hb' => ?_)
          · obtain ⟨q1, q2⟩ := put_rise hr (k := k.toNat) (by omega) hlt (hT hb')
            have q3 : ∀ y, y ∈ r.take k.toNat ++ [x] ++ r.drop k.toNat ↔ y ∈ xs.take (i + 1).toNat := fun y => by
              rw [q2, et, List.mem_append, List.mem_singleton, hmem]
            have q4 : (r.take k.toNat ++ [x] ++ r.drop k.toNat).length ≤ i + 1 := by
              rw [List.length_append, List.length_append, List.length_take, List.length_drop]
              simp only [List.length_singleton]; omega
            intro w23 hw23
            have c23 : Chg No w2 w23 := c21.trans (dw hw23) (fun _ _ h => h) (fun _ _ h => h)
            have cw23 : Chg No w w23 := c2.trans c23 (fun _ _ h => h) (fun _ _ h => h)
            have hcap := o2.rd.capL
            have oT : ∀ W, Chg No w23 W → Rd intE W (Sl.sub out.ptr out.cap 0 (Int.toNat k) 1) (r.take k.toNat) := fun W cW => by
              rw [sub0]; exact (((o2.no c23).rd).no cW).take (by omega)
            have oD : ∀ W, Chg No w23 W → Rd intE W (Sl.sub out.ptr out.cap (Int.toNat k) out.len 1) (r.drop k.toNat) := fun W cW => by
              have := (((o2.no c23).rd).no cW).drop (m := k.toNat) (by omega)
              rw [hol]; exact this
            have tl : (r.take k.toNat).length ≤ 1000000 := by rw [List.length_take]; omega
            have dl : (r.drop k.toNat).length ≤ 1000000 := by rw [List.length_drop]; omega
            have tr : ∀ {a b c : World}, Chg No a b → Chg No b c → Chg No a c := fun h k => h.trans k (fun _ _ h => h) (fun _ _ h => h)
            have fin : ∀ (s' : Sl) (W : World), Ow intE W s' (r.take k.toNat ++ [x] ++ r.drop k.toNat) → Chg No w23 W → (∀ q, s'.blk = some q → w23.heap.size ≤ q) → RiseI w xs s' (i + 1) W := fun s' W oW cW bW =>
              ⟨by omega, by omega, tr cw23 cW, fun q hq => Nat.le_trans cw23.size (bW q hq), _, oW, q1, q3, q4⟩
            refine ⟨fun W => Chg No w23 W, Chg.refl _ _, k0, by omega, ?_⟩
            obtain ⟨a25, ha25, p1, p2, hh⟩ := rd_held (S := fun W => Chg No w23 W) (fun W cW => (h.no cw23).no cW) (h.no cw23) i0 hx
            refine ⟨a25, ha25, p1, p2, x, hh, k0, by omega, ?_, ?_⟩
            · refine app_ok intOk (s := nilS) rfl rfl (Ow.nil intE w23) (oT _ (Chg.refl _ _)) (by simp only [List.length_nil, Nat.zero_add]; show _ * 8 ≤ _; omega) (by simp only [List.length_nil, Nat.zero_add]; unfold maxLen; omega) ?_
              intro s27 w28 o28 c28 b28
              rw [List.nil_append] at o28
              have n28 : Chg No w23 w28 := c28.mono (fun _ _ h => by cases h)
              have f28 : ∀ q, s27.blk = some q → w23.heap.size ≤ q := fun q hq => by
                rcases b28 with h | h
                · rw [h] at hq; cases hq
                · have := Option.some.inj (h.symm.trans hq); omega
              refine ⟨n28, ?_⟩
              intro b29 w30 hb29 hw30
              have n30 : Chg No w23 w30 := tr n28 (al hw30)
              have hlit : Ow intE w30 ⟨some ⟨b29, 0, none⟩, 1, 1⟩ [x] := by rw [hw30, hb29]; exact Ow.lit w28 [x] [.int .i64 x] rfl (by unfold maxLen; simp)
              refine ⟨n30, ?_⟩
              refine app_ok intOk rfl rfl (o28.no (al hw30)) hlit.rd (by show (_ + 1) * 8 ≤ _; omega) (by show _ + 1 ≤ _; unfold maxLen; omega) ?_
              intro s31 w32 o32 c32 b32
              have n32 : Chg No w23 w32 := n30.trans c32 (fun _ _ h => h) (fun q hq h => by have := f28 q h; omega)
              have f32 : ∀ q, s31.blk = some q → w23.heap.size ≤ q := fun q hq => by
                rcases b32 with h | h
                · exact f28 q (h ▸ hq)
                · have := Option.some.inj (h.symm.trans hq); have := n30.size; omega
              refine ⟨n32, ?_⟩
              refine app_ok intOk rfl rfl o32 (oD _ n32) (by rw [List.length_append]; show (_ + 1 + _) * 8 ≤ _; omega) (by rw [List.length_append]; show _ + 1 + _ ≤ _; unfold maxLen; omega) ?_
              intro s33 w34 o34 c34 b34
              refine fin s33 w34 o34 (n32.trans c34 (fun _ _ h => h) (fun q hq h => by have := f32 q h; omega)) fun q hq => ?_
              rcases b34 with h | h
              · exact f32 q (h ▸ hq)
              · have := Option.some.inj (h.symm.trans hq); have := n32.size; omega
            · intro b35 w36 hb35 hw36
              have n36 : Chg No w23 w36 := al hw36
              have hlit : Ow intE w36 ⟨some ⟨b35, 0, none⟩, 1, 1⟩ [x] := by rw [hw36, hb35]; exact Ow.lit w23 [x] [.int .i64 x] rfl (by unfold maxLen; simp)
              refine ⟨n36, ?_⟩
              refine app_ok intOk (s := nilS) rfl rfl (Ow.nil intE w36) (oT _ n36) (by simp only [List.length_nil, Nat.zero_add]; show _ * 8 ≤ _; omega) (by simp only [List.length_nil, Nat.zero_add]; unfold maxLen; omega) ?_
              intro s37 w38 o38 c38 b38
              rw [List.nil_append] at o38
              have n38' : Chg No w36 w38 := c38.mono (fun _ _ h => by cases h)
              have n38 : Chg No w23 w38 := tr n36 n38'
              have f38 : ∀ q, s37.blk = some q → w36.heap.size ≤ q := fun q hq => by
                rcases b38 with h | h
                · rw [h] at hq; cases hq
                · have := Option.some.inj (h.symm.trans hq); omega
              have z36 := n36.size
              refine ⟨n38, ?_⟩
              refine app_ok intOk rfl rfl o38 (hlit.no n38').rd (by show (_ + 1) * 8 ≤ _; omega) (by show _ + 1 ≤ _; unfold maxLen; omega) ?_
              intro s39 w40 o40 c40 b40
              have n40 : Chg No w23 w40 := n38.trans c40 (fun _ _ h => h) (fun q hq h => by have := f38 q h; omega)
              have f40 : ∀ q, s39.blk = some q → w23.heap.size ≤ q := fun q hq => by
                rcases b40 with h | h
                · have := f38 q (h ▸ hq); omega
                · have := Option.some.inj (h.symm.trans hq); have := n38.size; omega
              refine ⟨n40, ?_⟩
              refine app_ok intOk rfl rfl o40 (oD _ n40) (by rw [List.length_append]; show (_ + 1 + _) * 8 ≤ _; omega) (by rw [List.length_append]; show _ + 1 + _ ≤ _; unfold maxLen; omega) ?_
              intro s41 w42 o42 c42 b42
              refine fin s41 w42 o42 (n40.trans c42 (fun _ _ h => h) (fun q hq h => by have := f40 q h; omega)) fun q hq => ?_
              rcases b42 with h | h
              · exact f40 q (h ▸ hq)
              · have := Option.some.inj (h.symm.trans hq); have := n40.size; omega
          · have hin := hF hb'
            refine ⟨by omega, by omega, cw21, b2, r, o2.no c21, hr, fun y => ?_, by omega⟩
            rw [et, List.mem_append, List.mem_singleton, hmem]
            constructor
            · exact Or.inl
            · rintro (h | h)
              · exact h
              · rw [h]; exact (hmem x).1 (List.mem_of_getElem? hin)
        · intro w16 hw16
          have c16 : Chg No w2 w16 := c5.trans (dw hw16) (fun _ _ h => h) (fun _ _ h => h)
          rw [hol]
          refine brB_of (fun hh => ?_) (fun hh => ?_)
          · have hh : k = (r.length : Int) := by simpa using hh
            refine ⟨c16, fun _ y hy => ?_, fun h => by cases h⟩
            have := (List.getElem?_eq_some_iff.1 hy).1
            omega
          · have hh : k ≠ (r.length : Int) := by simpa using hh
            obtain ⟨y, hy⟩ : ∃ y, r[k.toNat]? = some y := ⟨_, List.getElem?_eq_getElem (by omega)⟩
            obtain ⟨a17, ha17, p1, p2, hc17⟩ := rd_ix (o2.no c16).rd k0 hy
            obtain ⟨a19, ha19, p3, p4, hc19⟩ := rd_ix ((h.no c2).no c16) i0 hx
            rw [hol] at p2
            rw [hlen] at p4 ⊢
            refine ⟨a17, ha17, p1, p2, y, held_Lw hc17, a19, ha19, p3, p4, x, held_Lw hc19, c16, fun ht z hz => ?_, fun hf => ?_⟩
            · have ht : y ≠ x := by simpa using ht
              rw [hy] at hz; cases hz
              have := hnl y hy; omega
            · have hf : y = x := by simpa using hf
              rw [hy, hf]
    refine brB_of (fun hh => ?_) (fun hh => ?_)
    · have hh := of_decide_eq_true hh
      obtain ⟨y, hy⟩ : ∃ y, r[k.toNat]? = some y := ⟨_, List.getElem?_eq_getElem (by omega)⟩
      obtain ⟨a8, ha8, p1, p2, hc8⟩ := rd_ix (o2.no c5).rd k0 hy
      obtain ⟨a10, ha10, p3, p4, hc10⟩ := rd_ix (h.no cw5) i0 hx
      rw [hol] at p2
      rw [hlen] at p4
      refine ⟨a8, ha8, p1, p2, y, held_Lw hc8, a10, ha10, p3, p4, x, held_Lw hc10, join _ (fun ht => ⟨y, hy, of_decide_eq_true ht⟩) (fun hf z hz => ?_)⟩
      rw [hy] at hz; cases hz
      exact of_decide_eq_false hf
    · have hh := of_decide_eq_false hh
      refine join _ (fun h => by cases h) (fun _ y hy => ?_)
      have := (List.getElem?_eq_some_iff.1 hy).1
      omega
  · have hd := of_decide_eq_false hd
    have et : xs.take i.toNat = xs := List.take_of_length_le (by omega)
    rw [et] at hmem
    obtain ⟨h1, h2⟩ := onceI_ok xs
    have : r = onceI xs := uniq_lt hr h1 fun x => (hmem x).trans (h2 x).symm
    rw [this] at o2
    exact ⟨out, rfl, o2, c2, b2⟩
end Go.Proofs.Ytgffaimgnmfifaa

/- A watch in blocks from b0 on; the law's first call; WatchAnew. -/
set_option maxRecDepth 100000
namespace Go.Proofs.Ytgffaimgnmfifaa
open Go.RowKit

def WS (b0 : Nat) (w : World) (c n : Nat) (f : Int → Option (List Int)) : Prop := ∃ B, WA B w c n f ∧ ∀ k, B k → b0 ≤ k ∧ k < w.heap.size
theorem WS.no {b0 : Nat} {w w' : World} {c n : Nat} {f : Int → Option (List Int)} (h : WS b0 w c n f) (ch : Chg No w w') : WS b0 w' c n f := by
  obtain ⟨B, h1, h2⟩ := h
  exact ⟨B, h1.chg ch (fun _ _ h => h), fun k hk => ⟨(h2 k hk).1, Nat.lt_of_lt_of_le (h2 k hk).2 ch.size⟩⟩
theorem WS.new {b0 : Nat} {w w' : World} {c : Nat} (h0 : b0 ≤ w.heap.size) (hc : c = w.heap.size) (hw : w' = World.alloc w (.cells #[.map none] T_watch_Watch)) (n : Nat) : WS b0 w' c n fun _ => none := by
  refine ⟨fun k => k = c, WA.new (B := fun k => k = c) hc hw rfl n, fun k hk => ?_⟩
  have hk : k = c := hk
  have : w'.heap.size = w.heap.size + 1 := by rw [hw]; simp
  omega
theorem ws_add {b0 : Nat} {w0 w : World} {c n : Nat} {f : Int → Option (List Int)} {s : Sl} {cs : List Int} (h : WS b0 w0 c n f) (c0 : Chg No w0 w) (hs : Rd intE w s cs) (hb : cs ≠ [] → ∀ k, s.blk = some k → k < b0 ∨ (w0.heap.size ≤ k ∧ k < w.heap.size)) (hl : cs.length ≤ 1000) (start : Int) (h00 : b0 ≤ w.heap.size) :
    Calls Try.prog fn_watch_Watch_Add #[.pointer (some ⟨c, 0, none⟩), .int .i64 start, s.val] w fun e w' => e = .returned (.tuple #[]) ∧ WS b0 w' c (n + 1) (fun q => if q = start then some (onceI cs) else f q) ∧ Chg (fun k => b0 ≤ k) w w' := by
  obtain ⟨B, h1, h2⟩ := h
  refine (add_any (B := fun k => B k ∨ w.heap.size ≤ k) ((h1.chg c0 (fun _ _ h => h)).wid (fun k hk => Or.inl hk)) (fun k hk => Or.inr hk) hs (fun hx k hk hk2 => ?_) hl start).mono ?_
  · have := hb hx k hk
    rcases hk2 with h | h
    · have := h2 k h; omega
    · have := c0.size; omega
  · rintro e w' ⟨rfl, h3, c3⟩
    refine ⟨rfl, ⟨_, h3.nar, fun k hk => ⟨?_, hk.2⟩⟩, c3.mono fun k _ h => ?_⟩
    · rcases hk.1 with h | h
      · exact (h2 k h).1
      · omega
    · rcases h with h | h
      · exact (h2 k h).1
      · show b0 ≤ k
        omega
theorem ws_touch {b0 : Nat} {w : World} {c n : Nat} {f : Int → Option (List Int)} {s : Sl} {cs : List Int} (h : WS b0 w c n f) (hs : Rd intE w s cs) (hl : cs.length ≤ 1000) (hn : n ≤ 1000) :
    Calls Try.prog fn_watch_Watch_Touch #[.pointer (some ⟨c, 0, none⟩), s.val] w fun e w' => ∃ (t : Sl) (r : List Int), e = .returned t.val ∧ Ow intE w' t r ∧ TouchOk f cs r ∧ WS b0 w' c n (fun q => if q ∈ r then none else f q) ∧ Chg (fun k => b0 ≤ k) w w' := by
  obtain ⟨B, h1, h2⟩ := h
  refine (touch_any h1 (fun k hk => (h2 k hk).2) hs hl hn).mono ?_
  rintro e w' ⟨t, r, rfl, o, tk, _, h3, c3, b3⟩
  exact ⟨t, r, rfl, o, tk, ⟨B, h3, fun k hk => ⟨(h2 k hk).1, Nat.lt_of_lt_of_le (h2 k hk).2 c3.size⟩⟩, c3.mono (fun k _ h => (h2 k h).1)⟩
theorem ws_drop {b0 : Nat} {w : World} {c n : Nat} {f : Int → Option (List Int)} (h : WS b0 w c n f) (start : Int) :
    Calls Try.prog fn_watch_Watch_Drop #[.pointer (some ⟨c, 0, none⟩), .int .i64 start] w fun e w' => e = .returned (.bool (f start).isSome) ∧ WS b0 w' c n (fun q => if q = start then none else f q) ∧ Chg (fun k => b0 ≤ k) w w' := by
  obtain ⟨B, h1, h2⟩ := h
  refine (drop_any h1 start).mono ?_
  rintro e w' ⟨rfl, h3, c3⟩
  exact ⟨rfl, ⟨B, h3, fun k hk => ⟨(h2 k hk).1, Nat.lt_of_lt_of_le (h2 k hk).2 c3.size⟩⟩, c3.mono (fun k _ h => (h2 k h).1)⟩
theorem ws_cells {b0 : Nat} {w : World} {c n : Nat} {f : Int → Option (List Int)} (h : WS b0 w c n f) (hn : n ≤ 1000) (hf : ∀ k, f k = none) :
    Calls Try.prog fn_watch_Watch_Cells #[.pointer (some ⟨c, 0, none⟩)] w fun e w' => ∃ s : Sl, e = .returned s.val ∧ s.len = 0 ∧ Chg No w w' := by
  obtain ⟨B, h1, h2⟩ := h
  refine (cells_any h1 hn).mono ?_
  rintro e w' ⟨s, r, rfl, o, _, hm, _, c3, _⟩
  refine ⟨s, rfl, ?_, c3⟩
  have : r = [] := List.eq_nil_iff_forall_not_mem.2 fun x hx => by
    obtain ⟨k, l, hk, _⟩ := (hm x).1 hx
    rw [hf k] at hk; cases hk
  rw [o.rd.len, this]; rfl
theorem lit_ints {w w' : World} {b : Nat} (xs : List Int) (hb : b = w.heap.size) (hw : w' = World.alloc w (.cells (xs.map (Value.int .i64)).toArray T_int)) (hl : xs.length ≤ 1000) : Ow intE w' ⟨some ⟨b, 0, none⟩, xs.length, xs.length⟩ xs ∧ Chg No w w' ∧ b < w'.heap.size := by
  refine ⟨?_, al hw, by rw [hw, hb]; simp⟩
  rw [hw, hb]
  exact Ow.lit w xs _ (flI xs).symm (by unfold maxLen; omega)
theorem trB {b0 : Nat} {a b c : World} (h : Chg (fun k => b0 ≤ k) a b) (k : Chg (fun k => b0 ≤ k) b c) : Chg (fun k => b0 ≤ k) a c := h.trans k (fun _ _ h => h) (fun _ _ h => h)
theorem nB {b0 : Nat} {a b : World} (h : Chg No a b) : Chg (fun k => b0 ≤ k) a b := h.mono fun _ _ h => h.elim
theorem alive_any (w : World) : Calls Try.prog fn_hollowaylaw22_alive #[] w fun e w' => e = .returned (.bool true) ∧ Chg No w w' := by
  refine (hollowaylaw22_alive_lift (K := fun v w' => v = .bool true ∧ Chg No w w') ?_).mono (by rintro e w' ⟨v, rfl, rfl, h⟩; exact ⟨rfl, h⟩)
  unfold hollowaylaw22_alive_sh
  intro b1 w2 hb1 hw2
  have h2 := WS.new (b0 := w.heap.size) (Nat.le_refl _) hb1 hw2 0
  have c2 : Chg (fun k => w.heap.size ≤ k) w w2 := nB (al hw2)
  intro b3 w4 hb3 hw4
  obtain ⟨l4, c4, z4⟩ := lit_ints [5, 6] hb3 hw4 (by decide)
  have s2 := c2.size
  have s4 := c4.size
  refine (ws_add h2 c4 l4.rd (fun _ k hk => by have : b3 = k := Option.some.inj hk; omega) (by decide) 5 (by omega)).mono ?_
  rintro e w6 ⟨rfl, h6, c6⟩
  refine ⟨rfl, ?_⟩
  intro b7 w8 hb7 hw8
  obtain ⟨l8, c8, z8⟩ := lit_ints [6, 7] hb7 hw8 (by decide)
  have s6 := c6.size
  have s8 := c8.size
  refine (ws_add h6 c8 l8.rd (fun _ k hk => by have : b7 = k := Option.some.inj hk; omega) (by decide) 9 (by omega)).mono ?_
  rintro e w10 ⟨rfl, h10, c10⟩
  refine ⟨rfl, ?_⟩
  intro b11 w12 hb11 hw12
  obtain ⟨l12, c12, z12⟩ := lit_ints [6] hb11 hw12 (by decide)
  refine (ws_touch (h10.no c12) l12.rd (by decide) (by decide)).mono ?_
  rintro e w14 ⟨t, r, rfl, o14, ⟨p14, m14⟩, h14, c14⟩
  have hr : r = [5, 9] := by
    refine uniq_lt p14 (by decide) fun k => (m14 k).trans ?_
    have e1 : (6 : Int) ∈ onceI [5, 6] := (onceI_ok _).2 6 |>.2 (by decide)
    have e2 : (6 : Int) ∈ onceI [6, 7] := (onceI_ok _).2 6 |>.2 (by decide)
    constructor
    · rintro ⟨l, hl, _⟩
      by_cases h9 : k = 9
      · simp [h9]
      · by_cases h5 : k = 5
        · simp [h5]
        · simp [h9, h5] at hl
    · intro hk
      rcases List.mem_cons.1 hk with rfl | hk
      · exact ⟨onceI [5, 6], by simp, hitB_iff.2 ⟨6, by decide, e1⟩⟩
      · rw [List.mem_singleton.1 hk]
        exact ⟨onceI [6, 7], by simp, hitB_iff.2 ⟨6, by decide, e2⟩⟩
  subst hr
  have hlen := o14.rd.len
  refine ⟨t, rfl, brB_t' (by rw [hlen]; decide) ?_⟩
  obtain ⟨a16, ha16, p1, p2, hc16⟩ := rd_ix o14.rd (i := 0) (by decide) (x := 5) rfl
  refine ⟨a16, ha16, p1, p2, 5, hc16, brB_t' (by decide) ?_⟩
  obtain ⟨a18, ha18, p3, p4, hc18⟩ := rd_ix o14.rd (i := 1) (by decide) (x := 9) rfl
  refine ⟨a18, ha18, p3, p4, 9, hc18, brB_t' (by decide) ?_⟩
  refine (ws_cells h14 (by decide) (fun k => ?_)).mono ?_
  · by_cases h9 : k = 9
    · simp [h9]
    · by_cases h5 : k = 5
      · simp [h5]
      · simp [h9, h5]
  · rintro e w21 ⟨s22, rfl, hs, c21⟩
    refine ⟨s22, rfl, by rw [hs]; rfl, ?_⟩
    exact (trB c2 (trB (nB c4) (trB c6 (trB (nB c8) (trB c10 (trB (nB c12) (trB c14 (nB c21)))))))).mono fun k hk h => by omega
/-- Whether a number is among those that have come. -/
theorem in_step {xs : List Int} {n : Int} {y x : Int} (n0 : 0 ≤ n) (hy : xs[n.toNat]? = some y) : (x ∈ xs.take (n + 1).toNat) ↔ x ∈ xs.take n.toNat ∨ y = x := by
  rw [show (n + 1).toNat = n.toNat + 1 by omega, List.take_add_one, hy, List.mem_append]
  simp only [Option.toList_some, List.mem_singleton]
  constructor
  · rintro (h | h)
    · exact Or.inl h
    · exact Or.inr h.symm
  · rintro (h | h)
    · exact Or.inl h
    · exact Or.inr h.symm
theorem watchAnew_any {w : World} {start x : Int} {a b : Sl} {aL bL : List Int} (ha : Rd intE w a aL) (hb : Rd intE w b bL) :
    Calls Try.prog fn_hollowaylaw22_WatchAnew #[.int .i64 start, a.val, b.val, .int .i64 x] w fun e w' => e = .returned (.bool true) ∧ Chg No w w' := by
  refine (hollowaylaw22_WatchAnew_lift (K := fun v w' => v = .bool true ∧ Chg No w w') ?_).mono (by rintro e w' ⟨v, rfl, rfl, h⟩; exact ⟨rfl, h⟩)
  unfold hollowaylaw22_WatchAnew_sh
  have hal := ha.len
  have hbl := hb.len
  refine ⟨fun b9 w8 => (b9 = false → aL.length ≤ 30 ∧ bL.length ≤ 30) ∧ Chg No w w8, ?_, ?_⟩
  · rintro b9 w8 ⟨hs, c8⟩
    refine brB_of (fun hh => ?_) (fun hh => ?_)
    · refine (alive_any w8).mono ?_
      rintro e w11 ⟨rfl, c11⟩
      exact ⟨_, rfl, rfl, trN c8 c11⟩
    · obtain ⟨la, lb⟩ := hs hh
      intro b13 w14 hb13 hw14
      have s8 := c8.size
      have h14 := WS.new (b0 := w.heap.size) s8 hb13 hw14 0
      have c14 : Chg No w w14 := trN c8 (al hw14)
      have s14 := c14.size
      refine (ws_add h14 (Chg.refl _ _) (ha.no c14) (fun hx k hk => Or.inl (ha.blkLt hx k hk)) (by omega) start (by omega)).mono ?_
      rintro e w16 ⟨rfl, h16, c16⟩
      have s16 := c16.size
      refine ⟨rfl, ?_⟩
      have rb16 : Rd intE w16 b bL := (hb.no c14).chg0 c16 (fun hx k hk h => by have := hb.blkLt hx k hk; omega)
      refine (ws_add h16 (Chg.refl _ _) rb16 (fun hx k hk => Or.inl (hb.blkLt hx k hk)) (by omega) start (by omega)).mono ?_
      rintro e w18 ⟨rfl, h18, c18⟩
      refine ⟨rfl, ?_⟩
      have rb18 : Rd intE w18 b bL := rb16.chg0 c18 (fun hx k hk h => by have := hb.blkLt hx k hk; omega)
      refine ⟨fun inn n w19 => 0 ≤ n ∧ n ≤ bL.length ∧ (inn = true ↔ x ∈ bL.take n.toNat) ∧ w18 = w19, fun _ n _ => bL.length - n.toNat, ⟨by omega, by omega, by simp, rfl⟩, ?_⟩
      rintro inn n w19 ⟨n0, n1, hin, rfl⟩
      rw [hbl]
      refine brB_of (fun hd => ?_) (fun hd => ?_)
      · have hd := of_decide_eq_true hd
        obtain ⟨y, hy⟩ : ∃ y, bL[n.toNat]? = some y := ⟨_, List.getElem?_eq_getElem (by omega)⟩
        obtain ⟨a21, ha21, p1, p2, hc21⟩ := rd_ix rb18 n0 hy
        rw [hbl] at p2
        refine ⟨fun i' w' => (i' = true ↔ x ∈ bL.take (n + 1).toNat) ∧ w18 = w', ?_, a21, ha21, p1, p2, y, hc21, ?_⟩
        · rintro i' w' ⟨q, rfl⟩
          rw [wr_of (by omega) (by omega)]
          exact ⟨⟨by omega, by omega, q, rfl⟩, by show bL.length - (n + 1).toNat < bL.length - n.toNat; omega⟩
        · refine brB_of (fun hi => ⟨⟨fun _ => (in_step n0 hy).2 (Or.inl (hin.1 hi)), fun _ => rfl⟩, rfl⟩) (fun hi => ⟨?_, rfl⟩)
          rw [in_step n0 hy]
          have hni : ¬ x ∈ bL.take n.toNat := fun h => by rw [hin.2 h] at hi; cases hi
          constructor
          · intro h; exact Or.inr (by simpa using h)
          · rintro (h | h)
            · exact absurd h hni
            · simp [h]
      · have hd := of_decide_eq_false hd
        have et : bL.take n.toNat = bL := List.take_of_length_le (by omega)
        rw [et] at hin
        intro b25 w26 hb25 hw26
        obtain ⟨l26, c26, z26⟩ := lit_ints [x] hb25 hw26 (by simp)
        refine (ws_touch (h18.no c26) l26.rd (by simp) (by decide)).mono ?_
        rintro e w28 ⟨t, r, rfl, o28, ⟨p28, m28⟩, h28, c28⟩
        have hr : r = if inn = true then [start] else [] := by
          refine uniq_lt p28 (by split <;> simp) fun k => (m28 k).trans ?_
          constructor
          · rintro ⟨l, hl, hh⟩
            by_cases hk : k = start
            · subst hk
              have hl : onceI bL = l := by simpa using hl
              subst hl
              obtain ⟨c, hc1, hc2⟩ := hitB_iff.1 hh
              rw [List.mem_singleton.1 hc1] at hc2
              rw [if_pos (hin.2 ((onceI_ok bL).2 x |>.1 hc2))]; simp
            · simp [hk] at hl
          · intro hk
            cases inn with
            | false => cases hk
            | true =>
              have hk : k = start := by simpa using hk
              subst hk
              exact ⟨onceI bL, by simp, hitB_iff.2 ⟨x, by simp, (onceI_ok bL).2 x |>.2 (hin.1 rfl)⟩⟩
        have hlen := o28.rd.len
        have call : Chg (fun k => w.heap.size ≤ k) w w28 := trB (nB c14) (trB c16 (trB c18 (trB (nB c26) c28)))
        refine ⟨t, rfl, fun b33 w32 => b33 = false ∧ w28 = w32, ?_, ?_⟩
        · rintro b33 w32 ⟨rfl, rfl⟩
          refine brB_f ?_
          refine (ws_drop h28 start).mono ?_
          rintro e w35 ⟨rfl, h35, c35⟩
          refine ⟨_, rfl, brB_t' ?_ ?_⟩
          · rw [hr]
            cases inn <;> simp
          · refine (ws_cells h35 (by decide) (fun k => ?_)).mono ?_
            · by_cases hk : k = start
              · simp [hk]
              · simp [hk]
            · rintro e w38 ⟨s39, rfl, hs39, c38⟩
              refine ⟨s39, rfl, by rw [hs39]; rfl, (trB call (trB c35 (nB c38))).mono fun k hk h => by omega⟩
        · rw [hr] at hlen
          refine brB_f' ?_ ?_
          · rw [hlen]; cases inn <;> rfl
          · refine brB_of (fun hi => ?_) (fun hi => ⟨rfl, rfl⟩)
            rw [if_pos hi] at hr
            obtain ⟨a30, ha30, p3, p4, hc30⟩ := rd_ix o28.rd (i := 0) (by decide) (x := start) (by rw [hr]; rfl)
            exact ⟨a30, ha30, p3, p4, start, hc30, by simp, rfl⟩
  · rw [hal, hbl]
    refine brB_of (fun h => ⟨(fun h => by cases h), Chg.refl _ _⟩) (fun h1 => ?_)
    refine brB_of (fun h => ⟨(fun h => by cases h), Chg.refl _ _⟩) (fun h2 => ?_)
    refine (alive_any w).mono ?_
    rintro e w6 ⟨rfl, c6⟩
    have h1 := of_decide_eq_false h1
    have h2 := of_decide_eq_false h2
    exact ⟨_, rfl, fun _ => ⟨by omega, by omega⟩, c6⟩
end Go.Proofs.Ytgffaimgnmfifaa
