/- The walk of WatchEach. -/
import Derived.Test.YtgffaimgnmfifaaJX
import Derived.Test.YtgffaimgnmfifaaJS
import Derived.Test.YtgffaimgnmfifaaJ4

/- WatchEach. -/
set_option maxRecDepth 100000
namespace Go.Proofs.Ytgffaimgnmfifaa
open Go.RowKit

theorem touch_one {start x : Int} {ls r : List Int} {f : Int → Option (List Int)} (hf : ∀ q, f q = if q = start then some (onceI ls) else none) (h : TouchOk f [x] r) : r = if x ∈ ls then [start] else [] := by
  refine uniq_lt h.1 (by split <;> simp) fun k => (h.2 k).trans ?_
  constructor
  · rintro ⟨l, hl, hh⟩
    rw [hf k] at hl
    by_cases hk : k = start
    · subst hk
      have hl : onceI ls = l := by simpa using hl
      subst hl
      obtain ⟨c, hc1, hc2⟩ := hitB_iff.1 hh
      rw [List.mem_singleton.1 hc1] at hc2
      rw [if_pos ((onceI_ok ls).2 x |>.1 hc2)]; simp
    · rw [if_neg hk] at hl; cases hl
  · intro hk
    by_cases hx : x ∈ ls
    · rw [if_pos hx] at hk
      have hk : k = start := by simpa using hk
      subst hk
      exact ⟨onceI ls, by rw [hf k, if_pos rfl], hitB_iff.2 ⟨x, by simp, (onceI_ok ls).2 x |>.2 hx⟩⟩
    · rw [if_neg hx] at hk; cases hk
theorem touch_no {cs r : List Int} {f : Int → Option (List Int)} (hf : ∀ q, f q = none) (h : TouchOk f cs r) : r = [] := by
  refine List.eq_nil_iff_forall_not_mem.2 fun k hk => ?_
  obtain ⟨l, hl, _⟩ := (h.2 k).1 hk
  rw [hf k] at hl; cases hl
theorem watchEach_any {w : World} {start other : Int} {a : Sl} {ls : List Int} (ha : Rd intE w a ls) :
    Calls Try.prog fn_hollowaylaw22_WatchEach #[.int .i64 start, a.val, .int .i64 other] w fun e w' => e = .returned (.bool true) ∧ Chg No w w' := by
  refine (hollowaylaw22_WatchEach_lift (K := fun v w' => v = .bool true ∧ Chg No w w') ?_).mono (by rintro e w' ⟨v, rfl, rfl, h⟩; exact ⟨rfl, h⟩)
  unfold hollowaylaw22_WatchEach_sh
  have hal := ha.len
  have cNo : ∀ {w' : World}, Chg (fun k => w.heap.size ≤ k) w w' → Chg No w w' := fun h => h.mono fun k hk h => by omega
  refine ⟨fun b8 w7 => (b8 = false → ls.length ≤ 30) ∧ Chg No w w7, ?_, ?_⟩
  · rintro b8 w7 ⟨hs, c7⟩
    refine brB_of (fun hh => ?_) (fun hh => ?_)
    · refine (alive_any w7).mono ?_
      rintro e w10 ⟨rfl, c10⟩
      exact ⟨_, rfl, rfl, trN c7 c10⟩
    · have la := hs hh
      refine ⟨fun n w12 => 0 ≤ n ∧ n ≤ ls.length ∧ Chg No w w12, fun n _ => ls.length - n.toNat, ⟨by omega, by omega, c7⟩, ?_⟩
      rintro n w12 ⟨n0, n1, c12⟩
      rw [hal]
      refine brB_of (fun hd => ?_) (fun hd => ⟨rfl, c12⟩)
      have hd := of_decide_eq_true hd
      obtain ⟨c, hc⟩ : ∃ c, ls[n.toNat]? = some c := ⟨_, List.getElem?_eq_getElem (by omega)⟩
      have hcm : c ∈ ls := List.mem_of_getElem? hc
      obtain ⟨a14, ha14, p1, p2, hc14⟩ := rd_ix (ha.no c12) n0 hc
      rw [hal] at p2
      refine ⟨fun w49 => Chg No w w49, ?_, a14, ha14, p1, p2, c, hc14, ?_⟩
      · intro w49 c49
        rw [wr_of (by omega) (by omega)]
        exact ⟨⟨by omega, by omega, c49⟩, by show ls.length - (n + 1).toNat < ls.length - n.toNat; omega⟩
      intro b16 w17 hb16 hw17
      have s12 := c12.size
      have h17 := WS.new (b0 := w.heap.size) s12 hb16 hw17 0
      have c17 : Chg No w w17 := trN c12 (al hw17)
      have s17 := c17.size
      refine (ws_add h17 (Chg.refl _ _) (ha.no c17) (fun hx k hk => Or.inl (ha.blkLt hx k hk)) (by omega) start (by omega)).mono ?_
      rintro e w19 ⟨rfl, h19, c19⟩
      have d19 := trB (nB c17) c19
      have r19 := ha.no (cNo d19)
      refine ⟨rfl, ?_⟩
      refine ⟨fun inn m w20 => 0 ≤ m ∧ m ≤ ls.length ∧ (inn = true ↔ other ∈ ls.take m.toNat) ∧ w19 = w20, fun _ m _ => ls.length - m.toNat, ⟨by omega, by omega, by simp, rfl⟩, ?_⟩
      rintro inn m w20 ⟨m0, m1, hin, rfl⟩
      refine brB_of (fun hd => ?_) (fun hd => ?_)
      · have hd := of_decide_eq_true hd
        obtain ⟨y, hy⟩ : ∃ y, ls[m.toNat]? = some y := ⟨_, List.getElem?_eq_getElem (by omega)⟩
        obtain ⟨a21, ha21, p3, p4, hc21⟩ := rd_ix r19 m0 hy
        rw [hal] at p4
        refine ⟨fun i' w' => (i' = true ↔ other ∈ ls.take (m + 1).toNat) ∧ w19 = w', ?_, a21, ha21, p3, p4, y, hc21, ?_⟩
        · rintro i' w' ⟨q, rfl⟩
          rw [wr_of (by omega) (by omega)]
          exact ⟨⟨by omega, by omega, q, rfl⟩, by show ls.length - (m + 1).toNat < ls.length - m.toNat; omega⟩
        · refine brB_of (fun hi => ⟨⟨fun _ => (in_step m0 hy).2 (Or.inl (hin.1 hi)), fun _ => rfl⟩, rfl⟩) (fun hi => ⟨?_, rfl⟩)
          rw [in_step m0 hy]
          have hni : ¬ other ∈ ls.take m.toNat := fun h => by rw [hin.2 h] at hi; cases hi
          constructor
          · intro h; exact Or.inr (by simpa using h)
          · rintro (h | h)
            · exact absurd h hni
            · simp [h]
      · have hd := of_decide_eq_false hd
        have et : ls.take m.toNat = ls := List.take_of_length_le (by omega)
        rw [et] at hin
        intro b26 w27 hb26 hw27
        obtain ⟨l27, c27, z27⟩ := lit_ints [other] hb26 hw27 (by simp)
        refine (ws_touch (h19.no c27) l27.rd (by simp) (by decide)).mono ?_
        rintro e w29 ⟨t, r, rfl, o29, t29, h29, c29⟩
        have d29 := trB d19 (trB (nB c27) c29)
        have hr := touch_one (fun q => rfl) t29
        have hlen := o29.rd.len
        refine ⟨t, rfl, brB_of (fun hi => ?_) (fun hi => ?_)⟩
        · have hx := hin.1 hi
          rw [if_pos hx] at hr
          subst hr
          refine ⟨fun b39 w38 => b39 = false ∧ Chg No w w38, ?_, brB_f' (by rw [hlen]; rfl) ?_⟩
          · rintro b39 w38 ⟨rfl, c38⟩
            exact brB_f c38
          obtain ⟨a31, ha31, p5, p6, hc31⟩ := rd_ix o29.rd (i := 0) (by decide) (x := start) rfl
          refine ⟨a31, ha31, p5, p6, start, hc31, brB_f' (by simp) ?_⟩
          intro b33 w34 hb33 hw34
          obtain ⟨l34, c34, z34⟩ := lit_ints [c] hb33 hw34 (by simp)
          refine (ws_touch (h29.no c34) l34.rd (by simp) (by decide)).mono ?_
          rintro e w36 ⟨t2, r2, rfl, o36, t36, h36, c36⟩
          have hr2 := touch_no (fun q => by by_cases hq : q = start <;> simp [hq]) t36
          refine ⟨t2, rfl, ?_, cNo (trB d29 (trB (nB c34) c36))⟩
          rw [o36.rd.len, hr2]; rfl
        · have hx : ¬ other ∈ ls := fun h => by rw [hin.2 h] at hi; cases hi
          rw [if_neg hx] at hr
          subst hr
          intro b40 w41 hb40 hw41
          obtain ⟨l41, c41, z41⟩ := lit_ints [c] hb40 hw41 (by simp)
          refine (ws_touch (h29.no c41) l41.rd (by simp) (by decide)).mono ?_
          rintro e w43 ⟨t2, r2, rfl, o43, t43, h43, c43⟩
          have hr2 := touch_one (start := start) (ls := ls) (fun q => by simp) t43
          rw [if_pos hcm] at hr2
          subst hr2
          have hlen2 := o43.rd.len
          refine ⟨t2, rfl, fun b48 w47 => b48 = false ∧ Chg No w w47, ?_, brB_f' (by rw [hlen]; rfl) (brB_f' (by rw [hlen2]; rfl) ?_)⟩
          · rintro b48 w47 ⟨rfl, c47⟩
            exact brB_f c47
          obtain ⟨a45, ha45, p5, p6, hc45⟩ := rd_ix o43.rd (i := 0) (by decide) (x := start) rfl
          exact ⟨a45, ha45, p5, p6, start, hc45, by simp, cNo (trB d29 (trB (nB c41) c43))⟩
  · rw [hal]
    refine brB_of (fun h => ⟨(fun h => by cases h), Chg.refl _ _⟩) (fun h1 => ?_)
    refine brB_of (fun h => ⟨(fun h => by cases h), Chg.refl _ _⟩) (fun h2 => ?_)
    refine (alive_any w).mono ?_
    rintro e w6 ⟨rfl, c6⟩
    have h2 := of_decide_eq_false h2
    exact ⟨_, rfl, fun _ => by omega, c6⟩
end Go.Proofs.Ytgffaimgnmfifaa

/- Numbers as elements of a slice, as a statement's frame tells of them. -/
set_option maxRecDepth 100000
namespace Go.Proofs.Ytgffaimgnmfifaa
open Go.RowKit

theorem int_open {H : Type} (enc : TypeId × Value → H) (w : World) (base : Nat) (sp : Nat → Bool) (held : Bool) : ElOk enc Try.prog w base sp held intE T_int (fun _ => True) := by
  refine ⟨by kernel_rfl, fun n cs y hl h => ?_⟩
  obtain ⟨m, rfl, _, hw⟩ := DataW.trod_int Try.underlying3 h
  exact ⟨m, rfl, trivial⟩
theorem blkLt {p : Option Addr} {n len cap : Nat} (h : ∀ x ∈ p, x.block < n) : ∀ k, (⟨p, len, cap⟩ : Sl).blk = some k → k < n := by
  intro k hk
  cases p with
  | none => cases hk
  | some a =>
    have e : a.block = k := Option.some.inj hk
    rw [← e]; exact h a rfl
end Go.Proofs.Ytgffaimgnmfifaa
