/- EvalGuards: the walk. -/
import Derived.Test.YtblmoilneiffgaaL15G
set_option maxRecDepth 100000
namespace Go.Proofs.Ytblmoilneiffgaa
open Go.RowKit

/-- (kind%3+3)%3 -/
theorem mod3 (k : Int) : ∃ r : Nat, r < 3 ∧ Int.tmod (wr (Int.tmod k 3 + 3)) 3 = (r : Int) := by
  have h := Cn.tmod_lt k (b := 3) (by decide)
  have h1 : -3 < Int.tmod k 3 ∧ Int.tmod k 3 < 3 := by
    have : (3 : Int).natAbs = 3 := rfl
    omega
  rw [wr_in (by omega), Int.tmod_eq_emod_of_nonneg (by omega)]
  exact ⟨((Int.tmod k 3 + 3) % 3).toNat, by omega, by omega⟩
def gdI : Nat → In5
  | 0 => ⟨7, 0, 0, 0, 0⟩
  | 1 => ⟨8, 0, 0, 0, 0⟩
  | _ => ⟨9, 0, 0, 1, 0⟩
def gdB (a b : Int) : Nat → Bool
  | 0 => a != 0
  | 1 => a == 0
  | _ => a == b
def gdT (r : Nat) : TrG := ⟨5, 2, 0, 0, 0, [⟨2, 0, 0, 0, 0⟩, ⟨2, 1, 0, 0, 0⟩, gdI r, ⟨10, 0, 0, 0, 0⟩], [⟨7, 0, [0], []⟩, ⟨8, 2, [], []⟩], 1, []⟩
def gdS (a b : Int) : StV := ⟨5, 0, [b, a], [], List.replicate 9 0, bs [], bs [], 0, 0, 0⟩
theorem r3 {r : Nat} (h : r < 3) : r = 0 ∨ r = 1 ∨ r = 2 := by omega
theorem gd_may {r : Nat} (h : r < 3) (a b : Int) : mayV (gdT r) (gdS a b) = true := by
  rcases r3 h with rfl | rfl | rfl <;> rfl
theorem gd_right {r : Nat} (h : r < 3) : RightV (gdT r) := by
  rcases r3 h with rfl | rfl | rfl <;> exact rightB_ok (by decide +kernel)
theorem gd_run {r : Nat} (h : r < 3) (a b : Int) : runG (gdT r) (gdS a b) [] = if gdB a b r = true then (1, ⟨{ gdS a b with out := bs [] ++ bs [byteC a] }, [a, b, 0, 0], -1⟩) else (0, ⟨gdS a b, [a, b, 0, 0], -1⟩) := by
  have h1 : runG (gdT r) (gdS a b) [] = goV (idA 4) [] 1 [⟨2, 0, 0, 0, 0⟩, ⟨2, 1, 0, 0, 0⟩, gdI r, ⟨10, 0, 0, 0, 0⟩] 0 (en0 4 (gdS a b)) := rfl
  rw [h1, goV_val (s := gdS a b) (v := a) rfl, goV_val (s := gdS a b) (v := b) rfl]
  have h2 : setV (idA 4) (0 + 1) b { setV (idA 4) 0 a { en0 4 (gdS a b) with s := gdS a b } with s := gdS a b } = ⟨gdS a b, [a, b, 0, 0], -1⟩ := rfl
  have go : ∀ i : In5, ocV i.a i.b (valV (idA 4) i.c ⟨gdS a b, [a, b, 0, 0], -1⟩) (valV (idA 4) i.d ⟨gdS a b, [a, b, 0, 0], -1⟩) (gdS a b) [] = .go (gdS a b) none → goV (idA 4) [] 1 [i, ⟨10, 0, 0, 0, 0⟩] (0 + 1 + 1) ⟨gdS a b, [a, b, 0, 0], -1⟩ = (1, ⟨{ gdS a b with out := bs [] ++ bs [byteC a] }, [a, b, 0, 0], -1⟩) := fun i hi => by
    rw [goV_go (s := gdS a b) hi]
    rw [goV_go (s := { gdS a b with out := bs [] ++ bs [byteC a] }) (by
      show ocV 10 0 a _ _ _ = _
      unfold ocV
      rw [if_neg (by decide), if_neg (by decide), if_neg (by decide), if_neg (by decide), if_neg (by decide), if_neg (by decide), if_neg (by decide), if_neg (by decide), if_neg (by decide), if_pos (by decide)]
      rw [if_neg (by unfold sayV; rw [if_neg (by decide)]; show ¬ (2000 : Int) < ((bs []).size : Int) + ((bs [byteC a]).size : Int); show ¬ (2000 : Int) < ((0 : Nat) : Int) + ((1 : Nat) : Int); decide)]
      rfl)]
    rfl
  have ex : ∀ i : In5, i.e = 0 → ocV i.a i.b (valV (idA 4) i.c ⟨gdS a b, [a, b, 0, 0], -1⟩) (valV (idA 4) i.d ⟨gdS a b, [a, b, 0, 0], -1⟩) (gdS a b) [] = .ex → goV (idA 4) [] 1 [i, ⟨10, 0, 0, 0, 0⟩] (0 + 1 + 1) ⟨gdS a b, [a, b, 0, 0], -1⟩ = (0, ⟨gdS a b, [a, b, 0, 0], -1⟩) := fun i h0 hi => by
    rw [goV_ex hi (by omega), h0]
  rw [h2]
  rcases r3 h with rfl | rfl | rfl
  · by_cases ha : a = 0
    · rw [if_neg (by show ¬ (a != 0) = true; simpa using ha)]
      refine ex _ rfl ?_
      show ocV 7 0 a _ _ _ = _
      unfold ocV
      rw [if_neg (by decide), if_neg (by decide), if_neg (by decide), if_neg (by decide), if_neg (by decide), if_neg (by decide), if_pos rfl, if_neg (fun h => h ha)]
    · rw [if_pos (by show (a != 0) = true; simpa using ha)]
      refine go _ ?_
      show ocV 7 0 a _ _ _ = _
      unfold ocV
      rw [if_neg (by decide), if_neg (by decide), if_neg (by decide), if_neg (by decide), if_neg (by decide), if_neg (by decide), if_pos rfl, if_pos ha]
  · by_cases ha : a = 0
    · rw [if_pos (by show (a == 0) = true; simpa using ha)]
      refine go _ ?_
      show ocV 8 0 a _ _ _ = _
      unfold ocV
      rw [if_neg (by decide), if_neg (by decide), if_neg (by decide), if_neg (by decide), if_neg (by decide), if_neg (by decide), if_neg (by decide), if_pos rfl, if_pos ha]
    · rw [if_neg (by show ¬ (a == 0) = true; simpa using ha)]
      refine ex _ rfl ?_
      show ocV 8 0 a _ _ _ = _
      unfold ocV
      rw [if_neg (by decide), if_neg (by decide), if_neg (by decide), if_neg (by decide), if_neg (by decide), if_neg (by decide), if_neg (by decide), if_pos rfl, if_neg ha]
  · by_cases ha : a = b
    · rw [if_pos (by show (a == b) = true; simpa using ha)]
      refine go _ ?_
      show ocV 9 0 a b _ _ = _
      unfold ocV
      rw [if_neg (by decide), if_neg (by decide), if_neg (by decide), if_neg (by decide), if_neg (by decide), if_neg (by decide), if_neg (by decide), if_neg (by decide), if_pos rfl, if_pos ha]
    · rw [if_neg (by show ¬ (a == b) = true; simpa using ha)]
      refine ex _ rfl ?_
      show ocV 9 0 a b _ _ = _
      unfold ocV
      rw [if_neg (by decide), if_neg (by decide), if_neg (by decide), if_neg (by decide), if_neg (by decide), if_neg (by decide), if_neg (by decide), if_neg (by decide), if_pos rfl, if_neg ha]
theorem evalGuards_walk (a b kind : Int) (w : World) : Calls Try.prog fn_hollowaylaw15_EvalGuards #[.int .i64 a, .int .i64 b, .int .i64 kind] w fun e w' => e = .returned (.bool true) ∧ Chg No w w' := by
  refine (hollowaylaw15_EvalGuards_lift (K := fun v w' => v = .bool true ∧ Chg No w w') ?_).mono (by rintro e w' ⟨v, rfl, rfl, h⟩; exact ⟨rfl, h⟩)
  unfold hollowaylaw15_EvalGuards_sh
  obtain ⟨r, hr, hmod⟩ := mod3 kind
  refine (alive15_any w).mono ?_
  rintro e w5 ⟨rfl, c5⟩
  refine ⟨_, rfl, brB_f ?_⟩
  intro b7 w8 hb7 hw8
  rw [hmod]
  obtain ⟨g8, c8⟩ := litIns [gdI 0, gdI 1, gdI 2] _ rfl hb7 hw8 (by decide)
  have hgd : [gdI 0, gdI 1, gdI 2][(r : Int).toNat]? = some (gdI r) := by rcases r3 hr with rfl | rfl | rfl <;> rfl
  refine ⟨by decide, by decide, ?_⟩
  refine g8.rd.ix (i := (r : Int)) (by omega) hgd fun ad _ hcell => ?_
  have q0 := hcell 0 _ rfl
  rw [add0] at q0
  refine ⟨_, _, _, _, _, q0, hcell 1 _ rfl, hcell 2 _ rfl, hcell 3 _ rfl, hcell 4 _ rfl, ?_⟩
  intro b15 w16 hb15 hw16
  have hn := fun (w2 : World) => newOb (w2 := w2) (T := T_api_Ins) (insC ⟨0, 0, 0, 0, 0⟩) (insC (gdI r)) rfl hb15 hw16
  refine ⟨(hn w16).1, fun w17 hw17 => ?_⟩
  obtain ⟨o17, c17⟩ := (hn w17).2 hw17
  refine ⟨_, _, _, _, _, o17.cell rfl, o17.cell rfl, o17.cell rfl, o17.cell rfl, o17.cell rfl, ?_⟩
  intro b23 w24 hb23 hw24 b25 w26 hb25 hw26 b27 w28 hb27 hw28 b29 w30 hb29 hw30
  obtain ⟨g24, c24⟩ := litIns (gdT r).ins _ rfl hb23 hw24 (by simp [gdT])
  obtain ⟨g26, c26⟩ := lit1 0 hb25 hw26
  obtain ⟨g28, c28⟩ := litOus [⟨7, 0, ⟨some ⟨b25, 0, none⟩, 1, 1⟩, nilS⟩, ⟨8, 2, nilS, nilS⟩] _ rfl hb27 hw28 (by simp)
  have hn := fun (w2 : World) => newOb (w2 := w2) (T := T_api_Trace) (trP ⟨0, 0, 0, 0, 0, nilS, nilS, 0, nilS⟩) (trP ⟨5, 2, 0, 0, 0, ⟨some ⟨b23, 0, none⟩, 4, 4⟩, ⟨some ⟨b27, 0, none⟩, 2, 2⟩, 1, nilS⟩) rfl hb29 hw30
  refine ⟨(hn w30).1, fun w31 hw31 => ?_⟩
  obtain ⟨o31, c31⟩ := (hn w31).2 hw31
  have ht31 : TrIs Any w31 ⟨5, 2, 0, 0, 0, ⟨some ⟨b23, 0, none⟩, 4, 4⟩, ⟨some ⟨b27, 0, none⟩, 2, 2⟩, 1, nilS⟩ (gdT r) :=
    tris ⟨rfl, rfl, rfl, rfl, rfl, rfl⟩ (((g24.no c26).no c28).no c31).rd (g28.no c31).rd (ous_cons ⟨rfl, rfl⟩ ((g26.no c28).no c31).rd (Rd.nil _ _) (ous_cons ⟨rfl, rfl⟩ (Rd.nil _ _) (Rd.nil _ _) (ous_nil _))) (Rd.nil _ _)
  have k31 : Chg No w w31 := trN (trN (trN (trN (trN (trN c5 c8) c17) c24) c26) c28) c31
  intro b32 w33 hb32 hw33
  obtain ⟨g33, c33⟩ := lit2 b a hb32 hw33
  obtain ⟨w35, hrun, g35, c35⟩ := make_ints (w := w33) (n := 9) (N := 9) rfl (by decide)
  refine ⟨_, w35, hrun, ?_⟩
  intro b36 w37 hb36 hw37
  have hn := fun (w2 : World) => newOb (w2 := w2) (T := T_api_State) (stC st0) (stC ⟨5, 0, ⟨some ⟨b32, 0, none⟩, 2, 2⟩, nilS, ⟨some ⟨w33.heap.size, 0, none⟩, 9, 9⟩, bs [], bs [], 0, 0, 0⟩) rfl hb36 hw37
  refine ⟨(hn w37).1, fun w38 hw38 => ?_⟩
  obtain ⟨o38, c38⟩ := (hn w38).2 hw38
  have k38 : Chg No w w38 := trN (trN (trN k31 c33) c35) c38
  have hst : StIs Any w38 ⟨5, 0, ⟨some ⟨b32, 0, none⟩, 2, 2⟩, nilS, ⟨some ⟨w33.heap.size, 0, none⟩, 9, 9⟩, bs [], bs [], 0, 0, 0⟩ (gdS a b) :=
    stis ⟨rfl, rfl, rfl, rfl, rfl, rfl, rfl⟩ ((g33.no c35).no c38).rd (Rd.nil _ _) (g35.no c38).rd
  have ht38 := ((ht31.no c33).no c35).no c38
  have o31' := ((o31.no c33).no c35).no c38
  refine ⟨_, _, _, _, _, _, _, _, _, o31'.cell rfl, o31'.cell rfl, o31'.cell rfl, o31'.cell rfl, o31'.cell rfl, o31'.cell rfl, o31'.cell rfl, o31'.cell rfl, o31'.cell rfl, ?_⟩
  refine ⟨_, _, _, _, _, _, _, _, _, _, o38.cell rfl, o38.cell rfl, o38.cell rfl, o38.cell rfl, o38.cell rfl, o38.cell rfl, o38.cell rfl, o38.cell rfl, o38.cell rfl, o38.cell rfl, ?_⟩
  refine (erun_any _ _ ht38 (gd_right hr) hst (waS := nilS) (wl := []) (Rd.nil _ _) (by show 2 ≤ 100000; decide) (by show 0 ≤ 100000; decide) (by show (List.replicate 9 (0 : Int)).length ≤ 1000000; decide) ⟨by show (0 : Nat) ≤ _; decide, by show (0 : Nat) ≤ _; decide, by show (0 : Int) ≤ 0; decide⟩).mono ?_
  rintro e w59 ⟨S', rfl, hS', c59⟩
  have e1 : outX (gdT r) (gdS a b) [] = if gdB a b r = true then 1 else 0 := by unfold outX; rw [if_pos (gd_may hr a b), gd_run hr]; split <;> rfl
  have e2 : outN (gdT r) (gdS a b) [] = if gdB a b r = true then 2 else 0 := by unfold outN; rw [if_pos (gd_may hr a b), gd_run hr]; split <;> rfl
  have e3 : outH (gdT r) (gdS a b) [] = false := by unfold outH; rw [if_pos (gd_may hr a b), gd_run hr]; split <;> rfl
  have e4 : outS (gdT r) (gdS a b) [] = if gdB a b r = true then { gdS a b with ip := 8, stack := [], out := bs [] ++ bs [byteC a] } else { gdS a b with ip := 7, stack := [a] } := by
    unfold outS; rw [if_pos (gd_may hr a b), gd_run hr]; split <;> rfl
  refine ⟨_, _, _, _, _, _, _, _, _, _, _, _, _, rfl, ?_⟩
  intro b73 w74 hb73 hw74 b75 w76 hb75 hw76
  have c74 := al hw74
  have c76 := al hw76
  have z74 : w74.heap.size = w59.heap.size + 1 := by rw [hw74]; simp
  have z76 : w76.heap.size = w74.heap.size + 1 := by rw [hw76]; simp
  have o73 : Ob w76 b73 (stC st0) T_api_State := by
    have : Ob w74 b73 (stC st0) T_api_State := by rw [hw74, hb73]; exact Ob.new w59 (stC st0) T_api_State
    exact this.no c76
  have o75 : Ob w76 b75 [.int .i64 0, .int .i64 0, .bool false] T_eval_Done := by rw [hw76, hb75]; exact Ob.new w74 [.int .i64 0, .int .i64 0, .bool false] T_eval_Done
  refine ⟨o73.wr (by simp [stC]), fun w77 hw77 => ?_⟩
  obtain ⟨p73, c77⟩ := o73.up (k := 0) (vs := stC S') (cs' := stC S') (by simp [stC]) rfl hw77
  have p75 := o75.chg c77 (fun he => by omega)
  refine ⟨p75.wr (by simp), fun w78 hw78 => ?_⟩
  obtain ⟨q75, c78⟩ := p75.up (k := 0) (vs := [.int .i64 (outX (gdT r) (gdS a b) []), .int .i64 (outN (gdT r) (gdS a b) []), .bool (outH (gdT r) (gdS a b) [])]) (cs' := [.int .i64 (outX (gdT r) (gdS a b) []), .int .i64 (outN (gdT r) (gdS a b) []), .bool (outH (gdT r) (gdS a b) [])]) (by simp) rfl hw78
  have q73 := p73.chg c78 (fun he => by omega)
  have cY : Chg (fun k => k = b73 ∨ k = b75) w59 w78 := ((trN c74 c76).trans c77 (U := fun k => k = b73 ∨ k = b75) (fun _ _ h => h.elim) (fun _ _ h => Or.inl h)).trans c78 (fun _ _ h => h) (fun _ _ h => Or.inr h)
  have hS78 : StIs Any w78 S' (outS (gdT r) (gdS a b) []) := by
    have lts := fun k hk => hS'.st.lt (k := k) hk
    have ltb := fun k hk => hS'.bk.lt (k := k) hk
    have ltm := fun k hk => hS'.me.lt (k := k) hk
    exact stis hS'.nums (hS'.st.rd.chg cY (fun k hk he => by have := lts k hk; omega)) (hS'.bk.rd.chg cY (fun k hk he => by have := ltb k hk; omega)) (hS'.me.rd.chg cY (fun k hk he => by have := ltm k hk; omega))
  have z59 := c59.size
  have z38 := k38.size
  have k78 : Chg No w w78 := (trN k38 c59).trans cY (fun _ _ h => h) (fun k hk he => by omega)
  intro b79 w80 hb79 hw80
  have o80 : Ob w80 b79 [.bool (a != 0), .bool (a == 0), .bool (a == b)] T_bool := by rw [hw80, hb79]; exact Ob.new w78 [.bool (a != 0), .bool (a == 0), .bool (a == b)] T_bool
  have c80 := al hw80
  have k80 := trN k78 c80
  have hS80 := hS78.no c80
  have r73 := q73.no c80
  have r75 := q75.no c80
  refine ⟨by decide, by decide, _, rfl, by omega, by omega, gdB a b r, ?_, ?_⟩
  · rw [add_mk, Int.toNat_natCast]
    refine o80.cell ?_
    rcases r3 hr with rfl | rfl | rfl <;> rfl
  rw [e1, e2, e3] at r75
  rw [e4] at hS80
  refine brB_of (fun hB => ?_) (fun hB => ?_)
  · rw [if_pos hB, if_pos hB] at r75
    rw [if_pos hB] at hS80
    obtain ⟨m1, m2, m3, m4, m5, m6, m7⟩ := hS80.nums
    refine ⟨_, _, _, r75.cell rfl, r75.cell rfl, r75.cell rfl, _, _, done_eql _ _ _ _ _ _ _ _ _, ?_⟩
    rw [show decide ((1 : Int) = 1 ∧ (2 : Int) = 2 ∧ false = false) = true by decide]
    refine brB_t ⟨S'.out, r73.cell rfl, ?_⟩
    intro b89 w90 hb89 hw90
    obtain ⟨l90, c90⟩ := lit8 (byteC a) (byte_lit _) hb89 hw90
    refine ⟨_, w90, u8_str (s := ⟨some ⟨b89, 0, none⟩, 1, 1⟩) l90.rd (by simp), ?_⟩
    have hout : S'.out = bs [byteC a] := by
      rw [m3]; show bs [] ++ bs [byteC a] = _
      rw [bs_app]; rfl
    rw [hout, show ((bs [byteC a]).toList == (bs [byteC a]).toList) = true by simp]
    refine brB_t ⟨S'.stack, (r73.no c90).cell rfl, ?_, trN k80 c90⟩
    have := hS80.st.len
    rw [this]; rfl
  · have hB : ¬ gdB a b r = true := by rw [hB]; decide
    rw [if_neg hB, if_neg hB] at r75
    rw [if_neg hB] at hS80
    obtain ⟨m1, m2, m3, m4, m5, m6, m7⟩ := hS80.nums
    refine ⟨_, _, _, r75.cell rfl, r75.cell rfl, r75.cell rfl, _, _, done_eql _ _ _ _ _ _ _ _ _, ?_⟩
    rw [show decide ((0 : Int) = 0 ∧ (0 : Int) = 0 ∧ false = false) = true by decide]
    refine brB_t ⟨S'.out, r73.cell rfl, ?_⟩
    rw [show S'.out = bs [] from m3, show ((bs []).toList == (bs []).toList) = true by simp]
    have hl : S'.stack.len = 1 := hS80.st.len
    refine brB_t ⟨S'.stack, r73.cell rfl, ?_⟩
    rw [show ((S'.stack.len : Int) == 1) = true by rw [hl]; rfl]
    refine brB_t ⟨S'.stack, r73.cell rfl, hS80.st.ix (i := 0) (x := a) (by omega) rfl fun ad _ hcell => ?_⟩
    have q1 := hcell 0 _ rfl
    rw [add0] at q1
    refine ⟨a, q1, ?_⟩
    rw [show (a == a) = true by simp]
    refine brB_t ⟨S'.ip, r73.cell rfl, ?_, k80⟩
    rw [show S'.ip = 7 from m1]; rfl
end Go.Proofs.Ytblmoilneiffgaa
