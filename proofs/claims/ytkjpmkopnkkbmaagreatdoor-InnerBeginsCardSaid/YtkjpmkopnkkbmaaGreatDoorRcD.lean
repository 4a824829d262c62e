/- The first call of chapter 13's statements; RecordMost: the walk. -/
import Derived.Test.YtkjpmkopnkkbmaaGreatDoorRcC
set_option maxRecDepth 100000
namespace Go.Proofs.YtkjpmkopnkkbmaaGreatDoor
open Go.RowKit

theorem brB_f'' {b : Bool} {P Q : Prop} (h : b = false) (q : Q) : brB b P Q := by rw [h]; exact brB_f q
/-- hollowayref9.Enter: all but the return stack stays where it was. -/
theorem r9enter_any {D : Nat → Prop} {w : World} (S : StC) {s : StV} (h : StIs D w S s) (xt : Int) :
    Calls Tryz.prog fn_hollowayref9_Enter #[.agg (stC S).toArray, .int .i64 xt] w fun e w' => ∃ bS : Sl, e = .returned (.agg (stC ⟨xt, 0, S.stack, bS, S.mem, S.out, S.inp, S.read, 0, 0⟩).toArray) ∧ Ow intE w' bS [0] ∧ (∀ k, bS.blk = some k → w.heap.size ≤ k ∧ k < w'.heap.size) ∧ Chg No w w' := by
  refine (hollowayref9_Enter_lift (K := fun r w' => ∃ bS : Sl, r = .agg (stC ⟨xt, 0, S.stack, bS, S.mem, S.out, S.inp, S.read, 0, 0⟩).toArray ∧ Ow intE w' bS [0] ∧ (∀ k, bS.blk = some k → w.heap.size ≤ k ∧ k < w'.heap.size) ∧ Chg No w w') ?_).mono (by rintro e w' ⟨r, rfl, S, rfl, h⟩; exact ⟨S, rfl, h⟩)
  unfold hollowayref9_Enter_sh
  refine inSt S fun b12 w13 hb12 z13 o12 c13 => inSt st0 fun b14 w15 hb14 z15 o14 c15 => ?_
  intro b16 w17 hb16 hw17
  obtain ⟨l17, c17⟩ := litL [0] _ rfl hb16 hw17 (by simp)
  have hlt17 : b16 < w17.heap.size := l17.lt rfl
  have z17 := c17.size
  obtain ⟨bS, hbS⟩ : ∃ bS : Sl, bS = ⟨some ⟨b16, 0, none⟩, 1, 1⟩ := ⟨_, rfl⟩
  have hbb : ∀ k, bS.blk = some k → k = b16 := fun k hk => by rw [hbS] at hk; exact (Option.some.inj hk).symm
  have l17 : Ow intE w17 bS [0] := by rw [hbS]; exact l17
  rw [show (Value.slice (some ⟨b16, 0, none⟩) 1 1) = bS.val by rw [hbS]]
  refine setSt { S with ip := xt } ((o12.no c15).no c17) (by decide) rfl rfl fun w18 o18 c18 => setSt { S with ip := xt, handler := 0 } o18 (by decide) rfl rfl fun w19 o19 c19 => setSt { S with ip := xt, handler := 0, back := bS } o19 (by decide) rfl rfl fun w20 o20 c20 => setSt { S with ip := xt, handler := 0, back := bS, status := 0 } o20 (by decide) rfl rfl fun w21 o21 c21 => setSt { S with ip := xt, handler := 0, back := bS, status := 0, code := 0 } o21 (by decide) rfl rfl fun w22 o22 c22 => rdSt o22 ?_
  have d22 : Chg (fun j => j = b12) w17 w22 := (((c18.trans c19 (fun _ _ h => h) (fun _ _ h => h)).trans c20 (fun _ _ h => h) (fun _ _ h => h)).trans c21 (fun _ _ h => h) (fun _ _ h => h)).trans c22 (fun _ _ h => h) (fun _ _ h => h)
  have z22 := d22.size
  refine setSt { S with ip := xt, handler := 0, back := bS, status := 0, code := 0 } ((o14.no c17).chg d22 (fun he => by omega)) (by decide) rfl rfl fun w33 o33 c33 => rdSt o33 ?_
  have z33 := c33.size
  refine ⟨bS, rfl, (l17.chg d22 (fun k hk he => by have := hbb k hk; omega)).chg c33 (fun k hk he => by have := hbb k hk; omega), fun k hk => by have := hbb k hk; omega, ?_⟩
  exact ((trN (trN c13 c15) c17).trans d22 (fun _ _ h => h) (fun k hk he => by omega)).trans c33 (fun _ _ h => h) (fun k hk he => by omega)
def aliveM13 : List Int := ((((bootM 300).set 200 6).set 201 7).set 202 3).set 203 200
def aliveS13 : StV := ⟨200, 0, [1], [0], aliveM13, bs [], bs [], 0, 0, 0⟩
theorem next_of {s t : StV} {c : Int} (h0 : 0 ≤ s.ip) (h1 : s.ip < s.mem.length) (hs : s.status = 0) (hc : getI s.mem s.ip = c) (hp : plB c = true) (h2 : (mAdv { s with handler := 0 }).status ≠ 2) (ht : mAdv s = t) (hl : placeB t.ip = true) :
    nextV s = some (⟨s.ip, c, if arB c = true then getI s.mem (s.ip + 1) else 0, t.ip⟩, t) := by
  have e : ∀ s : StV, s.status = 0 → stepV s = mAdv s := fun s hs => by
    unfold stepV; rw [runM_go hs (by decide), runM_stop (Or.inr (by decide))]
  unfold nextV
  rw [hc, if_neg (by rw [hp]; rintro (h | h | h | h) <;> first | omega | exact h hs | cases h), e s hs, ht, e _ (by exact hs), if_neg h2, if_neg (by rw [hl]; decide)]
theorem alive13_rec : recV aliveS13 9 = ⟨200, 200, true, [⟨200, 6, 0, 201⟩, ⟨201, 7, 0, 202⟩, ⟨202, 3, 200, 200⟩]⟩ := by
  have hl : aliveM13.length = 300 := by unfold aliveM13; simp [bootM_len]
  have a : ∀ {i c : Int}, 0 ≤ i → i < 300 → getI aliveM13 i = c → OpAt aliveM13 i c := fun h0 h1 h2 => ⟨h0, by omega, h2⟩
  have o0 := a (i := 200) (c := 6) (by decide) (by decide) (by decide +kernel)
  have o1 := a (i := 201) (c := 7) (by decide) (by decide) (by decide +kernel)
  have o2 := a (i := 202) (c := 3) (by decide) (by decide) (by decide +kernel)
  have o3 := a (i := 203) (c := 200) (by decide) (by decide) (by decide +kernel)
  have s1 : mAdv aliveS13 = ⟨201, 0, [1, 1], [0], aliveM13, bs [], bs [], 0, 0, 0⟩ := by
    have := run_dup (n := 0) (hd := 0) (rd := 0) (code := 0) (a := 1) (st := []) (bk := [0]) (out := bs []) (inp := bs []) o0 (by simp) (by simp)
    exact congrArg Prod.fst this
  have s2 : mAdv ⟨201, 0, [1, 1], [0], aliveM13, bs [], bs [], 0, 0, 0⟩ = ⟨202, 0, [1], [0], aliveM13, bs [], bs [], 0, 0, 0⟩ := by
    have := run_drop (n := 0) (hd := 0) (rd := 0) (code := 0) (a := 1) (st := [1]) (bk := [0]) (out := bs []) (inp := bs []) o1 (by simp) (by simp)
    exact congrArg Prod.fst this
  have s3 : mAdv ⟨202, 0, [1], [0], aliveM13, bs [], bs [], 0, 0, 0⟩ = ⟨200, 0, [1], [0], aliveM13, bs [], bs [], 0, 0, 0⟩ := by
    have := run_branch (n := 0) (hd := 0) (rd := 0) (code := 0) (x := 200) (st := [1]) (bk := [0]) (out := bs []) (inp := bs []) o2 o3 (by simp) (by simp)
    exact congrArg Prod.fst this
  have n1 := next_of (s := aliveS13) o0.1 o0.2.1 rfl o0.2.2 (by decide) (by rw [show ({ aliveS13 with handler := 0 } : StV) = aliveS13 from rfl, s1]; decide) s1 (by decide)
  have n2 := next_of (s := ⟨201, 0, [1, 1], [0], aliveM13, bs [], bs [], 0, 0, 0⟩) o1.1 o1.2.1 rfl o1.2.2 (by decide) (by simp only []; rw [s2]; decide) s2 (by decide)
  have n3 := next_of (s := ⟨202, 0, [1], [0], aliveM13, bs [], bs [], 0, 0, 0⟩) o2.1 o2.2.1 rfl o2.2.2 (by decide) (by simp only []; rw [s3]; decide) s3 (by decide)
  have e3 : getI aliveM13 203 = 200 := o3.2.2
  show recL 200 9 aliveS13 [] = _
  unfold recL
  rw [if_neg (by decide), n1]
  simp only []
  unfold recL
  rw [if_neg (by decide), n2]
  simp only []
  unfold recL
  rw [if_neg (by decide), n3]
  simp only []
  unfold recL
  rw [if_pos (by decide)]
  simp only [List.nil_append, List.cons_append]
  have z6 : arB 6 = false := by decide
  have z7 : arB 7 = false := by decide
  have z3 : arB 3 = true := by decide
  rw [z6, z7, z3]
  simp only [Bool.false_eq_true, if_false, if_true]
  show (⟨200, 200, true, [⟨200, 6, 0, 201⟩, ⟨201, 7, 0, 202⟩, ⟨202, 3, getI aliveM13 203, 200⟩]⟩ : RcV) = _
  rw [e3]
theorem alive13_any {w : World} (hg : Gl w) : Calls Tryz.prog fn_hollowaylaw13_alive #[] w fun e w' => e = .returned (.bool true) ∧ Chg No w w' := by
  refine (hollowaylaw13_alive_lift (K := fun v w' => v = .bool true ∧ Chg No w w') ?_).mono (by rintro e w' ⟨v, rfl, rfl, h⟩; exact ⟨rfl, h⟩)
  unfold hollowaylaw13_alive_sh
  refine (r9boot_any 300 (bs []) (M := 300) (by decide +kernel) w).mono ?_
  rintro e w2 ⟨S0, rfl, g0, c2⟩
  have z2 := c2.size
  refine ⟨_, _, _, _, _, _, _, _, _, _, rfl, ?_⟩
  refine (r9enter_any S0 g0.is 200).mono ?_
  rintro e w14 ⟨bS, rfl, gb, hbb, c14⟩
  have z14 := c14.size
  obtain ⟨n1, n2, n3, n4, n5, n6, n7⟩ := g0.nums
  obtain ⟨S1, hS1⟩ : ∃ S1 : StC, S1 = ⟨200, 0, S0.stack, bS, S0.mem, S0.out, S0.inp, S0.read, 0, 0⟩ := ⟨_, rfl⟩
  refine ⟨_, _, _, _, _, _, _, _, _, _, rfl, varSt ⟨200, 0, S0.stack, bS, S0.mem, S0.out, S0.inp, S0.read, 0, 0⟩ fun b25 w27 hb25 z27 o25 c27 => ?_⟩
  rw [← hS1] at o25
  have hmem : S1.mem = S0.mem := by rw [hS1]
  intro w28 hw28
  have c28 := dw hw28
  have p25 := o25.no c28
  have k28 := trN (trN (trN c2 c14) c27) c28
  have hbl := bootM_len 300
  have hbm : ∀ k, S0.mem.blk = some k → w.heap.size ≤ k ∧ k < w2.heap.size := fun k hk => ⟨(g0.meD k hk).1, g0.me.lt hk⟩
  have hne : S0.mem.blk ≠ some b25 := fun he => by have := hbm _ he; omega
  have m28 : Ox intE w28 S0.mem (bootM 300) := (((g0.me.no c14).no c27).no c28).ox
  have hheld : held (fun w' => Ob w' b25 (stC S1) T_api_State) ⟨b25, 4, none⟩ S0.mem.val := by rw [← hmem]; exact Ob.held (fun w' h => h) rfl
  refine ⟨fun w' => Ob w' b25 (stC S1) T_api_State, p25, S0.mem, hheld, S0.mem, hheld, S0.mem, hheld, S0.mem, hheld, ?_⟩
  refine setOx m28 (by decide) (by rw [hbl]; decide) fun w35 g35 c35 => ⟨p25.chg c35 hne, setOx g35 (by decide) (by simp [hbl]) fun w37 g37 c37 => ⟨(p25.chg c35 hne).chg c37 hne, setOx g37 (by decide) (by simp [hbl]) fun w39 g39 c39 => ⟨((p25.chg c35 hne).chg c37 hne).chg c39 hne, setOx g39 (by decide) (by simp [hbl]) fun w41 g41 c41 => ?_⟩⟩⟩
  have p41 := (((p25.chg c35 hne).chg c37 hne).chg c39 hne).chg c41 hne
  have d41 : Chg (fun x => S0.mem.blk = some x) w28 w41 := ((c35.trans c37 (fun _ _ h => h) (fun _ _ h => h)).trans c39 (fun _ _ h => h) (fun _ _ h => h)).trans c41 (fun _ _ h => h) (fun _ _ h => h)
  have z28 := c28.size
  have z41 := d41.size
  have k41 : Chg No w w41 := k28.trans d41 (fun _ _ h => h) (fun k hk he => by have := hbm k he; omega)
  intro b42 w43 hb42 hw43
  obtain ⟨l43, c43⟩ := litL [1] _ rfl hb42 hw43 (by simp)
  have hlt43 : b42 < w43.heap.size := l43.lt rfl
  obtain ⟨tS, htS⟩ : ∃ tS : Sl, tS = ⟨some ⟨b42, 0, none⟩, 1, 1⟩ := ⟨_, rfl⟩
  have htb : ∀ k, tS.blk = some k → k = b42 := fun k hk => by rw [htS] at hk; exact (Option.some.inj hk).symm
  have l43 : Ow intE w43 tS [1] := by rw [htS]; exact l43
  rw [show (Value.slice (some ⟨b42, 0, none⟩) 1 1) = tS.val by rw [htS]]
  refine setSt { S1 with stack := tS } (p41.no c43) (by decide) rfl rfl fun w44 o44 c44 => rdSt o44 ?_
  have z43 := c43.size
  have k44 : Chg No w w44 := (trN k41 c43).trans c44 (fun _ _ h => h) (fun k hk he => by omega)
  have hst : StIs (fun _ => True) w44 { S1 with stack := tS } aliveS13 := by
    rw [hS1]
    refine ⟨⟨rfl, rfl, n3, n4, n5, rfl, rfl⟩, (l43.chg c44 (fun k hk he => by have := htb k hk; omega)).rd, ?_, ?_, fun _ _ => trivial, fun _ _ => trivial, fun _ _ => trivial⟩
    · have g1 := ((gb.no c27).no c28).chg d41 (fun k hk he => by have := hbb k hk; have := hbm k he; omega)
      exact ((g1.no c43).chg c44 (fun k hk he => by have := hbb k hk; omega)).rd
    · exact ((g41.no c43).qs c44 (fun he => hne he)).rd
  have ok : MOk aliveS13 := ⟨by show 1 ≤ 48; omega, by show 1 ≤ 48; omega, by show aliveM13.length ≤ 3000; unfold aliveM13; simp [hbl], by show 0 ≤ 2000; omega, ⟨by show (0 : Int) ≤ 0; omega, by show (0 : Int) ≤ _; exact Int.natCast_nonneg _⟩, by show 0 ≤ _; omega⟩
  refine (loop_rc _ hst ok (hg.no k44) 9).mono ?_
  rintro e w56 ⟨R, rfl, gR, c56⟩
  rw [alive13_rec] at gR
  refine ⟨_, _, _, _, rfl, varRc R fun b61 w63 hb61 z63 o61 c63 => ?_⟩
  have k63 := trN (trN k44 c56) c63
  obtain ⟨r1, r2, r3⟩ := gR.nums
  have gs := (gR.no c63).steps.rd
  have hl3 : R.steps.len = 3 := gs.len
  refine ⟨R.loop, o61.cell rfl, brB_t' r3 ⟨R.steps, o61.cell rfl, brB_t' (by rw [hl3]; rfl) ⟨R.start, o61.cell rfl, brB_t' (by rw [r1]; rfl) ⟨R.fin, o61.cell rfl, brB_t' (by rw [r2]; rfl) ⟨R.steps, o61.cell rfl, ?_⟩⟩⟩⟩⟩
  refine gs.ix (i := 2) (by decide) (x := ⟨202, 3, 200, 200⟩) rfl fun a _ hcell => ?_
  have q := hcell 0 _ rfl
  rw [add0] at q
  refine ⟨_, _, _, _, q, hcell 1 _ rfl, hcell 2 _ rfl, hcell 3 _ rfl, _, _, sn_eql ⟨202, 3, 200, 200⟩ ⟨202, 3, 200, 200⟩ _ _ _, brB_t' (by decide) (rdRc o61 ?_)⟩
  refine (right_rc (D := fun _ => True) R (r := ⟨200, 200, true, [⟨200, 6, 0, 201⟩, ⟨201, 7, 0, 202⟩, ⟨202, 3, 200, 200⟩]⟩) ⟨r1, r2, r3⟩ gs (fun x hx => ?_)).mono ?_
  · simp only [List.mem_cons, List.mem_nil_iff, or_false] at hx
    rcases hx with rfl | rfl | rfl <;> (constructor <;> decide)
  rintro e w81 ⟨rfl, c81⟩
  exact ⟨_, rfl, congrArg Value.bool (by decide), trN k63 c81⟩
theorem same13_any {w : World} (A B : RcC) {r : RcV} (hA : A.start = r.start ∧ A.fin = r.fin ∧ A.loop = r.loop) (hB : B.start = r.start ∧ B.fin = r.fin ∧ B.loop = r.loop) (gA : Rd seE w A.steps r.steps) (gB : Rd seE w B.steps r.steps) :
    Calls Tryz.prog fn_hollowaylaw13_same #[.agg (rcC A).toArray, .agg (rcC B).toArray] w fun e w' => e = .returned (.bool true) ∧ Chg No w w' := by
  refine (hollowaylaw13_same_lift (K := fun v w' => v = .bool true ∧ Chg No w w') ?_).mono (by rintro e w' ⟨v, rfl, rfl, h⟩; exact ⟨rfl, h⟩)
  unfold hollowaylaw13_same_sh
  refine inRc A fun b9 w10 hb9 z10 o9 c10 => inRc B fun b11 w12 hb11 z12 o11 c12 => ?_
  have p9 := o9.no c12
  have k12 := trN c10 c12
  refine ⟨A.start, p9.cell rfl, B.start, o11.cell rfl, brB_t' (by rw [hA.1, hB.1]; simp) ⟨A.fin, p9.cell rfl, B.fin, o11.cell rfl, brB_t' (by rw [hA.2.1, hB.2.1]; simp) ⟨A.loop, p9.cell rfl, B.loop, o11.cell rfl, brB_t' (by rw [hA.2.2, hB.2.2]; simp) ⟨A.steps, p9.cell rfl, B.steps, o11.cell rfl, ?_⟩⟩⟩⟩
  refine (sameSeens_ok A.steps B.steps r.steps w12 (gA.no k12) (gB.no k12)).mono ?_
  rintro e w22 ⟨rfl, c22⟩
  exact ⟨_, rfl, rfl, trN k12 c22⟩
end Go.Proofs.YtkjpmkopnkkbmaaGreatDoor
