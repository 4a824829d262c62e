/- A trace's engine: an instruction, an exit, a whole run. -/
import Derived.Test.YtblmoilneiffgaaEvC
set_option maxRecDepth 100000
namespace Go.Proofs.Ytblmoilneiffgaa
open Go.RowKit

section
variable {w0 : World} {B : Nat → Prop} {w : World} {p : Nat} {T : TrP} {S : StC} {rg atS waS : Sl} {ats wl : List Int} {e : En}
/-- Strings are not too long, and what was read is there. -/
def TxOk (s : StV) : Prop := s.out.size ≤ 4611686018427387904 ∧ s.inp.size ≤ 4611686018427387904 ∧ 0 ≤ s.read
theorem TxOk.ins {e : En} (h : TxOk e.s) (ats wl : List Int) (q : Int) (i : In5) : TxOk (insV ats wl q i e).2.s := by
  obtain ⟨h1, h2, h3⟩ := h
  have hset : ∀ (v : Int) (e : En), (setV ats q v e).s = e.s := fun _ _ => rfl
  unfold insV
  repeat' split
  all_goals try (first | exact ⟨h1, h2, h3⟩ | (rw [hset]; exact ⟨h1, h2, h3⟩))
  · unfold calcV; dsimp only; repeat' split
    all_goals exact ⟨h1, h2, h3⟩
  · unfold memV; dsimp only; repeat' split
    all_goals exact ⟨h1, h2, h3⟩
  · unfold tellV; dsimp only; split
    · exact ⟨h1, h2, h3⟩
    · refine ⟨?_, h2, h3⟩
      show (e.s.out ++ sayV i.a (valV ats i.c e)).size ≤ _
      rw [ByteArray.size_append]; omega
  · unfold askV; split
    · exact ⟨h1, h2, h3⟩
    · exact ⟨h1, h2, by show 0 ≤ e.s.read + 1; omega⟩
theorem eins_any (h : EnAt w0 B w p T S rg atS waS ats wl e) (q : Int) (i : In5) (ho : InsOk ats.length e.s.stack.length e.s.back.length q i) (hx : TxOk e.s) :
    Calls Try.prog fn_eval_engine_ins #[.pointer (some ⟨p, 0, none⟩), .int .i64 q, .agg (insC i).toArray] w fun x w' => ∃ n : Int, x = .returned (.int .i64 n) ∧ EnAns w0 B w p T S rg atS waS ats wl (insV ats wl q i e) n w' := by
  refine (eval_engine_ins_lift (K := fun r w' => ∃ n : Int, r = .int .i64 n ∧ EnAns w0 B w p T S rg atS waS ats wl (insV ats wl q i e) n w') ?_).mono (by rintro e w' ⟨r, rfl, n, rfl, h⟩; exact ⟨n, rfl, h⟩)
  unfold eval_engine_ins_sh
  obtain ⟨h0, hsl, hbl, hB, hC⟩ := ho
  obtain ⟨x1, x2, x3⟩ := hx
  intro b8 w9 hb8 hw9
  have o9 : Ob w9 b8 (insC i) T_api_Ins := by rw [hw9, hb8]; exact Ob.new w (insC i) T_api_Ins
  have c9 := al hw9
  have h9 := h.no c9
  have eqb : ∀ {n : Int}, (i.a == n) = true → i.a = n := fun h => by simpa using h
  have neb : ∀ {n : Int}, (i.a == n) = false → i.a ≠ n := fun h => by simpa using h
  have setk : ∀ {v : Int} {w2 : World}, EnAt w0 B w2 p T S rg atS waS ats wl e → Chg No w w2 → insV ats wl q i e = (-1, setV ats q v e) →
      Calls Try.prog fn_eval_engine_set #[.pointer (some ⟨p, 0, none⟩), .int .i64 q, .int .i64 v] w2 fun x w' => ∃ n : Int, x = .returned (.int .i64 n) ∧ ∃ m : Int, Value.int .i64 n = .int .i64 m ∧ EnAns w0 B w p T S rg atS waS ats wl (insV ats wl q i e) m w' := fun h2 c2 he =>
    eset_ans h2 h0 (K := fun n w' => ∃ m : Int, Value.int .i64 n = .int .i64 m ∧ EnAns w0 B w p T S rg atS waS ats wl (insV ats wl q i e) m w') (fun w' ha => ⟨_, rfl, by rw [he]; exact ha.pre c2⟩)
  refine ⟨i.a, o9.cell rfl, fun w' => (i.a = 10 ∨ i.a = 11) ∧ w' = w9, ?_, ?_⟩
  · rintro w87 ⟨h1011, rfl⟩
    refine ⟨_, _, _, _, _, o9.cell rfl, o9.cell rfl, o9.cell rfl, o9.cell rfl, o9.cell rfl, (esay_any h9 i (hB (by omega)) x1).mono ?_⟩
    rintro x w94 ⟨n, rfl, ha⟩
    refine ⟨n, rfl, n, rfl, ?_⟩
    have : insV ats wl q i e = tellV ats i e := by
      unfold insV; rw [if_neg (by omega), if_neg (by omega), if_neg (by omega), if_neg (by omega), if_neg (by omega), if_neg (by omega), if_neg (by omega), if_neg (by omega), if_pos h1011]
    rw [this]; exact ha.pre c9
  refine brB_of (fun h1 => ?_) (fun h1 => brB_of (fun h2 => ?_) (fun h2 => brB_of (fun h3 => ?_) (fun h3 => brB_of (fun h4 => ?_) (fun h4 => ?_))))
  · have h1 := eqb h1
    exact ⟨_, o9.cell rfl, setk h9 c9 (by unfold insV; rw [if_pos h1])⟩
  · have h1 := neb h1
    have h2 := eqb h2
    obtain ⟨g0, g1⟩ := hsl h2
    intro w19 hw19
    have c19 := dw hw19
    have h19 := h9.no c19
    have hl := h19.st.len
    have hcp := h19.st.capL
    refine ⟨S.stack, held_Lw (h19.ob.cell rfl), S.stack, held_Lw (h19.ob.cell rfl), i.b, held_Lw ((o9.no c19).cell rfl), ?_⟩
    rw [hl, wr_in (x := (e.s.stack.length : Int) - 1) (by omega), wr_in (by omega), ← hl]
    refine h19.st.ix (x := getI e.s.stack ((e.s.stack.length : Int) - 1 - i.b)) (by omega) (by rw [hl]; exact getI_ix (by omega) (by omega)) fun a _ hcell => ?_
    have q1 := hcell 0 _ rfl
    rw [add0] at q1
    exact ⟨_, held_Lw q1, setk h19 (trN c9 c19) (by unfold insV; rw [if_neg h1, if_pos h2])⟩
  · have h1 := neb h1
    have h2 := neb h2
    have h3 := eqb h3
    obtain ⟨g0, g1⟩ := hbl h3
    intro w19 hw19
    have c19 := dw hw19
    have h19 := h9.no c19
    have hl := h19.bk.len
    have hcp := h19.bk.capL
    refine ⟨S.back, held_Lw (h19.ob.cell rfl), S.back, held_Lw (h19.ob.cell rfl), i.b, held_Lw ((o9.no c19).cell rfl), ?_⟩
    rw [hl, wr_in (x := (e.s.back.length : Int) - 1) (by omega), wr_in (by omega), ← hl]
    refine h19.bk.ix (x := getI e.s.back ((e.s.back.length : Int) - 1 - i.b)) (by omega) (by rw [hl]; exact getI_ix (by omega) (by omega)) fun a _ hcell => ?_
    have q1 := hcell 0 _ rfl
    rw [add0] at q1
    exact ⟨_, held_Lw q1, setk h19 (trN c9 c19) (by unfold insV; rw [if_neg h1, if_neg h2, if_pos h3])⟩
  · have h1 := neb h1
    have h2 := neb h2
    have h3 := neb h3
    have h4 := eqb h4
    refine ⟨_, _, _, _, _, o9.cell rfl, o9.cell rfl, o9.cell rfl, o9.cell rfl, o9.cell rfl, (ecalc_any h9 i h0 (hB (by omega)) (fun h => hC (Or.inl ⟨h4, h⟩))).mono ?_⟩
    rintro x w43 ⟨n, rfl, ha⟩
    refine ⟨n, rfl, n, rfl, ?_⟩
    have : insV ats wl q i e = calcV ats q i e := by unfold insV; rw [if_neg h1, if_neg h2, if_neg h3, if_pos h4]
    rw [this]; exact ha.pre c9
  · have h1 := neb h1
    have h2 := neb h2
    have h3 := neb h3
    have h4 := neb h4
    have mem : (i.a = 5 ∨ i.a = 6) → eval_engine_ins_j1 b8 p q i.a (fun w' => (i.a = 10 ∨ i.a = 11) ∧ w' = w9) true w9 (fun r w' => ∃ n : Int, r = .int .i64 n ∧ EnAns w0 B w p T S rg atS waS ats wl (insV ats wl q i e) n w') := fun h56 => by
      unfold eval_engine_ins_j1
      refine brB_t ⟨_, _, _, _, _, o9.cell rfl, o9.cell rfl, o9.cell rfl, o9.cell rfl, o9.cell rfl, (ememory_any h9 i h0 (hB (by omega)) h56 (fun h => hC (Or.inr (Or.inl h)))).mono ?_⟩
      rintro x w51 ⟨n, rfl, ha⟩
      refine ⟨n, rfl, n, rfl, ?_⟩
      have : insV ats wl q i e = memV ats wl q i e := by unfold insV; rw [if_neg h1, if_neg h2, if_neg h3, if_neg h4, if_pos h56]
      rw [this]; exact ha.pre c9
    have rest : ¬ (i.a = 5 ∨ i.a = 6) → eval_engine_ins_j1 b8 p q i.a (fun w' => (i.a = 10 ∨ i.a = 11) ∧ w' = w9) false w9 (fun r w' => ∃ n : Int, r = .int .i64 n ∧ EnAns w0 B w p T S rg atS waS ats wl (insV ats wl q i e) n w') := fun h56 => by
      unfold eval_engine_ins_j1
      have oo : ∀ {w' w'' : World}, Chg No w9 w' → Chg No w' w'' → Ob w'' b8 (insC i) T_api_Ins := fun c c' => (o9.no c).no c'
      refine brB_f (brB_of (fun h7 => ?_) (fun h7 => brB_of (fun h8 => ?_) (fun h8 => brB_of (fun h9' => ?_) (fun h9' => brB_of (fun h10 => ⟨Or.inl (eqb h10), rfl⟩) (fun h10 => brB_of (fun h11 => ⟨Or.inr (eqb h11), rfl⟩) (fun h11 => ?_))))))
      · have h7 := eqb h7
        intro w53 hw53
        have c53 := dw hw53
        refine ⟨fun w' => Chg No w53 w', Chg.refl _ _, _, Ob.held (fun w' c => oo c53 c) rfl, _, Ob.held (fun w' c => oo c53 c) rfl, (evalue_any (h9.no c53) (hB (by omega))).mono ?_⟩
        rintro x w58 ⟨rfl, c58⟩
        refine ⟨_, rfl, c58, (emust_any _ _ _).mono ?_⟩
        rintro x w61 ⟨rfl, rfl⟩
        refine ⟨_, rfl, _, rfl, ?_⟩
        have : insV ats wl q i e = (if valV ats i.c e ≠ 0 then -1 else i.e, e) := by unfold insV; rw [if_neg h1, if_neg h2, if_neg h3, if_neg h4, if_neg h56, if_pos h7]
        rw [this]
        have hh := (EnAns.no ((h9.no c53).no c58) (Chg.refl No _) (if valV ats i.c e ≠ 0 then -1 else i.e)).pre (trN (trN c9 c53) c58)
        have he : (if (valV ats i.c e != 0) = true then (-1 : Int) else i.e) = (if valV ats i.c e ≠ 0 then -1 else i.e) := by simp
        rw [he]; exact hh
      · have h7 := neb h7
        have h8 := eqb h8
        intro w53 hw53
        have c53 := dw hw53
        refine ⟨fun w' => Chg No w53 w', Chg.refl _ _, _, Ob.held (fun w' c => oo c53 c) rfl, _, Ob.held (fun w' c => oo c53 c) rfl, (evalue_any (h9.no c53) (hB (by omega))).mono ?_⟩
        rintro x w58 ⟨rfl, c58⟩
        refine ⟨_, rfl, c58, (emust_any _ _ _).mono ?_⟩
        rintro x w61 ⟨rfl, rfl⟩
        refine ⟨_, rfl, _, rfl, ?_⟩
        have : insV ats wl q i e = (if valV ats i.c e = 0 then -1 else i.e, e) := by unfold insV; rw [if_neg h1, if_neg h2, if_neg h3, if_neg h4, if_neg h56, if_neg h7, if_pos h8]
        rw [this]
        have hh := (EnAns.no ((h9.no c53).no c58) (Chg.refl No _) (if valV ats i.c e = 0 then -1 else i.e)).pre (trN (trN c9 c53) c58)
        have he : (if (valV ats i.c e == 0) = true then (-1 : Int) else i.e) = (if valV ats i.c e = 0 then -1 else i.e) := by simp
        rw [he]; exact hh
      · have h7 := neb h7
        have h8 := neb h8
        have h9e := eqb h9'
        intro w53 hw53
        have c53 := dw hw53
        have hCC := hC (Or.inr (Or.inr h9e))
        refine ⟨fun w' => Chg No w53 w', Chg.refl _ _, _, Ob.held (fun w' c => oo c53 c) rfl, _, Ob.held (fun w' c => oo c53 c) rfl, _, Ob.held (fun w' c => oo c53 c) rfl, (evalue_any (h9.no c53) (hB (by omega))).mono ?_⟩
        rintro x w58 ⟨rfl, c58⟩
        refine ⟨_, rfl, c58, (evalue_any ((h9.no c53).no c58) hCC).mono ?_⟩
        rintro x w82 ⟨rfl, c82⟩
        refine ⟨_, rfl, trN c58 c82, (emust_any _ _ _).mono ?_⟩
        rintro x w61 ⟨rfl, rfl⟩
        refine ⟨_, rfl, _, rfl, ?_⟩
        have : insV ats wl q i e = (if valV ats i.c e = valV ats i.d e then -1 else i.e, e) := by unfold insV; rw [if_neg h1, if_neg h2, if_neg h3, if_neg h4, if_neg h56, if_neg h7, if_neg h8, if_pos h9e]
        rw [this]
        have hh := (EnAns.no (((h9.no c53).no c58).no c82) (Chg.refl No _) (if valV ats i.c e = valV ats i.d e then -1 else i.e)).pre (trN (trN (trN c9 c53) c58) c82)
        have he : (if (valV ats i.c e == valV ats i.d e) = true then (-1 : Int) else i.e) = (if valV ats i.c e = valV ats i.d e then -1 else i.e) := by simp
        rw [he]; exact hh
      · have h7 := neb h7
        have h8 := neb h8
        have h9e := neb h9'
        have h10 := neb h10
        have h11 := neb h11
        refine (eask_any h9 h0 x3 x2).mono ?_
        rintro x w97 ⟨n, rfl, ha⟩
        refine ⟨n, rfl, n, rfl, ?_⟩
        have : insV ats wl q i e = askV ats q e := by unfold insV; rw [if_neg h1, if_neg h2, if_neg h3, if_neg h4, if_neg h56, if_neg h7, if_neg h8, if_neg h9e, if_neg (by omega)]
        rw [this]; exact ha.pre c9
    refine brB_of (fun h5 => ?_) (fun h5 => ?_)
    · rw [h5]; exact mem (Or.inl (eqb h5))
    · have h5 := neb h5
      cases h6 : (i.a == (6 : Int)) with
      | true => exact mem (Or.inr (eqb h6))
      | false => exact rest (by have := neb h6; omega)
/-- Places that have registers. -/
def PlOk (n : Nat) (l : List Int) : Prop := ∀ x ∈ l, 0 ≤ x ∧ x < n
theorem evalues_any (h : EnAt w0 B w p T S rg atS waS ats wl e) {l : Sl} {xs : List Int} (hl : Rd intE w l xs) (hxs : PlOk ats.length xs) (hn : xs.length ≤ 1000000) :
    Calls Try.prog fn_eval_engine_values #[.pointer (some ⟨p, 0, none⟩), l.val] w fun x w' => ∃ s : Sl, x = .returned s.val ∧ Ow intE w' s (valsV ats xs e) ∧ Chg No w w' ∧ (∀ k, s.blk = some k → w.heap.size ≤ k) := by
  refine (eval_engine_values_lift (K := fun r w' => ∃ s : Sl, r = s.val ∧ Ow intE w' s (valsV ats xs e) ∧ Chg No w w' ∧ (∀ k, s.blk = some k → w.heap.size ≤ k)) ?_).mono (by rintro e w' ⟨r, rfl, n, rfl, h⟩; exact ⟨n, rfl, h⟩)
  unfold eval_engine_values_sh
  have hll := hl.len
  have hcap := hl.capL
  refine ⟨fun o n w' => ∃ k : Nat, n = k ∧ k ≤ xs.length ∧ Ow intE w' o (valsV ats (xs.take k) e) ∧ Chg No w w' ∧ (∀ k, o.blk = some k → w.heap.size ≤ k), fun _ n _ => xs.length - n.toNat, ⟨0, rfl, Nat.zero_le _, Ow.nil _ _, Chg.refl _ _, fun k hk => by cases hk⟩, ?_⟩
  rintro o n w3 ⟨k, rfl, hk, ho, hc, hb⟩
  refine brB_of (fun hlt => ?_) (fun hlt => ?_)
  · have hlt : k < xs.length := by simp at hlt; omega
    obtain ⟨x, hx⟩ : ∃ x, xs[k]? = some x := ⟨_, List.getElem?_eq_getElem hlt⟩
    refine (hl.no hc).ix (i := (k : Int)) (by omega) (by rw [Int.toNat_natCast]; exact hx) fun a _ hcell => ?_
    have q1 := hcell 0 _ rfl
    rw [add0] at q1
    refine ⟨x, q1, (evalue_any (h.no hc) (hxs x (List.mem_of_getElem? hx))).mono ?_⟩
    rintro y w9 ⟨rfl, c9⟩
    refine ⟨_, rfl, ?_⟩
    intro b11 w12 hb11 hw12
    have c12 := al hw12
    have l12 : Ow intE w12 ⟨some ⟨b11, 0, none⟩, 1, 1⟩ [valV ats x e] := by
      rw [hw12, hb11]; exact Ow.lit (E := intE) w9 [valV ats x e] [.int .i64 (valV ats x e)] rfl (by show 1 ≤ maxLen; unfold maxLen; omega)
    have hlen : (valsV ats (xs.take k) e).length = k := by unfold valsV; rw [List.length_map, List.length_take]; omega
    refine app_ok intOk rfl rfl (s := o) (t := ⟨some ⟨b11, 0, none⟩, 1, 1⟩) ((ho.no c9).no c12) l12.rd (by rw [hlen]; show (k + 1) * 8 ≤ _; omega) (by rw [hlen]; show k + 1 ≤ _; unfold maxLen; omega) ?_
    intro s13 w14 h13 c14 b13
    have z3 := hc.size
    have z9 := c9.size
    have z12 := c12.size
    rw [wr_in (by omega)]
    refine ⟨⟨k + 1, by omega, by omega, ?_, (trN (trN hc c9) c12).trans c14 (fun _ _ h => h) (fun j hj he => by have := hb j he; omega), fun j hj => ?_⟩, by show xs.length - Int.toNat ((k : Int) + 1) < xs.length - Int.toNat (k : Int); omega⟩
    · have : xs.take (k + 1) = xs.take k ++ [x] := by rw [List.take_add_one, hx]; rfl
      rw [this]; unfold valsV at h13 ⊢; rw [List.map_append]; exact h13
    · rcases b13 with hh | hh
      · exact hb j (hh ▸ hj)
      · have := Option.some.inj (hh.symm.trans hj); omega
  · have hlt : k = xs.length := by simp at hlt; omega
    subst hlt
    rw [List.take_length] at ho
    exact ⟨o, rfl, ho, hc, hb⟩
end
end Go.Proofs.Ytblmoilneiffgaa
