/- A trace's engine in memory: its values, its instructions one by one. -/
import Derived.Test.YtblmoilneiffgaaEvB
set_option maxRecDepth 100000
namespace Go.Proofs.Ytblmoilneiffgaa
open Go.RowKit

def enC (T : TrP) (S : StC) (rg atS waS : Sl) (hit : Int) : List Value := [.int .i64 T.start, .int .i64 T.slots, .int .i64 T.backs, .int .i64 T.grow, .int .i64 T.growBack, T.ins.val, T.outs.val, .int .i64 T.last, T.cells.val, .int .i64 S.ip, .int .i64 S.handler, S.stack.val, S.back.val, S.mem.val, .string S.out, .string S.inp, .int .i64 S.read, .int .i64 S.status, .int .i64 S.code, rg.val, atS.val, waS.val, .int .i64 hit]
/-- At p lies an engine; it, the memory and the registers lie in blocks of B, all else elsewhere. -/
structure EnAt (w0 : World) (B : Nat → Prop) (w : World) (p : Nat) (T : TrP) (S : StC) (rg atS waS : Sl) (ats wl : List Int) (e : En) : Prop where
  ob : Ob w p (enC T S rg atS waS e.hit) T_eval_engine
  nums : StNums S e.s
  st : Rd intE w S.stack e.s.stack
  bk : Rd intE w S.back e.s.back
  me : Ow intE w S.mem e.s.mem
  reg : Ow intE w rg e.regs
  at' : Rd intE w0 atS ats
  wa : Rd intE w0 waS wl
  base : Chg No w0 w
  bN : ∀ k, B k → w0.heap.size ≤ k
  pB : B p
  meB : ∀ k, S.mem.blk = some k → B k ∧ k ≠ p
  rgB : ∀ k, rg.blk = some k → B k ∧ k ≠ p ∧ S.mem.blk ≠ some k
  stN : ∀ k, S.stack.blk = some k → ¬ B k
  bkN : ∀ k, S.back.blk = some k → ¬ B k
  ok : AtOk ats e.regs.length
variable {w0 : World} {B : Nat → Prop} {w : World} {p : Nat} {T : TrP} {S : StC} {rg atS waS : Sl} {ats wl : List Int} {e : En}
theorem EnAt.no {w' : World} (h : EnAt w0 B w p T S rg atS waS ats wl e) (c : Chg No w w') : EnAt w0 B w' p T S rg atS waS ats wl e :=
  ⟨h.ob.no c, h.nums, h.st.no c, h.bk.no c, h.me.no c, h.reg.no c, h.at', h.wa, trN h.base c, h.bN, h.pB, h.meB, h.rgB, h.stN, h.bkN, h.ok⟩
/-- Something of the engine's own blocks was turned. -/
theorem EnAt.turn {w' : World} {S' : StC} {e' : En} {X : Nat → Prop} (h : EnAt w0 B w p T S rg atS waS ats wl e) (c : Chg X w w') (hX : ∀ k, X k → B k) (ob : Ob w' p (enC T S' rg atS waS e'.hit) T_eval_engine) (nums : StNums S' e'.s) (me : Ow intE w' S.mem e'.s.mem) (rg' : Ow intE w' rg e'.regs) (h1 : S'.stack = S.stack ∧ S'.back = S.back ∧ S'.mem = S.mem) (h2 : e'.s.stack = e.s.stack ∧ e'.s.back = e.s.back ∧ e'.regs.length = e.regs.length) :
    EnAt w0 B w' p T S' rg atS waS ats wl e' ∧ Chg B w w' := by
  obtain ⟨a1, a2, a3⟩ := h1
  obtain ⟨b1, b2, b3⟩ := h2
  refine ⟨⟨ob, nums, ?_, ?_, by rw [a3]; exact me, rg', h.at', h.wa, h.base.trans c (fun _ _ h => h) (fun k hk hx => by have := h.bN k (hX k hx); omega), h.bN, h.pB, by rw [a3]; exact h.meB, by rw [a3]; exact h.rgB, by rw [a1]; exact h.stN, by rw [a2]; exact h.bkN, by rw [b3]; exact h.ok⟩, c.mono (fun k _ hk => hX k hk)⟩
  · rw [a1, b1]; exact h.st.chg c (fun k hk hx => h.stN k hk (hX k hx))
  · rw [a2, b2]; exact h.bk.chg c (fun k hk hx => h.bkN k hk (hX k hx))
theorem getI_ix {xs : List Int} {i : Int} (h0 : 0 ≤ i) (h1 : i < xs.length) : xs[i.toNat]? = some (getI xs i) := by
  unfold getI; rw [List.getD_eq_getElem?_getD, List.getElem?_eq_getElem (by omega)]; rfl
theorem AtOk.at {ats : List Int} {m : Nat} (h : AtOk ats m) {q : Int} (h0 : 0 ≤ q) (h1 : q < ats.length) : 0 ≤ getI ats q ∧ getI ats q < m := h q.toNat (by omega)
theorem evalue_any (h : EnAt w0 B w p T S rg atS waS ats wl e) {q : Int} (h0 : 0 ≤ q ∧ q < ats.length) : Calls Try.prog fn_eval_engine_value #[.pointer (some ⟨p, 0, none⟩), .int .i64 q] w fun x w' => x = .returned (.int .i64 (valV ats q e)) ∧ Chg No w w' := by
  refine (eval_engine_value_lift (K := fun r w' => r = .int .i64 (valV ats q e) ∧ Chg No w w') ?_).mono (by rintro e w' ⟨r, rfl, rfl, h⟩; exact ⟨rfl, h⟩)
  unfold eval_engine_value_sh
  intro w3 hw3
  have c3 := dw hw3
  have h3 := h.no c3
  obtain ⟨k0, k1⟩ := h.ok.at h0.1 h0.2
  refine ⟨rg, held_Lw (h3.ob.cell rfl), atS, held_Lw (h3.ob.cell rfl), (h3.at'.no h3.base).ix h0.1 (getI_ix h0.1 h0.2) fun a _ hcell => ?_⟩
  have q1 := hcell 0 _ rfl
  rw [add0] at q1
  refine ⟨_, held_Lw q1, h3.reg.rd.ix k0 (getI_ix k0 (by omega)) fun a' _ hcell' => ?_⟩
  have q2 := hcell' 0 _ rfl
  rw [add0] at q2
  exact ⟨_, held_Lw q2, rfl, c3⟩
theorem eset_any (h : EnAt w0 B w p T S rg atS waS ats wl e) {q v : Int} (h0 : 0 ≤ q ∧ q < ats.length) : Calls Try.prog fn_eval_engine_set #[.pointer (some ⟨p, 0, none⟩), .int .i64 q, .int .i64 v] w fun x w' => x = .returned (.int .i64 (-1)) ∧ EnAt w0 B w' p T S rg atS waS ats wl (setV ats q v e) ∧ Chg B w w' := by
  refine (eval_engine_set_lift (K := fun r w' => r = .int .i64 (-1) ∧ EnAt w0 B w' p T S rg atS waS ats wl (setV ats q v e) ∧ Chg B w w') ?_).mono (by rintro e w' ⟨r, rfl, rfl, h⟩; exact ⟨rfl, h⟩)
  unfold eval_engine_set_sh
  intro w3 hw3
  have c3 := dw hw3
  have h3 := h.no c3
  obtain ⟨k0, k1⟩ := h.ok.at h0.1 h0.2
  refine ⟨rg, held_Lw (h3.ob.cell rfl), atS, held_Lw (h3.ob.cell rfl), (h3.at'.no h3.base).ix h0.1 (getI_ix h0.1 h0.2) fun a _ hcell => ?_⟩
  have q1 := hcell 0 _ rfl
  rw [add0] at q1
  obtain ⟨a', ha', _⟩ := h3.reg.rd.at (getI_ix k0 (by omega))
  obtain ⟨f1, f2⟩ := h3.reg.set1 ha' (k := (getI ats q).toNat) (j := 0) (x' := v) (u := .int .i64 v) (getI_ix k0 (by omega)) (by decide) rfl
  rw [add0] at f1 f2
  have hl := h3.reg.rd.len
  refine ⟨_, held_Lw q1, a', ha', k0, by omega, f1, fun w9 hw9 => ⟨rfl, ?_⟩⟩
  have hb := h3.rgB _ (blk_ptr ha')
  have c9 : Chg (fun k => k = a'.block) w3 w9 := by rw [hw9]; exact Chg.st (S := fun k => k = a'.block) (by rw [add_block])
  obtain ⟨g1, g2⟩ := h3.turn (e' := setV ats q v e) (S' := S) c9 (fun k hk => hk ▸ hb.1) (h3.ob.chg c9 (fun he => hb.2.1 he.symm)) h.nums (h3.me.chg c9 (fun k hk he => hb.2.2 (he ▸ hk))) (by rw [hw9]; exact f2) ⟨rfl, rfl, rfl⟩ ⟨rfl, rfl, setV_regs _ _ _ _⟩
  exact ⟨g1, c3.trans g2 (fun _ _ h => h.elim) (fun _ _ h => h)⟩
theorem emust_any (b : Bool) (x : Int) (w : World) : Calls Try.prog fn_eval_must #[.bool b, .int .i64 x] w fun e w' => e = .returned (.int .i64 (if b then -1 else x)) ∧ w = w' := by
  refine (eval_must_lift (K := fun r w' => r = .int .i64 (if b then -1 else x) ∧ w = w') ?_).mono (by rintro e w' ⟨r, rfl, rfl, h⟩; exact ⟨rfl, h⟩)
  unfold eval_must_sh
  exact brB_of (fun h => ⟨by rw [h]; rfl, rfl⟩) (fun h => ⟨by rw [h]; rfl, rfl⟩)
/-- What an instruction's function answers, and leaves. -/
def EnAns (w0 : World) (B : Nat → Prop) (w : World) (p : Nat) (T : TrP) (S : StC) (rg atS waS : Sl) (ats wl : List Int) (r : Int × En) (x : Int) (w' : World) : Prop :=
  x = r.1 ∧ (∃ S' : StC, (S'.stack = S.stack ∧ S'.back = S.back ∧ S'.mem = S.mem) ∧ EnAt w0 B w' p T S' rg atS waS ats wl r.2) ∧ Chg B w w'
theorem EnAns.pre {wv w' : World} {r : Int × En} {x : Int} (c : Chg No wv w) (h : EnAns w0 B w p T S rg atS waS ats wl r x w') : EnAns w0 B wv p T S rg atS waS ats wl r x w' :=
  ⟨h.1, h.2.1, c.trans h.2.2 (fun _ _ h => h.elim) (fun _ _ h => h)⟩
theorem EnAns.same (h : EnAt w0 B w p T S rg atS waS ats wl e) (x : Int) : EnAns w0 B w p T S rg atS waS ats wl (x, e) x w := ⟨rfl, ⟨S, ⟨rfl, rfl, rfl⟩, h⟩, Chg.refl _ _⟩
theorem EnAns.no {w' : World} (h : EnAt w0 B w p T S rg atS waS ats wl e) (c : Chg No w w') (x : Int) : EnAns w0 B w p T S rg atS waS ats wl (x, e) x w' := (EnAns.same (h.no c) x).pre c
theorem eset_ans (h : EnAt w0 B w p T S rg atS waS ats wl e) {q v : Int} (h0 : 0 ≤ q ∧ q < ats.length) {K : Int → World → Prop} (k : ∀ w', EnAns w0 B w p T S rg atS waS ats wl (-1, setV ats q v e) (-1) w' → K (-1) w') :
    Calls Try.prog fn_eval_engine_set #[.pointer (some ⟨p, 0, none⟩), .int .i64 q, .int .i64 v] w fun x w' => ∃ n : Int, x = .returned (.int .i64 n) ∧ K n w' := by
  refine (eset_any h h0).mono ?_
  rintro x w' ⟨rfl, h1, h2⟩
  exact ⟨_, rfl, k w' ⟨rfl, ⟨S, ⟨rfl, rfl, rfl⟩, h1⟩, h2⟩⟩
theorem ecalc_any (h : EnAt w0 B w p T S rg atS waS ats wl e) {q : Int} (i : In5) (h0 : 0 ≤ q ∧ q < ats.length) (hB : 0 ≤ i.c ∧ i.c < ats.length) (hC : Cn.isOne i.b = false → 0 ≤ i.d ∧ i.d < ats.length) :
    Calls Try.prog fn_eval_engine_calc #[.pointer (some ⟨p, 0, none⟩), .int .i64 q, .agg (insC i).toArray] w fun x w' => ∃ n : Int, x = .returned (.int .i64 n) ∧ EnAns w0 B w p T S rg atS waS ats wl (calcV ats q i e) n w' := by
  refine (eval_engine_calc_lift (K := fun r w' => ∃ n : Int, r = .int .i64 n ∧ EnAns w0 B w p T S rg atS waS ats wl (calcV ats q i e) n w') ?_).mono (by rintro e w' ⟨r, rfl, n, rfl, h⟩; exact ⟨n, rfl, h⟩)
  unfold eval_engine_calc_sh
  intro b8 w9 hb8 hw9
  have o9 : Ob w9 b8 (insC i) T_api_Ins := by rw [hw9, hb8]; exact Ob.new w (insC i) T_api_Ins
  have c9 := al hw9
  have h9 := h.no c9
  refine ⟨_, o9.cell rfl, (evalue_any h9 hB).mono ?_⟩
  rintro x w12 ⟨rfl, c12⟩
  refine ⟨_, rfl, _, (o9.no c12).cell rfl, (one_any i.b (valV ats i.c e) w12).mono ?_⟩
  rintro x w16 ⟨rfl, rfl⟩
  have h12 := h9.no c12
  have k12 := trN c9 c12
  refine ⟨_, _, rfl, brB_of (fun h1 => ?_) (fun h1 => ?_)⟩
  · refine eset_ans h12 h0 (K := fun n w' => ∃ m : Int, Value.int .i64 n = .int .i64 m ∧ EnAns w0 B w p T S rg atS waS ats wl (calcV ats q i e) m w') (fun w' ha => ⟨_, rfl, ?_⟩)
    unfold calcV; dsimp only; rw [if_pos h1]; exact ha.pre k12
  · have hCC := hC h1
    intro w22 hw22
    have c22 := dw hw22
    have h22 := h12.no c22
    have oo : ∀ {w' : World}, Chg No w22 w' → Ob w' b8 (insC i) T_api_Ins := fun c => ((o9.no c12).no c22).no c
    refine ⟨fun w' => Chg No w22 w', Chg.refl _ _, _, Ob.held (fun w' c => oo c) rfl, _, Ob.held (fun w' c => oo c) rfl, (evalue_any h22 hCC).mono ?_⟩
    rintro x w27 ⟨rfl, c27⟩
    refine ⟨_, rfl, c27, (two_any i.b (valV ats i.c e) (valV ats i.d e) w27).mono ?_⟩
    rintro x w30 ⟨rfl, c30⟩
    have c30' : Chg No w27 w30 := Chg.qt c30
    have k30 := trN (trN k12 c22) (trN c27 c30')
    have h30 := (h22.no c27).no c30'
    refine ⟨_, _, rfl, trN c27 c30', brB_of (fun h2 => ?_) (fun h2 => ?_)⟩
    · have h2 : Cn.isTwo i.b (valV ats i.d e) = false := by simpa using h2
      refine ⟨_, (oo (trN c27 c30')).cell rfl, _, rfl, ?_⟩
      unfold calcV; dsimp only; rw [if_neg (by rw [h1]; decide), if_neg (by rw [h2]; decide)]
      exact (EnAns.same h30 _).pre k30
    · have h2 : Cn.isTwo i.b (valV ats i.d e) = true := by simpa using h2
      refine eset_ans h30 h0 (K := fun n w' => ∃ m : Int, Value.int .i64 n = .int .i64 m ∧ EnAns w0 B w p T S rg atS waS ats wl (calcV ats q i e) m w') (fun w' ha => ⟨_, rfl, ?_⟩)
      unfold calcV; dsimp only; rw [if_neg (by rw [h1]; decide), if_pos h2]; exact ha.pre k30
theorem ememory_any (h : EnAt w0 B w p T S rg atS waS ats wl e) {q : Int} (i : In5) (h0 : 0 ≤ q ∧ q < ats.length) (hB : 0 ≤ i.c ∧ i.c < ats.length) (h56 : i.a = 5 ∨ i.a = 6) (hC : i.a = 6 → 0 ≤ i.d ∧ i.d < ats.length) :
    Calls Try.prog fn_eval_engine_memory #[.pointer (some ⟨p, 0, none⟩), .int .i64 q, .agg (insC i).toArray] w fun x w' => ∃ n : Int, x = .returned (.int .i64 n) ∧ EnAns w0 B w p T S rg atS waS ats wl (memV ats wl q i e) n w' := by
  refine (eval_engine_memory_lift (K := fun r w' => ∃ n : Int, r = .int .i64 n ∧ EnAns w0 B w p T S rg atS waS ats wl (memV ats wl q i e) n w') ?_).mono (by rintro e w' ⟨r, rfl, n, rfl, h⟩; exact ⟨n, rfl, h⟩)
  unfold eval_engine_memory_sh
  intro b8 w9 hb8 hw9
  have o9 : Ob w9 b8 (insC i) T_api_Ins := by rw [hw9, hb8]; exact Ob.new w (insC i) T_api_Ins
  have c9 := al hw9
  have h9 := h.no c9
  have hlt := h.ob.lt
  refine ⟨_, o9.cell rfl, (evalue_any h9 hB).mono ?_⟩
  rintro x w12 ⟨rfl, c12⟩
  have h12 := h9.no c12
  have o12 := o9.no c12
  have k12 := trN c9 c12
  have hml := h12.me.rd.len
  have hz12 := k12.size
  refine ⟨_, rfl, ?_⟩
  refine ⟨fun b w' => b = decide (valV ats i.c e < 0 ∨ (e.s.mem.length : Int) ≤ valV ats i.c e) ∧ w' = w12, ?_, ?_⟩
  · rintro b w15 ⟨rfl, rfl⟩
    refine brB_of (fun hf => ?_) (fun hf => ?_)
    · have hf := of_decide_eq_true hf
      refine ⟨_, o12.cell rfl, _, rfl, ?_⟩
      unfold memV; dsimp only; rw [if_pos hf]; exact (EnAns.same h12 _).pre k12
    have hf := of_decide_eq_false hf
    have g0 : 0 ≤ valV ats i.c e := by omega
    have g1 : valV ats i.c e < e.s.mem.length := by omega
    refine ⟨_, o12.cell rfl, brB_of (fun h5 => ?_) (fun h5 => ?_)⟩
    · have h5 : i.a = 5 := by simpa using h5
      refine ⟨S.mem, h12.ob.cell rfl, h12.me.rd.ix g0 (getI_ix g0 g1) fun a _ hcell => ?_⟩
      have q1 := hcell 0 _ rfl
      rw [add0] at q1
      refine ⟨_, q1, ?_⟩
      refine eset_ans h12 h0 (K := fun n w' => ∃ m : Int, Value.int .i64 n = .int .i64 m ∧ EnAns w0 B w p T S rg atS waS ats wl (memV ats wl q i e) m w') (fun w' ha => ⟨_, rfl, ?_⟩)
      unfold memV; dsimp only; rw [if_neg hf, if_pos h5]; exact ha.pre k12
    · have h5 : i.a ≠ 5 := by simpa using h5
      have hCC := hC (by omega)
      intro w25 hw25
      have c25 := dw hw25
      have h25 := h12.no c25
      have o25 := o12.no c25
      have oo : ∀ {w' : World}, Chg No w25 w' → Ob w' b8 (insC i) T_api_Ins := fun c => o25.no c
      refine ⟨fun w' => Chg No w25 w', Chg.refl _ _, S.mem, fun w' c => (h25.no c).ob.cell rfl, _, Ob.held (fun w' c => oo c) rfl, (evalue_any h25 hCC).mono ?_⟩
      rintro x w30 ⟨rfl, c30⟩
      have h30 := h25.no c30
      have o30 := oo c30
      have k30 := trN (trN k12 c25) c30
      obtain ⟨a, ha, _⟩ := h30.me.rd.at (getI_ix g0 g1)
      obtain ⟨f1, f2⟩ := h30.me.set1 ha (k := (valV ats i.c e).toNat) (j := 0) (x' := valV ats i.d e) (u := .int .i64 (valV ats i.d e)) (getI_ix g0 g1) (by decide) rfl
      rw [add0] at f1 f2
      refine ⟨_, rfl, c30, a, ha, g0, by omega, f1, fun w33 hw33 => ?_⟩
      have hb := h30.meB _ (blk_ptr ha)
      have c33 : Chg (fun k => k = a.block) w30 w33 := by rw [hw33]; exact Chg.st (S := fun k => k = a.block) (by rw [add_block])
      obtain ⟨h33, cB⟩ := h30.turn (e' := { e with s := { e.s with mem := e.s.mem.set (valV ats i.c e).toNat (valV ats i.d e) } }) (S' := S) c33 (fun k hk => hk ▸ hb.1) (h30.ob.chg c33 (fun he => hb.2 he.symm)) h.nums (by rw [hw33]; exact f2) (h30.reg.chg c33 (fun k hk he => (h30.rgB k hk).2.2 (he ▸ blk_ptr ha))) ⟨rfl, rfl, rfl⟩ ⟨rfl, rfl, rfl⟩
      have hnb : ¬ B b8 ∨ b8 ≠ a.block := by
        refine Or.inr fun he => ?_
        have := h.me.lt (blk_ptr ha)
        omega
      have o33 : Ob w33 b8 (insC i) T_api_Ins := o30.chg c33 (fun he => by rcases hnb with h | h; exact (h (he ▸ hb.1)).elim; exact h he)
      refine ⟨waS, h33.ob.cell rfl, (contains_any (h33.wa.no h33.base) (valV ats i.c e)).mono ?_⟩
      rintro x w36 ⟨rfl, rfl⟩
      have k33 : Chg B w w33 := k30.trans cB (fun _ _ h => h.elim) (fun _ _ h => h)
      refine ⟨_, rfl, brB_of (fun hw => ?_) (fun hw => ?_)⟩
      · have hw := of_decide_eq_true hw
        refine ⟨h33.ob.wr (by simp [enC]), fun w38 hw38 => ?_⟩
        obtain ⟨o38, c38⟩ := h33.ob.up (k := 22) (vs := [.int .i64 (valV ats i.c e)]) (cs' := enC T S rg atS waS (valV ats i.c e)) (by simp [enC]) rfl hw38
        have hpm : ∀ k, S.mem.blk = some k → k ≠ p := fun k hk => (h33.meB k hk).2
        obtain ⟨h38, cB'⟩ := h33.turn (e' := { e with s := { e.s with mem := e.s.mem.set (valV ats i.c e).toNat (valV ats i.d e) }, hit := valV ats i.c e }) (S' := S) c38 (fun k hk => hk ▸ h.pB) o38 h.nums (h33.me.chg c38 (fun k hk he => hpm k hk he)) (h33.reg.chg c38 (fun k hk he => (h33.rgB k hk).2.1 he)) ⟨rfl, rfl, rfl⟩ ⟨rfl, rfl, rfl⟩
        have o38' : Ob w38 b8 (insC i) T_api_Ins := o33.chg c38 (fun he => by omega)
        refine ⟨_, o38'.cell rfl, _, rfl, ?_⟩
        unfold memV; dsimp only; rw [if_neg hf, if_neg h5, if_pos hw]
        exact ⟨rfl, ⟨S, ⟨rfl, rfl, rfl⟩, h38⟩, k33.trans cB' (fun _ _ h => h) (fun _ _ h => h)⟩
      · have hw := of_decide_eq_false hw
        refine ⟨_, rfl, ?_⟩
        unfold memV; dsimp only; rw [if_neg hf, if_neg h5, if_neg hw]
        exact ⟨rfl, ⟨S, ⟨rfl, rfl, rfl⟩, h33⟩, k33⟩
  · refine brB_of (fun hb => ⟨?_, rfl⟩) (fun hb => ⟨S.mem, h12.ob.cell rfl, ?_, rfl⟩)
    · have hb := of_decide_eq_true hb
      symm; apply decide_eq_true; omega
    · have hb := of_decide_eq_false hb
      rw [Bool.eq_iff_iff]; simp; omega
theorem byte_lit (v : Int) : Value.int .u8 (IntKind.wrap .u8 v) = .int .u8 ((byteC v).toNat : Int) := by
  unfold byteC
  have h : 0 ≤ IntKind.wrap .u8 v ∧ IntKind.wrap .u8 v < 256 := by rw [IntKind.wrap_u8]; omega
  congr 1
  rw [UInt8.toNat_ofNat']
  omega
theorem esay_any (h : EnAt w0 B w p T S rg atS waS ats wl e) (i : In5) (hB : 0 ≤ i.c ∧ i.c < ats.length) (hs : e.s.out.size ≤ 4611686018427387904) :
    Calls Try.prog fn_eval_engine_say #[.pointer (some ⟨p, 0, none⟩), .agg (insC i).toArray] w fun x w' => ∃ n : Int, x = .returned (.int .i64 n) ∧ EnAns w0 B w p T S rg atS waS ats wl (tellV ats i e) n w' := by
  refine (eval_engine_say_lift (K := fun r w' => ∃ n : Int, r = .int .i64 n ∧ EnAns w0 B w p T S rg atS waS ats wl (tellV ats i e) n w') ?_).mono (by rintro e w' ⟨r, rfl, n, rfl, h⟩; exact ⟨n, rfl, h⟩)
  unfold eval_engine_say_sh
  intro b7 w8 hb7 hw8
  have o8 : Ob w8 b7 (insC i) T_api_Ins := by rw [hw8, hb7]; exact Ob.new w (insC i) T_api_Ins
  have c8 := al hw8
  have h8 := h.no c8
  refine ⟨_, o8.cell rfl, (evalue_any h8 hB).mono ?_⟩
  rintro x w11 ⟨rfl, c11⟩
  refine ⟨_, rfl, ?_⟩
  intro b13 w14 hb13 hw14
  obtain ⟨l14, c14⟩ := lit8 (byteC (valV ats i.c e)) (byte_lit _) hb13 hw14
  have k14 := trN (trN c8 c11) c14
  have o14 := (o8.no c11).no c14
  have h14 := h.no k14
  refine ⟨_, w14, u8_str (s := ⟨some ⟨b13, 0, none⟩, 1, 1⟩) l14.rd (by simp), ?_⟩
  have hsz := sayV_size i.a (valV ats i.c e)
  refine ⟨fun t w' => t = sayV i.a (valV ats i.c e) ∧ Chg No w14 w', ?_, ?_⟩
  · rintro t w21 ⟨rfl, c21⟩
    have h21 := h14.no c21
    have o21 := o14.no c21
    have k21 := trN k14 c21
    obtain ⟨m1, m2, m3, m4, m5, m6, m7⟩ := h.nums
    refine ⟨S.out, h21.ob.cell rfl, ?_⟩
    rw [m3, wr_in (by omega)]
    refine brB_of (fun hf => ?_) (fun hf => ?_)
    · have hf := of_decide_eq_true hf
      refine ⟨_, o21.cell rfl, _, rfl, ?_⟩
      unfold tellV; dsimp only; rw [if_pos (by omega)]; exact (EnAns.same h21 _).pre k21
    · have hf := of_decide_eq_false hf
      refine ⟨S.out, h21.ob.cell rfl, by rw [m3]; omega, h21.ob.wr (by simp [enC]), fun w26 hw26 => ⟨_, rfl, ?_⟩⟩
      obtain ⟨o26, c26⟩ := h21.ob.up (k := 14) (vs := [.string (S.out ++ sayV i.a (valV ats i.c e))]) (cs' := enC T { S with out := S.out ++ sayV i.a (valV ats i.c e) } rg atS waS e.hit) (by simp [enC]) rfl hw26
      obtain ⟨h26, cB⟩ := h21.turn (e' := { e with s := { e.s with out := e.s.out ++ sayV i.a (valV ats i.c e) } }) (S' := { S with out := S.out ++ sayV i.a (valV ats i.c e) }) c26 (fun k hk => hk ▸ h.pB) o26 ⟨m1, m2, by rw [m3], m4, m5, m6, m7⟩ (h21.me.chg c26 (fun k hk he => (h21.meB k hk).2 he)) (h21.reg.chg c26 (fun k hk he => (h21.rgB k hk).2.1 he)) ⟨rfl, rfl, rfl⟩ ⟨rfl, rfl, rfl⟩
      unfold tellV; dsimp only; rw [if_neg (by omega)]
      exact ⟨rfl, ⟨{ S with out := S.out ++ sayV i.a (valV ats i.c e) }, ⟨rfl, rfl, rfl⟩, h26⟩, k21.trans cB (fun _ _ h => h.elim) (fun _ _ h => h)⟩
  · refine ⟨_, o14.cell rfl, brB_of (fun h11 => ?_) (fun h11 => ?_)⟩
    · have h11 : i.a = 11 := by simpa using h11
      refine (put_any (valV ats i.c e) w14).mono ?_
      rintro x w19 ⟨rfl, c19⟩
      have := putV_size (valV ats i.c e)
      refine ⟨_, rfl, ?_, ?_, c19⟩
      · show _ + (1 : Int) ≤ _; omega
      · unfold sayV; rw [if_pos h11]
    · have h11 : i.a ≠ 11 := by simpa using h11
      refine ⟨?_, Chg.refl _ _⟩
      unfold sayV; rw [if_neg h11]
theorem eask_any (h : EnAt w0 B w p T S rg atS waS ats wl e) {q : Int} (h0 : 0 ≤ q ∧ q < ats.length) (hr : 0 ≤ e.s.read) (hi : e.s.inp.size ≤ 4611686018427387904) :
    Calls Try.prog fn_eval_engine_ask #[.pointer (some ⟨p, 0, none⟩), .int .i64 q] w fun x w' => ∃ n : Int, x = .returned (.int .i64 n) ∧ EnAns w0 B w p T S rg atS waS ats wl (askV ats q e) n w' := by
  refine (eval_engine_ask_lift (K := fun r w' => ∃ n : Int, r = .int .i64 n ∧ EnAns w0 B w p T S rg atS waS ats wl (askV ats q e) n w') ?_).mono (by rintro e w' ⟨r, rfl, n, rfl, h⟩; exact ⟨n, rfl, h⟩)
  unfold eval_engine_ask_sh
  intro w3 hw3
  have c3 := dw hw3
  have h3 := h.no c3
  obtain ⟨m1, m2, m3, m4, m5, m6, m7⟩ := h.nums
  refine ⟨S.read, held_Lw (h3.ob.cell rfl), S.inp, held_Lw (h3.ob.cell rfl), ?_⟩
  rw [m4, m5]
  refine brB_of (fun hf => ?_) (fun hf => ?_)
  · have hf := of_decide_eq_true hf
    refine eset_ans h3 h0 (K := fun n w' => ∃ m : Int, Value.int .i64 n = .int .i64 m ∧ EnAns w0 B w p T S rg atS waS ats wl (askV ats q e) m w') (fun w' ha => ⟨_, rfl, ?_⟩)
    unfold askV; rw [if_pos (by omega)]; exact ha.pre c3
  · have hf := of_decide_eq_false hf
    refine ⟨S.read, h3.ob.cell rfl, h3.ob.wr (by simp [enC]), fun w10 hw10 => ?_⟩
    rw [m5, wr_in (by omega)] at hw10
    obtain ⟨o10, c10⟩ := h3.ob.up (k := 16) (vs := [.int .i64 (e.s.read + 1)]) (cs' := enC T { S with read := e.s.read + 1 } rg atS waS e.hit) (by simp [enC]) rfl hw10
    obtain ⟨h10, cB⟩ := h3.turn (e' := { e with s := { e.s with read := e.s.read + 1 } }) (S' := { S with read := e.s.read + 1 }) c10 (fun k hk => hk ▸ h.pB) o10 ⟨m1, m2, m3, m4, rfl, m6, m7⟩ (h3.me.chg c10 (fun k hk he => (h3.meB k hk).2 he)) (h3.reg.chg c10 (fun k hk he => (h3.rgB k hk).2.1 he)) ⟨rfl, rfl, rfl⟩ ⟨rfl, rfl, rfl⟩
    intro w11 hw11
    have c11 := dw hw11
    have h11 := h10.no c11
    refine ⟨S.inp, held_Lw (h11.ob.cell rfl), e.s.read + 1, held_Lw (h11.ob.cell rfl), ?_⟩
    rw [wr_in (x := e.s.read + 1 - 1) (by omega), show e.s.read + 1 - 1 = e.s.read by omega, m4]
    refine ⟨hr, by omega, ?_⟩
    have hsb : 0 ≤ sb e.s.inp e.s.read ∧ sb e.s.inp e.s.read < 256 := by
      unfold sb
      have := ((e.s.inp.data[e.s.read.toNat]?).getD 0).toNat_lt
      omega
    rw [wr_in (by omega)]
    refine eset_ans h11 h0 (K := fun n w' => ∃ m : Int, Value.int .i64 n = .int .i64 m ∧ EnAns w0 B w p T S rg atS waS ats wl (askV ats q e) m w') (fun w' ha => ⟨_, rfl, ?_⟩)
    unfold askV; rw [if_neg (by omega)]
    obtain ⟨g1, ⟨S', g2, g3⟩, g4⟩ := ha
    exact ⟨rfl, ⟨S', g2, g3⟩, ((c3.trans cB (U := B) (fun _ _ h => h.elim) (fun _ _ h => h)).trans c11 (fun _ _ h => h) (fun _ _ h => h.elim)).trans g4 (fun _ _ h => h) (fun _ _ h => h)⟩
end Go.Proofs.Ytblmoilneiffgaa
