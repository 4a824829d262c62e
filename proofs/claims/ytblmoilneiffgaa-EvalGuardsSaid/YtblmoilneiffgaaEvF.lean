/- eval.Through and eval.Run: a whole run of a trace. -/
import Derived.Test.YtblmoilneiffgaaEvE
import Derived.Test.YtblmoilneiffgaaEvQ
set_option maxRecDepth 100000
namespace Go.Proofs.Ytblmoilneiffgaa
open Go.RowKit

/-- What eval.Through hands back. -/
def thrR (S : StC) (x steps : Int) (h : Bool) (hit : Int) : Value := .tuple #[.agg (stC S).toArray, .agg #[.int .i64 x, .int .i64 steps, .bool h], .int .i64 hit]
theorem st_done {wA : World} {b27 b29 : Nat} (S' : StC) (x st : Int) (hb : Bool) (hx : Int) (o27 : Ob wA b27 (stC st0) T_api_State) (o29 : Ob wA b29 [.int .i64 0, .int .i64 0, .bool false] T_eval_Done) (hne : b27 ≠ b29) {K : Value → World → Prop} (k : ∀ wB, Chg (fun j => j = b27 ∨ j = b29) wA wB → K (thrR S' x st hb hx) wB) :
    wrOk wA ⟨b27, 0, none⟩ 10 ∧ ∀ w162 : World, w162 = stW wA ⟨b27, 0, none⟩ 0 (stC S') →
 wrOk w162 ⟨b29, 0, none⟩ 3 ∧ ∀ w163 : World, w163 = stW w162 ⟨b29, 0, none⟩ 0 [.int .i64 x, .int .i64 st, .bool hb] →
 ∃ r_Ip164 : Int, ∃ r_Handler165 : Int, ∃ r_Stack166 : Sl, ∃ r_Back167 : Sl, ∃ r_Mem168 : Sl, ∃ r_Out169 : ByteArray, ∃ r_In170 : ByteArray, ∃ r_Read171 : Int, ∃ r_Status172 : Int, ∃ r_Code173 : Int, w163.cell? ⟨b27, 0, none⟩ = some (.int .i64 r_Ip164) ∧ w163.cell? ⟨b27, 1, none⟩ = some (.int .i64 r_Handler165) ∧ w163.cell? ⟨b27, 2, none⟩ = some (r_Stack166.val) ∧ w163.cell? ⟨b27, 3, none⟩ = some (r_Back167.val) ∧ w163.cell? ⟨b27, 4, none⟩ = some (r_Mem168.val) ∧ w163.cell? ⟨b27, 5, none⟩ = some (.string r_Out169) ∧ w163.cell? ⟨b27, 6, none⟩ = some (.string r_In170) ∧ w163.cell? ⟨b27, 7, none⟩ = some (.int .i64 r_Read171) ∧ w163.cell? ⟨b27, 8, none⟩ = some (.int .i64 r_Status172) ∧ w163.cell? ⟨b27, 9, none⟩ = some (.int .i64 r_Code173) ∧
 ∃ r_Exit174 : Int, ∃ r_Steps175 : Int, ∃ r_Hit176 : Bool, w163.cell? ⟨b29, 0, none⟩ = some (.int .i64 r_Exit174) ∧ w163.cell? ⟨b29, 1, none⟩ = some (.int .i64 r_Steps175) ∧ w163.cell? ⟨b29, 2, none⟩ = some (.bool r_Hit176) ∧
 K (.tuple #[.agg #[.int .i64 r_Ip164, .int .i64 r_Handler165, r_Stack166.val, r_Back167.val, r_Mem168.val, .string r_Out169, .string r_In170, .int .i64 r_Read171, .int .i64 r_Status172, .int .i64 r_Code173], .agg #[.int .i64 r_Exit174, .int .i64 r_Steps175, .bool r_Hit176], .int .i64 hx]) w163 := by
  refine ⟨o27.wr (by simp [stC]), fun w162 hw162 => ?_⟩
  obtain ⟨p27, d27⟩ := o27.up (k := 0) (vs := stC S') (cs' := stC S') (by simp [stC]) rfl hw162
  have p29 := o29.chg d27 (fun he => hne he.symm)
  refine ⟨p29.wr (by simp), fun w163 hw163 => ?_⟩
  obtain ⟨q29, d29⟩ := p29.up (k := 0) (vs := [.int .i64 x, .int .i64 st, .bool hb]) (cs' := [.int .i64 x, .int .i64 st, .bool hb]) (by simp) rfl hw163
  have q27 := p27.chg d29 (fun he => hne he)
  exact ⟨_, _, _, _, _, _, _, _, _, _, q27.cell rfl, q27.cell rfl, q27.cell rfl, q27.cell rfl, q27.cell rfl, q27.cell rfl, q27.cell rfl, q27.cell rfl, q27.cell rfl, q27.cell rfl, _, _, _, q29.cell rfl, q29.cell rfl, q29.cell rfl, k w163 (d27.trans d29 (fun _ _ h => Or.inl h) (fun _ _ h => Or.inr h))⟩
theorem mayV_iff {v : TrG} {s : StV} (h : mayV v s = true) : s.status = 0 ∧ s.ip = v.start ∧ v.slots ≤ s.stack.length ∧ (s.stack.length : Int) + v.grow ≤ 48 ∧ v.backs ≤ s.back.length ∧ (s.back.length : Int) + v.growBack ≤ 48 := of_decide_eq_true h
/-- What eval.Through answers. -/
def ThrAns (v : TrG) (s : StV) (ats : List Int) (N : Nat) (wl : List Int) (w : World) (e : Value) (w' : World) : Prop :=
  ∃ S' : StC, StOw (fun k => w.heap.size ≤ k) w' S' (if mayV v s = true then leaveV v ats (runA v ats N s wl).1 (runA v ats N s wl).2 else s) ∧ Chg No w w' ∧
    e = (if mayV v s = true then thrR S' (runA v ats N s wl).1 (outAt v (runA v ats N s wl).1).steps (decide ((runA v ats N s wl).2.hit ≥ 0)) (runA v ats N s wl).2.hit else thrR S' (-1) 0 false (-1))
theorem goV_here {ats wl : List Int} {last : Int} {i : In5} {r : List In5} {q : Int} {e : En} (h : 0 ≤ (insV ats wl q i e).1) : goV ats wl last (i :: r) q e = insV ats wl q i e := if_pos h
theorem goV_next {ats wl : List Int} {last : Int} {i : In5} {r : List In5} {q : Int} {e : En} (h : ¬ 0 ≤ (insV ats wl q i e).1) : goV ats wl last (i :: r) q e = goV ats wl last r (q + 1) (insV ats wl q i e).2 := if_neg h
theorem thr_any {D D' : Nat → Prop} {w : World} (t : TrP) (S : StC) {v : TrG} {s : StV} (ht : TrIs D w t v) (hr : RightV v) (h : StIs D' w S s) {atS waS : Sl} {ats wl : List Int} (hat : Rd intE w atS ats) (hal : ats.length = v.ins.length) {N : Nat} (hN : N ≤ 1000000) (hok : AtOk ats N) (hwa : Rd intE w waS wl)
    (n1 : s.stack.length ≤ 100000) (n2 : s.back.length ≤ 100000) (n3 : s.mem.length ≤ 1000000) (hx : TxOk s) :
    Calls Try.prog fn_eval_Through #[.agg (trP t).toArray, .agg (stC S).toArray, atS.val, .int .i64 (N : Int), waS.val] w fun e w' => ∃ r, e = .returned r ∧ ThrAns v s ats N wl w r w' := by
  refine (eval_Through_lift (K := fun r w' => ThrAns v s ats N wl w r w') ?_).mono (by rintro e w' ⟨r, rfl, h⟩; exact ⟨r, rfl, h⟩)
  unfold eval_Through_sh
  intro b23 w24 hb23 hw24 b25 w26 hb25 hw26 b27 w28 hb27 hw28 b29 w30 hb29 hw30
  have c24 := al hw24
  have c26 := al hw26
  have c28 := al hw28
  have c30 := al hw30
  have z24 : w24.heap.size = w.heap.size + 1 := by rw [hw24]; simp
  have z26 : w26.heap.size = w24.heap.size + 1 := by rw [hw26]; simp
  have z28 : w28.heap.size = w26.heap.size + 1 := by rw [hw28]; simp
  have z30 : w30.heap.size = w28.heap.size + 1 := by rw [hw30]; simp
  have o23 : Ob w30 b23 (trP t) T_api_Trace := by
    have : Ob w24 b23 (trP t) T_api_Trace := by rw [hw24, hb23]; exact Ob.new w (trP t) T_api_Trace
    exact ((this.no c26).no c28).no c30
  have o25 : Ob w30 b25 (stC S) T_api_State := by
    have : Ob w26 b25 (stC S) T_api_State := by rw [hw26, hb25]; exact Ob.new w24 (stC S) T_api_State
    exact (this.no c28).no c30
  have o27 : Ob w30 b27 (stC st0) T_api_State := by
    have : Ob w28 b27 (stC st0) T_api_State := by rw [hw28, hb27]; exact Ob.new w26 (stC st0) T_api_State
    exact this.no c30
  have o29 : Ob w30 b29 [.int .i64 0, .int .i64 0, .bool false] T_eval_Done := by rw [hw30, hb29]; exact Ob.new w28 [.int .i64 0, .int .i64 0, .bool false] T_eval_Done
  have k30 : Chg No w w30 := trN (trN (trN c24 c26) c28) c30
  refine ⟨_, _, _, _, _, _, _, _, _, _, o25.cell rfl, o25.cell rfl, o25.cell rfl, o25.cell rfl, o25.cell rfl, o25.cell rfl, o25.cell rfl, o25.cell rfl, o25.cell rfl, o25.cell rfl, (icopy_any S (h.no k30) (by omega) (by omega) n3).mono ?_⟩
  rintro e w42 ⟨S1, rfl, hS1, c42⟩
  have z42 := c42.size
  refine ⟨_, _, _, _, _, _, _, _, _, _, rfl, (o25.no c42).wr (by simp [stC]), fun w53 hw53 => ?_⟩
  obtain ⟨p25, c53⟩ := (o25.no c42).up (k := 0) (vs := stC S1) (cs' := stC S1) (by simp [stC]) rfl hw53
  have z53 := c53.size
  have p23 := (o23.no c42).chg c53 (fun he => by omega)
  have p27 := (o27.no c42).chg c53 (fun he => by omega)
  have p29 := (o29.no c42).chg c53 (fun he => by omega)
  have k53 : Chg No w w53 := (trN k30 c42).trans c53 (fun _ _ h => h) (fun k hk he => by omega)
  have hS53 : StOw (fun k => w30.heap.size ≤ k ∧ k < w42.heap.size) w53 S1 s := hS1.chg c53 (fun k hk he => by omega)
  obtain ⟨q1, q2, q3, q4, q5, q6, q7⟩ := hr.head
  refine ⟨_, _, _, _, _, _, _, _, _, p23.cell rfl, p23.cell rfl, p23.cell rfl, p23.cell rfl, p23.cell rfl, p23.cell rfl, p23.cell rfl, p23.cell rfl, p23.cell rfl, ?_⟩
  refine ⟨_, _, _, _, _, _, _, _, _, _, p25.cell rfl, p25.cell rfl, p25.cell rfl, p25.cell rfl, p25.cell rfl, p25.cell rfl, p25.cell rfl, p25.cell rfl, p25.cell rfl, p25.cell rfl, (emay_any t S1 (ht.no k53) hS53.is (by omega) (by omega) (by omega) (by omega)).mono ?_⟩
  rintro e w74 ⟨rfl, c74⟩
  have z74 := c74.size
  have k74 := trN k53 c74
  refine ⟨_, rfl, brB_of (fun hm => ?_) (fun hm => ?_)⟩
  · have hm : mayV v s = false := by simpa using hm
    have s25 := p25.no c74
    refine ⟨_, _, _, _, _, _, _, _, _, _, s25.cell rfl, s25.cell rfl, s25.cell rfl, s25.cell rfl, s25.cell rfl, s25.cell rfl, s25.cell rfl, s25.cell rfl, s25.cell rfl, s25.cell rfl, ?_⟩
    refine st_done S1 (-1) 0 false (-1) (p27.no c74) (p29.no c74) (by omega) (K := fun r w' => ThrAns v s ats N wl w r w') fun wB cB => ?_
    refine ⟨S1, ?_, k74.trans cB (fun _ _ h => h) (fun k hk he => by omega), ?_⟩
    · rw [if_neg (by rw [hm]; decide)]
      exact ((hS53.no c74).chg cB (fun k hk he => by omega)).wid (fun k hk => by omega)
    · rw [if_neg (by rw [hm]; decide)]
  · have hm : mayV v s = true := by simpa using hm
    obtain ⟨y1, y2, y3, y4, y5, y6⟩ := mayV_iff hm
    intro w101 hw101
    have c101 := dw hw101
    have z101 := c101.size
    have s23 := (p23.no c74).no c101
    have s25 := (p25.no c74).no c101
    have s27 := (p27.no c74).no c101
    have s29 := (p29.no c74).no c101
    have hS101 := (hS53.no c74).no c101
    have k101 := trN k74 c101
    refine ⟨fun w' => Chg No w101 w', Chg.refl _ _, _, _, _, _, _, _, _, _, _, Ob.held (fun w' c => s23.no c) rfl, Ob.held (fun w' c => s23.no c) rfl, Ob.held (fun w' c => s23.no c) rfl, Ob.held (fun w' c => s23.no c) rfl, Ob.held (fun w' c => s23.no c) rfl, Ob.held (fun w' c => s23.no c) rfl, Ob.held (fun w' c => s23.no c) rfl, Ob.held (fun w' c => s23.no c) rfl, Ob.held (fun w' c => s23.no c) rfl, _, _, _, _, _, _, _, _, _, _, Ob.held (fun w' c => s25.no c) rfl, Ob.held (fun w' c => s25.no c) rfl, Ob.held (fun w' c => s25.no c) rfl, Ob.held (fun w' c => s25.no c) rfl, Ob.held (fun w' c => s25.no c) rfl, Ob.held (fun w' c => s25.no c) rfl, Ob.held (fun w' c => s25.no c) rfl, Ob.held (fun w' c => s25.no c) rfl, Ob.held (fun w' c => s25.no c) rfl, Ob.held (fun w' c => s25.no c) rfl, ?_⟩
    obtain ⟨w123, hrun, hreg, c123⟩ := make_ints (w := w101) (n := (N : Int)) (N := N) rfl hN
    have z123 := c123.size
    have hrl : ∀ k, (⟨some ⟨w101.heap.size, 0, none⟩, N, N⟩ : Sl).blk = some k → k = w101.heap.size := fun k hk => (Option.some.inj hk).symm
    refine ⟨_, w123, hrun, c123, ?_⟩
    intro b124 w125 hb124 hw125
    have c125 := al hw125
    have z125 : w125.heap.size = w123.heap.size + 1 := by rw [hw125]; simp
    have hrlt : w101.heap.size < w123.heap.size := hreg.lt rfl
    have k125 := trN (trN k101 c123) c125
    have o124 : Ob w125 b124 (enC t S1 ⟨some ⟨w101.heap.size, 0, none⟩, N, N⟩ atS waS (-1)) T_eval_engine := by rw [hw125, hb124]; exact Ob.new w123 (enC t S1 ⟨some ⟨w101.heap.size, 0, none⟩, N, N⟩ atS waS (-1)) T_eval_engine
    have hS125 := (hS101.no c123).no c125
    -- the engine's own blocks
    have hen : EnAt w (fun k => k = b124 ∨ S1.mem.blk = some k ∨ k = w101.heap.size) w125 b124 t S1 ⟨some ⟨w101.heap.size, 0, none⟩, N, N⟩ atS waS ats wl (en0 N s) := by
      refine ⟨o124, hS125.nums, hS125.st.rd, hS125.bk.rd, hS125.me, hreg.no c125, hat, hwa, k125, fun k hk => ?_, Or.inl rfl, fun k hk => ⟨Or.inr (Or.inl hk), ?_⟩, fun k hk => ⟨Or.inr (Or.inr (hrl k hk)), ?_, fun he => ?_⟩, fun k hk hb => ?_, fun k hk hb => ?_, by show AtOk ats (List.replicate N 0).length; rw [List.length_replicate]; exact hok⟩
      · rcases hk with hk | hk | hk
        · omega
        · have := (hS1.meD k hk).1; omega
        · omega
      · have := (hS1.meD k hk).1; omega
      · have := hrl k hk; omega
      · have := hrl k hk; have := (hS1.meD k he).1; omega
      · rcases hb with hb | hb | hb
        · have := hS1.stD k hk; omega
        · exact (hS1.meD k hb).2.1 hk
        · have := hS1.stD k hk; omega
      · rcases hb with hb | hb | hb
        · have := (hS1.bkD k hk).1; omega
        · exact (hS1.meD k hb).2.2 hk
        · have := (hS1.bkD k hk).1; omega
    have bB : ∀ k, (k = b124 ∨ S1.mem.blk = some k ∨ k = w101.heap.size) → k < w125.heap.size ∧ b29 < k := fun k hk => by
      rcases hk with hk | hk | hk
      · omega
      · have := (hS1.meD k hk).1; omega
      · omega
    have t23 := (s23.no c123).no c125
    have t27 := (s27.no c123).no c125
    have t29 := (s29.no c123).no c125
    refine ⟨t.ins, t23.cell rfl, ?_⟩
    have hil := ht.ins.len
    have hcap := ht.ins.capL
    -- the end: an exit is taken
    have fin : ∀ (wA : World) (S2 : StC) (x : Int) (e : En), EnAt w (fun k => k = b124 ∨ S1.mem.blk = some k ∨ k = w101.heap.size) wA b124 t S2 ⟨some ⟨w101.heap.size, 0, none⟩, N, N⟩ atS waS ats wl e → Chg (fun k => k = b124 ∨ S1.mem.blk = some k ∨ k = w101.heap.size) w125 wA →
        e.s.stack = s.stack → e.s.back = s.back → (∃ k, k ≤ v.ins.length ∧ OutV v x k) → runA v ats N s wl = (x, e) →
        Calls Try.prog fn_eval_engine_leave #[.pointer (some ⟨b124, 0, none⟩), .int .i64 x] wA fun r w' => ∃ S' : StC, r = .returned (leaveR S' x (outAt v x).steps e.hit) ∧ Ob w' b27 (stC st0) T_api_State ∧ Ob w' b29 [.int .i64 0, .int .i64 0, .bool false] T_eval_Done ∧
          ∀ wB, Chg (fun j => j = b27 ∨ j = b29) w' wB → ThrAns v s ats N wl w (thrR S' x (outAt v x).steps (decide (e.hit ≥ 0)) e.hit) wB := by
      intro wA S2 x e hen' cA h1 h2 hx' hrun'
      obtain ⟨k, hk, hxk⟩ := hx'
      have zA := cA.size
      refine (eleave_any hen' ht (fun k hk => by have := (bB k hk).1; omega) x (hr.exOk hal hk hxk) (by rw [h1]; omega) (by rw [h2]; omega) (by rw [h1]; omega) (by rw [h2]; omega)).mono ?_
      rintro r w' ⟨S', rfl, hS', c'⟩
      have cw' : Chg (fun k => k = b124 ∨ S1.mem.blk = some k ∨ k = w101.heap.size) w125 w' := cA.trans c' (fun _ _ h => h) (fun _ _ h => h)
      refine ⟨S', rfl, t27.chg cw' (fun he => by have := (bB _ he).2; omega), t29.chg cw' (fun he => by have := (bB _ he).2; omega), fun wB cB => ⟨S', ?_, ?_, ?_⟩⟩
      · rw [if_pos hm, hrun']
        refine (hS'.chg cB (fun k hk he => ?_)).wid (fun k hk => ?_)
        · rcases hk with hk | hk
          · have := (bB k hk).2; omega
          · omega
        · rcases hk with hk | hk
          · have := (bB k hk).2; omega
          · omega
      · exact (k125.trans cw' (fun _ _ h => h) (fun k hk he => by have := (bB k he).2; omega)).trans cB (fun _ _ h => h) (fun k hk he => by omega)
      · rw [if_pos hm, hrun']
    refine ⟨fun n w' => ∃ (k : Nat) (S2 : StC) (e : En), n = k ∧ k ≤ v.ins.length ∧ EnAt w (fun k => k = b124 ∨ S1.mem.blk = some k ∨ k = w101.heap.size) w' b124 t S2 ⟨some ⟨w101.heap.size, 0, none⟩, N, N⟩ atS waS ats wl e ∧ Chg (fun k => k = b124 ∨ S1.mem.blk = some k ∨ k = w101.heap.size) w125 w' ∧ e.s.stack = s.stack ∧ e.s.back = s.back ∧ TxOk e.s ∧ runA v ats N s wl = goV ats wl v.last (v.ins.drop k) k e, fun n _ => v.ins.length - n.toNat, ⟨0, S1, en0 N s, rfl, Nat.zero_le _, hen, Chg.refl _ _, rfl, rfl, hx, rfl⟩, ?_⟩
    rintro n w127 ⟨k, S2, e, rfl, hk, hen', cA, h1, h2, hx', hrun'⟩
    refine brB_of (fun hlt => ?_) (fun hlt => ?_)
    · have hlt : k < v.ins.length := by simp at hlt; omega
      obtain ⟨i, hi⟩ : ∃ i, v.ins[k]? = some i := ⟨_, List.getElem?_eq_getElem hlt⟩
      refine (ht.ins.no hen'.base).ix (i := (k : Int)) (by omega) (by rw [Int.toNat_natCast]; exact hi) fun a _ hcell => ?_
      have g0 := hcell 0 _ rfl
      rw [add0] at g0
      refine ⟨_, _, _, _, _, g0, hcell 1 _ rfl, hcell 2 _ rfl, hcell 3 _ rfl, hcell 4 _ rfl, ?_⟩
      intro b135 w136 hb135 hw136
      have hn := fun (w2 : World) => newOb (w2 := w2) (T := T_api_Ins) (insC ⟨0, 0, 0, 0, 0⟩) (insC i) rfl hb135 hw136
      refine ⟨(hn w136).1, fun w137 hw137 => ?_⟩
      obtain ⟨o137, c137⟩ := (hn w137).2 hw137
      refine ⟨_, _, _, _, _, o137.cell rfl, o137.cell rfl, o137.cell rfl, o137.cell rfl, o137.cell rfl, ?_⟩
      have hio := hr.ins hal (ns := e.s.stack.length) (nb := e.s.back.length) (by rw [h1]; omega) (by rw [h2]; omega) hi
      refine (eins_any (hen'.no c137) k i hio hx').mono ?_
      rintro r w144 ⟨n, rfl, ha⟩
      obtain ⟨a1, ⟨S3, _, a3⟩, a4⟩ := ha
      obtain ⟨u1, u2, u3, u4, u5⟩ := insV_keeps ats wl k i e
      have hdr : v.ins.drop k = i :: v.ins.drop (k + 1) := by
        rw [List.drop_eq_getElem_cons hlt]
        rw [List.getElem?_eq_getElem hlt] at hi
        cases hi; rfl
      rw [hdr] at hrun'
      have cA' : Chg (fun k => k = b124 ∨ S1.mem.blk = some k ∨ k = w101.heap.size) w125 w144 := (cA.trans c137 (fun _ _ h => h) (fun _ _ h => h.elim)).trans a4 (fun _ _ h => h) (fun _ _ h => h)
      refine ⟨n, rfl, brB_of (fun hge => ?_) (fun hge => ?_)⟩
      · have hge : 0 ≤ (insV ats wl k i e).1 := by rw [← a1]; simpa using hge
        rw [goV_here hge] at hrun'
        have hxo := (hr.each k i hi).2.2.2.2.2 _ (insV_exit (hr.each k i hi) hge)
        rw [a1]
        refine (fin w144 S3 (insV ats wl k i e).1 (insV ats wl k i e).2 a3 cA' (by rw [u2, h1]) (by rw [u3, h2]) ⟨k, by omega, hxo⟩ hrun').mono ?_
        rintro r w147 ⟨S', rfl, f1, f2, f3⟩
        refine ⟨_, _, _, _, _, _, _, _, _, _, _, _, _, _, rfl, ?_⟩
        exact st_done S' _ _ _ _ f1 f2 (by omega) (K := fun r w' => ThrAns v s ats N wl w r w') f3
      · have hge : ¬ 0 ≤ (insV ats wl k i e).1 := by rw [← a1]; simpa using hge
        rw [goV_next hge] at hrun'
        rw [wr_in (by omega)]
        refine ⟨⟨k + 1, S3, (insV ats wl k i e).2, by omega, by omega, a3, cA', by rw [u2, h1], by rw [u3, h2], hx'.ins ats wl k i, hrun'⟩, by show v.ins.length - Int.toNat ((k : Int) + 1) < v.ins.length - Int.toNat (k : Int); omega⟩
    · have hlt : k = v.ins.length := by simp at hlt; omega
      subst hlt
      rw [List.drop_length] at hrun'
      have r23 := t23.chg cA (fun he => by have := (bB _ he).2; omega)
      have hlast : t.last = v.last := ht.nums.2.2.2.2.2
      refine ⟨t.last, r23.cell rfl, ?_⟩
      rw [hlast]
      refine (fin w127 S2 v.last e hen' cA h1 h2 ⟨_, Nat.le_refl _, hr.last⟩ hrun').mono ?_
      rintro r w147 ⟨S', rfl, f1, f2, f3⟩
      refine ⟨_, _, _, _, _, _, _, _, _, _, _, _, _, _, rfl, ?_⟩
      exact st_done S' _ _ _ _ f1 f2 (by omega) (K := fun r w' => ThrAns v s ats N wl w r w') f3
end Go.Proofs.Ytblmoilneiffgaa
