/- The package record: its small functions, a step as it is recorded. -/
import Derived.Test.YtkjpmkopnkkbmaaGreatDoorRcV
import Derived.Test.YtkjpmkopnkkbmaaGreatDoorMaZ
import Derived.Test.YtkjpmkopnkkbmaaGreatDoorOps
import Derived.Test.YtkjpmkopnkkbmaaGreatDoorShRecord
set_option maxRecDepth 100000
namespace Go.Proofs.YtkjpmkopnkkbmaaGreatDoor
open Go.RowKit

def seC (x : SnV) : List Value := [.int .i64 x.ip, .int .i64 x.cell, .int .i64 x.arg, .int .i64 x.next]
def se0 : SnV := ⟨0, 0, 0, 0⟩
def seE : Enc SnV := ⟨T_api_Seen, 4, 32, seC, by intro x; rfl, by intro x u hu; simp [seC] at hu; rcases hu with rfl | rfl | rfl | rfl <;> rfl, by decide⟩
theorem seOk : EncOk Tryz.prog seE T_sl_api_Seen := EncOk.of (z := .agg #[.int .i64 0, .int .i64 0, .int .i64 0, .int .i64 0]) (by kernel_rfl) (by kernel_rfl) (by kernel_rfl)
theorem varSn {w : World} (x : SnV) {G : Nat → World → Prop} (k : ∀ b w', b = w.heap.size → w.heap.size + 1 ≤ w'.heap.size → Ob w' b (seC x) T_api_Seen → Chg No w w' → G b w') : ∀ (b : Nat) (w1 : World), b = w.heap.size → w1 = World.alloc w (.cells (seC se0).toArray T_api_Seen) → wrOk w1 ⟨b, 0, none⟩ 4 ∧ ∀ w2 : World, w2 = stW w1 ⟨b, 0, none⟩ 0 (seC x) → G b w2 := fun b w1 hb hw => by
  have hn := fun (w2 : World) => newOb (w2 := w2) (T := T_api_Seen) (seC se0) (seC x) rfl hb hw
  refine ⟨(hn w1).1, fun w2 hw2 => ?_⟩
  obtain ⟨o, c⟩ := (hn w2).2 hw2
  exact k b w2 hb (by have := o.lt; omega) o c
theorem rdSn {w : World} {b : Nat} {x : SnV} {T : TypeId} {G : Int → Int → Int → Int → Prop} (o : Ob w b (seC x) T) (g : G x.ip x.cell x.arg x.next) :
    ∃ n1 : Int, ∃ n2 : Int, ∃ n3 : Int, ∃ n4 : Int, w.cell? ⟨b, 0, none⟩ = some (.int .i64 n1) ∧ w.cell? ⟨b, 1, none⟩ = some (.int .i64 n2) ∧ w.cell? ⟨b, 2, none⟩ = some (.int .i64 n3) ∧ w.cell? ⟨b, 3, none⟩ = some (.int .i64 n4) ∧ G n1 n2 n3 n4 :=
  ⟨_, _, _, _, o.cell rfl, o.cell rfl, o.cell rfl, o.cell rfl, g⟩
theorem setSn {w : World} {b : Nat} {x : SnV} (x' : SnV) {k n : Nat} {vs : List Value} {G : World → Prop} (o : Ob w b (seC x) T_api_Seen) (hl : k + n ≤ 4) (hn : n = vs.length) (hc : wrL (seC x) k vs = seC x') (g : ∀ w', Ob w' b (seC x') T_api_Seen → Chg (fun j => j = b) w w' → G w') :
    wrOk w ⟨b, k, none⟩ n ∧ ∀ w' : World, w' = stW w ⟨b, k, none⟩ 0 vs → G w' := by
  subst hn
  refine ⟨o.wr (by simpa [seC] using hl), fun w' hw' => ?_⟩
  obtain ⟨o', c'⟩ := o.up (cs' := seC x') (by simpa [seC] using hl) hc hw'
  exact g w' o' c'
theorem hdSt {Q : World → Prop} {b : Nat} {S : StC} {T : TypeId} {G : Int → Int → Sl → Sl → Sl → ByteArray → ByteArray → Int → Int → Int → Prop} (h : ∀ w', Q w' → Ob w' b (stC S) T) (g : G S.ip S.handler S.stack S.back S.mem S.out S.inp S.read S.status S.code) :
    ∃ n1 : Int, ∃ n2 : Int, ∃ s3 : Sl, ∃ s4 : Sl, ∃ s5 : Sl, ∃ t6 : ByteArray, ∃ t7 : ByteArray, ∃ n8 : Int, ∃ n9 : Int, ∃ n10 : Int, held Q ⟨b, 0, none⟩ (.int .i64 n1) ∧ held Q ⟨b, 1, none⟩ (.int .i64 n2) ∧ held Q ⟨b, 2, none⟩ (s3.val) ∧ held Q ⟨b, 3, none⟩ (s4.val) ∧ held Q ⟨b, 4, none⟩ (s5.val) ∧ held Q ⟨b, 5, none⟩ (.string t6) ∧ held Q ⟨b, 6, none⟩ (.string t7) ∧ held Q ⟨b, 7, none⟩ (.int .i64 n8) ∧ held Q ⟨b, 8, none⟩ (.int .i64 n9) ∧ held Q ⟨b, 9, none⟩ (.int .i64 n10) ∧ G n1 n2 s3 s4 s5 t6 t7 n8 n9 n10 :=
  ⟨_, _, _, _, _, _, _, _, _, _, Ob.held h rfl, Ob.held h rfl, Ob.held h rfl, Ob.held h rfl, Ob.held h rfl, Ob.held h rfl, Ob.held h rfl, Ob.held h rfl, Ob.held h rfl, Ob.held h rfl, g⟩
theorem hdSn {Q : World → Prop} {b : Nat} {x : SnV} {T : TypeId} {G : Int → Int → Int → Int → Prop} (h : ∀ w', Q w' → Ob w' b (seC x) T) (g : G x.ip x.cell x.arg x.next) :
    ∃ n1 : Int, ∃ n2 : Int, ∃ n3 : Int, ∃ n4 : Int, held Q ⟨b, 0, none⟩ (.int .i64 n1) ∧ held Q ⟨b, 1, none⟩ (.int .i64 n2) ∧ held Q ⟨b, 2, none⟩ (.int .i64 n3) ∧ held Q ⟨b, 3, none⟩ (.int .i64 n4) ∧ G n1 n2 n3 n4 :=
  ⟨_, _, _, _, Ob.held h rfl, Ob.held h rfl, Ob.held h rfl, Ob.held h rfl, g⟩
theorem place_rc (a : Int) (w : World) : Calls Tryz.prog fn_record_place #[.int .i64 a] w fun e w' => e = .returned (.bool (placeB a)) ∧ w = w' := by
  refine (record_place_lift (K := fun v w' => v = .bool (placeB a) ∧ w = w') ?_).mono (by rintro e w' ⟨v, rfl, rfl, h⟩; exact ⟨rfl, h⟩)
  unfold record_place_sh placeB
  refine brB_of (fun h => ?_) (fun h => ?_)
  · have h : 0 ≤ a := by have := of_decide_eq_true h; omega
    exact ⟨by rw [decide_eq_true h]; rfl, rfl⟩
  · have h : ¬ 0 ≤ a := by have := of_decide_eq_false h; omega
    exact ⟨by rw [decide_eq_false h]; rfl, rfl⟩
theorem plain_rc (c : Int) (w : World) : Calls Tryz.prog fn_record_plain #[.int .i64 c] w fun e w' => e = .returned (.bool (plB c)) ∧ w = w' := by
  refine (record_plain_lift (K := fun v w' => v = .bool (plB c) ∧ w = w') ?_).mono (by rintro e w' ⟨v, rfl, rfl, h⟩; exact ⟨rfl, h⟩)
  unfold record_plain_sh plB
  refine brB_of (fun h => ?_) (fun h => ?_)
  · have h : 64 ≤ c := by have := of_decide_eq_true h; omega
    exact ⟨by rw [decide_eq_true h]; rfl, rfl⟩
  · have h : ¬ 64 ≤ c := by have := of_decide_eq_false h; omega
    refine (plain_any c w).mono ?_
    rintro e w' ⟨rfl, rfl⟩
    exact ⟨_, rfl, by rw [decide_eq_false h]; rfl, rfl⟩
theorem arg_rc (c : Int) (w : World) : Calls Tryz.prog fn_record_arg #[.int .i64 c] w fun e w' => e = .returned (.bool (arB c)) ∧ w = w' := by
  refine (record_arg_lift (K := fun v w' => v = .bool (arB c) ∧ w = w') ?_).mono (by rintro e w' ⟨v, rfl, rfl, h⟩; exact ⟨rfl, h⟩)
  unfold record_arg_sh arB
  refine brB_of (fun h => ?_) (fun h => ?_)
  · refine (arg_any c w).mono ?_
    rintro e w' ⟨rfl, rfl⟩
    exact ⟨_, rfl, by rw [h]; rfl, rfl⟩
  · exact ⟨by rw [h]; rfl, rfl⟩
/-- What stands in a cell; 0, if there is none. -/
def loadV (s : StV) (a : Int) : Int := if a < 0 ∨ (s.mem.length : Int) ≤ a then 0 else getI s.mem a
theorem load_rc {D : Nat → Prop} {w : World} (S : StC) {s : StV} (h : StIs D w S s) (a : Int) :
    Calls Tryz.prog fn_record_load #[.agg (stC S).toArray, .int .i64 a] w fun e w' => e = .returned (.tuple #[.int .i64 (loadV s a), .bool (decide (¬ (a < 0 ∨ (s.mem.length : Int) ≤ a)))]) ∧ Chg No w w' := by
  refine (record_load_lift (K := fun v w' => v = .tuple #[.int .i64 (loadV s a), .bool (decide (¬ (a < 0 ∨ (s.mem.length : Int) ≤ a)))] ∧ Chg No w w') ?_).mono (by rintro e w' ⟨v, rfl, rfl, h⟩; exact ⟨rfl, h⟩)
  unfold record_load_sh
  have hl := h.me.len
  refine inSt S fun b12 w13 hb12 z13 o12 c13 => ?_
  refine ⟨fun b w' => b = decide (a < 0 ∨ (s.mem.length : Int) ≤ a) ∧ w' = w13, ?_, ?_⟩
  · rintro b w15 ⟨rfl, rfl⟩
    refine brB_of (fun hb => ?_) (fun hb => ?_)
    · have hb := of_decide_eq_true hb
      exact ⟨by unfold loadV; rw [if_pos hb, decide_eq_false (fun h => h hb)], c13⟩
    · have hb := of_decide_eq_false hb
      refine ⟨S.mem, o12.cell rfl, ?_⟩
      refine (h.me.no c13).ix (i := a) (by omega) (getI_at (by omega) (by omega)) fun ad _ hcell => ?_
      have q := hcell 0 _ rfl
      rw [add0] at q
      exact ⟨_, q, by unfold loadV; rw [if_neg hb, decide_eq_true hb], c13⟩
  · refine brB_of (fun h0 => ?_) (fun h0 => ?_)
    · have h0 := of_decide_eq_true h0
      exact ⟨(decide_eq_true (Or.inl h0)).symm, rfl⟩
    · have h0 := of_decide_eq_false h0
      refine ⟨S.mem, o12.cell rfl, ?_, rfl⟩
      rw [hl]; exact decide_eq_decide.2 (by omega)
/-- What a step that is recorded leaves. -/
def NxR (w : World) (s : StV) (x : SnV) (S' : StC) (b : Bool) (w' : World) : Prop := match nextV s with
  | none => b = false
  | some (v, t) => b = true ∧ x = v ∧ StX (fun k => w.heap.size ≤ k ∧ k < w'.heap.size) w' S' t
theorem next_rc {D : Nat → Prop} {w : World} (S : StC) {s : StV} (h : StIs D w S s) (ok : MOk s) (hg : Gl w) :
    Calls Tryz.prog fn_record_next #[.agg (stC S).toArray] w fun e w' => ∃ (x : SnV) (S' : StC) (b : Bool), e = .returned (.tuple #[.agg (seC x).toArray, .agg (stC S').toArray, .bool b]) ∧ NxR w s x S' b w' ∧ Chg No w w' := by
  refine (record_next_lift (K := fun v w' => ∃ (x : SnV) (S' : StC) (b : Bool), v = .tuple #[.agg (seC x).toArray, .agg (stC S').toArray, .bool b] ∧ NxR w s x S' b w' ∧ Chg No w w') ?_).mono (by rintro e w' ⟨v, rfl, x, S', b, rfl, h⟩; exact ⟨x, S', b, rfl, h⟩)
  unfold record_next_sh
  obtain ⟨m1, m2, m3, m4, m5, m6, m7⟩ := h.nums
  refine inSt S fun b11 w12 hb11 z12 o11 c12 => ?_
  intro b13 w14 hb13 hw14
  have c14 := al hw14
  have z14 : w14.heap.size = w12.heap.size + 1 := by rw [hw14]; simp
  have o13 : Ob w14 b13 (seC se0) T_api_Seen := by rw [hw14, hb13]; exact Ob.new w12 (seC se0) T_api_Seen
  refine inSt st0 fun b15 w16 hb15 z16 o15 c16 => ?_
  have k16 := trN (trN c12 c14) c16
  have p11 := (o11.no c14).no c16
  have p13 := o13.no c16
  refine rdSt p11 ⟨S.ip, p11.cell rfl, ?_⟩
  refine (load_rc S (h.no k16) S.ip).mono ?_
  rintro e w29 ⟨rfl, c29⟩
  rw [m1]
  obtain ⟨bad, hbad⟩ : ∃ bad : Prop, bad = (s.ip < 0 ∨ (s.mem.length : Int) ≤ s.ip ∨ s.status ≠ 0 ∨ plB (getI s.mem s.ip) = false) := ⟨_, rfl⟩
  have hnone : bad → nextV s = none := fun hb => by unfold nextV; rw [hbad] at hb; rw [if_pos hb]
  refine ⟨_, _, rfl, fun b w' => (b = true → bad) ∧ (b = false → ¬ bad) ∧ Chg No w16 w', ?_, ?_⟩
  rotate_left
  · refine brB_of (fun hb => ?_) (fun hb => ?_)
    · have hb : s.ip < 0 ∨ (s.mem.length : Int) ≤ s.ip := by
        by_cases hx : s.ip < 0 ∨ (s.mem.length : Int) ≤ s.ip
        · exact hx
        · rw [decide_eq_true hx] at hb; cases hb
      have hbd : bad := by
        rw [hbad]
        rcases hb with hb | hb
        · exact Or.inl hb
        · exact Or.inr (Or.inl hb)
      exact ⟨fun _ => hbd, (fun h => by cases h), c29⟩
    have hin : ¬ (s.ip < 0 ∨ (s.mem.length : Int) ≤ s.ip) := fun hx => by
      rw [decide_eq_false (fun h => h hx)] at hb; cases hb
    have q11 := p11.no c29
    refine ⟨S.status, q11.cell rfl, brB_of (fun hs => ?_) (fun hs => ?_)⟩
    · have hs : s.status ≠ 0 := by rw [m6] at hs; simpa using hs
      exact ⟨fun _ => by rw [hbad]; exact Or.inr (Or.inr (Or.inl hs)), (fun h => by cases h), c29⟩
    have hs : s.status = 0 := by rw [m6] at hs; simpa using hs
    have hlv : loadV s s.ip = getI s.mem s.ip := by unfold loadV; rw [if_neg hin]
    rw [hlv]
    refine (plain_rc _ w29).mono ?_
    rintro e w34 ⟨rfl, rfl⟩
    refine ⟨_, rfl, fun hp => ?_, fun hp => ?_, c29⟩
    · rw [hbad]; exact Or.inr (Or.inr (Or.inr (by simpa using hp)))
    · rw [hbad]
      rintro (h1 | h1 | h1 | h1)
      · exact hin (Or.inl h1)
      · exact hin (Or.inr h1)
      · exact h1 hs
      · rw [h1] at hp; cases hp
  rintro b w36 ⟨hb1, hb2, c36⟩
  have fin : ∀ {w38 w51 : World}, Chg No w16 w38 → nextV s = none → Chg (fun j => j = b13 ∨ j = b15) w38 w51 → ∃ (x : SnV) (S' : StC) (b : Bool), Value.tuple #[.agg (seC se0).toArray, .agg (stC S).toArray, .bool false] = .tuple #[.agg (seC x).toArray, .agg (stC S').toArray, .bool b] ∧ NxR w s x S' b w51 ∧ Chg No w w51 := fun c38 hn d51 =>
    ⟨se0, S, false, rfl, by unfold NxR; rw [hn], (trN k16 c38).trans d51 (fun _ _ h => h) (fun k hk he => by have := c38.size; omega)⟩
  refine brB_of (fun hb => ?_) (fun hb => ?_)
  · have hn := hnone (hb1 hb)
    intro w38 hw38
    have c38 := trN c36 (dw hw38)
    have q11 := p11.no c38
    refine ⟨fun w' => Ob w' b11 (stC S) T_api_State, q11, hdSt (fun w' h => h) ⟨q11, ?_⟩⟩
    refine setSn se0 (p13.no c38) (by decide) rfl rfl fun w50 o50 c50 => ⟨q11.chg c50 (fun he => by omega), ?_⟩
    refine setSt S ((o15.no c38).chg c50 (fun he => by omega)) (by decide) rfl rfl fun w51 o51 c51 => ?_
    refine rdSn (o50.chg c51 (fun he => by omega)) (rdSt o51 ?_)
    exact fin c38 hn (c50.trans c51 (fun _ _ h => Or.inl h) (fun _ _ h => Or.inr h))
  have hgood := hb2 hb
  have hin : ¬ (s.ip < 0 ∨ (s.mem.length : Int) ≤ s.ip) := fun hh => hgood (by rw [hbad]; rcases hh with hh | hh; exact Or.inl hh; exact Or.inr (Or.inl hh))
  have hlv : loadV s s.ip = getI s.mem s.ip := by unfold loadV; rw [if_neg hin]
  rw [hlv]
  have q11 := p11.no c36
  have k36 := trN k16 c36
  have hm3 := ok.me
  refine ⟨S.ip, q11.cell rfl, ?_⟩
  rw [m1]
  refine varSn ⟨s.ip, getI s.mem s.ip, 0, 0⟩ fun b67 w69 hb67 z69 o67 c69 => ?_
  have k69 := trN k36 c69
  have z36 := c36.size
  obtain ⟨xa, hxa⟩ : ∃ xa, xa = (if arB (getI s.mem s.ip) = true then getI s.mem (s.ip + 1) else 0) := ⟨_, rfl⟩
  refine ⟨fun w' => Ob w' b67 (seC ⟨s.ip, getI s.mem s.ip, xa, 0⟩) T_api_Seen ∧ Chg No w36 w', ?_, ?_⟩
  rotate_left
  · refine (arg_rc _ w69).mono ?_
    rintro e w71 ⟨rfl, rfl⟩
    refine ⟨_, rfl, brB_of (fun ha => ?_) (fun ha => ?_)⟩
    · have r11 := q11.no c69
      refine rdSt r11 ⟨S.ip, r11.cell rfl, ?_⟩
      rw [wr_in (x := S.ip + 1) (by rw [m1]; omega)]
      refine (load_rc S (h.no k69) (S.ip + 1)).mono ?_
      rintro e w85 ⟨rfl, c85⟩
      rw [m1]
      refine ⟨_, _, rfl, setSn ⟨s.ip, getI s.mem s.ip, xa, 0⟩ (o67.no c85) (by decide) rfl ?_ fun w88 o88 c88 => ⟨o88, (trN c69 c85).trans c88 (fun _ _ h => h) (fun k hk he => by omega)⟩⟩
      have e1 : loadV s (s.ip + 1) = xa := by
        rw [hxa, if_pos ha]; unfold loadV
        split
        · next hx => unfold getI; rw [List.getD_eq_getElem?_getD, List.getElem?_eq_none (by omega)]; rfl
        · rfl
      rw [e1]; rfl
    · have e1 : xa = 0 := by rw [hxa, if_neg (by rw [ha]; decide)]
      rw [e1]
      exact ⟨o67, c69⟩
  rintro w89 ⟨o67, c89⟩
  have k89 := trN k36 c89
  have z89 := c89.size
  have r11 := q11.no c89
  have lt11 := q11.lt
  have lt67 := o67.lt
  refine rdSt r11 (varSt S fun b100 w102 hb100 z102 o100 c102 => setSt { S with handler := 0 } o100 (by decide) rfl rfl fun w103 o103 c103 => rdSt o103 ?_)
  have k103 : Chg No w w103 := (trN k89 c102).trans c103 (fun _ _ h => h) (fun k hk he => by have := k89.size; omega)
  have c89103 : Chg No w89 w103 := c102.trans c103 (fun _ _ h => h) (fun k hk he => by omega)
  have ok0 : MOk { s with handler := 0 } := ⟨ok.st, ok.bk, ok.me, ok.out, ok.rd, ok.inp⟩
  have h0 := h.no k103
  have hal : StIs D w103 { S with handler := 0 } { s with handler := 0 } := ⟨⟨m1, rfl, m3, m4, m5, m6, m7⟩, h0.st, h0.bk, h0.me, h0.stD, h0.bkD, h0.meD⟩
  refine (istep_any { S with handler := 0 } hal ok0 (hg.no k103)).mono ?_
  rintro e w115 ⟨S1, rfl, g1, c115⟩
  have k115 := trN k103 c115
  have u11 := (r11.no c89103).no c115
  have c16115 := trN (trN (trN c36 c89) c89103) c115
  have hst1 : S1.status = (stepV { s with handler := 0 }).status := g1.nums.2.2.2.2.2.1
  have hc0 : ¬ (s.ip < 0 ∨ (s.mem.length : Int) ≤ s.ip ∨ s.status ≠ 0 ∨ plB (getI s.mem s.ip) = false) := by rw [← hbad]; exact hgood
  refine ⟨_, _, _, _, _, _, _, _, _, _, rfl, brB_of (fun h2 => ?_) (fun h2 => ?_)⟩
  · have h2 : (stepV { s with handler := 0 }).status = 2 := by rw [← hst1]; simpa using h2
    have hn : nextV s = none := by unfold nextV; rw [if_neg hc0, if_pos h2]
    intro w126 hw126
    have c126 := trN c16115 (dw hw126)
    have v11 := p11.no c126
    refine ⟨fun w' => Ob w' b11 (stC S) T_api_State, v11, hdSt (fun w' h => h) ⟨v11, ?_⟩⟩
    refine setSn se0 (p13.no c126) (by decide) rfl rfl fun w50 o50 c50 => ⟨v11.chg c50 (fun he => by omega), ?_⟩
    refine setSt S ((o15.no c126).chg c50 (fun he => by omega)) (by decide) rfl rfl fun w51 o51 c51 => ?_
    refine rdSn (o50.chg c51 (fun he => by omega)) (rdSt o51 ?_)
    exact fin c126 hn (c50.trans c51 (fun _ _ h => Or.inl h) (fun _ _ h => Or.inr h))
  have h2 : (stepV { s with handler := 0 }).status ≠ 2 := by rw [← hst1]; simpa using h2
  refine rdSt u11 ((istep_any S (h.no k115) ok (hg.no k115)).mono ?_)
  rintro e w165 ⟨S2, rfl, g2, c165⟩
  have k165 := trN k115 c165
  have z165 := c165.size
  have hip2 : S2.ip = (stepV s).ip := g2.nums.1
  refine ⟨_, _, _, _, _, _, _, _, _, _, rfl, varSt S2 fun b176 w178 hb176 z178 o176 c178 => ⟨S2.ip, o176.cell rfl, ?_⟩⟩
  rw [hip2]
  obtain ⟨v, hv⟩ : ∃ v : SnV, v = ⟨s.ip, getI s.mem s.ip, xa, (stepV s).ip⟩ := ⟨_, rfl⟩
  have c89178 := trN (trN (trN c89103 c115) c165) c178
  have z178' := c89178.size
  refine setSn v (o67.no c89178) (by decide) rfl (by rw [hv]; rfl) fun w180 o180 c180 => ?_
  intro w181 hw181
  have c181 := dw hw181
  have t67 := o180.no c181
  have ne67 : b176 ≠ b67 := by have := (o67.no (trN (trN c89103 c115) c165)).lt; omega
  have t176 := (o176.chg c180 ne67).no c181
  have z180 := c180.size
  have z181 := c181.size
  refine ⟨fun w' => Ob w' b67 (seC v) T_api_Seen ∧ Ob w' b176 (stC S2) T_api_State, ⟨t67, t176⟩, hdSn (fun w' h => h.1) (hdSt (fun w' h => h.2) ⟨v.next, Ob.held (fun w' h => h.1) rfl, ?_⟩)⟩
  refine (place_rc _ w181).mono ?_
  rintro e w199 ⟨rfl, rfl⟩
  refine ⟨_, rfl, ⟨t67, t176⟩, ?_⟩
  have d16181 : Chg (fun j => j = b67) w16 w181 := ((trN (trN c16115 c165) c178).trans c180 (fun _ _ h => h.elim) (fun _ _ h => h)).trans c181 (fun _ _ h => h) (fun _ _ h => h.elim)
  have v13 := p13.chg d16181 (fun he => by have := p13.lt; have := c36.size; omega)
  have v15 := o15.chg d16181 (fun he => by have := o15.lt; have := c36.size; omega)
  have lt13 := p13.lt
  have zz := (trN c16115 c165).size
  have zz2 := (trN (trN (trN c89 c89103) c115) c165).size
  have lt15 := o15.lt
  refine setSn v v13 (by decide) rfl rfl fun w201 o201 c201 => ⟨⟨t67.chg c201 (fun he => by omega), t176.chg c201 (fun he => by omega)⟩, ?_⟩
  refine setSt S2 (v15.chg c201 (fun he => by omega)) (by decide) rfl rfl fun w202 o202 c202 => ?_
  refine rdSn (o201.chg c202 (fun he => by omega)) (rdSt o202 ?_)
  have d202 : Chg (fun j => (j = b67 ∨ j = b13) ∨ j = b15) w178 w202 := (((c180.trans c181 (fun _ _ h => h) (fun _ _ h => h.elim)).trans c201 (U := fun j => j = b67 ∨ j = b13) (fun _ _ h => Or.inl h) (fun _ _ h => Or.inr h))).trans c202 (fun _ _ h => Or.inl h) (fun _ _ h => Or.inr h)
  have z202 := d202.size
  have z16' := k16.size
  have z115 := c16115.size
  refine ⟨v, S2, placeB v.next, rfl, ?_, (trN k165 c178).trans d202 (fun _ _ h => h) (fun k hk he => by have := k36.size; omega)⟩
  have hnv : nextV s = if placeB (stepV s).ip = false then none else some (v, stepV s) := by
    unfold nextV; rw [if_neg hc0, if_neg h2, hv, hxa]
  have e5 : v.next = (stepV s).ip := by rw [hv]
  unfold NxR
  rw [hnv, e5]
  cases hp : placeB (stepV s).ip with
  | false => rw [if_pos rfl]
  | true =>
    rw [if_neg (by decide)]
    refine ⟨rfl, rfl, ((g2.no c178).chg d202 (fun k hk he => ?_)).wid (fun k hk => by have := k115.size; omega)⟩
    have := c16115.size
    rcases he with (he | he) | he
    · have := (o67.no (trN c89103 c115)).lt; omega
    · omega
    · omega
end Go.Proofs.YtkjpmkopnkkbmaaGreatDoor
