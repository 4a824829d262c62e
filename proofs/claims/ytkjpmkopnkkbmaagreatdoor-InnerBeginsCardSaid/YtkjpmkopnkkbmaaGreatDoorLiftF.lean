/- The lift, continued: regions that draw their order. Their head: operations that leave the world alone (taken first), and others that come one by one; their tail: a chain that waits for the whole head. 'S' is what holds of the worlds of the head. -/
import Derived.Test.YtkjpmkopnkkbmaaGreatDoorLiftE
import Derived.StillTail
import Derived.OrdersHeld
namespace Go.Proofs.YtkjpmkopnkkbmaaGreatDoor
open Go.RowKit

section
variable {P : Program} {ops : Array Oper} {Q : Exit → Act → World → Prop} {md : Region.Mode} {S : World → Prop}
/-- Whatever order is picked from here on, and S holds behind every operation of the head. -/
def wpAnyT (P : Program) (md : Region.Mode) (ops : Array Oper) (Q : Exit → Act → World → Prop) (S : World → Prop) (n : Nat) : Nat → Array Bool → Act → World → Prop
  | 0, listed, a, w => Region.ready md ops listed = [] ∧ Q .normal a w
  | fuel + 1, listed, a, w =>
    (Region.ready md ops listed = [] → Q .normal a w) ∧
    ∀ i ∈ Region.ready md ops listed, wpOp P ops Q i (fun a' w' => (i < n → S w') ∧ wpAnyT P md ops Q S n fuel (listed.setIfInBounds i true) a' w') a w
theorem wpAny_of_T {n : Nat} : ∀ (fuel : Nat) (listed : Array Bool) (a : Act) (w : World), wpAnyT P md ops Q S n fuel listed a w → wpAny P md ops Q fuel listed a w
  | 0, _, _, _, h => h
  | fuel + 1, _, _, _, h => ⟨h.1, fun i hi => wpOp_mono (fun a' w' h' => wpAny_of_T fuel _ a' w' h'.2) (h.2 i hi)⟩

/-- An operation of the head may be taken first, if it yields in every world of S and all others are apart from it, or wait for it. -/
theorem wpAnyT_first {n i : Nat} {oi : Oper} {v : Value} (hi : ops[i]? = some oi) (hin : i < n) (hsel : ∀ (j : Nat) (o : Oper) cs b, ops[j]? = some o → o.op ≠ .select cs b)
    (hQ : ∀ c a w, Q (.panic c) (a.put oi.dst v) w → Q (.panic c) a w)
    (tw : ∀ listed, HeadInv md ops n listed → listed.getD i true = false → ∀ t, n ≤ t → t ∉ Region.ready md ops listed) :
    ∀ (fuel : Nat) (listed : Array Bool) (a : Act) (w : World), HeadInv md ops n listed →
      (∀ j oj, ops[j]? = some oj → j ≠ i → listed.getD j true = false → (∀ e ∈ oj.after, Region.binds md e = true → e.on ≠ i) → oi.apart ops oj = true) →
      i ∈ Region.ready md ops listed → YieldsIf P ops S oi v a → S w →
      wpAnyT P md ops Q S n fuel (listed.setIfInBounds i true) (a.put oi.dst v) w → wpAnyT P md ops Q S n (fuel + 1) listed a w := by
  intro fuel
  induction fuel with
  | zero =>
    intro listed a w _ _ hr hy hS H
    refine ⟨fun h => (by rw [h] at hr; cases hr), fun j hj => ?_⟩
    by_cases hji : j = i
    · subst hji; exact hy.wpOp hi hS ⟨fun _ => hS, H⟩
    · have := ready_mono hj hji
      rw [H.1] at this
      cases this
  | succ fuel ih =>
    intro listed a w inv hfree hr hy hS H
    refine ⟨fun h => (by rw [h] at hr; cases hr), fun j hj => ?_⟩
    by_cases hji : j = i
    · subst hji; exact hy.wpOp hi hS ⟨fun _ => hS, H⟩
    · have hun := (mem_ready.1 hr).1
      have hjn : j < n := by
        rcases Nat.lt_or_ge j n with h | h
        · exact h
        · exact absurd hj (tw listed inv hun j h)
      have h1 := H.2 j (ready_mono hj hji)
      obtain ⟨hjun, oj, hoj, hall⟩ := mem_ready.1 hj
      have hnot : ∀ e ∈ oj.after, Region.binds md e = true → e.on ≠ i := fun e he hb heq => by
        have h1 := hall e he hb
        rw [heq, getD_both hun] at h1
        cases h1
      have h2 := wpOp_putIf hoj (hfree j oj hoj hji hjun hnot) (fun cs b => hsel i oi cs b hi) (fun cs b => hsel j oj cs b hoj) hQ hy h1
      have hfree' : ∀ k ok, ops[k]? = some ok → k ≠ i → (listed.setIfInBounds j true).getD k true = false →
          (∀ e ∈ ok.after, Region.binds md e = true → e.on ≠ i) → oi.apart ops ok = true := fun k ok hk hki hun hno => by
        refine hfree k ok hk hki ?_ hno
        by_cases hjk : j = k
        · subst hjk; exact hjun
        · rw [getD_set_ne true hjk] at hun; exact hun
      refine wpOp_mono (fun a' w' h3 => ⟨h3.2.1, ih (listed.setIfInBounds j true) a' w' (inv.set hj hjn) hfree' (ready_mono hr (Ne.symm hji)) h3.1 (h3.2.1 hjn) ?_⟩) h2
      rw [Array.setIfInBounds_comm _ _ hji]
      exact h3.2.2
/-- The tail: a chain. -/
theorem wpAnyT_seq {n : Nat} : ∀ (l : List Oper) (k : Nat) (listed : Array Bool) (a : Act) (w : World), n ≤ k → (∀ j, l[j]? = ops[k + j]?) →
    Region.seqB md ops l.length k listed = true → wpList P ops Q l a w → wpAnyT P md ops Q S n l.length listed a w
  | [], _, _, _, _, _, _, hB, h => ⟨by simpa [Region.seqB] using hB, h⟩
  | o :: l, k, listed, a, w, hk, hl, hB, h => by
    have h0 : ops[k]? = some o := by simpa using (hl 0).symm
    simp only [List.length_cons, Region.seqB, Bool.and_eq_true, decide_eq_true_eq] at hB
    refine ⟨fun h1 => (by rw [hB.1] at h1; cases h1), fun i hi => ?_⟩
    rw [hB.1] at hi
    have hik : i = k := by simpa using hi
    subst hik
    have hw : wpOp P ops Q i (wpList P ops Q l) a w := by unfold wpOp; simp only [h0]; exact h
    exact wpOp_mono (fun a' w' h' => ⟨fun h => absurd hk (by omega), wpAnyT_seq l (i + 1) _ a' w' (by omega) (fun j => by have := hl (j + 1); simpa [Nat.add_assoc, Nat.add_comm 1 j] using this) hB.2 h'⟩) hw
end

/-! ### The order of a head -/
inductive Od where
  | done
  | st (i : Nat) (r : Od)
  | ef (i : Nat) (r : Od)
  | two (i : Nat) (a : Od) (j : Nat) (b : Od)
  | par (is : List (Nat × Bool × List Kd)) (r : Od)
  | log (is : List (Nat × Bool × List Kd)) (r : Od)
def Od.len : Od → Nat
  | .done => 0
  | .st _ r => r.len + 1
  | .ef _ r => r.len + 1
  | .two _ a _ _ => a.len + 1
  | .par is r => is.length + r.len
  | .log is r => is.length + r.len
/-- One behind the other they may be taken. -/
def okCh (ops : Array Oper) : List Nat → Array Bool → Bool
  | [], _ => true
  | i :: r, listed => (Region.ready .any ops listed).contains i && okCh ops r (listed.setIfInBounds i true)
/-- It waits for that one. -/
def waitsB (o : Oper) (i : Nat) : Bool := o.after.toList.any fun e => Region.binds .any e && Nat.beq e.on i
def wOf (ops : Array Oper) (q i : Nat) : Bool := match ops[q]? with | some o => waitsB o i | none => false
/-- It waits for that one, itself or by others of these. -/
def covB (ops : Array Oper) (is : List Nat) (o : Oper) (i : Nat) : Bool := waitsB o i || is.any fun q => waitsB o q && (wOf ops q i || is.any fun r => wOf ops q r && wOf ops r i)
/-- Nothing else is ready while any of these is not done: each other one waits for all of them, or for another one that is not done. -/
def okPar (ops : Array Oper) (is : List Nat) (listed : Array Bool) : Bool :=
  (List.range ops.size).all fun j => listed.getD j true || memB j is || (match ops[j]? with
    | some o => is.all (covB ops is o) || (List.range ops.size).any fun q => !listed.getD q true && !memB q is && waitsB o q
    | none => false)
def setB (is : List Nat) (listed : Array Bool) : Array Bool := is.foldl (fun l i => l.setIfInBounds i true) listed
def nodB : List Nat → Bool
  | [] => true
  | x :: r => (match memB x r with | true => false | false => true) && nodB r
/-- What is checked of it. -/
def okOd (ops : Array Oper) (n : Nat) : Od → Array Bool → Bool
  | .done, listed => Region.seqB .any ops (ops.size - n) n listed
  | .st i r, listed => Nat.blt i n && (match ops[i]? with | some o => stb o.op | none => false) && (Region.ready .any ops listed).contains i && Region.free .any ops listed i && okOd ops n r (listed.setIfInBounds i true)
  | .ef i r, listed => Nat.blt i n && decide (Region.ready .any ops listed = [i]) && okOd ops n r (listed.setIfInBounds i true)
  | .two i a j b, listed => Nat.blt i n && Nat.blt j n && decide (Region.ready .any ops listed = [i, j]) && Nat.beq a.len b.len && okOd ops n a (listed.setIfInBounds i true) && okOd ops n b (listed.setIfInBounds j true)
  | .par is r, listed => (is.map (·.1)).all (fun i => Nat.blt i n) && (nodB (is.map (·.1)) && (okCh ops (is.map (·.1)) listed && (okPar ops (is.map (·.1)) listed && okOd ops n r (setB (is.map (·.1)) listed))))
  | .log is r, listed => (is.map (·.1)).all (fun i => Nat.blt i n) && (nodB (is.map (·.1)) && (okCh ops (is.map (·.1)) listed && (okPar ops (is.map (·.1)) listed && okOd ops n r (setB (is.map (·.1)) listed))))
def okDr (ops : Array Oper) (n : Nat) (od : Od) : Bool :=
  Region.noSelect ops && (Nat.beq n ops.size || (decide (n < ops.size) && Region.sinkB .any ops n && Region.chainB .any ops n)) && Nat.beq od.len n && okOd ops n od (Array.replicate ops.size false)
/-- One operation of a region, with its guard. -/
def wg (all : List Oper) (n : Nat) (o : Oper) (l : Fl) (E : Fl → (Value → Prop) → Prop) (G : Fl → Prop) : Prop :=
  match o.guard with
  | none => E l fun v => pd n l o.dst v G
  | some (j, want) =>
    match gv all l j with
    | some (t, b) =>
      brB b
        (match want with
         | true => E ((t, .bool true) :: l) fun v => pd n ((t, .bool true) :: l) o.dst v G
         | false => pd n ((t, .bool true) :: l) o.dst undef G)
        (match want with
         | false => E ((t, .bool false) :: l) fun v => pd n ((t, .bool false) :: l) o.dst v G
         | true => pd n ((t, .bool false) :: l) o.dst undef G)
    | none => match gu all l j with | true => pd n l o.dst undef G | false => False
def wge (all : List Oper) (n : Nat) (o : Oper) (l : Fl) (w : World) (E : Fl → (Value → World → Prop) → Prop) (G : Fl → World → Prop) : Prop :=
  match o.guard with
  | none => E l fun v w' => pd n l o.dst v fun l' => G l' w'
  | some (j, want) =>
    match gv all l j with
    | some (t, b) =>
      brB b
        (match want with
         | true => E ((t, .bool true) :: l) fun v w' => pd n ((t, .bool true) :: l) o.dst v fun l' => G l' w'
         | false => pd n ((t, .bool true) :: l) o.dst undef fun l' => G l' w)
        (match want with
         | false => E ((t, .bool false) :: l) fun v w' => pd n ((t, .bool false) :: l) o.dst v fun l' => G l' w'
         | true => pd n ((t, .bool false) :: l) o.dst undef fun l' => G l' w)
    | none => match gu all l j with | true => pd n l o.dst undef fun l' => G l' w | false => False
/-! ### Operations that come in any order -/
/-- A value of these cells. -/
def mkA (ag : Bool) (vs : List Value) : Option Value :=
  match ag, vs with
  | true, vs => some (.agg vs.toArray)
  | false, [v] => some v
  | _, _ => none
def decA (ag : Bool) (ks : List Kd) (Φ : Cur ks (World → Prop)) (v : Value) (w : World) : Prop :=
  match ag, v with
  | true, .agg cs => dec (fun _ => False) ks Φ cs.toList w
  | true, _ => False
  | false, v => dec (fun _ => False) ks Φ [v] w
structure Sp where
  i : Nat
  ag : Bool
  ks : List Kd
  Φ : Cur ks (World → Prop)
/-- The slots that they fill. -/
def pds (all : List Oper) : List Nat → List Nat
  | [] => []
  | i :: r => match all[i]? with
    | some o => match o.dst with | some d => d :: pds all r | none => pds all r
    | none => pds all r
def parOk (n : Nat) (all : List Oper) : List Nat → Bool
  | [] => true
  | i :: r => (match all[i]? with
    | some o => (match o.guard, o.dst with | none, some d => Nat.blt d n | _, _ => false)
    | none => false) && parOk n all r
def parA {P : Program} (C : Orc P) (all : List Oper) (S : World → Prop) (T : World → World → Prop) (l0 : Fl) : List (Nat × Bool × List Kd) → List Sp → (List Sp → Prop) → Prop
  | [], acc, G => G acc
  | (i, ag, ks) :: r, acc, G => match all[i]? with
    | some o => ∃ Φ : Cur ks (World → Prop), (allL ks [] fun vs => ∀ w w', T w w' → dec (fun _ => False) ks Φ vs w → dec (fun _ => False) ks Φ vs w') ∧ (∀ w, S w → wo C l0 o w fun v w' => S w' ∧ T w w' ∧ decA ag ks Φ v w') ∧ parA C all S T l0 r (acc ++ [⟨i, ag, ks, Φ⟩]) G
    | none => False
def parB (n : Nat) (all : List Oper) (w : World) (K : Fl → World → Prop) : List Sp → Fl → Prop
  | [], l => K l w
  | s :: r, l => match all[s.i]? with
    | some o => allL s.ks [] fun vs => dec (fun _ => False) s.ks s.Φ vs w → (match mkA s.ag vs with | some v => pd n l o.dst v fun l' => parB n all w K r l' | none => False)
    | none => False
/-- Values of these kinds. -/
def fitC : (ks : List Kd) → Cur ks (World → Prop)
  | [] => fun _ => True
  | .int _ :: r => fun _ => fitC r
  | .bool :: r => fun _ => fitC r
  | .str :: r => fun _ => fitC r
  | .ptr :: r => fun _ => fitC r
  | .sl :: r => fun _ => fitC r
  | .mp :: r => fun _ => fitC r
  | .val :: r => fun _ => fitC r
  | .blk :: r => fun _ => fitC r
def logV (ag : Bool) (ks : List Kd) (i : Nat) (lg : List (Nat × List Value)) (Z : List (Nat × List Value) → World → Prop) (v : Value) (w : World) : Prop :=
  match ag, v with
  | true, .agg cs => dec (fun _ => False) ks (fitC ks) cs.toList w ∧ Z (lg ++ [(i, cs.toList)]) w
  | true, _ => False
  | false, v => dec (fun _ => False) ks (fitC ks) [v] w ∧ Z (lg ++ [(i, [v])]) w
/-- What is asked of operations that come in any order, when it is kept in mind what came behind what. -/
def logA {P : Program} (C : Orc P) (all : List Oper) (S : World → Prop) (Z : List (Nat × List Value) → World → Prop) (l0 : Fl) : List (Nat × Bool × List Kd) → Prop → Prop
  | [], G => G
  | (i, ag, ks) :: r, G => match all[i]? with
    | some o => (∀ lg w, S w → Z lg w → wo C l0 o w fun v w' => S w' ∧ logV ag ks i lg Z v w') ∧ logA C all S Z l0 r G
    | none => False
def logB (n : Nat) (all : List Oper) (w : World) (lg : List (Nat × List Value)) (K : Fl → World → Prop) : List (Nat × Bool × List Kd) → Fl → Prop
  | [], l => K l w
  | (i, ag, ks) :: r, l => match all[i]? with
    | some o => allL ks [] fun vs => (i, vs) ∈ lg → (match mkA ag vs with | some v => pd n l o.dst v fun l' => logB n all w lg K r l' | none => False)
    | none => False
def wdr {P : Program} (C : Orc P) (n : Nat) (all : List Oper) (S : World → Prop) : Od → Fl → World → (Fl → World → Prop) → Prop
  | .done, l, w, K => K l w
  | .st i r, l, w, K => match all[i]? with
    | some o => wg all n o l (fun l1 F => wq C l1 o S F) fun l' => wdr C n all S r l' w K
    | none => False
  | .ef i r, l, w, K => match all[i]? with
    | some o => wge all n o l w (fun l1 F => wo C l1 o w fun v w' => S w' ∧ F v w') fun l' w' => wdr C n all S r l' w' K
    | none => False
  | .two i a j b, l, w, K =>
    (match all[i]? with
     | some o => wge all n o l w (fun l1 F => wo C l1 o w fun v w' => S w' ∧ F v w') fun l' w' => wdr C n all S a l' w' K
     | none => False) ∧
    (match all[j]? with
     | some o => wge all n o l w (fun l1 F => wo C l1 o w fun v w' => S w' ∧ F v w') fun l' w' => wdr C n all S b l' w' K
     | none => False)
  | .par is r, l, w, K => match parOk n all (is.map (·.1)) && nodB (pds all (is.map (·.1))) with
    | true => ∃ T : World → World → Prop, parA C all S T (rmA (pds all (is.map (·.1))) l) is [] fun sp => ∀ w', S w' → parB n all w' (fun l' w'' => wdr C n all S r l' w'' K) sp (rmA (pds all (is.map (·.1))) l)
    | false => False
  | .log is r, l, w, K => match parOk n all (is.map (·.1)) && nodB (pds all (is.map (·.1))) with
    | true => ∃ Z : List (Nat × List Value) → World → Prop, Z [] w ∧ logA C all S Z (rmA (pds all (is.map (·.1))) l) is (∀ lg w', S w' → Z lg w' → logB n all w' lg (fun l' w'' => wdr C n all S r l' w'' K) is (rmA (pds all (is.map (·.1))) l))
    | false => False
end Go.Proofs.YtkjpmkopnkkbmaaGreatDoor
