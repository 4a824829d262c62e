/- The lift, continued: regions that draw their order. Their head: operations that leave the world alone (taken first), and others that come one by one; their tail: a chain that waits for the whole head. 'S' is what holds of the worlds of the head. -/
import Derived.Test.YtblmoilneiffgaaLiftE
import Derived.StillTail
import Derived.OrdersHeld
namespace Go.Proofs.Ytblmoilneiffgaa
open Go.RowKit

section
variable {P : Program} {ops : Array Oper} {Q : Exit → Act → World → Prop} {md : Region.Mode} {S : World → Prop}
/-- Whatever order is picked from here on, and S holds behind every operation of the head. -/
def wpAnyT (P : Program) (md : Region.Mode) (ops : Array Oper) (Q : Exit → Act → World → Prop) (S : World → Prop) (n : Nat) : Nat → Array Bool → Act → World → Prop
  | 0, listed, a, w => Region.ready md ops listed = [] ∧ Q .normal a w
  | fuel + 1, listed, a, w =>
    (Region.ready md ops listed = [] → Q .normal a w) ∧
    ∀ i ∈ Region.ready md ops listed, wpOp P ops Q i (fun a' w' => (i < n → S w') ∧ wpAnyT P md ops Q S n fuel (listed.setIfInBounds i true) a' w') a w
theorem wpAny_of_T {n : Nat} : ∀ (fuel : Nat) (listed : Array Bool) (a : Act) (w : World), wpAnyT P md ops Q S n fuel listed a w → wpAny P md ops Q fuel listed a w
  | 0, _, _, _, h => h
  | fuel + 1, _, _, _, h => ⟨h.1, fun i hi => wpOp_mono (fun a' w' h' => wpAny_of_T fuel _ a' w' h'.2) (h.2 i hi)⟩

/-- An operation of the head may be taken first, if it yields in every world of S and all others are apart from it, or wait for it. -/
theorem wpAnyT_first {n i : Nat} {oi : Oper} {v : Value} (hi : ops[i]? = some oi) (hin : i < n) (hsel : ∀ (j : Nat) (o : Oper) cs b, ops[j]? = some o → o.op ≠ .select cs b)
    (hQ : ∀ c a w, Q (.panic c) (a.put oi.dst v) w → Q (.panic c) a w)
    (tw : ∀ listed, HeadInv md ops n listed → listed.getD i true = false → ∀ t, n ≤ t → t ∉ Region.ready md ops listed) :
    ∀ (fuel : Nat) (listed : Array Bool) (a : Act) (w : World), HeadInv md ops n listed →
      (∀ j oj, ops[j]? = some oj → j ≠ i → listed.getD j true = false → (∀ e ∈ oj.after, Region.binds md e = true → e.on ≠ i) → oi.apart ops oj = true) →
      i ∈ Region.ready md ops listed → YieldsIf P ops S oi v a → S w →
      wpAnyT P md ops Q S n fuel (listed.setIfInBounds i true) (a.put oi.dst v) w → wpAnyT P md ops Q S n (fuel + 1) listed a w := by
  intro fuel
  induction fuel with
  | zero =>
    intro listed a w _ _ hr hy hS H
    refine ⟨fun h => (by rw [h] at hr; cases hr), fun j hj => ?_⟩
    by_cases hji : j = i
    · subst hji; exact hy.wpOp hi hS ⟨fun _ => hS, H⟩
    · have := ready_mono hj hji
      rw [H.1] at this
      cases this
  | succ fuel ih =>
    intro listed a w inv hfree hr hy hS H
    refine ⟨fun h => (by rw [h] at hr; cases hr), fun j hj => ?_⟩
    by_cases hji : j = i
    · subst hji; exact hy.wpOp hi hS ⟨fun _ => hS, H⟩
    · have hun := (mem_ready.1 hr).1
      have hjn : j < n := by
        rcases Nat.lt_or_ge j n with h | h
        · exact h
        · exact absurd hj (tw listed inv hun j h)
      have h1 := H.2 j (ready_mono hj hji)
      obtain ⟨hjun, oj, hoj, hall⟩ := mem_ready.1 hj
      have hnot : ∀ e ∈ oj.after, Region.binds md e = true → e.on ≠ i := fun e he hb heq => by
        have h1 := hall e he hb
        rw [heq, getD_both hun] at h1
        cases h1
      have h2 := wpOp_putIf hoj (hfree j oj hoj hji hjun hnot) (fun cs b => hsel i oi cs b hi) (fun cs b => hsel j oj cs b hoj) hQ hy h1
      have hfree' : ∀ k ok, ops[k]? = some ok → k ≠ i → (listed.setIfInBounds j true).getD k true = false →
          (∀ e ∈ ok.after, Region.binds md e = true → e.on ≠ i) → oi.apart ops ok = true := fun k ok hk hki hun hno => by
        refine hfree k ok hk hki ?_ hno
        by_cases hjk : j = k
        · subst hjk; exact hjun
        · rw [getD_set_ne true hjk] at hun; exact hun
      refine wpOp_mono (fun a' w' h3 => ⟨h3.2.1, ih (listed.setIfInBounds j true) a' w' (inv.set hj hjn) hfree' (ready_mono hr (Ne.symm hji)) h3.1 (h3.2.1 hjn) ?_⟩) h2
      rw [Array.setIfInBounds_comm _ _ hji]
      exact h3.2.2
/-- The tail: a chain. -/
theorem wpAnyT_seq {n : Nat} : ∀ (l : List Oper) (k : Nat) (listed : Array Bool) (a : Act) (w : World), n ≤ k → (∀ j, l[j]? = ops[k + j]?) →
    Region.seqB md ops l.length k listed = true → wpList P ops Q l a w → wpAnyT P md ops Q S n l.length listed a w
  | [], _, _, _, _, _, _, hB, h => ⟨by simpa [Region.seqB] using hB, h⟩
  | o :: l, k, listed, a, w, hk, hl, hB, h => by
    have h0 : ops[k]? = some o := by simpa using (hl 0).symm
    simp only [List.length_cons, Region.seqB, Bool.and_eq_true, decide_eq_true_eq] at hB
    refine ⟨fun h1 => (by rw [hB.1] at h1; cases h1), fun i hi => ?_⟩
    rw [hB.1] at hi
    have hik : i = k := by simpa using hi
    subst hik
    have hw : wpOp P ops Q i (wpList P ops Q l) a w := by unfold wpOp; simp only [h0]; exact h
    exact wpOp_mono (fun a' w' h' => ⟨fun h => absurd hk (by omega), wpAnyT_seq l (i + 1) _ a' w' (by omega) (fun j => by have := hl (j + 1); simpa [Nat.add_assoc, Nat.add_comm 1 j] using this) hB.2 h'⟩) hw
end

/-! ### The order of a head -/
inductive Od where
  | done
  | st (i : Nat) (r : Od)
  | ef (i : Nat) (r : Od)
  | two (i : Nat) (a : Od) (j : Nat) (b : Od)
def Od.len : Od → Nat
  | .done => 0
  | .st _ r => r.len + 1
  | .ef _ r => r.len + 1
  | .two _ a _ _ => a.len + 1
/-- What is checked of it. -/
def okOd (ops : Array Oper) (n : Nat) : Od → Array Bool → Bool
  | .done, listed => Region.seqB .any ops (ops.size - n) n listed
  | .st i r, listed => Nat.blt i n && (match ops[i]? with | some o => stb o.op | none => false) && (Region.ready .any ops listed).contains i && Region.free .any ops listed i && okOd ops n r (listed.setIfInBounds i true)
  | .ef i r, listed => Nat.blt i n && decide (Region.ready .any ops listed = [i]) && okOd ops n r (listed.setIfInBounds i true)
  | .two i a j b, listed => Nat.blt i n && Nat.blt j n && decide (Region.ready .any ops listed = [i, j]) && Nat.beq a.len b.len && okOd ops n a (listed.setIfInBounds i true) && okOd ops n b (listed.setIfInBounds j true)
def okDr (ops : Array Oper) (n : Nat) (od : Od) : Bool :=
  Region.noSelect ops && (Nat.beq n ops.size || (decide (n < ops.size) && Region.sinkB .any ops n && Region.chainB .any ops n)) && Nat.beq od.len n && okOd ops n od (Array.replicate ops.size false)
/-- One operation of a region, with its guard. -/
def wg (all : List Oper) (n : Nat) (o : Oper) (l : Fl) (E : Fl → (Value → Prop) → Prop) (G : Fl → Prop) : Prop :=
  match o.guard with
  | none => E l fun v => pd n l o.dst v G
  | some (j, want) =>
    match gv all l j with
    | some (t, b) =>
      brB b
        (match want with
         | true => E ((t, .bool true) :: l) fun v => pd n ((t, .bool true) :: l) o.dst v G
         | false => pd n ((t, .bool true) :: l) o.dst undef G)
        (match want with
         | false => E ((t, .bool false) :: l) fun v => pd n ((t, .bool false) :: l) o.dst v G
         | true => pd n ((t, .bool false) :: l) o.dst undef G)
    | none => match gu all l j with | true => pd n l o.dst undef G | false => False
def wge (all : List Oper) (n : Nat) (o : Oper) (l : Fl) (w : World) (E : Fl → (Value → World → Prop) → Prop) (G : Fl → World → Prop) : Prop :=
  match o.guard with
  | none => E l fun v w' => pd n l o.dst v fun l' => G l' w'
  | some (j, want) =>
    match gv all l j with
    | some (t, b) =>
      brB b
        (match want with
         | true => E ((t, .bool true) :: l) fun v w' => pd n ((t, .bool true) :: l) o.dst v fun l' => G l' w'
         | false => pd n ((t, .bool true) :: l) o.dst undef fun l' => G l' w)
        (match want with
         | false => E ((t, .bool false) :: l) fun v w' => pd n ((t, .bool false) :: l) o.dst v fun l' => G l' w'
         | true => pd n ((t, .bool false) :: l) o.dst undef fun l' => G l' w)
    | none => match gu all l j with | true => pd n l o.dst undef fun l' => G l' w | false => False
def wdr {P : Program} (C : Orc P) (n : Nat) (all : List Oper) (S : World → Prop) : Od → Fl → World → (Fl → World → Prop) → Prop
  | .done, l, w, K => K l w
  | .st i r, l, w, K => match all[i]? with
    | some o => wg all n o l (fun l1 F => wq C l1 o S F) fun l' => wdr C n all S r l' w K
    | none => False
  | .ef i r, l, w, K => match all[i]? with
    | some o => wge all n o l w (fun l1 F => wo C l1 o w fun v w' => S w' ∧ F v w') fun l' w' => wdr C n all S r l' w' K
    | none => False
  | .two i a j b, l, w, K =>
    (match all[i]? with
     | some o => wge all n o l w (fun l1 F => wo C l1 o w fun v w' => S w' ∧ F v w') fun l' w' => wdr C n all S a l' w' K
     | none => False) ∧
    (match all[j]? with
     | some o => wge all n o l w (fun l1 F => wo C l1 o w fun v w' => S w' ∧ F v w') fun l' w' => wdr C n all S b l' w' K
     | none => False)
end Go.Proofs.Ytblmoilneiffgaa
