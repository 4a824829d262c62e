/- Which traces may be, as a test that can be reckoned. No program in sight. -/
import Derived.Test.YtblmoilneiffgaaEvQ
set_option maxRecDepth 100000
namespace Go.Proofs.Ytblmoilneiffgaa
open Go.RowKit

def namedB (t : TrG) (l : List Int) (k : Nat) : Bool := l.all fun p => decide (0 ≤ p) && (decide (p < (k : Int)) && givesV (insAt t p).a)
def outB (t : TrG) (x : Int) (k : Nat) : Bool := decide (0 ≤ x) && (decide (x < (t.outs.length : Int)) && (namedB t (outAt t x).stack k && namedB t (outAt t x).back k))
def eachB (t : TrG) (k : Nat) (i : In5) : Bool :=
  decide (1 ≤ i.a) && (decide (i.a ≤ 12) && ((!decide (i.a = 4) || (Cn.risTwo i.b || Cn.risOne i.b)) && ((!decide (i.a = 2) || (decide (0 ≤ i.b) && decide (i.b ≤ t.slots - 1))) && ((!decide (i.a = 3) || (decide (0 ≤ i.b) && decide (i.b ≤ t.backs - 1))) && (namedB t (usesV i) k && (outsV i).all fun x => outB t x k)))))
def exitB (t : TrG) (o : OuV) : Bool := decide (0 ≤ o.steps) && (decide (o.steps ≤ 120) && (decide (0 ≤ o.ip) && (decide (o.ip ≤ 2999) && (decide ((o.stack.length : Int) ≤ t.slots + t.grow) && decide ((o.back.length : Int) ≤ t.backs + t.growBack)))))
def headB (t : TrG) : Bool := decide (t.ins.length ≤ 1000) && (decide (t.outs.length ≤ 300) && (decide (0 ≤ t.start) && (decide (t.start ≤ 2999) && (decide (0 ≤ t.slots) && (decide (t.slots ≤ 48) && (decide (0 ≤ t.grow) && (decide (t.grow ≤ 48) && (decide (0 ≤ t.backs) && (decide (t.backs ≤ 48) && (decide (0 ≤ t.growBack) && decide (t.growBack ≤ 48)))))))))))
def eachL (t : TrG) : Nat → List In5 → Bool
  | _, [] => true
  | k, i :: r => eachB t k i && eachL t (k + 1) r
/-- Of a trace without cells of code. -/
def rightB (t : TrG) : Bool := headB t && (eachL t 0 t.ins && (t.outs.all (exitB t) && (t.cells.isEmpty && (outB t t.last t.ins.length && decide (1 ≤ (outAt t t.last).steps)))))
theorem namedB_ok {t : TrG} {l : List Int} {k : Nat} (h : namedB t l k = true) : NamedV t l k := fun p hp => by
  have := List.all_eq_true.1 h p hp
  simpa [and_assoc] using this
theorem outB_ok {t : TrG} {x : Int} {k : Nat} (h : outB t x k = true) : OutV t x k := by
  unfold outB at h
  simp only [Bool.and_eq_true, decide_eq_true_eq] at h
  exact ⟨h.1, h.2.1, namedB_ok h.2.2.1, namedB_ok h.2.2.2⟩
theorem eachB_ok {t : TrG} {k : Nat} {i : In5} (h : eachB t k i = true) : EachV t k i := by
  unfold eachB at h
  simp only [Bool.and_eq_true, Bool.or_eq_true, Bool.not_eq_true', decide_eq_true_eq, decide_eq_false_iff_not] at h
  obtain ⟨h1, h2, h3, h4, h5, h6, h7⟩ := h
  exact ⟨⟨h1, h2⟩, fun e => h3.resolve_left (fun n => n e), fun e => h4.resolve_left (fun n => n e), fun e => h5.resolve_left (fun n => n e), namedB_ok h6, fun x hx => outB_ok (List.all_eq_true.1 h7 x hx)⟩
theorem eachL_ok {t : TrG} : ∀ (l : List In5) (k : Nat), eachL t k l = true → ∀ (j : Nat) (i : In5), l[j]? = some i → EachV t (k + j) i
  | [], k, _, j, i, h => by simp at h
  | x :: r, k, h, j, i, hi => by
    unfold eachL at h
    rw [Bool.and_eq_true] at h
    cases j with
    | zero =>
      have : x = i := by simpa using hi
      subst this; exact eachB_ok h.1
    | succ j =>
      have := eachL_ok r (k + 1) h.2 j i (by simpa using hi)
      rw [show k + (j + 1) = k + 1 + j by omega]; exact this
theorem rightB_ok {t : TrG} (h : rightB t = true) : RightV t := by
  unfold rightB at h
  simp only [Bool.and_eq_true, decide_eq_true_eq] at h
  obtain ⟨h1, h2, h3, h4, h5, h6⟩ := h
  unfold headB at h1
  simp only [Bool.and_eq_true, decide_eq_true_eq] at h1
  obtain ⟨a1, a2, a3, a4, a5, a6, a7, a8, a9, a10, a11, a12⟩ := h1
  refine ⟨⟨a1, a2, ⟨a3, a4⟩, ⟨a5, a6⟩, ⟨a7, a8⟩, ⟨a9, a10⟩, a11, a12⟩, fun k i hi => ?_, fun k o ho => ?_, fun k c hc => ?_, outB_ok h5, h6⟩
  · have := eachL_ok t.ins 0 h2 k i hi
    rw [Nat.zero_add] at this; exact this
  · have := List.all_eq_true.1 h3 o (List.mem_of_getElem? ho)
    unfold exitB at this
    simp only [Bool.and_eq_true, decide_eq_true_eq] at this
    obtain ⟨b1, b2, b3, b4, b5, b6⟩ := this
    exact ⟨⟨b1, b2⟩, ⟨b3, b4⟩, b5, b6⟩
  · rw [List.isEmpty_iff.1 h4] at hc; simp at hc
end Go.Proofs.Ytblmoilneiffgaa
