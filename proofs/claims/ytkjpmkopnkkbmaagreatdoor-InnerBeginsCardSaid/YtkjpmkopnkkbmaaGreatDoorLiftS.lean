/- The lift, continued: regions that draw their order, in two halves. S holds of the worlds ahead of one operation, R of all of them; what that operation waits for is looked at in worlds of S alone. -/
import Derived.Test.YtkjpmkopnkkbmaaGreatDoorLiftG
namespace Go.Proofs.YtkjpmkopnkkbmaaGreatDoor
open Go.RowKit

section
variable {P : Program} {ops : Array Oper} {Q : Exit → Act → World → Prop} {md : Region.Mode}
def half (S R : World → Prop) (k : Nat) (L : Array Bool) (w : World) : Prop := if L.getD k true = true then R w else S w
theorem half_set {S R : World → Prop} {k i : Nat} (h : i ≠ k) (L : Array Bool) : half S R k (L.setIfInBounds i true) = half S R k L := by
  funext w; unfold half; rw [getD_set_ne true h]
/-- Whatever order is picked from here on, and Z holds behind every operation of the head. -/
def wpAnyU (P : Program) (md : Region.Mode) (ops : Array Oper) (Q : Exit → Act → World → Prop) (Z : Array Bool → World → Prop) (n : Nat) : Nat → Array Bool → Act → World → Prop
  | 0, listed, a, w => Region.ready md ops listed = [] ∧ Q .normal a w
  | fuel + 1, listed, a, w =>
    (Region.ready md ops listed = [] → Q .normal a w) ∧
    ∀ i ∈ Region.ready md ops listed, wpOp P ops Q i (fun a' w' => (i < n → Z (listed.setIfInBounds i true) w') ∧ wpAnyU P md ops Q Z n fuel (listed.setIfInBounds i true) a' w') a w
theorem wpAny_of_U {Z : Array Bool → World → Prop} {n : Nat} : ∀ (fuel : Nat) (listed : Array Bool) (a : Act) (w : World), wpAnyU P md ops Q Z n fuel listed a w → wpAny P md ops Q fuel listed a w
  | 0, _, _, _, h => h
  | fuel + 1, _, _, _, h => ⟨h.1, fun i hi => wpOp_mono (fun a' w' h' => wpAny_of_U fuel _ a' w' h'.2) (h.2 i hi)⟩
theorem wpAnyU_first {Z : Array Bool → World → Prop} {Y : World → Prop} {n i : Nat} {oi : Oper} {v : Value} (hi : ops[i]? = some oi) (hin : i < n) (hsel : ∀ (j : Nat) (o : Oper) cs b, ops[j]? = some o → o.op ≠ .select cs b)
    (hQ : ∀ c a w, Q (.panic c) (a.put oi.dst v) w → Q (.panic c) a w)
    (tw : ∀ listed, HeadInv md ops n listed → listed.getD i true = false → ∀ t, n ≤ t → t ∉ Region.ready md ops listed)
    (hZ : ∀ L w, HeadInv md ops n L → L.getD i true = false → Z L w → Y w) (hZi : ∀ L, Z (L.setIfInBounds i true) = Z L) :
    ∀ (fuel : Nat) (listed : Array Bool) (a : Act) (w : World), HeadInv md ops n listed →
      (∀ j oj, ops[j]? = some oj → j ≠ i → listed.getD j true = false → (∀ e ∈ oj.after, Region.binds md e = true → e.on ≠ i) → oi.apart ops oj = true) →
      i ∈ Region.ready md ops listed → YieldsIf P ops Y oi v a → Z listed w →
      wpAnyU P md ops Q Z n fuel (listed.setIfInBounds i true) (a.put oi.dst v) w → wpAnyU P md ops Q Z n (fuel + 1) listed a w := by
  intro fuel
  induction fuel with
  | zero =>
    intro listed a w inv _ hr hy hS H
    refine ⟨fun h => (by rw [h] at hr; cases hr), fun j hj => ?_⟩
    by_cases hji : j = i
    · subst hji; exact hy.wpOp hi (hZ _ _ inv (mem_ready.1 hr).1 hS) ⟨fun _ => by rw [hZi]; exact hS, H⟩
    · have := ready_mono hj hji
      rw [H.1] at this
      cases this
  | succ fuel ih =>
    intro listed a w inv hfree hr hy hS H
    refine ⟨fun h => (by rw [h] at hr; cases hr), fun j hj => ?_⟩
    by_cases hji : j = i
    · subst hji; exact hy.wpOp hi (hZ _ _ inv (mem_ready.1 hr).1 hS) ⟨fun _ => by rw [hZi]; exact hS, H⟩
    · have hun := (mem_ready.1 hr).1
      have hjn : j < n := by
        rcases Nat.lt_or_ge j n with h | h
        · exact h
        · exact absurd hj (tw listed inv hun j h)
      have h1 := H.2 j (ready_mono hj hji)
      obtain ⟨hjun, oj, hoj, hall⟩ := mem_ready.1 hj
      have hnot : ∀ e ∈ oj.after, Region.binds md e = true → e.on ≠ i := fun e he hb heq => by
        have h1 := hall e he hb
        rw [heq, getD_both hun] at h1
        cases h1
      have h2 := wpOp_putIf hoj (hfree j oj hoj hji hjun hnot) (fun cs b => hsel i oi cs b hi) (fun cs b => hsel j oj cs b hoj) hQ hy h1
      have hfree' : ∀ k ok, ops[k]? = some ok → k ≠ i → (listed.setIfInBounds j true).getD k true = false →
          (∀ e ∈ ok.after, Region.binds md e = true → e.on ≠ i) → oi.apart ops ok = true := fun k ok hk hki hun hno => by
        refine hfree k ok hk hki ?_ hno
        by_cases hjk : j = k
        · subst hjk; exact hjun
        · rw [getD_set_ne true hjk] at hun; exact hun
      refine wpOp_mono (fun a' w' h3 => ?_) h2
      have hz : Z (listed.setIfInBounds j true) w' := by
        have := h3.2.1 hjn
        rw [Array.setIfInBounds_comm _ _ (Ne.symm hji), hZi] at this
        exact this
      refine ⟨fun _ => hz, ih (listed.setIfInBounds j true) a' w' (inv.set hj hjn) hfree' (ready_mono hr (Ne.symm hji)) h3.1 hz ?_⟩
      rw [Array.setIfInBounds_comm _ _ hji]
      exact h3.2.2
theorem wpAnyU_seq {Z : Array Bool → World → Prop} {n : Nat} : ∀ (l : List Oper) (k : Nat) (listed : Array Bool) (a : Act) (w : World), n ≤ k → (∀ j, l[j]? = ops[k + j]?) →
    Region.seqB md ops l.length k listed = true → wpList P ops Q l a w → wpAnyU P md ops Q Z n l.length listed a w
  | [], _, _, _, _, _, _, hB, h => ⟨by simpa [Region.seqB] using hB, h⟩
  | o :: l, k, listed, a, w, hk, hl, hB, h => by
    have h0 : ops[k]? = some o := by simpa using (hl 0).symm
    simp only [List.length_cons, Region.seqB, Bool.and_eq_true, decide_eq_true_eq] at hB
    refine ⟨fun h1 => (by rw [hB.1] at h1; cases h1), fun i hi => ?_⟩
    rw [hB.1] at hi
    have hik : i = k := by simpa using hi
    subst hik
    have hw : wpOp P ops Q i (wpList P ops Q l) a w := by unfold wpOp; simp only [h0]; exact h
    exact wpOp_mono (fun a' w' h' => ⟨fun h => absurd hk (by omega), wpAnyU_seq l (i + 1) _ a' w' (by omega) (fun j => by have := hl (j + 1); simpa [Nat.add_assoc, Nat.add_comm 1 j] using this) hB.2 h'⟩) hw
end
/-- That operation waits for this one. -/
def wkB (all : List Oper) (k i : Nat) : Bool := match all[k]? with | some o => waitsB o i | none => false
def wdk {P : Program} (C : Orc P) (n : Nat) (all : List Oper) (S R : World → Prop) (k : Nat) : Od → Bool → Fl → World → (Fl → World → Prop) → Prop
  | .done, _, l, w, K => K l w
  | .st i r, b, l, w, K =>
    match Nat.beq i k with
    | true => False
    | false => match all[i]? with
      | some o => wg all n o l (fun l1 F => wq C l1 o (match wkB all k i with | true => S | false => R) F) fun l' => wdk C n all S R k r b l' w K
      | none => False
  | .ef i r, b, l, w, K => match all[i]? with
    | some o => wge all n o l w (fun l1 F => wo C l1 o w fun v w' => (match b || Nat.beq i k with | true => R | false => S) w' ∧ F v w') fun l' w' => wdk C n all S R k r (b || Nat.beq i k) l' w' K
    | none => False
  | .two _ _ _ _, _, _, _, _ => False
  | .par _ _, _, _, _, _ => False
  | .log _ _, _, _, _, _ => False
section
variable {P : Program}
theorem effU_step {ops : Array Oper} {Q : Exit → Act → World → Prop} {Z : Array Bool → World → Prop} {nT fuel : Nat} {listed : Array Bool} {a : Act} {w : World} {i : Nat} (hr : i ∈ Region.ready .any ops listed)
    (hone : ∀ k ∈ Region.ready .any ops listed, wpOp P ops Q k (fun a' w' => Z (listed.setIfInBounds k true) w' ∧ wpAnyU P .any ops Q Z nT fuel (listed.setIfInBounds k true) a' w') a w) :
    wpAnyU P .any ops Q Z nT (fuel + 1) listed a w :=
  ⟨fun h => (by rw [h] at hr; cases hr), fun k hk => wpOp_mono (fun _ _ h => ⟨fun _ => h.1, h.2⟩) (hone k hk)⟩
theorem wdk_sound (C : Orc P) {n nT k : Nat} {ops : Array Oper} {Q : Exit → Act → World → Prop} {S R : World → Prop} {K : Fl → World → Prop} (hSR : ∀ w, S w → R w) (hk : k < ops.size) (hQ : ∀ c a w, ¬ Q (.panic c) a w) (hsel : Region.noSelect ops = true) (hnT : nT ≤ ops.size)
    (tw : ∀ listed i, i < nT → HeadInv .any ops nT listed → listed.getD i true = false → ∀ t, nT ≤ t → t ∉ Region.ready .any ops listed) :
    ∀ (od : Od) (listed : Array Bool) (l : Fl) (a : Act) (w : World), HeadInv .any ops nT listed → okOd ops nT od listed = true → Has n a l → half S R k listed w → wdk C n ops.toList S R k od (listed.getD k true) l w K →
      (∀ l' a' w', Has n a' l' → K l' w' → Fr (dsts ops.toList) a a' → wpList P ops Q (ops.toList.drop nT) a' w') → wpAnyU P .any ops Q (half S R k) nT (od.len + (ops.size - nT)) listed a w := by
  have toR : ∀ L w, half S R k L w → R w := fun L w h => by
    unfold half at h; split at h
    · exact h
    · exact hSR _ h
  intro od
  induction od with
  | done =>
    intro listed l a w inv hok ha hS h hK
    have h1 := hK l a w ha h (Fr.refl _ _)
    have hlen : (ops.toList.drop nT).length = ops.size - nT := by simp
    have := wpAnyU_seq (P := P) (Q := Q) (Z := half S R k) (n := nT) (md := .any) (ops := ops) (ops.toList.drop nT) nT listed a w (Nat.le_refl _) (fun j => by simp [List.getElem?_drop]) (by rw [hlen]; exact hok) h1
    rw [hlen] at this
    simpa [Od.len] using this
  | st i r ih =>
    intro listed l a w inv hok ha hS h hK
    simp only [okOd, Bool.and_eq_true] at hok
    obtain ⟨⟨⟨⟨h1, _⟩, h2⟩, h3⟩, h4⟩ := hok
    have hin : i < nT := by simpa [Nat.blt_eq] using h1
    have hr : i ∈ Region.ready .any ops listed := by simpa using h2
    unfold wdk at h
    split at h
    · exact h.elim
    · rename_i hne
      have hne : i ≠ k := fun e => by rw [e] at hne; simp at hne
      split at h
      · rename_i o ho
        have ho' : ops[i]? = some o := by simpa using ho
        obtain ⟨v, l', h5, h6, h7⟩ := wg_of C ha h
        have hmem : ∀ d, o.dst = some d → d ∈ dsts ops.toList := fun d hd => dsts_mem hd (List.mem_of_getElem? ho)
        have hrec := ih (listed.setIfInBounds i true) l' (a.put o.dst v) w (inv.set hr hin) h4 h6 (by rw [half_set hne]; exact hS) (by rw [getD_set_ne true hne]; exact h7) fun l'' a'' w'' k1 k2 k3 => hK l'' a'' w'' k1 k2 ((Fr.put hmem).trans k3)
        have := wpAnyU_first (P := P) (Q := Q) (Z := half S R k) ho' hin (Region.noSelect_spec hsel) (fun c a w hc => absurd hc (hQ c _ w)) (fun listed inv hun => tw listed i hin inv hun) (fun L w invL hun hz => by
          cases hwk : wkB ops.toList k i
          · exact toR _ _ hz
          · unfold wkB at hwk
            split at hwk
            · rename_i ok hok
              have hok' : ops[k]? = some ok := by simpa using hok
              unfold waitsB at hwk
              obtain ⟨e, he, hb⟩ := List.any_eq_true.1 hwk
              obtain ⟨hb1, hb2⟩ := Bool.and_eq_true_iff.1 hb
              have hon := Nat.eq_of_beq_eq_true hb2
              have hf : L.getD k false = false := by
                rcases hx : L.getD k false with _ | _
                · rfl
                · have := invL.closed k ok hok' hx e (by simpa using he) hb1
                  rw [hon, getD_both hun] at this; cases this
              have hkt : L.getD k true = false := getD_in (by rw [invL.size]; exact hk) hf
              unfold half at hz
              rw [hkt] at hz
              simpa using hz
            · cases hwk) (half_set hne) (r.len + (ops.size - nT)) listed a w inv (Region.free_spec ho' h3) hr h5 hS hrec
        simpa [Od.len, Nat.add_right_comm] using this
      · exact h.elim
  | ef i r ih =>
    intro listed l a w inv hok ha hS h hK
    simp only [okOd, Bool.and_eq_true, decide_eq_true_eq] at hok
    obtain ⟨⟨h1, h2⟩, h4⟩ := hok
    have hin : i < nT := by simpa [Nat.blt_eq] using h1
    have hr : i ∈ Region.ready .any ops listed := by rw [h2]; simp
    have hflag : (listed.setIfInBounds i true).getD k true = (listed.getD k true || Nat.beq i k) := by
      by_cases hik : i = k
      · subst hik
        have : (listed.setIfInBounds i true).getD i true = true := by
          have hlt : i < (listed.setIfInBounds i true).size := by simp [inv.size, hk]
          simp [Array.getD, hlt]
        rw [this]; simp
      · rw [getD_set_ne true hik]
        have : Nat.beq i k = false := by
          rcases hx : Nat.beq i k with _ | _
          · rfl
          · exact absurd (Nat.eq_of_beq_eq_true hx) hik
        rw [this]; simp
    have hhalf : ∀ w', (match (listed.getD k true || Nat.beq i k) with | true => R | false => S) w' ↔ half S R k (listed.setIfInBounds i true) w' := fun w' => by
      unfold half
      rw [hflag]
      cases (listed.getD k true || Nat.beq i k) <;> simp
    have hcur : (match (listed.getD k true || Nat.beq i k) with | true => R | false => S) w := by
      have hS' := hS
      unfold half at hS'
      rcases hx : (listed.getD k true || Nat.beq i k) with _ | _
      · have : listed.getD k true = false := by
          rcases hy : listed.getD k true with _ | _
          · rfl
          · rw [hy] at hx; simp at hx
        rw [this] at hS'
        simpa using hS'
      · exact toR _ _ hS
    unfold wdk at h
    split at h
    · rename_i o ho
      have ho' : ops[i]? = some o := by simpa using ho
      have hmem : ∀ d, o.dst = some d → d ∈ dsts ops.toList := fun d hd => dsts_mem hd (List.mem_of_getElem? ho)
      have hop := wge_of (Q := Q) C ho' ha hcur h
      have : wpAnyU P .any ops Q (half S R k) nT (r.len + (ops.size - nT) + 1) listed a w := effU_step hr fun j hj => by
        rw [h2] at hj
        have hj : j = i := by simpa using hj
        subst hj
        refine wpOp_mono (fun a' w' h5 => ?_) hop
        obtain ⟨h6, v, l', rfl, h7, h8⟩ := h5
        have h6 := (hhalf w').1 h6
        exact ⟨h6, ih _ l' _ w' (inv.set hr hin) h4 h7 h6 (by rw [hflag]; exact h8) fun l'' a'' w'' k1 k2 k3 => hK l'' a'' w'' k1 k2 ((Fr.put hmem).trans k3)⟩
      simpa [Od.len, Nat.add_right_comm] using this
    · exact h.elim
  | two i x j y ihx ihy => intro listed l a w inv hok ha hS h hK; exact h.elim
  | par is r ih => intro listed l a w inv hok ha hS h hK; exact h.elim
  | log is r ih => intro listed l a w inv hok ha hS h hK; exact h.elim
theorem wdk_region (C : Orc P) {id n nT k : Nat} {ops : Array Oper} {od : Od} {S R : World → Prop} {l : Fl} {a : Act} {w : World} {K : Fl → World → Prop} {Q : Exit → Act → World → Prop} (hm : P.follows .mixedOrders = true) (hSR : ∀ w, S w → R w) (hk : k < ops.size)
    (hok : okDr ops nT od = true) (ha : Has n a l) (h : S w.drew ∧ wdk C n ops.toList S R k od false l w.drew fun l' w' => wops C n ops.toList (ops.toList.drop nT) l' w' K) (hK : ∀ l' a' w', Has n a' l' → K l' w' → Fr (dsts ops.toList) a a' → Q .normal a' w') : (Code.region id ops true).wp P Q a w := by
  refine wp_region_noPanic ?_
  simp only [okDr, Bool.and_eq_true, Bool.or_eq_true, decide_eq_true_eq] at hok
  obtain ⟨⟨⟨hsel, hn⟩, hlen⟩, hod⟩ := hok
  have hlen := Nat.eq_of_beq_eq_true hlen
  have hnT : nT ≤ ops.size := by
    rcases hn with hn | hn
    · exact Nat.le_of_eq (Nat.eq_of_beq_eq_true hn)
    · exact Nat.le_of_lt hn.1.1
  have inv0 : HeadInv .any ops nT (Array.replicate ops.size false) :=
    ⟨by simp, fun j oj _ hl => (by rw [getD_replicate_false] at hl; cases hl), fun t _ ht => getD_in (by simpa using ht) (getD_replicate_false _ _)⟩
  have tw : ∀ (listed : Array Bool) (i : Nat), i < nT → HeadInv .any ops nT listed → listed.getD i true = false → ∀ t, nT ≤ t → t ∉ Region.ready .any ops listed := by
    intro listed i hin inv hun t ht hr
    have hlt := ready_lt hr
    rcases hn with hn | hn
    · have := Nat.eq_of_beq_eq_true hn; omega
    · exact tail_waits hn.1.2 hn.2 hn.1.1 inv _ i rfl hin hun t ht hr
  have hk0 : (Array.replicate ops.size false).getD k true = false := getD_in (by simpa using hk) (getD_replicate_false _ _)
  refine wp_region_any hm (wpAny_of_U (Z := half S R k) (n := nT) _ _ _ _ ?_)
  have := wdk_sound C (Q := NoPanic Q) hSR hk (fun c a w => by unfold NoPanic; simp) hsel hnT tw od (Array.replicate ops.size false) l a w.drew inv0 hod ha (by unfold half; rw [hk0]; simpa using h.1) (by rw [hk0]; exact h.2) fun l' a' w' k1 k2 k3 =>
    wops_sound C (ops.toList.drop nT) l' a' w' k1 k2 fun l'' a'' w'' m1 m2 m3 => by
      show Q .normal a'' w''
      exact hK l'' a'' w'' m1 m2 (k3.trans fun t ht => m3 t (dsts_drop ht))
  rw [hlen, show nT + (ops.size - nT) = ops.size by omega] at this
  exact this
end
end Go.Proofs.YtkjpmkopnkkbmaaGreatDoor
