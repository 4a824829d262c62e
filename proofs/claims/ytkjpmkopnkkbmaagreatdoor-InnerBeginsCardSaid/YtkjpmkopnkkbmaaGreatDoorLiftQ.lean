/- The lift, continued: operations that come in any order, with a log of what came behind what. -/
import Derived.Test.YtkjpmkopnkkbmaaGreatDoorLiftP
import Derived.Deep.RegionHeld3
namespace Go.Proofs.YtkjpmkopnkkbmaaGreatDoor
open Go.RowKit

section
variable {P : Program}
structure LgOk (C : Orc P) (ops : Array Oper) (n nT : Nat) (S : World → Prop) (Z : List (Nat × List Value) → World → Prop) (l0 : Fl) (e : Nat × Bool × List Kd) (o : Oper) (d : Nat) : Prop where
  op : ops[e.1]? = some o
  lt : e.1 < nT
  guard : o.guard = none
  dst : o.dst = some d
  dn : d < n
  out : ∀ v, lkN l0 d ≠ some v
  run : ∀ lg w, S w → Z lg w → wo C l0 o w fun v w' => S w' ∧ logV e.2.1 e.2.2 e.1 lg Z v w'
theorem fitC_any : ∀ {ks : List Kd} {vs : List Value} {w w' : World}, dec (fun _ => False) ks (fitC ks) vs w → dec (fun _ => False) ks (fitC ks) vs w' := by
  intro ks
  induction ks with
  | nil => intro vs w w' h; cases vs with | nil => exact trivial | cons v vs => exact h.elim
  | cons k r ih =>
    intro vs w w' h
    cases vs with
    | nil => cases k <;> exact h.elim
    | cons v vs =>
      cases k with
      | int k =>
        cases v with
        | int k' n =>
          change (match kq k k' with | true => dec (fun _ => False) r (fitC r) vs | false => (fun _ => False)) w at h
          change (match kq k k' with | true => dec (fun _ => False) r (fitC r) vs | false => (fun _ => False)) w'
          cases hk : kq k k' with
          | true => rw [hk] at h; exact ih h
          | false => rw [hk] at h; exact h.elim
        | _ => exact h.elim
      | bool => cases v with
        | bool b => exact ih (vs := vs) h
        | _ => exact h.elim
      | str => cases v with
        | string b => exact ih (vs := vs) h
        | _ => exact h.elim
      | ptr => cases v with
        | pointer b => exact ih (vs := vs) h
        | _ => exact h.elim
      | sl => cases v with
        | slice p n c => exact ih (vs := vs) h
        | _ => exact h.elim
      | mp => cases v with
        | map b => exact ih (vs := vs) h
        | _ => exact h.elim
      | val => exact ih (vs := vs) h
      | blk => cases v with
        | pointer p =>
          match p, h with
          | some ⟨b, 0, none⟩, h => exact ih (vs := vs) h
          | some ⟨b, k + 1, none⟩, h => exact h.elim
          | some ⟨b, 0, some _⟩, h => exact h.elim
          | some ⟨b, k + 1, some _⟩, h => exact h.elim
          | none, h => exact h.elim
        | _ => exact h.elim
theorem logV_of {ag : Bool} {ks : List Kd} {i : Nat} {lg : List (Nat × List Value)} {Z : List (Nat × List Value) → World → Prop} {v : Value} {w : World} (h : logV ag ks i lg Z v w) : ∃ vs, mkA ag vs = some v ∧ dec (fun _ => False) ks (fitC ks) vs w ∧ Z (lg ++ [(i, vs)]) w := by
  unfold logV at h
  split at h
  · rename_i cs
    exact ⟨cs.toList, by simp [mkA], h⟩
  · exact h.elim
  · exact ⟨[v], rfl, h⟩
/-- It is done: its slot holds a value of its kinds, and the log has it. -/
def DoneL (a : Act) (w : World) (lg : List (Nat × List Value)) (e : Nat × Bool × List Kd) (d : Nat) : Prop := ∃ vs v, a.tmps[d]? = some v ∧ mkA e.2.1 vs = some v ∧ dec (fun _ => False) e.2.2 (fitC e.2.2) vs w ∧ (e.1, vs) ∈ lg
theorem log_run (C : Orc P) {n nT : Nat} {ops : Array Oper} {Q : Exit → Act → World → Prop} {S : World → Prop} {Z : List (Nat × List Value) → World → Prop} {l0 : Fl} {sp : List (Nat × Bool × List Kd)} {dOf : Nat × Bool × List Kd → Nat} {L0 : Array Bool} {a0 : Act} {X : Nat}
    (hsp : ∀ e ∈ sp, ∃ o, LgOk C ops n nT S Z l0 e o (dOf e)) (hu : ∀ e ∈ sp, ∀ e' ∈ sp, e.1 = e'.1 → e = e') (hd : ∀ e ∈ sp, ∀ e' ∈ sp, dOf e = dOf e' → e = e')
    (hch : okCh ops (sp.map (·.1)) L0 = true) (hpar : okPar ops (sp.map (·.1)) L0 = true)
    (hend : ∀ (a : Act) (w : World), Has n a l0 → S w → (∃ lg, Z lg w ∧ ∀ e ∈ sp, DoneL a w lg e (dOf e)) → Fr' (dsts ops.toList) a0 a → HeadInv .any ops nT (setB (sp.map (·.1)) L0) → wpAnyT P .any ops Q S nT X (setB (sp.map (·.1)) L0) a w) :
    ∀ (m : Nat) (rem : List Nat) (L : Array Bool) (a : Act) (w : World), rem.length = m → rem.Nodup → (∀ i ∈ rem, i ∈ sp.map (·.1)) → (∀ j, j < ops.size → (L.getD j true = true ↔ (j ∈ sp.map (·.1) ∧ j ∉ rem) ∨ (j ∉ sp.map (·.1) ∧ L0.getD j true = true))) → (∀ j, L0.getD j false = true → L.getD j false = true) →
      HeadInv .any ops nT L → L0.size = ops.size → (∀ i ∈ sp.map (·.1), L0.getD i true = false) → Has n a l0 → S w → (∃ lg, Z lg w ∧ ∀ e ∈ sp, e.1 ∉ rem → DoneL a w lg e (dOf e)) → Fr' (dsts ops.toList) a0 a → wpAnyT P .any ops Q S nT (m + X) L a w
  | 0, rem, L, a, w, hm, hnd, hrem, hL, hsup, inv, hs0, hun, ha, hS, hdone, hfr => by
    have hr0 : rem = [] := List.length_eq_zero_iff.1 hm
    subst hr0
    have hLe : L = setB (sp.map (·.1)) L0 := by
      apply Array.ext
      · rw [inv.size, setB_size, hs0]
      · intro j h1 h2
        have h3 := hL j (by rw [← inv.size]; exact h1)
        have h4 := setB_get (sp.map (·.1)) L0 j (by rw [setB_size] at h2; exact h2)
        have e1 : L.getD j true = L[j] := by simp [h1]
        have e2 : (setB (sp.map (·.1)) L0).getD j true = (setB (sp.map (·.1)) L0)[j] := by simp [h2]
        rw [e1] at h3; rw [e2] at h4
        rw [Bool.eq_iff_iff, h3, h4]
        constructor
        · rintro (⟨h, _⟩ | ⟨_, h⟩)
          · exact Or.inl h
          · exact Or.inr h
        · rintro (h | h)
          · exact Or.inl ⟨h, by simp⟩
          · by_cases hj : j ∈ sp.map (·.1)
            · exact Or.inl ⟨hj, by simp⟩
            · exact Or.inr ⟨hj, h⟩
    rw [Nat.zero_add]
    subst hLe
    exact hend a w ha hS (by obtain ⟨lg, h1, h2⟩ := hdone; exact ⟨lg, h1, fun e he => h2 e he (by simp)⟩) hfr inv
  | m + 1, rem, L, a, w, hm, hnd, hrem, hL, hsup, inv, hs0, hun, ha, hS, hdone, hfr => by
    obtain ⟨i0, hi0⟩ : ∃ i, i ∈ rem := by
      cases rem with
      | nil => cases hm
      | cons x r => exact ⟨x, by simp⟩
    have remF : ∀ i ∈ rem, L.getD i true = false := fun i hi => by
      obtain ⟨e, he, rfl⟩ := List.mem_map.1 (hrem i hi)
      obtain ⟨o, ho⟩ := hsp e he
      have h3 := hL e.1 ((Array.getElem?_eq_some_iff.1 ho.op).1)
      cases hc : L.getD e.1 true with
      | false => rfl
      | true =>
        rcases h3.1 hc with ⟨_, h⟩ | ⟨h, _⟩
        · exact absurd hi h
        · exact absurd (hrem _ hi) h
    obtain ⟨k0, _, hk0⟩ := par_ready (sp.map (·.1)) L0 L hch inv.size hsup ⟨i0, hrem i0 hi0, remF i0 hi0⟩
    -- only those that are left are ready
    have only : ∀ k ∈ Region.ready .any ops L, k ∈ rem := by
      intro k hk
      obtain ⟨hk1, o, ho, hall⟩ := mem_ready.1 hk
      have hklt := (Array.getElem?_eq_some_iff.1 ho).1
      have h3 := hL k hklt
      by_cases hks : k ∈ sp.map (·.1)
      · by_cases hkr : k ∈ rem
        · exact hkr
        · exact absurd (h3.2 (Or.inl ⟨hks, hkr⟩)) (by rw [hk1]; decide)
      · exfalso
        have hk0' : L0.getD k true = false := by
          cases hc : L0.getD k true with
          | false => rfl
          | true => exact absurd (h3.2 (Or.inr ⟨hks, hc⟩)) (by rw [hk1]; decide)
        have hp := List.all_eq_true.1 hpar k (List.mem_range.2 hklt)
        rw [hk0', ho] at hp
        have hmk : memB k (sp.map (·.1)) = false := by
          cases hc : memB k (sp.map (·.1)) with
          | false => rfl
          | true => exact absurd (memB_iff.1 hc) hks
        rw [hmk] at hp
        simp only [Bool.false_or, Bool.or_eq_true] at hp
        rcases hp with hp | hp
        · have hc := List.all_eq_true.1 hp i0 (hrem i0 hi0)
          have no : ∀ q oq, ops[q]? = some oq → L.getD q false = true → waitsB oq i0 = true → False := fun q oq hq hl hwt => by
            obtain ⟨e, he, hb, heq⟩ := waitsB_of hwt
            have := inv.closed q oq hq hl e he hb
            rw [heq, getD_both (remF i0 hi0)] at this; cases this
          have wof : ∀ {q r : Nat}, wOf ops q r = true → ∃ oq, ops[q]? = some oq ∧ waitsB oq r = true := fun {q r} h => by
            unfold wOf at h; split at h
            · rename_i oq hq; exact ⟨oq, hq, h⟩
            · cases h
          unfold covB at hc
          rw [Bool.or_eq_true] at hc
          rcases hc with hc | hc
          · obtain ⟨e, he, hb, heq⟩ := waitsB_of hc
            have := hall e he hb
            rw [heq, getD_both (remF i0 hi0)] at this; cases this
          · obtain ⟨q, _, hc⟩ := List.any_eq_true.1 hc
            rw [Bool.and_eq_true, Bool.or_eq_true] at hc
            obtain ⟨e, he, hb, heq⟩ := waitsB_of hc.1
            have hq := hall e he hb
            rw [heq] at hq
            rcases hc.2 with hc | hc
            · obtain ⟨oq, h1, h2⟩ := wof hc
              exact no q oq h1 hq h2
            · obtain ⟨r, _, hc⟩ := List.any_eq_true.1 hc
              rw [Bool.and_eq_true] at hc
              obtain ⟨oq, h1, h2⟩ := wof hc.1
              obtain ⟨e2, he2, hb2, heq2⟩ := waitsB_of h2
              have hr := inv.closed q oq h1 hq e2 he2 hb2
              rw [heq2] at hr
              obtain ⟨or_, h3, h4⟩ := wof hc.2
              exact no r or_ h3 hr h4
        · obtain ⟨q, hq, hp⟩ := List.any_eq_true.1 hp
          simp only [Bool.and_eq_true, Bool.not_eq_true'] at hp
          obtain ⟨⟨hq1, hq2⟩, hq3⟩ := hp
          obtain ⟨e, he, hb, heq⟩ := waitsB_of hq3
          have hqe := hall e he hb
          rw [heq] at hqe
          have hqlt := List.mem_range.1 hq
          have hqs : q ∉ sp.map (·.1) := fun h => by rw [memB_iff.2 h] at hq2; cases hq2
          have h4 := hL q hqlt
          have hqL : L.getD q true = true := by
            have hlt : q < L.size := by rw [inv.size]; exact hqlt
            simp [hlt] at hqe ⊢; exact hqe
          rcases h4.1 hqL with ⟨h, _⟩ | ⟨_, h⟩
          · exact hqs h
          · rw [hq1] at h; cases h
    have step : ∀ k ∈ Region.ready .any ops L, wpOp P ops Q k (fun a' w' => (k < nT → S w') ∧ wpAnyT P .any ops Q S nT (m + X) (L.setIfInBounds k true) a' w') a w := by
      intro k hk
      have hkr := only k hk
      obtain ⟨e, he, rfl⟩ := List.mem_map.1 (hrem k hkr)
      obtain ⟨o, ok⟩ := hsp e he
      have hw : Region.wanted o (yielded ops a.tmps) = true := by simp [Region.wanted, ok.guard]
      unfold wpOp
      simp only [ok.op, hw, if_true]
      obtain ⟨lg, hZ, hdone⟩ := hdone
      refine .inl (wp_of_does (wo_sound C (fun x v hx => ha.ov hx) (ok.run lg w hS hZ)) fun v w' h3 => ?_)
      obtain ⟨hS', hdv⟩ := h3
      obtain ⟨vs, hmk, hfit, hZ'⟩ := logV_of hdv
      refine ⟨fun _ => hS', ?_⟩
      rw [ok.dst]
      have hmem : dOf e ∈ dsts ops.toList := dsts_mem' ok.dst (List.mem_of_getElem? (i := e.1) (by simpa using ok.op))
      have hnd' : (rem.erase e.1).Nodup := hnd.erase _
      have hin : ∀ j, j ∈ rem.erase e.1 ↔ j ≠ e.1 ∧ j ∈ rem := fun j => List.Nodup.mem_erase_iff hnd
      refine log_run C hsp hu hd hch hpar hend m (rem.erase e.1) (L.setIfInBounds e.1 true) (a.put (some (dOf e)) v) w' (by rw [List.length_erase_of_mem hkr]; omega) hnd' (fun i hi => hrem i ((hin i).1 hi).2) (fun j hj => ?_) (fun j hj => getD_set_true (hsup j hj)) (inv.set hk ok.lt) hs0 hun ?_ hS' ⟨lg ++ [(e.1, vs)], hZ', fun e' he' hr' => ?_⟩ ?_
      · by_cases hje : e.1 = j
        · subst hje
          have hlt : e.1 < L.size := by rw [inv.size]; exact hj
          have : (L.setIfInBounds e.1 true).getD e.1 true = true := by simp [hlt]
          refine ⟨fun _ => Or.inl ⟨List.mem_map_of_mem he, fun h => ((hin _).1 h).1 rfl⟩, fun _ => this⟩
        · rw [getD_set_ne true hje, hL j hj]
          constructor
          · rintro (⟨h1, h2⟩ | h)
            · exact Or.inl ⟨h1, fun h => h2 ((hin _).1 h).2⟩
            · exact Or.inr h
          · rintro (⟨h1, h2⟩ | h)
            · exact Or.inl ⟨h1, fun h => h2 ((hin _).2 ⟨fun e => hje e.symm, h⟩)⟩
            · exact Or.inr h
      · refine ⟨by simpa [Act.put] using ha.size, by simpa [Act.put] using ha.defers, fun t u ht => ?_⟩
        have hne : dOf e ≠ t := fun h => by subst h; exact ok.out u ht
        rw [put_other (fun d hd' => by injection hd' with hd'; subst hd'; exact hne)]
        exact ha.get t u ht
      · by_cases hee : e' = e
        · subst hee
          refine ⟨vs, v, ?_, hmk, hfit, by simp⟩
          have : dOf e' < a.tmps.size := by rw [ha.size]; exact ok.dn
          simp [Act.put, this]
        · have hr2 : e'.1 ∉ rem := fun h => hr' ((hin _).2 ⟨fun h2 => hee (hu e' he' e he h2), h⟩)
          obtain ⟨vs', u, h1, h2, h3, h4⟩ := hdone e' he' hr2
          refine ⟨vs', u, ?_, h2, fitC_any h3, List.mem_append_left _ h4⟩
          rw [put_other (fun d hd' => by injection hd' with hd'; subst hd'; exact fun h => hee (hd e' he' e he h.symm))]
          exact h1
      · intro t ht
        rw [put_other (fun d hd' => by injection hd' with hd'; subst hd'; exact fun h => ht (h ▸ hmem))]
        exact hfr t ht
    rw [Nat.add_right_comm]
    exact ⟨fun h => (by rw [h] at hk0; cases hk0), step⟩

/-- Their values, put into a frame one by one. -/
theorem logB_of {n : Nat} {ops : Array Oper} {K : Fl → World → Prop} {dOf : Nat × Bool × List Kd → Nat} {a : Act} {w : World} {lg : List (Nat × List Value)} : ∀ (sp : List (Nat × Bool × List Kd)) (l : Fl), Has n a l → (∀ e ∈ sp, (∃ o, ops[e.1]? = some o ∧ o.dst = some (dOf e)) ∧ DoneL a w lg e (dOf e)) → logB n ops.toList w lg K sp l → ∃ l', Has n a l' ∧ K l' w
  | [], l, ha, _, h => ⟨l, ha, h⟩
  | e :: r, l, ha, hd, h => by
    obtain ⟨⟨o, ho, hdst⟩, vs, v, h1, h2, h3, h3'⟩ := hd e (by simp)
    unfold logB at h
    split at h
    · rename_i o' ho'
      have ho' : ops[e.1]? = some o' := by simpa using ho'
      rw [ho] at ho'; cases ho'
      have hF := allL_dec' h h3 h3'
      rw [h2] at hF
      obtain ⟨l', h4, h5⟩ := ha.pd hF
      have hput : a.put o.dst v = a := by
        rw [hdst]
        obtain ⟨hlt, heq⟩ := Array.getElem?_eq_some_iff.1 h1
        have : a.tmps.setIfInBounds (dOf e) v = a.tmps := by
          apply Array.ext
          · simp
          · intro j j1 j2
            by_cases hj : dOf e = j
            · subst hj; simp [heq]
            · rw [Array.getElem_setIfInBounds_ne _ hj]
        simp only [Act.put, this]
      rw [hput] at h4
      exact logB_of r l' h4 (fun e' he' => hd e' (List.mem_cons_of_mem _ he')) h5
    · exact h.elim
/-- What is asked of them, all together. -/
theorem logA_of (C : Orc P) {all : List Oper} {S : World → Prop} {Z : List (Nat × List Value) → World → Prop} {l0 : Fl} {G : Prop} : ∀ (is : List (Nat × Bool × List Kd)), logA C all S Z l0 is G →
    G ∧ ∀ e ∈ is, ∃ o, all[e.1]? = some o ∧ ∀ lg w, S w → Z lg w → wo C l0 o w fun v w' => S w' ∧ logV e.2.1 e.2.2 e.1 lg Z v w'
  | [], h => ⟨by simpa [logA] using h, fun e he => by cases he⟩
  | (i, ag, ks) :: r, h => by
    unfold logA at h
    split at h
    · rename_i o ho
      obtain ⟨h4, h6⟩ := logA_of C r h.2
      refine ⟨h4, fun e he => ?_⟩
      rcases List.mem_cons.1 he with rfl | he
      · exact ⟨o, ho, h.1⟩
      · exact h6 e he
    · exact h.elim
theorem ks_inj {sp : List (Nat × Bool × List Kd)} (h : (sp.map (·.1)).Nodup) : ∀ e ∈ sp, ∀ e' ∈ sp, e.1 = e'.1 → e = e' := by
  induction sp with
  | nil => intro e he; cases he
  | cons a r ih =>
    rw [List.map_cons, List.nodup_cons] at h
    intro x hx y hy e
    rcases List.mem_cons.1 hx with hx | hx
    · rcases List.mem_cons.1 hy with hy | hy
      · rw [hx, hy]
      · exact absurd (List.mem_map.2 ⟨y, hy, by rw [← e, hx]⟩) h.1
    · rcases List.mem_cons.1 hy with hy | hy
      · exact absurd (List.mem_map.2 ⟨x, hx, by rw [e, hy]⟩) h.1
      · exact ih h.2 x hx y hy e
end
end Go.Proofs.YtkjpmkopnkkbmaaGreatDoor
