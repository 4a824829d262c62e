/- The lift, continued: operations that come in any order, each of which is right in every world of a class. -/
import Derived.Test.YtkjpmkopnkkbmaaGreatDoorLiftF
import Derived.Deep.RegionHeld3
namespace Go.Proofs.YtkjpmkopnkkbmaaGreatDoor
open Go.RowKit

section
variable {P : Program}
theorem dsts_mem' {o : Oper} {d : Nat} (hd : o.dst = some d) : ∀ {l : List Oper}, o ∈ l → d ∈ dsts l
  | [], h => by cases h
  | x :: r, h => by
    unfold dsts
    cases h with
    | head => rw [hd]; exact List.mem_cons_self
    | tail _ h => have := dsts_mem' hd h; split <;> simp [this]
theorem nodB_iff : ∀ {l : List Nat}, nodB l = true → l.Nodup
  | [], _ => List.nodup_nil
  | x :: r, h => by
    unfold nodB at h
    rw [Bool.and_eq_true] at h
    rw [List.nodup_cons]
    refine ⟨fun hm => ?_, nodB_iff h.2⟩
    rw [memB_iff.2 hm] at h
    cases h.1
theorem setB_size : ∀ (is : List Nat) (L : Array Bool), (setB is L).size = L.size
  | [], L => rfl
  | i :: r, L => by have := setB_size r (L.setIfInBounds i true); unfold setB at this ⊢; simpa using this
theorem setB_get : ∀ (is : List Nat) (L : Array Bool) (j : Nat), j < L.size → ((setB is L).getD j true = true ↔ j ∈ is ∨ L.getD j true = true)
  | [], L, j, _ => by simp [setB]
  | i :: r, L, j, hj => by
    have h := setB_get r (L.setIfInBounds i true) j (by simpa using hj)
    have e : setB (i :: r) L = setB r (L.setIfInBounds i true) := rfl
    rw [e, h]
    by_cases hij : i = j
    · subst hij; simp [hj]
    · rw [getD_set_ne true hij]
      simp [Ne.symm hij]
/-- One of them is ready, as long as one is left. -/
theorem par_ready {ops : Array Oper} : ∀ (is : List Nat) (L0 L : Array Bool), okCh ops is L0 = true → L.size = ops.size → (∀ j, L0.getD j false = true → L.getD j false = true) → (∃ i ∈ is, L.getD i true = false) → ∃ k, k ∈ is ∧ k ∈ Region.ready .any ops L
  | [], _, _, _, _, _, h => by obtain ⟨i, hi, _⟩ := h; cases hi
  | i :: r, L0, L, hc, hs, hsup, h => by
    simp only [okCh, Bool.and_eq_true] at hc
    have hr : i ∈ Region.ready .any ops L0 := by simpa using hc.1
    obtain ⟨_, o, ho, hall⟩ := mem_ready.1 hr
    cases hi : L.getD i true with
    | false => exact ⟨i, by simp, mem_ready.2 ⟨hi, o, ho, fun e he hb => hsup _ (hall e he hb)⟩⟩
    | true =>
      have hlt : i < L.size := by rw [hs]; exact (Array.getElem?_eq_some_iff.1 ho).1
      have hi' : L.getD i false = true := by simp [hlt] at hi ⊢; exact hi
      obtain ⟨j, hj, hjl⟩ := h
      have hj' : j ∈ r := by
        rcases List.mem_cons.1 hj with rfl | hj
        · rw [hi] at hjl; cases hjl
        · exact hj
      obtain ⟨k, h1, h2⟩ := par_ready r (L0.setIfInBounds i true) L hc.2 hs (fun q hq => by
        by_cases hiq : i = q
        · subst hiq; exact hi'
        · rw [getD_set_ne false hiq] at hq; exact hsup q hq) ⟨j, hj', hjl⟩
      exact ⟨k, List.mem_cons_of_mem _ h1, h2⟩
theorem waitsB_of {o : Oper} {i : Nat} (h : waitsB o i = true) : ∃ e ∈ o.after, Region.binds .any e = true ∧ e.on = i := by
  unfold waitsB at h
  obtain ⟨e, he, h⟩ := List.any_eq_true.1 h
  rw [Bool.and_eq_true] at h
  exact ⟨e, by simpa using he, h.1, Nat.eq_of_beq_eq_true h.2⟩
/-- What is asked of each of them. -/
structure SpOk (C : Orc P) (ops : Array Oper) (n nT : Nat) (S : World → Prop) (T : World → World → Prop) (l0 : Fl) (e : Sp) (o : Oper) (d : Nat) : Prop where
  op : ops[e.i]? = some o
  lt : e.i < nT
  guard : o.guard = none
  dst : o.dst = some d
  dn : d < n
  out : ∀ v, lkN l0 d ≠ some v
  keep : ∀ vs w w', T w w' → dec (fun _ => False) e.ks e.Φ vs w → dec (fun _ => False) e.ks e.Φ vs w'
  run : ∀ w, S w → wo C l0 o w fun v w' => S w' ∧ T w w' ∧ decA e.ag e.ks e.Φ v w'
theorem decA_of {ag : Bool} {ks : List Kd} {Φ : Cur ks (World → Prop)} {v : Value} {w : World} (h : decA ag ks Φ v w) : ∃ vs, mkA ag vs = some v ∧ dec (fun _ => False) ks Φ vs w := by
  unfold decA at h
  split at h
  · rename_i cs
    exact ⟨cs.toList, by simp [mkA], h⟩
  · exact h.elim
  · exact ⟨[v], rfl, h⟩
/-- It is done: its slot holds a value that is right. -/
def DoneE (a : Act) (w : World) (e : Sp) (d : Nat) : Prop := ∃ vs v, a.tmps[d]? = some v ∧ mkA e.ag vs = some v ∧ dec (fun _ => False) e.ks e.Φ vs w
theorem allL_dec' {F : List Value → Prop} {ks : List Kd} {I : Cur ks (World → Prop)} {vs : List Value} {w : World} (h : allL ks [] F) (hd : dec (fun _ => False) ks I vs w) : F vs := by
  have := allL_dec ks [] I vs h hd; simpa using this
theorem allL_keep {ks : List Kd} {Φ : Cur ks (World → Prop)} {T : World → World → Prop} (h : allL ks [] fun vs => ∀ w w', T w w' → dec (fun _ => False) ks Φ vs w → dec (fun _ => False) ks Φ vs w') :
    ∀ vs w w', T w w' → dec (fun _ => False) ks Φ vs w → dec (fun _ => False) ks Φ vs w' := fun _ _ _ ht hd => allL_dec' h hd _ _ ht hd
/-- Slots outside A are as they were. -/
def Fr' (A : List Nat) (a a' : Act) : Prop := ∀ t, t ∉ A → a'.tmps[t]? = a.tmps[t]?
theorem par_run (C : Orc P) {n nT : Nat} {ops : Array Oper} {Q : Exit → Act → World → Prop} {S : World → Prop} {T : World → World → Prop} {l0 : Fl} {sp : List Sp} {dOf : Sp → Nat} {L0 : Array Bool} {a0 : Act} {X : Nat}
    (hsp : ∀ e ∈ sp, ∃ o, SpOk C ops n nT S T l0 e o (dOf e)) (hu : ∀ e ∈ sp, ∀ e' ∈ sp, e.i = e'.i → e = e') (hd : ∀ e ∈ sp, ∀ e' ∈ sp, dOf e = dOf e' → e = e')
    (hch : okCh ops (sp.map (·.i)) L0 = true) (hpar : okPar ops (sp.map (·.i)) L0 = true)
    (hend : ∀ (a : Act) (w : World), Has n a l0 → S w → (∀ e ∈ sp, DoneE a w e (dOf e)) → Fr' (dsts ops.toList) a0 a → HeadInv .any ops nT (setB (sp.map (·.i)) L0) → wpAnyT P .any ops Q S nT X (setB (sp.map (·.i)) L0) a w) :
    ∀ (m : Nat) (rem : List Nat) (L : Array Bool) (a : Act) (w : World), rem.length = m → rem.Nodup → (∀ i ∈ rem, i ∈ sp.map (·.i)) → (∀ j, j < ops.size → (L.getD j true = true ↔ (j ∈ sp.map (·.i) ∧ j ∉ rem) ∨ (j ∉ sp.map (·.i) ∧ L0.getD j true = true))) → (∀ j, L0.getD j false = true → L.getD j false = true) →
      HeadInv .any ops nT L → L0.size = ops.size → (∀ i ∈ sp.map (·.i), L0.getD i true = false) → Has n a l0 → S w → (∀ e ∈ sp, e.i ∉ rem → DoneE a w e (dOf e)) → Fr' (dsts ops.toList) a0 a → wpAnyT P .any ops Q S nT (m + X) L a w
  | 0, rem, L, a, w, hm, hnd, hrem, hL, hsup, inv, hs0, hun, ha, hS, hdone, hfr => by
    have hr0 : rem = [] := List.length_eq_zero_iff.1 hm
    subst hr0
    have hLe : L = setB (sp.map (·.i)) L0 := by
      apply Array.ext
      · rw [inv.size, setB_size, hs0]
      · intro j h1 h2
        have h3 := hL j (by rw [← inv.size]; exact h1)
        have h4 := setB_get (sp.map (·.i)) L0 j (by rw [setB_size] at h2; exact h2)
        have e1 : L.getD j true = L[j] := by simp [h1]
        have e2 : (setB (sp.map (·.i)) L0).getD j true = (setB (sp.map (·.i)) L0)[j] := by simp [h2]
        rw [e1] at h3; rw [e2] at h4
        rw [Bool.eq_iff_iff, h3, h4]
        constructor
        · rintro (⟨h, _⟩ | ⟨_, h⟩)
          · exact Or.inl h
          · exact Or.inr h
        · rintro (h | h)
          · exact Or.inl ⟨h, by simp⟩
          · by_cases hj : j ∈ sp.map (·.i)
            · exact Or.inl ⟨hj, by simp⟩
            · exact Or.inr ⟨hj, h⟩
    rw [Nat.zero_add]
    subst hLe
    exact hend a w ha hS (fun e he => hdone e he (by simp)) hfr inv
  | m + 1, rem, L, a, w, hm, hnd, hrem, hL, hsup, inv, hs0, hun, ha, hS, hdone, hfr => by
    obtain ⟨i0, hi0⟩ : ∃ i, i ∈ rem := by
      cases rem with
      | nil => cases hm
      | cons x r => exact ⟨x, by simp⟩
    have remF : ∀ i ∈ rem, L.getD i true = false := fun i hi => by
      obtain ⟨e, he, rfl⟩ := List.mem_map.1 (hrem i hi)
      obtain ⟨o, ho⟩ := hsp e he
      have h3 := hL e.i ((Array.getElem?_eq_some_iff.1 ho.op).1)
      cases hc : L.getD e.i true with
      | false => rfl
      | true =>
        rcases h3.1 hc with ⟨_, h⟩ | ⟨h, _⟩
        · exact absurd hi h
        · exact absurd (hrem _ hi) h
    obtain ⟨k0, _, hk0⟩ := par_ready (sp.map (·.i)) L0 L hch inv.size hsup ⟨i0, hrem i0 hi0, remF i0 hi0⟩
    -- only those that are left are ready
    have only : ∀ k ∈ Region.ready .any ops L, k ∈ rem := by
      intro k hk
      obtain ⟨hk1, o, ho, hall⟩ := mem_ready.1 hk
      have hklt := (Array.getElem?_eq_some_iff.1 ho).1
      have h3 := hL k hklt
      by_cases hks : k ∈ sp.map (·.i)
      · by_cases hkr : k ∈ rem
        · exact hkr
        · exact absurd (h3.2 (Or.inl ⟨hks, hkr⟩)) (by rw [hk1]; decide)
      · exfalso
        have hk0' : L0.getD k true = false := by
          cases hc : L0.getD k true with
          | false => rfl
          | true => exact absurd (h3.2 (Or.inr ⟨hks, hc⟩)) (by rw [hk1]; decide)
        have hp := List.all_eq_true.1 hpar k (List.mem_range.2 hklt)
        rw [hk0', ho] at hp
        have hmk : memB k (sp.map (·.i)) = false := by
          cases hc : memB k (sp.map (·.i)) with
          | false => rfl
          | true => exact absurd (memB_iff.1 hc) hks
        rw [hmk] at hp
        simp only [Bool.false_or, Bool.or_eq_true] at hp
        rcases hp with hp | hp
        · have hc := List.all_eq_true.1 hp i0 (hrem i0 hi0)
          have no : ∀ q oq, ops[q]? = some oq → L.getD q false = true → waitsB oq i0 = true → False := fun q oq hq hl hwt => by
            obtain ⟨e, he, hb, heq⟩ := waitsB_of hwt
            have := inv.closed q oq hq hl e he hb
            rw [heq, getD_both (remF i0 hi0)] at this; cases this
          have wof : ∀ {q r : Nat}, wOf ops q r = true → ∃ oq, ops[q]? = some oq ∧ waitsB oq r = true := fun {q r} h => by
            unfold wOf at h; split at h
            · rename_i oq hq; exact ⟨oq, hq, h⟩
            · cases h
          unfold covB at hc
          rw [Bool.or_eq_true] at hc
          rcases hc with hc | hc
          · obtain ⟨e, he, hb, heq⟩ := waitsB_of hc
            have := hall e he hb
            rw [heq, getD_both (remF i0 hi0)] at this; cases this
          · obtain ⟨q, _, hc⟩ := List.any_eq_true.1 hc
            rw [Bool.and_eq_true, Bool.or_eq_true] at hc
            obtain ⟨e, he, hb, heq⟩ := waitsB_of hc.1
            have hq := hall e he hb
            rw [heq] at hq
            rcases hc.2 with hc | hc
            · obtain ⟨oq, h1, h2⟩ := wof hc
              exact no q oq h1 hq h2
            · obtain ⟨r, _, hc⟩ := List.any_eq_true.1 hc
              rw [Bool.and_eq_true] at hc
              obtain ⟨oq, h1, h2⟩ := wof hc.1
              obtain ⟨e2, he2, hb2, heq2⟩ := waitsB_of h2
              have hr := inv.closed q oq h1 hq e2 he2 hb2
              rw [heq2] at hr
              obtain ⟨or_, h3, h4⟩ := wof hc.2
              exact no r or_ h3 hr h4
        · obtain ⟨q, hq, hp⟩ := List.any_eq_true.1 hp
          simp only [Bool.and_eq_true, Bool.not_eq_true'] at hp
          obtain ⟨⟨hq1, hq2⟩, hq3⟩ := hp
          obtain ⟨e, he, hb, heq⟩ := waitsB_of hq3
          have hqe := hall e he hb
          rw [heq] at hqe
          have hqlt := List.mem_range.1 hq
          have hqs : q ∉ sp.map (·.i) := fun h => by rw [memB_iff.2 h] at hq2; cases hq2
          have h4 := hL q hqlt
          have hqL : L.getD q true = true := by
            have hlt : q < L.size := by rw [inv.size]; exact hqlt
            simp [hlt] at hqe ⊢; exact hqe
          rcases h4.1 hqL with ⟨h, _⟩ | ⟨_, h⟩
          · exact hqs h
          · rw [hq1] at h; cases h
    have step : ∀ k ∈ Region.ready .any ops L, wpOp P ops Q k (fun a' w' => (k < nT → S w') ∧ wpAnyT P .any ops Q S nT (m + X) (L.setIfInBounds k true) a' w') a w := by
      intro k hk
      have hkr := only k hk
      obtain ⟨e, he, rfl⟩ := List.mem_map.1 (hrem k hkr)
      obtain ⟨o, ok⟩ := hsp e he
      have hw : Region.wanted o (yielded ops a.tmps) = true := by simp [Region.wanted, ok.guard]
      unfold wpOp
      simp only [ok.op, hw, if_true]
      refine .inl (wp_of_does (wo_sound C (fun x v hx => ha.ov hx) (ok.run w hS)) fun v w' h3 => ?_)
      obtain ⟨hS', hT, hdv⟩ := h3
      refine ⟨fun _ => hS', ?_⟩
      rw [ok.dst]
      have hmem : dOf e ∈ dsts ops.toList := dsts_mem' ok.dst (List.mem_of_getElem? (i := e.i) (by simpa using ok.op))
      have hnd' : (rem.erase e.i).Nodup := hnd.erase _
      have hin : ∀ j, j ∈ rem.erase e.i ↔ j ≠ e.i ∧ j ∈ rem := fun j => List.Nodup.mem_erase_iff hnd
      refine par_run C hsp hu hd hch hpar hend m (rem.erase e.i) (L.setIfInBounds e.i true) (a.put (some (dOf e)) v) w' (by rw [List.length_erase_of_mem hkr]; omega) hnd' (fun i hi => hrem i ((hin i).1 hi).2) (fun j hj => ?_) (fun j hj => getD_set_true (hsup j hj)) (inv.set hk ok.lt) hs0 hun ?_ hS' (fun e' he' hr' => ?_) ?_
      · by_cases hje : e.i = j
        · subst hje
          have hlt : e.i < L.size := by rw [inv.size]; exact hj
          have : (L.setIfInBounds e.i true).getD e.i true = true := by simp [hlt]
          refine ⟨fun _ => Or.inl ⟨List.mem_map_of_mem he, fun h => ((hin _).1 h).1 rfl⟩, fun _ => this⟩
        · rw [getD_set_ne true hje, hL j hj]
          constructor
          · rintro (⟨h1, h2⟩ | h)
            · exact Or.inl ⟨h1, fun h => h2 ((hin _).1 h).2⟩
            · exact Or.inr h
          · rintro (⟨h1, h2⟩ | h)
            · exact Or.inl ⟨h1, fun h => h2 ((hin _).2 ⟨fun e => hje e.symm, h⟩)⟩
            · exact Or.inr h
      · refine ⟨by simpa [Act.put] using ha.size, by simpa [Act.put] using ha.defers, fun t u ht => ?_⟩
        have hne : dOf e ≠ t := fun h => by subst h; exact ok.out u ht
        rw [put_other (fun d hd' => by injection hd' with hd'; subst hd'; exact hne)]
        exact ha.get t u ht
      · by_cases hee : e' = e
        · subst hee
          obtain ⟨vs, h1, h2⟩ := decA_of hdv
          refine ⟨vs, v, ?_, h1, h2⟩
          have : dOf e' < a.tmps.size := by rw [ha.size]; exact ok.dn
          simp [Act.put, this]
        · have hr2 : e'.i ∉ rem := fun h => hr' ((hin _).2 ⟨fun h2 => hee (hu e' he' e he h2), h⟩)
          obtain ⟨vs, u, h1, h2, h3⟩ := hdone e' he' hr2
          obtain ⟨o', ok'⟩ := hsp e' he'
          refine ⟨vs, u, ?_, h2, ok'.keep vs w w' hT h3⟩
          rw [put_other (fun d hd' => by injection hd' with hd'; subst hd'; exact fun h => hee (hd e' he' e he h.symm))]
          exact h1
      · intro t ht
        rw [put_other (fun d hd' => by injection hd' with hd'; subst hd'; exact fun h => ht (h ▸ hmem))]
        exact hfr t ht
    rw [Nat.add_right_comm]
    exact ⟨fun h => (by rw [h] at hk0; cases hk0), step⟩
/-- Their values, put into a frame one by one. -/
theorem parB_of {n : Nat} {ops : Array Oper} {K : Fl → World → Prop} {dOf : Sp → Nat} {a : Act} {w : World} : ∀ (sp : List Sp) (l : Fl), Has n a l → (∀ e ∈ sp, (∃ o, ops[e.i]? = some o ∧ o.dst = some (dOf e)) ∧ DoneE a w e (dOf e)) → parB n ops.toList w K sp l → ∃ l', Has n a l' ∧ K l' w
  | [], l, ha, _, h => ⟨l, ha, h⟩
  | e :: r, l, ha, hd, h => by
    obtain ⟨⟨o, ho, hdst⟩, vs, v, h1, h2, h3⟩ := hd e (by simp)
    unfold parB at h
    split at h
    · rename_i o' ho'
      have ho' : ops[e.i]? = some o' := by simpa using ho'
      rw [ho] at ho'; cases ho'
      have hF := allL_dec' h h3 h3
      rw [h2] at hF
      obtain ⟨l', h4, h5⟩ := ha.pd hF
      have hput : a.put o.dst v = a := by
        rw [hdst]
        obtain ⟨hlt, heq⟩ := Array.getElem?_eq_some_iff.1 h1
        have : a.tmps.setIfInBounds (dOf e) v = a.tmps := by
          apply Array.ext
          · simp
          · intro j j1 j2
            by_cases hj : dOf e = j
            · subst hj; simp [heq]
            · rw [Array.getElem_setIfInBounds_ne _ hj]
        simp only [Act.put, this]
      rw [hput] at h4
      exact parB_of r l' h4 (fun e' he' => hd e' (List.mem_cons_of_mem _ he')) h5
    · exact h.elim
/-- What is asked of them, all together. -/
theorem parA_of (C : Orc P) {all : List Oper} {S : World → Prop} {T : World → World → Prop} {l0 : Fl} {G : List Sp → Prop} : ∀ (is : List (Nat × Bool × List Kd)) (acc : List Sp), parA C all S T l0 is acc G →
    ∃ sp, G (acc ++ sp) ∧ sp.map (·.i) = is.map (·.1) ∧ ∀ e ∈ sp, ∃ o, all[e.i]? = some o ∧ (∀ vs w w', T w w' → dec (fun _ => False) e.ks e.Φ vs w → dec (fun _ => False) e.ks e.Φ vs w') ∧ ∀ w, S w → wo C l0 o w fun v w' => S w' ∧ T w w' ∧ decA e.ag e.ks e.Φ v w'
  | [], acc, h => ⟨[], by simpa [parA] using h, rfl, fun e he => by cases he⟩
  | (i, ag, ks) :: r, acc, h => by
    unfold parA at h
    split at h
    · rename_i o ho
      obtain ⟨Φ, h1, h2, h3⟩ := h
      obtain ⟨sp, h4, h5, h6⟩ := parA_of C r _ h3
      refine ⟨⟨i, ag, ks, Φ⟩ :: sp, by simpa using h4, by simp [h5], fun e he => ?_⟩
      rcases List.mem_cons.1 he with rfl | he
      · exact ⟨o, ho, allL_keep h1, h2⟩
      · exact h6 e he
    · exact h.elim
theorem parOk_of {n : Nat} {all : List Oper} : ∀ {is : List Nat}, parOk n all is = true → ∀ i ∈ is, ∃ o d, all[i]? = some o ∧ o.guard = none ∧ o.dst = some d ∧ d < n
  | [], _, i, h => by cases h
  | x :: r, h, i, hi => by
    unfold parOk at h
    rw [Bool.and_eq_true] at h
    rcases List.mem_cons.1 hi with rfl | hi
    · have h1 := h.1
      split at h1
      · rename_i o ho
        split at h1
        · rename_i d hg hd
          exact ⟨o, d, ho, hg, hd, by simpa [Nat.blt_eq] using h1⟩
        · cases h1
      · cases h1
    · exact parOk_of h.2 i hi
/-- The slot of one of them. -/
def dAt (all : List Oper) (i : Nat) : Nat := match all[i]? with | some o => (match o.dst with | some d => d | none => 0) | none => 0
theorem pds_map {n : Nat} {all : List Oper} : ∀ {is : List Nat}, parOk n all is = true → pds all is = is.map (dAt all)
  | [], _ => rfl
  | x :: r, h => by
    obtain ⟨o, d, ho, _, hd, _⟩ := parOk_of h x (by simp)
    unfold parOk at h
    rw [Bool.and_eq_true] at h
    have e := pds_map h.2
    unfold pds
    rw [ho]
    dsimp only
    rw [hd]
    dsimp only
    rw [e, List.map_cons]
    congr 1
    unfold dAt; rw [ho]; dsimp only; rw [hd]
theorem nodup_inj {l : List Nat} {f : Nat → Nat} (h : (l.map f).Nodup) : ∀ x ∈ l, ∀ y ∈ l, f x = f y → x = y := by
  induction l with
  | nil => intro x hx; cases hx
  | cons a r ih =>
    rw [List.map_cons, List.nodup_cons] at h
    intro x hx y hy e
    rcases List.mem_cons.1 hx with hx | hx
    · rcases List.mem_cons.1 hy with hy | hy
      · rw [hx, hy]
      · exact absurd (List.mem_map.2 ⟨y, hy, by rw [← e, hx]⟩) h.1
    · rcases List.mem_cons.1 hy with hy | hy
      · exact absurd (List.mem_map.2 ⟨x, hx, by rw [e, hy]⟩) h.1
      · exact ih h.2 x hx y hy e
theorem sp_inj {sp : List Sp} (h : (sp.map (·.i)).Nodup) : ∀ e ∈ sp, ∀ e' ∈ sp, e.i = e'.i → e = e' := by
  induction sp with
  | nil => intro e he; cases he
  | cons a r ih =>
    rw [List.map_cons, List.nodup_cons] at h
    intro x hx y hy e
    rcases List.mem_cons.1 hx with hx | hx
    · rcases List.mem_cons.1 hy with hy | hy
      · rw [hx, hy]
      · exact absurd (List.mem_map.2 ⟨y, hy, by rw [← e, hx]⟩) h.1
    · rcases List.mem_cons.1 hy with hy | hy
      · exact absurd (List.mem_map.2 ⟨x, hx, by rw [e, hy]⟩) h.1
      · exact ih h.2 x hx y hy e
end
end Go.Proofs.YtkjpmkopnkkbmaaGreatDoor
