/- The lift, continued: regions that draw their order run as 'wdr' says. -/
import Derived.Test.YtkjpmkopnkkbmaaGreatDoorLiftQ
import Derived.Deep.RegionHeld3
namespace Go.Proofs.YtkjpmkopnkkbmaaGreatDoor
open Go.RowKit

section
variable {P : Program}
theorem dsts_mem {o : Oper} {d : Nat} (hd : o.dst = some d) : ∀ {l : List Oper}, o ∈ l → d ∈ dsts l
  | [], h => by cases h
  | x :: r, h => by
    unfold dsts
    cases h with
    | head => rw [hd]; exact List.mem_cons_self
    | tail _ h => have := dsts_mem hd h; split <;> simp [this]
/-- Slots outside A are as they were. -/
def Fr (A : List Nat) (a a' : Act) : Prop := ∀ t, t ∉ A → a'.tmps[t]? = a.tmps[t]?
theorem Fr.refl (A : List Nat) (a : Act) : Fr A a a := fun _ _ => rfl
theorem Fr.trans {A : List Nat} {a b c : Act} (h : Fr A a b) (k : Fr A b c) : Fr A a c := fun t ht => (k t ht).trans (h t ht)
theorem Fr.put {A : List Nat} {a : Act} {dst : Option Nat} {v : Value} (h : ∀ d, dst = some d → d ∈ A) : Fr A a (a.put dst v) := fun t ht => put_other fun d hd e => ht (e ▸ h d hd)

theorem wg_of (C : Orc P) {ops : Array Oper} {n : Nat} {o : Oper} {l : Fl} {a : Act} {S : World → Prop} {G : Fl → Prop} (ha : Has n a l) (h : wg ops.toList n o l (fun l1 F => wq C l1 o S F) G) :
    ∃ v l', YieldsIf P ops S o v a ∧ Has n (a.put o.dst v) l' ∧ G l' := by
  have exec : ∀ l1, Has n a l1 → Region.wanted o (yielded ops a.tmps) = true → wq C l1 o S (fun v => pd n l1 o.dst v G) → ∃ v l', YieldsIf P ops S o v a ∧ Has n (a.put o.dst v) l' ∧ G l' := by
    intro l1 h1 hw h2
    obtain ⟨v, h3, h4⟩ := wq_sound C (fun x v hx => h1.ov hx) h2
    obtain ⟨l', h5, h6⟩ := h1.pd h4
    exact ⟨v, l', .inl ⟨hw, h3⟩, h5, h6⟩
  have skip : ∀ l1, Has n a l1 → Region.wanted o (yielded ops a.tmps) = false → pd n l1 o.dst undef G → ∃ v l', YieldsIf P ops S o v a ∧ Has n (a.put o.dst v) l' ∧ G l' := by
    intro l1 h1 hw h2
    obtain ⟨l', h5, h6⟩ := h1.pd h2
    exact ⟨_, l', .inr ⟨hw, rfl⟩, h5, h6⟩
  unfold wg at h
  split at h
  · rename_i hg
    exact exec l ha (by simp [Region.wanted, hg]) h
  · rename_i j want hg
    split at h
    · rename_i t b hgv
      obtain ⟨hy, hl⟩ := gv_of ha hgv
      have hb := brB_iff.1 h
      cases b
      · have hb := hb.2 rfl
        cases want
        · exact exec _ (ha.know hl) (by simp [Region.wanted, hg, hy]) hb
        · exact skip _ (ha.know hl) (by simp [Region.wanted, hg, hy]) hb
      · have hb := hb.1 rfl
        cases want
        · exact skip _ (ha.know hl) (by simp [Region.wanted, hg, hy]) hb
        · exact exec _ (ha.know hl) (by simp [Region.wanted, hg, hy]) hb
    · split at h
      · rename_i hu
        exact skip l ha (by simp [Region.wanted, hg, gu_of ha hu]) h
      · exact h.elim
theorem wge_of (C : Orc P) {ops : Array Oper} {n i : Nat} {o : Oper} {l : Fl} {a : Act} {w : World} {S : World → Prop} {Q : Exit → Act → World → Prop} {G : Fl → World → Prop} (hi : ops[i]? = some o) (ha : Has n a l) (hS : S w)
    (h : wge ops.toList n o l w (fun l1 F => wo C l1 o w fun v w' => S w' ∧ F v w') G) :
    wpOp P ops Q i (fun a' w' => S w' ∧ ∃ v l', a' = a.put o.dst v ∧ Has n a' l' ∧ G l' w') a w := by
  have exec : ∀ l1, Has n a l1 → Region.wanted o (yielded ops a.tmps) = true → wo C l1 o w (fun v w' => S w' ∧ pd n l1 o.dst v fun l' => G l' w') →
      wpOp P ops Q i (fun a' w' => S w' ∧ ∃ v l', a' = a.put o.dst v ∧ Has n a' l' ∧ G l' w') a w := by
    intro l1 h1 hw h2
    unfold wpOp
    simp only [hi, hw, if_true]
    refine .inl (wp_of_does (wo_sound C (fun x v hx => h1.ov hx) h2) fun v w' h3 => ?_)
    obtain ⟨l', h5, h6⟩ := h1.pd h3.2
    exact ⟨h3.1, v, l', rfl, h5, h6⟩
  have skip : ∀ l1, Has n a l1 → Region.wanted o (yielded ops a.tmps) = false → pd n l1 o.dst undef (fun l' => G l' w) →
      wpOp P ops Q i (fun a' w' => S w' ∧ ∃ v l', a' = a.put o.dst v ∧ Has n a' l' ∧ G l' w') a w := by
    intro l1 h1 hw h2
    unfold wpOp
    simp only [hi, hw, Bool.false_eq_true, if_false]
    obtain ⟨l', h5, h6⟩ := h1.pd h2
    exact ⟨hS, _, l', rfl, h5, h6⟩
  unfold wge at h
  split at h
  · rename_i hg
    exact exec l ha (by simp [Region.wanted, hg]) h
  · rename_i j want hg
    split at h
    · rename_i t b hgv
      obtain ⟨hy, hl⟩ := gv_of ha hgv
      have hb := brB_iff.1 h
      cases b
      · have hb := hb.2 rfl
        cases want
        · exact exec _ (ha.know hl) (by simp [Region.wanted, hg, hy]) hb
        · exact skip _ (ha.know hl) (by simp [Region.wanted, hg, hy]) hb
      · have hb := hb.1 rfl
        cases want
        · exact skip _ (ha.know hl) (by simp [Region.wanted, hg, hy]) hb
        · exact exec _ (ha.know hl) (by simp [Region.wanted, hg, hy]) hb
    · split at h
      · rename_i hu
        exact skip l ha (by simp [Region.wanted, hg, gu_of ha hu]) h
      · exact h.elim

theorem ready_lt {ops : Array Oper} {md : Region.Mode} {listed : Array Bool} {t : Nat} (h : t ∈ Region.ready md ops listed) : t < ops.size := by
  obtain ⟨_, o, ho, _⟩ := mem_ready.1 h
  exact (Array.getElem?_eq_some_iff.1 ho).1
theorem eff_step {ops : Array Oper} {Q : Exit → Act → World → Prop} {S : World → Prop} {nT fuel : Nat} {listed : Array Bool} {a : Act} {w : World} {i : Nat} (hr : i ∈ Region.ready .any ops listed)
    (hone : ∀ k ∈ Region.ready .any ops listed, wpOp P ops Q k (fun a' w' => S w' ∧ wpAnyT P .any ops Q S nT fuel (listed.setIfInBounds k true) a' w') a w) :
    wpAnyT P .any ops Q S nT (fuel + 1) listed a w :=
  ⟨fun h => (by rw [h] at hr; cases hr), fun k hk => wpOp_mono (fun _ _ h => ⟨fun _ => h.1, h.2⟩) (hone k hk)⟩

theorem wdr_sound (C : Orc P) {n nT : Nat} {ops : Array Oper} {Q : Exit → Act → World → Prop} {S : World → Prop} {K : Fl → World → Prop} (hQ : ∀ c a w, ¬ Q (.panic c) a w) (hsel : Region.noSelect ops = true) (hnT : nT ≤ ops.size)
    (tw : ∀ listed i, i < nT → HeadInv .any ops nT listed → listed.getD i true = false → ∀ t, nT ≤ t → t ∉ Region.ready .any ops listed) :
    ∀ (od : Od) (listed : Array Bool) (l : Fl) (a : Act) (w : World), HeadInv .any ops nT listed → okOd ops nT od listed = true → Has n a l → S w → wdr C n ops.toList S od l w K →
      (∀ l' a' w', Has n a' l' → K l' w' → Fr (dsts ops.toList) a a' → wpList P ops Q (ops.toList.drop nT) a' w') → wpAnyT P .any ops Q S nT (od.len + (ops.size - nT)) listed a w := by
  intro od
  induction od with
  | done =>
    intro listed l a w inv hok ha hS h hK
    have h1 := hK l a w ha h (Fr.refl _ _)
    have hlen : (ops.toList.drop nT).length = ops.size - nT := by simp
    have := wpAnyT_seq (P := P) (Q := Q) (S := S) (n := nT) (md := .any) (ops := ops) (ops.toList.drop nT) nT listed a w (Nat.le_refl _) (fun j => by simp [List.getElem?_drop]) (by rw [hlen]; exact hok) h1
    rw [hlen] at this
    simpa [Od.len] using this
  | st i r ih =>
    intro listed l a w inv hok ha hS h hK
    simp only [okOd, Bool.and_eq_true] at hok
    obtain ⟨⟨⟨⟨h1, _⟩, h2⟩, h3⟩, h4⟩ := hok
    have hin : i < nT := by simpa [Nat.blt_eq] using h1
    have hr : i ∈ Region.ready .any ops listed := by simpa using h2
    unfold wdr at h
    split at h
    · rename_i o ho
      have ho' : ops[i]? = some o := by simpa using ho
      obtain ⟨v, l', h5, h6, h7⟩ := wg_of C ha h
      have hmem : ∀ d, o.dst = some d → d ∈ dsts ops.toList := fun d hd => dsts_mem hd (List.mem_of_getElem? ho)
      have hrec := ih (listed.setIfInBounds i true) l' (a.put o.dst v) w (inv.set hr hin) h4 h6 hS h7 fun l'' a'' w'' k1 k2 k3 => hK l'' a'' w'' k1 k2 ((Fr.put hmem).trans k3)
      have := wpAnyT_first (P := P) (Q := Q) (S := S) ho' hin (Region.noSelect_spec hsel) (fun c a w hc => absurd hc (hQ c _ w)) (fun listed inv hun => tw listed i hin inv hun) (r.len + (ops.size - nT)) listed a w inv (Region.free_spec ho' h3) hr h5 hS hrec
      simpa [Od.len, Nat.add_right_comm] using this
    · exact h.elim
  | ef i r ih =>
    intro listed l a w inv hok ha hS h hK
    simp only [okOd, Bool.and_eq_true, decide_eq_true_eq] at hok
    obtain ⟨⟨h1, h2⟩, h4⟩ := hok
    have hin : i < nT := by simpa [Nat.blt_eq] using h1
    have hr : i ∈ Region.ready .any ops listed := by rw [h2]; simp
    unfold wdr at h
    split at h
    · rename_i o ho
      have ho' : ops[i]? = some o := by simpa using ho
      have hmem : ∀ d, o.dst = some d → d ∈ dsts ops.toList := fun d hd => dsts_mem hd (List.mem_of_getElem? ho)
      have hop := wge_of (Q := Q) C ho' ha hS h
      have : wpAnyT P .any ops Q S nT (r.len + (ops.size - nT) + 1) listed a w := eff_step hr fun k hk => by
        rw [h2] at hk
        have hk : k = i := by simpa using hk
        subst hk
        refine wpOp_mono (fun a' w' h5 => ?_) hop
        obtain ⟨h6, v, l', rfl, h7, h8⟩ := h5
        exact ⟨h6, ih _ l' _ w' (inv.set hr hin) h4 h7 h6 h8 fun l'' a'' w'' k1 k2 k3 => hK l'' a'' w'' k1 k2 ((Fr.put hmem).trans k3)⟩
      simpa [Od.len, Nat.add_right_comm] using this
    · exact h.elim
  | two i x j y ihx ihy =>
    intro listed l a w inv hok ha hS h hK
    simp only [okOd, Bool.and_eq_true, decide_eq_true_eq] at hok
    obtain ⟨⟨⟨⟨⟨h1, h1'⟩, h2⟩, hlen⟩, h4⟩, h4'⟩ := hok
    have hin : i < nT := by simpa [Nat.blt_eq] using h1
    have hjn : j < nT := by simpa [Nat.blt_eq] using h1'
    have hlen := Nat.eq_of_beq_eq_true hlen
    have hr : i ∈ Region.ready .any ops listed := by rw [h2]; simp
    have hr' : j ∈ Region.ready .any ops listed := by rw [h2]; simp
    obtain ⟨ha1, ha2⟩ := (show _ ∧ _ from h)
    have : wpAnyT P .any ops Q S nT (x.len + (ops.size - nT) + 1) listed a w := eff_step hr fun k hk => by
      rw [h2] at hk
      have hk : k = i ∨ k = j := by simpa using hk
      rcases hk with rfl | rfl
      · split at ha1
        · rename_i o ho
          have ho' : ops[k]? = some o := by simpa using ho
          have hmem : ∀ d, o.dst = some d → d ∈ dsts ops.toList := fun d hd => dsts_mem hd (List.mem_of_getElem? ho)
          refine wpOp_mono (fun a' w' h5 => ?_) (wge_of (Q := Q) C ho' ha hS ha1)
          obtain ⟨h6, v, l', rfl, h7, h8⟩ := h5
          exact ⟨h6, ihx _ l' _ w' (inv.set hr hin) h4 h7 h6 h8 fun l'' a'' w'' k1 k2 k3 => hK l'' a'' w'' k1 k2 ((Fr.put hmem).trans k3)⟩
        · exact ha1.elim
      · split at ha2
        · rename_i o ho
          have ho' : ops[k]? = some o := by simpa using ho
          have hmem : ∀ d, o.dst = some d → d ∈ dsts ops.toList := fun d hd => dsts_mem hd (List.mem_of_getElem? ho)
          refine wpOp_mono (fun a' w' h5 => ?_) (wge_of (Q := Q) C ho' ha hS ha2)
          obtain ⟨h6, v, l', rfl, h7, h8⟩ := h5
          exact ⟨h6, by rw [hlen]; exact ihy _ l' _ w' (inv.set hr' hjn) h4' h7 h6 h8 fun l'' a'' w'' k1 k2 k3 => hK l'' a'' w'' k1 k2 ((Fr.put hmem).trans k3)⟩
        · exact ha2.elim
    simpa [Od.len, Nat.add_right_comm] using this
  | par is r ih =>
    intro listed l a w inv hok ha hS h hK
    simp only [okOd, Bool.and_eq_true] at hok
    obtain ⟨hlt, hnod, hch, hpar, hrest⟩ := hok
    unfold wdr at h
    split at h
    · rename_i hpk
      rw [Bool.and_eq_true] at hpk
      obtain ⟨hpk1, hpk2⟩ := hpk
      obtain ⟨T, h⟩ := h
      obtain ⟨sp, hG, hmap, hspec⟩ := parA_of C is [] h
      rw [List.nil_append] at hG
      have hpm := pds_map hpk1
      rw [hpm] at hpk2 hG hspec
      have hnd := nodB_iff hnod
      have hnd2 := nodB_iff hpk2
      rw [← hmap] at hlt hch hpar hrest hnd hnd2 hpm hG hspec
      have hlen : sp.length = is.length := by have := congrArg List.length hmap; simpa using this
      have hmem : ∀ e ∈ sp, e.i ∈ sp.map (·.i) := fun e he => List.mem_map_of_mem he
      have hpk1' : parOk n ops.toList (sp.map (·.i)) = true := by rw [hmap]; exact hpk1
      have hinj : ∀ e ∈ sp, ∀ e' ∈ sp, e.i = e'.i → e = e' := sp_inj hnd
      have hsp : ∀ e ∈ sp, ∃ o, SpOk C ops n nT S T (rmA ((sp.map (·.i)).map (dAt ops.toList)) l) e o (dAt ops.toList e.i) := by
        intro e he
        obtain ⟨o, ho, hk, hrun⟩ := hspec e he
        obtain ⟨o', d, ho', hg, hdst, hdn⟩ := parOk_of hpk1' e.i (hmem e he)
        rw [ho] at ho'; cases ho'
        have hd : dAt ops.toList e.i = d := by unfold dAt; rw [ho]; dsimp only; rw [hdst]
        refine ⟨o, by simpa using ho, ?_, hg, by rw [hd]; exact hdst, by rw [hd]; exact hdn, fun v hv => ?_, hk, hrun⟩
        · have := List.all_eq_true.1 hlt e.i (hmem e he)
          simpa [Nat.blt_eq] using this
        · exact (rmA_get hv).1 (List.mem_map_of_mem (hmem e he))
      have ha0 : Has n a (rmA ((sp.map (·.i)).map (dAt ops.toList)) l) := ⟨ha.size, ha.defers, fun t v ht => ha.get t v (rmA_get ht).2⟩
      have hun : ∀ (is : List Nat) (L : Array Bool), okCh ops is L = true → is.Nodup → ∀ i ∈ is, L.getD i true = false := by
        intro is
        induction is with
        | nil => intro L _ _ i hi; cases hi
        | cons x r ih =>
          intro L hc hn i hi
          simp only [okCh, Bool.and_eq_true] at hc
          rw [List.nodup_cons] at hn
          have hx : x ∈ Region.ready .any ops L := by simpa using hc.1
          rcases List.mem_cons.1 hi with hi | hi
          · rw [hi]; exact (mem_ready.1 hx).1
          · have := ih _ hc.2 hn.2 i hi
            rw [getD_set_ne true (fun e => hn.1 (by rw [e]; exact hi))] at this
            exact this
      have := par_run C (Q := Q) (a0 := a) (X := r.len + (ops.size - nT)) (dOf := fun e => dAt ops.toList e.i) hsp hinj (fun e he e' he' hde => hinj e he e' he' (nodup_inj hnd2 _ (hmem e he) _ (hmem e' he') hde)) hch hpar (fun a' w' ha' hS' hdone hfr inv' => by
        obtain ⟨l', h5, h6⟩ := parB_of (ops := ops) (K := fun l' w'' => wdr C n ops.toList S r l' w'' K) (dOf := fun e => dAt ops.toList e.i) sp _ ha' (fun e he => ⟨by obtain ⟨o, ok⟩ := hsp e he; exact ⟨o, ok.op, ok.dst⟩, hdone e he⟩) (hG w' hS')
        exact ih _ l' a' w' inv' hrest h5 hS' h6 fun l'' a'' w'' k1 k2 k3 => hK l'' a'' w'' k1 k2 (Fr.trans (fun t ht => hfr t ht) k3)) sp.length (sp.map (·.i)) listed a w (by simp) hnd (fun i hi => hi) (fun j hj => by
          constructor
          · intro h
            by_cases hjs : j ∈ sp.map (·.i)
            · rw [hun _ _ hch hnd j hjs] at h; cases h
            · exact Or.inr ⟨hjs, h⟩
          · rintro (⟨h1, h2⟩ | h)
            · exact absurd h1 h2
            · exact h.2) (fun j h => h) inv inv.size (hun _ _ hch hnd) ha0 hS (fun e he hr => absurd (hmem e he) hr) (fun t _ => rfl)
      rw [hlen] at this
      simpa [Od.len, Nat.add_assoc] using this
    · exact h.elim
  | log is r ih =>
    intro listed l a w inv hok ha hS h hK
    simp only [okOd, Bool.and_eq_true] at hok
    obtain ⟨hlt, hnod, hch, hpar, hrest⟩ := hok
    unfold wdr at h
    split at h
    · rename_i hpk
      rw [Bool.and_eq_true] at hpk
      obtain ⟨hpk1, hpk2⟩ := hpk
      obtain ⟨Z, hZ0, h⟩ := h
      obtain ⟨hG, hspec⟩ := logA_of C is h
      have hpm := pds_map hpk1
      rw [hpm] at hpk2 hG hspec
      have hnd := nodB_iff hnod
      have hnd2 := nodB_iff hpk2
      have hmem : ∀ e ∈ is, e.1 ∈ is.map (·.1) := fun e he => List.mem_map_of_mem he
      have hpk1' : parOk n ops.toList (is.map (·.1)) = true := hpk1
      have hinj : ∀ e ∈ is, ∀ e' ∈ is, e.1 = e'.1 → e = e' := ks_inj hnd
      have hsp : ∀ e ∈ is, ∃ o, LgOk C ops n nT S Z (rmA ((is.map (·.1)).map (dAt ops.toList)) l) e o (dAt ops.toList e.1) := by
        intro e he
        obtain ⟨o, ho, hrun⟩ := hspec e he
        obtain ⟨o', d, ho', hg, hdst, hdn⟩ := parOk_of hpk1' e.1 (hmem e he)
        rw [ho] at ho'; cases ho'
        have hd : dAt ops.toList e.1 = d := by unfold dAt; rw [ho]; dsimp only; rw [hdst]
        refine ⟨o, by simpa using ho, ?_, hg, by rw [hd]; exact hdst, by rw [hd]; exact hdn, fun v hv => ?_, hrun⟩
        · have := List.all_eq_true.1 hlt e.1 (hmem e he)
          simpa [Nat.blt_eq] using this
        · exact (rmA_get hv).1 (List.mem_map_of_mem (hmem e he))
      have ha0 : Has n a (rmA ((is.map (·.1)).map (dAt ops.toList)) l) := ⟨ha.size, ha.defers, fun t v ht => ha.get t v (rmA_get ht).2⟩
      have hun : ∀ (is : List Nat) (L : Array Bool), okCh ops is L = true → is.Nodup → ∀ i ∈ is, L.getD i true = false := by
        intro is
        induction is with
        | nil => intro L _ _ i hi; cases hi
        | cons x r ih =>
          intro L hc hn i hi
          simp only [okCh, Bool.and_eq_true] at hc
          rw [List.nodup_cons] at hn
          have hx : x ∈ Region.ready .any ops L := by simpa using hc.1
          rcases List.mem_cons.1 hi with hi | hi
          · rw [hi]; exact (mem_ready.1 hx).1
          · have := ih _ hc.2 hn.2 i hi
            rw [getD_set_ne true (fun e => hn.1 (by rw [e]; exact hi))] at this
            exact this
      have := log_run C (Q := Q) (a0 := a) (X := r.len + (ops.size - nT)) (dOf := fun e => dAt ops.toList e.1) hsp hinj (fun e he e' he' hde => hinj e he e' he' (nodup_inj hnd2 _ (hmem e he) _ (hmem e' he') hde)) hch hpar (fun a' w' ha' hS' hdone hfr inv' => by
        obtain ⟨lg, hZl, hdone⟩ := hdone
        obtain ⟨l', h5, h6⟩ := logB_of (ops := ops) (K := fun l' w'' => wdr C n ops.toList S r l' w'' K) (dOf := fun e => dAt ops.toList e.1) is _ ha' (fun e he => ⟨by obtain ⟨o, ok⟩ := hsp e he; exact ⟨o, ok.op, ok.dst⟩, hdone e he⟩) (hG lg w' hS' hZl)
        exact ih _ l' a' w' inv' hrest h5 hS' h6 fun l'' a'' w'' k1 k2 k3 => hK l'' a'' w'' k1 k2 (Fr.trans (fun t ht => hfr t ht) k3)) is.length (is.map (·.1)) listed a w (by simp) hnd (fun i hi => hi) (fun j hj => by
          constructor
          · intro h
            by_cases hjs : j ∈ is.map (·.1)
            · rw [hun _ _ hch hnd j hjs] at h; cases h
            · exact Or.inr ⟨hjs, h⟩
          · rintro (⟨h1, h2⟩ | h)
            · exact absurd h1 h2
            · exact h.2) (fun j h => h) inv inv.size (hun _ _ hch hnd) ha0 hS ⟨[], hZ0, fun e he hr => absurd (hmem e he) hr⟩ (fun t _ => rfl)
      simpa [Od.len, Nat.add_assoc] using this
    · exact h.elim

/-- A region that draws its order. -/
def wpd {P : Program} (C : Orc P) (n : Nat) (ops : Array Oper) (nT : Nat) (od : Od) (S : World → Prop) (l : Fl) (w : World) (K : Fl → World → Prop) : Prop :=
  S w.drew ∧ wdr C n ops.toList S od l w.drew fun l' w' => wops C n ops.toList (ops.toList.drop nT) l' w' K
theorem dsts_drop {t : Nat} : ∀ {l : List Oper} {k : Nat}, t ∉ dsts l → t ∉ dsts (l.drop k)
  | [], k, h => by simpa using h
  | o :: r, 0, h => h
  | o :: r, k + 1, h => by
    simp only [List.drop_succ_cons]
    refine dsts_drop ?_
    unfold dsts at h
    split at h
    · exact fun hm => h (List.mem_cons_of_mem _ hm)
    · exact h
theorem wpd_sound (C : Orc P) {id n nT : Nat} {ops : Array Oper} {od : Od} {S : World → Prop} {l : Fl} {a : Act} {w : World} {K : Fl → World → Prop} {Q : Exit → Act → World → Prop} (hm : P.follows .mixedOrders = true)
    (hok : okDr ops nT od = true) (ha : Has n a l) (h : wpd C n ops nT od S l w K) (hK : ∀ l' a' w', Has n a' l' → K l' w' → Fr (dsts ops.toList) a a' → Q .normal a' w') : (Code.region id ops true).wp P Q a w := by
  refine wp_region_noPanic ?_
  simp only [okDr, Bool.and_eq_true, Bool.or_eq_true, decide_eq_true_eq] at hok
  obtain ⟨⟨⟨hsel, hn⟩, hlen⟩, hod⟩ := hok
  have hlen := Nat.eq_of_beq_eq_true hlen
  have hnT : nT ≤ ops.size := by
    rcases hn with hn | hn
    · exact Nat.le_of_eq (Nat.eq_of_beq_eq_true hn)
    · exact Nat.le_of_lt hn.1.1
  have inv0 : HeadInv .any ops nT (Array.replicate ops.size false) :=
    ⟨by simp, fun j oj _ hl => (by rw [getD_replicate_false] at hl; cases hl), fun t _ ht => getD_in (by simpa using ht) (getD_replicate_false _ _)⟩
  have tw : ∀ (listed : Array Bool) (i : Nat), i < nT → HeadInv .any ops nT listed → listed.getD i true = false → ∀ t, nT ≤ t → t ∉ Region.ready .any ops listed := by
    intro listed i hin inv hun t ht hr
    have hlt := ready_lt hr
    rcases hn with hn | hn
    · have := Nat.eq_of_beq_eq_true hn; omega
    · exact tail_waits hn.1.2 hn.2 hn.1.1 inv _ i rfl hin hun t ht hr
  refine wp_region_any hm (wpAny_of_T (S := S) (n := nT) _ _ _ _ ?_)
  have := wdr_sound C (Q := NoPanic Q) (fun c a w => by unfold NoPanic; simp) hsel hnT tw od (Array.replicate ops.size false) l a w.drew inv0 hod ha h.1 h.2 fun l' a' w' k1 k2 k3 =>
    wops_sound C (ops.toList.drop nT) l' a' w' k1 k2 fun l'' a'' w'' m1 m2 m3 => by
      show Q .normal a'' w''
      exact hK l'' a'' w'' m1 m2 (k3.trans fun t ht => m3 t (dsts_drop ht))
  rw [hlen, show nT + (ops.size - nT) = ops.size by omega] at this
  exact this
end
end Go.Proofs.YtkjpmkopnkkbmaaGreatDoor
