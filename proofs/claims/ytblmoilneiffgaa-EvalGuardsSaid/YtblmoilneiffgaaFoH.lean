/- Reckoning ahead: the trace that is reckoned ahead does what the trace does. No program in sight. -/
import Derived.Test.YtblmoilneiffgaaFoV
set_option maxRecDepth 100000
namespace Go.Proofs.Ytblmoilneiffgaa
open Go.RowKit

/-- Registers of n places. -/
def RegOk (n : Nat) (e : En) : Prop := e.regs.length = n
theorem putOc_none (ats : List Int) (q : Int) (i : In5) (e : En) (s : StV) : putOc ats q i e (.go s none) = (-1, { e with s := s }) := rfl
theorem goV_cons (ats wl : List Int) (last : Int) (i : In5) (r : List In5) (q : Int) (e : En) : goV ats wl last (i :: r) q e = if 0 ≤ (insV ats wl q i e).1 then insV ats wl q i e else goV ats wl last r (q + 1) (insV ats wl q i e).2 := rfl
/-- The values of places that give are those of their places in the other trace. -/
def SimV (ti : List In5) (k : Nat) (m : List Int) (n n' : Nat) (e e' : En) : Prop := ∀ p : Int, 0 ≤ p → p < k → givesV (atL ti p).a = true → valV (idA n') (ofV m p) e' = valV (idA n) p e
/-- Places of constants hold them. -/
def ConA (l : List In5) (n' : Nat) (e' : En) : Prop := ∀ p : Int, ConV l p → valV (idA n') p e' = (atL l p).b
theorem atL_get {l : List In5} {k : Nat} {i : In5} (h : l[k]? = some i) : atL l (k : Int) = i := by
  unfold atL; rw [List.getD_eq_getElem?_getD, Int.toNat_natCast, h]; rfl
theorem SimV.vals {ti : List In5} {k : Nat} {m : List Int} {n n' : Nat} {e e' : En} (h : SimV ti k m n n' e e') {ps : List Int} (hp : NamL ti ps k) : valsV (idA n') (ps.map (ofV m)) e' = valsV (idA n) ps e := by
  unfold valsV
  rw [List.map_map]
  apply List.map_congr_left
  intro p hp'
  obtain ⟨a, b, c⟩ := hp p hp'
  exact h p a b c
/-- What an instruction names, and its values. -/
theorem SimV.uses {t : TrG} {k : Nat} {m : List Int} {n n' : Nat} {e e' : En} (h : SimV t.ins k m n n' e e') {wl : List Int} {s : StV} {i : In5} (hi : EachV t k i) : ocV i.a i.b (valV (idA n) i.c e) (valV (idA n) i.d e) s wl = ocV i.a i.b (valV (idA n') (insM m i).c e') (valV (idA n') (insM m i).d e') s wl := by
  obtain ⟨h1, h2, h3, h4, h5, h6⟩ := hi
  apply ocV_uses h2
  · intro hc
    obtain ⟨a, b, c⟩ := h5 _ hc
    have := h _ a b c
    rw [← this]
    rcases usesV_cases i with ⟨g1, g2⟩ | ⟨g1, g2⟩ | ⟨g1, g2⟩
    · rw [g2] at hc; cases hc
    · unfold insM; rw [if_neg (by omega), if_pos g1]
    · unfold insM; rw [if_pos g1]
  · intro hc
    rcases usesV_cases i with ⟨g1, g2⟩ | ⟨g1, g2⟩ | ⟨g1, g2⟩
    · omega
    · omega
    · obtain ⟨a, b, c⟩ := h5 i.d (by rw [g2]; simp)
      have := h _ a b c
      rw [← this]
      unfold insM; rw [if_pos g1]
theorem En_s (e : En) : ({ e with s := e.s } : En) = e := rfl
theorem val_s {ats : List Int} {p : Int} {e : En} {s : StV} : valV ats p { e with s := s } = valV ats p e := rfl
theorem val_hit {ats : List Int} {p : Int} {e : En} {s : StV} {a : Int} : valV ats p { e with s := s, hit := a } = valV ats p e := rfl
/-- Behind a step, in which the trace's instruction has no value. -/
theorem SimV.none {ti : List In5} {k : Nat} {m : List Int} {n n' : Nat} {e e' : En} (h : SimV ti k m n n' e e') (hl : m.length = k) {i : In5} (hi : ti[k]? = some i) (hg : givesV i.a = false) (x : Int) (s s' : StV) : SimV ti (k + 1) (m ++ [x]) n n' { e with s := s } { e' with s := s' } := by
  intro p h0 h1 hp
  by_cases hk : p = k
  · subst hk
    rw [atL_get hi, hg] at hp; cases hp
  · rw [ofV_app _ h0 (by omega)]
    exact h p h0 (by omega) hp
/-- Behind a step, in which the trace's instruction has a value, which the other trace has at its end. -/
theorem SimV.some {ti : List In5} {k : Nat} {m : List Int} {n n' l : Nat} {e e' : En} (h : SimV ti k m n n' e e') (hl : m.length = k) (hk : k < n) (hl' : l < n') (hr : e.regs.length = n) (hr' : e'.regs.length = n')
    (hm : ∀ p : Int, 0 ≤ p → p < k → givesV (atL ti p).a = true → 0 ≤ ofV m p ∧ ofV m p < l) (v : Int) (s s' : StV) :
    SimV ti (k + 1) (m ++ [(l : Int)]) n n' (setV (idA n) k v { e with s := s }) (setV (idA n') l v { e' with s := s' }) := by
  intro p h0 h1 hp
  by_cases hpk : p = k
  · subst hpk
    rw [ofV_end (by rw [hl]), val_same (e := { e' with s := s' }) (by omega) (by omega) hr', val_same (e := { e with s := s }) (by omega) (by omega) hr]
  · obtain ⟨a, b⟩ := hm p h0 (by omega) hp
    rw [ofV_app _ h0 (by omega), val_ne (by omega) (by omega) a (by omega) (by omega), val_ne (by omega) (by omega) h0 (by omega) hpk]
    exact h p h0 (by omega) hp
/-- The instruction has its value in the other trace at a place that is there. -/
theorem SimV.have {ti : List In5} {k : Nat} {m : List Int} {n n' : Nat} {e e' : En} (h : SimV ti k m n n' e e') (hl : m.length = k) (hk : k < n) (hr : e.regs.length = n) {q : Int} (v : Int) (s s' : StV) (hq : valV (idA n') q e' = v) :
    SimV ti (k + 1) (m ++ [q]) n n' (setV (idA n) k v { e with s := s }) { e' with s := s' } := by
  intro p h0 h1 hp
  by_cases hpk : p = k
  · subst hpk
    rw [ofV_end (by rw [hl]), val_same (e := { e with s := s }) (by omega) (by omega) hr]
    exact hq
  · rw [ofV_app _ h0 (by omega), val_ne (by omega) (by omega) h0 (by omega) hpk]
    exact h p h0 (by omega) hp
theorem set_len (ats : List Int) (p v : Int) (e : En) : (setV ats p v e).regs.length = e.regs.length := by unfold setV; simp
/-- What a calculation is known to come to, it comes to. -/
theorem reckV_oc {l : List In5} {j : In5} {v : Int} (h : reckV l j = Option.some v) {n' : Nat} {e' : En} (hc : ConA l n' e') (s : StV) (wl : List Int) :
    ocV j.a j.b (valV (idA n') j.c e') (valV (idA n') j.d e') s wl = .go s (Option.some v) := by
  unfold reckV at h
  split at h
  · next h4 =>
    obtain ⟨h4, hall⟩ := h4
    unfold ocV
    rw [if_neg (by omega), if_neg (by omega), if_neg (by omega), if_pos h4]
    split at h
    · next h2 =>
      have hu : usesV j = [j.c, j.d] := by unfold usesV; rw [if_pos h4, if_pos h2]
      rw [hu] at hall
      rw [hc j.c (hall _ (by simp)), hc j.d (hall _ (by simp))]
      rw [if_neg (by rw [risOne_not h2]; decide)]
      split at h
      · next h3 => rw [if_pos h3]; cases h; rfl
      · cases h
    · next h2 =>
      have hu : usesV j = [j.c] := by unfold usesV; rw [if_pos h4, if_neg h2]
      rw [hu] at hall
      rw [hc j.c (hall _ (by simp))]
      split at h
      · next h3 => rw [if_pos h3]; cases h; rfl
      · cases h
  · cases h
/-- What is known to hold, holds. -/
theorem holdsV_oc {l : List In5} {j : In5} (h : holdsV l j = true) {n' : Nat} {e' : En} (hc : ConA l n' e') (s : StV) (wl : List Int) :
    ocV j.a j.b (valV (idA n') j.c e') (valV (idA n') j.d e') s wl = .go s none := by
  have h := of_decide_eq_true h
  obtain ⟨hall, h⟩ := h
  unfold ocV
  rcases h with ⟨h7, h⟩ | ⟨h8, h⟩ | ⟨h9, h⟩
  · have hu : usesV j = [j.c] := by unfold usesV; rw [if_neg (by omega), if_pos (by omega)]
    rw [hu] at hall
    rw [hc j.c (hall _ (by simp))]
    rw [if_neg (by omega), if_neg (by omega), if_neg (by omega), if_neg (by omega), if_neg (by omega), if_neg (by omega), if_pos h7, if_pos h]
  · have hu : usesV j = [j.c] := by unfold usesV; rw [if_neg (by omega), if_pos (by omega)]
    rw [hu] at hall
    rw [hc j.c (hall _ (by simp))]
    rw [if_neg (by omega), if_neg (by omega), if_neg (by omega), if_neg (by omega), if_neg (by omega), if_neg (by omega), if_neg (by omega), if_pos h8, if_pos h]
  · have hu : usesV j = [j.c, j.d] := by unfold usesV; rw [if_neg (by omega), if_neg (by omega), if_pos (by omega)]
    rw [hu] at hall
    rw [hc j.c (hall _ (by simp)), hc j.d (hall _ (by simp))]
    rw [if_neg (by omega), if_neg (by omega), if_neg (by omega), if_neg (by omega), if_neg (by omega), if_neg (by omega), if_neg (by omega), if_neg (by omega), if_pos h9, if_pos h]
theorem ocV_con {i : In5} (h : i.a = 1) (b c : Int) (s : StV) (wl : List Int) : ocV i.a i.b b c s wl = .go s (Option.some i.b) := by unfold ocV; rw [if_pos h]
theorem oc_ne {s : StV} {v : Option Int} {p : Prop} (h : Oc.go s v = Oc.ex) : p := by cases h
theorem oc_ne' {s s' : StV} {v : Option Int} {a : Int} {p : Prop} (h : Oc.go s v = Oc.hit s' a) : p := by cases h
theorem oc_ne2 {s : StV} {a : Int} {p : Prop} (h : Oc.hit s a = Oc.ex) : p := by cases h
theorem oc_ne2' {s : StV} {a : Int} {p : Prop} (h : Oc.ex = Oc.hit s a) : p := by cases h
/-- It exits only where it names an exit. -/
theorem ocV_ex {i : In5} {b c : Int} {s : StV} {wl : List Int} (h0 : i.a = 4 → Cn.risTwo i.b = true ∨ Cn.risOne i.b = true) (h : ocV i.a i.b b c s wl = .ex) : i.e ∈ outsV i := by
  unfold ocV at h
  unfold outsV
  by_cases e1 : i.a = 1
  · rw [if_pos e1] at h; exact oc_ne h
  rw [if_neg e1] at h
  by_cases e2 : i.a = 2
  · rw [if_pos e2] at h; exact oc_ne h
  rw [if_neg e2] at h
  by_cases e3 : i.a = 3
  · rw [if_pos e3] at h; exact oc_ne h
  rw [if_neg e3] at h
  by_cases e4 : i.a = 4
  · rw [if_pos e4] at h
    rw [if_pos e4]
    by_cases c1 : Cn.isOne i.b = true
    · rw [if_pos c1] at h; exact oc_ne h
    rw [if_neg c1] at h
    have h2' : Cn.risTwo i.b = true := (h0 e4).resolve_right (fun hh => c1 (by rw [isOne_eq]; exact hh))
    by_cases c2 : Cn.isTwo i.b c = true
    · rw [if_pos c2] at h; exact oc_ne h
    rw [isTwo_eq h2'] at c2
    have c2 : (i.b = 14 ∨ i.b = 15) ∧ c = 0 := by
      rcases hd : decide ((i.b = 14 ∨ i.b = 15) ∧ c = 0) with _ | _
      · rw [hd] at c2; exact absurd rfl c2
      · exact of_decide_eq_true hd
    rw [if_pos c2.1]; simp
  rw [if_neg e4] at h
  rw [if_neg e4]
  by_cases e5 : i.a = 5 ∨ i.a = 7 ∨ i.a = 8 ∨ i.a = 9 ∨ i.a = 10 ∨ i.a = 11
  · rw [if_pos e5]; simp
  rw [if_neg e5]
  by_cases e6 : i.a = 6
  · rw [if_pos e6]; simp
  rw [if_neg (by omega), if_neg (by omega), if_neg (by omega), if_neg (by omega), if_neg (by omega), if_neg (by omega)] at h
  by_cases c1 : (s.inp.size : Int) ≤ s.read
  · rw [if_pos c1] at h; exact oc_ne h
  · rw [if_neg c1] at h; exact oc_ne h
/-- It hits a watched cell only where it stores. -/
theorem ocV_hit {i : In5} {b c : Int} {s s' : StV} {a : Int} {wl : List Int} (h : ocV i.a i.b b c s wl = .hit s' a) : i.a = 6 ∧ i.b ∈ outsV i := by
  unfold ocV at h
  by_cases e1 : i.a = 1
  · rw [if_pos e1] at h; exact oc_ne' h
  rw [if_neg e1] at h
  by_cases e2 : i.a = 2
  · rw [if_pos e2] at h; exact oc_ne' h
  rw [if_neg e2] at h
  by_cases e3 : i.a = 3
  · rw [if_pos e3] at h; exact oc_ne' h
  rw [if_neg e3] at h
  by_cases e4 : i.a = 4
  · rw [if_pos e4] at h
    by_cases c1 : Cn.isOne i.b = true
    · rw [if_pos c1] at h; exact oc_ne' h
    rw [if_neg c1] at h
    by_cases c2 : Cn.isTwo i.b c = true
    · rw [if_pos c2] at h; exact oc_ne' h
    · rw [if_neg c2] at h; exact oc_ne2' h
  rw [if_neg e4] at h
  by_cases e5 : i.a = 5
  · rw [if_pos e5] at h
    by_cases c1 : b < 0 ∨ (s.mem.length : Int) ≤ b
    · rw [if_pos c1] at h; exact oc_ne2' h
    · rw [if_neg c1] at h; exact oc_ne' h
  rw [if_neg e5] at h
  by_cases e6 : i.a = 6
  · refine ⟨e6, ?_⟩
    unfold outsV
    rw [if_neg e4, if_neg (by omega), if_pos e6]; simp
  rw [if_neg e6] at h
  by_cases e7 : i.a = 7
  · rw [if_pos e7] at h
    by_cases c1 : b ≠ 0
    · rw [if_pos c1] at h; exact oc_ne' h
    · rw [if_neg c1] at h; exact oc_ne2' h
  rw [if_neg e7] at h
  by_cases e8 : i.a = 8
  · rw [if_pos e8] at h
    by_cases c1 : b = 0
    · rw [if_pos c1] at h; exact oc_ne' h
    · rw [if_neg c1] at h; exact oc_ne2' h
  rw [if_neg e8] at h
  by_cases e9 : i.a = 9
  · rw [if_pos e9] at h
    by_cases c1 : b = c
    · rw [if_pos c1] at h; exact oc_ne' h
    · rw [if_neg c1] at h; exact oc_ne2' h
  rw [if_neg e9] at h
  by_cases e10 : i.a = 10 ∨ i.a = 11
  · rw [if_pos e10] at h
    by_cases c1 : 2000 < (s.out.size : Int) + (sayV i.a b).size
    · rw [if_pos c1] at h; exact oc_ne2' h
    · rw [if_neg c1] at h; exact oc_ne' h
  rw [if_neg e10] at h
  by_cases c1 : (s.inp.size : Int) ≤ s.read
  · rw [if_pos c1] at h; exact oc_ne' h
  · rw [if_neg c1] at h; exact oc_ne' h
section
variable {ats wl : List Int} {last : Int} {i : In5} {r : List In5} {q : Int} {e : En} {s : StV}
theorem goV_go (h : ocV i.a i.b (valV ats i.c e) (valV ats i.d e) e.s wl = .go s none) : goV ats wl last (i :: r) q e = goV ats wl last r (q + 1) { e with s := s } := by
  rw [goV_cons, insV_oc, h]; rfl
theorem goV_val {v : Int} (h : ocV i.a i.b (valV ats i.c e) (valV ats i.d e) e.s wl = .go s (some v)) : goV ats wl last (i :: r) q e = goV ats wl last r (q + 1) (setV ats q v { e with s := s }) := by
  rw [goV_cons, insV_oc, h]; rfl
theorem goV_ex (h : ocV i.a i.b (valV ats i.c e) (valV ats i.d e) e.s wl = .ex) (h0 : 0 ≤ i.e) : goV ats wl last (i :: r) q e = (i.e, e) := by
  rw [goV_cons, insV_oc, h]; exact if_pos h0
theorem goV_hit {a : Int} (h : ocV i.a i.b (valV ats i.c e) (valV ats i.d e) e.s wl = .hit s a) (h0 : 0 ≤ i.b) : goV ats wl last (i :: r) q e = (i.b, { e with s := s, hit := a }) := by
  rw [goV_cons, insV_oc, h]; exact if_pos h0
end
/-- An exit, in the other trace: the same machine. -/
theorem SimV.leave {t a : TrG} {k : Nat} {m m' : List Int} {n n' : Nat} {e e' : En} (h : SimV t.ins k m n n' e e') (hl : m.length = k) {x x' : Int} (hx : OutV t x k) (ho : outAt a x' = outM (m ++ m') (outAt t x)) (h1 : a.slots = t.slots) (h2 : a.backs = t.backs) (hs : e'.s = e.s) :
    leaveV a (idA n') x' e' = leaveV t (idA n) x e := by
  obtain ⟨x0, x1, x2, x3⟩ := hx
  unfold leaveV
  rw [ho, h1, h2, hs]
  unfold outM
  dsimp only
  rw [map_of_app m' hl (named_iff.1 x2), map_of_app m' hl (named_iff.1 x3), h.vals (named_iff.1 x2), h.vals (named_iff.1 x3)]
/-- The steps of both, from some place on: the same exit, the same machine there. -/
theorem fold_sim {t : TrG} (hr : RightV t) (wl : List Int) : ∀ (r : List In5) (k : Nat) (l : List In5) (m : List Int) (e e' : En), t.ins.drop k = r → MapOk t.ins k l m → foldL r (l, m) = foldL t.ins ([], []) →
    SimV t.ins k m t.ins.length (foldT t).ins.length e e' → ConA l (foldT t).ins.length e' → e'.s = e.s → e'.hit = e.hit → e.regs.length = t.ins.length → e'.regs.length = (foldT t).ins.length →
    ∀ g g' : Int × En, g = goV (idA t.ins.length) wl t.last r k e → g' = goV (idA (foldT t).ins.length) wl t.last ((foldT t).ins.drop l.length) l.length e' →
      g'.1 = g.1 ∧ leaveV (foldT t) (idA (foldT t).ins.length) g.1 g'.2 = leaveV t (idA t.ins.length) g.1 g.2 ∧ g'.2.hit = g.2.hit
  | [], k, l, m, e, e', hd, hm, hf, hv, hc, hs, hh, hg, hg', g, g', hgg, hgg' => by
    subst hgg hgg'
    have hkl : k = t.ins.length := by
      have h1 : t.ins.length ≤ k := List.drop_eq_nil_iff.1 hd
      have h2 : foldL t.ins ([], []) = (l, m) := hf.symm
      have h3 : (foldL t.ins ([], [])).2.length = t.ins.length := (foldT_map t).len
      rw [h2] at h3
      have h3 : m.length = t.ins.length := h3
      have h4 := hm.len
      omega
    have hl : (foldT t).ins = l := by unfold foldT; dsimp only; rw [← hf]; rfl
    have hmm : (foldL t.ins ([], [])).2 = m ++ [] := by rw [← hf]; simp [foldL]
    rw [hl, List.drop_length]
    refine ⟨rfl, ?_, hh⟩
    have hx := hr.last
    rw [← hl]
    exact hv.leave (x := t.last) (x' := t.last) hm.len (m' := []) (hkl ▸ hx) (by rw [foldT_out t hx.1 hx.2.1, hmm]) rfl rfl hs
  | i :: r, k, l, m, e, e', hd, hm, hf, hv, hc, hs, hh, hg, hg', g, g', hgg, hgg' => by
    have hi : t.ins[k]? = some i := by rw [← List.head?_drop, hd]; rfl
    have hd' : t.ins.drop (k + 1) = r := by rw [← List.drop_drop, hd]; rfl
    have hk : k < t.ins.length := (List.getElem?_eq_some_iff.1 hi).1
    have hstep : foldL (i :: r) (l, m) = foldL r (foldS (l, m) i) := rfl
    have hm1 := foldS_map hm hi
    have he := hr.each k i hi
    have hu := hv.uses he (wl := wl) (s := e.s)
    obtain ⟨o1, o2, o3⟩ := insM_op m i
    obtain ⟨lt, mt, hmore⟩ := foldL_more r (foldS (l, m) i)
    have hm' : (foldL t.ins ([], [])).2 = (foldS (l, m) i).2 ++ mt := by rw [← hf, hstep, hmore]
    have hl' : (foldT t).ins = (foldS (l, m) i).1 ++ lt := by unfold foldT; dsimp only; rw [← hf, hstep, hmore]
    by_cases hh7 : holdsV l (insM m i) = true
    · -- a guard that holds
      have hS : foldS (l, m) i = (l, m ++ [-1]) := by unfold foldS; rw [if_pos hh7]
      have hoc := holdsV_oc hh7 hc e.s wl
      rw [o1, o2, ← hu] at hoc
      rw [goV_go hoc] at hgg
      rw [hS] at hm1
      have hgv : givesV i.a = false := by rw [← o1]; exact holdsV_gives hh7
      exact fold_sim hr wl r (k + 1) l (m ++ [-1]) e e' hd' hm1 (by rw [← hf, hstep, hS]) (hv.none hm.len hi hgv (-1) e.s e'.s) hc hs hh hg hg' g g' hgg hgg'
    · have hS : foldS (l, m) i = (l ++ [foldI l (insM m i)], m ++ [(l.length : Int)]) := by unfold foldS; rw [if_neg hh7]
      rw [hS] at hm1 hl' hm'
      have hln : l.length < (foldT t).ins.length := by rw [hl']; simp
      have hdr : (foldT t).ins.drop l.length = foldI l (insM m i) :: (foldT t).ins.drop (l.length + 1) := by
        have h1 : (foldT t).ins.drop l.length = foldI l (insM m i) :: lt := by rw [hl', List.append_assoc, List.drop_left]; rfl
        have h2 : (foldT t).ins.drop (l.length + 1) = lt := by rw [← List.drop_drop, h1]; rfl
        rw [h2]; exact h1
      rw [hdr] at hgg'
      have hf' : foldL r (l ++ [foldI l (insM m i)], m ++ [(l.length : Int)]) = foldL t.ins ([], []) := by rw [← hf, hstep, hS]
      have hpl : ∀ p : Int, 0 ≤ p → p < k → givesV (atL t.ins p).a = true → 0 ≤ ofV m p ∧ ofV m p < l.length := fun p a b c => (hm.pl p a b c).1
      have hcon : ∀ (v : Int) (s' : StV), (∀ (hj : (foldI l (insM m i)).a = 1), v = (foldI l (insM m i)).b) → ConA (l ++ [foldI l (insM m i)]) (foldT t).ins.length (setV (idA (foldT t).ins.length) l.length v { e' with s := s' }) := by
        intro v s' hj p hp
        obtain ⟨p0, p1, p2⟩ := hp
        rw [List.length_append, List.length_singleton] at p1
        by_cases hpl : p = l.length
        · subst hpl
          rw [val_same (e := { e' with s := s' }) (by omega) (by omega) hg', atL_end rfl]
          rw [atL_end rfl] at p2
          exact hj p2
        · rw [val_ne (by omega) (by omega) p0 (by omega) hpl, atL_app _ p0 (by omega)]
          rw [atL_app _ p0 (by omega)] at p2
          exact hc p ⟨p0, by omega, p2⟩
      have hcon0 : ∀ (s' : StV), (foldI l (insM m i)).a ≠ 1 → ConA (l ++ [foldI l (insM m i)]) (foldT t).ins.length { e' with s := s' } := by
        intro s' hj p hp
        obtain ⟨p0, p1, p2⟩ := hp
        rw [List.length_append, List.length_singleton] at p1
        by_cases hpl : p = l.length
        · subst hpl
          rw [atL_end rfl] at p2
          exact absurd p2 hj
        · rw [atL_app _ p0 (by omega)]
          rw [atL_app _ p0 (by omega)] at p2
          exact hc p ⟨p0, by omega, p2⟩
      have goon : ∀ (v : Int) (s : StV), (∀ (hj : (foldI l (insM m i)).a = 1), v = (foldI l (insM m i)).b) →
          g = goV (idA t.ins.length) wl t.last r ((k : Int) + 1) (setV (idA t.ins.length) k v { e with s := s }) → g' = goV (idA (foldT t).ins.length) wl t.last ((foldT t).ins.drop (l.length + 1)) ((l.length : Int) + 1) (setV (idA (foldT t).ins.length) l.length v { e' with s := s }) →
          g'.1 = g.1 ∧ leaveV (foldT t) (idA (foldT t).ins.length) g.1 g'.2 = leaveV t (idA t.ins.length) g.1 g.2 ∧ g'.2.hit = g.2.hit := by
        intro v s hj hg1 hg2
        refine fold_sim hr wl r (k + 1) _ _ (setV (idA t.ins.length) k v { e with s := s }) (setV (idA (foldT t).ins.length) l.length v { e' with s := s }) hd' hm1 hf' (hv.some hm.len hk hln hg hg' hpl v s s) (hcon v s hj) rfl hh (by rw [set_len]; exact hg) (by rw [set_len]; exact hg') g g' hg1 ?_
        rw [hg2, List.length_append, List.length_singleton]; rfl
      by_cases hre : ∃ v, reckV l (insM m i) = some v
      · obtain ⟨v, hre⟩ := hre
        have hI : foldI l (insM m i) = ⟨1, v, 0, 0, 0⟩ := by unfold foldI; rw [hre]
        have hoc := reckV_oc hre hc e.s wl
        rw [o1, o2, ← hu] at hoc
        have hoc' := ocV_con (i := foldI l (insM m i)) (by rw [hI]) (valV (idA (foldT t).ins.length) (foldI l (insM m i)).c e') (valV (idA (foldT t).ins.length) (foldI l (insM m i)).d e') e'.s wl
        rw [goV_val hoc] at hgg
        rw [goV_val hoc'] at hgg'
        refine goon v e.s (fun _ => by rw [hI]) hgg ?_
        rw [hgg', hI, hs]
      · have hI : foldI l (insM m i) = insM m i := by
          unfold foldI
          split
          · next v hv => exact absurd ⟨v, hv⟩ hre
          · rfl
        have hgv := ocV_gives (op := i.a) i.b (valV (idA t.ins.length) i.c e) (valV (idA t.ins.length) i.d e) e.s wl he.1
        rw [hI] at goon hcon0 hgg' hdr hm1 hf' hl' hm'
        rw [o1, o2] at goon
        rw [o1] at hcon0
        have h1 : i.a = 1 → ocV i.a i.b (valV (idA t.ins.length) i.c e) (valV (idA t.ins.length) i.d e) e.s wl = .go e.s (some i.b) := fun h => ocV_con h _ _ _ _
        have hu2 : ocV (insM m i).a (insM m i).b (valV (idA (foldT t).ins.length) (insM m i).c e') (valV (idA (foldT t).ins.length) (insM m i).d e') e'.s wl = ocV i.a i.b (valV (idA t.ins.length) i.c e) (valV (idA t.ins.length) i.d e) e.s wl := by rw [o1, o2, hs, hu]
        cases hoc : ocV i.a i.b (valV (idA t.ins.length) i.c e) (valV (idA t.ins.length) i.d e) e.s wl with
        | go s ov =>
          rw [hoc] at hgv h1 hu2
          cases ov with
          | none =>
            have hgv : givesV i.a = false := hgv
            rw [goV_go hoc] at hgg
            rw [goV_go hu2] at hgg'
            have hne : i.a ≠ 1 := fun h => by rw [h] at hgv; exact absurd hgv (by decide)
            refine fold_sim hr wl r (k + 1) _ _ { e with s := s } { e' with s := s } hd' hm1 hf' (hv.none hm.len hi hgv _ s s) (hcon0 s hne) rfl hh hg hg' g g' hgg ?_
            rw [hgg', List.length_append, List.length_singleton]; rfl
          | some v =>
            rw [goV_val hoc] at hgg
            rw [goV_val hu2] at hgg'
            refine goon v s (fun hj => ?_) hgg hgg'
            have := h1 hj
            cases this; rfl
        | ex =>
          rw [hoc] at hu2
          have hx := he.2.2.2.2.2 _ (ocV_ex he.2.1 hoc)
          rw [goV_ex hoc hx.1] at hgg
          rw [goV_ex hu2 (by rw [o3]; exact hx.1)] at hgg'
          subst hgg hgg'
          refine ⟨o3, ?_, hh⟩
          exact hv.leave hm.len (m' := [(l.length : Int)] ++ mt) hx (by rw [foldT_out t hx.1 hx.2.1, hm', List.append_assoc]) rfl rfl hs
        | hit s a =>
          rw [hoc] at hu2
          have hx := he.2.2.2.2.2 _ (ocV_hit hoc).2
          rw [goV_hit hoc hx.1] at hgg
          rw [goV_hit hu2 (by rw [o2]; exact hx.1)] at hgg'
          subst hgg hgg'
          refine ⟨o2, ?_, rfl⟩
          have hv' : SimV t.ins k m t.ins.length (foldT t).ins.length { e with s := s, hit := a } { e' with s := s, hit := a } := fun p a b c => hv p a b c
          exact hv'.leave hm.len (m' := [(l.length : Int)] ++ mt) hx (by rw [foldT_out t hx.1 hx.2.1, hm', List.append_assoc]) rfl rfl rfl
theorem fold_runs {t : TrG} (hr : RightV t) (s : StV) (wl : List Int) : (runG (foldT t) s wl).1 = (runG t s wl).1 ∧ endV (foldT t) (runG (foldT t) s wl) = endV t (runG t s wl) ∧ (runG (foldT t) s wl).2.hit = (runG t s wl).2.hit := by
  have h := fold_sim hr wl t.ins 0 [] [] (en0 t.ins.length s) (en0 (foldT t).ins.length s) rfl (MapOk.nil _) rfl (fun p h0 h1 => by omega) (fun p hp => by have := hp.2.1; have := hp.1; simp at *; omega) rfl rfl (by simp [en0]) (by simp [en0]) _ _ rfl rfl
  obtain ⟨h1, h2, h3⟩ := h
  refine ⟨h1, ?_, h3⟩
  have e : (runG (foldT t) s wl).1 = (runG t s wl).1 := h1
  unfold endV
  rw [e]; exact h2
end Go.Proofs.Ytblmoilneiffgaa
