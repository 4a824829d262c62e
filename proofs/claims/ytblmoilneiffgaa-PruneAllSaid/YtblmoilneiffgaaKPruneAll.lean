/- The walk of PruneAll. -/
import Derived.Test.YtblmoilneiffgaaJ3
import Derived.Test.YtblmoilneiffgaaJ7
import Derived.Test.YtblmoilneiffgaaJ5
import Derived.Test.YtblmoilneiffgaaJB
import Derived.Test.YtblmoilneiffgaaJ8
import Derived.Test.YtblmoilneiffgaaJC

/- What is asked of a pass over traces; of a run's exit. No program in sight. -/
set_option maxRecDepth 100000
namespace Go.Proofs.Ytblmoilneiffgaa
open Go.RowKit

/-- Its constants fit. -/
def InT (v : TrG) : Prop := ∀ i ∈ v.ins, i.a = 1 → Cn.In i.b
structure PassOk (f : TrG → TrG) : Prop where
  right : ∀ v, RightV v → RightV (f v)
  nums : ∀ v, (f v).start = v.start ∧ (f v).slots = v.slots ∧ (f v).backs = v.backs ∧ (f v).grow = v.grow ∧ (f v).growBack = v.growBack
  inT : ∀ v, RightV v → InT v → InT (f v)
  runs : ∀ v s wl, RightV v → endV (f v) (runG (f v) s wl) = endV v (runG v s wl) ∧ (runG (f v) s wl).2.hit = (runG v s wl).2.hit ∧ (outAt (f v) (runG (f v) s wl).1).steps = (outAt v (runG v s wl).1).steps
theorem PassOk.may {f : TrG → TrG} (h : PassOk f) (v : TrG) (s : StV) : mayV (f v) s = mayV v s := by
  obtain ⟨h1, h2, h3, h4, h5⟩ := h.nums v
  unfold mayV; rw [h1, h2, h3, h4, h5]
theorem goV_out {t : TrG} (hr : RightV t) (ats wl : List Int) : ∀ (r : List In5) (k : Nat) (e : En), t.ins.drop k = r → k ≤ t.ins.length → ∃ j, j ≤ t.ins.length ∧ OutV t (goV ats wl t.last r k e).1 j
  | [], k, e, _, _ => ⟨t.ins.length, Nat.le_refl _, hr.last⟩
  | i :: r, k, e, hd, hk => by
    have hi : t.ins[k]? = some i := by rw [← List.head?_drop, hd]; rfl
    have hd' : t.ins.drop (k + 1) = r := by rw [← List.drop_drop, hd]; rfl
    have hlt : k < t.ins.length := (List.getElem?_eq_some_iff.1 hi).1
    have hE := hr.each k i hi
    rw [goV_cons]
    split
    · next h => exact ⟨k, hk, hE.2.2.2.2.2 _ (insV_exit hE h)⟩
    · exact goV_out hr ats wl r (k + 1) _ hd' (by omega)
theorem runG_out {t : TrG} (hr : RightV t) (s : StV) (wl : List Int) : 0 ≤ (runG t s wl).1 ∧ (runG t s wl).1 < t.outs.length := by
  obtain ⟨j, _, h⟩ := goV_out hr (idA t.ins.length) wl t.ins 0 (en0 t.ins.length s) rfl (Nat.zero_le _)
  exact ⟨h.1, h.2.1⟩
theorem endV_ip (v : TrG) (g : Int × En) : (endV v g).ip = (outAt v g.1).ip := rfl
/-! ### Reckoning ahead -/
theorem reck_in {l : List In5} {i : In5} {x : Int} (h : reckV l i = some x) (hl : ∀ j ∈ l, j.a = 1 → Cn.In j.b) : Cn.In x := by
  have con : ∀ p, ConV l p → Cn.In (atL l p).b := fun p hp => by
    have hx : l[p.toNat]? = some (atL l p) := by
      unfold atL; rw [List.getD_eq_getElem?_getD, List.getElem?_eq_getElem (by have := hp.1; have := hp.2.1; omega)]; rfl
    exact hl _ (List.mem_of_getElem? hx) hp.2.2
  unfold reckV at h
  split at h
  · next h4 =>
    split at h
    · next h2 =>
      have hu : usesV i = [i.c, i.d] := by unfold usesV; rw [if_pos h4.1, if_pos h2]
      have hall := h4.2
      rw [hu] at hall
      split at h
      · cases h; exact in_two (con _ (hall _ (by simp))) (con _ (hall _ (by simp)))
      · cases h
    · split at h
      · cases h; exact in_one _ _
      · cases h
  · cases h
theorem foldS_in {q : List In5 × List Int} {i : In5} (hq : ∀ j ∈ q.1, j.a = 1 → Cn.In j.b) (hi : i.a = 1 → Cn.In i.b) : ∀ j ∈ (foldS q i).1, j.a = 1 → Cn.In j.b := by
  unfold foldS
  split
  · exact hq
  · intro j hj h1
    rcases List.mem_append.1 hj with hj | hj
    · exact hq j hj h1
    · have hj : j = foldI q.1 (insM q.2 i) := by simpa using hj
      unfold foldI at hj
      split at hj
      · next x hx => subst hj; exact reck_in hx hq
      · subst hj
        obtain ⟨a1, a2, _⟩ := insM_op q.2 i
        rw [a1] at h1
        rw [a2]; exact hi h1
theorem foldL_in : ∀ (r : List In5) (q : List In5 × List Int), (∀ j ∈ q.1, j.a = 1 → Cn.In j.b) → (∀ i ∈ r, i.a = 1 → Cn.In i.b) → ∀ j ∈ (foldL r q).1, j.a = 1 → Cn.In j.b
  | [], q, hq, _ => hq
  | i :: r, q, hq, hr => foldL_in r (foldS q i) (foldS_in hq (hr i (by simp))) (fun j hj => hr j (List.mem_cons_of_mem _ hj))
theorem fold_ok : PassOk foldT :=
  ⟨fun _ h => foldT_right h, fun _ => ⟨rfl, rfl, rfl, rfl, rfl⟩, fun v _ h => foldL_in v.ins ([], []) (fun j hj => by simp at hj) h, fun v s wl hr => by
    obtain ⟨h1, h2, h3⟩ := fold_runs hr s wl
    obtain ⟨r1, r2⟩ := runG_out hr s wl
    refine ⟨h2, h3, ?_⟩
    rw [h1, foldT_out v r1 r2]; rfl⟩
/-- How much could be reckoned ahead. -/
def leftF (is : List In5) (l : List In5) : Int := ((l.filter fun i => (reckV is i).isSome || holdsV is i).length : Int)
end Go.Proofs.Ytblmoilneiffgaa

/- Taking away what nobody needs, in plain words; what it keeps. No program in sight. -/
set_option maxRecDepth 100000
namespace Go.Proofs.Ytblmoilneiffgaa
open Go.RowKit

/-- It does nothing but have a value. -/
def pureV (i : In5) : Bool := decide (i.a = 1 ∨ i.a = 2 ∨ i.a = 3 ∨ (i.a = 4 ∧ outsV i = []))
def bA (l : List Bool) (j : Nat) : Bool := l.getD j false
theorem bA_lt {l : List Bool} {j : Nat} (h : bA l j = true) : j < l.length := by
  by_cases hj : j < l.length
  · exact hj
  · unfold bA at h; rw [List.getD_eq_getElem?_getD, List.getElem?_eq_none (by omega)] at h; cases h
theorem bA_get {l : List Bool} {j : Nat} (h : j < l.length) : l[j]? = some (bA l j) := by
  unfold bA; rw [List.getD_eq_getElem?_getD, List.getElem?_eq_getElem h]; rfl
theorem bA_set {l : List Bool} {j k : Nat} {b : Bool} : bA (l.set k b) j = if k = j ∧ k < l.length then b else bA l j := by
  unfold bA
  rw [List.getD_eq_getElem?_getD, List.getElem?_set, List.getD_eq_getElem?_getD]
  by_cases hk : k = j
  · subst hk
    by_cases hl : k < l.length
    · simp [hl]
    · simp [hl]
  · simp [hk]
theorem bA_rep (n j : Nat) : bA (List.replicate n false) j = false := by
  unfold bA
  rw [List.getD_eq_getElem?_getD, List.getElem?_replicate]
  split <;> rfl
/-- Which places and exits are named. -/
structure Ned where
  ins : List Bool
  exs : List Bool
def placesV (l : List Bool) (ps : List Int) : List Bool := ps.foldl (fun l p => l.set p.toNat true) l
def exitN (t : TrG) (n : Ned) (x : Int) : Ned :=
  if bA n.exs x.toNat = true then n else ⟨placesV (placesV n.ins (outAt t x).stack) (outAt t x).back, n.exs.set x.toNat true⟩
def exitsN (t : TrG) (n : Ned) (xs : List Int) : Ned := xs.foldl (exitN t) n
def allN (t : TrG) (n : Ned) (i : In5) : Ned := exitsN t ⟨placesV n.ins (usesV i), n.exs⟩ (outsV i)
def beginN (t : TrG) : Ned := exitN t ⟨List.replicate t.ins.length false, List.replicate t.outs.length false⟩ t.last
def keepB (t : TrG) (n : Ned) (k : Nat) : Bool := bA n.ins k || !pureV (atL t.ins k)
/-- From the end: what is named is kept, and what is kept names. -/
def backS (t : TrG) (q : Ned × List Bool) (k : Nat) : Ned × List Bool :=
  (if keepB t q.1 k = true then allN t q.1 (atL t.ins k) else q.1, q.2.set k (keepB t q.1 k))
def backL (t : TrG) : Nat → Ned × List Bool → Ned × List Bool
  | 0, q => q
  | k + 1, q => backL t k (backS t q k)
def finN (t : TrG) : Ned × List Bool := backL t t.ins.length (beginN t, List.replicate t.ins.length false)

theorem placesV_len (l : List Bool) (ps : List Int) : (placesV l ps).length = l.length := by
  induction ps generalizing l with
  | nil => rfl
  | cons p r ih => exact (ih (l.set p.toNat true)).trans (by simp)
theorem placesV_old {l : List Bool} {j : Nat} (ps : List Int) (h : bA l j = true) : bA (placesV l ps) j = true := by
  induction ps generalizing l with
  | nil => exact h
  | cons p r ih =>
    refine ih ?_
    rw [bA_set]; split
    · rfl
    · exact h
theorem placesV_new {l : List Bool} {ps : List Int} {p : Int} (hp : p ∈ ps) (hl : p.toNat < l.length) : bA (placesV l ps) p.toNat = true := by
  induction ps generalizing l with
  | nil => cases hp
  | cons q r ih =>
    rcases List.mem_cons.1 hp with rfl | hp
    · refine placesV_old r ?_
      rw [bA_set, if_pos ⟨rfl, hl⟩]
    · exact ih hp (by simpa using hl)
theorem placesV_only {l : List Bool} {ps : List Int} {j : Nat} (h : bA (placesV l ps) j = true) : bA l j = true ∨ ∃ p ∈ ps, p.toNat = j := by
  induction ps generalizing l with
  | nil => exact Or.inl h
  | cons q r ih =>
    rcases ih h with h | ⟨p, hp, hj⟩
    · rw [bA_set] at h
      split at h
      · next hh => exact Or.inr ⟨q, by simp, hh.1⟩
      · exact Or.inl h
    · exact Or.inr ⟨p, List.mem_cons_of_mem _ hp, hj⟩
/-- What a named exit names is named. -/
def ClN (t : TrG) (n : Ned) : Prop := ∀ x : Nat, bA n.exs x = true → ∀ p ∈ (outAt t x).stack ++ (outAt t x).back, bA n.ins p.toNat = true
/-- More is named, below a place. -/
structure UpN (t : TrG) (k : Nat) (n n' : Ned) : Prop where
  li : n'.ins.length = n.ins.length
  lx : n'.exs.length = n.exs.length
  oi : ∀ j, bA n.ins j = true → bA n'.ins j = true
  ox : ∀ j, bA n.exs j = true → bA n'.exs j = true
  on : ∀ j, k ≤ j → bA n'.ins j = true → bA n.ins j = true
  cl : ClN t n → ClN t n'
theorem UpN.refl (t : TrG) (k : Nat) (n : Ned) : UpN t k n n := ⟨rfl, rfl, fun _ h => h, fun _ h => h, fun _ _ h => h, fun h => h⟩
theorem UpN.trans {t : TrG} {k : Nat} {a b c : Ned} (h : UpN t k a b) (g : UpN t k b c) : UpN t k a c :=
  ⟨g.li.trans h.li, g.lx.trans h.lx, fun j x => g.oi j (h.oi j x), fun j x => g.ox j (h.ox j x), fun j hj x => h.on j hj (g.on j hj x), fun x => g.cl (h.cl x)⟩
theorem up_places {t : TrG} {k : Nat} {n : Ned} {ps : List Int} (h : ∀ p ∈ ps, 0 ≤ p ∧ p < k) : UpN t k n ⟨placesV n.ins ps, n.exs⟩ :=
  ⟨placesV_len _ _, rfl, fun _ h => placesV_old _ h, fun _ h => h, fun j hj hb => by
    rcases placesV_only hb with h' | ⟨p, hp, hpj⟩
    · exact h'
    · have := h p hp; omega, fun hc x hx p hp => placesV_old _ (hc x hx p hp)⟩
theorem up_exit {t : TrG} {k : Nat} {n : Ned} {x : Int} (hl : n.ins.length = t.ins.length) (hx : OutV t x k) (hk : k ≤ t.ins.length) : UpN t k n (exitN t n x) := by
  obtain ⟨h0, h1, h2, h3⟩ := hx
  unfold exitN
  split
  · exact UpN.refl _ _ _
  · next hne =>
    refine ⟨by dsimp only; rw [placesV_len, placesV_len], by simp, fun _ h => placesV_old _ (placesV_old _ h), fun j h => ?_, fun j hj hb => ?_, fun hc y hy p hp => ?_⟩
    · rw [bA_set]; split
      · rfl
      · exact h
    · rcases placesV_only hb with h' | ⟨p, hp, hpj⟩
      · rcases placesV_only h' with h' | ⟨p, hp, hpj⟩
        · exact h'
        · have := h2 p hp; omega
      · have := h3 p hp; omega
    · rw [bA_set] at hy
      split at hy
      · next hh =>
        have hxy : (y : Int) = x := by omega
        rw [hxy] at hp
        rcases List.mem_append.1 hp with hp | hp
        · have := h2 p hp
          exact placesV_old _ (placesV_new hp (by omega))
        · have := h3 p hp
          exact placesV_new hp (by rw [placesV_len]; omega)
      · exact placesV_old _ (placesV_old _ (hc y hy p hp))
theorem exit_named {t : TrG} {n : Ned} {x : Int} (hl : n.exs.length = t.outs.length) (h0 : 0 ≤ x) (h1 : x < t.outs.length) : bA (exitN t n x).exs x.toNat = true := by
  unfold exitN
  split
  · assumption
  · rw [bA_set, if_pos ⟨rfl, by omega⟩]
theorem up_exits {t : TrG} {k : Nat} : ∀ (xs : List Int) (n : Ned), n.ins.length = t.ins.length → n.exs.length = t.outs.length → (∀ x ∈ xs, OutV t x k) → k ≤ t.ins.length → UpN t k n (exitsN t n xs) ∧ ∀ x ∈ xs, bA (exitsN t n xs).exs x.toNat = true
  | [], n, _, _, _, _ => ⟨UpN.refl _ _ _, fun x hx => by cases hx⟩
  | x :: r, n, hl, hx, h, hk => by
    have u := up_exit (n := n) hl (h x (by simp)) hk
    have hx0 := h x (by simp)
    obtain ⟨u2, n2⟩ := up_exits r (exitN t n x) (u.li.trans hl) (u.lx.trans hx) (fun y hy => h y (List.mem_cons_of_mem _ hy)) hk
    refine ⟨u.trans u2, fun y hy => ?_⟩
    rcases List.mem_cons.1 hy with rfl | hy
    · exact u2.ox _ (exit_named hx hx0.1 hx0.2.1)
    · exact n2 y hy
theorem up_all {t : TrG} {k : Nat} {n : Ned} {i : In5} (hl : n.ins.length = t.ins.length) (hx : n.exs.length = t.outs.length) (hi : EachV t k i) (hk : k ≤ t.ins.length) :
    UpN t k n (allN t n i) ∧ (∀ p ∈ usesV i, bA (allN t n i).ins p.toNat = true) ∧ ∀ x ∈ outsV i, bA (allN t n i).exs x.toNat = true := by
  obtain ⟨_, _, _, _, h5, h6⟩ := hi
  have u1 := up_places (t := t) (n := n) (k := k) (ps := usesV i) (fun p hp => by have := h5 p hp; omega)
  obtain ⟨u2, n2⟩ := up_exits (outsV i) ⟨placesV n.ins (usesV i), n.exs⟩ (u1.li.trans hl) hx h6 hk
  refine ⟨u1.trans u2, fun p hp => ?_, n2⟩
  have := h5 p hp
  exact u2.oi _ (placesV_new hp (by omega))
/-- What is known, from a place on. -/
structure KpN (t : TrG) (k : Nat) (q : Ned × List Bool) : Prop where
  li : q.1.ins.length = t.ins.length
  lx : q.1.exs.length = t.outs.length
  lk : q.2.length = t.ins.length
  cl : ClN t q.1
  keep : ∀ j, k ≤ j → bA q.1.ins j = true → bA q.2 j = true
  uses : ∀ j, k ≤ j → bA q.2 j = true → ∀ p ∈ usesV (atL t.ins j), bA q.1.ins p.toNat = true
  outs : ∀ j, k ≤ j → bA q.2 j = true → ∀ x ∈ outsV (atL t.ins j), bA q.1.exs x.toNat = true
  pure : ∀ j, k ≤ j → j < t.ins.length → bA q.2 j = false → pureV (atL t.ins j) = true
  last : bA q.1.exs t.last.toNat = true
theorem atL_each {t : TrG} (hr : RightV t) {k : Nat} (hk : k < t.ins.length) : EachV t k (atL t.ins k) := by
  refine hr.each k _ ?_
  rw [List.getElem?_eq_getElem hk, atL_get (List.getElem?_eq_getElem hk)]
theorem KpN.step {t : TrG} (hr : RightV t) {k : Nat} (hk : k < t.ins.length) {q : Ned × List Bool} (h : KpN t (k + 1) q) : KpN t k (backS t q k) := by
  have hi := atL_each hr hk
  have hkb : ∀ j, j ≠ k → bA (q.2.set k (keepB t q.1 k)) j = bA q.2 j := fun j hj => by rw [bA_set, if_neg (fun hh => hj hh.1.symm)]
  have hkk : bA (q.2.set k (keepB t q.1 k)) k = keepB t q.1 k := by rw [bA_set, if_pos ⟨rfl, by rw [h.lk]; exact hk⟩]
  have hpl : bA q.1.ins k = true → keepB t q.1 k = true := fun hb => by unfold keepB; rw [hb]; rfl
  unfold backS
  by_cases hkp : keepB t q.1 k = true
  · rw [if_pos hkp]
    obtain ⟨u, n1, n2⟩ := up_all (n := q.1) h.li h.lx hi (by omega)
    refine ⟨u.li.trans h.li, u.lx.trans h.lx, by dsimp only; rw [List.length_set]; exact h.lk, u.cl h.cl, fun j hj hb => ?_, fun j hj hb p hp => ?_, fun j hj hb x hx => ?_, fun j hj hl hb => ?_, u.ox _ h.last⟩
    · by_cases hjk : j = k
      · subst hjk; dsimp only; rw [hkk]; exact hkp
      · dsimp only; rw [hkb j hjk]; exact h.keep j (by omega) (u.on j hj hb)
    · by_cases hjk : j = k
      · subst hjk; exact n1 p hp
      · dsimp only at hb; rw [hkb j hjk] at hb; exact u.oi _ (h.uses j (by omega) hb p hp)
    · by_cases hjk : j = k
      · subst hjk; exact n2 x hx
      · dsimp only at hb; rw [hkb j hjk] at hb; exact u.ox _ (h.outs j (by omega) hb x hx)
    · by_cases hjk : j = k
      · subst hjk; dsimp only at hb; rw [hkk, hkp] at hb; cases hb
      · dsimp only at hb; rw [hkb j hjk] at hb; exact h.pure j (by omega) hl hb
  · rw [if_neg hkp]
    have hkf : keepB t q.1 k = false := by simpa using hkp
    refine ⟨h.li, h.lx, by dsimp only; rw [List.length_set]; exact h.lk, h.cl, fun j hj hb => ?_, fun j hj hb p hp => ?_, fun j hj hb x hx => ?_, fun j hj hl hb => ?_, h.last⟩
    · by_cases hjk : j = k
      · subst hjk; exact absurd (hpl hb) hkp
      · dsimp only; rw [hkb j hjk]; exact h.keep j (by omega) hb
    · by_cases hjk : j = k
      · subst hjk; dsimp only at hb; rw [hkk] at hb; exact absurd hb hkp
      · dsimp only at hb; rw [hkb j hjk] at hb; exact h.uses j (by omega) hb p hp
    · by_cases hjk : j = k
      · subst hjk; dsimp only at hb; rw [hkk] at hb; exact absurd hb hkp
      · dsimp only at hb; rw [hkb j hjk] at hb; exact h.outs j (by omega) hb x hx
    · by_cases hjk : j = k
      · subst hjk
        unfold keepB at hkf
        rw [Bool.or_eq_false_iff] at hkf
        simpa using hkf.2
      · dsimp only at hb; rw [hkb j hjk] at hb; exact h.pure j (by omega) hl hb
theorem KpN.back {t : TrG} (hr : RightV t) : ∀ (k : Nat) (q : Ned × List Bool), k ≤ t.ins.length → KpN t k q → KpN t 0 (backL t k q)
  | 0, q, _, h => h
  | k + 1, q, hk, h => KpN.back hr k _ (by omega) (h.step hr (by omega))
theorem begin_ok {t : TrG} (hr : RightV t) : KpN t t.ins.length (beginN t, List.replicate t.ins.length false) := by
  have h0 : ClN t ⟨List.replicate t.ins.length false, List.replicate t.outs.length false⟩ := fun x hx => by
    have h := bA_rep t.outs.length x
    dsimp only at hx; rw [h] at hx; cases hx
  have u := up_exit (n := ⟨List.replicate t.ins.length false, List.replicate t.outs.length false⟩) (by simp) hr.last (Nat.le_refl _)
  have hl := u.li
  have hx := u.lx
  refine ⟨hl.trans (by simp), hx.trans (by simp), by simp, u.cl h0, fun j hj hb => ?_, fun j hj hb => ?_, fun j hj hb => ?_, fun j hj hl => by omega, exit_named (by simp) hr.last.1 hr.last.2.1⟩
  · have := bA_lt (u.on j hj hb); simp at this; omega
  · have h := bA_rep t.ins.length j
    dsimp only at hb; rw [h] at hb; cases hb
  · have h := bA_rep t.ins.length j
    dsimp only at hb; rw [h] at hb; cases hb
theorem fin_ok {t : TrG} (hr : RightV t) : KpN t 0 (finN t) := KpN.back hr _ _ (Nat.le_refl _) (begin_ok hr)
/-- What is kept keeps what it names. -/
structure PrnOk (t : TrG) (kp ex : List Bool) : Prop where
  uses : ∀ k, bA kp k = true → ∀ p ∈ usesV (atL t.ins k), bA kp p.toNat = true
  outs : ∀ k, bA kp k = true → ∀ x ∈ outsV (atL t.ins k), bA ex x.toNat = true
  exs : ∀ x : Nat, bA ex x = true → ∀ p ∈ (outAt t x).stack ++ (outAt t x).back, bA kp p.toNat = true
  pure : ∀ k, k < t.ins.length → bA kp k = false → pureV (atL t.ins k) = true
  last : bA ex t.last.toNat = true
theorem prnOk {t : TrG} (hr : RightV t) : PrnOk t (finN t).2 (finN t).1.exs := by
  have h := fin_ok hr
  exact ⟨fun k hk p hp => h.keep _ (Nat.zero_le _) (h.uses k (Nat.zero_le _) hk p hp), fun k hk => h.outs k (Nat.zero_le _) hk, fun x hx p hp => h.keep _ (Nat.zero_le _) (h.cl x hx p hp), fun k hk => h.pure k (Nat.zero_le _) hk, h.last⟩

/-! ### What is left -/
def keepL {α : Type} (f : Nat → Bool) : List α → List α
  | [] => []
  | a :: r => if f 0 = true then a :: keepL (fun k => f (k + 1)) r else keepL (fun k => f (k + 1)) r
theorem keepL_cons {α : Type} (f : Nat → Bool) (a : α) (r : List α) : keepL f (a :: r) = if f 0 = true then a :: keepL (fun k => f (k + 1)) r else keepL (fun k => f (k + 1)) r := rfl
theorem keepL_app {α : Type} (a b : List α) : ∀ f : Nat → Bool, keepL f (a ++ b) = keepL f a ++ keepL (fun k => f (k + a.length)) b := by
  induction a with
  | nil => intro f; rfl
  | cons x r ih =>
    intro f
    have e : (fun k => f (k + (x :: r).length)) = fun k => (fun k => f (k + 1)) (k + r.length) := by funext k; rfl
    show keepL f (x :: (r ++ b)) = _
    rw [e, keepL_cons, keepL_cons, ih]
    split <;> rfl
theorem keepL_len {α : Type} (l : List α) : ∀ f : Nat → Bool, (keepL f l).length ≤ l.length := by
  induction l with
  | nil => intro f; exact Nat.le_refl _
  | cons x r ih =>
    intro f
    unfold keepL
    have := ih (fun k => f (k + 1))
    split <;> simp <;> omega
theorem keepL_take {α : Type} {f : Nat → Bool} {l : List α} {k : Nat} {a : α} (h : l[k]? = some a) : keepL f (l.take (k + 1)) = keepL f (l.take k) ++ (if f k = true then [a] else []) := by
  have hk : k < l.length := (List.getElem?_eq_some_iff.1 h).1
  rw [List.take_add_one, h]
  rw [keepL_app]
  congr 1
  rw [List.length_take, Nat.min_eq_left (by omega)]
  show keepL _ [a] = _
  unfold keepL
  simp [keepL]
theorem keepL_at {α : Type} {f : Nat → Bool} {l : List α} {k : Nat} {a : α} (h : l[k]? = some a) (hf : f k = true) : (keepL f l)[(keepL f (l.take k)).length]? = some a := by
  have hk : k < l.length := (List.getElem?_eq_some_iff.1 h).1
  have e : l = l.take (k + 1) ++ l.drop (k + 1) := (List.take_append_drop _ _).symm
  have h1 : keepL f l = keepL f (l.take (k + 1)) ++ keepL (fun j => f (j + (l.take (k + 1)).length)) (l.drop (k + 1)) := by
    rw [← keepL_app, ← e]
  rw [h1, keepL_take h, if_pos hf, List.append_assoc, List.getElem?_append_right (Nat.le_refl _)]
  simp
theorem keepL_mem {α : Type} (l : List α) : ∀ (f : Nat → Bool) (a : α), a ∈ keepL f l → a ∈ l := by
  induction l with
  | nil => intro f a h; exact h
  | cons x r ih =>
    intro f a h
    unfold keepL at h
    split at h
    · rcases List.mem_cons.1 h with rfl | h
      · simp
      · exact List.mem_cons_of_mem _ (ih _ a h)
    · exact List.mem_cons_of_mem _ (ih _ a h)
/-- Exits' new numbers. -/
def exM (ex : List Bool) (os : List OuV) (n : Nat) : List Int := (List.range n).map fun x => ((keepL (bA ex) (os.take x)).length : Int)
theorem exM_len (ex : List Bool) (os : List OuV) (n : Nat) : (exM ex os n).length = n := by unfold exM; simp
theorem exM_at {ex : List Bool} {os : List OuV} {n : Nat} {x : Int} (h0 : 0 ≤ x) (h1 : x < n) : ofV (exM ex os n) x = ((keepL (bA ex) (os.take x.toNat)).length : Int) := by
  rw [ofV_in h0 (by rw [exM_len]; exact h1)]
  unfold getI exM
  rw [List.getD_eq_getElem?_getD, List.getElem?_map, List.getElem?_range (by omega)]; rfl
def renV (ex : List Int) (i : In5) : In5 :=
  if (outsV i).length = 2 then { i with b := ofV ex i.b, e := ofV ex i.e } else
  if (outsV i).length = 1 then { i with e := ofV ex i.e } else i
/-- The first k instructions: what is left of them, and where they are. -/
def prnL (t : TrG) (kp : List Bool) (ex : List Int) : Nat → List In5 × List Int
  | 0 => ([], [])
  | k + 1 => (if bA kp k = true then (prnL t kp ex k).1 ++ [renV ex (insM (prnL t kp ex k).2 (atL t.ins k))] else (prnL t kp ex k).1, (prnL t kp ex k).2 ++ [((prnL t kp ex k).1.length : Int)])
def prnA (t : TrG) (kp ex : List Bool) : TrG :=
  { t with ins := (prnL t kp (exM ex t.outs t.outs.length) t.ins.length).1,
           outs := (keepL (bA ex) t.outs).map (outM (prnL t kp (exM ex t.outs t.outs.length) t.ins.length).2),
           last := ofV (exM ex t.outs t.outs.length) t.last }
/-- The trace without what nobody needs, of one that may be. -/
def prnT (t : TrG) : TrG := prnA t (finN t).2 (finN t).1.exs
theorem prnL_len (t : TrG) (kp : List Bool) (ex : List Int) : ∀ k, (prnL t kp ex k).2.length = k ∧ (prnL t kp ex k).1.length ≤ k
  | 0 => ⟨rfl, Nat.le_refl _⟩
  | k + 1 => by
    obtain ⟨a, b⟩ := prnL_len t kp ex k
    unfold prnL
    refine ⟨by simp [a], ?_⟩
    dsimp only
    split
    · rw [List.length_append]; simp; omega
    · omega
theorem prnL_more (t : TrG) (kp : List Bool) (ex : List Int) (k : Nat) : ∀ d, ∃ (l : List In5) (m : List Int), prnL t kp ex (k + d) = ((prnL t kp ex k).1 ++ l, (prnL t kp ex k).2 ++ m)
  | 0 => ⟨[], [], by simp⟩
  | d + 1 => by
    obtain ⟨l, m, h⟩ := prnL_more t kp ex k d
    have e : prnL t kp ex (k + (d + 1)) = (if bA kp (k + d) = true then (prnL t kp ex (k + d)).1 ++ [renV ex (insM (prnL t kp ex (k + d)).2 (atL t.ins ((k + d : Nat) : Int)))] else (prnL t kp ex (k + d)).1, (prnL t kp ex (k + d)).2 ++ [((prnL t kp ex (k + d)).1.length : Int)]) := rfl
    rw [e, h]
    by_cases hb : bA kp (k + d) = true
    · rw [if_pos hb]
      exact ⟨l ++ [renV ex (insM ((prnL t kp ex k).2 ++ m) (atL t.ins ((k + d : Nat) : Int)))], m ++ [(((prnL t kp ex k).1 ++ l).length : Int)], by simp⟩
    · rw [if_neg hb]
      exact ⟨l, m ++ [(((prnL t kp ex k).1 ++ l).length : Int)], by simp⟩
theorem outsV_cases (i : In5) : ((outsV i).length = 0 ∧ outsV i = []) ∨ ((outsV i).length = 1 ∧ outsV i = [i.e] ∧ i.a ≠ 6) ∨ ((outsV i).length = 2 ∧ outsV i = [i.e, i.b] ∧ i.a = 6) := by
  unfold outsV
  repeat' split
  all_goals first | exact Or.inl ⟨rfl, rfl⟩ | exact Or.inr (Or.inl ⟨rfl, rfl, by omega⟩) | exact Or.inr (Or.inr ⟨rfl, rfl, by omega⟩)
theorem renV_a (ex : List Int) (i : In5) : (renV ex i).a = i.a ∧ (renV ex i).c = i.c ∧ (renV ex i).d = i.d ∧ (i.a ≠ 6 → (renV ex i).b = i.b) := by
  unfold renV
  split
  · next h =>
    refine ⟨rfl, rfl, rfl, fun h6 => ?_⟩
    rcases outsV_cases i with ⟨g, _⟩ | ⟨g, _⟩ | ⟨_, _, g⟩
    · omega
    · omega
    · exact absurd g h6
  · split <;> exact ⟨rfl, rfl, rfl, fun _ => rfl⟩
theorem renV_uses (ex : List Int) (i : In5) : usesV (renV ex i) = usesV i := by
  obtain ⟨h1, h2, h3, h4⟩ := renV_a ex i
  unfold usesV
  rw [h1, h2, h3]
  by_cases h : i.a = 6
  · rw [h]; rfl
  · rw [h4 h]
theorem renV_outs (ex : List Int) (i : In5) : outsV (renV ex i) = (outsV i).map (ofV ex) := by
  rcases outsV_cases i with ⟨g, h⟩ | ⟨g, h, h6⟩ | ⟨g, h, h6⟩
  · have : renV ex i = i := by unfold renV; rw [if_neg (by omega), if_neg (by omega)]
    rw [this, h]; rfl
  · have e : renV ex i = { i with e := ofV ex i.e } := by unfold renV; rw [if_neg (by omega), if_pos g]
    rw [e, h]
    have e2 : ∀ y, outsV { i with e := y } = if (outsV i).length = 1 then [y] else outsV { i with e := y } := fun y => by
      rw [if_pos g]
      unfold outsV at g ⊢
      dsimp only
      repeat' split at g
      all_goals first | (exfalso; simp at g; done) | skip
      all_goals first | (rw [if_pos (by assumption), if_pos (by assumption)]; done) | (rw [if_neg (by assumption), if_pos (by assumption)]; done) | (exfalso; simp at g)
    rw [e2, if_pos g]; rfl
  · have e : renV ex i = { i with b := ofV ex i.b, e := ofV ex i.e } := by unfold renV; rw [if_pos g]
    rw [e, h]
    unfold outsV
    dsimp only
    rw [if_neg (by omega), if_neg (by omega), if_pos h6]; rfl
/-- What an instruction does hangs on no exit's number. -/
theorem ocV_ren (ex : List Int) (i : In5) (b c : Int) (s : StV) (wl : List Int) : ocV (renV ex i).a (renV ex i).b b c s wl = ocV i.a i.b b c s wl := by
  obtain ⟨h1, _, _, h4⟩ := renV_a ex i
  rw [h1]
  by_cases h : i.a = 6
  · rw [h]; rfl
  · rw [h4 h]
end Go.Proofs.Ytblmoilneiffgaa

/- Taking away what nobody needs: the trace that is left may be, and does what the trace does. No program in sight. -/
set_option maxRecDepth 100000
namespace Go.Proofs.Ytblmoilneiffgaa
open Go.RowKit

/-- What is known of the map, behind the first k instructions of ti. -/
structure MapK (ti : List In5) (kp : List Bool) (k : Nat) (l : List In5) (m : List Int) : Prop where
  len : m.length = k
  le : l.length ≤ k
  pl : ∀ p : Int, 0 ≤ p → p < k → bA kp p.toNat = true → givesV (atL ti p).a = true → (0 ≤ ofV m p ∧ ofV m p < l.length) ∧ givesV (atL l (ofV m p)).a = true
/-- Places ahead of one, that give and are kept. -/
def NamK (ti : List In5) (kp : List Bool) (ps : List Int) (k : Nat) : Prop := NamL ti ps k ∧ ∀ p ∈ ps, bA kp p.toNat = true
theorem MapK.named {ti l : List In5} {kp : List Bool} {k : Nat} {m : List Int} (h : MapK ti kp k l m) {ps : List Int} (hp : NamK ti kp ps k) : NamL l (ps.map (ofV m)) l.length := fun q hq => by
  obtain ⟨p, hp', rfl⟩ := List.mem_map.1 hq
  obtain ⟨a, b, c⟩ := hp.1 p hp'
  obtain ⟨d, e⟩ := h.pl p a b (hp.2 p hp') c
  exact ⟨d.1, d.2, e⟩
theorem prnL_map (t : TrG) (kp : List Bool) (ex : List Int) : ∀ k, k ≤ t.ins.length → MapK t.ins kp k (prnL t kp ex k).1 (prnL t kp ex k).2
  | 0, _ => ⟨rfl, Nat.le_refl _, fun p h0 h1 => by omega⟩
  | k + 1, hk => by
    have h := prnL_map t kp ex k (by omega)
    obtain ⟨l1, l2⟩ := prnL_len t kp ex (k + 1)
    refine ⟨l1, l2, fun p h0 h1 hb hg => ?_⟩
    have e2 : (prnL t kp ex (k + 1)).2 = (prnL t kp ex k).2 ++ [((prnL t kp ex k).1.length : Int)] := rfl
    have e1 : (prnL t kp ex (k + 1)).1 = if bA kp k = true then (prnL t kp ex k).1 ++ [renV ex (insM (prnL t kp ex k).2 (atL t.ins k))] else (prnL t kp ex k).1 := rfl
    rw [e2]
    by_cases hpk : p = k
    · subst hpk
      rw [ofV_end (by rw [h.len])]
      rw [Int.toNat_natCast] at hb
      rw [e1, if_pos hb, atL_end rfl, (renV_a _ _).1, (insM_op _ _).1]
      exact ⟨⟨by omega, by rw [List.length_append]; simp; omega⟩, hg⟩
    · obtain ⟨a, b⟩ := h.pl p h0 (by omega) hb hg
      rw [ofV_app _ h0 (by rw [h.len]; omega), e1]
      split
      · exact ⟨⟨a.1, by rw [List.length_append]; omega⟩, by rw [atL_app _ a.1 a.2]; exact b⟩
      · exact ⟨a, b⟩
section
variable {t : TrG} {kp ex : List Bool}
def exI (t : TrG) (ex : List Bool) : List Int := exM ex t.outs t.outs.length
theorem prnA_ins : (prnA t kp ex).ins = (prnL t kp (exI t ex) t.ins.length).1 := rfl
theorem prn_pre {k : Nat} (hk : k ≤ t.ins.length) : ∃ (l : List In5) (m : List Int), (prnA t kp ex).ins = (prnL t kp (exI t ex) k).1 ++ l ∧ (prnL t kp (exI t ex) t.ins.length).2 = (prnL t kp (exI t ex) k).2 ++ m := by
  obtain ⟨l, m, h⟩ := prnL_more t kp (exI t ex) k (t.ins.length - k)
  rw [Nat.add_sub_cancel' hk] at h
  exact ⟨l, m, by rw [prnA_ins, h], by rw [h]⟩
theorem outAt_ge {x : Int} (h0 : 0 ≤ x) (h1 : x < t.outs.length) : t.outs[x.toNat]? = some (outAt t x) := by
  unfold outAt; rw [List.getD_eq_getElem?_getD, List.getElem?_eq_getElem (by omega)]; rfl
/-- A named exit, in the other trace. -/
theorem prn_out {x : Int} (h0 : 0 ≤ x) (h1 : x < t.outs.length) (hx : bA ex x.toNat = true) :
    (0 ≤ ofV (exI t ex) x ∧ ofV (exI t ex) x < (prnA t kp ex).outs.length) ∧ outAt (prnA t kp ex) (ofV (exI t ex) x) = outM (prnL t kp (exI t ex) t.ins.length).2 (outAt t x) := by
  have h := keepL_at (f := bA ex) (outAt_ge h0 h1) hx
  have e : ofV (exI t ex) x = _ := exM_at h0 h1
  have hl : (keepL (bA ex) (t.outs.take x.toNat)).length < (keepL (bA ex) t.outs).length := (List.getElem?_eq_some_iff.1 h).1
  rw [e]
  refine ⟨⟨by omega, ?_⟩, ?_⟩
  · show _ < ((((keepL (bA ex) t.outs).map _).length : Nat) : Int)
    rw [List.length_map]; omega
  · show ((keepL (bA ex) t.outs).map _).getD _ _ = _
    rw [List.getD_eq_getElem?_getD, List.getElem?_map, Int.toNat_natCast, h]; rfl
theorem map_of_appK {m : List Int} (r : List Int) {l : List In5} {ps : List Int} {k : Nat} (hk : m.length = k) (h : NamK l kp ps k) : ps.map (ofV (m ++ r)) = ps.map (ofV m) := map_of_app r hk h.1
theorem exs_named (ok : PrnOk t kp ex) {x : Int} (h0 : 0 ≤ x) (hx : bA ex x.toNat = true) : (∀ p ∈ (outAt t x).stack, bA kp p.toNat = true) ∧ ∀ p ∈ (outAt t x).back, bA kp p.toNat = true := by
  have h := ok.exs x.toNat hx
  have e : ((x.toNat : Nat) : Int) = x := by omega
  rw [e] at h
  exact ⟨fun p hp => h p (List.mem_append_left _ hp), fun p hp => h p (List.mem_append_right _ hp)⟩
/-- An exit that was named, in the other trace. -/
theorem prn_named (ok : PrnOk t kp ex) {x : Int} {k : Nat} (hk : k ≤ t.ins.length) (hx : OutV t x k) (hb : bA ex x.toNat = true) : OutV (prnA t kp ex) (ofV (exI t ex) x) (prnL t kp (exI t ex) k).1.length := by
  obtain ⟨h0, h1, h2, h3⟩ := hx
  obtain ⟨n1, n2⟩ := exs_named ok h0 hb
  obtain ⟨⟨a, b⟩, c⟩ := prn_out (kp := kp) h0 h1 hb
  obtain ⟨l', m', hl, hm⟩ := prn_pre (t := t) (kp := kp) (ex := ex) hk
  have hmap := prnL_map t kp (exI t ex) k hk
  refine ⟨a, b, ?_, ?_⟩
  · rw [c, named_iff, hl]
    unfold outM; dsimp only
    rw [hm, map_of_app m' hmap.len (named_iff.1 h2)]
    exact (hmap.named ⟨named_iff.1 h2, n1⟩).app (Nat.le_refl _) _
  · rw [c, named_iff, hl]
    unfold outM; dsimp only
    rw [hm, map_of_app m' hmap.len (named_iff.1 h3)]
    exact (hmap.named ⟨named_iff.1 h3, n2⟩).app (Nat.le_refl _) _
theorem prn_each (hr : RightV t) (ok : PrnOk t kp ex) : ∀ k, k ≤ t.ins.length → ∀ (j : Nat) (i : In5), (prnL t kp (exI t ex) k).1[j]? = some i → EachV (prnA t kp ex) j i ∧ (i.a = 1 → ∃ j ∈ t.ins, j.a = 1 ∧ j.b = i.b)
  | 0, _, j, i, h => by simp [prnL] at h
  | k + 1, hk, j, i, h => by
    have ih := prn_each hr ok k (by omega) j i
    have e1 : (prnL t kp (exI t ex) (k + 1)).1 = if bA kp k = true then (prnL t kp (exI t ex) k).1 ++ [renV (exI t ex) (insM (prnL t kp (exI t ex) k).2 (atL t.ins k))] else (prnL t kp (exI t ex) k).1 := rfl
    rw [e1] at h
    split at h
    · next hb =>
      by_cases hj : j < (prnL t kp (exI t ex) k).1.length
      · rw [List.getElem?_append_left hj] at h; exact ih h
      · rw [List.getElem?_append_right (by omega)] at h
        have hj0 : j - (prnL t kp (exI t ex) k).1.length = 0 := by
          rcases Nat.eq_zero_or_pos (j - (prnL t kp (exI t ex) k).1.length) with h' | h'
          · exact h'
          · rw [List.getElem?_eq_none (by simp; omega)] at h; cases h
        rw [hj0] at h
        obtain rfl := Option.some.inj h
        have hjj : j = (prnL t kp (exI t ex) k).1.length := by omega
        subst hjj
        have hE := atL_each hr (k := k) (by omega)
        obtain ⟨a1, a2, a3, a4, a5, a6⟩ := hE
        obtain ⟨o1, o2, o3⟩ := insM_op (prnL t kp (exI t ex) k).2 (atL t.ins k)
        obtain ⟨r1, r2, r3, r4⟩ := renV_a (exI t ex) (insM (prnL t kp (exI t ex) k).2 (atL t.ins k))
        have hmap := prnL_map t kp (exI t ex) k (by omega)
        obtain ⟨l', m', hl, hm⟩ := prn_pre (t := t) (kp := kp) (ex := ex) (k := k) (by omega)
        have rb : (atL t.ins k).a ≠ 6 → (renV (exI t ex) (insM (prnL t kp (exI t ex) k).2 (atL t.ins k))).b = (atL t.ins k).b := fun h => by rw [r4 (by rw [o1]; exact h), o2]
        refine ⟨⟨by rw [r1, o1]; exact a1, fun h => ?_, fun h => ?_, fun h => ?_, ?_, fun x hx => ?_⟩, fun h => ?_⟩
        · rw [r1, o1] at h; rw [rb (by omega)]; exact a2 h
        · rw [r1, o1] at h; rw [rb (by omega)]; exact a3 h
        · rw [r1, o1] at h; rw [rb (by omega)]; exact a4 h
        · rw [named_iff, hl, renV_uses, insM_uses]
          exact (hmap.named ⟨named_iff.1 a5, ok.uses k hb⟩).app (Nat.le_refl _) _
        · rw [renV_outs, outsV_op o1 o2 o3] at hx
          obtain ⟨y, hy, rfl⟩ := List.mem_map.1 hx
          exact prn_named ok (by omega) (a6 y hy) (ok.outs k hb y hy)
        · rw [r1, o1] at h
          refine ⟨atL t.ins k, ?_, h, (rb (by omega)).symm⟩
          exact List.mem_of_getElem? (i := k) (by rw [List.getElem?_eq_getElem (by omega), atL_get (List.getElem?_eq_getElem (by omega))])
    · exact ih h
theorem prn_right (hr : RightV t) (ok : PrnOk t kp ex) : RightV (prnA t kp ex) := by
  obtain ⟨q1, q2, q3⟩ := hr.head
  obtain ⟨_, hle⟩ := prnL_len t kp (exI t ex) t.ins.length
  obtain ⟨⟨_, _⟩, c⟩ := prn_out (kp := kp) hr.last.1 hr.last.2.1 ok.last
  refine ⟨⟨by rw [prnA_ins]; omega, ?_, q3⟩, fun k i hi => (prn_each hr ok _ (Nat.le_refl _) k i hi).1, fun k o ho => ?_, hr.cells, prn_named ok (Nat.le_refl _) hr.last ok.last, ?_⟩
  · show ((keepL (bA ex) t.outs).map _).length ≤ 300
    rw [List.length_map]
    have := keepL_len t.outs (bA ex); omega
  · have ho : ((keepL (bA ex) t.outs).map (outM (prnL t kp (exI t ex) t.ins.length).2))[k]? = some o := ho
    rw [List.getElem?_map] at ho
    obtain ⟨o', ho', rfl⟩ := Option.map_eq_some_iff.1 ho
    obtain ⟨j, hj⟩ := List.getElem?_of_mem (keepL_mem _ _ _ (List.mem_of_getElem? ho'))
    obtain ⟨e1, e2, e3, e4⟩ := hr.exits j o' hj
    exact ⟨e1, e2, by unfold outM; dsimp only; rw [List.length_map]; exact e3, by unfold outM; dsimp only; rw [List.length_map]; exact e4⟩
  · show 1 ≤ (outAt (prnA t kp ex) (ofV (exI t ex) t.last)).steps
    rw [c]
    exact hr.lastS
/-! ### What it does -/
/-- The values of places that give and are kept are those of their places in the other trace. -/
def SimK (ti : List In5) (kp : List Bool) (k : Nat) (m : List Int) (n n' : Nat) (e e' : En) : Prop := ∀ p : Int, 0 ≤ p → p < k → bA kp p.toNat = true → givesV (atL ti p).a = true → valV (idA n') (ofV m p) e' = valV (idA n) p e
theorem SimK.vals {ti : List In5} {k : Nat} {m : List Int} {n n' : Nat} {e e' : En} (h : SimK ti kp k m n n' e e') {ps : List Int} (hp : NamK ti kp ps k) : valsV (idA n') (ps.map (ofV m)) e' = valsV (idA n) ps e := by
  unfold valsV
  rw [List.map_map]
  apply List.map_congr_left
  intro p hp'
  obtain ⟨a, b, c⟩ := hp.1 p hp'
  exact h p a b (hp.2 p hp') c
theorem SimK.uses {k : Nat} {m : List Int} {n n' : Nat} {e e' : En} (h : SimK t.ins kp k m n n' e e') {wl : List Int} {s : StV} {i : In5} (hi : EachV t k i) (hu : ∀ p ∈ usesV i, bA kp p.toNat = true) : ocV i.a i.b (valV (idA n) i.c e) (valV (idA n) i.d e) s wl = ocV i.a i.b (valV (idA n') (insM m i).c e') (valV (idA n') (insM m i).d e') s wl := by
  obtain ⟨h1, h2, h3, h4, h5, h6⟩ := hi
  apply ocV_uses h2
  · intro hc
    obtain ⟨a, b, c⟩ := h5 _ hc
    have := h _ a b (hu _ hc) c
    rw [← this]
    rcases usesV_cases i with ⟨g1, g2⟩ | ⟨g1, g2⟩ | ⟨g1, g2⟩
    · rw [g2] at hc; cases hc
    · unfold insM; rw [if_neg (by omega), if_pos g1]
    · unfold insM; rw [if_pos g1]
  · intro hc
    rcases usesV_cases i with ⟨g1, g2⟩ | ⟨g1, g2⟩ | ⟨g1, g2⟩
    · omega
    · omega
    · have hd : i.d ∈ usesV i := by rw [g2]; simp
      obtain ⟨a, b, c⟩ := h5 _ hd
      have := h _ a b (hu _ hd) c
      rw [← this]
      unfold insM; rw [if_pos g1]
/-- Behind a step, in which the trace's instruction has no value, or is not kept. -/
theorem SimK.none {ti : List In5} {k : Nat} {m : List Int} {n n' : Nat} {e e' : En} (h : SimK ti kp k m n n' e e') (hl : m.length = k) (hg : givesV (atL ti k).a = false) (x : Int) (s s' : StV) : SimK ti kp (k + 1) (m ++ [x]) n n' { e with s := s } { e' with s := s' } := by
  intro p h0 h1 hb hp
  by_cases hk : p = k
  · subst hk; rw [hg] at hp; cases hp
  · rw [ofV_app _ h0 (by omega)]
    exact h p h0 (by omega) hb hp
theorem SimK.gone {ti : List In5} {k : Nat} {m : List Int} {n n' : Nat} {e e' : En} (h : SimK ti kp k m n n' e e') (hl : m.length = k) (hk : k < n) (hg : bA kp k = false) (x v : Int) (s s' : StV) : SimK ti kp (k + 1) (m ++ [x]) n n' (setV (idA n) k v { e with s := s }) { e' with s := s' } := by
  intro p h0 h1 hb hp
  by_cases hpk : p = k
  · subst hpk; rw [Int.toNat_natCast, hg] at hb; cases hb
  · rw [ofV_app _ h0 (by omega), val_ne (by omega) (by omega) h0 (by omega) hpk]
    exact h p h0 (by omega) hb hp
theorem SimK.some {ti : List In5} {k : Nat} {m : List Int} {n n' l : Nat} {e e' : En} (h : SimK ti kp k m n n' e e') (hl : m.length = k) (hk : k < n) (hl' : l < n') (hr : e.regs.length = n) (hr' : e'.regs.length = n')
    (hm : ∀ p : Int, 0 ≤ p → p < k → bA kp p.toNat = true → givesV (atL ti p).a = true → 0 ≤ ofV m p ∧ ofV m p < l) (v : Int) (s s' : StV) :
    SimK ti kp (k + 1) (m ++ [(l : Int)]) n n' (setV (idA n) k v { e with s := s }) (setV (idA n') l v { e' with s := s' }) := by
  intro p h0 h1 hb hp
  by_cases hpk : p = k
  · subst hpk
    rw [ofV_end (by rw [hl]), val_same (e := { e' with s := s' }) (by omega) (by omega) hr', val_same (e := { e with s := s }) (by omega) (by omega) hr]
  · obtain ⟨a, b⟩ := hm p h0 (by omega) hb hp
    rw [ofV_app _ h0 (by omega), val_ne (by omega) (by omega) a (by omega) (by omega), val_ne (by omega) (by omega) h0 (by omega) hpk]
    exact h p h0 (by omega) hb hp
theorem pureV_oc {i : In5} (hp : pureV i = true) (h0 : i.a = 4 → Cn.risTwo i.b = true ∨ Cn.risOne i.b = true) (b c : Int) (s : StV) (wl : List Int) : ∃ v, ocV i.a i.b b c s wl = .go s (Option.some v) := by
  have hp := of_decide_eq_true hp
  unfold ocV
  by_cases e1 : i.a = 1
  · rw [if_pos e1]; exact ⟨_, rfl⟩
  rw [if_neg e1]
  by_cases e2 : i.a = 2
  · rw [if_pos e2]; exact ⟨_, rfl⟩
  rw [if_neg e2]
  by_cases e3 : i.a = 3
  · rw [if_pos e3]; exact ⟨_, rfl⟩
  rw [if_neg e3]
  have h4 : i.a = 4 ∧ outsV i = [] := by
    rcases hp with h | h | h | h
    · exact absurd h e1
    · exact absurd h e2
    · exact absurd h e3
    · exact h
  rw [if_pos h4.1]
  by_cases c1 : Cn.isOne i.b = true
  · rw [if_pos c1]; exact ⟨_, rfl⟩
  rw [if_neg c1]
  have h2' : Cn.risTwo i.b = true := (h0 h4.1).resolve_right (fun hh => c1 (by rw [isOne_eq]; exact hh))
  have hno : ¬ (i.b = 14 ∨ i.b = 15) := fun h => by
    have h5 := h4.2
    unfold outsV at h5
    rw [if_pos h4.1, if_pos h] at h5
    cases h5
  rw [if_pos (by rw [isTwo_eq h2', decide_eq_false (fun h => hno h.1)]; rfl)]
  exact ⟨_, rfl⟩
/-- An exit, in the other trace: the same machine. -/
theorem SimK.leave (ok : PrnOk t kp ex) {k : Nat} {m m' : List Int} {n n' : Nat} {e e' : En} (h : SimK t.ins kp k m n n' e e') (hl : m.length = k) {x : Int} (hx : OutV t x k) (hb : bA ex x.toNat = true) (hm : (prnL t kp (exI t ex) t.ins.length).2 = m ++ m') (hs : e'.s = e.s) :
    leaveV (prnA t kp ex) (idA n') (ofV (exI t ex) x) e' = leaveV t (idA n) x e := by
  obtain ⟨x0, x1, x2, x3⟩ := hx
  obtain ⟨n1, n2⟩ := exs_named ok x0 hb
  obtain ⟨_, ho⟩ := prn_out (kp := kp) x0 x1 hb
  unfold leaveV
  rw [ho, hs, hm]
  unfold outM
  dsimp only
  rw [map_of_app m' hl (named_iff.1 x2), map_of_app m' hl (named_iff.1 x3), h.vals ⟨named_iff.1 x2, n1⟩, h.vals ⟨named_iff.1 x3, n2⟩]
  rfl
/-- The steps of both, from some place on: the same exit, the same machine there. -/
theorem prn_sim (hr : RightV t) (ok : PrnOk t kp ex) (wl : List Int) : ∀ (r : List In5) (k : Nat) (l : List In5) (m : List Int) (e e' : En), t.ins.drop k = r → k ≤ t.ins.length → prnL t kp (exI t ex) k = (l, m) →
    SimK t.ins kp k m t.ins.length (prnA t kp ex).ins.length e e' → e'.s = e.s → e'.hit = e.hit → e.regs.length = t.ins.length → e'.regs.length = (prnA t kp ex).ins.length →
    ∀ g g' : Int × En, g = goV (idA t.ins.length) wl t.last r k e → g' = goV (idA (prnA t kp ex).ins.length) wl (prnA t kp ex).last ((prnA t kp ex).ins.drop l.length) l.length e' →
      (0 ≤ g.1 ∧ g.1 < t.outs.length ∧ bA ex g.1.toNat = true) ∧ g'.1 = ofV (exI t ex) g.1 ∧ leaveV (prnA t kp ex) (idA (prnA t kp ex).ins.length) g'.1 g'.2 = leaveV t (idA t.ins.length) g.1 g.2 ∧ g'.2.hit = g.2.hit
  | [], k, l, m, e, e', hd, hk, hf, hv, hs, hh, hg, hg', g, g', hgg, hgg' => by
    subst hgg hgg'
    have hkl : k = t.ins.length := by
      have h1 : t.ins.length ≤ k := List.drop_eq_nil_iff.1 hd
      omega
    subst hkl
    have hl : (prnA t kp ex).ins = l := by rw [prnA_ins, hf]
    have hmm : (prnL t kp (exI t ex) t.ins.length).2 = m ++ [] := by rw [hf]; simp
    have hml : m.length = t.ins.length := by have := (prnL_len t kp (exI t ex) t.ins.length).1; rw [hf] at this; exact this
    rw [hl, List.drop_length]
    refine ⟨⟨hr.last.1, hr.last.2.1, ok.last⟩, rfl, ?_, hh⟩
    rw [← hl]
    exact hv.leave ok hml hr.last ok.last hmm hs
  | i :: r, k, l, m, e, e', hd, hkk, hf, hv, hs, hh, hg, hg', g, g', hgg, hgg' => by
    have hi : t.ins[k]? = some i := by rw [← List.head?_drop, hd]; rfl
    have hd' : t.ins.drop (k + 1) = r := by rw [← List.drop_drop, hd]; rfl
    have hk : k < t.ins.length := (List.getElem?_eq_some_iff.1 hi).1
    have hat : atL t.ins k = i := atL_get hi
    have he := hr.each k i hi
    have hmap := prnL_map t kp (exI t ex) k hkk
    rw [hf] at hmap
    have hml : m.length = k := hmap.len
    have hstep : prnL t kp (exI t ex) (k + 1) = (if bA kp k = true then l ++ [renV (exI t ex) (insM m i)] else l, m ++ [(l.length : Int)]) := by
      show (if bA kp k = true then (prnL t kp (exI t ex) k).1 ++ [renV (exI t ex) (insM (prnL t kp (exI t ex) k).2 (atL t.ins k))] else (prnL t kp (exI t ex) k).1, (prnL t kp (exI t ex) k).2 ++ [((prnL t kp (exI t ex) k).1.length : Int)]) = _
      rw [hf, hat]
    obtain ⟨lt, mt, hl', hm'⟩ := prn_pre (t := t) (kp := kp) (ex := ex) (k := k + 1) (by omega)
    obtain ⟨lt0, mt0, _, hm0⟩ := prn_pre (t := t) (kp := kp) (ex := ex) (k := k) (by omega)
    rw [hf] at hm0
    rw [hstep] at hl'
    by_cases hb : bA kp k = true
    · rw [if_pos hb] at hstep hl'
      have hu := hv.uses he (by have := ok.uses k hb; rw [hat] at this; exact this) (wl := wl) (s := e.s)
      have huo := ok.outs k hb
      rw [hat] at huo
      obtain ⟨o1, o2, o3⟩ := insM_op m i
      obtain ⟨r1, r2, r3, r4⟩ := renV_a (exI t ex) (insM m i)
      have hln : l.length < (prnA t kp ex).ins.length := by rw [hl']; simp
      have hdr : (prnA t kp ex).ins.drop l.length = renV (exI t ex) (insM m i) :: (prnA t kp ex).ins.drop (l.length + 1) := by
        have h1 : (prnA t kp ex).ins.drop l.length = renV (exI t ex) (insM m i) :: lt := by rw [hl', List.append_assoc, List.drop_left]; rfl
        have h2 : (prnA t kp ex).ins.drop (l.length + 1) = lt := by rw [← List.drop_drop, h1]; rfl
        rw [h2]; exact h1
      rw [hdr] at hgg'
      have hpl : ∀ p : Int, 0 ≤ p → p < k → bA kp p.toNat = true → givesV (atL t.ins p).a = true → 0 ≤ ofV m p ∧ ofV m p < l.length := fun p a b c d => (hmap.pl p a b c d).1
      have hgv := ocV_gives (op := i.a) i.b (valV (idA t.ins.length) i.c e) (valV (idA t.ins.length) i.d e) e.s wl he.1
      have hu2 : ocV (renV (exI t ex) (insM m i)).a (renV (exI t ex) (insM m i)).b (valV (idA (prnA t kp ex).ins.length) (renV (exI t ex) (insM m i)).c e') (valV (idA (prnA t kp ex).ins.length) (renV (exI t ex) (insM m i)).d e') e'.s wl = ocV i.a i.b (valV (idA t.ins.length) i.c e) (valV (idA t.ins.length) i.d e) e.s wl := by
        rw [ocV_ren, r2, r3, o1, o2, hs, hu]
      have hre : ∀ x, x ∈ outsV i → (renV (exI t ex) (insM m i)).e = ofV (exI t ex) i.e := fun x hx => by
        have hou : outsV (insM m i) = outsV i := outsV_op o1 o2 o3
        unfold renV
        rw [hou]
        rcases outsV_cases i with ⟨g, h⟩ | ⟨g, h, _⟩ | ⟨g, h, _⟩
        · rw [h] at hx; cases hx
        · rw [if_neg (by omega), if_pos g]; show ofV _ (insM m i).e = _; rw [o3]
        · rw [if_pos g]; show ofV _ (insM m i).e = _; rw [o3]
      have hrb : i.a = 6 → (renV (exI t ex) (insM m i)).b = ofV (exI t ex) i.b := fun h6 => by
        have hou : outsV (insM m i) = outsV i := outsV_op o1 o2 o3
        unfold renV
        rw [hou]
        rcases outsV_cases i with ⟨g, h⟩ | ⟨g, h, h'⟩ | ⟨g, h, _⟩
        · unfold outsV at h; rw [if_neg (by omega), if_neg (by omega), if_pos h6] at h; cases h
        · exact absurd h6 h'
        · rw [if_pos g]; show ofV _ (insM m i).b = _; rw [o2]
      cases hoc : ocV i.a i.b (valV (idA t.ins.length) i.c e) (valV (idA t.ins.length) i.d e) e.s wl with
      | go s ov =>
        rw [hoc] at hgv hu2
        cases ov with
        | none =>
          have hgv : givesV i.a = false := hgv
          rw [goV_go hoc] at hgg
          rw [goV_go hu2] at hgg'
          refine prn_sim hr ok wl r (k + 1) _ _ { e with s := s } { e' with s := s } hd' (by omega) hstep (hv.none hml (by rw [hat]; exact hgv) _ s s) rfl hh hg hg' g g' hgg ?_
          rw [hgg', List.length_append, List.length_singleton]; rfl
        | some v =>
          rw [goV_val hoc] at hgg
          rw [goV_val hu2] at hgg'
          refine prn_sim hr ok wl r (k + 1) _ _ (setV (idA t.ins.length) k v { e with s := s }) (setV (idA (prnA t kp ex).ins.length) l.length v { e' with s := s }) hd' (by omega) hstep (hv.some hml hk hln hg hg' hpl v s s) rfl hh (by rw [set_len]; exact hg) (by rw [set_len]; exact hg') g g' hgg ?_
          rw [hgg', List.length_append, List.length_singleton]; rfl
      | ex =>
        rw [hoc] at hu2
        have hm := ocV_ex he.2.1 hoc
        have hx := he.2.2.2.2.2 _ hm
        have hxb := huo _ hm
        have hxe := hre _ hm
        obtain ⟨⟨y0, _⟩, _⟩ := prn_out (kp := kp) hx.1 hx.2.1 hxb
        rw [goV_ex hoc hx.1] at hgg
        rw [goV_ex hu2 (by rw [hxe]; exact y0)] at hgg'
        subst hgg hgg'
        refine ⟨⟨hx.1, hx.2.1, hxb⟩, hxe, ?_, hh⟩
        dsimp only
        rw [hxe]
        exact hv.leave ok hml hx hxb hm0 hs
      | hit s a =>
        rw [hoc] at hu2
        have hm := (ocV_hit hoc).2
        have hx := he.2.2.2.2.2 _ hm
        have hxb := huo _ hm
        have hxe := hrb (ocV_hit hoc).1
        obtain ⟨⟨y0, _⟩, _⟩ := prn_out (kp := kp) hx.1 hx.2.1 hxb
        rw [goV_hit hoc hx.1] at hgg
        rw [goV_hit hu2 (by rw [hxe]; exact y0)] at hgg'
        subst hgg hgg'
        refine ⟨⟨hx.1, hx.2.1, hxb⟩, hxe, ?_, rfl⟩
        dsimp only
        rw [hxe]
        have hv' : SimK t.ins kp k m t.ins.length (prnA t kp ex).ins.length { e with s := s, hit := a } { e' with s := s, hit := a } := fun p a b c d => hv p a b c d
        exact hv'.leave ok hml hx hxb hm0 rfl
    · rw [if_neg hb] at hstep
      have hbf : bA kp k = false := by simpa using hb
      have hp := ok.pure k hk hbf
      rw [hat] at hp
      obtain ⟨v, hoc⟩ := pureV_oc hp he.2.1 (valV (idA t.ins.length) i.c e) (valV (idA t.ins.length) i.d e) e.s wl
      rw [goV_val hoc] at hgg
      exact prn_sim hr ok wl r (k + 1) l _ (setV (idA t.ins.length) k v { e with s := e.s }) e' hd' (by omega) hstep (hv.gone hml hk hbf _ v e.s e'.s) hs hh (by rw [set_len]; exact hg) hg' g g' hgg hgg'
end
theorem prn_runs {t : TrG} (hr : RightV t) (s : StV) (wl : List Int) :
    (0 ≤ (runG t s wl).1 ∧ (runG t s wl).1 < t.outs.length ∧ bA (finN t).1.exs (runG t s wl).1.toNat = true) ∧ (runG (prnT t) s wl).1 = ofV (exI t (finN t).1.exs) (runG t s wl).1 ∧ endV (prnT t) (runG (prnT t) s wl) = endV t (runG t s wl) ∧ (runG (prnT t) s wl).2.hit = (runG t s wl).2.hit := by
  exact prn_sim hr (prnOk hr) wl t.ins 0 [] [] (en0 t.ins.length s) (en0 (prnT t).ins.length s) rfl (Nat.zero_le _) rfl (fun p h0 h1 => by omega) rfl rfl (by simp [en0]) (by simp [en0, prnT]) _ _ rfl rfl
theorem prn_ok : PassOk prnT :=
  ⟨fun _ h => prn_right h (prnOk h), fun _ => ⟨rfl, rfl, rfl, rfl, rfl⟩, fun v hr hin i hi h1 => by
    obtain ⟨j, hj⟩ := List.getElem?_of_mem hi
    obtain ⟨i', hi', ha, hb⟩ := (prn_each hr (prnOk hr) _ (Nat.le_refl _) j i hj).2 h1
    rw [← hb]; exact hin i' hi' ha, fun v s wl hr => by
    obtain ⟨⟨h0, h1, h2⟩, h3, h4, h5⟩ := prn_runs hr s wl
    refine ⟨h4, h5, ?_⟩
    rw [h3]
    show (outAt (prnA v (finN v).2 (finN v).1.exs) _).steps = _
    rw [(prn_out h0 h1 h2).2]; rfl⟩
end Go.Proofs.Ytblmoilneiffgaa

/- Traces of constants and calculations: what reckoning ahead makes of them. No program in sight. -/
set_option maxRecDepth 100000
namespace Go.Proofs.Ytblmoilneiffgaa
open Go.RowKit

/-- A constant, or a calculation that always can be done, of places ahead of it. -/
def CfI (k : Nat) (i : In5) : Prop := (∃ x, Cn.In x ∧ i = ⟨1, x, 0, 0, 0⟩) ∨ (i.a = 4 ∧ ((Cn.risTwo i.b = true ∧ i.b ≠ 14 ∧ i.b ≠ 15) ∨ Cn.risOne i.b = true) ∧ (0 ≤ i.c ∧ i.c < k) ∧ (0 ≤ i.d ∧ i.d < k))
def CfL (l : List In5) : Prop := ∀ (k : Nat) (i : In5), l[k]? = some i → CfI k i
theorem CfL.snoc {l : List In5} (h : CfL l) {i : In5} (hi : CfI l.length i) : CfL (l ++ [i]) := fun k j hj => by
  by_cases hk : k < l.length
  · rw [List.getElem?_append_left hk] at hj; exact h k j hj
  · have hk2 : k = l.length := by have := (List.getElem?_eq_some_iff.1 hj).1; simp at this; omega
    subst hk2
    rw [List.getElem?_append_right (Nat.le_refl _), Nat.sub_self] at hj
    cases hj; exact hi
theorem CfI.gives {k : Nat} {i : In5} (h : CfI k i) : givesV i.a = true := by
  rcases h with ⟨x, _, rfl⟩ | ⟨h, _⟩
  · rfl
  · rw [h]; rfl
theorem CfI.outs {k : Nat} {i : In5} (h : CfI k i) : outsV i = [] := by
  rcases h with ⟨x, _, rfl⟩ | ⟨h, h2, _⟩
  · rfl
  · unfold outsV
    rw [if_pos h, if_neg]
    rcases h2 with ⟨_, a, b⟩ | h2
    · omega
    · unfold Cn.risOne at h2
      have := of_decide_eq_true h2; omega
theorem CfI.uses {k : Nat} {i : In5} (h : CfI k i) : ∀ p ∈ usesV i, 0 ≤ p ∧ p < k := by
  intro p hp
  rcases h with ⟨x, _, rfl⟩ | ⟨h, _, h3, h4⟩
  · exact absurd hp (by simp [usesV])
  · unfold usesV at hp
    rw [if_pos h] at hp
    split at hp
    · simp at hp; rcases hp with rfl | rfl <;> assumption
    · simp at hp; rw [hp]; exact h3
def cfT (l : List In5) : TrG := ⟨5, 0, 0, 1, 0, l, [⟨5, 1, [(l.length : Int) - 1], []⟩], 0, []⟩
theorem atL_mem {l : List In5} (h : CfL l) {p : Int} (h0 : 0 ≤ p) (h1 : p < l.length) : CfI p.toNat (atL l p) := by
  apply h
  unfold atL; rw [List.getD_eq_getElem?_getD, List.getElem?_eq_getElem (by omega)]; rfl
theorem cfT_right {l : List In5} (h : CfL l) (h0 : l ≠ []) (h1 : l.length ≤ 1000) : RightV (cfT l) := by
  have hpos : 0 < l.length := List.length_pos_iff.2 h0
  have named : ∀ (ps : List Int) (k : Nat), k ≤ l.length → (∀ p ∈ ps, 0 ≤ p ∧ p < k) → NamedV (cfT l) ps k := fun ps k hk hp p hpp => by
    obtain ⟨a, b⟩ := hp p hpp
    exact ⟨a, b, (atL_mem h a (by omega)).gives⟩
  refine ⟨⟨h1, by show 1 ≤ 300; decide, by show (0 : Int) ≤ 5 ∧ (5 : Int) ≤ 2999; decide, by show (0 : Int) ≤ 0 ∧ (0 : Int) ≤ 48; decide, by show (0 : Int) ≤ 1 ∧ (1 : Int) ≤ 48; decide, by show (0 : Int) ≤ 0 ∧ (0 : Int) ≤ 48; decide, by show (0 : Int) ≤ 0 ∧ (0 : Int) ≤ 48; decide⟩, fun k i hi => ?_, fun k o ho => ?_, fun k c hc => by simp [cfT] at hc, ?_, by show (1 : Int) ≤ 1; decide⟩
  · have hi : l[k]? = some i := hi
    have hC := h k i hi
    have hlt : k < l.length := (List.getElem?_eq_some_iff.1 hi).1
    refine ⟨?_, fun h4 => ?_, fun h2 => ?_, fun h3 => ?_, named _ k (by omega) hC.uses, fun x hx => by rw [hC.outs] at hx; cases hx⟩
    · rcases hC with ⟨x, _, rfl⟩ | ⟨ha, _⟩
      · exact ⟨by show (1 : Int) ≤ 1; decide, by show (1 : Int) ≤ 12; decide⟩
      · omega
    · rcases hC with ⟨x, _, rfl⟩ | ⟨ha, hb, _⟩
      · cases h4
      · exact hb.imp (fun h => h.1) id
    · rcases hC with ⟨x, _, rfl⟩ | ⟨ha, _⟩
      · cases h2
      · omega
    · rcases hC with ⟨x, _, rfl⟩ | ⟨ha, _⟩
      · cases h3
      · omega
  · have : o = ⟨5, 1, [(l.length : Int) - 1], []⟩ := by
      cases k with
      | zero => simpa [cfT] using ho.symm
      | succ k => simp [cfT] at ho
    subst this
    exact ⟨by show (0 : Int) ≤ 1 ∧ (1 : Int) ≤ 120; decide, by show (0 : Int) ≤ 5 ∧ (5 : Int) ≤ 2999; decide, by show ((1 : Nat) : Int) ≤ 0 + 1; decide, by show ((0 : Nat) : Int) ≤ 0 + 0; decide⟩
  · refine ⟨by show (0 : Int) ≤ 0; decide, by show (0 : Int) < ((1 : Nat) : Int); decide, ?_, fun p hp => by simp [cfT, outAt] at hp⟩
    refine named _ _ (Nat.le_refl _) (fun p hp => ?_)
    have hp : p = (l.length : Int) - 1 := by simpa [cfT, outAt] using hp
    show 0 ≤ p ∧ p < ((l.length : Nat) : Int)
    omega
theorem cfT_in {l : List In5} (h : CfL l) : InT (cfT l) := fun i hi h1 => by
  obtain ⟨k, hk⟩ := List.getElem?_of_mem (show i ∈ l from hi)
  rcases h k i hk with ⟨x, hx, rfl⟩ | ⟨ha, _⟩
  · exact hx
  · omega
/-- Reckoned ahead, it has constants alone. -/
theorem fold_consts {ti : List In5} (h : CfL ti) : ∀ (r : List In5) (k : Nat) (l : List In5) (m : List Int), ti.drop k = r → MapOk ti k l m → (∀ j ∈ l, j.a = 1) → ∀ j ∈ (foldL r (l, m)).1, j.a = 1
  | [], k, l, m, _, _, hl => hl
  | i :: r, k, l, m, hd, hm, hl => by
    have hi : ti[k]? = some i := by rw [← List.head?_drop, hd]; rfl
    have hd' : ti.drop (k + 1) = r := by rw [← List.drop_drop, hd]; rfl
    have hC := h k i hi
    have hklt : k < ti.length := (List.getElem?_eq_some_iff.1 hi).1
    have hstep : foldL (i :: r) (l, m) = foldL r (foldS (l, m) i) := rfl
    rw [hstep]
    have con : ∀ p : Int, 0 ≤ p → p < k → ConV l (ofV m p) := fun p h0 h1 => by
      obtain ⟨⟨a, b⟩, _⟩ := hm.pl p h0 h1 (atL_mem h h0 (by omega)).gives
      refine ⟨a, b, ?_⟩
      have hx : l[(ofV m p).toNat]? = some (atL l (ofV m p)) := by
        unfold atL; rw [List.getD_eq_getElem?_getD, List.getElem?_eq_getElem (by omega)]; rfl
      exact hl _ (List.mem_of_getElem? hx)
    have hno : ¬ holdsV l (insM m i) = true := fun hh => by
      have := holdsV_gives hh
      rw [(insM_op m i).1, hC.gives] at this; cases this
    have hS : foldS (l, m) i = (l ++ [foldI l (insM m i)], m ++ [(l.length : Int)]) := by unfold foldS; rw [if_neg hno]
    have hm' := foldS_map hm hi
    rw [hS] at hm' ⊢
    refine fold_consts h r (k + 1) _ _ hd' hm' (fun j hj => ?_)
    rcases List.mem_append.1 hj with hj | hj
    · exact hl j hj
    · have hj : j = foldI l (insM m i) := by simpa using hj
      subst hj
      rcases hC with ⟨x, _, rfl⟩ | ⟨ha, hb, hc, hd⟩
      · have : insM m ⟨1, x, 0, 0, 0⟩ = ⟨1, x, 0, 0, 0⟩ := rfl
        rw [this]
        unfold foldI
        split
        · rfl
        · rfl
      · obtain ⟨o1, o2, _⟩ := insM_op m i
        have hall : AllCon l (usesV (insM m i)) := by
          rw [insM_uses]
          intro q hq
          obtain ⟨p, hp, rfl⟩ := List.mem_map.1 hq
          have hu : usesV i = [i.c, i.d] ∨ usesV i = [i.c] := by unfold usesV; rw [if_pos ha]; split <;> simp
          rcases hu with hu | hu
          · rw [hu] at hp; simp at hp
            rcases hp with rfl | rfl
            · exact con _ hc.1 hc.2
            · exact con _ hd.1 hd.2
          · rw [hu] at hp; simp at hp
            rw [hp]; exact con _ hc.1 hc.2
        have hre : ∃ x, reckV l (insM m i) = some x := by
          unfold reckV
          rw [if_pos ⟨by rw [o1]; exact ha, hall⟩, o2]
          rcases hb with ⟨h2, h3, h4⟩ | h1
          · rw [if_pos h2, if_pos (by rw [isTwo_eq h2]; simp; omega)]
            exact ⟨_, rfl⟩
          · rw [if_neg, if_pos (by rw [isOne_eq]; exact h1)]
            · exact ⟨_, rfl⟩
            · intro h2
              have := risOne_not h2
              rw [isOne_eq, h1] at this; cases this
        obtain ⟨x, hx⟩ := hre
        unfold foldI; rw [hx]
/-- Indices that stay in. -/
theorem modn (x : Int) {n : Nat} (h0 : 0 < n) (h1 : n ≤ 1000000) : ∃ r : Nat, r < n ∧ Int.tmod (wr (Int.tmod x n + n)) n = (r : Int) := by
  have h := Cn.tmod_lt x (b := (n : Int)) (by omega)
  have h2 : -(n : Int) < Int.tmod x n ∧ Int.tmod x n < n := by
    have : ((n : Int)).natAbs = n := rfl
    omega
  have hw : wr (Int.tmod x n + n) = Int.tmod x n + n := IntWalk.i64_in _ (by omega)
  rw [hw, Int.tmod_eq_emod_of_nonneg (by omega)]
  have h3 := Int.emod_nonneg (Int.tmod x n + n) (show (n : Int) ≠ 0 by omega)
  have h4 := Int.emod_lt_of_pos (Int.tmod x n + n) (show (0 : Int) < n by omega)
  exact ⟨((Int.tmod x n + n) % n).toNat, by omega, by omega⟩
def plain17 : List Int := [11, 12, 13, 17, 18, 19, 21, 22, 23, 24, 25, 28, 29, 16, 20, 26, 27]
theorem plain_ok {r : Nat} (h : r < 17) : ∃ o, plain17[r]? = some o ∧ ((Cn.risTwo o = true ∧ o ≠ 14 ∧ o ≠ 15) ∨ Cn.risOne o = true) := by
  have hh : ∀ k : Fin 17, ∃ o, plain17[k.val]? = some o ∧ ((Cn.risTwo o = true ∧ o ≠ 14 ∧ o ≠ 15) ∨ Cn.risOne o = true) := by
    intro k
    refine ⟨plain17.getD k.val 0, ?_, ?_⟩
    · revert k; decide +kernel
    · revert k; decide +kernel
  exact hh ⟨r, h⟩
end Go.Proofs.Ytblmoilneiffgaa

/- Traces of which nobody names anything: what is left of them. No program in sight. -/
set_option maxRecDepth 100000
namespace Go.Proofs.Ytblmoilneiffgaa
open Go.RowKit

/-- An instruction that does nothing but have a value, of places ahead of it. -/
def PaI (k : Nat) (i : In5) : Prop := (∃ x, i = ⟨1, x, 0, 0, 0⟩) ∨ i = ⟨2, 2, 0, 0, 0⟩ ∨ i = ⟨3, 1, 0, 0, 0⟩ ∨ (i.a = 4 ∧ (i.b = 11 ∨ i.b = 19 ∨ i.b = 16) ∧ (0 ≤ i.c ∧ i.c < k) ∧ (0 ≤ i.d ∧ i.d < k))
def PaL (l : List In5) : Prop := ∀ (k : Nat) (i : In5), l[k]? = some i → PaI k i
theorem PaL.snoc {l : List In5} (h : PaL l) {i : In5} (hi : PaI l.length i) : PaL (l ++ [i]) := fun k j hj => by
  by_cases hk : k < l.length
  · rw [List.getElem?_append_left hk] at hj; exact h k j hj
  · have hk2 : k = l.length := by have := (List.getElem?_eq_some_iff.1 hj).1; simp at this; omega
    subst hk2
    rw [List.getElem?_append_right (Nat.le_refl _), Nat.sub_self] at hj
    cases hj; exact hi
theorem PaI.op {k : Nat} {i : In5} (h : PaI k i) : i.a = 1 ∨ i.a = 2 ∧ i.b = 2 ∨ i.a = 3 ∧ i.b = 1 ∨ (i.a = 4 ∧ (i.b = 11 ∨ i.b = 19 ∨ i.b = 16) ∧ (0 ≤ i.c ∧ i.c < k) ∧ (0 ≤ i.d ∧ i.d < k)) := by
  rcases h with ⟨x, rfl⟩ | rfl | rfl | h
  · exact Or.inl rfl
  · exact Or.inr (Or.inl ⟨rfl, rfl⟩)
  · exact Or.inr (Or.inr (Or.inl ⟨rfl, rfl⟩))
  · exact Or.inr (Or.inr (Or.inr h))
theorem PaI.gives {k : Nat} {i : In5} (h : PaI k i) : givesV i.a = true := by
  have := h.op
  exact decide_eq_true (by omega)
theorem PaI.outs {k : Nat} {i : In5} (h : PaI k i) : outsV i = [] := by
  have := h.op
  unfold outsV
  by_cases h4 : i.a = 4
  · rw [if_pos h4, if_neg (by omega)]
  · rw [if_neg h4, if_neg (by omega), if_neg (by omega)]
theorem PaI.pure {k : Nat} {i : In5} (h : PaI k i) : pureV i = true := by
  have h1 := h.op
  have h2 := h.outs
  unfold pureV
  refine decide_eq_true ?_
  by_cases h4 : i.a = 4
  · exact Or.inr (Or.inr (Or.inr ⟨h4, h2⟩))
  · omega
theorem PaI.uses {k : Nat} {i : In5} (h : PaI k i) : ∀ p ∈ usesV i, 0 ≤ p ∧ p < k := by
  intro p hp
  have h1 := h.op
  unfold usesV at hp
  by_cases h4 : i.a = 4
  · rw [if_pos h4] at hp
    split at hp
    · simp at hp; rcases hp with rfl | rfl <;> omega
    · simp at hp; omega
  · rw [if_neg h4, if_neg (by omega), if_neg (by omega)] at hp
    cases hp
def paT (l : List In5) : TrG := ⟨5, 3, 2, 0, 0, l, [⟨5, 1, [], []⟩, ⟨6, 0, [], []⟩], 0, []⟩
theorem paT_mem {l : List In5} (h : PaL l) {p : Int} (h0 : 0 ≤ p) (h1 : p < l.length) : PaI p.toNat (atL l p) := by
  apply h
  unfold atL; rw [List.getD_eq_getElem?_getD, List.getElem?_eq_getElem (by omega)]; rfl
theorem paT_right {l : List In5} (h : PaL l) (h1 : l.length ≤ 1000) : RightV (paT l) := by
  refine ⟨⟨h1, by show 2 ≤ 300; decide, by show (0 : Int) ≤ 5 ∧ (5 : Int) ≤ 2999; decide, by show (0 : Int) ≤ 3 ∧ (3 : Int) ≤ 48; decide, by show (0 : Int) ≤ 0 ∧ (0 : Int) ≤ 48; decide, by show (0 : Int) ≤ 2 ∧ (2 : Int) ≤ 48; decide, by show (0 : Int) ≤ 0 ∧ (0 : Int) ≤ 48; decide⟩, fun k i hi => ?_, fun k o ho => ?_, fun k c hc => by simp [paT] at hc, ?_, by show (1 : Int) ≤ 1; decide⟩
  · have hi : l[k]? = some i := hi
    have hC := h k i hi
    have hop := hC.op
    have hlt : k < l.length := (List.getElem?_eq_some_iff.1 hi).1
    refine ⟨by omega, fun h4 => ?_, fun h2 => ?_, fun h3 => ?_, fun p hp => ?_, fun x hx => by rw [hC.outs] at hx; cases hx⟩
    · have hb : i.b = 11 ∨ i.b = 19 ∨ i.b = 16 := by omega
      rcases hb with hb | hb | hb <;> rw [hb]
      · exact Or.inl (by decide)
      · exact Or.inl (by decide)
      · exact Or.inr (by decide)
    · show 0 ≤ i.b ∧ i.b ≤ (3 : Int) - 1; omega
    · show 0 ≤ i.b ∧ i.b ≤ (2 : Int) - 1; omega
    · obtain ⟨a, b⟩ := hC.uses p hp
      exact ⟨a, b, (paT_mem h a (by omega)).gives⟩
  · have : o = ⟨5, 1, [], []⟩ ∨ o = ⟨6, 0, [], []⟩ := by
      match k, ho with
      | 0, ho => exact Or.inl (by simpa [paT] using ho.symm)
      | 1, ho => exact Or.inr (by simpa [paT] using ho.symm)
      | k + 2, ho => simp [paT] at ho
    rcases this with rfl | rfl
    · exact ⟨by show (0 : Int) ≤ 1 ∧ (1 : Int) ≤ 120; decide, by show (0 : Int) ≤ 5 ∧ (5 : Int) ≤ 2999; decide, by show ((0 : Nat) : Int) ≤ 3 + 0; decide, by show ((0 : Nat) : Int) ≤ 2 + 0; decide⟩
    · exact ⟨by show (0 : Int) ≤ 0 ∧ (0 : Int) ≤ 120; decide, by show (0 : Int) ≤ 6 ∧ (6 : Int) ≤ 2999; decide, by show ((0 : Nat) : Int) ≤ 3 + 0; decide, by show ((0 : Nat) : Int) ≤ 2 + 0; decide⟩
  · exact ⟨by show (0 : Int) ≤ 0; decide, by show (0 : Int) < ((2 : Nat) : Int); decide, fun p hp => by simp [paT, outAt] at hp, fun p hp => by simp [paT, outAt] at hp⟩
theorem set_same {l : List Bool} {k : Nat} (h : ∀ j, bA l j = false) : l.set k false = l := by
  apply List.ext_getElem?
  intro j
  rw [List.getElem?_set]
  by_cases hk : k = j
  · subst hk
    rw [if_pos rfl]
    by_cases hl : k < l.length
    · rw [if_pos hl, bA_get hl, h k]
    · rw [if_neg hl, List.getElem?_eq_none (by omega)]
  · rw [if_neg hk]
/-- Nothing is kept. -/
theorem pa_back {l : List In5} (h : PaL l) : ∀ (k : Nat) (q : Ned × List Bool), k ≤ l.length → (∀ j, bA q.1.ins j = false) → (∀ j, bA q.2 j = false) → backL (paT l) k q = q
  | 0, q, _, _, _ => rfl
  | k + 1, q, hk, h1, h2 => by
    obtain ⟨i, hi⟩ : ∃ i, l[k]? = some i := ⟨_, List.getElem?_eq_getElem (by omega)⟩
    have hat : atL (paT l).ins k = i := atL_get hi
    have hkb : keepB (paT l) q.1 k = false := by unfold keepB; rw [h1, hat, (h k i hi).pure]; rfl
    have hS : backS (paT l) q k = q := by
      unfold backS
      rw [hkb, if_neg (by decide), set_same h2]
    show backL (paT l) k (backS (paT l) q k) = q
    rw [hS]
    exact pa_back h k q (by omega) h1 h2
theorem pa_fin {l : List In5} (h : PaL l) : finN (paT l) = (⟨List.replicate l.length false, [true, false]⟩, List.replicate l.length false) := by
  have hb : beginN (paT l) = ⟨List.replicate l.length false, [true, false]⟩ := rfl
  unfold finN
  rw [hb]
  exact pa_back h _ _ (Nat.le_refl _) (fun j => bA_rep _ j) (fun j => bA_rep _ j)
theorem pa_none {t : TrG} {kp : List Bool} {ex : List Int} (h : ∀ j, bA kp j = false) : ∀ k, (prnL t kp ex k).1 = []
  | 0 => rfl
  | k + 1 => by
    have : (prnL t kp ex (k + 1)).1 = if bA kp k = true then (prnL t kp ex k).1 ++ [renV ex (insM (prnL t kp ex k).2 (atL t.ins k))] else (prnL t kp ex k).1 := rfl
    rw [this, h k, if_neg (by decide)]
    exact pa_none h k
theorem pa_prn {l : List In5} (h : PaL l) : (prnT (paT l)).ins = [] ∧ (prnT (paT l)).outs = [⟨5, 1, [], []⟩] ∧ (prnT (paT l)).last = 0 := by
  have hf := pa_fin h
  unfold prnT
  rw [hf]
  refine ⟨pa_none (fun j => bA_rep _ j) _, ?_, ?_⟩
  · show ((keepL (bA [true, false]) [⟨5, 1, [], []⟩, ⟨6, 0, [], []⟩]).map (outM _)) = _
    rfl
  · show ofV (exM [true, false] [⟨5, 1, [], []⟩, ⟨6, 0, [], []⟩] 2) 0 = 0
    rfl
def three (x : Int) : List In5 := [⟨1, x, 0, 0, 0⟩, ⟨2, 2, 0, 0, 0⟩, ⟨3, 1, 0, 0, 0⟩]
theorem three_ok (x : Int) {r : Nat} (h : r < 3) (k : Nat) : ∃ i, (three x)[r]? = some i ∧ PaI k i := by
  match r, h with
  | 0, _ => exact ⟨_, rfl, Or.inl ⟨x, rfl⟩⟩
  | 1, _ => exact ⟨_, rfl, Or.inr (Or.inl rfl)⟩
  | 2, _ => exact ⟨_, rfl, Or.inr (Or.inr (Or.inl rfl))⟩
theorem pa_ops {r : Nat} (h : r < 3) : ∃ o : Int, ([11, 19, 16] : List Int)[r]? = some o ∧ (o = 11 ∨ o = 19 ∨ o = 16) := by
  match r, h with
  | 0, _ => exact ⟨_, rfl, Or.inl rfl⟩
  | 1, _ => exact ⟨_, rfl, Or.inr (Or.inl rfl)⟩
  | 2, _ => exact ⟨_, rfl, Or.inr (Or.inr rfl)⟩
end Go.Proofs.Ytblmoilneiffgaa

/- Package ir: what an instruction names, which traces may be. -/
set_option maxRecDepth 100000
namespace Go.Proofs.Ytblmoilneiffgaa
open Go.RowKit

theorem isTwo_one (op : Int) : Cn.isTwo op 1 = Cn.risTwo op := by
  by_cases h : Cn.risTwo op = true
  · rw [isTwo_eq h, h]; simp
  · have h' : Cn.risTwo op = false := by simpa using h
    rw [h']
    cases hh : Cn.isTwo op 1 with
    | false => rfl
    | true => exact absurd (isTwo_of hh) h
theorem itwo_any (op : Int) (w : World) : Calls Try.prog fn_ir_two #[.int .i64 op] w fun e w' => e = .returned (.bool (Cn.risTwo op)) ∧ Chg No w w' := by
  refine (ir_two_lift (K := fun r w' => r = .bool (Cn.risTwo op) ∧ Chg No w w') ?_).mono (by rintro e w' ⟨r, rfl, rfl, h⟩; exact ⟨rfl, h⟩)
  unfold ir_two_sh
  refine (two_any op 1 1 w).mono ?_
  rintro e w' ⟨rfl, c⟩
  exact ⟨_, _, rfl, by rw [isTwo_one], Chg.qt c⟩
theorem ione_any (op : Int) (w : World) : Calls Try.prog fn_ir_one #[.int .i64 op] w fun e w' => e = .returned (.bool (Cn.risOne op)) ∧ w = w' := by
  refine (ir_one_lift (K := fun r w' => r = .bool (Cn.risOne op) ∧ w = w') ?_).mono (by rintro e w' ⟨r, rfl, rfl, h⟩; exact ⟨rfl, h⟩)
  unfold ir_one_sh
  refine (one_any op 1 w).mono ?_
  rintro e w' ⟨rfl, rfl⟩
  exact ⟨_, _, rfl, by rw [isOne_eq], rfl⟩
theorem igives_any (op : Int) (w : World) : Calls Try.prog fn_ir_Gives #[.int .i64 op] w fun e w' => e = .returned (.bool (givesV op)) ∧ w = w' := by
  refine (ir_Gives_lift (K := fun r w' => r = .bool (givesV op) ∧ w = w') ?_).mono (by rintro e w' ⟨r, rfl, rfl, h⟩; exact ⟨rfl, h⟩)
  unfold ir_Gives_sh
  have eqb : ∀ {n : Int}, (op == n) = true → op = n := fun h => by simpa using h
  have neb : ∀ {n : Int}, (op == n) = false → op ≠ n := fun h => by simpa using h
  have yes : givesV op = true → Value.bool true = .bool (givesV op) ∧ w = w := fun h => ⟨by rw [h], rfl⟩
  have no : givesV op = false → Value.bool false = .bool (givesV op) ∧ w = w := fun h => ⟨by rw [h], rfl⟩
  have j : ∀ b : Bool, b = decide (op = 1 ∨ op = 2 ∨ op = 3) → ir_Gives_j1 op b w (fun r w' => r = .bool (givesV op) ∧ w = w') := by
    rintro b rfl
    unfold ir_Gives_j1
    refine brB_of (fun h => yes (decide_eq_true (by have := of_decide_eq_true h; omega))) (fun h => ?_)
    have h := of_decide_eq_false h
    refine brB_of (fun h4 => ?_) (fun h4 => ?_)
    · exact brB_of (fun _ => yes (decide_eq_true (by have := eqb h4; omega))) (fun h4' => absurd (eqb h4) (neb h4'))
    · refine brB_of (fun h5 => yes (decide_eq_true (by have := eqb h5; omega))) (fun h5 => brB_of (fun h12 => yes (decide_eq_true (by have := eqb h12; omega))) (fun h12 => no (decide_eq_false ?_)))
      have := neb h4; have := neb h5; have := neb h12; omega
  refine brB_of (fun h1 => ?_) (fun h1 => brB_of (fun h2 => ?_) (fun h2 => ?_))
  · exact j _ (by rw [h1]; symm; exact decide_eq_true (by have := eqb h1; omega))
  · exact j _ (by rw [h2]; symm; exact decide_eq_true (by have := eqb h2; omega))
  · have := neb h1
    have := neb h2
    refine j _ ?_
    rw [Bool.eq_iff_iff]; simp; omega
theorem iuses_any (i : In5) (w : World) : Calls Try.prog fn_ir_Uses #[.agg (insC i).toArray] w fun e w' => ∃ r, e = .returned r ∧ NewI w w' r (usesV i) := by
  refine (ir_Uses_lift (K := fun r w' => NewI w w' r (usesV i)) ?_).mono (by rintro e w' ⟨r, rfl, h⟩; exact ⟨r, rfl, h⟩)
  unfold ir_Uses_sh
  intro b6 w7 hb6 hw7
  have o7 : Ob w7 b6 (insC i) T_api_Ins := by rw [hw7, hb6]; exact Ob.new w (insC i) T_api_Ins
  have c7 := al hw7
  have eqb : ∀ {n : Int}, (i.a == n) = true → i.a = n := fun h => by simpa using h
  have neb : ∀ {n : Int}, (i.a == n) = false → i.a ≠ n := fun h => by simpa using h
  refine ⟨i.a, o7.cell rfl, fun w' => usesV i = [i.c] ∧ Chg No w7 w', ?_, fun w' => usesV i = [i.c, i.d] ∧ Chg No w7 w', ?_, ?_⟩
  · rintro w33 ⟨hu, c33⟩
    rw [hu]
    exact ⟨i.c, (o7.no c33).cell rfl, fun b15 w16 hb hw => NewI.one (trN c7 c33) hb hw⟩
  · rintro w28 ⟨hu, c28⟩
    rw [hu]
    exact ⟨i.c, (o7.no c28).cell rfl, i.d, (o7.no c28).cell rfl, fun b15 w16 hb hw => NewI.two (trN c7 c28) hb hw⟩
  · refine brB_of (fun h4 => ?_) (fun h4 => ?_)
    · have h4 := eqb h4
      refine ⟨i.b, o7.cell rfl, (itwo_any i.b w7).mono ?_⟩
      rintro e w23 ⟨rfl, c23⟩
      refine ⟨_, rfl, brB_of (fun h2 => ?_) (fun h2 => ?_)⟩
      · have h2 : Cn.risTwo i.b = false := by simpa using h2
        have hu : usesV i = [i.c] := by unfold usesV; rw [if_pos h4, if_neg (by rw [h2]; decide)]
        rw [hu]
        exact ⟨i.c, (o7.no c23).cell rfl, fun b15 w16 hb hw => NewI.one (trN c7 c23) hb hw⟩
      · have h2 : Cn.risTwo i.b = true := by simpa using h2
        exact ⟨by unfold usesV; rw [if_pos h4, if_pos h2], c23⟩
    · have h4 := neb h4
      have two : i.a = 6 ∨ i.a = 9 → usesV i = [i.c, i.d] ∧ Chg No w7 w7 := fun h => ⟨by unfold usesV; rw [if_neg h4, if_neg (by omega), if_pos h], Chg.refl _ _⟩
      have j : ¬ (i.a = 6 ∨ i.a = 9) → ∀ b : Bool, b = decide (i.a = 5 ∨ i.a = 7 ∨ i.a = 8) → ir_Uses_j1 (fun w' => usesV i = [i.c] ∧ Chg No w7 w') i.a b w7 (fun r w' => NewI w w' r (usesV i)) := by
        rintro h69 b rfl
        have one : i.a = 5 ∨ i.a = 7 ∨ i.a = 8 ∨ i.a = 10 ∨ i.a = 11 → usesV i = [i.c] ∧ Chg No w7 w7 := fun h => ⟨by unfold usesV; rw [if_neg h4, if_pos h], Chg.refl _ _⟩
        unfold ir_Uses_j1
        refine brB_of (fun h => one (by have := of_decide_eq_true h; omega)) (fun h => ?_)
        have h := of_decide_eq_false h
        have none : i.a ≠ 10 → i.a ≠ 11 → NewI w w7 (.slice none 0 0) (usesV i) := fun h10 h11 => by
          have hu : usesV i = [] := by unfold usesV; rw [if_neg h4, if_neg (by omega), if_neg h69]
          rw [hu]; exact NewI.nil c7
        refine brB_of (fun h10 => brB_of (fun _ => one (by have := eqb h10; omega)) (fun h' => absurd (eqb h10) (neb h'))) (fun h10 => brB_of (fun h11 => one (by have := eqb h11; omega)) (fun h11 => none (neb h10) (neb h11)))
      have g : ¬ (i.a = 6 ∨ i.a = 9) → brB (i.a == (5 : Int)) (ir_Uses_j1 (fun w' => usesV i = [i.c] ∧ Chg No w7 w') i.a (i.a == (5 : Int)) w7 (fun r w' => NewI w w' r (usesV i))) (brB (i.a == (7 : Int)) (ir_Uses_j1 (fun w' => usesV i = [i.c] ∧ Chg No w7 w') i.a (i.a == (7 : Int)) w7 (fun r w' => NewI w w' r (usesV i))) (ir_Uses_j1 (fun w' => usesV i = [i.c] ∧ Chg No w7 w') i.a (i.a == (8 : Int)) w7 (fun r w' => NewI w w' r (usesV i)))) := by
        intro h69
        refine brB_of (fun h5 => j h69 _ ?_) (fun h5 => brB_of (fun h7 => j h69 _ ?_) (fun h7 => j h69 _ ?_))
        · rw [h5]; symm; exact decide_eq_true (by have := eqb h5; omega)
        · rw [h7]; symm; exact decide_eq_true (by have := eqb h7; omega)
        · have := neb h5; have := neb h7
          rw [Bool.eq_iff_iff]; simp; omega
      refine brB_of (fun h6 => brB_of (fun _ => two (Or.inl (eqb h6))) (fun h' => absurd (eqb h6) (neb h'))) (fun h6 => brB_of (fun h9 => two (Or.inr (eqb h9))) (fun h9 => g (by have := neb h6; have := neb h9; omega)))
theorem iouts_any (i : In5) (w : World) : Calls Try.prog fn_ir_Outs #[.agg (insC i).toArray] w fun e w' => ∃ r, e = .returned r ∧ NewI w w' r (outsV i) := by
  refine (ir_Outs_lift (K := fun r w' => NewI w w' r (outsV i)) ?_).mono (by rintro e w' ⟨r, rfl, h⟩; exact ⟨r, rfl, h⟩)
  unfold ir_Outs_sh
  intro b6 w7 hb6 hw7
  have o7 : Ob w7 b6 (insC i) T_api_Ins := by rw [hw7, hb6]; exact Ob.new w (insC i) T_api_Ins
  have c7 := al hw7
  have eqb : ∀ {n : Int}, (i.a == n) = true → i.a = n := fun h => by simpa using h
  have neb : ∀ {n : Int}, (i.a == n) = false → i.a ≠ n := fun h => by simpa using h
  refine ⟨i.a, o7.cell rfl, fun w' => outsV i = [i.e] ∧ w' = w7, ?_, ?_⟩
  · rintro w21 ⟨hu, rfl⟩
    rw [hu]
    exact ⟨i.e, o7.cell rfl, fun b15 w16 hb hw => NewI.one c7 hb hw⟩
  · refine brB_of (fun h4 => ?_) (fun h4 => ?_)
    · have h4 := eqb h4
      refine ⟨fun b w' => b = decide (¬ (i.b = 14 ∨ i.b = 15)) ∧ w' = w7, ?_, ?_⟩
      · rintro b w19 ⟨rfl, rfl⟩
        refine brB_of (fun h => ?_) (fun h => ⟨?_, rfl⟩)
        · have h := of_decide_eq_true h
          have hu : outsV i = [] := by unfold outsV; rw [if_pos h4, if_neg h]
          rw [hu]; exact NewI.nil c7
        · have h := Decidable.not_not.1 (of_decide_eq_false h)
          unfold outsV; rw [if_pos h4, if_pos h]
      · refine ⟨i.b, o7.cell rfl, brB_of (fun h => ⟨i.b, o7.cell rfl, ?_, rfl⟩) (fun h => ⟨?_, rfl⟩)⟩
        · have h : i.b ≠ 14 := by simpa using h
          rw [Bool.eq_iff_iff]; simp; omega
        · have h : i.b = 14 := by simpa using h
          symm; apply decide_eq_false; omega
    · have h4 := neb h4
      have one : i.a = 5 ∨ i.a = 7 ∨ i.a = 8 ∨ i.a = 9 ∨ i.a = 10 ∨ i.a = 11 → outsV i = [i.e] ∧ w7 = w7 := fun h => ⟨by unfold outsV; rw [if_neg h4, if_pos h], rfl⟩
      have j : ¬ (i.a = 5 ∨ i.a = 7 ∨ i.a = 8 ∨ i.a = 9) → ∀ b : Bool, b = decide (i.a = 10 ∨ i.a = 11) → ir_Outs_j1 (fun w' => outsV i = [i.e] ∧ w' = w7) i.a b6 b w7 (fun r w' => NewI w w' r (outsV i)) := by
        rintro h5 b rfl
        unfold ir_Outs_j1
        refine brB_of (fun h => one (by have := of_decide_eq_true h; omega)) (fun h => ?_)
        have h := of_decide_eq_false h
        refine brB_of (fun h6 => ?_) (fun h6 => ?_)
        · have hu : outsV i = [i.e, i.b] := by unfold outsV; rw [if_neg h4, if_neg (by omega), if_pos (eqb h6)]
          rw [hu]
          exact ⟨i.e, o7.cell rfl, i.b, o7.cell rfl, fun b15 w16 hb hw => NewI.two c7 hb hw⟩
        · have hu : outsV i = [] := by unfold outsV; rw [if_neg h4, if_neg (by omega), if_neg (neb h6)]
          rw [hu]; exact NewI.nil c7
      have g : ∀ {n : Int}, i.a = n → (n = 5 ∨ n = 7 ∨ n = 8) → brB (i.a == n) (outsV i = [i.e] ∧ w7 = w7) (brB (i.a == (10 : Int)) (ir_Outs_j1 (fun w' => outsV i = [i.e] ∧ w' = w7) i.a b6 (i.a == (10 : Int)) w7 (fun r w' => NewI w w' r (outsV i))) (ir_Outs_j1 (fun w' => outsV i = [i.e] ∧ w' = w7) i.a b6 (i.a == (11 : Int)) w7 (fun r w' => NewI w w' r (outsV i)))) := fun h hn => by
        rw [show (i.a == _) = true from by simpa using h]
        exact brB_t (one (by omega))
      refine brB_of (fun h5 => g (eqb h5) (by omega)) (fun h5 => brB_of (fun h7 => g (eqb h7) (by omega)) (fun h7 => brB_of (fun h8 => g (eqb h8) (by omega)) (fun h8 => brB_of (fun h9 => one (by have := eqb h9; omega)) (fun h9 => ?_))))
      have hn : ¬ (i.a = 5 ∨ i.a = 7 ∨ i.a = 8 ∨ i.a = 9) := by have := neb h5; have := neb h7; have := neb h8; have := neb h9; omega
      refine brB_of (fun h10 => j hn _ ?_) (fun h10 => j hn _ ?_)
      · rw [h10]; symm; exact decide_eq_true (Or.inl (eqb h10))
      · have := neb h10
        rw [Bool.eq_iff_iff]; simp; omega
theorem between_any (x l m : Int) (w : World) : Calls Try.prog fn_ir_between #[.int .i64 x, .int .i64 l, .int .i64 m] w fun e w' => e = .returned (.bool (decide (l ≤ x ∧ x ≤ m))) ∧ w = w' := by
  refine (ir_between_lift (K := fun r w' => r = .bool (decide (l ≤ x ∧ x ≤ m)) ∧ w = w') ?_).mono (by rintro e w' ⟨r, rfl, rfl, h⟩; exact ⟨rfl, h⟩)
  unfold ir_between_sh
  refine brB_of (fun h => ?_) (fun h => ?_)
  all_goals
    refine ⟨?_, rfl⟩
    congr 1
    rw [Bool.eq_iff_iff]; simp at *; omega
theorem iplaces_any {D : Nat → Prop} {w : World} (t : TrP) {v : TrG} (ht : TrIs D w t v) {l : Sl} {xs : List Int} (hl : Rd intE w l xs) {k : Nat} (hk : k ≤ v.ins.length) :
    Calls Try.prog fn_ir_places #[.agg (trP t).toArray, l.val, .int .i64 (k : Int)] w fun e w' => ∃ b : Bool, e = .returned (.bool b) ∧ (b = true ↔ NamedV v xs k) ∧ Chg No w w' := by
  refine (ir_places_lift (K := fun r w' => ∃ b : Bool, r = .bool b ∧ (b = true ↔ NamedV v xs k) ∧ Chg No w w') ?_).mono (by rintro e w' ⟨r, rfl, b, rfl, h⟩; exact ⟨b, rfl, h⟩)
  unfold ir_places_sh
  intro b12 w13 hb12 hw13
  have o13 : Ob w13 b12 (trP t) T_api_Trace := by rw [hw13, hb12]; exact Ob.new w (trP t) T_api_Trace
  have c13 := al hw13
  have hll := hl.len
  have hcap := hl.capL
  have hil := ht.ins.len
  refine ⟨fun n w' => ∃ j : Nat, n = j ∧ j ≤ xs.length ∧ NamedV v (xs.take j) k ∧ w' = w13, fun n _ => xs.length - n.toNat, ⟨0, rfl, Nat.zero_le _, (fun p hp => by simp at hp), rfl⟩, ?_⟩
  rintro n w14 ⟨j, rfl, hj, hn, rfl⟩
  refine brB_of (fun hlt => ?_) (fun hlt => ?_)
  · have hlt : j < xs.length := by simp at hlt; omega
    obtain ⟨x, hx⟩ : ∃ x, xs[j]? = some x := ⟨_, List.getElem?_eq_getElem hlt⟩
    refine (hl.no c13).ix (i := (j : Int)) (by omega) (by rw [Int.toNat_natCast]; exact hx) fun a _ hcell => ?_
    have q1 := hcell 0 _ rfl
    rw [add0] at q1
    refine ⟨x, q1, fun b w' => (b = false ↔ (0 ≤ x ∧ x < k ∧ givesV (insAt v x).a = true)) ∧ w' = w14, ?_, ?_⟩
    · rintro b w29 ⟨hb, rfl⟩
      refine brB_of (fun ht' => ?_) (fun hf => ?_)
      · refine ⟨false, rfl, ⟨(fun h => by cases h), fun h => ?_⟩, c13⟩
        have := hb.2 (h x (List.mem_of_getElem? hx))
        rw [this] at ht'; cases ht'
      · rw [wr_in (by omega)]
        refine ⟨⟨j + 1, by omega, by omega, fun p hp => ?_, rfl⟩, by show xs.length - Int.toNat ((j : Int) + 1) < xs.length - Int.toNat (j : Int); omega⟩
        rw [List.take_add_one, hx] at hp
        rcases List.mem_append.1 hp with hp | hp
        · exact hn p hp
        · have : p = x := by simpa using hp
          rw [this]; exact hb.1 hf
    · refine brB_of (fun h0 => ⟨⟨(fun h => by cases h), fun h => ?_⟩, rfl⟩) (fun h0 => brB_of (fun h1 => ⟨⟨(fun h => by cases h), fun h => ?_⟩, rfl⟩) (fun h1 => ?_))
      · have h0 := of_decide_eq_true h0; omega
      · have h1 := of_decide_eq_true h1; omega
      have h0 := of_decide_eq_false h0
      have h1 := of_decide_eq_false h1
      refine ⟨t.ins, o13.cell rfl, (ht.ins.no c13).ix (i := x) (by omega) (insAt_ix (by omega) (by omega)) fun a' _ hcell' => ?_⟩
      have q2 := hcell' 0 _ rfl
      rw [add0] at q2
      refine ⟨_, q2, (igives_any _ _).mono ?_⟩
      rintro e w27 ⟨rfl, rfl⟩
      refine ⟨_, rfl, ⟨fun h => ⟨by omega, by omega, by simpa using h⟩, fun h => by rw [h.2.2]; rfl⟩, rfl⟩
  · have hlt : j = xs.length := by simp at hlt; omega
    subst hlt
    rw [List.take_length] at hn
    exact ⟨true, rfl, ⟨fun _ => hn, fun _ => rfl⟩, c13⟩
theorem inamed_any {D : Nat → Prop} {w : World} (t : TrP) {v : TrG} (ht : TrIs D w t v) (x : Int) {k : Nat} (hk : k ≤ v.ins.length) :
    Calls Try.prog fn_ir_named #[.agg (trP t).toArray, .int .i64 x, .int .i64 (k : Int)] w fun e w' => ∃ b : Bool, e = .returned (.bool b) ∧ (b = true ↔ OutV v x k) ∧ Chg No w w' := by
  refine (ir_named_lift (K := fun r w' => ∃ b : Bool, r = .bool b ∧ (b = true ↔ OutV v x k) ∧ Chg No w w') ?_).mono (by rintro e w' ⟨r, rfl, b, rfl, h⟩; exact ⟨b, rfl, h⟩)
  unfold ir_named_sh
  intro b12 w13 hb12 hw13 w14 hw14
  have o13 : Ob w13 b12 (trP t) T_api_Trace := by rw [hw13, hb12]; exact Ob.new w (trP t) T_api_Trace
  have c13 := al hw13
  have c14 := dw hw14
  have o14 := o13.no c14
  have k14 := trN c13 c14
  have hd : ∀ {j : Nat} {u : Value}, (trP t)[j]? = some u → held (fun w' => Chg No w14 w') ⟨b12, j, none⟩ u := fun h => Ob.held (fun w' c => o14.no c) h
  obtain ⟨os, hos, hov⟩ := ht.outs
  have hol := hos.len
  have hovl := hov.1
  refine ⟨fun w' => Chg No w14 w', Chg.refl _ _, brB_of (fun h0 => ?_) (fun h0 => ⟨false, rfl, ⟨(fun h => by cases h), fun h => ?_⟩, k14⟩)⟩
  rotate_left
  · have h0 := of_decide_eq_false h0
    exact absurd h.1 h0
  have h0 := of_decide_eq_true h0
  refine ⟨t.outs, hd rfl, brB_of (fun h1 => ?_) (fun h1 => ⟨false, rfl, ⟨(fun h => by cases h), fun h => ?_⟩, k14⟩)⟩
  rotate_left
  · have h1 := of_decide_eq_false h1
    have := h.2.1
    omega
  have h1 := of_decide_eq_true h1
  have hxl : x < v.outs.length := by omega
  obtain ⟨o, ho⟩ : ∃ o, os[x.toNat]? = some o := ⟨_, List.getElem?_eq_getElem (by omega)⟩
  obtain ⟨_, _, u3, u4, _, _⟩ := hov.2 _ _ _ ho (outAt_ix h0 hxl)
  have ix : ∀ {j : Nat} {u : Value} {G : Addr → Prop}, (ouC o)[j]? = some u → (∀ a, held (fun w' => Chg No w14 w') (Addr.add (Addr.add a (Int.toNat x * 4)) j) u → G a) → ∃ a : Addr, t.outs.ptr = some a ∧ 0 ≤ x ∧ x < (t.outs.len : Int) ∧ G a := fun hj kk =>
    (hos.no k14).ix h0 ho fun a ha hcell => kk a fun w' c => by
      obtain ⟨a2, ha2, hc2⟩ := ((hos.no k14).no c).at ho
      rw [ha] at ha2; cases ha2
      exact hc2 _ _ hj
  refine ⟨_, _, _, _, _, _, _, _, _, hd rfl, hd rfl, hd rfl, hd rfl, hd rfl, hd rfl, hd rfl, hd rfl, hd rfl, t.outs, hd rfl, ix (j := 2) rfl fun a q => ⟨o.stack, q, ?_⟩⟩
  refine (iplaces_any t (ht.no k14) (u3.no k14) hk).mono ?_
  rintro e w30 ⟨b, rfl, hb, c30⟩
  refine ⟨b, rfl, c30, brB_of (fun hbt => ?_) (fun hbf => ⟨false, rfl, ⟨fun h => (by cases h), fun h => ?_⟩, trN k14 c30⟩)⟩
  rotate_left
  · have := hb.2 h.2.2.1
    rw [this] at hbf; cases hbf
  refine ⟨_, _, _, _, _, _, _, _, _, hd rfl, hd rfl, hd rfl, hd rfl, hd rfl, hd rfl, hd rfl, hd rfl, hd rfl, t.outs, hd rfl, ix (j := 3) rfl fun a q => ⟨o.back, q, ?_⟩⟩
  refine (iplaces_any t (ht.no (trN k14 c30)) (u4.no (trN k14 c30)) hk).mono ?_
  rintro e w45 ⟨b2, rfl, hb2, c45⟩
  exact ⟨b2, rfl, b2, rfl, ⟨fun h => ⟨h0, hxl, hb.1 hbt, hb2.1 h⟩, fun h => hb2.2 h.2.2.2⟩, trN (trN k14 c30) c45⟩
/-- An instruction may be, by itself. -/
def SinV (t : TrG) (i : In5) : Prop := (1 ≤ i.a ∧ i.a ≤ 12) ∧ (i.a = 4 → Cn.risTwo i.b = true ∨ Cn.risOne i.b = true) ∧ (i.a = 2 → 0 ≤ i.b ∧ i.b ≤ t.slots - 1) ∧ (i.a = 3 → 0 ≤ i.b ∧ i.b ≤ t.backs - 1)
theorem isingle_any {D : Nat → Prop} {w : World} (t : TrP) {v : TrG} (ht : TrIs D w t v) (hh : HeadV v) (i : In5) : Calls Try.prog fn_ir_single #[.agg (trP t).toArray, .agg (insC i).toArray] w fun e w' => ∃ b : Bool, e = .returned (.bool b) ∧ (b = true ↔ SinV v i) ∧ Chg No w w' := by
  refine (ir_single_lift (K := fun r w' => ∃ b : Bool, r = .bool b ∧ (b = true ↔ SinV v i) ∧ Chg No w w') ?_).mono (by rintro e w' ⟨r, rfl, b, rfl, h⟩; exact ⟨b, rfl, h⟩)
  unfold ir_single_sh
  intro b15 w16 hb15 hw16 b17 w18 hb17 hw18
  have o15 : Ob w18 b15 (trP t) T_api_Trace := by
    have : Ob w16 b15 (trP t) T_api_Trace := by rw [hw16, hb15]; exact Ob.new w (trP t) T_api_Trace
    exact this.no (al hw18)
  have o17 : Ob w18 b17 (insC i) T_api_Ins := by rw [hw18, hb17]; exact Ob.new w16 (insC i) T_api_Ins
  have c18 := trN (al hw16) (al hw18)
  have eqb : ∀ {n : Int}, (i.a == n) = true → i.a = n := fun h => by simpa using h
  have neb : ∀ {n : Int}, (i.a == n) = false → i.a ≠ n := fun h => by simpa using h
  obtain ⟨n1, n2, n3, n4, n5, n6⟩ := ht.nums
  obtain ⟨q1, q2, q3, q4, q5, q6, q7⟩ := hh
  refine ⟨i.a, o17.cell rfl, brB_of (fun h4 => ?_) (fun h4 => brB_of (fun h2 => ?_) (fun h2 => brB_of (fun h3 => ?_) (fun h3 => ?_)))⟩
  · have h4 := eqb h4
    refine ⟨i.b, o17.cell rfl, (itwo_any _ _).mono ?_⟩
    rintro e w22 ⟨rfl, c22⟩
    refine ⟨_, rfl, brB_of (fun h => ⟨true, rfl, ⟨fun _ => ⟨by omega, fun _ => Or.inl h, fun h => by omega, fun h => by omega⟩, fun _ => rfl⟩, trN c18 c22⟩) (fun h => ⟨i.b, (o17.no c22).cell rfl, (ione_any _ _).mono ?_⟩)⟩
    rintro e w26 ⟨rfl, rfl⟩
    refine ⟨_, rfl, _, rfl, ⟨fun h1 => ⟨by omega, fun _ => Or.inr h1, fun h => by omega, fun h => by omega⟩, fun hs => ?_⟩, trN c18 c22⟩
    rcases hs.2.1 h4 with h' | h'
    · rw [h] at h'; cases h'
    · exact h'
  · have h2 := eqb h2
    refine ⟨i.b, o17.cell rfl, t.slots, o15.cell rfl, ?_⟩
    rw [n2, wr_in (by omega)]
    refine (between_any _ _ _ _).mono ?_
    rintro e w33 ⟨rfl, rfl⟩
    refine ⟨_, rfl, _, rfl, ⟨fun h => ⟨by omega, fun h => by omega, fun _ => of_decide_eq_true h, fun h => by omega⟩, fun h => decide_eq_true (h.2.2.1 h2)⟩, c18⟩
  · have h3 := eqb h3
    refine ⟨i.b, o17.cell rfl, t.backs, o15.cell rfl, ?_⟩
    rw [n3, wr_in (by omega)]
    refine (between_any _ _ _ _).mono ?_
    rintro e w33 ⟨rfl, rfl⟩
    refine ⟨_, rfl, _, rfl, ⟨fun h => ⟨by omega, fun h => by omega, fun h => by omega, fun _ => of_decide_eq_true h⟩, fun h => decide_eq_true (h.2.2.2 h3)⟩, c18⟩
  · have h4 := neb h4
    have h2 := neb h2
    have h3 := neb h3
    refine ⟨i.a, o17.cell rfl, (between_any _ _ _ _).mono ?_⟩
    rintro e w33 ⟨rfl, rfl⟩
    refine ⟨_, rfl, _, rfl, ⟨fun h => ⟨of_decide_eq_true h, fun h => absurd h h4, fun h => absurd h h2, fun h => absurd h h3⟩, fun h => decide_eq_true h.1⟩, c18⟩
theorem iout_any {D : Nat → Prop} {w : World} (t : TrP) {v : TrG} (ht : TrIs D w t v) (hh : HeadV v) (o : OuC) {ov : OuV} (h1 : o.ip = ov.ip) (h2 : o.steps = ov.steps) (h3 : Rd intE w o.stack ov.stack) (h4 : Rd intE w o.back ov.back) : Calls Try.prog fn_ir_out #[.agg (trP t).toArray, .agg (ouC o).toArray] w fun e w' => ∃ b : Bool, e = .returned (.bool b) ∧ (b = true ↔ ExitV v ov) ∧ Chg No w w' := by
  refine (ir_out_lift (K := fun r w' => ∃ b : Bool, r = .bool b ∧ (b = true ↔ ExitV v ov) ∧ Chg No w w') ?_).mono (by rintro e w' ⟨r, rfl, b, rfl, h⟩; exact ⟨b, rfl, h⟩)
  unfold ir_out_sh
  intro b14 w15 hb14 hw15 b16 w17 hb16 hw17
  have o14 : Ob w17 b14 (trP t) T_api_Trace := by
    have : Ob w15 b14 (trP t) T_api_Trace := by rw [hw15, hb14]; exact Ob.new w (trP t) T_api_Trace
    exact this.no (al hw17)
  have o16 : Ob w17 b16 (ouC o) T_api_Out := by rw [hw17, hb16]; exact Ob.new w15 (ouC o) T_api_Out
  have c17 := trN (al hw15) (al hw17)
  obtain ⟨n1, n2, n3, n4, n5, n6⟩ := ht.nums
  obtain ⟨q1, q2, q3, q4, q5, q6, q7⟩ := hh
  have l3 := h3.len
  have l4 := h4.len
  have no : ¬ ExitV v ov → ∃ b : Bool, Value.bool false = .bool b ∧ (b = true ↔ ExitV v ov) ∧ Chg No w w17 := fun h => ⟨false, rfl, ⟨(fun h => by cases h), fun h' => absurd h' h⟩, c17⟩
  refine ⟨o.steps, o16.cell rfl, (between_any _ _ _ _).mono ?_⟩
  rintro e w20 ⟨rfl, rfl⟩
  refine ⟨_, rfl, brB_of (fun g1 => ?_) (fun g1 => no fun h => ?_)⟩
  rotate_left
  · have g1 := of_decide_eq_false g1
    have := h.1; omega
  have g1 := of_decide_eq_true g1
  refine ⟨o.ip, o16.cell rfl, (between_any _ _ _ _).mono ?_⟩
  rintro e w24 ⟨rfl, rfl⟩
  refine ⟨_, rfl, brB_of (fun g2 => ?_) (fun g2 => no fun h => ?_)⟩
  rotate_left
  · have g2 := of_decide_eq_false g2
    have := h.2.1; omega
  have g2 := of_decide_eq_true g2
  refine ⟨o.stack, o16.cell rfl, t.slots, o14.cell rfl, t.grow, o14.cell rfl, ?_⟩
  rw [wr_in (x := t.slots + t.grow) (by omega)]
  refine brB_of (fun g3 => ?_) (fun g3 => no fun h => ?_)
  rotate_left
  · have g3 := of_decide_eq_false g3
    have := h.2.2.1; omega
  have g3 := of_decide_eq_true g3
  refine ⟨o.back, o16.cell rfl, t.backs, o14.cell rfl, t.growBack, o14.cell rfl, ?_⟩
  rw [wr_in (x := t.backs + t.growBack) (by omega)]
  refine ⟨_, rfl, ⟨fun g4 => ⟨by omega, by omega, by omega, ?_⟩, fun h => ?_⟩, c17⟩
  · have := of_decide_eq_true g4; omega
  · have := h.2.2.2
    apply decide_eq_true; omega
theorem ihead_any {D : Nat → Prop} {w : World} (t : TrP) {v : TrG} (ht : TrIs D w t v) : Calls Try.prog fn_ir_head #[.agg (trP t).toArray] w fun e w' => ∃ b : Bool, e = .returned (.bool b) ∧ (b = true ↔ HeadV v) ∧ Chg No w w' := by
  refine (ir_head_lift (K := fun r w' => ∃ b : Bool, r = .bool b ∧ (b = true ↔ HeadV v) ∧ Chg No w w') ?_).mono (by rintro e w' ⟨r, rfl, b, rfl, h⟩; exact ⟨b, rfl, h⟩)
  unfold ir_head_sh
  intro b10 w11 hb10 hw11
  have o10 : Ob w11 b10 (trP t) T_api_Trace := by rw [hw11, hb10]; exact Ob.new w (trP t) T_api_Trace
  have c11 := al hw11
  obtain ⟨n1, n2, n3, n4, n5, n6⟩ := ht.nums
  have l1 := ht.ins.len
  obtain ⟨os, hos, hov⟩ := ht.outs
  have l2 := hos.len
  have l2' := hov.1
  refine ⟨fun b w' => b = decide ((0 ≤ v.slots ∧ v.slots ≤ 48) ∧ (0 ≤ v.grow ∧ v.grow ≤ 48) ∧ (0 ≤ v.backs ∧ v.backs ≤ 48) ∧ (0 ≤ v.growBack ∧ v.growBack ≤ 48)) ∧ w' = w11, ?_, ?_⟩
  · rintro b w28 ⟨rfl, rfl⟩
    have no : ¬ HeadV v → ∃ b : Bool, Value.bool false = .bool b ∧ (b = true ↔ HeadV v) ∧ Chg No w w28 := fun h => ⟨false, rfl, ⟨(fun h => by cases h), fun h' => absurd h' h⟩, c11⟩
    refine brB_of (fun g => ?_) (fun g => no fun h => ?_)
    rotate_left
    · have g := of_decide_eq_false g
      exact g ⟨h.2.2.2.1, h.2.2.2.2.1, h.2.2.2.2.2.1, h.2.2.2.2.2.2⟩
    have g := of_decide_eq_true g
    refine ⟨t.ins, o10.cell rfl, brB_of (fun g1 => ?_) (fun g1 => no fun h => ?_)⟩
    rotate_left
    · have g1 := of_decide_eq_false g1
      have := h.1; omega
    have g1 := of_decide_eq_true g1
    refine ⟨t.outs, o10.cell rfl, brB_of (fun g2 => ?_) (fun g2 => no fun h => ?_)⟩
    rotate_left
    · have g2 := of_decide_eq_false g2
      have := h.2.1; omega
    have g2 := of_decide_eq_true g2
    refine ⟨t.start, o10.cell rfl, (between_any _ _ _ _).mono ?_⟩
    rintro e w34 ⟨rfl, rfl⟩
    refine ⟨_, rfl, _, rfl, ⟨fun g3 => ?_, fun h => ?_⟩, c11⟩
    · have g3 := of_decide_eq_true g3
      exact ⟨by omega, by omega, by omega, g.1, g.2.1, g.2.2.1, g.2.2.2⟩
    · have := h.2.2.1
      apply decide_eq_true; omega
  · have no : ∀ {b : Bool}, ¬ ((0 ≤ v.slots ∧ v.slots ≤ 48) ∧ (0 ≤ v.grow ∧ v.grow ≤ 48) ∧ (0 ≤ v.backs ∧ v.backs ≤ 48) ∧ (0 ≤ v.growBack ∧ v.growBack ≤ 48)) → false = decide ((0 ≤ v.slots ∧ v.slots ≤ 48) ∧ (0 ≤ v.grow ∧ v.grow ≤ 48) ∧ (0 ≤ v.backs ∧ v.backs ≤ 48) ∧ (0 ≤ v.growBack ∧ v.growBack ≤ 48)) ∧ w11 = w11 := fun h => ⟨(decide_eq_false h).symm, rfl⟩
    refine ⟨t.slots, o10.cell rfl, (between_any _ _ _ _).mono ?_⟩
    rintro e w14 ⟨rfl, rfl⟩
    refine ⟨_, rfl, brB_of (fun g1 => ?_) (fun g1 => no (b := true) fun h => ?_)⟩
    rotate_left
    · have g1 := of_decide_eq_false g1; rw [n2] at g1; exact g1 h.1
    have g1 := of_decide_eq_true g1
    refine ⟨t.grow, o10.cell rfl, (between_any _ _ _ _).mono ?_⟩
    rintro e w14 ⟨rfl, rfl⟩
    refine ⟨_, rfl, brB_of (fun g2 => ?_) (fun g2 => no (b := true) fun h => ?_)⟩
    rotate_left
    · have g2 := of_decide_eq_false g2; rw [n4] at g2; exact g2 h.2.1
    have g2 := of_decide_eq_true g2
    refine ⟨t.backs, o10.cell rfl, (between_any _ _ _ _).mono ?_⟩
    rintro e w14 ⟨rfl, rfl⟩
    refine ⟨_, rfl, brB_of (fun g3 => ?_) (fun g3 => no (b := true) fun h => ?_)⟩
    rotate_left
    · have g3 := of_decide_eq_false g3; rw [n3] at g3; exact g3 h.2.2.1
    have g3 := of_decide_eq_true g3
    refine ⟨t.growBack, o10.cell rfl, (between_any _ _ _ _).mono ?_⟩
    rintro e w14 ⟨rfl, rfl⟩
    refine ⟨_, rfl, ?_, rfl⟩
    rw [Bool.eq_iff_iff]; simp; omega
theorem icells_any {w : World} {l : Sl} {xs : List Int} (hl : Rd intE w l xs) : Calls Try.prog fn_ir_cells #[l.val] w fun e w' => ∃ b : Bool, e = .returned (.bool b) ∧ (b = true ↔ CellsV xs) ∧ w = w' := by
  refine (ir_cells_lift (K := fun r w' => ∃ b : Bool, r = .bool b ∧ (b = true ↔ CellsV xs) ∧ w = w') ?_).mono (by rintro e w' ⟨r, rfl, b, rfl, h⟩; exact ⟨b, rfl, h⟩)
  unfold ir_cells_sh
  have hll := hl.len
  have hcap := hl.capL
  refine ⟨fun last n w' => ∃ k : Nat, n = k ∧ k ≤ xs.length ∧ (k = 0 → last = -1) ∧ (∀ m : Nat, k = m + 1 → xs[m]? = some last) ∧ -1 ≤ last ∧ (∀ (j : Nat) (c : Int), j < k → xs[j]? = some c → (0 ≤ c ∧ c ≤ 2999) ∧ ∀ (m : Nat) (d : Int), j = m + 1 → xs[m]? = some d → d < c) ∧ w = w', fun _ n _ => xs.length - n.toNat, ⟨0, rfl, Nat.zero_le _, fun _ => rfl, fun m h => by omega, by decide, fun j c h => by omega, rfl⟩, ?_⟩
  rintro last n w2 ⟨k, rfl, hk, h0, hs, hge, hall, rfl⟩
  refine brB_of (fun hlt => ?_) (fun hlt => ?_)
  · have hlt : k < xs.length := by simp at hlt; omega
    obtain ⟨c, hc⟩ : ∃ x, xs[k]? = some x := ⟨_, List.getElem?_eq_getElem hlt⟩
    refine hl.ix (i := (k : Int)) (by omega) (by rw [Int.toNat_natCast]; exact hc) fun a _ hcell => ?_
    have q1 := hcell 0 _ rfl
    rw [add0] at q1
    refine ⟨c, q1, fun b w' => (b = false ↔ last < c ∧ c < 3000) ∧ w = w', ?_, ?_⟩
    · rintro b w7 ⟨hb, rfl⟩
      refine brB_of (fun hbt => ⟨false, rfl, ⟨(fun h => by cases h), fun h => ?_⟩, rfl⟩) (fun hbf => ?_)
      · have hcc := h k c hc
        have : b = false := hb.2 ⟨by
          rcases Nat.eq_zero_or_pos k with hk0 | hk0
          · have := h0 hk0; omega
          · obtain ⟨m, rfl⟩ : ∃ m, k = m + 1 := ⟨k - 1, by omega⟩
            exact hcc.2 m last rfl (hs m rfl), by omega⟩
        rw [this] at hbt; cases hbt
      · have hcc := hb.1 hbf
        rw [wr_in (by omega)]
        refine ⟨⟨k + 1, by omega, by omega, fun h => by omega, fun m hm => ?_, by omega, fun j c' hj hc' => ?_, rfl⟩, by show xs.length - Int.toNat ((k : Int) + 1) < xs.length - Int.toNat (k : Int); omega⟩
        · obtain rfl : k = m := by omega
          exact hc
        · by_cases hjk : j = k
          · subst hjk
            rw [hc] at hc'; cases hc'
            refine ⟨by omega, fun m d hm hd => ?_⟩
            have := hs m hm
            rw [hd] at this; cases this
            exact hcc.1
          · exact hall j c' (by omega) hc'
    · refine brB_of (fun h1 => ⟨⟨(fun h => by cases h), fun h => ?_⟩, rfl⟩) (fun h1 => ⟨⟨fun h => ?_, fun h => ?_⟩, rfl⟩)
      · have h1 := of_decide_eq_true h1; omega
      · have h1 := of_decide_eq_false h1; have h := of_decide_eq_false h; omega
      · apply decide_eq_false; omega
  · have hlt : k = xs.length := by simp at hlt; omega
    subst hlt
    exact ⟨true, rfl, ⟨fun _ j c hc => hall j c (List.getElem?_eq_some_iff.1 hc).1 hc, fun _ => rfl⟩, rfl⟩
theorem iright_any {D : Nat → Prop} {w : World} (t : TrP) {v : TrG} (ht : TrIs D w t v) :
    Calls Try.prog fn_ir_Right #[.agg (trP t).toArray] w fun e w' => ∃ b : Bool, e = .returned (.bool b) ∧ (b = true ↔ RightV v) ∧ Chg No w w' := by
  refine (ir_Right_lift (K := fun r w' => ∃ b : Bool, r = .bool b ∧ (b = true ↔ RightV v) ∧ Chg No w w') ?_).mono (by rintro e w' ⟨r, rfl, b, rfl, h⟩; exact ⟨b, rfl, h⟩)
  unfold ir_Right_sh
  intro b10 w11 hb10 hw11
  have o11 : Ob w11 b10 (trP t) T_api_Trace := by rw [hw11, hb10]; exact Ob.new w (trP t) T_api_Trace
  have c11 := al hw11
  have hil := ht.ins.len
  have hic := ht.ins.capL
  obtain ⟨os, hos, hov⟩ := ht.outs
  have hol := hos.len
  have hoc := hos.capL
  have hovl := hov.1
  obtain ⟨n1, n2, n3, n4, n5, n6⟩ := ht.nums
  have no : ∀ {w' : World}, Chg No w w' → ¬ RightV v → ∃ b : Bool, Value.bool false = .bool b ∧ (b = true ↔ RightV v) ∧ Chg No w w' := fun c h => ⟨false, rfl, ⟨(fun h => by cases h), fun h' => absurd h' h⟩, c⟩
  refine ⟨fun b w' => (b = false ↔ HeadV v ∧ CellsV v.cells ∧ OutV v v.last v.ins.length ∧ 1 ≤ (outAt v v.last).steps) ∧ Chg No w11 w', ?_, ?_⟩
  · rintro b w46 ⟨hb, c46⟩
    have k46 := trN c11 c46
    refine brB_of (fun hbt => no k46 fun h => ?_) (fun hbf => ?_)
    · rw [hb.2 ⟨h.head, h.cells, h.last, h.lastS⟩] at hbt; cases hbt
    obtain ⟨hhead, hcells, hlast, hlastS⟩ := hb.1 hbf
    refine ⟨t.outs, (o11.no c46).cell rfl, fun n w' => ∃ k : Nat, n = k ∧ k ≤ v.outs.length ∧ (∀ (j : Nat) (o : OuV), j < k → v.outs[j]? = some o → ExitV v o) ∧ Chg No w11 w', fun n _ => v.outs.length - n.toNat, ⟨0, rfl, Nat.zero_le _, fun j i h => by omega, c46⟩, ?_⟩
    rintro n w49 ⟨k, rfl, hk, hexit, c49⟩
    have k49 := trN c11 c49
    refine brB_of (fun hlt => ?_) (fun hlt => ?_)
    · have hlt : k < v.outs.length := by simp at hlt; omega
      obtain ⟨o, ho⟩ : ∃ o, os[k]? = some o := ⟨_, List.getElem?_eq_getElem (by omega)⟩
      obtain ⟨ov, hovk⟩ : ∃ o, v.outs[k]? = some o := ⟨_, List.getElem?_eq_getElem hlt⟩
      obtain ⟨u1, u2, u3, u4, _, _⟩ := hov.2 _ _ _ ho hovk
      refine (hos.no k49).ix (i := (k : Int)) (by omega) (by rw [Int.toNat_natCast]; exact ho) fun a _ hcell => ?_
      have g0 := hcell 0 _ rfl
      rw [add0] at g0
      refine ⟨_, _, _, _, g0, hcell 1 _ rfl, hcell 2 _ rfl, hcell 3 _ rfl, ?_⟩
      intro b56 w57 hb56 hw57
      have hn := fun (w2 : World) => newOb (w2 := w2) (T := T_api_Out) (ouC ⟨0, 0, nilS, nilS⟩) (ouC o) rfl hb56 hw57
      refine ⟨(hn w57).1, fun w58 hw58 => ?_⟩
      obtain ⟨o56, c58⟩ := (hn w58).2 hw58
      have k58 := trN k49 c58
      have o58 := (o11.no c49).no c58
      refine ⟨_, _, _, _, _, _, _, _, _, o58.cell rfl, o58.cell rfl, o58.cell rfl, o58.cell rfl, o58.cell rfl, o58.cell rfl, o58.cell rfl, o58.cell rfl, o58.cell rfl, _, _, _, _, o56.cell rfl, o56.cell rfl, o56.cell rfl, o56.cell rfl, ?_⟩
      refine (iout_any t (ht.no k58) hhead o u1 u2 (u3.no k58) (u4.no k58)).mono ?_
      rintro e w73 ⟨b2, rfl, hb2, c73⟩
      refine ⟨b2, rfl, brB_of (fun hn => no (trN k58 c73) fun h => ?_) (fun hn => ?_)⟩
      · have := hb2.2 (h.exits k ov hovk)
        rw [this] at hn; cases hn
      · have hn : b2 = true := by simpa using hn
        rw [wr_in (by omega)]
        refine ⟨⟨k + 1, by omega, by omega, fun j o' hj ho' => ?_, trN (trN c49 c58) c73⟩, by show v.outs.length - Int.toNat ((k : Int) + 1) < v.outs.length - Int.toNat (k : Int); omega⟩
        by_cases hjk : j = k
        · subst hjk
          rw [hovk] at ho'; cases ho'
          exact hb2.1 hn
        · exact hexit j o' (by omega) ho'
    · have hlt : k = v.outs.length := by simp at hlt; omega
      subst hlt
      refine ⟨t.ins, (o11.no c49).cell rfl, fun n w' => ∃ k : Nat, n = k ∧ k ≤ v.ins.length ∧ (∀ (j : Nat) (i : In5), j < k → v.ins[j]? = some i → EachV v j i) ∧ Chg No w11 w', fun n _ => v.ins.length - n.toNat, ⟨0, rfl, Nat.zero_le _, fun j i h => by omega, c49⟩, ?_⟩
      rintro n w76 ⟨k, rfl, hk, hall, c76⟩
      have k76 := trN c11 c76
      refine brB_of (fun hlt => ?_) (fun hlt => ?_)
      · have hlt : k < v.ins.length := by simp at hlt; omega
        obtain ⟨i, hiv⟩ : ∃ i, v.ins[k]? = some i := ⟨_, List.getElem?_eq_getElem hlt⟩
        refine (ht.ins.no k76).ix (i := (k : Int)) (by omega) (by rw [Int.toNat_natCast]; exact hiv) fun a _ hcell => ?_
        have g0 := hcell 0 _ rfl
        rw [add0] at g0
        refine ⟨_, _, _, _, _, g0, hcell 1 _ rfl, hcell 2 _ rfl, hcell 3 _ rfl, hcell 4 _ rfl, ?_⟩
        intro b84 w85 hb84 hw85
        have hn := fun (w2 : World) => newOb (w2 := w2) (T := T_api_Ins) (insC ⟨0, 0, 0, 0, 0⟩) (insC i) rfl hb84 hw85
        refine ⟨(hn w85).1, fun w86 hw86 => ?_⟩
        obtain ⟨o84, c86⟩ := (hn w86).2 hw86
        have k86 := trN k76 c86
        have o86 := (o11.no c76).no c86
        refine ⟨fun b w' => (b = false ↔ EachA v k i) ∧ Chg No w86 w', ?_, ?_⟩
        · rintro b w126 ⟨hb, c126⟩
          have k126 := trN k86 c126
          refine brB_of (fun hbt => no k126 fun h => ?_) (fun hbf => ?_)
          · rw [hb.2 (eachV_iff.1 (h.each k i hiv)).1] at hbt; cases hbt
          have hA := hb.1 hbf
          have o126 := o84.no c126
          refine ⟨_, _, _, _, _, o126.cell rfl, o126.cell rfl, o126.cell rfl, o126.cell rfl, o126.cell rfl, (iouts_any i w126).mono ?_⟩
          rintro e w134 ⟨r, rfl, s135, rfl, g135, c134, _⟩
          have hsl := g135.rd.len
          have hsc := g135.rd.capL
          refine ⟨s135, rfl, fun n w' => ∃ j : Nat, n = j ∧ j ≤ (outsV i).length ∧ (∀ x ∈ (outsV i).take j, OutV v x k) ∧ Chg No w134 w', fun n _ => (outsV i).length - n.toNat, ⟨0, rfl, Nat.zero_le _, fun x hx => by simp at hx, Chg.refl _ _⟩, ?_⟩
          rintro n w136 ⟨j, rfl, hj, hout, c136⟩
          have k136 := trN (trN k126 c134) c136
          refine brB_of (fun hlt2 => ?_) (fun hlt2 => ?_)
          · have hlt2 : j < (outsV i).length := by simp at hlt2; omega
            obtain ⟨x, hx⟩ : ∃ x, (outsV i)[j]? = some x := ⟨_, List.getElem?_eq_getElem hlt2⟩
            have o136 := ((o86.no c126).no c134).no c136
            refine (g135.no c136).rd.ix (i := (j : Int)) (by omega) (by rw [Int.toNat_natCast]; exact hx) fun a _ hcell' => ?_
            have q1 := hcell' 0 _ rfl
            rw [add0] at q1
            refine ⟨x, q1, _, _, _, _, _, _, _, _, _, o136.cell rfl, o136.cell rfl, o136.cell rfl, o136.cell rfl, o136.cell rfl, o136.cell rfl, o136.cell rfl, o136.cell rfl, o136.cell rfl, (inamed_any t (ht.no k136) x (by omega)).mono ?_⟩
            rintro e w150 ⟨b2, rfl, hb2, c150⟩
            refine ⟨b2, rfl, brB_of (fun hn => no (trN k136 c150) fun h => ?_) (fun hn => ?_)⟩
            · have := hb2.2 ((h.each k i hiv).2.2.2.2.2 x (List.mem_of_getElem? hx))
              rw [this] at hn; cases hn
            · have hn : b2 = true := by simpa using hn
              rw [wr_in (by omega)]
              refine ⟨⟨j + 1, by omega, by omega, fun y hy => ?_, trN c136 c150⟩, by show (outsV i).length - Int.toNat ((j : Int) + 1) < (outsV i).length - Int.toNat (j : Int); omega⟩
              rw [List.take_add_one, hx] at hy
              rcases List.mem_append.1 hy with hy | hy
              · exact hout y hy
              · have : y = x := by simpa using hy
                rw [this]; exact hb2.1 hn
          · have hlt2 : j = (outsV i).length := by simp at hlt2; omega
            subst hlt2
            rw [List.take_length] at hout
            rw [wr_in (by omega)]
            refine ⟨⟨k + 1, by omega, by omega, fun j i' hj hi' => ?_, trN (trN (trN (trN c76 c86) c126) c134) c136⟩, by show v.ins.length - Int.toNat ((k : Int) + 1) < v.ins.length - Int.toNat (k : Int); omega⟩
            by_cases hjk : j = k
            · subst hjk
              rw [hiv] at hi'; cases hi'
              exact eachV_iff.2 ⟨hA, hout⟩
            · exact hall j i' (by omega) hi'
        · intro w87 hw87
          have c87 := dw hw87
          have k87 := trN k86 c87
          have p84 := o84.no c87
          have p10 := o86.no c87
          have hd : ∀ {j : Nat} {u : Value}, (trP t)[j]? = some u → held (fun w' => Chg No w87 w') ⟨b10, j, none⟩ u := fun h => Ob.held (fun w' c => p10.no c) h
          have hi : ∀ {j : Nat} {u : Value}, (insC i)[j]? = some u → held (fun w' => Chg No w87 w') ⟨b84, j, none⟩ u := fun h => Ob.held (fun w' c => p84.no c) h
          refine ⟨fun w' => Chg No w87 w', Chg.refl _ _, _, _, _, _, _, _, _, _, _, hd rfl, hd rfl, hd rfl, hd rfl, hd rfl, hd rfl, hd rfl, hd rfl, hd rfl, _, _, _, _, _, hi rfl, hi rfl, hi rfl, hi rfl, hi rfl, (isingle_any t (ht.no k87) hhead i).mono ?_⟩
          rintro e w104 ⟨b1, rfl, hb1, c104⟩
          refine ⟨b1, rfl, c104, brB_of (fun hn => ⟨⟨(fun h => by cases h), fun h => ?_⟩, trN c87 c104⟩) (fun hn => ?_)⟩
          · have := hb1.2 ⟨h.1, h.2.1, h.2.2.1, h.2.2.2.1⟩
            rw [this] at hn; cases hn
          have hn : b1 = true := by simpa using hn
          obtain ⟨s1, s2, s3, s4⟩ := hb1.1 hn
          refine ⟨_, _, _, _, _, _, _, _, _, hd rfl, hd rfl, hd rfl, hd rfl, hd rfl, hd rfl, hd rfl, hd rfl, hd rfl, _, _, _, _, _, hi rfl, hi rfl, hi rfl, hi rfl, hi rfl, (iuses_any i w104).mono ?_⟩
          rintro e w121 ⟨r, rfl, s122, rfl, g122, c121, _⟩
          have k121 := trN (trN k87 c104) c121
          refine ⟨s122, rfl, trN c104 c121, (iplaces_any t (ht.no k121) g122.rd (by omega)).mono ?_⟩
          rintro e w124 ⟨b2, rfl, hb2, c124⟩
          exact ⟨b2, rfl, ⟨fun h => ⟨s1, s2, s3, s4, hb2.1 (by simpa using h)⟩, fun h => by rw [hb2.2 h.2.2.2.2]; rfl⟩, trN (trN (trN c87 c104) c121) c124⟩
      · have hlt : k = v.ins.length := by simp at hlt; omega
        subst hlt
        exact ⟨true, rfl, ⟨fun _ => ⟨hhead, fun k i hi => hall k i (List.getElem?_eq_some_iff.1 hi).1 hi, fun k o ho => hexit k o (List.getElem?_eq_some_iff.1 ho).1 ho, hcells, hlast, hlastS⟩, fun _ => rfl⟩, k76⟩
  · have bad : ∀ {w' : World}, Chg No w11 w' → ¬ (HeadV v ∧ CellsV v.cells ∧ OutV v v.last v.ins.length ∧ 1 ≤ (outAt v v.last).steps) → (true = false ↔ HeadV v ∧ CellsV v.cells ∧ OutV v v.last v.ins.length ∧ 1 ≤ (outAt v v.last).steps) ∧ Chg No w11 w' := fun c h => ⟨⟨(fun h => by cases h), fun h' => absurd h' h⟩, c⟩
    refine ⟨_, _, _, _, _, _, _, _, _, o11.cell rfl, o11.cell rfl, o11.cell rfl, o11.cell rfl, o11.cell rfl, o11.cell rfl, o11.cell rfl, o11.cell rfl, o11.cell rfl, (ihead_any t (ht.no c11)).mono ?_⟩
    rintro e w22 ⟨b1, rfl, hb1, c22⟩
    refine ⟨b1, rfl, brB_of (fun hn => bad c22 fun h => ?_) (fun hn => ?_)⟩
    · rw [hb1.2 h.1] at hn; cases hn
    have hhead := hb1.1 (by simpa using hn)
    refine ⟨t.cells, (o11.no c22).cell rfl, (icells_any (ht.cells.no (trN c11 c22))).mono ?_⟩
    rintro e w26 ⟨b2, rfl, hb2, rfl⟩
    refine ⟨b2, rfl, brB_of (fun hn => bad c22 fun h => ?_) (fun hn => ?_)⟩
    · rw [hb2.2 h.2.1] at hn; cases hn
    have hcells := hb2.1 (by simpa using hn)
    have o22 := o11.no c22
    refine ⟨_, _, _, _, _, _, _, _, _, o22.cell rfl, o22.cell rfl, o22.cell rfl, o22.cell rfl, o22.cell rfl, o22.cell rfl, o22.cell rfl, o22.cell rfl, o22.cell rfl, t.last, o22.cell rfl, t.ins, o22.cell rfl, ?_⟩
    rw [hil]
    refine (inamed_any t (ht.no (trN c11 c22)) t.last (Nat.le_refl _)).mono ?_
    rintro e w40 ⟨b3, rfl, hb3, c40⟩
    rw [n6] at hb3
    have c40' := trN c22 c40
    refine ⟨b3, rfl, brB_of (fun hn => bad c40' fun h => ?_) (fun hn => ?_)⟩
    · rw [hb3.2 h.2.2.1] at hn; cases hn
    have hlast := hb3.1 (by simpa using hn)
    obtain ⟨o, ho⟩ : ∃ o, os[v.last.toNat]? = some o := ⟨_, List.getElem?_eq_getElem (by have := hlast.1; have := hlast.2.1; omega)⟩
    obtain ⟨u1, u2, _⟩ := hov.2 _ _ _ ho (outAt_ix hlast.1 hlast.2.1)
    have o40 := o11.no c40'
    refine ⟨t.outs, o40.cell rfl, v.last, by have := o40.cell (k := 7) (v := .int .i64 t.last) rfl; rw [n6] at this; exact this, (hos.no (trN c11 c40')).ix hlast.1 ho fun a _ hcell' => ⟨o.steps, hcell' 1 _ rfl, ⟨fun h => ?_, fun h => ?_⟩, c40'⟩⟩
    · have h := of_decide_eq_false h
      exact ⟨hhead, hcells, hlast, by rw [← u2]; omega⟩
    · apply decide_eq_false
      rw [u2]; have := h.2.2.2; omega
end Go.Proofs.Ytblmoilneiffgaa

/- Package fold: maps of places, what is known of an instruction. -/
set_option maxRecDepth 100000
namespace Go.Proofs.Ytblmoilneiffgaa
open Go.RowKit

theorem mapOk : EncOk Try.prog intE T_fold_Map := EncOk.of (z := .int .i64 0) (by kernel_rfl) (by kernel_rfl) (by kernel_rfl)
theorem insOk : EncOk Try.prog insE T_sl_api_Ins := EncOk.of (z := .agg #[.int .i64 0, .int .i64 0, .int .i64 0, .int .i64 0, .int .i64 0]) (by kernel_rfl) (by kernel_rfl) (by kernel_rfl)
theorem ousOk : EncOk Try.prog ouE T_sl_api_Out := EncOk.of (z := .agg #[.int .i64 0, .int .i64 0, .slice none 0 0, .slice none 0 0]) (by kernel_rfl) (by kernel_rfl) (by kernel_rfl)
/-- append(l, x), of any kind. -/
theorem app1_gen {α : Type} {P : Program} {E : Enc α} {T : TypeId} (ok : EncOk P E T) (hby : E.bytes ≤ 1000) {w0 w w2 : World} {l : Sl} {b : Nat} {xs : List α} {x : α} {cs : List Value} (hcs : cs = E.e x) (hb : b = w.heap.size) (hw : w2 = World.alloc w (.cells cs.toArray E.t)) (h : Ow E w l xs) (c0 : Chg No w0 w) (hn : ∀ k, l.blk = some k → w0.heap.size ≤ k) (hl : xs.length ≤ 1000000) {G : Sl → World → Prop}
    (k : ∀ (s' : Sl) (w' : World), Ow E w' s' (xs ++ [x]) → Chg No w0 w' → Chg (fun k => l.blk = some k) w w' → (∀ k, s'.blk = some k → w0.heap.size ≤ k ∧ (l.blk = some k ∨ w.heap.size ≤ k)) → G s' w') :
    ∃ s' : Sl, ∃ w' : World, (Builtin.append_ #[T, T] T #[l.val, .slice (some ⟨b, 0, none⟩) 1 1]).run P w2 = .ok s'.val w' ∧ G s' w' := by
  subst hcs
  have h1 : Ow E w2 ⟨some ⟨b, 0, none⟩, 1, 1⟩ [x] := by
    rw [hw, hb]; exact Ow.lit (E := E) w [x] (E.e x) (by rw [fl_one]) (by show 1 ≤ maxLen; unfold maxLen; omega)
  have h2 := al hw
  have z0 := c0.size
  have z2 := h2.size
  have hmul : (xs.length + 1) * E.bytes ≤ 1000001 * 1000 := Nat.mul_le_mul (by omega) hby
  refine app_ok ok (s := l) (t := ⟨some ⟨b, 0, none⟩, 1, 1⟩) rfl rfl (h.no h2) h1.rd (by show (xs.length + 1) * E.bytes ≤ _; omega) (by show xs.length + 1 ≤ _; unfold maxLen; omega) ?_
  intro s' w' h' c hbk
  refine k s' w' h' ((trN c0 h2).trans c (fun _ _ h => h) (fun j hj he => by have := hn j he; omega)) (h2.trans c (fun _ _ h => h.elim) (fun _ _ h => h)) (fun j hj => ?_)
  rcases hbk with hh | hh
  · exact ⟨hn j (hh ▸ hj), Or.inl (hh ▸ hj)⟩
  · have := Option.some.inj (hh.symm.trans hj)
    exact ⟨by omega, Or.inr (by omega)⟩
theorem mof_any {w : World} {m : Sl} {ms : List Int} (hm : Rd intE w m ms) (p : Int) : Calls Try.prog fn_fold_Map_Of #[m.val, .int .i64 p] w fun e w' => e = .returned (.int .i64 (ofV ms p)) ∧ w = w' := by
  refine (fold_Map_Of_lift (K := fun r w' => r = .int .i64 (ofV ms p) ∧ w = w') ?_).mono (by rintro e w' ⟨r, rfl, rfl, h⟩; exact ⟨rfl, h⟩)
  unfold fold_Map_Of_sh
  have hl := hm.len
  refine ⟨fun b w' => b = decide (p < 0 ∨ (ms.length : Int) ≤ p) ∧ w = w', ?_, ?_⟩
  · rintro b w3 ⟨rfl, rfl⟩
    refine brB_of (fun h => ⟨?_, rfl⟩) (fun h => ?_)
    · unfold ofV; rw [if_pos (of_decide_eq_true h)]
    · have h := of_decide_eq_false h
      refine hm.ix (by omega) (getI_ix (by omega) (by omega)) fun a _ hcell => ?_
      have q := hcell 0 _ rfl
      rw [add0] at q
      refine ⟨_, q, ?_, rfl⟩
      unfold ofV; rw [if_neg h]
  · refine brB_of (fun h => ⟨?_, rfl⟩) (fun h => ⟨?_, rfl⟩)
    · have h := of_decide_eq_true h
      symm; apply decide_eq_true; omega
    · have h := of_decide_eq_false h
      rw [hl, Bool.eq_iff_iff]; simp; omega
theorem mall_any {w : World} {m l : Sl} {ms ps : List Int} (hm : Rd intE w m ms) (hl : Rd intE w l ps) (hn : ps.length ≤ 100000) : Calls Try.prog fn_fold_Map_All #[m.val, l.val] w fun e w' => ∃ r, e = .returned r ∧ NewI w w' r (ps.map (ofV ms)) := by
  refine (fold_Map_All_lift (K := fun r w' => NewI w w' r (ps.map (ofV ms))) ?_).mono (by rintro e w' ⟨r, rfl, h⟩; exact ⟨r, rfl, h⟩)
  unfold fold_Map_All_sh
  have hll := hl.len
  refine ⟨fun o n w' => ∃ k : Nat, n = k ∧ k ≤ ps.length ∧ Ow intE w' o ((ps.take k).map (ofV ms)) ∧ Chg No w w' ∧ (∀ k, o.blk = some k → w.heap.size ≤ k), fun _ n _ => ps.length - n.toNat, ⟨0, rfl, Nat.zero_le _, Ow.nil _ _, Chg.refl _ _, fun k hk => by cases hk⟩, ?_⟩
  rintro o n w3 ⟨k, rfl, hk, ho, hc, hb⟩
  refine brB_of (fun hlt => ?_) (fun hlt => ?_)
  · have hlt : k < ps.length := by simp at hlt; omega
    obtain ⟨x, hx⟩ : ∃ x, ps[k]? = some x := ⟨_, List.getElem?_eq_getElem hlt⟩
    refine (hl.no hc).ix (i := (k : Int)) (by omega) (by rw [Int.toNat_natCast]; exact hx) fun a _ hcell => ?_
    have q := hcell 0 _ rfl
    rw [add0] at q
    refine ⟨x, q, (mof_any (hm.no hc) x).mono ?_⟩
    rintro e w9 ⟨rfl, rfl⟩
    refine ⟨_, rfl, ?_⟩
    intro b11 w12 hb11 hw12
    refine app1_ints hb11 hw12 ho hc hb (by rw [List.length_map, List.length_take]; omega) ?_
    intro s13 w14 h13 c14 b14
    rw [wr_in (by omega)]
    refine ⟨⟨k + 1, by omega, by omega, ?_, c14, b14⟩, by show ps.length - Int.toNat ((k : Int) + 1) < ps.length - Int.toNat (k : Int); omega⟩
    rw [List.take_add_one, hx, List.map_append]; exact h13
  · have hlt : k = ps.length := by simp at hlt; omega
    subst hlt
    rw [List.take_length] at ho
    exact ⟨o, rfl, ho, hc, hb⟩
theorem mins_any {w : World} {m : Sl} {ms : List Int} (hm : Rd intE w m ms) (i : In5) : Calls Try.prog fn_fold_Map_Ins #[m.val, .agg (insC i).toArray] w fun e w' => e = .returned (.agg (insC (insM ms i)).toArray) ∧ Chg No w w' := by
  refine (fold_Map_Ins_lift (K := fun r w' => r = .agg (insC (insM ms i)).toArray ∧ Chg No w w') ?_).mono (by rintro e w' ⟨r, rfl, rfl, h⟩; exact ⟨rfl, h⟩)
  unfold fold_Map_Ins_sh
  intro b7 w8 hb7 hw8 b9 w10 hb9 hw10
  have c8 := al hw8
  have c10 := al hw10
  have z8 : w8.heap.size = w.heap.size + 1 := by rw [hw8]; simp
  have z10 : w10.heap.size = w8.heap.size + 1 := by rw [hw10]; simp
  have o7 : Ob w10 b7 (insC i) T_api_Ins := by
    have : Ob w8 b7 (insC i) T_api_Ins := by rw [hw8, hb7]; exact Ob.new w (insC i) T_api_Ins
    exact this.no c10
  have o9 : Ob w10 b9 (insC ⟨0, 0, 0, 0, 0⟩) T_api_Ins := by rw [hw10, hb9]; exact Ob.new w8 (insC ⟨0, 0, 0, 0, 0⟩) T_api_Ins
  have k10 := trN c8 c10
  refine ⟨fun w' => Ob w' b7 (insC (insM ms i)) T_api_Ins ∧ Ob w' b9 (insC ⟨0, 0, 0, 0, 0⟩) T_api_Ins ∧ Chg (fun k => k = b7) w10 w', ?_, ?_⟩
  · rintro w30 ⟨p7, p9, c30⟩
    refine ⟨_, _, _, _, _, p7.cell rfl, p7.cell rfl, p7.cell rfl, p7.cell rfl, p7.cell rfl, p9.wr (by simp [insC]), fun w36 hw36 => ?_⟩
    obtain ⟨q9, c36⟩ := p9.up (k := 0) (vs := insC (insM ms i)) (cs' := insC (insM ms i)) (by simp [insC]) rfl hw36
    refine ⟨_, _, _, _, _, q9.cell rfl, q9.cell rfl, q9.cell rfl, q9.cell rfl, q9.cell rfl, rfl, ?_⟩
    exact (k10.trans c30 (fun _ _ h => h) (fun k hk he => by omega)).trans c36 (fun _ _ h => h) (fun k hk he => by omega)
  refine ⟨_, _, _, _, _, o7.cell rfl, o7.cell rfl, o7.cell rfl, o7.cell rfl, o7.cell rfl, (iuses_any i w10).mono ?_⟩
  rintro e w17 ⟨r, rfl, s18, rfl, g18, c17, _⟩
  have hl := g18.rd.len
  have p7 := o7.no c17
  have p9 := o9.no c17
  have z17 := c17.size
  have hb79 : b9 ≠ b7 := by omega
  have hm17 := hm.no (trN k10 c17)
  refine ⟨s18, rfl, fun w' => (∃ d : Int, Ob w' b7 (insC { i with d := d }) T_api_Ins ∧ insM ms i = { i with c := ofV ms i.c, d := d }) ∧ Ob w' b9 (insC ⟨0, 0, 0, 0, 0⟩) T_api_Ins ∧ Rd intE w' m ms ∧ Chg (fun k => k = b7) w10 w', ?_, ?_⟩
  · rintro w24 ⟨⟨d, q7, hM⟩, q9, hm24, c24⟩
    refine ⟨_, q7.cell rfl, (mof_any hm24 _).mono ?_⟩
    rintro e w27 ⟨rfl, rfl⟩
    refine ⟨_, rfl, q7.wr (by simp [insC]), fun w29 hw29 => ?_⟩
    obtain ⟨r7, c29⟩ := q7.up (k := 2) (vs := [.int .i64 (ofV ms i.c)]) (cs' := insC { i with c := ofV ms i.c, d := d }) (by simp [insC]) rfl hw29
    rw [hM]
    exact ⟨r7, q9.chg c29 hb79, c24.trans c29 (fun _ _ h => h) (fun _ _ h => h)⟩
  · have cN : Chg (fun k => k = b7) w10 w17 := c17.mono (fun _ _ h => h.elim)
    refine brB_of (fun h2 => ?_) (fun h2 => ?_)
    · have h2 : (usesV i).length = 2 := by simp at h2; omega
      refine ⟨_, p7.cell rfl, (mof_any hm17 _).mono ?_⟩
      rintro e w21 ⟨rfl, rfl⟩
      refine ⟨_, rfl, p7.wr (by simp [insC]), fun w23 hw23 => ?_⟩
      obtain ⟨r7, c23⟩ := p7.up (k := 3) (vs := [.int .i64 (ofV ms i.d)]) (cs' := insC { i with d := ofV ms i.d }) (by simp [insC]) rfl hw23
      refine ⟨⟨ofV ms i.d, r7, by unfold insM; rw [if_pos h2]⟩, p9.chg c23 hb79, ?_, cN.trans c23 (fun _ _ h => h) (fun _ _ h => h)⟩
      -- the map lies elsewhere
      have hk : Chg No w w23 := (trN k10 c17).trans c23 (fun _ _ h => h) (fun k hk he => by omega)
      exact hm.no hk
    · have h2 : (usesV i).length ≠ 2 := by simp at h2; omega
      refine brB_of (fun h1 => ?_) (fun h1 => ?_)
      · have h1 : (usesV i).length = 1 := by simp at h1; omega
        exact ⟨⟨i.d, p7, by unfold insM; rw [if_neg h2, if_pos h1]⟩, p9, hm17, cN⟩
      · have h1 : (usesV i).length ≠ 1 := by simp at h1; omega
        refine ⟨?_, p9, cN⟩
        have : insM ms i = i := by unfold insM; rw [if_neg h2, if_neg h1]
        rw [this]; exact p7
theorem OusIs.mono {D D' : Nat → Prop} {w : World} {os : List OuC} {vs : List OuV} (h : OusIs D w os vs) (hd : ∀ k, D k → D' k) : OusIs D' w os vs :=
  ⟨h.1, fun i o v ho hv => by obtain ⟨a, b, c, d, e, f⟩ := h.2 i o v ho hv; exact ⟨a, b, c, d, fun k hk => hd _ (e k hk), fun k hk => hd _ (f k hk)⟩⟩
theorem OusIs.snoc {D : Nat → Prop} {w : World} {os : List OuC} {vs : List OuV} (h : OusIs D w os vs) {o : OuC} {v : OuV} (ho : OuIs D w o v) : OusIs D w (os ++ [o]) (vs ++ [v]) := by
  refine ⟨by simp [h.1], fun i o' v' ho' hv' => ?_⟩
  by_cases hi : i < os.length
  · rw [List.getElem?_append_left hi] at ho'
    rw [List.getElem?_append_left (by rw [← h.1]; exact hi)] at hv'
    exact h.2 i o' v' ho' hv'
  · have hi2 : i = os.length := by have := (List.getElem?_eq_some_iff.1 ho').1; simp at this; omega
    subst hi2
    rw [List.getElem?_append_right (Nat.le_refl _), Nat.sub_self] at ho'
    rw [h.1, List.getElem?_append_right (Nat.le_refl _), Nat.sub_self] at hv'
    cases ho'; cases hv'; exact ho
/-- Exits that are new. -/
def NewO (w w' : World) (r : Value) (vs : List OuV) : Prop := ∃ (s : Sl) (os : List OuC), r = s.val ∧ Ow ouE w' s os ∧ OusIs (fun k => w.heap.size ≤ k ∧ s.blk ≠ some k) w' os vs ∧ Chg No w w' ∧ ∀ k, s.blk = some k → w.heap.size ≤ k
theorem mouts_any {D : Nat → Prop} {w : World} {m l : Sl} {ms : List Int} {os : List OuC} {vs : List OuV} (hm : Rd intE w m ms) (hl : Rd ouE w l os) (hv : OusIs D w os vs) (hn : vs.length ≤ 100000) (hn2 : ∀ v ∈ vs, v.stack.length ≤ 100000 ∧ v.back.length ≤ 100000) :
    Calls Try.prog fn_fold_Map_Outs #[m.val, l.val] w fun e w' => ∃ r, e = .returned r ∧ NewO w w' r (vs.map (outM ms)) := by
  refine (fold_Map_Outs_lift (K := fun r w' => NewO w w' r (vs.map (outM ms))) ?_).mono (by rintro e w' ⟨r, rfl, h⟩; exact ⟨r, rfl, h⟩)
  unfold fold_Map_Outs_sh
  have hll := hl.len
  have hvl := hv.1
  refine ⟨fun o n w' => ∃ (k : Nat) (os' : List OuC), n = k ∧ k ≤ vs.length ∧ Ow ouE w' o os' ∧ OusIs (fun k => w.heap.size ≤ k ∧ k < w'.heap.size ∧ o.blk ≠ some k) w' os' ((vs.take k).map (outM ms)) ∧ Chg No w w' ∧ (∀ k, o.blk = some k → w.heap.size ≤ k), fun _ n _ => vs.length - n.toNat, ⟨0, [], rfl, Nat.zero_le _, Ow.nil _ _, ⟨by simp, fun i o v h => by simp at h⟩, Chg.refl _ _, fun k hk => by cases hk⟩, ?_⟩
  rintro o n w3 ⟨k, os', rfl, hk, ho, hov, hc, hb⟩
  have z3 := hc.size
  refine brB_of (fun hlt => ?_) (fun hlt => ?_)
  · have hlt : k < vs.length := by simp at hlt; omega
    obtain ⟨x, hx⟩ : ∃ x, os[k]? = some x := ⟨_, List.getElem?_eq_getElem (by omega)⟩
    obtain ⟨v, hvk⟩ : ∃ x, vs[k]? = some x := ⟨_, List.getElem?_eq_getElem hlt⟩
    obtain ⟨u1, u2, u3, u4, _, _⟩ := hv.2 _ _ _ hx hvk
    obtain ⟨t1, t2⟩ := hn2 v (List.mem_of_getElem? hvk)
    refine (hl.no hc).ix (i := (k : Int)) (by omega) (by rw [Int.toNat_natCast]; exact hx) fun a _ hcell => ?_
    have q := hcell 0 _ rfl
    rw [add0] at q
    refine ⟨_, _, _, _, q, hcell 1 _ rfl, hcell 2 _ rfl, hcell 3 _ rfl, ?_⟩
    intro b10 w11 hb10 hw11
    have hnw := fun (w2 : World) => newOb (w2 := w2) (T := T_api_Out) (ouC ⟨0, 0, nilS, nilS⟩) (ouC x) rfl hb10 hw11
    refine ⟨(hnw w11).1, fun w12 hw12 => ?_⟩
    obtain ⟨o10, c12⟩ := (hnw w12).2 hw12
    intro w13 hw13
    have c13 := dw hw13
    have k13 := trN (trN hc c12) c13
    have p10 := o10.no c13
    have z12 := c12.size
    have z13 := c13.size
    refine ⟨fun w' => Ob w' b10 (ouC x) T_api_Out, p10, x.ip, Ob.held (fun w' c => c) rfl, x.steps, Ob.held (fun w' c => c) rfl, x.stack, Ob.held (fun w' c => c) rfl, x.back, Ob.held (fun w' c => c) rfl, ?_⟩
    refine (mall_any (hm.no k13) (u3.no k13) t1).mono ?_
    rintro e w21 ⟨r, rfl, s22, rfl, g22, c21, n22⟩
    have k21 := trN k13 c21
    have z21 := c21.size
    refine ⟨s22, rfl, p10.no c21, (mall_any (hm.no k21) (u4.no k21) t2).mono ?_⟩
    rintro e w24 ⟨r, rfl, s25, rfl, g25, c24, n25⟩
    have k24 := trN k21 c24
    have z24 := c24.size
    have p24 := (p10.no c21).no c24
    refine ⟨s25, rfl, p24, p24, ?_⟩
    intro b26 w27 hb26 hw27
    have c27 := al hw27
    have c324 : Chg No w3 w24 := trN (trN (trN c12 c13) c21) c24
    have hb10lt := o10.lt
    have hb10ge : w3.heap.size ≤ b10 := by omega
    have o3lt : ∀ k, o.blk = some k → k < w3.heap.size := fun k hk => ho.lt hk
    refine ⟨p24.no c27, app1_gen ousOk (by decide) (x := ⟨x.ip, x.steps, s22, s25⟩) rfl hb26 hw27 (ho.no c324) k24 hb ?_ ?_⟩
    · have := ho.rd.len; have h2 := hov.1; rw [List.length_map, List.length_take] at h2; omega
    intro s28 w29 g28 c29 cl b28
    have z29 := cl.size
    rw [wr_in (by omega)]
    refine ⟨⟨k + 1, os' ++ [⟨x.ip, x.steps, s22, s25⟩], by omega, by omega, g28, ?_, c29, fun j hj => (b28 j hj).1⟩, by show vs.length - Int.toNat ((k : Int) + 1) < vs.length - Int.toNat (k : Int); omega⟩
    rw [List.take_add_one, hvk, List.map_append]
    have l22 := fun j hj => g22.lt (k := j) hj
    have l25 := fun j hj => g25.lt (k := j) hj
    refine OusIs.snoc ?_ ?_
    · have h1 : OusIs (fun k => w.heap.size ≤ k ∧ k < w3.heap.size ∧ o.blk ≠ some k) w29 os' ((vs.take k).map (outM ms)) := (hov.chg c324 (fun _ _ h => h)).chg cl (fun k hk he => hk.2.2 he)
      refine h1.mono fun j hj => ⟨hj.1, by omega, fun he => ?_⟩
      rcases (b28 j he).2 with h | h
      · exact hj.2.2 h
      · omega
    · refine ⟨u1, u2, (g22.rd.no c24).chg cl (fun j hj he => by have := n22 j hj; have := o3lt j he; omega), g25.rd.chg cl (fun j hj he => by have := n25 j hj; have := o3lt j he; omega), fun j hj => ⟨?_, ?_, fun he => ?_⟩, fun j hj => ⟨?_, ?_, fun he => ?_⟩⟩
      · have := n22 j hj; omega
      · have := l22 j hj; omega
      · have := n22 j hj
        have := l22 j hj
        rcases (b28 j he).2 with h | h
        · have := o3lt j h; omega
        · omega
      · have := n25 j hj; omega
      · have := l25 j hj; omega
      · have := n25 j hj
        have := l25 j hj
        rcases (b28 j he).2 with h | h
        · have := o3lt j h; omega
        · omega
  · have hlt : k = vs.length := by simp at hlt; omega
    subst hlt
    rw [List.take_length] at hov
    exact ⟨o, os', rfl, ho, hov.mono (fun k hk => ⟨hk.1, hk.2.2⟩), hc, hb⟩
/-- The numbers of places. -/
def numL (is : List In5) (ps : List Int) : List Int := ps.map fun p => (atL is p).b
theorem atL_ix {l : List In5} {p : Int} (h0 : 0 ≤ p) (h1 : p < l.length) : l[p.toNat]? = some (atL l p) := by
  unfold atL; rw [List.getD_eq_getElem?_getD, List.getElem?_eq_getElem (by omega)]; rfl
theorem numbers_any {w : World} {l p : Sl} {is : List In5} {ps : List Int} (hl : Rd insE w l is) (hp : Rd intE w p ps) (hn : ps.length ≤ 100000) : Calls Try.prog fn_fold_numbers #[l.val, p.val] w fun e w' => ∃ s : Sl, e = .returned (.tuple #[s.val, .bool (decide (AllCon is ps))]) ∧ (AllCon is ps → Rd intE w' s (numL is ps)) ∧ Chg No w w' := by
  refine (fold_numbers_lift (K := fun r w' => ∃ s : Sl, r = .tuple #[s.val, .bool (decide (AllCon is ps))] ∧ (AllCon is ps → Rd intE w' s (numL is ps)) ∧ Chg No w w') ?_).mono (by rintro e w' ⟨r, rfl, s, rfl, h⟩; exact ⟨s, rfl, h⟩)
  unfold fold_numbers_sh
  have hll := hl.len
  have hpl := hp.len
  refine ⟨fun o n w' => ∃ k : Nat, n = k ∧ k ≤ ps.length ∧ AllCon is (ps.take k) ∧ Ow intE w' o (numL is (ps.take k)) ∧ Chg No w w' ∧ (∀ k, o.blk = some k → w.heap.size ≤ k), fun _ n _ => ps.length - n.toNat, ⟨0, rfl, Nat.zero_le _, (fun p hp => by simp at hp), Ow.nil _ _, Chg.refl _ _, fun k hk => by cases hk⟩, ?_⟩
  rintro o n w3 ⟨k, rfl, hk, hall, ho, hc, hb⟩
  refine brB_of (fun hlt => ?_) (fun hlt => ?_)
  · have hlt : k < ps.length := by simp at hlt; omega
    obtain ⟨x, hx⟩ : ∃ x, ps[k]? = some x := ⟨_, List.getElem?_eq_getElem hlt⟩
    refine (hp.no hc).ix (i := (k : Int)) (by omega) (by rw [Int.toNat_natCast]; exact hx) fun a _ hcell => ?_
    have q := hcell 0 _ rfl
    rw [add0] at q
    refine ⟨x, q, fun b w' => (b = false ↔ ConV is x) ∧ w' = w3, ?_, ?_⟩
    · rintro b w9 ⟨hbx, rfl⟩
      refine brB_of (fun hbt => ?_) (fun hbf => ?_)
      · have hno : ¬ AllCon is ps := fun h => by
          have := hbx.2 (h x (List.mem_of_getElem? hx))
          rw [this] at hbt; cases hbt
        exact ⟨nilS, by rw [decide_eq_false hno]; rfl, fun h => absurd h hno, hc⟩
      · have hcon := hbx.1 hbf
        obtain ⟨h0, h1, h2⟩ := hcon
        refine (hl.no hc).ix h0 (atL_ix h0 h1) fun a _ hcell => ⟨(atL is x).b, hcell 1 _ rfl, ?_⟩
        intro b14 w15 hb14 hw15
        refine app1_ints hb14 hw15 ho hc hb (by unfold numL; rw [List.length_map, List.length_take]; omega) ?_
        intro s16 w17 g16 c17 b17
        rw [wr_in (by omega)]
        refine ⟨⟨k + 1, by omega, by omega, fun p hp => ?_, ?_, c17, b17⟩, by show ps.length - Int.toNat ((k : Int) + 1) < ps.length - Int.toNat (k : Int); omega⟩
        · rw [List.take_add_one, hx] at hp
          rcases List.mem_append.1 hp with hp | hp
          · exact hall p hp
          · have : p = x := by simpa using hp
            rw [this]; exact ⟨h0, h1, h2⟩
        · unfold numL at g16 ⊢
          rw [List.take_add_one, hx, List.map_append]; exact g16
    · refine brB_of (fun h0 => ⟨⟨(fun h => by cases h), fun h => ?_⟩, rfl⟩) (fun h0 => brB_of (fun h1 => ⟨⟨(fun h => by cases h), fun h => ?_⟩, rfl⟩) (fun h1 => ?_))
      · have h0 := of_decide_eq_true h0; have := h.1; omega
      · have h1 := of_decide_eq_true h1; have := h.2.1; omega
      have h0 := of_decide_eq_false h0
      have h1 := of_decide_eq_false h1
      refine (hl.no hc).ix (i := x) (by omega) (atL_ix (by omega) (by omega)) fun a _ hcell => ?_
      have q2 := hcell 0 _ rfl
      rw [add0] at q2
      refine ⟨_, q2, ⟨fun h => ⟨by omega, by omega, by simpa using h⟩, fun h => ?_⟩, rfl⟩
      have := h.2.2
      simp [this]
  · have hlt : k = ps.length := by simp at hlt; omega
    subst hlt
    rw [List.take_length] at hall ho
    exact ⟨o, by rw [decide_eq_true hall], fun _ => ho.rd, hc⟩
theorem reckoned_any {w : World} {l : Sl} {is : List In5} (hl : Rd insE w l is) (i : In5) : Calls Try.prog fn_fold_reckoned #[l.val, .agg (insC i).toArray] w fun e w' => ∃ (n : Int) (b : Bool), e = .returned (.tuple #[.int .i64 n, .bool b]) ∧ reckV is i = (if b = true then some n else none) ∧ Chg No w w' := by
  refine (fold_reckoned_lift (K := fun r w' => ∃ (n : Int) (b : Bool), r = .tuple #[.int .i64 n, .bool b] ∧ reckV is i = (if b = true then some n else none) ∧ Chg No w w') ?_).mono (by rintro e w' ⟨r, rfl, n, b, rfl, h⟩; exact ⟨n, b, rfl, h⟩)
  unfold fold_reckoned_sh
  intro b7 w8 hb7 hw8
  have o7 : Ob w8 b7 (insC i) T_api_Ins := by rw [hw8, hb7]; exact Ob.new w (insC i) T_api_Ins
  have c8 := al hw8
  refine ⟨_, _, _, _, _, o7.cell rfl, o7.cell rfl, o7.cell rfl, o7.cell rfl, o7.cell rfl, (iuses_any i w8).mono ?_⟩
  rintro e w15 ⟨r, rfl, s16, rfl, g16, c15, _⟩
  have k15 := trN c8 c15
  have ul : (usesV i).length ≤ 2 := by rcases usesV_cases i with ⟨h, _⟩ | ⟨h, _⟩ | ⟨h, _⟩ <;> omega
  refine ⟨s16, rfl, (numbers_any (hl.no k15) g16.rd (by omega)).mono ?_⟩
  rintro e w18 ⟨s19, rfl, h19, c18⟩
  have k18 := trN k15 c18
  have p7 := (o7.no c15).no c18
  refine ⟨s19, _, rfl, fun b w' => (b = true ↔ ¬ (i.a = 4 ∧ AllCon is (usesV i))) ∧ w' = w18, ?_, ?_⟩
  · rintro b w22 ⟨hb, rfl⟩
    refine brB_of (fun hbt => ⟨0, false, rfl, ?_, k18⟩) (fun hbf => ?_)
    · unfold reckV; rw [if_neg (hb.1 hbt)]; rfl
    · have hyes : i.a = 4 ∧ AllCon is (usesV i) := by
        by_cases h : i.a = 4 ∧ AllCon is (usesV i)
        · exact h
        · rw [hb.2 h] at hbf; cases hbf
      have hr := h19 hyes.2
      have hlen := hr.len
      have hnl : (numL is (usesV i)).length = (usesV i).length := by unfold numL; simp
      refine brB_of (fun h1 => ?_) (fun h1 => ?_)
      · have h1 : (usesV i).length = 1 := by simp at h1; omega
        intro w24 hw24
        have c24 := dw hw24
        have hu : usesV i = [i.c] := by
          rcases usesV_cases i with ⟨g, _⟩ | ⟨_, g⟩ | ⟨g, _⟩
          · omega
          · exact g
          · omega
        have htwo : ¬ Cn.risTwo i.b = true := fun h => by
          have : usesV i = [i.c, i.d] := by unfold usesV; rw [if_pos hyes.1, if_pos h]
          rw [this] at hu; cases hu
        rw [hu] at hr
        have hr24 := hr.no c24
        refine ⟨fun w' => w' = w24, rfl, i.b, fun w' e => by rw [e]; exact (p7.no c24).cell rfl, hr24.ix (i := 0) (by omega) (x := (atL is i.c).b) rfl fun a _ hcell => ?_⟩
        have q := hcell 0 _ rfl
        rw [add0] at q
        refine ⟨_, fun w' e => by rw [e]; exact q, (one_any _ _ _).mono ?_⟩
        rintro e w30 ⟨rfl, rfl⟩
        refine ⟨_, _, rfl, rfl, _, _, rfl, ?_, trN k18 c24⟩
        unfold reckV
        rw [if_pos hyes, if_neg htwo]
      · have h1 : (usesV i).length ≠ 1 := by simp at h1; omega
        have h4u : usesV i = [i.c, i.d] ∧ Cn.risTwo i.b = true := by
          by_cases h : Cn.risTwo i.b = true
          · exact ⟨by unfold usesV; rw [if_pos hyes.1, if_pos h], h⟩
          · exfalso; apply h1; unfold usesV; rw [if_pos hyes.1, if_neg h]; rfl
        obtain ⟨hu, htwo⟩ := h4u
        intro w33 hw33
        have c33 := dw hw33
        rw [hu] at hr hlen
        have hr33 := hr.no c33
        have hlen2 : s19.len = 2 := hlen
        have ix : ∀ {j : Nat} {x : Int} {G : Addr → Prop}, (numL is [i.c, i.d])[j]? = some x → (∀ a, held (fun w' => Chg No w33 w') (Addr.add a (Int.toNat (j : Int) * 1)) (.int .i64 x) → G a) → ∃ a : Addr, s19.ptr = some a ∧ 0 ≤ (j : Int) ∧ (j : Int) < (s19.len : Int) ∧ G a := fun hj kk =>
          hr33.ix (i := (_ : Nat)) (by omega) (by rw [Int.toNat_natCast]; exact hj) fun a ha _ => kk a fun w' c => by
            obtain ⟨a2, ha2, hc2⟩ := (hr33.no c).at hj
            rw [ha] at ha2; cases ha2
            have q := hc2 0 _ rfl
            rw [add0] at q; exact q
        refine ⟨fun w' => Chg No w33 w', Chg.refl _ _, i.b, Ob.held (fun w' c => (p7.no c33).no c) rfl, ix (j := 0) (x := (atL is i.c).b) rfl fun a q => ⟨_, q, ix (j := 1) (x := (atL is i.d).b) rfl fun a q => ⟨_, q, (two_any _ _ _ _).mono ?_⟩⟩⟩
        rintro e w41 ⟨rfl, c41⟩
        have c41' : Chg No w33 w41 := Chg.qt c41
        refine ⟨_, _, rfl, c41', _, _, rfl, ?_, trN (trN k18 c33) c41'⟩
        unfold reckV
        rw [if_pos hyes, if_pos htwo]
  · refine ⟨i.a, p7.cell rfl, brB_of (fun h => ⟨⟨fun _ hh => ?_, fun _ => rfl⟩, rfl⟩) (fun h => ⟨⟨fun hb hh => ?_, fun hh => ?_⟩, rfl⟩)⟩
    · have h : i.a ≠ 4 := by simpa using h
      exact h hh.1
    · rw [decide_eq_true hh.2] at hb; cases hb
    · have h : i.a = 4 := by simpa using h
      rw [decide_eq_false (fun hc => hh ⟨h, hc⟩)]; rfl
theorem holds_any {w : World} {l : Sl} {is : List In5} (hl : Rd insE w l is) (i : In5) : Calls Try.prog fn_fold_holds #[l.val, .agg (insC i).toArray] w fun e w' => e = .returned (.bool (holdsV is i)) ∧ Chg No w w' := by
  refine (fold_holds_lift (K := fun r w' => r = .bool (holdsV is i) ∧ Chg No w w') ?_).mono (by rintro e w' ⟨r, rfl, rfl, h⟩; exact ⟨rfl, h⟩)
  unfold fold_holds_sh
  intro b7 w8 hb7 hw8
  have o7 : Ob w8 b7 (insC i) T_api_Ins := by rw [hw8, hb7]; exact Ob.new w (insC i) T_api_Ins
  have c8 := al hw8
  refine ⟨_, _, _, _, _, o7.cell rfl, o7.cell rfl, o7.cell rfl, o7.cell rfl, o7.cell rfl, (iuses_any i w8).mono ?_⟩
  rintro e w15 ⟨r, rfl, s16, rfl, g16, c15, _⟩
  have k15 := trN c8 c15
  have ul : (usesV i).length ≤ 2 := by rcases usesV_cases i with ⟨h, _⟩ | ⟨h, _⟩ | ⟨h, _⟩ <;> omega
  refine ⟨s16, rfl, (numbers_any (hl.no k15) g16.rd (by omega)).mono ?_⟩
  rintro e w18 ⟨s19, rfl, h19, c18⟩
  have k18 := trN k15 c18
  have p7 := (o7.no c15).no c18
  have eqb : ∀ {n : Int}, (i.a == n) = true → i.a = n := fun h => by simpa using h
  have neb : ∀ {n : Int}, (i.a == n) = false → i.a ≠ n := fun h => by simpa using h
  refine ⟨s19, _, rfl, brB_of (fun hb => ⟨?_, k18⟩) (fun hb => ?_)⟩
  · have hb : decide (AllCon is (usesV i)) = false := by simpa using hb
    have hb := of_decide_eq_false hb
    rw [show holdsV is i = false from decide_eq_false fun h => hb h.1]
  have hb : decide (AllCon is (usesV i)) = true := by simpa using hb
  have hall := of_decide_eq_true hb
  have hr := h19 hall
  have hlen := hr.len
  refine ⟨i.a, p7.cell rfl, brB_of (fun h7 => ?_) (fun h7 => ⟨i.a, p7.cell rfl, brB_of (fun h8 => ?_) (fun h8 => ?_)⟩)⟩
  · have h7 := eqb h7
    have hu : usesV i = [i.c] := by unfold usesV; rw [if_neg (by omega), if_pos (by omega)]
    rw [hu] at hr
    refine hr.ix (i := 0) (by omega) (x := (atL is i.c).b) rfl fun a _ hcell => ?_
    have q := hcell 0 _ rfl
    rw [add0] at q
    refine ⟨_, q, ?_, k18⟩
    congr 1
    unfold holdsV
    rw [Bool.eq_iff_iff]; simp
    constructor
    · intro h; exact ⟨hall, Or.inl ⟨h7, h⟩⟩
    · rintro ⟨_, h | h | h⟩
      · exact h.2
      · omega
      · omega
  · have h7 := neb h7
    have h8 := eqb h8
    have hu : usesV i = [i.c] := by unfold usesV; rw [if_neg (by omega), if_pos (by omega)]
    rw [hu] at hr
    refine hr.ix (i := 0) (by omega) (x := (atL is i.c).b) rfl fun a _ hcell => ?_
    have q := hcell 0 _ rfl
    rw [add0] at q
    refine ⟨_, q, ?_, k18⟩
    congr 1
    unfold holdsV
    rw [Bool.eq_iff_iff]; simp
    constructor
    · intro h; exact ⟨hall, Or.inr (Or.inl ⟨h8, h⟩)⟩
    · rintro ⟨_, h | h | h⟩
      · omega
      · exact h.2
      · omega
  · have h7 := neb h7
    have h8 := neb h8
    intro w27 hw27
    have c27 := dw hw27
    refine ⟨i.a, held_Lw ((p7.no c27).cell rfl), brB_of (fun h9 => ?_) (fun h9 => ⟨?_, trN k18 c27⟩)⟩
    · have h9 := eqb h9
      have hu : usesV i = [i.c, i.d] := by unfold usesV; rw [if_neg (by omega), if_neg (by omega), if_pos (by omega)]
      rw [hu] at hr
      refine (hr.no c27).ix (i := 0) (by omega) (x := (atL is i.c).b) rfl fun a _ hcell => ?_
      have q := hcell 0 _ rfl
      rw [add0] at q
      refine ⟨_, held_Lw q, (hr.no c27).ix (i := 1) (by omega) (x := (atL is i.d).b) rfl fun a _ hcell' => ?_⟩
      have q' := hcell' 0 _ rfl
      rw [add0] at q'
      refine ⟨_, held_Lw q', ?_, trN k18 c27⟩
      congr 1
      unfold holdsV
      rw [Bool.eq_iff_iff]; simp
      constructor
      · intro h; exact ⟨hall, Or.inr (Or.inr ⟨h9, h⟩)⟩
      · rintro ⟨_, h | h | h⟩
        · omega
        · omega
        · exact h.2
    · have h9 := neb h9
      rw [show holdsV is i = false from decide_eq_false fun h => by rcases h.2 with h | h | h <;> omega]
end Go.Proofs.Ytblmoilneiffgaa

/- fold.Do. -/
set_option maxRecDepth 100000
namespace Go.Proofs.Ytblmoilneiffgaa
open Go.RowKit

/-- A trace whose lists are its own, each in a block of its own, of D. -/
structure TrOw (D : Nat → Prop) (w : World) (t : TrP) (v : TrG) : Prop where
  nums : t.start = v.start ∧ t.slots = v.slots ∧ t.backs = v.backs ∧ t.grow = v.grow ∧ t.growBack = v.growBack ∧ t.last = v.last
  ins : Ow insE w t.ins v.ins
  outs : ∃ os, Ow ouE w t.outs os ∧ OusIs (fun k => D k ∧ t.outs.blk ≠ some k) w os v.outs
  cells : Ow intE w t.cells v.cells
  insD : ∀ k, t.ins.blk = some k → D k
  outsD : ∀ k, t.outs.blk = some k → D k ∧ t.ins.blk ≠ some k
  cellsD : ∀ k, t.cells.blk = some k → D k ∧ t.ins.blk ≠ some k ∧ t.outs.blk ≠ some k
theorem TrOw.is {D : Nat → Prop} {w : World} {t : TrP} {v : TrG} (h : TrOw D w t v) : TrIs D w t v := by
  obtain ⟨os, h1, h2⟩ := h.outs
  exact ⟨h.nums, h.ins.rd, ⟨os, h1.rd, h2.mono (fun k hk => hk.1)⟩, h.cells.rd, h.insD, fun k hk => (h.outsD k hk).1, fun k hk => (h.cellsD k hk).1⟩
theorem TrOw.chg {D S : Nat → Prop} {w w' : World} {t : TrP} {v : TrG} (h : TrOw D w t v) (c : Chg S w w') (hS : ∀ k, D k → ¬ S k) : TrOw D w' t v := by
  obtain ⟨os, h1, h2⟩ := h.outs
  exact ⟨h.nums, h.ins.chg c (fun k hk => hS _ (h.insD k hk)), ⟨os, h1.chg c (fun k hk => hS _ (h.outsD k hk).1), h2.chg c (fun k hk => hS _ hk.1)⟩, h.cells.chg c (fun k hk => hS _ (h.cellsD k hk).1), h.insD, h.outsD, h.cellsD⟩
theorem TrOw.no {D : Nat → Prop} {w w' : World} {t : TrP} {v : TrG} (h : TrOw D w t v) (c : Chg No w w') : TrOw D w' t v := h.chg c (fun _ _ h => h)
theorem TrOw.wid {D D' : Nat → Prop} {w : World} {t : TrP} {v : TrG} (h : TrOw D w t v) (hd : ∀ k, D k → D' k) : TrOw D' w t v := by
  obtain ⟨os, h1, h2⟩ := h.outs
  exact ⟨h.nums, h.ins, ⟨os, h1, h2.mono (fun k hk => ⟨hd _ hk.1, hk.2⟩)⟩, h.cells, fun k hk => hd _ (h.insD k hk), fun k hk => ⟨hd _ (h.outsD k hk).1, (h.outsD k hk).2⟩, fun k hk => ⟨hd _ (h.cellsD k hk).1, (h.cellsD k hk).2⟩⟩
/-- What a pass over traces answers: of one that may be the other one, with lists of its own; of others just them. -/
def PassAns (f : TrG → TrG) (t : TrP) (v : TrG) (w : World) (r : Value) (w' : World) : Prop :=
  ∃ t' : TrP, r = .agg (trP t').toArray ∧ Chg No w w' ∧ ((¬ RightV v ∧ t' = t) ∨ (RightV v ∧ TrOw (fun k => w.heap.size ≤ k) w' t' (f v)))
theorem foldL_snoc (r : List In5) (i : In5) (q : List In5 × List Int) : foldL (r ++ [i]) q = foldS (foldL r q) i := by unfold foldL; rw [List.foldl_append]; rfl
theorem foldL_len : ∀ (r : List In5) (q : List In5 × List Int), (foldL r q).1.length ≤ q.1.length + r.length ∧ (foldL r q).2.length = q.2.length + r.length
  | [], q => ⟨Nat.le_refl _, rfl⟩
  | i :: r, q => by
    have := foldL_len r (foldS q i)
    have h : foldL (i :: r) q = foldL r (foldS q i) := rfl
    have h2 : (foldS q i).1.length ≤ q.1.length + 1 ∧ (foldS q i).2.length = q.2.length + 1 := by
      unfold foldS; split <;> simp
    rw [h, List.length_cons]; omega
theorem fdo_any {D : Nat → Prop} {w : World} (t : TrP) {v : TrG} (ht : TrIs D w t v) : Calls Try.prog fn_fold_Do #[.agg (trP t).toArray] w fun e w' => ∃ r, e = .returned r ∧ PassAns foldT t v w r w' := by
  refine (fold_Do_lift (K := fun r w' => PassAns foldT t v w r w') ?_).mono (by rintro e w' ⟨r, rfl, h⟩; exact ⟨r, rfl, h⟩)
  unfold fold_Do_sh
  intro b10 w11 hb10 hw11 b12 w13 hb12 hw13
  have c11 := al hw11
  have c13 := al hw13
  have z11 : w11.heap.size = w.heap.size + 1 := by rw [hw11]; simp
  have z13 : w13.heap.size = w11.heap.size + 1 := by rw [hw13]; simp
  have o10 : Ob w13 b10 (trP t) T_api_Trace := by
    have : Ob w11 b10 (trP t) T_api_Trace := by rw [hw11, hb10]; exact Ob.new w (trP t) T_api_Trace
    exact this.no c13
  have o12 : Ob w13 b12 (trP ⟨0, 0, 0, 0, 0, nilS, nilS, 0, nilS⟩) T_api_Trace := by rw [hw13, hb12]; exact Ob.new w11 (trP ⟨0, 0, 0, 0, 0, nilS, nilS, 0, nilS⟩) T_api_Trace
  have k13 := trN c11 c13
  refine ⟨_, _, _, _, _, _, _, _, _, o10.cell rfl, o10.cell rfl, o10.cell rfl, o10.cell rfl, o10.cell rfl, o10.cell rfl, o10.cell rfl, o10.cell rfl, o10.cell rfl, (iright_any t (ht.no k13)).mono ?_⟩
  rintro e w24 ⟨b, rfl, hb, c24⟩
  have k24 := trN k13 c24
  have p10 := o10.no c24
  have p12 := o12.no c24
  have z24 := c24.size
  refine ⟨b, rfl, brB_of (fun hno => ?_) (fun hyes => ?_)⟩
  · have hR : ¬ RightV v := fun h => by rw [hb.2 h] at hno; cases hno
    refine ⟨_, _, _, _, _, _, _, _, _, p10.cell rfl, p10.cell rfl, p10.cell rfl, p10.cell rfl, p10.cell rfl, p10.cell rfl, p10.cell rfl, p10.cell rfl, p10.cell rfl, p12.wr (by simp [trP]), fun w35 hw35 => ?_⟩
    obtain ⟨q12, c35⟩ := p12.up (k := 0) (vs := trP t) (cs' := trP t) (by simp [trP]) rfl hw35
    refine ⟨_, _, _, _, _, _, _, _, _, q12.cell rfl, q12.cell rfl, q12.cell rfl, q12.cell rfl, q12.cell rfl, q12.cell rfl, q12.cell rfl, q12.cell rfl, q12.cell rfl, t, rfl, k24.trans c35 (fun _ _ h => h) (fun k hk he => by omega), Or.inl ⟨hR, rfl⟩⟩
  · have hR := hb.1 (by simpa using hyes)
    obtain ⟨q1, q2, q3⟩ := hR.head
    have hil := ht.ins.len
    refine ⟨t.ins, p10.cell rfl, ?_⟩
    refine ⟨fun l m n w' => ∃ k : Nat, n = k ∧ k ≤ v.ins.length ∧ Ow insE w' l (foldL (v.ins.take k) ([], [])).1 ∧ Ow intE w' m (foldL (v.ins.take k) ([], [])).2 ∧ (∀ j, l.blk = some j → w24.heap.size ≤ j) ∧ (∀ j, m.blk = some j → w24.heap.size ≤ j ∧ l.blk ≠ some j) ∧ Chg No w24 w', fun _ _ n _ => v.ins.length - n.toNat, ⟨0, rfl, Nat.zero_le _, Ow.nil _ _, Ow.nil _ _, (fun j hj => by cases hj), (fun j hj => by cases hj), Chg.refl _ _⟩, ?_⟩
    rintro l m n w46 ⟨k, rfl, hk, hl, hm, hlb, hmb, c46⟩
    have k46 := trN k24 c46
    have z46 := c46.size
    refine brB_of (fun hlt => ?_) (fun hlt => ?_)
    · have hlt : k < v.ins.length := by simp at hlt; omega
      obtain ⟨i, hi⟩ : ∃ i, v.ins[k]? = some i := ⟨_, List.getElem?_eq_getElem hlt⟩
      have htk : v.ins.take (k + 1) = v.ins.take k ++ [i] := by rw [List.take_add_one, hi]; rfl
      have hfl := foldL_len (v.ins.take k) ([], [])
      simp only [List.length_take, List.length_nil, Nat.zero_add] at hfl
      have hlen1 : (foldL (v.ins.take k) ([], [])).1.length ≤ 1000 := by omega
      have hlen2 : (foldL (v.ins.take k) ([], [])).2.length ≤ 1000 := by omega
      obtain ⟨q, hq⟩ : ∃ q, q = foldL (v.ins.take k) ([], []) := ⟨_, rfl⟩
      have hq' : foldL (v.ins.take (k + 1)) ([], []) = foldS q i := by rw [htk, foldL_snoc, hq]
      rw [← hq] at hl hm hlen1 hlen2
      refine ⟨fun l' m' w' => Ow insE w' l' (foldS q i).1 ∧ Ow intE w' m' (foldS q i).2 ∧ (∀ j, l'.blk = some j → w24.heap.size ≤ j) ∧ (∀ j, m'.blk = some j → w24.heap.size ≤ j ∧ l'.blk ≠ some j) ∧ Chg No w24 w', ?_, ?_⟩
      · rintro l' m' w108 ⟨h1, h2, h3, h4, h5⟩
        rw [wr_in (by omega)]
        refine ⟨⟨k + 1, by omega, by omega, by rw [hq']; exact h1, by rw [hq']; exact h2, h3, h4, h5⟩, by show v.ins.length - Int.toNat ((k : Int) + 1) < v.ins.length - Int.toNat (k : Int); omega⟩
      · refine (ht.ins.no k46).ix (i := (k : Int)) (by omega) (by rw [Int.toNat_natCast]; exact hi) fun a _ hcell => ?_
        have g0 := hcell 0 _ rfl
        rw [add0] at g0
        refine ⟨_, _, _, _, _, g0, hcell 1 _ rfl, hcell 2 _ rfl, hcell 3 _ rfl, hcell 4 _ rfl, ?_⟩
        intro b54 w55 hb54 hw55
        have hn := fun (w2 : World) => newOb (w2 := w2) (T := T_api_Ins) (insC ⟨0, 0, 0, 0, 0⟩) (insC i) rfl hb54 hw55
        refine ⟨(hn w55).1, fun w56 hw56 => ?_⟩
        obtain ⟨o56, c56⟩ := (hn w56).2 hw56
        refine ⟨_, _, _, _, _, o56.cell rfl, o56.cell rfl, o56.cell rfl, o56.cell rfl, o56.cell rfl, (mins_any (hm.no c56).rd i).mono ?_⟩
        rintro e w64 ⟨rfl, c64⟩
        have o64 := o56.no c64
        refine ⟨_, _, _, _, _, rfl, o64.wr (by simp [insC]), fun w70 hw70 => ?_⟩
        obtain ⟨o70, c70⟩ := o64.up (k := 0) (vs := insC (insM q.2 i)) (cs' := insC (insM q.2 i)) (by simp [insC]) rfl hw70
        have z56 := c56.size
        have z64 := c64.size
        have hb54ge : b54 = w46.heap.size := hb54
        have c4670 : Chg No w46 w70 := (trN c56 c64).trans c70 (fun _ _ h => h) (fun k hk he => by omega)
        have hl70 := hl.no c4670
        have hm70 := hm.no c4670
        refine ⟨_, _, _, _, _, o70.cell rfl, o70.cell rfl, o70.cell rfl, o70.cell rfl, o70.cell rfl, (holds_any hl70.rd (insM q.2 i)).mono ?_⟩
        rintro e w78 ⟨rfl, c78⟩
        have hl78 := hl70.no c78
        have hm78 := hm70.no c78
        have o78 := o70.no c78
        have c2478 : Chg No w24 w78 := trN (trN c46 c4670) c78
        refine ⟨_, rfl, brB_of (fun hh => ?_) (fun hh => ?_)⟩
        · intro b80 w81 hb80 hw81
          have hS : foldS q i = (q.1, q.2 ++ [-1]) := by unfold foldS; rw [if_pos hh]
          refine app1_gen mapOk (by decide) (x := -1) rfl hb80 hw81 hm78 c2478 (fun j hj => (hmb j hj).1) (by omega) ?_
          intro s82 w83 g83 c83 cl b83
          rw [hS]
          refine ⟨hl78.chg cl (fun j hj he => (hmb j he).2 hj), g83, hlb, fun j hj => ⟨(b83 j hj).1, fun he => ?_⟩, c83⟩
          rcases (b83 j hj).2 with h | h
          · exact (hmb j h).2 he
          · have := hl78.lt he; omega
        · have hS : foldS q i = (q.1 ++ [foldI q.1 (insM q.2 i)], q.2 ++ [(q.1.length : Int)]) := by unfold foldS; rw [if_neg (by rw [hh]; decide)]
          refine ⟨fun w' => Ob w' b54 (insC (foldI q.1 (insM q.2 i))) T_api_Ins ∧ Ow insE w' l q.1 ∧ Ow intE w' m q.2 ∧ Chg No w24 w' ∧ w46.heap.size < w'.heap.size, ?_, ?_⟩
          · rintro w94 ⟨o94, hl94, hm94, c94, hz94⟩
            intro b95 w96 hb95 hw96
            have hll : l.len = q.1.length := hl94.rd.len
            rw [hll] at hw96
            refine app1_gen mapOk (by decide) (x := (q.1.length : Int)) rfl hb95 hw96 hm94 c94 (fun j hj => (hmb j hj).1) (by omega) ?_
            intro s97 w98 g98 c98 cl b98
            have hmlt : ∀ j, m.blk = some j → j < w46.heap.size := fun j hj => hm.lt hj
            have hllt : ∀ j, l.blk = some j → j < w46.heap.size := fun j hj => hl.lt hj
            have o98 := o94.chg cl (fun he => by have := hmlt _ he; omega)
            have hl98 := hl94.chg cl (fun j hj he => (hmb j he).2 hj)
            refine ⟨_, _, _, _, _, o98.cell rfl, o98.cell rfl, o98.cell rfl, o98.cell rfl, o98.cell rfl, ?_⟩
            intro b104 w105 hb104 hw105
            have z98 := cl.size
            refine app1_gen insOk (by decide) (x := foldI q.1 (insM q.2 i)) rfl hb104 hw105 hl98 c98 hlb (by omega) ?_
            intro s106 w107 g107 c107 cl2 b107
            rw [hS]
            have s97lt := fun j hj => g98.lt (k := j) hj
            refine ⟨g107, g98.chg cl2 (fun j hj he => ?_), fun j hj => (b107 j hj).1, fun j hj => ⟨(b98 j hj).1, fun he => ?_⟩, c107⟩
            · rcases (b98 j hj).2 with h | h
              · exact (hmb j h).2 he
              · have := hllt j he; omega
            · rcases (b107 j he).2 with h | h
              · rcases (b98 j hj).2 with h' | h'
                · exact (hmb j h').2 h
                · have := hllt j h; omega
              · have := s97lt j hj; omega
          · refine ⟨_, _, _, _, _, o78.cell rfl, o78.cell rfl, o78.cell rfl, o78.cell rfl, o78.cell rfl, (reckoned_any hl78.rd (insM q.2 i)).mono ?_⟩
            rintro e w90 ⟨n, b2, rfl, hre, c90⟩
            have o90 := o78.no c90
            have z70 := c4670.size
            have z78 := c78.size
            have z90 := c90.size
            have hb54lt := o56.lt
            have hz : w46.heap.size < w90.heap.size := by have := c64.size; have := c70.size; omega
            refine ⟨n, b2, rfl, brB_of (fun hb2 => ?_) (fun hb2 => ?_)⟩
            · rw [if_pos hb2] at hre
              have hI : foldI q.1 (insM q.2 i) = ⟨1, n, 0, 0, 0⟩ := by unfold foldI; rw [hre]
              refine ⟨o90.wr (by simp [insC]), fun w93 hw93 => ?_⟩
              obtain ⟨o93, c93⟩ := o90.up (k := 0) (vs := insC ⟨1, n, 0, 0, 0⟩) (cs' := insC ⟨1, n, 0, 0, 0⟩) (by simp [insC]) rfl hw93
              have hmlt : ∀ j, m.blk = some j → j < w46.heap.size := fun j hj => hm.lt hj
              have hllt : ∀ j, l.blk = some j → j < w46.heap.size := fun j hj => hl.lt hj
              have z93 := c93.size
              rw [hI]
              exact ⟨o93, (hl78.no c90).chg c93 (fun j hj he => by have := hllt j hj; omega), (hm78.no c90).chg c93 (fun j hj he => by have := hmlt j hj; omega), (trN c2478 c90).trans c93 (fun _ _ h => h) (fun k hk he => by omega), by omega⟩
            · rw [if_neg (by rw [hb2]; decide)] at hre
              have hI : foldI q.1 (insM q.2 i) = insM q.2 i := by unfold foldI; rw [hre]
              rw [hI]
              exact ⟨o90, hl78.no c90, hm78.no c90, trN c2478 c90, hz⟩
    · have hlt : k = v.ins.length := by simp at hlt; omega
      subst hlt
      rw [List.take_length] at hl hm
      intro w109 hw109
      have c109 := dw hw109
      have k109 := trN k46 c109
      have z109 := c109.size
      have r10 := (p10.no c46).no c109
      have r12 := (p12.no c46).no c109
      obtain ⟨os, hos, hov⟩ := ht.outs
      refine ⟨fun w' => Chg No w109 w', Chg.refl _ _, t.outs, Ob.held (fun w' c => r10.no c) rfl, t.cells, Ob.held (fun w' c => r10.no c) rfl, (mouts_any (hm.no c109).rd (hos.no k109) (hov.chg k109 (fun _ _ h => h)) (by omega) (fun o ho => ?_)).mono ?_⟩
      · obtain ⟨j, hj⟩ := List.getElem?_of_mem ho
        obtain ⟨_, _, e3, e4⟩ := hR.exits j o hj
        obtain ⟨_, a1, a2, a3, a4⟩ := q3
        constructor <;> omega
      rintro e w114 ⟨r, rfl, s115, os', rfl, g115, hov', c114, n115⟩
      have k114 := trN k109 c114
      have hcl : v.cells.length ≤ 1000000000 := by
        have hc := hR.cells
        by_cases hz : v.cells.length ≤ 3000
        · omega
        · exfalso
          -- rising cells below 3000
          have rise : ∀ (j : Nat) (c : Int), v.cells[j]? = some c → (j : Int) ≤ c := by
            intro j
            induction j with
            | zero => intro c h; have := (hc 0 c h).1; omega
            | succ j ih =>
              intro c h
              have hj : j < v.cells.length := by have := (List.getElem?_eq_some_iff.1 h).1; omega
              obtain ⟨d, hd⟩ : ∃ d, v.cells[j]? = some d := ⟨_, List.getElem?_eq_getElem hj⟩
              have h1 := ih d hd
              have h2 := (hc (j + 1) c h).2 j d rfl hd
              omega
          obtain ⟨c, hcc⟩ : ∃ c, v.cells[3000]? = some c := ⟨_, List.getElem?_eq_getElem (by omega)⟩
          have h1 := rise 3000 c hcc
          have h2 := (hc 3000 c hcc).1
          omega
      refine ⟨s115, rfl, c114, (clone_ints (ht.cells.no k114) hcl).mono ?_⟩
      rintro e w117 ⟨s118, rfl, g118, c117, n118, _⟩
      have k117 := trN k114 c117
      have t10 := (r10.no c114).no c117
      have t12 := (r12.no c114).no c117
      have z114 := c114.size
      have z117 := c117.size
      refine ⟨s118, rfl, trN c114 c117, t10.wr (by simp [trP]), fun w119 hw119 => ?_⟩
      obtain ⟨u10, c119⟩ := t10.up (k := 5) (vs := [l.val]) (cs' := trP { t with ins := l }) (by simp [trP]) rfl hw119
      refine ⟨u10.wr (by simp [trP]), fun w120 hw120 => ?_⟩
      obtain ⟨v10, c120⟩ := u10.up (k := 6) (vs := [s115.val]) (cs' := trP { t with ins := l, outs := s115 }) (by simp [trP]) rfl hw120
      refine ⟨v10.wr (by simp [trP]), fun w121 hw121 => ?_⟩
      obtain ⟨x10, c121⟩ := v10.up (k := 8) (vs := [s118.val]) (cs' := trP { t with ins := l, outs := s115, cells := s118 }) (by simp [trP]) rfl hw121
      have cX : Chg (fun k => k = b10) w117 w121 := (c119.trans c120 (fun _ _ h => h) (fun _ _ h => h)).trans c121 (fun _ _ h => h) (fun _ _ h => h)
      have x12 := t12.chg cX (fun he => by omega)
      refine ⟨_, _, _, _, _, _, _, _, _, x10.cell rfl, x10.cell rfl, x10.cell rfl, x10.cell rfl, x10.cell rfl, x10.cell rfl, x10.cell rfl, x10.cell rfl, x10.cell rfl, x12.wr (by simp [trP]), fun w131 hw131 => ?_⟩
      obtain ⟨y12, c131⟩ := x12.up (k := 0) (vs := trP { t with ins := l, outs := s115, cells := s118 }) (cs' := trP { t with ins := l, outs := s115, cells := s118 }) (by simp [trP]) rfl hw131
      have cY : Chg (fun k => k = b10 ∨ k = b12) w117 w131 := cX.trans c131 (fun _ _ h => Or.inl h) (fun _ _ h => Or.inr h)
      refine ⟨_, _, _, _, _, _, _, _, _, y12.cell rfl, y12.cell rfl, y12.cell rfl, y12.cell rfl, y12.cell rfl, y12.cell rfl, y12.cell rfl, y12.cell rfl, y12.cell rfl, { t with ins := l, outs := s115, cells := s118 }, rfl, k117.trans cY (fun _ _ h => h) (fun k hk he => by omega), Or.inr ⟨hR, ?_⟩⟩
      have g115lt := fun j hj => g115.lt (k := j) hj
      have hllt := fun j hj => hl.lt (k := j) hj
      refine ⟨ht.nums, ((((hl.no c109).no c114).no c117).chg cY (fun j hj he => by have := hlb j hj; omega)), ⟨os', (g115.no c117).chg cY (fun j hj he => by have := n115 j hj; omega), ((hov'.chg c117 (fun _ _ h => h)).chg cY (fun j hj he => by have := hj.1; omega)).mono (fun j hj => ⟨by have := hj.1; omega, hj.2⟩)⟩, g118.chg cY (fun j hj he => by have := n118 j hj; omega), fun j hj => ?_, fun j hj => ⟨?_, fun he => ?_⟩, fun j hj => ⟨?_, fun he => ?_, fun he => ?_⟩⟩
      · have := hlb j hj; omega
      · have := n115 j hj; omega
      · have := n115 j hj; have := hllt j he; omega
      · have := n118 j hj; omega
      · have := n118 j hj; have := hllt j he; omega
      · have := n118 j hj; have := g115lt j he; omega
end Go.Proofs.Ytblmoilneiffgaa

/- Package prune: which places and exits are named. -/
set_option maxRecDepth 100000
namespace Go.Proofs.Ytblmoilneiffgaa
open Go.RowKit

/-- Flags as elements of lists. -/
def boE : Enc Bool := ⟨T_bool, 1, 1, fun b => [.bool b], by intro x; rfl, by intro x u hu; simp at hu; subst hu; rfl, by decide⟩
theorem boOk : EncOk Try.prog boE T_sl_bool := EncOk.of (z := .bool false) (by kernel_rfl) (by kernel_rfl) (by kernel_rfl)
theorem fl_rep_bo (n : Nat) : fl boE (List.replicate n false) = List.replicate n (Value.bool false) := by
  induction n with
  | zero => rfl
  | succ m ih => rw [List.replicate_succ, List.replicate_succ, fl_cons, ih]; rfl
/-- make([]bool, n). -/
theorem make_bools {w : World} {n : Int} {N : Nat} (hn : n = (N : Int)) (hN : N ≤ 1000000) : ∃ w' : World, (Instr.makeSlice T_sl_bool (.int .i64 n) (.int .i64 n)).run Try.prog w = .ok (⟨some ⟨w.heap.size, 0, none⟩, N, N⟩ : Sl).val w' ∧ Ow boE w' ⟨some ⟨w.heap.size, 0, none⟩, N, N⟩ (List.replicate N false) ∧ Chg No w w' := by
  subst hn
  obtain ⟨i, z, hi, hz, h1, h2, h3⟩ := boOk.info
  have hz0 : z = .bool false := by
    have e : (Try.prog.info? T_bool).bind (·.zero) = some (.bool false) := by kernel_rfl
    have hi' : Try.prog.info? T_bool = some i := hi
    rw [hi'] at e
    exact Option.some.inj (hz.symm.trans e)
  subst hz0
  have h1' : i.size = 1 := h1
  have h2' : i.bytes = 1 := h2
  have hr := run_make (P := Try.prog) w T_sl_bool T_bool i (.bool false) boOk.und hi hz .i64 .i64 (N : Int) (N : Int) (by omega) (by omega) (by rw [h2']; omega) (by omega)
  rw [Int.toNat_natCast, h1', Nat.mul_one] at hr
  have hz1 : (Value.bool false).cells = #[.bool false] := rfl
  rw [hz1] at hr
  refine ⟨_, hr, ?_, Chg.alloc _ _ _⟩
  have hm : madeCells #[Value.bool false] N = (List.replicate N (Value.bool false)).toArray := Array.ext' (by rw [madeOne])
  rw [hm]
  have := Ow.lit (E := boE) w (List.replicate N false) (List.replicate N (Value.bool false)) (fl_rep_bo N).symm (by rw [List.length_replicate]; unfold maxLen; omega)
  rw [List.length_replicate] at this
  exact this

def needC (t : TrP) (iS eS : Sl) : List Value := [.int .i64 t.start, .int .i64 t.slots, .int .i64 t.backs, .int .i64 t.grow, .int .i64 t.growBack, t.ins.val, t.outs.val, .int .i64 t.last, t.cells.val, iS.val, eS.val]
/-- The blocks of its lists. -/
def NdB (iS eS : Sl) : Nat → Prop := fun k => iS.blk = some k ∨ eS.blk = some k
/-- What is named stands at p; its lists are made behind w0. -/
structure NdAt (w0 w : World) (p : Nat) (t : TrP) (iS eS : Sl) (n : Ned) : Prop where
  ob : Ob w p (needC t iS eS) T_prune_need
  ins : Ow boE w iS n.ins
  exs : Ow boE w eS n.exs
  iN : ∀ k, iS.blk = some k → w0.heap.size ≤ k ∧ k ≠ p ∧ eS.blk ≠ some k
  eN : ∀ k, eS.blk = some k → w0.heap.size ≤ k ∧ k ≠ p
  base : Chg No w0 w
section
variable {w0 w : World} {p : Nat} {t : TrP} {iS eS : Sl} {n : Ned}
theorem NdAt.nb (h : NdAt w0 w p t iS eS n) {k : Nat} (hk : NdB iS eS k) : w0.heap.size ≤ k ∧ k ≠ p ∧ k < w.heap.size := by
  rcases hk with hk | hk
  · exact ⟨(h.iN k hk).1, (h.iN k hk).2.1, h.ins.lt hk⟩
  · exact ⟨(h.eN k hk).1, (h.eN k hk).2, h.exs.lt hk⟩
theorem NdAt.no {w' : World} (h : NdAt w0 w p t iS eS n) (c : Chg No w w') : NdAt w0 w' p t iS eS n := ⟨h.ob.no c, h.ins.no c, h.exs.no c, h.iN, h.eN, trN h.base c⟩
/-- Behind a change of other blocks, made behind w0. -/
theorem NdAt.chg {w' : World} {S : Nat → Prop} (h : NdAt w0 w p t iS eS n) (c : Chg S w w') (hS : ∀ k, S k → ¬ NdB iS eS k ∧ k ≠ p ∧ w0.heap.size ≤ k) : NdAt w0 w' p t iS eS n :=
  ⟨h.ob.chg c (fun hk => (hS _ hk).2.1 rfl), h.ins.chg c (fun k hk he => (hS _ he).1 (Or.inl hk)), h.exs.chg c (fun k hk he => (hS _ he).1 (Or.inr hk)), h.iN, h.eN, h.base.trans c (fun _ _ h => h) (fun k hk he => by have := (hS k he).2.2; omega)⟩
theorem nplaces_any (h : NdAt w0 w p t iS eS n) {l : Sl} {ps : List Int} (hl : ∀ w', Chg No w0 w' → Chg (NdB iS eS) w w' → Rd intE w' l ps) (hp : ∀ x ∈ ps, 0 ≤ x ∧ x < n.ins.length) (hn : ps.length ≤ 1000000) :
    Calls Try.prog fn_prune_need_places #[.pointer (some ⟨p, 0, none⟩), l.val] w fun e w' => e = .returned (.tuple #[]) ∧ NdAt w0 w' p t iS eS ⟨placesV n.ins ps, n.exs⟩ ∧ Chg (NdB iS eS) w w' := by
  refine (prune_need_places_lift (K := fun r w' => r = .tuple #[] ∧ NdAt w0 w' p t iS eS ⟨placesV n.ins ps, n.exs⟩ ∧ Chg (NdB iS eS) w w') ?_).mono (by rintro e w' ⟨r, rfl, rfl, h⟩; exact ⟨rfl, h⟩)
  unfold prune_need_places_sh
  have hll := (hl w h.base (Chg.refl _ _)).len
  refine ⟨fun m w' => ∃ k : Nat, m = k ∧ k ≤ ps.length ∧ NdAt w0 w' p t iS eS ⟨placesV n.ins (ps.take k), n.exs⟩ ∧ Chg (NdB iS eS) w w', fun m _ => ps.length - m.toNat, ⟨0, rfl, Nat.zero_le _, h, Chg.refl _ _⟩, ?_⟩
  rintro m w3 ⟨k, rfl, hk, h3, c3⟩
  refine brB_of (fun hlt => ?_) (fun hlt => ?_)
  · have hlt : k < ps.length := by simp at hlt; omega
    obtain ⟨x, hx⟩ : ∃ x, ps[k]? = some x := ⟨_, List.getElem?_eq_getElem hlt⟩
    obtain ⟨x0, x1⟩ := hp x (List.mem_of_getElem? hx)
    refine (hl w3 h3.base c3).ix (i := (k : Int)) (by omega) (by rw [Int.toNat_natCast]; exact hx) fun a _ hcell => ?_
    have q := hcell 0 _ rfl
    rw [add0] at q
    refine ⟨x, q, iS, h3.ob.cell rfl, ?_⟩
    have hlen : (placesV n.ins (ps.take k)).length = n.ins.length := placesV_len _ _
    refine h3.ins.rd.ix x0 (bA_get (by rw [hlen]; omega)) fun a' ha' _ => ?_
    obtain ⟨f1, f2⟩ := h3.ins.set1 ha' (k := x.toNat) (j := 0) (x' := true) (u := .bool true) (bA_get (by rw [hlen]; omega)) (by decide) rfl
    rw [add0] at f1 f2
    refine ⟨f1, fun w9 hw9 => ?_⟩
    rw [wr_in (by omega)]
    have c9 : Chg (fun k => iS.blk = some k) w3 w9 := by rw [hw9]; exact Chg.st (S := fun k => iS.blk = some k) (by rw [add_block]; exact blk_ptr ha')
    have hst : placesV n.ins (ps.take (k + 1)) = (placesV n.ins (ps.take k)).set x.toNat true := by
      rw [List.take_add_one, hx]; unfold placesV; rw [List.foldl_append]; rfl
    refine ⟨⟨k + 1, by omega, by omega, ?_, c3.trans c9 (fun _ _ h => h) (fun _ _ h => Or.inl h)⟩, by show ps.length - Int.toNat ((k : Int) + 1) < ps.length - Int.toNat (k : Int); omega⟩
    rw [hst]
    exact ⟨h3.ob.chg c9 (fun he => (h3.iN p he).2.1 rfl), by rw [hw9]; exact f2, h3.exs.chg c9 (fun k hk he => (h3.iN k he).2.2 hk), h3.iN, h3.eN, h3.base.trans c9 (fun _ _ h => h) (fun k hk he => by have := (h3.iN k he).1; omega)⟩
  · have hlt : k = ps.length := by simp at hlt; omega
    subst hlt
    rw [List.take_length] at h3
    exact ⟨rfl, h3, c3⟩
theorem nexit_any {D : Nat → Prop} (h : NdAt w0 w p t iS eS n) {v : TrG} (ht : TrIs D w0 t v) (hr : RightV v) (hli : n.ins.length = v.ins.length) (hlx : n.exs.length = v.outs.length) {x : Int} {k : Nat} (hk : k ≤ v.ins.length) (hx : OutV v x k) :
    Calls Try.prog fn_prune_need_exit #[.pointer (some ⟨p, 0, none⟩), .int .i64 x] w fun e w' => e = .returned (.tuple #[]) ∧ NdAt w0 w' p t iS eS (exitN v n x) ∧ Chg (NdB iS eS) w w' := by
  refine (prune_need_exit_lift (K := fun r w' => r = .tuple #[] ∧ NdAt w0 w' p t iS eS (exitN v n x) ∧ Chg (NdB iS eS) w w') ?_).mono (by rintro e w' ⟨r, rfl, rfl, h⟩; exact ⟨rfl, h⟩)
  unfold prune_need_exit_sh
  obtain ⟨x0, x1, x2, x3⟩ := hx
  refine ⟨eS, h.ob.cell rfl, ?_⟩
  refine h.exs.rd.ix x0 (bA_get (by omega)) fun a ha hcell => ?_
  have q := hcell 0 _ rfl
  rw [add0] at q
  refine ⟨_, q, brB_of (fun hb => ?_) (fun hb => ?_)⟩
  · have hb : ¬ bA n.exs x.toNat = true := by simpa using hb
    refine ⟨eS, h.ob.cell rfl, a, ha, x0, by rw [h.exs.rd.len]; omega, ?_⟩
    obtain ⟨f1, f2⟩ := h.exs.set1 ha (k := x.toNat) (j := 0) (x' := true) (u := .bool true) (bA_get (by omega)) (by decide) rfl
    rw [add0] at f1 f2
    refine ⟨f1, fun w8 hw8 => ?_⟩
    have c8 : Chg (fun k => eS.blk = some k) w w8 := by rw [hw8]; exact Chg.st (S := fun k => eS.blk = some k) (by rw [add_block]; exact blk_ptr ha)
    have h8 : NdAt w0 w8 p t iS eS ⟨n.ins, n.exs.set x.toNat true⟩ :=
      ⟨h.ob.chg c8 (fun he => (h.eN p he).2 rfl), h.ins.chg c8 (fun k hk he => (h.iN k hk).2.2 he), by rw [hw8]; exact f2, h.iN, h.eN, h.base.trans c8 (fun _ _ h => h) (fun k hk he => by have := (h.eN k he).1; omega)⟩
    have cb8 : Chg (NdB iS eS) w w8 := c8.mono (fun _ _ h => Or.inr h)
    obtain ⟨os, hos, hov⟩ := ht.outs
    obtain ⟨o, ho⟩ : ∃ o, os[x.toNat]? = some o := ⟨_, List.getElem?_eq_getElem (by rw [hov.1]; omega)⟩
    obtain ⟨_, _, u3, u4, _, _⟩ := hov.2 _ _ _ ho (outAt_ge x0 x1)
    obtain ⟨_, _, e3, e4⟩ := hr.exits _ _ (outAt_ge x0 x1)
    obtain ⟨_, _, _, q3, q4, q5, q6⟩ := hr.head
    refine ⟨t.outs, h8.ob.cell rfl, ?_⟩
    refine (hos.no h8.base).ix x0 ho fun a1 _ hc1 => ?_
    refine ⟨o.stack, hc1 2 _ rfl, ?_⟩
    refine (nplaces_any h8 (fun w' c _ => u3.no c) (fun y hy => by have := x2 y hy; show 0 ≤ y ∧ y < ((n.ins.length : Nat) : Int); omega) (by omega)).mono ?_
    rintro e w13 ⟨rfl, h13, c13⟩
    refine ⟨rfl, t.outs, h13.ob.cell rfl, ?_⟩
    refine (hos.no h13.base).ix x0 ho fun a2 _ hc2 => ?_
    refine ⟨o.back, hc2 3 _ rfl, ?_⟩
    refine (nplaces_any h13 (fun w' c _ => u4.no c) (fun y hy => by have := x3 y hy; show 0 ≤ y ∧ y < (((placesV n.ins _).length : Nat) : Int); rw [placesV_len]; omega) (by omega)).mono ?_
    rintro e w18 ⟨rfl, h18, c18⟩
    refine ⟨rfl, rfl, ?_, (cb8.trans c13 (fun _ _ h => h) (fun _ _ h => h)).trans c18 (fun _ _ h => h) (fun _ _ h => h)⟩
    unfold exitN
    rw [if_neg hb]; exact h18
  · have hb : bA n.exs x.toNat = true := by simpa using hb
    refine ⟨rfl, ?_, Chg.refl _ _⟩
    unfold exitN
    rw [if_pos hb]; exact h
theorem exitsN_snoc (v : TrG) (n : Ned) (xs : List Int) (x : Int) : exitsN v n (xs ++ [x]) = exitN v (exitsN v n xs) x := by unfold exitsN; rw [List.foldl_append]; rfl
theorem outsV_len (i : In5) : (outsV i).length ≤ 2 := by rcases outsV_cases i with ⟨g, _⟩ | ⟨g, _⟩ | ⟨g, _⟩ <;> omega
theorem usesV_len (i : In5) : (usesV i).length ≤ 2 := by rcases usesV_cases i with ⟨g, _⟩ | ⟨g, _⟩ | ⟨g, _⟩ <;> omega
theorem nall_any {D : Nat → Prop} (h : NdAt w0 w p t iS eS n) {v : TrG} (ht : TrIs D w0 t v) (hr : RightV v) (hli : n.ins.length = v.ins.length) (hlx : n.exs.length = v.outs.length) {i : In5} {k : Nat} (hk : k ≤ v.ins.length) (hi : EachV v k i) :
    Calls Try.prog fn_prune_need_all #[.pointer (some ⟨p, 0, none⟩), .agg (insC i).toArray] w fun e w' => e = .returned (.tuple #[]) ∧ NdAt w0 w' p t iS eS (allN v n i) ∧ Chg (NdB iS eS) w w' := by
  refine (prune_need_all_lift (K := fun r w' => r = .tuple #[] ∧ NdAt w0 w' p t iS eS (allN v n i) ∧ Chg (NdB iS eS) w w') ?_).mono (by rintro e w' ⟨r, rfl, rfl, h⟩; exact ⟨rfl, h⟩)
  unfold prune_need_all_sh
  intro b7 w8 hb7 hw8
  have c8 := al hw8
  have z8 : w8.heap.size = w.heap.size + 1 := by rw [hw8]; simp
  have o8 : Ob w8 b7 (insC i) T_api_Ins := by rw [hw8, hb7]; exact Ob.new w (insC i) T_api_Ins
  have nb : ∀ k, NdB iS eS k → k < w.heap.size := fun k hk => (h.nb hk).2.2
  refine ⟨_, _, _, _, _, o8.cell rfl, o8.cell rfl, o8.cell rfl, o8.cell rfl, o8.cell rfl, (iuses_any i w8).mono ?_⟩
  rintro e w15 ⟨r, rfl, s16, rfl, g16, c15, n16⟩
  have h15 := (h.no c8).no c15
  have z15 := c15.size
  refine ⟨s16, rfl, (nplaces_any h15 (fun w' _ c => g16.rd.chg c (fun k hk he => by have := n16 k hk; have := nb k he; omega)) (fun y hy => by have := hi.2.2.2.2.1 y hy; omega) (by have := usesV_len i; omega)).mono ?_⟩
  rintro e w18 ⟨rfl, h18, c18⟩
  have o18 := (o8.no c15).chg c18 (fun he => by have := nb _ he; omega)
  have z18 := c18.size
  have c1 : Chg (NdB iS eS) w w18 := (trN c8 c15).trans c18 (fun _ _ h => h.elim) (fun _ _ h => h)
  refine ⟨rfl, _, _, _, _, _, o18.cell rfl, o18.cell rfl, o18.cell rfl, o18.cell rfl, o18.cell rfl, (iouts_any i w18).mono ?_⟩
  rintro e w25 ⟨r, rfl, s26, rfl, g26, c25, n26⟩
  have h25 := h18.no c25
  have z25 := c25.size
  have c2 := c1.trans c25 (U := NdB iS eS) (fun _ _ h => h) (fun _ _ h => h.elim)
  have hl26 := g26.rd.len
  have hol := outsV_len i
  refine ⟨s26, rfl, fun m w' => ∃ k : Nat, m = k ∧ k ≤ (outsV i).length ∧ NdAt w0 w' p t iS eS (exitsN v ⟨placesV n.ins (usesV i), n.exs⟩ ((outsV i).take k)) ∧ Chg (NdB iS eS) w25 w', fun m _ => (outsV i).length - m.toNat, ⟨0, rfl, Nat.zero_le _, h25, Chg.refl _ _⟩, ?_⟩
  rintro m w27 ⟨j, rfl, hj, h27, c27⟩
  refine brB_of (fun hlt => ?_) (fun hlt => ?_)
  · have hlt : j < (outsV i).length := by simp at hlt; omega
    obtain ⟨x, hx⟩ : ∃ x, (outsV i)[j]? = some x := ⟨_, List.getElem?_eq_getElem hlt⟩
    have hxo := hi.2.2.2.2.2 x (List.mem_of_getElem? hx)
    refine (g26.rd.chg c27 (fun k hk he => by have := n26 k hk; have := nb k he; omega)).ix (i := (j : Int)) (by omega) (by rw [Int.toNat_natCast]; exact hx) fun a _ hcell => ?_
    have q := hcell 0 _ rfl
    rw [add0] at q
    have hup := (up_exits (t := v) (k := k) ((outsV i).take j) ⟨placesV n.ins (usesV i), n.exs⟩ (by rw [← hli]; exact placesV_len _ _) hlx (fun y hy => hi.2.2.2.2.2 y (List.mem_of_mem_take hy)) hk).1
    refine ⟨x, q, (nexit_any h27 ht hr (hup.li.trans (by rw [← hli]; exact placesV_len _ _)) (hup.lx.trans hlx) hk hxo).mono ?_⟩
    rintro e w32 ⟨rfl, h32, c32⟩
    refine ⟨rfl, ?_⟩
    rw [wr_in (by omega)]
    refine ⟨⟨j + 1, by omega, by omega, ?_, c27.trans c32 (fun _ _ h => h) (fun _ _ h => h)⟩, by show (outsV i).length - Int.toNat ((j : Int) + 1) < (outsV i).length - Int.toNat (j : Int); omega⟩
    rw [List.take_add_one, hx]
    show NdAt w0 w32 p t iS eS (exitsN v _ ((outsV i).take j ++ [x]))
    rw [exitsN_snoc]; exact h32
  · have hlt : j = (outsV i).length := by simp at hlt; omega
    subst hlt
    rw [List.take_length] at h27
    exact ⟨rfl, h27, c2.trans c27 (fun _ _ h => h) (fun _ _ h => h)⟩
theorem npure_any (i : In5) (w : World) : Calls Try.prog fn_prune_pure #[.agg (insC i).toArray] w fun e w' => e = .returned (.bool (pureV i)) ∧ Chg No w w' := by
  refine (prune_pure_lift (K := fun r w' => r = .bool (pureV i) ∧ Chg No w w') ?_).mono (by rintro e w' ⟨r, rfl, rfl, h⟩; exact ⟨rfl, h⟩)
  unfold prune_pure_sh
  intro b6 w7 hb6 hw7
  have c7 := al hw7
  have o7 : Ob w7 b6 (insC i) T_api_Ins := by rw [hw7, hb6]; exact Ob.new w (insC i) T_api_Ins
  have j1 : ∀ b : Bool, (b = true → i.a = 1 ∨ i.a = 2) → (b = false → i.a ≠ 1 ∧ i.a ≠ 2) → prune_pure_j1 i.a b6 b w7 (fun r w' => r = .bool (pureV i) ∧ Chg No w w') := by
    intro b h1 h2
    unfold prune_pure_j1
    refine brB_of (fun hb => ⟨?_, c7⟩) (fun hb => ?_)
    · have h1 := h1 hb
      rw [show pureV i = true by unfold pureV; exact decide_eq_true (by omega)]
    have h2 := h2 hb
    refine brB_of (fun h3 => ⟨?_, c7⟩) (fun h3 => ?_)
    · have h3 : i.a = 3 := by simpa using h3
      rw [show pureV i = true by unfold pureV; exact decide_eq_true (by omega)]
    have h3 : i.a ≠ 3 := by simpa using h3
    refine brB_of (fun h4 => ?_) (fun h4 => ⟨?_, c7⟩)
    · have h4 : i.a = 4 := by simpa using h4
      refine ⟨_, _, _, _, _, o7.cell rfl, o7.cell rfl, o7.cell rfl, o7.cell rfl, o7.cell rfl, (iouts_any i w7).mono ?_⟩
      rintro e w20 ⟨r, rfl, s21, rfl, g21, c20, _⟩
      refine ⟨s21, rfl, ?_, trN c7 c20⟩
      have hl := g21.rd.len
      rw [hl]
      unfold pureV
      congr 1
      rw [Bool.eq_iff_iff]
      simp only [beq_iff_eq, decide_eq_true_eq]
      constructor
      · intro h; exact Or.inr (Or.inr (Or.inr ⟨h4, List.length_eq_zero_iff.1 (by omega)⟩))
      · rintro (h | h | h | ⟨_, h⟩)
        · omega
        · omega
        · omega
        · rw [h]; rfl
    · have h4 : i.a ≠ 4 := by simpa using h4
      rw [show pureV i = false by unfold pureV; exact decide_eq_false (by omega)]
  refine ⟨i.a, o7.cell rfl, brB_of (fun h1 => ?_) (fun h1 => ?_)⟩
  · have h1' : i.a = 1 := by simpa using h1
    exact j1 _ (fun _ => Or.inl h1') (fun h => by rw [h1'] at h; cases h)
  · have h1' : i.a ≠ 1 := by simpa using h1
    refine j1 _ (fun h => Or.inr (by simpa using h)) (fun h => ⟨h1', by simpa using h⟩)
end
theorem nbegin_any {D : Nat → Prop} {w : World} (t : TrP) {v : TrG} (ht : TrIs D w t v) (hr : RightV v) :
    Calls Try.prog fn_prune_begin #[.agg (trP t).toArray] w fun e w' => ∃ (p : Nat) (iS eS : Sl), e = .returned (.pointer (some ⟨p, 0, none⟩)) ∧ NdAt w w' p t iS eS (beginN v) ∧ w.heap.size ≤ p := by
  refine (prune_begin_lift (K := fun r w' => ∃ (p : Nat) (iS eS : Sl), r = .pointer (some ⟨p, 0, none⟩) ∧ NdAt w w' p t iS eS (beginN v) ∧ w.heap.size ≤ p) ?_).mono (by rintro e w' ⟨r, rfl, p, iS, eS, rfl, h⟩; exact ⟨p, iS, eS, rfl, h⟩)
  unfold prune_begin_sh
  intro b10 w11 hb10 hw11
  have c11 := al hw11
  have o11 : Ob w11 b10 (trP t) T_api_Trace := by rw [hw11, hb10]; exact Ob.new w (trP t) T_api_Trace
  have z11 : w11.heap.size = w.heap.size + 1 := by rw [hw11]; simp
  refine ⟨fun q w' => ∃ (p : Nat) (iS eS : Sl), q = some ⟨p, 0, none⟩ ∧ NdAt w w' p t iS eS ⟨List.replicate v.ins.length false, List.replicate v.outs.length false⟩ ∧ w.heap.size ≤ p ∧ Ob w' b10 (trP t) T_api_Trace, ?_, ?_⟩
  · rintro q w37 ⟨p, iS, eS, rfl, h37, hp, o37⟩
    have hlast : t.last = v.last := ht.nums.2.2.2.2.2
    refine ⟨t.last, o37.cell rfl, ?_⟩
    rw [hlast]
    refine (nexit_any h37 ht hr (by simp) (by simp) (Nat.le_refl _) hr.last).mono ?_
    rintro e w41 ⟨rfl, h41, c41⟩
    exact ⟨rfl, p, iS, eS, rfl, h41, hp⟩
  intro w12 hw12
  have c12 := dw hw12
  have o12 := o11.no c12
  have k12 := trN c11 c12
  have hil := ht.ins.len
  obtain ⟨os, hos, hov⟩ := ht.outs
  have hol := hos.len
  have hov1 := hov.1
  obtain ⟨q1, q2, _⟩ := hr.head
  have hd : ∀ {j : Nat} {u : Value}, (trP t)[j]? = some u → held (fun w' => Chg No w12 w') ⟨b10, j, none⟩ u := fun h => Ob.held (fun w' c => o12.no c) h
  have z12 := c12.size
  refine ⟨fun w' => Chg No w12 w', Chg.refl _ _, _, _, _, _, _, _, _, _, _, hd rfl, hd rfl, hd rfl, hd rfl, hd rfl, hd rfl, hd rfl, hd rfl, hd rfl, t.ins, hd rfl, t.outs, hd rfl, ?_, ?_⟩
  · rw [hil, hol, hov1]
    obtain ⟨w26, r26, g26, c26⟩ := make_bools (w := w12) (n := (v.ins.length : Int)) (N := v.ins.length) rfl (by omega)
    obtain ⟨w28, r28, g28, c28⟩ := make_bools (w := w26) (n := (v.outs.length : Int)) (N := v.outs.length) rfl (by omega)
    refine ⟨_, w26, r26, c26, _, w28, r28, trN c26 c28, ?_⟩
    intro b29 w30 hb29 hw30
    have c30 := al hw30
    have l26 := g26.lt (k := w12.heap.size) rfl
    have l28 := g28.lt (k := w26.heap.size) rfl
    have z26 := c26.size
    have z28 := c28.size
    refine ⟨b29, _, _, rfl, ⟨?_, (g26.no c28).no c30, g28.no c30, fun k hk => ?_, fun k hk => ?_, trN (trN (trN k12 c26) c28) c30⟩, by omega, ((o12.no c26).no c28).no c30⟩
    · rw [hw30, hb29]; exact Ob.new w28 (needC t _ _) T_prune_need
    · have hk : w12.heap.size = k := Option.some.inj hk
      refine ⟨by omega, by omega, fun he => ?_⟩
      have he : w26.heap.size = k := Option.some.inj he
      omega
    · have hk : w26.heap.size = k := Option.some.inj hk
      omega
  · rw [hil, hol, hov1]
    obtain ⟨w32, r32, g32, c32⟩ := make_bools (w := w12) (n := (v.outs.length : Int)) (N := v.outs.length) rfl (by omega)
    obtain ⟨w34, r34, g34, c34⟩ := make_bools (w := w32) (n := (v.ins.length : Int)) (N := v.ins.length) rfl (by omega)
    refine ⟨_, w32, r32, c32, _, w34, r34, trN c32 c34, ?_⟩
    intro b35 w36 hb35 hw36
    have c36 := al hw36
    have l32 := g32.lt (k := w12.heap.size) rfl
    have l34 := g34.lt (k := w32.heap.size) rfl
    have z32 := c32.size
    have z34 := c34.size
    refine ⟨b35, _, _, rfl, ⟨?_, g34.no c36, (g32.no c34).no c36, fun k hk => ?_, fun k hk => ?_, trN (trN (trN k12 c32) c34) c36⟩, by omega, ((o12.no c32).no c34).no c36⟩
    · rw [hw36, hb35]; exact Ob.new w34 (needC t _ _) T_prune_need
    · have hk : w32.heap.size = k := Option.some.inj hk
      refine ⟨by omega, by omega, fun he => ?_⟩
      have he : w12.heap.size = k := Option.some.inj he
      omega
    · have hk : w12.heap.size = k := Option.some.inj hk
      omega
/-- An instruction with exits by their new numbers. -/
theorem nren_any {w : World} {m : Sl} {ms : List Int} (hm : Rd intE w m ms) (i : In5) : Calls Try.prog fn_prune_renamed #[.agg (insC i).toArray, m.val] w fun e w' => e = .returned (.agg (insC (renV ms i)).toArray) ∧ Chg No w w' := by
  refine (prune_renamed_lift (K := fun r w' => r = .agg (insC (renV ms i)).toArray ∧ Chg No w w') ?_).mono (by rintro e w' ⟨r, rfl, rfl, h⟩; exact ⟨rfl, h⟩)
  unfold prune_renamed_sh
  intro b7 w8 hb7 hw8 b9 w10 hb9 hw10
  have c8 := al hw8
  have c10 := al hw10
  have z8 : w8.heap.size = w.heap.size + 1 := by rw [hw8]; simp
  have z10 : w10.heap.size = w8.heap.size + 1 := by rw [hw10]; simp
  have o7 : Ob w10 b7 (insC i) T_api_Ins := by
    have : Ob w8 b7 (insC i) T_api_Ins := by rw [hw8, hb7]; exact Ob.new w (insC i) T_api_Ins
    exact this.no c10
  have o9 : Ob w10 b9 (insC ⟨0, 0, 0, 0, 0⟩) T_api_Ins := by rw [hw10, hb9]; exact Ob.new w8 (insC ⟨0, 0, 0, 0, 0⟩) T_api_Ins
  have k10 := trN c8 c10
  have old : ∀ {w'}, Chg (fun k => k = b7) w10 w' → Chg No w w' := fun c => k10.trans c (fun _ _ h => h) (fun k hk he => by omega)
  refine ⟨fun w' => Ob w' b7 (insC (renV ms i)) T_api_Ins ∧ Chg (fun k => k = b7) w10 w', ?_, ?_⟩
  · rintro w30 ⟨p7, c30⟩
    have p9 := o9.chg c30 (fun he => by omega)
    refine ⟨_, _, _, _, _, p7.cell rfl, p7.cell rfl, p7.cell rfl, p7.cell rfl, p7.cell rfl, p9.wr (by simp [insC]), fun w36 hw36 => ?_⟩
    obtain ⟨q9, c36⟩ := p9.up (k := 0) (vs := insC (renV ms i)) (cs' := insC (renV ms i)) (by simp [insC]) rfl hw36
    refine ⟨_, _, _, _, _, q9.cell rfl, q9.cell rfl, q9.cell rfl, q9.cell rfl, q9.cell rfl, rfl, ?_⟩
    exact (old c30).trans c36 (fun _ _ h => h) (fun k hk he => by omega)
  refine ⟨_, _, _, _, _, o7.cell rfl, o7.cell rfl, o7.cell rfl, o7.cell rfl, o7.cell rfl, (iouts_any i w10).mono ?_⟩
  rintro e w17 ⟨r, rfl, s18, rfl, g18, c17, _⟩
  have hl := g18.rd.len
  have p7 := o7.no c17
  have cN : Chg (fun k => k = b7) w10 w17 := c17.mono (fun _ _ h => h.elim)
  refine ⟨s18, rfl, fun w' => (∃ b : Int, Ob w' b7 (insC { i with b := b }) T_api_Ins ∧ renV ms i = { i with b := b, e := ofV ms i.e }) ∧ Chg (fun k => k = b7) w10 w', ?_, ?_⟩
  · rintro w24 ⟨⟨b, q7, hM⟩, c24⟩
    refine ⟨_, q7.cell rfl, (mof_any (hm.no (old c24)) _).mono ?_⟩
    rintro e w27 ⟨rfl, rfl⟩
    refine ⟨_, rfl, q7.wr (by simp [insC]), fun w29 hw29 => ?_⟩
    obtain ⟨r7, c29⟩ := q7.up (k := 4) (vs := [.int .i64 (ofV ms i.e)]) (cs' := insC { i with b := b, e := ofV ms i.e }) (by simp [insC]) rfl hw29
    rw [hM]
    exact ⟨r7, c24.trans c29 (fun _ _ h => h) (fun _ _ h => h)⟩
  · refine brB_of (fun h2 => ?_) (fun h2 => ?_)
    · have h2 : (outsV i).length = 2 := by simp at h2; omega
      refine ⟨_, p7.cell rfl, (mof_any (hm.no (old cN)) _).mono ?_⟩
      rintro e w21 ⟨rfl, rfl⟩
      refine ⟨_, rfl, p7.wr (by simp [insC]), fun w23 hw23 => ?_⟩
      obtain ⟨r7, c23⟩ := p7.up (k := 1) (vs := [.int .i64 (ofV ms i.b)]) (cs' := insC { i with b := ofV ms i.b }) (by simp [insC]) rfl hw23
      exact ⟨⟨ofV ms i.b, r7, by unfold renV; rw [if_pos h2]⟩, cN.trans c23 (fun _ _ h => h) (fun _ _ h => h)⟩
    · have h2 : (outsV i).length ≠ 2 := by simp at h2; omega
      refine brB_of (fun h1 => ?_) (fun h1 => ?_)
      · have h1 : (outsV i).length = 1 := by simp at h1; omega
        exact ⟨⟨i.b, p7, by unfold renV; rw [if_neg h2, if_pos h1]⟩, cN⟩
      · have h1 : (outsV i).length ≠ 1 := by simp at h1; omega
        refine ⟨?_, cN⟩
        have : renV ms i = i := by unfold renV; rw [if_neg h2, if_neg h1]
        rw [this]; exact p7
end Go.Proofs.Ytblmoilneiffgaa

/- prune.Do. -/
set_option maxRecDepth 100000
namespace Go.Proofs.Ytblmoilneiffgaa
open Go.RowKit

theorem nn_ok {a : Addr} {G : Addr → Prop} (h : G a) : nn (some a) G := h
theorem cells_few {l : List Int} (hc : CellsV l) : l.length ≤ 3000 := by
  by_cases hz : l.length ≤ 3000
  · exact hz
  · exfalso
    have rise : ∀ (j : Nat) (c : Int), l[j]? = some c → (j : Int) ≤ c := by
      intro j
      induction j with
      | zero => intro c h; have := (hc 0 c h).1; omega
      | succ j ih =>
        intro c h
        have hj : j < l.length := by have := (List.getElem?_eq_some_iff.1 h).1; omega
        obtain ⟨d, hd⟩ : ∃ d, l[j]? = some d := ⟨_, List.getElem?_eq_getElem hj⟩
        have h1 := ih d hd
        have h2 := (hc (j + 1) c h).2 j d rfl hd
        omega
    obtain ⟨c, hcc⟩ : ∃ c, l[3000]? = some c := ⟨_, List.getElem?_eq_getElem (by omega)⟩
    have h1 := rise 3000 c hcc
    have h2 := (hc 3000 c hcc).1
    omega
theorem exM_snoc (ex : List Bool) (os : List OuV) (k : Nat) : exM ex os (k + 1) = exM ex os k ++ [((keepL (bA ex) (os.take k)).length : Int)] := by
  unfold exM; rw [List.range_succ, List.map_append]; rfl
theorem pdo_any {D : Nat → Prop} {w : World} (t : TrP) {v : TrG} (ht : TrIs D w t v) : Calls Try.prog fn_prune_Do #[.agg (trP t).toArray] w fun e w' => ∃ r, e = .returned r ∧ PassAns prnT t v w r w' := by
  refine (prune_Do_lift (K := fun r w' => PassAns prnT t v w r w') ?_).mono (by rintro e w' ⟨r, rfl, h⟩; exact ⟨r, rfl, h⟩)
  unfold prune_Do_sh
  intro b10 w11 hb10 hw11 b12 w13 hb12 hw13
  have c11 := al hw11
  have c13 := al hw13
  have z11 : w11.heap.size = w.heap.size + 1 := by rw [hw11]; simp
  have z13 : w13.heap.size = w11.heap.size + 1 := by rw [hw13]; simp
  have o10 : Ob w13 b10 (trP t) T_api_Trace := by
    have : Ob w11 b10 (trP t) T_api_Trace := by rw [hw11, hb10]; exact Ob.new w (trP t) T_api_Trace
    exact this.no c13
  have o12 : Ob w13 b12 (trP ⟨0, 0, 0, 0, 0, nilS, nilS, 0, nilS⟩) T_api_Trace := by rw [hw13, hb12]; exact Ob.new w11 (trP ⟨0, 0, 0, 0, 0, nilS, nilS, 0, nilS⟩) T_api_Trace
  have k13 := trN c11 c13
  refine ⟨_, _, _, _, _, _, _, _, _, o10.cell rfl, o10.cell rfl, o10.cell rfl, o10.cell rfl, o10.cell rfl, o10.cell rfl, o10.cell rfl, o10.cell rfl, o10.cell rfl, (iright_any t (ht.no k13)).mono ?_⟩
  rintro e w24 ⟨b, rfl, hb, c24⟩
  have k24 := trN k13 c24
  have p10 := o10.no c24
  have p12 := o12.no c24
  have z24 := c24.size
  refine ⟨b, rfl, brB_of (fun hno => ?_) (fun hyes => ?_)⟩
  · have hR : ¬ RightV v := fun h => by rw [hb.2 h] at hno; cases hno
    refine ⟨_, _, _, _, _, _, _, _, _, p10.cell rfl, p10.cell rfl, p10.cell rfl, p10.cell rfl, p10.cell rfl, p10.cell rfl, p10.cell rfl, p10.cell rfl, p10.cell rfl, p12.wr (by simp [trP]), fun w35 hw35 => ?_⟩
    obtain ⟨q12, c35⟩ := p12.up (k := 0) (vs := trP t) (cs' := trP t) (by simp [trP]) rfl hw35
    refine ⟨_, _, _, _, _, _, _, _, _, q12.cell rfl, q12.cell rfl, q12.cell rfl, q12.cell rfl, q12.cell rfl, q12.cell rfl, q12.cell rfl, q12.cell rfl, q12.cell rfl, t, rfl, k24.trans c35 (fun _ _ h => h) (fun k hk he => by omega), Or.inl ⟨hR, rfl⟩⟩
  have hR := hb.1 (by simpa using hyes)
  obtain ⟨q1, q2, q3⟩ := hR.head
  have hil := ht.ins.len
  obtain ⟨os, hos, hov⟩ := ht.outs
  have hol := hos.len
  have hov1 := hov.1
  refine ⟨_, _, _, _, _, _, _, _, _, p10.cell rfl, p10.cell rfl, p10.cell rfl, p10.cell rfl, p10.cell rfl, p10.cell rfl, p10.cell rfl, p10.cell rfl, p10.cell rfl, (nbegin_any t (ht.no k24) hR).mono ?_⟩
  rintro e w55 ⟨p, iS, eS, rfl, h55, hp⟩
  have r10 := p10.no h55.base
  refine ⟨_, rfl, t.ins, r10.cell rfl, ?_⟩
  rw [hil]
  obtain ⟨w59, r59, g59, c59⟩ := make_bools (w := w55) (n := (v.ins.length : Int)) (N := v.ins.length) rfl (by omega)
  refine ⟨_, w59, r59, t.ins, (r10.no c59).cell rfl, ?_⟩
  rw [hil]
  have z55 := h55.base.size
  have z59 := c59.size
  have l59 := g59.lt (k := w55.heap.size) rfl
  have plt := h55.ob.lt
  obtain ⟨kS, hkS⟩ : ∃ s : Sl, s = ⟨some ⟨w55.heap.size, 0, none⟩, v.ins.length, v.ins.length⟩ := ⟨_, rfl⟩
  have kSb : ∀ k, kS.blk = some k → k = w55.heap.size := fun k hk => by rw [hkS] at hk; exact (Option.some.inj hk).symm
  rw [← hkS] at g59
  rw [show (⟨some ⟨w55.heap.size, 0, none⟩, v.ins.length, v.ins.length⟩ : Sl) = kS from hkS.symm]
  have nbk : ∀ k, NdB iS eS k → k < w55.heap.size := fun k hk => (h55.nb hk).2.2
  have h59 := h55.no c59
  have hwr1 : wr ((v.ins.length : Int) - 1) = (v.ins.length : Int) - 1 := wr_in (by omega)
  rw [hwr1]
  refine ⟨fun m w' => ∃ (k : Nat) (q : Ned × List Bool), m = (k : Int) - 1 ∧ k ≤ v.ins.length ∧ NdAt w24 w' p t iS eS q.1 ∧ Ow boE w' kS q.2 ∧ KpN v k q ∧ backL v k q = finN v, fun m _ => (m + 1).toNat, ⟨v.ins.length, _, rfl, Nat.le_refl _, h59, g59, begin_ok hR, rfl⟩, ?_⟩
  rintro m w61 ⟨k, q, rfl, hk, h61, g61, hK, hfin⟩
  refine brB_of (fun hge => ?_) (fun hge => ?_)
  · obtain ⟨j, rfl⟩ : ∃ j, k = j + 1 := ⟨k - 1, by simp at hge; omega⟩
    have hm : (((j + 1 : Nat) : Int) - 1) = (j : Int) := by omega
    rw [hm]
    obtain ⟨i, hi⟩ : ∃ i, v.ins[j]? = some i := ⟨_, List.getElem?_eq_getElem (by omega)⟩
    have hat : atL v.ins j = i := atL_get hi
    have r61 := p10.no h61.base
    refine ⟨fun w' => NdAt w24 w' p t iS eS (backS v q j).1 ∧ Ow boE w' kS (backS v q j).2, ?_, fun w' => NdAt w24 w' p t iS eS q.1 ∧ Ow boE w' kS (q.2.set j (keepB v q.1 j)), ?_, ?_⟩
    · rintro w93 ⟨h93, g93⟩
      rw [wr_in (by omega)]
      exact ⟨⟨j, _, rfl, by omega, h93, g93, hK.step hR (by omega), hfin⟩, by show (((j : Int) - 1) + 1).toNat < ((j : Int) + 1).toNat; omega⟩
    · rintro w81 ⟨h81, g81⟩
      refine g81.rd.ix (i := (j : Int)) (by omega) (x := keepB v q.1 j) (by rw [Int.toNat_natCast, List.getElem?_set_self (by rw [hK.lk]; omega)]) fun a82 _ hcell => ?_
      have q82 := hcell 0 _ rfl
      rw [add0] at q82
      refine ⟨_, q82, brB_of (fun hkp => ?_) (fun hkp => ?_)⟩
      · have r81 := p10.no h81.base
        refine ⟨t.ins, r81.cell rfl, ?_⟩
        refine (ht.ins.no (trN k24 h81.base)).ix (i := (j : Int)) (by omega) (by rw [Int.toNat_natCast]; exact hi) fun a85 _ hc => ?_
        have g0 := hc 0 _ rfl
        rw [add0] at g0
        refine ⟨_, _, _, _, _, g0, hc 1 _ rfl, hc 2 _ rfl, hc 3 _ rfl, hc 4 _ rfl, ?_⟩
        refine (nall_any h81 (ht.no k24) hR hK.li hK.lx (k := j) (by omega) (hR.each j i hi)).mono ?_
        rintro e w92 ⟨rfl, h92, c92⟩
        refine ⟨rfl, ?_, ?_⟩
        · have : (backS v q j).1 = allN v q.1 i := by unfold backS; rw [if_pos hkp, hat]
          rw [this]; exact h92
        · exact g81.chg c92 (fun k hk he => by have := kSb k hk; have := nbk k he; omega)
      · refine ⟨?_, g81⟩
        have : (backS v q j).1 = q.1 := by unfold backS; rw [if_neg (by rw [hkp]; decide)]
        rw [this]; exact h81
    · refine nn_ok ⟨iS, ?_, ?_⟩
      · rw [add_mk]; exact h61.ob.cell rfl
      refine h61.ins.rd.ix (i := (j : Int)) (by omega) (x := bA q.1.ins j) (by rw [Int.toNat_natCast]; exact bA_get (by rw [hK.li]; omega)) fun a65 _ hcell => ?_
      have q65 := hcell 0 _ rfl
      rw [add0] at q65
      have keepw : ∀ {wx w68 : World} {u : Bool} (hx : NdAt w24 wx p t iS eS q.1) (gx : Ow boE wx kS q.2), ∃ a : Addr, kS.ptr = some a ∧ 0 ≤ (j : Int) ∧ (j : Int) < (kS.len : Int) ∧ wrOk wx (a.add (Int.toNat (j : Int) * 1)) 1 ∧ (w68 = stW wx (a.add (Int.toNat (j : Int) * 1)) 0 [.bool u] → NdAt w24 w68 p t iS eS q.1 ∧ Ow boE w68 kS (q.2.set j u)) := by
        intro wx w68 u hx gx
        refine gx.rd.ix (i := (j : Int)) (by omega) (x := bA q.2 j) (by rw [Int.toNat_natCast]; exact bA_get (by rw [hK.lk]; omega)) fun a ha _ => ?_
        obtain ⟨f1, f2⟩ := gx.set1 ha (k := j) (j := 0) (x' := u) (u := .bool u) (bA_get (by rw [hK.lk]; omega)) (by decide) rfl
        rw [add0] at f1 f2
        refine ⟨f1, fun hw => ⟨?_, by rw [hw]; exact f2⟩⟩
        have c : Chg (fun k => kS.blk = some k) wx w68 := by rw [hw]; exact Chg.st (S := fun k => kS.blk = some k) (by rw [add_block]; exact blk_ptr ha)
        refine hx.chg c (fun k hk => ?_)
        have := kSb k hk
        refine ⟨fun he => by have := nbk k he; omega, by omega, by omega⟩
      refine ⟨_, q65, brB_of (fun hb1 => ?_) (fun hb1 => ?_)⟩
      · have hkb : keepB v q.1 j = true := by unfold keepB; rw [hb1]; rfl
        obtain ⟨a, e1, e2, e3, e4, _⟩ := keepw (w68 := w61) (u := true) h61 g61
        refine ⟨a, e1, e2, e3, e4, fun w68 hw68 => ?_⟩
        obtain ⟨a', e1', _, _, _, e5⟩ := keepw (w68 := w68) (u := true) h61 g61
        rw [e1] at e1'; cases e1'
        rw [hkb]; exact e5 hw68
      · refine ⟨t.ins, r61.cell rfl, ?_⟩
        refine (ht.ins.no (trN k24 h61.base)).ix (i := (j : Int)) (by omega) (by rw [Int.toNat_natCast]; exact hi) fun a70 _ hc => ?_
        have g0 := hc 0 _ rfl
        rw [add0] at g0
        refine ⟨_, _, _, _, _, g0, hc 1 _ rfl, hc 2 _ rfl, hc 3 _ rfl, hc 4 _ rfl, (npure_any i w61).mono ?_⟩
        rintro e w77 ⟨rfl, c77⟩
        have hkb : keepB v q.1 j = !pureV i := by unfold keepB; rw [hb1, hat]; rfl
        obtain ⟨a, e1, e2, e3, e4, _⟩ := keepw (w68 := w61) (u := !pureV i) (h61.no c77) (g61.no c77)
        refine ⟨_, rfl, a, e1, e2, e3, e4, fun w80 hw80 => ?_⟩
        obtain ⟨a', e1', _, _, _, e5⟩ := keepw (w68 := w80) (u := !pureV i) (h61.no c77) (g61.no c77)
        rw [e1] at e1'; cases e1'
        rw [hkb]; exact e5 hw80
  have hk0 : k = 0 := by simp at hge; omega
  subst hk0
  have hq : q = finN v := hfin
  subst hq
  obtain ⟨ex, hex⟩ : ∃ ex, ex = (finN v).1.exs := ⟨_, rfl⟩
  obtain ⟨kp, hkp⟩ : ∃ kp, kp = (finN v).2 := ⟨_, rfl⟩
  have r61 := p10.no h61.base
  have k61 := trN k24 h61.base
  have z61 := h61.base.size
  have p61 := h61.ob.lt
  have lex : ex.length = v.outs.length := by rw [hex]; exact hK.lx
  have lkp : kp.length = v.ins.length := by rw [hkp]; exact hK.lk
  have hprn : prnT v = prnA v kp ex := by unfold prnT; rw [← hkp, ← hex]
  rw [← hkp] at g61
  have e61 : Ow boE w61 eS ex := by rw [hex]; exact h61.exs
  refine ⟨t.outs, r61.cell rfl, ?_⟩
  refine ⟨fun exs outs m w' => ∃ (k : Nat) (os' : List OuC), m = k ∧ k ≤ v.outs.length ∧ Ow intE w' exs (exM ex v.outs k) ∧ Ow ouE w' outs os' ∧ OusIs D w61 os' (keepL (bA ex) (v.outs.take k)) ∧ (∀ j, exs.blk = some j → w61.heap.size ≤ j ∧ outs.blk ≠ some j) ∧ (∀ j, outs.blk = some j → w61.heap.size ≤ j) ∧ Chg No w61 w', fun _ _ m _ => v.outs.length - m.toNat, ⟨0, [], rfl, Nat.zero_le _, Ow.nil _ _, Ow.nil _ _, ⟨by simp [keepL], fun i o v h => by simp at h⟩, (fun j hj => by cases hj), (fun j hj => by cases hj), Chg.refl _ _⟩, ?_⟩
  rintro exs outs m w95 ⟨k, os', rfl, hk, gx, go, hou, hxb, hob, c95⟩
  refine brB_of (fun hlt => ?_) (fun hlt => ?_)
  · have hlt : k < v.outs.length := by simp at hlt; omega
    obtain ⟨o, ho⟩ : ∃ o, os[k]? = some o := ⟨_, List.getElem?_eq_getElem (by omega)⟩
    obtain ⟨ov, hovk⟩ : ∃ o, v.outs[k]? = some o := ⟨_, List.getElem?_eq_getElem hlt⟩
    have hlk : os'.length = (keepL (bA ex) (v.outs.take k)).length := hou.1
    have hle := keepL_len (v.outs.take k) (bA ex)
    rw [List.length_take] at hle
    refine ⟨fun exs' outs' w' => ∃ os'' : List OuC, Ow intE w' exs' (exM ex v.outs (k + 1)) ∧ Ow ouE w' outs' os'' ∧ OusIs D w61 os'' (keepL (bA ex) (v.outs.take (k + 1))) ∧ (∀ j, exs'.blk = some j → w61.heap.size ≤ j ∧ outs'.blk ≠ some j) ∧ (∀ j, outs'.blk = some j → w61.heap.size ≤ j) ∧ Chg No w61 w', ?_, ?_⟩
    · rintro exs' outs' w123 ⟨os'', h1, h2, h3, h4, h5, h6⟩
      rw [wr_in (by omega)]
      exact ⟨⟨k + 1, os'', by omega, by omega, h1, h2, h3, h4, h5, h6⟩, by show v.outs.length - Int.toNat ((k : Int) + 1) < v.outs.length - Int.toNat (k : Int); omega⟩
    · refine (hos.no (trN k61 c95)).ix (i := (k : Int)) (by omega) (by rw [Int.toNat_natCast]; exact ho) fun a97 _ hc => ?_
      have g0 := hc 0 _ rfl
      rw [add0] at g0
      refine ⟨_, _, _, _, g0, hc 1 _ rfl, hc 2 _ rfl, hc 3 _ rfl, ?_⟩
      intro b102 w103 hb102 hw103
      have hn := fun (w2 : World) => newOb (w2 := w2) (T := T_api_Out) (ouC ⟨0, 0, nilS, nilS⟩) (ouC o) rfl hb102 hw103
      refine ⟨(hn w103).1, fun w104 hw104 => ?_⟩
      obtain ⟨o104, c104⟩ := (hn w104).2 hw104
      intro b107 w108 hb107 hw108
      have z104 := c104.size
      have hlo : outs.len = os'.length := go.rd.len
      rw [hlo] at hw108
      refine app1_gen mapOk (by decide) (x := (os'.length : Int)) rfl hb107 hw108 (gx.no c104) (trN c95 c104) (fun j hj => (hxb j hj).1) (by rw [exM_len]; omega) ?_
      intro s109 w110 g109 c110 cl b109
      rw [hlk, ← exM_snoc] at g109
      have hxlt : ∀ j, exs.blk = some j → j < w95.heap.size := fun j hj => gx.lt hj
      have holt : ∀ j, outs.blk = some j → j < w95.heap.size := fun j hj => go.lt hj
      have o110 := o104.chg cl (fun he => by have := hxlt _ he; omega)
      have go110 : Ow ouE w110 outs os' := (go.no c104).chg cl (fun j hj he => (hxb j he).2 hj)
      refine nn_ok ⟨eS, ?_, ?_⟩
      · rw [add_mk]; exact (h61.ob.no c110).cell rfl
      refine (e61.no c110).rd.ix (i := (k : Int)) (by omega) (x := bA ex k) (by rw [Int.toNat_natCast]; exact bA_get (by omega)) fun a113 _ hcell => ?_
      have q113 := hcell 0 _ rfl
      rw [add0] at q113
      have htk := keepL_take (f := bA ex) hovk
      refine ⟨_, q113, brB_of (fun hbx => ?_) (fun hbx => ?_)⟩
      · refine ⟨_, _, _, _, o110.cell rfl, o110.cell rfl, o110.cell rfl, o110.cell rfl, ?_⟩
        intro b119 w120 hb119 hw120
        refine app1_gen ousOk (by decide) (x := o) rfl hb119 hw120 go110 c110 hob (by omega) ?_
        intro s121 w122 g121 c122 cl2 b121
        rw [hbx] at htk
        have s109lt : ∀ j, s109.blk = some j → j < w110.heap.size := fun j hj => g109.lt hj
        refine ⟨os' ++ [o], g109.chg cl2 (fun j hj he => ?_), g121, ?_, fun j hj => ⟨(b109 j hj).1, fun he => ?_⟩, fun j hj => (b121 j hj).1, c122⟩
        · rcases (b109 j hj).2 with h | h
          · exact (hxb j h).2 he
          · have := holt j he; omega
        · rw [htk]
          exact hou.snoc (by
            obtain ⟨u1, u2, u3, u4, u5, u6⟩ := hov.2 _ _ _ ho hovk
            exact ⟨u1, u2, u3.no k61, u4.no k61, u5, u6⟩)
        · rcases (b121 j he).2 with h | h
          · rcases (b109 j hj).2 with h' | h'
            · exact (hxb j h').2 h
            · have := holt j h; omega
          · have := s109lt j hj; omega
      · rw [hbx] at htk
        refine ⟨os', g109, go110, ?_, fun j hj => ⟨(b109 j hj).1, fun he => ?_⟩, hob, c110⟩
        · rw [htk, if_neg (by decide), List.append_nil]; exact hou
        · rcases (b109 j hj).2 with h | h
          · exact (hxb j h).2 he
          · have := holt j he; omega
  have hlt : k = v.outs.length := by simp at hlt; omega
  subst hlt
  rw [List.take_length] at hou
  have gx' : Ow intE w95 exs (exI v ex) := gx
  have k95 := trN k61 c95
  have r95 := r61.no c95
  have g95 := g61.no c95
  refine ⟨t.ins, r95.cell rfl, ?_⟩
  refine ⟨fun m l n w' => ∃ k : Nat, n = k ∧ k ≤ v.ins.length ∧ Ow insE w' l (prnL v kp (exI v ex) k).1 ∧ Ow intE w' m (prnL v kp (exI v ex) k).2 ∧ (∀ j, l.blk = some j → w95.heap.size ≤ j) ∧ (∀ j, m.blk = some j → w95.heap.size ≤ j ∧ l.blk ≠ some j) ∧ Chg No w95 w', fun _ _ n _ => v.ins.length - n.toNat, ⟨0, rfl, Nat.zero_le _, Ow.nil _ _, Ow.nil _ _, (fun j hj => by cases hj), (fun j hj => by cases hj), Chg.refl _ _⟩, ?_⟩
  rintro m l n w125 ⟨k, rfl, hk, gl, gm, hlb, hmb, c125⟩
  have k125 := trN k95 c125
  refine brB_of (fun hlt => ?_) (fun hlt => ?_)
  · have hlt : k < v.ins.length := by simp at hlt; omega
    obtain ⟨i, hi⟩ : ∃ i, v.ins[k]? = some i := ⟨_, List.getElem?_eq_getElem hlt⟩
    have hat : atL v.ins k = i := atL_get hi
    obtain ⟨q, hq⟩ : ∃ q, q = prnL v kp (exI v ex) k := ⟨_, rfl⟩
    obtain ⟨ll1, ll2⟩ := prnL_len v kp (exI v ex) k
    have hq' : prnL v kp (exI v ex) (k + 1) = (if bA kp k = true then q.1 ++ [renV (exI v ex) (insM q.2 i)] else q.1, q.2 ++ [(q.1.length : Int)]) := by
      rw [hq, ← hat]; rfl
    rw [← hq] at gl gm ll1 ll2
    refine ⟨fun m' l' w' => Ow insE w' l' (prnL v kp (exI v ex) (k + 1)).1 ∧ Ow intE w' m' (prnL v kp (exI v ex) (k + 1)).2 ∧ (∀ j, l'.blk = some j → w95.heap.size ≤ j) ∧ (∀ j, m'.blk = some j → w95.heap.size ≤ j ∧ l'.blk ≠ some j) ∧ Chg No w95 w', ?_, ?_⟩
    · rintro m' l' w173 ⟨h1, h2, h3, h4, h5⟩
      rw [wr_in (by omega)]
      exact ⟨⟨k + 1, by omega, by omega, h1, h2, h3, h4, h5⟩, by show v.ins.length - Int.toNat ((k : Int) + 1) < v.ins.length - Int.toNat (k : Int); omega⟩
    · rw [hq']
      refine (ht.ins.no k125).ix (i := (k : Int)) (by omega) (by rw [Int.toNat_natCast]; exact hi) fun a127 _ hc => ?_
      have g0 := hc 0 _ rfl
      rw [add0] at g0
      refine ⟨_, _, _, _, _, g0, hc 1 _ rfl, hc 2 _ rfl, hc 3 _ rfl, hc 4 _ rfl, ?_⟩
      intro b133 w134 hb133 hw134
      have hn := fun (w2 : World) => newOb (w2 := w2) (T := T_api_Ins) (insC ⟨0, 0, 0, 0, 0⟩) (insC i) rfl hb133 hw134
      refine ⟨(hn w134).1, fun w135 hw135 => ?_⟩
      obtain ⟨o135, c135⟩ := (hn w135).2 hw135
      refine ⟨_, _, _, _, _, o135.cell rfl, o135.cell rfl, o135.cell rfl, o135.cell rfl, o135.cell rfl, (mins_any (gm.no c135).rd i).mono ?_⟩
      rintro e w143 ⟨rfl, c143⟩
      have o143 := o135.no c143
      refine ⟨_, _, _, _, _, rfl, o143.wr (by simp [insC]), fun w149 hw149 => ?_⟩
      obtain ⟨o149, c149⟩ := o143.up (k := 0) (vs := insC (insM q.2 i)) (cs' := insC (insM q.2 i)) (by simp [insC]) rfl hw149
      have z135 := c135.size
      have z143 := c143.size
      have z149 := c149.size
      have hb133ge : b133 = w125.heap.size := hb133
      have c125149 : Chg No w125 w149 := (trN c135 c143).trans c149 (fun _ _ h => h) (fun k hk he => by omega)
      have hmlt : ∀ j, m.blk = some j → j < w125.heap.size := fun j hj => gm.lt hj
      have hllt : ∀ j, l.blk = some j → j < w125.heap.size := fun j hj => gl.lt hj
      have gl149 := gl.no c125149
      have gm149 := gm.no c125149
      have hll : l.len = q.1.length := gl.rd.len
      intro b151 w152 hb151 hw152
      rw [hll] at hw152
      refine app1_gen mapOk (by decide) (x := (q.1.length : Int)) rfl hb151 hw152 gm149 (trN c125 c125149) (fun j hj => (hmb j hj).1) (by omega) ?_
      intro s153 w154 g153 c154 cl b153
      have o154 := o149.chg cl (fun he => by have := hmlt _ he; omega)
      have gl154 := gl149.chg cl (fun j hj he => (hmb j he).2 hj)
      refine (g95.no c154).rd.ix (i := (k : Int)) (by omega) (x := bA kp k) (by rw [Int.toNat_natCast]; exact bA_get (by omega)) fun a155 _ hcell => ?_
      have q155 := hcell 0 _ rfl
      rw [add0] at q155
      have s153lt : ∀ j, s153.blk = some j → j < w154.heap.size := fun j hj => g153.lt hj
      refine ⟨_, q155, brB_of (fun hbk => ?_) (fun hbk => ?_)⟩
      · rw [if_pos hbk]
        refine ⟨_, _, _, _, _, o154.cell rfl, o154.cell rfl, o154.cell rfl, o154.cell rfl, o154.cell rfl, (nren_any (gx'.no c154).rd (insM q.2 i)).mono ?_⟩
        rintro e w163 ⟨rfl, c163⟩
        refine ⟨_, _, _, _, _, rfl, ?_⟩
        intro b169 w170 hb169 hw170
        refine app1_gen insOk (by decide) (x := renV (exI v ex) (insM q.2 i)) rfl hb169 hw170 (gl154.no c163) (trN c154 c163) hlb (by omega) ?_
        intro s171 w172 g171 c172 cl2 b171
        have z163 := c163.size
        refine ⟨g171, (g153.no c163).chg cl2 (fun j hj he => ?_), fun j hj => (b171 j hj).1, fun j hj => ⟨(b153 j hj).1, fun he => ?_⟩, c172⟩
        · rcases (b153 j hj).2 with h | h
          · exact (hmb j h).2 he
          · have := hllt j he; omega
        · rcases (b171 j he).2 with h | h
          · rcases (b153 j hj).2 with h' | h'
            · exact (hmb j h').2 h
            · have := hllt j h; omega
          · have := s153lt j hj; omega
      · rw [if_neg (by rw [hbk]; decide)]
        refine ⟨gl154, g153, hlb, fun j hj => ⟨(b153 j hj).1, fun he => ?_⟩, c154⟩
        rcases (b153 j hj).2 with h | h
        · exact (hmb j h).2 he
        · have := hllt j he; omega
  have hlt : k = v.ins.length := by simp at hlt; omega
  subst hlt
  intro w174 hw174
  have c174 := dw hw174
  have k174 := trN k125 c174
  have r174 := (r95.no c125).no c174
  have s12 := ((((p12.no h61.base).no c95).no c125).no c174)
  obtain ⟨_, pl2⟩ := prnL_len v kp (exI v ex) v.ins.length
  have hkl := keepL_len v.outs (bA ex)
  refine ⟨fun w' => Chg No w174 w', Chg.refl _ _, t.last, Ob.held (fun w' c => r174.no c) rfl, t.cells, Ob.held (fun w' c => r174.no c) rfl, ?_⟩
  have c95174 := trN c125 c174
  refine (mouts_any (D := D) (gm.no c174).rd ((go.no c125).no c174).rd (hou.chg (trN c95 c95174) (fun _ _ h => h)) (by omega) (fun o ho => ?_)).mono ?_
  · obtain ⟨j, hj⟩ := List.getElem?_of_mem (keepL_mem _ _ _ ho)
    obtain ⟨_, _, e3, e4⟩ := hR.exits j o hj
    obtain ⟨_, a1, a2, a3, a4⟩ := q3
    constructor <;> omega
  rintro e w179 ⟨r, rfl, s180, os2, rfl, g180, hov2, c179, n180⟩
  have hlast : t.last = v.last := ht.nums.2.2.2.2.2
  refine ⟨s180, rfl, c179, ?_⟩
  rw [hlast]
  refine (mof_any ((gx'.no c95174).no c179).rd v.last).mono ?_
  rintro e w182 ⟨rfl, rfl⟩
  have hcl := cells_few hR.cells
  refine ⟨_, rfl, c179, (clone_ints (ht.cells.no (trN k174 c179)) (by omega)).mono ?_⟩
  rintro e w185 ⟨s186, rfl, g186, c185, n186, _⟩
  have c174185 := trN c179 c185
  have k185 := trN k174 c174185
  have t10 := r174.no c174185
  have t12 := s12.no c174185
  have z95 := c95.size
  have z125 := c125.size
  have z174 := c174.size
  have z179 := c179.size
  have z185 := c185.size
  refine ⟨s186, rfl, c174185, t10.wr (by simp [trP]), fun w187 hw187 => ?_⟩
  obtain ⟨u10, c187⟩ := t10.up (k := 5) (vs := [l.val]) (cs' := trP { t with ins := l }) (by simp [trP]) rfl hw187
  refine ⟨u10.wr (by simp [trP]), fun w188 hw188 => ?_⟩
  obtain ⟨v10, c188⟩ := u10.up (k := 6) (vs := [s180.val]) (cs' := trP { t with ins := l, outs := s180 }) (by simp [trP]) rfl hw188
  refine ⟨v10.wr (by simp [trP]), fun w189 hw189 => ?_⟩
  obtain ⟨x10, c189⟩ := v10.up (k := 7) (vs := [.int .i64 (ofV (exI v ex) v.last)]) (cs' := trP { t with ins := l, outs := s180, last := ofV (exI v ex) v.last }) (by simp [trP]) rfl hw189
  refine ⟨x10.wr (by simp [trP]), fun w190 hw190 => ?_⟩
  obtain ⟨y10, c190⟩ := x10.up (k := 8) (vs := [s186.val]) (cs' := trP { t with ins := l, outs := s180, last := ofV (exI v ex) v.last, cells := s186 }) (by simp [trP]) rfl hw190
  have cX : Chg (fun k => k = b10) w185 w190 := ((c187.trans c188 (fun _ _ h => h) (fun _ _ h => h)).trans c189 (fun _ _ h => h) (fun _ _ h => h)).trans c190 (fun _ _ h => h) (fun _ _ h => h)
  have x12 := t12.chg cX (fun he => by omega)
  refine ⟨_, _, _, _, _, _, _, _, _, y10.cell rfl, y10.cell rfl, y10.cell rfl, y10.cell rfl, y10.cell rfl, y10.cell rfl, y10.cell rfl, y10.cell rfl, y10.cell rfl, x12.wr (by simp [trP]), fun w200 hw200 => ?_⟩
  obtain ⟨y12, c200⟩ := x12.up (k := 0) (vs := trP { t with ins := l, outs := s180, last := ofV (exI v ex) v.last, cells := s186 }) (cs' := trP { t with ins := l, outs := s180, last := ofV (exI v ex) v.last, cells := s186 }) (by simp [trP]) rfl hw200
  have cY : Chg (fun k => k = b10 ∨ k = b12) w185 w200 := cX.trans c200 (fun _ _ h => Or.inl h) (fun _ _ h => Or.inr h)
  refine ⟨_, _, _, _, _, _, _, _, _, y12.cell rfl, y12.cell rfl, y12.cell rfl, y12.cell rfl, y12.cell rfl, y12.cell rfl, y12.cell rfl, y12.cell rfl, y12.cell rfl, { t with ins := l, outs := s180, last := ofV (exI v ex) v.last, cells := s186 }, rfl, k185.trans cY (fun _ _ h => h) (fun k hk he => by omega), Or.inr ⟨hR, ?_⟩⟩
  rw [hprn]
  have g180lt := fun j hj => g180.lt (k := j) hj
  have hllt := fun j hj => gl.lt (k := j) hj
  obtain ⟨n1, n2, n3, n4, n5, n6⟩ := ht.nums
  refine ⟨⟨n1, n2, n3, n4, n5, rfl⟩, ((((gl.no c174).no c179).no c185).chg cY (fun j hj he => by have := hlb j hj; omega)), ⟨os2, (g180.no c185).chg cY (fun j hj he => by have := n180 j hj; omega), ((hov2.chg c185 (fun _ _ h => h)).chg cY (fun j hj he => by have := hj.1; omega)).mono (fun j hj => ⟨by have := hj.1; omega, hj.2⟩)⟩, g186.chg cY (fun j hj he => by have := n186 j hj; omega), fun j hj => ?_, fun j hj => ⟨?_, fun he => ?_⟩, fun j hj => ⟨?_, fun he => ?_, fun he => ?_⟩⟩
  · have := hlb j hj; omega
  · have := n180 j hj; omega
  · have := n180 j hj; have := hllt j he; omega
  · have := n186 j hj; omega
  · have := n186 j hj; have := hllt j he; omega
  · have := n186 j hj; have := g180lt j he; omega
end Go.Proofs.Ytblmoilneiffgaa

/- The law's first call (chapter 15), EvalGuards. -/
set_option maxRecDepth 100000
namespace Go.Proofs.Ytblmoilneiffgaa
open Go.RowKit

/-- Literals. -/
theorem litIns {w w' : World} {b : Nat} (xs : List In5) (cs : List Value) (hcs : cs = fl insE xs) (hb : b = w.heap.size) (hw : w' = World.alloc w (.cells cs.toArray T_api_Ins)) (hl : xs.length ≤ 100) : Ow insE w' ⟨some ⟨b, 0, none⟩, xs.length, xs.length⟩ xs ∧ Chg No w w' := by
  rw [hw, hb]
  exact ⟨Ow.lit (E := insE) w xs cs hcs (by unfold maxLen; omega), Chg.alloc _ _ _⟩
theorem litOus {w w' : World} {b : Nat} (xs : List OuC) (cs : List Value) (hcs : cs = fl ouE xs) (hb : b = w.heap.size) (hw : w' = World.alloc w (.cells cs.toArray T_api_Out)) (hl : xs.length ≤ 100) : Ow ouE w' ⟨some ⟨b, 0, none⟩, xs.length, xs.length⟩ xs ∧ Chg No w w' := by
  rw [hw, hb]
  exact ⟨Ow.lit (E := ouE) w xs cs hcs (by unfold maxLen; omega), Chg.alloc _ _ _⟩
def Any : Nat → Prop := fun _ => True
def outsOf (w : World) (os : List OuC) (vs : List OuV) : Prop := OusIs Any w os vs
theorem ous_nil (w : World) : OusIs Any w [] [] := ⟨rfl, fun i o v h => by simp at h⟩
theorem ous_cons {w : World} {o : OuC} {v : OuV} {os : List OuC} {vs : List OuV} (h1 : o.ip = v.ip ∧ o.steps = v.steps) (h2 : Rd intE w o.stack v.stack) (h3 : Rd intE w o.back v.back) (h : OusIs Any w os vs) : OusIs Any w (o :: os) (v :: vs) := by
  refine ⟨by simp [h.1], fun i o' v' ho hv => ?_⟩
  cases i with
  | zero =>
    have ho : o = o' := by simpa using ho
    have hv : v = v' := by simpa using hv
    subst ho hv
    exact ⟨h1.1, h1.2, h2, h3, fun _ _ => trivial, fun _ _ => trivial⟩
  | succ i => exact h.2 i o' v' (by simpa using ho) (by simpa using hv)
/-- A trace's cells and what it says. -/
theorem tris {w : World} {t : TrP} {v : TrG} {os : List OuC} (h1 : t.start = v.start ∧ t.slots = v.slots ∧ t.backs = v.backs ∧ t.grow = v.grow ∧ t.growBack = v.growBack ∧ t.last = v.last) (h2 : Rd insE w t.ins v.ins) (h3 : Rd ouE w t.outs os) (h4 : OusIs Any w os v.outs) (h5 : Rd intE w t.cells v.cells) : TrIs Any w t v :=
  ⟨h1, h2, ⟨os, h3, h4⟩, h5, fun _ _ => trivial, fun _ _ => trivial, fun _ _ => trivial⟩
theorem stis {w : World} {S : StC} {s : StV} (h : StNums S s) (h1 : Rd intE w S.stack s.stack) (h2 : Rd intE w S.back s.back) (h3 : Rd intE w S.mem s.mem) : StIs Any w S s := ⟨h, h1, h2, h3, fun _ _ => trivial, fun _ _ => trivial, fun _ _ => trivial⟩
def alT : TrG := ⟨5, 1, 0, 0, 0, [⟨2, 0, 0, 0, 0⟩, ⟨4, 11, 0, 0, 0⟩], [⟨7, 2, [1], []⟩], 0, []⟩
def alS : StV := { bootV 20 (bs []) with ip := 5, status := 0, stack := [3, 4] }
theorem al_may : mayV alT alS = true := by decide +kernel
theorem al_run : runG alT alS [] = (0, ⟨alS, [4, 8], -1⟩) := by
  have h1 : runG alT alS [] = goV (idA 2) [] 0 [⟨2, 0, 0, 0, 0⟩, ⟨4, 11, 0, 0, 0⟩] 0 (en0 2 alS) := rfl
  rw [h1, goV_val (s := alS) (v := 4) rfl, goV_val (s := alS) (v := Cn.two 11 4 4) rfl]
  have h2 : Cn.two 11 4 4 = 8 := by decide +kernel
  rw [h2]; rfl
theorem alive15_any (w : World) : Calls Try.prog fn_hollowaylaw15_alive #[] w fun e w' => e = .returned (.bool true) ∧ Chg No w w' := by
  refine (hollowaylaw15_alive_lift (K := fun v w' => v = .bool true ∧ Chg No w w') ?_).mono (by rintro e w' ⟨v, rfl, rfl, h⟩; exact ⟨rfl, h⟩)
  unfold hollowaylaw15_alive_sh
  intro b1 w2 hb1 hw2 b3 w4 hb3 hw4 b5 w6 hb5 hw6 b7 w8 hb7 hw8
  obtain ⟨g2, c2⟩ := litIns alT.ins _ rfl hb1 hw2 (by decide)
  obtain ⟨g4, c4⟩ := lit1 1 hb3 hw4
  obtain ⟨g6, c6⟩ := litOus [⟨7, 2, ⟨some ⟨b3, 0, none⟩, 1, 1⟩, nilS⟩] _ rfl hb5 hw6 (by simp)
  have hn := fun (w2 : World) => newOb (w2 := w2) (T := T_api_Trace) (trP ⟨0, 0, 0, 0, 0, nilS, nilS, 0, nilS⟩) (trP ⟨5, 1, 0, 0, 0, ⟨some ⟨b1, 0, none⟩, 2, 2⟩, ⟨some ⟨b5, 0, none⟩, 1, 1⟩, 0, nilS⟩) rfl hb7 hw8
  refine ⟨(hn w8).1, fun w9 hw9 => ?_⟩
  obtain ⟨o9, c9⟩ := (hn w9).2 hw9
  have k9 : Chg No w w9 := trN (trN (trN c2 c4) c6) c9
  have ht9 : TrIs Any w9 ⟨5, 1, 0, 0, 0, ⟨some ⟨b1, 0, none⟩, 2, 2⟩, ⟨some ⟨b5, 0, none⟩, 1, 1⟩, 0, nilS⟩ alT :=
    tris ⟨rfl, rfl, rfl, rfl, rfl, rfl⟩ (((g2.no c4).no c6).no c9).rd (g6.no c9).rd (ous_cons ⟨rfl, rfl⟩ ((g4.no c6).no c9).rd (Rd.nil _ _) (ous_nil _)) (Rd.nil _ _)
  refine (r9boot_any 20 (bs []) (M := 20) (by decide) w9).mono ?_
  rintro e w11 ⟨S, rfl, hS, c11⟩
  refine ⟨_, _, _, _, _, _, _, _, _, _, rfl, ?_⟩
  intro b22 w23 hb22 hw23
  have hn := fun (w2 : World) => newOb (w2 := w2) (T := T_api_State) (stC st0) (stC S) rfl hb22 hw23
  refine ⟨(hn w23).1, fun w24 hw24 => ?_⟩
  obtain ⟨o24, c24⟩ := (hn w24).2 hw24
  intro b25 w26 hb25 hw26
  obtain ⟨g26, c26⟩ := lit2 3 4 hb25 hw26
  have o26 := o24.no c26
  refine ⟨o26.wr (by simp [stC]), fun w27 hw27 => ?_⟩
  obtain ⟨o27, c27⟩ := o26.up (k := 0) (vs := [.int .i64 5]) (cs' := stC { S with ip := 5 }) (by simp [stC]) rfl hw27
  refine ⟨o27.wr (by simp [stC]), fun w28 hw28 => ?_⟩
  obtain ⟨o28, c28⟩ := o27.up (k := 8) (vs := [.int .i64 0]) (cs' := stC { S with ip := 5, status := 0 }) (by simp [stC]) rfl hw28
  refine ⟨o28.wr (by simp [stC]), fun w29 hw29 => ?_⟩
  obtain ⟨o29, c29⟩ := o28.up (k := 2) (vs := [(⟨some ⟨b25, 0, none⟩, 2, 2⟩ : Sl).val]) (cs' := stC { S with ip := 5, status := 0, stack := ⟨some ⟨b25, 0, none⟩, 2, 2⟩ }) (by simp [stC]) rfl hw29
  have z9 := k9.size
  have z11 := c11.size
  have z24 := c24.size
  have z26 := c26.size
  have cX : Chg (fun k => k = b22) w26 w29 := (c27.trans c28 (fun _ _ h => h) (fun _ _ h => h)).trans c29 (fun _ _ h => h) (fun _ _ h => h)
  have z29 := cX.size
  have hb22lt := o24.lt
  have z23 : b22 = w11.heap.size := hb22
  have k29 : Chg No w w29 := (trN (trN (trN k9 c11) c24) c26).trans cX (fun _ _ h => h) (fun k hk he => by omega)
  have o9' : Ob w29 b7 _ T_api_Trace := (((o9.no c11).no c24).no c26).chg cX (fun he => by have := o9.lt; omega)
  have ht29 : TrIs Any w29 _ alT := ht9.no ((trN (trN c11 c24) c26).trans cX (fun _ _ h => h) (fun k hk he => by omega))
  obtain ⟨m1, m2, m3, m4, m5, m6, m7⟩ := hS.nums
  have hst : StIs Any w29 { S with ip := 5, status := 0, stack := ⟨some ⟨b25, 0, none⟩, 2, 2⟩ } alS := by
    have hme : Rd intE w29 S.mem (bootM 20) := ((hS.me.no c24).no c26).rd.chg cX (fun k hk he => by have := hS.me.lt hk; omega)
    have hbk : Rd intE w29 S.back [] := ((hS.bk.no c24).no c26).rd.chg cX (fun k hk he => by have := hS.bk.lt hk; omega)
    exact stis ⟨rfl, m2, m3, m4, m5, rfl, m7⟩ (g26.rd.chg cX (fun k hk he => by have : b25 = k := Option.some.inj hk; omega)) hbk hme
  refine ⟨_, _, _, _, _, _, _, _, _, o9'.cell rfl, o9'.cell rfl, o9'.cell rfl, o9'.cell rfl, o9'.cell rfl, o9'.cell rfl, o9'.cell rfl, o9'.cell rfl, o9'.cell rfl, ?_⟩
  refine ⟨_, _, _, _, _, _, _, _, _, _, o29.cell rfl, o29.cell rfl, o29.cell rfl, o29.cell rfl, o29.cell rfl, o29.cell rfl, o29.cell rfl, o29.cell rfl, o29.cell rfl, o29.cell rfl, ?_⟩
  have hR : RightV alT := rightB_ok (by decide +kernel)
  refine (erun_any ⟨5, 1, 0, 0, 0, ⟨some ⟨b1, 0, none⟩, 2, 2⟩, ⟨some ⟨b5, 0, none⟩, 1, 1⟩, 0, nilS⟩ { S with ip := 5, status := 0, stack := ⟨some ⟨b25, 0, none⟩, 2, 2⟩ } ht29 hR hst (waS := nilS) (wl := []) (Rd.nil _ _) (by decide) (by decide) (by decide) ⟨by decide, by decide, by decide⟩).mono ?_
  rintro e w50 ⟨S', rfl, hS', c50⟩
  have e1 : outX alT alS [] = 0 := by unfold outX; rw [if_pos al_may, al_run]
  have e2 : outN alT alS [] = 2 := by unfold outN; rw [if_pos al_may, al_run]; rfl
  have e3 : outH alT alS [] = false := by unfold outH; rw [if_pos al_may, al_run]; rfl
  have e4 : outS alT alS [] = { alS with ip := 7, stack := [3, 8] } := by unfold outS; rw [if_pos al_may, al_run]; rfl
  rw [e4] at hS'
  refine ⟨_, _, _, _, _, _, _, _, _, _, _, _, _, rfl, ?_⟩
  rw [e1, e2, e3]
  intro b64 w65 hb64 hw65 b66 w67 hb66 hw67
  have c65 := al hw65
  have c67 := al hw67
  have z65 : w65.heap.size = w50.heap.size + 1 := by rw [hw65]; simp
  have z67 : w67.heap.size = w65.heap.size + 1 := by rw [hw67]; simp
  have o64 : Ob w67 b64 (stC st0) T_api_State := by
    have : Ob w65 b64 (stC st0) T_api_State := by rw [hw65, hb64]; exact Ob.new w50 (stC st0) T_api_State
    exact this.no c67
  have o66 : Ob w67 b66 [.int .i64 0, .int .i64 0, .bool false] T_eval_Done := by rw [hw67, hb66]; exact Ob.new w65 [.int .i64 0, .int .i64 0, .bool false] T_eval_Done
  refine ⟨o64.wr (by simp [stC]), fun w68 hw68 => ?_⟩
  obtain ⟨p64, c68⟩ := o64.up (k := 0) (vs := stC S') (cs' := stC S') (by simp [stC]) rfl hw68
  have p66 := o66.chg c68 (fun he => by omega)
  refine ⟨p66.wr (by simp), fun w69 hw69 => ?_⟩
  obtain ⟨q66, c69⟩ := p66.up (k := 0) (vs := [.int .i64 0, .int .i64 2, .bool false]) (cs' := [.int .i64 0, .int .i64 2, .bool false]) (by simp) rfl hw69
  have q64 := p64.chg c69 (fun he => by omega)
  have cY : Chg (fun k => k = b64 ∨ k = b66) w50 w69 := ((trN c65 c67).trans c68 (U := fun k => k = b64 ∨ k = b66) (fun _ _ h => h.elim) (fun _ _ h => Or.inl h)).trans c69 (fun _ _ h => h) (fun _ _ h => Or.inr h)
  have k69 : Chg No w w69 := (trN k29 c50).trans cY (fun _ _ h => h) (fun k hk he => by have := k29.size; have := c50.size; omega)
  refine ⟨_, _, _, q66.cell rfl, q66.cell rfl, q66.cell rfl, _, _, done_eql _ _ _ _ _ _ _ _ _, ?_⟩
  rw [show decide ((0 : Int) = 0 ∧ (2 : Int) = 2 ∧ false = false) = true by decide]
  have hst' : Rd intE w69 S'.stack [3, 8] := hS'.st.rd.chg cY (fun k hk he => by have := hS'.st.lt hk; omega)
  have hsl : S'.stack.len = 2 := hst'.len
  have hip : S'.ip = 7 := hS'.nums.1
  refine brB_t ⟨S'.ip, q64.cell rfl, ?_⟩
  rw [hip]
  refine brB_t ⟨S'.stack, q64.cell rfl, ?_⟩
  rw [show ((S'.stack.len : Int) == 2) = true by rw [hsl]; rfl]
  refine brB_t ⟨S'.stack, q64.cell rfl, hst'.ix (i := 1) (x := 8) (by omega) rfl fun a _ hcell => ?_⟩
  have q1 := hcell 0 _ rfl
  rw [add0] at q1
  refine ⟨8, q1, brB_t ?_⟩
  have o9'' : Ob w69 b7 _ T_api_Trace := (o9'.no c50).chg cY (fun he => by have := o9'.lt; have := c50.size; omega)
  have o29' := (o29.no c50).chg cY (fun he => by have := o29.lt; have := c50.size; omega)
  have kk : Chg No w29 w69 := c50.trans cY (fun _ _ h => h) (fun k hk he => by have := c50.size; omega)
  refine ⟨_, _, _, _, _, _, _, _, _, o9''.cell rfl, o9''.cell rfl, o9''.cell rfl, o9''.cell rfl, o9''.cell rfl, o9''.cell rfl, o9''.cell rfl, o9''.cell rfl, o9''.cell rfl, ?_⟩
  refine ⟨_, _, _, _, _, _, _, _, _, _, o29'.cell rfl, o29'.cell rfl, o29'.cell rfl, o29'.cell rfl, o29'.cell rfl, o29'.cell rfl, o29'.cell rfl, o29'.cell rfl, o29'.cell rfl, o29'.cell rfl, ?_⟩
  refine (emay_any ⟨5, 1, 0, 0, 0, ⟨some ⟨b1, 0, none⟩, 2, 2⟩, ⟨some ⟨b5, 0, none⟩, 1, 1⟩, 0, nilS⟩ { S with ip := 5, status := 0, stack := ⟨some ⟨b25, 0, none⟩, 2, 2⟩ } (ht29.no kk) (hst.no kk) (by decide) (by decide) (by decide) (by decide)).mono ?_
  rintro e w100 ⟨rfl, c100⟩
  rw [al_may]
  exact ⟨_, rfl, rfl, trN k69 c100⟩
end Go.Proofs.Ytblmoilneiffgaa

/- prune.Left; the law's first call (chapter 19). -/
set_option maxRecDepth 100000
namespace Go.Proofs.Ytblmoilneiffgaa
open Go.RowKit

/-- What all of the first k instructions name. -/
def allK (v : TrG) (k : Nat) : Ned := (v.ins.take k).foldl (allN v) (beginN v)
def cntI (v : TrG) (n : Ned) (k : Nat) : Nat := ((List.range k).filter fun (j : Nat) => pureV (atL v.ins j) && !bA n.ins j).length
def cntX (n : Ned) (k : Nat) : Nat := ((List.range k).filter fun j => !bA n.exs j).length
/-- How much nobody names, of a trace that may be. -/
def leftP (v : TrG) : Int := (cntI v (allK v v.ins.length) v.ins.length + cntX (allK v v.ins.length) v.outs.length : Nat)
theorem cnt_snoc (p : Nat → Bool) (k : Nat) : ((List.range (k + 1)).filter p).length = ((List.range k).filter p).length + if p k = true then 1 else 0 := by
  rw [List.range_succ, List.filter_append, List.length_append]
  congr 1
  by_cases h : p k = true
  · rw [if_pos h, List.filter_cons, if_pos h]; rfl
  · rw [if_neg h, List.filter_cons, if_neg h]; rfl
theorem cnt_le (p : Nat → Bool) (k : Nat) : ((List.range k).filter p).length ≤ k := by
  have := List.length_filter_le p (List.range k); rw [List.length_range] at this; exact this
/-- Named by the end alone, and by the first k instructions: as long as the trace. -/
theorem allK_len {v : TrG} (hr : RightV v) : ∀ k, k ≤ v.ins.length → (allK v k).ins.length = v.ins.length ∧ (allK v k).exs.length = v.outs.length
  | 0, _ => ⟨(begin_ok hr).li, (begin_ok hr).lx⟩
  | k + 1, hk => by
    obtain ⟨h1, h2⟩ := allK_len hr k (by omega)
    obtain ⟨i, hi⟩ : ∃ i, v.ins[k]? = some i := ⟨_, List.getElem?_eq_getElem (by omega)⟩
    have e : allK v (k + 1) = allN v (allK v k) i := by unfold allK; rw [List.take_add_one, hi]; rw [List.foldl_append]; rfl
    obtain ⟨u, _, _⟩ := up_all (n := allK v k) h1 h2 (hr.each k i hi) (by omega)
    rw [e]
    exact ⟨u.li.trans h1, u.lx.trans h2⟩
theorem pleft_any {D : Nat → Prop} {w : World} (t : TrP) {v : TrG} (ht : TrIs D w t v) : Calls Try.prog fn_prune_Left #[.agg (trP t).toArray] w fun e w' => ∃ n : Int, e = .returned (.int .i64 n) ∧ (RightV v → n = leftP v) ∧ (¬ RightV v → n = 0) ∧ Chg No w w' := by
  refine (prune_Left_lift (K := fun r w' => ∃ n : Int, r = .int .i64 n ∧ (RightV v → n = leftP v) ∧ (¬ RightV v → n = 0) ∧ Chg No w w') ?_).mono (by rintro e w' ⟨r, rfl, n, rfl, h⟩; exact ⟨n, rfl, h⟩)
  unfold prune_Left_sh
  intro b10 w11 hb10 hw11
  have c11 := al hw11
  have o10 : Ob w11 b10 (trP t) T_api_Trace := by rw [hw11, hb10]; exact Ob.new w (trP t) T_api_Trace
  refine ⟨_, _, _, _, _, _, _, _, _, o10.cell rfl, o10.cell rfl, o10.cell rfl, o10.cell rfl, o10.cell rfl, o10.cell rfl, o10.cell rfl, o10.cell rfl, o10.cell rfl, (iright_any t (ht.no c11)).mono ?_⟩
  rintro e w22 ⟨b, rfl, hb, c22⟩
  have k22 := trN c11 c22
  have p10 := o10.no c22
  refine ⟨b, rfl, brB_of (fun hno => ?_) (fun hyes => ?_)⟩
  · have hR : ¬ RightV v := fun h => by rw [hb.2 h] at hno; cases hno
    exact ⟨0, rfl, fun h => absurd h hR, fun _ => rfl, k22⟩
  have hR := hb.1 (by simpa using hyes)
  obtain ⟨q1, q2, q3⟩ := hR.head
  have hil := ht.ins.len
  refine ⟨_, _, _, _, _, _, _, _, _, p10.cell rfl, p10.cell rfl, p10.cell rfl, p10.cell rfl, p10.cell rfl, p10.cell rfl, p10.cell rfl, p10.cell rfl, p10.cell rfl, (nbegin_any t (ht.no k22) hR).mono ?_⟩
  rintro e w34 ⟨p, iS, eS, rfl, h34, hp⟩
  have r10 := p10.no h34.base
  have p34 := h34.ob.lt
  have nbk : ∀ k, NdB iS eS k → k < w34.heap.size := fun k hk => (h34.nb hk).2.2
  refine ⟨_, rfl, t.ins, r10.cell rfl, ?_⟩
  refine ⟨fun m w' => ∃ k : Nat, m = k ∧ k ≤ v.ins.length ∧ NdAt w22 w' p t iS eS (allK v k), fun m _ => v.ins.length - m.toNat, ⟨0, rfl, Nat.zero_le _, h34⟩, ?_⟩
  rintro m w37 ⟨k, rfl, hk, h37⟩
  have k37 := trN k22 h37.base
  obtain ⟨hk1, hk2⟩ := allK_len hR k hk
  refine brB_of (fun hlt => ?_) (fun hlt => ?_)
  · have hlt : k < v.ins.length := by simp at hlt; omega
    obtain ⟨i, hi⟩ : ∃ i, v.ins[k]? = some i := ⟨_, List.getElem?_eq_getElem hlt⟩
    refine (ht.ins.no k37).ix (i := (k : Int)) (by omega) (by rw [Int.toNat_natCast]; exact hi) fun a39 _ hc => ?_
    have g0 := hc 0 _ rfl
    rw [add0] at g0
    refine ⟨_, _, _, _, _, g0, hc 1 _ rfl, hc 2 _ rfl, hc 3 _ rfl, hc 4 _ rfl, ?_⟩
    intro b45 w46 hb45 hw46
    have hn := fun (w2 : World) => newOb (w2 := w2) (T := T_api_Ins) (insC ⟨0, 0, 0, 0, 0⟩) (insC i) rfl hb45 hw46
    refine ⟨(hn w46).1, fun w47 hw47 => ?_⟩
    obtain ⟨o47, c47⟩ := (hn w47).2 hw47
    refine ⟨_, _, _, _, _, o47.cell rfl, o47.cell rfl, o47.cell rfl, o47.cell rfl, o47.cell rfl, (nall_any (h37.no c47) (ht.no k22) hR hk1 hk2 (k := k) (by omega) (hR.each k i hi)).mono ?_⟩
    rintro e w54 ⟨rfl, h54, _⟩
    refine ⟨rfl, ?_⟩
    rw [wr_in (by omega)]
    refine ⟨⟨k + 1, by omega, by omega, ?_⟩, by show v.ins.length - Int.toNat ((k : Int) + 1) < v.ins.length - Int.toNat (k : Int); omega⟩
    have e : allK v (k + 1) = allN v (allK v k) i := by unfold allK; rw [List.take_add_one, hi]; rw [List.foldl_append]; rfl
    rw [e]; exact h54
  have hlt : k = v.ins.length := by simp at hlt; omega
  subst hlt
  refine ⟨t.ins, (p10.no h37.base).cell rfl, ?_⟩
  refine ⟨fun c m w' => ∃ k : Nat, m = k ∧ k ≤ v.ins.length ∧ c = (cntI v (allK v v.ins.length) k : Nat) ∧ NdAt w22 w' p t iS eS (allK v v.ins.length), fun _ m _ => v.ins.length - m.toNat, ⟨0, rfl, Nat.zero_le _, rfl, h37⟩, ?_⟩
  rintro c m w56 ⟨k, rfl, hk, rfl, h56⟩
  have k56 := trN k22 h56.base
  have hci := cnt_le (fun (j : Nat) => pureV (atL v.ins j) && !bA (allK v v.ins.length).ins j) k
  have hci : cntI v (allK v v.ins.length) k ≤ k := hci
  refine brB_of (fun hlt => ?_) (fun hlt => ?_)
  · have hlt : k < v.ins.length := by simp at hlt; omega
    obtain ⟨i, hi⟩ : ∃ i, v.ins[k]? = some i := ⟨_, List.getElem?_eq_getElem hlt⟩
    have hat : atL v.ins k = i := atL_get hi
    have hsn : cntI v (allK v v.ins.length) (k + 1) = cntI v (allK v v.ins.length) k + if (pureV i && !bA (allK v v.ins.length).ins k) = true then 1 else 0 := by
      unfold cntI; rw [cnt_snoc, hat]
    refine ⟨fun c w' => c = (cntI v (allK v v.ins.length) (k + 1) : Nat) ∧ NdAt w22 w' p t iS eS (allK v v.ins.length), ?_, ?_⟩
    · rintro c w82 ⟨rfl, h82⟩
      rw [wr_in (by omega)]
      exact ⟨⟨k + 1, by omega, by omega, rfl, h82⟩, by show v.ins.length - Int.toNat ((k : Int) + 1) < v.ins.length - Int.toNat (k : Int); omega⟩
    · refine (ht.ins.no k56).ix (i := (k : Int)) (by omega) (by rw [Int.toNat_natCast]; exact hi) fun a58 _ hc => ?_
      have g0 := hc 0 _ rfl
      rw [add0] at g0
      refine ⟨_, _, _, _, _, g0, hc 1 _ rfl, hc 2 _ rfl, hc 3 _ rfl, hc 4 _ rfl, ?_⟩
      intro b64 w65 hb64 hw65
      have hn := fun (w2 : World) => newOb (w2 := w2) (T := T_api_Ins) (insC ⟨0, 0, 0, 0, 0⟩) (insC i) rfl hb64 hw65
      refine ⟨(hn w65).1, fun w66 hw66 => ?_⟩
      obtain ⟨o66, c66⟩ := (hn w66).2 hw66
      refine ⟨fun b w' => b = (pureV i && !bA (allK v v.ins.length).ins k) ∧ NdAt w22 w' p t iS eS (allK v v.ins.length), ?_, ?_⟩
      · rintro b w79 ⟨rfl, h79⟩
        refine brB_of (fun hb => ⟨?_, h79⟩) (fun hb => ⟨?_, h79⟩)
        · rw [hsn, if_pos hb, wr_in (by omega)]; omega
        · rw [hsn, if_neg (by rw [hb]; decide)]; rfl
      · refine ⟨_, _, _, _, _, o66.cell rfl, o66.cell rfl, o66.cell rfl, o66.cell rfl, o66.cell rfl, (npure_any i w66).mono ?_⟩
        rintro e w73 ⟨rfl, c73⟩
        have h73 := (h56.no c66).no c73
        refine ⟨_, rfl, brB_of (fun hp1 => ?_) (fun hp1 => ⟨by rw [hp1]; rfl, h73⟩)⟩
        refine nn_ok ⟨iS, ?_, ?_⟩
        · rw [add_mk]; exact h73.ob.cell rfl
        refine h73.ins.rd.ix (i := (k : Int)) (by omega) (x := bA (allK v v.ins.length).ins k) (by rw [Int.toNat_natCast]; exact bA_get (by rw [hk1]; exact hlt)) fun a77 _ hcell => ?_
        have q77 := hcell 0 _ rfl
        rw [add0] at q77
        exact ⟨_, q77, by rw [hp1]; rfl, h73⟩
  have hlt : k = v.ins.length := by simp at hlt; omega
  subst hlt
  have hxl := h56.exs.rd.len
  refine nn_ok ⟨eS, ?_, ?_⟩
  · rw [add_mk]; exact h56.ob.cell rfl
  refine ⟨fun c m w' => ∃ k : Nat, m = k ∧ k ≤ v.outs.length ∧ c = (cntI v (allK v v.ins.length) v.ins.length + cntX (allK v v.ins.length) k : Nat) ∧ w' = w56, fun _ m _ => v.outs.length - m.toNat, ⟨0, rfl, Nat.zero_le _, rfl, rfl⟩, ?_⟩
  rintro c m w85 ⟨k, rfl, hk, rfl, rfl⟩
  have hcx := cnt_le (fun j => !bA (allK v v.ins.length).exs j) k
  have hcx : cntX (allK v v.ins.length) k ≤ k := hcx
  refine brB_of (fun hlt => ?_) (fun hlt => ?_)
  · have hlt : k < v.outs.length := by simp at hlt; omega
    have hsn : cntX (allK v v.ins.length) (k + 1) = cntX (allK v v.ins.length) k + if (!bA (allK v v.ins.length).exs k) = true then 1 else 0 := by
      unfold cntX; rw [cnt_snoc]
    refine ⟨fun c w' => c = (cntI v (allK v v.ins.length) v.ins.length + cntX (allK v v.ins.length) (k + 1) : Nat) ∧ w' = w85, ?_, ?_⟩
    · rintro c w90 ⟨rfl, rfl⟩
      rw [wr_in (by omega)]
      exact ⟨⟨k + 1, by omega, by omega, rfl, rfl⟩, by show v.outs.length - Int.toNat ((k : Int) + 1) < v.outs.length - Int.toNat (k : Int); omega⟩
    · refine h56.exs.rd.ix (i := (k : Int)) (by omega) (x := bA (allK v v.ins.length).exs k) (by rw [Int.toNat_natCast]; exact bA_get (by rw [hk2]; exact hlt)) fun a87 _ hcell => ?_
      have q87 := hcell 0 _ rfl
      rw [add0] at q87
      refine ⟨_, q87, brB_of (fun hb => ⟨?_, rfl⟩) (fun hb => ⟨?_, rfl⟩)⟩
      · rw [hsn, if_pos hb, wr_in (by omega)]; omega
      · rw [hsn, if_neg (by rw [hb]; decide)]; rfl
  have hlt : k = v.outs.length := by simp at hlt; omega
  subst hlt
  exact ⟨_, rfl, fun _ => rfl, fun h => absurd hR h, k56⟩
def al19 : TrG := ⟨5, 0, 0, 0, 0, [⟨1, 2, 0, 0, 0⟩], [⟨5, 1, [], []⟩], 0, []⟩
theorem alive19_any (w : World) : Calls Try.prog fn_hollowaylaw19_alive #[] w fun e w' => e = .returned (.bool true) ∧ Chg No w w' := by
  refine (hollowaylaw19_alive_lift (K := fun v w' => v = .bool true ∧ Chg No w w') ?_).mono (by rintro e w' ⟨v, rfl, rfl, h⟩; exact ⟨rfl, h⟩)
  unfold hollowaylaw19_alive_sh
  intro b1 w2 hb1 hw2 b3 w4 hb3 hw4 b5 w6 hb5 hw6
  obtain ⟨g2, c2⟩ := litIns al19.ins _ rfl hb1 hw2 (by decide)
  obtain ⟨g4, c4⟩ := litOus [⟨5, 1, nilS, nilS⟩] _ rfl hb3 hw4 (by simp)
  have hn := fun (w2 : World) => newOb (w2 := w2) (T := T_api_Trace) (trP ⟨0, 0, 0, 0, 0, nilS, nilS, 0, nilS⟩) (trP ⟨5, 0, 0, 0, 0, ⟨some ⟨b1, 0, none⟩, 1, 1⟩, ⟨some ⟨b3, 0, none⟩, 1, 1⟩, 0, nilS⟩) rfl hb5 hw6
  refine ⟨(hn w6).1, fun w7 hw7 => ?_⟩
  obtain ⟨o7, c7⟩ := (hn w7).2 hw7
  have k7 : Chg No w w7 := trN (trN c2 c4) c7
  have ht7 : TrIs Any w7 ⟨5, 0, 0, 0, 0, ⟨some ⟨b1, 0, none⟩, 1, 1⟩, ⟨some ⟨b3, 0, none⟩, 1, 1⟩, 0, nilS⟩ al19 :=
    tris ⟨rfl, rfl, rfl, rfl, rfl, rfl⟩ ((g2.no c4).no c7).rd (g4.no c7).rd (ous_cons ⟨rfl, rfl⟩ (Rd.nil _ _) (Rd.nil _ _) (ous_nil _)) (Rd.nil _ _)
  have hR : RightV al19 := rightB_ok (by decide +kernel)
  refine ⟨_, _, _, _, _, _, _, _, _, o7.cell rfl, o7.cell rfl, o7.cell rfl, o7.cell rfl, o7.cell rfl, o7.cell rfl, o7.cell rfl, o7.cell rfl, o7.cell rfl, (pdo_any _ ht7).mono ?_⟩
  rintro e w18 ⟨r, rfl, t', rfl, c18, h18⟩
  have h18 : TrOw (fun k => w7.heap.size ≤ k) w18 t' (prnT al19) := by
    rcases h18 with ⟨hno, _⟩ | ⟨_, h⟩
    · exact absurd hR hno
    · exact h
  refine ⟨_, _, _, _, _, _, _, _, _, rfl, ?_⟩
  intro b28 w29 hb28 hw29
  have hn := fun (w2 : World) => newOb (w2 := w2) (T := T_api_Trace) (trP ⟨0, 0, 0, 0, 0, nilS, nilS, 0, nilS⟩) (trP t') rfl hb28 hw29
  refine ⟨(hn w29).1, fun w30 hw30 => ?_⟩
  obtain ⟨o30, c30⟩ := (hn w30).2 hw30
  refine (rtwo_any 11 1 1 (by omega) w30).mono ?_
  rintro e w32 ⟨rfl, rfl⟩
  have e0 : Cn.rtwo 11 1 1 = 2 := by decide +kernel
  refine ⟨_, _, rfl, ?_⟩
  rw [e0]
  have k30 := trN (trN k7 c18) c30
  have o7' := (o7.no c18).no c30
  refine ⟨_, _, _, _, _, _, _, _, _, o7'.cell rfl, o7'.cell rfl, o7'.cell rfl, o7'.cell rfl, o7'.cell rfl, o7'.cell rfl, o7'.cell rfl, o7'.cell rfl, o7'.cell rfl, (pleft_any _ ((ht7.no c18).no c30)).mono ?_⟩
  rintro e w45 ⟨n, rfl, hn1, _, c45⟩
  have e1 : leftP al19 = 1 := by decide +kernel
  rw [hn1 hR, e1]
  have o45 := o30.no c45
  have ha := ((h18.is).no c30).no c45
  refine ⟨_, rfl, brB_t ⟨_, _, _, _, _, _, _, _, _, o45.cell rfl, o45.cell rfl, o45.cell rfl, o45.cell rfl, o45.cell rfl, o45.cell rfl, o45.cell rfl, o45.cell rfl, o45.cell rfl, (pleft_any _ ha).mono ?_⟩⟩
  rintro e w57 ⟨n, rfl, hn2, _, c57⟩
  have hR' : RightV (prnT al19) := prn_right hR (prnOk hR)
  have e2 : leftP (prnT al19) = 0 := by decide +kernel
  rw [hn2 hR', e2]
  have o57 := o45.no c57
  refine ⟨_, rfl, brB_t ⟨_, _, _, _, _, _, _, _, _, o57.cell rfl, o57.cell rfl, o57.cell rfl, o57.cell rfl, o57.cell rfl, o57.cell rfl, o57.cell rfl, o57.cell rfl, o57.cell rfl, (rright_any _ (ha.no c57)).mono ?_⟩⟩
  rintro e w69 ⟨b, rfl, hb, c69⟩
  rw [hb.2 hR']
  have o69 := o57.no c69
  refine ⟨_, rfl, brB_t ⟨t'.ins, o69.cell rfl, ?_⟩⟩
  have hl := h18.ins.rd.len
  have e3 : (prnT al19).ins.length = 0 := by decide +kernel
  rw [hl, e3]
  exact brB_t ⟨rfl, trN (trN (trN k30 c45) c57) c69⟩
end Go.Proofs.Ytblmoilneiffgaa

/- PruneAll: the walk. -/
set_option maxRecDepth 100000
namespace Go.Proofs.Ytblmoilneiffgaa
open Go.RowKit

theorem pruneAll_walk (l o : Sl) (ls os : List Int) (w : World) (hl : Rd intE w l ls) (ho : Rd intE w o os) : Calls Try.prog fn_hollowaylaw19_PruneAll #[l.val, o.val] w fun e w' => e = .returned (.bool true) ∧ Chg No w w' := by
  refine (hollowaylaw19_PruneAll_lift (K := fun v w' => v = .bool true ∧ Chg No w w') ?_).mono (by rintro e w' ⟨v, rfl, rfl, h⟩; exact ⟨rfl, h⟩)
  unfold hollowaylaw19_PruneAll_sh
  have hll := hl.len
  have hol := ho.len
  refine ⟨fun b w' => (b = false → ls.length ≤ 20 ∧ os.length ≤ 40) ∧ Chg No w w', ?_, ?_⟩
  rotate_left
  · refine brB_of (fun _ => ⟨(fun h => by cases h), Chg.refl _ _⟩) (fun h1 => brB_of (fun _ => ⟨(fun h => by cases h), Chg.refl _ _⟩) (fun h2 => ?_))
    have h1 := of_decide_eq_false h1
    have h2 := of_decide_eq_false h2
    refine (alive19_any _).mono ?_
    rintro e w4 ⟨rfl, c4⟩
    exact ⟨_, rfl, fun _ => ⟨by omega, by omega⟩, c4⟩
  rintro b w6 ⟨hb, c6⟩
  refine brB_of (fun _ => ?_) (fun hf => ?_)
  · refine (alive19_any _).mono ?_
    rintro e w9 ⟨rfl, c9⟩
    exact ⟨_, rfl, rfl, trN c6 c9⟩
  obtain ⟨g1, g2⟩ := hb hf
  intro b11 w12 hb11 hw12 b13 w14 hb13 hw14
  obtain ⟨g12, c12⟩ := litOus [⟨5, 1, nilS, nilS⟩, ⟨6, 0, nilS, nilS⟩] _ rfl hb11 hw12 (by simp)
  have hn := fun (w2 : World) => newOb (w2 := w2) (T := T_api_Trace) (trP ⟨0, 0, 0, 0, 0, nilS, nilS, 0, nilS⟩) (trP ⟨5, 3, 2, 0, 0, nilS, ⟨some ⟨b11, 0, none⟩, 2, 2⟩, 0, nilS⟩) rfl hb13 hw14
  refine ⟨(hn w14).1, fun w15 hw15 => ?_⟩
  obtain ⟨o15, c15⟩ := (hn w15).2 hw15
  have k15 : Chg No w w15 := trN (trN c6 c12) c15
  have g15 := g12.no c15
  have z12 : w12.heap.size = w6.heap.size + 1 := by rw [hw12]; simp
  have z15 := c15.size
  have z6 := c6.size
  have hb13lt := o15.lt
  have hb11lt : b11 < b13 := by omega
  -- what stands ahead of a round: the trace's instructions so far
  refine ⟨fun n w' => ∃ (k : Nat) (sI : Sl) (is : List In5), n = k ∧ k ≤ ls.length ∧ Ob w' b13 (trP ⟨5, 3, 2, 0, 0, sI, ⟨some ⟨b11, 0, none⟩, 2, 2⟩, 0, nilS⟩) T_api_Trace ∧ Ow insE w' sI is ∧ PaL is ∧ is.length = k ∧ (∀ j, sI.blk = some j → w15.heap.size ≤ j) ∧ Chg (fun k => k = b13) w15 w', fun n _ => ls.length - n.toNat, ⟨0, nilS, [], rfl, Nat.zero_le _, o15, Ow.nil _ _, (fun k i h => by simp at h), rfl, (fun j hj => by cases hj), Chg.refl _ _⟩, ?_⟩
  rintro n w16 ⟨k, sI, is, rfl, hk, o16, hI, hC, hlen, hbI, c16⟩
  have k16 : Chg No w w16 := k15.trans c16 (fun _ _ h => h) (fun k hk he => by omega)
  have z16 := c16.size
  refine brB_of (fun hlt => ?_) (fun hlt => ?_)
  · have hlt : k < ls.length := by simp at hlt; omega
    obtain ⟨x, hx⟩ : ∃ x, ls[k]? = some x := ⟨_, List.getElem?_eq_getElem hlt⟩
    intro w18 hw18
    have c18 := dw hw18
    have p18 := o16.no c18
    have k18 := trN k16 c18
    have ix : ∀ {G : Addr → Prop}, (∀ a, held (fun w' => Chg No w18 w') (Addr.add a (Int.toNat (k : Int) * 1)) (.int .i64 x) → G a) → ∃ a : Addr, l.ptr = some a ∧ 0 ≤ (k : Int) ∧ (k : Int) < (l.len : Int) ∧ G a := fun kk =>
      (hl.no k18).ix (i := (k : Int)) (by omega) (by rw [Int.toNat_natCast]; exact hx) fun a ha _ => kk a fun w' c => by
        obtain ⟨a2, ha2, hc2⟩ := ((hl.no k18).no c).at hx
        rw [ha] at ha2; cases ha2
        have q := hc2 0 _ rfl
        rw [add0] at q; rw [Int.toNat_natCast]; exact q
    refine ⟨fun w' => Chg No w18 w', Chg.refl _ _, sI, Ob.held (fun w' c => p18.no c) rfl, ix fun a q => ⟨x, q, ix fun a q => ⟨x, q, by decide, by decide, ?_⟩⟩⟩
    refine ⟨fun _ _ => True, fun a b c d e _ => a = 1 ∧ b = x ∧ c = 0 ∧ d = 0 ∧ e = 0, fun _ _ _ _ _ _ _ _ h => h, fun w28 c28 => ⟨c28, trivial, rfl, rfl, rfl, rfl, rfl⟩, fun a b c d e _ => a = 2 ∧ b = 2 ∧ c = 0 ∧ d = 0 ∧ e = 0, fun _ _ _ _ _ _ _ _ h => h, fun w31 c31 => ⟨c31, trivial, rfl, rfl, rfl, rfl, rfl⟩, fun a b c d e _ => a = 3 ∧ b = 1 ∧ c = 0 ∧ d = 0 ∧ e = 0, fun _ _ _ _ _ _ _ _ h => h, fun w34 c34 => ⟨c34, trivial, rfl, rfl, rfl, rfl, rfl⟩, ?_⟩
    intro w35 c35 a1 a2 a3 a4 a5 h1 b1 b2 b3 b4 b5 h2 d1 d2 d3 d4 d5 h3
    obtain ⟨rfl, rfl, rfl, rfl, rfl⟩ := h1
    obtain ⟨rfl, rfl, rfl, rfl, rfl⟩ := h2
    obtain ⟨rfl, rfl, rfl, rfl, rfl⟩ := h3
    intro b51 w52 hb51 hw52
    obtain ⟨g52, c52⟩ := litIns (three a2) _ rfl hb51 hw52 (by show 3 ≤ 100; decide)
    have c1852 := trN c35 c52
    obtain ⟨r, hr, e1⟩ := modn a2 (n := 3) (by decide) (by decide)
    have e1 : Int.tmod (wr (Int.tmod a2 3 + 3)) 3 = (r : Int) := e1
    obtain ⟨i, hi, hPa⟩ := three_ok a2 hr is.length
    rw [e1]
    refine ⟨c1852, ?_⟩
    have hat := g52.rd.at hi
    obtain ⟨a, ha, hcell⟩ := hat
    have g0 := hcell 0 _ rfl
    rw [add0] at g0
    refine ⟨a, ha, by omega, by omega, ?_⟩
    rw [Int.toNat_natCast]
    refine ⟨_, _, _, _, _, g0, hcell 1 _ rfl, hcell 2 _ rfl, hcell 3 _ rfl, hcell 4 _ rfl, c1852, ?_⟩
    intro b59 w60 hb59 hw60
    have k52 := trN k18 c1852
    have z1852 := c1852.size
    have z18 := c18.size
    refine ⟨trN c1852 (al hw60), app1_gen insOk (by decide) (x := i) rfl hb59 hw60 ((hI.no c18).no c1852) k52 (fun j hj => by have := hbI j hj; omega) (by omega) ?_⟩
    intro s61 w62 g62 c62 cl b62
    have hb61 : ∀ j, s61.blk = some j → w15.heap.size ≤ j := fun j hj => by
      rcases (b62 j hj).2 with h | h
      · exact hbI j h
      · omega
    have p62 := (p18.no c1852).chg cl (fun he => by have := hbI _ he; omega)
    refine ⟨p62.wr (by simp [trP]), fun w63 hw63 => ?_⟩
    obtain ⟨o63, c63⟩ := p62.up (k := 5) (vs := [s61.val]) (cs' := trP ⟨5, 3, 2, 0, 0, s61, ⟨some ⟨b11, 0, none⟩, 2, 2⟩, 0, nilS⟩) (by simp [trP]) rfl hw63
    rw [wr_in (by omega)]
    refine ⟨⟨k + 1, s61, is ++ [i], by omega, by omega, o63, g62.chg c63 (fun j hj he => by have := hb61 j hj; omega), hC.snoc hPa, by simp; omega, hb61, ?_⟩, by show ls.length - Int.toNat ((k : Int) + 1) < ls.length - Int.toNat (k : Int); omega⟩
    exact ((c16.trans (trN c18 c1852) (fun _ _ h => h) (fun _ _ h => h.elim)).trans cl (fun _ _ h => h) (fun j hj he => by have := hbI j he; omega)).trans c63 (fun _ _ h => h) (fun _ _ h => h)
  have hlt : k = ls.length := by simp at hlt; omega
  subst hlt
  refine ⟨fun n w' => ∃ (k : Nat) (sI : Sl) (is : List In5), n = k ∧ k ≤ os.length ∧ Ob w' b13 (trP ⟨5, 3, 2, 0, 0, sI, ⟨some ⟨b11, 0, none⟩, 2, 2⟩, 0, nilS⟩) T_api_Trace ∧ Ow insE w' sI is ∧ PaL is ∧ is.length ≤ ls.length + k ∧ (∀ j, sI.blk = some j → w15.heap.size ≤ j) ∧ Chg (fun k => k = b13) w15 w', fun n _ => os.length - n.toNat, ⟨0, sI, is, rfl, Nat.zero_le _, o16, hI, hC, by omega, hbI, c16⟩, ?_⟩
  clear hI hC hlen hbI o16 c16 k16 z16 hk
  rintro n w64 ⟨k, sI, is, rfl, hk, o64, hI, hC, hlen, hbI, c64⟩
  have k64 : Chg No w w64 := k15.trans c64 (fun _ _ h => h) (fun k hk he => by omega)
  have z64 := c64.size
  have hsl : sI.len = is.length := hI.rd.len
  have fin : ∀ b, b = false → hollowaylaw19_PruneAll_j1 b13 o k (fun n w' => ∃ (k : Nat) (sI : Sl) (is : List In5), n = k ∧ k ≤ os.length ∧ Ob w' b13 (trP ⟨5, 3, 2, 0, 0, sI, ⟨some ⟨b11, 0, none⟩, 2, 2⟩, 0, nilS⟩) T_api_Trace ∧ Ow insE w' sI is ∧ PaL is ∧ is.length ≤ ls.length + k ∧ (∀ j, sI.blk = some j → w15.heap.size ≤ j) ∧ Chg (fun k => k = b13) w15 w') (fun n _ => os.length - n.toNat) w64 b w64 (fun v w' => v = .bool true ∧ Chg No w w') := by
    intro b hbf
    unfold hollowaylaw19_PruneAll_j1
    rw [hbf]
    refine brB_f ?_
    have g64 := g15.chg c64 (fun j hj he => by have : b11 = j := Option.some.inj hj; omega)
    have ht64 : TrIs Any w64 ⟨5, 3, 2, 0, 0, sI, ⟨some ⟨b11, 0, none⟩, 2, 2⟩, 0, nilS⟩ (paT is) :=
      tris ⟨rfl, rfl, rfl, rfl, rfl, rfl⟩ hI.rd g64.rd (ous_cons ⟨rfl, rfl⟩ (Rd.nil _ _) (Rd.nil _ _) (ous_cons ⟨rfl, rfl⟩ (Rd.nil _ _) (Rd.nil _ _) (ous_nil _))) (Rd.nil _ _)
    have hR := paT_right hC (by omega)
    refine ⟨_, _, _, _, _, _, _, _, _, o64.cell rfl, o64.cell rfl, o64.cell rfl, o64.cell rfl, o64.cell rfl, o64.cell rfl, o64.cell rfl, o64.cell rfl, o64.cell rfl, (pdo_any _ ht64).mono ?_⟩
    rintro e w100 ⟨r, rfl, t', rfl, c100, h100⟩
    have h100 : TrOw (fun k => w64.heap.size ≤ k) w100 t' (prnT (paT is)) := by
      rcases h100 with ⟨hno, _⟩ | ⟨_, h⟩
      · exact absurd hR hno
      · exact h
    refine ⟨_, _, _, _, _, _, _, _, _, rfl, ?_⟩
    intro b110 w111 hb110 hw111
    have hn := fun (w2 : World) => newOb (w2 := w2) (T := T_api_Trace) (trP ⟨0, 0, 0, 0, 0, nilS, nilS, 0, nilS⟩) (trP t') rfl hb110 hw111
    refine ⟨(hn w111).1, fun w112 hw112 => ?_⟩
    obtain ⟨o112, c112⟩ := (hn w112).2 hw112
    have k112 := trN (trN k64 c100) c112
    have ha := h100.is.no c112
    have p112 := (o64.no c100).no c112
    refine ⟨_, _, _, _, _, _, _, _, _, p112.cell rfl, p112.cell rfl, p112.cell rfl, p112.cell rfl, p112.cell rfl, p112.cell rfl, p112.cell rfl, p112.cell rfl, p112.cell rfl, (rright_any _ ((ht64.no c100).no c112)).mono ?_⟩
    rintro e w123 ⟨b, rfl, hb, c123⟩
    rw [hb.2 hR]
    have o123 := o112.no c123
    refine ⟨_, rfl, brB_t ⟨_, _, _, _, _, _, _, _, _, o123.cell rfl, o123.cell rfl, o123.cell rfl, o123.cell rfl, o123.cell rfl, o123.cell rfl, o123.cell rfl, o123.cell rfl, o123.cell rfl, (rright_any _ (ha.no c123)).mono ?_⟩⟩
    rintro e w135 ⟨b, rfl, hb, c135⟩
    rw [hb.2 (prn_right hR (prnOk hR))]
    have o135 := o123.no c135
    have ha135 := (ha.no c123).no c135
    obtain ⟨q1, q2, q3⟩ := pa_prn hC
    have hil := ha135.ins.len
    obtain ⟨xs, hxs, hxv⟩ := ha135.outs
    have hxl := hxs.len
    have hx1 := hxv.1
    rw [q2] at hx1 hxv
    have hx1 : xs.length = 1 := hx1
    have hlast : t'.last = 0 := h100.nums.2.2.2.2.2.trans q3
    refine ⟨_, rfl, brB_t ⟨t'.ins, o135.cell rfl, ?_⟩⟩
    rw [hil, q1]
    refine brB_t ⟨t'.outs, o135.cell rfl, ?_⟩
    rw [hxl, hx1]
    obtain ⟨x, hx⟩ : ∃ x, xs[0]? = some x := ⟨_, List.getElem?_eq_getElem (by omega)⟩
    obtain ⟨u1, u2, _⟩ := hxv.2 0 x _ hx rfl
    refine brB_t ⟨t'.outs, o135.cell rfl, t'.last, o135.cell rfl, ?_⟩
    rw [hlast]
    refine hxs.ix (i := 0) (by omega) hx fun a _ hcell => ?_
    have g0 := hcell 0 _ rfl
    rw [add0] at g0
    refine ⟨_, g0, ?_⟩
    rw [u1]
    refine brB_t ⟨t'.outs, o135.cell rfl, t'.last, o135.cell rfl, ?_⟩
    rw [hlast]
    refine hxs.ix (i := 0) (by omega) hx fun a _ hcell => ?_
    refine ⟨_, hcell 1 _ rfl, ?_⟩
    rw [u2]
    exact ⟨rfl, trN (trN k112 c123) c135⟩
  refine brB_of (fun hlt => ?_) (fun hlt => fin false rfl)
  have hlt : k < os.length := by simp at hlt; omega
  refine ⟨sI, o64.cell rfl, ?_⟩
  rw [hsl]
  cases hpos : decide ((is.length : Int) > 0) with
  | false => exact fin false rfl
  | true =>
    have hnpos : 0 < is.length := by have := of_decide_eq_true hpos; omega
    unfold hollowaylaw19_PruneAll_j1
    refine brB_t ⟨sI, o64.cell rfl, ?_⟩
    rw [hsl]
    obtain ⟨x, hx⟩ : ∃ x, os[k]? = some x := ⟨_, List.getElem?_eq_getElem hlt⟩
    intro w72 hw72
    have c72 := dw hw72
    have k72 := trN k64 c72
    have p72 := o64.no c72
    have z72 := c72.size
    have ix : ∀ {G : Addr → Prop}, (∀ a, held (fun w' => Chg No w72 w') (Addr.add a (Int.toNat (k : Int) * 1)) (.int .i64 x) → G a) → ∃ a : Addr, o.ptr = some a ∧ 0 ≤ (k : Int) ∧ (k : Int) < (o.len : Int) ∧ G a := fun kk =>
      (ho.no k72).ix (i := (k : Int)) (by omega) (by rw [Int.toNat_natCast]; exact hx) fun a ha _ => kk a fun w' c => by
        obtain ⟨a2, ha2, hc2⟩ := ((ho.no k72).no c).at hx
        rw [ha] at ha2; cases ha2
        have q := hc2 0 _ rfl
        rw [add0] at q; rw [Int.toNat_natCast]; exact q
    refine ⟨fun w' => Chg No w72 w', Chg.refl _ _, sI, Ob.held (fun w' c => p72.no c) rfl, ix fun a q => ⟨x, q, by decide, by decide, ix fun a q => ⟨x, q, by decide, by omega, by omega, ix fun a q => ⟨x, q, by decide, by omega, by omega, ?_⟩⟩⟩⟩
    intro b81 w82 hb81 hw82
    have c82 := al hw82
    have o82 : Ob w82 b81 [.int .i64 11, .int .i64 19, .int .i64 16] T_int := by rw [hw82, hb81]; exact Ob.new w72 [.int .i64 11, .int .i64 19, .int .i64 16] T_int
    obtain ⟨r, hr, e1⟩ := modn x (n := 3) (by decide) (by decide)
    have e1 : Int.tmod (wr (Int.tmod x 3 + 3)) 3 = (r : Int) := e1
    obtain ⟨op, hop, hopk⟩ := pa_ops hr
    rw [e1]
    refine ⟨c82, _, rfl, by omega, by omega, op, ?_, c82, c82, ?_⟩
    · rw [add_mk, Int.toNat_natCast, show 0 + r * 1 = r by omega]
      refine o82.cell ?_
      have hh : ([Value.int .i64 11, .int .i64 19, .int .i64 16] : List Value) = ([11, 19, 16] : List Int).map (Value.int .i64) := rfl
      rw [hh, List.getElem?_map, hop]; rfl
    intro b85 w86 hb85 hw86
    obtain ⟨r2, hr2, e2⟩ := modn (wr (Int.tdiv x 3)) (n := is.length) hnpos (by omega)
    obtain ⟨r3, hr3, e3⟩ := modn (wr (Int.tdiv x 99)) (n := is.length) hnpos (by omega)
    rw [e2, e3] at hw86
    have z82 := c82.size
    refine ⟨trN c82 (al hw86), app1_gen insOk (by decide) (x := ⟨4, op, (r2 : Int), (r3 : Int), 0⟩) rfl hb85 hw86 ((hI.no c72).no c82) (trN k72 c82) (fun j hj => by have := hbI j hj; omega) (by omega) ?_⟩
    intro s87 w88 g88 c88 cl b88
    have hb87 : ∀ j, s87.blk = some j → w15.heap.size ≤ j := fun j hj => by
      rcases (b88 j hj).2 with h | h
      · exact hbI j h
      · omega
    have p88 := (p72.no c82).chg cl (fun he => by have := hbI _ he; omega)
    refine ⟨p88.wr (by simp [trP]), fun w89 hw89 => ?_⟩
    obtain ⟨o89, c89⟩ := p88.up (k := 5) (vs := [s87.val]) (cs' := trP ⟨5, 3, 2, 0, 0, s87, ⟨some ⟨b11, 0, none⟩, 2, 2⟩, 0, nilS⟩) (by simp [trP]) rfl hw89
    rw [wr_in (by omega)]
    refine ⟨⟨k + 1, s87, is ++ [⟨4, op, (r2 : Int), (r3 : Int), 0⟩], by omega, by omega, o89, g88.chg c89 (fun j hj he => by have := hb87 j hj; omega), hC.snoc (Or.inr (Or.inr (Or.inr ⟨rfl, hopk, by show 0 ≤ (r2 : Int) ∧ (r2 : Int) < (is.length : Int); omega, by show 0 ≤ (r3 : Int) ∧ (r3 : Int) < (is.length : Int); omega⟩))), by rw [List.length_append]; show is.length + 1 ≤ _; omega, hb87, ?_⟩, by show os.length - Int.toNat ((k : Int) + 1) < os.length - Int.toNat (k : Int); omega⟩
    exact ((c64.trans (trN c72 c82) (fun _ _ h => h) (fun _ _ h => h.elim)).trans cl (fun _ _ h => h) (fun j hj he => by have := hbI j he; omega)).trans c89 (fun _ _ h => h) (fun _ _ h => h)
end Go.Proofs.Ytblmoilneiffgaa
