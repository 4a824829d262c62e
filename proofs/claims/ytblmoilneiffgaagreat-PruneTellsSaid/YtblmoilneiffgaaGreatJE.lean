/- Taking away what nobody needs: the plain law, the package prune. -/
import Derived.Test.YtblmoilneiffgaaGreatJ3
import Derived.Test.YtblmoilneiffgaaGreatJD
import Derived.Test.YtblmoilneiffgaaGreatJB
import Derived.Test.YtblmoilneiffgaaGreatJ8
import Derived.Test.YtblmoilneiffgaaGreatJC

/- Taking away what nobody needs, in plain words; what it keeps. No program in sight. -/
set_option maxRecDepth 100000
namespace Go.Proofs.YtblmoilneiffgaaGreat
open Go.RowKit

/-- It does nothing but have a value. -/
def pureV (i : In5) : Bool := decide (i.a = 1 ∨ i.a = 2 ∨ i.a = 3 ∨ (i.a = 4 ∧ outsV i = []))
def bA (l : List Bool) (j : Nat) : Bool := l.getD j false
theorem bA_lt {l : List Bool} {j : Nat} (h : bA l j = true) : j < l.length := by
  by_cases hj : j < l.length
  · exact hj
  · unfold bA at h; rw [List.getD_eq_getElem?_getD, List.getElem?_eq_none (by omega)] at h; cases h
theorem bA_get {l : List Bool} {j : Nat} (h : j < l.length) : l[j]? = some (bA l j) := by
  unfold bA; rw [List.getD_eq_getElem?_getD, List.getElem?_eq_getElem h]; rfl
theorem bA_set {l : List Bool} {j k : Nat} {b : Bool} : bA (l.set k b) j = if k = j ∧ k < l.length then b else bA l j := by
  unfold bA
  rw [List.getD_eq_getElem?_getD, List.getElem?_set, List.getD_eq_getElem?_getD]
  by_cases hk : k = j
  · subst hk
    by_cases hl : k < l.length
    · simp [hl]
    · simp [hl]
  · simp [hk]
theorem bA_rep (n j : Nat) : bA (List.replicate n false) j = false := by
  unfold bA
  rw [List.getD_eq_getElem?_getD, List.getElem?_replicate]
  split <;> rfl
/-- Which places and exits are named. -/
structure Ned where
  ins : List Bool
  exs : List Bool
def placesV (l : List Bool) (ps : List Int) : List Bool := ps.foldl (fun l p => l.set p.toNat true) l
def exitN (t : TrG) (n : Ned) (x : Int) : Ned :=
  if bA n.exs x.toNat = true then n else ⟨placesV (placesV n.ins (outAt t x).stack) (outAt t x).back, n.exs.set x.toNat true⟩
def exitsN (t : TrG) (n : Ned) (xs : List Int) : Ned := xs.foldl (exitN t) n
def allN (t : TrG) (n : Ned) (i : In5) : Ned := exitsN t ⟨placesV n.ins (usesV i), n.exs⟩ (outsV i)
def beginN (t : TrG) : Ned := exitN t ⟨List.replicate t.ins.length false, List.replicate t.outs.length false⟩ t.last
def keepB (t : TrG) (n : Ned) (k : Nat) : Bool := bA n.ins k || !pureV (atL t.ins k)
/-- From the end: what is named is kept, and what is kept names. -/
def backS (t : TrG) (q : Ned × List Bool) (k : Nat) : Ned × List Bool :=
  (if keepB t q.1 k = true then allN t q.1 (atL t.ins k) else q.1, q.2.set k (keepB t q.1 k))
def backL (t : TrG) : Nat → Ned × List Bool → Ned × List Bool
  | 0, q => q
  | k + 1, q => backL t k (backS t q k)
def finN (t : TrG) : Ned × List Bool := backL t t.ins.length (beginN t, List.replicate t.ins.length false)

theorem placesV_len (l : List Bool) (ps : List Int) : (placesV l ps).length = l.length := by
  induction ps generalizing l with
  | nil => rfl
  | cons p r ih => exact (ih (l.set p.toNat true)).trans (by simp)
theorem placesV_old {l : List Bool} {j : Nat} (ps : List Int) (h : bA l j = true) : bA (placesV l ps) j = true := by
  induction ps generalizing l with
  | nil => exact h
  | cons p r ih =>
    refine ih ?_
    rw [bA_set]; split
    · rfl
    · exact h
theorem placesV_new {l : List Bool} {ps : List Int} {p : Int} (hp : p ∈ ps) (hl : p.toNat < l.length) : bA (placesV l ps) p.toNat = true := by
  induction ps generalizing l with
  | nil => cases hp
  | cons q r ih =>
    rcases List.mem_cons.1 hp with rfl | hp
    · refine placesV_old r ?_
      rw [bA_set, if_pos ⟨rfl, hl⟩]
    · exact ih hp (by simpa using hl)
theorem placesV_only {l : List Bool} {ps : List Int} {j : Nat} (h : bA (placesV l ps) j = true) : bA l j = true ∨ ∃ p ∈ ps, p.toNat = j := by
  induction ps generalizing l with
  | nil => exact Or.inl h
  | cons q r ih =>
    rcases ih h with h | ⟨p, hp, hj⟩
    · rw [bA_set] at h
      split at h
      · next hh => exact Or.inr ⟨q, by simp, hh.1⟩
      · exact Or.inl h
    · exact Or.inr ⟨p, List.mem_cons_of_mem _ hp, hj⟩
/-- What a named exit names is named. -/
def ClN (t : TrG) (n : Ned) : Prop := ∀ x : Nat, bA n.exs x = true → ∀ p ∈ (outAt t x).stack ++ (outAt t x).back, bA n.ins p.toNat = true
/-- More is named, below a place. -/
structure UpN (t : TrG) (k : Nat) (n n' : Ned) : Prop where
  li : n'.ins.length = n.ins.length
  lx : n'.exs.length = n.exs.length
  oi : ∀ j, bA n.ins j = true → bA n'.ins j = true
  ox : ∀ j, bA n.exs j = true → bA n'.exs j = true
  on : ∀ j, k ≤ j → bA n'.ins j = true → bA n.ins j = true
  cl : ClN t n → ClN t n'
theorem UpN.refl (t : TrG) (k : Nat) (n : Ned) : UpN t k n n := ⟨rfl, rfl, fun _ h => h, fun _ h => h, fun _ _ h => h, fun h => h⟩
theorem UpN.trans {t : TrG} {k : Nat} {a b c : Ned} (h : UpN t k a b) (g : UpN t k b c) : UpN t k a c :=
  ⟨g.li.trans h.li, g.lx.trans h.lx, fun j x => g.oi j (h.oi j x), fun j x => g.ox j (h.ox j x), fun j hj x => h.on j hj (g.on j hj x), fun x => g.cl (h.cl x)⟩
theorem up_places {t : TrG} {k : Nat} {n : Ned} {ps : List Int} (h : ∀ p ∈ ps, 0 ≤ p ∧ p < k) : UpN t k n ⟨placesV n.ins ps, n.exs⟩ :=
  ⟨placesV_len _ _, rfl, fun _ h => placesV_old _ h, fun _ h => h, fun j hj hb => by
    rcases placesV_only hb with h' | ⟨p, hp, hpj⟩
    · exact h'
    · have := h p hp; omega, fun hc x hx p hp => placesV_old _ (hc x hx p hp)⟩
theorem up_exit {t : TrG} {k : Nat} {n : Ned} {x : Int} (hl : n.ins.length = t.ins.length) (hx : OutV t x k) (hk : k ≤ t.ins.length) : UpN t k n (exitN t n x) := by
  obtain ⟨h0, h1, h2, h3⟩ := hx
  unfold exitN
  split
  · exact UpN.refl _ _ _
  · next hne =>
    refine ⟨by dsimp only; rw [placesV_len, placesV_len], by simp, fun _ h => placesV_old _ (placesV_old _ h), fun j h => ?_, fun j hj hb => ?_, fun hc y hy p hp => ?_⟩
    · rw [bA_set]; split
      · rfl
      · exact h
    · rcases placesV_only hb with h' | ⟨p, hp, hpj⟩
      · rcases placesV_only h' with h' | ⟨p, hp, hpj⟩
        · exact h'
        · have := h2 p hp; omega
      · have := h3 p hp; omega
    · rw [bA_set] at hy
      split at hy
      · next hh =>
        have hxy : (y : Int) = x := by omega
        rw [hxy] at hp
        rcases List.mem_append.1 hp with hp | hp
        · have := h2 p hp
          exact placesV_old _ (placesV_new hp (by omega))
        · have := h3 p hp
          exact placesV_new hp (by rw [placesV_len]; omega)
      · exact placesV_old _ (placesV_old _ (hc y hy p hp))
theorem exit_named {t : TrG} {n : Ned} {x : Int} (hl : n.exs.length = t.outs.length) (h0 : 0 ≤ x) (h1 : x < t.outs.length) : bA (exitN t n x).exs x.toNat = true := by
  unfold exitN
  split
  · assumption
  · rw [bA_set, if_pos ⟨rfl, by omega⟩]
theorem up_exits {t : TrG} {k : Nat} : ∀ (xs : List Int) (n : Ned), n.ins.length = t.ins.length → n.exs.length = t.outs.length → (∀ x ∈ xs, OutV t x k) → k ≤ t.ins.length → UpN t k n (exitsN t n xs) ∧ ∀ x ∈ xs, bA (exitsN t n xs).exs x.toNat = true
  | [], n, _, _, _, _ => ⟨UpN.refl _ _ _, fun x hx => by cases hx⟩
  | x :: r, n, hl, hx, h, hk => by
    have u := up_exit (n := n) hl (h x (by simp)) hk
    have hx0 := h x (by simp)
    obtain ⟨u2, n2⟩ := up_exits r (exitN t n x) (u.li.trans hl) (u.lx.trans hx) (fun y hy => h y (List.mem_cons_of_mem _ hy)) hk
    refine ⟨u.trans u2, fun y hy => ?_⟩
    rcases List.mem_cons.1 hy with rfl | hy
    · exact u2.ox _ (exit_named hx hx0.1 hx0.2.1)
    · exact n2 y hy
theorem up_all {t : TrG} {k : Nat} {n : Ned} {i : In5} (hl : n.ins.length = t.ins.length) (hx : n.exs.length = t.outs.length) (hi : EachV t k i) (hk : k ≤ t.ins.length) :
    UpN t k n (allN t n i) ∧ (∀ p ∈ usesV i, bA (allN t n i).ins p.toNat = true) ∧ ∀ x ∈ outsV i, bA (allN t n i).exs x.toNat = true := by
  obtain ⟨_, _, _, _, h5, h6⟩ := hi
  have u1 := up_places (t := t) (n := n) (k := k) (ps := usesV i) (fun p hp => by have := h5 p hp; omega)
  obtain ⟨u2, n2⟩ := up_exits (outsV i) ⟨placesV n.ins (usesV i), n.exs⟩ (u1.li.trans hl) hx h6 hk
  refine ⟨u1.trans u2, fun p hp => ?_, n2⟩
  have := h5 p hp
  exact u2.oi _ (placesV_new hp (by omega))
/-- What is known, from a place on. -/
structure KpN (t : TrG) (k : Nat) (q : Ned × List Bool) : Prop where
  li : q.1.ins.length = t.ins.length
  lx : q.1.exs.length = t.outs.length
  lk : q.2.length = t.ins.length
  cl : ClN t q.1
  keep : ∀ j, k ≤ j → bA q.1.ins j = true → bA q.2 j = true
  uses : ∀ j, k ≤ j → bA q.2 j = true → ∀ p ∈ usesV (atL t.ins j), bA q.1.ins p.toNat = true
  outs : ∀ j, k ≤ j → bA q.2 j = true → ∀ x ∈ outsV (atL t.ins j), bA q.1.exs x.toNat = true
  pure : ∀ j, k ≤ j → j < t.ins.length → bA q.2 j = false → pureV (atL t.ins j) = true
  last : bA q.1.exs t.last.toNat = true
theorem atL_each {t : TrG} (hr : RightV t) {k : Nat} (hk : k < t.ins.length) : EachV t k (atL t.ins k) := by
  refine hr.each k _ ?_
  rw [List.getElem?_eq_getElem hk, atL_get (List.getElem?_eq_getElem hk)]
theorem KpN.step {t : TrG} (hr : RightV t) {k : Nat} (hk : k < t.ins.length) {q : Ned × List Bool} (h : KpN t (k + 1) q) : KpN t k (backS t q k) := by
  have hi := atL_each hr hk
  have hkb : ∀ j, j ≠ k → bA (q.2.set k (keepB t q.1 k)) j = bA q.2 j := fun j hj => by rw [bA_set, if_neg (fun hh => hj hh.1.symm)]
  have hkk : bA (q.2.set k (keepB t q.1 k)) k = keepB t q.1 k := by rw [bA_set, if_pos ⟨rfl, by rw [h.lk]; exact hk⟩]
  have hpl : bA q.1.ins k = true → keepB t q.1 k = true := fun hb => by unfold keepB; rw [hb]; rfl
  unfold backS
  by_cases hkp : keepB t q.1 k = true
  · rw [if_pos hkp]
    obtain ⟨u, n1, n2⟩ := up_all (n := q.1) h.li h.lx hi (by omega)
    refine ⟨u.li.trans h.li, u.lx.trans h.lx, by dsimp only; rw [List.length_set]; exact h.lk, u.cl h.cl, fun j hj hb => ?_, fun j hj hb p hp => ?_, fun j hj hb x hx => ?_, fun j hj hl hb => ?_, u.ox _ h.last⟩
    · by_cases hjk : j = k
      · subst hjk; dsimp only; rw [hkk]; exact hkp
      · dsimp only; rw [hkb j hjk]; exact h.keep j (by omega) (u.on j hj hb)
    · by_cases hjk : j = k
      · subst hjk; exact n1 p hp
      · dsimp only at hb; rw [hkb j hjk] at hb; exact u.oi _ (h.uses j (by omega) hb p hp)
    · by_cases hjk : j = k
      · subst hjk; exact n2 x hx
      · dsimp only at hb; rw [hkb j hjk] at hb; exact u.ox _ (h.outs j (by omega) hb x hx)
    · by_cases hjk : j = k
      · subst hjk; dsimp only at hb; rw [hkk, hkp] at hb; cases hb
      · dsimp only at hb; rw [hkb j hjk] at hb; exact h.pure j (by omega) hl hb
  · rw [if_neg hkp]
    have hkf : keepB t q.1 k = false := by simpa using hkp
    refine ⟨h.li, h.lx, by dsimp only; rw [List.length_set]; exact h.lk, h.cl, fun j hj hb => ?_, fun j hj hb p hp => ?_, fun j hj hb x hx => ?_, fun j hj hl hb => ?_, h.last⟩
    · by_cases hjk : j = k
      · subst hjk; exact absurd (hpl hb) hkp
      · dsimp only; rw [hkb j hjk]; exact h.keep j (by omega) hb
    · by_cases hjk : j = k
      · subst hjk; dsimp only at hb; rw [hkk] at hb; exact absurd hb hkp
      · dsimp only at hb; rw [hkb j hjk] at hb; exact h.uses j (by omega) hb p hp
    · by_cases hjk : j = k
      · subst hjk; dsimp only at hb; rw [hkk] at hb; exact absurd hb hkp
      · dsimp only at hb; rw [hkb j hjk] at hb; exact h.outs j (by omega) hb x hx
    · by_cases hjk : j = k
      · subst hjk
        unfold keepB at hkf
        rw [Bool.or_eq_false_iff] at hkf
        simpa using hkf.2
      · dsimp only at hb; rw [hkb j hjk] at hb; exact h.pure j (by omega) hl hb
theorem KpN.back {t : TrG} (hr : RightV t) : ∀ (k : Nat) (q : Ned × List Bool), k ≤ t.ins.length → KpN t k q → KpN t 0 (backL t k q)
  | 0, q, _, h => h
  | k + 1, q, hk, h => KpN.back hr k _ (by omega) (h.step hr (by omega))
theorem begin_ok {t : TrG} (hr : RightV t) : KpN t t.ins.length (beginN t, List.replicate t.ins.length false) := by
  have h0 : ClN t ⟨List.replicate t.ins.length false, List.replicate t.outs.length false⟩ := fun x hx => by
    have h := bA_rep t.outs.length x
    dsimp only at hx; rw [h] at hx; cases hx
  have u := up_exit (n := ⟨List.replicate t.ins.length false, List.replicate t.outs.length false⟩) (by simp) hr.last (Nat.le_refl _)
  have hl := u.li
  have hx := u.lx
  refine ⟨hl.trans (by simp), hx.trans (by simp), by simp, u.cl h0, fun j hj hb => ?_, fun j hj hb => ?_, fun j hj hb => ?_, fun j hj hl => by omega, exit_named (by simp) hr.last.1 hr.last.2.1⟩
  · have := bA_lt (u.on j hj hb); simp at this; omega
  · have h := bA_rep t.ins.length j
    dsimp only at hb; rw [h] at hb; cases hb
  · have h := bA_rep t.ins.length j
    dsimp only at hb; rw [h] at hb; cases hb
theorem fin_ok {t : TrG} (hr : RightV t) : KpN t 0 (finN t) := KpN.back hr _ _ (Nat.le_refl _) (begin_ok hr)
/-- What is kept keeps what it names. -/
structure PrnOk (t : TrG) (kp ex : List Bool) : Prop where
  uses : ∀ k, bA kp k = true → ∀ p ∈ usesV (atL t.ins k), bA kp p.toNat = true
  outs : ∀ k, bA kp k = true → ∀ x ∈ outsV (atL t.ins k), bA ex x.toNat = true
  exs : ∀ x : Nat, bA ex x = true → ∀ p ∈ (outAt t x).stack ++ (outAt t x).back, bA kp p.toNat = true
  pure : ∀ k, k < t.ins.length → bA kp k = false → pureV (atL t.ins k) = true
  last : bA ex t.last.toNat = true
theorem prnOk {t : TrG} (hr : RightV t) : PrnOk t (finN t).2 (finN t).1.exs := by
  have h := fin_ok hr
  exact ⟨fun k hk p hp => h.keep _ (Nat.zero_le _) (h.uses k (Nat.zero_le _) hk p hp), fun k hk => h.outs k (Nat.zero_le _) hk, fun x hx p hp => h.keep _ (Nat.zero_le _) (h.cl x hx p hp), fun k hk => h.pure k (Nat.zero_le _) hk, h.last⟩

/-! ### What is left -/
def keepL {α : Type} (f : Nat → Bool) : List α → List α
  | [] => []
  | a :: r => if f 0 = true then a :: keepL (fun k => f (k + 1)) r else keepL (fun k => f (k + 1)) r
theorem keepL_cons {α : Type} (f : Nat → Bool) (a : α) (r : List α) : keepL f (a :: r) = if f 0 = true then a :: keepL (fun k => f (k + 1)) r else keepL (fun k => f (k + 1)) r := rfl
theorem keepL_app {α : Type} (a b : List α) : ∀ f : Nat → Bool, keepL f (a ++ b) = keepL f a ++ keepL (fun k => f (k + a.length)) b := by
  induction a with
  | nil => intro f; rfl
  | cons x r ih =>
    intro f
    have e : (fun k => f (k + (x :: r).length)) = fun k => (fun k => f (k + 1)) (k + r.length) := by funext k; rfl
    show keepL f (x :: (r ++ b)) = _
    rw [e, keepL_cons, keepL_cons, ih]
    split <;> rfl
theorem keepL_len {α : Type} (l : List α) : ∀ f : Nat → Bool, (keepL f l).length ≤ l.length := by
  induction l with
  | nil => intro f; exact Nat.le_refl _
  | cons x r ih =>
    intro f
    unfold keepL
    have := ih (fun k => f (k + 1))
    split <;> simp <;> omega
theorem keepL_take {α : Type} {f : Nat → Bool} {l : List α} {k : Nat} {a : α} (h : l[k]? = some a) : keepL f (l.take (k + 1)) = keepL f (l.take k) ++ (if f k = true then [a] else []) := by
  have hk : k < l.length := (List.getElem?_eq_some_iff.1 h).1
  rw [List.take_add_one, h]
  rw [keepL_app]
  congr 1
  rw [List.length_take, Nat.min_eq_left (by omega)]
  show keepL _ [a] = _
  unfold keepL
  simp [keepL]
theorem keepL_at {α : Type} {f : Nat → Bool} {l : List α} {k : Nat} {a : α} (h : l[k]? = some a) (hf : f k = true) : (keepL f l)[(keepL f (l.take k)).length]? = some a := by
  have hk : k < l.length := (List.getElem?_eq_some_iff.1 h).1
  have e : l = l.take (k + 1) ++ l.drop (k + 1) := (List.take_append_drop _ _).symm
  have h1 : keepL f l = keepL f (l.take (k + 1)) ++ keepL (fun j => f (j + (l.take (k + 1)).length)) (l.drop (k + 1)) := by
    rw [← keepL_app, ← e]
  rw [h1, keepL_take h, if_pos hf, List.append_assoc, List.getElem?_append_right (Nat.le_refl _)]
  simp
theorem keepL_mem {α : Type} (l : List α) : ∀ (f : Nat → Bool) (a : α), a ∈ keepL f l → a ∈ l := by
  induction l with
  | nil => intro f a h; exact h
  | cons x r ih =>
    intro f a h
    unfold keepL at h
    split at h
    · rcases List.mem_cons.1 h with rfl | h
      · simp
      · exact List.mem_cons_of_mem _ (ih _ a h)
    · exact List.mem_cons_of_mem _ (ih _ a h)
/-- Exits' new numbers. -/
def exM (ex : List Bool) (os : List OuV) (n : Nat) : List Int := (List.range n).map fun x => ((keepL (bA ex) (os.take x)).length : Int)
theorem exM_len (ex : List Bool) (os : List OuV) (n : Nat) : (exM ex os n).length = n := by unfold exM; simp
theorem exM_at {ex : List Bool} {os : List OuV} {n : Nat} {x : Int} (h0 : 0 ≤ x) (h1 : x < n) : ofV (exM ex os n) x = ((keepL (bA ex) (os.take x.toNat)).length : Int) := by
  rw [ofV_in h0 (by rw [exM_len]; exact h1)]
  unfold getI exM
  rw [List.getD_eq_getElem?_getD, List.getElem?_map, List.getElem?_range (by omega)]; rfl
def renV (ex : List Int) (i : In5) : In5 :=
  if (outsV i).length = 2 then { i with b := ofV ex i.b, e := ofV ex i.e } else
  if (outsV i).length = 1 then { i with e := ofV ex i.e } else i
/-- The first k instructions: what is left of them, and where they are. -/
def prnL (t : TrG) (kp : List Bool) (ex : List Int) : Nat → List In5 × List Int
  | 0 => ([], [])
  | k + 1 => (if bA kp k = true then (prnL t kp ex k).1 ++ [renV ex (insM (prnL t kp ex k).2 (atL t.ins k))] else (prnL t kp ex k).1, (prnL t kp ex k).2 ++ [((prnL t kp ex k).1.length : Int)])
def prnA (t : TrG) (kp ex : List Bool) : TrG :=
  { t with ins := (prnL t kp (exM ex t.outs t.outs.length) t.ins.length).1,
           outs := (keepL (bA ex) t.outs).map (outM (prnL t kp (exM ex t.outs t.outs.length) t.ins.length).2),
           last := ofV (exM ex t.outs t.outs.length) t.last }
/-- The trace without what nobody needs, of one that may be. -/
def prnT (t : TrG) : TrG := prnA t (finN t).2 (finN t).1.exs
theorem prnL_len (t : TrG) (kp : List Bool) (ex : List Int) : ∀ k, (prnL t kp ex k).2.length = k ∧ (prnL t kp ex k).1.length ≤ k
  | 0 => ⟨rfl, Nat.le_refl _⟩
  | k + 1 => by
    obtain ⟨a, b⟩ := prnL_len t kp ex k
    unfold prnL
    refine ⟨by simp [a], ?_⟩
    dsimp only
    split
    · rw [List.length_append]; simp; omega
    · omega
theorem prnL_more (t : TrG) (kp : List Bool) (ex : List Int) (k : Nat) : ∀ d, ∃ (l : List In5) (m : List Int), prnL t kp ex (k + d) = ((prnL t kp ex k).1 ++ l, (prnL t kp ex k).2 ++ m)
  | 0 => ⟨[], [], by simp⟩
  | d + 1 => by
    obtain ⟨l, m, h⟩ := prnL_more t kp ex k d
    have e : prnL t kp ex (k + (d + 1)) = (if bA kp (k + d) = true then (prnL t kp ex (k + d)).1 ++ [renV ex (insM (prnL t kp ex (k + d)).2 (atL t.ins ((k + d : Nat) : Int)))] else (prnL t kp ex (k + d)).1, (prnL t kp ex (k + d)).2 ++ [((prnL t kp ex (k + d)).1.length : Int)]) := rfl
    rw [e, h]
    by_cases hb : bA kp (k + d) = true
    · rw [if_pos hb]
      exact ⟨l ++ [renV ex (insM ((prnL t kp ex k).2 ++ m) (atL t.ins ((k + d : Nat) : Int)))], m ++ [(((prnL t kp ex k).1 ++ l).length : Int)], by simp⟩
    · rw [if_neg hb]
      exact ⟨l, m ++ [(((prnL t kp ex k).1 ++ l).length : Int)], by simp⟩
theorem outsV_cases (i : In5) : ((outsV i).length = 0 ∧ outsV i = []) ∨ ((outsV i).length = 1 ∧ outsV i = [i.e] ∧ i.a ≠ 6) ∨ ((outsV i).length = 2 ∧ outsV i = [i.e, i.b] ∧ i.a = 6) := by
  unfold outsV
  repeat' split
  all_goals first | exact Or.inl ⟨rfl, rfl⟩ | exact Or.inr (Or.inl ⟨rfl, rfl, by omega⟩) | exact Or.inr (Or.inr ⟨rfl, rfl, by omega⟩)
theorem renV_a (ex : List Int) (i : In5) : (renV ex i).a = i.a ∧ (renV ex i).c = i.c ∧ (renV ex i).d = i.d ∧ (i.a ≠ 6 → (renV ex i).b = i.b) := by
  unfold renV
  split
  · next h =>
    refine ⟨rfl, rfl, rfl, fun h6 => ?_⟩
    rcases outsV_cases i with ⟨g, _⟩ | ⟨g, _⟩ | ⟨_, _, g⟩
    · omega
    · omega
    · exact absurd g h6
  · split <;> exact ⟨rfl, rfl, rfl, fun _ => rfl⟩
theorem renV_uses (ex : List Int) (i : In5) : usesV (renV ex i) = usesV i := by
  obtain ⟨h1, h2, h3, h4⟩ := renV_a ex i
  unfold usesV
  rw [h1, h2, h3]
  by_cases h : i.a = 6
  · rw [h]; rfl
  · rw [h4 h]
theorem renV_outs (ex : List Int) (i : In5) : outsV (renV ex i) = (outsV i).map (ofV ex) := by
  rcases outsV_cases i with ⟨g, h⟩ | ⟨g, h, h6⟩ | ⟨g, h, h6⟩
  · have : renV ex i = i := by unfold renV; rw [if_neg (by omega), if_neg (by omega)]
    rw [this, h]; rfl
  · have e : renV ex i = { i with e := ofV ex i.e } := by unfold renV; rw [if_neg (by omega), if_pos g]
    rw [e, h]
    have e2 : ∀ y, outsV { i with e := y } = if (outsV i).length = 1 then [y] else outsV { i with e := y } := fun y => by
      rw [if_pos g]
      unfold outsV at g ⊢
      dsimp only
      repeat' split at g
      all_goals first | (exfalso; simp at g; done) | skip
      all_goals first | (rw [if_pos (by assumption), if_pos (by assumption)]; done) | (rw [if_neg (by assumption), if_pos (by assumption)]; done) | (exfalso; simp at g)
    rw [e2, if_pos g]; rfl
  · have e : renV ex i = { i with b := ofV ex i.b, e := ofV ex i.e } := by unfold renV; rw [if_pos g]
    rw [e, h]
    unfold outsV
    dsimp only
    rw [if_neg (by omega), if_neg (by omega), if_pos h6]; rfl
end Go.Proofs.YtblmoilneiffgaaGreat

/- Taking away what nobody needs: the trace that is left may be, and does what the trace does. No program in sight. -/
set_option maxRecDepth 100000
namespace Go.Proofs.YtblmoilneiffgaaGreat
open Go.RowKit

/-- What is known of the map, behind the first k instructions of ti. -/
structure MapK (ti : List In5) (kp : List Bool) (k : Nat) (l : List In5) (m : List Int) : Prop where
  len : m.length = k
  le : l.length ≤ k
  pl : ∀ p : Int, 0 ≤ p → p < k → bA kp p.toNat = true → givesV (atL ti p).a = true → (0 ≤ ofV m p ∧ ofV m p < l.length) ∧ givesV (atL l (ofV m p)).a = true
/-- Places ahead of one, that give and are kept. -/
def NamK (ti : List In5) (kp : List Bool) (ps : List Int) (k : Nat) : Prop := NamL ti ps k ∧ ∀ p ∈ ps, bA kp p.toNat = true
theorem MapK.named {ti l : List In5} {kp : List Bool} {k : Nat} {m : List Int} (h : MapK ti kp k l m) {ps : List Int} (hp : NamK ti kp ps k) : NamL l (ps.map (ofV m)) l.length := fun q hq => by
  obtain ⟨p, hp', rfl⟩ := List.mem_map.1 hq
  obtain ⟨a, b, c⟩ := hp.1 p hp'
  obtain ⟨d, e⟩ := h.pl p a b (hp.2 p hp') c
  exact ⟨d.1, d.2, e⟩
theorem prnL_map (t : TrG) (kp : List Bool) (ex : List Int) : ∀ k, k ≤ t.ins.length → MapK t.ins kp k (prnL t kp ex k).1 (prnL t kp ex k).2
  | 0, _ => ⟨rfl, Nat.le_refl _, fun p h0 h1 => by omega⟩
  | k + 1, hk => by
    have h := prnL_map t kp ex k (by omega)
    obtain ⟨l1, l2⟩ := prnL_len t kp ex (k + 1)
    refine ⟨l1, l2, fun p h0 h1 hb hg => ?_⟩
    have e2 : (prnL t kp ex (k + 1)).2 = (prnL t kp ex k).2 ++ [((prnL t kp ex k).1.length : Int)] := rfl
    have e1 : (prnL t kp ex (k + 1)).1 = if bA kp k = true then (prnL t kp ex k).1 ++ [renV ex (insM (prnL t kp ex k).2 (atL t.ins k))] else (prnL t kp ex k).1 := rfl
    rw [e2]
    by_cases hpk : p = k
    · subst hpk
      rw [ofV_end (by rw [h.len])]
      rw [Int.toNat_natCast] at hb
      rw [e1, if_pos hb, atL_end rfl, (renV_a _ _).1, (insM_op _ _).1]
      exact ⟨⟨by omega, by rw [List.length_append]; simp; omega⟩, hg⟩
    · obtain ⟨a, b⟩ := h.pl p h0 (by omega) hb hg
      rw [ofV_app _ h0 (by rw [h.len]; omega), e1]
      split
      · exact ⟨⟨a.1, by rw [List.length_append]; omega⟩, by rw [atL_app _ a.1 a.2]; exact b⟩
      · exact ⟨a, b⟩
section
variable {t : TrG} {kp ex : List Bool}
def exI (t : TrG) (ex : List Bool) : List Int := exM ex t.outs t.outs.length
theorem prnA_ins : (prnA t kp ex).ins = (prnL t kp (exI t ex) t.ins.length).1 := rfl
theorem prn_pre {k : Nat} (hk : k ≤ t.ins.length) : ∃ (l : List In5) (m : List Int), (prnA t kp ex).ins = (prnL t kp (exI t ex) k).1 ++ l ∧ (prnL t kp (exI t ex) t.ins.length).2 = (prnL t kp (exI t ex) k).2 ++ m := by
  obtain ⟨l, m, h⟩ := prnL_more t kp (exI t ex) k (t.ins.length - k)
  rw [Nat.add_sub_cancel' hk] at h
  exact ⟨l, m, by rw [prnA_ins, h], by rw [h]⟩
theorem outAt_ge {x : Int} (h0 : 0 ≤ x) (h1 : x < t.outs.length) : t.outs[x.toNat]? = some (outAt t x) := by
  unfold outAt; rw [List.getD_eq_getElem?_getD, List.getElem?_eq_getElem (by omega)]; rfl
/-- A named exit, in the other trace. -/
theorem prn_out {x : Int} (h0 : 0 ≤ x) (h1 : x < t.outs.length) (hx : bA ex x.toNat = true) :
    (0 ≤ ofV (exI t ex) x ∧ ofV (exI t ex) x < (prnA t kp ex).outs.length) ∧ outAt (prnA t kp ex) (ofV (exI t ex) x) = outM (prnL t kp (exI t ex) t.ins.length).2 (outAt t x) := by
  have h := keepL_at (f := bA ex) (outAt_ge h0 h1) hx
  have e : ofV (exI t ex) x = _ := exM_at h0 h1
  have hl : (keepL (bA ex) (t.outs.take x.toNat)).length < (keepL (bA ex) t.outs).length := (List.getElem?_eq_some_iff.1 h).1
  rw [e]
  refine ⟨⟨by omega, ?_⟩, ?_⟩
  · show _ < ((((keepL (bA ex) t.outs).map _).length : Nat) : Int)
    rw [List.length_map]; omega
  · show ((keepL (bA ex) t.outs).map _).getD _ _ = _
    rw [List.getD_eq_getElem?_getD, List.getElem?_map, Int.toNat_natCast, h]; rfl
theorem exs_named (ok : PrnOk t kp ex) {x : Int} (h0 : 0 ≤ x) (hx : bA ex x.toNat = true) : (∀ p ∈ (outAt t x).stack, bA kp p.toNat = true) ∧ ∀ p ∈ (outAt t x).back, bA kp p.toNat = true := by
  have h := ok.exs x.toNat hx
  have e : ((x.toNat : Nat) : Int) = x := by omega
  rw [e] at h
  exact ⟨fun p hp => h p (List.mem_append_left _ hp), fun p hp => h p (List.mem_append_right _ hp)⟩
/-- An exit that was named, in the other trace. -/
theorem prn_named (ok : PrnOk t kp ex) {x : Int} {k : Nat} (hk : k ≤ t.ins.length) (hx : OutV t x k) (hb : bA ex x.toNat = true) : OutV (prnA t kp ex) (ofV (exI t ex) x) (prnL t kp (exI t ex) k).1.length := by
  obtain ⟨h0, h1, h2, h3⟩ := hx
  obtain ⟨n1, n2⟩ := exs_named ok h0 hb
  obtain ⟨⟨a, b⟩, c⟩ := prn_out (kp := kp) h0 h1 hb
  obtain ⟨l', m', hl, hm⟩ := prn_pre (t := t) (kp := kp) (ex := ex) hk
  have hmap := prnL_map t kp (exI t ex) k hk
  refine ⟨a, b, ?_, ?_⟩
  · rw [c, named_iff, hl]
    unfold outM; dsimp only
    rw [hm, map_of_app m' hmap.len (named_iff.1 h2)]
    exact (hmap.named ⟨named_iff.1 h2, n1⟩).app (Nat.le_refl _) _
  · rw [c, named_iff, hl]
    unfold outM; dsimp only
    rw [hm, map_of_app m' hmap.len (named_iff.1 h3)]
    exact (hmap.named ⟨named_iff.1 h3, n2⟩).app (Nat.le_refl _) _
theorem prn_each (hr : RightV t) (ok : PrnOk t kp ex) : ∀ k, k ≤ t.ins.length → ∀ (j : Nat) (i : In5), (prnL t kp (exI t ex) k).1[j]? = some i → EachV (prnA t kp ex) j i ∧ (i.a = 1 → ∃ j ∈ t.ins, j.a = 1 ∧ j.b = i.b)
  | 0, _, j, i, h => by simp [prnL] at h
  | k + 1, hk, j, i, h => by
    have ih := prn_each hr ok k (by omega) j i
    have e1 : (prnL t kp (exI t ex) (k + 1)).1 = if bA kp k = true then (prnL t kp (exI t ex) k).1 ++ [renV (exI t ex) (insM (prnL t kp (exI t ex) k).2 (atL t.ins k))] else (prnL t kp (exI t ex) k).1 := rfl
    rw [e1] at h
    split at h
    · next hb =>
      by_cases hj : j < (prnL t kp (exI t ex) k).1.length
      · rw [List.getElem?_append_left hj] at h; exact ih h
      · rw [List.getElem?_append_right (by omega)] at h
        have hj0 : j - (prnL t kp (exI t ex) k).1.length = 0 := by
          rcases Nat.eq_zero_or_pos (j - (prnL t kp (exI t ex) k).1.length) with h' | h'
          · exact h'
          · rw [List.getElem?_eq_none (by simp; omega)] at h; cases h
        rw [hj0] at h
        obtain rfl := Option.some.inj h
        have hjj : j = (prnL t kp (exI t ex) k).1.length := by omega
        subst hjj
        have hE := atL_each hr (k := k) (by omega)
        obtain ⟨a1, a2, a3, a4, a5, a6⟩ := hE
        obtain ⟨o1, o2, o3⟩ := insM_op (prnL t kp (exI t ex) k).2 (atL t.ins k)
        obtain ⟨r1, r2, r3, r4⟩ := renV_a (exI t ex) (insM (prnL t kp (exI t ex) k).2 (atL t.ins k))
        have hmap := prnL_map t kp (exI t ex) k (by omega)
        obtain ⟨l', m', hl, hm⟩ := prn_pre (t := t) (kp := kp) (ex := ex) (k := k) (by omega)
        have rb : (atL t.ins k).a ≠ 6 → (renV (exI t ex) (insM (prnL t kp (exI t ex) k).2 (atL t.ins k))).b = (atL t.ins k).b := fun h => by rw [r4 (by rw [o1]; exact h), o2]
        refine ⟨⟨by rw [r1, o1]; exact a1, fun h => ?_, fun h => ?_, fun h => ?_, ?_, fun x hx => ?_⟩, fun h => ?_⟩
        · rw [r1, o1] at h; rw [rb (by omega)]; exact a2 h
        · rw [r1, o1] at h; rw [rb (by omega)]; exact a3 h
        · rw [r1, o1] at h; rw [rb (by omega)]; exact a4 h
        · rw [named_iff, hl, renV_uses, insM_uses]
          exact (hmap.named ⟨named_iff.1 a5, ok.uses k hb⟩).app (Nat.le_refl _) _
        · rw [renV_outs, outsV_op o1 o2 o3] at hx
          obtain ⟨y, hy, rfl⟩ := List.mem_map.1 hx
          exact prn_named ok (by omega) (a6 y hy) (ok.outs k hb y hy)
        · rw [r1, o1] at h
          refine ⟨atL t.ins k, ?_, h, (rb (by omega)).symm⟩
          exact List.mem_of_getElem? (i := k) (by rw [List.getElem?_eq_getElem (by omega), atL_get (List.getElem?_eq_getElem (by omega))])
    · exact ih h
theorem prn_right (hr : RightV t) (ok : PrnOk t kp ex) : RightV (prnA t kp ex) := by
  obtain ⟨q1, q2, q3⟩ := hr.head
  obtain ⟨_, hle⟩ := prnL_len t kp (exI t ex) t.ins.length
  obtain ⟨⟨_, _⟩, c⟩ := prn_out (kp := kp) hr.last.1 hr.last.2.1 ok.last
  refine ⟨⟨by rw [prnA_ins]; omega, ?_, q3⟩, fun k i hi => (prn_each hr ok _ (Nat.le_refl _) k i hi).1, fun k o ho => ?_, hr.cells, prn_named ok (Nat.le_refl _) hr.last ok.last, ?_⟩
  · show ((keepL (bA ex) t.outs).map _).length ≤ 300
    rw [List.length_map]
    have := keepL_len t.outs (bA ex); omega
  · have ho : ((keepL (bA ex) t.outs).map (outM (prnL t kp (exI t ex) t.ins.length).2))[k]? = some o := ho
    rw [List.getElem?_map] at ho
    obtain ⟨o', ho', rfl⟩ := Option.map_eq_some_iff.1 ho
    obtain ⟨j, hj⟩ := List.getElem?_of_mem (keepL_mem _ _ _ (List.mem_of_getElem? ho'))
    obtain ⟨e1, e2, e3, e4⟩ := hr.exits j o' hj
    exact ⟨e1, e2, by unfold outM; dsimp only; rw [List.length_map]; exact e3, by unfold outM; dsimp only; rw [List.length_map]; exact e4⟩
  · show 1 ≤ (outAt (prnA t kp ex) (ofV (exI t ex) t.last)).steps
    rw [c]
    exact hr.lastS
/-! ### What it does -/
/-- The values of places that give and are kept are those of their places in the other trace. -/
def SimK (ti : List In5) (kp : List Bool) (k : Nat) (m : List Int) (n n' : Nat) (e e' : En) : Prop := ∀ p : Int, 0 ≤ p → p < k → bA kp p.toNat = true → givesV (atL ti p).a = true → valV (idA n') (ofV m p) e' = valV (idA n) p e
theorem SimK.vals {ti : List In5} {k : Nat} {m : List Int} {n n' : Nat} {e e' : En} (h : SimK ti kp k m n n' e e') {ps : List Int} (hp : NamK ti kp ps k) : valsV (idA n') (ps.map (ofV m)) e' = valsV (idA n) ps e := by
  unfold valsV
  rw [List.map_map]
  apply List.map_congr_left
  intro p hp'
  obtain ⟨a, b, c⟩ := hp.1 p hp'
  exact h p a b (hp.2 p hp') c
theorem SimK.uses {k : Nat} {m : List Int} {n n' : Nat} {e e' : En} (h : SimK t.ins kp k m n n' e e') {wl : List Int} {s : StV} {i : In5} (hi : EachV t k i) (hu : ∀ p ∈ usesV i, bA kp p.toNat = true) : ocV i.a i.b (valV (idA n) i.c e) (valV (idA n) i.d e) s wl = ocV i.a i.b (valV (idA n') (insM m i).c e') (valV (idA n') (insM m i).d e') s wl := by
  obtain ⟨h1, h2, h3, h4, h5, h6⟩ := hi
  apply ocV_uses h2
  · intro hc
    obtain ⟨a, b, c⟩ := h5 _ hc
    have := h _ a b (hu _ hc) c
    rw [← this]
    rcases usesV_cases i with ⟨g1, g2⟩ | ⟨g1, g2⟩ | ⟨g1, g2⟩
    · rw [g2] at hc; cases hc
    · unfold insM; rw [if_neg (by omega), if_pos g1]
    · unfold insM; rw [if_pos g1]
  · intro hc
    rcases usesV_cases i with ⟨g1, g2⟩ | ⟨g1, g2⟩ | ⟨g1, g2⟩
    · omega
    · omega
    · have hd : i.d ∈ usesV i := by rw [g2]; simp
      obtain ⟨a, b, c⟩ := h5 _ hd
      have := h _ a b (hu _ hd) c
      rw [← this]
      unfold insM; rw [if_pos g1]
/-- Behind a step, in which the trace's instruction has no value, or is not kept. -/
theorem SimK.none {ti : List In5} {k : Nat} {m : List Int} {n n' : Nat} {e e' : En} (h : SimK ti kp k m n n' e e') (hl : m.length = k) (hg : givesV (atL ti k).a = false) (x : Int) (s s' : StV) : SimK ti kp (k + 1) (m ++ [x]) n n' { e with s := s } { e' with s := s' } := by
  intro p h0 h1 hb hp
  by_cases hk : p = k
  · subst hk; rw [hg] at hp; cases hp
  · rw [ofV_app _ h0 (by omega)]
    exact h p h0 (by omega) hb hp
theorem SimK.gone {ti : List In5} {k : Nat} {m : List Int} {n n' : Nat} {e e' : En} (h : SimK ti kp k m n n' e e') (hl : m.length = k) (hk : k < n) (hg : bA kp k = false) (x v : Int) (s s' : StV) : SimK ti kp (k + 1) (m ++ [x]) n n' (setV (idA n) k v { e with s := s }) { e' with s := s' } := by
  intro p h0 h1 hb hp
  by_cases hpk : p = k
  · subst hpk; rw [Int.toNat_natCast, hg] at hb; cases hb
  · rw [ofV_app _ h0 (by omega), val_ne (by omega) (by omega) h0 (by omega) hpk]
    exact h p h0 (by omega) hb hp
theorem SimK.some {ti : List In5} {k : Nat} {m : List Int} {n n' l : Nat} {e e' : En} (h : SimK ti kp k m n n' e e') (hl : m.length = k) (hk : k < n) (hl' : l < n') (hr : e.regs.length = n) (hr' : e'.regs.length = n')
    (hm : ∀ p : Int, 0 ≤ p → p < k → bA kp p.toNat = true → givesV (atL ti p).a = true → 0 ≤ ofV m p ∧ ofV m p < l) (v : Int) (s s' : StV) :
    SimK ti kp (k + 1) (m ++ [(l : Int)]) n n' (setV (idA n) k v { e with s := s }) (setV (idA n') l v { e' with s := s' }) := by
  intro p h0 h1 hb hp
  by_cases hpk : p = k
  · subst hpk
    rw [ofV_end (by rw [hl]), val_same (e := { e' with s := s' }) (by omega) (by omega) hr', val_same (e := { e with s := s }) (by omega) (by omega) hr]
  · obtain ⟨a, b⟩ := hm p h0 (by omega) hb hp
    rw [ofV_app _ h0 (by omega), val_ne (by omega) (by omega) a (by omega) (by omega), val_ne (by omega) (by omega) h0 (by omega) hpk]
    exact h p h0 (by omega) hb hp
/-- An exit, in the other trace: the same machine. -/
theorem SimK.leave (ok : PrnOk t kp ex) {k : Nat} {m m' : List Int} {n n' : Nat} {e e' : En} (h : SimK t.ins kp k m n n' e e') (hl : m.length = k) {x : Int} (hx : OutV t x k) (hb : bA ex x.toNat = true) (hm : (prnL t kp (exI t ex) t.ins.length).2 = m ++ m') (hs : e'.s = e.s) :
    leaveV (prnA t kp ex) (idA n') (ofV (exI t ex) x) e' = leaveV t (idA n) x e := by
  obtain ⟨x0, x1, x2, x3⟩ := hx
  obtain ⟨n1, n2⟩ := exs_named ok x0 hb
  obtain ⟨_, ho⟩ := prn_out (kp := kp) x0 x1 hb
  unfold leaveV
  rw [ho, hs, hm]
  unfold outM
  dsimp only
  rw [map_of_app m' hl (named_iff.1 x2), map_of_app m' hl (named_iff.1 x3), h.vals ⟨named_iff.1 x2, n1⟩, h.vals ⟨named_iff.1 x3, n2⟩]
  rfl
end
end Go.Proofs.YtblmoilneiffgaaGreat

/- Package prune: which places and exits are named. -/
set_option maxRecDepth 100000
namespace Go.Proofs.YtblmoilneiffgaaGreat
open Go.RowKit

/-- Flags as elements of lists. -/
def boE : Enc Bool := ⟨T_bool, 1, 1, fun b => [.bool b], by intro x; rfl, by intro x u hu; simp at hu; subst hu; rfl, by decide⟩
theorem boOk : EncOk Tryz.prog boE T_sl_bool := EncOk.of (z := .bool false) (by kernel_rfl) (by kernel_rfl) (by kernel_rfl)
theorem fl_rep_bo (n : Nat) : fl boE (List.replicate n false) = List.replicate n (Value.bool false) := by
  induction n with
  | zero => rfl
  | succ m ih => rw [List.replicate_succ, List.replicate_succ, fl_cons, ih]; rfl
/-- make([]bool, n). -/
theorem make_bools {w : World} {n : Int} {N : Nat} (hn : n = (N : Int)) (hN : N ≤ 1000000) : ∃ w' : World, (Instr.makeSlice T_sl_bool (.int .i64 n) (.int .i64 n)).run Tryz.prog w = .ok (⟨some ⟨w.heap.size, 0, none⟩, N, N⟩ : Sl).val w' ∧ Ow boE w' ⟨some ⟨w.heap.size, 0, none⟩, N, N⟩ (List.replicate N false) ∧ Chg No w w' := by
  subst hn
  obtain ⟨i, z, hi, hz, h1, h2, h3⟩ := boOk.info
  have hz0 : z = .bool false := by
    have e : (Tryz.prog.info? T_bool).bind (·.zero) = some (.bool false) := by kernel_rfl
    have hi' : Tryz.prog.info? T_bool = some i := hi
    rw [hi'] at e
    exact Option.some.inj (hz.symm.trans e)
  subst hz0
  have h1' : i.size = 1 := h1
  have h2' : i.bytes = 1 := h2
  have hr := run_make (P := Tryz.prog) w T_sl_bool T_bool i (.bool false) boOk.und hi hz .i64 .i64 (N : Int) (N : Int) (by omega) (by omega) (by rw [h2']; omega) (by omega)
  rw [Int.toNat_natCast, h1', Nat.mul_one] at hr
  have hz1 : (Value.bool false).cells = #[.bool false] := rfl
  rw [hz1] at hr
  refine ⟨_, hr, ?_, Chg.alloc _ _ _⟩
  have hm : madeCells #[Value.bool false] N = (List.replicate N (Value.bool false)).toArray := Array.ext' (by rw [madeOne])
  rw [hm]
  have := Ow.lit (E := boE) w (List.replicate N false) (List.replicate N (Value.bool false)) (fl_rep_bo N).symm (by rw [List.length_replicate]; unfold maxLen; omega)
  rw [List.length_replicate] at this
  exact this

def needC (t : TrP) (iS eS : Sl) : List Value := [.int .i64 t.start, .int .i64 t.slots, .int .i64 t.backs, .int .i64 t.grow, .int .i64 t.growBack, t.ins.val, t.outs.val, .int .i64 t.last, t.cells.val, iS.val, eS.val]
/-- The blocks of its lists. -/
def NdB (iS eS : Sl) : Nat → Prop := fun k => iS.blk = some k ∨ eS.blk = some k
/-- What is named stands at p; its lists are made behind w0. -/
structure NdAt (w0 w : World) (p : Nat) (t : TrP) (iS eS : Sl) (n : Ned) : Prop where
  ob : Ob w p (needC t iS eS) T_prune_need
  ins : Ow boE w iS n.ins
  exs : Ow boE w eS n.exs
  iN : ∀ k, iS.blk = some k → w0.heap.size ≤ k ∧ k ≠ p ∧ eS.blk ≠ some k
  eN : ∀ k, eS.blk = some k → w0.heap.size ≤ k ∧ k ≠ p
  base : Chg No w0 w
section
variable {w0 w : World} {p : Nat} {t : TrP} {iS eS : Sl} {n : Ned}
theorem NdAt.nb (h : NdAt w0 w p t iS eS n) {k : Nat} (hk : NdB iS eS k) : w0.heap.size ≤ k ∧ k ≠ p ∧ k < w.heap.size := by
  rcases hk with hk | hk
  · exact ⟨(h.iN k hk).1, (h.iN k hk).2.1, h.ins.lt hk⟩
  · exact ⟨(h.eN k hk).1, (h.eN k hk).2, h.exs.lt hk⟩
theorem NdAt.no {w' : World} (h : NdAt w0 w p t iS eS n) (c : Chg No w w') : NdAt w0 w' p t iS eS n := ⟨h.ob.no c, h.ins.no c, h.exs.no c, h.iN, h.eN, trN h.base c⟩
/-- Behind a change of other blocks, made behind w0. -/
theorem NdAt.chg {w' : World} {S : Nat → Prop} (h : NdAt w0 w p t iS eS n) (c : Chg S w w') (hS : ∀ k, S k → ¬ NdB iS eS k ∧ k ≠ p ∧ w0.heap.size ≤ k) : NdAt w0 w' p t iS eS n :=
  ⟨h.ob.chg c (fun hk => (hS _ hk).2.1 rfl), h.ins.chg c (fun k hk he => (hS _ he).1 (Or.inl hk)), h.exs.chg c (fun k hk he => (hS _ he).1 (Or.inr hk)), h.iN, h.eN, h.base.trans c (fun _ _ h => h) (fun k hk he => by have := (hS k he).2.2; omega)⟩
theorem nplaces_any (h : NdAt w0 w p t iS eS n) {l : Sl} {ps : List Int} (hl : ∀ w', Chg No w0 w' → Chg (NdB iS eS) w w' → Rd intE w' l ps) (hp : ∀ x ∈ ps, 0 ≤ x ∧ x < n.ins.length) (hn : ps.length ≤ 1000000) :
    Calls Tryz.prog fn_prune_need_places #[.pointer (some ⟨p, 0, none⟩), l.val] w fun e w' => e = .returned (.tuple #[]) ∧ NdAt w0 w' p t iS eS ⟨placesV n.ins ps, n.exs⟩ ∧ Chg (NdB iS eS) w w' := by
  refine (prune_need_places_lift (K := fun r w' => r = .tuple #[] ∧ NdAt w0 w' p t iS eS ⟨placesV n.ins ps, n.exs⟩ ∧ Chg (NdB iS eS) w w') ?_).mono (by rintro e w' ⟨r, rfl, rfl, h⟩; exact ⟨rfl, h⟩)
  unfold prune_need_places_sh
  have hll := (hl w h.base (Chg.refl _ _)).len
  refine ⟨fun m w' => ∃ k : Nat, m = k ∧ k ≤ ps.length ∧ NdAt w0 w' p t iS eS ⟨placesV n.ins (ps.take k), n.exs⟩ ∧ Chg (NdB iS eS) w w', fun m _ => ps.length - m.toNat, ⟨0, rfl, Nat.zero_le _, h, Chg.refl _ _⟩, ?_⟩
  rintro m w3 ⟨k, rfl, hk, h3, c3⟩
  refine brB_of (fun hlt => ?_) (fun hlt => ?_)
  · have hlt : k < ps.length := by simp at hlt; omega
    obtain ⟨x, hx⟩ : ∃ x, ps[k]? = some x := ⟨_, List.getElem?_eq_getElem hlt⟩
    obtain ⟨x0, x1⟩ := hp x (List.mem_of_getElem? hx)
    refine (hl w3 h3.base c3).ix (i := (k : Int)) (by omega) (by rw [Int.toNat_natCast]; exact hx) fun a _ hcell => ?_
    have q := hcell 0 _ rfl
    rw [add0] at q
    refine ⟨x, q, iS, h3.ob.cell rfl, ?_⟩
    have hlen : (placesV n.ins (ps.take k)).length = n.ins.length := placesV_len _ _
    refine h3.ins.rd.ix x0 (bA_get (by rw [hlen]; omega)) fun a' ha' _ => ?_
    obtain ⟨f1, f2⟩ := h3.ins.set1 ha' (k := x.toNat) (j := 0) (x' := true) (u := .bool true) (bA_get (by rw [hlen]; omega)) (by decide) rfl
    rw [add0] at f1 f2
    refine ⟨f1, fun w9 hw9 => ?_⟩
    rw [wr_in (by omega)]
    have c9 : Chg (fun k => iS.blk = some k) w3 w9 := by rw [hw9]; exact Chg.st (S := fun k => iS.blk = some k) (by rw [add_block]; exact blk_ptr ha')
    have hst : placesV n.ins (ps.take (k + 1)) = (placesV n.ins (ps.take k)).set x.toNat true := by
      rw [List.take_add_one, hx]; unfold placesV; rw [List.foldl_append]; rfl
    refine ⟨⟨k + 1, by omega, by omega, ?_, c3.trans c9 (fun _ _ h => h) (fun _ _ h => Or.inl h)⟩, by show ps.length - Int.toNat ((k : Int) + 1) < ps.length - Int.toNat (k : Int); omega⟩
    rw [hst]
    exact ⟨h3.ob.chg c9 (fun he => (h3.iN p he).2.1 rfl), by rw [hw9]; exact f2, h3.exs.chg c9 (fun k hk he => (h3.iN k he).2.2 hk), h3.iN, h3.eN, h3.base.trans c9 (fun _ _ h => h) (fun k hk he => by have := (h3.iN k he).1; omega)⟩
  · have hlt : k = ps.length := by simp at hlt; omega
    subst hlt
    rw [List.take_length] at h3
    exact ⟨rfl, h3, c3⟩
theorem nexit_any {D : Nat → Prop} (h : NdAt w0 w p t iS eS n) {v : TrG} (ht : TrIs D w0 t v) (hr : RightV v) (hli : n.ins.length = v.ins.length) (hlx : n.exs.length = v.outs.length) {x : Int} {k : Nat} (hk : k ≤ v.ins.length) (hx : OutV v x k) :
    Calls Tryz.prog fn_prune_need_exit #[.pointer (some ⟨p, 0, none⟩), .int .i64 x] w fun e w' => e = .returned (.tuple #[]) ∧ NdAt w0 w' p t iS eS (exitN v n x) ∧ Chg (NdB iS eS) w w' := by
  refine (prune_need_exit_lift (K := fun r w' => r = .tuple #[] ∧ NdAt w0 w' p t iS eS (exitN v n x) ∧ Chg (NdB iS eS) w w') ?_).mono (by rintro e w' ⟨r, rfl, rfl, h⟩; exact ⟨rfl, h⟩)
  unfold prune_need_exit_sh
  obtain ⟨x0, x1, x2, x3⟩ := hx
  refine ⟨eS, h.ob.cell rfl, ?_⟩
  refine h.exs.rd.ix x0 (bA_get (by omega)) fun a ha hcell => ?_
  have q := hcell 0 _ rfl
  rw [add0] at q
  refine ⟨_, q, brB_of (fun hb => ?_) (fun hb => ?_)⟩
  · have hb : ¬ bA n.exs x.toNat = true := by simpa using hb
    refine ⟨eS, h.ob.cell rfl, a, ha, x0, by rw [h.exs.rd.len]; omega, ?_⟩
    obtain ⟨f1, f2⟩ := h.exs.set1 ha (k := x.toNat) (j := 0) (x' := true) (u := .bool true) (bA_get (by omega)) (by decide) rfl
    rw [add0] at f1 f2
    refine ⟨f1, fun w8 hw8 => ?_⟩
    have c8 : Chg (fun k => eS.blk = some k) w w8 := by rw [hw8]; exact Chg.st (S := fun k => eS.blk = some k) (by rw [add_block]; exact blk_ptr ha)
    have h8 : NdAt w0 w8 p t iS eS ⟨n.ins, n.exs.set x.toNat true⟩ :=
      ⟨h.ob.chg c8 (fun he => (h.eN p he).2 rfl), h.ins.chg c8 (fun k hk he => (h.iN k hk).2.2 he), by rw [hw8]; exact f2, h.iN, h.eN, h.base.trans c8 (fun _ _ h => h) (fun k hk he => by have := (h.eN k he).1; omega)⟩
    have cb8 : Chg (NdB iS eS) w w8 := c8.mono (fun _ _ h => Or.inr h)
    obtain ⟨os, hos, hov⟩ := ht.outs
    obtain ⟨o, ho⟩ : ∃ o, os[x.toNat]? = some o := ⟨_, List.getElem?_eq_getElem (by rw [hov.1]; omega)⟩
    obtain ⟨_, _, u3, u4, _, _⟩ := hov.2 _ _ _ ho (outAt_ge x0 x1)
    obtain ⟨_, _, e3, e4⟩ := hr.exits _ _ (outAt_ge x0 x1)
    obtain ⟨_, _, _, q3, q4, q5, q6⟩ := hr.head
    refine ⟨t.outs, h8.ob.cell rfl, ?_⟩
    refine (hos.no h8.base).ix x0 ho fun a1 _ hc1 => ?_
    refine ⟨o.stack, hc1 2 _ rfl, ?_⟩
    refine (nplaces_any h8 (fun w' c _ => u3.no c) (fun y hy => by have := x2 y hy; show 0 ≤ y ∧ y < ((n.ins.length : Nat) : Int); omega) (by omega)).mono ?_
    rintro e w13 ⟨rfl, h13, c13⟩
    refine ⟨rfl, t.outs, h13.ob.cell rfl, ?_⟩
    refine (hos.no h13.base).ix x0 ho fun a2 _ hc2 => ?_
    refine ⟨o.back, hc2 3 _ rfl, ?_⟩
    refine (nplaces_any h13 (fun w' c _ => u4.no c) (fun y hy => by have := x3 y hy; show 0 ≤ y ∧ y < (((placesV n.ins _).length : Nat) : Int); rw [placesV_len]; omega) (by omega)).mono ?_
    rintro e w18 ⟨rfl, h18, c18⟩
    refine ⟨rfl, rfl, ?_, (cb8.trans c13 (fun _ _ h => h) (fun _ _ h => h)).trans c18 (fun _ _ h => h) (fun _ _ h => h)⟩
    unfold exitN
    rw [if_neg hb]; exact h18
  · have hb : bA n.exs x.toNat = true := by simpa using hb
    refine ⟨rfl, ?_, Chg.refl _ _⟩
    unfold exitN
    rw [if_pos hb]; exact h
theorem exitsN_snoc (v : TrG) (n : Ned) (xs : List Int) (x : Int) : exitsN v n (xs ++ [x]) = exitN v (exitsN v n xs) x := by unfold exitsN; rw [List.foldl_append]; rfl
theorem outsV_len (i : In5) : (outsV i).length ≤ 2 := by rcases outsV_cases i with ⟨g, _⟩ | ⟨g, _⟩ | ⟨g, _⟩ <;> omega
theorem usesV_len (i : In5) : (usesV i).length ≤ 2 := by rcases usesV_cases i with ⟨g, _⟩ | ⟨g, _⟩ | ⟨g, _⟩ <;> omega
theorem nall_any {D : Nat → Prop} (h : NdAt w0 w p t iS eS n) {v : TrG} (ht : TrIs D w0 t v) (hr : RightV v) (hli : n.ins.length = v.ins.length) (hlx : n.exs.length = v.outs.length) {i : In5} {k : Nat} (hk : k ≤ v.ins.length) (hi : EachV v k i) :
    Calls Tryz.prog fn_prune_need_all #[.pointer (some ⟨p, 0, none⟩), .agg (insC i).toArray] w fun e w' => e = .returned (.tuple #[]) ∧ NdAt w0 w' p t iS eS (allN v n i) ∧ Chg (NdB iS eS) w w' := by
  refine (prune_need_all_lift (K := fun r w' => r = .tuple #[] ∧ NdAt w0 w' p t iS eS (allN v n i) ∧ Chg (NdB iS eS) w w') ?_).mono (by rintro e w' ⟨r, rfl, rfl, h⟩; exact ⟨rfl, h⟩)
  unfold prune_need_all_sh
  intro b7 w8 hb7 hw8
  have c8 := al hw8
  have z8 : w8.heap.size = w.heap.size + 1 := by rw [hw8]; simp
  have o8 : Ob w8 b7 (insC i) T_api_Ins := by rw [hw8, hb7]; exact Ob.new w (insC i) T_api_Ins
  have nb : ∀ k, NdB iS eS k → k < w.heap.size := fun k hk => (h.nb hk).2.2
  refine ⟨_, _, _, _, _, o8.cell rfl, o8.cell rfl, o8.cell rfl, o8.cell rfl, o8.cell rfl, (iuses_any i w8).mono ?_⟩
  rintro e w15 ⟨r, rfl, s16, rfl, g16, c15, n16⟩
  have h15 := (h.no c8).no c15
  have z15 := c15.size
  refine ⟨s16, rfl, (nplaces_any h15 (fun w' _ c => g16.rd.chg c (fun k hk he => by have := n16 k hk; have := nb k he; omega)) (fun y hy => by have := hi.2.2.2.2.1 y hy; omega) (by have := usesV_len i; omega)).mono ?_⟩
  rintro e w18 ⟨rfl, h18, c18⟩
  have o18 := (o8.no c15).chg c18 (fun he => by have := nb _ he; omega)
  have z18 := c18.size
  have c1 : Chg (NdB iS eS) w w18 := (trN c8 c15).trans c18 (fun _ _ h => h.elim) (fun _ _ h => h)
  refine ⟨rfl, _, _, _, _, _, o18.cell rfl, o18.cell rfl, o18.cell rfl, o18.cell rfl, o18.cell rfl, (iouts_any i w18).mono ?_⟩
  rintro e w25 ⟨r, rfl, s26, rfl, g26, c25, n26⟩
  have h25 := h18.no c25
  have z25 := c25.size
  have c2 := c1.trans c25 (U := NdB iS eS) (fun _ _ h => h) (fun _ _ h => h.elim)
  have hl26 := g26.rd.len
  have hol := outsV_len i
  refine ⟨s26, rfl, fun m w' => ∃ k : Nat, m = k ∧ k ≤ (outsV i).length ∧ NdAt w0 w' p t iS eS (exitsN v ⟨placesV n.ins (usesV i), n.exs⟩ ((outsV i).take k)) ∧ Chg (NdB iS eS) w25 w', fun m _ => (outsV i).length - m.toNat, ⟨0, rfl, Nat.zero_le _, h25, Chg.refl _ _⟩, ?_⟩
  rintro m w27 ⟨j, rfl, hj, h27, c27⟩
  refine brB_of (fun hlt => ?_) (fun hlt => ?_)
  · have hlt : j < (outsV i).length := by simp at hlt; omega
    obtain ⟨x, hx⟩ : ∃ x, (outsV i)[j]? = some x := ⟨_, List.getElem?_eq_getElem hlt⟩
    have hxo := hi.2.2.2.2.2 x (List.mem_of_getElem? hx)
    refine (g26.rd.chg c27 (fun k hk he => by have := n26 k hk; have := nb k he; omega)).ix (i := (j : Int)) (by omega) (by rw [Int.toNat_natCast]; exact hx) fun a _ hcell => ?_
    have q := hcell 0 _ rfl
    rw [add0] at q
    have hup := (up_exits (t := v) (k := k) ((outsV i).take j) ⟨placesV n.ins (usesV i), n.exs⟩ (by rw [← hli]; exact placesV_len _ _) hlx (fun y hy => hi.2.2.2.2.2 y (List.mem_of_mem_take hy)) hk).1
    refine ⟨x, q, (nexit_any h27 ht hr (hup.li.trans (by rw [← hli]; exact placesV_len _ _)) (hup.lx.trans hlx) hk hxo).mono ?_⟩
    rintro e w32 ⟨rfl, h32, c32⟩
    refine ⟨rfl, ?_⟩
    rw [wr_in (by omega)]
    refine ⟨⟨j + 1, by omega, by omega, ?_, c27.trans c32 (fun _ _ h => h) (fun _ _ h => h)⟩, by show (outsV i).length - Int.toNat ((j : Int) + 1) < (outsV i).length - Int.toNat (j : Int); omega⟩
    rw [List.take_add_one, hx]
    show NdAt w0 w32 p t iS eS (exitsN v _ ((outsV i).take j ++ [x]))
    rw [exitsN_snoc]; exact h32
  · have hlt : j = (outsV i).length := by simp at hlt; omega
    subst hlt
    rw [List.take_length] at h27
    exact ⟨rfl, h27, c2.trans c27 (fun _ _ h => h) (fun _ _ h => h)⟩
theorem npure_any (i : In5) (w : World) : Calls Tryz.prog fn_prune_pure #[.agg (insC i).toArray] w fun e w' => e = .returned (.bool (pureV i)) ∧ Chg No w w' := by
  refine (prune_pure_lift (K := fun r w' => r = .bool (pureV i) ∧ Chg No w w') ?_).mono (by rintro e w' ⟨r, rfl, rfl, h⟩; exact ⟨rfl, h⟩)
  unfold prune_pure_sh
  intro b6 w7 hb6 hw7
  have c7 := al hw7
  have o7 : Ob w7 b6 (insC i) T_api_Ins := by rw [hw7, hb6]; exact Ob.new w (insC i) T_api_Ins
  have j1 : ∀ b : Bool, (b = true → i.a = 1 ∨ i.a = 2) → (b = false → i.a ≠ 1 ∧ i.a ≠ 2) → prune_pure_j1 i.a b6 b w7 (fun r w' => r = .bool (pureV i) ∧ Chg No w w') := by
    intro b h1 h2
    unfold prune_pure_j1
    refine brB_of (fun hb => ⟨?_, c7⟩) (fun hb => ?_)
    · have h1 := h1 hb
      rw [show pureV i = true by unfold pureV; exact decide_eq_true (by omega)]
    have h2 := h2 hb
    refine brB_of (fun h3 => ⟨?_, c7⟩) (fun h3 => ?_)
    · have h3 : i.a = 3 := by simpa using h3
      rw [show pureV i = true by unfold pureV; exact decide_eq_true (by omega)]
    have h3 : i.a ≠ 3 := by simpa using h3
    refine brB_of (fun h4 => ?_) (fun h4 => ⟨?_, c7⟩)
    · have h4 : i.a = 4 := by simpa using h4
      refine ⟨_, _, _, _, _, o7.cell rfl, o7.cell rfl, o7.cell rfl, o7.cell rfl, o7.cell rfl, (iouts_any i w7).mono ?_⟩
      rintro e w20 ⟨r, rfl, s21, rfl, g21, c20, _⟩
      refine ⟨s21, rfl, ?_, trN c7 c20⟩
      have hl := g21.rd.len
      rw [hl]
      unfold pureV
      congr 1
      rw [Bool.eq_iff_iff]
      simp only [beq_iff_eq, decide_eq_true_eq]
      constructor
      · intro h; exact Or.inr (Or.inr (Or.inr ⟨h4, List.length_eq_zero_iff.1 (by omega)⟩))
      · rintro (h | h | h | ⟨_, h⟩)
        · omega
        · omega
        · omega
        · rw [h]; rfl
    · have h4 : i.a ≠ 4 := by simpa using h4
      rw [show pureV i = false by unfold pureV; exact decide_eq_false (by omega)]
  refine ⟨i.a, o7.cell rfl, brB_of (fun h1 => ?_) (fun h1 => ?_)⟩
  · have h1' : i.a = 1 := by simpa using h1
    exact j1 _ (fun _ => Or.inl h1') (fun h => by rw [h1'] at h; cases h)
  · have h1' : i.a ≠ 1 := by simpa using h1
    refine j1 _ (fun h => Or.inr (by simpa using h)) (fun h => ⟨h1', by simpa using h⟩)
end
theorem nbegin_any {D : Nat → Prop} {w : World} (t : TrP) {v : TrG} (ht : TrIs D w t v) (hr : RightV v) :
    Calls Tryz.prog fn_prune_begin #[.agg (trP t).toArray] w fun e w' => ∃ (p : Nat) (iS eS : Sl), e = .returned (.pointer (some ⟨p, 0, none⟩)) ∧ NdAt w w' p t iS eS (beginN v) ∧ w.heap.size ≤ p := by
  refine (prune_begin_lift (K := fun r w' => ∃ (p : Nat) (iS eS : Sl), r = .pointer (some ⟨p, 0, none⟩) ∧ NdAt w w' p t iS eS (beginN v) ∧ w.heap.size ≤ p) ?_).mono (by rintro e w' ⟨r, rfl, p, iS, eS, rfl, h⟩; exact ⟨p, iS, eS, rfl, h⟩)
  unfold prune_begin_sh
  intro b10 w11 hb10 hw11
  have c11 := al hw11
  have o11 : Ob w11 b10 (trP t) T_api_Trace := by rw [hw11, hb10]; exact Ob.new w (trP t) T_api_Trace
  have z11 : w11.heap.size = w.heap.size + 1 := by rw [hw11]; simp
  refine ⟨fun q w' => ∃ (p : Nat) (iS eS : Sl), q = some ⟨p, 0, none⟩ ∧ NdAt w w' p t iS eS ⟨List.replicate v.ins.length false, List.replicate v.outs.length false⟩ ∧ w.heap.size ≤ p ∧ Ob w' b10 (trP t) T_api_Trace, ?_, ?_⟩
  · rintro q w37 ⟨p, iS, eS, rfl, h37, hp, o37⟩
    have hlast : t.last = v.last := ht.nums.2.2.2.2.2
    refine ⟨t.last, o37.cell rfl, ?_⟩
    rw [hlast]
    refine (nexit_any h37 ht hr (by simp) (by simp) (Nat.le_refl _) hr.last).mono ?_
    rintro e w41 ⟨rfl, h41, c41⟩
    exact ⟨rfl, p, iS, eS, rfl, h41, hp⟩
  intro w12 hw12
  have c12 := dw hw12
  have o12 := o11.no c12
  have k12 := trN c11 c12
  have hil := ht.ins.len
  obtain ⟨os, hos, hov⟩ := ht.outs
  have hol := hos.len
  have hov1 := hov.1
  obtain ⟨q1, q2, _⟩ := hr.head
  have hd : ∀ {j : Nat} {u : Value}, (trP t)[j]? = some u → held (fun w' => Chg No w12 w') ⟨b10, j, none⟩ u := fun h => Ob.held (fun w' c => o12.no c) h
  have z12 := c12.size
  refine ⟨fun w' => Chg No w12 w', Chg.refl _ _, _, _, _, _, _, _, _, _, _, hd rfl, hd rfl, hd rfl, hd rfl, hd rfl, hd rfl, hd rfl, hd rfl, hd rfl, t.ins, hd rfl, t.outs, hd rfl, ?_, ?_⟩
  · rw [hil, hol, hov1]
    obtain ⟨w26, r26, g26, c26⟩ := make_bools (w := w12) (n := (v.ins.length : Int)) (N := v.ins.length) rfl (by omega)
    obtain ⟨w28, r28, g28, c28⟩ := make_bools (w := w26) (n := (v.outs.length : Int)) (N := v.outs.length) rfl (by omega)
    refine ⟨_, w26, r26, c26, _, w28, r28, trN c26 c28, ?_⟩
    intro b29 w30 hb29 hw30
    have c30 := al hw30
    have l26 := g26.lt (k := w12.heap.size) rfl
    have l28 := g28.lt (k := w26.heap.size) rfl
    have z26 := c26.size
    have z28 := c28.size
    refine ⟨b29, _, _, rfl, ⟨?_, (g26.no c28).no c30, g28.no c30, fun k hk => ?_, fun k hk => ?_, trN (trN (trN k12 c26) c28) c30⟩, by omega, ((o12.no c26).no c28).no c30⟩
    · rw [hw30, hb29]; exact Ob.new w28 (needC t _ _) T_prune_need
    · have hk : w12.heap.size = k := Option.some.inj hk
      refine ⟨by omega, by omega, fun he => ?_⟩
      have he : w26.heap.size = k := Option.some.inj he
      omega
    · have hk : w26.heap.size = k := Option.some.inj hk
      omega
  · rw [hil, hol, hov1]
    obtain ⟨w32, r32, g32, c32⟩ := make_bools (w := w12) (n := (v.outs.length : Int)) (N := v.outs.length) rfl (by omega)
    obtain ⟨w34, r34, g34, c34⟩ := make_bools (w := w32) (n := (v.ins.length : Int)) (N := v.ins.length) rfl (by omega)
    refine ⟨_, w32, r32, c32, _, w34, r34, trN c32 c34, ?_⟩
    intro b35 w36 hb35 hw36
    have c36 := al hw36
    have l32 := g32.lt (k := w12.heap.size) rfl
    have l34 := g34.lt (k := w32.heap.size) rfl
    have z32 := c32.size
    have z34 := c34.size
    refine ⟨b35, _, _, rfl, ⟨?_, g34.no c36, (g32.no c34).no c36, fun k hk => ?_, fun k hk => ?_, trN (trN (trN k12 c32) c34) c36⟩, by omega, ((o12.no c32).no c34).no c36⟩
    · rw [hw36, hb35]; exact Ob.new w34 (needC t _ _) T_prune_need
    · have hk : w32.heap.size = k := Option.some.inj hk
      refine ⟨by omega, by omega, fun he => ?_⟩
      have he : w12.heap.size = k := Option.some.inj he
      omega
    · have hk : w12.heap.size = k := Option.some.inj hk
      omega
/-- An instruction with exits by their new numbers. -/
theorem nren_any {w : World} {m : Sl} {ms : List Int} (hm : Rd intE w m ms) (i : In5) : Calls Tryz.prog fn_prune_renamed #[.agg (insC i).toArray, m.val] w fun e w' => e = .returned (.agg (insC (renV ms i)).toArray) ∧ Chg No w w' := by
  refine (prune_renamed_lift (K := fun r w' => r = .agg (insC (renV ms i)).toArray ∧ Chg No w w') ?_).mono (by rintro e w' ⟨r, rfl, rfl, h⟩; exact ⟨rfl, h⟩)
  unfold prune_renamed_sh
  intro b7 w8 hb7 hw8 b9 w10 hb9 hw10
  have c8 := al hw8
  have c10 := al hw10
  have z8 : w8.heap.size = w.heap.size + 1 := by rw [hw8]; simp
  have z10 : w10.heap.size = w8.heap.size + 1 := by rw [hw10]; simp
  have o7 : Ob w10 b7 (insC i) T_api_Ins := by
    have : Ob w8 b7 (insC i) T_api_Ins := by rw [hw8, hb7]; exact Ob.new w (insC i) T_api_Ins
    exact this.no c10
  have o9 : Ob w10 b9 (insC ⟨0, 0, 0, 0, 0⟩) T_api_Ins := by rw [hw10, hb9]; exact Ob.new w8 (insC ⟨0, 0, 0, 0, 0⟩) T_api_Ins
  have k10 := trN c8 c10
  have old : ∀ {w'}, Chg (fun k => k = b7) w10 w' → Chg No w w' := fun c => k10.trans c (fun _ _ h => h) (fun k hk he => by omega)
  refine ⟨fun w' => Ob w' b7 (insC (renV ms i)) T_api_Ins ∧ Chg (fun k => k = b7) w10 w', ?_, ?_⟩
  · rintro w30 ⟨p7, c30⟩
    have p9 := o9.chg c30 (fun he => by omega)
    refine ⟨_, _, _, _, _, p7.cell rfl, p7.cell rfl, p7.cell rfl, p7.cell rfl, p7.cell rfl, p9.wr (by simp [insC]), fun w36 hw36 => ?_⟩
    obtain ⟨q9, c36⟩ := p9.up (k := 0) (vs := insC (renV ms i)) (cs' := insC (renV ms i)) (by simp [insC]) rfl hw36
    refine ⟨_, _, _, _, _, q9.cell rfl, q9.cell rfl, q9.cell rfl, q9.cell rfl, q9.cell rfl, rfl, ?_⟩
    exact (old c30).trans c36 (fun _ _ h => h) (fun k hk he => by omega)
  refine ⟨_, _, _, _, _, o7.cell rfl, o7.cell rfl, o7.cell rfl, o7.cell rfl, o7.cell rfl, (iouts_any i w10).mono ?_⟩
  rintro e w17 ⟨r, rfl, s18, rfl, g18, c17, _⟩
  have hl := g18.rd.len
  have p7 := o7.no c17
  have cN : Chg (fun k => k = b7) w10 w17 := c17.mono (fun _ _ h => h.elim)
  refine ⟨s18, rfl, fun w' => (∃ b : Int, Ob w' b7 (insC { i with b := b }) T_api_Ins ∧ renV ms i = { i with b := b, e := ofV ms i.e }) ∧ Chg (fun k => k = b7) w10 w', ?_, ?_⟩
  · rintro w24 ⟨⟨b, q7, hM⟩, c24⟩
    refine ⟨_, q7.cell rfl, (mof_any (hm.no (old c24)) _).mono ?_⟩
    rintro e w27 ⟨rfl, rfl⟩
    refine ⟨_, rfl, q7.wr (by simp [insC]), fun w29 hw29 => ?_⟩
    obtain ⟨r7, c29⟩ := q7.up (k := 4) (vs := [.int .i64 (ofV ms i.e)]) (cs' := insC { i with b := b, e := ofV ms i.e }) (by simp [insC]) rfl hw29
    rw [hM]
    exact ⟨r7, c24.trans c29 (fun _ _ h => h) (fun _ _ h => h)⟩
  · refine brB_of (fun h2 => ?_) (fun h2 => ?_)
    · have h2 : (outsV i).length = 2 := by simp at h2; omega
      refine ⟨_, p7.cell rfl, (mof_any (hm.no (old cN)) _).mono ?_⟩
      rintro e w21 ⟨rfl, rfl⟩
      refine ⟨_, rfl, p7.wr (by simp [insC]), fun w23 hw23 => ?_⟩
      obtain ⟨r7, c23⟩ := p7.up (k := 1) (vs := [.int .i64 (ofV ms i.b)]) (cs' := insC { i with b := ofV ms i.b }) (by simp [insC]) rfl hw23
      exact ⟨⟨ofV ms i.b, r7, by unfold renV; rw [if_pos h2]⟩, cN.trans c23 (fun _ _ h => h) (fun _ _ h => h)⟩
    · have h2 : (outsV i).length ≠ 2 := by simp at h2; omega
      refine brB_of (fun h1 => ?_) (fun h1 => ?_)
      · have h1 : (outsV i).length = 1 := by simp at h1; omega
        exact ⟨⟨i.b, p7, by unfold renV; rw [if_neg h2, if_pos h1]⟩, cN⟩
      · have h1 : (outsV i).length ≠ 1 := by simp at h1; omega
        refine ⟨?_, cN⟩
        have : renV ms i = i := by unfold renV; rw [if_neg h2, if_neg h1]
        rw [this]; exact p7
end Go.Proofs.YtblmoilneiffgaaGreat

/- prune.Do. -/
set_option maxRecDepth 100000
namespace Go.Proofs.YtblmoilneiffgaaGreat
open Go.RowKit

theorem nn_ok {a : Addr} {G : Addr → Prop} (h : G a) : nn (some a) G := h
theorem cells_few {l : List Int} (hc : CellsV l) : l.length ≤ 3000 := by
  by_cases hz : l.length ≤ 3000
  · exact hz
  · exfalso
    have rise : ∀ (j : Nat) (c : Int), l[j]? = some c → (j : Int) ≤ c := by
      intro j
      induction j with
      | zero => intro c h; have := (hc 0 c h).1; omega
      | succ j ih =>
        intro c h
        have hj : j < l.length := by have := (List.getElem?_eq_some_iff.1 h).1; omega
        obtain ⟨d, hd⟩ : ∃ d, l[j]? = some d := ⟨_, List.getElem?_eq_getElem hj⟩
        have h1 := ih d hd
        have h2 := (hc (j + 1) c h).2 j d rfl hd
        omega
    obtain ⟨c, hcc⟩ : ∃ c, l[3000]? = some c := ⟨_, List.getElem?_eq_getElem (by omega)⟩
    have h1 := rise 3000 c hcc
    have h2 := (hc 3000 c hcc).1
    omega
theorem exM_snoc (ex : List Bool) (os : List OuV) (k : Nat) : exM ex os (k + 1) = exM ex os k ++ [((keepL (bA ex) (os.take k)).length : Int)] := by
  unfold exM; rw [List.range_succ, List.map_append]; rfl
theorem pdo_any {D : Nat → Prop} {w : World} (t : TrP) {v : TrG} (ht : TrIs D w t v) : Calls Tryz.prog fn_prune_Do #[.agg (trP t).toArray] w fun e w' => ∃ r, e = .returned r ∧ PassAns prnT t v w r w' := by
  refine (prune_Do_lift (K := fun r w' => PassAns prnT t v w r w') ?_).mono (by rintro e w' ⟨r, rfl, h⟩; exact ⟨r, rfl, h⟩)
  unfold prune_Do_sh
  intro b10 w11 hb10 hw11 b12 w13 hb12 hw13
  have c11 := al hw11
  have c13 := al hw13
  have z11 : w11.heap.size = w.heap.size + 1 := by rw [hw11]; simp
  have z13 : w13.heap.size = w11.heap.size + 1 := by rw [hw13]; simp
  have o10 : Ob w13 b10 (trP t) T_api_Trace := by
    have : Ob w11 b10 (trP t) T_api_Trace := by rw [hw11, hb10]; exact Ob.new w (trP t) T_api_Trace
    exact this.no c13
  have o12 : Ob w13 b12 (trP ⟨0, 0, 0, 0, 0, nilS, nilS, 0, nilS⟩) T_api_Trace := by rw [hw13, hb12]; exact Ob.new w11 (trP ⟨0, 0, 0, 0, 0, nilS, nilS, 0, nilS⟩) T_api_Trace
  have k13 := trN c11 c13
  refine ⟨_, _, _, _, _, _, _, _, _, o10.cell rfl, o10.cell rfl, o10.cell rfl, o10.cell rfl, o10.cell rfl, o10.cell rfl, o10.cell rfl, o10.cell rfl, o10.cell rfl, (iright_any t (ht.no k13)).mono ?_⟩
  rintro e w24 ⟨b, rfl, hb, c24⟩
  have k24 := trN k13 c24
  have p10 := o10.no c24
  have p12 := o12.no c24
  have z24 := c24.size
  refine ⟨b, rfl, brB_of (fun hno => ?_) (fun hyes => ?_)⟩
  · have hR : ¬ RightV v := fun h => by rw [hb.2 h] at hno; cases hno
    refine ⟨_, _, _, _, _, _, _, _, _, p10.cell rfl, p10.cell rfl, p10.cell rfl, p10.cell rfl, p10.cell rfl, p10.cell rfl, p10.cell rfl, p10.cell rfl, p10.cell rfl, p12.wr (by simp [trP]), fun w35 hw35 => ?_⟩
    obtain ⟨q12, c35⟩ := p12.up (k := 0) (vs := trP t) (cs' := trP t) (by simp [trP]) rfl hw35
    refine ⟨_, _, _, _, _, _, _, _, _, q12.cell rfl, q12.cell rfl, q12.cell rfl, q12.cell rfl, q12.cell rfl, q12.cell rfl, q12.cell rfl, q12.cell rfl, q12.cell rfl, t, rfl, k24.trans c35 (fun _ _ h => h) (fun k hk he => by omega), Or.inl ⟨hR, rfl⟩⟩
  have hR := hb.1 (by simpa using hyes)
  obtain ⟨q1, q2, q3⟩ := hR.head
  have hil := ht.ins.len
  obtain ⟨os, hos, hov⟩ := ht.outs
  have hol := hos.len
  have hov1 := hov.1
  refine ⟨_, _, _, _, _, _, _, _, _, p10.cell rfl, p10.cell rfl, p10.cell rfl, p10.cell rfl, p10.cell rfl, p10.cell rfl, p10.cell rfl, p10.cell rfl, p10.cell rfl, (nbegin_any t (ht.no k24) hR).mono ?_⟩
  rintro e w55 ⟨p, iS, eS, rfl, h55, hp⟩
  have r10 := p10.no h55.base
  refine ⟨_, rfl, t.ins, r10.cell rfl, ?_⟩
  rw [hil]
  obtain ⟨w59, r59, g59, c59⟩ := make_bools (w := w55) (n := (v.ins.length : Int)) (N := v.ins.length) rfl (by omega)
  refine ⟨_, w59, r59, t.ins, (r10.no c59).cell rfl, ?_⟩
  rw [hil]
  have z55 := h55.base.size
  have z59 := c59.size
  have l59 := g59.lt (k := w55.heap.size) rfl
  have plt := h55.ob.lt
  obtain ⟨kS, hkS⟩ : ∃ s : Sl, s = ⟨some ⟨w55.heap.size, 0, none⟩, v.ins.length, v.ins.length⟩ := ⟨_, rfl⟩
  have kSb : ∀ k, kS.blk = some k → k = w55.heap.size := fun k hk => by rw [hkS] at hk; exact (Option.some.inj hk).symm
  rw [← hkS] at g59
  rw [show (⟨some ⟨w55.heap.size, 0, none⟩, v.ins.length, v.ins.length⟩ : Sl) = kS from hkS.symm]
  have nbk : ∀ k, NdB iS eS k → k < w55.heap.size := fun k hk => (h55.nb hk).2.2
  have h59 := h55.no c59
  have hwr1 : wr ((v.ins.length : Int) - 1) = (v.ins.length : Int) - 1 := wr_in (by omega)
  rw [hwr1]
  refine ⟨fun m w' => ∃ (k : Nat) (q : Ned × List Bool), m = (k : Int) - 1 ∧ k ≤ v.ins.length ∧ NdAt w24 w' p t iS eS q.1 ∧ Ow boE w' kS q.2 ∧ KpN v k q ∧ backL v k q = finN v, fun m _ => (m + 1).toNat, ⟨v.ins.length, _, rfl, Nat.le_refl _, h59, g59, begin_ok hR, rfl⟩, ?_⟩
  rintro m w61 ⟨k, q, rfl, hk, h61, g61, hK, hfin⟩
  refine brB_of (fun hge => ?_) (fun hge => ?_)
  · obtain ⟨j, rfl⟩ : ∃ j, k = j + 1 := ⟨k - 1, by simp at hge; omega⟩
    have hm : (((j + 1 : Nat) : Int) - 1) = (j : Int) := by omega
    rw [hm]
    obtain ⟨i, hi⟩ : ∃ i, v.ins[j]? = some i := ⟨_, List.getElem?_eq_getElem (by omega)⟩
    have hat : atL v.ins j = i := atL_get hi
    have r61 := p10.no h61.base
    refine ⟨fun w' => NdAt w24 w' p t iS eS (backS v q j).1 ∧ Ow boE w' kS (backS v q j).2, ?_, fun w' => NdAt w24 w' p t iS eS q.1 ∧ Ow boE w' kS (q.2.set j (keepB v q.1 j)), ?_, ?_⟩
    · rintro w93 ⟨h93, g93⟩
      rw [wr_in (by omega)]
      exact ⟨⟨j, _, rfl, by omega, h93, g93, hK.step hR (by omega), hfin⟩, by show (((j : Int) - 1) + 1).toNat < ((j : Int) + 1).toNat; omega⟩
    · rintro w81 ⟨h81, g81⟩
      refine g81.rd.ix (i := (j : Int)) (by omega) (x := keepB v q.1 j) (by rw [Int.toNat_natCast, List.getElem?_set_self (by rw [hK.lk]; omega)]) fun a82 _ hcell => ?_
      have q82 := hcell 0 _ rfl
      rw [add0] at q82
      refine ⟨_, q82, brB_of (fun hkp => ?_) (fun hkp => ?_)⟩
      · have r81 := p10.no h81.base
        refine ⟨t.ins, r81.cell rfl, ?_⟩
        refine (ht.ins.no (trN k24 h81.base)).ix (i := (j : Int)) (by omega) (by rw [Int.toNat_natCast]; exact hi) fun a85 _ hc => ?_
        have g0 := hc 0 _ rfl
        rw [add0] at g0
        refine ⟨_, _, _, _, _, g0, hc 1 _ rfl, hc 2 _ rfl, hc 3 _ rfl, hc 4 _ rfl, ?_⟩
        refine (nall_any h81 (ht.no k24) hR hK.li hK.lx (k := j) (by omega) (hR.each j i hi)).mono ?_
        rintro e w92 ⟨rfl, h92, c92⟩
        refine ⟨rfl, ?_, ?_⟩
        · have : (backS v q j).1 = allN v q.1 i := by unfold backS; rw [if_pos hkp, hat]
          rw [this]; exact h92
        · exact g81.chg c92 (fun k hk he => by have := kSb k hk; have := nbk k he; omega)
      · refine ⟨?_, g81⟩
        have : (backS v q j).1 = q.1 := by unfold backS; rw [if_neg (by rw [hkp]; decide)]
        rw [this]; exact h81
    · refine nn_ok ⟨iS, ?_, ?_⟩
      · rw [add_mk]; exact h61.ob.cell rfl
      refine h61.ins.rd.ix (i := (j : Int)) (by omega) (x := bA q.1.ins j) (by rw [Int.toNat_natCast]; exact bA_get (by rw [hK.li]; omega)) fun a65 _ hcell => ?_
      have q65 := hcell 0 _ rfl
      rw [add0] at q65
      have keepw : ∀ {wx w68 : World} {u : Bool} (hx : NdAt w24 wx p t iS eS q.1) (gx : Ow boE wx kS q.2), ∃ a : Addr, kS.ptr = some a ∧ 0 ≤ (j : Int) ∧ (j : Int) < (kS.len : Int) ∧ wrOk wx (a.add (Int.toNat (j : Int) * 1)) 1 ∧ (w68 = stW wx (a.add (Int.toNat (j : Int) * 1)) 0 [.bool u] → NdAt w24 w68 p t iS eS q.1 ∧ Ow boE w68 kS (q.2.set j u)) := by
        intro wx w68 u hx gx
        refine gx.rd.ix (i := (j : Int)) (by omega) (x := bA q.2 j) (by rw [Int.toNat_natCast]; exact bA_get (by rw [hK.lk]; omega)) fun a ha _ => ?_
        obtain ⟨f1, f2⟩ := gx.set1 ha (k := j) (j := 0) (x' := u) (u := .bool u) (bA_get (by rw [hK.lk]; omega)) (by decide) rfl
        rw [add0] at f1 f2
        refine ⟨f1, fun hw => ⟨?_, by rw [hw]; exact f2⟩⟩
        have c : Chg (fun k => kS.blk = some k) wx w68 := by rw [hw]; exact Chg.st (S := fun k => kS.blk = some k) (by rw [add_block]; exact blk_ptr ha)
        refine hx.chg c (fun k hk => ?_)
        have := kSb k hk
        refine ⟨fun he => by have := nbk k he; omega, by omega, by omega⟩
      refine ⟨_, q65, brB_of (fun hb1 => ?_) (fun hb1 => ?_)⟩
      · have hkb : keepB v q.1 j = true := by unfold keepB; rw [hb1]; rfl
        obtain ⟨a, e1, e2, e3, e4, _⟩ := keepw (w68 := w61) (u := true) h61 g61
        refine ⟨a, e1, e2, e3, e4, fun w68 hw68 => ?_⟩
        obtain ⟨a', e1', _, _, _, e5⟩ := keepw (w68 := w68) (u := true) h61 g61
        rw [e1] at e1'; cases e1'
        rw [hkb]; exact e5 hw68
      · refine ⟨t.ins, r61.cell rfl, ?_⟩
        refine (ht.ins.no (trN k24 h61.base)).ix (i := (j : Int)) (by omega) (by rw [Int.toNat_natCast]; exact hi) fun a70 _ hc => ?_
        have g0 := hc 0 _ rfl
        rw [add0] at g0
        refine ⟨_, _, _, _, _, g0, hc 1 _ rfl, hc 2 _ rfl, hc 3 _ rfl, hc 4 _ rfl, (npure_any i w61).mono ?_⟩
        rintro e w77 ⟨rfl, c77⟩
        have hkb : keepB v q.1 j = !pureV i := by unfold keepB; rw [hb1, hat]; rfl
        obtain ⟨a, e1, e2, e3, e4, _⟩ := keepw (w68 := w61) (u := !pureV i) (h61.no c77) (g61.no c77)
        refine ⟨_, rfl, a, e1, e2, e3, e4, fun w80 hw80 => ?_⟩
        obtain ⟨a', e1', _, _, _, e5⟩ := keepw (w68 := w80) (u := !pureV i) (h61.no c77) (g61.no c77)
        rw [e1] at e1'; cases e1'
        rw [hkb]; exact e5 hw80
  have hk0 : k = 0 := by simp at hge; omega
  subst hk0
  have hq : q = finN v := hfin
  subst hq
  obtain ⟨ex, hex⟩ : ∃ ex, ex = (finN v).1.exs := ⟨_, rfl⟩
  obtain ⟨kp, hkp⟩ : ∃ kp, kp = (finN v).2 := ⟨_, rfl⟩
  have r61 := p10.no h61.base
  have k61 := trN k24 h61.base
  have z61 := h61.base.size
  have p61 := h61.ob.lt
  have lex : ex.length = v.outs.length := by rw [hex]; exact hK.lx
  have lkp : kp.length = v.ins.length := by rw [hkp]; exact hK.lk
  have hprn : prnT v = prnA v kp ex := by unfold prnT; rw [← hkp, ← hex]
  rw [← hkp] at g61
  have e61 : Ow boE w61 eS ex := by rw [hex]; exact h61.exs
  refine ⟨t.outs, r61.cell rfl, ?_⟩
  refine ⟨fun exs outs m w' => ∃ (k : Nat) (os' : List OuC), m = k ∧ k ≤ v.outs.length ∧ Ow intE w' exs (exM ex v.outs k) ∧ Ow ouE w' outs os' ∧ OusIs D w61 os' (keepL (bA ex) (v.outs.take k)) ∧ (∀ j, exs.blk = some j → w61.heap.size ≤ j ∧ outs.blk ≠ some j) ∧ (∀ j, outs.blk = some j → w61.heap.size ≤ j) ∧ Chg No w61 w', fun _ _ m _ => v.outs.length - m.toNat, ⟨0, [], rfl, Nat.zero_le _, Ow.nil _ _, Ow.nil _ _, ⟨by simp [keepL], fun i o v h => by simp at h⟩, (fun j hj => by cases hj), (fun j hj => by cases hj), Chg.refl _ _⟩, ?_⟩
  rintro exs outs m w95 ⟨k, os', rfl, hk, gx, go, hou, hxb, hob, c95⟩
  refine brB_of (fun hlt => ?_) (fun hlt => ?_)
  · have hlt : k < v.outs.length := by simp at hlt; omega
    obtain ⟨o, ho⟩ : ∃ o, os[k]? = some o := ⟨_, List.getElem?_eq_getElem (by omega)⟩
    obtain ⟨ov, hovk⟩ : ∃ o, v.outs[k]? = some o := ⟨_, List.getElem?_eq_getElem hlt⟩
    have hlk : os'.length = (keepL (bA ex) (v.outs.take k)).length := hou.1
    have hle := keepL_len (v.outs.take k) (bA ex)
    rw [List.length_take] at hle
    refine ⟨fun exs' outs' w' => ∃ os'' : List OuC, Ow intE w' exs' (exM ex v.outs (k + 1)) ∧ Ow ouE w' outs' os'' ∧ OusIs D w61 os'' (keepL (bA ex) (v.outs.take (k + 1))) ∧ (∀ j, exs'.blk = some j → w61.heap.size ≤ j ∧ outs'.blk ≠ some j) ∧ (∀ j, outs'.blk = some j → w61.heap.size ≤ j) ∧ Chg No w61 w', ?_, ?_⟩
    · rintro exs' outs' w123 ⟨os'', h1, h2, h3, h4, h5, h6⟩
      rw [wr_in (by omega)]
      exact ⟨⟨k + 1, os'', by omega, by omega, h1, h2, h3, h4, h5, h6⟩, by show v.outs.length - Int.toNat ((k : Int) + 1) < v.outs.length - Int.toNat (k : Int); omega⟩
    · refine (hos.no (trN k61 c95)).ix (i := (k : Int)) (by omega) (by rw [Int.toNat_natCast]; exact ho) fun a97 _ hc => ?_
      have g0 := hc 0 _ rfl
      rw [add0] at g0
      refine ⟨_, _, _, _, g0, hc 1 _ rfl, hc 2 _ rfl, hc 3 _ rfl, ?_⟩
      intro b102 w103 hb102 hw103
      have hn := fun (w2 : World) => newOb (w2 := w2) (T := T_api_Out) (ouC ⟨0, 0, nilS, nilS⟩) (ouC o) rfl hb102 hw103
      refine ⟨(hn w103).1, fun w104 hw104 => ?_⟩
      obtain ⟨o104, c104⟩ := (hn w104).2 hw104
      intro b107 w108 hb107 hw108
      have z104 := c104.size
      have hlo : outs.len = os'.length := go.rd.len
      rw [hlo] at hw108
      refine app1_gen mapOk (by decide) (x := (os'.length : Int)) rfl hb107 hw108 (gx.no c104) (trN c95 c104) (fun j hj => (hxb j hj).1) (by rw [exM_len]; omega) ?_
      intro s109 w110 g109 c110 cl b109
      rw [hlk, ← exM_snoc] at g109
      have hxlt : ∀ j, exs.blk = some j → j < w95.heap.size := fun j hj => gx.lt hj
      have holt : ∀ j, outs.blk = some j → j < w95.heap.size := fun j hj => go.lt hj
      have o110 := o104.chg cl (fun he => by have := hxlt _ he; omega)
      have go110 : Ow ouE w110 outs os' := (go.no c104).chg cl (fun j hj he => (hxb j he).2 hj)
      refine nn_ok ⟨eS, ?_, ?_⟩
      · rw [add_mk]; exact (h61.ob.no c110).cell rfl
      refine (e61.no c110).rd.ix (i := (k : Int)) (by omega) (x := bA ex k) (by rw [Int.toNat_natCast]; exact bA_get (by omega)) fun a113 _ hcell => ?_
      have q113 := hcell 0 _ rfl
      rw [add0] at q113
      have htk := keepL_take (f := bA ex) hovk
      refine ⟨_, q113, brB_of (fun hbx => ?_) (fun hbx => ?_)⟩
      · refine ⟨_, _, _, _, o110.cell rfl, o110.cell rfl, o110.cell rfl, o110.cell rfl, ?_⟩
        intro b119 w120 hb119 hw120
        refine app1_gen ousOk (by decide) (x := o) rfl hb119 hw120 go110 c110 hob (by omega) ?_
        intro s121 w122 g121 c122 cl2 b121
        rw [hbx] at htk
        have s109lt : ∀ j, s109.blk = some j → j < w110.heap.size := fun j hj => g109.lt hj
        refine ⟨os' ++ [o], g109.chg cl2 (fun j hj he => ?_), g121, ?_, fun j hj => ⟨(b109 j hj).1, fun he => ?_⟩, fun j hj => (b121 j hj).1, c122⟩
        · rcases (b109 j hj).2 with h | h
          · exact (hxb j h).2 he
          · have := holt j he; omega
        · rw [htk]
          exact hou.snoc (by
            obtain ⟨u1, u2, u3, u4, u5, u6⟩ := hov.2 _ _ _ ho hovk
            exact ⟨u1, u2, u3.no k61, u4.no k61, u5, u6⟩)
        · rcases (b121 j he).2 with h | h
          · rcases (b109 j hj).2 with h' | h'
            · exact (hxb j h').2 h
            · have := holt j h; omega
          · have := s109lt j hj; omega
      · rw [hbx] at htk
        refine ⟨os', g109, go110, ?_, fun j hj => ⟨(b109 j hj).1, fun he => ?_⟩, hob, c110⟩
        · rw [htk, if_neg (by decide), List.append_nil]; exact hou
        · rcases (b109 j hj).2 with h | h
          · exact (hxb j h).2 he
          · have := holt j he; omega
  have hlt : k = v.outs.length := by simp at hlt; omega
  subst hlt
  rw [List.take_length] at hou
  have gx' : Ow intE w95 exs (exI v ex) := gx
  have k95 := trN k61 c95
  have r95 := r61.no c95
  have g95 := g61.no c95
  refine ⟨t.ins, r95.cell rfl, ?_⟩
  refine ⟨fun m l n w' => ∃ k : Nat, n = k ∧ k ≤ v.ins.length ∧ Ow insE w' l (prnL v kp (exI v ex) k).1 ∧ Ow intE w' m (prnL v kp (exI v ex) k).2 ∧ (∀ j, l.blk = some j → w95.heap.size ≤ j) ∧ (∀ j, m.blk = some j → w95.heap.size ≤ j ∧ l.blk ≠ some j) ∧ Chg No w95 w', fun _ _ n _ => v.ins.length - n.toNat, ⟨0, rfl, Nat.zero_le _, Ow.nil _ _, Ow.nil _ _, (fun j hj => by cases hj), (fun j hj => by cases hj), Chg.refl _ _⟩, ?_⟩
  rintro m l n w125 ⟨k, rfl, hk, gl, gm, hlb, hmb, c125⟩
  have k125 := trN k95 c125
  refine brB_of (fun hlt => ?_) (fun hlt => ?_)
  · have hlt : k < v.ins.length := by simp at hlt; omega
    obtain ⟨i, hi⟩ : ∃ i, v.ins[k]? = some i := ⟨_, List.getElem?_eq_getElem hlt⟩
    have hat : atL v.ins k = i := atL_get hi
    obtain ⟨q, hq⟩ : ∃ q, q = prnL v kp (exI v ex) k := ⟨_, rfl⟩
    obtain ⟨ll1, ll2⟩ := prnL_len v kp (exI v ex) k
    have hq' : prnL v kp (exI v ex) (k + 1) = (if bA kp k = true then q.1 ++ [renV (exI v ex) (insM q.2 i)] else q.1, q.2 ++ [(q.1.length : Int)]) := by
      rw [hq, ← hat]; rfl
    rw [← hq] at gl gm ll1 ll2
    refine ⟨fun m' l' w' => Ow insE w' l' (prnL v kp (exI v ex) (k + 1)).1 ∧ Ow intE w' m' (prnL v kp (exI v ex) (k + 1)).2 ∧ (∀ j, l'.blk = some j → w95.heap.size ≤ j) ∧ (∀ j, m'.blk = some j → w95.heap.size ≤ j ∧ l'.blk ≠ some j) ∧ Chg No w95 w', ?_, ?_⟩
    · rintro m' l' w173 ⟨h1, h2, h3, h4, h5⟩
      rw [wr_in (by omega)]
      exact ⟨⟨k + 1, by omega, by omega, h1, h2, h3, h4, h5⟩, by show v.ins.length - Int.toNat ((k : Int) + 1) < v.ins.length - Int.toNat (k : Int); omega⟩
    · rw [hq']
      refine (ht.ins.no k125).ix (i := (k : Int)) (by omega) (by rw [Int.toNat_natCast]; exact hi) fun a127 _ hc => ?_
      have g0 := hc 0 _ rfl
      rw [add0] at g0
      refine ⟨_, _, _, _, _, g0, hc 1 _ rfl, hc 2 _ rfl, hc 3 _ rfl, hc 4 _ rfl, ?_⟩
      intro b133 w134 hb133 hw134
      have hn := fun (w2 : World) => newOb (w2 := w2) (T := T_api_Ins) (insC ⟨0, 0, 0, 0, 0⟩) (insC i) rfl hb133 hw134
      refine ⟨(hn w134).1, fun w135 hw135 => ?_⟩
      obtain ⟨o135, c135⟩ := (hn w135).2 hw135
      refine ⟨_, _, _, _, _, o135.cell rfl, o135.cell rfl, o135.cell rfl, o135.cell rfl, o135.cell rfl, (mins_any (gm.no c135).rd i).mono ?_⟩
      rintro e w143 ⟨rfl, c143⟩
      have o143 := o135.no c143
      refine ⟨_, _, _, _, _, rfl, o143.wr (by simp [insC]), fun w149 hw149 => ?_⟩
      obtain ⟨o149, c149⟩ := o143.up (k := 0) (vs := insC (insM q.2 i)) (cs' := insC (insM q.2 i)) (by simp [insC]) rfl hw149
      have z135 := c135.size
      have z143 := c143.size
      have z149 := c149.size
      have hb133ge : b133 = w125.heap.size := hb133
      have c125149 : Chg No w125 w149 := (trN c135 c143).trans c149 (fun _ _ h => h) (fun k hk he => by omega)
      have hmlt : ∀ j, m.blk = some j → j < w125.heap.size := fun j hj => gm.lt hj
      have hllt : ∀ j, l.blk = some j → j < w125.heap.size := fun j hj => gl.lt hj
      have gl149 := gl.no c125149
      have gm149 := gm.no c125149
      have hll : l.len = q.1.length := gl.rd.len
      intro b151 w152 hb151 hw152
      rw [hll] at hw152
      refine app1_gen mapOk (by decide) (x := (q.1.length : Int)) rfl hb151 hw152 gm149 (trN c125 c125149) (fun j hj => (hmb j hj).1) (by omega) ?_
      intro s153 w154 g153 c154 cl b153
      have o154 := o149.chg cl (fun he => by have := hmlt _ he; omega)
      have gl154 := gl149.chg cl (fun j hj he => (hmb j he).2 hj)
      refine (g95.no c154).rd.ix (i := (k : Int)) (by omega) (x := bA kp k) (by rw [Int.toNat_natCast]; exact bA_get (by omega)) fun a155 _ hcell => ?_
      have q155 := hcell 0 _ rfl
      rw [add0] at q155
      have s153lt : ∀ j, s153.blk = some j → j < w154.heap.size := fun j hj => g153.lt hj
      refine ⟨_, q155, brB_of (fun hbk => ?_) (fun hbk => ?_)⟩
      · rw [if_pos hbk]
        refine ⟨_, _, _, _, _, o154.cell rfl, o154.cell rfl, o154.cell rfl, o154.cell rfl, o154.cell rfl, (nren_any (gx'.no c154).rd (insM q.2 i)).mono ?_⟩
        rintro e w163 ⟨rfl, c163⟩
        refine ⟨_, _, _, _, _, rfl, ?_⟩
        intro b169 w170 hb169 hw170
        refine app1_gen insOk (by decide) (x := renV (exI v ex) (insM q.2 i)) rfl hb169 hw170 (gl154.no c163) (trN c154 c163) hlb (by omega) ?_
        intro s171 w172 g171 c172 cl2 b171
        have z163 := c163.size
        refine ⟨g171, (g153.no c163).chg cl2 (fun j hj he => ?_), fun j hj => (b171 j hj).1, fun j hj => ⟨(b153 j hj).1, fun he => ?_⟩, c172⟩
        · rcases (b153 j hj).2 with h | h
          · exact (hmb j h).2 he
          · have := hllt j he; omega
        · rcases (b171 j he).2 with h | h
          · rcases (b153 j hj).2 with h' | h'
            · exact (hmb j h').2 h
            · have := hllt j h; omega
          · have := s153lt j hj; omega
      · rw [if_neg (by rw [hbk]; decide)]
        refine ⟨gl154, g153, hlb, fun j hj => ⟨(b153 j hj).1, fun he => ?_⟩, c154⟩
        rcases (b153 j hj).2 with h | h
        · exact (hmb j h).2 he
        · have := hllt j he; omega
  have hlt : k = v.ins.length := by simp at hlt; omega
  subst hlt
  intro w174 hw174
  have c174 := dw hw174
  have k174 := trN k125 c174
  have r174 := (r95.no c125).no c174
  have s12 := ((((p12.no h61.base).no c95).no c125).no c174)
  obtain ⟨_, pl2⟩ := prnL_len v kp (exI v ex) v.ins.length
  have hkl := keepL_len v.outs (bA ex)
  refine ⟨fun w' => Chg No w174 w', Chg.refl _ _, t.last, Ob.held (fun w' c => r174.no c) rfl, t.cells, Ob.held (fun w' c => r174.no c) rfl, ?_⟩
  have c95174 := trN c125 c174
  refine (mouts_any (D := D) (gm.no c174).rd ((go.no c125).no c174).rd (hou.chg (trN c95 c95174) (fun _ _ h => h)) (by omega) (fun o ho => ?_)).mono ?_
  · obtain ⟨j, hj⟩ := List.getElem?_of_mem (keepL_mem _ _ _ ho)
    obtain ⟨_, _, e3, e4⟩ := hR.exits j o hj
    obtain ⟨_, a1, a2, a3, a4⟩ := q3
    constructor <;> omega
  rintro e w179 ⟨r, rfl, s180, os2, rfl, g180, hov2, c179, n180⟩
  have hlast : t.last = v.last := ht.nums.2.2.2.2.2
  refine ⟨s180, rfl, c179, ?_⟩
  rw [hlast]
  refine (mof_any ((gx'.no c95174).no c179).rd v.last).mono ?_
  rintro e w182 ⟨rfl, rfl⟩
  have hcl := cells_few hR.cells
  refine ⟨_, rfl, c179, (clone_ints (ht.cells.no (trN k174 c179)) (by omega)).mono ?_⟩
  rintro e w185 ⟨s186, rfl, g186, c185, n186, _⟩
  have c174185 := trN c179 c185
  have k185 := trN k174 c174185
  have t10 := r174.no c174185
  have t12 := s12.no c174185
  have z95 := c95.size
  have z125 := c125.size
  have z174 := c174.size
  have z179 := c179.size
  have z185 := c185.size
  refine ⟨s186, rfl, c174185, t10.wr (by simp [trP]), fun w187 hw187 => ?_⟩
  obtain ⟨u10, c187⟩ := t10.up (k := 5) (vs := [l.val]) (cs' := trP { t with ins := l }) (by simp [trP]) rfl hw187
  refine ⟨u10.wr (by simp [trP]), fun w188 hw188 => ?_⟩
  obtain ⟨v10, c188⟩ := u10.up (k := 6) (vs := [s180.val]) (cs' := trP { t with ins := l, outs := s180 }) (by simp [trP]) rfl hw188
  refine ⟨v10.wr (by simp [trP]), fun w189 hw189 => ?_⟩
  obtain ⟨x10, c189⟩ := v10.up (k := 7) (vs := [.int .i64 (ofV (exI v ex) v.last)]) (cs' := trP { t with ins := l, outs := s180, last := ofV (exI v ex) v.last }) (by simp [trP]) rfl hw189
  refine ⟨x10.wr (by simp [trP]), fun w190 hw190 => ?_⟩
  obtain ⟨y10, c190⟩ := x10.up (k := 8) (vs := [s186.val]) (cs' := trP { t with ins := l, outs := s180, last := ofV (exI v ex) v.last, cells := s186 }) (by simp [trP]) rfl hw190
  have cX : Chg (fun k => k = b10) w185 w190 := ((c187.trans c188 (fun _ _ h => h) (fun _ _ h => h)).trans c189 (fun _ _ h => h) (fun _ _ h => h)).trans c190 (fun _ _ h => h) (fun _ _ h => h)
  have x12 := t12.chg cX (fun he => by omega)
  refine ⟨_, _, _, _, _, _, _, _, _, y10.cell rfl, y10.cell rfl, y10.cell rfl, y10.cell rfl, y10.cell rfl, y10.cell rfl, y10.cell rfl, y10.cell rfl, y10.cell rfl, x12.wr (by simp [trP]), fun w200 hw200 => ?_⟩
  obtain ⟨y12, c200⟩ := x12.up (k := 0) (vs := trP { t with ins := l, outs := s180, last := ofV (exI v ex) v.last, cells := s186 }) (cs' := trP { t with ins := l, outs := s180, last := ofV (exI v ex) v.last, cells := s186 }) (by simp [trP]) rfl hw200
  have cY : Chg (fun k => k = b10 ∨ k = b12) w185 w200 := cX.trans c200 (fun _ _ h => Or.inl h) (fun _ _ h => Or.inr h)
  refine ⟨_, _, _, _, _, _, _, _, _, y12.cell rfl, y12.cell rfl, y12.cell rfl, y12.cell rfl, y12.cell rfl, y12.cell rfl, y12.cell rfl, y12.cell rfl, y12.cell rfl, { t with ins := l, outs := s180, last := ofV (exI v ex) v.last, cells := s186 }, rfl, k185.trans cY (fun _ _ h => h) (fun k hk he => by omega), Or.inr ⟨hR, ?_⟩⟩
  rw [hprn]
  have g180lt := fun j hj => g180.lt (k := j) hj
  have hllt := fun j hj => gl.lt (k := j) hj
  obtain ⟨n1, n2, n3, n4, n5, n6⟩ := ht.nums
  refine ⟨⟨n1, n2, n3, n4, n5, rfl⟩, ((((gl.no c174).no c179).no c185).chg cY (fun j hj he => by have := hlb j hj; omega)), ⟨os2, (g180.no c185).chg cY (fun j hj he => by have := n180 j hj; omega), ((hov2.chg c185 (fun _ _ h => h)).chg cY (fun j hj he => by have := hj.1; omega)).mono (fun j hj => ⟨by have := hj.1; omega, (fun he => by have := hllt j he; have := hj.1; omega), hj.2.2, (fun he => by have := n186 j he; have := hj.2.1; omega), by have := hj.2.1; have := cY.size; omega⟩)⟩, g186.chg cY (fun j hj he => by have := n186 j hj; omega), fun j hj => ?_, fun j hj => ⟨?_, fun he => ?_⟩, fun j hj => ⟨?_, fun he => ?_, fun he => ?_⟩⟩
  · have := hlb j hj; omega
  · have := n180 j hj; omega
  · have := n180 j hj; have := hllt j he; omega
  · have := n186 j hj; omega
  · have := n186 j hj; have := hllt j he; omega
  · have := n186 j hj; have := g180lt j he; omega
end Go.Proofs.YtblmoilneiffgaaGreat

/- Taking away what nobody needs, once more: nothing is left that nobody names. No program in sight. -/
set_option maxRecDepth 100000
namespace Go.Proofs.YtblmoilneiffgaaGreat
open Go.RowKit

/-- What all of the first k instructions name. -/
def allK (v : TrG) (k : Nat) : Ned := (v.ins.take k).foldl (allN v) (beginN v)
def cntI (v : TrG) (n : Ned) (k : Nat) : Nat := ((List.range k).filter fun (j : Nat) => pureV (atL v.ins j) && !bA n.ins j).length
def cntX (n : Ned) (k : Nat) : Nat := ((List.range k).filter fun j => !bA n.exs j).length
/-- How much nobody names, of a trace that may be. -/
def leftP (v : TrG) : Int := (cntI v (allK v v.ins.length) v.ins.length + cntX (allK v v.ins.length) v.outs.length : Nat)
theorem cnt_snoc (p : Nat → Bool) (k : Nat) : ((List.range (k + 1)).filter p).length = ((List.range k).filter p).length + if p k = true then 1 else 0 := by
  rw [List.range_succ, List.filter_append, List.length_append]
  congr 1
  by_cases h : p k = true
  · rw [if_pos h, List.filter_cons, if_pos h]; rfl
  · rw [if_neg h, List.filter_cons, if_neg h]; rfl
theorem cnt_le (p : Nat → Bool) (k : Nat) : ((List.range k).filter p).length ≤ k := by
  have := List.length_filter_le p (List.range k); rw [List.length_range] at this; exact this
/-- Named by the end alone, and by the first k instructions: as long as the trace. -/
theorem allK_len {v : TrG} (hr : RightV v) : ∀ k, k ≤ v.ins.length → (allK v k).ins.length = v.ins.length ∧ (allK v k).exs.length = v.outs.length
  | 0, _ => ⟨(begin_ok hr).li, (begin_ok hr).lx⟩
  | k + 1, hk => by
    obtain ⟨h1, h2⟩ := allK_len hr k (by omega)
    obtain ⟨i, hi⟩ : ∃ i, v.ins[k]? = some i := ⟨_, List.getElem?_eq_getElem (by omega)⟩
    have e : allK v (k + 1) = allN v (allK v k) i := by unfold allK; rw [List.take_add_one, hi]; rw [List.foldl_append]; rfl
    obtain ⟨u, _, _⟩ := up_all (n := allK v k) h1 h2 (hr.each k i hi) (by omega)
    rw [e]
    exact ⟨u.li.trans h1, u.lx.trans h2⟩

/-- What the trace names: exits, places. -/
def NmX (t : TrG) (x : Nat) : Prop := x = t.last.toNat ∨ ∃ k : Nat, k < t.ins.length ∧ ∃ y ∈ outsV (atL t.ins k), y.toNat = x
def NmE (t : TrG) (X : Nat → Prop) (j : Nat) : Prop := ∃ x : Nat, X x ∧ ∃ p ∈ (outAt t x).stack ++ (outAt t x).back, p.toNat = j
def NmI (t : TrG) (j : Nat) : Prop := (∃ k : Nat, k < t.ins.length ∧ ∃ p ∈ usesV (atL t.ins k), p.toNat = j) ∨ NmE t (NmX t) j
/-- No more is named than what may be. -/
structure OnN (t : TrG) (U Y : Nat → Prop) (n n' : Ned) : Prop where
  ins : ∀ j, bA n'.ins j = true → bA n.ins j = true ∨ U j ∨ NmE t (fun x => bA n'.exs x = true) j
  exs : ∀ x, bA n'.exs x = true → bA n.exs x = true ∨ Y x
  ox : ∀ x, bA n.exs x = true → bA n'.exs x = true
theorem OnN.refl (t : TrG) (U Y : Nat → Prop) (n : Ned) : OnN t U Y n n := ⟨fun _ h => Or.inl h, fun _ h => Or.inl h, fun _ h => h⟩
theorem NmE.imp {t : TrG} {X X' : Nat → Prop} {j : Nat} (h : NmE t X j) (hx : ∀ x, X x → X' x) : NmE t X' j := by
  obtain ⟨x, h1, h2⟩ := h
  exact ⟨x, hx x h1, h2⟩
theorem OnN.trans {t : TrG} {U Y : Nat → Prop} {a b c : Ned} (h : OnN t U Y a b) (g : OnN t U Y b c) : OnN t U Y a c := by
  refine ⟨fun j hj => ?_, fun x hx => ?_, fun x hx => g.ox x (h.ox x hx)⟩
  · rcases g.ins j hj with h1 | h1 | h1
    · rcases h.ins j h1 with h2 | h2 | h2
      · exact Or.inl h2
      · exact Or.inr (Or.inl h2)
      · exact Or.inr (Or.inr (h2.imp g.ox))
    · exact Or.inr (Or.inl h1)
    · exact Or.inr (Or.inr h1)
  · rcases g.exs x hx with h1 | h1
    · exact h.exs x h1
    · exact Or.inr h1
theorem on_exit {t : TrG} {U Y : Nat → Prop} {n : Ned} {x : Int} (hl : n.exs.length = t.outs.length) (h0 : 0 ≤ x) (h1 : x < t.outs.length) (hY : Y x.toNat) : OnN t U Y n (exitN t n x) := by
  have hn := exit_named (n := n) hl h0 h1
  unfold exitN at hn ⊢
  split
  · exact OnN.refl _ _ _ _
  · next hne =>
    rw [if_neg hne] at hn
    refine ⟨fun j hj => ?_, fun y hy => ?_, fun y hy => ?_⟩
    · have hxx : ((x.toNat : Nat) : Int) = x := by omega
      rcases placesV_only hj with h' | ⟨p, hp, hpj⟩
      · rcases placesV_only h' with h' | ⟨p, hp, hpj⟩
        · exact Or.inl h'
        · exact Or.inr (Or.inr ⟨x.toNat, hn, p, by rw [hxx]; exact List.mem_append_left _ hp, hpj⟩)
      · exact Or.inr (Or.inr ⟨x.toNat, hn, p, by rw [hxx]; exact List.mem_append_right _ hp, hpj⟩)
    · rw [bA_set] at hy
      split at hy
      · next hh => exact Or.inr (by rw [← hh.1]; exact hY)
      · exact Or.inl hy
    · rw [bA_set]; split
      · rfl
      · exact hy
theorem exitN_lx (t : TrG) (n : Ned) (x : Int) : (exitN t n x).exs.length = n.exs.length := by unfold exitN; split <;> simp
theorem on_exits {t : TrG} {U Y : Nat → Prop} : ∀ (xs : List Int) (n : Ned), n.exs.length = t.outs.length → (∀ x ∈ xs, 0 ≤ x ∧ x < t.outs.length ∧ Y x.toNat) → OnN t U Y n (exitsN t n xs)
  | [], n, _, _ => OnN.refl _ _ _ _
  | x :: r, n, hl, h => by
    obtain ⟨a, b, c⟩ := h x (by simp)
    exact (on_exit hl a b c).trans (on_exits r (exitN t n x) ((exitN_lx t n x).trans hl) (fun y hy => h y (List.mem_cons_of_mem _ hy)))
theorem on_all {t : TrG} {U Y : Nat → Prop} {k : Nat} {n : Ned} {i : In5} (hl : n.exs.length = t.outs.length) (hi : EachV t k i) (hU : ∀ p ∈ usesV i, U p.toNat) (hY : ∀ x ∈ outsV i, Y x.toNat) : OnN t U Y n (allN t n i) := by
  have h1 : OnN t U Y n ⟨placesV n.ins (usesV i), n.exs⟩ := ⟨fun j hj => by
    rcases placesV_only hj with h | ⟨p, hp, rfl⟩
    · exact Or.inl h
    · exact Or.inr (Or.inl (hU p hp)), fun _ h => Or.inl h, fun _ h => h⟩
  exact h1.trans (on_exits (outsV i) ⟨placesV n.ins (usesV i), n.exs⟩ hl fun x hx => ⟨(hi.2.2.2.2.2 x hx).1, (hi.2.2.2.2.2 x hx).2.1, hY x hx⟩)
theorem beginN_on {t : TrG} (hr : RightV t) : (∀ j, bA (beginN t).ins j = true → NmE t (fun x => bA (beginN t).exs x = true) j) ∧ ∀ x, bA (beginN t).exs x = true → x = t.last.toNat := by
  have h := on_exit (t := t) (U := fun _ => False) (Y := fun x => x = t.last.toNat) (n := ⟨List.replicate t.ins.length false, List.replicate t.outs.length false⟩) (x := t.last) (by simp) hr.last.1 hr.last.2.1 rfl
  refine ⟨fun j hj => ?_, fun x hx => ?_⟩
  · rcases h.ins j hj with h1 | h1 | h1
    · rw [show bA _ j = false from bA_rep t.ins.length j] at h1; cases h1
    · exact absurd h1 (fun h => h)
    · exact h1
  · rcases h.exs x hx with h1 | h1
    · rw [show bA _ x = false from bA_rep t.outs.length x] at h1; cases h1
    · exact h1
theorem allK_step {v : TrG} {k : Nat} (hk : k < v.ins.length) : allK v (k + 1) = allN v (allK v k) (atL v.ins k) := by
  have hi : v.ins[k]? = some (atL v.ins k) := by
    rw [List.getElem?_eq_getElem hk, atL_get (List.getElem?_eq_getElem hk)]
  unfold allK; rw [List.take_add_one, hi, List.foldl_append]; rfl
theorem allK_only {v : TrG} (hr : RightV v) : ∀ k, k ≤ v.ins.length → (∀ j, bA (allK v k).ins j = true → NmI v j) ∧ ∀ x, bA (allK v k).exs x = true → NmX v x
  | 0, _ => by
    obtain ⟨h1, h2⟩ := beginN_on hr
    exact ⟨fun j hj => Or.inr ((h1 j hj).imp fun x hx => Or.inl (h2 x hx)), fun x hx => Or.inl (h2 x hx)⟩
  | k + 1, hk => by
    obtain ⟨h1, h2⟩ := allK_only hr k (by omega)
    have hl := allK_len hr k (by omega)
    have ho := on_all (U := fun j => ∃ p ∈ usesV (atL v.ins k), p.toNat = j) (Y := fun x => ∃ y ∈ outsV (atL v.ins k), y.toNat = x) hl.2 (atL_each hr (k := k) (by omega)) (fun p hp => ⟨p, hp, rfl⟩) (fun x hx => ⟨x, hx, rfl⟩)
    rw [← allK_step (by omega)] at ho
    have hx : ∀ x, bA (allK v (k + 1)).exs x = true → NmX v x := fun x hx => by
      rcases ho.exs x hx with h | h
      · exact h2 x h
      · exact Or.inr ⟨k, by omega, h⟩
    refine ⟨fun j hj => ?_, hx⟩
    rcases ho.ins j hj with h | h | h
    · exact h1 j h
    · exact Or.inl ⟨k, by omega, h⟩
    · exact Or.inr (h.imp hx)
theorem allK_more {v : TrG} (hr : RightV v) : ∀ k, k ≤ v.ins.length → ClN v (allK v k) ∧ bA (allK v k).exs v.last.toNat = true ∧ ∀ j, j < k → (∀ p ∈ usesV (atL v.ins j), bA (allK v k).ins p.toNat = true) ∧ ∀ x ∈ outsV (atL v.ins j), bA (allK v k).exs x.toNat = true
  | 0, _ => ⟨(begin_ok hr).cl, (begin_ok hr).last, fun j hj => by omega⟩
  | k + 1, hk => by
    obtain ⟨h1, h2, h3⟩ := allK_more hr k (by omega)
    have hl := allK_len hr k (by omega)
    obtain ⟨u, n1, n2⟩ := up_all hl.1 hl.2 (atL_each hr (k := k) (by omega)) (by omega)
    rw [← allK_step (by omega)] at u n1 n2
    refine ⟨u.cl h1, u.ox _ h2, fun j hj => ?_⟩
    by_cases hjk : j = k
    · subst hjk; exact ⟨n1, n2⟩
    · obtain ⟨g1, g2⟩ := h3 j (by omega)
      exact ⟨fun p hp => u.oi _ (g1 p hp), fun x hx => u.ox _ (g2 x hx)⟩
/-- Just what the trace names is named. -/
theorem allK_exs {v : TrG} (hr : RightV v) (x : Nat) : bA (allK v v.ins.length).exs x = true ↔ NmX v x := by
  obtain ⟨h1, h2, h3⟩ := allK_more hr _ (Nat.le_refl v.ins.length)
  refine ⟨(allK_only hr _ (Nat.le_refl _)).2 x, fun h => ?_⟩
  rcases h with rfl | ⟨k, hk, y, hy, rfl⟩
  · exact h2
  · exact (h3 k hk).2 y hy
theorem allK_ins {v : TrG} (hr : RightV v) (j : Nat) : bA (allK v v.ins.length).ins j = true ↔ NmI v j := by
  obtain ⟨h1, h2, h3⟩ := allK_more hr _ (Nat.le_refl v.ins.length)
  refine ⟨(allK_only hr _ (Nat.le_refl _)).1 j, fun h => ?_⟩
  rcases h with ⟨k, hk, p, hp, rfl⟩ | ⟨x, hx, p, hp, rfl⟩
  · exact (h3 k hk).1 p hp
  · exact h1 x ((allK_exs hr x).2 hx) p hp
theorem filt_zero (p : Nat → Bool) (n : Nat) : ((List.range n).filter p).length = 0 ↔ ∀ k, k < n → p k = false := by
  rw [List.length_eq_zero_iff, List.filter_eq_nil_iff]
  exact ⟨fun h k hk => by simpa using h k (List.mem_range.2 hk), fun h k hk => by rw [h k (List.mem_range.1 hk)]; decide⟩
/-- None is left. -/
structure NoPr (v : TrG) : Prop where
  ins : ∀ j, j < v.ins.length → pureV (atL v.ins j) = true → NmI v j
  exs : ∀ x, x < v.outs.length → NmX v x
theorem leftP_zero {v : TrG} (hr : RightV v) (h : NoPr v) : leftP v = 0 := by
  have h1 : cntI v (allK v v.ins.length) v.ins.length = 0 := (filt_zero _ _).2 fun k hk => by
    cases hp : pureV (atL v.ins k) with
    | false => rfl
    | true => rw [(allK_ins hr k).2 (h.ins k hk hp)]; rfl
  have h2 : cntX (allK v v.ins.length) v.outs.length = 0 := (filt_zero _ _).2 fun k hk => by
    rw [(allK_exs hr k).2 (h.exs k hk)]; rfl
  unfold leftP; rw [h1, h2]; rfl
/-! ### From the end: no more is kept than is needed -/
structure MnN (t : TrG) (k : Nat) (q : Ned × List Bool) : Prop where
  lo : ∀ j, j < k → bA q.2 j = false
  ins : ∀ j, bA q.1.ins j = true → (∃ k', bA q.2 k' = true ∧ ∃ p ∈ usesV (atL t.ins k'), p.toNat = j) ∨ NmE t (fun x => bA q.1.exs x = true) j
  exs : ∀ x, bA q.1.exs x = true → x = t.last.toNat ∨ ∃ k', bA q.2 k' = true ∧ ∃ y ∈ outsV (atL t.ins k'), y.toNat = x
  keep : ∀ j, bA q.2 j = true → pureV (atL t.ins j) = true → bA q.1.ins j = true
theorem MnN.step {t : TrG} (hr : RightV t) {k : Nat} (hk : k < t.ins.length) {q : Ned × List Bool} (hq : KpN t (k + 1) q) (h : MnN t (k + 1) q) : MnN t k (backS t q k) := by
  have hi := atL_each hr hk
  have hkb : ∀ j, j ≠ k → bA (q.2.set k (keepB t q.1 k)) j = bA q.2 j := fun j hj => by rw [bA_set, if_neg (fun hh => hj hh.1.symm)]
  have hkk : bA (q.2.set k (keepB t q.1 k)) k = keepB t q.1 k := by rw [bA_set, if_pos ⟨rfl, by rw [hq.lk]; exact hk⟩]
  have old : ∀ j, bA q.2 j = true → bA (q.2.set k (keepB t q.1 k)) j = true := fun j hj => by
    by_cases hjk : j = k
    · subst hjk; rw [h.lo j (by omega)] at hj; cases hj
    · rw [hkb j hjk]; exact hj
  unfold backS
  by_cases hkp : keepB t q.1 k = true
  · rw [if_pos hkp]
    obtain ⟨u, _, _⟩ := up_all hq.li hq.lx hi (by omega)
    have ho := on_all (U := fun j => ∃ p ∈ usesV (atL t.ins k), p.toNat = j) (Y := fun x => ∃ y ∈ outsV (atL t.ins k), y.toNat = x) hq.lx hi (fun p hp => ⟨p, hp, rfl⟩) (fun x hx => ⟨x, hx, rfl⟩)
    refine ⟨fun j hj => ?_, fun j hj => ?_, fun x hx => ?_, fun j hj hp => ?_⟩
    · dsimp only; rw [hkb j (by omega)]; exact h.lo j (by omega)
    · dsimp only at hj ⊢
      rcases ho.ins j hj with h1 | h1 | h1
      · rcases h.ins j h1 with ⟨k', h2, h3⟩ | h2
        · exact Or.inl ⟨k', old k' h2, h3⟩
        · exact Or.inr (h2.imp ho.ox)
      · exact Or.inl ⟨k, by rw [hkk]; exact hkp, h1⟩
      · exact Or.inr h1
    · dsimp only at hx ⊢
      rcases ho.exs x hx with h1 | h1
      · rcases h.exs x h1 with h2 | ⟨k', h2, h3⟩
        · exact Or.inl h2
        · exact Or.inr ⟨k', old k' h2, h3⟩
      · exact Or.inr ⟨k, by rw [hkk]; exact hkp, h1⟩
    · dsimp only at hj ⊢
      by_cases hjk : j = k
      · subst hjk
        unfold keepB at hkp
        rw [hp] at hkp
        exact u.oi _ (by simpa using hkp)
      · rw [hkb j hjk] at hj
        exact u.oi _ (h.keep j hj hp)
  · rw [if_neg hkp]
    refine ⟨fun j hj => ?_, fun j hj => ?_, fun x hx => ?_, fun j hj hp => ?_⟩
    · dsimp only; rw [hkb j (by omega)]; exact h.lo j (by omega)
    · dsimp only at hj ⊢
      rcases h.ins j hj with ⟨k', h2, h3⟩ | h2
      · exact Or.inl ⟨k', old k' h2, h3⟩
      · exact Or.inr h2
    · dsimp only at hx ⊢
      rcases h.exs x hx with h2 | ⟨k', h2, h3⟩
      · exact Or.inl h2
      · exact Or.inr ⟨k', old k' h2, h3⟩
    · dsimp only at hj ⊢
      by_cases hjk : j = k
      · subst hjk; rw [hkk] at hj; exact absurd hj hkp
      · rw [hkb j hjk] at hj
        exact h.keep j hj hp
theorem MnN.back {t : TrG} (hr : RightV t) : ∀ (k : Nat) (q : Ned × List Bool), k ≤ t.ins.length → KpN t k q → MnN t k q → MnN t 0 (backL t k q)
  | 0, _, _, _, h => h
  | k + 1, _, hk, hq, h => MnN.back hr k _ (by omega) (hq.step hr (by omega)) (h.step hr (by omega) hq)
theorem fin_mn {t : TrG} (hr : RightV t) : MnN t 0 (finN t) := by
  obtain ⟨h1, h2⟩ := beginN_on hr
  refine MnN.back hr _ _ (Nat.le_refl _) (begin_ok hr) ⟨fun j _ => bA_rep _ _, fun j hj => Or.inr (h1 j hj), fun x hx => Or.inl (h2 x hx), fun j hj => ?_⟩
  rw [show bA _ j = false from bA_rep t.ins.length j] at hj; cases hj
/-! ### The trace that is left -/
/-- Where an instruction that is kept lies. -/
theorem prnL_at (t : TrG) (kp : List Bool) (ex : List Int) : ∀ k j, j < k → bA kp j = true → ∃ j', (prnL t kp ex k).1[j']? = some (renV ex (insM (prnL t kp ex j).2 (atL t.ins j))) ∧ ofV (prnL t kp ex k).2 (j : Int) = (j' : Nat)
  | 0, j, h, _ => by omega
  | k + 1, j, h, hb => by
    have e1 : (prnL t kp ex (k + 1)).1 = if bA kp k = true then (prnL t kp ex k).1 ++ [renV ex (insM (prnL t kp ex k).2 (atL t.ins k))] else (prnL t kp ex k).1 := rfl
    have e2 : (prnL t kp ex (k + 1)).2 = (prnL t kp ex k).2 ++ [((prnL t kp ex k).1.length : Int)] := rfl
    have hlen := (prnL_len t kp ex k).1
    by_cases hjk : j = k
    · subst hjk
      refine ⟨(prnL t kp ex j).1.length, ?_, ?_⟩
      · rw [e1, if_pos hb, List.getElem?_append_right (Nat.le_refl _)]; simp
      · rw [e2, ofV_end (by rw [hlen])]
    · obtain ⟨j', h1, h2⟩ := prnL_at t kp ex k j (by omega) hb
      refine ⟨j', ?_, ?_⟩
      · rw [e1]
        split
        · rw [List.getElem?_append_left (List.getElem?_eq_some_iff.1 h1).1]; exact h1
        · exact h1
      · rw [e2, ofV_app _ (by omega) (by rw [hlen]; omega)]; exact h2
/-- Every instruction that is left was one. -/
theorem prnL_from (t : TrG) (kp : List Bool) (ex : List Int) : ∀ k j', j' < (prnL t kp ex k).1.length → ∃ j, j < k ∧ bA kp j = true ∧ ofV (prnL t kp ex k).2 (j : Int) = (j' : Nat) ∧ (prnL t kp ex k).1[j']? = some (renV ex (insM (prnL t kp ex j).2 (atL t.ins j)))
  | 0, j', h => by simp [prnL] at h
  | k + 1, j', h => by
    have e1 : (prnL t kp ex (k + 1)).1 = if bA kp k = true then (prnL t kp ex k).1 ++ [renV ex (insM (prnL t kp ex k).2 (atL t.ins k))] else (prnL t kp ex k).1 := rfl
    have e2 : (prnL t kp ex (k + 1)).2 = (prnL t kp ex k).2 ++ [((prnL t kp ex k).1.length : Int)] := rfl
    have hlen := (prnL_len t kp ex k).1
    have old : j' < (prnL t kp ex k).1.length → ∃ j, j < k + 1 ∧ bA kp j = true ∧ ofV (prnL t kp ex (k + 1)).2 (j : Int) = (j' : Nat) ∧ (prnL t kp ex (k + 1)).1[j']? = some (renV ex (insM (prnL t kp ex j).2 (atL t.ins j))) := fun hj => by
      obtain ⟨j, h1, h2, h3, h4⟩ := prnL_from t kp ex k j' hj
      refine ⟨j, by omega, h2, ?_, ?_⟩
      · rw [e2, ofV_app _ (by omega) (by rw [hlen]; omega)]; exact h3
      · rw [e1]
        split
        · rw [List.getElem?_append_left hj]; exact h4
        · exact h4
    by_cases hb : bA kp k = true
    · by_cases hj : j' < (prnL t kp ex k).1.length
      · exact old hj
      · have hjj : j' = (prnL t kp ex k).1.length := by
          rw [e1, if_pos hb, List.length_append] at h
          simp at h; omega
        refine ⟨k, by omega, hb, ?_, ?_⟩
        · rw [e2, ofV_end (by rw [hlen]), hjj]
        · rw [e1, if_pos hb, hjj, List.getElem?_append_right (Nat.le_refl _)]; simp
    · rw [e1, if_neg hb] at h
      exact old h
theorem keepL_from {α : Type} (l : List α) : ∀ (f : Nat → Bool) (y : Nat), y < (keepL f l).length → ∃ x, x < l.length ∧ f x = true ∧ (keepL f (l.take x)).length = y := by
  induction l with
  | nil => intro f y h; simp [keepL] at h
  | cons a r ih =>
    intro f y h
    rw [keepL_cons] at h
    by_cases h0 : f 0 = true
    · rw [if_pos h0] at h
      by_cases hy : y = 0
      · exact ⟨0, by simp, h0, by rw [List.take_zero, hy]; rfl⟩
      · obtain ⟨x, h1, h2, h3⟩ := ih (fun k => f (k + 1)) (y - 1) (by rw [List.length_cons] at h; omega)
        refine ⟨x + 1, by rw [List.length_cons]; omega, h2, ?_⟩
        rw [List.take_succ_cons, keepL_cons, if_pos h0, List.length_cons, h3]; omega
    · rw [if_neg h0] at h
      obtain ⟨x, h1, h2, h3⟩ := ih (fun k => f (k + 1)) y h
      refine ⟨x + 1, by rw [List.length_cons]; omega, h2, ?_⟩
      rw [List.take_succ_cons, keepL_cons, if_neg h0, h3]
theorem renV_pure {ex : List Int} {m : List Int} {i : In5} (h : pureV (renV ex (insM m i)) = true) : pureV i = true := by
  obtain ⟨r1, _, _, _⟩ := renV_a ex (insM m i)
  obtain ⟨o1, o2, o3⟩ := insM_op m i
  unfold pureV at h ⊢
  rw [r1, o1, renV_outs, outsV_op o1 o2 o3] at h
  have h := of_decide_eq_true h
  refine decide_eq_true ?_
  rcases h with h | h | h | ⟨h, g⟩
  · exact Or.inl h
  · exact Or.inr (Or.inl h)
  · exact Or.inr (Or.inr (Or.inl h))
  · exact Or.inr (Or.inr (Or.inr ⟨h, List.map_eq_nil_iff.1 g⟩))
theorem kept_lt {t : TrG} (hr : RightV t) {k : Nat} (h : bA (finN t).2 k = true) : k < t.ins.length := by
  have := bA_lt h; rw [(fin_ok hr).lk] at this; exact this
theorem exs_lt {t : TrG} (hr : RightV t) {x : Nat} (h : bA (finN t).1.exs x = true) : x < t.outs.length := by
  have := bA_lt h; rw [(fin_ok hr).lx] at this; exact this
theorem prnT_none {t : TrG} (hr : RightV t) : NoPr (prnT t) := by
  have mn := fin_mn hr
  have ok := prnOk hr
  have hN : ∀ k, bA (finN t).2 k = true → ∃ k', k' < (prnT t).ins.length ∧ atL (prnT t).ins (k' : Nat) = renV (exI t (finN t).1.exs) (insM (prnL t (finN t).2 (exI t (finN t).1.exs) k).2 (atL t.ins k)) := fun k hk => by
    obtain ⟨k', h1, _⟩ := prnL_at t (finN t).2 (exI t (finN t).1.exs) t.ins.length k (kept_lt hr hk) hk
    exact ⟨k', (List.getElem?_eq_some_iff.1 h1).1, atL_get h1⟩
  have hE : ∀ x, bA (finN t).1.exs x = true → NmX (prnT t) (ofV (exI t (finN t).1.exs) (x : Int)).toNat := fun x hx => by
    rcases mn.exs x hx with rfl | ⟨k, hk, y, hy, rfl⟩
    · left
      have : ((t.last.toNat : Nat) : Int) = t.last := by have := hr.last.1; omega
      rw [this]; rfl
    · right
      obtain ⟨k', h1, h2⟩ := hN k hk
      refine ⟨k', h1, ofV (exI t (finN t).1.exs) y, ?_, ?_⟩
      · rw [h2, renV_outs]
        obtain ⟨o1, o2, o3⟩ := insM_op (prnL t (finN t).2 (exI t (finN t).1.exs) k).2 (atL t.ins k)
        rw [outsV_op o1 o2 o3]
        exact List.mem_map_of_mem hy
      · have := ((atL_each hr (kept_lt hr hk)).2.2.2.2.2 y hy).1
        have e : ((y.toNat : Nat) : Int) = y := by omega
        rw [e]
  refine ⟨fun j' hj' hp => ?_, fun y hy => ?_⟩
  · obtain ⟨j, h1, h2, h3, h4⟩ := prnL_from t (finN t).2 (exI t (finN t).1.exs) t.ins.length j' hj'
    rw [show atL (prnT t).ins (j' : Nat) = _ from atL_get h4] at hp
    have hpj := renV_pure hp
    rcases mn.ins j (mn.keep j h2 hpj) with ⟨k, hk, p, hpu, hpe⟩ | ⟨x, hx, p, hpu, hpe⟩
    · left
      have hkl := kept_lt hr hk
      obtain ⟨k', g1, g2⟩ := hN k hk
      have hEk := (atL_each hr hkl).2.2.2.2.1 p hpu
      refine ⟨k', g1, ofV (prnL t (finN t).2 (exI t (finN t).1.exs) k).2 p, ?_, ?_⟩
      · rw [g2, renV_uses, insM_uses]
        exact List.mem_map_of_mem hpu
      · obtain ⟨l', m', _, hm⟩ := prn_pre (t := t) (kp := (finN t).2) (ex := (finN t).1.exs) (k := k) (by omega)
        have hml := (prnL_len t (finN t).2 (exI t (finN t).1.exs) k).1
        have hpj : p = (j : Int) := by have := hEk.1; omega
        rw [hm, ← hpj, ofV_app _ hEk.1 (by rw [hml]; exact hEk.2.1)] at h3
        rw [h3]; rfl
    · right
      have hxl := exs_lt hr hx
      obtain ⟨_, ho⟩ := prn_out (t := t) (kp := (finN t).2) (ex := (finN t).1.exs) (x := (x : Int)) (by omega) (by omega) (by rw [Int.toNat_natCast]; exact hx)
      have hge := (prn_out (t := t) (kp := (finN t).2) (ex := (finN t).1.exs) (x := (x : Int)) (by omega) (by omega) (by rw [Int.toNat_natCast]; exact hx)).1
      refine ⟨_, hE x hx, ofV (prnL t (finN t).2 (exI t (finN t).1.exs) t.ins.length).2 p, ?_, ?_⟩
      · have e : (((ofV (exI t (finN t).1.exs) (x : Int)).toNat : Nat) : Int) = ofV (exI t (finN t).1.exs) (x : Int) := by omega
        rw [e]
        show _ ∈ (outAt (prnA t (finN t).2 (finN t).1.exs) _).stack ++ (outAt (prnA t (finN t).2 (finN t).1.exs) _).back
        rw [ho]
        unfold outM; dsimp only
        rw [← List.map_append]
        exact List.mem_map_of_mem hpu
      · have hp0 : 0 ≤ p := by
          have hE2 := hr.exits x (outAt t x) (by have := outAt_ge (t := t) (x := (x : Int)) (by omega) (by omega); rw [Int.toNat_natCast] at this; exact this)
          rcases mn.exs x hx with rfl | ⟨k, hk, y, hy, rfl⟩
          · have hl := hr.last
            have e : ((t.last.toNat : Nat) : Int) = t.last := by have := hl.1; omega
            rw [e] at hpu
            rcases List.mem_append.1 hpu with h | h
            · exact (hl.2.2.1 p h).1
            · exact (hl.2.2.2 p h).1
          · have hl := (atL_each hr (kept_lt hr hk)).2.2.2.2.2 y hy
            have e : ((y.toNat : Nat) : Int) = y := by have := hl.1; omega
            rw [e] at hpu
            rcases List.mem_append.1 hpu with h | h
            · exact (hl.2.2.1 p h).1
            · exact (hl.2.2.2 p h).1
        have hpj : p = (j : Int) := by omega
        rw [hpj, h3]; rfl
  · have hy : y < ((keepL (bA (finN t).1.exs) t.outs).map (outM (prnL t (finN t).2 (exM (finN t).1.exs t.outs t.outs.length) t.ins.length).2)).length := hy
    rw [List.length_map] at hy
    obtain ⟨x, h1, h2, h3⟩ := keepL_from t.outs _ y hy
    have := hE x h2
    have e : ofV (exI t (finN t).1.exs) (x : Int) = _ := exM_at (ex := (finN t).1.exs) (os := t.outs) (n := t.outs.length) (x := (x : Int)) (by omega) (by omega)
    rw [e, Int.toNat_natCast, Int.toNat_natCast, h3] at this
    exact this
/-- Where all is named all is kept. -/
theorem all_kept {t : TrG} (hr : RightV t) (hn : NoPr t) : ∀ d k, k + d = t.ins.length → ∀ j, k ≤ j → j < t.ins.length → bA (finN t).2 j = true
  | 0, k, hk, j, h1, h2 => by omega
  | d + 1, k, hk, j, h1, h2 => by
    have ih := all_kept hr hn d (k + 1) (by omega)
    have ok := prnOk hr
    by_cases hjk : j = k
    · subst hjk
      cases hb : bA (finN t).2 j with
      | true => rfl
      | false =>
        rw [← hb]
        have hx : ∀ x : Nat, NmX t x → (∃ p ∈ (outAt t x).stack ++ (outAt t x).back, p.toNat = j) → bA (finN t).1.exs x = true := fun x hx hp => by
          rcases hx with rfl | ⟨k', hk', y, hy, rfl⟩
          · exact ok.last
          · have hl := (atL_each hr hk').2.2.2.2.2 y hy
            have e : ((y.toNat : Nat) : Int) = y := by have := hl.1; omega
            rw [e] at hp
            obtain ⟨p, hpu, hpe⟩ := hp
            have : 0 ≤ p ∧ p < k' := by
              rcases List.mem_append.1 hpu with h | h
              · exact ⟨(hl.2.2.1 p h).1, (hl.2.2.1 p h).2.1⟩
              · exact ⟨(hl.2.2.2 p h).1, (hl.2.2.2 p h).2.1⟩
            exact ok.outs k' (ih k' (by omega) hk') y hy
        rcases hn.ins j h2 (ok.pure j h2 hb) with ⟨k', hk', p, hp, hpe⟩ | ⟨x, hxn, p, hp, hpe⟩
        · have hl := (atL_each hr hk').2.2.2.2.1 p hp
          have := ok.uses k' (ih k' (by omega) hk') p hp
          rw [hpe] at this; exact this
        · have := ok.exs x (hx x hxn ⟨p, hp, hpe⟩) p hp
          rw [hpe] at this; exact this
    · exact ih j (by omega) h2
theorem prnL_all {t : TrG} {kp : List Bool} {ex : List Int} : ∀ k, (∀ j, j < k → bA kp j = true) → (prnL t kp ex k).1.length = k
  | 0, _ => rfl
  | k + 1, h => by
    have e1 : (prnL t kp ex (k + 1)).1 = if bA kp k = true then (prnL t kp ex k).1 ++ [renV ex (insM (prnL t kp ex k).2 (atL t.ins k))] else (prnL t kp ex k).1 := rfl
    rw [e1, if_pos (h k (by omega)), List.length_append, prnL_all k (fun j hj => h j (by omega))]; rfl
theorem prnT_rt {t : TrG} (hr : RightV t) : RightV (prnT t) := prn_right hr (prnOk hr)
theorem prnT_again {t : TrG} (hr : RightV t) : (prnT (prnT t)).ins.length = (prnT t).ins.length :=
  prnL_all (prnT t).ins.length (fun j hj => all_kept (prnT_rt hr) (prnT_none hr) _ 0 (Nat.zero_add _) j (Nat.zero_le _) hj)
theorem prnT_le (t : TrG) : (prnT t).ins.length ≤ t.ins.length := (prnL_len t (finN t).2 _ t.ins.length).2
theorem prnT_outs (t : TrG) : (prnT t).outs.length ≤ t.outs.length := by
  show ((keepL (bA (finN t).1.exs) t.outs).map _).length ≤ _
  rw [List.length_map]; exact keepL_len _ _
theorem prnT_left {t : TrG} (hr : RightV t) : leftP (prnT t) = 0 := leftP_zero (prnT_rt hr) (prnT_none hr)
end Go.Proofs.YtblmoilneiffgaaGreat

/- prune.Left; the law's first call (chapter 19). -/
set_option maxRecDepth 100000
namespace Go.Proofs.YtblmoilneiffgaaGreat
open Go.RowKit

theorem pleft_any {D : Nat → Prop} {w : World} (t : TrP) {v : TrG} (ht : TrIs D w t v) : Calls Tryz.prog fn_prune_Left #[.agg (trP t).toArray] w fun e w' => ∃ n : Int, e = .returned (.int .i64 n) ∧ (RightV v → n = leftP v) ∧ (¬ RightV v → n = 0) ∧ Chg No w w' := by
  refine (prune_Left_lift (K := fun r w' => ∃ n : Int, r = .int .i64 n ∧ (RightV v → n = leftP v) ∧ (¬ RightV v → n = 0) ∧ Chg No w w') ?_).mono (by rintro e w' ⟨r, rfl, n, rfl, h⟩; exact ⟨n, rfl, h⟩)
  unfold prune_Left_sh
  intro b10 w11 hb10 hw11
  have c11 := al hw11
  have o10 : Ob w11 b10 (trP t) T_api_Trace := by rw [hw11, hb10]; exact Ob.new w (trP t) T_api_Trace
  refine ⟨_, _, _, _, _, _, _, _, _, o10.cell rfl, o10.cell rfl, o10.cell rfl, o10.cell rfl, o10.cell rfl, o10.cell rfl, o10.cell rfl, o10.cell rfl, o10.cell rfl, (iright_any t (ht.no c11)).mono ?_⟩
  rintro e w22 ⟨b, rfl, hb, c22⟩
  have k22 := trN c11 c22
  have p10 := o10.no c22
  refine ⟨b, rfl, brB_of (fun hno => ?_) (fun hyes => ?_)⟩
  · have hR : ¬ RightV v := fun h => by rw [hb.2 h] at hno; cases hno
    exact ⟨0, rfl, fun h => absurd h hR, fun _ => rfl, k22⟩
  have hR := hb.1 (by simpa using hyes)
  obtain ⟨q1, q2, q3⟩ := hR.head
  have hil := ht.ins.len
  refine ⟨_, _, _, _, _, _, _, _, _, p10.cell rfl, p10.cell rfl, p10.cell rfl, p10.cell rfl, p10.cell rfl, p10.cell rfl, p10.cell rfl, p10.cell rfl, p10.cell rfl, (nbegin_any t (ht.no k22) hR).mono ?_⟩
  rintro e w34 ⟨p, iS, eS, rfl, h34, hp⟩
  have r10 := p10.no h34.base
  have p34 := h34.ob.lt
  have nbk : ∀ k, NdB iS eS k → k < w34.heap.size := fun k hk => (h34.nb hk).2.2
  refine ⟨_, rfl, t.ins, r10.cell rfl, ?_⟩
  refine ⟨fun m w' => ∃ k : Nat, m = k ∧ k ≤ v.ins.length ∧ NdAt w22 w' p t iS eS (allK v k), fun m _ => v.ins.length - m.toNat, ⟨0, rfl, Nat.zero_le _, h34⟩, ?_⟩
  rintro m w37 ⟨k, rfl, hk, h37⟩
  have k37 := trN k22 h37.base
  obtain ⟨hk1, hk2⟩ := allK_len hR k hk
  refine brB_of (fun hlt => ?_) (fun hlt => ?_)
  · have hlt : k < v.ins.length := by simp at hlt; omega
    obtain ⟨i, hi⟩ : ∃ i, v.ins[k]? = some i := ⟨_, List.getElem?_eq_getElem hlt⟩
    refine (ht.ins.no k37).ix (i := (k : Int)) (by omega) (by rw [Int.toNat_natCast]; exact hi) fun a39 _ hc => ?_
    have g0 := hc 0 _ rfl
    rw [add0] at g0
    refine ⟨_, _, _, _, _, g0, hc 1 _ rfl, hc 2 _ rfl, hc 3 _ rfl, hc 4 _ rfl, ?_⟩
    intro b45 w46 hb45 hw46
    have hn := fun (w2 : World) => newOb (w2 := w2) (T := T_api_Ins) (insC ⟨0, 0, 0, 0, 0⟩) (insC i) rfl hb45 hw46
    refine ⟨(hn w46).1, fun w47 hw47 => ?_⟩
    obtain ⟨o47, c47⟩ := (hn w47).2 hw47
    refine ⟨_, _, _, _, _, o47.cell rfl, o47.cell rfl, o47.cell rfl, o47.cell rfl, o47.cell rfl, (nall_any (h37.no c47) (ht.no k22) hR hk1 hk2 (k := k) (by omega) (hR.each k i hi)).mono ?_⟩
    rintro e w54 ⟨rfl, h54, _⟩
    refine ⟨rfl, ?_⟩
    rw [wr_in (by omega)]
    refine ⟨⟨k + 1, by omega, by omega, ?_⟩, by show v.ins.length - Int.toNat ((k : Int) + 1) < v.ins.length - Int.toNat (k : Int); omega⟩
    have e : allK v (k + 1) = allN v (allK v k) i := by unfold allK; rw [List.take_add_one, hi]; rw [List.foldl_append]; rfl
    rw [e]; exact h54
  have hlt : k = v.ins.length := by simp at hlt; omega
  subst hlt
  refine ⟨t.ins, (p10.no h37.base).cell rfl, ?_⟩
  refine ⟨fun c m w' => ∃ k : Nat, m = k ∧ k ≤ v.ins.length ∧ c = (cntI v (allK v v.ins.length) k : Nat) ∧ NdAt w22 w' p t iS eS (allK v v.ins.length), fun _ m _ => v.ins.length - m.toNat, ⟨0, rfl, Nat.zero_le _, rfl, h37⟩, ?_⟩
  rintro c m w56 ⟨k, rfl, hk, rfl, h56⟩
  have k56 := trN k22 h56.base
  have hci := cnt_le (fun (j : Nat) => pureV (atL v.ins j) && !bA (allK v v.ins.length).ins j) k
  have hci : cntI v (allK v v.ins.length) k ≤ k := hci
  refine brB_of (fun hlt => ?_) (fun hlt => ?_)
  · have hlt : k < v.ins.length := by simp at hlt; omega
    obtain ⟨i, hi⟩ : ∃ i, v.ins[k]? = some i := ⟨_, List.getElem?_eq_getElem hlt⟩
    have hat : atL v.ins k = i := atL_get hi
    have hsn : cntI v (allK v v.ins.length) (k + 1) = cntI v (allK v v.ins.length) k + if (pureV i && !bA (allK v v.ins.length).ins k) = true then 1 else 0 := by
      unfold cntI; rw [cnt_snoc, hat]
    refine ⟨fun c w' => c = (cntI v (allK v v.ins.length) (k + 1) : Nat) ∧ NdAt w22 w' p t iS eS (allK v v.ins.length), ?_, ?_⟩
    · rintro c w82 ⟨rfl, h82⟩
      rw [wr_in (by omega)]
      exact ⟨⟨k + 1, by omega, by omega, rfl, h82⟩, by show v.ins.length - Int.toNat ((k : Int) + 1) < v.ins.length - Int.toNat (k : Int); omega⟩
    · refine (ht.ins.no k56).ix (i := (k : Int)) (by omega) (by rw [Int.toNat_natCast]; exact hi) fun a58 _ hc => ?_
      have g0 := hc 0 _ rfl
      rw [add0] at g0
      refine ⟨_, _, _, _, _, g0, hc 1 _ rfl, hc 2 _ rfl, hc 3 _ rfl, hc 4 _ rfl, ?_⟩
      intro b64 w65 hb64 hw65
      have hn := fun (w2 : World) => newOb (w2 := w2) (T := T_api_Ins) (insC ⟨0, 0, 0, 0, 0⟩) (insC i) rfl hb64 hw65
      refine ⟨(hn w65).1, fun w66 hw66 => ?_⟩
      obtain ⟨o66, c66⟩ := (hn w66).2 hw66
      refine ⟨fun b w' => b = (pureV i && !bA (allK v v.ins.length).ins k) ∧ NdAt w22 w' p t iS eS (allK v v.ins.length), ?_, ?_⟩
      · rintro b w79 ⟨rfl, h79⟩
        refine brB_of (fun hb => ⟨?_, h79⟩) (fun hb => ⟨?_, h79⟩)
        · rw [hsn, if_pos hb, wr_in (by omega)]; omega
        · rw [hsn, if_neg (by rw [hb]; decide)]; rfl
      · refine ⟨_, _, _, _, _, o66.cell rfl, o66.cell rfl, o66.cell rfl, o66.cell rfl, o66.cell rfl, (npure_any i w66).mono ?_⟩
        rintro e w73 ⟨rfl, c73⟩
        have h73 := (h56.no c66).no c73
        refine ⟨_, rfl, brB_of (fun hp1 => ?_) (fun hp1 => ⟨by rw [hp1]; rfl, h73⟩)⟩
        refine nn_ok ⟨iS, ?_, ?_⟩
        · rw [add_mk]; exact h73.ob.cell rfl
        refine h73.ins.rd.ix (i := (k : Int)) (by omega) (x := bA (allK v v.ins.length).ins k) (by rw [Int.toNat_natCast]; exact bA_get (by rw [hk1]; exact hlt)) fun a77 _ hcell => ?_
        have q77 := hcell 0 _ rfl
        rw [add0] at q77
        exact ⟨_, q77, by rw [hp1]; rfl, h73⟩
  have hlt : k = v.ins.length := by simp at hlt; omega
  subst hlt
  have hxl := h56.exs.rd.len
  refine nn_ok ⟨eS, ?_, ?_⟩
  · rw [add_mk]; exact h56.ob.cell rfl
  refine ⟨fun c m w' => ∃ k : Nat, m = k ∧ k ≤ v.outs.length ∧ c = (cntI v (allK v v.ins.length) v.ins.length + cntX (allK v v.ins.length) k : Nat) ∧ w' = w56, fun _ m _ => v.outs.length - m.toNat, ⟨0, rfl, Nat.zero_le _, rfl, rfl⟩, ?_⟩
  rintro c m w85 ⟨k, rfl, hk, rfl, rfl⟩
  have hcx := cnt_le (fun j => !bA (allK v v.ins.length).exs j) k
  have hcx : cntX (allK v v.ins.length) k ≤ k := hcx
  refine brB_of (fun hlt => ?_) (fun hlt => ?_)
  · have hlt : k < v.outs.length := by simp at hlt; omega
    have hsn : cntX (allK v v.ins.length) (k + 1) = cntX (allK v v.ins.length) k + if (!bA (allK v v.ins.length).exs k) = true then 1 else 0 := by
      unfold cntX; rw [cnt_snoc]
    refine ⟨fun c w' => c = (cntI v (allK v v.ins.length) v.ins.length + cntX (allK v v.ins.length) (k + 1) : Nat) ∧ w' = w85, ?_, ?_⟩
    · rintro c w90 ⟨rfl, rfl⟩
      rw [wr_in (by omega)]
      exact ⟨⟨k + 1, by omega, by omega, rfl, rfl⟩, by show v.outs.length - Int.toNat ((k : Int) + 1) < v.outs.length - Int.toNat (k : Int); omega⟩
    · refine h56.exs.rd.ix (i := (k : Int)) (by omega) (x := bA (allK v v.ins.length).exs k) (by rw [Int.toNat_natCast]; exact bA_get (by rw [hk2]; exact hlt)) fun a87 _ hcell => ?_
      have q87 := hcell 0 _ rfl
      rw [add0] at q87
      refine ⟨_, q87, brB_of (fun hb => ⟨?_, rfl⟩) (fun hb => ⟨?_, rfl⟩)⟩
      · rw [hsn, if_pos hb, wr_in (by omega)]; omega
      · rw [hsn, if_neg (by rw [hb]; decide)]; rfl
  have hlt : k = v.outs.length := by simp at hlt; omega
  subst hlt
  exact ⟨_, rfl, fun _ => rfl, fun h => absurd hR h, k56⟩
def al19 : TrG := ⟨5, 0, 0, 0, 0, [⟨1, 2, 0, 0, 0⟩], [⟨5, 1, [], []⟩], 0, []⟩
theorem alive19_any (w : World) : Calls Tryz.prog fn_hollowaylaw19_alive #[] w fun e w' => e = .returned (.bool true) ∧ Chg No w w' := by
  refine (hollowaylaw19_alive_lift (K := fun v w' => v = .bool true ∧ Chg No w w') ?_).mono (by rintro e w' ⟨v, rfl, rfl, h⟩; exact ⟨rfl, h⟩)
  unfold hollowaylaw19_alive_sh
  intro b1 w2 hb1 hw2 b3 w4 hb3 hw4 b5 w6 hb5 hw6
  obtain ⟨g2, c2⟩ := litIns al19.ins _ rfl hb1 hw2 (by decide)
  obtain ⟨g4, c4⟩ := litOus [⟨5, 1, nilS, nilS⟩] _ rfl hb3 hw4 (by simp)
  have hn := fun (w2 : World) => newOb (w2 := w2) (T := T_api_Trace) (trP ⟨0, 0, 0, 0, 0, nilS, nilS, 0, nilS⟩) (trP ⟨5, 0, 0, 0, 0, ⟨some ⟨b1, 0, none⟩, 1, 1⟩, ⟨some ⟨b3, 0, none⟩, 1, 1⟩, 0, nilS⟩) rfl hb5 hw6
  refine ⟨(hn w6).1, fun w7 hw7 => ?_⟩
  obtain ⟨o7, c7⟩ := (hn w7).2 hw7
  have k7 : Chg No w w7 := trN (trN c2 c4) c7
  have ht7 : TrIs Any w7 ⟨5, 0, 0, 0, 0, ⟨some ⟨b1, 0, none⟩, 1, 1⟩, ⟨some ⟨b3, 0, none⟩, 1, 1⟩, 0, nilS⟩ al19 :=
    tris ⟨rfl, rfl, rfl, rfl, rfl, rfl⟩ ((g2.no c4).no c7).rd (g4.no c7).rd (ous_cons ⟨rfl, rfl⟩ (Rd.nil _ _) (Rd.nil _ _) (ous_nil _)) (Rd.nil _ _)
  have hR : RightV al19 := rightB_ok (by decide +kernel)
  refine ⟨_, _, _, _, _, _, _, _, _, o7.cell rfl, o7.cell rfl, o7.cell rfl, o7.cell rfl, o7.cell rfl, o7.cell rfl, o7.cell rfl, o7.cell rfl, o7.cell rfl, (pdo_any _ ht7).mono ?_⟩
  rintro e w18 ⟨r, rfl, t', rfl, c18, h18⟩
  have h18 : TrOw (fun k => w7.heap.size ≤ k) w18 t' (prnT al19) := by
    rcases h18 with ⟨hno, _⟩ | ⟨_, h⟩
    · exact absurd hR hno
    · exact h
  refine ⟨_, _, _, _, _, _, _, _, _, rfl, ?_⟩
  intro b28 w29 hb28 hw29
  have hn := fun (w2 : World) => newOb (w2 := w2) (T := T_api_Trace) (trP ⟨0, 0, 0, 0, 0, nilS, nilS, 0, nilS⟩) (trP t') rfl hb28 hw29
  refine ⟨(hn w29).1, fun w30 hw30 => ?_⟩
  obtain ⟨o30, c30⟩ := (hn w30).2 hw30
  refine (rtwo_any 11 1 1 (by omega) w30).mono ?_
  rintro e w32 ⟨rfl, rfl⟩
  have e0 : Cn.rtwo 11 1 1 = 2 := by decide +kernel
  refine ⟨_, _, rfl, ?_⟩
  rw [e0]
  have k30 := trN (trN k7 c18) c30
  have o7' := (o7.no c18).no c30
  refine ⟨_, _, _, _, _, _, _, _, _, o7'.cell rfl, o7'.cell rfl, o7'.cell rfl, o7'.cell rfl, o7'.cell rfl, o7'.cell rfl, o7'.cell rfl, o7'.cell rfl, o7'.cell rfl, (pleft_any _ ((ht7.no c18).no c30)).mono ?_⟩
  rintro e w45 ⟨n, rfl, hn1, _, c45⟩
  have e1 : leftP al19 = 1 := by decide +kernel
  rw [hn1 hR, e1]
  have o45 := o30.no c45
  have ha := ((h18.is).no c30).no c45
  refine ⟨_, rfl, brB_t ⟨_, _, _, _, _, _, _, _, _, o45.cell rfl, o45.cell rfl, o45.cell rfl, o45.cell rfl, o45.cell rfl, o45.cell rfl, o45.cell rfl, o45.cell rfl, o45.cell rfl, (pleft_any _ ha).mono ?_⟩⟩
  rintro e w57 ⟨n, rfl, hn2, _, c57⟩
  have hR' : RightV (prnT al19) := prn_right hR (prnOk hR)
  have e2 : leftP (prnT al19) = 0 := by decide +kernel
  rw [hn2 hR', e2]
  have o57 := o45.no c57
  refine ⟨_, rfl, brB_t ⟨_, _, _, _, _, _, _, _, _, o57.cell rfl, o57.cell rfl, o57.cell rfl, o57.cell rfl, o57.cell rfl, o57.cell rfl, o57.cell rfl, o57.cell rfl, o57.cell rfl, (rright_any _ (ha.no c57)).mono ?_⟩⟩
  rintro e w69 ⟨b, rfl, hb, c69⟩
  rw [hb.2 hR']
  have o69 := o57.no c69
  refine ⟨_, rfl, brB_t ⟨t'.ins, o69.cell rfl, ?_⟩⟩
  have hl := h18.ins.rd.len
  have e3 : (prnT al19).ins.length = 0 := by decide +kernel
  rw [hl, e3]
  exact brB_t ⟨rfl, trN (trN (trN k30 c45) c57) c69⟩
end Go.Proofs.YtblmoilneiffgaaGreat
