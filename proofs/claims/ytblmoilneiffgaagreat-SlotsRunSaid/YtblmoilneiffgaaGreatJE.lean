/- Taking away what nobody needs: the plain law, the package prune. -/
import Derived.Test.YtblmoilneiffgaaGreatJ3

/- Taking away what nobody needs, in plain words; what it keeps. No program in sight. -/
set_option maxRecDepth 100000
namespace Go.Proofs.YtblmoilneiffgaaGreat
open Go.RowKit

def pureV (i : In5) : Bool := decide (i.a = 1 ∨ i.a = 2 ∨ i.a = 3 ∨ (i.a = 4 ∧ outsV i = []))
def bA (l : List Bool) (j : Nat) : Bool := l.getD j false
theorem bA_set {l : List Bool} {j k : Nat} {b : Bool} : bA (l.set k b) j = if k = j ∧ k < l.length then b else bA l j := by
  unfold bA
  rw [List.getD_eq_getElem?_getD, List.getElem?_set, List.getD_eq_getElem?_getD]
  by_cases hk : k = j
  · subst hk
    by_cases hl : k < l.length
    · simp [hl]
    · simp [hl]
  · simp [hk]
structure Ned where
  ins : List Bool
  exs : List Bool
def placesV (l : List Bool) (ps : List Int) : List Bool := ps.foldl (fun l p => l.set p.toNat true) l
def exitN (t : TrG) (n : Ned) (x : Int) : Ned :=
  if bA n.exs x.toNat = true then n else ⟨placesV (placesV n.ins (outAt t x).stack) (outAt t x).back, n.exs.set x.toNat true⟩
def exitsN (t : TrG) (n : Ned) (xs : List Int) : Ned := xs.foldl (exitN t) n
def allN (t : TrG) (n : Ned) (i : In5) : Ned := exitsN t ⟨placesV n.ins (usesV i), n.exs⟩ (outsV i)
def keepB (t : TrG) (n : Ned) (k : Nat) : Bool := bA n.ins k || !pureV (atL t.ins k)
def backS (t : TrG) (q : Ned × List Bool) (k : Nat) : Ned × List Bool :=
  (if keepB t q.1 k = true then allN t q.1 (atL t.ins k) else q.1, q.2.set k (keepB t q.1 k))
def backL (t : TrG) : Nat → Ned × List Bool → Ned × List Bool
  | 0, q => q
  | k + 1, q => backL t k (backS t q k)
theorem placesV_len (l : List Bool) (ps : List Int) : (placesV l ps).length = l.length := by
  induction ps generalizing l with
  | nil => rfl
  | cons p r ih => exact (ih (l.set p.toNat true)).trans (by simp)
theorem placesV_old {l : List Bool} {j : Nat} (ps : List Int) (h : bA l j = true) : bA (placesV l ps) j = true := by
  induction ps generalizing l with
  | nil => exact h
  | cons p r ih =>
    refine ih ?_
    rw [bA_set]; split
    · rfl
    · exact h
theorem placesV_new {l : List Bool} {ps : List Int} {p : Int} (hp : p ∈ ps) (hl : p.toNat < l.length) : bA (placesV l ps) p.toNat = true := by
  induction ps generalizing l with
  | nil => cases hp
  | cons q r ih =>
    rcases List.mem_cons.1 hp with rfl | hp
    · refine placesV_old r ?_
      rw [bA_set, if_pos ⟨rfl, hl⟩]
    · exact ih hp (by simpa using hl)
theorem placesV_only {l : List Bool} {ps : List Int} {j : Nat} (h : bA (placesV l ps) j = true) : bA l j = true ∨ ∃ p ∈ ps, p.toNat = j := by
  induction ps generalizing l with
  | nil => exact Or.inl h
  | cons q r ih =>
    rcases ih h with h | ⟨p, hp, hj⟩
    · rw [bA_set] at h
      split at h
      · next hh => exact Or.inr ⟨q, by simp, hh.1⟩
      · exact Or.inl h
    · exact Or.inr ⟨p, List.mem_cons_of_mem _ hp, hj⟩
def ClN (t : TrG) (n : Ned) : Prop := ∀ x : Nat, bA n.exs x = true → ∀ p ∈ (outAt t x).stack ++ (outAt t x).back, bA n.ins p.toNat = true
structure UpN (t : TrG) (k : Nat) (n n' : Ned) : Prop where
  li : n'.ins.length = n.ins.length
  lx : n'.exs.length = n.exs.length
  oi : ∀ j, bA n.ins j = true → bA n'.ins j = true
  ox : ∀ j, bA n.exs j = true → bA n'.exs j = true
  on : ∀ j, k ≤ j → bA n'.ins j = true → bA n.ins j = true
  cl : ClN t n → ClN t n'
theorem UpN.refl (t : TrG) (k : Nat) (n : Ned) : UpN t k n n := ⟨rfl, rfl, fun _ h => h, fun _ h => h, fun _ _ h => h, fun h => h⟩
theorem UpN.trans {t : TrG} {k : Nat} {a b c : Ned} (h : UpN t k a b) (g : UpN t k b c) : UpN t k a c :=
  ⟨g.li.trans h.li, g.lx.trans h.lx, fun j x => g.oi j (h.oi j x), fun j x => g.ox j (h.ox j x), fun j hj x => h.on j hj (g.on j hj x), fun x => g.cl (h.cl x)⟩
theorem up_places {t : TrG} {k : Nat} {n : Ned} {ps : List Int} (h : ∀ p ∈ ps, 0 ≤ p ∧ p < k) : UpN t k n ⟨placesV n.ins ps, n.exs⟩ :=
  ⟨placesV_len _ _, rfl, fun _ h => placesV_old _ h, fun _ h => h, fun j hj hb => by
    rcases placesV_only hb with h' | ⟨p, hp, hpj⟩
    · exact h'
    · have := h p hp; omega, fun hc x hx p hp => placesV_old _ (hc x hx p hp)⟩
theorem up_exit {t : TrG} {k : Nat} {n : Ned} {x : Int} (hl : n.ins.length = t.ins.length) (hx : OutV t x k) (hk : k ≤ t.ins.length) : UpN t k n (exitN t n x) := by
  obtain ⟨h0, h1, h2, h3⟩ := hx
  unfold exitN
  split
  · exact UpN.refl _ _ _
  · next hne =>
    refine ⟨by dsimp only; rw [placesV_len, placesV_len], by simp, fun _ h => placesV_old _ (placesV_old _ h), fun j h => ?_, fun j hj hb => ?_, fun hc y hy p hp => ?_⟩
    · rw [bA_set]; split
      · rfl
      · exact h
    · rcases placesV_only hb with h' | ⟨p, hp, hpj⟩
      · rcases placesV_only h' with h' | ⟨p, hp, hpj⟩
        · exact h'
        · have := h2 p hp; omega
      · have := h3 p hp; omega
    · rw [bA_set] at hy
      split at hy
      · next hh =>
        have hxy : (y : Int) = x := by omega
        rw [hxy] at hp
        rcases List.mem_append.1 hp with hp | hp
        · have := h2 p hp
          exact placesV_old _ (placesV_new hp (by omega))
        · have := h3 p hp
          exact placesV_new hp (by rw [placesV_len]; omega)
      · exact placesV_old _ (placesV_old _ (hc y hy p hp))
theorem exit_named {t : TrG} {n : Ned} {x : Int} (hl : n.exs.length = t.outs.length) (h0 : 0 ≤ x) (h1 : x < t.outs.length) : bA (exitN t n x).exs x.toNat = true := by
  unfold exitN
  split
  · assumption
  · rw [bA_set, if_pos ⟨rfl, by omega⟩]
theorem up_exits {t : TrG} {k : Nat} : ∀ (xs : List Int) (n : Ned), n.ins.length = t.ins.length → n.exs.length = t.outs.length → (∀ x ∈ xs, OutV t x k) → k ≤ t.ins.length → UpN t k n (exitsN t n xs) ∧ ∀ x ∈ xs, bA (exitsN t n xs).exs x.toNat = true
  | [], n, _, _, _, _ => ⟨UpN.refl _ _ _, fun x hx => by cases hx⟩
  | x :: r, n, hl, hx, h, hk => by
    have u := up_exit (n := n) hl (h x (by simp)) hk
    have hx0 := h x (by simp)
    obtain ⟨u2, n2⟩ := up_exits r (exitN t n x) (u.li.trans hl) (u.lx.trans hx) (fun y hy => h y (List.mem_cons_of_mem _ hy)) hk
    refine ⟨u.trans u2, fun y hy => ?_⟩
    rcases List.mem_cons.1 hy with rfl | hy
    · exact u2.ox _ (exit_named hx hx0.1 hx0.2.1)
    · exact n2 y hy
theorem up_all {t : TrG} {k : Nat} {n : Ned} {i : In5} (hl : n.ins.length = t.ins.length) (hx : n.exs.length = t.outs.length) (hi : EachV t k i) (hk : k ≤ t.ins.length) :
    UpN t k n (allN t n i) ∧ (∀ p ∈ usesV i, bA (allN t n i).ins p.toNat = true) ∧ ∀ x ∈ outsV i, bA (allN t n i).exs x.toNat = true := by
  obtain ⟨_, _, _, _, h5, h6⟩ := hi
  have u1 := up_places (t := t) (n := n) (k := k) (ps := usesV i) (fun p hp => by have := h5 p hp; omega)
  obtain ⟨u2, n2⟩ := up_exits (outsV i) ⟨placesV n.ins (usesV i), n.exs⟩ (u1.li.trans hl) hx h6 hk
  refine ⟨u1.trans u2, fun p hp => ?_, n2⟩
  have := h5 p hp
  exact u2.oi _ (placesV_new hp (by omega))
structure KpN (t : TrG) (k : Nat) (q : Ned × List Bool) : Prop where
  li : q.1.ins.length = t.ins.length
  lx : q.1.exs.length = t.outs.length
  lk : q.2.length = t.ins.length
  cl : ClN t q.1
  keep : ∀ j, k ≤ j → bA q.1.ins j = true → bA q.2 j = true
  uses : ∀ j, k ≤ j → bA q.2 j = true → ∀ p ∈ usesV (atL t.ins j), bA q.1.ins p.toNat = true
  outs : ∀ j, k ≤ j → bA q.2 j = true → ∀ x ∈ outsV (atL t.ins j), bA q.1.exs x.toNat = true
  pure : ∀ j, k ≤ j → j < t.ins.length → bA q.2 j = false → pureV (atL t.ins j) = true
  last : bA q.1.exs t.last.toNat = true
theorem atL_each {t : TrG} (hr : RightV t) {k : Nat} (hk : k < t.ins.length) : EachV t k (atL t.ins k) := by
  refine hr.each k _ ?_
  rw [List.getElem?_eq_getElem hk, atL_get (List.getElem?_eq_getElem hk)]
theorem KpN.step {t : TrG} (hr : RightV t) {k : Nat} (hk : k < t.ins.length) {q : Ned × List Bool} (h : KpN t (k + 1) q) : KpN t k (backS t q k) := by
  have hi := atL_each hr hk
  have hkb : ∀ j, j ≠ k → bA (q.2.set k (keepB t q.1 k)) j = bA q.2 j := fun j hj => by rw [bA_set, if_neg (fun hh => hj hh.1.symm)]
  have hkk : bA (q.2.set k (keepB t q.1 k)) k = keepB t q.1 k := by rw [bA_set, if_pos ⟨rfl, by rw [h.lk]; exact hk⟩]
  have hpl : bA q.1.ins k = true → keepB t q.1 k = true := fun hb => by unfold keepB; rw [hb]; rfl
  unfold backS
  by_cases hkp : keepB t q.1 k = true
  · rw [if_pos hkp]
    obtain ⟨u, n1, n2⟩ := up_all (n := q.1) h.li h.lx hi (by omega)
    refine ⟨u.li.trans h.li, u.lx.trans h.lx, by dsimp only; rw [List.length_set]; exact h.lk, u.cl h.cl, fun j hj hb => ?_, fun j hj hb p hp => ?_, fun j hj hb x hx => ?_, fun j hj hl hb => ?_, u.ox _ h.last⟩
    · by_cases hjk : j = k
      · subst hjk; dsimp only; rw [hkk]; exact hkp
      · dsimp only; rw [hkb j hjk]; exact h.keep j (by omega) (u.on j hj hb)
    · by_cases hjk : j = k
      · subst hjk; exact n1 p hp
      · dsimp only at hb; rw [hkb j hjk] at hb; exact u.oi _ (h.uses j (by omega) hb p hp)
    · by_cases hjk : j = k
      · subst hjk; exact n2 x hx
      · dsimp only at hb; rw [hkb j hjk] at hb; exact u.ox _ (h.outs j (by omega) hb x hx)
    · by_cases hjk : j = k
      · subst hjk; dsimp only at hb; rw [hkk, hkp] at hb; cases hb
      · dsimp only at hb; rw [hkb j hjk] at hb; exact h.pure j (by omega) hl hb
  · rw [if_neg hkp]
    have hkf : keepB t q.1 k = false := by simpa using hkp
    refine ⟨h.li, h.lx, by dsimp only; rw [List.length_set]; exact h.lk, h.cl, fun j hj hb => ?_, fun j hj hb p hp => ?_, fun j hj hb x hx => ?_, fun j hj hl hb => ?_, h.last⟩
    · by_cases hjk : j = k
      · subst hjk; exact absurd (hpl hb) hkp
      · dsimp only; rw [hkb j hjk]; exact h.keep j (by omega) hb
    · by_cases hjk : j = k
      · subst hjk; dsimp only at hb; rw [hkk] at hb; exact absurd hb hkp
      · dsimp only at hb; rw [hkb j hjk] at hb; exact h.uses j (by omega) hb p hp
    · by_cases hjk : j = k
      · subst hjk; dsimp only at hb; rw [hkk] at hb; exact absurd hb hkp
      · dsimp only at hb; rw [hkb j hjk] at hb; exact h.outs j (by omega) hb x hx
    · by_cases hjk : j = k
      · subst hjk
        unfold keepB at hkf
        rw [Bool.or_eq_false_iff] at hkf
        simpa using hkf.2
      · dsimp only at hb; rw [hkb j hjk] at hb; exact h.pure j (by omega) hl hb
theorem KpN.back {t : TrG} (hr : RightV t) : ∀ (k : Nat) (q : Ned × List Bool), k ≤ t.ins.length → KpN t k q → KpN t 0 (backL t k q)
  | 0, q, _, h => h
  | k + 1, q, hk, h => KpN.back hr k _ (by omega) (h.step hr (by omega))
structure PrnOk (t : TrG) (kp ex : List Bool) : Prop where
  uses : ∀ k, bA kp k = true → ∀ p ∈ usesV (atL t.ins k), bA kp p.toNat = true
  outs : ∀ k, bA kp k = true → ∀ x ∈ outsV (atL t.ins k), bA ex x.toNat = true
  exs : ∀ x : Nat, bA ex x = true → ∀ p ∈ (outAt t x).stack ++ (outAt t x).back, bA kp p.toNat = true
  pure : ∀ k, k < t.ins.length → bA kp k = false → pureV (atL t.ins k) = true
  last : bA ex t.last.toNat = true
/-! ### What is left -/
def keepL {α : Type} (f : Nat → Bool) : List α → List α
  | [] => []
  | a :: r => if f 0 = true then a :: keepL (fun k => f (k + 1)) r else keepL (fun k => f (k + 1)) r
theorem keepL_cons {α : Type} (f : Nat → Bool) (a : α) (r : List α) : keepL f (a :: r) = if f 0 = true then a :: keepL (fun k => f (k + 1)) r else keepL (fun k => f (k + 1)) r := rfl
theorem keepL_app {α : Type} (a b : List α) : ∀ f : Nat → Bool, keepL f (a ++ b) = keepL f a ++ keepL (fun k => f (k + a.length)) b := by
  induction a with
  | nil => intro f; rfl
  | cons x r ih =>
    intro f
    have e : (fun k => f (k + (x :: r).length)) = fun k => (fun k => f (k + 1)) (k + r.length) := by funext k; rfl
    show keepL f (x :: (r ++ b)) = _
    rw [e, keepL_cons, keepL_cons, ih]
    split <;> rfl
theorem keepL_take {α : Type} {f : Nat → Bool} {l : List α} {k : Nat} {a : α} (h : l[k]? = some a) : keepL f (l.take (k + 1)) = keepL f (l.take k) ++ (if f k = true then [a] else []) := by
  have hk : k < l.length := (List.getElem?_eq_some_iff.1 h).1
  rw [List.take_add_one, h]
  rw [keepL_app]
  congr 1
  rw [List.length_take, Nat.min_eq_left (by omega)]
  show keepL _ [a] = _
  unfold keepL
  simp [keepL]
theorem keepL_at {α : Type} {f : Nat → Bool} {l : List α} {k : Nat} {a : α} (h : l[k]? = some a) (hf : f k = true) : (keepL f l)[(keepL f (l.take k)).length]? = some a := by
  have hk : k < l.length := (List.getElem?_eq_some_iff.1 h).1
  have e : l = l.take (k + 1) ++ l.drop (k + 1) := (List.take_append_drop _ _).symm
  have h1 : keepL f l = keepL f (l.take (k + 1)) ++ keepL (fun j => f (j + (l.take (k + 1)).length)) (l.drop (k + 1)) := by
    rw [← keepL_app, ← e]
  rw [h1, keepL_take h, if_pos hf, List.append_assoc, List.getElem?_append_right (Nat.le_refl _)]
  simp
def exM (ex : List Bool) (os : List OuV) (n : Nat) : List Int := (List.range n).map fun x => ((keepL (bA ex) (os.take x)).length : Int)
theorem exM_len (ex : List Bool) (os : List OuV) (n : Nat) : (exM ex os n).length = n := by unfold exM; simp
theorem exM_at {ex : List Bool} {os : List OuV} {n : Nat} {x : Int} (h0 : 0 ≤ x) (h1 : x < n) : ofV (exM ex os n) x = ((keepL (bA ex) (os.take x.toNat)).length : Int) := by
  rw [ofV_in h0 (by rw [exM_len]; exact h1)]
  unfold getI exM
  rw [List.getD_eq_getElem?_getD, List.getElem?_map, List.getElem?_range (by omega)]; rfl
def renV (ex : List Int) (i : In5) : In5 :=
  if (outsV i).length = 2 then { i with b := ofV ex i.b, e := ofV ex i.e } else
  if (outsV i).length = 1 then { i with e := ofV ex i.e } else i
def prnL (t : TrG) (kp : List Bool) (ex : List Int) : Nat → List In5 × List Int
  | 0 => ([], [])
  | k + 1 => (if bA kp k = true then (prnL t kp ex k).1 ++ [renV ex (insM (prnL t kp ex k).2 (atL t.ins k))] else (prnL t kp ex k).1, (prnL t kp ex k).2 ++ [((prnL t kp ex k).1.length : Int)])
def prnA (t : TrG) (kp ex : List Bool) : TrG :=
  { t with ins := (prnL t kp (exM ex t.outs t.outs.length) t.ins.length).1,
           outs := (keepL (bA ex) t.outs).map (outM (prnL t kp (exM ex t.outs t.outs.length) t.ins.length).2),
           last := ofV (exM ex t.outs t.outs.length) t.last }
theorem outsV_cases (i : In5) : ((outsV i).length = 0 ∧ outsV i = []) ∨ ((outsV i).length = 1 ∧ outsV i = [i.e] ∧ i.a ≠ 6) ∨ ((outsV i).length = 2 ∧ outsV i = [i.e, i.b] ∧ i.a = 6) := by
  unfold outsV
  repeat' split
  all_goals first | exact Or.inl ⟨rfl, rfl⟩ | exact Or.inr (Or.inl ⟨rfl, rfl, by omega⟩) | exact Or.inr (Or.inr ⟨rfl, rfl, by omega⟩)
end Go.Proofs.YtblmoilneiffgaaGreat

/- Taking away what nobody needs: the trace that is left may be, and does what the trace does. No program in sight. -/
set_option maxRecDepth 100000
namespace Go.Proofs.YtblmoilneiffgaaGreat
open Go.RowKit

structure MapK (ti : List In5) (kp : List Bool) (k : Nat) (l : List In5) (m : List Int) : Prop where
  len : m.length = k
  le : l.length ≤ k
  pl : ∀ p : Int, 0 ≤ p → p < k → bA kp p.toNat = true → givesV (atL ti p).a = true → (0 ≤ ofV m p ∧ ofV m p < l.length) ∧ givesV (atL l (ofV m p)).a = true
def NamK (ti : List In5) (kp : List Bool) (ps : List Int) (k : Nat) : Prop := NamL ti ps k ∧ ∀ p ∈ ps, bA kp p.toNat = true
theorem MapK.named {ti l : List In5} {kp : List Bool} {k : Nat} {m : List Int} (h : MapK ti kp k l m) {ps : List Int} (hp : NamK ti kp ps k) : NamL l (ps.map (ofV m)) l.length := fun q hq => by
  obtain ⟨p, hp', rfl⟩ := List.mem_map.1 hq
  obtain ⟨a, b, c⟩ := hp.1 p hp'
  obtain ⟨d, e⟩ := h.pl p a b (hp.2 p hp') c
  exact ⟨d.1, d.2, e⟩
section
variable {t : TrG} {kp ex : List Bool}
def exI (t : TrG) (ex : List Bool) : List Int := exM ex t.outs t.outs.length
theorem outAt_ge {x : Int} (h0 : 0 ≤ x) (h1 : x < t.outs.length) : t.outs[x.toNat]? = some (outAt t x) := by
  unfold outAt; rw [List.getD_eq_getElem?_getD, List.getElem?_eq_getElem (by omega)]; rfl
theorem prn_out {x : Int} (h0 : 0 ≤ x) (h1 : x < t.outs.length) (hx : bA ex x.toNat = true) :
    (0 ≤ ofV (exI t ex) x ∧ ofV (exI t ex) x < (prnA t kp ex).outs.length) ∧ outAt (prnA t kp ex) (ofV (exI t ex) x) = outM (prnL t kp (exI t ex) t.ins.length).2 (outAt t x) := by
  have h := keepL_at (f := bA ex) (outAt_ge h0 h1) hx
  have e : ofV (exI t ex) x = _ := exM_at h0 h1
  have hl : (keepL (bA ex) (t.outs.take x.toNat)).length < (keepL (bA ex) t.outs).length := (List.getElem?_eq_some_iff.1 h).1
  rw [e]
  refine ⟨⟨by omega, ?_⟩, ?_⟩
  · show _ < ((((keepL (bA ex) t.outs).map _).length : Nat) : Int)
    rw [List.length_map]; omega
  · show ((keepL (bA ex) t.outs).map _).getD _ _ = _
    rw [List.getD_eq_getElem?_getD, List.getElem?_map, Int.toNat_natCast, h]; rfl
theorem exs_named (ok : PrnOk t kp ex) {x : Int} (h0 : 0 ≤ x) (hx : bA ex x.toNat = true) : (∀ p ∈ (outAt t x).stack, bA kp p.toNat = true) ∧ ∀ p ∈ (outAt t x).back, bA kp p.toNat = true := by
  have h := ok.exs x.toNat hx
  have e : ((x.toNat : Nat) : Int) = x := by omega
  rw [e] at h
  exact ⟨fun p hp => h p (List.mem_append_left _ hp), fun p hp => h p (List.mem_append_right _ hp)⟩
/-! ### What it does -/
def SimK (ti : List In5) (kp : List Bool) (k : Nat) (m : List Int) (n n' : Nat) (e e' : En) : Prop := ∀ p : Int, 0 ≤ p → p < k → bA kp p.toNat = true → givesV (atL ti p).a = true → valV (idA n') (ofV m p) e' = valV (idA n) p e
theorem SimK.vals {ti : List In5} {k : Nat} {m : List Int} {n n' : Nat} {e e' : En} (h : SimK ti kp k m n n' e e') {ps : List Int} (hp : NamK ti kp ps k) : valsV (idA n') (ps.map (ofV m)) e' = valsV (idA n) ps e := by
  unfold valsV
  rw [List.map_map]
  apply List.map_congr_left
  intro p hp'
  obtain ⟨a, b, c⟩ := hp.1 p hp'
  exact h p a b (hp.2 p hp') c
theorem SimK.uses {k : Nat} {m : List Int} {n n' : Nat} {e e' : En} (h : SimK t.ins kp k m n n' e e') {wl : List Int} {s : StV} {i : In5} (hi : EachV t k i) (hu : ∀ p ∈ usesV i, bA kp p.toNat = true) : ocV i.a i.b (valV (idA n) i.c e) (valV (idA n) i.d e) s wl = ocV i.a i.b (valV (idA n') (insM m i).c e') (valV (idA n') (insM m i).d e') s wl := by
  obtain ⟨h1, h2, h3, h4, h5, h6⟩ := hi
  apply ocV_uses h2
  · intro hc
    obtain ⟨a, b, c⟩ := h5 _ hc
    have := h _ a b (hu _ hc) c
    rw [← this]
    rcases usesV_cases i with ⟨g1, g2⟩ | ⟨g1, g2⟩ | ⟨g1, g2⟩
    · rw [g2] at hc; cases hc
    · unfold insM; rw [if_neg (by omega), if_pos g1]
    · unfold insM; rw [if_pos g1]
  · intro hc
    rcases usesV_cases i with ⟨g1, g2⟩ | ⟨g1, g2⟩ | ⟨g1, g2⟩
    · omega
    · omega
    · have hd : i.d ∈ usesV i := by rw [g2]; simp
      obtain ⟨a, b, c⟩ := h5 _ hd
      have := h _ a b (hu _ hd) c
      rw [← this]
      unfold insM; rw [if_pos g1]
theorem SimK.none {ti : List In5} {k : Nat} {m : List Int} {n n' : Nat} {e e' : En} (h : SimK ti kp k m n n' e e') (hl : m.length = k) (hg : givesV (atL ti k).a = false) (x : Int) (s s' : StV) : SimK ti kp (k + 1) (m ++ [x]) n n' { e with s := s } { e' with s := s' } := by
  intro p h0 h1 hb hp
  by_cases hk : p = k
  · subst hk; rw [hg] at hp; cases hp
  · rw [ofV_app _ h0 (by omega)]
    exact h p h0 (by omega) hb hp
theorem SimK.gone {ti : List In5} {k : Nat} {m : List Int} {n n' : Nat} {e e' : En} (h : SimK ti kp k m n n' e e') (hl : m.length = k) (hk : k < n) (hg : bA kp k = false) (x v : Int) (s s' : StV) : SimK ti kp (k + 1) (m ++ [x]) n n' (setV (idA n) k v { e with s := s }) { e' with s := s' } := by
  intro p h0 h1 hb hp
  by_cases hpk : p = k
  · subst hpk; rw [Int.toNat_natCast, hg] at hb; cases hb
  · rw [ofV_app _ h0 (by omega), val_ne (by omega) (by omega) h0 (by omega) hpk]
    exact h p h0 (by omega) hb hp
theorem SimK.some {ti : List In5} {k : Nat} {m : List Int} {n n' l : Nat} {e e' : En} (h : SimK ti kp k m n n' e e') (hl : m.length = k) (hk : k < n) (hl' : l < n') (hr : e.regs.length = n) (hr' : e'.regs.length = n')
    (hm : ∀ p : Int, 0 ≤ p → p < k → bA kp p.toNat = true → givesV (atL ti p).a = true → 0 ≤ ofV m p ∧ ofV m p < l) (v : Int) (s s' : StV) :
    SimK ti kp (k + 1) (m ++ [(l : Int)]) n n' (setV (idA n) k v { e with s := s }) (setV (idA n') l v { e' with s := s' }) := by
  intro p h0 h1 hb hp
  by_cases hpk : p = k
  · subst hpk
    rw [ofV_end (by rw [hl]), val_same (e := { e' with s := s' }) (by omega) (by omega) hr', val_same (e := { e with s := s }) (by omega) (by omega) hr]
  · obtain ⟨a, b⟩ := hm p h0 (by omega) hb hp
    rw [ofV_app _ h0 (by omega), val_ne (by omega) (by omega) a (by omega) (by omega), val_ne (by omega) (by omega) h0 (by omega) hpk]
    exact h p h0 (by omega) hb hp
theorem SimK.leave (ok : PrnOk t kp ex) {k : Nat} {m m' : List Int} {n n' : Nat} {e e' : En} (h : SimK t.ins kp k m n n' e e') (hl : m.length = k) {x : Int} (hx : OutV t x k) (hb : bA ex x.toNat = true) (hm : (prnL t kp (exI t ex) t.ins.length).2 = m ++ m') (hs : e'.s = e.s) :
    leaveV (prnA t kp ex) (idA n') (ofV (exI t ex) x) e' = leaveV t (idA n) x e := by
  obtain ⟨x0, x1, x2, x3⟩ := hx
  obtain ⟨n1, n2⟩ := exs_named ok x0 hb
  obtain ⟨_, ho⟩ := prn_out (kp := kp) x0 x1 hb
  unfold leaveV
  rw [ho, hs, hm]
  unfold outM
  dsimp only
  rw [map_of_app m' hl (named_iff.1 x2), map_of_app m' hl (named_iff.1 x3), h.vals ⟨named_iff.1 x2, n1⟩, h.vals ⟨named_iff.1 x3, n2⟩]
  rfl
end
end Go.Proofs.YtblmoilneiffgaaGreat
