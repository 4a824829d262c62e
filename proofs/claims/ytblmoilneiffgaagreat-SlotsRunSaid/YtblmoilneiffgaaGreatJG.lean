/- Values in few registers: the plain law, the package slots. -/
import Derived.Test.YtblmoilneiffgaaGreatJ3
import Derived.Test.YtblmoilneiffgaaGreatJD
import Derived.Test.YtblmoilneiffgaaGreatJE
import Derived.Test.YtblmoilneiffgaaGreatJ5
import Derived.Test.YtblmoilneiffgaaGreatJC
import Derived.Test.YtblmoilneiffgaaGreatJH
import Derived.Test.YtblmoilneiffgaaGreatJ8
import Derived.Test.YtblmoilneiffgaaGreatJ2
import Derived.Test.YtblmoilneiffgaaGreatJ7

/- Values in few registers, in plain words: up to where each value is alive, in which register it is; what a trace does in these. No program in sight. -/
set_option maxRecDepth 100000
namespace Go.Proofs.YtblmoilneiffgaaGreat
open Go.RowKit

def setAll (la : List Int) (l : List Int) (v : Int) : List Int := l.foldl (fun la p => la.set p.toNat v) la
def namesV (t : TrG) (i : In5) : List Int := usesV i ++ (outsV i).flatMap fun x => (outAt t x).stack ++ (outAt t x).back
def endsV (t : TrG) : List Int := (outAt t t.last).stack ++ (outAt t t.last).back
def liveL (t : TrG) : Nat → List Int
  | 0 => List.replicate t.ins.length 0
  | k + 1 => setAll ((liveL t k).set k (k : Int)) (namesV t (atL t.ins k)) k
def livesV (t : TrG) : List Int := setAll (liveL t t.ins.length) (endsV t) ((t.ins.length : Int) - 1)
theorem setAll_len (l : List Int) (v : Int) : ∀ la : List Int, (setAll la l v).length = la.length := by
  induction l with
  | nil => intro la; rfl
  | cons p r ih => intro la; exact (ih (la.set p.toNat v)).trans (by simp)
theorem setAll_app (a b : List Int) (la : List Int) (v : Int) : setAll la (a ++ b) v = setAll (setAll la a v) b v := by unfold setAll; rw [List.foldl_append]
theorem liveL_len (t : TrG) : ∀ k, (liveL t k).length = t.ins.length
  | 0 => by unfold liveL; simp
  | k + 1 => by unfold liveL; rw [setAll_len, List.length_set]; exact liveL_len t k
theorem livesV_len (t : TrG) : (livesV t).length = t.ins.length := by unfold livesV; rw [setAll_len, liveL_len]
def gN (l : List Int) (j : Nat) : Int := l.getD j 0
theorem gN_set {l : List Int} {j k : Nat} {v : Int} : gN (l.set k v) j = if k = j ∧ k < l.length then v else gN l j := by
  unfold gN
  rw [List.getD_eq_getElem?_getD, List.getElem?_set, List.getD_eq_getElem?_getD]
  by_cases hk : k = j
  · subst hk
    by_cases hl : k < l.length
    · simp [hl]
    · simp [hl]
  · simp [hk]
theorem getI_gN (l : List Int) (p : Int) : getI l p = gN l p.toNat := rfl
theorem gN_all : ∀ (l : List Int) (la : List Int) (v : Int) (j : Nat), (gN (setAll la l v) j = gN la j ∧ ∀ p ∈ l, p.toNat = j → j < la.length → gN la j = v) ∨ (gN (setAll la l v) j = v ∧ j < la.length ∧ ∃ p ∈ l, p.toNat = j)
  | [], la, v, j => Or.inl ⟨rfl, fun p hp => by cases hp⟩
  | q :: r, la, v, j => by
    have h := gN_all r (la.set q.toNat v) v j
    rw [List.length_set] at h
    have e : setAll la (q :: r) v = setAll (la.set q.toNat v) r v := rfl
    rw [e]
    rcases h with ⟨h1, h2⟩ | ⟨h1, h2, p, hp, hj⟩
    · rw [gN_set] at h1
      by_cases hq : q.toNat = j ∧ q.toNat < la.length
      · rw [if_pos hq] at h1
        exact Or.inr ⟨h1, by omega, q, by simp, hq.1⟩
      · rw [if_neg hq] at h1
        refine Or.inl ⟨h1, fun p hp hj hl => ?_⟩
        rcases List.mem_cons.1 hp with rfl | hp
        · exact absurd ⟨hj, by omega⟩ hq
        · have := h2 p hp hj hl
          rw [gN_set, if_neg hq] at this; exact this
    · exact Or.inr ⟨h1, h2, p, List.mem_cons_of_mem _ hp, hj⟩
theorem gN_named {l la : List Int} {v : Int} {p : Int} (hp : p ∈ l) (hl : p.toNat < la.length) : gN (setAll la l v) p.toNat = v := by
  rcases gN_all l la v p.toNat with ⟨h1, h2⟩ | ⟨h1, _⟩
  · rw [h1]; exact h2 p hp rfl hl
  · exact h1
theorem gN_ge {l la : List Int} {v : Int} {j : Nat} {x : Int} (h : x ≤ gN la j) (hv : x ≤ v) : x ≤ gN (setAll la l v) j := by
  rcases gN_all l la v j with ⟨h1, _⟩ | ⟨h1, _⟩ <;> omega
structure LvK (t : TrG) (k : Nat) (la : List Int) : Prop where
  len : la.length = t.ins.length
  le : ∀ j : Nat, 0 ≤ gN la j ∧ (gN la j = 0 ∨ gN la j < k)
  own : ∀ j : Nat, j < k → (j : Int) ≤ gN la j
  uses : ∀ j : Nat, j < k → ∀ p ∈ namesV t (atL t.ins j), (j : Int) ≤ gN la p.toNat
theorem named_names {t : TrG} {k : Nat} {i : In5} (h : EachV t k i) : ∀ p ∈ namesV t i, 0 ≤ p ∧ p < k ∧ givesV (atL t.ins p).a = true := by
  intro p hp
  obtain ⟨_, _, _, _, h5, h6⟩ := h
  rcases List.mem_append.1 hp with hp | hp
  · exact h5 p hp
  · obtain ⟨x, hx, hp⟩ := List.mem_flatMap.1 hp
    obtain ⟨_, _, h2, h3⟩ := h6 x hx
    rcases List.mem_append.1 hp with hp | hp
    · exact h2 p hp
    · exact h3 p hp
theorem atL_each' {t : TrG} (hr : RightV t) {k : Nat} (hk : k < t.ins.length) : EachV t k (atL t.ins k) := by
  refine hr.each k _ ?_
  rw [List.getElem?_eq_getElem hk, atL_get (List.getElem?_eq_getElem hk)]
theorem liveL_ok {t : TrG} (hr : RightV t) : ∀ k, k ≤ t.ins.length → LvK t k (liveL t k)
  | 0, _ => ⟨liveL_len t 0, fun j => by
      have : gN (liveL t 0) j = 0 := by
        unfold liveL gN; rw [List.getD_eq_getElem?_getD, List.getElem?_replicate]; split <;> rfl
      rw [this]; exact ⟨by omega, Or.inl rfl⟩, fun j h => by omega, fun j h => by omega⟩
  | k + 1, hk => by
    have h := liveL_ok hr k (by omega)
    have hE := atL_each' hr (k := k) (by omega)
    have hn := named_names hE
    refine ⟨liveL_len t (k + 1), fun j => ?_, fun j hj => ?_, fun j hj p hp => ?_⟩
    · unfold liveL
      have hb : 0 ≤ gN ((liveL t k).set k (k : Int)) j ∧ gN ((liveL t k).set k (k : Int)) j < ((k + 1 : Nat) : Int) := by
        rw [gN_set]
        have := h.le j
        split <;> omega
      rcases gN_all (namesV t (atL t.ins k)) ((liveL t k).set k (k : Int)) k j with ⟨h1, _⟩ | ⟨h1, _⟩
      · rw [h1]; exact ⟨hb.1, Or.inr hb.2⟩
      · rw [h1]; omega
    · unfold liveL
      by_cases hjk : j = k
      · subst hjk
        refine gN_ge ?_ (by omega)
        rw [gN_set, if_pos ⟨rfl, by rw [h.len]; omega⟩]; omega
      · refine gN_ge ?_ (by omega)
        rw [gN_set, if_neg (by omega)]
        exact h.own j (by omega)
    · unfold liveL
      by_cases hjk : j = k
      · subst hjk
        have hp' := hn p hp
        rw [gN_named hp (by rw [List.length_set, h.len]; omega)]; omega
      · refine gN_ge ?_ (by omega)
        rw [gN_set]
        split
        · omega
        · exact h.uses j (by omega) p hp
structure LvOk (t : TrG) (la : List Int) : Prop where
  len : la.length = t.ins.length
  own : ∀ j : Nat, j < t.ins.length → (j : Int) ≤ gN la j
  uses : ∀ j : Nat, j < t.ins.length → ∀ p ∈ namesV t (atL t.ins j), (j : Int) ≤ gN la p.toNat
  ends : ∀ p ∈ endsV t, (t.ins.length : Int) - 1 ≤ gN la p.toNat
theorem ends_in {t : TrG} (hr : RightV t) : ∀ p ∈ endsV t, 0 ≤ p ∧ p < t.ins.length ∧ givesV (atL t.ins p).a = true := by
  intro p hp
  obtain ⟨_, _, h2, h3⟩ := hr.last
  rcases List.mem_append.1 hp with hp | hp
  · exact h2 p hp
  · exact h3 p hp
theorem lives_ok {t : TrG} (hr : RightV t) : LvOk t (livesV t) := by
  have h := liveL_ok hr t.ins.length (Nat.le_refl _)
  refine ⟨livesV_len t, fun j hj => ?_, fun j hj p hp => ?_, fun p hp => ?_⟩
  · exact gN_ge (h.own j hj) (by omega)
  · exact gN_ge (h.uses j hj p hp) (by omega)
  · have := ends_in hr p hp
    unfold livesV
    rw [gN_named hp (by rw [h.len]; omega)]; omega
/-! ### Registers -/
structure Alt where
  at_ : List Int
  unt : List Int
def freeV (unt : List Int) (k : Int) : Nat := unt.findIdx fun e => decide (e < k)
def altS (t : TrG) (la : List Int) (q : Alt) (k : Nat) : Alt :=
  if givesV (atL t.ins k).a = true then
    (if freeV q.unt k < q.unt.length then ⟨q.at_.set k (freeV q.unt k : Int), q.unt.set (freeV q.unt k) (gN la k)⟩
     else ⟨q.at_.set k (q.unt.length : Int), q.unt ++ [gN la k]⟩)
  else q
def altL (t : TrG) (la : List Int) : Nat → Alt
  | 0 => ⟨List.replicate t.ins.length 0, []⟩
  | k + 1 => altS t la (altL t la k) k
def alive1 (t : TrG) (la : List Int) (k : Nat) (j : Nat) : Bool := givesV (atL t.ins j).a && decide ((k : Int) ≤ gN la j)
def countV (t : TrG) (la : List Int) (k : Nat) : Nat := ((List.range (min t.ins.length (k + 1))).filter (alive1 t la k)).length
structure AltK (t : TrG) (la : List Int) (k : Nat) (q : Alt) : Prop where
  len : q.at_.length = t.ins.length
  lo : ∀ j : Nat, 0 ≤ gN q.at_ j
  inr : ∀ j : Nat, j < k → givesV (atL t.ins j).a = true → gN q.at_ j < q.unt.length ∧ gN la j ≤ gN q.unt (gN q.at_ j).toNat
  zero : ∀ j : Nat, (j < k → givesV (atL t.ins j).a = false) → gN q.at_ j = 0
  lst : ∀ r : Nat, r < q.unt.length → ∃ j : Nat, j < k ∧ givesV (atL t.ins j).a = true ∧ gN q.at_ j = r ∧ gN la j = gN q.unt r
  dis : ∀ i j : Nat, i < j → j < k → givesV (atL t.ins i).a = true → givesV (atL t.ins j).a = true → gN q.at_ i = gN q.at_ j → gN la i < j
theorem free_lt {unt : List Int} {k : Int} (h : freeV unt k < unt.length) : gN unt (freeV unt k) < k := by
  have := List.findIdx_getElem (w := h)
  unfold gN; rw [List.getD_eq_getElem?_getD, List.getElem?_eq_getElem h]
  exact of_decide_eq_true this
theorem free_ge {unt : List Int} {k : Int} (h : ¬ freeV unt k < unt.length) {r : Nat} (hr : r < unt.length) : k ≤ gN unt r := by
  have h1 : freeV unt k = unt.length := by
    have := List.findIdx_le_length (xs := unt) (p := fun e => decide (e < k))
    unfold freeV at h ⊢; omega
  have h2 := List.not_of_lt_findIdx (xs := unt) (p := fun e => decide (e < k)) (i := r) (by show r < freeV unt k; omega)
  unfold gN; rw [List.getD_eq_getElem?_getD, List.getElem?_eq_getElem hr]
  show k ≤ unt[r]
  have h2 : ¬ (decide (unt[r] < k) = true) := by simpa using h2
  rw [decide_eq_true_eq] at h2; omega
theorem gN_app {l : List Int} {x : Int} {j : Nat} : gN (l ++ [x]) j = if j < l.length then gN l j else if j = l.length then x else 0 := by
  unfold gN
  rw [List.getD_eq_getElem?_getD, List.getD_eq_getElem?_getD]
  split
  · next h => rw [List.getElem?_append_left h]
  · next h =>
    rw [List.getElem?_append_right (by omega)]
    split
    · next h2 => rw [h2, Nat.sub_self]; rfl
    · next h2 =>
      rw [List.getElem?_eq_none (by simp; omega)]; rfl
theorem AltK.step {t : TrG} {la : List Int} {k : Nat} (hk : k < t.ins.length) (kOwn : (k : Int) ≤ gN la k) {q : Alt} (h : AltK t la k q) : AltK t la (k + 1) (altS t la q k) := by
  unfold altS
  by_cases hg : givesV (atL t.ins k).a = true
  · rw [if_pos hg]
    by_cases hf : freeV q.unt k < q.unt.length
    · rw [if_pos hf]
      have hfl := free_lt hf
      have ha : ∀ j : Nat, gN (q.at_.set k (freeV q.unt k : Int)) j = if j = k then (freeV q.unt k : Int) else gN q.at_ j := fun j => by
        rw [gN_set]
        by_cases hj : k = j
        · rw [if_pos ⟨hj, by rw [h.len]; exact hk⟩, if_pos hj.symm]
        · rw [if_neg (by omega), if_neg (by omega)]
      have hu : ∀ r : Nat, gN (q.unt.set (freeV q.unt k) (gN la k)) r = if r = freeV q.unt k then gN la k else gN q.unt r := fun r => by
        rw [gN_set]
        by_cases hj : freeV q.unt k = r
        · rw [if_pos ⟨hj, hf⟩, if_pos hj.symm]
        · rw [if_neg (by omega), if_neg (by omega)]
      refine ⟨by dsimp only; rw [List.length_set]; exact h.len, fun j => ?_, fun j hj hjg => ?_, fun j hj => ?_, fun r hr => ?_, fun i j hij hj hi hjg he => ?_⟩
      · dsimp only; rw [ha]; split
        · omega
        · exact h.lo j
      · dsimp only
        rw [ha, List.length_set]
        by_cases hjk : j = k
        · rw [if_pos hjk, Int.toNat_natCast, hu, if_pos rfl, hjk]; omega
        · rw [if_neg hjk, hu]
          obtain ⟨a, b⟩ := h.inr j (by omega) hjg
          refine ⟨a, ?_⟩
          split
          · next hh =>
            -- the register's last life ends ahead of k: but then j's too
            rw [hh] at b
            have : gN la j < k := by omega
            omega
          · exact b
      · dsimp only; rw [ha]
        by_cases hjk : j = k
        · have := hj (by omega); rw [hjk, hg] at this; cases this
        · rw [if_neg hjk]; exact h.zero j (fun hlt => hj (by omega))
      · dsimp only at hr ⊢
        rw [List.length_set] at hr
        by_cases hrf : r = freeV q.unt k
        · exact ⟨k, by omega, hg, by rw [ha, if_pos rfl, hrf], by rw [hu, if_pos hrf]⟩
        · obtain ⟨j, j1, j2, j3, j4⟩ := h.lst r hr
          exact ⟨j, by omega, j2, by rw [ha, if_neg (by omega)]; exact j3, by rw [hu, if_neg hrf]; exact j4⟩
      · dsimp only at he
        rw [ha, ha, if_neg (by omega)] at he
        by_cases hjk : j = k
        · rw [if_pos hjk] at he
          obtain ⟨a, b⟩ := h.inr i (by omega) hi
          rw [he, Int.toNat_natCast] at b
          omega
        · rw [if_neg hjk] at he
          exact h.dis i j hij (by omega) hi hjg he
    · rw [if_neg hf]
      have ha : ∀ j : Nat, gN (q.at_.set k (q.unt.length : Int)) j = if j = k then (q.unt.length : Int) else gN q.at_ j := fun j => by
        rw [gN_set]
        by_cases hj : k = j
        · rw [if_pos ⟨hj, by rw [h.len]; exact hk⟩, if_pos hj.symm]
        · rw [if_neg (by omega), if_neg (by omega)]
      have hlu : (q.unt ++ [gN la k]).length = q.unt.length + 1 := by simp
      refine ⟨by dsimp only; rw [List.length_set]; exact h.len, fun j => ?_, fun j hj hjg => ?_, fun j hj => ?_, fun r hr => ?_, fun i j hij hj hi hjg he => ?_⟩
      · dsimp only; rw [ha]; split
        · omega
        · exact h.lo j
      · dsimp only
        rw [ha, hlu]
        by_cases hjk : j = k
        · rw [if_pos hjk, Int.toNat_natCast, gN_app, if_neg (by omega), if_pos rfl, hjk]; omega
        · rw [if_neg hjk]
          obtain ⟨a, b⟩ := h.inr j (by omega) hjg
          have := h.lo j
          rw [gN_app, if_pos (by omega)]
          exact ⟨by omega, b⟩
      · dsimp only; rw [ha]
        by_cases hjk : j = k
        · have := hj (by omega); rw [hjk, hg] at this; cases this
        · rw [if_neg hjk]; exact h.zero j (fun hlt => hj (by omega))
      · dsimp only at hr ⊢
        rw [hlu] at hr
        by_cases hrf : r = q.unt.length
        · exact ⟨k, by omega, hg, by rw [ha, if_pos rfl, hrf], by rw [gN_app, if_neg (by omega), if_pos hrf]⟩
        · obtain ⟨j, j1, j2, j3, j4⟩ := h.lst r (by omega)
          exact ⟨j, by omega, j2, by rw [ha, if_neg (by omega)]; exact j3, by rw [gN_app, if_pos (by omega)]; exact j4⟩
      · dsimp only at he
        rw [ha, ha, if_neg (by omega)] at he
        by_cases hjk : j = k
        · rw [if_pos hjk] at he
          obtain ⟨a, b⟩ := h.inr i (by omega) hi
          omega
        · rw [if_neg hjk] at he
          exact h.dis i j hij (by omega) hi hjg he
  · rw [if_neg hg]
    refine ⟨h.len, h.lo, fun j hj hjg => ?_, fun j hj => ?_, fun r hr => ?_, fun i j hij hj hi hjg he => ?_⟩
    · refine h.inr j ?_ hjg
      rcases Nat.lt_succ_iff_lt_or_eq.1 hj with h' | h'
      · exact h'
      · subst h'; exact absurd hjg hg
    · exact h.zero j (fun hlt => hj (by omega))
    · obtain ⟨j, j1, j2, j3, j4⟩ := h.lst r hr
      exact ⟨j, by omega, j2, j3, j4⟩
    · refine h.dis i j hij ?_ hi hjg he
      rcases Nat.lt_succ_iff_lt_or_eq.1 hj with h' | h'
      · exact h'
      · subst h'; exact absurd hjg hg
theorem altL_ok {t : TrG} {la : List Int} (own : ∀ j : Nat, j < t.ins.length → (j : Int) ≤ gN la j) : ∀ k, k ≤ t.ins.length → AltK t la k (altL t la k)
  | 0, _ => by
    have z : ∀ j : Nat, gN (List.replicate t.ins.length 0) j = 0 := fun j => by
      unfold gN; rw [List.getD_eq_getElem?_getD, List.getElem?_replicate]; split <;> rfl
    refine ⟨by simp [altL], fun j => ?_, fun j h => by omega, fun j _ => ?_, fun r hr => by simp [altL] at hr, fun i j _ h => by omega⟩
    · show 0 ≤ gN (List.replicate t.ins.length 0) j; rw [z]; omega
    · exact z j
  | k + 1, hk => (altL_ok own k (by omega)).step (by omega) (own k (by omega))
def atsV (t : TrG) : List Int := (altL t (livesV t) t.ins.length).at_
def regsV (t : TrG) : Nat := (altL t (livesV t) t.ins.length).unt.length
theorem alt_ok {t : TrG} (hr : RightV t) : AltK t (livesV t) t.ins.length (altL t (livesV t) t.ins.length) := altL_ok (lives_ok hr).own _ (Nat.le_refl _)
/-! ### How many registers there are -/
theorem few_of : ∀ (n : Nat) (l : List Nat), l.Nodup → (∀ x ∈ l, x < n) → l.length ≤ n
  | 0, l, _, h => by
    cases l with
    | nil => exact Nat.le_refl _
    | cons x r => have := h x (by simp); omega
  | n + 1, l, hn, h => by
    have h1 : (l.erase n).Nodup := hn.erase n
    have h2 := few_of n (l.erase n) h1 (fun x hx => by
      have hx' := (List.Nodup.mem_erase_iff hn).1 hx
      have := h x hx'.2
      omega)
    have h3 : l.length ≤ (l.erase n).length + 1 := by
      by_cases hm : n ∈ l
      · rw [List.length_erase_of_mem hm]; omega
      · rw [List.erase_of_not_mem hm]; omega
    omega
theorem sub_len : ∀ (l m : List Nat), l.Nodup → (∀ x ∈ l, x ∈ m) → l.length ≤ m.length
  | [], m, _, _ => Nat.zero_le _
  | x :: r, m, hn, h => by
    have hx := h x (by simp)
    obtain ⟨h1, h2⟩ := List.nodup_cons.1 hn
    have := sub_len r (m.erase x) h2 (fun y hy => (List.mem_erase_of_ne (fun e => by subst e; exact h1 hy)).2 (h y (List.mem_cons_of_mem _ hy)))
    rw [List.length_erase_of_mem hx] at this
    have hp : 0 < m.length := List.length_pos_of_mem hx
    rw [List.length_cons]; omega
theorem map_nodup {l : List Nat} {f : Nat → Nat} (hn : l.Nodup) (h : ∀ x ∈ l, ∀ y ∈ l, f x = f y → x = y) : (l.map f).Nodup := by
  induction l with
  | nil => exact List.nodup_nil
  | cons x r ih =>
    obtain ⟨h1, h2⟩ := List.nodup_cons.1 hn
    rw [List.map_cons, List.nodup_cons]
    refine ⟨fun hm => ?_, ih h2 (fun a ha b hb => h a (List.mem_cons_of_mem _ ha) b (List.mem_cons_of_mem _ hb))⟩
    obtain ⟨y, hy, e⟩ := List.mem_map.1 hm
    have := h y (List.mem_cons_of_mem _ hy) x (by simp) e
    subst this; exact h1 hy
theorem count_le {t : TrG} {la : List Int} {q : Alt} (h : AltK t la t.ins.length q) (k : Nat) : countV t la k ≤ q.unt.length := by
  unfold countV
  have hn : ((List.range (min t.ins.length (k + 1))).filter (alive1 t la k)).Nodup := List.Pairwise.filter _ List.nodup_range
  have mem : ∀ j ∈ (List.range (min t.ins.length (k + 1))).filter (alive1 t la k), (j < t.ins.length ∧ j ≤ k) ∧ givesV (atL t.ins j).a = true ∧ (k : Int) ≤ gN la j := fun j hj => by
    obtain ⟨h1, h2⟩ := List.mem_filter.1 hj
    have h1 := List.mem_range.1 h1
    unfold alive1 at h2
    rw [Bool.and_eq_true, decide_eq_true_eq] at h2
    exact ⟨by omega, h2⟩
  have := few_of q.unt.length (((List.range (min t.ins.length (k + 1))).filter (alive1 t la k)).map fun j => (gN q.at_ j).toNat) (map_nodup hn fun x hx y hy e => by
    obtain ⟨x1, x2, x3⟩ := mem x hx
    obtain ⟨y1, y2, y3⟩ := mem y hy
    have hx0 := h.lo x
    have hy0 := h.lo y
    have e : gN q.at_ x = gN q.at_ y := by omega
    rcases Nat.lt_trichotomy x y with hlt | hlt | hlt
    · have := h.dis x y hlt y1.1 x2 y2 e; omega
    · exact hlt
    · have := h.dis y x hlt x1.1 y2 x2 e.symm; omega) (fun r hr => by
    obtain ⟨j, hj, rfl⟩ := List.mem_map.1 hr
    obtain ⟨j1, j2, j3⟩ := mem j hj
    obtain ⟨a, _⟩ := h.inr j j1.1 j2
    have := h.lo j
    omega)
  rw [List.length_map] at this; exact this
theorem altS_len (t : TrG) (la : List Int) (q : Alt) (k : Nat) : (altS t la q k).unt.length = q.unt.length ∨ ((altS t la q k).unt.length = q.unt.length + 1 ∧ givesV (atL t.ins k).a = true ∧ ¬ freeV q.unt k < q.unt.length) := by
  unfold altS
  split
  · next hg =>
    split
    · left; simp
    · next hf => right; exact ⟨by simp, hg, hf⟩
  · left; rfl
theorem count_ge {t : TrG} {la : List Int} (own : ∀ j : Nat, j < t.ins.length → (j : Int) ≤ gN la j) : ∀ k, k ≤ t.ins.length → (altL t la k).unt.length = 0 ∨ ∃ m, m < k ∧ (altL t la k).unt.length ≤ countV t la m
  | 0, _ => Or.inl rfl
  | k + 1, hk => by
    have ih := count_ge own k (by omega)
    have hA := altL_ok own k (by omega)
    rcases altS_len t la (altL t la k) k with h | ⟨h, hg, hf⟩
    · have e : (altL t la (k + 1)).unt.length = (altL t la k).unt.length := h
      rw [e]
      rcases ih with ih | ⟨m, hm, ih⟩
      · exact Or.inl ih
      · exact Or.inr ⟨m, by omega, ih⟩
    · have e : (altL t la (k + 1)).unt.length = (altL t la k).unt.length + 1 := h
      refine Or.inr ⟨k, by omega, ?_⟩
      rw [e]
      -- each register holds a value that is alive at k
      have pick : ∀ r : Nat, ∃ j : Nat, r < (altL t la k).unt.length → j < k ∧ givesV (atL t.ins j).a = true ∧ gN (altL t la k).at_ j = r ∧ (k : Int) ≤ gN la j := fun r => by
        by_cases hr : r < (altL t la k).unt.length
        · obtain ⟨j, j1, j2, j3, j4⟩ := hA.lst r hr
          exact ⟨j, fun _ => ⟨j1, j2, j3, by rw [j4]; exact free_ge hf hr⟩⟩
        · exact ⟨0, fun h => absurd h hr⟩
      let f : Nat → Nat := fun r => (pick r).choose
      have hf' : ∀ r, r < (altL t la k).unt.length → f r < k ∧ givesV (atL t.ins (f r)).a = true ∧ gN (altL t la k).at_ (f r) = r ∧ (k : Int) ≤ gN la (f r) := fun r hr => (pick r).choose_spec hr
      have hs := sub_len (k :: (List.range (altL t la k).unt.length).map f) ((List.range (min t.ins.length (k + 1))).filter (alive1 t la k)) (by
        rw [List.nodup_cons]
        refine ⟨fun hm => ?_, map_nodup List.nodup_range fun x hx y hy e => ?_⟩
        · obtain ⟨r, hr, e⟩ := List.mem_map.1 hm
          have := (hf' r (List.mem_range.1 hr)).1
          omega
        · have h1 := (hf' x (List.mem_range.1 hx)).2.2.1
          have h2 := (hf' y (List.mem_range.1 hy)).2.2.1
          rw [e, h2] at h1; omega) (fun x hx => by
        rcases List.mem_cons.1 hx with rfl | hx
        · refine List.mem_filter.2 ⟨List.mem_range.2 (by omega), ?_⟩
          unfold alive1; rw [hg, decide_eq_true (own x (by omega))]; rfl
        · obtain ⟨r, hr, rfl⟩ := List.mem_map.1 hx
          obtain ⟨h1, h2, _, h4⟩ := hf' r (List.mem_range.1 hr)
          refine List.mem_filter.2 ⟨List.mem_range.2 (by omega), ?_⟩
          unfold alive1; rw [h2, decide_eq_true h4]; rfl)
      rw [List.length_cons, List.length_map, List.length_range] at hs
      exact hs
/-! ### What a trace does in these registers -/
def SimA (t : TrG) (la ats : List Int) (k : Nat) (e e' : En) : Prop := ∀ p : Nat, p < k → givesV (atL t.ins p).a = true → (k : Int) ≤ gN la p + 1 → valV ats p e' = valV (idA t.ins.length) p e
theorem SimA.some {t : TrG} {la : List Int} {q : Alt} (hA : AltK t la t.ins.length q) {k : Nat} (hk : k < t.ins.length) {N : Nat} (hN : q.unt.length ≤ N) {e e' : En} (h : SimA t la q.at_ k e e') (hr : e.regs.length = t.ins.length) (hr' : e'.regs.length = N) (hg : givesV (atL t.ins k).a = true) (v : Int) (s s' : StV) :
    SimA t la q.at_ (k + 1) (setV (idA t.ins.length) k v { e with s := s }) (setV q.at_ k v { e' with s := s' }) := by
  intro p hp hpg hpl
  obtain ⟨a, _⟩ := hA.inr k hk hg
  have k0 := hA.lo k
  by_cases hpk : p = k
  · subst hpk
    rw [val_same (e := { e with s := s }) (by omega) (by omega) hr]
    show getI (List.set e'.regs (gN q.at_ p).toNat v) (gN q.at_ p) = v
    rw [getI_gN, gN_set, if_pos ⟨rfl, by omega⟩]
  · rw [val_ne (by omega) (by omega) (by omega) (by omega) (by omega)]
    have := h p (by omega) hpg (by omega)
    have e0 : valV (idA t.ins.length) (p : Int) { e with s := s } = valV (idA t.ins.length) (p : Int) e := rfl
    rw [e0, ← this]
    obtain ⟨b, _⟩ := hA.inr p (by omega) hpg
    have p0 := hA.lo p
    have hne : gN q.at_ p ≠ gN q.at_ k := fun e => by
      have := hA.dis p k (by omega) hk hpg hg e
      omega
    show getI (List.set e'.regs (gN q.at_ k).toNat v) (gN q.at_ p) = getI e'.regs (gN q.at_ p)
    rw [getI_gN, getI_gN, gN_set, if_neg (by omega)]
theorem SimA.none {t : TrG} {la ats : List Int} {k : Nat} {e e' : En} (h : SimA t la ats k e e') (hg : givesV (atL t.ins k).a = false) (s s' : StV) : SimA t la ats (k + 1) { e with s := s } { e' with s := s' } := by
  intro p hp hpg hpl
  have hpk : p ≠ k := fun e => by subst e; rw [hg] at hpg; cases hpg
  exact h p (by omega) hpg (by omega)
theorem SimA.vals {t : TrG} {la ats : List Int} {k : Nat} {e e' : En} (h : SimA t la ats k e e') {ps : List Int} (hp : ∀ p ∈ ps, (0 ≤ p ∧ p < k ∧ givesV (atL t.ins p).a = true) ∧ (k : Int) ≤ gN la p.toNat + 1) : valsV ats ps e' = valsV (idA t.ins.length) ps e := by
  unfold valsV
  apply List.map_congr_left
  intro p hp'
  obtain ⟨⟨a, b, c⟩, d⟩ := hp p hp'
  have e1 : ((p.toNat : Nat) : Int) = p := by omega
  have := h p.toNat (by omega) (by rw [e1]; exact c) d
  rw [e1] at this; exact this
theorem SimA.leave {t : TrG} {la ats : List Int} {k : Nat} {e e' : En} (h : SimA t la ats k e e') {x : Int} (hx : OutV t x k) (hl : ∀ p ∈ (outAt t x).stack ++ (outAt t x).back, (k : Int) ≤ gN la p.toNat + 1) (hs : e'.s = e.s) : leaveV t ats x e' = leaveV t (idA t.ins.length) x e := by
  obtain ⟨_, _, x2, x3⟩ := hx
  unfold leaveV
  rw [hs, h.vals (fun p hp => ⟨x2 p hp, hl p (List.mem_append_left _ hp)⟩), h.vals (fun p hp => ⟨x3 p hp, hl p (List.mem_append_right _ hp)⟩)]
theorem slot_sim {t : TrG} (hr : RightV t) {la : List Int} (hL : LvOk t la) {q : Alt} (hA : AltK t la t.ins.length q) {N : Nat} (hN : q.unt.length ≤ N) (wl : List Int) : ∀ (r : List In5) (k : Nat) (e e' : En), t.ins.drop k = r → k ≤ t.ins.length →
    SimA t la q.at_ k e e' → e'.s = e.s → e'.hit = e.hit → e.regs.length = t.ins.length → e'.regs.length = N →
    ∀ g g' : Int × En, g = goV (idA t.ins.length) wl t.last r k e → g' = goV q.at_ wl t.last r k e' →
      g'.1 = g.1 ∧ leaveV t q.at_ g.1 g'.2 = leaveV t (idA t.ins.length) g.1 g.2 ∧ g'.2.hit = g.2.hit
  | [], k, e, e', hd, hk, hv, hs, hh, hg, hg', g, g', hgg, hgg' => by
    subst hgg hgg'
    have hkl : k = t.ins.length := by
      have h1 : t.ins.length ≤ k := List.drop_eq_nil_iff.1 hd
      omega
    refine ⟨rfl, ?_, hh⟩
    exact hv.leave (hkl ▸ hr.last) (fun p hp => by have := hL.ends p hp; omega) hs
  | i :: r, k, e, e', hd, hk, hv, hs, hh, hg, hg', g, g', hgg, hgg' => by
    have hi : t.ins[k]? = some i := by rw [← List.head?_drop, hd]; rfl
    have hd' : t.ins.drop (k + 1) = r := by rw [← List.drop_drop, hd]; rfl
    have hk' : k < t.ins.length := (List.getElem?_eq_some_iff.1 hi).1
    have hat : atL t.ins k = i := atL_get hi
    have he := hr.each k i hi
    have hnm := hL.uses k hk'
    rw [hat] at hnm
    have use : ∀ p ∈ usesV i, valV q.at_ p e' = valV (idA t.ins.length) p e := fun p hp => by
      obtain ⟨a, b, c⟩ := he.2.2.2.2.1 p hp
      have e1 : ((p.toNat : Nat) : Int) = p := by omega
      have := hv p.toNat (by omega) (by rw [e1]; exact c) (by have := hnm p (List.mem_append_left _ hp); omega)
      rw [e1] at this; exact this
    have hu : ocV i.a i.b (valV q.at_ i.c e') (valV q.at_ i.d e') e'.s wl = ocV i.a i.b (valV (idA t.ins.length) i.c e) (valV (idA t.ins.length) i.d e) e.s wl := by
      rw [hs]
      apply ocV_uses he.2.1
      · exact fun hc => use _ hc
      · intro h2
        rcases usesV_cases i with ⟨g1, g2⟩ | ⟨g1, g2⟩ | ⟨g1, g2⟩
        · omega
        · omega
        · exact use _ (by rw [g2]; simp)
    have hgv := ocV_gives (op := i.a) i.b (valV (idA t.ins.length) i.c e) (valV (idA t.ins.length) i.d e) e.s wl he.1
    have outL : ∀ x ∈ outsV i, ∀ p ∈ (outAt t x).stack ++ (outAt t x).back, (k : Int) ≤ gN la p.toNat + 1 := fun x hx p hp => by
      have := hnm p (List.mem_append_right _ (List.mem_flatMap.2 ⟨x, hx, hp⟩)); omega
    cases hoc : ocV i.a i.b (valV (idA t.ins.length) i.c e) (valV (idA t.ins.length) i.d e) e.s wl with
    | go s ov =>
      rw [hoc] at hgv hu
      cases ov with
      | none =>
        have hgv : givesV i.a = false := hgv
        rw [goV_go hoc] at hgg
        rw [goV_go hu] at hgg'
        exact slot_sim hr hL hA hN wl r (k + 1) { e with s := s } { e' with s := s } hd' (by omega) (hv.none (by rw [hat]; exact hgv) s s) rfl hh hg hg' g g' hgg hgg'
      | some v =>
        have hgv : givesV i.a = true := hgv
        rw [goV_val hoc] at hgg
        rw [goV_val hu] at hgg'
        exact slot_sim hr hL hA hN wl r (k + 1) (setV (idA t.ins.length) k v { e with s := s }) (setV q.at_ k v { e' with s := s }) hd' (by omega) (hv.some hA hk' hN hg hg' (by rw [hat]; exact hgv) v s s) rfl hh (by rw [set_len]; exact hg) (by rw [set_len]; exact hg') g g' hgg hgg'
    | ex =>
      rw [hoc] at hu
      have hm := ocV_ex he.2.1 hoc
      have hx := he.2.2.2.2.2 _ hm
      rw [goV_ex hoc hx.1] at hgg
      rw [goV_ex hu hx.1] at hgg'
      subst hgg hgg'
      exact ⟨rfl, hv.leave hx (outL _ hm) hs, hh⟩
    | hit s a =>
      rw [hoc] at hu
      have hm := (ocV_hit hoc).2
      have hx := he.2.2.2.2.2 _ hm
      rw [goV_hit hoc hx.1] at hgg
      rw [goV_hit hu hx.1] at hgg'
      subst hgg hgg'
      have hv' : SimA t la q.at_ k { e with s := s, hit := a } { e' with s := s, hit := a } := fun p x y z => hv p x y z
      exact ⟨rfl, hv'.leave hx (outL _ hm) rfl, rfl⟩
theorem slot_runs {t : TrG} (hr : RightV t) {N : Nat} (hN : regsV t ≤ N) (s : StV) (wl : List Int) : (runA t (atsV t) N s wl).1 = (runG t s wl).1 ∧ leaveV t (atsV t) (runG t s wl).1 (runA t (atsV t) N s wl).2 = endV t (runG t s wl) ∧ (runA t (atsV t) N s wl).2.hit = (runG t s wl).2.hit :=
  slot_sim hr (lives_ok hr) (alt_ok hr) hN wl t.ins 0 (en0 t.ins.length s) (en0 N s) rfl (Nat.zero_le _) (fun p hp => by omega) rfl rfl (by simp [en0]) (by simp [en0]) _ _ rfl rfl
end Go.Proofs.YtblmoilneiffgaaGreat

/- Package slots: up to where values are alive; their registers. -/
set_option maxRecDepth 100000
namespace Go.Proofs.YtblmoilneiffgaaGreat
open Go.RowKit

theorem setAll_le {la : List Int} {v : Int} (h : ∀ j : Nat, j < la.length → gN la j ≤ v) (l : List Int) : ∀ j : Nat, j < la.length → gN (setAll la l v) j ≤ v := fun j hj => by
  rcases gN_all l la v j with ⟨h1, _⟩ | ⟨h1, _⟩
  · rw [h1]; exact h j hj
  · omega
theorem lname_any {w : World} {c3 : Nat} {s l : Sl} {la xs : List Int} {v : Int} (ho : Ob w c3 [s.val] T_sl_int) (hla : Ow intE w s la) (hne : s.blk ≠ some c3) (hl : Rd intE w l xs) (hlb : ∀ k, l.blk = some k → s.blk ≠ some k) (hp : ∀ x ∈ xs, 0 ≤ x ∧ x < la.length) (hle : ∀ j : Nat, j < la.length → gN la j ≤ v) (hn : xs.length ≤ 1000000) :
    Calls Tryz.prog fn_slots_lives_1 #[.int .i64 v, l.val, .pointer (some ⟨c3, 0, none⟩)] w fun e w' => e = .returned (.tuple #[]) ∧ Ow intE w' s (setAll la xs v) ∧ Chg (fun k => s.blk = some k) w w' := by
  refine (slots_lives_1_lift (K := fun r w' => r = .tuple #[] ∧ Ow intE w' s (setAll la xs v) ∧ Chg (fun k => s.blk = some k) w w') ?_).mono (by rintro e w' ⟨r, rfl, rfl, h⟩; exact ⟨rfl, h⟩)
  unfold slots_lives_1_sh
  have hll := hl.len
  refine ⟨fun m w' => ∃ k : Nat, m = k ∧ k ≤ xs.length ∧ Ow intE w' s (setAll la (xs.take k) v) ∧ Chg (fun k => s.blk = some k) w w', fun m _ => xs.length - m.toNat, ⟨0, rfl, Nat.zero_le _, hla, Chg.refl _ _⟩, ?_⟩
  rintro m w4 ⟨k, rfl, hk, h4, c4⟩
  refine brB_of (fun hlt => ?_) (fun hlt => ?_)
  · have hlt : k < xs.length := by simp at hlt; omega
    obtain ⟨x, hx⟩ : ∃ x, xs[k]? = some x := ⟨_, List.getElem?_eq_getElem hlt⟩
    obtain ⟨x0, x1⟩ := hp x (List.mem_of_getElem? hx)
    refine (hl.chg c4 hlb).ix (i := (k : Int)) (by omega) (by rw [Int.toNat_natCast]; exact hx) fun a _ hcell => ?_
    have q := hcell 0 _ rfl
    rw [add0] at q
    refine ⟨x, q, ?_⟩
    intro w8 hw8
    have c8 := dw hw8
    have h8 := h4.no c8
    have o8 := (ho.chg c4 hne).no c8
    have hlen : (setAll la (xs.take k) v).length = la.length := setAll_len _ _ _
    refine ⟨s, held_Lw (o8.cell rfl), s, held_Lw (o8.cell rfl), ?_⟩
    obtain ⟨y, hy⟩ : ∃ y, (setAll la (xs.take k) v)[x.toNat]? = some y := ⟨_, List.getElem?_eq_getElem (by omega)⟩
    refine h8.rd.ix x0 hy fun a' ha' hcell' => ?_
    have q' := hcell' 0 _ rfl
    rw [add0] at q'
    refine ⟨y, held_Lw q', a', ha', x0, by rw [h8.rd.len]; omega, ?_⟩
    obtain ⟨f1, f2⟩ := h8.set1 ha' (k := x.toNat) (j := 0) (x' := v) (u := .int .i64 v) hy (by decide) rfl
    rw [add0] at f1 f2
    have hyv : y ≤ v := by
      have := setAll_le hle (xs.take k) x.toNat (by omega)
      unfold gN at this
      rw [List.getD_eq_getElem?_getD, hy] at this; exact this
    have hmax : imax y v = v := by unfold imax; split <;> omega
    rw [hmax]
    refine ⟨f1, fun w14 hw14 => ?_⟩
    have c14 : Chg (fun k => s.blk = some k) w8 w14 := by rw [hw14]; exact Chg.st (S := fun k => s.blk = some k) (by rw [add_block]; exact blk_ptr ha')
    rw [wr_in (by omega)]
    have hst : setAll la (xs.take (k + 1)) v = (setAll la (xs.take k) v).set x.toNat v := by
      rw [List.take_add_one, hx]; exact setAll_app _ _ _ _
    refine ⟨⟨k + 1, by omega, by omega, ?_, (c4.trans c8 (fun _ _ h => h) (fun _ _ h => h.elim)).trans c14 (fun _ _ h => h) (fun _ _ h => h)⟩, by show xs.length - Int.toNat ((k : Int) + 1) < xs.length - Int.toNat (k : Int); omega⟩
    rw [hst, hw14]; exact f2
  · have hlt : k = xs.length := by simp at hlt; omega
    subst hlt
    rw [List.take_length] at h4
    exact ⟨rfl, h4, c4⟩
def markF (b : Nat) : Value := .func (.func fn_slots_lives_1) #[] #[.pointer (some ⟨b, 0, none⟩)]
theorem lexit_any {D : Nat → Prop} {w : World} {b15 b18 b10 : Nat} {s : Sl} {la : List Int} {v : Int} {t : TrP} {vt : TrG} (ho15 : Ob w b15 [s.val] T_sl_int) (ho18 : Ob w b18 [markF b15] T_func_int_sl_int) (ho10 : Ob w b10 (trP t) T_api_Trace) (hla : Ow intE w s la)
    (hb : ∀ k, s.blk = some k → k ≠ b15 ∧ k ≠ b18 ∧ k ≠ b10 ∧ ¬ D k) (ht : TrIs D w t vt) (hr : RightV vt) {x : Int} {k : Nat} (hk : k ≤ vt.ins.length) (hx : OutV vt x k) (hlen : la.length = vt.ins.length) (hle : ∀ j : Nat, j < la.length → gN la j ≤ v) :
    Calls Tryz.prog fn_slots_lives_2 #[.int .i64 v, .int .i64 x, .pointer (some ⟨b18, 0, none⟩), .pointer (some ⟨b10, 0, none⟩)] w fun e w' => e = .returned (.tuple #[]) ∧ Ow intE w' s (setAll la ((outAt vt x).stack ++ (outAt vt x).back) v) ∧ Chg (fun k => s.blk = some k) w w' := by
  refine (slots_lives_2_lift (K := fun r w' => r = .tuple #[] ∧ Ow intE w' s (setAll la ((outAt vt x).stack ++ (outAt vt x).back) v) ∧ Chg (fun k => s.blk = some k) w w') ?_).mono (by rintro e w' ⟨r, rfl, rfl, h⟩; exact ⟨rfl, h⟩)
  unfold slots_lives_2_sh
  obtain ⟨x0, x1, x2, x3⟩ := hx
  obtain ⟨os, hos, hov⟩ := ht.outs
  obtain ⟨o, ho⟩ : ∃ o, os[x.toNat]? = some o := ⟨_, List.getElem?_eq_getElem (by rw [hov.1]; omega)⟩
  obtain ⟨_, _, u3, u4, u5, u6⟩ := hov.2 _ _ _ ho (outAt_ge x0 x1)
  obtain ⟨_, _, e3, e4⟩ := hr.exits _ _ (outAt_ge x0 x1)
  obtain ⟨_, _, _, q3, q4, q5, q6⟩ := hr.head
  intro w5 hw5
  have c5 := dw hw5
  have p18 := ho18.no c5
  have p10 := ho10.no c5
  refine ⟨markF b15, held_Lw (p18.cell rfl), t.outs, held_Lw (p10.cell rfl), ?_⟩
  refine (hos.no c5).ix x0 ho fun a _ hc => ?_
  refine ⟨o.stack, held_Lw (hc 2 _ rfl), fn_slots_lives_1, #[], #[.pointer (some ⟨b15, 0, none⟩)], rfl, fun args w => orc.sok _ _ rfl args w, ?_⟩
  refine (lname_any (ho15.no c5) (hla.no c5) (fun he => (hb _ he).1 rfl) (u3.no c5) (fun k hk he => (hb k he).2.2.2 (u5 k hk)) (fun y hy => by have := x2 y hy; omega) hle (by omega)).mono ?_
  rintro e w14 ⟨rfl, h14, c14⟩
  refine ⟨rfl, ?_⟩
  intro w15 hw15
  have c15 := dw hw15
  have c515 : Chg (fun k => s.blk = some k) w5 w15 := c14.trans c15 (fun _ _ h => h) (fun _ _ h => h.elim)
  have k15 : Chg (fun k => s.blk = some k) w w15 := c5.trans c515 (fun _ _ h => h.elim) (fun _ _ h => h)
  have r18 := p18.chg c515 (fun he => (hb _ he).2.1 rfl)
  have r10 := p10.chg c515 (fun he => (hb _ he).2.2.1 rfl)
  have nD : ∀ k, D k → ¬ s.blk = some k := fun k hk he => (hb k he).2.2.2 hk
  refine ⟨markF b15, held_Lw (r18.cell rfl), t.outs, held_Lw (r10.cell rfl), ?_⟩
  refine (hos.chg k15 (fun k hk => nD k (ht.outsD k hk))).ix x0 ho fun a2 _ hc2 => ?_
  refine ⟨o.back, held_Lw (hc2 3 _ rfl), fn_slots_lives_1, #[], #[.pointer (some ⟨b15, 0, none⟩)], rfl, fun args w => orc.sok _ _ rfl args w, ?_⟩
  have hlen14 : (setAll la (outAt vt x).stack v).length = la.length := setAll_len _ _ _
  refine (lname_any (ho15.chg k15 (fun he => (hb _ he).1 rfl)) (h14.no c15) (fun he => (hb _ he).1 rfl) (u4.chg k15 (fun k hk => nD k (u6 k hk))) (fun k hk he => (hb k he).2.2.2 (u6 k hk)) (fun y hy => by have := x3 y hy; omega) (by rw [hlen14]; exact setAll_le hle _) (by omega)).mono ?_
  rintro e w24 ⟨rfl, h24, c24⟩
  exact ⟨rfl, rfl, by rw [setAll_app]; exact h24, k15.trans c24 (fun _ _ h => h) (fun _ _ h => h)⟩
theorem liveL_succ (v : TrG) (k : Nat) : liveL v (k + 1) = setAll (setAll ((liveL v k).set k (k : Int)) (usesV (atL v.ins k)) k) ((outsV (atL v.ins k)).flatMap fun x => (outAt v x).stack ++ (outAt v x).back) k := by
  rw [← setAll_app]; rfl
theorem lives_any {D : Nat → Prop} {w : World} (t : TrP) {v : TrG} (ht : TrIs D w t v) (hD : ∀ k, D k → k < w.heap.size) (hr : RightV v) :
    Calls Tryz.prog fn_slots_lives #[.agg (trP t).toArray] w fun e w' => ∃ s : Sl, e = .returned s.val ∧ Ow intE w' s (livesV v) ∧ (∀ k, s.blk = some k → w.heap.size ≤ k) ∧ Chg No w w' := by
  refine (slots_lives_lift (K := fun r w' => ∃ s : Sl, r = s.val ∧ Ow intE w' s (livesV v) ∧ (∀ k, s.blk = some k → w.heap.size ≤ k) ∧ Chg No w w') ?_).mono (by rintro e w' ⟨r, rfl, s, rfl, h⟩; exact ⟨s, rfl, h⟩)
  unfold slots_lives_sh
  intro b10 w11 hb10 hw11
  have c11 := al hw11
  have o11 : Ob w11 b10 (trP t) T_api_Trace := by rw [hw11, hb10]; exact Ob.new w (trP t) T_api_Trace
  have z11 := c11.size
  have l10 := o11.lt
  obtain ⟨q1, q2, q3⟩ := hr.head
  have hil := ht.ins.len
  refine ⟨t.ins, o11.cell rfl, ?_⟩
  rw [hil]
  obtain ⟨w14, hrun, hat, c14⟩ := make_ints (w := w11) (n := (v.ins.length : Int)) (N := v.ins.length) rfl (by omega)
  refine ⟨_, w14, hrun, ?_⟩
  obtain ⟨s, hs⟩ : ∃ s : Sl, s = ⟨some ⟨w11.heap.size, 0, none⟩, v.ins.length, v.ins.length⟩ := ⟨_, rfl⟩
  have hsb : s.blk = some w11.heap.size := by rw [hs]; rfl
  rw [← hs] at hat
  have z14 := hat.lt hsb
  intro b15 w16 hb15 hw16
  have hn15 := fun (w2 : World) => newOb (w2 := w2) (T := T_sl_int) [.slice none 0 0] [s.val] rfl hb15 hw16
  rw [← hs]
  refine ⟨(hn15 w16).1, fun w17 hw17 => ?_⟩
  obtain ⟨o17, c17⟩ := (hn15 w17).2 hw17
  have z17 := c17.size
  have l15 := o17.lt
  intro b18 w19 hb18 hw19
  have hn18 := fun (w2 : World) => newOb (w2 := w2) (T := T_func_int_sl_int) [.nilFunc] [markF b15] rfl hb18 hw19
  refine ⟨(hn18 w19).1, fun w20 hw20 => ?_⟩
  obtain ⟨o20, c20⟩ := (hn18 w20).2 hw20
  have z20 := c20.size
  have l18 := o20.lt
  have k1420 := trN c17 c20
  have k20 : Chg No w w20 := trN (trN c11 c14) k1420
  have p10 := (o11.no c14).no k1420
  have p15 := o17.no c20
  have hsne : ∀ k, s.blk = some k → k ≠ b15 ∧ k ≠ b18 ∧ k ≠ b10 ∧ ¬ D k := fun k hk => by
    have : w11.heap.size = k := Option.some.inj (hsb.symm.trans hk)
    refine ⟨by omega, by omega, by omega, fun hd => ?_⟩
    have := hD k hd; omega
  have nD : ∀ k, D k → ¬ s.blk = some k := fun k hk he => (hsne k he).2.2.2 hk
  have new : ∀ k, s.blk = some k → w.heap.size ≤ k := fun k hk => by
    have : w11.heap.size = k := Option.some.inj (hsb.symm.trans hk); omega
  refine ⟨t.ins, p10.cell rfl, ?_⟩
  refine ⟨fun m w' => ∃ k : Nat, m = k ∧ k ≤ v.ins.length ∧ Ow intE w' s (liveL v k) ∧ Chg (fun k => s.blk = some k) w20 w', fun m _ => v.ins.length - m.toNat, ⟨0, rfl, Nat.zero_le _, hat.no k1420, Chg.refl _ _⟩, ?_⟩
  rintro m w22 ⟨k, rfl, hk, h22, c22⟩
  have k22 : Chg (fun k => s.blk = some k) w w22 := k20.trans c22 (fun _ _ h => h.elim) (fun _ _ h => h)
  have hL := liveL_ok hr k hk
  refine brB_of (fun hlt => ?_) (fun hlt => ?_)
  · have hlt : k < v.ins.length := by simp at hlt; omega
    obtain ⟨i, hi⟩ : ∃ i, v.ins[k]? = some i := ⟨_, List.getElem?_eq_getElem hlt⟩
    have hat' : atL v.ins k = i := atL_get hi
    have hE := hr.each k i hi
    refine (ht.ins.chg k22 (fun k hk => nD k (ht.insD k hk))).ix (i := (k : Int)) (by omega) (by rw [Int.toNat_natCast]; exact hi) fun a24 _ hc => ?_
    have g0 := hc 0 _ rfl
    rw [add0] at g0
    refine ⟨_, _, _, _, _, g0, hc 1 _ rfl, hc 2 _ rfl, hc 3 _ rfl, hc 4 _ rfl, ?_⟩
    intro b30 w31 hb30 hw31
    have hn := fun (w2 : World) => newOb (w2 := w2) (T := T_api_Ins) (insC ⟨0, 0, 0, 0, 0⟩) (insC i) rfl hb30 hw31
    refine ⟨(hn w31).1, fun w32 hw32 => ?_⟩
    obtain ⟨o32, c32⟩ := (hn w32).2 hw32
    have z22 := c22.size
    have l32 := o32.lt
    have h32 := h22.no c32
    have hne30 : ∀ j, s.blk = some j → j ≠ b30 := fun j hj => by
      have : w11.heap.size = j := Option.some.inj (hsb.symm.trans hj); omega
    refine ⟨s, ((p15.chg c22 (fun he => (hsne _ he).1 rfl)).no c32).cell rfl, ?_⟩
    refine h32.rd.ix (i := (k : Int)) (x := gN (liveL v k) k) (by omega) (by rw [Int.toNat_natCast]; unfold gN; rw [List.getD_eq_getElem?_getD, List.getElem?_eq_getElem (by rw [liveL_len]; exact hlt)]; rfl) fun a34 ha34 _ => ?_
    obtain ⟨f1, f2⟩ := h32.set1 ha34 (k := k) (j := 0) (x := gN (liveL v k) k) (x' := (k : Int)) (u := .int .i64 (k : Int)) (by unfold gN; rw [List.getD_eq_getElem?_getD, List.getElem?_eq_getElem (by rw [liveL_len]; exact hlt)]; rfl) (by decide) rfl
    rw [add0] at f1 f2
    rw [Int.toNat_natCast]
    refine ⟨f1, fun w35 hw35 => ?_⟩
    have h35 : Ow intE w35 s ((liveL v k).set k (k : Int)) := by rw [hw35]; exact f2
    have c35 : Chg (fun k => s.blk = some k) w32 w35 := by rw [hw35]; exact Chg.st (S := fun k => s.blk = some k) (by rw [add_block]; exact blk_ptr ha34)
    have o35 := o32.chg c35 (fun he => hne30 _ he rfl)
    have k2235 : Chg (fun k => s.blk = some k) w20 w35 := (c22.trans c32 (fun _ _ h => h) (fun _ _ h => h.elim)).trans c35 (fun _ _ h => h) (fun _ _ h => h)
    intro w36 hw36
    have c36 := dw hw36
    have k36 : Chg (fun k => s.blk = some k) w20 w36 := k2235.trans c36 (fun _ _ h => h) (fun _ _ h => h.elim)
    have r18 := o20.chg k36 (fun he => (hsne _ he).2.1 rfl)
    have r30 := o35.no c36
    refine ⟨fun w' => Chg No w36 w', Chg.refl _ _, markF b15, Ob.held (fun w' c => r18.no c) rfl, _, _, _, _, _, Ob.held (fun w' c => r30.no c) rfl, Ob.held (fun w' c => r30.no c) rfl, Ob.held (fun w' c => r30.no c) rfl, Ob.held (fun w' c => r30.no c) rfl, Ob.held (fun w' c => r30.no c) rfl, (iuses_any i w36).mono ?_⟩
    rintro e w45 ⟨r, rfl, s46, rfl, g46, c45, n46⟩
    have k45 : Chg (fun k => s.blk = some k) w20 w45 := k36.trans c45 (fun _ _ h => h) (fun _ _ h => h.elim)
    have h45 := (h35.no c36).no c45
    have hlen45 : ((liveL v k).set k (k : Int)).length = v.ins.length := by rw [List.length_set, liveL_len]
    have hle45 : ∀ j : Nat, j < ((liveL v k).set k (k : Int)).length → gN ((liveL v k).set k (k : Int)) j ≤ (k : Int) := fun j hj => by
      rw [gN_set]
      have := hL.le j
      split <;> omega
    have ltS : ∀ k, s.blk = some k → k < w36.heap.size := fun k hk => ((h35.no c36)).lt hk
    refine ⟨s46, rfl, c45, fn_slots_lives_1, #[], #[.pointer (some ⟨b15, 0, none⟩)], rfl, fun args w => orc.sok _ _ rfl args w, ?_⟩
    refine (lname_any (p15.chg k45 (fun he => (hsne _ he).1 rfl)) h45 (fun he => (hsne _ he).1 rfl) g46.rd (fun j hj he => by have := n46 j hj; have := ltS j he; omega) (fun y hy => by have := hE.2.2.2.2.1 y hy; rw [hlen45]; omega) hle45 (by rcases usesV_cases i with ⟨g, _⟩ | ⟨g, _⟩ | ⟨g, _⟩ <;> omega)).mono ?_
    rintro e w51 ⟨rfl, h51, c51⟩
    have k51 : Chg (fun k => s.blk = some k) w20 w51 := k45.trans c51 (fun _ _ h => h) (fun _ _ h => h)
    have o51 := (r30.no c45).chg c51 (fun he => hne30 _ he rfl)
    refine ⟨rfl, _, _, _, _, _, o51.cell rfl, o51.cell rfl, o51.cell rfl, o51.cell rfl, o51.cell rfl, (iouts_any i w51).mono ?_⟩
    rintro e w58 ⟨r, rfl, s59, rfl, g59, c58, n59⟩
    have ltS' : ∀ k, s.blk = some k → k < w51.heap.size := fun k hk => h51.lt hk
    have hl59 := g59.rd.len
    have hol : (outsV i).length ≤ 2 := by rcases outsV_cases i with ⟨g, _⟩ | ⟨g, _⟩ | ⟨g, _⟩ <;> omega
    have hlen51 : (setAll ((liveL v k).set k (k : Int)) (usesV i) k).length = v.ins.length := by rw [setAll_len, hlen45]
    have hle51 : ∀ j : Nat, j < (setAll ((liveL v k).set k (k : Int)) (usesV i) k).length → gN (setAll ((liveL v k).set k (k : Int)) (usesV i) k) j ≤ (k : Int) := by rw [setAll_len]; exact setAll_le hle45 (usesV i)
    refine ⟨s59, rfl, fun m w' => ∃ j : Nat, m = j ∧ j ≤ (outsV i).length ∧ Ow intE w' s (setAll (setAll ((liveL v k).set k (k : Int)) (usesV i) k) (((outsV i).take j).flatMap fun x => (outAt v x).stack ++ (outAt v x).back) k) ∧ Chg (fun k => s.blk = some k) w58 w', fun m _ => (outsV i).length - m.toNat, ⟨0, rfl, Nat.zero_le _, h51.no c58, Chg.refl _ _⟩, ?_⟩
    rintro m w60 ⟨j, rfl, hj, h60, c60⟩
    have k60 : Chg (fun k => s.blk = some k) w20 w60 := (k51.trans c58 (fun _ _ h => h) (fun _ _ h => h.elim)).trans c60 (fun _ _ h => h) (fun _ _ h => h)
    have kw60 : Chg (fun k => s.blk = some k) w w60 := k20.trans k60 (fun _ _ h => h.elim) (fun _ _ h => h)
    refine brB_of (fun hjl => ?_) (fun hjl => ?_)
    · have hjl : j < (outsV i).length := by simp at hjl; omega
      obtain ⟨x, hx⟩ : ∃ x, (outsV i)[j]? = some x := ⟨_, List.getElem?_eq_getElem hjl⟩
      have hO := hE.2.2.2.2.2 x (List.mem_of_getElem? hx)
      refine (g59.rd.chg c60 (fun q hq he => by have := n59 q hq; have := ltS' q he; omega)).ix (i := (j : Int)) (by omega) (by rw [Int.toNat_natCast]; exact hx) fun a62 _ hc62 => ?_
      have g62 := hc62 0 _ rfl
      rw [add0] at g62
      refine ⟨x, g62, fn_slots_lives_2, #[], _, rfl, fun args w => orc.sok _ _ rfl args w, ?_⟩
      refine (lexit_any (t := t) (vt := v) (p15.chg k60 (fun he => (hsne _ he).1 rfl)) (o20.chg k60 (fun he => (hsne _ he).2.1 rfl)) (p10.chg k60 (fun he => (hsne _ he).2.2.1 rfl)) h60 hsne (ht.chg kw60 nD) hr (k := k) (by omega) hO (by rw [setAll_len, hlen51]) (by rw [setAll_len]; exact setAll_le hle51 _)).mono ?_
      rintro e w68 ⟨rfl, h68, c68⟩
      rw [wr_in (by omega)]
      refine ⟨rfl, ⟨j + 1, by omega, by omega, ?_, c60.trans c68 (fun _ _ h => h) (fun _ _ h => h)⟩, by show (outsV i).length - Int.toNat ((j : Int) + 1) < (outsV i).length - Int.toNat (j : Int); omega⟩
      rw [List.take_add_one, hx, List.flatMap_append, setAll_app]
      simpa using h68
    · have hjl : j = (outsV i).length := by simp at hjl; omega
      subst hjl
      rw [List.take_length] at h60
      rw [wr_in (by omega)]
      refine ⟨⟨k + 1, by omega, by omega, ?_, k60⟩, by show v.ins.length - Int.toNat ((k : Int) + 1) < v.ins.length - Int.toNat (k : Int); omega⟩
      rw [liveL_succ, hat']; exact h60
  · have hlt : k = v.ins.length := by simp at hlt; omega
    subst hlt
    refine ⟨t.ins, (p10.chg c22 (fun he => (hsne _ he).2.2.1 rfl)).cell rfl, t.last, (p10.chg c22 (fun he => (hsne _ he).2.2.1 rfl)).cell rfl, fn_slots_lives_2, #[], _, rfl, fun args w => orc.sok _ _ rfl args w, ?_⟩
    have e1 : wr ((t.ins.len : Int) - 1) = (v.ins.length : Int) - 1 := by rw [hil, wr_in (by omega)]
    rw [e1]
    have u15 := p15.chg c22 (fun he => (hsne _ he).1 rfl)
    have u18 := o20.chg c22 (fun he => (hsne _ he).2.1 rfl)
    have u10 := p10.chg c22 (fun he => (hsne _ he).2.2.1 rfl)
    have hle22 : ∀ j : Nat, j < (liveL v v.ins.length).length → gN (liveL v v.ins.length) j ≤ (v.ins.length : Int) - 1 := fun j hj => by have := hL.le j; rw [liveL_len] at hj; omega
    have hcall := lexit_any u15 u18 u10 h22 hsne (ht.chg k22 nD) hr (Nat.le_refl _) hr.last (liveL_len v v.ins.length) hle22
    rw [show t.last = v.last from ht.nums.2.2.2.2.2]
    refine hcall.mono ?_
    rintro e w75 ⟨rfl, h75, c75⟩
    have k75 : Chg (fun k => s.blk = some k) w20 w75 := c22.trans c75 (fun _ _ h => h) (fun _ _ h => h)
    exact ⟨rfl, s, (p15.chg k75 (fun he => (hsne _ he).1 rfl)).cell rfl, s, rfl, h75, new, k20.trans k75 (fun _ _ h => h) (fun k hk he => by have := new k he; omega)⟩
end Go.Proofs.YtblmoilneiffgaaGreat

/- Package slots: registers, Least, Make, Run. -/
set_option maxRecDepth 100000
namespace Go.Proofs.YtblmoilneiffgaaGreat
open Go.RowKit

theorem free_is {unt : List Int} {k x : Int} {j : Nat} (hx : unt[j]? = some x) (h : x < k) (hall : ∀ (i : Nat) (y : Int), i < j → unt[i]? = some y → ¬ y < k) : freeV unt k = j := by
  obtain ⟨hj, hx⟩ := List.getElem?_eq_some_iff.1 hx
  unfold freeV
  rw [List.findIdx_eq hj]
  refine ⟨by rw [hx]; simpa using h, fun i hi => ?_⟩
  have := hall i _ hi (List.getElem?_eq_getElem (by omega))
  simpa using this
theorem free_none {unt : List Int} {k : Int} (hall : ∀ (i : Nat) (y : Int), unt[i]? = some y → ¬ y < k) : freeV unt k = unt.length := by
  unfold freeV
  rw [List.findIdx_eq_length]
  intro x hx
  obtain ⟨i, hi⟩ := List.mem_iff_getElem?.1 hx
  simpa using hall i x hi
theorem ifree_any {w : World} {c2 : Nat} {s : Sl} {unt : List Int} {k : Int} (hs : Rd intE w s unt) (hc : w.cell? ⟨c2, 0, none⟩ = some (.int .i64 k)) (hl : unt.length ≤ 1000000) :
    Calls Tryz.prog fn_slices_IndexFunc_sl_int_int #[s.val, .func (.func fn_slots_allot_1) #[] #[.pointer (some ⟨c2, 0, none⟩)]] w fun e w' => e = .returned (.int .i64 (if freeV unt k < unt.length then (freeV unt k : Int) else -1)) ∧ w = w' := by
  refine (slices_IndexFunc_sl_int_int_at_slots_allot_1_lift (K := fun r w' => r = .int .i64 (if freeV unt k < unt.length then (freeV unt k : Int) else -1) ∧ w = w') ?_).mono (by rintro e w' ⟨r, rfl, rfl, h⟩; exact ⟨rfl, h⟩)
  unfold slices_IndexFunc_sl_int_int_at_slots_allot_1_sh
  have hsl := hs.len
  refine ⟨fun n w' => ∃ j : Nat, n = j ∧ j ≤ unt.length ∧ (∀ (i : Nat) (y : Int), i < j → unt[i]? = some y → ¬ y < k) ∧ w = w', fun n _ => unt.length - n.toNat, ⟨0, rfl, Nat.zero_le _, fun i _ hi => by omega, rfl⟩, ?_⟩
  rintro n w3 ⟨j, rfl, hj, hall, rfl⟩
  refine brB_of (fun hlt => ?_) (fun hlt => ?_)
  · have hlt : j < unt.length := by simp at hlt; omega
    obtain ⟨x, hx⟩ : ∃ x, unt[j]? = some x := ⟨_, List.getElem?_eq_getElem hlt⟩
    refine hs.ix (i := (j : Int)) (by omega) (by rw [Int.toNat_natCast]; exact hx) fun a _ hcell => ?_
    have q := hcell 0 _ rfl
    rw [add0] at q
    refine ⟨x, q, fn_slots_allot_1, #[], _, rfl, fun args w => orc.sok _ _ rfl args w, ?_⟩
    have hcall : Calls Tryz.prog fn_slots_allot_1 #[.int .i64 x, .pointer (some ⟨c2, 0, none⟩)] w fun e w' => e = .returned (.bool (decide (x < k))) ∧ w = w' := by
      refine (slots_allot_1_lift (K := fun r w' => r = .bool (decide (x < k)) ∧ w = w') ?_).mono (by rintro e w' ⟨r, rfl, rfl, h⟩; exact ⟨rfl, h⟩)
      unfold slots_allot_1_sh
      exact ⟨k, hc, rfl, rfl⟩
    refine hcall.mono ?_
    rintro e w11 ⟨rfl, rfl⟩
    refine ⟨_, rfl, brB_of (fun h => ?_) (fun h => ?_)⟩
    · have h := of_decide_eq_true h
      rw [free_is hx h hall, if_pos hlt]
      exact ⟨rfl, rfl⟩
    · have h := of_decide_eq_false h
      rw [wr_in (by omega)]
      refine ⟨⟨j + 1, by omega, by omega, fun i y hi hy => ?_, rfl⟩, by show unt.length - Int.toNat ((j : Int) + 1) < unt.length - Int.toNat (j : Int); omega⟩
      by_cases hij : i = j
      · subst hij; cases hx.symm.trans hy; exact h
      · exact hall i y (by omega) hy
  · have hlt : j = unt.length := by simp at hlt; omega
    rw [free_none (k := k) fun i y hy => hall i y (by have := (List.getElem?_eq_some_iff.1 hy).1; omega) hy, if_neg (by omega)]
    exact ⟨rfl, rfl⟩
theorem altL_few (t : TrG) (la : List Int) : ∀ k, (altL t la k).unt.length ≤ k
  | 0 => Nat.le_refl _
  | k + 1 => by
    have := altL_few t la k
    rcases altS_len t la (altL t la k) k with h | ⟨h, _⟩
    · have e : (altL t la (k + 1)).unt.length = (altL t la k).unt.length := h
      omega
    · have e : (altL t la (k + 1)).unt.length = (altL t la k).unt.length + 1 := h
      omega
theorem regs_le (t : TrG) : regsV t ≤ t.ins.length := altL_few t (livesV t) t.ins.length
theorem altL_at (t : TrG) (la : List Int) : ∀ k, (altL t la k).at_.length = t.ins.length
  | 0 => by simp [altL]
  | k + 1 => by
    have := altL_at t la k
    show (altS t la (altL t la k) k).at_.length = _
    unfold altS
    split
    · split <;> simp [this]
    · exact this
theorem gN_ix {l : List Int} {k : Nat} (h : k < l.length) : l[k]? = some (gN l k) := by
  unfold gN; rw [List.getD_eq_getElem?_getD, List.getElem?_eq_getElem h]; rfl
theorem allot_any {D : Nat → Prop} {w : World} (t : TrP) {v : TrG} (ht : TrIs D w t v) (hD : ∀ k, D k → k < w.heap.size) (hr : RightV v) :
    Calls Tryz.prog fn_slots_allot #[.agg (trP t).toArray] w fun e w' => ∃ s : Sl, e = .returned (.tuple #[s.val, .int .i64 (regsV v : Int)]) ∧ Ow intE w' s (atsV v) ∧ (∀ k, s.blk = some k → w.heap.size ≤ k) ∧ Chg No w w' := by
  refine (slots_allot_lift (K := fun r w' => ∃ s : Sl, r = .tuple #[s.val, .int .i64 (regsV v : Int)] ∧ Ow intE w' s (atsV v) ∧ (∀ k, s.blk = some k → w.heap.size ≤ k) ∧ Chg No w w') ?_).mono (by rintro e w' ⟨r, rfl, s, rfl, h⟩; exact ⟨s, rfl, h⟩)
  unfold slots_allot_sh
  intro b10 w11 hb10 hw11
  have c11 := al hw11
  have o11 : Ob w11 b10 (trP t) T_api_Trace := by rw [hw11, hb10]; exact Ob.new w (trP t) T_api_Trace
  have z11 := c11.size
  obtain ⟨q1, q2, q3⟩ := hr.head
  have hil := ht.ins.len
  refine ⟨_, _, _, _, _, _, _, _, _, o11.cell rfl, o11.cell rfl, o11.cell rfl, o11.cell rfl, o11.cell rfl, o11.cell rfl, o11.cell rfl, o11.cell rfl, o11.cell rfl, (lives_any t (ht.no c11) (fun k hk => by have := hD k hk; omega) hr).mono ?_⟩
  rintro e w22 ⟨s23, rfl, g23, n23, c22⟩
  have o22 := o11.no c22
  have z22 := c22.size
  have l23 : ∀ k, s23.blk = some k → k < w22.heap.size := fun k hk => g23.lt hk
  refine ⟨s23, rfl, t.ins, o22.cell rfl, ?_⟩
  rw [hil]
  obtain ⟨w26, hrun, hat, c26⟩ := make_ints (w := w22) (n := (v.ins.length : Int)) (N := v.ins.length) rfl (by omega)
  refine ⟨_, w26, hrun, t.ins, (o22.no c26).cell rfl, ?_⟩
  obtain ⟨s, hs⟩ : ∃ s : Sl, s = ⟨some ⟨w22.heap.size, 0, none⟩, v.ins.length, v.ins.length⟩ := ⟨_, rfl⟩
  have hsb : ∀ k, s.blk = some k ↔ k = w22.heap.size := fun k => by rw [hs]; exact ⟨fun h => (Option.some.inj h).symm, fun h => by rw [h]; rfl⟩
  rw [← hs] at hat
  have zat := hat.lt ((hsb _).2 rfl)
  have k26 : Chg No w w26 := trN (trN c11 c22) c26
  rw [← hs]
  refine ⟨fun u n w' => ∃ k : Nat, n = k ∧ k ≤ v.ins.length ∧ Ow intE w' u (altL v (livesV v) k).unt ∧ Ow intE w' s (altL v (livesV v) k).at_ ∧ (∀ j, u.blk = some j → w26.heap.size ≤ j) ∧ Chg (fun j => s.blk = some j) w26 w', fun _ n _ => v.ins.length - n.toNat, ⟨0, rfl, Nat.zero_le _, Ow.nil _ _, hat, (fun j hj => by cases hj), Chg.refl _ _⟩, ?_⟩
  rintro u n w28 ⟨k, rfl, hk, hu, ha, hub, c28⟩
  have z28 := c28.size
  have kw28 : Chg No w w28 := k26.trans c28 (fun _ _ h => h) (fun j hj he => by have := (hsb j).1 he; omega)
  have hfew := altL_few v (livesV v) k
  have halt := altL_at v (livesV v) k
  refine brB_of (fun hlt => ?_) (fun hlt => ?_)
  · have hlt : k < v.ins.length := by simp at hlt; omega
    refine ⟨fun u' w' => Ow intE w' u' (altL v (livesV v) (k + 1)).unt ∧ Ow intE w' s (altL v (livesV v) (k + 1)).at_ ∧ (∀ j, u'.blk = some j → w26.heap.size ≤ j) ∧ Chg (fun j => s.blk = some j) w26 w', ?_, ?_⟩
    · rintro u' w65 ⟨h1, h2, h3, h4⟩
      rw [wr_in (by omega)]
      exact ⟨⟨k + 1, by omega, by omega, h1, h2, h3, h4⟩, by show v.ins.length - Int.toNat ((k : Int) + 1) < v.ins.length - Int.toNat (k : Int); omega⟩
    obtain ⟨i, hi⟩ : ∃ i, v.ins[k]? = some i := ⟨_, List.getElem?_eq_getElem hlt⟩
    have hat' : atL v.ins k = i := atL_get hi
    refine (ht.ins.no kw28).ix (i := (k : Int)) (by omega) (by rw [Int.toNat_natCast]; exact hi) fun a30 _ hc => ?_
    have g0 := hc 0 _ rfl
    rw [add0] at g0
    refine ⟨_, _, _, _, _, g0, hc 1 _ rfl, hc 2 _ rfl, hc 3 _ rfl, hc 4 _ rfl, ?_⟩
    intro b36 w37 hb36 hw37 b38 w39 hb38 hw39
    have c37 := al hw37
    have c39 := al hw39
    have z37 : w37.heap.size = w28.heap.size + 1 := by rw [hw37]; simp
    have z39 : w39.heap.size = w37.heap.size + 1 := by rw [hw39]; simp
    have o36 : Ob w39 b36 [.int .i64 0] T_int := by
      have : Ob w37 b36 [.int .i64 0] T_int := by rw [hw37, hb36]; exact Ob.new w28 [.int .i64 0] T_int
      exact this.no c39
    have o38 : Ob w39 b38 (insC ⟨0, 0, 0, 0, 0⟩) T_api_Ins := by rw [hw39, hb38]; exact Ob.new w37 (insC ⟨0, 0, 0, 0, 0⟩) T_api_Ins
    refine ⟨o36.wr (by simp), fun w40 hw40 => ?_⟩
    obtain ⟨p36, d40⟩ := o36.up (k := 0) (vs := [.int .i64 (k : Int)]) (cs' := [.int .i64 (k : Int)]) (by simp) rfl hw40
    have p38 := o38.chg d40 (fun he => by omega)
    refine ⟨p38.wr (by simp [insC]), fun w41 hw41 => ?_⟩
    obtain ⟨r38, d41⟩ := p38.up (k := 0) (vs := insC i) (cs' := insC i) (by simp [insC]) rfl hw41
    have r36 := p36.chg d41 (fun he => by omega)
    have d2841 : Chg (fun j => j = b36 ∨ j = b38) w28 w41 := ((trN c37 c39).trans d40 (U := fun j => j = b36 ∨ j = b38) (fun _ _ h => h.elim) (fun _ _ h => Or.inl h)).trans d41 (fun _ _ h => h) (fun _ _ h => Or.inr h)
    have e2841 : Chg No w28 w41 := d2841.trans (Chg.refl No _) (fun j hj he => by omega) (fun _ _ h => h)
    have z41 := e2841.size
    have u41 := hu.no e2841
    have a41 := ha.no e2841
    have l41 := ((g23.no c26).chg c28 (fun j hj he => by have := l23 j hj; have := (hsb j).1 he; omega)).no e2841
    have c2641 : Chg (fun j => s.blk = some j) w26 w41 := c28.trans e2841 (fun _ _ h => h) (fun _ _ h => h.elim)
    have ult : ∀ j, u.blk = some j → j < w28.heap.size := fun j hj => hu.lt hj
    have slt : ∀ j, s.blk = some j → j < w28.heap.size := fun j hj => ha.lt hj
    refine ⟨i.a, r38.cell rfl, (igives_any i.a w41).mono ?_⟩
    rintro e w44 ⟨rfl, rfl⟩
    refine ⟨_, rfl, brB_of (fun hg => ?_) (fun hg => ?_)⟩
    · have hg : ¬ givesV (atL v.ins k).a = true := by rw [hat']; simpa using hg
      have e1 : altL v (livesV v) (k + 1) = altL v (livesV v) k := if_neg hg
      rw [e1]
      exact ⟨u41, a41, hub, c2641⟩
    · have hg : givesV (atL v.ins k).a = true := by rw [hat']; simpa using hg
      refine (ifree_any u41.rd (r36.cell rfl) (by omega)).mono ?_
      rintro e w48 ⟨rfl, rfl⟩
      refine ⟨_, rfl, fun u' r w' => ∃ (ux : List Int) (R : Nat), r = R ∧ R < ux.length ∧ Ow intE w' u' ux ∧ altL v (livesV v) (k + 1) = ⟨(altL v (livesV v) k).at_.set k (R : Int), ux.set R (gN (livesV v) k)⟩ ∧ (∀ j, u'.blk = some j → w26.heap.size ≤ j ∧ j ≠ b36) ∧ Chg (fun j => u.blk = some j) w41 w' ∧ (∀ j, u'.blk = some j → u.blk = some j ∨ w41.heap.size ≤ j), ?_, ?_⟩
      · rintro u' r w54 ⟨ux, R, rfl, hR, hu', hal, hub', c54, hbk⟩
        have nu : ∀ j, u.blk = some j → w26.heap.size ≤ j ∧ j ≠ b36 := fun j hj => ⟨hub j hj, by have := ult j hj; omega⟩
        have q36 := r36.chg c54 (fun he => (nu _ he).2 rfl)
        have l54 := l41.chg c54 (fun j hj he => by have := l23 j hj; have := (nu j he).1; omega)
        have a54 := a41.chg c54 (fun j hj he => by have := (hsb j).1 hj; have := (nu j he).1; omega)
        refine ⟨k, q36.cell rfl, ?_⟩
        refine l54.rd.ix (i := (k : Int)) (x := gN (livesV v) k) (by omega) (by rw [Int.toNat_natCast]; exact gN_ix (by rw [livesV_len]; exact hlt)) fun a58 _ hc58 => ?_
        have g58 := hc58 0 _ rfl
        rw [add0] at g58
        refine ⟨_, g58, ?_⟩
        obtain ⟨y, hy⟩ : ∃ y, ux[R]? = some y := ⟨_, List.getElem?_eq_getElem hR⟩
        refine hu'.rd.ix (i := (R : Int)) (by omega) (by rw [Int.toNat_natCast]; exact hy) fun a60 ha60 _ => ?_
        obtain ⟨f1, f2⟩ := hu'.set1 ha60 (k := R) (j := 0) (x' := gN (livesV v) k) (u := .int .i64 (gN (livesV v) k)) hy (by decide) rfl
        rw [add0] at f1 f2
        rw [Int.toNat_natCast]
        refine ⟨f1, fun w61 hw61 => ?_⟩
        have u61 : Ow intE w61 u' (ux.set R (gN (livesV v) k)) := by rw [hw61]; exact f2
        have c61 : Chg (fun j => u'.blk = some j) w54 w61 := by rw [hw61]; exact Chg.st (S := fun j => u'.blk = some j) (by rw [add_block]; exact blk_ptr ha60)
        have s36 := q36.chg c61 (fun he => (hub' _ he).2 rfl)
        have a61 := a54.chg c61 (fun j hj he => by have := (hsb j).1 hj; have := (hub' j he).1; omega)
        refine ⟨k, s36.cell rfl, ?_⟩
        obtain ⟨z, hz⟩ : ∃ z, (altL v (livesV v) k).at_[k]? = some z := ⟨_, List.getElem?_eq_getElem (by omega)⟩
        refine a61.rd.ix (i := (k : Int)) (by omega) (by rw [Int.toNat_natCast]; exact hz) fun a63 ha63 _ => ?_
        obtain ⟨f3, f4⟩ := a61.set1 ha63 (k := k) (j := 0) (x' := (R : Int)) (u := .int .i64 (R : Int)) hz (by decide) rfl
        rw [add0] at f3 f4
        rw [Int.toNat_natCast]
        refine ⟨f3, fun w64 hw64 => ?_⟩
        have a64 : Ow intE w64 s ((altL v (livesV v) k).at_.set k (R : Int)) := by rw [hw64]; exact f4
        have c64 : Chg (fun j => s.blk = some j) w61 w64 := by rw [hw64]; exact Chg.st (S := fun j => s.blk = some j) (by rw [add_block]; exact blk_ptr ha63)
        have u64 := u61.chg c64 (fun j hj he => by have := (hsb j).1 he; have := (hub' j hj).1; omega)
        rw [hal]
        refine ⟨u64, a64, fun j hj => (hub' j hj).1, ?_⟩
        have c4161 : Chg (fun j => u.blk = some j) w41 w61 := c54.trans c61 (fun _ _ h => h) (fun j hj he => (hbk j he).elim (fun h => h) (fun h => by omega))
        exact (c2641.trans c4161 (fun _ _ h => h) (fun j hj he => by have := (nu j he).1; omega)).trans c64 (fun _ _ h => h) (fun _ _ h => h)
      · refine brB_of (fun hf => ?_) (fun hf => ?_)
        · have hf : ¬ freeV (altL v (livesV v) k).unt k < (altL v (livesV v) k).unt.length := fun h => by
            rw [if_pos h] at hf; have := of_decide_eq_true hf; omega
          intro b50 w51 hb50 hw51
          obtain ⟨h1, h2⟩ := lit1 0 hb50 hw51
          have z51 : w51.heap.size = w41.heap.size + 1 := by rw [hw51]; simp
          refine app_ok intOk (s := u) (t := ⟨some ⟨b50, 0, none⟩, 1, 1⟩) rfl rfl (u41.no h2) h1.rd (by show ((altL v (livesV v) k).unt.length + 1) * 8 ≤ _; omega) (by show (altL v (livesV v) k).unt.length + 1 ≤ _; unfold maxLen; omega) ?_
          intro s52 w53 g53 c53 b53
          have hul := u41.rd.len
          refine ⟨(altL v (livesV v) k).unt ++ [0], (altL v (livesV v) k).unt.length, by rw [hul], by simp, g53, ?_, fun j hj => ?_, h2.trans c53 (fun _ _ h => h.elim) (fun _ _ h => h), fun j hj => ?_⟩
          · show altS v (livesV v) (altL v (livesV v) k) k = _
            unfold altS
            rw [if_pos hg, if_neg hf]
            congr 1
            rw [List.set_append_right _ _ (Nat.le_refl _), Nat.sub_self]; rfl
          · rcases b53 with hh | hh
            · exact ⟨hub j (hh ▸ hj), by have := ult j (hh ▸ hj); omega⟩
            · have := Option.some.inj (hh.symm.trans hj); omega
          · rcases b53 with hh | hh
            · exact Or.inl (hh ▸ hj)
            · have := Option.some.inj (hh.symm.trans hj); exact Or.inr (by omega)
        · have hf : freeV (altL v (livesV v) k).unt k < (altL v (livesV v) k).unt.length := by
            rcases Nat.lt_or_ge (freeV (altL v (livesV v) k).unt k) (altL v (livesV v) k).unt.length with h | h
            · exact h
            · rw [if_neg (by omega)] at hf; have := of_decide_eq_false hf; omega
          refine ⟨(altL v (livesV v) k).unt, freeV (altL v (livesV v) k).unt k, by rw [if_pos hf], hf, u41, ?_, fun j hj => ⟨hub j hj, by have := ult j hj; omega⟩, Chg.refl _ _, fun j hj => Or.inl hj⟩
          show altS v (livesV v) (altL v (livesV v) k) k = _
          unfold altS
          rw [if_pos hg, if_pos hf]
  · have hlt : k = v.ins.length := by simp at hlt; omega
    subst hlt
    refine ⟨s, ?_, ha, fun j hj => by have := (hsb j).1 hj; omega, kw28⟩
    rw [hu.rd.len]; rfl
end Go.Proofs.YtblmoilneiffgaaGreat

/- Package slots: own, Least, Make, Run. -/
set_option maxRecDepth 100000
namespace Go.Proofs.YtblmoilneiffgaaGreat
open Go.RowKit

theorem clone_codes {w : World} {s : Sl} {xs : List In5} (h : Rd insE w s xs) (hsm : xs.length ≤ 1000000000) : Calls Tryz.prog fn_slices_Clone_sl_api_Ins_api_Ins #[s.val] w fun e w' => ∃ s' : Sl, e = .returned s'.val ∧ Ow insE w' s' xs ∧ Chg No w w' ∧ (∀ k, s'.blk = some k → w.heap.size ≤ k) := by
  refine (slices_Clone_sl_api_Ins_api_Ins_lift (K := fun v w' => ∃ s' : Sl, v = s'.val ∧ Ow insE w' s' xs ∧ Chg No w w' ∧ (∀ k, s'.blk = some k → w.heap.size ≤ k)) ?_).mono (by rintro e w' ⟨v, rfl, s', rfl, h⟩; exact ⟨s', rfl, h⟩)
  unfold slices_Clone_sl_api_Ins_api_Ins_sh
  exact clone_core (K := fun v w' => ∃ s' : Sl, v = s'.val ∧ Ow insE w' s' xs ∧ Chg No w w' ∧ (∀ k, s'.blk = some k → w.heap.size ≤ k)) insOk (by decide) h hsm fun s' w' h1 h2 h3 _ => ⟨s', rfl, h1, h2, h3⟩
theorem clone_exits {w : World} {s : Sl} {xs : List OuC} (h : Rd ouE w s xs) (hsm : xs.length ≤ 1000000000) : Calls Tryz.prog fn_slices_Clone_sl_api_Out_api_Out #[s.val] w fun e w' => ∃ s' : Sl, e = .returned s'.val ∧ Ow ouE w' s' xs ∧ Chg No w w' ∧ (∀ k, s'.blk = some k → w.heap.size ≤ k) := by
  refine (slices_Clone_sl_api_Out_api_Out_lift (K := fun v w' => ∃ s' : Sl, v = s'.val ∧ Ow ouE w' s' xs ∧ Chg No w w' ∧ (∀ k, s'.blk = some k → w.heap.size ≤ k)) ?_).mono (by rintro e w' ⟨v, rfl, s', rfl, h⟩; exact ⟨s', rfl, h⟩)
  unfold slices_Clone_sl_api_Out_api_Out_sh
  exact clone_core (K := fun v w' => ∃ s' : Sl, v = s'.val ∧ Ow ouE w' s' xs ∧ Chg No w w' ∧ (∀ k, s'.blk = some k → w.heap.size ≤ k)) ousOk (by decide) h hsm fun s' w' h1 h2 h3 _ => ⟨s', rfl, h1, h2, h3⟩
theorem sown_any {D : Nat → Prop} {w : World} (t : TrP) {v : TrG} (ht : TrIs D w t v) (hs : SmT v) : Calls Tryz.prog fn_slots_own #[.agg (trP t).toArray] w fun e w' => ∃ t' : TrP, e = .returned (.agg (trP t').toArray) ∧ TrIs (fun k => w.heap.size ≤ k ∧ k < w'.heap.size) w' t' v ∧ Chg No w w' := by
  refine (slots_own_lift (K := fun r w' => ∃ t' : TrP, r = .agg (trP t').toArray ∧ TrIs (fun k => w.heap.size ≤ k ∧ k < w'.heap.size) w' t' v ∧ Chg No w w') ?_).mono (by rintro e w' ⟨r, rfl, t', rfl, h⟩; exact ⟨t', rfl, h⟩)
  unfold slots_own_sh
  intro b10 w11 hb10 hw11 b12 w13 hb12 hw13
  have c11 := al hw11
  have c13 := al hw13
  have z11 : w11.heap.size = w.heap.size + 1 := by rw [hw11]; simp
  have z13 : w13.heap.size = w11.heap.size + 1 := by rw [hw13]; simp
  have o10 : Ob w13 b10 (trP t) T_api_Trace := by
    have : Ob w11 b10 (trP t) T_api_Trace := by rw [hw11, hb10]; exact Ob.new w (trP t) T_api_Trace
    exact this.no c13
  have o12 : Ob w13 b12 (trP ⟨0, 0, 0, 0, 0, nilS, nilS, 0, nilS⟩) T_api_Trace := by rw [hw13, hb12]; exact Ob.new w11 (trP ⟨0, 0, 0, 0, 0, nilS, nilS, 0, nilS⟩) T_api_Trace
  intro w14 hw14
  have c14 := dw hw14
  have k14 := trN (trN c11 c13) c14
  have z14 := c14.size
  have p10 := o10.no c14
  have p12 := o12.no c14
  have hd : ∀ {j : Nat} {u : Value}, (trP t)[j]? = some u → held (fun w' => Chg No w14 w') ⟨b10, j, none⟩ u := fun h => Ob.held (fun w' c => p10.no c) h
  obtain ⟨os, hos, hov⟩ := ht.outs
  have hol := hov.1
  have hso := hs.outs
  refine ⟨fun w' => Chg No w14 w', fun w' => Chg No w14 w', fun _ h => h, Chg.refl _ _, t.ins, hd rfl, t.outs, hd rfl, t.cells, hd rfl, ?_⟩
  refine (clone_codes (ht.ins.no k14) (by have := hs.ins; omega)).mono ?_
  rintro e w20 ⟨s21, rfl, g21, c20, n21⟩
  have k20 := trN k14 c20
  have z20 := c20.size
  refine ⟨s21, rfl, c20, ?_⟩
  refine (clone_exits (hos.no k20) (by have := hs.outs; omega)).mono ?_
  rintro e w23 ⟨s24, rfl, g24, c23, n24⟩
  have k23 := trN k20 c23
  have z23 := c23.size
  refine ⟨s24, rfl, trN c20 c23, ?_⟩
  refine (clone_ints (ht.cells.no k23) (by have := hs.cells; omega)).mono ?_
  rintro e w26 ⟨s27, rfl, g27, c26, n27, _⟩
  have k26 := trN k23 c26
  have z26 := c26.size
  refine ⟨s27, rfl, trN (trN c20 c23) c26, ?_⟩
  have c1426 := trN (trN c20 c23) c26
  refine ⟨(p10.no c1426).wr (by simp [trP]), fun w28 hw28 => ?_⟩
  obtain ⟨q10, d28⟩ := (p10.no c1426).up (k := 5) (vs := [s21.val]) (cs' := trP { t with ins := s21 }) (by simp [trP]) rfl hw28
  refine ⟨q10.wr (by simp [trP]), fun w29 hw29 => ?_⟩
  obtain ⟨q10, d29⟩ := q10.up (k := 6) (vs := [s24.val]) (cs' := trP { t with ins := s21, outs := s24 }) (by simp [trP]) rfl hw29
  refine ⟨q10.wr (by simp [trP]), fun w30 hw30 => ?_⟩
  obtain ⟨q10, d30⟩ := q10.up (k := 8) (vs := [s27.val]) (cs' := trP { t with ins := s21, outs := s24, cells := s27 }) (by simp [trP]) rfl hw30
  have d2630 : Chg (fun j => j = b10) w26 w30 := (d28.trans d29 (fun _ _ h => h) (fun _ _ h => h)).trans d30 (fun _ _ h => h) (fun _ _ h => h)
  have r12 := (p12.no c1426).chg d2630 (fun he => by omega)
  have z30 := d2630.size
  have k30 : Chg No w w30 := k26.trans d2630 (fun _ _ h => h) (fun j hj he => by omega)
  obtain ⟨t1, ht1⟩ : ∃ t1 : TrP, t1 = { t with ins := s21, outs := s24, cells := s27 } := ⟨_, rfl⟩
  rw [← ht1] at q10
  have e24 : t1.outs = s24 := by rw [ht1]
  have h24 := (g24.no c26).chg d2630 (fun j hj he => by have := n24 j hj; omega)
  have l24 : ∀ j, s24.blk = some j → w20.heap.size ≤ j ∧ j < w23.heap.size := fun j hj => ⟨n24 j hj, g24.lt hj⟩
  have l21 : ∀ j, s21.blk = some j → w14.heap.size ≤ j ∧ j < w20.heap.size := fun j hj => ⟨n21 j hj, g21.lt hj⟩
  have l27 : ∀ j, s27.blk = some j → w23.heap.size ≤ j ∧ j < w26.heap.size := fun j hj => ⟨n27 j hj, g27.lt hj⟩
  have hsl := g24.rd.len
  refine ⟨s24, by have := q10.cell (k := 6) rfl; rw [e24] at this; exact this, ?_⟩
  refine ⟨fun n w' => ∃ (k : Nat) (os' : List OuC), n = k ∧ k ≤ v.outs.length ∧ Ow ouE w' s24 os' ∧ os'.length = v.outs.length ∧ (∀ j, k ≤ j → os'[j]? = os[j]?) ∧ (∀ (j : Nat) (o : OuC) (u : OuV), j < k → os'[j]? = some o → v.outs[j]? = some u → OuIs (fun q => w30.heap.size ≤ q ∧ q < w'.heap.size) w' o u) ∧ Chg (fun j => s24.blk = some j) w30 w', fun n _ => v.outs.length - n.toNat, ⟨0, os, rfl, Nat.zero_le _, h24, hol, fun _ _ => rfl, (fun j _ _ hj => by omega), Chg.refl _ _⟩, ?_⟩
  rintro n w32 ⟨k, os', rfl, hk, h4, hlen, hold, hnew, c32⟩
  have z32 := c32.size
  have q32 := q10.chg c32 (fun he => by have := l24 _ he; omega)
  have kw32 : Chg No w w32 := k30.trans c32 (fun _ _ h => h) (fun j hj he => by have := l24 _ he; omega)
  refine brB_of (fun hlt => ?_) (fun hlt => ?_)
  · have hlt : k < v.outs.length := by simp at hlt; omega
    obtain ⟨u, huk⟩ : ∃ x, v.outs[k]? = some x := ⟨_, List.getElem?_eq_getElem hlt⟩
    obtain ⟨o, ho⟩ : ∃ x, os[k]? = some x := ⟨_, List.getElem?_eq_getElem (by omega)⟩
    have ho' : os'[k]? = some o := by rw [hold k (Nat.le_refl _)]; exact ho
    obtain ⟨u1, u2, u3, u4, _, _⟩ := hov.2 _ _ _ ho huk
    obtain ⟨t1', t2'⟩ := hs.each u (List.mem_of_getElem? huk)
    intro w34 hw34
    have c34 := dw hw34
    have z34 := c34.size
    have k34 := trN kw32 c34
    have h6 := h4.no c34
    have q34 := q32.no c34
    obtain ⟨a, ha, _, _, hcell⟩ := h6.rd.ix (i := (k : Int)) (x := o) (G := fun a => ∀ w', Chg No w34 w' → ∀ (j : Nat) (u : Value), (ouC o)[j]? = some u → w'.cell? ((a.add (k * 4)).add j) = some u) (by omega) (by rw [Int.toNat_natCast]; exact ho') fun a ha _ => fun w' c' => by
      obtain ⟨a2, ha2, _, _, hc2⟩ := (h6.no c').rd.ix (i := (k : Int)) (x := o) (G := fun a => ∀ (j : Nat) (u : Value), (ouC o)[j]? = some u → w'.cell? ((a.add (k * 4)).add j) = some u) (by omega) (by rw [Int.toNat_natCast]; exact ho') fun a _ hcell j u hu => hcell j u hu
      cases ha.symm.trans ha2
      exact hc2
    have ixk : ∀ {F : Addr → Prop}, F a → ∃ a, s24.ptr = some a ∧ 0 ≤ (k : Int) ∧ (k : Int) < (s24.len : Int) ∧ F a := fun hF => ⟨a, ha, by omega, by omega, hF⟩
    rw [Int.toNat_natCast]
    have hR : ∀ w', Ob w' b10 (trP t1) T_api_Trace ∧ w'.cell? ((a.add (k * 4)).add 3) = some o.back.val → w'.cell? ⟨b10, 6, none⟩ = some s24.val := fun w' h => by have := h.1.cell (k := 6) rfl; rw [e24] at this; exact this
    refine ⟨fun w' => Chg No w34 w', fun w' => Ob w' b10 (trP t1) T_api_Trace ∧ w'.cell? ((a.add (k * 4)).add 3) = some o.back.val, fun w' c' => ⟨q34.no c', hcell w' c' 3 _ rfl⟩, Chg.refl _ _, ?_⟩
    refine ⟨s24, hR, s24, hR, s24, hR, ixk ⟨o.stack, fun w' c' => hcell w' c' 2 _ rfl, s24, hR, ixk ⟨o.back, fun w' c' => c'.2, ?_⟩⟩⟩
    refine (clone_ints (u3.no k34) (by omega)).mono ?_
    rintro e w45 ⟨s46, rfl, h16, c15, n16, _⟩
    have k15 := trN k34 c15
    refine ⟨s46, rfl, ⟨q34.no c15, hcell w45 c15 3 _ rfl⟩, ?_⟩
    refine (clone_ints (u4.no k15) (by omega)).mono ?_
    rintro e w48 ⟨s49, rfl, h19, c18, n19, _⟩
    have k18 := trN k15 c18
    have c618 := trN c15 c18
    have h18 := h6.no c618
    refine ⟨s49, rfl, ⟨q34.no c618, hcell w48 c618 3 _ rfl⟩, ?_⟩
    obtain ⟨f1, f2⟩ := h18.set1 ha (k := k) (j := 2) (x := o) (x' := { o with stack := s46 }) (u := s46.val) ho' (by decide) rfl
    refine ixk ⟨f1, fun w51 hw51 => ?_⟩
    have f2 : Ow ouE w51 s24 (os'.set k { o with stack := s46 }) := by rw [hw51]; exact f2
    have c21 : Chg (fun q => s24.blk = some q) w48 w51 := by rw [hw51]; exact Chg.st (S := fun q => s24.blk = some q) (by rw [add_block, add_block]; exact blk_ptr ha)
    have hk' : (os'.set k { o with stack := s46 })[k]? = some { o with stack := s46 } := List.getElem?_set_self (by omega)
    obtain ⟨a2, ha2, _, _, hc2⟩ := f2.rd.ix (i := (k : Int)) (x := { o with stack := s46 }) (G := fun a => w51.cell? ((a.add (k * 4)).add 3) = some o.back.val) (by omega) (by rw [Int.toNat_natCast]; exact hk') fun a _ hcell => hcell 3 _ rfl
    cases ha.symm.trans ha2
    refine ⟨⟨(q34.no c618).chg c21 (fun he => by have := l24 _ he; omega), hc2⟩, ?_⟩
    obtain ⟨g1, g2⟩ := f2.set1 ha (k := k) (j := 3) (x := { o with stack := s46 }) (x' := { o with stack := s46, back := s49 }) (u := s49.val) hk' (by decide) rfl
    refine ixk ⟨g1, fun w53 hw53 => ?_⟩
    rw [List.set_set] at g2
    have g2 : Ow ouE w53 s24 (os'.set k { o with stack := s46, back := s49 }) := by rw [hw53]; exact g2
    have c23' : Chg (fun q => s24.blk = some q) w51 w53 := by rw [hw53]; exact Chg.st (S := fun q => s24.blk = some q) (by rw [add_block, add_block]; exact blk_ptr ha)
    have cS : Chg (fun q => s24.blk = some q) w48 w53 := c21.trans c23' (fun _ _ h => h) (fun _ _ h => h)
    have c3253 : Chg (fun q => s24.blk = some q) w32 w53 := (trN c34 c618).trans cS (fun _ _ h => h.elim) (fun _ _ h => h)
    have zS := cS.size
    have z15 := c15.size
    have z18 := c18.size
    have z3253 := c3253.size
    have l16 : ∀ q, s46.blk = some q → q < w45.heap.size := fun q hq => h16.lt hq
    have l19 : ∀ q, s49.blk = some q → q < w48.heap.size := fun q hq => h19.lt hq
    rw [wr_of (by omega) (by omega)]
    refine ⟨⟨k + 1, _, by omega, by omega, g2, by rw [List.length_set]; exact hlen, (fun j hj => by rw [List.getElem?_set_ne (by omega)]; exact hold j (by omega)), fun j o2 v2 hj ho2 hv2 => ?_, c32.trans c3253 (fun _ _ h => h) (fun _ _ h => h)⟩, by show v.outs.length - Int.toNat ((k : Int) + 1) < v.outs.length - Int.toNat (k : Int); omega⟩
    by_cases hjk : j = k
    · subst hjk
      rw [List.getElem?_set_self (by omega)] at ho2
      cases Option.some.inj ho2
      cases huk.symm.trans hv2
      refine ⟨u1, u2, (h16.rd.no c18).chg cS (fun q hq he => by have := n16 q hq; have := l24 q he; omega), h19.rd.chg cS (fun q hq he => by have := n19 q hq; have := l24 q he; omega), fun q hq => ⟨by have := n16 q hq; omega, by have := l16 q hq; omega⟩, fun q hq => ⟨by have := n19 q hq; omega, by have := l19 q hq; omega⟩⟩
    · rw [List.getElem?_set_ne (fun h => hjk h.symm)] at ho2
      obtain ⟨x1, x2, x3, x4, x5, x6⟩ := hnew j o2 v2 (by omega) ho2 hv2
      exact ⟨x1, x2, x3.chg c3253 (fun q hq he => by have := x5 q hq; have := l24 q he; omega), x4.chg c3253 (fun q hq he => by have := x6 q hq; have := l24 q he; omega), fun q hq => ⟨(x5 q hq).1, by have := (x5 q hq).2; omega⟩, fun q hq => ⟨(x6 q hq).1, by have := (x6 q hq).2; omega⟩⟩
  · have hlt : k = v.outs.length := by simp at hlt; omega
    subst hlt
    have r32 := r12.chg c32 (fun he => by have := l24 _ he; omega)
    refine ⟨_, _, _, _, _, _, _, _, _, q32.cell rfl, q32.cell rfl, q32.cell rfl, q32.cell rfl, q32.cell rfl, q32.cell rfl, q32.cell rfl, q32.cell rfl, q32.cell rfl, r32.wr (by simp [trP]), fun w63 hw63 => ?_⟩
    obtain ⟨r63, d63⟩ := r32.up (k := 0) (vs := trP t1) (cs' := trP t1) (by simp [trP]) rfl hw63
    have z63 := d63.size
    have kw63 : Chg No w w63 := kw32.trans d63 (fun _ _ h => h) (fun j hj he => by omega)
    refine ⟨_, _, _, _, _, _, _, _, _, r63.cell rfl, r63.cell rfl, r63.cell rfl, r63.cell rfl, r63.cell rfl, r63.cell rfl, r63.cell rfl, r63.cell rfl, r63.cell rfl, t1, rfl, ?_, kw63⟩
    have d3063 : Chg (fun j => s24.blk = some j ∨ j = b12) w30 w63 := c32.trans d63 (fun _ _ h => Or.inl h) (fun _ _ h => Or.inr h)
    have d2663 : Chg (fun j => s24.blk = some j ∨ j = b12 ∨ j = b10) w26 w63 := d2630.trans d3063 (fun _ _ h => Or.inr (Or.inr h)) (fun j _ h => h.elim Or.inl fun h => Or.inr (Or.inl h))
    subst ht1
    refine ⟨ht.nums, (((g21.no c23).no c26).chg d2663 fun j hj he => ?_).rd, ⟨os', (h4.chg d63 fun j hj he => by have := l24 j hj; omega).rd, hlen, fun i o u ho hu => ?_⟩, (g27.chg d2663 fun j hj he => ?_).rd, fun j hj => ?_, fun j hj => ?_, fun j hj => ?_⟩
    · have := l21 j hj
      rcases he with he | he | he
      · have := l24 j he; omega
      · omega
      · omega
    · obtain ⟨x1, x2, x3, x4, x5, x6⟩ := hnew i o u (List.getElem?_eq_some_iff.1 hu).1 ho hu
      exact ⟨x1, x2, x3.chg d63 (fun q hq he => by have := x5 q hq; omega), x4.chg d63 (fun q hq he => by have := x6 q hq; omega), fun q hq => ⟨by have := x5 q hq; omega, by have := x5 q hq; omega⟩, fun q hq => ⟨by have := x6 q hq; omega, by have := x6 q hq; omega⟩⟩
    · have := l27 j hj
      rcases he with he | he | he
      · have := l24 j he; omega
      · omega
      · omega
    · have := l21 j hj; omega
    · have := l24 j hj; omega
    · have := l27 j hj; omega
theorem least_any {D : Nat → Prop} {w : World} (t : TrP) {v : TrG} (ht : TrIs D w t v) (hD : ∀ k, D k → k < w.heap.size) :
    Calls Tryz.prog fn_slots_Least #[.agg (trP t).toArray] w fun e w' => ∃ n : Int, e = .returned (.int .i64 n) ∧ (RightV v → n = regsV v) ∧ (¬ RightV v → n = 0) ∧ Chg No w w' := by
  refine (slots_Least_lift (K := fun r w' => ∃ n : Int, r = .int .i64 n ∧ (RightV v → n = regsV v) ∧ (¬ RightV v → n = 0) ∧ Chg No w w') ?_).mono (by rintro e w' ⟨r, rfl, n, rfl, h⟩; exact ⟨n, rfl, h⟩)
  unfold slots_Least_sh
  intro b10 w11 hb10 hw11
  have c11 := al hw11
  have z11 := c11.size
  have o11 : Ob w11 b10 (trP t) T_api_Trace := by rw [hw11, hb10]; exact Ob.new w (trP t) T_api_Trace
  refine ⟨_, _, _, _, _, _, _, _, _, o11.cell rfl, o11.cell rfl, o11.cell rfl, o11.cell rfl, o11.cell rfl, o11.cell rfl, o11.cell rfl, o11.cell rfl, o11.cell rfl, (iright_any t (ht.no c11)).mono ?_⟩
  rintro e w22 ⟨b, rfl, hb, c22⟩
  have o22 := o11.no c22
  have z22 := c22.size
  refine ⟨b, rfl, brB_of (fun h => ?_) (fun h => ?_)⟩
  · have hn : ¬ RightV v := fun hr => by rw [hb.2 hr] at h; cases h
    exact ⟨0, rfl, fun hr => absurd hr hn, fun _ => rfl, trN c11 c22⟩
  · have hr := hb.1 (by simpa using h)
    refine ⟨_, _, _, _, _, _, _, _, _, o22.cell rfl, o22.cell rfl, o22.cell rfl, o22.cell rfl, o22.cell rfl, o22.cell rfl, o22.cell rfl, o22.cell rfl, o22.cell rfl, (allot_any t ((ht.no c11).no c22) (fun k hk => by have := hD k hk; omega) hr).mono ?_⟩
    rintro e w34 ⟨s, rfl, h34, n34, c34⟩
    exact ⟨s, _, rfl, _, rfl, fun _ => rfl, fun h => absurd hr h, trN (trN c11 c22) c34⟩
structure CodeAt (D : Nat → Prop) (w : World) (p : Nat) (v : TrG) : Prop where
  at_ : ∃ (t : TrP) (s : Sl), Ob w p (trP t ++ [s.val, .int .i64 (regsV v : Int)]) T_slots_Code ∧ TrIs D w t v ∧ Rd intE w s (atsV v) ∧ (∀ k, s.blk = some k → D k)
  me : D p
theorem CodeAt.chg {D S : Nat → Prop} {w w' : World} {p : Nat} {v : TrG} (h : CodeAt D w p v) (c : Chg S w w') (hS : ∀ k, D k → ¬ S k) : CodeAt D w' p v := by
  obtain ⟨t, s, h1, h2, h3, h4⟩ := h.at_
  exact ⟨⟨t, s, h1.chg c (hS _ h.me), h2.chg c hS, h3.chg c (fun k hk => hS _ (h4 k hk)), h4⟩, h.me⟩
theorem CodeAt.no {D : Nat → Prop} {w w' : World} {p : Nat} {v : TrG} (h : CodeAt D w p v) (c : Chg No w w') : CodeAt D w' p v := h.chg c (fun _ _ h => h)
theorem smt_right {v : TrG} (hr : RightV v) (hc : v.cells.length ≤ 100000) : SmT v := by
  obtain ⟨q1, q2, _, q4, q5, q6, q7⟩ := hr.head
  refine ⟨by omega, by omega, fun o ho => ?_, hc⟩
  obtain ⟨k, hk⟩ := List.mem_iff_getElem?.1 ho
  obtain ⟨_, _, e3, e4⟩ := hr.exits k o hk
  omega
theorem make_any {D : Nat → Prop} {w : World} (t : TrP) {v : TrG} (ht : TrIs D w t v) (hD : ∀ k, D k → k < w.heap.size) (hcl : v.cells.length ≤ 100000) (most : Int) :
    Calls Tryz.prog fn_slots_Make #[.agg (trP t).toArray, .int .i64 most] w fun e w' => Chg No w w' ∧ ((¬ (RightV v ∧ (regsV v : Int) ≤ most) ∧ e = .returned (.tuple #[.pointer none, .bool false])) ∨ (RightV v ∧ (regsV v : Int) ≤ most ∧ ∃ p : Nat, e = .returned (.tuple #[.pointer (some ⟨p, 0, none⟩), .bool true]) ∧ CodeAt (fun k => w.heap.size ≤ k ∧ k < w'.heap.size) w' p v)) := by
  refine (slots_Make_lift (K := fun r w' => Chg No w w' ∧ ((¬ (RightV v ∧ (regsV v : Int) ≤ most) ∧ r = .tuple #[.pointer none, .bool false]) ∨ (RightV v ∧ (regsV v : Int) ≤ most ∧ ∃ p : Nat, r = .tuple #[.pointer (some ⟨p, 0, none⟩), .bool true] ∧ CodeAt (fun k => w.heap.size ≤ k ∧ k < w'.heap.size) w' p v))) ?_).mono (by rintro e w' ⟨r, rfl, h, h2⟩; exact ⟨h, h2.imp (fun h => ⟨h.1, by rw [h.2]⟩) (fun ⟨a, b, p, c, d⟩ => ⟨a, b, p, by rw [c], d⟩)⟩)
  unfold slots_Make_sh
  intro b11 w12 hb11 hw12
  have c12 := al hw12
  have z12 := c12.size
  have o12 : Ob w12 b11 (trP t) T_api_Trace := by rw [hw12, hb11]; exact Ob.new w (trP t) T_api_Trace
  refine ⟨fun b w' => (b = true ↔ ¬ (RightV v ∧ (regsV v : Int) ≤ most)) ∧ Chg No w12 w', ?_, ?_⟩
  · rintro b w37 ⟨hb, c37⟩
    have z37 := c37.size
    have k37 := trN c12 c37
    have o37 := o12.no c37
    refine brB_of (fun h => ?_) (fun h => ?_)
    · exact ⟨k37, Or.inl ⟨hb.1 h, rfl⟩⟩
    · have hok : RightV v ∧ (regsV v : Int) ≤ most := Classical.byContradiction fun hn => by rw [hb.2 hn] at h; cases h
      obtain ⟨hr, hle⟩ := hok
      refine ⟨_, _, _, _, _, _, _, _, _, o37.cell rfl, o37.cell rfl, o37.cell rfl, o37.cell rfl, o37.cell rfl, o37.cell rfl, o37.cell rfl, o37.cell rfl, o37.cell rfl, (sown_any t (ht.no k37) (smt_right hr hcl)).mono ?_⟩
      rintro e w49 ⟨t', rfl, h49, c49⟩
      have z49 := c49.size
      refine ⟨_, _, _, _, _, _, _, _, _, rfl, (o37.no c49).wr (by simp [trP]), fun w59 hw59 => ?_⟩
      obtain ⟨q11, d59⟩ := (o37.no c49).up (k := 0) (vs := trP t') (cs' := trP t') (by simp [trP]) rfl hw59
      have z59 := d59.size
      have lt11 := o12.lt
      have h59 := h49.chg d59 (fun k hk he => by omega)
      have k59 : Chg No w w59 := (trN k37 c49).trans d59 (fun _ _ h => h) (fun k hk he => by omega)
      refine ⟨_, _, _, _, _, _, _, _, _, q11.cell rfl, q11.cell rfl, q11.cell rfl, q11.cell rfl, q11.cell rfl, q11.cell rfl, q11.cell rfl, q11.cell rfl, q11.cell rfl, (allot_any t' h59 (fun k hk => by omega) hr).mono ?_⟩
      rintro e w70 ⟨s, rfl, h70, n70, c70⟩
      have q70 := q11.no c70
      have z70 := c70.size
      refine ⟨s, _, rfl, _, _, _, _, _, _, _, _, _, q70.cell rfl, q70.cell rfl, q70.cell rfl, q70.cell rfl, q70.cell rfl, q70.cell rfl, q70.cell rfl, q70.cell rfl, q70.cell rfl, ?_⟩
      intro b82 w83 hb82 hw83
      have c83 := al hw83
      have z83 : w83.heap.size = w70.heap.size + 1 := by rw [hw83]; simp
      have o83 : Ob w83 b82 (trP t' ++ [s.val, .int .i64 (regsV v : Int)]) T_slots_Code := by rw [hw83, hb82]; exact Ob.new w70 (trP t' ++ [s.val, .int .i64 (regsV v : Int)]) T_slots_Code
      refine ⟨trN (trN k59 c70) c83, Or.inr ⟨hr, hle, b82, rfl, ⟨t', s, o83, ?_, (h70.no c83).rd, fun k hk => ?_⟩, by omega⟩⟩
      · have g := (h59.no c70).no c83
        exact ⟨g.nums, g.ins, by obtain ⟨os, x1, x2⟩ := g.outs; exact ⟨os, x1, x2.mono fun k hk => by omega⟩, g.cells, fun k hk => by have := g.insD k hk; omega, fun k hk => by have := g.outsD k hk; omega, fun k hk => by have := g.cellsD k hk; omega⟩
      · have := n70 k hk
        have := h70.lt hk
        omega
  · refine ⟨_, _, _, _, _, _, _, _, _, o12.cell rfl, o12.cell rfl, o12.cell rfl, o12.cell rfl, o12.cell rfl, o12.cell rfl, o12.cell rfl, o12.cell rfl, o12.cell rfl, (iright_any t (ht.no c12)).mono ?_⟩
    rintro e w23 ⟨b, rfl, hb, c23⟩
    have z23 := c23.size
    have o23 := o12.no c23
    refine ⟨b, rfl, brB_of (fun h => ?_) (fun h => ?_)⟩
    · have hn : ¬ RightV v := fun hr => by rw [hb.2 hr] at h; cases h
      exact ⟨⟨fun _ hh => hn hh.1, fun _ => rfl⟩, c23⟩
    · have hr := hb.1 (by simpa using h)
      refine ⟨_, _, _, _, _, _, _, _, _, o23.cell rfl, o23.cell rfl, o23.cell rfl, o23.cell rfl, o23.cell rfl, o23.cell rfl, o23.cell rfl, o23.cell rfl, o23.cell rfl, (least_any t ((ht.no c12).no c23) (fun k hk => by have := hD k hk; omega)).mono ?_⟩
      rintro e w35 ⟨n, rfl, hn, _, c35⟩
      have hn := hn hr
      subst hn
      refine ⟨_, rfl, ⟨fun h hh => ?_, fun h => ?_⟩, trN c23 c35⟩
      · have := of_decide_eq_true h; omega
      · refine decide_eq_true ?_
        have : ¬ (regsV v : Int) ≤ most := fun hl => h ⟨hr, hl⟩
        omega
theorem ats_ok {v : TrG} (hr : RightV v) : AtOk (atsV v) (regsV v) := by
  have hA := alt_ok hr
  intro q hq
  have hq : q < v.ins.length := by rw [← hA.len]; exact hq
  have e : (atsV v).getD q 0 = gN (atsV v) q := rfl
  rw [e]
  refine ⟨hA.lo q, ?_⟩
  have key : ∀ j : Nat, j < v.ins.length → givesV (atL v.ins j).a = true → gN (atsV v) j < regsV v := fun j hj hg => (hA.inr j hj hg).1
  by_cases hg : givesV (atL v.ins q).a = true
  · exact key q hq hg
  · have hz : gN (atsV v) q = 0 := hA.zero q fun _ => by simpa using hg
    have h0 := atL_each' hr (k := 0) (by omega)
    have hg0 : givesV (atL v.ins ((0 : Nat) : Int)).a = true := by
      obtain ⟨⟨a1, a2⟩, _, _, _, a5, _⟩ := h0
      have none : ∀ p ∈ usesV (atL v.ins ((0 : Nat) : Int)), False := fun p hp => by have := a5 p hp; omega
      unfold givesV
      refine decide_eq_true ?_
      generalize atL v.ins ((0 : Nat) : Int) = i at a1 a2 none
      unfold usesV at none
      by_cases e4 : i.a = 4
      · omega
      rw [if_neg e4] at none
      by_cases e5 : i.a = 5 ∨ i.a = 7 ∨ i.a = 8 ∨ i.a = 10 ∨ i.a = 11
      · rw [if_pos e5] at none
        exact (none i.c (by simp)).elim
      rw [if_neg e5] at none
      by_cases e6 : i.a = 6 ∨ i.a = 9
      · rw [if_pos e6] at none
        exact (none i.c (by simp)).elim
      omega
    have := key 0 (by omega) hg0
    have := hA.lo 0
    have e0 : gN (atsV v) 0 = gN (altL v (livesV v) v.ins.length).at_ 0 := rfl
    omega
theorem cthr_any {D D' : Nat → Prop} {w : World} {p : Nat} (S : StC) {v : TrG} {s : StV} (hc : CodeAt D w p v) (hr : RightV v) (h : StIs D' w S s) {waS : Sl} {wl : List Int} (hwa : Rd intE w waS wl)
    (n1 : s.stack.length ≤ 100000) (n2 : s.back.length ≤ 100000) (n3 : s.mem.length ≤ 1000000) (hx : TxOk s) :
    Calls Tryz.prog fn_slots_Code_Through #[.pointer (some ⟨p, 0, none⟩), .agg (stC S).toArray, waS.val] w fun e w' => ∃ r, e = .returned r ∧ ThrAns v s (atsV v) (regsV v) wl w r w' := by
  refine (slots_Code_Through_lift (K := fun r w' => ThrAns v s (atsV v) (regsV v) wl w r w') ?_).mono (by rintro e w' ⟨r, rfl, h⟩; exact ⟨r, rfl, h⟩)
  unfold slots_Code_Through_sh
  intro b13 w14 hb13 hw14 b15 w16 hb15 hw16 b17 w18 hb17 hw18
  have c14 := al hw14
  have c16 := al hw16
  have c18 := al hw18
  have z14 : w14.heap.size = w.heap.size + 1 := by rw [hw14]; simp
  have z16 : w16.heap.size = w14.heap.size + 1 := by rw [hw16]; simp
  have z18 : w18.heap.size = w16.heap.size + 1 := by rw [hw18]; simp
  have o13 : Ob w18 b13 (stC S) T_api_State := by
    have : Ob w14 b13 (stC S) T_api_State := by rw [hw14, hb13]; exact Ob.new w (stC S) T_api_State
    exact (this.no c16).no c18
  have o15 : Ob w18 b15 (stC st0) T_api_State := by
    have : Ob w16 b15 (stC st0) T_api_State := by rw [hw16, hb15]; exact Ob.new w14 (stC st0) T_api_State
    exact this.no c18
  have o17 : Ob w18 b17 [.int .i64 0, .int .i64 0, .bool false] T_eval_Done := by rw [hw18, hb17]; exact Ob.new w16 [.int .i64 0, .int .i64 0, .bool false] T_eval_Done
  intro w19 hw19
  have c19 := dw hw19
  have k19 := trN (trN (trN c14 c16) c18) c19
  have p13 := o13.no c19
  have p15 := o15.no c19
  have p17 := o17.no c19
  have z19 := c19.size
  obtain ⟨t, at1, hob, htr, hat, _⟩ := (hc.no k19).at_
  have hco : ∀ {j : Nat} {u : Value}, (trP t ++ [at1.val, .int .i64 (regsV v : Int)])[j]? = some u → held (fun w' => Chg No w19 w') ⟨p, j, none⟩ u := fun h => Ob.held (fun w' c => hob.no c) h
  have hst : ∀ {j : Nat} {u : Value}, (stC S)[j]? = some u → held (fun w' => Chg No w19 w') ⟨b13, j, none⟩ u := fun h => Ob.held (fun w' c => p13.no c) h
  refine ⟨fun w' => Chg No w19 w', Chg.refl _ _, _, _, _, _, _, _, _, _, _, hco rfl, hco rfl, hco rfl, hco rfl, hco rfl, hco rfl, hco rfl, hco rfl, hco rfl, _, _, _, _, _, _, _, _, _, _, hst rfl, hst rfl, hst rfl, hst rfl, hst rfl, hst rfl, hst rfl, hst rfl, hst rfl, hst rfl, at1, hco rfl, _, hco rfl, ?_⟩
  have hil := (alt_ok hr).len
  obtain ⟨q1, _⟩ := hr.head
  have hrl := regs_le v
  refine (thr_any t S htr hr (h.no k19) hat hil (by omega) (ats_ok hr) (hwa.no k19) n1 n2 n3 hx).mono ?_
  rintro e w43 ⟨r, rfl, S', hS', c43, hr43⟩
  have z43 := c43.size
  have k43 := trN k19 c43
  obtain ⟨x, st, hb, hx, hrv, hform⟩ : ∃ (x st : Int) (hb : Bool) (hx : Int), r = thrR S' x st hb hx ∧ (thrR S' x st hb hx = if mayV v s = true then thrR S' (runA v (atsV v) (regsV v) s wl).1 (outAt v (runA v (atsV v) (regsV v) s wl).1).steps (decide ((runA v (atsV v) (regsV v) s wl).2.hit ≥ 0)) (runA v (atsV v) (regsV v) s wl).2.hit else thrR S' (-1) 0 false (-1)) := by
    by_cases hm : mayV v s = true
    · rw [if_pos hm] at hr43
      exact ⟨_, _, _, _, hr43, by rw [if_pos hm]⟩
    · rw [if_neg hm] at hr43
      exact ⟨_, _, _, _, hr43, by rw [if_neg hm]⟩
  subst hrv
  refine ⟨_, _, _, _, _, _, _, _, _, _, _, _, _, _, rfl, c43, ?_⟩
  refine ⟨(p15.no c43).wr (by simp [stC]), fun w58 hw58 => ?_⟩
  obtain ⟨r15, d58⟩ := (p15.no c43).up (k := 0) (vs := stC S') (cs' := stC S') (by simp [stC]) rfl hw58
  have r17 := (p17.no c43).chg d58 (fun he => by omega)
  refine ⟨r17.wr (by simp), fun w59 hw59 => ?_⟩
  obtain ⟨s17, d59⟩ := r17.up (k := 0) (vs := [.int .i64 x, .int .i64 st, .bool hb]) (cs' := [.int .i64 x, .int .i64 st, .bool hb]) (by simp) rfl hw59
  have s15 := r15.chg d59 (fun he => by omega)
  have d4359 : Chg (fun j => j = b15 ∨ j = b17) w43 w59 := d58.trans d59 (fun _ _ h => Or.inl h) (fun _ _ h => Or.inr h)
  refine ⟨_, _, _, _, _, _, _, _, _, _, s15.cell rfl, s15.cell rfl, s15.cell rfl, s15.cell rfl, s15.cell rfl, s15.cell rfl, s15.cell rfl, s15.cell rfl, s15.cell rfl, s15.cell rfl, _, _, _, s17.cell rfl, s17.cell rfl, s17.cell rfl, S', ?_, k43.trans d4359 (fun _ _ h => h) (fun j hj he => by omega), hform⟩
  exact (hS'.chg d4359 (fun j hj he => by omega)).wid fun j hj => by omega
theorem crun_any {D D' : Nat → Prop} {w : World} {p : Nat} (S : StC) {v : TrG} {s : StV} (hc : CodeAt D w p v) (hr : RightV v) (h : StIs D' w S s) {waS : Sl} {wl : List Int} (hwa : Rd intE w waS wl)
    (n1 : s.stack.length ≤ 100000) (n2 : s.back.length ≤ 100000) (n3 : s.mem.length ≤ 1000000) (hx : TxOk s) :
    Calls Tryz.prog fn_slots_Code_Run #[.pointer (some ⟨p, 0, none⟩), .agg (stC S).toArray, waS.val] w fun e w' => ∃ S' : StC, e = .returned (runR S' (outX v s wl) (outN v s wl) (outH v s wl)) ∧ StOw (fun k => w.heap.size ≤ k) w' S' (outS v s wl) ∧ Chg No w w' := by
  refine (slots_Code_Run_lift (K := fun r w' => ∃ S' : StC, r = runR S' (outX v s wl) (outN v s wl) (outH v s wl) ∧ StOw (fun k => w.heap.size ≤ k) w' S' (outS v s wl) ∧ Chg No w w') ?_).mono (by rintro e w' ⟨r, rfl, S', rfl, h⟩; exact ⟨S', rfl, h⟩)
  unfold slots_Code_Run_sh
  intro b13 w14 hb13 hw14 b15 w16 hb15 hw16 b17 w18 hb17 hw18
  have c14 := al hw14
  have c16 := al hw16
  have c18 := al hw18
  have z14 : w14.heap.size = w.heap.size + 1 := by rw [hw14]; simp
  have z16 : w16.heap.size = w14.heap.size + 1 := by rw [hw16]; simp
  have z18 : w18.heap.size = w16.heap.size + 1 := by rw [hw18]; simp
  have o13 : Ob w18 b13 (stC S) T_api_State := by
    have : Ob w14 b13 (stC S) T_api_State := by rw [hw14, hb13]; exact Ob.new w (stC S) T_api_State
    exact (this.no c16).no c18
  have o15 : Ob w18 b15 (stC st0) T_api_State := by
    have : Ob w16 b15 (stC st0) T_api_State := by rw [hw16, hb15]; exact Ob.new w14 (stC st0) T_api_State
    exact this.no c18
  have o17 : Ob w18 b17 [.int .i64 0, .int .i64 0, .bool false] T_eval_Done := by rw [hw18, hb17]; exact Ob.new w16 [.int .i64 0, .int .i64 0, .bool false] T_eval_Done
  have k18 := trN (trN c14 c16) c18
  refine ⟨_, _, _, _, _, _, _, _, _, _, o13.cell rfl, o13.cell rfl, o13.cell rfl, o13.cell rfl, o13.cell rfl, o13.cell rfl, o13.cell rfl, o13.cell rfl, o13.cell rfl, o13.cell rfl, (cthr_any S (hc.no k18) hr (h.no k18) (hwa.no k18) n1 n2 n3 hx).mono ?_⟩
  rintro e w30 ⟨r, rfl, S', hS', c30, hr30⟩
  have z30 := c30.size
  have k30 := trN k18 c30
  obtain ⟨y1, y2, y3⟩ := slot_runs hr (N := regsV v) (Nat.le_refl _) s wl
  have hS2 : StOw (fun k => w18.heap.size ≤ k) w30 S' (outS v s wl) := by
    by_cases hm : mayV v s = true
    · rw [if_pos hm, y1, y2] at hS'
      unfold outS; rw [if_pos hm]; exact hS'
    · rw [if_neg hm] at hS'
      unfold outS; rw [if_neg hm]; exact hS'
  obtain ⟨hx, hr2⟩ : ∃ hx, r = thrR S' (outX v s wl) (outN v s wl) (outH v s wl) hx := by
    by_cases hm : mayV v s = true
    · rw [if_pos hm, y1, y3] at hr30
      refine ⟨(runG v s wl).2.hit, hr30.trans ?_⟩
      unfold outX outN outH; rw [if_pos hm, if_pos hm, if_pos hm]
    · rw [if_neg hm] at hr30
      refine ⟨-1, hr30.trans ?_⟩
      unfold outX outN outH; rw [if_neg hm, if_neg hm, if_neg hm]
  subst hr2
  refine ⟨_, _, _, _, _, _, _, _, _, _, _, _, _, _, rfl, ?_⟩
  intro b45 w46 hb45 hw46 b47 w48 hb47 hw48
  have c46 := al hw46
  have c48 := al hw48
  have z46 : w46.heap.size = w30.heap.size + 1 := by rw [hw46]; simp
  have z48 : w48.heap.size = w46.heap.size + 1 := by rw [hw48]; simp
  have o45 : Ob w48 b45 (stC st0) T_api_State := by
    have : Ob w46 b45 (stC st0) T_api_State := by rw [hw46, hb45]; exact Ob.new w30 (stC st0) T_api_State
    exact this.no c48
  have o47 : Ob w48 b47 [.int .i64 0, .int .i64 0, .bool false] T_eval_Done := by rw [hw48, hb47]; exact Ob.new w46 [.int .i64 0, .int .i64 0, .bool false] T_eval_Done
  refine ⟨o45.wr (by simp [stC]), fun w49 hw49 => ?_⟩
  obtain ⟨p45, d49⟩ := o45.up (k := 0) (vs := stC S') (cs' := stC S') (by simp [stC]) rfl hw49
  have p47 := o47.chg d49 (fun he => by omega)
  refine ⟨p47.wr (by simp), fun w50 hw50 => ?_⟩
  obtain ⟨q47, d50⟩ := p47.up (k := 0) (vs := [.int .i64 (outX v s wl), .int .i64 (outN v s wl), .bool (outH v s wl)]) (cs' := [.int .i64 (outX v s wl), .int .i64 (outN v s wl), .bool (outH v s wl)]) (by simp) rfl hw50
  have q45 := p45.chg d50 (fun he => by omega)
  intro w51 hw51
  have c51 := dw hw51
  have q45 := q45.no c51
  have q47 := q47.no c51
  have z51 := c51.size
  have d3051 : Chg (fun j => j = b45 ∨ j = b47) w30 w51 := (((trN c46 c48).trans d49 (U := fun j => j = b45 ∨ j = b47) (fun _ _ h => h.elim) (fun _ _ h => Or.inl h)).trans d50 (fun _ _ h => h) (fun _ _ h => Or.inr h)).trans c51 (fun _ _ h => h) (fun _ _ h => h.elim)
  have e3051 : Chg No w30 w51 := d3051.trans (Chg.refl No _) (fun j hj he => by omega) (fun _ _ h => h)
  have z3051 := e3051.size
  have r15 := ((o15.no c30).no e3051)
  have r17 := ((o17.no c30).no e3051)
  have hS : ∀ w', (fun w' => Chg (fun j => j = b15) w51 w') w' → Ob w' b45 (stC S') T_api_State := fun w' c => q45.chg c (fun he => by omega)
  have hT : ∀ w', (fun w' => Chg (fun j => j = b15) w51 w') w' → Ob w' b47 [.int .i64 (outX v s wl), .int .i64 (outN v s wl), .bool (outH v s wl)] T_eval_Done := fun w' c => q47.chg c (fun he => by omega)
  refine ⟨fun w' => Chg (fun j => j = b15) w51 w', Chg.refl _ _, _, _, _, _, _, _, _, _, _, _, Ob.held hS rfl, Ob.held hS rfl, Ob.held hS rfl, Ob.held hS rfl, Ob.held hS rfl, Ob.held hS rfl, Ob.held hS rfl, Ob.held hS rfl, Ob.held hS rfl, Ob.held hS rfl, _, _, _, Ob.held hT rfl, Ob.held hT rfl, Ob.held hT rfl, ?_⟩
  refine ⟨r15.wr (by simp [stC]), fun w66 hw66 => ?_⟩
  obtain ⟨s15, d66⟩ := r15.up (k := 0) (vs := stC S') (cs' := stC S') (by simp [stC]) rfl hw66
  refine ⟨d66, ?_⟩
  have s17 := r17.chg d66 (fun he => by omega)
  refine ⟨s17.wr (by simp), fun w67 hw67 => ?_⟩
  obtain ⟨t17, d67⟩ := s17.up (k := 0) (vs := [.int .i64 (outX v s wl), .int .i64 (outN v s wl), .bool (outH v s wl)]) (cs' := [.int .i64 (outX v s wl), .int .i64 (outN v s wl), .bool (outH v s wl)]) (by simp) rfl hw67
  have t15 := s15.chg d67 (fun he => by omega)
  have d5167 : Chg (fun j => j = b15 ∨ j = b17) w51 w67 := d66.trans d67 (fun _ _ h => Or.inl h) (fun _ _ h => Or.inr h)
  refine ⟨_, _, _, _, _, _, _, _, _, _, t15.cell rfl, t15.cell rfl, t15.cell rfl, t15.cell rfl, t15.cell rfl, t15.cell rfl, t15.cell rfl, t15.cell rfl, t15.cell rfl, t15.cell rfl, _, _, _, t17.cell rfl, t17.cell rfl, t17.cell rfl, S', rfl, ?_, (trN k30 e3051).trans d5167 (fun _ _ h => h) (fun j hj he => by omega)⟩
  exact ((hS2.no e3051).chg d5167 (fun j hj he => by omega)).wid fun j hj => by omega
end Go.Proofs.YtblmoilneiffgaaGreat

/- Values that are used at once, one by one, and values that are all needed at the end: how many registers they need, and what they come to. No program in sight. -/
set_option maxRecDepth 100000
namespace Go.Proofs.YtblmoilneiffgaaGreat
open Go.RowKit

/-! ### One by one -/
/-! ### All at the end -/
end Go.Proofs.YtblmoilneiffgaaGreat

/- Code in registers: how many, how long; the law's first call (chapter 20). -/
set_option maxRecDepth 100000
namespace Go.Proofs.YtblmoilneiffgaaGreat
open Go.RowKit

def Lo (w : World) : Nat → Prop := fun k => k < w.heap.size
theorem Ow.lo {α : Type} {E : Enc α} {w : World} {s : Sl} {xs : List α} (h : Ow E w s xs) : ∀ k, s.blk = some k → Lo w k := fun k hk => h.lt hk
theorem lo_nil (w : World) : ∀ k, nilS.blk = some k → Lo w k := fun k hk => by cases hk
theorem ous_one {D : Nat → Prop} {w : World} {o : OuC} {v : OuV} (h : OuIs D w o v) : OusIs D w [o] [v] := ⟨rfl, fun i o' v' ho hv => by
  cases i with
  | zero => cases ho; cases hv; exact h
  | succ i => cases ho⟩
theorem creg_any {D : Nat → Prop} {w : World} {p : Nat} {v : TrG} (hc : CodeAt D w p v) : Calls Tryz.prog fn_slots_Code_Registers #[.pointer (some ⟨p, 0, none⟩)] w fun e w' => e = .returned (.int .i64 (regsV v : Int)) ∧ w = w' := by
  refine (slots_Code_Registers_lift (K := fun r w' => r = .int .i64 (regsV v : Int) ∧ w = w') ?_).mono (by rintro e w' ⟨r, rfl, rfl, h⟩; exact ⟨rfl, h⟩)
  unfold slots_Code_Registers_sh
  obtain ⟨t, s, h1, _⟩ := hc.at_
  exact ⟨_, h1.cell rfl, rfl, rfl⟩
theorem clen_any {D : Nat → Prop} {w : World} {p : Nat} {v : TrG} (hc : CodeAt D w p v) : Calls Tryz.prog fn_slots_Code_Len #[.pointer (some ⟨p, 0, none⟩)] w fun e w' => e = .returned (.int .i64 (v.ins.length : Int)) ∧ w = w' := by
  refine (slots_Code_Len_lift (K := fun r w' => r = .int .i64 (v.ins.length : Int) ∧ w = w') ?_).mono (by rintro e w' ⟨r, rfl, rfl, h⟩; exact ⟨rfl, h⟩)
  unfold slots_Code_Len_sh
  obtain ⟨t, s, h1, h2, _⟩ := hc.at_
  exact ⟨t.ins, h1.cell rfl, by rw [h2.ins.len], rfl⟩
theorem al20_right : RightV alT := rightB_ok (by decide +kernel)
theorem al20_regs : regsV alT = 2 := by decide +kernel
theorem alive20_any (w : World) : Calls Tryz.prog fn_hollowaylaw20_alive #[] w fun e w' => e = .returned (.bool true) ∧ Chg No w w' := by
  refine (hollowaylaw20_alive_lift (K := fun v w' => v = .bool true ∧ Chg No w w') ?_).mono (by rintro e w' ⟨v, rfl, rfl, h⟩; exact ⟨rfl, h⟩)
  unfold hollowaylaw20_alive_sh
  intro b1 w2 hb1 hw2 b3 w4 hb3 hw4 b5 w6 hb5 hw6 b7 w8 hb7 hw8
  obtain ⟨g2, c2⟩ := litIns alT.ins _ rfl hb1 hw2 (by decide)
  obtain ⟨g4, c4⟩ := lit1 1 hb3 hw4
  obtain ⟨g6, c6⟩ := litOus [⟨7, 2, ⟨some ⟨b3, 0, none⟩, 1, 1⟩, nilS⟩] _ rfl hb5 hw6 (by simp)
  obtain ⟨T, hT⟩ : ∃ T : TrP, T = ⟨5, 1, 0, 0, 0, ⟨some ⟨b1, 0, none⟩, 2, 2⟩, ⟨some ⟨b5, 0, none⟩, 1, 1⟩, 0, nilS⟩ := ⟨_, rfl⟩
  have hn := fun (w2 : World) => newOb (w2 := w2) (T := T_api_Trace) (trP ⟨0, 0, 0, 0, 0, nilS, nilS, 0, nilS⟩) (trP T) rfl hb7 hw8
  refine ⟨(hn w8).1, fun w9 hw9 => ?_⟩
  have hw9 : w9 = stW w8 ⟨b7, 0, none⟩ 0 (trP T) := by rw [hw9, hT]; rfl
  obtain ⟨o9, c9⟩ := (hn w9).2 hw9
  have k9 : Chg No w w9 := trN (trN (trN c2 c4) c6) c9
  have g2' := ((g2.no c4).no c6).no c9
  have g4' := (g4.no c6).no c9
  have g6' := g6.no c9
  have ht9 : TrIs (Lo w9) w9 T alT := by
    subst hT
    exact ⟨⟨rfl, rfl, rfl, rfl, rfl, rfl⟩, g2'.rd, ⟨_, g6'.rd, ous_one ⟨rfl, rfl, g4'.rd, Rd.nil _ _, g4'.lo, lo_nil _⟩⟩, Rd.nil _ _, g2'.lo, g6'.lo, lo_nil _⟩
  refine ⟨_, _, _, _, _, _, _, _, _, o9.cell rfl, o9.cell rfl, o9.cell rfl, o9.cell rfl, o9.cell rfl, o9.cell rfl, o9.cell rfl, o9.cell rfl, o9.cell rfl, (make_any T ht9 (fun k hk => hk) (by decide) 2).mono ?_⟩
  rintro e w20 ⟨c20, h20⟩
  have z20 := c20.size
  rcases h20 with ⟨hn, _⟩ | ⟨_, _, p, rfl, hc⟩
  · exact absurd ⟨al20_right, by rw [al20_regs]; decide⟩ hn
  have o20 := o9.no c20
  refine ⟨_, _, rfl, _, _, _, _, _, _, _, _, _, o20.cell rfl, o20.cell rfl, o20.cell rfl, o20.cell rfl, o20.cell rfl, o20.cell rfl, o20.cell rfl, o20.cell rfl, o20.cell rfl, (make_any T (ht9.no c20) (fun k hk => by have : k < w9.heap.size := hk; omega) (by decide) 1).mono ?_⟩
  rintro e w33 ⟨c33, h33⟩
  have z33 := c33.size
  rcases h33 with ⟨_, rfl⟩ | ⟨_, hle, _⟩
  rotate_left
  · rw [al20_regs] at hle; exact absurd hle (by decide)
  have o33 := o20.no c33
  have c2033 := trN c20 c33
  refine ⟨_, _, rfl, _, _, _, _, _, _, _, _, _, o33.cell rfl, o33.cell rfl, o33.cell rfl, o33.cell rfl, o33.cell rfl, o33.cell rfl, o33.cell rfl, o33.cell rfl, o33.cell rfl, (least_any T (ht9.no c2033) (fun k hk => by have : k < w9.heap.size := hk; omega)).mono ?_⟩
  rintro e w46 ⟨n, rfl, hn, _, c46⟩
  have hn : n = 2 := by rw [hn al20_right, al20_regs]; rfl
  subst hn
  have hc46 := (hc.no c33).no c46
  refine ⟨_, rfl, brB_t (brB_t (brB_t (brB_t ?_)))⟩
  refine (creg_any hc46).mono ?_
  rintro e w49 ⟨rfl, rfl⟩
  rw [al20_regs]
  refine ⟨_, rfl, brB_t ((creg_any hc46).mono ?_)⟩
  rintro e w52 ⟨rfl, rfl⟩
  rw [al20_regs]
  refine ⟨_, rfl, brB_t ((clen_any hc46).mono ?_)⟩
  rintro e w55 ⟨rfl, rfl⟩
  exact ⟨_, rfl, rfl, trN (trN k9 c2033) c46⟩
end Go.Proofs.YtblmoilneiffgaaGreat

/- Code that is nil (slots). -/
set_option maxRecDepth 100000
namespace Go.Proofs.YtblmoilneiffgaaGreat
open Go.RowKit

theorem cregN_any (w : World) : Calls Tryz.prog fn_slots_Code_Registers #[.pointer none] w fun e w' => e = .returned (.int .i64 0) ∧ w = w' := by
  refine (slots_Code_Registers_nil_lift (K := fun r w' => r = .int .i64 0 ∧ w = w') ?_).mono (by rintro e w' ⟨r, rfl, rfl, h⟩; exact ⟨rfl, h⟩)
  unfold slots_Code_Registers_nil_sh
  exact ⟨rfl, rfl⟩
theorem clenN_any (w : World) : Calls Tryz.prog fn_slots_Code_Len #[.pointer none] w fun e w' => e = .returned (.int .i64 0) ∧ w = w' := by
  refine (slots_Code_Len_nil_lift (K := fun r w' => r = .int .i64 0 ∧ w = w') ?_).mono (by rintro e w' ⟨r, rfl, rfl, h⟩; exact ⟨rfl, h⟩)
  unfold slots_Code_Len_nil_sh
  exact ⟨rfl, rfl⟩
theorem cthrN_any {D : Nat → Prop} {w : World} (S : StC) {s : StV} (h : StIs D w S s) (waS : Sl) (n1 : s.stack.length ≤ 1000000) (n2 : s.back.length ≤ 1000000) (n3 : s.mem.length ≤ 1000000) :
    Calls Tryz.prog fn_slots_Code_Through #[.pointer none, .agg (stC S).toArray, waS.val] w fun e w' => ∃ S' : StC, e = .returned (thrR S' (-1) 0 false (-1)) ∧ StOw (fun k => w.heap.size ≤ k) w' S' s ∧ Chg No w w' := by
  refine (slots_Code_Through_nil_lift (K := fun r w' => ∃ S' : StC, r = thrR S' (-1) 0 false (-1) ∧ StOw (fun k => w.heap.size ≤ k) w' S' s ∧ Chg No w w') ?_).mono (by rintro e w' ⟨r, rfl, S', rfl, h⟩; exact ⟨S', rfl, h⟩)
  unfold slots_Code_Through_nil_sh
  intro b13 w14 hb13 hw14 b15 w16 hb15 hw16 b17 w18 hb17 hw18
  have c14 := al hw14
  have c16 := al hw16
  have c18 := al hw18
  have z14 : w14.heap.size = w.heap.size + 1 := by rw [hw14]; simp
  have z16 : w16.heap.size = w14.heap.size + 1 := by rw [hw16]; simp
  have z18 : w18.heap.size = w16.heap.size + 1 := by rw [hw18]; simp
  have o13 : Ob w18 b13 (stC S) T_api_State := by
    have : Ob w14 b13 (stC S) T_api_State := by rw [hw14, hb13]; exact Ob.new w (stC S) T_api_State
    exact (this.no c16).no c18
  have o15 : Ob w18 b15 (stC st0) T_api_State := by
    have : Ob w16 b15 (stC st0) T_api_State := by rw [hw16, hb15]; exact Ob.new w14 (stC st0) T_api_State
    exact this.no c18
  have o17 : Ob w18 b17 [.int .i64 0, .int .i64 0, .bool false] T_eval_Done := by rw [hw18, hb17]; exact Ob.new w16 [.int .i64 0, .int .i64 0, .bool false] T_eval_Done
  have k18 := trN (trN c14 c16) c18
  refine ⟨_, _, _, _, _, _, _, _, _, _, o13.cell rfl, o13.cell rfl, o13.cell rfl, o13.cell rfl, o13.cell rfl, o13.cell rfl, o13.cell rfl, o13.cell rfl, o13.cell rfl, o13.cell rfl, (icopy_any S (h.no k18) n1 n2 n3).mono ?_⟩
  rintro e w43 ⟨S', rfl, hS', c43⟩
  have z43 := c43.size
  have k43 := trN k18 c43
  refine ⟨_, _, _, _, _, _, _, _, _, _, rfl, ?_⟩
  refine ⟨(o15.no c43).wr (by simp [stC]), fun w58 hw58 => ?_⟩
  obtain ⟨r15, d58⟩ := (o15.no c43).up (k := 0) (vs := stC S') (cs' := stC S') (by simp [stC]) rfl hw58
  have r17 := (o17.no c43).chg d58 (fun he => by omega)
  refine ⟨r17.wr (by simp), fun w59 hw59 => ?_⟩
  obtain ⟨s17, d59⟩ := r17.up (k := 0) (vs := [.int .i64 (-1), .int .i64 0, .bool false]) (cs' := [.int .i64 (-1), .int .i64 0, .bool false]) (by simp) rfl hw59
  have s15 := r15.chg d59 (fun he => by omega)
  have d4359 : Chg (fun j => j = b15 ∨ j = b17) w43 w59 := d58.trans d59 (fun _ _ h => Or.inl h) (fun _ _ h => Or.inr h)
  refine ⟨_, _, _, _, _, _, _, _, _, _, s15.cell rfl, s15.cell rfl, s15.cell rfl, s15.cell rfl, s15.cell rfl, s15.cell rfl, s15.cell rfl, s15.cell rfl, s15.cell rfl, s15.cell rfl, _, _, _, s17.cell rfl, s17.cell rfl, s17.cell rfl, S', rfl, ?_, k43.trans d4359 (fun _ _ h => h) (fun j hj he => by omega)⟩
  exact (hS'.chg d4359 (fun j hj he => by omega)).wid fun j hj => by omega
theorem crunN_any {D : Nat → Prop} {w : World} (S : StC) {s : StV} (h : StIs D w S s) (waS : Sl) (n1 : s.stack.length ≤ 1000000) (n2 : s.back.length ≤ 1000000) (n3 : s.mem.length ≤ 1000000) :
    Calls Tryz.prog fn_slots_Code_Run #[.pointer none, .agg (stC S).toArray, waS.val] w fun e w' => ∃ S' : StC, e = .returned (runR S' (-1) 0 false) ∧ StOw (fun k => w.heap.size ≤ k) w' S' s ∧ Chg No w w' := by
  refine (slots_Code_Run_nil_lift (K := fun r w' => ∃ S' : StC, r = runR S' (-1) 0 false ∧ StOw (fun k => w.heap.size ≤ k) w' S' s ∧ Chg No w w') ?_).mono (by rintro e w' ⟨r, rfl, S', rfl, h⟩; exact ⟨S', rfl, h⟩)
  unfold slots_Code_Run_nil_sh
  intro b13 w14 hb13 hw14 b15 w16 hb15 hw16 b17 w18 hb17 hw18
  have c14 := al hw14
  have c16 := al hw16
  have c18 := al hw18
  have z14 : w14.heap.size = w.heap.size + 1 := by rw [hw14]; simp
  have z16 : w16.heap.size = w14.heap.size + 1 := by rw [hw16]; simp
  have z18 : w18.heap.size = w16.heap.size + 1 := by rw [hw18]; simp
  have o13 : Ob w18 b13 (stC S) T_api_State := by
    have : Ob w14 b13 (stC S) T_api_State := by rw [hw14, hb13]; exact Ob.new w (stC S) T_api_State
    exact (this.no c16).no c18
  have o15 : Ob w18 b15 (stC st0) T_api_State := by
    have : Ob w16 b15 (stC st0) T_api_State := by rw [hw16, hb15]; exact Ob.new w14 (stC st0) T_api_State
    exact this.no c18
  have o17 : Ob w18 b17 [.int .i64 0, .int .i64 0, .bool false] T_eval_Done := by rw [hw18, hb17]; exact Ob.new w16 [.int .i64 0, .int .i64 0, .bool false] T_eval_Done
  have k18 := trN (trN c14 c16) c18
  refine ⟨_, _, _, _, _, _, _, _, _, _, o13.cell rfl, o13.cell rfl, o13.cell rfl, o13.cell rfl, o13.cell rfl, o13.cell rfl, o13.cell rfl, o13.cell rfl, o13.cell rfl, o13.cell rfl, (cthrN_any S (h.no k18) waS n1 n2 n3).mono ?_⟩
  rintro e w30 ⟨S', rfl, hS2, c30⟩
  have z30 := c30.size
  have k30 := trN k18 c30
  refine ⟨_, _, _, _, _, _, _, _, _, _, _, _, _, _, rfl, ?_⟩
  intro b45 w46 hb45 hw46 b47 w48 hb47 hw48
  have c46 := al hw46
  have c48 := al hw48
  have z46 : w46.heap.size = w30.heap.size + 1 := by rw [hw46]; simp
  have z48 : w48.heap.size = w46.heap.size + 1 := by rw [hw48]; simp
  have o45 : Ob w48 b45 (stC st0) T_api_State := by
    have : Ob w46 b45 (stC st0) T_api_State := by rw [hw46, hb45]; exact Ob.new w30 (stC st0) T_api_State
    exact this.no c48
  have o47 : Ob w48 b47 [.int .i64 0, .int .i64 0, .bool false] T_eval_Done := by rw [hw48, hb47]; exact Ob.new w46 [.int .i64 0, .int .i64 0, .bool false] T_eval_Done
  refine ⟨o45.wr (by simp [stC]), fun w49 hw49 => ?_⟩
  obtain ⟨p45, d49⟩ := o45.up (k := 0) (vs := stC S') (cs' := stC S') (by simp [stC]) rfl hw49
  have p47 := o47.chg d49 (fun he => by omega)
  refine ⟨p47.wr (by simp), fun w50 hw50 => ?_⟩
  obtain ⟨q47, d50⟩ := p47.up (k := 0) (vs := [.int .i64 (-1), .int .i64 0, .bool false]) (cs' := [.int .i64 (-1), .int .i64 0, .bool false]) (by simp) rfl hw50
  have q45 := p45.chg d50 (fun he => by omega)
  intro w51 hw51
  have c51 := dw hw51
  have q45 := q45.no c51
  have q47 := q47.no c51
  have z51 := c51.size
  have d3051 : Chg (fun j => j = b45 ∨ j = b47) w30 w51 := (((trN c46 c48).trans d49 (U := fun j => j = b45 ∨ j = b47) (fun _ _ h => h.elim) (fun _ _ h => Or.inl h)).trans d50 (fun _ _ h => h) (fun _ _ h => Or.inr h)).trans c51 (fun _ _ h => h) (fun _ _ h => h.elim)
  have e3051 : Chg No w30 w51 := d3051.trans (Chg.refl No _) (fun j hj he => by omega) (fun _ _ h => h)
  have z3051 := e3051.size
  have r15 := ((o15.no c30).no e3051)
  have r17 := ((o17.no c30).no e3051)
  have hS : ∀ w', (fun w' => Chg (fun j => j = b15) w51 w') w' → Ob w' b45 (stC S') T_api_State := fun w' c => q45.chg c (fun he => by omega)
  have hT : ∀ w', (fun w' => Chg (fun j => j = b15) w51 w') w' → Ob w' b47 [.int .i64 (-1), .int .i64 0, .bool false] T_eval_Done := fun w' c => q47.chg c (fun he => by omega)
  refine ⟨fun w' => Chg (fun j => j = b15) w51 w', Chg.refl _ _, _, _, _, _, _, _, _, _, _, _, Ob.held hS rfl, Ob.held hS rfl, Ob.held hS rfl, Ob.held hS rfl, Ob.held hS rfl, Ob.held hS rfl, Ob.held hS rfl, Ob.held hS rfl, Ob.held hS rfl, Ob.held hS rfl, _, _, _, Ob.held hT rfl, Ob.held hT rfl, Ob.held hT rfl, ?_⟩
  refine ⟨r15.wr (by simp [stC]), fun w66 hw66 => ?_⟩
  obtain ⟨s15, d66⟩ := r15.up (k := 0) (vs := stC S') (cs' := stC S') (by simp [stC]) rfl hw66
  refine ⟨d66, ?_⟩
  have s17 := r17.chg d66 (fun he => by omega)
  refine ⟨s17.wr (by simp), fun w67 hw67 => ?_⟩
  obtain ⟨t17, d67⟩ := s17.up (k := 0) (vs := [.int .i64 (-1), .int .i64 0, .bool false]) (cs' := [.int .i64 (-1), .int .i64 0, .bool false]) (by simp) rfl hw67
  have t15 := s15.chg d67 (fun he => by omega)
  have d5167 : Chg (fun j => j = b15 ∨ j = b17) w51 w67 := d66.trans d67 (fun _ _ h => Or.inl h) (fun _ _ h => Or.inr h)
  refine ⟨_, _, _, _, _, _, _, _, _, _, t15.cell rfl, t15.cell rfl, t15.cell rfl, t15.cell rfl, t15.cell rfl, t15.cell rfl, t15.cell rfl, t15.cell rfl, t15.cell rfl, t15.cell rfl, _, _, _, t17.cell rfl, t17.cell rfl, t17.cell rfl, S', rfl, ?_, (trN k30 e3051).trans d5167 (fun _ _ h => h) (fun j hj he => by omega)⟩
  exact ((hS2.no e3051).chg d5167 (fun j hj he => by omega)).wid fun j hj => by omega
end Go.Proofs.YtblmoilneiffgaaGreat

/- As many registers as are alive at once, by the document's own count. No program in sight. -/
set_option maxRecDepth 100000
namespace Go.Proofs.YtblmoilneiffgaaGreat
open Go.RowKit

def lastR (t : TrG) : List Int := setAll (liveL t t.ins.length) (endsV t) t.ins.length
theorem lastR_len (t : TrG) : (lastR t).length = t.ins.length := by unfold lastR; rw [setAll_len, liveL_len]
def mostR (t : TrG) (la : List Int) : Nat → Nat
  | 0 => 0
  | k + 1 => max (mostR t la k) (countV t la k)
theorem mostR_ge {t : TrG} {la : List Int} : ∀ {n k : Nat}, k < n → countV t la k ≤ mostR t la n
  | n + 1, k, h => by
    unfold mostR
    by_cases hk : k = n
    · subst hk; omega
    · have := mostR_ge (t := t) (la := la) (n := n) (k := k) (by omega); omega
theorem mostR_le {t : TrG} {la : List Int} {m : Nat} : ∀ n, (∀ k, k < n → countV t la k ≤ m) → mostR t la n ≤ m
  | 0, _ => Nat.zero_le _
  | n + 1, h => by
    unfold mostR
    have := mostR_le n fun k hk => h k (by omega)
    have := h n (by omega)
    omega
theorem filt_le {p q : Nat → Bool} (n : Nat) (h : ∀ k, k < n → p k = true → q k = true) : ((List.range n).filter p).length ≤ ((List.range n).filter q).length := by
  rw [← List.countP_eq_length_filter, ← List.countP_eq_length_filter]
  exact List.countP_mono_left fun k hk => h k (List.mem_range.1 hk)
theorem last_two {t : TrG} (hr : RightV t) {k j : Nat} (hk : k < t.ins.length) (hj : j < t.ins.length) : ((k : Int) ≤ gN (lastR t) j) ↔ ((k : Int) ≤ gN (livesV t) j) := by
  have hL := liveL_ok hr t.ins.length (Nat.le_refl _)
  have hle := hL.le j
  unfold lastR livesV
  rcases gN_all (endsV t) (liveL t t.ins.length) (t.ins.length : Int) j with ⟨a1, a2⟩ | ⟨a1, a2, p, a3, a4⟩
  · rcases gN_all (endsV t) (liveL t t.ins.length) ((t.ins.length : Int) - 1) j with ⟨b1, _⟩ | ⟨b1, b2, p, b3, b4⟩
    · rw [a1, b1]
    · have := a2 p b3 b4 b2
      omega
  · rcases gN_all (endsV t) (liveL t t.ins.length) ((t.ins.length : Int) - 1) j with ⟨b1, b2⟩ | ⟨b1, _⟩
    · have := b2 p a3 a4 a2
      omega
    · rw [a1, b1]; omega
theorem count_two {t : TrG} (hr : RightV t) {k : Nat} (hk : k < t.ins.length) : countV t (lastR t) k = countV t (livesV t) k := by
  unfold countV
  congr 1
  refine List.filter_congr fun j hj => ?_
  have := List.mem_range.1 hj
  unfold alive1
  congr 1
  exact decide_eq_decide.2 (last_two hr hk (by omega))
theorem count_end {t : TrG} (hr : RightV t) (h0 : 0 < t.ins.length) : countV t (lastR t) t.ins.length ≤ countV t (livesV t) (t.ins.length - 1) := by
  unfold countV
  rw [show min t.ins.length (t.ins.length + 1) = t.ins.length by omega, show min t.ins.length (t.ins.length - 1 + 1) = t.ins.length by omega]
  refine filt_le _ fun j hj ha => ?_
  have hL := (liveL_ok hr t.ins.length (Nat.le_refl _)).le j
  unfold alive1 at ha ⊢
  rw [Bool.and_eq_true, decide_eq_true_iff] at ha ⊢
  refine ⟨ha.1, ?_⟩
  have h2 := ha.2
  unfold lastR at h2
  rcases gN_all (endsV t) (liveL t t.ins.length) (t.ins.length : Int) j with ⟨a1, a2⟩ | ⟨a1, a2, p, a3, a4⟩
  · rw [a1] at h2; omega
  · have := (lives_ok hr).ends p a3
    rw [a4] at this; omega
theorem most_regs {t : TrG} (hr : RightV t) : mostR t (lastR t) (t.ins.length + 1) = regsV t := by
  have up : ∀ k, countV t (livesV t) k ≤ regsV t := count_le (alt_ok hr)
  apply Nat.le_antisymm
  · refine mostR_le _ fun k hk => ?_
    by_cases hkl : k < t.ins.length
    · rw [count_two hr hkl]; exact up k
    · have : k = t.ins.length := by omega
      subst this
      by_cases h0 : 0 < t.ins.length
      · exact Nat.le_trans (count_end hr h0) (up _)
      · unfold countV
        rw [show t.ins.length = 0 by omega]
        exact Nat.zero_le _
  · rcases count_ge (lives_ok hr).own t.ins.length (Nat.le_refl _) with h | ⟨m, hm, h⟩
    · have : regsV t = 0 := h
      omega
    · have h : regsV t ≤ countV t (livesV t) m := h
      rw [← count_two hr hm] at h
      exact Nat.le_trans h (mostR_ge (by omega))
end Go.Proofs.YtblmoilneiffgaaGreat

/- An element's cells, where more than one world is meant. -/
set_option maxRecDepth 100000
namespace Go.Proofs.YtblmoilneiffgaaGreat
open Go.RowKit

theorem Rd.hix {α : Type} {E : Enc α} {S : World → Prop} {w0 : World} {s : Sl} {xs : List α} {i : Int} {x : α} (hS : S w0) (h : ∀ w', S w' → Rd E w' s xs) (h0 : 0 ≤ i) (hi : xs[i.toNat]? = some x) {G : Addr → Prop}
    (k : ∀ a, s.ptr = some a → (∀ j u, (E.e x)[j]? = some u → held S ((a.add (i.toNat * E.sz)).add j) u) → G a) : ∃ a, s.ptr = some a ∧ 0 ≤ i ∧ i < (s.len : Int) ∧ G a := by
  obtain ⟨a, ha, _⟩ := (h w0 hS).at hi
  have hlt : i.toNat < xs.length := (List.getElem?_eq_some_iff.1 hi).1
  refine ⟨a, ha, h0, by rw [(h w0 hS).len]; omega, k a ha fun j u hu w' c => ?_⟩
  obtain ⟨a', ha', hc⟩ := (h w' c).at hi
  cases ha.symm.trans ha'
  exact hc j u hu
end Go.Proofs.YtblmoilneiffgaaGreat

/- The document's own count of registers (hollowayref15.Least). -/
set_option maxRecDepth 100000
namespace Go.Proofs.YtblmoilneiffgaaGreat
open Go.RowKit

structure LsAt (w0 w : World) (b : Nat) (t : TrP) (lS : Sl) (la : List Int) : Prop where
  ob : Ob w b (trP t) T_api_Trace
  l : Ow intE w lS la
  lN : ∀ k, lS.blk = some k → w0.heap.size ≤ k ∧ k ≠ b
  base : Chg No w0 w
section
variable {w0 w : World} {b : Nat} {t : TrP} {lS : Sl} {la : List Int}
theorem LsAt.no {w' : World} (h : LsAt w0 w b t lS la) (c : Chg No w w') : LsAt w0 w' b t lS la := ⟨h.ob.no c, h.l.no c, h.lN, trN h.base c⟩
theorem LsAt.app {w' : World} {l : Sl} {m : Nat} (h : LsAt w0 w b t lS la) (c : Chg (fun k => l.blk = some k) w w') (hl : ∀ j, l.blk = some j → m ≤ j) (h1 : b < m) (h2 : ∀ j, lS.blk = some j → j < m) (h3 : w0.heap.size ≤ m) : LsAt w0 w' b t lS la :=
  ⟨h.ob.chg c (fun he => by have := hl _ he; omega), h.l.chg c (fun k hk he => by have := hl _ he; have := h2 k hk; omega), h.lN, h.base.trans c (fun _ _ h => h) (fun k hk he => by have := hl _ he; omega)⟩
theorem LsAt.mark (h : LsAt w0 w b t lS la) {x v : Int} (x0 : 0 ≤ x) (x1 : x < la.length) {G : World → Prop} (k : ∀ w9, LsAt w0 w9 b t lS (la.set x.toNat v) → Chg (fun k => lS.blk = some k) w w9 → G w9) :
    ∃ a : Addr, lS.ptr = some a ∧ 0 ≤ x ∧ x < (lS.len : Int) ∧ wrOk w (Addr.add a (Int.toNat x * 1)) 1 ∧ ∀ w9 : World, w9 = stW w (Addr.add a (Int.toNat x * 1)) 0 [.int .i64 v] → G w9 := by
  have hx : la[x.toNat]? = some (la[x.toNat]'(by omega)) := List.getElem?_eq_getElem (by omega)
  refine h.l.rd.ix x0 hx fun a' ha' _ => ?_
  obtain ⟨f1, f2⟩ := h.l.set1 ha' (k := x.toNat) (j := 0) (x' := v) (u := .int .i64 v) hx (by decide) rfl
  rw [add0] at f1 f2
  refine ⟨f1, fun w9 hw9 => ?_⟩
  have c9 : Chg (fun k => lS.blk = some k) w w9 := by rw [hw9]; exact Chg.st (S := fun k => lS.blk = some k) (by rw [add_block]; exact blk_ptr ha')
  exact k w9 ⟨h.ob.chg c9 (fun he => (h.lN b he).2 rfl), by rw [hw9]; exact f2, h.lN, h.base.trans c9 (fun _ _ h => h) (fun k hk he => by have := (h.lN k he).1; omega)⟩ c9
theorem LsAt.marks (h : LsAt w0 w b t lS la) {l : Sl} {ps : List Int} {v : Int} (hl : ∀ w', Chg (fun k => lS.blk = some k) w w' → Rd intE w' l ps) (hp : ∀ x ∈ ps, 0 ≤ x ∧ x < la.length) (hn : ps.length ≤ 1000000) {G : World → Prop} (g : ∀ w', LsAt w0 w' b t lS (setAll la ps v) → G w') :
    ∃ (I : Int → World → Prop) (μ : Int → World → Nat), I (0 : Int) w ∧ ∀ (n : Int) (w1 : World), I n w1 →
      brB (decide (n < (l.len : Int)))
        (∃ a36 : Addr, l.ptr = some a36 ∧ 0 ≤ n ∧ n < (l.len : Int) ∧ ∃ n37 : Int, w1.cell? (Addr.add a36 (Int.toNat n * 1)) = some (.int .i64 n37) ∧
          ∃ a38 : Addr, lS.ptr = some a38 ∧ 0 ≤ n37 ∧ n37 < (lS.len : Int) ∧ wrOk w1 (Addr.add a38 (Int.toNat n37 * 1)) 1 ∧ ∀ w39 : World, w39 = stW w1 (Addr.add a38 (Int.toNat n37 * 1)) 0 [.int .i64 v] →
            I (wr (n + (1 : Int))) w39 ∧ μ (wr (n + (1 : Int))) w39 < μ n w1)
        (G w1) := by
  have hll := (hl w (Chg.refl _ _)).len
  refine ⟨fun m w' => ∃ k : Nat, m = k ∧ k ≤ ps.length ∧ LsAt w0 w' b t lS (setAll la (ps.take k) v) ∧ Chg (fun k => lS.blk = some k) w w', fun m _ => ps.length - m.toNat, ⟨0, rfl, Nat.zero_le _, h, Chg.refl _ _⟩, ?_⟩
  rintro m w3 ⟨k, rfl, hk, h3, c3⟩
  refine brB_of (fun hlt => ?_) (fun hlt => ?_)
  · have hlt : k < ps.length := by simp at hlt; omega
    obtain ⟨x, hx⟩ : ∃ x, ps[k]? = some x := ⟨_, List.getElem?_eq_getElem hlt⟩
    obtain ⟨x0, x1⟩ := hp x (List.mem_of_getElem? hx)
    refine (hl w3 c3).ix (i := (k : Int)) (by omega) (by rw [Int.toNat_natCast]; exact hx) fun a _ hcell => ?_
    have q := hcell 0 _ rfl
    rw [add0] at q
    refine ⟨x, q, ?_⟩
    refine h3.mark x0 (by rw [setAll_len]; exact x1) fun w9 h9 c9 => ?_
    rw [wr_in (by omega)]
    have hst : setAll la (ps.take (k + 1)) v = (setAll la (ps.take k) v).set x.toNat v := by
      rw [List.take_add_one, hx]; unfold setAll; rw [List.foldl_append]; rfl
    exact ⟨⟨k + 1, by omega, by omega, by rw [hst]; exact h9, c3.trans c9 (fun _ _ h => h) (fun _ _ h => h)⟩, by show ps.length - Int.toNat ((k : Int) + 1) < ps.length - Int.toNat (k : Int); omega⟩
  · have hlt : k = ps.length := by simp at hlt; omega
    subst hlt
    rw [List.take_length] at h3
    exact g w3 h3
end
theorem outsV_two (i : In5) : (outsV i).length ≤ 2 := by
  unfold outsV
  repeat' split
  all_goals simp
theorem ins_atl {v : TrG} {k : Nat} (hk : k < v.ins.length) : v.ins[k]? = some (atL v.ins k) := by
  rw [List.getElem?_eq_getElem hk, atL_get (List.getElem?_eq_getElem hk)]
theorem out_ge {t : TrG} {x : Int} (h0 : 0 ≤ x) (h1 : x < t.outs.length) : t.outs[x.toNat]? = some (outAt t x) := by
  unfold outAt; rw [List.getD_eq_getElem?_getD, List.getElem?_eq_getElem (by omega)]; rfl
def cntA (v : TrG) (la : List Int) (k j : Nat) : Nat := ((List.range j).filter (alive1 v la k)).length
theorem cntA_snoc (v : TrG) (la : List Int) (k j : Nat) : cntA v la k (j + 1) = cntA v la k j + if alive1 v la k j = true then 1 else 0 := by
  unfold cntA
  rw [List.range_succ, List.filter_append, List.length_append]
  congr 1
  by_cases h : alive1 v la k j = true
  · rw [if_pos h, List.filter_cons, if_pos h]; rfl
  · rw [if_neg h, List.filter_cons, if_neg h]; rfl
theorem cntA_le (v : TrG) (la : List Int) (k j : Nat) : cntA v la k j ≤ j := by
  have := List.length_filter_le (alive1 v la k) (List.range j); rw [List.length_range] at this; exact this
theorem mostR_few (v : TrG) (la : List Int) (n : Nat) : mostR v la n ≤ v.ins.length := mostR_le n fun k _ => by
  have := cntA_le v la k (min v.ins.length (k + 1))
  unfold countV; unfold cntA at this; omega
theorem least15_any {D : Nat → Prop} {w : World} (t : TrP) {v : TrG} (ht : TrIs D w t v) (hr : RightV v) : Calls Tryz.prog fn_hollowayref15_Least #[.agg (trP t).toArray] w fun e w' => e = .returned (.int .i64 (regsV v : Nat)) ∧ Chg No w w' := by
  refine (hollowayref15_Least_lift (K := fun r w' => r = .int .i64 (regsV v : Nat) ∧ Chg No w w') ?_).mono (by rintro e w' ⟨r, rfl, rfl, h⟩; exact ⟨rfl, h⟩)
  unfold hollowayref15_Least_sh
  intro b10 w11 hb10 hw11
  have c11 := al hw11
  have z11 : w11.heap.size = w.heap.size + 1 := by rw [hw11]; simp
  have o10 : Ob w11 b10 (trP t) T_api_Trace := by rw [hw11, hb10]; exact Ob.new w (trP t) T_api_Trace
  have hil := ht.ins.len
  obtain ⟨os, hos, hov⟩ := ht.outs
  have hol := hos.len
  obtain ⟨q1, q2, q3, q4, q5, q6, q7⟩ := hr.head
  have small : ∀ x : Int, 0 ≤ x → x < v.outs.length → (outAt v x).stack.length ≤ 96 ∧ (outAt v x).back.length ≤ 96 := fun x x0 x1 => by
    obtain ⟨_, _, e3, e4⟩ := hr.exits _ _ (out_ge x0 x1)
    omega
  refine ⟨t.ins, o10.cell rfl, ?_⟩
  obtain ⟨w14, r14, g14, c14⟩ := make_ints (w := w11) (n := (t.ins.len : Int)) (N := v.ins.length) (by rw [hil]) (by omega)
  refine ⟨_, w14, r14, ?_⟩
  have h14 : LsAt w w14 b10 t ⟨some ⟨w11.heap.size, 0, none⟩, v.ins.length, v.ins.length⟩ (List.replicate v.ins.length 0) :=
    ⟨o10.no c14, g14, fun k hk => by have hk : w11.heap.size = k := Option.some.inj hk; omega, trN c11 c14⟩
  generalize (⟨some ⟨w11.heap.size, 0, none⟩, v.ins.length, v.ins.length⟩ : Sl) = lS at *
  refine ⟨fun n w' => ∃ k : Nat, n = k ∧ k ≤ v.ins.length ∧ LsAt w w' b10 t lS (liveL v k), fun n _ => v.ins.length - n.toNat, ⟨0, rfl, Nat.zero_le _, h14⟩, ?_⟩
  rintro n w15 ⟨k, rfl, hk, h15⟩
  have hlk := liveL_len v k
  refine ⟨t.ins, h15.ob.cell rfl, brB_of (fun hlt => ?_) (fun hlt => ?_)⟩
  · have hlt : k < v.ins.length := by simp at hlt; omega
    have hi := ins_atl hlt
    have hE := atL_each' hr hlt
    have hnm := named_names hE
    have hls : liveL v (k + 1) = setAll ((liveL v k).set k (k : Int)) (namesV v (atL v.ins k)) k := rfl
    generalize hgi : atL v.ins (k : Nat) = i at *
    refine h15.mark (v := (k : Int)) (x := (k : Int)) (by omega) (by omega) fun w19 h19 _ => ?_
    rw [Int.toNat_natCast] at h19
    refine ⟨t.ins, h19.ob.cell rfl, ?_⟩
    refine (ht.ins.no h19.base).ix (i := (k : Int)) (by omega) (by rw [Int.toNat_natCast]; exact hi) fun a _ hc => ?_
    have g0 := hc 0 _ rfl
    rw [add0] at g0
    refine ⟨_, _, _, _, _, g0, hc 1 _ rfl, hc 2 _ rfl, hc 3 _ rfl, hc 4 _ rfl, (ruses_any i w19).mono ?_⟩
    rintro e w28 ⟨r, rfl, s29, rfl, g29, c29, n29⟩
    have h28 := h19.no c29
    refine ⟨s29, rfl, t.ins, h28.ob.cell rfl, ?_⟩
    refine (ht.ins.no h28.base).ix (i := (k : Int)) (by omega) (by rw [Int.toNat_natCast]; exact hi) fun a _ hc => ?_
    have g0 := hc 0 _ rfl
    rw [add0] at g0
    refine ⟨_, _, _, _, _, g0, hc 1 _ rfl, hc 2 _ rfl, hc 3 _ rfl, hc 4 _ rfl, (routs_any i w28).mono ?_⟩
    rintro e w38 ⟨r, rfl, s39, rfl, g39, c39, n39⟩
    have h38 := h28.no c39
    have g29' := g29.no c39
    have l39 := g39.rd.len
    have z19 := c29.size
    have z28 := c39.size
    have hul : (usesV i).length ≤ 2 := by rcases usesV_cases i with ⟨g, _⟩ | ⟨g, _⟩ | ⟨g, _⟩ <;> omega
    have hol2 := outsV_two i
    have lt19 : ∀ j, lS.blk = some j → j < w19.heap.size := fun j hj => h19.l.lt hj
    have b10lt := h19.ob.lt
    refine ⟨s39, rfl, ?_⟩
    refine ⟨fun l n w' => ∃ m : Nat, n = m ∧ m ≤ (outsV i).length ∧ LsAt w w' b10 t lS ((liveL v k).set k (k : Int)) ∧ Ow intE w' s39 (outsV i) ∧ Ow intE w' l (usesV i ++ ((outsV i).take m).flatMap fun x => (outAt v x).stack ++ (outAt v x).back) ∧ (usesV i ++ ((outsV i).take m).flatMap fun x => (outAt v x).stack ++ (outAt v x).back).length ≤ 2 + 192 * m ∧ (∀ j, l.blk = some j → w19.heap.size ≤ j ∧ s39.blk ≠ some j) ∧ w19.heap.size ≤ w'.heap.size, fun _ n _ => (outsV i).length - n.toNat,
      ⟨0, rfl, Nat.zero_le _, h38, g39, by simpa using g29', by simp; omega, fun j hj => ⟨n29 j hj, fun he => by have := n39 j he; have := g29.lt hj; omega⟩, by omega⟩, ?_⟩
    rintro l n w40 ⟨m, rfl, hm, h40, g40, gl40, len40, b40, z40⟩
    refine brB_of (fun hlt2 => ?_) (fun hlt2 => ?_)
    · have hlt2 : m < (outsV i).length := by simp at hlt2; omega
      obtain ⟨x, hx⟩ : ∃ x, (outsV i)[m]? = some x := ⟨_, List.getElem?_eq_getElem hlt2⟩
      obtain ⟨x0, x1, _, _⟩ := hE.2.2.2.2.2 x (List.mem_of_getElem? hx)
      obtain ⟨s1, s2⟩ := small x x0 x1
      obtain ⟨o, ho⟩ : ∃ o, os[x.toNat]? = some o := ⟨_, List.getElem?_eq_getElem (by rw [hov.1]; omega)⟩
      obtain ⟨_, _, u3, u4, _, _⟩ := hov.2 _ _ _ ho (out_ge x0 x1)
      have htk : (usesV i ++ ((outsV i).take (m + 1)).flatMap fun x => (outAt v x).stack ++ (outAt v x).back) = (usesV i ++ ((outsV i).take m).flatMap fun x => (outAt v x).stack ++ (outAt v x).back) ++ (outAt v x).stack ++ (outAt v x).back := by
        rw [List.take_add_one, hx]; simp [List.flatMap_append]
      generalize (usesV i ++ ((outsV i).take m).flatMap fun x => (outAt v x).stack ++ (outAt v x).back) = ul at *
      intro w42 hw42
      have c42 := dw hw42
      have h42 := h40.no c42
      have g42 := g40.no c42
      have gl42 := gl40.no c42
      refine ⟨fun w' => LsAt w w' b10 t lS ((liveL v k).set k (k : Int)) ∧ Ow intE w' s39 (outsV i), ⟨h42, g42⟩, t.outs, Ob.held (fun w' h => h.1.ob) rfl, ?_⟩
      refine Rd.hix (S := fun w' => LsAt w w' b10 t lS ((liveL v k).set k (k : Int)) ∧ Ow intE w' s39 (outsV i)) ⟨h42, g42⟩ (fun w' h => h.2.rd) (i := (m : Int)) (by omega) (by rw [Int.toNat_natCast]; exact hx) fun a46 _ hc46 => ?_
      have q46 := hc46 0 _ rfl
      rw [add0] at q46
      refine ⟨x, q46, ?_⟩
      refine Rd.hix (S := fun w' => LsAt w w' b10 t lS ((liveL v k).set k (k : Int)) ∧ Ow intE w' s39 (outsV i)) ⟨h42, g42⟩ (fun w' h => hos.no h.1.base) x0 ho fun a48 _ hc48 => ⟨o.stack, hc48 2 _ rfl, t.outs, Ob.held (fun w' h => h.1.ob) rfl, ?_⟩
      refine Rd.hix (S := fun w' => LsAt w w' b10 t lS ((liveL v k).set k (k : Int)) ∧ Ow intE w' s39 (outsV i)) ⟨h42, g42⟩ (fun w' h => h.2.rd) (i := (m : Int)) (by omega) (by rw [Int.toNat_natCast]; exact hx) fun a51 _ hc51 => ?_
      have q51 := hc51 0 _ rfl
      rw [add0] at q51
      refine ⟨x, q51, ?_⟩
      refine Rd.hix (S := fun w' => LsAt w w' b10 t lS ((liveL v k).set k (k : Int)) ∧ Ow intE w' s39 (outsV i)) ⟨h42, g42⟩ (fun w' h => hos.no h.1.base) x0 ho fun a53 _ hc53 => ⟨o.back, hc53 3 _ rfl, ?_⟩
      refine app_ok intOk (s := l) (t := o.stack) rfl rfl gl42 (u3.no h42.base) (by show (_ + _) * 8 ≤ _; omega) (by unfold maxLen; omega) ?_
      intro s55 w56 g55 c55 n55
      have z42 := c42.size
      have zw19 := h19.base.size
      have b55 : ∀ j, s55.blk = some j → w19.heap.size ≤ j ∧ s39.blk ≠ some j := fun j hj => by
        rcases n55 with hh | hh
        · exact b40 j (hh ▸ hj)
        · have := Option.some.inj (hh.symm.trans hj)
          exact ⟨by omega, fun he => by have := g42.lt he; omega⟩
      have h56 := h42.app c55 (fun j hj => (b40 j hj).1) b10lt lt19 zw19
      have g56 := g42.chg c55 (fun j hj he => (b40 j he).2 hj)
      refine ⟨⟨h56, g56⟩, ?_⟩
      refine app_ok intOk (s := s55) (t := o.back) rfl rfl g55 (u4.no h56.base) (by rw [List.length_append]; show (_ + _ + _) * 8 ≤ _; omega) (by rw [List.length_append]; unfold maxLen; omega) ?_
      intro s57 w58 g57 c57 n57
      have z56 := c55.size
      have z58 := c57.size
      have b57 : ∀ j, s57.blk = some j → w19.heap.size ≤ j ∧ s39.blk ≠ some j := fun j hj => by
        rcases n57 with hh | hh
        · exact b55 j (hh ▸ hj)
        · have := Option.some.inj (hh.symm.trans hj)
          exact ⟨by omega, fun he => by have := g56.lt he; omega⟩
      rw [wr_in (by omega)]
      refine ⟨⟨m + 1, by omega, by omega, h56.app c57 (fun j hj => (b55 j hj).1) b10lt lt19 zw19, g56.chg c57 (fun j hj he => (b55 j he).2 hj), ?_, ?_, b57, by omega⟩, by show (outsV i).length - Int.toNat ((m : Int) + 1) < (outsV i).length - Int.toNat (m : Int); omega⟩
      · rw [htk]; exact g57
      · rw [htk, List.length_append, List.length_append]; omega
    · have hm2 : m = (outsV i).length := by simp at hlt2; omega
      subst hm2
      rw [List.take_length] at gl40 len40
      have hnl : usesV i ++ (outsV i).flatMap (fun x => (outAt v x).stack ++ (outAt v x).back) = namesV v i := rfl
      rw [hnl] at gl40 len40
      refine h40.marks (v := (k : Int)) (l := l) (ps := namesV v i) (fun w' c => (gl40.chg c (fun j hj he => by have := (b40 j hj).1; have := lt19 j he; omega)).rd) (fun p hp => by have := hnm p hp; rw [List.length_set]; omega) (by omega) fun w59 h59 => ?_
      rw [wr_in (by omega)]
      refine ⟨⟨k + 1, by omega, by omega, ?_⟩, by show v.ins.length - Int.toNat ((k : Int) + 1) < v.ins.length - Int.toNat (k : Int); omega⟩
      rw [hls]; exact h59
  · have hlt : k = v.ins.length := by simp at hlt; omega
    subst hlt
    have hlo := hr.last
    have hlast : t.last = v.last := ht.nums.2.2.2.2.2
    obtain ⟨s1, s2⟩ := small v.last hlo.1 hlo.2.1
    obtain ⟨o, ho⟩ : ∃ o, os[v.last.toNat]? = some o := ⟨_, List.getElem?_eq_getElem (by rw [hov.1]; have := hlo.1; have := hlo.2.1; omega)⟩
    obtain ⟨_, _, u3, u4, _, _⟩ := hov.2 _ _ _ ho (out_ge hlo.1 hlo.2.1)
    intro w65 hw65
    have c65 := dw hw65
    have h65 := h15.no c65
    have zb := h65.ob.lt
    have zw := h65.base.size
    have zl : ∀ j, lS.blk = some j → j < w65.heap.size := fun j hj => h65.l.lt hj
    refine ⟨fun w' => LsAt w w' b10 t lS (liveL v v.ins.length), h65, t.outs, Ob.held (fun w' h => h.ob) rfl, t.last, Ob.held (fun w' h => h.ob) rfl, ?_⟩
    rw [hlast]
    refine Rd.hix (S := fun w' => LsAt w w' b10 t lS (liveL v v.ins.length)) h65 (fun w' h => hos.no h.base) hlo.1 ho fun a69 _ hc69 => ⟨o.stack, hc69 2 _ rfl, t.outs, Ob.held (fun w' h => h.ob) rfl, v.last, hlast ▸ Ob.held (fun w' h => h.ob) rfl, ?_⟩
    refine Rd.hix (S := fun w' => LsAt w w' b10 t lS (liveL v v.ins.length)) h65 (fun w' h => hos.no h.base) hlo.1 ho fun a73 _ hc73 => ⟨o.back, hc73 3 _ rfl, ?_⟩
    refine app0_ints rfl (u3.no h65.base) (by omega) fun s75 w76 g75 c75 n75 => ?_
    have h76 := h65.no c75
    refine ⟨h76, ?_⟩
    refine app_ok intOk (s := s75) (t := o.back) rfl rfl g75 (u4.no h76.base) (by show (_ + _) * 8 ≤ _; omega) (by unfold maxLen; omega) ?_
    intro s77 w78 g77 c77 n77
    have z76 := c75.size
    have h78 := h76.app c77 n75 zb zl zw
    have b77 : ∀ j, s77.blk = some j → w65.heap.size ≤ j := fun j hj => by
      rcases n77 with hh | hh
      · exact n75 j (hh ▸ hj)
      · have := Option.some.inj (hh.symm.trans hj); omega
    have hen : (outAt v v.last).stack ++ (outAt v v.last).back = endsV v := rfl
    have hel : (endsV v).length ≤ 192 := by rw [← hen, List.length_append]; omega
    rw [hen] at g77
    have hein := ends_in hr
    have hll := g77.rd.len
    have hlr : setAll (liveL v v.ins.length) (endsV v) v.ins.length = lastR v := rfl
    refine ⟨fun n w' => ∃ j : Nat, n = j ∧ j ≤ (endsV v).length ∧ LsAt w w' b10 t lS (setAll (liveL v v.ins.length) ((endsV v).take j) v.ins.length) ∧ Ow intE w' s77 (endsV v), fun n _ => (endsV v).length - n.toNat, ⟨0, rfl, Nat.zero_le _, h78, g77⟩, ?_⟩
    rintro n w79 ⟨j, rfl, hj, h79, g79⟩
    refine brB_of (fun hlt => ?_) (fun hlt => ?_)
    · have hlt : j < (endsV v).length := by simp at hlt; omega
      obtain ⟨x, hx⟩ : ∃ x, (endsV v)[j]? = some x := ⟨_, List.getElem?_eq_getElem hlt⟩
      obtain ⟨x0, x1, _⟩ := hein x (List.mem_of_getElem? hx)
      intro w81 hw81
      have c81 := dw hw81
      have h81 := h79.no c81
      have g81 := g79.no c81
      refine g81.rd.ix (i := (j : Int)) (by omega) (by rw [Int.toNat_natCast]; exact hx) fun a _ hc => ?_
      have q := hc 0 _ rfl
      rw [add0] at q
      refine ⟨x, held_Lw q, t.ins, held_Lw (h81.ob.cell rfl), ?_⟩
      refine h81.mark (v := (t.ins.len : Int)) x0 (by rw [setAll_len, hlk]; exact x1) fun w86 h86 c86 => ?_
      rw [wr_in (by omega)]
      have hst : setAll (liveL v v.ins.length) ((endsV v).take (j + 1)) v.ins.length = (setAll (liveL v v.ins.length) ((endsV v).take j) v.ins.length).set x.toNat v.ins.length := by
        rw [List.take_add_one, hx]; unfold setAll; rw [List.foldl_append]; rfl
      rw [hil, ← hst] at h86
      exact ⟨⟨j + 1, by omega, by omega, h86, g81.chg c86 (fun k hk he => by have := b77 k hk; have := zl k he; omega)⟩, by show (endsV v).length - Int.toNat ((j : Int) + 1) < (endsV v).length - Int.toNat (j : Int); omega⟩
    have hlt : j = (endsV v).length := by simp at hlt; omega
    subst hlt
    rw [List.take_length, hlr] at h79
    have hLl := lastR_len v
    have hmost := most_regs hr
    generalize lastR v = la at *
    refine ⟨fun m n w' => ∃ k : Nat, n = k ∧ k ≤ v.ins.length + 1 ∧ m = (mostR v la k : Nat) ∧ LsAt w w' b10 t lS la, fun _ n _ => v.ins.length + 1 - n.toNat, ⟨0, rfl, Nat.zero_le _, rfl, h79⟩, ?_⟩
    rintro m n w87 ⟨k, rfl, hk, rfl, h87⟩
    refine ⟨t.ins, h87.ob.cell rfl, brB_of (fun hle => ?_) (fun hle => ?_)⟩
    · have hle : k ≤ v.ins.length := by simp at hle; omega
      refine ⟨fun c n w' => ∃ j : Nat, n = j ∧ j ≤ min v.ins.length (k + 1) ∧ c = (cntA v la k j : Nat) ∧ LsAt w w' b10 t lS la, fun _ n _ => v.ins.length - n.toNat, ⟨0, rfl, Nat.zero_le _, rfl, h87⟩, ?_⟩
      rintro c n w90 ⟨j, rfl, hj, rfl, h90⟩
      have hca := cntA_le v la k j
      have hmf := mostR_few v la k
      have fin : j = min v.ins.length (k + 1) → ((fun m n w' => ∃ k : Nat, n = (k : Int) ∧ k ≤ v.ins.length + 1 ∧ m = ((mostR v la k : Nat) : Int) ∧ LsAt w w' b10 t lS la) (imax ((mostR v la k : Nat) : Int) ((cntA v la k j : Nat) : Int)) (wr ((k : Int) + 1)) w90 ∧ v.ins.length + 1 - (wr ((k : Int) + 1)).toNat < v.ins.length + 1 - ((k : Nat) : Int).toNat) := fun hjm => by
        rw [wr_in (by omega)]
        refine ⟨⟨k + 1, by omega, by omega, ?_, h90⟩, by omega⟩
        rw [imax_eq]
        have : cntA v la k j = countV v la k := by rw [hjm]; rfl
        show _ = ((max (mostR v la k) (countV v la k) : Nat) : Int)
        omega
      refine ⟨t.ins, h90.ob.cell rfl, brB_of (fun hlt => ?_) (fun hlt => ?_)⟩
      · have hlt : j < v.ins.length := by simp at hlt; omega
        unfold hollowayref15_Least_j1
        refine brB_of (fun hjk => ?_) (fun hjk => ?_)
        · have hjk : j ≤ k := by simp at hjk; omega
          have hi := ins_atl hlt
          have hsn := cntA_snoc v la k j
          have hal : alive1 v la k j = (givesV (atL v.ins j).a && decide ((k : Int) ≤ gN la j)) := rfl
          generalize hgi : atL v.ins (j : Nat) = i at *
          refine ⟨fun c w' => c = (cntA v la k (j + 1) : Nat) ∧ LsAt w w' b10 t lS la, ?_, fun b w' => b = alive1 v la k j ∧ LsAt w w' b10 t lS la, ?_, t.ins, h90.ob.cell rfl, ?_⟩
          · rintro c w108 ⟨rfl, h108⟩
            rw [wr_in (by omega)]
            exact ⟨⟨j + 1, by omega, by omega, rfl, h108⟩, by show v.ins.length - Int.toNat ((j : Int) + 1) < v.ins.length - Int.toNat (j : Int); omega⟩
          · rintro b w105 ⟨rfl, h105⟩
            refine brB_of (fun hb => ⟨?_, h105⟩) (fun hb => ⟨?_, h105⟩)
            · rw [hsn, if_pos hb, wr_in (by omega)]; omega
            · rw [hsn, if_neg (by rw [hb]; decide)]; rfl
          · refine (ht.ins.no h90.base).ix (i := (j : Int)) (by omega) (by rw [Int.toNat_natCast]; exact hi) fun a _ hc => ?_
            have g0 := hc 0 _ rfl
            rw [add0] at g0
            refine ⟨i.a, g0, (rgives_any i.a w90).mono ?_⟩
            rintro e w101 ⟨rfl, rfl⟩
            refine ⟨_, rfl, brB_of (fun hg => ?_) (fun hg => ⟨by rw [hal, hg]; rfl, h90⟩)⟩
            refine h90.l.rd.ix (i := (j : Int)) (by omega) (x := gN la j) (by rw [Int.toNat_natCast]; unfold gN; rw [List.getD_eq_getElem?_getD, List.getElem?_eq_getElem (by omega)]; rfl) fun a _ hc => ?_
            have q := hc 0 _ rfl
            rw [add0] at q
            refine ⟨_, q, ?_, h90⟩
            rw [hal, hg]; rfl
        · have hjk : ¬ j ≤ k := by simp at hjk; omega
          exact fin (by omega)
      · have hlt : j = v.ins.length := by simp at hlt; omega
        unfold hollowayref15_Least_j1
        exact brB_f (fin (by omega))
    · have hle : k = v.ins.length + 1 := by simp at hle; omega
      subst hle
      exact ⟨by rw [hmost], h87.base⟩
end Go.Proofs.YtblmoilneiffgaaGreat
