/- The walk of SlotsMany. -/
import Derived.Test.YtblmoilneiffgaaJ3
import Derived.Test.YtblmoilneiffgaaJD
import Derived.Test.YtblmoilneiffgaaJE
import Derived.Test.YtblmoilneiffgaaJ5
import Derived.Test.YtblmoilneiffgaaJC
import Derived.Test.YtblmoilneiffgaaJ6
import Derived.Test.YtblmoilneiffgaaJ8
import Derived.Test.YtblmoilneiffgaaJ2

/- Values in few registers, in plain words: up to where each value is alive, in which register it is; what a trace does in these. No program in sight. -/
set_option maxRecDepth 100000
namespace Go.Proofs.Ytblmoilneiffgaa
open Go.RowKit

def setAll (la : List Int) (l : List Int) (v : Int) : List Int := l.foldl (fun la p => la.set p.toNat v) la
/-- The places that an instruction and its exits name. -/
def namesV (t : TrG) (i : In5) : List Int := usesV i ++ (outsV i).flatMap fun x => (outAt t x).stack ++ (outAt t x).back
def endsV (t : TrG) : List Int := (outAt t t.last).stack ++ (outAt t t.last).back
/-- Up to which of the first k instructions each value is named. -/
def liveL (t : TrG) : Nat → List Int
  | 0 => List.replicate t.ins.length 0
  | k + 1 => setAll ((liveL t k).set k (k : Int)) (namesV t (atL t.ins k)) k
def livesV (t : TrG) : List Int := setAll (liveL t t.ins.length) (endsV t) ((t.ins.length : Int) - 1)
theorem setAll_len (l : List Int) (v : Int) : ∀ la : List Int, (setAll la l v).length = la.length := by
  induction l with
  | nil => intro la; rfl
  | cons p r ih => intro la; exact (ih (la.set p.toNat v)).trans (by simp)
theorem setAll_app (a b : List Int) (la : List Int) (v : Int) : setAll la (a ++ b) v = setAll (setAll la a v) b v := by unfold setAll; rw [List.foldl_append]
theorem liveL_len (t : TrG) : ∀ k, (liveL t k).length = t.ins.length
  | 0 => by unfold liveL; simp
  | k + 1 => by unfold liveL; rw [setAll_len, List.length_set]; exact liveL_len t k
theorem livesV_len (t : TrG) : (livesV t).length = t.ins.length := by unfold livesV; rw [setAll_len, liveL_len]
def gN (l : List Int) (j : Nat) : Int := l.getD j 0
theorem gN_set {l : List Int} {j k : Nat} {v : Int} : gN (l.set k v) j = if k = j ∧ k < l.length then v else gN l j := by
  unfold gN
  rw [List.getD_eq_getElem?_getD, List.getElem?_set, List.getD_eq_getElem?_getD]
  by_cases hk : k = j
  · subst hk
    by_cases hl : k < l.length
    · simp [hl]
    · simp [hl]
  · simp [hk]
theorem getI_gN (l : List Int) (p : Int) : getI l p = gN l p.toNat := rfl
/-- Behind marks by one number: that number, where it was named, or what was there. -/
theorem gN_all : ∀ (l : List Int) (la : List Int) (v : Int) (j : Nat), (gN (setAll la l v) j = gN la j ∧ ∀ p ∈ l, p.toNat = j → j < la.length → gN la j = v) ∨ (gN (setAll la l v) j = v ∧ j < la.length ∧ ∃ p ∈ l, p.toNat = j)
  | [], la, v, j => Or.inl ⟨rfl, fun p hp => by cases hp⟩
  | q :: r, la, v, j => by
    have h := gN_all r (la.set q.toNat v) v j
    rw [List.length_set] at h
    have e : setAll la (q :: r) v = setAll (la.set q.toNat v) r v := rfl
    rw [e]
    rcases h with ⟨h1, h2⟩ | ⟨h1, h2, p, hp, hj⟩
    · rw [gN_set] at h1
      by_cases hq : q.toNat = j ∧ q.toNat < la.length
      · rw [if_pos hq] at h1
        exact Or.inr ⟨h1, by omega, q, by simp, hq.1⟩
      · rw [if_neg hq] at h1
        refine Or.inl ⟨h1, fun p hp hj hl => ?_⟩
        rcases List.mem_cons.1 hp with rfl | hp
        · exact absurd ⟨hj, by omega⟩ hq
        · have := h2 p hp hj hl
          rw [gN_set, if_neg hq] at this; exact this
    · exact Or.inr ⟨h1, h2, p, List.mem_cons_of_mem _ hp, hj⟩
theorem gN_named {l la : List Int} {v : Int} {p : Int} (hp : p ∈ l) (hl : p.toNat < la.length) : gN (setAll la l v) p.toNat = v := by
  rcases gN_all l la v p.toNat with ⟨h1, h2⟩ | ⟨h1, _⟩
  · rw [h1]; exact h2 p hp rfl hl
  · exact h1
theorem gN_ge {l la : List Int} {v : Int} {j : Nat} {x : Int} (h : x ≤ gN la j) (hv : x ≤ v) : x ≤ gN (setAll la l v) j := by
  rcases gN_all l la v j with ⟨h1, _⟩ | ⟨h1, _⟩ <;> omega
/-- Behind k instructions. -/
structure LvK (t : TrG) (k : Nat) (la : List Int) : Prop where
  len : la.length = t.ins.length
  le : ∀ j : Nat, 0 ≤ gN la j ∧ (gN la j = 0 ∨ gN la j < k)
  own : ∀ j : Nat, j < k → (j : Int) ≤ gN la j
  uses : ∀ j : Nat, j < k → ∀ p ∈ namesV t (atL t.ins j), (j : Int) ≤ gN la p.toNat
theorem named_names {t : TrG} {k : Nat} {i : In5} (h : EachV t k i) : ∀ p ∈ namesV t i, 0 ≤ p ∧ p < k ∧ givesV (atL t.ins p).a = true := by
  intro p hp
  obtain ⟨_, _, _, _, h5, h6⟩ := h
  rcases List.mem_append.1 hp with hp | hp
  · exact h5 p hp
  · obtain ⟨x, hx, hp⟩ := List.mem_flatMap.1 hp
    obtain ⟨_, _, h2, h3⟩ := h6 x hx
    rcases List.mem_append.1 hp with hp | hp
    · exact h2 p hp
    · exact h3 p hp
theorem atL_each' {t : TrG} (hr : RightV t) {k : Nat} (hk : k < t.ins.length) : EachV t k (atL t.ins k) := by
  refine hr.each k _ ?_
  rw [List.getElem?_eq_getElem hk, atL_get (List.getElem?_eq_getElem hk)]
theorem liveL_ok {t : TrG} (hr : RightV t) : ∀ k, k ≤ t.ins.length → LvK t k (liveL t k)
  | 0, _ => ⟨liveL_len t 0, fun j => by
      have : gN (liveL t 0) j = 0 := by
        unfold liveL gN; rw [List.getD_eq_getElem?_getD, List.getElem?_replicate]; split <;> rfl
      rw [this]; exact ⟨by omega, Or.inl rfl⟩, fun j h => by omega, fun j h => by omega⟩
  | k + 1, hk => by
    have h := liveL_ok hr k (by omega)
    have hE := atL_each' hr (k := k) (by omega)
    have hn := named_names hE
    refine ⟨liveL_len t (k + 1), fun j => ?_, fun j hj => ?_, fun j hj p hp => ?_⟩
    · unfold liveL
      have hb : 0 ≤ gN ((liveL t k).set k (k : Int)) j ∧ gN ((liveL t k).set k (k : Int)) j < ((k + 1 : Nat) : Int) := by
        rw [gN_set]
        have := h.le j
        split <;> omega
      rcases gN_all (namesV t (atL t.ins k)) ((liveL t k).set k (k : Int)) k j with ⟨h1, _⟩ | ⟨h1, _⟩
      · rw [h1]; exact ⟨hb.1, Or.inr hb.2⟩
      · rw [h1]; omega
    · unfold liveL
      by_cases hjk : j = k
      · subst hjk
        refine gN_ge ?_ (by omega)
        rw [gN_set, if_pos ⟨rfl, by rw [h.len]; omega⟩]; omega
      · refine gN_ge ?_ (by omega)
        rw [gN_set, if_neg (by omega)]
        exact h.own j (by omega)
    · unfold liveL
      by_cases hjk : j = k
      · subst hjk
        have hp' := hn p hp
        rw [gN_named hp (by rw [List.length_set, h.len]; omega)]; omega
      · refine gN_ge ?_ (by omega)
        rw [gN_set]
        split
        · omega
        · exact h.uses j (by omega) p hp
/-- What is known of the ends of lives. -/
structure LvOk (t : TrG) (la : List Int) : Prop where
  len : la.length = t.ins.length
  own : ∀ j : Nat, j < t.ins.length → (j : Int) ≤ gN la j
  uses : ∀ j : Nat, j < t.ins.length → ∀ p ∈ namesV t (atL t.ins j), (j : Int) ≤ gN la p.toNat
  ends : ∀ p ∈ endsV t, (t.ins.length : Int) - 1 ≤ gN la p.toNat
theorem ends_in {t : TrG} (hr : RightV t) : ∀ p ∈ endsV t, 0 ≤ p ∧ p < t.ins.length ∧ givesV (atL t.ins p).a = true := by
  intro p hp
  obtain ⟨_, _, h2, h3⟩ := hr.last
  rcases List.mem_append.1 hp with hp | hp
  · exact h2 p hp
  · exact h3 p hp
theorem lives_ok {t : TrG} (hr : RightV t) : LvOk t (livesV t) := by
  have h := liveL_ok hr t.ins.length (Nat.le_refl _)
  refine ⟨livesV_len t, fun j hj => ?_, fun j hj p hp => ?_, fun p hp => ?_⟩
  · exact gN_ge (h.own j hj) (by omega)
  · exact gN_ge (h.uses j hj p hp) (by omega)
  · have := ends_in hr p hp
    unfold livesV
    rw [gN_named hp (by rw [h.len]; omega)]; omega
/-! ### Registers -/
structure Alt where
  at_ : List Int
  unt : List Int
/-- The first register that is free ahead of a place. -/
def freeV (unt : List Int) (k : Int) : Nat := unt.findIdx fun e => decide (e < k)
def altS (t : TrG) (la : List Int) (q : Alt) (k : Nat) : Alt :=
  if givesV (atL t.ins k).a = true then
    (if freeV q.unt k < q.unt.length then ⟨q.at_.set k (freeV q.unt k : Int), q.unt.set (freeV q.unt k) (gN la k)⟩
     else ⟨q.at_.set k (q.unt.length : Int), q.unt ++ [gN la k]⟩)
  else q
def altL (t : TrG) (la : List Int) : Nat → Alt
  | 0 => ⟨List.replicate t.ins.length 0, []⟩
  | k + 1 => altS t la (altL t la k) k
/-- How many values are alive at a place. -/
def alive1 (t : TrG) (la : List Int) (k : Nat) (j : Nat) : Bool := givesV (atL t.ins j).a && decide ((k : Int) ≤ gN la j)
def countV (t : TrG) (la : List Int) (k : Nat) : Nat := ((List.range (min t.ins.length (k + 1))).filter (alive1 t la k)).length
/-- What is known of registers, behind the first k instructions. -/
structure AltK (t : TrG) (la : List Int) (k : Nat) (q : Alt) : Prop where
  len : q.at_.length = t.ins.length
  lo : ∀ j : Nat, 0 ≤ gN q.at_ j
  inr : ∀ j : Nat, j < k → givesV (atL t.ins j).a = true → gN q.at_ j < q.unt.length ∧ gN la j ≤ gN q.unt (gN q.at_ j).toNat
  zero : ∀ j : Nat, (j < k → givesV (atL t.ins j).a = false) → gN q.at_ j = 0
  lst : ∀ r : Nat, r < q.unt.length → ∃ j : Nat, j < k ∧ givesV (atL t.ins j).a = true ∧ gN q.at_ j = r ∧ gN la j = gN q.unt r
  dis : ∀ i j : Nat, i < j → j < k → givesV (atL t.ins i).a = true → givesV (atL t.ins j).a = true → gN q.at_ i = gN q.at_ j → gN la i < j
theorem free_lt {unt : List Int} {k : Int} (h : freeV unt k < unt.length) : gN unt (freeV unt k) < k := by
  have := List.findIdx_getElem (w := h)
  unfold gN; rw [List.getD_eq_getElem?_getD, List.getElem?_eq_getElem h]
  exact of_decide_eq_true this
theorem free_ge {unt : List Int} {k : Int} (h : ¬ freeV unt k < unt.length) {r : Nat} (hr : r < unt.length) : k ≤ gN unt r := by
  have h1 : freeV unt k = unt.length := by
    have := List.findIdx_le_length (xs := unt) (p := fun e => decide (e < k))
    unfold freeV at h ⊢; omega
  have h2 := List.not_of_lt_findIdx (xs := unt) (p := fun e => decide (e < k)) (i := r) (by show r < freeV unt k; omega)
  unfold gN; rw [List.getD_eq_getElem?_getD, List.getElem?_eq_getElem hr]
  show k ≤ unt[r]
  have h2 : ¬ (decide (unt[r] < k) = true) := by simpa using h2
  rw [decide_eq_true_eq] at h2; omega
theorem gN_app {l : List Int} {x : Int} {j : Nat} : gN (l ++ [x]) j = if j < l.length then gN l j else if j = l.length then x else 0 := by
  unfold gN
  rw [List.getD_eq_getElem?_getD, List.getD_eq_getElem?_getD]
  split
  · next h => rw [List.getElem?_append_left h]
  · next h =>
    rw [List.getElem?_append_right (by omega)]
    split
    · next h2 => rw [h2, Nat.sub_self]; rfl
    · next h2 =>
      rw [List.getElem?_eq_none (by simp; omega)]; rfl
theorem AltK.step {t : TrG} {la : List Int} {k : Nat} (hk : k < t.ins.length) (kOwn : (k : Int) ≤ gN la k) {q : Alt} (h : AltK t la k q) : AltK t la (k + 1) (altS t la q k) := by
  unfold altS
  by_cases hg : givesV (atL t.ins k).a = true
  · rw [if_pos hg]
    by_cases hf : freeV q.unt k < q.unt.length
    · rw [if_pos hf]
      have hfl := free_lt hf
      have ha : ∀ j : Nat, gN (q.at_.set k (freeV q.unt k : Int)) j = if j = k then (freeV q.unt k : Int) else gN q.at_ j := fun j => by
        rw [gN_set]
        by_cases hj : k = j
        · rw [if_pos ⟨hj, by rw [h.len]; exact hk⟩, if_pos hj.symm]
        · rw [if_neg (by omega), if_neg (by omega)]
      have hu : ∀ r : Nat, gN (q.unt.set (freeV q.unt k) (gN la k)) r = if r = freeV q.unt k then gN la k else gN q.unt r := fun r => by
        rw [gN_set]
        by_cases hj : freeV q.unt k = r
        · rw [if_pos ⟨hj, hf⟩, if_pos hj.symm]
        · rw [if_neg (by omega), if_neg (by omega)]
      refine ⟨by dsimp only; rw [List.length_set]; exact h.len, fun j => ?_, fun j hj hjg => ?_, fun j hj => ?_, fun r hr => ?_, fun i j hij hj hi hjg he => ?_⟩
      · dsimp only; rw [ha]; split
        · omega
        · exact h.lo j
      · dsimp only
        rw [ha, List.length_set]
        by_cases hjk : j = k
        · rw [if_pos hjk, Int.toNat_natCast, hu, if_pos rfl, hjk]; omega
        · rw [if_neg hjk, hu]
          obtain ⟨a, b⟩ := h.inr j (by omega) hjg
          refine ⟨a, ?_⟩
          split
          · next hh =>
            -- the register's last life ends ahead of k: but then j's too
            rw [hh] at b
            have : gN la j < k := by omega
            omega
          · exact b
      · dsimp only; rw [ha]
        by_cases hjk : j = k
        · have := hj (by omega); rw [hjk, hg] at this; cases this
        · rw [if_neg hjk]; exact h.zero j (fun hlt => hj (by omega))
      · dsimp only at hr ⊢
        rw [List.length_set] at hr
        by_cases hrf : r = freeV q.unt k
        · exact ⟨k, by omega, hg, by rw [ha, if_pos rfl, hrf], by rw [hu, if_pos hrf]⟩
        · obtain ⟨j, j1, j2, j3, j4⟩ := h.lst r hr
          exact ⟨j, by omega, j2, by rw [ha, if_neg (by omega)]; exact j3, by rw [hu, if_neg hrf]; exact j4⟩
      · dsimp only at he
        rw [ha, ha, if_neg (by omega)] at he
        by_cases hjk : j = k
        · rw [if_pos hjk] at he
          obtain ⟨a, b⟩ := h.inr i (by omega) hi
          rw [he, Int.toNat_natCast] at b
          omega
        · rw [if_neg hjk] at he
          exact h.dis i j hij (by omega) hi hjg he
    · rw [if_neg hf]
      have ha : ∀ j : Nat, gN (q.at_.set k (q.unt.length : Int)) j = if j = k then (q.unt.length : Int) else gN q.at_ j := fun j => by
        rw [gN_set]
        by_cases hj : k = j
        · rw [if_pos ⟨hj, by rw [h.len]; exact hk⟩, if_pos hj.symm]
        · rw [if_neg (by omega), if_neg (by omega)]
      have hlu : (q.unt ++ [gN la k]).length = q.unt.length + 1 := by simp
      refine ⟨by dsimp only; rw [List.length_set]; exact h.len, fun j => ?_, fun j hj hjg => ?_, fun j hj => ?_, fun r hr => ?_, fun i j hij hj hi hjg he => ?_⟩
      · dsimp only; rw [ha]; split
        · omega
        · exact h.lo j
      · dsimp only
        rw [ha, hlu]
        by_cases hjk : j = k
        · rw [if_pos hjk, Int.toNat_natCast, gN_app, if_neg (by omega), if_pos rfl, hjk]; omega
        · rw [if_neg hjk]
          obtain ⟨a, b⟩ := h.inr j (by omega) hjg
          have := h.lo j
          rw [gN_app, if_pos (by omega)]
          exact ⟨by omega, b⟩
      · dsimp only; rw [ha]
        by_cases hjk : j = k
        · have := hj (by omega); rw [hjk, hg] at this; cases this
        · rw [if_neg hjk]; exact h.zero j (fun hlt => hj (by omega))
      · dsimp only at hr ⊢
        rw [hlu] at hr
        by_cases hrf : r = q.unt.length
        · exact ⟨k, by omega, hg, by rw [ha, if_pos rfl, hrf], by rw [gN_app, if_neg (by omega), if_pos hrf]⟩
        · obtain ⟨j, j1, j2, j3, j4⟩ := h.lst r (by omega)
          exact ⟨j, by omega, j2, by rw [ha, if_neg (by omega)]; exact j3, by rw [gN_app, if_pos (by omega)]; exact j4⟩
      · dsimp only at he
        rw [ha, ha, if_neg (by omega)] at he
        by_cases hjk : j = k
        · rw [if_pos hjk] at he
          obtain ⟨a, b⟩ := h.inr i (by omega) hi
          omega
        · rw [if_neg hjk] at he
          exact h.dis i j hij (by omega) hi hjg he
  · rw [if_neg hg]
    refine ⟨h.len, h.lo, fun j hj hjg => ?_, fun j hj => ?_, fun r hr => ?_, fun i j hij hj hi hjg he => ?_⟩
    · refine h.inr j ?_ hjg
      rcases Nat.lt_succ_iff_lt_or_eq.1 hj with h' | h'
      · exact h'
      · subst h'; exact absurd hjg hg
    · exact h.zero j (fun hlt => hj (by omega))
    · obtain ⟨j, j1, j2, j3, j4⟩ := h.lst r hr
      exact ⟨j, by omega, j2, j3, j4⟩
    · refine h.dis i j hij ?_ hi hjg he
      rcases Nat.lt_succ_iff_lt_or_eq.1 hj with h' | h'
      · exact h'
      · subst h'; exact absurd hjg hg
theorem altL_ok {t : TrG} {la : List Int} (own : ∀ j : Nat, j < t.ins.length → (j : Int) ≤ gN la j) : ∀ k, k ≤ t.ins.length → AltK t la k (altL t la k)
  | 0, _ => by
    have z : ∀ j : Nat, gN (List.replicate t.ins.length 0) j = 0 := fun j => by
      unfold gN; rw [List.getD_eq_getElem?_getD, List.getElem?_replicate]; split <;> rfl
    refine ⟨by simp [altL], fun j => ?_, fun j h => by omega, fun j _ => ?_, fun r hr => by simp [altL] at hr, fun i j _ h => by omega⟩
    · show 0 ≤ gN (List.replicate t.ins.length 0) j; rw [z]; omega
    · exact z j
  | k + 1, hk => (altL_ok own k (by omega)).step (by omega) (own k (by omega))
/-- Where each value is; how many registers there are. -/
def atsV (t : TrG) : List Int := (altL t (livesV t) t.ins.length).at_
def regsV (t : TrG) : Nat := (altL t (livesV t) t.ins.length).unt.length
theorem alt_ok {t : TrG} (hr : RightV t) : AltK t (livesV t) t.ins.length (altL t (livesV t) t.ins.length) := altL_ok (lives_ok hr).own _ (Nat.le_refl _)
/-! ### How many registers there are -/
/-- Different numbers below a bound are at most so many. -/
theorem few_of : ∀ (n : Nat) (l : List Nat), l.Nodup → (∀ x ∈ l, x < n) → l.length ≤ n
  | 0, l, _, h => by
    cases l with
    | nil => exact Nat.le_refl _
    | cons x r => have := h x (by simp); omega
  | n + 1, l, hn, h => by
    have h1 : (l.erase n).Nodup := hn.erase n
    have h2 := few_of n (l.erase n) h1 (fun x hx => by
      have hx' := (List.Nodup.mem_erase_iff hn).1 hx
      have := h x hx'.2
      omega)
    have h3 : l.length ≤ (l.erase n).length + 1 := by
      by_cases hm : n ∈ l
      · rw [List.length_erase_of_mem hm]; omega
      · rw [List.erase_of_not_mem hm]; omega
    omega
/-- A list of different numbers, each of which is in another list, is no longer. -/
theorem sub_len : ∀ (l m : List Nat), l.Nodup → (∀ x ∈ l, x ∈ m) → l.length ≤ m.length
  | [], m, _, _ => Nat.zero_le _
  | x :: r, m, hn, h => by
    have hx := h x (by simp)
    obtain ⟨h1, h2⟩ := List.nodup_cons.1 hn
    have := sub_len r (m.erase x) h2 (fun y hy => (List.mem_erase_of_ne (fun e => by subst e; exact h1 hy)).2 (h y (List.mem_cons_of_mem _ hy)))
    rw [List.length_erase_of_mem hx] at this
    have hp : 0 < m.length := List.length_pos_of_mem hx
    rw [List.length_cons]; omega
theorem map_nodup {l : List Nat} {f : Nat → Nat} (hn : l.Nodup) (h : ∀ x ∈ l, ∀ y ∈ l, f x = f y → x = y) : (l.map f).Nodup := by
  induction l with
  | nil => exact List.nodup_nil
  | cons x r ih =>
    obtain ⟨h1, h2⟩ := List.nodup_cons.1 hn
    rw [List.map_cons, List.nodup_cons]
    refine ⟨fun hm => ?_, ih h2 (fun a ha b hb => h a (List.mem_cons_of_mem _ ha) b (List.mem_cons_of_mem _ hb))⟩
    obtain ⟨y, hy, e⟩ := List.mem_map.1 hm
    have := h y (List.mem_cons_of_mem _ hy) x (by simp) e
    subst this; exact h1 hy
theorem count_le {t : TrG} {la : List Int} {q : Alt} (h : AltK t la t.ins.length q) (k : Nat) : countV t la k ≤ q.unt.length := by
  unfold countV
  have hn : ((List.range (min t.ins.length (k + 1))).filter (alive1 t la k)).Nodup := List.Pairwise.filter _ List.nodup_range
  have mem : ∀ j ∈ (List.range (min t.ins.length (k + 1))).filter (alive1 t la k), (j < t.ins.length ∧ j ≤ k) ∧ givesV (atL t.ins j).a = true ∧ (k : Int) ≤ gN la j := fun j hj => by
    obtain ⟨h1, h2⟩ := List.mem_filter.1 hj
    have h1 := List.mem_range.1 h1
    unfold alive1 at h2
    rw [Bool.and_eq_true, decide_eq_true_eq] at h2
    exact ⟨by omega, h2⟩
  have := few_of q.unt.length (((List.range (min t.ins.length (k + 1))).filter (alive1 t la k)).map fun j => (gN q.at_ j).toNat) (map_nodup hn fun x hx y hy e => by
    obtain ⟨x1, x2, x3⟩ := mem x hx
    obtain ⟨y1, y2, y3⟩ := mem y hy
    have hx0 := h.lo x
    have hy0 := h.lo y
    have e : gN q.at_ x = gN q.at_ y := by omega
    rcases Nat.lt_trichotomy x y with hlt | hlt | hlt
    · have := h.dis x y hlt y1.1 x2 y2 e; omega
    · exact hlt
    · have := h.dis y x hlt x1.1 y2 x2 e.symm; omega) (fun r hr => by
    obtain ⟨j, hj, rfl⟩ := List.mem_map.1 hr
    obtain ⟨j1, j2, j3⟩ := mem j hj
    obtain ⟨a, _⟩ := h.inr j j1.1 j2
    have := h.lo j
    omega)
  rw [List.length_map] at this; exact this
theorem altS_len (t : TrG) (la : List Int) (q : Alt) (k : Nat) : (altS t la q k).unt.length = q.unt.length ∨ ((altS t la q k).unt.length = q.unt.length + 1 ∧ givesV (atL t.ins k).a = true ∧ ¬ freeV q.unt k < q.unt.length) := by
  unfold altS
  split
  · next hg =>
    split
    · left; simp
    · next hf => right; exact ⟨by simp, hg, hf⟩
  · left; rfl
/-- As many registers as values are alive at once somewhere. -/
theorem count_ge {t : TrG} {la : List Int} (own : ∀ j : Nat, j < t.ins.length → (j : Int) ≤ gN la j) : ∀ k, k ≤ t.ins.length → (altL t la k).unt.length = 0 ∨ ∃ m, m < k ∧ (altL t la k).unt.length ≤ countV t la m
  | 0, _ => Or.inl rfl
  | k + 1, hk => by
    have ih := count_ge own k (by omega)
    have hA := altL_ok own k (by omega)
    rcases altS_len t la (altL t la k) k with h | ⟨h, hg, hf⟩
    · have e : (altL t la (k + 1)).unt.length = (altL t la k).unt.length := h
      rw [e]
      rcases ih with ih | ⟨m, hm, ih⟩
      · exact Or.inl ih
      · exact Or.inr ⟨m, by omega, ih⟩
    · have e : (altL t la (k + 1)).unt.length = (altL t la k).unt.length + 1 := h
      refine Or.inr ⟨k, by omega, ?_⟩
      rw [e]
      -- each register holds a value that is alive at k
      have pick : ∀ r : Nat, ∃ j : Nat, r < (altL t la k).unt.length → j < k ∧ givesV (atL t.ins j).a = true ∧ gN (altL t la k).at_ j = r ∧ (k : Int) ≤ gN la j := fun r => by
        by_cases hr : r < (altL t la k).unt.length
        · obtain ⟨j, j1, j2, j3, j4⟩ := hA.lst r hr
          exact ⟨j, fun _ => ⟨j1, j2, j3, by rw [j4]; exact free_ge hf hr⟩⟩
        · exact ⟨0, fun h => absurd h hr⟩
      let f : Nat → Nat := fun r => (pick r).choose
      have hf' : ∀ r, r < (altL t la k).unt.length → f r < k ∧ givesV (atL t.ins (f r)).a = true ∧ gN (altL t la k).at_ (f r) = r ∧ (k : Int) ≤ gN la (f r) := fun r hr => (pick r).choose_spec hr
      have hs := sub_len (k :: (List.range (altL t la k).unt.length).map f) ((List.range (min t.ins.length (k + 1))).filter (alive1 t la k)) (by
        rw [List.nodup_cons]
        refine ⟨fun hm => ?_, map_nodup List.nodup_range fun x hx y hy e => ?_⟩
        · obtain ⟨r, hr, e⟩ := List.mem_map.1 hm
          have := (hf' r (List.mem_range.1 hr)).1
          omega
        · have h1 := (hf' x (List.mem_range.1 hx)).2.2.1
          have h2 := (hf' y (List.mem_range.1 hy)).2.2.1
          rw [e, h2] at h1; omega) (fun x hx => by
        rcases List.mem_cons.1 hx with rfl | hx
        · refine List.mem_filter.2 ⟨List.mem_range.2 (by omega), ?_⟩
          unfold alive1; rw [hg, decide_eq_true (own x (by omega))]; rfl
        · obtain ⟨r, hr, rfl⟩ := List.mem_map.1 hx
          obtain ⟨h1, h2, _, h4⟩ := hf' r (List.mem_range.1 hr)
          refine List.mem_filter.2 ⟨List.mem_range.2 (by omega), ?_⟩
          unfold alive1; rw [h2, decide_eq_true h4]; rfl)
      rw [List.length_cons, List.length_map, List.length_range] at hs
      exact hs
/-! ### What a trace does in these registers -/
/-- The values that are alive are where they are to be. -/
def SimA (t : TrG) (la ats : List Int) (k : Nat) (e e' : En) : Prop := ∀ p : Nat, p < k → givesV (atL t.ins p).a = true → (k : Int) ≤ gN la p + 1 → valV ats p e' = valV (idA t.ins.length) p e
theorem SimA.some {t : TrG} {la : List Int} {q : Alt} (hA : AltK t la t.ins.length q) {k : Nat} (hk : k < t.ins.length) {N : Nat} (hN : q.unt.length ≤ N) {e e' : En} (h : SimA t la q.at_ k e e') (hr : e.regs.length = t.ins.length) (hr' : e'.regs.length = N) (hg : givesV (atL t.ins k).a = true) (v : Int) (s s' : StV) :
    SimA t la q.at_ (k + 1) (setV (idA t.ins.length) k v { e with s := s }) (setV q.at_ k v { e' with s := s' }) := by
  intro p hp hpg hpl
  obtain ⟨a, _⟩ := hA.inr k hk hg
  have k0 := hA.lo k
  by_cases hpk : p = k
  · subst hpk
    rw [val_same (e := { e with s := s }) (by omega) (by omega) hr]
    show getI (List.set e'.regs (gN q.at_ p).toNat v) (gN q.at_ p) = v
    rw [getI_gN, gN_set, if_pos ⟨rfl, by omega⟩]
  · rw [val_ne (by omega) (by omega) (by omega) (by omega) (by omega)]
    have := h p (by omega) hpg (by omega)
    have e0 : valV (idA t.ins.length) (p : Int) { e with s := s } = valV (idA t.ins.length) (p : Int) e := rfl
    rw [e0, ← this]
    obtain ⟨b, _⟩ := hA.inr p (by omega) hpg
    have p0 := hA.lo p
    have hne : gN q.at_ p ≠ gN q.at_ k := fun e => by
      have := hA.dis p k (by omega) hk hpg hg e
      omega
    show getI (List.set e'.regs (gN q.at_ k).toNat v) (gN q.at_ p) = getI e'.regs (gN q.at_ p)
    rw [getI_gN, getI_gN, gN_set, if_neg (by omega)]
theorem SimA.none {t : TrG} {la ats : List Int} {k : Nat} {e e' : En} (h : SimA t la ats k e e') (hg : givesV (atL t.ins k).a = false) (s s' : StV) : SimA t la ats (k + 1) { e with s := s } { e' with s := s' } := by
  intro p hp hpg hpl
  have hpk : p ≠ k := fun e => by subst e; rw [hg] at hpg; cases hpg
  exact h p (by omega) hpg (by omega)
theorem SimA.vals {t : TrG} {la ats : List Int} {k : Nat} {e e' : En} (h : SimA t la ats k e e') {ps : List Int} (hp : ∀ p ∈ ps, (0 ≤ p ∧ p < k ∧ givesV (atL t.ins p).a = true) ∧ (k : Int) ≤ gN la p.toNat + 1) : valsV ats ps e' = valsV (idA t.ins.length) ps e := by
  unfold valsV
  apply List.map_congr_left
  intro p hp'
  obtain ⟨⟨a, b, c⟩, d⟩ := hp p hp'
  have e1 : ((p.toNat : Nat) : Int) = p := by omega
  have := h p.toNat (by omega) (by rw [e1]; exact c) d
  rw [e1] at this; exact this
theorem SimA.leave {t : TrG} {la ats : List Int} {k : Nat} {e e' : En} (h : SimA t la ats k e e') {x : Int} (hx : OutV t x k) (hl : ∀ p ∈ (outAt t x).stack ++ (outAt t x).back, (k : Int) ≤ gN la p.toNat + 1) (hs : e'.s = e.s) : leaveV t ats x e' = leaveV t (idA t.ins.length) x e := by
  obtain ⟨_, _, x2, x3⟩ := hx
  unfold leaveV
  rw [hs, h.vals (fun p hp => ⟨x2 p hp, hl p (List.mem_append_left _ hp)⟩), h.vals (fun p hp => ⟨x3 p hp, hl p (List.mem_append_right _ hp)⟩)]
/-- The steps of both, from some place on: the same exit, the same machine there. -/
theorem slot_sim {t : TrG} (hr : RightV t) {la : List Int} (hL : LvOk t la) {q : Alt} (hA : AltK t la t.ins.length q) {N : Nat} (hN : q.unt.length ≤ N) (wl : List Int) : ∀ (r : List In5) (k : Nat) (e e' : En), t.ins.drop k = r → k ≤ t.ins.length →
    SimA t la q.at_ k e e' → e'.s = e.s → e'.hit = e.hit → e.regs.length = t.ins.length → e'.regs.length = N →
    ∀ g g' : Int × En, g = goV (idA t.ins.length) wl t.last r k e → g' = goV q.at_ wl t.last r k e' →
      g'.1 = g.1 ∧ leaveV t q.at_ g.1 g'.2 = leaveV t (idA t.ins.length) g.1 g.2 ∧ g'.2.hit = g.2.hit
  | [], k, e, e', hd, hk, hv, hs, hh, hg, hg', g, g', hgg, hgg' => by
    subst hgg hgg'
    have hkl : k = t.ins.length := by
      have h1 : t.ins.length ≤ k := List.drop_eq_nil_iff.1 hd
      omega
    refine ⟨rfl, ?_, hh⟩
    exact hv.leave (hkl ▸ hr.last) (fun p hp => by have := hL.ends p hp; omega) hs
  | i :: r, k, e, e', hd, hk, hv, hs, hh, hg, hg', g, g', hgg, hgg' => by
    have hi : t.ins[k]? = some i := by rw [← List.head?_drop, hd]; rfl
    have hd' : t.ins.drop (k + 1) = r := by rw [← List.drop_drop, hd]; rfl
    have hk' : k < t.ins.length := (List.getElem?_eq_some_iff.1 hi).1
    have hat : atL t.ins k = i := atL_get hi
    have he := hr.each k i hi
    have hnm := hL.uses k hk'
    rw [hat] at hnm
    have use : ∀ p ∈ usesV i, valV q.at_ p e' = valV (idA t.ins.length) p e := fun p hp => by
      obtain ⟨a, b, c⟩ := he.2.2.2.2.1 p hp
      have e1 : ((p.toNat : Nat) : Int) = p := by omega
      have := hv p.toNat (by omega) (by rw [e1]; exact c) (by have := hnm p (List.mem_append_left _ hp); omega)
      rw [e1] at this; exact this
    have hu : ocV i.a i.b (valV q.at_ i.c e') (valV q.at_ i.d e') e'.s wl = ocV i.a i.b (valV (idA t.ins.length) i.c e) (valV (idA t.ins.length) i.d e) e.s wl := by
      rw [hs]
      apply ocV_uses he.2.1
      · exact fun hc => use _ hc
      · intro h2
        rcases usesV_cases i with ⟨g1, g2⟩ | ⟨g1, g2⟩ | ⟨g1, g2⟩
        · omega
        · omega
        · exact use _ (by rw [g2]; simp)
    have hgv := ocV_gives (op := i.a) i.b (valV (idA t.ins.length) i.c e) (valV (idA t.ins.length) i.d e) e.s wl he.1
    have outL : ∀ x ∈ outsV i, ∀ p ∈ (outAt t x).stack ++ (outAt t x).back, (k : Int) ≤ gN la p.toNat + 1 := fun x hx p hp => by
      have := hnm p (List.mem_append_right _ (List.mem_flatMap.2 ⟨x, hx, hp⟩)); omega
    cases hoc : ocV i.a i.b (valV (idA t.ins.length) i.c e) (valV (idA t.ins.length) i.d e) e.s wl with
    | go s ov =>
      rw [hoc] at hgv hu
      cases ov with
      | none =>
        have hgv : givesV i.a = false := hgv
        rw [goV_go hoc] at hgg
        rw [goV_go hu] at hgg'
        exact slot_sim hr hL hA hN wl r (k + 1) { e with s := s } { e' with s := s } hd' (by omega) (hv.none (by rw [hat]; exact hgv) s s) rfl hh hg hg' g g' hgg hgg'
      | some v =>
        have hgv : givesV i.a = true := hgv
        rw [goV_val hoc] at hgg
        rw [goV_val hu] at hgg'
        exact slot_sim hr hL hA hN wl r (k + 1) (setV (idA t.ins.length) k v { e with s := s }) (setV q.at_ k v { e' with s := s }) hd' (by omega) (hv.some hA hk' hN hg hg' (by rw [hat]; exact hgv) v s s) rfl hh (by rw [set_len]; exact hg) (by rw [set_len]; exact hg') g g' hgg hgg'
    | ex =>
      rw [hoc] at hu
      have hm := ocV_ex he.2.1 hoc
      have hx := he.2.2.2.2.2 _ hm
      rw [goV_ex hoc hx.1] at hgg
      rw [goV_ex hu hx.1] at hgg'
      subst hgg hgg'
      exact ⟨rfl, hv.leave hx (outL _ hm) hs, hh⟩
    | hit s a =>
      rw [hoc] at hu
      have hm := (ocV_hit hoc).2
      have hx := he.2.2.2.2.2 _ hm
      rw [goV_hit hoc hx.1] at hgg
      rw [goV_hit hu hx.1] at hgg'
      subst hgg hgg'
      have hv' : SimA t la q.at_ k { e with s := s, hit := a } { e' with s := s, hit := a } := fun p x y z => hv p x y z
      exact ⟨rfl, hv'.leave hx (outL _ hm) rfl, rfl⟩
theorem slot_runs {t : TrG} (hr : RightV t) {N : Nat} (hN : regsV t ≤ N) (s : StV) (wl : List Int) : (runA t (atsV t) N s wl).1 = (runG t s wl).1 ∧ leaveV t (atsV t) (runG t s wl).1 (runA t (atsV t) N s wl).2 = endV t (runG t s wl) ∧ (runA t (atsV t) N s wl).2.hit = (runG t s wl).2.hit :=
  slot_sim hr (lives_ok hr) (alt_ok hr) hN wl t.ins 0 (en0 t.ins.length s) (en0 N s) rfl (Nat.zero_le _) (fun p hp => by omega) rfl rfl (by simp [en0]) (by simp [en0]) _ _ rfl rfl
end Go.Proofs.Ytblmoilneiffgaa

/- Package slots: up to where values are alive; their registers. -/
set_option maxRecDepth 100000
namespace Go.Proofs.Ytblmoilneiffgaa
open Go.RowKit

theorem setAll_le {la : List Int} {v : Int} (h : ∀ j : Nat, j < la.length → gN la j ≤ v) (l : List Int) : ∀ j : Nat, j < la.length → gN (setAll la l v) j ≤ v := fun j hj => by
  rcases gN_all l la v j with ⟨h1, _⟩ | ⟨h1, _⟩
  · rw [h1]; exact h j hj
  · omega
theorem lname_any {w : World} {c3 : Nat} {s l : Sl} {la xs : List Int} {v : Int} (ho : Ob w c3 [s.val] T_sl_int) (hla : Ow intE w s la) (hne : s.blk ≠ some c3) (hl : Rd intE w l xs) (hlb : ∀ k, l.blk = some k → s.blk ≠ some k) (hp : ∀ x ∈ xs, 0 ≤ x ∧ x < la.length) (hle : ∀ j : Nat, j < la.length → gN la j ≤ v) (hn : xs.length ≤ 1000000) :
    Calls Try.prog fn_slots_lives_1 #[.int .i64 v, l.val, .pointer (some ⟨c3, 0, none⟩)] w fun e w' => e = .returned (.tuple #[]) ∧ Ow intE w' s (setAll la xs v) ∧ Chg (fun k => s.blk = some k) w w' := by
  refine (slots_lives_1_lift (K := fun r w' => r = .tuple #[] ∧ Ow intE w' s (setAll la xs v) ∧ Chg (fun k => s.blk = some k) w w') ?_).mono (by rintro e w' ⟨r, rfl, rfl, h⟩; exact ⟨rfl, h⟩)
  unfold slots_lives_1_sh
  have hll := hl.len
  refine ⟨fun m w' => ∃ k : Nat, m = k ∧ k ≤ xs.length ∧ Ow intE w' s (setAll la (xs.take k) v) ∧ Chg (fun k => s.blk = some k) w w', fun m _ => xs.length - m.toNat, ⟨0, rfl, Nat.zero_le _, hla, Chg.refl _ _⟩, ?_⟩
  rintro m w4 ⟨k, rfl, hk, h4, c4⟩
  refine brB_of (fun hlt => ?_) (fun hlt => ?_)
  · have hlt : k < xs.length := by simp at hlt; omega
    obtain ⟨x, hx⟩ : ∃ x, xs[k]? = some x := ⟨_, List.getElem?_eq_getElem hlt⟩
    obtain ⟨x0, x1⟩ := hp x (List.mem_of_getElem? hx)
    refine (hl.chg c4 hlb).ix (i := (k : Int)) (by omega) (by rw [Int.toNat_natCast]; exact hx) fun a _ hcell => ?_
    have q := hcell 0 _ rfl
    rw [add0] at q
    refine ⟨x, q, ?_⟩
    intro w8 hw8
    have c8 := dw hw8
    have h8 := h4.no c8
    have o8 := (ho.chg c4 hne).no c8
    have hlen : (setAll la (xs.take k) v).length = la.length := setAll_len _ _ _
    refine ⟨s, held_Lw (o8.cell rfl), s, held_Lw (o8.cell rfl), ?_⟩
    obtain ⟨y, hy⟩ : ∃ y, (setAll la (xs.take k) v)[x.toNat]? = some y := ⟨_, List.getElem?_eq_getElem (by omega)⟩
    refine h8.rd.ix x0 hy fun a' ha' hcell' => ?_
    have q' := hcell' 0 _ rfl
    rw [add0] at q'
    refine ⟨y, held_Lw q', a', ha', x0, by rw [h8.rd.len]; omega, ?_⟩
    obtain ⟨f1, f2⟩ := h8.set1 ha' (k := x.toNat) (j := 0) (x' := v) (u := .int .i64 v) hy (by decide) rfl
    rw [add0] at f1 f2
    have hyv : y ≤ v := by
      have := setAll_le hle (xs.take k) x.toNat (by omega)
      unfold gN at this
      rw [List.getD_eq_getElem?_getD, hy] at this; exact this
    have hmax : imax y v = v := by unfold imax; split <;> omega
    rw [hmax]
    refine ⟨f1, fun w14 hw14 => ?_⟩
    have c14 : Chg (fun k => s.blk = some k) w8 w14 := by rw [hw14]; exact Chg.st (S := fun k => s.blk = some k) (by rw [add_block]; exact blk_ptr ha')
    rw [wr_in (by omega)]
    have hst : setAll la (xs.take (k + 1)) v = (setAll la (xs.take k) v).set x.toNat v := by
      rw [List.take_add_one, hx]; exact setAll_app _ _ _ _
    refine ⟨⟨k + 1, by omega, by omega, ?_, (c4.trans c8 (fun _ _ h => h) (fun _ _ h => h.elim)).trans c14 (fun _ _ h => h) (fun _ _ h => h)⟩, by show xs.length - Int.toNat ((k : Int) + 1) < xs.length - Int.toNat (k : Int); omega⟩
    rw [hst, hw14]; exact f2
  · have hlt : k = xs.length := by simp at hlt; omega
    subst hlt
    rw [List.take_length] at h4
    exact ⟨rfl, h4, c4⟩
/-- The function that marks places. -/
def markF (b : Nat) : Value := .func (.func fn_slots_lives_1) #[] #[.pointer (some ⟨b, 0, none⟩)]
theorem lexit_any {D : Nat → Prop} {w : World} {b15 b18 b10 : Nat} {s : Sl} {la : List Int} {v : Int} {t : TrP} {vt : TrG} (ho15 : Ob w b15 [s.val] T_sl_int) (ho18 : Ob w b18 [markF b15] T_func_int_sl_int) (ho10 : Ob w b10 (trP t) T_api_Trace) (hla : Ow intE w s la)
    (hb : ∀ k, s.blk = some k → k ≠ b15 ∧ k ≠ b18 ∧ k ≠ b10 ∧ ¬ D k) (ht : TrIs D w t vt) (hr : RightV vt) {x : Int} {k : Nat} (hk : k ≤ vt.ins.length) (hx : OutV vt x k) (hlen : la.length = vt.ins.length) (hle : ∀ j : Nat, j < la.length → gN la j ≤ v) :
    Calls Try.prog fn_slots_lives_2 #[.int .i64 v, .int .i64 x, .pointer (some ⟨b18, 0, none⟩), .pointer (some ⟨b10, 0, none⟩)] w fun e w' => e = .returned (.tuple #[]) ∧ Ow intE w' s (setAll la ((outAt vt x).stack ++ (outAt vt x).back) v) ∧ Chg (fun k => s.blk = some k) w w' := by
  refine (slots_lives_2_lift (K := fun r w' => r = .tuple #[] ∧ Ow intE w' s (setAll la ((outAt vt x).stack ++ (outAt vt x).back) v) ∧ Chg (fun k => s.blk = some k) w w') ?_).mono (by rintro e w' ⟨r, rfl, rfl, h⟩; exact ⟨rfl, h⟩)
  unfold slots_lives_2_sh
  obtain ⟨x0, x1, x2, x3⟩ := hx
  obtain ⟨os, hos, hov⟩ := ht.outs
  obtain ⟨o, ho⟩ : ∃ o, os[x.toNat]? = some o := ⟨_, List.getElem?_eq_getElem (by rw [hov.1]; omega)⟩
  obtain ⟨_, _, u3, u4, u5, u6⟩ := hov.2 _ _ _ ho (outAt_ge x0 x1)
  obtain ⟨_, _, e3, e4⟩ := hr.exits _ _ (outAt_ge x0 x1)
  obtain ⟨_, _, _, q3, q4, q5, q6⟩ := hr.head
  intro w5 hw5
  have c5 := dw hw5
  have p18 := ho18.no c5
  have p10 := ho10.no c5
  refine ⟨markF b15, held_Lw (p18.cell rfl), t.outs, held_Lw (p10.cell rfl), ?_⟩
  refine (hos.no c5).ix x0 ho fun a _ hc => ?_
  refine ⟨o.stack, held_Lw (hc 2 _ rfl), fn_slots_lives_1, #[], #[.pointer (some ⟨b15, 0, none⟩)], rfl, fun args w => orc.sok _ _ rfl args w, ?_⟩
  refine (lname_any (ho15.no c5) (hla.no c5) (fun he => (hb _ he).1 rfl) (u3.no c5) (fun k hk he => (hb k he).2.2.2 (u5 k hk)) (fun y hy => by have := x2 y hy; omega) hle (by omega)).mono ?_
  rintro e w14 ⟨rfl, h14, c14⟩
  refine ⟨rfl, ?_⟩
  intro w15 hw15
  have c15 := dw hw15
  have c515 : Chg (fun k => s.blk = some k) w5 w15 := c14.trans c15 (fun _ _ h => h) (fun _ _ h => h.elim)
  have k15 : Chg (fun k => s.blk = some k) w w15 := c5.trans c515 (fun _ _ h => h.elim) (fun _ _ h => h)
  have r18 := p18.chg c515 (fun he => (hb _ he).2.1 rfl)
  have r10 := p10.chg c515 (fun he => (hb _ he).2.2.1 rfl)
  have nD : ∀ k, D k → ¬ s.blk = some k := fun k hk he => (hb k he).2.2.2 hk
  refine ⟨markF b15, held_Lw (r18.cell rfl), t.outs, held_Lw (r10.cell rfl), ?_⟩
  refine (hos.chg k15 (fun k hk => nD k (ht.outsD k hk))).ix x0 ho fun a2 _ hc2 => ?_
  refine ⟨o.back, held_Lw (hc2 3 _ rfl), fn_slots_lives_1, #[], #[.pointer (some ⟨b15, 0, none⟩)], rfl, fun args w => orc.sok _ _ rfl args w, ?_⟩
  have hlen14 : (setAll la (outAt vt x).stack v).length = la.length := setAll_len _ _ _
  refine (lname_any (ho15.chg k15 (fun he => (hb _ he).1 rfl)) (h14.no c15) (fun he => (hb _ he).1 rfl) (u4.chg k15 (fun k hk => nD k (u6 k hk))) (fun k hk he => (hb k he).2.2.2 (u6 k hk)) (fun y hy => by have := x3 y hy; omega) (by rw [hlen14]; exact setAll_le hle _) (by omega)).mono ?_
  rintro e w24 ⟨rfl, h24, c24⟩
  exact ⟨rfl, rfl, by rw [setAll_app]; exact h24, k15.trans c24 (fun _ _ h => h) (fun _ _ h => h)⟩
theorem liveL_succ (v : TrG) (k : Nat) : liveL v (k + 1) = setAll (setAll ((liveL v k).set k (k : Int)) (usesV (atL v.ins k)) k) ((outsV (atL v.ins k)).flatMap fun x => (outAt v x).stack ++ (outAt v x).back) k := by
  rw [← setAll_app]; rfl
theorem lives_any {D : Nat → Prop} {w : World} (t : TrP) {v : TrG} (ht : TrIs D w t v) (hD : ∀ k, D k → k < w.heap.size) (hr : RightV v) :
    Calls Try.prog fn_slots_lives #[.agg (trP t).toArray] w fun e w' => ∃ s : Sl, e = .returned s.val ∧ Ow intE w' s (livesV v) ∧ (∀ k, s.blk = some k → w.heap.size ≤ k) ∧ Chg No w w' := by
  refine (slots_lives_lift (K := fun r w' => ∃ s : Sl, r = s.val ∧ Ow intE w' s (livesV v) ∧ (∀ k, s.blk = some k → w.heap.size ≤ k) ∧ Chg No w w') ?_).mono (by rintro e w' ⟨r, rfl, s, rfl, h⟩; exact ⟨s, rfl, h⟩)
  unfold slots_lives_sh
  intro b10 w11 hb10 hw11
  have c11 := al hw11
  have o11 : Ob w11 b10 (trP t) T_api_Trace := by rw [hw11, hb10]; exact Ob.new w (trP t) T_api_Trace
  have z11 := c11.size
  have l10 := o11.lt
  obtain ⟨q1, q2, q3⟩ := hr.head
  have hil := ht.ins.len
  refine ⟨t.ins, o11.cell rfl, ?_⟩
  rw [hil]
  obtain ⟨w14, hrun, hat, c14⟩ := make_ints (w := w11) (n := (v.ins.length : Int)) (N := v.ins.length) rfl (by omega)
  refine ⟨_, w14, hrun, ?_⟩
  obtain ⟨s, hs⟩ : ∃ s : Sl, s = ⟨some ⟨w11.heap.size, 0, none⟩, v.ins.length, v.ins.length⟩ := ⟨_, rfl⟩
  have hsb : s.blk = some w11.heap.size := by rw [hs]; rfl
  rw [← hs] at hat
  have z14 := hat.lt hsb
  intro b15 w16 hb15 hw16
  have hn15 := fun (w2 : World) => newOb (w2 := w2) (T := T_sl_int) [.slice none 0 0] [s.val] rfl hb15 hw16
  rw [← hs]
  refine ⟨(hn15 w16).1, fun w17 hw17 => ?_⟩
  obtain ⟨o17, c17⟩ := (hn15 w17).2 hw17
  have z17 := c17.size
  have l15 := o17.lt
  intro b18 w19 hb18 hw19
  have hn18 := fun (w2 : World) => newOb (w2 := w2) (T := T_func_int_sl_int) [.nilFunc] [markF b15] rfl hb18 hw19
  refine ⟨(hn18 w19).1, fun w20 hw20 => ?_⟩
  obtain ⟨o20, c20⟩ := (hn18 w20).2 hw20
  have z20 := c20.size
  have l18 := o20.lt
  have k1420 := trN c17 c20
  have k20 : Chg No w w20 := trN (trN c11 c14) k1420
  have p10 := (o11.no c14).no k1420
  have p15 := o17.no c20
  have hsne : ∀ k, s.blk = some k → k ≠ b15 ∧ k ≠ b18 ∧ k ≠ b10 ∧ ¬ D k := fun k hk => by
    have : w11.heap.size = k := Option.some.inj (hsb.symm.trans hk)
    refine ⟨by omega, by omega, by omega, fun hd => ?_⟩
    have := hD k hd; omega
  have nD : ∀ k, D k → ¬ s.blk = some k := fun k hk he => (hsne k he).2.2.2 hk
  have new : ∀ k, s.blk = some k → w.heap.size ≤ k := fun k hk => by
    have : w11.heap.size = k := Option.some.inj (hsb.symm.trans hk); omega
  refine ⟨t.ins, p10.cell rfl, ?_⟩
  refine ⟨fun m w' => ∃ k : Nat, m = k ∧ k ≤ v.ins.length ∧ Ow intE w' s (liveL v k) ∧ Chg (fun k => s.blk = some k) w20 w', fun m _ => v.ins.length - m.toNat, ⟨0, rfl, Nat.zero_le _, hat.no k1420, Chg.refl _ _⟩, ?_⟩
  rintro m w22 ⟨k, rfl, hk, h22, c22⟩
  have k22 : Chg (fun k => s.blk = some k) w w22 := k20.trans c22 (fun _ _ h => h.elim) (fun _ _ h => h)
  have hL := liveL_ok hr k hk
  refine brB_of (fun hlt => ?_) (fun hlt => ?_)
  · have hlt : k < v.ins.length := by simp at hlt; omega
    obtain ⟨i, hi⟩ : ∃ i, v.ins[k]? = some i := ⟨_, List.getElem?_eq_getElem hlt⟩
    have hat' : atL v.ins k = i := atL_get hi
    have hE := hr.each k i hi
    refine (ht.ins.chg k22 (fun k hk => nD k (ht.insD k hk))).ix (i := (k : Int)) (by omega) (by rw [Int.toNat_natCast]; exact hi) fun a24 _ hc => ?_
    have g0 := hc 0 _ rfl
    rw [add0] at g0
    refine ⟨_, _, _, _, _, g0, hc 1 _ rfl, hc 2 _ rfl, hc 3 _ rfl, hc 4 _ rfl, ?_⟩
    intro b30 w31 hb30 hw31
    have hn := fun (w2 : World) => newOb (w2 := w2) (T := T_api_Ins) (insC ⟨0, 0, 0, 0, 0⟩) (insC i) rfl hb30 hw31
    refine ⟨(hn w31).1, fun w32 hw32 => ?_⟩
    obtain ⟨o32, c32⟩ := (hn w32).2 hw32
    have z22 := c22.size
    have l32 := o32.lt
    have h32 := h22.no c32
    have hne30 : ∀ j, s.blk = some j → j ≠ b30 := fun j hj => by
      have : w11.heap.size = j := Option.some.inj (hsb.symm.trans hj); omega
    refine ⟨s, ((p15.chg c22 (fun he => (hsne _ he).1 rfl)).no c32).cell rfl, ?_⟩
    refine h32.rd.ix (i := (k : Int)) (x := gN (liveL v k) k) (by omega) (by rw [Int.toNat_natCast]; unfold gN; rw [List.getD_eq_getElem?_getD, List.getElem?_eq_getElem (by rw [liveL_len]; exact hlt)]; rfl) fun a34 ha34 _ => ?_
    obtain ⟨f1, f2⟩ := h32.set1 ha34 (k := k) (j := 0) (x := gN (liveL v k) k) (x' := (k : Int)) (u := .int .i64 (k : Int)) (by unfold gN; rw [List.getD_eq_getElem?_getD, List.getElem?_eq_getElem (by rw [liveL_len]; exact hlt)]; rfl) (by decide) rfl
    rw [add0] at f1 f2
    rw [Int.toNat_natCast]
    refine ⟨f1, fun w35 hw35 => ?_⟩
    have h35 : Ow intE w35 s ((liveL v k).set k (k : Int)) := by rw [hw35]; exact f2
    have c35 : Chg (fun k => s.blk = some k) w32 w35 := by rw [hw35]; exact Chg.st (S := fun k => s.blk = some k) (by rw [add_block]; exact blk_ptr ha34)
    have o35 := o32.chg c35 (fun he => hne30 _ he rfl)
    have k2235 : Chg (fun k => s.blk = some k) w20 w35 := (c22.trans c32 (fun _ _ h => h) (fun _ _ h => h.elim)).trans c35 (fun _ _ h => h) (fun _ _ h => h)
    intro w36 hw36
    have c36 := dw hw36
    have k36 : Chg (fun k => s.blk = some k) w20 w36 := k2235.trans c36 (fun _ _ h => h) (fun _ _ h => h.elim)
    have r18 := o20.chg k36 (fun he => (hsne _ he).2.1 rfl)
    have r30 := o35.no c36
    refine ⟨fun w' => Chg No w36 w', Chg.refl _ _, markF b15, Ob.held (fun w' c => r18.no c) rfl, _, _, _, _, _, Ob.held (fun w' c => r30.no c) rfl, Ob.held (fun w' c => r30.no c) rfl, Ob.held (fun w' c => r30.no c) rfl, Ob.held (fun w' c => r30.no c) rfl, Ob.held (fun w' c => r30.no c) rfl, (iuses_any i w36).mono ?_⟩
    rintro e w45 ⟨r, rfl, s46, rfl, g46, c45, n46⟩
    have k45 : Chg (fun k => s.blk = some k) w20 w45 := k36.trans c45 (fun _ _ h => h) (fun _ _ h => h.elim)
    have h45 := (h35.no c36).no c45
    have hlen45 : ((liveL v k).set k (k : Int)).length = v.ins.length := by rw [List.length_set, liveL_len]
    have hle45 : ∀ j : Nat, j < ((liveL v k).set k (k : Int)).length → gN ((liveL v k).set k (k : Int)) j ≤ (k : Int) := fun j hj => by
      rw [gN_set]
      have := hL.le j
      split <;> omega
    have ltS : ∀ k, s.blk = some k → k < w36.heap.size := fun k hk => ((h35.no c36)).lt hk
    refine ⟨s46, rfl, c45, fn_slots_lives_1, #[], #[.pointer (some ⟨b15, 0, none⟩)], rfl, fun args w => orc.sok _ _ rfl args w, ?_⟩
    refine (lname_any (p15.chg k45 (fun he => (hsne _ he).1 rfl)) h45 (fun he => (hsne _ he).1 rfl) g46.rd (fun j hj he => by have := n46 j hj; have := ltS j he; omega) (fun y hy => by have := hE.2.2.2.2.1 y hy; rw [hlen45]; omega) hle45 (by rcases usesV_cases i with ⟨g, _⟩ | ⟨g, _⟩ | ⟨g, _⟩ <;> omega)).mono ?_
    rintro e w51 ⟨rfl, h51, c51⟩
    have k51 : Chg (fun k => s.blk = some k) w20 w51 := k45.trans c51 (fun _ _ h => h) (fun _ _ h => h)
    have o51 := (r30.no c45).chg c51 (fun he => hne30 _ he rfl)
    refine ⟨rfl, _, _, _, _, _, o51.cell rfl, o51.cell rfl, o51.cell rfl, o51.cell rfl, o51.cell rfl, (iouts_any i w51).mono ?_⟩
    rintro e w58 ⟨r, rfl, s59, rfl, g59, c58, n59⟩
    have ltS' : ∀ k, s.blk = some k → k < w51.heap.size := fun k hk => h51.lt hk
    have hl59 := g59.rd.len
    have hol : (outsV i).length ≤ 2 := by rcases outsV_cases i with ⟨g, _⟩ | ⟨g, _⟩ | ⟨g, _⟩ <;> omega
    have hlen51 : (setAll ((liveL v k).set k (k : Int)) (usesV i) k).length = v.ins.length := by rw [setAll_len, hlen45]
    have hle51 : ∀ j : Nat, j < (setAll ((liveL v k).set k (k : Int)) (usesV i) k).length → gN (setAll ((liveL v k).set k (k : Int)) (usesV i) k) j ≤ (k : Int) := by rw [setAll_len]; exact setAll_le hle45 (usesV i)
    refine ⟨s59, rfl, fun m w' => ∃ j : Nat, m = j ∧ j ≤ (outsV i).length ∧ Ow intE w' s (setAll (setAll ((liveL v k).set k (k : Int)) (usesV i) k) (((outsV i).take j).flatMap fun x => (outAt v x).stack ++ (outAt v x).back) k) ∧ Chg (fun k => s.blk = some k) w58 w', fun m _ => (outsV i).length - m.toNat, ⟨0, rfl, Nat.zero_le _, h51.no c58, Chg.refl _ _⟩, ?_⟩
    rintro m w60 ⟨j, rfl, hj, h60, c60⟩
    have k60 : Chg (fun k => s.blk = some k) w20 w60 := (k51.trans c58 (fun _ _ h => h) (fun _ _ h => h.elim)).trans c60 (fun _ _ h => h) (fun _ _ h => h)
    have kw60 : Chg (fun k => s.blk = some k) w w60 := k20.trans k60 (fun _ _ h => h.elim) (fun _ _ h => h)
    refine brB_of (fun hjl => ?_) (fun hjl => ?_)
    · have hjl : j < (outsV i).length := by simp at hjl; omega
      obtain ⟨x, hx⟩ : ∃ x, (outsV i)[j]? = some x := ⟨_, List.getElem?_eq_getElem hjl⟩
      have hO := hE.2.2.2.2.2 x (List.mem_of_getElem? hx)
      refine (g59.rd.chg c60 (fun q hq he => by have := n59 q hq; have := ltS' q he; omega)).ix (i := (j : Int)) (by omega) (by rw [Int.toNat_natCast]; exact hx) fun a62 _ hc62 => ?_
      have g62 := hc62 0 _ rfl
      rw [add0] at g62
      refine ⟨x, g62, fn_slots_lives_2, #[], _, rfl, fun args w => orc.sok _ _ rfl args w, ?_⟩
      refine (lexit_any (t := t) (vt := v) (p15.chg k60 (fun he => (hsne _ he).1 rfl)) (o20.chg k60 (fun he => (hsne _ he).2.1 rfl)) (p10.chg k60 (fun he => (hsne _ he).2.2.1 rfl)) h60 hsne (ht.chg kw60 nD) hr (k := k) (by omega) hO (by rw [setAll_len, hlen51]) (by rw [setAll_len]; exact setAll_le hle51 _)).mono ?_
      rintro e w68 ⟨rfl, h68, c68⟩
      rw [wr_in (by omega)]
      refine ⟨rfl, ⟨j + 1, by omega, by omega, ?_, c60.trans c68 (fun _ _ h => h) (fun _ _ h => h)⟩, by show (outsV i).length - Int.toNat ((j : Int) + 1) < (outsV i).length - Int.toNat (j : Int); omega⟩
      rw [List.take_add_one, hx, List.flatMap_append, setAll_app]
      simpa using h68
    · have hjl : j = (outsV i).length := by simp at hjl; omega
      subst hjl
      rw [List.take_length] at h60
      rw [wr_in (by omega)]
      refine ⟨⟨k + 1, by omega, by omega, ?_, k60⟩, by show v.ins.length - Int.toNat ((k : Int) + 1) < v.ins.length - Int.toNat (k : Int); omega⟩
      rw [liveL_succ, hat']; exact h60
  · have hlt : k = v.ins.length := by simp at hlt; omega
    subst hlt
    refine ⟨t.ins, (p10.chg c22 (fun he => (hsne _ he).2.2.1 rfl)).cell rfl, t.last, (p10.chg c22 (fun he => (hsne _ he).2.2.1 rfl)).cell rfl, fn_slots_lives_2, #[], _, rfl, fun args w => orc.sok _ _ rfl args w, ?_⟩
    have e1 : wr ((t.ins.len : Int) - 1) = (v.ins.length : Int) - 1 := by rw [hil, wr_in (by omega)]
    rw [e1]
    have u15 := p15.chg c22 (fun he => (hsne _ he).1 rfl)
    have u18 := o20.chg c22 (fun he => (hsne _ he).2.1 rfl)
    have u10 := p10.chg c22 (fun he => (hsne _ he).2.2.1 rfl)
    have hle22 : ∀ j : Nat, j < (liveL v v.ins.length).length → gN (liveL v v.ins.length) j ≤ (v.ins.length : Int) - 1 := fun j hj => by have := hL.le j; rw [liveL_len] at hj; omega
    have hcall := lexit_any u15 u18 u10 h22 hsne (ht.chg k22 nD) hr (Nat.le_refl _) hr.last (liveL_len v v.ins.length) hle22
    rw [show t.last = v.last from ht.nums.2.2.2.2.2]
    refine hcall.mono ?_
    rintro e w75 ⟨rfl, h75, c75⟩
    have k75 : Chg (fun k => s.blk = some k) w20 w75 := c22.trans c75 (fun _ _ h => h) (fun _ _ h => h)
    exact ⟨rfl, s, (p15.chg k75 (fun he => (hsne _ he).1 rfl)).cell rfl, s, rfl, h75, new, k20.trans k75 (fun _ _ h => h) (fun k hk he => by have := new k he; omega)⟩
end Go.Proofs.Ytblmoilneiffgaa

/- Lists of instructions and of exits with room behind them, in which a mark stands; traces and machines of such lists. -/
set_option maxRecDepth 100000
namespace Go.Proofs.Ytblmoilneiffgaa
open Go.RowKit

def in77 : In5 := ⟨-77, 0, 0, 0, 0⟩
def ou77 : OuC := ⟨-77, 0, nilS, nilS⟩
/-- s reads as these, and behind them stands the mark, in a block of its own. -/
def LentE {α : Type} (E : Enc α) (x : α) (w : World) (s : Sl) (xs : List α) : Prop := s.len = xs.length ∧ Ow E w ⟨s.ptr, xs.length + 1, s.cap⟩ (xs ++ [x])
section
variable {α : Type} {E : Enc α} {x : α} {w w' : World} {s : Sl} {xs : List α}
theorem LentE.rd (h : LentE E x w s xs) : Rd E w s xs := by
  have ht := (h.2.take (n := xs.length) (by simp)).rd
  rw [List.take_left] at ht
  have : s = ⟨s.ptr, xs.length, s.cap⟩ := by rw [← h.1]
  rw [this]; exact ht
theorem LentE.chg {S : Nat → Prop} (h : LentE E x w s xs) (c : Chg S w w') (hS : ∀ k, s.blk = some k → ¬ S k) : LentE E x w' s xs := by
  refine ⟨h.1, h.2.chg c (fun k hk => hS k ?_)⟩
  rw [← hk]; unfold Sl.blk Sl.val; cases s.ptr <;> rfl
theorem LentE.no (h : LentE E x w s xs) (c : Chg No w w') : LentE E x w' s xs := h.chg c (fun _ _ h => h)
/-- The mark behind it. -/
theorem LentE.mark (h : LentE E x w s xs) {n : Int} {r : List Value} (hx : E.e x = .int .i64 n :: r) {G : Prop} (g : G) :
    0 ≤ (wr ((s.len : Int) + (1 : Int))) ∧ (wr ((s.len : Int) + (1 : Int))) ≤ (s.cap : Int) ∧ ∀ s6 : Sl, s6 = Sl.sub s.ptr s.cap 0 (Int.toNat (wr ((s.len : Int) + (1 : Int)))) E.sz →
    ∃ a7 : Addr, s6.ptr = some a7 ∧ 0 ≤ (s.len : Int) ∧ (s.len : Int) < (s6.len : Int) ∧ ∃ n8 : Int, w.cell? (Addr.add a7 (Int.toNat (s.len : Int) * E.sz)) = some (.int .i64 n8) ∧ (n8 = n ∧ G) := by
  have hc := h.2.rd.capL
  rw [List.length_append] at hc
  have h1 : [x].length = 1 := rfl
  have hc1 : xs.length + 1 ≤ s.cap := by have := hc.1; omega
  have hc2 : s.cap ≤ 9223372036854775807 := hc.2
  have hml := h.1
  rw [wr_of (by omega) (by omega)]
  refine ⟨by omega, by omega, ?_⟩
  intro s6 hs6
  rw [sub0] at hs6
  have e6 : s6 = ⟨s.ptr, xs.length + 1, s.cap⟩ := by rw [hs6]; congr 1; omega
  have h6 : Rd E w s6 (xs ++ [x]) := by rw [e6]; exact h.2.rd
  refine h6.ix (i := (s.len : Int)) (x := x) (by omega) (by rw [Int.toNat_natCast, hml, List.getElem?_append_right (Nat.le_refl _)]; simp) fun a ha hcell => ?_
  have q1 := hcell 0 (.int .i64 n) (by rw [hx]; rfl)
  rw [add0] at q1
  exact ⟨n, q1, rfl, g⟩
end
/-! ### Instructions -/
/-! ### Exits -/
/-! ### Traces -/
structure TrLent (D : Nat → Prop) (w : World) (t : TrP) (v : TrG) : Prop where
  nums : t.start = v.start ∧ t.slots = v.slots ∧ t.backs = v.backs ∧ t.grow = v.grow ∧ t.growBack = v.growBack ∧ t.last = v.last
  ins : LentE insE in77 w t.ins v.ins
  outs : ∃ os, LentE ouE ou77 w t.outs os ∧ OusIs D w os v.outs
  cells : Lent w t.cells v.cells
  insD : ∀ k, t.ins.blk = some k → D k
  outsD : ∀ k, t.outs.blk = some k → D k
  cellsD : ∀ k, t.cells.blk = some k → D k
theorem TrLent.is {D : Nat → Prop} {w : World} {t : TrP} {v : TrG} (h : TrLent D w t v) : TrIs D w t v := by
  obtain ⟨os, h1, h2⟩ := h.outs
  exact ⟨h.nums, h.ins.rd, ⟨os, h1.rd, h2⟩, h.cells.rd, h.insD, h.outsD, h.cellsD⟩
theorem TrLent.chg {D S : Nat → Prop} {w w' : World} {t : TrP} {v : TrG} (h : TrLent D w t v) (c : Chg S w w') (hS : ∀ k, D k → ¬ S k) : TrLent D w' t v := by
  obtain ⟨os, h1, h2⟩ := h.outs
  exact ⟨h.nums, h.ins.chg c (fun k hk => hS _ (h.insD k hk)), ⟨os, h1.chg c (fun k hk => hS _ (h.outsD k hk)), h2.chg c hS⟩, h.cells.chg c (fun k hk => hS _ (h.cellsD k hk)), h.insD, h.outsD, h.cellsD⟩
theorem TrLent.no {D : Nat → Prop} {w w' : World} {t : TrP} {v : TrG} (h : TrLent D w t v) (c : Chg No w w') : TrLent D w' t v := h.chg c (fun _ _ h => h)
/-- Small enough to be copied. -/
structure SmT (v : TrG) : Prop where
  ins : v.ins.length ≤ 100000
  outs : v.outs.length ≤ 100000
  each : ∀ o ∈ v.outs, o.stack.length ≤ 100000 ∧ o.back.length ≤ 100000
  cells : v.cells.length ≤ 100000
end Go.Proofs.Ytblmoilneiffgaa

/- Package slots: registers, Least, Make, Run. -/
set_option maxRecDepth 100000
namespace Go.Proofs.Ytblmoilneiffgaa
open Go.RowKit

theorem free_is {unt : List Int} {k x : Int} {j : Nat} (hx : unt[j]? = some x) (h : x < k) (hall : ∀ (i : Nat) (y : Int), i < j → unt[i]? = some y → ¬ y < k) : freeV unt k = j := by
  obtain ⟨hj, hx⟩ := List.getElem?_eq_some_iff.1 hx
  unfold freeV
  rw [List.findIdx_eq hj]
  refine ⟨by rw [hx]; simpa using h, fun i hi => ?_⟩
  have := hall i _ hi (List.getElem?_eq_getElem (by omega))
  simpa using this
theorem free_none {unt : List Int} {k : Int} (hall : ∀ (i : Nat) (y : Int), unt[i]? = some y → ¬ y < k) : freeV unt k = unt.length := by
  unfold freeV
  rw [List.findIdx_eq_length]
  intro x hx
  obtain ⟨i, hi⟩ := List.mem_iff_getElem?.1 hx
  simpa using hall i x hi
theorem ifree_any {w : World} {c2 : Nat} {s : Sl} {unt : List Int} {k : Int} (hs : Rd intE w s unt) (hc : w.cell? ⟨c2, 0, none⟩ = some (.int .i64 k)) (hl : unt.length ≤ 1000000) :
    Calls Try.prog fn_slices_IndexFunc_sl_int_int #[s.val, .func (.func fn_slots_allot_1) #[] #[.pointer (some ⟨c2, 0, none⟩)]] w fun e w' => e = .returned (.int .i64 (if freeV unt k < unt.length then (freeV unt k : Int) else -1)) ∧ w = w' := by
  refine (slices_IndexFunc_sl_int_int_at_slots_allot_1_lift (K := fun r w' => r = .int .i64 (if freeV unt k < unt.length then (freeV unt k : Int) else -1) ∧ w = w') ?_).mono (by rintro e w' ⟨r, rfl, rfl, h⟩; exact ⟨rfl, h⟩)
  unfold slices_IndexFunc_sl_int_int_at_slots_allot_1_sh
  have hsl := hs.len
  refine ⟨fun n w' => ∃ j : Nat, n = j ∧ j ≤ unt.length ∧ (∀ (i : Nat) (y : Int), i < j → unt[i]? = some y → ¬ y < k) ∧ w = w', fun n _ => unt.length - n.toNat, ⟨0, rfl, Nat.zero_le _, fun i _ hi => by omega, rfl⟩, ?_⟩
  rintro n w3 ⟨j, rfl, hj, hall, rfl⟩
  refine brB_of (fun hlt => ?_) (fun hlt => ?_)
  · have hlt : j < unt.length := by simp at hlt; omega
    obtain ⟨x, hx⟩ : ∃ x, unt[j]? = some x := ⟨_, List.getElem?_eq_getElem hlt⟩
    refine hs.ix (i := (j : Int)) (by omega) (by rw [Int.toNat_natCast]; exact hx) fun a _ hcell => ?_
    have q := hcell 0 _ rfl
    rw [add0] at q
    refine ⟨x, q, fn_slots_allot_1, #[], _, rfl, fun args w => orc.sok _ _ rfl args w, ?_⟩
    have hcall : Calls Try.prog fn_slots_allot_1 #[.int .i64 x, .pointer (some ⟨c2, 0, none⟩)] w fun e w' => e = .returned (.bool (decide (x < k))) ∧ w = w' := by
      refine (slots_allot_1_lift (K := fun r w' => r = .bool (decide (x < k)) ∧ w = w') ?_).mono (by rintro e w' ⟨r, rfl, rfl, h⟩; exact ⟨rfl, h⟩)
      unfold slots_allot_1_sh
      exact ⟨k, hc, rfl, rfl⟩
    refine hcall.mono ?_
    rintro e w11 ⟨rfl, rfl⟩
    refine ⟨_, rfl, brB_of (fun h => ?_) (fun h => ?_)⟩
    · have h := of_decide_eq_true h
      rw [free_is hx h hall, if_pos hlt]
      exact ⟨rfl, rfl⟩
    · have h := of_decide_eq_false h
      rw [wr_in (by omega)]
      refine ⟨⟨j + 1, by omega, by omega, fun i y hi hy => ?_, rfl⟩, by show unt.length - Int.toNat ((j : Int) + 1) < unt.length - Int.toNat (j : Int); omega⟩
      by_cases hij : i = j
      · subst hij; cases hx.symm.trans hy; exact h
      · exact hall i y (by omega) hy
  · have hlt : j = unt.length := by simp at hlt; omega
    rw [free_none (k := k) fun i y hy => hall i y (by have := (List.getElem?_eq_some_iff.1 hy).1; omega) hy, if_neg (by omega)]
    exact ⟨rfl, rfl⟩
theorem altL_few (t : TrG) (la : List Int) : ∀ k, (altL t la k).unt.length ≤ k
  | 0 => Nat.le_refl _
  | k + 1 => by
    have := altL_few t la k
    rcases altS_len t la (altL t la k) k with h | ⟨h, _⟩
    · have e : (altL t la (k + 1)).unt.length = (altL t la k).unt.length := h
      omega
    · have e : (altL t la (k + 1)).unt.length = (altL t la k).unt.length + 1 := h
      omega
theorem regs_le (t : TrG) : regsV t ≤ t.ins.length := altL_few t (livesV t) t.ins.length
theorem altL_at (t : TrG) (la : List Int) : ∀ k, (altL t la k).at_.length = t.ins.length
  | 0 => by simp [altL]
  | k + 1 => by
    have := altL_at t la k
    show (altS t la (altL t la k) k).at_.length = _
    unfold altS
    split
    · split <;> simp [this]
    · exact this
theorem gN_ix {l : List Int} {k : Nat} (h : k < l.length) : l[k]? = some (gN l k) := by
  unfold gN; rw [List.getD_eq_getElem?_getD, List.getElem?_eq_getElem h]; rfl
theorem allot_any {D : Nat → Prop} {w : World} (t : TrP) {v : TrG} (ht : TrIs D w t v) (hD : ∀ k, D k → k < w.heap.size) (hr : RightV v) :
    Calls Try.prog fn_slots_allot #[.agg (trP t).toArray] w fun e w' => ∃ s : Sl, e = .returned (.tuple #[s.val, .int .i64 (regsV v : Int)]) ∧ Ow intE w' s (atsV v) ∧ (∀ k, s.blk = some k → w.heap.size ≤ k) ∧ Chg No w w' := by
  refine (slots_allot_lift (K := fun r w' => ∃ s : Sl, r = .tuple #[s.val, .int .i64 (regsV v : Int)] ∧ Ow intE w' s (atsV v) ∧ (∀ k, s.blk = some k → w.heap.size ≤ k) ∧ Chg No w w') ?_).mono (by rintro e w' ⟨r, rfl, s, rfl, h⟩; exact ⟨s, rfl, h⟩)
  unfold slots_allot_sh
  intro b10 w11 hb10 hw11
  have c11 := al hw11
  have o11 : Ob w11 b10 (trP t) T_api_Trace := by rw [hw11, hb10]; exact Ob.new w (trP t) T_api_Trace
  have z11 := c11.size
  obtain ⟨q1, q2, q3⟩ := hr.head
  have hil := ht.ins.len
  refine ⟨_, _, _, _, _, _, _, _, _, o11.cell rfl, o11.cell rfl, o11.cell rfl, o11.cell rfl, o11.cell rfl, o11.cell rfl, o11.cell rfl, o11.cell rfl, o11.cell rfl, (lives_any t (ht.no c11) (fun k hk => by have := hD k hk; omega) hr).mono ?_⟩
  rintro e w22 ⟨s23, rfl, g23, n23, c22⟩
  have o22 := o11.no c22
  have z22 := c22.size
  have l23 : ∀ k, s23.blk = some k → k < w22.heap.size := fun k hk => g23.lt hk
  refine ⟨s23, rfl, t.ins, o22.cell rfl, ?_⟩
  rw [hil]
  obtain ⟨w26, hrun, hat, c26⟩ := make_ints (w := w22) (n := (v.ins.length : Int)) (N := v.ins.length) rfl (by omega)
  refine ⟨_, w26, hrun, t.ins, (o22.no c26).cell rfl, ?_⟩
  obtain ⟨s, hs⟩ : ∃ s : Sl, s = ⟨some ⟨w22.heap.size, 0, none⟩, v.ins.length, v.ins.length⟩ := ⟨_, rfl⟩
  have hsb : ∀ k, s.blk = some k ↔ k = w22.heap.size := fun k => by rw [hs]; exact ⟨fun h => (Option.some.inj h).symm, fun h => by rw [h]; rfl⟩
  rw [← hs] at hat
  have zat := hat.lt ((hsb _).2 rfl)
  have k26 : Chg No w w26 := trN (trN c11 c22) c26
  rw [← hs]
  refine ⟨fun u n w' => ∃ k : Nat, n = k ∧ k ≤ v.ins.length ∧ Ow intE w' u (altL v (livesV v) k).unt ∧ Ow intE w' s (altL v (livesV v) k).at_ ∧ (∀ j, u.blk = some j → w26.heap.size ≤ j) ∧ Chg (fun j => s.blk = some j) w26 w', fun _ n _ => v.ins.length - n.toNat, ⟨0, rfl, Nat.zero_le _, Ow.nil _ _, hat, (fun j hj => by cases hj), Chg.refl _ _⟩, ?_⟩
  rintro u n w28 ⟨k, rfl, hk, hu, ha, hub, c28⟩
  have z28 := c28.size
  have kw28 : Chg No w w28 := k26.trans c28 (fun _ _ h => h) (fun j hj he => by have := (hsb j).1 he; omega)
  have hfew := altL_few v (livesV v) k
  have halt := altL_at v (livesV v) k
  refine brB_of (fun hlt => ?_) (fun hlt => ?_)
  · have hlt : k < v.ins.length := by simp at hlt; omega
    refine ⟨fun u' w' => Ow intE w' u' (altL v (livesV v) (k + 1)).unt ∧ Ow intE w' s (altL v (livesV v) (k + 1)).at_ ∧ (∀ j, u'.blk = some j → w26.heap.size ≤ j) ∧ Chg (fun j => s.blk = some j) w26 w', ?_, ?_⟩
    · rintro u' w65 ⟨h1, h2, h3, h4⟩
      rw [wr_in (by omega)]
      exact ⟨⟨k + 1, by omega, by omega, h1, h2, h3, h4⟩, by show v.ins.length - Int.toNat ((k : Int) + 1) < v.ins.length - Int.toNat (k : Int); omega⟩
    obtain ⟨i, hi⟩ : ∃ i, v.ins[k]? = some i := ⟨_, List.getElem?_eq_getElem hlt⟩
    have hat' : atL v.ins k = i := atL_get hi
    refine (ht.ins.no kw28).ix (i := (k : Int)) (by omega) (by rw [Int.toNat_natCast]; exact hi) fun a30 _ hc => ?_
    have g0 := hc 0 _ rfl
    rw [add0] at g0
    refine ⟨_, _, _, _, _, g0, hc 1 _ rfl, hc 2 _ rfl, hc 3 _ rfl, hc 4 _ rfl, ?_⟩
    intro b36 w37 hb36 hw37 b38 w39 hb38 hw39
    have c37 := al hw37
    have c39 := al hw39
    have z37 : w37.heap.size = w28.heap.size + 1 := by rw [hw37]; simp
    have z39 : w39.heap.size = w37.heap.size + 1 := by rw [hw39]; simp
    have o36 : Ob w39 b36 [.int .i64 0] T_int := by
      have : Ob w37 b36 [.int .i64 0] T_int := by rw [hw37, hb36]; exact Ob.new w28 [.int .i64 0] T_int
      exact this.no c39
    have o38 : Ob w39 b38 (insC ⟨0, 0, 0, 0, 0⟩) T_api_Ins := by rw [hw39, hb38]; exact Ob.new w37 (insC ⟨0, 0, 0, 0, 0⟩) T_api_Ins
    refine ⟨o36.wr (by simp), fun w40 hw40 => ?_⟩
    obtain ⟨p36, d40⟩ := o36.up (k := 0) (vs := [.int .i64 (k : Int)]) (cs' := [.int .i64 (k : Int)]) (by simp) rfl hw40
    have p38 := o38.chg d40 (fun he => by omega)
    refine ⟨p38.wr (by simp [insC]), fun w41 hw41 => ?_⟩
    obtain ⟨r38, d41⟩ := p38.up (k := 0) (vs := insC i) (cs' := insC i) (by simp [insC]) rfl hw41
    have r36 := p36.chg d41 (fun he => by omega)
    have d2841 : Chg (fun j => j = b36 ∨ j = b38) w28 w41 := ((trN c37 c39).trans d40 (U := fun j => j = b36 ∨ j = b38) (fun _ _ h => h.elim) (fun _ _ h => Or.inl h)).trans d41 (fun _ _ h => h) (fun _ _ h => Or.inr h)
    have e2841 : Chg No w28 w41 := d2841.trans (Chg.refl No _) (fun j hj he => by omega) (fun _ _ h => h)
    have z41 := e2841.size
    have u41 := hu.no e2841
    have a41 := ha.no e2841
    have l41 := ((g23.no c26).chg c28 (fun j hj he => by have := l23 j hj; have := (hsb j).1 he; omega)).no e2841
    have c2641 : Chg (fun j => s.blk = some j) w26 w41 := c28.trans e2841 (fun _ _ h => h) (fun _ _ h => h.elim)
    have ult : ∀ j, u.blk = some j → j < w28.heap.size := fun j hj => hu.lt hj
    have slt : ∀ j, s.blk = some j → j < w28.heap.size := fun j hj => ha.lt hj
    refine ⟨i.a, r38.cell rfl, (igives_any i.a w41).mono ?_⟩
    rintro e w44 ⟨rfl, rfl⟩
    refine ⟨_, rfl, brB_of (fun hg => ?_) (fun hg => ?_)⟩
    · have hg : ¬ givesV (atL v.ins k).a = true := by rw [hat']; simpa using hg
      have e1 : altL v (livesV v) (k + 1) = altL v (livesV v) k := if_neg hg
      rw [e1]
      exact ⟨u41, a41, hub, c2641⟩
    · have hg : givesV (atL v.ins k).a = true := by rw [hat']; simpa using hg
      refine (ifree_any u41.rd (r36.cell rfl) (by omega)).mono ?_
      rintro e w48 ⟨rfl, rfl⟩
      refine ⟨_, rfl, fun u' r w' => ∃ (ux : List Int) (R : Nat), r = R ∧ R < ux.length ∧ Ow intE w' u' ux ∧ altL v (livesV v) (k + 1) = ⟨(altL v (livesV v) k).at_.set k (R : Int), ux.set R (gN (livesV v) k)⟩ ∧ (∀ j, u'.blk = some j → w26.heap.size ≤ j ∧ j ≠ b36) ∧ Chg (fun j => u.blk = some j) w41 w' ∧ (∀ j, u'.blk = some j → u.blk = some j ∨ w41.heap.size ≤ j), ?_, ?_⟩
      · rintro u' r w54 ⟨ux, R, rfl, hR, hu', hal, hub', c54, hbk⟩
        have nu : ∀ j, u.blk = some j → w26.heap.size ≤ j ∧ j ≠ b36 := fun j hj => ⟨hub j hj, by have := ult j hj; omega⟩
        have q36 := r36.chg c54 (fun he => (nu _ he).2 rfl)
        have l54 := l41.chg c54 (fun j hj he => by have := l23 j hj; have := (nu j he).1; omega)
        have a54 := a41.chg c54 (fun j hj he => by have := (hsb j).1 hj; have := (nu j he).1; omega)
        refine ⟨k, q36.cell rfl, ?_⟩
        refine l54.rd.ix (i := (k : Int)) (x := gN (livesV v) k) (by omega) (by rw [Int.toNat_natCast]; exact gN_ix (by rw [livesV_len]; exact hlt)) fun a58 _ hc58 => ?_
        have g58 := hc58 0 _ rfl
        rw [add0] at g58
        refine ⟨_, g58, ?_⟩
        obtain ⟨y, hy⟩ : ∃ y, ux[R]? = some y := ⟨_, List.getElem?_eq_getElem hR⟩
        refine hu'.rd.ix (i := (R : Int)) (by omega) (by rw [Int.toNat_natCast]; exact hy) fun a60 ha60 _ => ?_
        obtain ⟨f1, f2⟩ := hu'.set1 ha60 (k := R) (j := 0) (x' := gN (livesV v) k) (u := .int .i64 (gN (livesV v) k)) hy (by decide) rfl
        rw [add0] at f1 f2
        rw [Int.toNat_natCast]
        refine ⟨f1, fun w61 hw61 => ?_⟩
        have u61 : Ow intE w61 u' (ux.set R (gN (livesV v) k)) := by rw [hw61]; exact f2
        have c61 : Chg (fun j => u'.blk = some j) w54 w61 := by rw [hw61]; exact Chg.st (S := fun j => u'.blk = some j) (by rw [add_block]; exact blk_ptr ha60)
        have s36 := q36.chg c61 (fun he => (hub' _ he).2 rfl)
        have a61 := a54.chg c61 (fun j hj he => by have := (hsb j).1 hj; have := (hub' j he).1; omega)
        refine ⟨k, s36.cell rfl, ?_⟩
        obtain ⟨z, hz⟩ : ∃ z, (altL v (livesV v) k).at_[k]? = some z := ⟨_, List.getElem?_eq_getElem (by omega)⟩
        refine a61.rd.ix (i := (k : Int)) (by omega) (by rw [Int.toNat_natCast]; exact hz) fun a63 ha63 _ => ?_
        obtain ⟨f3, f4⟩ := a61.set1 ha63 (k := k) (j := 0) (x' := (R : Int)) (u := .int .i64 (R : Int)) hz (by decide) rfl
        rw [add0] at f3 f4
        rw [Int.toNat_natCast]
        refine ⟨f3, fun w64 hw64 => ?_⟩
        have a64 : Ow intE w64 s ((altL v (livesV v) k).at_.set k (R : Int)) := by rw [hw64]; exact f4
        have c64 : Chg (fun j => s.blk = some j) w61 w64 := by rw [hw64]; exact Chg.st (S := fun j => s.blk = some j) (by rw [add_block]; exact blk_ptr ha63)
        have u64 := u61.chg c64 (fun j hj he => by have := (hsb j).1 he; have := (hub' j hj).1; omega)
        rw [hal]
        refine ⟨u64, a64, fun j hj => (hub' j hj).1, ?_⟩
        have c4161 : Chg (fun j => u.blk = some j) w41 w61 := c54.trans c61 (fun _ _ h => h) (fun j hj he => (hbk j he).elim (fun h => h) (fun h => by omega))
        exact (c2641.trans c4161 (fun _ _ h => h) (fun j hj he => by have := (nu j he).1; omega)).trans c64 (fun _ _ h => h) (fun _ _ h => h)
      · refine brB_of (fun hf => ?_) (fun hf => ?_)
        · have hf : ¬ freeV (altL v (livesV v) k).unt k < (altL v (livesV v) k).unt.length := fun h => by
            rw [if_pos h] at hf; have := of_decide_eq_true hf; omega
          intro b50 w51 hb50 hw51
          obtain ⟨h1, h2⟩ := lit1 0 hb50 hw51
          have z51 : w51.heap.size = w41.heap.size + 1 := by rw [hw51]; simp
          refine app_ok intOk (s := u) (t := ⟨some ⟨b50, 0, none⟩, 1, 1⟩) rfl rfl (u41.no h2) h1.rd (by show ((altL v (livesV v) k).unt.length + 1) * 8 ≤ _; omega) (by show (altL v (livesV v) k).unt.length + 1 ≤ _; unfold maxLen; omega) ?_
          intro s52 w53 g53 c53 b53
          have hul := u41.rd.len
          refine ⟨(altL v (livesV v) k).unt ++ [0], (altL v (livesV v) k).unt.length, by rw [hul], by simp, g53, ?_, fun j hj => ?_, h2.trans c53 (fun _ _ h => h.elim) (fun _ _ h => h), fun j hj => ?_⟩
          · show altS v (livesV v) (altL v (livesV v) k) k = _
            unfold altS
            rw [if_pos hg, if_neg hf]
            congr 1
            rw [List.set_append_right _ _ (Nat.le_refl _), Nat.sub_self]; rfl
          · rcases b53 with hh | hh
            · exact ⟨hub j (hh ▸ hj), by have := ult j (hh ▸ hj); omega⟩
            · have := Option.some.inj (hh.symm.trans hj); omega
          · rcases b53 with hh | hh
            · exact Or.inl (hh ▸ hj)
            · have := Option.some.inj (hh.symm.trans hj); exact Or.inr (by omega)
        · have hf : freeV (altL v (livesV v) k).unt k < (altL v (livesV v) k).unt.length := by
            rcases Nat.lt_or_ge (freeV (altL v (livesV v) k).unt k) (altL v (livesV v) k).unt.length with h | h
            · exact h
            · rw [if_neg (by omega)] at hf; have := of_decide_eq_false hf; omega
          refine ⟨(altL v (livesV v) k).unt, freeV (altL v (livesV v) k).unt k, by rw [if_pos hf], hf, u41, ?_, fun j hj => ⟨hub j hj, by have := ult j hj; omega⟩, Chg.refl _ _, fun j hj => Or.inl hj⟩
          show altS v (livesV v) (altL v (livesV v) k) k = _
          unfold altS
          rw [if_pos hg, if_pos hf]
  · have hlt : k = v.ins.length := by simp at hlt; omega
    subst hlt
    refine ⟨s, ?_, ha, fun j hj => by have := (hsb j).1 hj; omega, kw28⟩
    rw [hu.rd.len]; rfl
end Go.Proofs.Ytblmoilneiffgaa

/- Package slots: own, Least, Make, Run. -/
set_option maxRecDepth 100000
namespace Go.Proofs.Ytblmoilneiffgaa
open Go.RowKit

theorem clone_codes {w : World} {s : Sl} {xs : List In5} (h : Rd insE w s xs) (hsm : xs.length ≤ 1000000000) : Calls Try.prog fn_slices_Clone_sl_api_Ins_api_Ins #[s.val] w fun e w' => ∃ s' : Sl, e = .returned s'.val ∧ Ow insE w' s' xs ∧ Chg No w w' ∧ (∀ k, s'.blk = some k → w.heap.size ≤ k) := by
  refine (slices_Clone_sl_api_Ins_api_Ins_lift (K := fun v w' => ∃ s' : Sl, v = s'.val ∧ Ow insE w' s' xs ∧ Chg No w w' ∧ (∀ k, s'.blk = some k → w.heap.size ≤ k)) ?_).mono (by rintro e w' ⟨v, rfl, s', rfl, h⟩; exact ⟨s', rfl, h⟩)
  unfold slices_Clone_sl_api_Ins_api_Ins_sh
  exact clone_core (K := fun v w' => ∃ s' : Sl, v = s'.val ∧ Ow insE w' s' xs ∧ Chg No w w' ∧ (∀ k, s'.blk = some k → w.heap.size ≤ k)) insOk (by decide) h hsm fun s' w' h1 h2 h3 _ => ⟨s', rfl, h1, h2, h3⟩
theorem clone_exits {w : World} {s : Sl} {xs : List OuC} (h : Rd ouE w s xs) (hsm : xs.length ≤ 1000000000) : Calls Try.prog fn_slices_Clone_sl_api_Out_api_Out #[s.val] w fun e w' => ∃ s' : Sl, e = .returned s'.val ∧ Ow ouE w' s' xs ∧ Chg No w w' ∧ (∀ k, s'.blk = some k → w.heap.size ≤ k) := by
  refine (slices_Clone_sl_api_Out_api_Out_lift (K := fun v w' => ∃ s' : Sl, v = s'.val ∧ Ow ouE w' s' xs ∧ Chg No w w' ∧ (∀ k, s'.blk = some k → w.heap.size ≤ k)) ?_).mono (by rintro e w' ⟨v, rfl, s', rfl, h⟩; exact ⟨s', rfl, h⟩)
  unfold slices_Clone_sl_api_Out_api_Out_sh
  exact clone_core (K := fun v w' => ∃ s' : Sl, v = s'.val ∧ Ow ouE w' s' xs ∧ Chg No w w' ∧ (∀ k, s'.blk = some k → w.heap.size ≤ k)) ousOk (by decide) h hsm fun s' w' h1 h2 h3 _ => ⟨s', rfl, h1, h2, h3⟩
theorem sown_any {D : Nat → Prop} {w : World} (t : TrP) {v : TrG} (ht : TrIs D w t v) (hs : SmT v) : Calls Try.prog fn_slots_own #[.agg (trP t).toArray] w fun e w' => ∃ t' : TrP, e = .returned (.agg (trP t').toArray) ∧ TrIs (fun k => w.heap.size ≤ k ∧ k < w'.heap.size) w' t' v ∧ Chg No w w' := by
  refine (slots_own_lift (K := fun r w' => ∃ t' : TrP, r = .agg (trP t').toArray ∧ TrIs (fun k => w.heap.size ≤ k ∧ k < w'.heap.size) w' t' v ∧ Chg No w w') ?_).mono (by rintro e w' ⟨r, rfl, t', rfl, h⟩; exact ⟨t', rfl, h⟩)
  unfold slots_own_sh
  intro b10 w11 hb10 hw11 b12 w13 hb12 hw13
  have c11 := al hw11
  have c13 := al hw13
  have z11 : w11.heap.size = w.heap.size + 1 := by rw [hw11]; simp
  have z13 : w13.heap.size = w11.heap.size + 1 := by rw [hw13]; simp
  have o10 : Ob w13 b10 (trP t) T_api_Trace := by
    have : Ob w11 b10 (trP t) T_api_Trace := by rw [hw11, hb10]; exact Ob.new w (trP t) T_api_Trace
    exact this.no c13
  have o12 : Ob w13 b12 (trP ⟨0, 0, 0, 0, 0, nilS, nilS, 0, nilS⟩) T_api_Trace := by rw [hw13, hb12]; exact Ob.new w11 (trP ⟨0, 0, 0, 0, 0, nilS, nilS, 0, nilS⟩) T_api_Trace
  intro w14 hw14
  have c14 := dw hw14
  have k14 := trN (trN c11 c13) c14
  have z14 := c14.size
  have p10 := o10.no c14
  have p12 := o12.no c14
  have hd : ∀ {j : Nat} {u : Value}, (trP t)[j]? = some u → held (fun w' => Chg No w14 w') ⟨b10, j, none⟩ u := fun h => Ob.held (fun w' c => p10.no c) h
  obtain ⟨os, hos, hov⟩ := ht.outs
  have hol := hov.1
  have hso := hs.outs
  refine ⟨fun w' => Chg No w14 w', fun w' => Chg No w14 w', fun _ h => h, Chg.refl _ _, t.ins, hd rfl, t.outs, hd rfl, t.cells, hd rfl, ?_⟩
  refine (clone_codes (ht.ins.no k14) (by have := hs.ins; omega)).mono ?_
  rintro e w20 ⟨s21, rfl, g21, c20, n21⟩
  have k20 := trN k14 c20
  have z20 := c20.size
  refine ⟨s21, rfl, c20, ?_⟩
  refine (clone_exits (hos.no k20) (by have := hs.outs; omega)).mono ?_
  rintro e w23 ⟨s24, rfl, g24, c23, n24⟩
  have k23 := trN k20 c23
  have z23 := c23.size
  refine ⟨s24, rfl, trN c20 c23, ?_⟩
  refine (clone_ints (ht.cells.no k23) (by have := hs.cells; omega)).mono ?_
  rintro e w26 ⟨s27, rfl, g27, c26, n27, _⟩
  have k26 := trN k23 c26
  have z26 := c26.size
  refine ⟨s27, rfl, trN (trN c20 c23) c26, ?_⟩
  have c1426 := trN (trN c20 c23) c26
  refine ⟨(p10.no c1426).wr (by simp [trP]), fun w28 hw28 => ?_⟩
  obtain ⟨q10, d28⟩ := (p10.no c1426).up (k := 5) (vs := [s21.val]) (cs' := trP { t with ins := s21 }) (by simp [trP]) rfl hw28
  refine ⟨q10.wr (by simp [trP]), fun w29 hw29 => ?_⟩
  obtain ⟨q10, d29⟩ := q10.up (k := 6) (vs := [s24.val]) (cs' := trP { t with ins := s21, outs := s24 }) (by simp [trP]) rfl hw29
  refine ⟨q10.wr (by simp [trP]), fun w30 hw30 => ?_⟩
  obtain ⟨q10, d30⟩ := q10.up (k := 8) (vs := [s27.val]) (cs' := trP { t with ins := s21, outs := s24, cells := s27 }) (by simp [trP]) rfl hw30
  have d2630 : Chg (fun j => j = b10) w26 w30 := (d28.trans d29 (fun _ _ h => h) (fun _ _ h => h)).trans d30 (fun _ _ h => h) (fun _ _ h => h)
  have r12 := (p12.no c1426).chg d2630 (fun he => by omega)
  have z30 := d2630.size
  have k30 : Chg No w w30 := k26.trans d2630 (fun _ _ h => h) (fun j hj he => by omega)
  obtain ⟨t1, ht1⟩ : ∃ t1 : TrP, t1 = { t with ins := s21, outs := s24, cells := s27 } := ⟨_, rfl⟩
  rw [← ht1] at q10
  have e24 : t1.outs = s24 := by rw [ht1]
  have h24 := (g24.no c26).chg d2630 (fun j hj he => by have := n24 j hj; omega)
  have l24 : ∀ j, s24.blk = some j → w20.heap.size ≤ j ∧ j < w23.heap.size := fun j hj => ⟨n24 j hj, g24.lt hj⟩
  have l21 : ∀ j, s21.blk = some j → w14.heap.size ≤ j ∧ j < w20.heap.size := fun j hj => ⟨n21 j hj, g21.lt hj⟩
  have l27 : ∀ j, s27.blk = some j → w23.heap.size ≤ j ∧ j < w26.heap.size := fun j hj => ⟨n27 j hj, g27.lt hj⟩
  have hsl := g24.rd.len
  refine ⟨s24, by have := q10.cell (k := 6) rfl; rw [e24] at this; exact this, ?_⟩
  refine ⟨fun n w' => ∃ (k : Nat) (os' : List OuC), n = k ∧ k ≤ v.outs.length ∧ Ow ouE w' s24 os' ∧ os'.length = v.outs.length ∧ (∀ j, k ≤ j → os'[j]? = os[j]?) ∧ (∀ (j : Nat) (o : OuC) (u : OuV), j < k → os'[j]? = some o → v.outs[j]? = some u → OuIs (fun q => w30.heap.size ≤ q ∧ q < w'.heap.size) w' o u) ∧ Chg (fun j => s24.blk = some j) w30 w', fun n _ => v.outs.length - n.toNat, ⟨0, os, rfl, Nat.zero_le _, h24, hol, fun _ _ => rfl, (fun j _ _ hj => by omega), Chg.refl _ _⟩, ?_⟩
  rintro n w32 ⟨k, os', rfl, hk, h4, hlen, hold, hnew, c32⟩
  have z32 := c32.size
  have q32 := q10.chg c32 (fun he => by have := l24 _ he; omega)
  have kw32 : Chg No w w32 := k30.trans c32 (fun _ _ h => h) (fun j hj he => by have := l24 _ he; omega)
  refine brB_of (fun hlt => ?_) (fun hlt => ?_)
  · have hlt : k < v.outs.length := by simp at hlt; omega
    obtain ⟨u, huk⟩ : ∃ x, v.outs[k]? = some x := ⟨_, List.getElem?_eq_getElem hlt⟩
    obtain ⟨o, ho⟩ : ∃ x, os[k]? = some x := ⟨_, List.getElem?_eq_getElem (by omega)⟩
    have ho' : os'[k]? = some o := by rw [hold k (Nat.le_refl _)]; exact ho
    obtain ⟨u1, u2, u3, u4, _, _⟩ := hov.2 _ _ _ ho huk
    obtain ⟨t1', t2'⟩ := hs.each u (List.mem_of_getElem? huk)
    intro w34 hw34
    have c34 := dw hw34
    have z34 := c34.size
    have k34 := trN kw32 c34
    have h6 := h4.no c34
    have q34 := q32.no c34
    obtain ⟨a, ha, _, _, hcell⟩ := h6.rd.ix (i := (k : Int)) (x := o) (G := fun a => ∀ w', Chg No w34 w' → ∀ (j : Nat) (u : Value), (ouC o)[j]? = some u → w'.cell? ((a.add (k * 4)).add j) = some u) (by omega) (by rw [Int.toNat_natCast]; exact ho') fun a ha _ => fun w' c' => by
      obtain ⟨a2, ha2, _, _, hc2⟩ := (h6.no c').rd.ix (i := (k : Int)) (x := o) (G := fun a => ∀ (j : Nat) (u : Value), (ouC o)[j]? = some u → w'.cell? ((a.add (k * 4)).add j) = some u) (by omega) (by rw [Int.toNat_natCast]; exact ho') fun a _ hcell j u hu => hcell j u hu
      cases ha.symm.trans ha2
      exact hc2
    have ixk : ∀ {F : Addr → Prop}, F a → ∃ a, s24.ptr = some a ∧ 0 ≤ (k : Int) ∧ (k : Int) < (s24.len : Int) ∧ F a := fun hF => ⟨a, ha, by omega, by omega, hF⟩
    rw [Int.toNat_natCast]
    have hR : ∀ w', Ob w' b10 (trP t1) T_api_Trace ∧ w'.cell? ((a.add (k * 4)).add 3) = some o.back.val → w'.cell? ⟨b10, 6, none⟩ = some s24.val := fun w' h => by have := h.1.cell (k := 6) rfl; rw [e24] at this; exact this
    refine ⟨fun w' => Chg No w34 w', fun w' => Ob w' b10 (trP t1) T_api_Trace ∧ w'.cell? ((a.add (k * 4)).add 3) = some o.back.val, fun w' c' => ⟨q34.no c', hcell w' c' 3 _ rfl⟩, Chg.refl _ _, ?_⟩
    refine ⟨s24, hR, s24, hR, s24, hR, ixk ⟨o.stack, fun w' c' => hcell w' c' 2 _ rfl, s24, hR, ixk ⟨o.back, fun w' c' => c'.2, ?_⟩⟩⟩
    refine (clone_ints (u3.no k34) (by omega)).mono ?_
    rintro e w45 ⟨s46, rfl, h16, c15, n16, _⟩
    have k15 := trN k34 c15
    refine ⟨s46, rfl, ⟨q34.no c15, hcell w45 c15 3 _ rfl⟩, ?_⟩
    refine (clone_ints (u4.no k15) (by omega)).mono ?_
    rintro e w48 ⟨s49, rfl, h19, c18, n19, _⟩
    have k18 := trN k15 c18
    have c618 := trN c15 c18
    have h18 := h6.no c618
    refine ⟨s49, rfl, ⟨q34.no c618, hcell w48 c618 3 _ rfl⟩, ?_⟩
    obtain ⟨f1, f2⟩ := h18.set1 ha (k := k) (j := 2) (x := o) (x' := { o with stack := s46 }) (u := s46.val) ho' (by decide) rfl
    refine ixk ⟨f1, fun w51 hw51 => ?_⟩
    have f2 : Ow ouE w51 s24 (os'.set k { o with stack := s46 }) := by rw [hw51]; exact f2
    have c21 : Chg (fun q => s24.blk = some q) w48 w51 := by rw [hw51]; exact Chg.st (S := fun q => s24.blk = some q) (by rw [add_block, add_block]; exact blk_ptr ha)
    have hk' : (os'.set k { o with stack := s46 })[k]? = some { o with stack := s46 } := List.getElem?_set_self (by omega)
    obtain ⟨a2, ha2, _, _, hc2⟩ := f2.rd.ix (i := (k : Int)) (x := { o with stack := s46 }) (G := fun a => w51.cell? ((a.add (k * 4)).add 3) = some o.back.val) (by omega) (by rw [Int.toNat_natCast]; exact hk') fun a _ hcell => hcell 3 _ rfl
    cases ha.symm.trans ha2
    refine ⟨⟨(q34.no c618).chg c21 (fun he => by have := l24 _ he; omega), hc2⟩, ?_⟩
    obtain ⟨g1, g2⟩ := f2.set1 ha (k := k) (j := 3) (x := { o with stack := s46 }) (x' := { o with stack := s46, back := s49 }) (u := s49.val) hk' (by decide) rfl
    refine ixk ⟨g1, fun w53 hw53 => ?_⟩
    rw [List.set_set] at g2
    have g2 : Ow ouE w53 s24 (os'.set k { o with stack := s46, back := s49 }) := by rw [hw53]; exact g2
    have c23' : Chg (fun q => s24.blk = some q) w51 w53 := by rw [hw53]; exact Chg.st (S := fun q => s24.blk = some q) (by rw [add_block, add_block]; exact blk_ptr ha)
    have cS : Chg (fun q => s24.blk = some q) w48 w53 := c21.trans c23' (fun _ _ h => h) (fun _ _ h => h)
    have c3253 : Chg (fun q => s24.blk = some q) w32 w53 := (trN c34 c618).trans cS (fun _ _ h => h.elim) (fun _ _ h => h)
    have zS := cS.size
    have z15 := c15.size
    have z18 := c18.size
    have z3253 := c3253.size
    have l16 : ∀ q, s46.blk = some q → q < w45.heap.size := fun q hq => h16.lt hq
    have l19 : ∀ q, s49.blk = some q → q < w48.heap.size := fun q hq => h19.lt hq
    rw [wr_of (by omega) (by omega)]
    refine ⟨⟨k + 1, _, by omega, by omega, g2, by rw [List.length_set]; exact hlen, (fun j hj => by rw [List.getElem?_set_ne (by omega)]; exact hold j (by omega)), fun j o2 v2 hj ho2 hv2 => ?_, c32.trans c3253 (fun _ _ h => h) (fun _ _ h => h)⟩, by show v.outs.length - Int.toNat ((k : Int) + 1) < v.outs.length - Int.toNat (k : Int); omega⟩
    by_cases hjk : j = k
    · subst hjk
      rw [List.getElem?_set_self (by omega)] at ho2
      cases Option.some.inj ho2
      cases huk.symm.trans hv2
      refine ⟨u1, u2, (h16.rd.no c18).chg cS (fun q hq he => by have := n16 q hq; have := l24 q he; omega), h19.rd.chg cS (fun q hq he => by have := n19 q hq; have := l24 q he; omega), fun q hq => ⟨by have := n16 q hq; omega, by have := l16 q hq; omega⟩, fun q hq => ⟨by have := n19 q hq; omega, by have := l19 q hq; omega⟩⟩
    · rw [List.getElem?_set_ne (fun h => hjk h.symm)] at ho2
      obtain ⟨x1, x2, x3, x4, x5, x6⟩ := hnew j o2 v2 (by omega) ho2 hv2
      exact ⟨x1, x2, x3.chg c3253 (fun q hq he => by have := x5 q hq; have := l24 q he; omega), x4.chg c3253 (fun q hq he => by have := x6 q hq; have := l24 q he; omega), fun q hq => ⟨(x5 q hq).1, by have := (x5 q hq).2; omega⟩, fun q hq => ⟨(x6 q hq).1, by have := (x6 q hq).2; omega⟩⟩
  · have hlt : k = v.outs.length := by simp at hlt; omega
    subst hlt
    have r32 := r12.chg c32 (fun he => by have := l24 _ he; omega)
    refine ⟨_, _, _, _, _, _, _, _, _, q32.cell rfl, q32.cell rfl, q32.cell rfl, q32.cell rfl, q32.cell rfl, q32.cell rfl, q32.cell rfl, q32.cell rfl, q32.cell rfl, r32.wr (by simp [trP]), fun w63 hw63 => ?_⟩
    obtain ⟨r63, d63⟩ := r32.up (k := 0) (vs := trP t1) (cs' := trP t1) (by simp [trP]) rfl hw63
    have z63 := d63.size
    have kw63 : Chg No w w63 := kw32.trans d63 (fun _ _ h => h) (fun j hj he => by omega)
    refine ⟨_, _, _, _, _, _, _, _, _, r63.cell rfl, r63.cell rfl, r63.cell rfl, r63.cell rfl, r63.cell rfl, r63.cell rfl, r63.cell rfl, r63.cell rfl, r63.cell rfl, t1, rfl, ?_, kw63⟩
    have d3063 : Chg (fun j => s24.blk = some j ∨ j = b12) w30 w63 := c32.trans d63 (fun _ _ h => Or.inl h) (fun _ _ h => Or.inr h)
    have d2663 : Chg (fun j => s24.blk = some j ∨ j = b12 ∨ j = b10) w26 w63 := d2630.trans d3063 (fun _ _ h => Or.inr (Or.inr h)) (fun j _ h => h.elim Or.inl fun h => Or.inr (Or.inl h))
    subst ht1
    refine ⟨ht.nums, (((g21.no c23).no c26).chg d2663 fun j hj he => ?_).rd, ⟨os', (h4.chg d63 fun j hj he => by have := l24 j hj; omega).rd, hlen, fun i o u ho hu => ?_⟩, (g27.chg d2663 fun j hj he => ?_).rd, fun j hj => ?_, fun j hj => ?_, fun j hj => ?_⟩
    · have := l21 j hj
      rcases he with he | he | he
      · have := l24 j he; omega
      · omega
      · omega
    · obtain ⟨x1, x2, x3, x4, x5, x6⟩ := hnew i o u (List.getElem?_eq_some_iff.1 hu).1 ho hu
      exact ⟨x1, x2, x3.chg d63 (fun q hq he => by have := x5 q hq; omega), x4.chg d63 (fun q hq he => by have := x6 q hq; omega), fun q hq => ⟨by have := x5 q hq; omega, by have := x5 q hq; omega⟩, fun q hq => ⟨by have := x6 q hq; omega, by have := x6 q hq; omega⟩⟩
    · have := l27 j hj
      rcases he with he | he | he
      · have := l24 j he; omega
      · omega
      · omega
    · have := l21 j hj; omega
    · have := l24 j hj; omega
    · have := l27 j hj; omega
theorem least_any {D : Nat → Prop} {w : World} (t : TrP) {v : TrG} (ht : TrIs D w t v) (hD : ∀ k, D k → k < w.heap.size) :
    Calls Try.prog fn_slots_Least #[.agg (trP t).toArray] w fun e w' => ∃ n : Int, e = .returned (.int .i64 n) ∧ (RightV v → n = regsV v) ∧ (¬ RightV v → n = 0) ∧ Chg No w w' := by
  refine (slots_Least_lift (K := fun r w' => ∃ n : Int, r = .int .i64 n ∧ (RightV v → n = regsV v) ∧ (¬ RightV v → n = 0) ∧ Chg No w w') ?_).mono (by rintro e w' ⟨r, rfl, n, rfl, h⟩; exact ⟨n, rfl, h⟩)
  unfold slots_Least_sh
  intro b10 w11 hb10 hw11
  have c11 := al hw11
  have z11 := c11.size
  have o11 : Ob w11 b10 (trP t) T_api_Trace := by rw [hw11, hb10]; exact Ob.new w (trP t) T_api_Trace
  refine ⟨_, _, _, _, _, _, _, _, _, o11.cell rfl, o11.cell rfl, o11.cell rfl, o11.cell rfl, o11.cell rfl, o11.cell rfl, o11.cell rfl, o11.cell rfl, o11.cell rfl, (iright_any t (ht.no c11)).mono ?_⟩
  rintro e w22 ⟨b, rfl, hb, c22⟩
  have o22 := o11.no c22
  have z22 := c22.size
  refine ⟨b, rfl, brB_of (fun h => ?_) (fun h => ?_)⟩
  · have hn : ¬ RightV v := fun hr => by rw [hb.2 hr] at h; cases h
    exact ⟨0, rfl, fun hr => absurd hr hn, fun _ => rfl, trN c11 c22⟩
  · have hr := hb.1 (by simpa using h)
    refine ⟨_, _, _, _, _, _, _, _, _, o22.cell rfl, o22.cell rfl, o22.cell rfl, o22.cell rfl, o22.cell rfl, o22.cell rfl, o22.cell rfl, o22.cell rfl, o22.cell rfl, (allot_any t ((ht.no c11).no c22) (fun k hk => by have := hD k hk; omega) hr).mono ?_⟩
    rintro e w34 ⟨s, rfl, h34, n34, c34⟩
    exact ⟨s, _, rfl, _, rfl, fun _ => rfl, fun h => absurd hr h, trN (trN c11 c22) c34⟩
/-- A trace's code, in blocks of D. -/
structure CodeAt (D : Nat → Prop) (w : World) (p : Nat) (v : TrG) : Prop where
  at_ : ∃ (t : TrP) (s : Sl), Ob w p (trP t ++ [s.val, .int .i64 (regsV v : Int)]) T_slots_Code ∧ TrIs D w t v ∧ Rd intE w s (atsV v) ∧ (∀ k, s.blk = some k → D k)
  me : D p
theorem CodeAt.chg {D S : Nat → Prop} {w w' : World} {p : Nat} {v : TrG} (h : CodeAt D w p v) (c : Chg S w w') (hS : ∀ k, D k → ¬ S k) : CodeAt D w' p v := by
  obtain ⟨t, s, h1, h2, h3, h4⟩ := h.at_
  exact ⟨⟨t, s, h1.chg c (hS _ h.me), h2.chg c hS, h3.chg c (fun k hk => hS _ (h4 k hk)), h4⟩, h.me⟩
theorem CodeAt.no {D : Nat → Prop} {w w' : World} {p : Nat} {v : TrG} (h : CodeAt D w p v) (c : Chg No w w') : CodeAt D w' p v := h.chg c (fun _ _ h => h)
theorem smt_right {v : TrG} (hr : RightV v) (hc : v.cells.length ≤ 100000) : SmT v := by
  obtain ⟨q1, q2, _, q4, q5, q6, q7⟩ := hr.head
  refine ⟨by omega, by omega, fun o ho => ?_, hc⟩
  obtain ⟨k, hk⟩ := List.mem_iff_getElem?.1 ho
  obtain ⟨_, _, e3, e4⟩ := hr.exits k o hk
  omega
theorem make_any {D : Nat → Prop} {w : World} (t : TrP) {v : TrG} (ht : TrIs D w t v) (hD : ∀ k, D k → k < w.heap.size) (hcl : v.cells.length ≤ 100000) (most : Int) :
    Calls Try.prog fn_slots_Make #[.agg (trP t).toArray, .int .i64 most] w fun e w' => Chg No w w' ∧ ((¬ (RightV v ∧ (regsV v : Int) ≤ most) ∧ e = .returned (.tuple #[.pointer none, .bool false])) ∨ (RightV v ∧ (regsV v : Int) ≤ most ∧ ∃ p : Nat, e = .returned (.tuple #[.pointer (some ⟨p, 0, none⟩), .bool true]) ∧ CodeAt (fun k => w.heap.size ≤ k ∧ k < w'.heap.size) w' p v)) := by
  refine (slots_Make_lift (K := fun r w' => Chg No w w' ∧ ((¬ (RightV v ∧ (regsV v : Int) ≤ most) ∧ r = .tuple #[.pointer none, .bool false]) ∨ (RightV v ∧ (regsV v : Int) ≤ most ∧ ∃ p : Nat, r = .tuple #[.pointer (some ⟨p, 0, none⟩), .bool true] ∧ CodeAt (fun k => w.heap.size ≤ k ∧ k < w'.heap.size) w' p v))) ?_).mono (by rintro e w' ⟨r, rfl, h, h2⟩; exact ⟨h, h2.imp (fun h => ⟨h.1, by rw [h.2]⟩) (fun ⟨a, b, p, c, d⟩ => ⟨a, b, p, by rw [c], d⟩)⟩)
  unfold slots_Make_sh
  intro b11 w12 hb11 hw12
  have c12 := al hw12
  have z12 := c12.size
  have o12 : Ob w12 b11 (trP t) T_api_Trace := by rw [hw12, hb11]; exact Ob.new w (trP t) T_api_Trace
  refine ⟨fun b w' => (b = true ↔ ¬ (RightV v ∧ (regsV v : Int) ≤ most)) ∧ Chg No w12 w', ?_, ?_⟩
  · rintro b w37 ⟨hb, c37⟩
    have z37 := c37.size
    have k37 := trN c12 c37
    have o37 := o12.no c37
    refine brB_of (fun h => ?_) (fun h => ?_)
    · exact ⟨k37, Or.inl ⟨hb.1 h, rfl⟩⟩
    · have hok : RightV v ∧ (regsV v : Int) ≤ most := Classical.byContradiction fun hn => by rw [hb.2 hn] at h; cases h
      obtain ⟨hr, hle⟩ := hok
      refine ⟨_, _, _, _, _, _, _, _, _, o37.cell rfl, o37.cell rfl, o37.cell rfl, o37.cell rfl, o37.cell rfl, o37.cell rfl, o37.cell rfl, o37.cell rfl, o37.cell rfl, (sown_any t (ht.no k37) (smt_right hr hcl)).mono ?_⟩
      rintro e w49 ⟨t', rfl, h49, c49⟩
      have z49 := c49.size
      refine ⟨_, _, _, _, _, _, _, _, _, rfl, (o37.no c49).wr (by simp [trP]), fun w59 hw59 => ?_⟩
      obtain ⟨q11, d59⟩ := (o37.no c49).up (k := 0) (vs := trP t') (cs' := trP t') (by simp [trP]) rfl hw59
      have z59 := d59.size
      have lt11 := o12.lt
      have h59 := h49.chg d59 (fun k hk he => by omega)
      have k59 : Chg No w w59 := (trN k37 c49).trans d59 (fun _ _ h => h) (fun k hk he => by omega)
      refine ⟨_, _, _, _, _, _, _, _, _, q11.cell rfl, q11.cell rfl, q11.cell rfl, q11.cell rfl, q11.cell rfl, q11.cell rfl, q11.cell rfl, q11.cell rfl, q11.cell rfl, (allot_any t' h59 (fun k hk => by omega) hr).mono ?_⟩
      rintro e w70 ⟨s, rfl, h70, n70, c70⟩
      have q70 := q11.no c70
      have z70 := c70.size
      refine ⟨s, _, rfl, _, _, _, _, _, _, _, _, _, q70.cell rfl, q70.cell rfl, q70.cell rfl, q70.cell rfl, q70.cell rfl, q70.cell rfl, q70.cell rfl, q70.cell rfl, q70.cell rfl, ?_⟩
      intro b82 w83 hb82 hw83
      have c83 := al hw83
      have z83 : w83.heap.size = w70.heap.size + 1 := by rw [hw83]; simp
      have o83 : Ob w83 b82 (trP t' ++ [s.val, .int .i64 (regsV v : Int)]) T_slots_Code := by rw [hw83, hb82]; exact Ob.new w70 (trP t' ++ [s.val, .int .i64 (regsV v : Int)]) T_slots_Code
      refine ⟨trN (trN k59 c70) c83, Or.inr ⟨hr, hle, b82, rfl, ⟨t', s, o83, ?_, (h70.no c83).rd, fun k hk => ?_⟩, by omega⟩⟩
      · have g := (h59.no c70).no c83
        exact ⟨g.nums, g.ins, by obtain ⟨os, x1, x2⟩ := g.outs; exact ⟨os, x1, x2.mono fun k hk => by omega⟩, g.cells, fun k hk => by have := g.insD k hk; omega, fun k hk => by have := g.outsD k hk; omega, fun k hk => by have := g.cellsD k hk; omega⟩
      · have := n70 k hk
        have := h70.lt hk
        omega
  · refine ⟨_, _, _, _, _, _, _, _, _, o12.cell rfl, o12.cell rfl, o12.cell rfl, o12.cell rfl, o12.cell rfl, o12.cell rfl, o12.cell rfl, o12.cell rfl, o12.cell rfl, (iright_any t (ht.no c12)).mono ?_⟩
    rintro e w23 ⟨b, rfl, hb, c23⟩
    have z23 := c23.size
    have o23 := o12.no c23
    refine ⟨b, rfl, brB_of (fun h => ?_) (fun h => ?_)⟩
    · have hn : ¬ RightV v := fun hr => by rw [hb.2 hr] at h; cases h
      exact ⟨⟨fun _ hh => hn hh.1, fun _ => rfl⟩, c23⟩
    · have hr := hb.1 (by simpa using h)
      refine ⟨_, _, _, _, _, _, _, _, _, o23.cell rfl, o23.cell rfl, o23.cell rfl, o23.cell rfl, o23.cell rfl, o23.cell rfl, o23.cell rfl, o23.cell rfl, o23.cell rfl, (least_any t ((ht.no c12).no c23) (fun k hk => by have := hD k hk; omega)).mono ?_⟩
      rintro e w35 ⟨n, rfl, hn, _, c35⟩
      have hn := hn hr
      subst hn
      refine ⟨_, rfl, ⟨fun h hh => ?_, fun h => ?_⟩, trN c23 c35⟩
      · have := of_decide_eq_true h; omega
      · refine decide_eq_true ?_
        have : ¬ (regsV v : Int) ≤ most := fun hl => h ⟨hr, hl⟩
        omega
theorem ats_ok {v : TrG} (hr : RightV v) : AtOk (atsV v) (regsV v) := by
  have hA := alt_ok hr
  intro q hq
  have hq : q < v.ins.length := by rw [← hA.len]; exact hq
  have e : (atsV v).getD q 0 = gN (atsV v) q := rfl
  rw [e]
  refine ⟨hA.lo q, ?_⟩
  have key : ∀ j : Nat, j < v.ins.length → givesV (atL v.ins j).a = true → gN (atsV v) j < regsV v := fun j hj hg => (hA.inr j hj hg).1
  by_cases hg : givesV (atL v.ins q).a = true
  · exact key q hq hg
  · have hz : gN (atsV v) q = 0 := hA.zero q fun _ => by simpa using hg
    have h0 := atL_each' hr (k := 0) (by omega)
    have hg0 : givesV (atL v.ins ((0 : Nat) : Int)).a = true := by
      obtain ⟨⟨a1, a2⟩, _, _, _, a5, _⟩ := h0
      have none : ∀ p ∈ usesV (atL v.ins ((0 : Nat) : Int)), False := fun p hp => by have := a5 p hp; omega
      unfold givesV
      refine decide_eq_true ?_
      generalize atL v.ins ((0 : Nat) : Int) = i at a1 a2 none
      unfold usesV at none
      by_cases e4 : i.a = 4
      · omega
      rw [if_neg e4] at none
      by_cases e5 : i.a = 5 ∨ i.a = 7 ∨ i.a = 8 ∨ i.a = 10 ∨ i.a = 11
      · rw [if_pos e5] at none
        exact (none i.c (by simp)).elim
      rw [if_neg e5] at none
      by_cases e6 : i.a = 6 ∨ i.a = 9
      · rw [if_pos e6] at none
        exact (none i.c (by simp)).elim
      omega
    have := key 0 (by omega) hg0
    have := hA.lo 0
    have e0 : gN (atsV v) 0 = gN (altL v (livesV v) v.ins.length).at_ 0 := rfl
    omega
theorem cthr_any {D D' : Nat → Prop} {w : World} {p : Nat} (S : StC) {v : TrG} {s : StV} (hc : CodeAt D w p v) (hr : RightV v) (h : StIs D' w S s) {waS : Sl} {wl : List Int} (hwa : Rd intE w waS wl)
    (n1 : s.stack.length ≤ 100000) (n2 : s.back.length ≤ 100000) (n3 : s.mem.length ≤ 1000000) (hx : TxOk s) :
    Calls Try.prog fn_slots_Code_Through #[.pointer (some ⟨p, 0, none⟩), .agg (stC S).toArray, waS.val] w fun e w' => ∃ r, e = .returned r ∧ ThrAns v s (atsV v) (regsV v) wl w r w' := by
  refine (slots_Code_Through_lift (K := fun r w' => ThrAns v s (atsV v) (regsV v) wl w r w') ?_).mono (by rintro e w' ⟨r, rfl, h⟩; exact ⟨r, rfl, h⟩)
  unfold slots_Code_Through_sh
  intro b13 w14 hb13 hw14 b15 w16 hb15 hw16 b17 w18 hb17 hw18
  have c14 := al hw14
  have c16 := al hw16
  have c18 := al hw18
  have z14 : w14.heap.size = w.heap.size + 1 := by rw [hw14]; simp
  have z16 : w16.heap.size = w14.heap.size + 1 := by rw [hw16]; simp
  have z18 : w18.heap.size = w16.heap.size + 1 := by rw [hw18]; simp
  have o13 : Ob w18 b13 (stC S) T_api_State := by
    have : Ob w14 b13 (stC S) T_api_State := by rw [hw14, hb13]; exact Ob.new w (stC S) T_api_State
    exact (this.no c16).no c18
  have o15 : Ob w18 b15 (stC st0) T_api_State := by
    have : Ob w16 b15 (stC st0) T_api_State := by rw [hw16, hb15]; exact Ob.new w14 (stC st0) T_api_State
    exact this.no c18
  have o17 : Ob w18 b17 [.int .i64 0, .int .i64 0, .bool false] T_eval_Done := by rw [hw18, hb17]; exact Ob.new w16 [.int .i64 0, .int .i64 0, .bool false] T_eval_Done
  intro w19 hw19
  have c19 := dw hw19
  have k19 := trN (trN (trN c14 c16) c18) c19
  have p13 := o13.no c19
  have p15 := o15.no c19
  have p17 := o17.no c19
  have z19 := c19.size
  obtain ⟨t, at1, hob, htr, hat, _⟩ := (hc.no k19).at_
  have hco : ∀ {j : Nat} {u : Value}, (trP t ++ [at1.val, .int .i64 (regsV v : Int)])[j]? = some u → held (fun w' => Chg No w19 w') ⟨p, j, none⟩ u := fun h => Ob.held (fun w' c => hob.no c) h
  have hst : ∀ {j : Nat} {u : Value}, (stC S)[j]? = some u → held (fun w' => Chg No w19 w') ⟨b13, j, none⟩ u := fun h => Ob.held (fun w' c => p13.no c) h
  refine ⟨fun w' => Chg No w19 w', Chg.refl _ _, _, _, _, _, _, _, _, _, _, hco rfl, hco rfl, hco rfl, hco rfl, hco rfl, hco rfl, hco rfl, hco rfl, hco rfl, _, _, _, _, _, _, _, _, _, _, hst rfl, hst rfl, hst rfl, hst rfl, hst rfl, hst rfl, hst rfl, hst rfl, hst rfl, hst rfl, at1, hco rfl, _, hco rfl, ?_⟩
  have hil := (alt_ok hr).len
  obtain ⟨q1, _⟩ := hr.head
  have hrl := regs_le v
  refine (thr_any t S htr hr (h.no k19) hat hil (by omega) (ats_ok hr) (hwa.no k19) n1 n2 n3 hx).mono ?_
  rintro e w43 ⟨r, rfl, S', hS', c43, hr43⟩
  have z43 := c43.size
  have k43 := trN k19 c43
  obtain ⟨x, st, hb, hx, hrv, hform⟩ : ∃ (x st : Int) (hb : Bool) (hx : Int), r = thrR S' x st hb hx ∧ (thrR S' x st hb hx = if mayV v s = true then thrR S' (runA v (atsV v) (regsV v) s wl).1 (outAt v (runA v (atsV v) (regsV v) s wl).1).steps (decide ((runA v (atsV v) (regsV v) s wl).2.hit ≥ 0)) (runA v (atsV v) (regsV v) s wl).2.hit else thrR S' (-1) 0 false (-1)) := by
    by_cases hm : mayV v s = true
    · rw [if_pos hm] at hr43
      exact ⟨_, _, _, _, hr43, by rw [if_pos hm]⟩
    · rw [if_neg hm] at hr43
      exact ⟨_, _, _, _, hr43, by rw [if_neg hm]⟩
  subst hrv
  refine ⟨_, _, _, _, _, _, _, _, _, _, _, _, _, _, rfl, c43, ?_⟩
  refine ⟨(p15.no c43).wr (by simp [stC]), fun w58 hw58 => ?_⟩
  obtain ⟨r15, d58⟩ := (p15.no c43).up (k := 0) (vs := stC S') (cs' := stC S') (by simp [stC]) rfl hw58
  have r17 := (p17.no c43).chg d58 (fun he => by omega)
  refine ⟨r17.wr (by simp), fun w59 hw59 => ?_⟩
  obtain ⟨s17, d59⟩ := r17.up (k := 0) (vs := [.int .i64 x, .int .i64 st, .bool hb]) (cs' := [.int .i64 x, .int .i64 st, .bool hb]) (by simp) rfl hw59
  have s15 := r15.chg d59 (fun he => by omega)
  have d4359 : Chg (fun j => j = b15 ∨ j = b17) w43 w59 := d58.trans d59 (fun _ _ h => Or.inl h) (fun _ _ h => Or.inr h)
  refine ⟨_, _, _, _, _, _, _, _, _, _, s15.cell rfl, s15.cell rfl, s15.cell rfl, s15.cell rfl, s15.cell rfl, s15.cell rfl, s15.cell rfl, s15.cell rfl, s15.cell rfl, s15.cell rfl, _, _, _, s17.cell rfl, s17.cell rfl, s17.cell rfl, S', ?_, k43.trans d4359 (fun _ _ h => h) (fun j hj he => by omega), hform⟩
  exact (hS'.chg d4359 (fun j hj he => by omega)).wid fun j hj => by omega
theorem crun_any {D D' : Nat → Prop} {w : World} {p : Nat} (S : StC) {v : TrG} {s : StV} (hc : CodeAt D w p v) (hr : RightV v) (h : StIs D' w S s) {waS : Sl} {wl : List Int} (hwa : Rd intE w waS wl)
    (n1 : s.stack.length ≤ 100000) (n2 : s.back.length ≤ 100000) (n3 : s.mem.length ≤ 1000000) (hx : TxOk s) :
    Calls Try.prog fn_slots_Code_Run #[.pointer (some ⟨p, 0, none⟩), .agg (stC S).toArray, waS.val] w fun e w' => ∃ S' : StC, e = .returned (runR S' (outX v s wl) (outN v s wl) (outH v s wl)) ∧ StOw (fun k => w.heap.size ≤ k) w' S' (outS v s wl) ∧ Chg No w w' := by
  refine (slots_Code_Run_lift (K := fun r w' => ∃ S' : StC, r = runR S' (outX v s wl) (outN v s wl) (outH v s wl) ∧ StOw (fun k => w.heap.size ≤ k) w' S' (outS v s wl) ∧ Chg No w w') ?_).mono (by rintro e w' ⟨r, rfl, S', rfl, h⟩; exact ⟨S', rfl, h⟩)
  unfold slots_Code_Run_sh
  intro b13 w14 hb13 hw14 b15 w16 hb15 hw16 b17 w18 hb17 hw18
  have c14 := al hw14
  have c16 := al hw16
  have c18 := al hw18
  have z14 : w14.heap.size = w.heap.size + 1 := by rw [hw14]; simp
  have z16 : w16.heap.size = w14.heap.size + 1 := by rw [hw16]; simp
  have z18 : w18.heap.size = w16.heap.size + 1 := by rw [hw18]; simp
  have o13 : Ob w18 b13 (stC S) T_api_State := by
    have : Ob w14 b13 (stC S) T_api_State := by rw [hw14, hb13]; exact Ob.new w (stC S) T_api_State
    exact (this.no c16).no c18
  have o15 : Ob w18 b15 (stC st0) T_api_State := by
    have : Ob w16 b15 (stC st0) T_api_State := by rw [hw16, hb15]; exact Ob.new w14 (stC st0) T_api_State
    exact this.no c18
  have o17 : Ob w18 b17 [.int .i64 0, .int .i64 0, .bool false] T_eval_Done := by rw [hw18, hb17]; exact Ob.new w16 [.int .i64 0, .int .i64 0, .bool false] T_eval_Done
  have k18 := trN (trN c14 c16) c18
  refine ⟨_, _, _, _, _, _, _, _, _, _, o13.cell rfl, o13.cell rfl, o13.cell rfl, o13.cell rfl, o13.cell rfl, o13.cell rfl, o13.cell rfl, o13.cell rfl, o13.cell rfl, o13.cell rfl, (cthr_any S (hc.no k18) hr (h.no k18) (hwa.no k18) n1 n2 n3 hx).mono ?_⟩
  rintro e w30 ⟨r, rfl, S', hS', c30, hr30⟩
  have z30 := c30.size
  have k30 := trN k18 c30
  obtain ⟨y1, y2, y3⟩ := slot_runs hr (N := regsV v) (Nat.le_refl _) s wl
  have hS2 : StOw (fun k => w18.heap.size ≤ k) w30 S' (outS v s wl) := by
    by_cases hm : mayV v s = true
    · rw [if_pos hm, y1, y2] at hS'
      unfold outS; rw [if_pos hm]; exact hS'
    · rw [if_neg hm] at hS'
      unfold outS; rw [if_neg hm]; exact hS'
  obtain ⟨hx, hr2⟩ : ∃ hx, r = thrR S' (outX v s wl) (outN v s wl) (outH v s wl) hx := by
    by_cases hm : mayV v s = true
    · rw [if_pos hm, y1, y3] at hr30
      refine ⟨(runG v s wl).2.hit, hr30.trans ?_⟩
      unfold outX outN outH; rw [if_pos hm, if_pos hm, if_pos hm]
    · rw [if_neg hm] at hr30
      refine ⟨-1, hr30.trans ?_⟩
      unfold outX outN outH; rw [if_neg hm, if_neg hm, if_neg hm]
  subst hr2
  refine ⟨_, _, _, _, _, _, _, _, _, _, _, _, _, _, rfl, ?_⟩
  intro b45 w46 hb45 hw46 b47 w48 hb47 hw48
  have c46 := al hw46
  have c48 := al hw48
  have z46 : w46.heap.size = w30.heap.size + 1 := by rw [hw46]; simp
  have z48 : w48.heap.size = w46.heap.size + 1 := by rw [hw48]; simp
  have o45 : Ob w48 b45 (stC st0) T_api_State := by
    have : Ob w46 b45 (stC st0) T_api_State := by rw [hw46, hb45]; exact Ob.new w30 (stC st0) T_api_State
    exact this.no c48
  have o47 : Ob w48 b47 [.int .i64 0, .int .i64 0, .bool false] T_eval_Done := by rw [hw48, hb47]; exact Ob.new w46 [.int .i64 0, .int .i64 0, .bool false] T_eval_Done
  refine ⟨o45.wr (by simp [stC]), fun w49 hw49 => ?_⟩
  obtain ⟨p45, d49⟩ := o45.up (k := 0) (vs := stC S') (cs' := stC S') (by simp [stC]) rfl hw49
  have p47 := o47.chg d49 (fun he => by omega)
  refine ⟨p47.wr (by simp), fun w50 hw50 => ?_⟩
  obtain ⟨q47, d50⟩ := p47.up (k := 0) (vs := [.int .i64 (outX v s wl), .int .i64 (outN v s wl), .bool (outH v s wl)]) (cs' := [.int .i64 (outX v s wl), .int .i64 (outN v s wl), .bool (outH v s wl)]) (by simp) rfl hw50
  have q45 := p45.chg d50 (fun he => by omega)
  intro w51 hw51
  have c51 := dw hw51
  have q45 := q45.no c51
  have q47 := q47.no c51
  have z51 := c51.size
  have d3051 : Chg (fun j => j = b45 ∨ j = b47) w30 w51 := (((trN c46 c48).trans d49 (U := fun j => j = b45 ∨ j = b47) (fun _ _ h => h.elim) (fun _ _ h => Or.inl h)).trans d50 (fun _ _ h => h) (fun _ _ h => Or.inr h)).trans c51 (fun _ _ h => h) (fun _ _ h => h.elim)
  have e3051 : Chg No w30 w51 := d3051.trans (Chg.refl No _) (fun j hj he => by omega) (fun _ _ h => h)
  have z3051 := e3051.size
  have r15 := ((o15.no c30).no e3051)
  have r17 := ((o17.no c30).no e3051)
  have hS : ∀ w', (fun w' => Chg (fun j => j = b15) w51 w') w' → Ob w' b45 (stC S') T_api_State := fun w' c => q45.chg c (fun he => by omega)
  have hT : ∀ w', (fun w' => Chg (fun j => j = b15) w51 w') w' → Ob w' b47 [.int .i64 (outX v s wl), .int .i64 (outN v s wl), .bool (outH v s wl)] T_eval_Done := fun w' c => q47.chg c (fun he => by omega)
  refine ⟨fun w' => Chg (fun j => j = b15) w51 w', Chg.refl _ _, _, _, _, _, _, _, _, _, _, _, Ob.held hS rfl, Ob.held hS rfl, Ob.held hS rfl, Ob.held hS rfl, Ob.held hS rfl, Ob.held hS rfl, Ob.held hS rfl, Ob.held hS rfl, Ob.held hS rfl, Ob.held hS rfl, _, _, _, Ob.held hT rfl, Ob.held hT rfl, Ob.held hT rfl, ?_⟩
  refine ⟨r15.wr (by simp [stC]), fun w66 hw66 => ?_⟩
  obtain ⟨s15, d66⟩ := r15.up (k := 0) (vs := stC S') (cs' := stC S') (by simp [stC]) rfl hw66
  refine ⟨d66, ?_⟩
  have s17 := r17.chg d66 (fun he => by omega)
  refine ⟨s17.wr (by simp), fun w67 hw67 => ?_⟩
  obtain ⟨t17, d67⟩ := s17.up (k := 0) (vs := [.int .i64 (outX v s wl), .int .i64 (outN v s wl), .bool (outH v s wl)]) (cs' := [.int .i64 (outX v s wl), .int .i64 (outN v s wl), .bool (outH v s wl)]) (by simp) rfl hw67
  have t15 := s15.chg d67 (fun he => by omega)
  have d5167 : Chg (fun j => j = b15 ∨ j = b17) w51 w67 := d66.trans d67 (fun _ _ h => Or.inl h) (fun _ _ h => Or.inr h)
  refine ⟨_, _, _, _, _, _, _, _, _, _, t15.cell rfl, t15.cell rfl, t15.cell rfl, t15.cell rfl, t15.cell rfl, t15.cell rfl, t15.cell rfl, t15.cell rfl, t15.cell rfl, t15.cell rfl, _, _, _, t17.cell rfl, t17.cell rfl, t17.cell rfl, S', rfl, ?_, (trN k30 e3051).trans d5167 (fun _ _ h => h) (fun j hj he => by omega)⟩
  exact ((hS2.no e3051).chg d5167 (fun j hj he => by omega)).wid fun j hj => by omega
end Go.Proofs.Ytblmoilneiffgaa

/- Values that are used at once, one by one, and values that are all needed at the end: how many registers they need, and what they come to. No program in sight. -/
set_option maxRecDepth 100000
namespace Go.Proofs.Ytblmoilneiffgaa
open Go.RowKit

/-- As many registers as are alive at one place, and never more. -/
theorem regs_is {t : TrG} (hr : RightV t) {N m : Nat} (h0 : 0 < N) (h1 : ∀ k, countV t (livesV t) k ≤ N) (h2 : N ≤ countV t (livesV t) m) : regsV t = N := by
  have a := count_le (alt_ok hr) m
  rcases count_ge (lives_ok hr).own t.ins.length (Nat.le_refl _) with b | ⟨k, _, b⟩
  · unfold regsV; omega
  · have := h1 k
    unfold regsV; omega
/-! ### One by one -/
/-! ### All at the end -/
def manyT (vs : List Int) : TrG := ⟨5, 0, 0, 40, 0, vs.map fun v => ⟨1, v, 0, 0, 0⟩, [⟨5, 1, idA vs.length, []⟩], 0, []⟩
theorem many_len (vs : List Int) : (manyT vs).ins.length = vs.length := by simp [manyT]
theorem many_at {vs : List Int} {k : Nat} {v : Int} (h : vs[k]? = some v) : (manyT vs).ins[k]? = some ⟨1, v, 0, 0, 0⟩ := by
  show (vs.map fun v => (⟨1, v, 0, 0, 0⟩ : In5))[k]? = _
  rw [List.getElem?_map, h]; rfl
theorem many_gives {vs : List Int} {p : Int} (h0 : 0 ≤ p) (h1 : p < vs.length) : givesV (atL (manyT vs).ins p).a = true := by
  have e : ((p.toNat : Nat) : Int) = p := by omega
  have := atL_get (many_at (vs := vs) (k := p.toNat) (List.getElem?_eq_getElem (by omega)))
  rw [e] at this
  rw [this]; rfl
theorem idA_mem {n : Nat} {p : Int} (h : p ∈ idA n) : 0 ≤ p ∧ p < n := by
  unfold idA at h
  obtain ⟨k, hk, rfl⟩ := List.mem_map.1 h
  have := List.mem_range.1 hk
  omega
theorem mem_idA {n : Nat} {j : Nat} (h : j < n) : (j : Int) ∈ idA n := List.mem_map.2 ⟨j, List.mem_range.2 h, rfl⟩
theorem many_right {vs : List Int} (h : vs.length ≤ 40) : RightV (manyT vs) := by
  refine ⟨⟨by rw [many_len]; omega, by show 1 ≤ 300; decide, by show (0 : Int) ≤ 5 ∧ (5 : Int) ≤ 2999; decide, by show (0 : Int) ≤ 0 ∧ (0 : Int) ≤ 48; decide, by show (0 : Int) ≤ 40 ∧ (40 : Int) ≤ 48; decide, by show (0 : Int) ≤ 0 ∧ (0 : Int) ≤ 48; decide, by show (0 : Int) ≤ 0 ∧ (0 : Int) ≤ 48; decide⟩, fun k i hi => ?_, fun k o ho => ?_, fun k c hc => by simp [manyT] at hc, ?_, by show (1 : Int) ≤ 1; decide⟩
  · have hk : k < vs.length := by have := (List.getElem?_eq_some_iff.1 hi).1; rw [many_len] at this; exact this
    rw [many_at (List.getElem?_eq_getElem hk)] at hi
    cases Option.some.inj hi
    exact ⟨by show (1 : Int) ≤ 1 ∧ (1 : Int) ≤ 12; decide, (fun h => by cases h), (fun h => by cases h), (fun h => by cases h), (fun p hp => absurd (show p ∈ ([] : List Int) from hp) (by simp)), (fun x hx => absurd (show x ∈ ([] : List Int) from hx) (by simp))⟩
  · cases k with
    | zero =>
      have ho : (⟨5, 1, idA vs.length, []⟩ : OuV) = o := Option.some.inj ho
      subst ho
      refine ⟨by show (0 : Int) ≤ 1 ∧ (1 : Int) ≤ 120; decide, by show (0 : Int) ≤ 5 ∧ (5 : Int) ≤ 2999; decide, ?_, by show ((0 : Nat) : Int) ≤ 0 + 0; decide⟩
      show ((idA vs.length).length : Int) ≤ 0 + 40
      rw [idA_len]; omega
    | succ k => simp [manyT] at ho
  · refine ⟨by show (0 : Int) ≤ 0; decide, by show (0 : Int) < ((1 : Nat) : Int); decide, fun p hp => ?_, fun p hp => by cases hp⟩
    have hp := idA_mem (n := vs.length) hp
    exact ⟨hp.1, by rw [many_len]; exact hp.2, many_gives hp.1 hp.2⟩
theorem many_lives (vs : List Int) (j : Nat) (hj : j < vs.length) : gN (livesV (manyT vs)) j = (vs.length : Int) - 1 := by
  unfold livesV
  rw [many_len]
  have e : endsV (manyT vs) = idA vs.length := by
    show idA vs.length ++ [] = _
    rw [List.append_nil]
  rw [e]
  have := gN_named (la := liveL (manyT vs) vs.length) (v := (vs.length : Int) - 1) (mem_idA hj) (by rw [liveL_len, many_len]; omega)
  rw [Int.toNat_natCast] at this
  exact this
theorem many_regs {vs : List Int} (h1 : 1 ≤ vs.length) (h : vs.length ≤ 40) : regsV (manyT vs) = vs.length := by
  refine regs_is (many_right h) (m := vs.length - 1) (by omega) (fun k => ?_) ?_
  · unfold countV
    refine Nat.le_trans (List.length_filter_le _ _) ?_
    rw [List.length_range, many_len]; omega
  · unfold countV
    rw [many_len]
    have : (List.range vs.length).length ≤ ((List.range (min vs.length (vs.length - 1 + 1))).filter (alive1 (manyT vs) (livesV (manyT vs)) (vs.length - 1))).length := by
      refine sub_len _ _ List.nodup_range fun j hj => ?_
      have hj := List.mem_range.1 hj
      refine List.mem_filter.2 ⟨List.mem_range.2 (by omega), ?_⟩
      unfold alive1
      rw [many_gives (by omega) (by omega), many_lives vs j hj]; simp; omega
    rw [List.length_range] at this
    exact this
theorem many_go (vs : List Int) : ∀ (r : List Int) (k : Nat) (e : En), vs.drop k = r → k ≤ vs.length → e.regs.length = vs.length → (∀ j : Nat, j < k → getI e.regs (j : Int) = getI vs (j : Int)) → ∃ e' : En, goV (idA vs.length) [] 0 (r.map fun v => ⟨1, v, 0, 0, 0⟩) k e = (0, e') ∧ e'.s = e.s ∧ e'.hit = e.hit ∧ ∀ j : Nat, j < vs.length → getI e'.regs (j : Int) = getI vs (j : Int)
  | [], k, e, hd, hk, hl, hg => by
    have : k = vs.length := by
      have := List.drop_eq_nil_iff.1 hd; omega
    subst this
    exact ⟨e, rfl, rfl, rfl, hg⟩
  | v :: r, k, e, hd, hk, hl, hg => by
    have hlt : k < vs.length := by
      rcases Nat.lt_or_ge k vs.length with h | h
      · exact h
      · rw [List.drop_eq_nil_of_le h] at hd; cases hd
    rw [List.drop_eq_getElem_cons hlt] at hd
    obtain ⟨hv, hr⟩ := List.cons.inj hd
    rw [List.map_cons, goV_val (s := e.s) (v := v) rfl]
    obtain ⟨e', h1, h2, h3, h4⟩ := many_go vs r (k + 1) (setV (idA vs.length) (k : Int) v { e with s := e.s }) hr (by omega) (by rw [setV_regs]; exact hl) (fun j hj => by
      unfold setV
      show getI (e.regs.set (getI (idA vs.length) (k : Int)).toNat v) (j : Int) = _
      rw [idA_at (by omega) (by omega), Int.toNat_natCast]
      by_cases hjk : j = k
      · subst hjk
        unfold getI
        rw [List.getD_eq_getElem?_getD, List.getD_eq_getElem?_getD, Int.toNat_natCast, List.getElem?_set_self (by omega), List.getElem?_eq_getElem hlt, hv]
      · have := hg j (by omega)
        unfold getI at this ⊢
        rw [List.getD_eq_getElem?_getD, Int.toNat_natCast, List.getElem?_set_ne (by omega), ← List.getD_eq_getElem?_getD]
        rw [Int.toNat_natCast] at this; exact this)
    exact ⟨e', h1, h2, h3, h4⟩
theorem many_run (vs : List Int) (s : StV) (hs : s.stack = []) : ∃ e : En, runG (manyT vs) s [] = (0, e) ∧ (endV (manyT vs) (0, e)).stack = vs ∧ e.hit = -1 := by
  obtain ⟨e', h1, h2, h3, h4⟩ := many_go vs vs 0 (en0 vs.length s) rfl (Nat.zero_le _) (by simp [en0]) (fun j hj => by omega)
  refine ⟨e', ?_, ?_, h3⟩
  · unfold runG runA; rw [many_len]; exact h1
  · unfold endV leaveV
    rw [many_len]
    show e'.s.stack.take (e'.s.stack.length - (0 : Int).toNat) ++ valsV (idA vs.length) (idA vs.length) e' = _
    have hs' : e'.s.stack = [] := by rw [h2]; exact hs
    rw [hs']
    show valsV (idA vs.length) (idA vs.length) e' = _
    refine List.ext_getElem? fun i => ?_
    unfold valsV
    rw [List.getElem?_map]
    rcases Nat.lt_or_ge i vs.length with h | h
    · have : (idA vs.length)[i]? = some (i : Int) := by unfold idA; rw [List.getElem?_map, List.getElem?_range h]; rfl
      rw [this]
      show some (valV (idA vs.length) (i : Int) e') = _
      rw [val_id (by omega) (by omega), h4 i h, List.getElem?_eq_getElem h]
      unfold getI; rw [List.getD_eq_getElem?_getD, Int.toNat_natCast, List.getElem?_eq_getElem h]; rfl
    · rw [List.getElem?_eq_none (by rw [idA_len]; exact h), List.getElem?_eq_none h]; rfl
end Go.Proofs.Ytblmoilneiffgaa

/- SlotsFew: the walk. -/
set_option maxRecDepth 100000
namespace Go.Proofs.Ytblmoilneiffgaa
open Go.RowKit

def Lo (w : World) : Nat → Prop := fun k => k < w.heap.size
theorem Ow.lo {α : Type} {E : Enc α} {w : World} {s : Sl} {xs : List α} (h : Ow E w s xs) : ∀ k, s.blk = some k → Lo w k := fun k hk => h.lt hk
theorem lo_nil (w : World) : ∀ k, nilS.blk = some k → Lo w k := fun k hk => by cases hk
/-- One exit. -/
theorem ous_one {D : Nat → Prop} {w : World} {o : OuC} {v : OuV} (h : OuIs D w o v) : OusIs D w [o] [v] := ⟨rfl, fun i o' v' ho hv => by
  cases i with
  | zero => cases ho; cases hv; exact h
  | succ i => cases ho⟩
theorem creg_any {D : Nat → Prop} {w : World} {p : Nat} {v : TrG} (hc : CodeAt D w p v) : Calls Try.prog fn_slots_Code_Registers #[.pointer (some ⟨p, 0, none⟩)] w fun e w' => e = .returned (.int .i64 (regsV v : Int)) ∧ w = w' := by
  refine (slots_Code_Registers_lift (K := fun r w' => r = .int .i64 (regsV v : Int) ∧ w = w') ?_).mono (by rintro e w' ⟨r, rfl, rfl, h⟩; exact ⟨rfl, h⟩)
  unfold slots_Code_Registers_sh
  obtain ⟨t, s, h1, _⟩ := hc.at_
  exact ⟨_, h1.cell rfl, rfl, rfl⟩
theorem clen_any {D : Nat → Prop} {w : World} {p : Nat} {v : TrG} (hc : CodeAt D w p v) : Calls Try.prog fn_slots_Code_Len #[.pointer (some ⟨p, 0, none⟩)] w fun e w' => e = .returned (.int .i64 (v.ins.length : Int)) ∧ w = w' := by
  refine (slots_Code_Len_lift (K := fun r w' => r = .int .i64 (v.ins.length : Int) ∧ w = w') ?_).mono (by rintro e w' ⟨r, rfl, rfl, h⟩; exact ⟨rfl, h⟩)
  unfold slots_Code_Len_sh
  obtain ⟨t, s, h1, h2, _⟩ := hc.at_
  exact ⟨t.ins, h1.cell rfl, by rw [h2.ins.len], rfl⟩
theorem al20_right : RightV alT := rightB_ok (by decide +kernel)
theorem al20_regs : regsV alT = 2 := by decide +kernel
theorem alive20_any (w : World) : Calls Try.prog fn_hollowaylaw20_alive #[] w fun e w' => e = .returned (.bool true) ∧ Chg No w w' := by
  refine (hollowaylaw20_alive_lift (K := fun v w' => v = .bool true ∧ Chg No w w') ?_).mono (by rintro e w' ⟨v, rfl, rfl, h⟩; exact ⟨rfl, h⟩)
  unfold hollowaylaw20_alive_sh
  intro b1 w2 hb1 hw2 b3 w4 hb3 hw4 b5 w6 hb5 hw6 b7 w8 hb7 hw8
  obtain ⟨g2, c2⟩ := litIns alT.ins _ rfl hb1 hw2 (by decide)
  obtain ⟨g4, c4⟩ := lit1 1 hb3 hw4
  obtain ⟨g6, c6⟩ := litOus [⟨7, 2, ⟨some ⟨b3, 0, none⟩, 1, 1⟩, nilS⟩] _ rfl hb5 hw6 (by simp)
  obtain ⟨T, hT⟩ : ∃ T : TrP, T = ⟨5, 1, 0, 0, 0, ⟨some ⟨b1, 0, none⟩, 2, 2⟩, ⟨some ⟨b5, 0, none⟩, 1, 1⟩, 0, nilS⟩ := ⟨_, rfl⟩
  have hn := fun (w2 : World) => newOb (w2 := w2) (T := T_api_Trace) (trP ⟨0, 0, 0, 0, 0, nilS, nilS, 0, nilS⟩) (trP T) rfl hb7 hw8
  refine ⟨(hn w8).1, fun w9 hw9 => ?_⟩
  have hw9 : w9 = stW w8 ⟨b7, 0, none⟩ 0 (trP T) := by rw [hw9, hT]; rfl
  obtain ⟨o9, c9⟩ := (hn w9).2 hw9
  have k9 : Chg No w w9 := trN (trN (trN c2 c4) c6) c9
  have g2' := ((g2.no c4).no c6).no c9
  have g4' := (g4.no c6).no c9
  have g6' := g6.no c9
  have ht9 : TrIs (Lo w9) w9 T alT := by
    subst hT
    exact ⟨⟨rfl, rfl, rfl, rfl, rfl, rfl⟩, g2'.rd, ⟨_, g6'.rd, ous_one ⟨rfl, rfl, g4'.rd, Rd.nil _ _, g4'.lo, lo_nil _⟩⟩, Rd.nil _ _, g2'.lo, g6'.lo, lo_nil _⟩
  refine ⟨_, _, _, _, _, _, _, _, _, o9.cell rfl, o9.cell rfl, o9.cell rfl, o9.cell rfl, o9.cell rfl, o9.cell rfl, o9.cell rfl, o9.cell rfl, o9.cell rfl, (make_any T ht9 (fun k hk => hk) (by decide) 2).mono ?_⟩
  rintro e w20 ⟨c20, h20⟩
  have z20 := c20.size
  rcases h20 with ⟨hn, _⟩ | ⟨_, _, p, rfl, hc⟩
  · exact absurd ⟨al20_right, by rw [al20_regs]; decide⟩ hn
  have o20 := o9.no c20
  refine ⟨_, _, rfl, _, _, _, _, _, _, _, _, _, o20.cell rfl, o20.cell rfl, o20.cell rfl, o20.cell rfl, o20.cell rfl, o20.cell rfl, o20.cell rfl, o20.cell rfl, o20.cell rfl, (make_any T (ht9.no c20) (fun k hk => by have : k < w9.heap.size := hk; omega) (by decide) 1).mono ?_⟩
  rintro e w33 ⟨c33, h33⟩
  have z33 := c33.size
  rcases h33 with ⟨_, rfl⟩ | ⟨_, hle, _⟩
  rotate_left
  · rw [al20_regs] at hle; exact absurd hle (by decide)
  have o33 := o20.no c33
  have c2033 := trN c20 c33
  refine ⟨_, _, rfl, _, _, _, _, _, _, _, _, _, o33.cell rfl, o33.cell rfl, o33.cell rfl, o33.cell rfl, o33.cell rfl, o33.cell rfl, o33.cell rfl, o33.cell rfl, o33.cell rfl, (least_any T (ht9.no c2033) (fun k hk => by have : k < w9.heap.size := hk; omega)).mono ?_⟩
  rintro e w46 ⟨n, rfl, hn, _, c46⟩
  have hn : n = 2 := by rw [hn al20_right, al20_regs]; rfl
  subst hn
  have hc46 := (hc.no c33).no c46
  refine ⟨_, rfl, brB_t (brB_t (brB_t (brB_t ?_)))⟩
  refine (creg_any hc46).mono ?_
  rintro e w49 ⟨rfl, rfl⟩
  rw [al20_regs]
  refine ⟨_, rfl, brB_t ((creg_any hc46).mono ?_)⟩
  rintro e w52 ⟨rfl, rfl⟩
  rw [al20_regs]
  refine ⟨_, rfl, brB_t ((clen_any hc46).mono ?_)⟩
  rintro e w55 ⟨rfl, rfl⟩
  exact ⟨_, rfl, rfl, trN (trN k9 c2033) c46⟩
end Go.Proofs.Ytblmoilneiffgaa

/- SlotsMany: the walk. -/
set_option maxRecDepth 100000
namespace Go.Proofs.Ytblmoilneiffgaa
open Go.RowKit

/-- The k-th value. -/
def valM (l : List Int) (k : Nat) : Int := if k < l.length then gN l k else k
def valsM (l : List Int) (n : Nat) : List Int := (List.range n).map (valM l)
theorem valsM_len (l : List Int) (n : Nat) : (valsM l n).length = n := by unfold valsM; simp
theorem valsM_snoc (l : List Int) (n : Nat) : valsM l n ++ [valM l n] = valsM l (n + 1) := by unfold valsM; rw [List.range_succ, List.map_append]; rfl
def conI (v : Int) : In5 := ⟨1, v, 0, 0, 0⟩
theorem idA_add (n : Nat) : idA n ++ [(n : Int)] = idA (n + 1) := by unfold idA; rw [List.range_succ, List.map_append]; rfl
def manyS (M : Nat) : StV := ⟨5, 0, [], [], List.replicate M 0, bs [], bs [], 0, 0, 0⟩
theorem slotsMany_walk (n : Int) (l : Sl) (ls : List Int) (w : World) (hl : Rd intE w l ls) : Calls Try.prog fn_hollowaylaw20_SlotsMany #[.int .i64 n, l.val] w fun e w' => e = .returned (.bool true) ∧ Chg No w w' := by
  refine (hollowaylaw20_SlotsMany_lift (K := fun v w' => v = .bool true ∧ Chg No w w') ?_).mono (by rintro e w' ⟨v, rfl, rfl, h⟩; exact ⟨rfl, h⟩)
  unfold hollowaylaw20_SlotsMany_sh
  have hll := hl.len
  refine ⟨fun b w' => (b = false → 1 ≤ n ∧ n ≤ 40 ∧ ls.length ≤ 40) ∧ Chg No w w', ?_, ?_⟩
  rotate_left
  · refine brB_of (fun _ => ⟨(fun h => by cases h), Chg.refl _ _⟩) (fun h1 => ?_)
    have h1 := of_decide_eq_false h1
    refine brB_of (fun _ => ⟨(fun h => by cases h), Chg.refl _ _⟩) (fun h2 => ?_)
    have h2 := of_decide_eq_false h2
    refine brB_of (fun _ => ⟨(fun h => by cases h), Chg.refl _ _⟩) (fun h3 => ?_)
    have h3 := of_decide_eq_false h3
    refine (alive20_any w).mono ?_
    rintro e w3 ⟨rfl, c3⟩
    exact ⟨_, rfl, fun _ => by omega, c3⟩
  rintro b w6 ⟨hb, c6⟩
  refine brB_of (fun _ => ?_) (fun hno => ?_)
  · refine (alive20_any w6).mono ?_
    rintro e w8 ⟨rfl, c8⟩
    exact ⟨_, rfl, rfl, trN c6 c8⟩
  obtain ⟨n1, n2, n3⟩ := hb hno
  obtain ⟨N, rfl⟩ : ∃ N : Nat, n = N := ⟨n.toNat, by omega⟩
  have N1 : 1 ≤ N := by omega
  have N2 : N ≤ 40 := by omega
  intro b11 w12 hb11 hw12 b13 w14 hb13 hw14
  obtain ⟨g11, c12⟩ := litOus [⟨5, 1, nilS, nilS⟩] _ rfl hb11 hw12 (by simp)
  have hn := fun (w2 : World) => newOb (w2 := w2) (T := T_api_Trace) (trP ⟨0, 0, 0, 0, 0, nilS, nilS, 0, nilS⟩) (trP ⟨5, 0, 0, 40, 0, nilS, ⟨some ⟨b11, 0, none⟩, 1, 1⟩, 0, nilS⟩) rfl hb13 hw14
  refine ⟨(hn w14).1, fun w15 hw15 => ?_⟩
  obtain ⟨o15, c15⟩ := (hn w15).2 hw15
  have z12 : w12.heap.size = w6.heap.size + 1 := by rw [hw12]; simp
  have z14 : w14.heap.size = w12.heap.size + 1 := by rw [hw14]; simp
  have z6 := c6.size
  have z15 : w14.heap.size ≤ w15.heap.size := by rw [hw15]; exact (Chg.st (S := fun _ => True) trivial).size
  have hl6 := hl.no c6
  obtain ⟨I, hI⟩ : ∃ I : Sl → Int → World → Prop, I = fun (want : Sl) (i : Int) (w' : World) => ∃ (k : Nat) (s st : Sl), i = k ∧ k ≤ N ∧ Ob w' b13 (trP ⟨5, 0, 0, 40, 0, s, ⟨some ⟨b11, 0, none⟩, 1, 1⟩, 0, nilS⟩) T_api_Trace ∧ Ow insE w' s ((valsM ls k).map conI) ∧ Ow ouE w' ⟨some ⟨b11, 0, none⟩, 1, 1⟩ [⟨5, 1, st, nilS⟩] ∧ Ow intE w' st (idA k) ∧ Ow intE w' want (valsM ls k) ∧
      (∀ j, s.blk = some j → w15.heap.size ≤ j ∧ st.blk ≠ some j ∧ want.blk ≠ some j) ∧ (∀ j, st.blk = some j → w15.heap.size ≤ j ∧ want.blk ≠ some j) ∧ (∀ j, want.blk = some j → w15.heap.size ≤ j) ∧ Chg No w6 w' ∧ w15.heap.size ≤ w'.heap.size := ⟨_, rfl⟩
  refine ⟨I, fun _ i _ => N - i.toNat, ?_, ?_⟩
  · rw [hI]
    exact ⟨0, nilS, nilS, rfl, Nat.zero_le _, o15, Ow.nil _ _, g11.no c15, Ow.nil _ _, Ow.nil _ _, (fun j hj => by cases hj), (fun j hj => by cases hj), (fun j hj => by cases hj), trN c12 c15, Nat.le_refl _⟩
  intro want i w16 hi
  rw [hI] at hi
  obtain ⟨k, s, st, rfl, hk, o16, h16, g16, s16, q16, sb, tb, qb, c16, zw⟩ := hi
  refine brB_of (fun hlt => ?_) (fun hlt => ?_)
  · have hlt : k < N := by have := of_decide_eq_true hlt; omega
    refine ⟨fun v w' => v = valM ls k ∧ w16 = w', ?_, ?_⟩
    · rintro v w20 ⟨rfl, rfl⟩
      refine ⟨s, o16.cell rfl, ?_⟩
      intro b23 w24 hb23 hw24
      refine app1_gen insOk (by decide) (w0 := w6) (x := conI (valM ls k)) rfl hb23 hw24 h16 c16 (fun j hj => by have := (sb j hj).1; omega) (by rw [List.length_map, valsM_len]; omega) ?_
      intro s25 w26 h26 c26 d26 b25
      have z26 := d26.size
      have o26 := o16.chg d26 (fun he => by have := (sb _ he).1; omega)
      refine ⟨o26.wr (by simp [trP]), fun w27 hw27 => ?_⟩
      obtain ⟨o27, d27⟩ := o26.up (k := 5) (vs := [s25.val]) (cs' := trP ⟨5, 0, 0, 40, 0, s25, ⟨some ⟨b11, 0, none⟩, 1, 1⟩, 0, nilS⟩) (by simp [trP]) rfl hw27
      have z27 := d27.size
      intro w28 hw28
      have c28 := dw hw28
      have z28 := c28.size
      have d1628 : Chg (fun j => s.blk = some j ∨ j = b13) w16 w28 := (d26.trans d27 (fun _ _ h => Or.inl h) (fun _ _ h => Or.inr h)).trans c28 (fun _ _ h => h) (fun _ _ h => h.elim)
      have k28 : Chg No w6 w28 := c16.trans d1628 (fun _ _ h => h) (fun j hj he => by rcases he with he | he
                                                                                      · have := (sb j he).1; omega
                                                                                      · omega)
      have o28 := o27.no c28
      have g28 := g16.chg d1628 (fun j hj he => by
        have hj : b11 = j := Option.some.inj hj
        rcases he with he | he
        · have := (sb j he).1; omega
        · omega)
      have t28 := s16.chg d1628 (fun j hj he => by
        rcases he with he | he
        · exact (sb j he).2.1 hj
        · have := (tb j hj).1; omega)
      have q28 := q16.chg d1628 (fun j hj he => by
        rcases he with he | he
        · exact (sb j he).2.2 hj
        · have := qb j hj; omega)
      have nb : ∀ j, s25.blk = some j → w15.heap.size ≤ j ∧ st.blk ≠ some j ∧ want.blk ≠ some j := fun j hj => by
        obtain ⟨x1, x2⟩ := b25 j hj
        rcases x2 with x2 | x2
        · exact sb j x2
        · refine ⟨by omega, fun he => ?_, fun he => ?_⟩
          · have := s16.lt he; omega
          · have := q16.lt he; omega
      have h28 : Ow insE w28 s25 ((valsM ls (k + 1)).map conI) := by
        rw [← valsM_snoc, List.map_append]
        exact (h26.chg d27 (fun j hj he => by have := (nb j hj).1; omega)).no c28
      have tb' : ∀ j, st.blk = some j → j ≠ b11 ∧ j ≠ b13 := fun j hj => by have := (tb j hj).1; omega
      have hO : ∀ w', Chg (fun j => st.blk = some j) w28 w' → Ob w' b13 (trP ⟨5, 0, 0, 40, 0, s25, ⟨some ⟨b11, 0, none⟩, 1, 1⟩, 0, nilS⟩) T_api_Trace := fun w' c => o28.chg c (fun he => (tb' _ he).2 rfl)
      have hE : ∀ w', Chg (fun j => st.blk = some j) w28 w' → Ow ouE w' ⟨some ⟨b11, 0, none⟩, 1, 1⟩ [⟨5, 1, st, nilS⟩] := fun w' c => g28.chg c (fun j hj he => (tb' j he).1 (Option.some.inj hj).symm)
      refine ⟨fun w' => Chg (fun j => st.blk = some j) w28 w', Chg.refl _ _, _, Ob.held hO (k := 6) rfl, _, Ob.held hO (k := 6) rfl, ⟨b11, 0, none⟩, rfl, by decide, by show (0 : Int) < ((1 : Nat) : Int); decide, st, fun w' c => ?_, ?_⟩
      · obtain ⟨a, ha, _, _, hcell⟩ := (hE w' c).rd.ix (i := 0) (x := ⟨5, 1, st, nilS⟩) (G := fun a => w'.cell? ((a.add (0 * 4)).add 2) = some st.val) (by decide) rfl fun a _ hcell => hcell 2 _ rfl
        cases ha
        exact hcell
      intro b34 w35 hb34 hw35
      have c35 := al hw35
      refine ⟨c35.mono (fun _ _ h => h.elim), ?_⟩
      refine app1_gen intOk (by decide) (w0 := w6) (x := (k : Int)) rfl hb34 hw35 t28 k28 (fun j hj => by have := (tb j hj).1; omega) (by rw [idA_len]; omega) ?_
      intro s36 w37 h37 c37 d37 b36
      have z37 := d37.size
      refine ⟨d37, ⟨b11, 0, none⟩, rfl, by decide, by show (0 : Int) < ((1 : Nat) : Int); decide, ?_⟩
      obtain ⟨f1, f2⟩ := (hE w37 d37).set1 rfl (k := 0) (j := 2) (x := ⟨5, 1, st, nilS⟩) (x' := ⟨5, 1, s36, nilS⟩) (u := s36.val) rfl (by decide) rfl
      refine ⟨f1, fun w39 hw39 => ?_⟩
      have f2 : Ow ouE w39 ⟨some ⟨b11, 0, none⟩, 1, 1⟩ [⟨5, 1, s36, nilS⟩] := by rw [hw39]; exact f2
      have d39 : Chg (fun j => j = b11) w37 w39 := by rw [hw39]; exact Chg.st (S := fun j => j = b11) rfl
      have z39 := d39.size
      have d2839 : Chg (fun j => st.blk = some j ∨ j = b11) w28 w39 := d37.trans d39 (fun _ _ h => Or.inl h) (fun _ _ h => Or.inr h)
      have nt : ∀ j, s36.blk = some j → w15.heap.size ≤ j ∧ want.blk ≠ some j ∧ s25.blk ≠ some j := fun j hj => by
        obtain ⟨x1, x2⟩ := b36 j hj
        rcases x2 with x2 | x2
        · exact ⟨(tb j x2).1, (tb j x2).2, fun he => (nb j he).2.1 x2⟩
        · refine ⟨by omega, fun he => ?_, fun he => ?_⟩
          · have := q28.lt he; omega
          · have := h28.lt he; omega
      have o39 := o28.chg d2839 (fun he => by
        rcases he with he | he
        · exact (tb' _ he).2 rfl
        · omega)
      have h39 := h28.chg d2839 (fun j hj he => by
        rcases he with he | he
        · exact (nb j hj).2.1 he
        · have := (nb j hj).1; omega)
      have q39 := q28.chg d2839 (fun j hj he => by
        rcases he with he | he
        · exact (tb j he).2 hj
        · have := qb j hj; omega)
      have t39 : Ow intE w39 s36 (idA (k + 1)) := by
        rw [← idA_add]
        exact h37.chg d39 (fun j hj he => by have := (nt j hj).1; omega)
      have k39 : Chg No w6 w39 := c37.trans d39 (fun _ _ h => h) (fun j hj he => by omega)
      intro b41 w42 hb41 hw42
      refine app1_gen intOk (by decide) (w0 := w6) (x := valM ls k) rfl hb41 hw42 q39 k39 (fun j hj => by have := qb j hj; omega) (by rw [valsM_len]; omega) ?_
      intro s43 w44 h44 c44 d44 b43
      have z44 := d44.size
      have nq : ∀ j, s43.blk = some j → w15.heap.size ≤ j ∧ s25.blk ≠ some j ∧ s36.blk ≠ some j := fun j hj => by
        obtain ⟨x1, x2⟩ := b43 j hj
        rcases x2 with x2 | x2
        · exact ⟨qb j x2, fun he => (nb j he).2.2 x2, fun he => (nt j he).2.1 x2⟩
        · refine ⟨by omega, fun he => ?_, fun he => ?_⟩
          · have := h39.lt he; omega
          · have := t39.lt he; omega
      rw [valsM_snoc] at h44
      rw [wr_in (by omega), hI]
      refine ⟨⟨k + 1, s25, s36, by omega, by omega, o39.chg d44 (fun he => by have := qb _ he; omega), h39.chg d44 (fun j hj he => (nb j hj).2.2 he), f2.chg d44 (fun j hj he => by have hj : b11 = j := Option.some.inj hj; have := qb j he; omega), t39.chg d44 (fun j hj he => (nt j hj).2.1 he), h44, fun j hj => ⟨(nb j hj).1, fun he => (nt j he).2.2 hj, fun he => (nq j he).2.1 hj⟩, fun j hj => ⟨(nt j hj).1, fun he => (nq j he).2.2 hj⟩, fun j hj => (nq j hj).1, c44, by omega⟩, by show N - Int.toNat ((k : Int) + 1) < N - Int.toNat (k : Int); omega⟩
    · refine brB_of (fun h => ?_) (fun h => ?_)
      · have h : k < ls.length := by have := of_decide_eq_true h; omega
        refine (hl6.no c16).ix (i := (k : Int)) (x := gN ls k) (by omega) (by rw [Int.toNat_natCast]; exact gN_ix h) fun a _ hcell => ?_
        have q := hcell 0 _ rfl
        rw [add0] at q
        exact ⟨_, q, by unfold valM; rw [if_pos h], rfl⟩
      · have h : ¬ k < ls.length := by have := of_decide_eq_false h; omega
        exact ⟨by unfold valM; rw [if_neg h], rfl⟩
  · have hlt : k = N := by have := of_decide_eq_false hlt; omega
    subst hlt
    obtain ⟨vs, hvs⟩ : ∃ vs, vs = valsM ls k := ⟨_, rfl⟩
    have hvl : vs.length = k := by rw [hvs, valsM_len]
    rw [← hvs] at h16 q16
    obtain ⟨T, hT⟩ : ∃ T : TrP, T = ⟨5, 0, 0, 40, 0, s, ⟨some ⟨b11, 0, none⟩, 1, 1⟩, 0, nilS⟩ := ⟨_, rfl⟩
    rw [← hT] at o16
    have ht : TrIs (Lo w16) w16 T (manyT vs) := by
      subst hT
      exact ⟨⟨rfl, rfl, rfl, rfl, rfl, rfl⟩, h16.rd, ⟨_, g16.rd, ous_one ⟨rfl, rfl, by show Rd intE w16 st (idA vs.length); rw [hvl]; exact s16.rd, Rd.nil _ _, s16.lo, lo_nil _⟩⟩, Rd.nil _ _, h16.lo, g16.lo, lo_nil _⟩
    have hr := many_right (vs := vs) (by omega)
    have hreg := many_regs (vs := vs) (by omega) (by omega)
    rw [hvl] at hreg
    refine ⟨_, _, _, _, _, _, _, _, _, o16.cell rfl, o16.cell rfl, o16.cell rfl, o16.cell rfl, o16.cell rfl, o16.cell rfl, o16.cell rfl, o16.cell rfl, o16.cell rfl, (make_any T ht (fun k hk => hk) (Nat.zero_le _) k).mono ?_⟩
    rintro e w55 ⟨c55, h55⟩
    have z55 := c55.size
    rcases h55 with ⟨hn, _⟩ | ⟨_, _, p, rfl, hc⟩
    · exact absurd ⟨hr, by rw [hreg]; omega⟩ hn
    have o55 := o16.no c55
    refine ⟨_, _, rfl, _, _, _, _, _, _, _, _, _, o55.cell rfl, o55.cell rfl, o55.cell rfl, o55.cell rfl, o55.cell rfl, o55.cell rfl, o55.cell rfl, o55.cell rfl, o55.cell rfl, (make_any T (ht.no c55) (fun j hj => by have : j < w16.heap.size := hj; omega) (Nat.zero_le _) _).mono ?_⟩
    rintro e w68 ⟨c68, h68⟩
    have z68 := c68.size
    rcases h68 with ⟨_, rfl⟩ | ⟨_, hle, _⟩
    rotate_left
    · rw [hreg, wr_in (by omega)] at hle; omega
    obtain ⟨w72, hrun, g72, c72⟩ := make_ints (w := w68) (n := 9) (N := 9) rfl (by decide)
    refine ⟨_, _, rfl, _, w72, hrun, ?_⟩
    have c5572 := trN c68 c72
    have z72 := c72.size
    have hst : StIs Any w72 ⟨5, 0, nilS, nilS, ⟨some ⟨w68.heap.size, 0, none⟩, 9, 9⟩, bs [], bs [], 0, 0, 0⟩ (manyS 9) :=
      stis ⟨rfl, rfl, rfl, rfl, rfl, rfl, rfl⟩ (Rd.nil _ _) (Rd.nil _ _) g72.rd
    have hc72 := hc.no c5572
    refine (crun_any (⟨5, 0, nilS, nilS, ⟨some ⟨w68.heap.size, 0, none⟩, 9, 9⟩, bs [], bs [], 0, 0, 0⟩ : StC) hc72 hr hst (waS := nilS) (wl := []) (Rd.nil _ _) (by show 0 ≤ 100000; decide) (by show 0 ≤ 100000; decide) (by show (List.replicate 9 (0 : Int)).length ≤ 1000000; decide) ⟨by show (0 : Nat) ≤ _; decide, by show (0 : Nat) ≤ _; decide, by show (0 : Int) ≤ 0; decide⟩).mono ?_
    rintro e w74 ⟨S', rfl, hS', c74⟩
    have hmay : mayV (manyT vs) (manyS 9) = true := rfl
    obtain ⟨en, r1, r2, r3⟩ := many_run vs (manyS 9) rfl
    have e1 : outX (manyT vs) (manyS 9) [] = 0 := by unfold outX; rw [if_pos hmay, r1]
    have e4 : (outS (manyT vs) (manyS 9) []).stack = vs := by unfold outS; rw [if_pos hmay, r1, r2]
    have z74 := c74.size
    have c1674 := trN (trN c55 c5572) c74
    refine ⟨_, _, _, _, _, _, _, _, _, _, _, _, _, rfl, ?_⟩
    intro b88 w89 hb88 hw89 b90 w91 hb90 hw91
    have c89 := al hw89
    have c91 := al hw91
    have z89 : w89.heap.size = w74.heap.size + 1 := by rw [hw89]; simp
    have z91 : w91.heap.size = w89.heap.size + 1 := by rw [hw91]; simp
    have o88 : Ob w91 b88 (stC st0) T_api_State := by
      have : Ob w89 b88 (stC st0) T_api_State := by rw [hw89, hb88]; exact Ob.new w74 (stC st0) T_api_State
      exact this.no c91
    have o90 : Ob w91 b90 [.int .i64 0, .int .i64 0, .bool false] T_eval_Done := by rw [hw91, hb90]; exact Ob.new w89 [.int .i64 0, .int .i64 0, .bool false] T_eval_Done
    refine ⟨o88.wr (by simp [stC]), fun w92 hw92 => ?_⟩
    obtain ⟨p88, d92⟩ := o88.up (k := 0) (vs := stC S') (cs' := stC S') (by simp [stC]) rfl hw92
    have p90 := o90.chg d92 (fun he => by omega)
    refine ⟨p90.wr (by simp), fun w93 hw93 => ?_⟩
    obtain ⟨q90, d93⟩ := p90.up (k := 0) (vs := [.int .i64 (outX (manyT vs) (manyS 9) []), .int .i64 (outN (manyT vs) (manyS 9) []), .bool (outH (manyT vs) (manyS 9) [])]) (cs' := [.int .i64 (outX (manyT vs) (manyS 9) []), .int .i64 (outN (manyT vs) (manyS 9) []), .bool (outH (manyT vs) (manyS 9) [])]) (by simp) rfl hw93
    have q88 := p88.chg d93 (fun he => by omega)
    have cY : Chg (fun j => j = b88 ∨ j = b90) w74 w93 := ((trN c89 c91).trans d92 (U := fun j => j = b88 ∨ j = b90) (fun _ _ h => h.elim) (fun _ _ h => Or.inl h)).trans d93 (fun _ _ h => h) (fun _ _ h => Or.inr h)
    have eY : Chg No w74 w93 := cY.trans (Chg.refl No _) (fun j hj he => by omega) (fun _ _ h => h)
    have z93 := eY.size
    have c1693 := trN c1674 eY
    have k93 := trN (trN c6 c16) c1693
    have o93 := o16.no c1693
    have ht93 := ht.no c1693
    have hc93 := (hc72.no c74).no eY
    have hS93 := hS'.no eY
    have hlen : S'.stack.len = k := by have := hS93.st.rd.len; rw [e4, hvl] at this; exact this
    have hrd93 : Rd intE w93 S'.stack vs := by have := hS93.st.rd; rw [e4] at this; exact this
    have q93 := q16.no c1693
    refine ⟨fun b w' => b = false ∧ Chg No w93 w', ?_, ?_⟩
    · rintro b w111 ⟨rfl, c111⟩
      refine brB_f ?_
      refine ⟨fun i w' => ∃ j : Nat, i = j ∧ j ≤ k ∧ Chg No w93 w', fun i _ => k - i.toNat, ⟨0, rfl, Nat.zero_le _, c111⟩, ?_⟩
      rintro i w113 ⟨j, rfl, hj, c113⟩
      refine brB_of (fun hjl => ?_) (fun _ => ⟨rfl, trN k93 c113⟩)
      have hjl : j < k := by have := of_decide_eq_true hjl; omega
      intro w115 hw115
      have c115 := trN c113 (dw hw115)
      refine ⟨S'.stack, held_Lw ((q88.no c115).cell rfl), ?_⟩
      have hx : vs[j]? = some (gN vs j) := gN_ix (by omega)
      refine (hrd93.no c115).ix (i := (j : Int)) (by omega) (by rw [Int.toNat_natCast]; exact hx) fun a _ hcell => ?_
      have q := hcell 0 _ rfl
      rw [add0] at q
      refine ⟨_, held_Lw q, ?_⟩
      refine (q93.no c115).rd.ix (i := (j : Int)) (by omega) (by rw [Int.toNat_natCast]; exact hx) fun a' _ hcell' => ?_
      have q' := hcell' 0 _ rfl
      rw [add0] at q'
      refine ⟨_, held_Lw q', ?_⟩
      rw [show (gN vs j != gN vs j) = false by simp]
      refine brB_f ?_
      rw [wr_in (by omega)]
      exact ⟨⟨j + 1, by omega, by omega, c115⟩, by show k - Int.toNat ((j : Int) + 1) < k - Int.toNat (j : Int); omega⟩
    · refine brB_f (brB_f ?_)
      refine ⟨_, _, _, _, _, _, _, _, _, o93.cell rfl, o93.cell rfl, o93.cell rfl, o93.cell rfl, o93.cell rfl, o93.cell rfl, o93.cell rfl, o93.cell rfl, o93.cell rfl, (least_any T ht93 (fun j hj => by have : j < w16.heap.size := hj; have := c1693.size; omega)).mono ?_⟩
      rintro e w104 ⟨m, rfl, hm, _, c104⟩
      have hm : m = (k : Int) := by rw [hm hr, hreg]
      subst hm
      refine ⟨_, rfl, ?_⟩
      rw [show ((k : Int) != (k : Int)) = false by simp]
      refine brB_f ((creg_any (hc93.no c104)).mono ?_)
      rintro e w107 ⟨rfl, rfl⟩
      rw [hreg]
      refine ⟨_, rfl, ?_⟩
      rw [show decide ((k : Int) > (k : Int)) = false by simp]
      refine brB_f ⟨_, (q90.no c104).cell rfl, ?_⟩
      rw [e1]
      refine brB_f ⟨S'.stack, (q88.no c104).cell rfl, ?_, c104⟩
      rw [hlen]; simp
end Go.Proofs.Ytblmoilneiffgaa
