/- Reckoning ahead, in plain words; what it keeps. No program in sight. -/
import Derived.Test.YtblmoilneiffgaaEvQ
set_option maxRecDepth 100000
namespace Go.Proofs.Ytblmoilneiffgaa
open Go.RowKit

/-- A place's place. -/
def ofV (m : List Int) (p : Int) : Int := if p < 0 ∨ (m.length : Int) ≤ p then p else getI m p
def insM (m : List Int) (i : In5) : In5 :=
  if (usesV i).length = 2 then { i with c := ofV m i.c, d := ofV m i.d } else
  if (usesV i).length = 1 then { i with c := ofV m i.c } else i
def outM (m : List Int) (o : OuV) : OuV := { o with stack := o.stack.map (ofV m), back := o.back.map (ofV m) }
def atL (l : List In5) (p : Int) : In5 := l.getD p.toNat in0
def ConV (l : List In5) (p : Int) : Prop := 0 ≤ p ∧ p < l.length ∧ (atL l p).a = 1
instance (l : List In5) (p : Int) : Decidable (ConV l p) := by unfold ConV; infer_instance
def AllCon (l : List In5) (ps : List Int) : Prop := ∀ p ∈ ps, ConV l p
instance (l : List In5) (ps : List Int) : Decidable (AllCon l ps) := by unfold AllCon; infer_instance
/-- What a calculation comes to, if that is known. -/
def reckV (l : List In5) (i : In5) : Option Int :=
  if i.a = 4 ∧ AllCon l (usesV i) then
    (if Cn.risTwo i.b = true then (if Cn.isTwo i.b (atL l i.d).b = true then some (Cn.two i.b (atL l i.c).b (atL l i.d).b) else none)
     else if Cn.isOne i.b = true then some (Cn.one i.b (atL l i.c).b) else none)
  else none
def holdsV (l : List In5) (i : In5) : Bool :=
  decide (AllCon l (usesV i) ∧ ((i.a = 7 ∧ (atL l i.c).b ≠ 0) ∨ (i.a = 8 ∧ (atL l i.c).b = 0) ∨ (i.a = 9 ∧ (atL l i.c).b = (atL l i.d).b)))
def foldI (l : List In5) (i : In5) : In5 := match reckV l i with
  | some v => ⟨1, v, 0, 0, 0⟩
  | none => i
def foldS (q : List In5 × List Int) (i : In5) : List In5 × List Int :=
  if holdsV q.1 (insM q.2 i) = true then (q.1, q.2 ++ [-1]) else (q.1 ++ [foldI q.1 (insM q.2 i)], q.2 ++ [(q.1.length : Int)])
def foldL (r : List In5) (q : List In5 × List Int) : List In5 × List Int := r.foldl foldS q
/-- The trace that is reckoned ahead, of one that may be. -/
def foldT (t : TrG) : TrG := { t with ins := (foldL t.ins ([], [])).1, outs := t.outs.map (outM (foldL t.ins ([], [])).2) }

theorem ofV_app {m : List Int} (r : List Int) {p : Int} (h0 : 0 ≤ p) (h1 : p < m.length) : ofV (m ++ r) p = ofV m p := by
  unfold ofV
  rw [if_neg (by rw [List.length_append]; omega), if_neg (by omega)]
  unfold getI
  rw [List.getD_eq_getElem?_getD, List.getD_eq_getElem?_getD, List.getElem?_append_left (by omega)]
theorem ofV_in {m : List Int} {p : Int} (h0 : 0 ≤ p) (h1 : p < m.length) : ofV m p = getI m p := by unfold ofV; rw [if_neg (by omega)]
theorem ofV_end {m : List Int} {x p : Int} (h : p = m.length) : ofV (m ++ [x]) p = x := by
  subst h
  rw [ofV_in (by omega) (by rw [List.length_append]; simp; omega)]
  unfold getI; rw [List.getD_eq_getElem?_getD, Int.toNat_natCast, List.getElem?_append_right (Nat.le_refl _)]; simp
theorem atL_app {l : List In5} (r : List In5) {p : Int} (h0 : 0 ≤ p) (h1 : p < l.length) : atL (l ++ r) p = atL l p := by
  unfold atL
  rw [List.getD_eq_getElem?_getD, List.getD_eq_getElem?_getD, List.getElem?_append_left (by omega)]
theorem atL_end {l : List In5} {i : In5} {p : Int} (h : p = l.length) : atL (l ++ [i]) p = i := by
  subst h
  unfold atL; rw [List.getD_eq_getElem?_getD, Int.toNat_natCast, List.getElem?_append_right (Nat.le_refl _)]; simp
theorem insM_op (m : List Int) (i : In5) : (insM m i).a = i.a ∧ (insM m i).b = i.b ∧ (insM m i).e = i.e := by
  unfold insM; split
  · exact ⟨rfl, rfl, rfl⟩
  · split <;> exact ⟨rfl, rfl, rfl⟩
theorem usesV_cases (i : In5) : ((usesV i).length = 0 ∧ usesV i = []) ∨ ((usesV i).length = 1 ∧ usesV i = [i.c]) ∨ ((usesV i).length = 2 ∧ usesV i = [i.c, i.d]) := by
  unfold usesV
  repeat' split
  all_goals first | exact Or.inl ⟨rfl, rfl⟩ | exact Or.inr (Or.inl ⟨rfl, rfl⟩) | exact Or.inr (Or.inr ⟨rfl, rfl⟩)
theorem usesV_kind (i : In5) (c d : Int) : (usesV { i with c := c, d := d }).length = (usesV i).length := by
  unfold usesV
  dsimp only
  repeat' split
  all_goals first | rfl | (exfalso; omega) | (rename_i h1 h2; exact absurd h1 h2)
theorem usesV_kind' (i : In5) (c : Int) : (usesV { i with c := c }).length = (usesV i).length := usesV_kind i c i.d
theorem insM_kind (m : List Int) (i : In5) : (usesV (insM m i)).length = (usesV i).length := by
  unfold insM; split
  · exact usesV_kind _ _ _
  · split
    · exact usesV_kind' _ _
    · rfl
theorem insM_uses (m : List Int) (i : In5) : usesV (insM m i) = (usesV i).map (ofV m) := by
  have hk := insM_kind m i
  rcases usesV_cases i with ⟨h1, h2⟩ | ⟨h1, h2⟩ | ⟨h1, h2⟩
  · rw [h2]
    rw [h1] at hk
    exact List.length_eq_zero_iff.1 hk
  · rw [h1] at hk
    rcases usesV_cases (insM m i) with ⟨g1, g2⟩ | ⟨g1, g2⟩ | ⟨g1, g2⟩
    · omega
    · rw [g2, h2]
      have : (insM m i).c = ofV m i.c := by unfold insM; rw [if_neg (by omega), if_pos h1]
      rw [this]; rfl
    · omega
  · rw [h1] at hk
    rcases usesV_cases (insM m i) with ⟨g1, g2⟩ | ⟨g1, g2⟩ | ⟨g1, g2⟩
    · omega
    · omega
    · rw [g2, h2]
      have a1 : (insM m i).c = ofV m i.c := by unfold insM; rw [if_pos h1]
      have a2 : (insM m i).d = ofV m i.d := by unfold insM; rw [if_pos h1]
      rw [a1, a2]; rfl
theorem outsV_op {i j : In5} (h1 : i.a = j.a) (h2 : i.b = j.b) (h3 : i.e = j.e) : outsV i = outsV j := by unfold outsV; rw [h1, h2, h3]
/-- Places ahead of one, that give, by a list of instructions. -/
def NamL (l : List In5) (ps : List Int) (than : Nat) : Prop := ∀ p ∈ ps, 0 ≤ p ∧ p < than ∧ givesV (atL l p).a = true
theorem named_iff {t : TrG} {ps : List Int} {k : Nat} : NamedV t ps k ↔ NamL t.ins ps k := Iff.rfl
theorem NamL.app {l : List In5} {ps : List Int} {k : Nat} (h : NamL l ps k) (hk : k ≤ l.length) (r : List In5) : NamL (l ++ r) ps k := fun p hp => by
  obtain ⟨a, b, c⟩ := h p hp
  exact ⟨a, b, by rw [atL_app r a (by omega)]; exact c⟩
/-- What is known of the map, behind the first k instructions of ti. -/
structure MapOk (ti : List In5) (k : Nat) (l : List In5) (m : List Int) : Prop where
  len : m.length = k
  le : l.length ≤ k
  pl : ∀ p : Int, 0 ≤ p → p < k → givesV (atL ti p).a = true → (0 ≤ ofV m p ∧ ofV m p < l.length) ∧ givesV (atL l (ofV m p)).a = true
theorem MapOk.named {ti l : List In5} {k : Nat} {m : List Int} (h : MapOk ti k l m) {ps : List Int} (hp : NamL ti ps k) : NamL l (ps.map (ofV m)) l.length := fun q hq => by
  obtain ⟨p, hp', rfl⟩ := List.mem_map.1 hq
  obtain ⟨a, b, c⟩ := hp p hp'
  obtain ⟨d, e⟩ := h.pl p a b c
  exact ⟨d.1, d.2, e⟩
theorem MapOk.snoc {ti l : List In5} {k : Nat} {m : List Int} (h : MapOk ti k l m) {i i' : In5} (hi : ti[k]? = some i) (hg : givesV i.a = true → givesV i'.a = true) : MapOk ti (k + 1) (l ++ [i']) (m ++ [(l.length : Int)]) := by
  refine ⟨by rw [List.length_append, h.len]; rfl, by rw [List.length_append]; have := h.le; simp; omega, fun p h0 h1 hp => ?_⟩
  by_cases hk : p = k
  · rw [ofV_end (by rw [h.len]; exact hk), atL_end rfl]
    refine ⟨by rw [List.length_append]; simp; omega, hg ?_⟩
    subst hk
    have : atL ti (k : Int) = i := by unfold atL; rw [List.getD_eq_getElem?_getD, Int.toNat_natCast, hi]; rfl
    rw [← this]; exact hp
  · obtain ⟨a, b⟩ := h.pl p h0 (by omega) hp
    rw [ofV_app _ h0 (by rw [h.len]; omega)]
    exact ⟨⟨a.1, by rw [List.length_append]; omega⟩, by rw [atL_app _ a.1 a.2]; exact b⟩
theorem MapOk.skip {ti l : List In5} {k : Nat} {m : List Int} (h : MapOk ti k l m) {i : In5} (hi : ti[k]? = some i) (hg : givesV i.a = false) (x : Int) : MapOk ti (k + 1) l (m ++ [x]) := by
  refine ⟨by rw [List.length_append, h.len]; rfl, by have := h.le; omega, fun p h0 h1 hp => ?_⟩
  by_cases hk : p = k
  · subst hk
    have : atL ti (k : Int) = i := by unfold atL; rw [List.getD_eq_getElem?_getD, Int.toNat_natCast, hi]; rfl
    rw [this, hg] at hp; cases hp
  · rw [ofV_app _ h0 (by rw [h.len]; omega)]
    exact h.pl p h0 (by omega) hp
theorem MapOk.nil (ti : List In5) : MapOk ti 0 [] [] := ⟨rfl, Nat.le_refl _, fun p h0 h1 => by omega⟩
/-- One is a beginning of the other. -/
theorem foldL_more : ∀ (r : List In5) (q : List In5 × List Int), ∃ (l : List In5) (m : List Int), foldL r q = (q.1 ++ l, q.2 ++ m)
  | [], q => ⟨[], [], by simp [foldL]⟩
  | i :: r, q => by
    obtain ⟨l, m, h⟩ := foldL_more r (foldS q i)
    have : foldL (i :: r) q = foldL r (foldS q i) := rfl
    rw [this, h]
    unfold foldS
    split
    · exact ⟨l, -1 :: m, by simp⟩
    · exact ⟨foldI q.1 (insM q.2 i) :: l, (q.1.length : Int) :: m, by simp⟩
theorem givesV4 : givesV 4 = true := by decide
theorem givesV1 : givesV 1 = true := by decide
theorem holdsV_gives {l : List In5} {i : In5} (h : holdsV l i = true) : givesV i.a = false := by
  have h := of_decide_eq_true h
  apply decide_eq_false
  omega
theorem foldI_gives (l : List In5) (i : In5) (h : givesV i.a = true) : givesV (foldI l i).a = true := by
  unfold foldI
  split
  · rfl
  · exact h
theorem foldS_map {ti l : List In5} {k : Nat} {m : List Int} (h : MapOk ti k l m) {i : In5} (hi : ti[k]? = some i) : MapOk ti (k + 1) (foldS (l, m) i).1 (foldS (l, m) i).2 := by
  unfold foldS
  dsimp only
  split
  · next hh => exact h.skip hi (by rw [← (insM_op m i).1]; exact holdsV_gives hh) _
  · exact h.snoc hi (fun hg => foldI_gives _ _ (by rw [(insM_op m i).1]; exact hg))
/-- Behind all of them. -/
theorem foldL_map {ti : List In5} : ∀ (r : List In5) (k : Nat) (l : List In5) (m : List Int), ti.drop k = r → MapOk ti k l m → MapOk ti (k + r.length) (foldL r (l, m)).1 (foldL r (l, m)).2
  | [], k, l, m, _, h => h
  | i :: r, k, l, m, hd, h => by
    have hi : ti[k]? = some i := by rw [← List.head?_drop, hd]; rfl
    have hd' : ti.drop (k + 1) = r := by rw [← List.drop_drop, hd]; rfl
    have := foldL_map r (k + 1) _ _ hd' (foldS_map h hi)
    rw [List.length_cons, ← Nat.add_assoc, Nat.add_right_comm]
    exact this
theorem foldT_map (t : TrG) : MapOk t.ins t.ins.length (foldT t).ins (foldL t.ins ([], [])).2 := by
  have := foldL_map t.ins 0 [] [] rfl (MapOk.nil _)
  rw [Nat.zero_add] at this; exact this
theorem foldT_out (t : TrG) {x : Int} (h0 : 0 ≤ x) (h1 : x < t.outs.length) : outAt (foldT t) x = outM (foldL t.ins ([], [])).2 (outAt t x) := by
  unfold outAt foldT
  dsimp only
  rw [List.getD_eq_getElem?_getD, List.getD_eq_getElem?_getD, List.getElem?_map, List.getElem?_eq_getElem (by omega)]; rfl
theorem map_of_app {m : List Int} (r : List Int) {l : List In5} {ps : List Int} {k : Nat} (hk : m.length = k) (h : NamL l ps k) : ps.map (ofV (m ++ r)) = ps.map (ofV m) := by
  apply List.map_congr_left
  intro p hp
  obtain ⟨a, b, _⟩ := h p hp
  exact ofV_app r a (by omega)
/-- An exit that was named, in the other trace. -/
theorem foldT_named {t : TrG} {x : Int} {k : Nat} {l : List In5} {m : List Int} (hm : MapOk t.ins k l m) (hx : OutV t x k) {l' : List In5} {m' : List Int} (hl : (foldT t).ins = l ++ l') (hm' : (foldL t.ins ([], [])).2 = m ++ m') : OutV (foldT t) x l.length := by
  obtain ⟨h0, h1, h2, h3⟩ := hx
  refine ⟨h0, by unfold foldT; simpa using h1, ?_, ?_⟩
  · rw [foldT_out t h0 h1, named_iff, hl]
    unfold outM; dsimp only
    rw [hm', map_of_app m' hm.len (named_iff.1 h2)]
    exact (hm.named (named_iff.1 h2)).app (Nat.le_refl _) _
  · rw [foldT_out t h0 h1, named_iff, hl]
    unfold outM; dsimp only
    rw [hm', map_of_app m' hm.len (named_iff.1 h3)]
    exact (hm.named (named_iff.1 h3)).app (Nat.le_refl _) _
theorem reckV_some {l : List In5} {i : In5} {v : Int} (h : reckV l i = some v) : i.a = 4 ∧ AllCon l (usesV i) := by
  unfold reckV at h
  split at h
  · assumption
  · cases h
/-- Every instruction of it may be. -/
theorem foldL_each {t : TrG} (hr : RightV t) : ∀ (r : List In5) (k : Nat) (l : List In5) (m : List Int), t.ins.drop k = r → MapOk t.ins k l m → (foldL r (l, m)) = foldL t.ins ([], []) →
    (∀ (j : Nat) (i : In5), l[j]? = some i → EachV (foldT t) j i) → ∀ (j : Nat) (i : In5), (foldL r (l, m)).1[j]? = some i → EachV (foldT t) j i
  | [], k, l, m, _, _, _, h, j, i, hji => h j i hji
  | i :: r, k, l, m, hd, hm, he, h, j, i', hji => by
    have hi : t.ins[k]? = some i := by rw [← List.head?_drop, hd]; rfl
    have hd' : t.ins.drop (k + 1) = r := by rw [← List.drop_drop, hd]; rfl
    have hstep : foldL (i :: r) (l, m) = foldL r (foldS (l, m) i) := rfl
    refine foldL_each hr r (k + 1) _ _ hd' (foldS_map hm hi) (by rw [← he, hstep]) (fun j i' hj => ?_) j i' (by rw [hstep] at hji; exact hji)
    unfold foldS at hj
    dsimp only at hj
    split at hj
    · exact h j i' hj
    · by_cases hjl : j < l.length
      · rw [List.getElem?_append_left hjl] at hj; exact h j i' hj
      · rw [List.getElem?_append_right (by omega)] at hj
        have hj0 : j - l.length = 0 := by
          rcases Nat.eq_zero_or_pos (j - l.length) with h | h
          · exact h
          · rw [List.getElem?_eq_none (by simp; omega)] at hj; cases hj
        rw [hj0] at hj
        obtain rfl := Option.some.inj hj
        have hjj : j = l.length := by omega
        subst hjj
        obtain ⟨l', m', hmore⟩ := foldL_more (i :: r) (l, m)
        rw [he] at hmore
        have hl' : (foldT t).ins = l ++ l' := by unfold foldT; dsimp only; rw [hmore]
        have hm' : (foldL t.ins ([], [])).2 = m ++ m' := by rw [hmore]
        obtain ⟨a1, a2, a3, a4, a5, a6⟩ := hr.each k i hi
        obtain ⟨o1, o2, o3⟩ := insM_op m i
        unfold foldI
        split
        · refine ⟨⟨by show (1 : Int) ≤ 1; decide, by show (1 : Int) ≤ 12; decide⟩, (fun h => by cases h), (fun h => by cases h), (fun h => by cases h), fun p hp => ?_, fun x hx => ?_⟩
          · exact absurd hp (by simp [usesV])
          · exact absurd hx (by simp [outsV])
        · refine ⟨by rw [o1]; exact a1, by rw [o1, o2]; exact a2, by rw [o1, o2]; exact a3, by rw [o1, o2]; exact a4, ?_, fun x hx => ?_⟩
          · rw [named_iff, hl', insM_uses]
            exact (hm.named (named_iff.1 a5)).app (Nat.le_refl _) _
          · rw [outsV_op o1 o2 o3] at hx
            exact foldT_named hm (a6 x hx) hl' hm'
theorem foldT_right {t : TrG} (hr : RightV t) : RightV (foldT t) := by
  have hm := foldT_map t
  obtain ⟨q1, q2, q3⟩ := hr.head
  refine ⟨⟨by have := hm.le; omega, by unfold foldT; simpa using q2, q3⟩, fun k i hi => ?_, fun k o ho => ?_, hr.cells, ?_, ?_⟩
  · exact foldL_each hr t.ins 0 [] [] rfl (MapOk.nil _) rfl (fun j i h => by simp at h) k i hi
  · unfold foldT at ho
    dsimp only at ho
    rw [List.getElem?_map] at ho
    obtain ⟨o', ho', rfl⟩ := Option.map_eq_some_iff.1 ho
    obtain ⟨e1, e2, e3, e4⟩ := hr.exits k o' ho'
    exact ⟨e1, e2, by unfold outM; dsimp only; rw [List.length_map]; exact e3, by unfold outM; dsimp only; rw [List.length_map]; exact e4⟩
  · exact foldT_named hm hr.last (l' := []) (m' := []) (by simp) (by simp)
  · show 1 ≤ (outAt (foldT t) t.last).steps
    rw [foldT_out t hr.last.1 hr.last.2.1]
    exact hr.lastS
end Go.Proofs.Ytblmoilneiffgaa
