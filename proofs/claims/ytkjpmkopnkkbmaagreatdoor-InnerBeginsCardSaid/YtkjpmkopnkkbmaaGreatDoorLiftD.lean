/- The lift, continued: regions, code, calls. -/
import Derived.Test.YtkjpmkopnkkbmaaGreatDoorLiftC
namespace Go.Proofs.YtkjpmkopnkkbmaaGreatDoor
open Go.RowKit

/-! ### Regions -/
def pd (n : Nat) (l : Fl) (dst : Option Nat) (v : Value) (G : Fl → Prop) : Prop :=
  match dst with
  | none => G l
  | some d => match Nat.blt d n with | true => G ((d, v) :: l) | false => False
def gv (all : List Oper) (l : Fl) (j : Nat) : Option (Nat × Bool) :=
  match all[j]? with
  | some o => match o.dst with
    | some t => match lkN l t with | some (.bool b) => some (t, b) | _ => none
    | none => none
  | none => none
/-- The guard was itself passed over. -/
def gu (all : List Oper) (l : Fl) (j : Nat) : Bool :=
  match all[j]? with
  | some o => match o.dst with
    | some t => match lkN l t with | some (.tuple _) => true | _ => false
    | none => false
  | none => false
def wops {P : Program} (C : Orc P) (n : Nat) (all : List Oper) : List Oper → Fl → World → (Fl → World → Prop) → Prop
  | [], l, w, K => K l w
  | o :: r, l, w, K =>
    match o.guard with
    | none => wo C l o w fun v w' => pd n l o.dst v fun l' => wops C n all r l' w' K
    | some (j, want) =>
      match gv all l j with
      | some (t, b) =>
        brB b
          (match want with
           | true => wo C ((t, .bool true) :: l) o w fun v w' => pd n ((t, .bool true) :: l) o.dst v fun l' => wops C n all r l' w' K
           | false => pd n ((t, .bool true) :: l) o.dst undef fun l' => wops C n all r l' w K)
          (match want with
           | false => wo C ((t, .bool false) :: l) o w fun v w' => pd n ((t, .bool false) :: l) o.dst v fun l' => wops C n all r l' w' K
           | true => pd n ((t, .bool false) :: l) o.dst undef fun l' => wops C n all r l' w K)
      | none => match gu all l j with | true => pd n l o.dst undef fun l' => wops C n all r l' w K | false => False
def dsts : List Oper → List Nat
  | [] => []
  | o :: r => match o.dst with | some d => d :: dsts r | none => dsts r

section
variable {P : Program}
theorem Has.pd {n : Nat} {a : Act} {l : Fl} (h : Has n a l) {dst : Option Nat} {v : Value} {G : Fl → Prop} (hg : pd n l dst v G) : ∃ l', Has n (a.put dst v) l' ∧ G l' := by
  unfold Go.Proofs.YtkjpmkopnkkbmaaGreatDoor.pd at hg
  split at hg
  · exact ⟨l, h, hg⟩
  · split at hg
    · rename_i hd
      exact ⟨_, h.put (by simpa [Nat.blt_eq] using hd) v, hg⟩
    · exact hg.elim
theorem put_other {a : Act} {dst : Option Nat} {v : Value} {t : Nat} (h : ∀ d, dst = some d → d ≠ t) : (a.put dst v).tmps[t]? = a.tmps[t]? := by
  cases dst with
  | none => rfl
  | some d => simp [Act.put, Array.getElem?_setIfInBounds_ne (h d rfl)]
theorem gv_of {ops : Array Oper} {n : Nat} {a : Act} {l : Fl} (h : Has n a l) {j t : Nat} {b : Bool} (hg : gv ops.toList l j = some (t, b)) : yielded ops a.tmps j = some b ∧ lkN l t = some (.bool b) := by
  unfold gv at hg
  split at hg
  · rename_i o ho
    split at hg
    · rename_i t' ht
      split at hg
      · rename_i b' hb
        injection hg with hg; injection hg with e1 e2; subst e1 e2
        refine ⟨?_, hb⟩
        have h1 := h.get _ _ hb
        have h2 : ops[j]? = some o := by simpa using ho
        simp [yielded, h2, ht, h1]
      · cases hg
    · cases hg
  · cases hg
theorem gu_of {ops : Array Oper} {n : Nat} {a : Act} {l : Fl} (h : Has n a l) {j : Nat} (hg : gu ops.toList l j = true) : yielded ops a.tmps j = none := by
  unfold gu at hg
  split at hg
  · rename_i o ho
    split at hg
    · rename_i t' ht
      split at hg
      · rename_i vs hb
        have h1 := h.get _ _ hb
        have h2 : ops[j]? = some o := by simpa using ho
        simp [yielded, h2, ht, h1]
      · cases hg
    · cases hg
  · cases hg
theorem wp_of_does {o : Oper} {a : Act} {w : World} {F : Value → World → Prop} {K : Act → World → Prop} {Q : Exit → Act → World → Prop} (h : Does P ((execOp a.eval o).run P w) F)
    (hK : ∀ v w', F v w' → K (a.put o.dst v) w') : o.wp P a w K Q := by
  unfold Oper.wp
  generalize (execOp a.eval o).run P w = r at h
  cases r with
  | ok x w' =>
    cases x <;> simp only [Does] at h <;> simp only [Oper.upon]
    case value v => exact hK _ _ h
    case skip => exact hK _ _ h
    case enter f args =>
      exact h.mono fun e w'' ⟨v, he, hF⟩ => by subst he; exact hK _ _ hF
    all_goals exact h.elim
  | halt x w' => exact h.elim
theorem wops_sound (C : Orc P) {n : Nat} {ops : Array Oper} {Q : Exit → Act → World → Prop} {K : Fl → World → Prop} : ∀ (r : List Oper) (l : Fl) (a : Act) (w : World), Has n a l → wops C n ops.toList r l w K →
    (∀ l' a' w', Has n a' l' → K l' w' → (∀ t, t ∉ dsts r → a'.tmps[t]? = a.tmps[t]?) → Q .normal a' w') → wpList P ops Q r a w
  | [], l, a, w, ha, h, hK => hK l a w ha h fun _ _ => rfl
  | o :: r, l, a, w, ha, h, hK => by
    have rest : ∀ v w' l', Has n (a.put o.dst v) l' → wops C n ops.toList r l' w' K → wpList P ops Q r (a.put o.dst v) w' := by
      intro v w' l' ha' h'
      refine wops_sound C r l' _ w' ha' h' fun l'' a'' w'' h1 h2 h3 => hK l'' a'' w'' h1 h2 fun t ht => ?_
      unfold dsts at ht
      cases hd : o.dst with
      | none => rw [hd] at ht h3; rw [h3 t ht]; exact put_other (by simp)
      | some d =>
        rw [hd] at ht h3
        simp only [List.mem_cons, not_or] at ht
        rw [h3 t ht.2]; exact put_other (by rintro _ ⟨⟩; exact fun e => ht.1 e.symm)
    have exec : ∀ l1, Has n a l1 → Region.wanted o (yielded ops a.tmps) = true → wo C l1 o w (fun v w' => pd n l1 o.dst v fun l' => wops C n ops.toList r l' w' K) → wpList P ops Q (o :: r) a w := by
      intro l1 h1 hw h2
      unfold wpList
      rw [if_pos hw]
      refine .inl (wp_of_does (wo_sound C (fun x v hx => h1.ov hx) h2) fun v w' h3 => ?_)
      obtain ⟨l', h4, h5⟩ := h1.pd h3
      exact rest v w' l' h4 h5
    have skip : ∀ l1, Has n a l1 → Region.wanted o (yielded ops a.tmps) = false → pd n l1 o.dst undef (fun l' => wops C n ops.toList r l' w K) → wpList P ops Q (o :: r) a w := by
      intro l1 h1 hw h2
      unfold wpList
      rw [if_neg (by rw [hw]; simp)]
      obtain ⟨l', h4, h5⟩ := h1.pd h2
      exact rest _ w l' h4 h5
    unfold wops at h
    split at h
    · rename_i hg
      exact exec l ha (by simp [Region.wanted, hg]) h
    · rename_i j want hg
      split at h
      · rename_i t b hgv
        obtain ⟨hy, hl⟩ := gv_of ha hgv
        have hb := brB_iff.1 h
        cases b
        · have hb := hb.2 rfl
          cases want
          · exact exec _ (ha.know hl) (by simp [Region.wanted, hg, hy]) hb
          · exact skip _ (ha.know hl) (by simp [Region.wanted, hg, hy]) hb
        · have hb := hb.1 rfl
          cases want
          · exact skip _ (ha.know hl) (by simp [Region.wanted, hg, hy]) hb
          · exact exec _ (ha.know hl) (by simp [Region.wanted, hg, hy]) hb
      · split at h
        · rename_i hu
          exact skip l ha (by simp [Region.wanted, hg, gu_of ha hu]) h
        · exact h.elim
end

/-! ### Loops: what holds of the slots, by their kinds -/
def KT : Kd → Type
  | .int _ => Int | .bool => Bool | .str => ByteArray | .ptr => Option Addr | .sl => Sl | .mp => Option Nat | .val => Value | .blk => Nat
def Cur : List Kd → Type → Type
  | [], X => X
  | k :: r, X => KT k → Cur r X
def dec {X : Type} (bad : X) : (ks : List Kd) → Cur ks X → List Value → X
  | [], f, vs => match vs with | [] => f | _ => bad
  | .int k :: r, f, vs => match vs with | .int k' n :: vs => (match kq k k' with | true => dec bad r (f n) vs | false => bad) | _ => bad
  | .bool :: r, f, vs => match vs with | .bool b :: vs => dec bad r (f b) vs | _ => bad
  | .str :: r, f, vs => match vs with | .string s :: vs => dec bad r (f s) vs | _ => bad
  | .ptr :: r, f, vs => match vs with | .pointer p :: vs => dec bad r (f p) vs | _ => bad
  | .sl :: r, f, vs => match vs with | .slice p n c :: vs => dec bad r (f (⟨p, n, c⟩ : Sl)) vs | _ => bad
  | .mp :: r, f, vs => match vs with | .map m :: vs => dec bad r (f m) vs | _ => bad
  | .val :: r, f, vs => match vs with | v :: vs => dec bad r (f v) vs | _ => bad
  | .blk :: r, f, vs => match vs with | .pointer (some ⟨b, 0, none⟩) :: vs => dec bad r (f b) vs | _ => bad
def allL : List Kd → List Value → (List Value → Prop) → Prop
  | [], acc, F => F acc
  | .int k :: r, acc, F => ∀ n : Int, allL r (acc ++ [.int k n]) F
  | .bool :: r, acc, F => ∀ b : Bool, allL r (acc ++ [.bool b]) F
  | .str :: r, acc, F => ∀ s : ByteArray, allL r (acc ++ [.string s]) F
  | .ptr :: r, acc, F => ∀ p : Option Addr, allL r (acc ++ [.pointer p]) F
  | .sl :: r, acc, F => ∀ s : Sl, allL r (acc ++ [s.val]) F
  | .mp :: r, acc, F => ∀ m : Option Nat, allL r (acc ++ [.map m]) F
  | .val :: r, acc, F => ∀ v : Value, allL r (acc ++ [v]) F
  | .blk :: r, acc, F => ∀ b : Nat, allL r (acc ++ [.pointer (some ⟨b, 0, none⟩)]) F
theorem allL_dec {F : List Value → Prop} {w : World} : ∀ (ks : List Kd) (acc : List Value) (I : Cur ks (World → Prop)) (vs : List Value), allL ks acc F → dec (fun _ => False) ks I vs w → F (acc ++ vs) := by
  intro ks
  induction ks with
  | nil =>
    intro acc I vs h hd
    cases vs with
    | nil => simpa [allL] using h
    | cons v vs => exact hd.elim
  | cons k r ih =>
    intro acc I vs h hd
    cases vs with
    | nil => cases k <;> exact hd.elim
    | cons v vs =>
      have fin : ∀ (I' : Cur r (World → Prop)), allL r (acc ++ [v]) F → dec (fun _ => False) r I' vs w → F (acc ++ v :: vs) := fun I' h1 h2 => by
        have := ih (acc ++ [v]) I' vs h1 h2
        simpa using this
      cases k with
      | int k =>
        cases v with
        | int k' n =>
          change (match kq k k' with | true => dec (fun _ => False) r (I n) vs | false => (fun _ => False)) w at hd
          cases hk : kq k k' with
          | true => rw [hk] at hd; obtain rfl := kq_eq hk; exact fin (I n) (h n) hd
          | false => rw [hk] at hd; exact hd.elim
        | _ => exact hd.elim
      | bool => cases v with
        | bool b => exact fin (I b) (h b) hd
        | _ => exact hd.elim
      | str => cases v with
        | string b => exact fin (I b) (h b) hd
        | _ => exact hd.elim
      | ptr => cases v with
        | pointer b => exact fin (I b) (h b) hd
        | _ => exact hd.elim
      | sl => cases v with
        | slice p n c => exact fin (I (⟨p, n, c⟩ : Sl)) (h ⟨p, n, c⟩) hd
        | _ => exact hd.elim
      | mp => cases v with
        | map b => exact fin (I b) (h b) hd
        | _ => exact hd.elim
      | val => exact fin (I v) (h v) hd
      | blk => cases v with
        | pointer p =>
          match p, hd, fin with
          | some ⟨b, 0, none⟩, hd, fin => exact fin (I b) (h b) hd
          | some ⟨b, k + 1, none⟩, hd, fin => exact hd.elim
          | some ⟨b, 0, some _⟩, hd, fin => exact hd.elim
          | some ⟨b, k + 1, some _⟩, hd, fin => exact hd.elim
          | none, hd, fin => exact hd.elim
        | _ => exact hd.elim
def lks (l : Fl) : List Nat → Option (List Value)
  | [] => some []
  | t :: r => match lkN l t with | some v => (match lks l r with | some vs => some (v :: vs) | none => none) | none => none
def zipl : List Nat → List Value → Fl → Fl
  | t :: ts, v :: vs, l => (t, v) :: zipl ts vs l
  | _, _, l => l
def memB (t : Nat) : List Nat → Bool
  | [] => false
  | x :: r => match Nat.beq x t with | true => true | false => memB t r
def rmA (A : List Nat) : Fl → Fl
  | [] => []
  | (t, v) :: r => match memB t A with | true => rmA A r | false => (t, v) :: rmA A r
def subB (A : List Nat) : List Nat → Bool
  | [] => true
  | t :: r => match memB t A with | true => subB A r | false => false
theorem memB_iff {t : Nat} : ∀ {A : List Nat}, memB t A = true ↔ t ∈ A
  | [] => by simp [memB]
  | x :: r => by
    unfold memB
    by_cases h : x = t
    · subst h; simp
    · have : Nat.beq x t = false := by
        cases hb : Nat.beq x t with
        | true => exact absurd (Nat.eq_of_beq_eq_true hb) h
        | false => rfl
      simp [this, memB_iff, Ne.symm h]
theorem rmA_get {A : List Nat} {t : Nat} {v : Value} : ∀ {l : Fl}, lkN (rmA A l) t = some v → t ∉ A ∧ lkN l t = some v
  | [], h => by simp [rmA, lkN] at h
  | (k, u) :: r, h => by
    unfold rmA at h
    split at h
    · rename_i hm
      obtain ⟨h1, h2⟩ := rmA_get h
      refine ⟨h1, ?_⟩
      rw [lkN_cons, if_neg (fun e => h1 (by subst e; exact memB_iff.1 hm))]; exact h2
    · rename_i hm
      rw [lkN_cons] at h ⊢
      by_cases e : k = t
      · subst e
        rw [if_pos rfl] at h ⊢
        exact ⟨fun hk => (by rw [memB_iff.2 hk] at hm; cases hm), h⟩
      · rw [if_neg e] at h ⊢
        exact rmA_get h
theorem zipl_get {l : Fl} {t : Nat} {v : Value} : ∀ {ts : List Nat} {vs : List Value}, lkN (zipl ts vs l) t = some v → (t ∈ ts ∧ ∃ i : Nat, ts[i]? = some t ∧ vs[i]? = some v) ∨ lkN l t = some v
  | [], vs, h => .inr (by cases vs <;> exact h)
  | k :: ts, [], h => .inr h
  | k :: ts, u :: vs, h => by
    unfold zipl at h
    rw [lkN_cons] at h
    by_cases e : k = t
    · rw [if_pos e] at h; injection h with h; subst h e
      exact .inl ⟨by simp, 0, rfl, rfl⟩
    · rw [if_neg e] at h
      rcases zipl_get h with ⟨h1, i, h2, h3⟩ | h
      · exact .inl ⟨by simp [h1], i + 1, h2, h3⟩
      · exact .inr h
theorem lks_get {l : Fl} : ∀ {ts : List Nat} {vs : List Value}, lks l ts = some vs → ∀ (i t : Nat) (v : Value), ts[i]? = some t → vs[i]? = some v → lkN l t = some v
  | [], vs, h, i, t, v, h1, h2 => by simp at h1
  | k :: ts, vs, h, i, t, v, h1, h2 => by
    unfold lks at h
    split at h
    · rename_i u hu
      split at h
      · rename_i us hus
        injection h with h; subst h
        cases i with
        | zero => simp at h1 h2; subst h1 h2; exact hu
        | succ i => exact lks_get hus i t v (by simpa using h1) (by simpa using h2)
      · cases h
    · cases h
theorem lks_tmps {n : Nat} {a : Act} {l : Fl} (ha : Has n a l) : ∀ {ts : List Nat} {vs : List Value}, lks l ts = some vs → ts.map (fun t => a.tmps.getD t undef) = vs
  | [], vs, h => by simp [lks] at h; simp [h]
  | k :: ts, vs, h => by
    unfold lks at h
    split at h
    · rename_i u hu
      split at h
      · rename_i us hus
        injection h with h; subst h
        have h1 := ha.get _ _ hu
        have h2 := lks_tmps ha hus
        simp only [List.map_cons, h2]
        congr 1
        simp [h1]
      · cases h
    · cases h
end Go.Proofs.YtkjpmkopnkkbmaaGreatDoor
