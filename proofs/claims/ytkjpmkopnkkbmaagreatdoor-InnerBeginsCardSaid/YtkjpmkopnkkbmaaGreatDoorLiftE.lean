/- The lift, continued: operations that leave the world alone, whatever order is drawn. -/
import Derived.Test.YtkjpmkopnkkbmaaGreatDoorLiftD
namespace Go.Proofs.YtkjpmkopnkkbmaaGreatDoor
open Go.RowKit

def stb : Op → Bool
  | .move _ | .assign _ | .pick .. | .load .. | .nilCheck _ | .binOp .. | .unOp .. | .extract .. | .fieldAddr .. | .indexAddr .. | .index .. | .slice .. | .convert .. => true
  | .call c => match c.callee with | .builtin .len => true | .builtin .min => true | .builtin .max => true | _ => false
  | _ => false
/-- In every world of S the cell holds it. -/
def held (S : World → Prop) (p : Addr) (v : Value) : Prop := ∀ w, S w → w.cell? p = some v
def cellsAtS (S : World → Prop) (p : Addr) : Nat → List Value → Prop → Prop
  | _, [], G => G
  | i, v :: r, G => held S (p.add i) v ∧ cellsAtS S p (i + 1) r G
def ldS (i : Bool × List Kd) (S : World → Prop) (p : Addr) (F : Value → Prop) : Prop :=
  match i with
  | (true, ks) => exL ks [] fun vs => match Nat.beq vs.length ks.length with | true => cellsAtS S p 0 vs (F (.agg vs.toArray)) | false => False
  | (false, ks) => exL ks [] fun vs => match vs with | [v] => held S p v ∧ F v | _ => False
def slQ (o : Option Addr) (n c : Nat) (lo hi : Option Int) (size : Nat) (G : Sl → Prop) : Prop :=
  match lo, hi with
  | none, none => G (Sl.sub o c 0 n size)
  | some l, none => 0 ≤ l ∧ l ≤ n ∧ G (Sl.sub o c l.toNat n size)
  | none, some h => 0 ≤ h ∧ h ≤ c ∧ G (Sl.sub o c 0 h.toNat size)
  | some l, some h => 0 ≤ l ∧ l ≤ h ∧ h ≤ c ∧ G (Sl.sub o c l.toNat h.toNat size)
def bltQ {P : Program} (C : Orc P) (b : Builtin) (ts : Array TypeId) (vs : List Value) (F : Value → Prop) : Prop :=
  match b, vs with
  | .len, [.slice _ n _] => match ts[0]? with | some t => (match lkN C.ts t with | some { tk := .sl _, .. } => F (.int .i64 n) | _ => False) | none => False
  | .len, [.string s] => match ts[0]? with | some t => (match lkN C.ts t with | some { tk := .str, .. } => F (.int .i64 s.size) | _ => False) | none => False
  | .min, [.int k x, .int _ y] => F (.int k (imin x y))
  | .max, [.int k x, .int _ y] => F (.int k (imax x y))
  | _, _ => False
/-- What is enough for an operation that leaves the world alone, in every world of a class. -/
def wq {P : Program} (C : Orc P) (l : Fl) (o : Oper) (S : World → Prop) (F : Value → Prop) : Prop :=
  match o.op with
  | .move x => un (ov l x) F
  | .assign x => un (ov l x) F
  | .pick c a b =>
    match ov l c with
    | some (.bool t) => brB t (un (ov l a) F) (un (ov l b) F)
    | _ => False
  | .load t a =>
    match lkN C.ts t, ov l a with
    | some i, some (.pointer (some p)) => ldS (i.agg, i.ks) S p F
    | _, _ => False
  | .nilCheck x =>
    match ov l x with
    | some (.pointer p) => nn p fun a => F (.pointer (some a))
    | _ => False
  | .binOp op t x y _ => match ov l x, ov l y with | some a, some b => bin C.ts op t a b F | _, _ => False
  | .unOp op _ x =>
    match op, ov l x with
    | .not, some (.bool b) => F (.bool (!b))
    | .neg, some (.int k n) => F (.int k (k.wrap (0 - n)))
    | .xor, some (.int k n) => F (.int k (ixor k (if k.signed then -1 else k.max) n))
    | _, _ => False
  | .extract x i => match ov l x with | some (.tuple vs) => un vs[i]? F | _ => False
  | .fieldAddr t x f =>
    match lkN C.ts t, ov l x with
    | some { tk := .st fs, .. }, some (.pointer (some p)) =>
      match fs[f]? with
      | some (off, t') => match lkN C.ts t' with | some { ks := _ :: _, .. } => F (.pointer (some (p.add off))) | _ => False
      | none => False
    | _, _ => False
  | .indexAddr t x i =>
    match lkN C.ts t, ov l x, ov l i with
    | some { tk := .sl e, .. }, some (.slice o n _), some (.int _ j) =>
      match lkN C.ts e with | some ie => ∃ p, o = some p ∧ 0 ≤ j ∧ j < n ∧ F (.pointer (some (p.add (j.toNat * ie.ks.length)))) | none => False
    | some { tk := .arr n e, .. }, some (.pointer (some p)), some (.int _ j) =>
      match lkN C.ts e with | some ie => 0 ≤ j ∧ j < n ∧ F (.pointer (some (p.add (j.toNat * ie.ks.length)))) | none => False
    | _, _, _ => False
  | .index t x i =>
    match lkN C.ts t, ov l x, ov l i with
    | some { tk := .str, .. }, some (.string s), some (.int _ j) => 0 ≤ j ∧ j < s.size ∧ F (.int .u8 (sb s j))
    | _, _, _ => False
  | .slice t x lo hi none =>
    match lkN C.ts t, ov l x, oint l lo, oint l hi with
    | some { tk := .sl e, .. }, some (.slice o n c), some lo', some hi' => match lkN C.ts e with | some ie => slQ o n c lo' hi' ie.ks.length fun s => F s.val | none => False
    | some { tk := .str, .. }, some (.string s), some lo', some hi' => stK s lo' hi' fun s' => F (.string s')
    | _, _, _, _ => False
  | .convert s d x =>
    match ov l x, lkN C.ts d, lkN C.ts s with
    | some (.int _ n), some { tk := .int k, .. }, some _ => F (.int k (k.wrap n))
    | _, _, _ => False
  | .call c =>
    match c.callee with
    | .builtin b => ovs l c.args.toList [] fun vs => bltQ C b c.argTypes vs F
    | _ => False
  | _ => False

section
variable {P : Program}
/-- The operation yields v in every world of the class, and leaves it alone. -/
def Yld (P : Program) (o : Oper) (ρ : Operand → Value) (S : World → Prop) (v : Value) : Prop := ∀ w, S w → (execOp ρ o).run P w = .ok (.value v) w
theorem cellsAtS_run {S : World → Prop} {p : Addr} {G : Prop} : ∀ (vs : List Value) (i : Nat), cellsAtS S p i vs G →
    (∀ w, S w → ∀ acc : Array Value, (loadCellsFrom p i vs.length acc).run P w = .ok (acc ++ vs.toArray) w) ∧ G
  | [], i, h => ⟨fun w _ acc => by simp [loadCellsFrom, Sem.run_pure], h⟩
  | v :: r, i, h => by
    obtain ⟨h1, h2⟩ := h
    obtain ⟨h3, h4⟩ := cellsAtS_run r (i + 1) h2
    refine ⟨fun w hw acc => ?_, h4⟩
    simp only [List.length_cons, loadCellsFrom, Sem.run_bind, load, Sem.run, h1 w hw, Result.andThen_ok, h3 w hw]
    congr 1
    simp
theorem ldS_run {i : Ti} {t : TypeId} (hi : TiOk P t i) {S : World → Prop} {p : Addr} {F : Value → Prop} (h : ldS (i.agg, i.ks) S p F) : ∃ v, (∀ w, S w → (loadVar t p).run P w = .ok v w) ∧ F v := by
  unfold ldS at h
  simp only [loadVar, Sem.run_bind, hi.agg, Result.andThen_ok]
  split at h
  · rename_i b ks hb
    injection hb with h1 h2
    subst h2
    obtain ⟨vs, h⟩ := exL_of h
    split at h
    · rename_i hl
      have hl := Nat.eq_of_beq_eq_true hl
      obtain ⟨h3, h4⟩ := cellsAtS_run (P := P) vs 0 h
      refine ⟨_, fun w hw => ?_, h4⟩
      rw [h1]
      simp only [if_true, Sem.run_bind, hi.size, Result.andThen_ok, loadCells, ← hl, h3 w hw, Sem.run_pure]
      simp
    · exact h.elim
  · rename_i b ks hb
    injection hb with h1 h2
    obtain ⟨vs, h⟩ := exL_of h
    split at h
    · refine ⟨_, fun w hw => ?_, h.2⟩
      rw [h1]
      simp [load, Sem.run, h.1 w hw]
    · exact h.elim
theorem slQ_run {o : Option Addr} {n c : Nat} {lo hi : Option Int} {size : Nat} {G : Sl → Prop} (t e : TypeId) (ht : ∀ w, (underlying t).run P w = .ok (.slice e) w) (hs : ∀ w, (sizeOf e).run P w = .ok size w)
    (kl kh : IntKind) (h : slQ o n c lo hi size G) : ∃ s' : Sl, (∀ w, (Instr.sliceAt t (.slice o n c) (lo.map (.int kl)) (hi.map (.int kh)) none).run P w = .ok s'.val w) ∧ G s' := by
  have key : ∀ s', (slK o n c lo hi size (fun x => x = s')) → ∀ w, (Instr.sliceAt t (.slice o n c) (lo.map (.int kl)) (hi.map (.int kh)) none).run P w = .ok s'.val w := fun s' h w => by
    obtain ⟨x, h1, rfl⟩ := slK_run w t e ht hs kl kh h
    exact h1
  unfold slQ at h
  cases lo <;> cases hi <;> simp only at h
  · exact ⟨_, key _ (fun s' e => e), h⟩
  · exact ⟨_, key _ ⟨h.1, h.2.1, fun s' e => e⟩, h.2.2⟩
  · exact ⟨_, key _ ⟨h.1, h.2.1, fun s' e => e⟩, h.2.2⟩
  · exact ⟨_, key _ ⟨h.1, h.2.1, h.2.2.1, fun s' e => e⟩, h.2.2.2⟩
theorem stQ_run {s : ByteArray} {lo hi : Option Int} {G : ByteArray → Prop} (t : TypeId) (ht : ∀ w, (underlying t).run P w = .ok .string w)
    (kl kh : IntKind) (h : stK s lo hi G) : ∃ s', (∀ w, (Instr.sliceAt t (.string s) (lo.map (.int kl)) (hi.map (.int kh)) none).run P w = .ok (.string s') w) ∧ G s' := by
  have key : ∀ s', (stK s lo hi (fun x => x = s')) → ∀ w, (Instr.sliceAt t (.string s) (lo.map (.int kl)) (hi.map (.int kh)) none).run P w = .ok (.string s') w := fun s' h w => by
    obtain ⟨x, h1, rfl⟩ := stK_run w t ht kl kh h
    exact h1
  unfold stK at h
  cases lo <;> cases hi <;> simp only at h
  · exact ⟨_, key _ rfl, h⟩
  · exact ⟨_, key _ ⟨h.1, h.2.1, rfl⟩, h.2.2⟩
  · exact ⟨_, key _ ⟨h.1, h.2.1, rfl⟩, h.2.2⟩
  · exact ⟨_, key _ ⟨h.1, h.2.1, h.2.2.1, rfl⟩, h.2.2.2⟩

theorem binI_Q {op : BinOp} {k : IntKind} {a b : Int} {F : Value → Prop} (h : binI op k a b F) : ∃ v, F v ∧ binI op k a b (· = v) := by
  cases op <;> simp only [binI] at h ⊢ <;> first | exact h.elim | exact ⟨_, h, rfl⟩ | exact ⟨_, h.2, h.1, rfl⟩
theorem shI_Q {op : BinOp} {k : IntKind} {a b : Int} {F : Value → Prop} (h : shI op k a b F) : ∃ v, F v ∧ shI op k a b (· = v) := by
  cases op <;> simp only [shI] at h ⊢ <;> first | exact h.elim | exact ⟨_, h.2, h.1, rfl⟩
theorem binS_Q {op : BinOp} {a b : ByteArray} {F : Value → Prop} (h : binS op a b F) : ∃ v, F v ∧ binS op a b (· = v) := by
  cases op <;> simp only [binS] at h ⊢ <;> first | exact h.elim | exact ⟨_, h, rfl⟩ | exact ⟨_, h.2, h.1, rfl⟩
theorem binN_Q {op : BinOp} {b : Bool} {F : Value → Prop} (h : binN op b F) : ∃ v, F v ∧ binN op b (· = v) := by
  cases op <;> simp only [binN] at h ⊢ <;> first | exact h.elim | exact ⟨_, h, rfl⟩
theorem bin_Q {C : List (Nat × Ti)} {op : BinOp} {t : TypeId} {a b : Value} {F : Value → Prop} (h : bin C op t a b F) : ∃ v, F v ∧ bin C op t a b (· = v) := by
  unfold bin at h
  split at h
  · rename_i k x k' y
    split at h
    · exact shI_Q h
    · exact shI_Q h
    · rename_i h1 h2
      split at h
      · rename_i hk
        obtain ⟨v, h3, h4⟩ := binI_Q h
        refine ⟨v, h3, ?_⟩
        cases op <;> first | exact absurd rfl h1 | exact absurd rfl h2 | (simp only [bin, hk]; exact h4)
      · exact h.elim
  · obtain ⟨v, h3, h4⟩ := binS_Q h; exact ⟨v, h3, h4⟩
  · split at h
    · rename_i hl; obtain ⟨v, h3, h4⟩ := binN_Q h; exact ⟨v, h3, by simp only [bin, hl]; exact h4⟩
    · exact h.elim
  · split at h
    · rename_i hl; obtain ⟨v, h3, h4⟩ := binN_Q h; exact ⟨v, h3, by simp only [bin, hl]; exact h4⟩
    · exact h.elim
  · split at h
    · rename_i hl; obtain ⟨v, h3, h4⟩ := binN_Q h; exact ⟨v, h3, by simp only [bin, hl]; exact h4⟩
    · exact h.elim
  · exact h.elim
theorem bin_runS (C : Orc P) {op : BinOp} {t : TypeId} {a b : Value} {F : Value → Prop} (h : bin C.ts op t a b F) :
    ∃ v, (∀ w, (binOp op t a b).run P w = .ok v w) ∧ F v ∧ a ≠ .nilIface ∧ (∀ c, a ≠ .agg c) := by
  obtain ⟨v, h1, h2⟩ := bin_Q h
  refine ⟨v, fun w => ?_, h1, (bin_run C default h2).2⟩
  obtain ⟨u, h3, rfl⟩ := (bin_run C w h2).1
  exact h3
theorem blt_runS (C : Orc P) {b : Builtin} {ts : Array TypeId} {ty : TypeId} {vs : List Value} {cs : Array Bool} {F : Value → Prop} (h : bltQ C b ts vs F) :
    ∃ v, (∀ w, (builtin b ts ty cs vs.toArray).run P w = .ok (.value v) w) ∧ F v := by
  unfold bltQ at h
  split at h
  · split at h
    · rename_i t ht
      split at h
      · rename_i hl
        obtain ⟨d, hd, rfl⟩ := (C.tok _ _ hl).und
        exact ⟨_, fun w => run_v _ w (by simp [Builtin.len_, ht, Sem.run_bind, hd, Sem.run_pure, goInt]), h⟩
      · exact h.elim
    · exact h.elim
  · split at h
    · rename_i t ht
      split at h
      · rename_i hl
        obtain ⟨d, hd, rfl⟩ := (C.tok _ _ hl).und
        exact ⟨_, fun w => run_v _ w (by simp [Builtin.len_, ht, Sem.run_bind, hd, Sem.run_pure, goInt]), h⟩
      · exact h.elim
    · exact h.elim
  · exact ⟨_, fun w => run_v _ w (by simp [Builtin.min_, Builtin.min2, Sem.run_pure, Sem.run_bind, imin]), h⟩
  · exact ⟨_, fun w => run_v _ w (by simp [Builtin.max_, Builtin.max2, Sem.run_pure, Sem.run_bind, imax]), h⟩
  · exact h.elim

set_option maxHeartbeats 1000000 in
theorem wq_sound (C : Orc P) {l : Fl} {o : Oper} {S : World → Prop} {F : Value → Prop} {ρ : Operand → Value} (hρ : ∀ x v, ov l x = some v → ρ x = v) (h : wq C l o S F) : ∃ v, Yld P o ρ S v ∧ F v := by
  obtain ⟨dst, op, ty, pos, after, guard⟩ := o
  cases op
  case move x =>
    simp only [wq, un] at h
    split at h
    · rename_i v hv; exact ⟨v, fun w _ => by simp only [execOp, hρ _ _ hv, Sem.run_pure], h⟩
    · exact h.elim
  case assign x =>
    simp only [wq, un] at h
    split at h
    · rename_i v hv; exact ⟨v, fun w _ => by simp only [execOp, hρ _ _ hv, Sem.run_pure], h⟩
    · exact h.elim
  case pick c a b =>
    simp only [wq, un] at h
    split at h
    · rename_i t ht
      have h := brB_iff.1 h
      cases t
      · have h := h.2 rfl
        split at h
        · rename_i v hv; exact ⟨v, fun w _ => by simp [execOp, hρ _ _ ht, hρ _ _ hv, asBool, Sem.run_bind, Sem.run_pure], h⟩
        · exact h.elim
      · have h := h.1 rfl
        split at h
        · rename_i v hv; exact ⟨v, fun w _ => by simp [execOp, hρ _ _ ht, hρ _ _ hv, asBool, Sem.run_bind, Sem.run_pure], h⟩
        · exact h.elim
    · exact h.elim
  case load t a =>
    simp only [wq] at h
    split at h
    · rename_i i p hi hp
      obtain ⟨v, h1, h2⟩ := ldS_run (C.tok _ _ hi) h
      refine ⟨v, fun w hw => run_v _ w ?_, h2⟩
      simp only [Instr.loadAt, Instr.sureAddr, hρ _ _ hp, Sem.run_bind, Sem.run_pure, Result.andThen_ok, h1 w hw]
    · exact h.elim
  case nilCheck x =>
    simp only [wq] at h
    split at h
    · rename_i p hp
      unfold nn at h
      split at h
      · exact ⟨_, fun w _ => by simp only [execOp, hρ _ _ hp, Sem.run_pure], h⟩
      · exact h.elim
    · exact h.elim
  case binOp op t x y u =>
    simp only [wq] at h
    split at h
    · rename_i a b ha hb
      obtain ⟨v, h1, h2, h3, h4⟩ := bin_runS C h
      refine ⟨v, fun w _ => run_v _ w ?_, h2⟩
      rw [hρ _ _ ha, hρ _ _ hb]
      simp only [Sem.run_bind, eqGuard_run w h3 h4, Result.andThen_ok, h1]
    · exact h.elim
  case unOp op t x =>
    simp only [wq] at h
    split at h
    · rename_i b hb; exact ⟨_, fun w _ => run_v _ w (by rw [hρ _ _ hb]; simp only [Op.unary, Sem.run_pure]), h⟩
    · rename_i k n hb; exact ⟨_, fun w _ => run_v _ w (by rw [hρ _ _ hb]; simp only [Op.unary, Op.intArith, Sem.run_pure]), h⟩
    · rename_i k n hb; exact ⟨_, fun w _ => run_v _ w (by rw [hρ _ _ hb]; simp only [Op.unary, Op.intBits, Sem.run_pure, ixor]), h⟩
    · exact h.elim
  case extract x i =>
    simp only [wq, un] at h
    split at h
    · rename_i vs hv
      split at h
      · rename_i v hi
        exact ⟨_, fun w _ => run_v _ w (by simp only [hρ _ _ hv, Instr.extract, hi, Sem.run_pure]), h⟩
      · exact h.elim
    · exact h.elim
  case fieldAddr t x f =>
    simp only [wq] at h
    split at h
    · rename_i fs agg ks p hi hp
      split at h
      · rename_i off t' hf
        split at h
        · rename_i tk agg' k ks' hi'
          obtain ⟨d, hd, fields, rfl, rfl⟩ := (C.tok _ _ hi).und
          have hs := (C.tok _ _ hi').size
          refine ⟨_, fun w _ => run_v _ w ?_, h⟩
          simp only [List.getElem?_map, Array.getElem?_toList, Option.map_eq_some_iff] at hf
          obtain ⟨fd, hf1, hf2⟩ := hf
          injection hf2 with e1 e2
          subst e1 e2
          simp only [Instr.fieldAt, hρ _ _ hp, Instr.sureAddr, Sem.run_bind, hd, Result.andThen_ok, hf1, Sem.run_pure, fieldPlace, hs]
          simp [Sem.run_pure]
        · exact h.elim
      · exact h.elim
    · exact h.elim
  case indexAddr t x i =>
    simp only [wq] at h
    split at h
    · rename_i e agg ks o n c k j hi hx hj
      split at h
      · rename_i ie hie
        obtain ⟨p, rfl, h1, h2, h3⟩ := h
        obtain ⟨d, hd, rfl⟩ := (C.tok _ _ hi).und
        refine ⟨_, fun w _ => run_v _ w ?_, h3⟩
        simp [Instr.indexAt, hρ _ _ hx, hρ _ _ hj, asIntOf, Sem.run_bind, Sem.run_pure, hd, h1, h2, (C.tok _ _ hie).size]
      · exact h.elim
    · rename_i n e agg ks p k j hi hx hj
      split at h
      · rename_i ie hie
        obtain ⟨h1, h2, h3⟩ := h
        obtain ⟨d, hd, rfl⟩ := (C.tok _ _ hi).und
        refine ⟨_, fun w _ => run_v _ w ?_, h3⟩
        simp [Instr.indexAt, Instr.sureAddr, hρ _ _ hx, hρ _ _ hj, asIntOf, Sem.run_bind, Sem.run_pure, hd, h1, h2, (C.tok _ _ hie).size]
      · exact h.elim
    · exact h.elim
  case index t x i =>
    simp only [wq] at h
    split at h
    · rename_i agg ks s k j hi hx hj
      obtain ⟨h1, h2, h3⟩ := h
      obtain ⟨d, hd, rfl⟩ := (C.tok _ _ hi).und
      refine ⟨_, fun w _ => run_v _ w ?_, h3⟩
      have hlt : j.toNat < s.size := by omega
      have hb : s[j.toNat]? = some (s[j.toNat]'hlt) := getElem?_pos s j.toNat hlt
      simp only [Instr.index, hρ _ _ hx, hρ _ _ hj, asIntOf, Sem.run_bind, Sem.run_pure, Result.andThen_ok, hd, h1, if_true, hb, sb]
      have hlt2 : j.toNat < s.data.size := hlt
      rw [Array.getElem?_eq_getElem hlt2]
      rfl
    · exact h.elim
  case slice t x lo hi mx =>
    cases mx with
    | some m => exact h.elim
    | none =>
      simp only [wq] at h
      split at h
      · rename_i e agg ks o n c lo' hi' ht hx hlo hhi
        split at h
        · rename_i ie hie
          obtain ⟨d, hd, rfl⟩ := (C.tok _ _ ht).und
          obtain ⟨kl, hl⟩ := oint_of hρ hlo
          obtain ⟨kh, hh⟩ := oint_of hρ hhi
          obtain ⟨s', h1, h2⟩ := slQ_run t e hd (C.tok _ _ hie).size kl kh h
          refine ⟨_, fun w _ => run_v _ w ?_, h2⟩
          rw [hρ _ _ hx, hl, hh]; exact h1 w
        · exact h.elim
      · rename_i agg ks s lo' hi' ht hx hlo hhi
        obtain ⟨d, hd, rfl⟩ := (C.tok _ _ ht).und
        obtain ⟨kl, hl⟩ := oint_of hρ hlo
        obtain ⟨kh, hh⟩ := oint_of hρ hhi
        obtain ⟨s', h1, h2⟩ := stQ_run t hd kl kh h
        refine ⟨_, fun w _ => run_v _ w ?_, h2⟩
        rw [hρ _ _ hx, hl, hh]; exact h1 w
      · exact h.elim
  case convert s d x =>
    simp only [wq] at h
    split at h
    · rename_i k' n k agg ks i hx hd hs
      obtain ⟨dd, hdd, rfl⟩ := (C.tok _ _ hd).und
      obtain ⟨ds, hds, _⟩ := (C.tok _ _ hs).und
      refine ⟨_, fun w _ => run_v _ w ?_, h⟩
      simp [convert, hρ _ _ hx, Sem.run_bind, hdd, hds, Conv.intToInt, Sem.run_pure]
    · exact h.elim
  case call c =>
    obtain ⟨callee, args, ats⟩ := c
    cases callee
    case invoke => exact h.elim
    case value f => exact h.elim
    case builtin b =>
      simp only [wq] at h
      have h := ovs_of hρ h
      obtain ⟨v, h1, h2⟩ := blt_runS (ty := ty) (cs := args.map fun | .const _ => true | _ => false) C h
      have e2 : args.map ρ = ([] ++ args.toList.map ρ).toArray := by rw [List.nil_append, ← Array.toList_map, Array.toArray_toList]
      refine ⟨v, fun w _ => ?_, h2⟩
      simp only [execOp, resolve, Sem.run_bind, Sem.run_pure, Result.andThen_ok, invoke]
      rw [e2]
      exact h1 w
  all_goals exact h.elim
end
end Go.Proofs.YtkjpmkopnkkbmaaGreatDoor
