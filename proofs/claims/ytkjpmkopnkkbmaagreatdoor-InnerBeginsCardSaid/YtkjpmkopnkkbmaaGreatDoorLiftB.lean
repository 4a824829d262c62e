/- The lift, continued: what is enough for an operation is enough. -/
import Derived.Test.YtkjpmkopnkkbmaaGreatDoorLift
namespace Go.Proofs.YtkjpmkopnkkbmaaGreatDoor
open Go.RowKit

section
variable {P : Program}
theorem und_of {t : TypeId} {i : Ti} (hi : TiOk P t i) : ∃ d, (∀ w, (underlying t).run P w = .ok d w) ∧ i.tk.fits d := hi.und

theorem rawK_of {r : Result Value} {i : Bool × List Kd} {F : Value → World → Prop} (h : rawK r i F) : ∃ v w', r = .ok v w' ∧ F v w' := by
  obtain ⟨v, w', h⟩ := exV_of h; exact ⟨v, w', h⟩

theorem run_v (s : Sem Value) (w : World) {v : Value} {w' : World} (h : s.run P w = .ok v w') : (do pure (.value (← s)) : Sem Next).run P w = .ok (.value v) w' := by
  simp [Sem.run_bind, h, Sem.run_pure]
theorem does_v {s : Sem Value} {w : World} {v : Value} {w' : World} {F : Value → World → Prop} (h : s.run P w = .ok v w') (hF : F v w') : Does P ((do pure (.value (← s)) : Sem Next).run P w) F := by
  rw [run_v s w h]; exact hF

theorem binI_run {op : BinOp} {k : IntKind} {a b : Int} {F : Value → Prop} (w : World) (h1 : op ≠ .shl) (h2 : op ≠ .shr) (h : binI op k a b F) (t : TypeId) : ∃ v, (binOp op t (.int k a) (.int k b)).run P w = .ok v w ∧ F v := by
  cases op <;> simp only [binI] at h
  case add => exact ⟨_, by simp [binOp, Op.intArith, Sem.run_pure], h⟩
  case sub => exact ⟨_, by simp [binOp, Op.intArith, Sem.run_pure], h⟩
  case mul => exact ⟨_, by simp [binOp, Op.intArith, Sem.run_pure], h⟩
  case quo => exact ⟨_, by simp [binOp, Op.intDiv, h.1, Sem.run_pure], h.2⟩
  case rem => exact ⟨_, by simp [binOp, Op.intDiv, h.1, Sem.run_pure], h.2⟩
  case and => exact ⟨_, by simp [binOp, Op.intBits, Sem.run_pure, iand], h⟩
  case or => exact ⟨_, by simp [binOp, Op.intBits, Sem.run_pure, ior], h⟩
  case xor => exact ⟨_, by simp [binOp, Op.intBits, Sem.run_pure, ixor], h⟩
  case eql => exact ⟨_, by simp [binOp, Op.intCmp, Sem.run_pure], h⟩
  case neq => exact ⟨_, by simp [binOp, Op.intCmp, Sem.run_pure], h⟩
  case lss => exact ⟨_, by simp [binOp, Op.intCmp, Sem.run_pure], h⟩
  case leq => exact ⟨_, by simp [binOp, Op.intCmp, Sem.run_pure], h⟩
  case gtr => exact ⟨_, by simp [binOp, Op.intCmp, Sem.run_pure], h⟩
  case geq => exact ⟨_, by simp [binOp, Op.intCmp, Sem.run_pure], h⟩
theorem shI_run {op : BinOp} {k k' : IntKind} {a b : Int} {F : Value → Prop} (w : World) (h : shI op k a b F) (t : TypeId) : ∃ v, (binOp op t (.int k a) (.int k' b)).run P w = .ok v w ∧ F v := by
  cases op <;> simp only [shI] at h
  case shl => exact ⟨_, by have : ¬ b < 0 := by omega
                           simp [binOp, Op.shift, this, Sem.run_pure, ishl], h.2⟩
  case shr => exact ⟨_, by have : ¬ b < 0 := by omega
                           simp [binOp, Op.shift, this, Sem.run_pure, ishr], h.2⟩
theorem binS_run {op : BinOp} {a b : ByteArray} {F : Value → Prop} (w : World) (h : binS op a b F) (t : TypeId) : ∃ v, (binOp op t (.string a) (.string b)).run P w = .ok v w ∧ F v := by
  cases op <;> simp only [binS] at h
  case add =>
    refine ⟨_, ?_, h.2⟩
    have h1 := h.1
    have : ¬ ((a.size + b.size : Nat) : Int) > IntKind.i64.max := by
      show ¬ ((a.size + b.size : Nat) : Int) > 9223372036854775807
      omega
    simp only [binOp, Op.stringOp, this, if_false, Sem.run_pure]
  case eql => exact ⟨_, by simp [binOp, Op.stringOp, Sem.run_pure], h⟩
  case neq => exact ⟨_, by simp [binOp, Op.stringOp, Sem.run_pure], h⟩
theorem binN_run {op : BinOp} {b : Bool} {F : Value → Prop} {x y : Value} {t : TypeId} (w : World) (hx : ∀ k n, x ≠ .int k n) (hs : ∀ s, x ≠ .string s) (hf : ∀ k n, x ≠ .float k n) (hc : ∀ k m n, x ≠ .complex k m n)
    (he : (Op.equal t x y).run P w = .ok b w) (h : binN op b F) : ∃ v, (binOp op t x y).run P w = .ok v w ∧ F v := by
  cases op <;> simp only [binN] at h <;> first
    | exact h.elim
    | exact ⟨_, by cases x <;> first | exact absurd rfl (hx _ _) | exact absurd rfl (hs _) | exact absurd rfl (hf _ _) | exact absurd rfl (hc _ _ _) | simp [binOp, Sem.run_bind, he, Sem.run_pure], h⟩
theorem eqIn_step (t : TypeId) (a b : Value) : Op.equal t a b = Op.equalIn (9999 + 1) t a b := rfl
theorem eq_bool {t : TypeId} (w : World) (h : ∀ w, (underlying t).run P w = .ok .bool w) (a b : Bool) : (Op.equal t (.bool a) (.bool b)).run P w = .ok (a == b) w := by
  rw [eqIn_step, Op.equalIn]
  simp only [Sem.run_bind, h, Result.andThen_ok, Sem.run_pure]
theorem eq_ptr {t e : TypeId} (w : World) (h : ∀ w, (underlying t).run P w = .ok (.pointer e) w) (p : Option Addr) : (Op.equal t (.pointer p) (.pointer none)).run P w = .ok p.isNone w := by
  rw [eqIn_step, Op.equalIn]
  cases p <;> simp only [Sem.run_bind, h, Result.andThen_ok, Sem.run_pure, Option.isNone]
theorem eq_sl {t e : TypeId} (w : World) (h : ∀ w, (underlying t).run P w = .ok (.slice e) w) (p : Option Addr) (n c n' c' : Nat) : (Op.equal t (.slice p n c) (.slice none n' c')).run P w = .ok p.isNone w := by
  rw [eqIn_step, Op.equalIn]
  cases p <;> simp only [Sem.run_bind, h, Result.andThen_ok, Sem.run_pure, Option.isNone]
theorem eqGuard_run {op : BinOp} {t : TypeId} {x y : Operand} {a b : Value} (w : World) (h1 : a ≠ .nilIface) (h2 : ∀ c, a ≠ .agg c) : (eqGuard op t x y a b).run P w = .ok () w := by
  unfold eqGuard
  cases op <;> simp [Sem.run_pure] <;> (cases a <;> first | exact absurd rfl h1 | exact absurd rfl (h2 _) | (cases b <;> simp [Sem.run_pure]))

theorem bin_run (C : Orc P) {op : BinOp} {t : TypeId} {a b : Value} {F : Value → Prop} (w : World) (h : bin C.ts op t a b F) :
    (∃ v, (binOp op t a b).run P w = .ok v w ∧ F v) ∧ a ≠ .nilIface ∧ (∀ c, a ≠ .agg c) := by
  unfold bin at h
  split at h
  · refine ⟨?_, by simp, by simp⟩
    split at h
    · exact shI_run w h t
    · exact shI_run w h t
    · split at h
      · rename_i hk
        obtain rfl := kq_eq hk
        exact binI_run w (by assumption) (by assumption) h t
      · exact h.elim
  · exact ⟨binS_run w h t, by simp, by simp⟩
  · refine ⟨?_, by simp, by simp⟩
    split at h
    · rename_i hl
      obtain ⟨d, hd, rfl⟩ := (C.tok _ _ hl).und
      exact binN_run w (by simp) (by simp) (by simp) (by simp) (eq_bool w hd _ _) h
    · exact h.elim
  · refine ⟨?_, by simp, by simp⟩
    split at h
    · rename_i hl
      obtain ⟨d, hd, e, rfl⟩ := (C.tok _ _ hl).und
      exact binN_run w (by simp) (by simp) (by simp) (by simp) (eq_ptr w hd _) h
    · exact h.elim
  · refine ⟨?_, by simp, by simp⟩
    split at h
    · rename_i hl
      obtain ⟨d, hd, rfl⟩ := (C.tok _ _ hl).und
      exact binN_run w (by simp) (by simp) (by simp) (by simp) (eq_sl w hd _ _ _ _ _) h
    · exact h.elim
  · exact h.elim

theorem slK_run {o : Option Addr} {n c : Nat} {lo hi : Option Int} {size : Nat} {G : Sl → Prop} (w : World) (t e : TypeId) (ht : ∀ w, (underlying t).run P w = .ok (.slice e) w) (hs : ∀ w, (sizeOf e).run P w = .ok size w)
    (kl kh : IntKind) (h : slK o n c lo hi size G) : ∃ s' : Sl, (Instr.sliceAt t (.slice o n c) (lo.map (.int kl)) (hi.map (.int kh)) none).run P w = .ok s'.val w ∧ G s' := by
  unfold slK at h
  cases lo <;> cases hi <;> simp only at h
  · exact ⟨_, by simp [Instr.sliceAt, Instr.slice, Instr.sliceBounds, Sem.run_bind, ht, hs, Sem.run_pure, Sl.sub], h _ rfl⟩
  · exact ⟨_, by simp [Instr.sliceAt, Instr.slice, Instr.sliceBounds, Instr.sliceBound, asIntOf, Sem.run_bind, ht, hs, Sem.run_pure, Sl.sub, h.1, h.2.1], h.2.2 _ rfl⟩
  · exact ⟨_, by simp [Instr.sliceAt, Instr.slice, Instr.sliceBounds, Instr.sliceBound, asIntOf, Sem.run_bind, ht, hs, Sem.run_pure, Sl.sub, h.1, h.2.1], h.2.2 _ rfl⟩
  · rename_i l hh
    obtain ⟨m, rfl⟩ := Int.eq_ofNat_of_zero_le (show 0 ≤ hh by have := h.1; have := h.2.1; omega)
    obtain ⟨q, rfl⟩ := Int.eq_ofNat_of_zero_le h.1
    obtain ⟨-, h2, h3, h4⟩ := h
    have h2 : q ≤ m := by omega
    exact ⟨_, by simp [Instr.sliceAt, Instr.slice, Instr.sliceBounds, Instr.sliceBound, asIntOf, Sem.run_bind, ht, hs, Sem.run_pure, Sl.sub, h2, Int.ofNat_le.1 h3], h4 _ rfl⟩
theorem slK3_run {o : Option Addr} {n c : Nat} {lo : Option Int} {h m : Int} {size : Nat} {G : Sl → Prop} (w : World) (t e : TypeId) (ht : ∀ w, (underlying t).run P w = .ok (.slice e) w) (hs : ∀ w, (sizeOf e).run P w = .ok size w)
    (kl kh km : IntKind) (hh : slK3 o c lo h m size G) : ∃ s' : Sl, (Instr.sliceAt t (.slice o n c) (lo.map (.int kl)) (some (.int kh h)) (some (.int km m))).run P w = .ok s'.val w ∧ G s' := by
  unfold slK3 at hh
  cases lo with
  | none =>
    simp only at hh
    obtain ⟨h1, h2, h3, h4⟩ := hh
    obtain ⟨a, rfl⟩ := Int.eq_ofNat_of_zero_le h1
    obtain ⟨b, rfl⟩ := Int.eq_ofNat_of_zero_le (show 0 ≤ m by omega)
    exact ⟨_, by simp [Instr.sliceAt, Instr.slice, Instr.sliceBounds, Instr.sliceBound, asIntOf, Sem.run_bind, ht, hs, Sem.run_pure, Sl.sub, Int.ofNat_le.1 h2, Int.ofNat_le.1 h3], h4 _ rfl⟩
  | some l =>
    simp only at hh
    obtain ⟨h0, h1, h2, h3, h4⟩ := hh
    obtain ⟨q, rfl⟩ := Int.eq_ofNat_of_zero_le h0
    obtain ⟨a, rfl⟩ := Int.eq_ofNat_of_zero_le (show 0 ≤ h by omega)
    obtain ⟨b, rfl⟩ := Int.eq_ofNat_of_zero_le (show 0 ≤ m by omega)
    exact ⟨_, by simp [Instr.sliceAt, Instr.slice, Instr.sliceBounds, Instr.sliceBound, asIntOf, Sem.run_bind, ht, hs, Sem.run_pure, Sl.sub, Int.ofNat_le.1 h1, Int.ofNat_le.1 h2, Int.ofNat_le.1 h3], h4 _ rfl⟩
theorem stK_run {s : ByteArray} {lo hi : Option Int} {G : ByteArray → Prop} (w : World) (t : TypeId) (ht : ∀ w, (underlying t).run P w = .ok .string w)
    (kl kh : IntKind) (h : stK s lo hi G) : ∃ s', (Instr.sliceAt t (.string s) (lo.map (.int kl)) (hi.map (.int kh)) none).run P w = .ok (.string s') w ∧ G s' := by
  unfold stK at h
  cases lo <;> cases hi <;> simp only at h
  · exact ⟨_, by simp [Instr.sliceAt, Instr.slice, Instr.sliceBounds, Sem.run_bind, ht, Sem.run_pure], h⟩
  · exact ⟨_, by simp [Instr.sliceAt, Instr.slice, Instr.sliceBounds, Instr.sliceBound, asIntOf, Sem.run_bind, ht, Sem.run_pure, h.1, h.2.1], h.2.2⟩
  · exact ⟨_, by simp [Instr.sliceAt, Instr.slice, Instr.sliceBounds, Instr.sliceBound, asIntOf, Sem.run_bind, ht, Sem.run_pure, h.1, h.2.1], h.2.2⟩
  · rename_i l hh
    obtain ⟨m, rfl⟩ := Int.eq_ofNat_of_zero_le (show 0 ≤ hh by have := h.1; have := h.2.1; omega)
    obtain ⟨q, rfl⟩ := Int.eq_ofNat_of_zero_le h.1
    obtain ⟨-, h2, h3, h4⟩ := h
    have h2 : q ≤ m := by omega
    exact ⟨_, by simp [Instr.sliceAt, Instr.slice, Instr.sliceBounds, Instr.sliceBound, asIntOf, Sem.run_bind, ht, Sem.run_pure, h2, Int.ofNat_le.1 h3], h4⟩
theorem oint_of {l : Fl} {ρ : Operand → Value} (hρ : ∀ x v, ov l x = some v → ρ x = v) {x : Option Operand} {n : Option Int} (h : oint l x = some n) : ∃ k, x.map ρ = n.map (Value.int k) := by
  cases x with
  | none => simp only [oint, Option.some.injEq] at h; subst h; exact ⟨.i64, rfl⟩
  | some x =>
    simp only [oint] at h
    split at h
    · rename_i k m hv
      injection h with h; subst h
      exact ⟨k, by simp [hρ _ _ hv]⟩
    · cases h

theorem blt_run (C : Orc P) {b : Builtin} {ts : Array TypeId} {ty : TypeId} {w : World} {vs : List Value} {cs : Array Bool} {F : Value → World → Prop} (h : blt C b ts ty w vs F) :
    Does P ((builtin b ts ty cs vs.toArray).run P w) F := by
  unfold blt at h
  split at h
  · split at h
    · rename_i t ht
      split at h
      · rename_i hl
        obtain ⟨d, hd, rfl⟩ := (C.tok _ _ hl).und
        refine does_v (v := .int .i64 _) (w' := w) ?_ h
        simp [Builtin.len_, ht, Sem.run_bind, hd, Sem.run_pure, goInt]
      · exact h.elim
    · exact h.elim
  · split at h
    · rename_i t ht
      split at h
      · rename_i hl
        obtain ⟨d, hd, rfl⟩ := (C.tok _ _ hl).und
        refine does_v (v := .int .i64 _) (w' := w) ?_ h
        simp [Builtin.len_, ht, Sem.run_bind, hd, Sem.run_pure, goInt]
      · exact h.elim
    · exact h.elim
  · exact does_v (by simp [Builtin.min_, Builtin.min2, Sem.run_pure, Sem.run_bind, imin]) h
  · exact does_v (by simp [Builtin.max_, Builtin.max2, Sem.run_pure, Sem.run_bind, imax]) h
  · obtain ⟨v, w', h1, h2⟩ := rawK_of h; exact does_v h1 h2
  · obtain ⟨v, w', h1, h2⟩ := rawK_of h; exact does_v h1 h2
  · obtain ⟨v, w', h1, h2⟩ := rawK_of h; exact does_v h1 h2
  · obtain ⟨v, w', h1, h2⟩ := rawK_of h; exact does_v h1 h2
  · obtain ⟨v, w', h1, h2⟩ := h; exact does_v h1 h2
  · obtain ⟨v, w', h1, h2⟩ := h; exact does_v h1 h2
  · exact h.elim
end
end Go.Proofs.YtkjpmkopnkkbmaaGreatDoor
