/- The lift, continued: an operation of a frame runs as 'wo' says; regions; code. -/
import Derived.Test.YtkjpmkopnkkbmaaGreatDoorLiftB
namespace Go.Proofs.YtkjpmkopnkkbmaaGreatDoor
open Go.RowKit

section
variable {P : Program}
set_option maxHeartbeats 1000000 in
theorem wo_sound (C : Orc P) {l : Fl} {o : Oper} {w : World} {F : Value → World → Prop} {ρ : Operand → Value} (hρ : ∀ x v, ov l x = some v → ρ x = v) (h : wo C l o w F) : Does P ((execOp ρ o).run P w) F := by
  obtain ⟨dst, op, ty, pos, after, guard⟩ := o
  have fall : (∀ cs b, op ≠ .select cs b) → (match allIn l op.operands.toList with | true => Does P ((execOp (sg l) ⟨dst, op, ty, pos, after, guard⟩).run P w) F | false => False) →
      Does P ((execOp ρ ⟨dst, op, ty, pos, after, guard⟩).run P w) F := by
    intro hs h
    split at h
    · rename_i ha
      rw [execOp_congr (ρ := ρ) (ρ' := sg l) ⟨dst, op, ty, pos, after, guard⟩ hs (fun x hx => allIn_of hρ ha x (by simpa using hx))]
      exact h
    · exact h.elim
  have fall2 : (∀ cs b, op ≠ .select cs b) → (match allIn l op.operands.toList with | true => newK ((execOp (sg l) ⟨dst, op, ty, pos, after, guard⟩).run P w) F | false => False) →
      Does P ((execOp ρ ⟨dst, op, ty, pos, after, guard⟩).run P w) F := by
    intro hs h
    refine fall hs ?_
    split at h
    · exact newK_does h
    · exact h.elim
  cases op
  case select => exact h.elim
  case box => exact fall2 (by simp) h
  case buildSlice => exact fall2 (by simp) h
  case alloc e => exact newK_does h
  case move x =>
    simp only [wo, un] at h
    split at h
    · rename_i v hv; simp only [execOp, hρ _ _ hv, Sem.run_pure]; exact h
    · exact h.elim
  case assign x =>
    simp only [wo, un] at h
    split at h
    · rename_i v hv; simp only [execOp, hρ _ _ hv, Sem.run_pure]; exact h
    · exact h.elim
  case pick c a b =>
    simp only [wo, un] at h
    split at h
    · rename_i t ht
      have h := brB_iff.1 h
      cases t
      · have h := h.2 rfl
        split at h
        · rename_i v hv; simp only [execOp, hρ _ _ ht, hρ _ _ hv, asBool, Sem.run_bind, Sem.run_pure, Result.andThen_ok]; exact h
        · exact h.elim
      · have h := h.1 rfl
        split at h
        · rename_i v hv; simp only [execOp, hρ _ _ ht, hρ _ _ hv, asBool, Sem.run_bind, Sem.run_pure, Result.andThen_ok]; exact h
        · exact h.elim
    · exact h.elim
  case load t a =>
    simp only [wo] at h
    split at h
    · rename_i i p hi hp
      obtain ⟨v, h1, h2⟩ := ldV_run (C.tok _ _ hi) h
      refine does_v (v := v) (w' := w) ?_ h2
      simp only [Instr.loadAt, Instr.sureAddr, hρ _ _ hp, Sem.run_bind, Sem.run_pure, Result.andThen_ok, h1]
    · exact h.elim
  case store t a x =>
    simp only [wo] at h
    split at h
    · rename_i i p v hi hp hv
      split at h
      · rename_i hl
        have hl := Nat.eq_of_beq_eq_true hl
        obtain ⟨w', h1, h2⟩ := stAt_run (P := P) (vcells v) w h
        have : (Instr.storeAt t (ρ a) (ρ x)).run P w = .ok () w' := by
          have hsz : v.cells.size = i.ks.length := by rw [← hl, ← vcells_eq]; simp
          simp only [Instr.storeAt, Instr.sureAddr, hρ _ _ hp, hρ _ _ hv, storeVar, Sem.run_bind, Sem.run_pure, Result.andThen_ok, (C.tok _ _ hi).size, hsz, ne_eq, not_true, if_false, vcells_eq, h1]
        simp only [execOp, Sem.run_bind, this, Result.andThen_ok, Sem.run_pure]
        exact h2
      · exact h.elim
    · exact h.elim
  case nilCheck x =>
    simp only [wo] at h
    split at h
    · rename_i p hp
      unfold nn at h
      split at h
      · simp only [execOp, hρ _ _ hp, Sem.run_pure]; exact h
      · exact h.elim
    · exact h.elim
  case binOp op t x y u =>
    simp only [wo] at h
    split at h
    · rename_i hb
      split at h
      · rename_i a ha
        obtain ⟨v, w', h1, h2⟩ := rawK_of h
        refine does_v (v := v) (w' := w') ?_ h2
        rw [hρ _ _ ha, hρ _ _ hb]; exact h1
      · exact h.elim
    split at h
    · rename_i a b ha hb
      obtain ⟨v, w', h1, h2⟩ := rawK_of h
      refine does_v (v := v) (w' := w') ?_ h2
      rw [hρ _ _ ha, hρ _ _ hb]; exact h1
    · rename_i a b _ ha hb
      obtain ⟨⟨v, h1, h2⟩, h3, h4⟩ := bin_run C w h
      refine does_v (v := v) (w' := w) ?_ h2
      rw [hρ _ _ ha, hρ _ _ hb]
      simp only [Sem.run_bind, eqGuard_run w h3 h4, Result.andThen_ok, h1]
    · exact h.elim
  case unOp op t x =>
    simp only [wo] at h
    split at h
    · rename_i b hb; exact does_v (w' := w) (by rw [hρ _ _ hb]; simp only [Op.unary, Sem.run_pure]) h
    · rename_i k n hb; exact does_v (w' := w) (by rw [hρ _ _ hb]; simp only [Op.unary, Op.intArith, Sem.run_pure]) h
    · rename_i k n hb; exact does_v (w' := w) (by rw [hρ _ _ hb]; simp only [Op.unary, Op.intBits, Sem.run_pure, ixor]) h
    · exact h.elim
  case extract x i =>
    simp only [wo, un] at h
    split at h
    · rename_i vs hv
      split at h
      · rename_i v hi
        refine does_v (w' := w) ?_ h
        simp only [hρ _ _ hv, Instr.extract, hi, Sem.run_pure]
      · exact h.elim
    · exact h.elim
  case fieldAddr t x f =>
    simp only [wo] at h
    split at h
    · rename_i fs agg ks p hi hp
      split at h
      · rename_i off t' hf
        split at h
        · rename_i tk agg' k ks' hi'
          obtain ⟨d, hd, fields, rfl, rfl⟩ := (C.tok _ _ hi).und
          have hs := (C.tok _ _ hi').size
          refine does_v (w' := w) ?_ h
          simp only [List.getElem?_map, Array.getElem?_toList, Option.map_eq_some_iff] at hf
          obtain ⟨fd, hf1, hf2⟩ := hf
          injection hf2 with e1 e2
          subst e1 e2
          simp only [Instr.fieldAt, hρ _ _ hp, Instr.sureAddr, Sem.run_bind, hd, Result.andThen_ok, hf1, Sem.run_pure, fieldPlace, hs]
          simp [Sem.run_pure]
        · exact h.elim
      · exact h.elim
    · exact h.elim
  case indexAddr t x i =>
    simp only [wo] at h
    split at h
    · rename_i e agg ks o n c k j hi hx hj
      split at h
      · rename_i ie hie
        obtain ⟨p, rfl, h1, h2, h3⟩ := h
        obtain ⟨d, hd, rfl⟩ := (C.tok _ _ hi).und
        refine does_v (w' := w) ?_ h3
        simp [Instr.indexAt, hρ _ _ hx, hρ _ _ hj, asIntOf, Sem.run_bind, Sem.run_pure, hd, h1, h2, (C.tok _ _ hie).size]
      · exact h.elim
    · rename_i n e agg ks p k j hi hx hj
      split at h
      · rename_i ie hie
        obtain ⟨h1, h2, h3⟩ := h
        obtain ⟨d, hd, rfl⟩ := (C.tok _ _ hi).und
        refine does_v (w' := w) ?_ h3
        simp [Instr.indexAt, Instr.sureAddr, hρ _ _ hx, hρ _ _ hj, asIntOf, Sem.run_bind, Sem.run_pure, hd, h1, h2, (C.tok _ _ hie).size]
      · exact h.elim
    · exact h.elim
  case index t x i =>
    simp only [wo] at h
    split at h
    · rename_i agg ks s k j hi hx hj
      obtain ⟨h1, h2, h3⟩ := h
      obtain ⟨d, hd, rfl⟩ := (C.tok _ _ hi).und
      refine does_v (w' := w) ?_ h3
      have hlt : j.toNat < s.size := by omega
      have hb : s[j.toNat]? = some (s[j.toNat]'hlt) := getElem?_pos s j.toNat hlt
      simp only [Instr.index, hρ _ _ hx, hρ _ _ hj, asIntOf, Sem.run_bind, Sem.run_pure, Result.andThen_ok, hd, h1, if_true, hb, sb]
      have hlt2 : j.toNat < s.data.size := hlt
      rw [Array.getElem?_eq_getElem hlt2]
      rfl
    · rename_i n e agg ks v k j hi hx hj
      split at h
      · obtain ⟨v, w', h1, h2⟩ := rawK_of h
        refine does_v (v := v) (w' := w') ?_ h2
        rw [hρ _ _ hx, hρ _ _ hj]; exact h1
      · exact h.elim
    · exact h.elim
  case slice t x lo hi mx =>
    cases mx with
    | some m =>
      cases hi with
      | none => exact fall (by simp) h
      | some hi =>
        simp only [wo] at h
        split at h
        · rename_i e agg ks o n c lo' kh hh km mm ht hx hlo hhi hmx
          split at h
          · rename_i ie hie
            obtain ⟨d, hd, rfl⟩ := (C.tok _ _ ht).und
            obtain ⟨kl, hl⟩ := oint_of hρ hlo
            obtain ⟨s', h1, h2⟩ := slK3_run (n := n) w t e hd (C.tok _ _ hie).size kl kh km h
            refine does_v (w' := w) ?_ h2
            simp only [Option.map_some]
            rw [hρ _ _ hx, hl, hρ _ _ hhi, hρ _ _ hmx]; exact h1
          · exact h.elim
        · exact h.elim
    | none =>
      simp only [wo] at h
      split at h
      · rename_i e agg ks o n c lo' hi' ht hx hlo hhi
        split at h
        · rename_i ie hie
          obtain ⟨d, hd, rfl⟩ := (C.tok _ _ ht).und
          obtain ⟨kl, hl⟩ := oint_of hρ hlo
          obtain ⟨kh, hh⟩ := oint_of hρ hhi
          obtain ⟨s', h1, h2⟩ := slK_run w t e hd (C.tok _ _ hie).size kl kh h
          refine does_v (w' := w) ?_ h2
          rw [hρ _ _ hx, hl, hh]; exact h1
        · exact h.elim
      · rename_i agg ks s lo' hi' ht hx hlo hhi
        obtain ⟨d, hd, rfl⟩ := (C.tok _ _ ht).und
        obtain ⟨kl, hl⟩ := oint_of hρ hlo
        obtain ⟨kh, hh⟩ := oint_of hρ hhi
        obtain ⟨s', h1, h2⟩ := stK_run w t hd kl kh h
        refine does_v (w' := w) ?_ h2
        rw [hρ _ _ hx, hl, hh]; exact h1
      · exact h.elim
  case convert s d x =>
    simp only [wo] at h
    split at h
    · rename_i k' n k agg ks i hx hd hs
      obtain ⟨dd, hdd, rfl⟩ := (C.tok _ _ hd).und
      obtain ⟨ds, hds, _⟩ := (C.tok _ _ hs).und
      refine does_v (w' := w) ?_ h
      simp [convert, hρ _ _ hx, Sem.run_bind, hdd, hds, Conv.intToInt, Sem.run_pure]
    · rename_i v i i' _ hx hd hs
      obtain ⟨v', w', h1, h2⟩ := rawK_of h
      refine does_v (v := v') (w' := w') ?_ h2
      rw [hρ _ _ hx]; exact h1
    · exact h.elim
  case makeSlice t a b =>
    simp only [wo] at h
    split at h
    · rename_i x y hx hy
      obtain ⟨v', w', h1, h2⟩ := rawK_of h
      refine does_v (v := v') (w' := w') ?_ h2
      rw [hρ _ _ hx, hρ _ _ hy]; exact h1
    · exact h.elim
  case lookup t x i ok =>
    simp only [wo] at h
    split at h
    · rename_i a b ti hx hi ht
      obtain ⟨v', w', h1, h2⟩ := rawK_of h
      refine does_v (v := v') (w' := w') ?_ h2
      rw [hρ _ _ hx, hρ _ _ hi]; exact h1
    · rename_i a b hx hi ht
      split at h
      · obtain ⟨v', c, w', h1, h2⟩ := h
        refine does_v (v := .tuple #[v', .bool c]) (w' := w') ?_ h2
        rw [hρ _ _ hx, hρ _ _ hi]; exact h1
      · exact h.elim
    · exact h.elim
  case makeMap t r =>
    cases r with
    | none => exact does_v (s := Instr.makeMap t none) rfl (h _ _ rfl rfl)
    | some _ => exact h.elim
  case mapUpdate t m k x =>
    simp only [wo] at h
    split at h
    · rename_i a b c ha hb hc
      obtain ⟨w', h1, h2⟩ := h
      simp only [execOp, hρ _ _ ha, hρ _ _ hb, hρ _ _ hc, Sem.run_bind, h1, Result.andThen_ok, Sem.run_pure]
      exact h2
    · exact h.elim
  case call c =>
    obtain ⟨callee, args, ats⟩ := c
    cases callee
    case invoke => exact h.elim
    case value f =>
      cases f with
      | func g =>
        simp only [wo] at h
        split at h
        · rename_i r hr
          have h := ovs_of hρ h
          have hc := C.sok _ _ hr
          have hf := hρ (.func g) _ rfl
          have e1 : (execOp ρ ⟨dst, .call ⟨.value (.func g), args, ats⟩, ty, pos, after, guard⟩).run P w = .ok (.enter g (([] ++ args.toList.map ρ).toArray)) w := by
            simp only [execOp, resolve, hf, Deferred.ofValue, Sem.run_bind, Sem.run_pure, Result.andThen_ok, invoke]
            rw [hc]
            congr 2
            simp only [List.nil_append, Array.append_empty, Array.empty_append]
            rw [← Array.toList_map, Array.toArray_toList]
          rw [e1]
          exact h.mono fun e w' h => exR_of h
        · exact h.elim
      | _ =>
        simp only [wo] at h
        split at h
        · rename_i v hf
          obtain ⟨g, fs, cs, hv, hc, h⟩ := h
          have h := ovs_of hρ h
          rw [hv] at hf
          have e1 : ∀ x, ρ x = .func (.func g) fs cs → (execOp ρ ⟨dst, .call ⟨.value x, args, ats⟩, ty, pos, after, guard⟩).run P w = .ok (.enter g (((fs.toList ++ args.toList.map ρ) ++ cs.toList).toArray)) w := fun x hx => by
            simp only [execOp, resolve, hx, Deferred.ofValue, Sem.run_bind, Sem.run_pure, Result.andThen_ok, invoke]
            rw [hc]
            congr 2
            simp
          rw [e1 _ (hρ _ _ hf)]
          refine h.mono fun e w' h => ?_
          split at h
          · exact exV_of h
          · exact ⟨_, h⟩
        · exact h.elim
    case builtin b =>
      simp only [wo] at h
      have h := ovs_of hρ h
      have h := blt_run (cs := args.map fun | .const _ => true | _ => false) C h
      have e2 : args.map ρ = ([] ++ args.toList.map ρ).toArray := by rw [List.nil_append, ← Array.toList_map, Array.toArray_toList]
      simp only [execOp, resolve, Sem.run_bind, Sem.run_pure, Result.andThen_ok, invoke]
      rw [e2]
      exact h
  all_goals exact fall (by simp) h
end
end Go.Proofs.YtkjpmkopnkkbmaaGreatDoor
