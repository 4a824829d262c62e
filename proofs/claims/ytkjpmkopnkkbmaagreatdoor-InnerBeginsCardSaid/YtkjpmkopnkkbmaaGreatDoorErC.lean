/- Faults: made, seen from words, their codes. -/
import Derived.Test.YtkjpmkopnkkbmaaGreatDoorErB
set_option maxRecDepth 100000
namespace Go.Proofs.YtkjpmkopnkkbmaaGreatDoor
open Go.RowKit

theorem eq_nil (x : Operand) (w : World) : ((do eqGuard .eql T_error x (.const .nilIface) .nilIface .nilIface; binOp .eql T_error .nilIface .nilIface : Sem Value)).run Tryz.prog w = .ok (.bool true) w := by
  cases x <;> kernel_rfl
theorem ne_nil (x : Operand) (w : World) : ((do eqGuard .neq T_error x (.const .nilIface) .nilIface .nilIface; binOp .neq T_error .nilIface .nilIface : Sem Value)).run Tryz.prog w = .ok (.bool false) w := by
  cases x <;> kernel_rfl
theorem eq_if (x : Operand) (t : TypeId) (v : Value) (w : World) : ((do eqGuard .eql T_error x (.const .nilIface) (.iface t v) .nilIface; binOp .eql T_error (.iface t v) .nilIface : Sem Value)).run Tryz.prog w = .ok (.bool false) w := by
  kernel_rfl
theorem ne_if (x : Operand) (t : TypeId) (v : Value) (w : World) : ((do eqGuard .neq T_error x (.const .nilIface) (.iface t v) .nilIface; binOp .neq T_error (.iface t v) .nilIface : Sem Value)).run Tryz.prog w = .ok (.bool true) w := by
  kernel_rfl
/-- A fault with a code, seen from so many words. -/
def ErrD (lo : Nat) (w : World) : Nat → Value → Int → Prop
  | 0, v, c => ∃ (e : Nat) (ip : Int), lo ≤ e ∧ v = .iface T_p_fault_fault (.pointer (some ⟨e, 0, none⟩)) ∧ Ob w e [.int .i64 c, .int .i64 ip] T_fault_fault
  | d + 1, v, c => ∃ (s : Nat) (u : ByteArray) (v' : Value), lo ≤ s ∧ v = .iface T_p_fault_seen (.pointer (some ⟨s, 0, none⟩)) ∧ Ob w s [.string u, v'] T_fault_seen ∧ ErrD lo w d v' c
theorem ErrD.chg {lo : Nat} {S : Nat → Prop} {w w' : World} : ∀ {d : Nat} {v : Value} {c : Int}, ErrD lo w d v c → Chg S w w' → (∀ k, lo ≤ k → ¬ S k) → ErrD lo w' d v c
  | 0, _, _, ⟨e, ip, h1, h2, h3⟩, c, hS => ⟨e, ip, h1, h2, h3.chg c (hS e h1)⟩
  | _ + 1, _, _, ⟨s, u, v', h1, h2, h3, h4⟩, c, hS => ⟨s, u, v', h1, h2, h3.chg c (hS s h1), h4.chg c hS⟩
theorem ErrD.no {lo : Nat} {w w' : World} {d : Nat} {v : Value} {c : Int} (h : ErrD lo w d v c) (k : Chg No w w') : ErrD lo w' d v c := h.chg k (fun _ _ h => h)
theorem ErrD.if {lo : Nat} {w : World} : ∀ {d : Nat} {v : Value} {c : Int}, ErrD lo w d v c → ∃ (t : TypeId) (u : Value), v = .iface t u
  | 0, _, _, ⟨_, _, _, h2, _⟩ => ⟨_, _, h2⟩
  | _ + 1, _, _, ⟨_, _, _, _, h2, _⟩ => ⟨_, _, h2⟩
theorem ErrD.lo {lo lo' : Nat} {w : World} (hl : lo' ≤ lo) : ∀ {d : Nat} {v : Value} {c : Int}, ErrD lo w d v c → ErrD lo' w d v c
  | 0, _, _, ⟨e, ip, h1, h2, h3⟩ => ⟨e, ip, by omega, h2, h3⟩
  | _ + 1, _, _, ⟨s, u, v', h1, h2, h3, h4⟩ => ⟨s, u, v', by omega, h2, h3, h4.lo hl⟩
theorem new_any (c ip : Int) (hc : c ≠ 0) (w : World) : Calls Tryz.prog fn_fault_New #[.int .i64 c, .int .i64 ip] w fun e w' => ∃ v : Value, e = .returned v ∧ ErrD w.heap.size w' 0 v c ∧ Chg No w w' := by
  refine (fault_New_lift (K := fun r w' => ErrD w.heap.size w' 0 r c ∧ Chg No w w') ?_).mono (by rintro e w' ⟨r, rfl, h⟩; exact ⟨r, rfl, h⟩)
  unfold fault_New_sh
  refine brB_of (fun h => absurd (by simpa using h) hc) (fun _ => ?_)
  intro b w1 hb hw
  have c1 : Chg No w w1 := by rw [hw]; exact Chg.alloc _ _ _
  exact ⟨⟨b, ip, by omega, rfl, by rw [hw, hb]; exact Ob.new w [.int .i64 c, .int .i64 ip] T_fault_fault⟩, c1⟩
theorem new_none (ip : Int) (w : World) : Calls Tryz.prog fn_fault_New #[.int .i64 0, .int .i64 ip] w fun e w' => e = .returned .nilIface ∧ w' = w := by
  refine (fault_New_lift (K := fun r w' => r = .nilIface ∧ w' = w) ?_).mono (by rintro e w' ⟨r, rfl, rfl, h⟩; exact ⟨rfl, h⟩)
  unfold fault_New_sh
  exact brB_t ⟨rfl, rfl⟩
theorem wrap_any {lo : Nat} {w : World} {d : Nat} {v : Value} {c : Int} (h : ErrD lo w d v c) (hl : lo ≤ w.heap.size) (u : ByteArray) : Calls Tryz.prog fn_fault_Wrap #[v, .string u] w fun e w' => ∃ v' : Value, e = .returned v' ∧ ErrD lo w' (d + 1) v' c ∧ Chg No w w' := by
  obtain ⟨t, x, rfl⟩ := h.if
  refine (fault_Wrap_if_lift (K := fun r w' => ErrD lo w' (d + 1) r c ∧ Chg No w w') ?_).mono (by rintro e w' ⟨r, rfl, h⟩; exact ⟨r, rfl, h⟩)
  unfold fault_Wrap_if_sh
  refine ⟨_, _, eq_if _ _ _ _, brB_f ?_⟩
  intro b w1 hb hw
  have c1 : Chg No w w1 := by rw [hw]; exact Chg.alloc _ _ _
  exact ⟨⟨b, u, .iface t x, by omega, rfl, by rw [hw, hb]; exact Ob.new w [.string u, .iface t x] T_fault_seen, h.no c1⟩, c1⟩
/-- errors.As finds it. -/
theorem as_any {lo : Nat} {w0 w : World} {d : Nat} {v : Value} {c : Int} (hd : d ≤ 2) (hg : Gl w) (h : ErrD lo w0 d v c) (c0 : Chg No w0 w) {t : Nat} (ht : Ob w t [.pointer none] T_p_fault_fault) (hlt : w0.heap.size ≤ t) :
    Calls Tryz.prog fn_errors_As #[v, .iface T_p_p_fault_fault (.pointer (some ⟨t, 0, none⟩))] w fun ev w' => ∃ (e : Nat) (ip : Int), ev = .returned (.bool true) ∧ Ob w' e [.int .i64 c, .int .i64 ip] T_fault_fault ∧ Ob w' t [.pointer (some ⟨e, 0, none⟩)] T_p_fault_fault ∧ Chg (fun k => k = t) w w' := by
  have fin : ∀ (e : Nat) (ip : Int) (w4 w' : World), Ob w0 e [.int .i64 c, .int .i64 ip] T_fault_fault → Chg No w w4 → w' = w4.setCell ⟨t, 0, none⟩ (.pointer (some ⟨e, 0, none⟩)) →
      Ob w' e [.int .i64 c, .int .i64 ip] T_fault_fault ∧ Ob w' t [.pointer (some ⟨e, 0, none⟩)] T_p_fault_fault ∧ Chg (fun k => k = t) w w' := fun e ip w4 w' he c4 hw' => by
    have hle := he.lt
    have hw2 : w' = stW w4 ⟨t, 0, none⟩ 0 [.pointer (some ⟨e, 0, none⟩)] := by
      rw [hw']; show _ = stW (w4.setCell ((⟨t, 0, none⟩ : Addr).add 0) _) _ _ _; rw [add0]; rfl
    obtain ⟨o1, c1⟩ := (ht.no c4).up (k := 0) (vs := [.pointer (some ⟨e, 0, none⟩)]) (cs' := [.pointer (some ⟨e, 0, none⟩)]) (by simp) rfl hw2
    exact ⟨((he.no c0).no c4).chg c1 (fun hh => by omega), o1, c4.trans c1 (fun _ _ h => h.elim) (fun _ _ h => h)⟩
  have h4 : ∀ {o1 o2 o3 o4 : Obj}, Chg No w ((((w.alloc o1).alloc o2).alloc o3).alloc o4) := fun {_ _ _ _} => trN (trN (trN (al rfl) (al rfl)) (al rfl)) (al rfl)
  rcases d with _ | _ | _ | d
  · obtain ⟨e, ip, _, rfl, h3⟩ := h
    refine (as_hit0 e t w hg ht).mono ?_
    rintro ev w' ⟨rfl, hw'⟩
    obtain ⟨f1, f2, f3⟩ := fin e ip _ w' h3 h4 hw'
    exact ⟨e, ip, rfl, f1, f2, f3⟩
  · obtain ⟨s0, u0, v0, _, rfl, k0, e, ip, _, rfl, h3⟩ := h
    refine (as_hit1 e s0 u0 t w hg ht (k0.no c0)).mono ?_
    rintro ev w' ⟨rfl, hw'⟩
    obtain ⟨f1, f2, f3⟩ := fin e ip _ w' h3 h4 hw'
    exact ⟨e, ip, rfl, f1, f2, f3⟩
  · obtain ⟨s1, u1, v1, _, rfl, k1, s0, u0, v0, _, rfl, k0, e, ip, _, rfl, h3⟩ := h
    refine (as_hit2 e s0 u0 s1 u1 t w hg ht (k0.no c0) (k1.no c0)).mono ?_
    rintro ev w' ⟨rfl, hw'⟩
    obtain ⟨f1, f2, f3⟩ := fin e ip _ w' h3 h4 hw'
    exact ⟨e, ip, rfl, f1, f2, f3⟩
  · omega
theorem Gl.chg {S : Nat → Prop} {w w' : World} (h : Gl w) (c : Chg S w w') (hS : ¬ S 0) : Gl w' := c.cell h hS
theorem Gl.lt {w : World} (h : Gl w) : 0 < w.heap.size := by
  rcases Nat.eq_zero_or_pos w.heap.size with h0 | h1
  · unfold Gl at h; simp [World.cell?, h0] at h
  · exact h1
theorem finner_any {lo : Nat} {w : World} {d : Nat} {v : Value} {c : Int} (hd : d ≤ 2) (hg : Gl w) (h : ErrD lo w d v c) : Calls Tryz.prog fn_fault_inner #[v] w fun e w' => ∃ ip : Int, e = .returned (.agg #[.int .i64 c, .int .i64 ip]) ∧ Chg No w w' := by
  refine (fault_inner_lift (K := fun r w' => ∃ ip : Int, r = .agg #[.int .i64 c, .int .i64 ip] ∧ Chg No w w') ?_).mono (by rintro e w' ⟨r, rfl, ip, rfl, h⟩; exact ⟨ip, rfl, h⟩)
  unfold fault_inner_sh
  intro b2 w3 hb2 hw3 b4 w5 hb4 hw5
  have c3 := al hw3
  have c5 := al hw5
  have z3 : w3.heap.size = w.heap.size + 1 := by rw [hw3]; simp
  have k5 := trN c3 c5
  have o2 : Ob w5 b2 [.int .i64 0, .int .i64 0] T_fault_fault := by
    have : Ob w3 b2 [.int .i64 0, .int .i64 0] T_fault_fault := by rw [hw3, hb2]; exact Ob.new w [.int .i64 0, .int .i64 0] T_fault_fault
    exact this.no c5
  have o4 : Ob w5 b4 [.pointer none] T_p_fault_fault := by rw [hw5, hb4]; exact Ob.new w3 [.pointer none] T_p_fault_fault
  refine (as_any hd (hg.chg k5 (fun h => h)) h k5 o4 (by omega)).mono ?_
  rintro ev w7 ⟨e, ip, rfl, oe, ot, c7⟩
  refine ⟨true, rfl, brB_f ⟨_, ot.cell rfl, ?_⟩⟩
  show nn (some (⟨e, 0, none⟩ : Addr)) _
  unfold nn
  have p2 := o2.chg c7 (fun he => by omega)
  refine ⟨c, ip, oe.cell rfl, ?_, p2.wr (by simp), fun w16 hw16 => ?_⟩
  · rw [add_mk]; exact oe.cell rfl
  obtain ⟨q2, c16⟩ := p2.up (k := 0) (vs := [.int .i64 c, .int .i64 ip]) (cs' := [.int .i64 c, .int .i64 ip]) (by simp) rfl hw16
  exact ⟨c, ip, q2.cell rfl, q2.cell rfl, ip, rfl, (k5.trans c7 (fun _ _ h => h) (fun k hk he => by omega)).trans c16 (fun _ _ h => h) (fun k hk he => by omega)⟩
theorem code_any {lo : Nat} {w : World} {d : Nat} {v : Value} {c : Int} (hd : d ≤ 2) (hg : Gl w) (h : ErrD lo w d v c) : Calls Tryz.prog fn_fault_Code #[v] w fun e w' => e = .returned (.int .i64 c) ∧ Chg No w w' := by
  refine (fault_Code_lift (K := fun r w' => r = .int .i64 c ∧ Chg No w w') ?_).mono (by rintro e w' ⟨r, rfl, rfl, h⟩; exact ⟨rfl, h⟩)
  unfold fault_Code_sh
  refine (finner_any hd hg h).mono ?_
  rintro e w' ⟨ip, rfl, c1⟩
  exact ⟨c, ip, rfl, rfl, c1⟩
end Go.Proofs.YtkjpmkopnkkbmaaGreatDoor
