/- The lift, continued: code and calls. -/
import Derived.Test.YtkjpmkopnkkbmaaGreatDoorLiftS
namespace Go.Proofs.YtkjpmkopnkkbmaaGreatDoor
open Go.RowKit

/-- Which slots a loop's rounds hand on (by the loop's first region); which slots are handed on where ways meet again (by the first region of what follows); how a region that draws is gone through (by its number): where its tail begins, the order of its head, what holds of the worlds (0: it is one world; 1: what the prover says; 2: nothing; k + 3: in two halves, see LiftS, with operation k between them). -/
structure An where
  lv : List (Nat × List (Nat × Kd))
  dr : List (Nat × (Nat × Od × Nat))
  jn : List (Nat × List (Nat × Kd)) := []
def fid : Code → Option Nat
  | .region id _ _ => some id
  | .seq a b => match fid a with | some i => some i | none => fid b
  | .cond _ a b => match fid a with | some i => some i | none => fid b
  | .block _ b => fid b
  | .loop b => fid b
  | _ => none
def asg : Code → List Nat
  | .region _ ops _ => dsts ops.toList
  | .seq a b => asg a ++ asg b
  | .cond _ a b => asg a ++ asg b
  | .block _ b => asg b
  | .loop b => asg b
  | _ => []
def jnOf (A : An) (i : Option Nat) : Option (List (Nat × Kd)) := match i with | some i => lkN A.jn i | none => none
def Lw (w : World) : World → Prop := fun w' => w' = w
def Tt : World → Prop := fun _ => True
def wpc {P : Program} (C : Orc P) (n : Nat) (A : An) : Code → Fl → World → (Exit → Fl → World → Prop) → Prop
  | .skip, l, w, Q => Q .normal l w
  | .label _, l, w, Q => Q .normal l w
  | .ret, l, w, Q => Q .ret l w
  | .exit id, l, w, Q => Q (.exit id) l w
  | .region id ops d, l, w, Q =>
    match d with
    | false => wops C n ops.toList ops.toList l w fun l' w' => Q .normal l' w'
    | true =>
      match lkN A.dr id with
      | some (nT, od, m) =>
        match okDr ops nT od with
        | true =>
          match m with
          | 0 => ∀ w1, w1 = w.drew → wdr C n ops.toList (Lw w1) od l w1 fun l' w' => wops C n ops.toList (ops.toList.drop nT) l' w' fun l'' w'' => Q .normal l'' w''
          | 1 => ∀ w1, w1 = w.drew → ∃ S : World → Prop, S w1 ∧ wdr C n ops.toList S od l w1 fun l' w' => wops C n ops.toList (ops.toList.drop nT) l' w' fun l'' w'' => Q .normal l'' w''
          | 2 => ∀ w1, w1 = w.drew → wdr C n ops.toList Tt od l w1 fun l' w' => wops C n ops.toList (ops.toList.drop nT) l' w' fun l'' w'' => Q .normal l'' w''
          | k + 3 => match Nat.blt k ops.size with
            | true => ∀ w1, w1 = w.drew → ∃ S R : World → Prop, (∀ w', S w' → R w') ∧ S w1 ∧ wdk C n ops.toList S R k od false l w1 fun l' w' => wops C n ops.toList (ops.toList.drop nT) l' w' fun l'' w'' => Q .normal l'' w''
            | false => False
        | false => False
      | none => False
  | .seq a b, l, w, Q =>
    match jnOf A (fid b) with
    | some vk =>
      ∃ J : Cur (vk.map (·.2)) (World → Prop),
        (allL (vk.map (·.2)) [] fun xs => ∀ w', dec (fun _ => False) (vk.map (·.2)) J xs w' → wpc C n A b (zipl (vk.map (·.1)) xs (rmA (asg a) l)) w' Q) ∧
        wpc C n A a l w fun e l' w' =>
          match e with
          | .normal =>
            match lks l' (vk.map (·.1)) with
            | some ys => dec (fun _ => False) (vk.map (·.2)) J ys w'
            | none => False
          | e => Q e l' w'
    | none => wpc C n A a l w fun e l' w' => match e with | .normal => wpc C n A b l' w' Q | e => Q e l' w'
  | .cond c x y, l, w, Q => match ov l c with | some (.bool t) => brB t (wpc C n A x l w Q) (wpc C n A y l w Q) | _ => False
  | .block id b, l, w, Q => wpc C n A b l w fun e l' w' => match e with | .exit j => (match Nat.beq j id with | true => Q .normal l' w' | false => Q (.exit j) l' w') | e => Q e l' w'
  | .loop b, l, w, Q =>
    match fid b with
    | some i =>
      match lkN A.lv i with
      | some vk =>
        match lks l (vk.map (·.1)) with
        | some xs0 =>
          ∃ (I : Cur (vk.map (·.2)) (World → Prop)) (μ : Cur (vk.map (·.2)) (World → Nat)), dec (fun _ => False) (vk.map (·.2)) I xs0 w ∧
            allL (vk.map (·.2)) [] fun xs => ∀ w', dec (fun _ => False) (vk.map (·.2)) I xs w' →
              wpc C n A b (zipl (vk.map (·.1)) xs (rmA (asg b) l)) w' fun e l'' w'' =>
                match e with
                | .normal =>
                  match lks l'' (vk.map (·.1)) with
                  | some ys => dec (fun _ => False) (vk.map (·.2)) I ys w'' ∧ dec (fun _ => 0) (vk.map (·.2)) μ ys w'' < dec (fun _ => 0) (vk.map (·.2)) μ xs w'
                  | none => False
                | e => Q e l'' w''
        | none => False
      | none => False
    | none => False
  | _, _, _, _ => False

section
variable {P : Program}
theorem Fr.mono {A B : List Nat} {a b : Act} (h : Fr A a b) (hs : ∀ t, t ∈ A → t ∈ B) : Fr B a b := fun t ht => h t fun hA => ht (hs t hA)
theorem Has.loop {n : Nat} {a a' : Act} {l l'' : Fl} {A ts : List Nat} {ys : List Value} (ha : Has n a l) (h'' : Has n a' l'') (hy : lks l'' ts = some ys) (hf : Fr A a a') : Has n a' (zipl ts ys (rmA A l)) :=
  ⟨h''.size, h''.defers, fun t v ht => by
    rcases zipl_get ht with ⟨_, i, h1, h2⟩ | h
    · exact h''.get _ _ (lks_get hy i t v h1 h2)
    · obtain ⟨h1, h2⟩ := rmA_get h
      rw [hf t h1]; exact ha.get _ _ h2⟩
theorem wpc_sound (C : Orc P) (hm : P.follows .mixedOrders = true) {n : Nat} {A : An} : ∀ (c : Code) (l : Fl) (a : Act) (w : World) (Q : Exit → Fl → World → Prop) (R : Exit → Act → World → Prop), Has n a l → wpc C n A c l w Q →
    (∀ e l' a' w', Has n a' l' → Q e l' w' → Fr (asg c) a a' → R e a' w') → c.wp P R a w := by
  intro c
  induction c with
  | skip => intro l a w Q R ha h hR; exact wp_skip (hR _ _ _ _ ha h (Fr.refl _ _))
  | label i => intro l a w Q R ha h hR; exact wp_label (hR _ _ _ _ ha h (Fr.refl _ _))
  | ret => intro l a w Q R ha h hR; exact wp_ret (hR _ _ _ _ ha h (Fr.refl _ _))
  | exit i => intro l a w Q R ha h hR; exact wp_exit (hR _ _ _ _ ha h (Fr.refl _ _))
  | goto i => intro l a w Q R ha h hR; exact h.elim
  | rangeFunc => intro l a w Q R ha h hR; exact h.elim
  | scope => intro l a w Q R ha h hR; exact h.elim
  | refuse => intro l a w Q R ha h hR; exact h.elim
  | region id ops d =>
    intro l a w Q R ha h hR
    cases d with
    | false =>
      exact wp_region_list (wops_sound C ops.toList l a w ha h fun l' a' w' h1 h2 h3 => hR _ _ _ _ h1 h2 h3)
    | true =>
      simp only [wpc] at h
      split at h
      · rename_i nT od m _
        split at h
        · rename_i hok
          split at h
          · exact wpd_sound C (S := Lw w.drew) hm hok ha ⟨rfl, h _ rfl⟩ fun l' a' w' h1 h2 h3 => hR _ _ _ _ h1 h2 h3
          · obtain ⟨S, h⟩ := h _ rfl
            exact wpd_sound C (S := S) hm hok ha h fun l' a' w' h1 h2 h3 => hR _ _ _ _ h1 h2 h3
          · exact wpd_sound C (S := Tt) hm hok ha ⟨trivial, h _ rfl⟩ fun l' a' w' h1 h2 h3 => hR _ _ _ _ h1 h2 h3
          · split at h
            · rename_i hlt
              obtain ⟨S, R0, hSR, h⟩ := h _ rfl
              exact wdk_region C (S := S) (R := R0) hm hSR (by simpa [Nat.blt_eq] using hlt) hok ha h fun l' a' w' h1 h2 h3 => hR _ _ _ _ h1 h2 h3
            · exact h.elim
        · exact h.elim
      · exact h.elim
  | seq x y ihx ihy =>
    intro l a w Q R ha h hR
    have hx : ∀ t, t ∈ asg x → t ∈ asg (.seq x y) := fun t ht => List.mem_append_left _ ht
    have hy : ∀ t, t ∈ asg y → t ∈ asg (.seq x y) := fun t ht => List.mem_append_right _ ht
    simp only [wpc] at h
    split at h
    · rename_i vk _
      obtain ⟨J, hJ, h⟩ := h
      refine wp_seq (ihx l a w _ _ ha h fun e l' a' w' h1 h2 h3 => ?_)
      cases e with
      | normal =>
        simp only at h2
        split at h2
        · rename_i ys hys
          have hr := allL_dec (F := fun xs => ∀ w', dec (fun _ => False) (vk.map (·.2)) J xs w' → wpc C n A y (zipl (vk.map (·.1)) xs (rmA (asg x) l)) w' Q) _ [] J ys hJ h2
          have hr := hr w' h2
          simp only [List.nil_append] at hr
          exact ihy _ a' w' Q R (Has.loop ha h1 hys h3) hr fun e l'' a'' w'' k1 k2 k3 => hR _ _ _ _ k1 k2 ((h3.mono hx).trans (k3.mono hy))
        · exact h2.elim
      | _ => exact hR _ _ _ _ h1 h2 (h3.mono hx)
    · refine wp_seq (ihx l a w _ _ ha h fun e l' a' w' h1 h2 h3 => ?_)
      cases e with
      | normal => exact ihy l' a' w' Q R h1 h2 fun e l'' a'' w'' k1 k2 k3 => hR _ _ _ _ k1 k2 ((h3.mono hx).trans (k3.mono hy))
      | _ => exact hR _ _ _ _ h1 h2 (h3.mono hx)
  | cond c x y ihx ihy =>
    intro l a w Q R ha h hR
    simp only [wpc] at h
    split at h
    · rename_i t ht
      have hb := brB_iff.1 h
      refine wp_cond_split (t := t) (ha.ov ht) (fun e => ihx l a w Q R ha (hb.1 e) fun e l' a' w' h1 h2 h3 => hR _ _ _ _ h1 h2 (h3.mono fun t ht => List.mem_append_left _ ht))
        (fun e => ihy l a w Q R ha (hb.2 e) fun e l' a' w' h1 h2 h3 => hR _ _ _ _ h1 h2 (h3.mono fun t ht => List.mem_append_right _ ht))
    · exact h.elim
  | block id b ih =>
    intro l a w Q R ha h hR
    refine wp_block (ih l a w _ _ ha h fun e l' a' w' h1 h2 h3 => ?_)
    cases e with
    | exit j =>
      simp only [Exit.inBlock]
      simp only at h2
      split at h2
      · rename_i hj
        rw [if_pos (Nat.eq_of_beq_eq_true hj)]
        exact hR _ _ _ _ h1 h2 h3
      · rename_i hj
        rw [if_neg (fun e => by subst e; simp at hj)]
        exact hR _ _ _ _ h1 h2 h3
    | _ => exact hR _ _ _ _ h1 h2 h3
  | loop b ih =>
    intro l a w Q R ha h hR
    simp only [wpc] at h
    split at h
    · split at h
      · rename_i vk _
        split at h
        · rename_i xs0 hxs
          obtain ⟨I, μ, h0, hround⟩ := h
          refine wp_loop (fun a' w' => ∃ xs, Has n a' (zipl (vk.map (·.1)) xs (rmA (asg b) l)) ∧ (vk.map (·.1)).map (fun t => a'.tmps.getD t undef) = xs ∧ dec (fun _ => False) (vk.map (·.2)) I xs w' ∧ Fr (asg b) a a')
            (fun a' w' => dec (fun _ => 0) (vk.map (·.2)) μ ((vk.map (·.1)).map (fun t => a'.tmps.getD t undef)) w') ⟨xs0, Has.loop ha ha hxs (Fr.refl _ _), lks_tmps ha hxs, h0, Fr.refl _ _⟩ ?_
          rintro a' w' ⟨xs, h1, h2, h3, h4⟩
          have hr := allL_dec (F := fun xs => ∀ w', dec (fun _ => False) (vk.map (·.2)) I xs w' → _) _ [] I xs hround h3
          have hr := hr w' h3
          simp only [List.nil_append] at hr
          refine ih _ a' w' _ _ h1 hr fun e l'' a'' w'' k1 k2 k3 => ?_
          cases e with
          | normal =>
            simp only at k2
            split at k2
            · rename_i ys hys
              refine ⟨⟨ys, Has.loop ha k1 hys (h4.trans k3), lks_tmps k1 hys, k2.1, h4.trans k3⟩, ?_⟩
              rw [lks_tmps k1 hys, h2]
              exact k2.2
            · exact k2.elim
          | _ => exact hR _ _ _ _ k1 k2 (h4.trans k3)
        · exact h.elim
      · exact h.elim
    · exact h.elim

/-! ### Calls -/
def rsK (C : List (Nat × Ti)) (l : Fl) : List ResultVar → List Value → World → (List Value → Prop) → Prop
  | [], acc, _, F => F acc
  | .tmp t :: r, acc, w, F => match lkN l t with | some v => rsK C l r (acc ++ [v]) w F | none => False
  | .cell a t :: r, acc, w, F =>
    match lkN C t, lkN l a with
    | some i, some (.pointer (some p)) => ldV (i.agg, i.ks) w p fun v => rsK C l r (acc ++ [v]) w F
    | _, _ => False
def retQ {P : Program} (C : Orc P) (rs : List ResultVar) (K : Value → World → Prop) : Exit → Fl → World → Prop := fun e l w =>
  match e with
  | .normal => rsK C.ts l rs [] w fun vs => match vs with | [v] => K v w | vs => K (.tuple vs.toArray) w
  | .ret => rsK C.ts l rs [] w fun vs => match vs with | [v] => K v w | vs => K (.tuple vs.toArray) w
  | _ => False
def argl : Nat → List Value → Fl
  | _, [] => []
  | i, v :: r => (i, v) :: argl (i + 1) r
theorem argl_get : ∀ {vs : List Value} {i t : Nat} {v : Value}, lkN (argl i vs) t = some v → ∃ k, t = i + k ∧ vs[k]? = some v
  | [], i, t, v, h => by simp [argl, lkN] at h
  | u :: r, i, t, v, h => by
    unfold argl at h
    rw [lkN_cons] at h
    by_cases e : i = t
    · rw [if_pos e] at h; injection h with h; subst h e; exact ⟨0, rfl, rfl⟩
    · rw [if_neg e] at h
      obtain ⟨k, h1, h2⟩ := argl_get h
      exact ⟨k + 1, by omega, by simpa using h2⟩
theorem mapM_list {α β : Type} (f : α → Sem β) : ∀ (xs : List α), List.mapM f xs = (match xs with | [] => pure [] | x :: r => do let y ← f x; let ys ← List.mapM f r; pure (y :: ys))
  | [] => rfl
  | x :: r => by rw [List.mapM_cons]
theorem rsK_run (C : Orc P) {n : Nat} {a : Act} {l : Fl} (ha : Has n a l) {w : World} {F : List Value → Prop} : ∀ (rs : List ResultVar) (acc : List Value), rsK C.ts l rs acc w F →
    ∃ vs, (List.mapM (fun (r : ResultVar) => (match r with | .tmp t => pure (a.tmps.getD t undef) | .cell b t => do loadVar t (← asAddr (a.tmps.getD b undef)) : Sem Value)) rs).run P w = .ok vs w ∧ F (acc ++ vs)
  | [], acc, h => ⟨[], by simp [Sem.run_pure], by simpa [rsK] using h⟩
  | .tmp t :: r, acc, h => by
    unfold rsK at h
    split at h
    · rename_i v hv
      obtain ⟨vs, h1, h2⟩ := rsK_run C ha r _ h
      have hg := ha.get _ _ hv
      refine ⟨v :: vs, ?_, by simpa using h2⟩
      rw [List.mapM_cons]
      simp only [Sem.run_bind, Sem.run_pure, Result.andThen_ok, h1]
      simp [hg]
    · exact h.elim
  | .cell b t :: r, acc, h => by
    unfold rsK at h
    split at h
    · rename_i i p hi hp
      obtain ⟨v, h3, h4⟩ := ldV_run (C.tok _ _ hi) h
      obtain ⟨vs, h1, h2⟩ := rsK_run C ha r _ h4
      have hg := ha.get _ _ hp
      refine ⟨v :: vs, ?_, by simpa using h2⟩
      have hg2 : a.tmps.getD b undef = .pointer (some p) := by simp [hg]
      rw [List.mapM_cons]
      have hA : (asAddr (.pointer (some p))).run P w = .ok p w := by simp [asAddr, Sem.run_pure]
      simp only [hg2, hA, Sem.run_bind, Sem.run_pure, Result.andThen_ok, h3, h1]
    · exact h.elim
theorem lift_calls (C : Orc P) (hm : P.follows .mixedOrders = true) {A : An} {f : FuncId} {fn : Func} {c : Code} {args : List Value} {w : World} {K : Value → World → Prop} (hf : P.funcs[f]? = some fn) (hb : fn.body = some c)
    (hsz : Nat.ble args.length fn.ntmps = true) (h : wpc C fn.ntmps A c (argl 0 args) w (retQ C fn.results.toList K)) : Calls P f args.toArray w fun e w' => ∃ v, e = .returned v ∧ K v w' := by
  refine calls_of_wp hf hb ?_
  have hsz := Nat.le_of_ble_eq_true hsz
  have ha : Has fn.ntmps { tmps := args.toArray ++ Array.replicate (fn.ntmps - args.toArray.size) undef, defers := [] } (argl 0 args) := by
    refine ⟨by simp; omega, rfl, fun t v ht => ?_⟩
    obtain ⟨k, rfl, h2⟩ := argl_get ht
    have hk : k < args.length := (List.getElem?_eq_some_iff.1 h2).1
    simp only [Nat.zero_add]
    rw [Array.getElem?_append_left (by simpa using hk)]
    simpa using h2
  have fin : ∀ l' a' w', Has fn.ntmps a' l' → (rsK C.ts l' fn.results.toList [] w' fun vs => match vs with | [v] => K v w' | vs => K (.tuple vs.toArray) w') →
      a'.defers = [] ∧ ∃ v, (results fn a'.tmps).run P w' = .ok v w' ∧ ∃ v', Ending.returned v = .returned v' ∧ K v' w' := by
    intro l' a' w' h1 h2
    obtain ⟨vs, h3, h4⟩ := rsK_run C h1 _ _ h2
    simp only [List.nil_append] at h4
    have h5 : (results fn a'.tmps).run P w' = .ok (if h : vs.toArray.size = 1 then vs.toArray[0] else .tuple vs.toArray) w' := by
      unfold results
      rw [Array.mapM_eq_mapM_toList]
      simp only [Sem.run_bind, map_eq_pure_bind, Sem.run_pure]
      exact congrArg (fun r : Result (List Value) => (r.andThen (fun a w' => Result.ok a.toArray w')).andThen (fun a w' => Result.ok (if h : a.size = 1 then a[0] else Value.tuple a) w')) h3
    refine ⟨h1.defers, _, h5, _, rfl, ?_⟩
    match vs, h4 with
    | [], h4 => exact h4
    | [v], h4 => exact h4
    | x :: y :: r, h4 => simpa using h4
  refine wpc_sound C hm c (argl 0 args) _ w _ _ ha h fun e l' a' w' h1 h2 _ => ?_
  cases e with
  | normal => exact fin l' a' w' h1 h2
  | ret => exact fin l' a' w' h1 h2
  | _ => exact h2.elim
end

/-! ### Words that the printed texts use -/
@[reducible] def wr (x : Int) : Int := IntKind.wrap .i64 x
@[reducible] def bs (l : List UInt8) : ByteArray := ⟨l.toArray⟩
def bodyOf (fn : Func) : Code := match fn.body with | some c => c | none => .skip
def AllTi (P : Program) : List (Nat × Ti) → Prop
  | [] => True
  | (t, i) :: r => TiOk P t i ∧ AllTi P r
def AllSg (P : Program) : List (Nat × List (Bool × List Kd)) → Prop
  | [] => True
  | (f, _) :: r => (∀ args w, (callFunc f args).run P w = .ok (.enter f args) w) ∧ AllSg P r
theorem allTi_of {P : Program} : ∀ {ts : List (Nat × Ti)}, AllTi P ts → ∀ t i, lkN ts t = some i → TiOk P t i
  | [], _, t, i, h => by simp [lkN] at h
  | (k, j) :: r, ha, t, i, h => by
    rw [lkN_cons] at h
    by_cases e : k = t
    · rw [if_pos e] at h; injection h with h; subst h e; exact ha.1
    · rw [if_neg e] at h; exact allTi_of ha.2 t i h
theorem allSg_of {P : Program} : ∀ {ts : List (Nat × List (Bool × List Kd))}, AllSg P ts → ∀ f r, lkN ts f = some r → ∀ args w, (callFunc f args).run P w = .ok (.enter f args) w
  | [], _, t, i, h => by simp [lkN] at h
  | (k, j) :: r, ha, t, i, h => by
    rw [lkN_cons] at h
    by_cases e : k = t
    · rw [if_pos e] at h; subst e; exact ha.1
    · rw [if_neg e] at h; exact allSg_of ha.2 t i h
end Go.Proofs.YtkjpmkopnkkbmaaGreatDoor
