/- Ranges over maps and over functions; lists sorted, each once; the package watch, in memory. -/
import Derived.Test.YtgffaimgnmfifaaJ1
import Derived.RangeFuncIn
import Derived.RangeFuncRecord
import Derived.RangeFuncSeq
import Derived.RangeFuncCalls
import Derived.RangeFuncLeaves
import Derived.Test.YtgffaimgnmfifaaJF
import Derived.Test.YtgffaimgnmfifaaJ4
import Derived.Laws.NewFold
import Derived.Test.YtgffaimgnmfifaaJ6
import Derived.Test.YtgffaimgnmfifaaJ2
import Derived.Shelf.Sort.Plain
import Derived.Ground.Names2Prog
import Derived.Shelf.Slices.CompactI
import Derived.Shelf.Slices.In.SortNone
import Derived.Shelf.Slices.SearchI
import Derived.Test.YtgffaimgnmfifaaProg
import Derived.Lib.SlicesCompact
import Derived.Lib.RowBridge
import Derived.Sort.OwnSortedInts

/- The lift, continued: ranges over a function. What is enough for a walk in a fence that lets all in: calls of yield, the round of a loop's body, what is behind the loop. -/
namespace Go.Proofs.Ytgffaimgnmfifaa
open Go.RowKit

section
variable {P : Program}
/-- As Has, with calls that are deferred. -/
structure HasD (n : Nat) (ds : List Deferred) (a : Act) (l : Fl) : Prop where
  size : a.tmps.size = n
  defers : a.defers = ds
  get : ∀ t v, lkN l t = some v → a.tmps[t]? = some v
theorem Has.d {n : Nat} {a : Act} {l : Fl} (h : Has n a l) : HasD n [] a l := ⟨h.size, h.defers, h.get⟩
theorem HasD.ov {n : Nat} {ds : List Deferred} {a : Act} {l : Fl} (h : HasD n ds a l) {x : Operand} {v : Value} (hx : ov l x = some v) : a.eval x = v :=
  (⟨h.size, rfl, h.get⟩ : Has n { a with defers := [] } l).ov hx
theorem put_defers {a : Act} {dst : Option Nat} {v : Value} : (a.put dst v).defers = a.defers ∧ (a.put dst v).tmps = (({ a with defers := [] } : Act).put dst v).tmps := by
  cases dst <;> exact ⟨rfl, rfl⟩
theorem HasD.pd {n : Nat} {ds : List Deferred} {a : Act} {l : Fl} (h : HasD n ds a l) {dst : Option Nat} {v : Value} {G : Fl → Prop} (hg : pd n l dst v G) : ∃ l', HasD n ds (a.put dst v) l' ∧ G l' := by
  obtain ⟨l', h1, h2⟩ := (⟨h.size, rfl, h.get⟩ : Has n { a with defers := [] } l).pd hg
  exact ⟨l', ⟨by rw [put_defers.2]; exact h1.size, put_defers.1.trans h.defers, fun t u ht => by rw [put_defers.2]; exact h1.get t u ht⟩, h2⟩
theorem HasD.loop {n : Nat} {ds : List Deferred} {a a' : Act} {l l'' : Fl} {A ts : List Nat} {ys : List Value} (ha : HasD n ds a l) (h'' : HasD n ds a' l'') (hy : lks l'' ts = some ys) (hf : Fr A a a') : HasD n ds a' (zipl ts ys (rmA A l)) :=
  ⟨h''.size, h''.defers, fun t v ht => by
    rcases zipl_get ht with ⟨_, i, h1, h2⟩ | h
    · exact h''.get _ _ (lks_get hy i t v h1 h2)
    · obtain ⟨h1, h2⟩ := rmA_get h
      rw [hf t h1]; exact ha.get _ _ h2⟩
/-- A fence that lets all in. -/
structure Fa (P : Program) (F : Fence) : Prop where
  fn : ∀ f, F.fn f
  calls : ∀ {n : Nat} {f : FuncId} {args : Array Value} {w : World} {R : Ending → World → Prop}, Calls P f args w R → CallsIn F n P f args w R
  depth : F.depth.isSome = false
theorem fa_wide : Fa P Fence.wide := ⟨fun _ => trivial, fun h => callsIn_wide.2 h, rfl⟩
theorem fa_round (l : Nat) : Fa P (Fence.wide.inRound l) := ⟨fun _ => trivial, fun h => CallsIn.inRound l (callsIn_wide.2 h), rfl⟩
def DoesY (F : Fence) (m : Nat) (P : Program) (r : Result Next) (G : Value → World → Prop) : Prop :=
  match r with
  | .ok (.round l f tmps a b) w' => RoundIn F m P l f tmps a b w' fun e w'' => ∃ v, e = .returned v ∧ G v w''
  | r => Does P r G
theorem Does.y {F : Fence} {m : Nat} {r : Result Next} {G : Value → World → Prop} (h : Does P r G) : DoesY F m P r G := by
  unfold DoesY
  split
  · exact h.elim
  · exact h
def noDef : Op → Bool
  | .defer _ => false
  | _ => true
theorem wpIn_of_doesY {F : Fence} (hF : Fa P F) {n : Nat} {o : Oper} {a : Act} {w : World} {G : Value → World → Prop} {K : Act → World → Prop} {Q : Exit → Act → World → Prop} (hd : noDef o.op = true) (h : DoesY F (n - 1) P ((execOp a.eval o).run P w) G)
    (hK : ∀ v w', G v w' → K (a.put o.dst v) w') : o.wpIn F n P a w K Q := by
  refine ⟨fun f _ => hF.fn f, ?_⟩
  have hdd : ∀ c, o.op ≠ .defer c := fun c e => by rw [e] at hd; cases hd
  rw [Oper.semAt_eq _ _ _ hdd]
  generalize (execOp a.eval o).run P w = r at h
  have hdep : F.depth.isSome = true → 1 ≤ n := fun e => by rw [hF.depth] at e; cases e
  cases r with
  | ok x w' =>
    cases x <;> simp only [DoesY, Does] at h <;> simp only [Oper.uponIn]
    case value v => exact hK _ _ h
    case skip => exact hK _ _ h
    case enter f args =>
      exact ⟨hdep, hF.calls (h.mono fun e w'' ⟨v, he, hG⟩ => by subst he; exact hK _ _ hG)⟩
    case round l f tmps a' b =>
      exact ⟨hdep, h.mono fun e w'' ⟨v, he, hG⟩ => by subst he; exact hK _ _ hG⟩
    all_goals exact h.elim
  | halt x w' => simp only [DoesY, Does] at h
/-- An operation; a call of yield, too. -/
def woY (C : Orc P) (F : Fence) (m : Nat) (l : Fl) (o : Oper) (w : World) (G : Value → World → Prop) : Prop :=
  match o.op with
  | .call ⟨.value (.tmp t), args, _⟩ =>
    match lkN l t with
    | some (.func (.yield y) fs _) => ovs l args.toList fs.toList fun vs => YieldAt F m P y vs.toArray w fun e w' => ∃ b : Bool, e = .returned (.bool b) ∧ G (.bool b) w'
    | _ => wo C l o w G
  | _ => wo C l o w G
theorem woY_sound (C : Orc P) {F : Fence} {m : Nat} {l : Fl} {o : Oper} {w : World} {G : Value → World → Prop} {ρ : Operand → Value} (hρ : ∀ x v, ov l x = some v → ρ x = v) (h : woY C F m l o w G) : DoesY F m P ((execOp ρ o).run P w) G := by
  unfold woY at h
  split at h
  · rename_i t args ats hop
    split at h
    · rename_i y fs cs hy
      have hx : ρ (.tmp t) = .func (.yield y) fs cs := hρ (.tmp t) _ hy
      obtain ⟨fn, tmps, assign, body, h1, h2⟩ := ovs_of hρ h
      obtain ⟨dst, op, ty, pos, after, guard⟩ := o
      simp only at hop
      subst hop
      have e1 : (execOp ρ ⟨dst, .call ⟨.value (.tmp t), args, ats⟩, ty, pos, after, guard⟩).run P w = (Instr.yield y ((fs.toList ++ args.toList.map ρ).toArray)).run P w := by
        simp only [execOp, resolve, hx, Deferred.ofValue, Sem.run_bind, Sem.run_pure, Result.andThen_ok, invoke]
        congr 2
        simp
      rw [e1, h1]
      exact h2.mono fun e w' ⟨b, he, hG⟩ => ⟨_, he, hG⟩
    · exact (wo_sound C hρ h).y
  · exact (wo_sound C hρ h).y
def wopsY (C : Orc P) (F : Fence) (m n : Nat) : List Oper → Fl → World → (Fl → World → Prop) → Prop
  | [], l, w, K => K l w
  | o :: r, l, w, K =>
    match o.guard, noDef o.op with
    | none, true => woY C F m l o w fun v w' => pd n l o.dst v fun l' => wopsY C F m n r l' w' K
    | _, _ => False
theorem wopsY_sound (C : Orc P) {F : Fence} (hF : Fa P F) {m n : Nat} {ds : List Deferred} {ops : Array Oper} {Q : Exit → Act → World → Prop} {K : Fl → World → Prop} : ∀ (r : List Oper) (l : Fl) (a : Act) (w : World), HasD n ds a l → wopsY C F (m - 1) n r l w K →
    (∀ l' a' w', HasD n ds a' l' → K l' w' → (∀ t, t ∉ dsts r → a'.tmps[t]? = a.tmps[t]?) → Q .normal a' w') → wpListIn F m P ops Q r a w
  | [], l, a, w, ha, h, hK => hK l a w ha h fun _ _ => rfl
  | o :: r, l, a, w, ha, h, hK => by
    unfold wopsY at h
    split at h
    · rename_i hg hd
      unfold wpListIn
      rw [if_pos (by simp [Region.wanted, hg])]
      refine wpIn_of_doesY hF hd (woY_sound C (fun x v hx => ha.ov hx) h) fun v w' h3 => ?_
      obtain ⟨l', h4, h5⟩ := ha.pd h3
      refine wopsY_sound C hF r l' _ w' h4 h5 fun l'' a'' w'' k1 k2 k3 => hK l'' a'' w'' k1 k2 fun t ht => ?_
      unfold dsts at ht
      cases hdd : o.dst with
      | none => rw [hdd] at ht k3; rw [k3 t ht]; exact put_other (by simp)
      | some d =>
        rw [hdd] at ht k3
        simp only [List.mem_cons, not_or] at ht
        rw [k3 t ht.2]; exact put_other (by rintro _ ⟨⟩; exact fun e => ht.1 e.symm)
    · exact h.elim
def wpcY (C : Orc P) (F : Fence) (m n : Nat) (lv : List (Nat × List (Nat × Kd))) : Code → Fl → World → (Exit → Fl → World → Prop) → Prop
  | .skip, l, w, Q => Q .normal l w
  | .ret, l, w, Q => Q .ret l w
  | .exit id, l, w, Q => Q (.exit id) l w
  | .region _ ops false, l, w, Q => wopsY C F (m - 1) n ops.toList l w fun l' w' => Q .normal l' w'
  | .seq a b, l, w, Q => wpcY C F m n lv a l w fun e l' w' => match e with | .normal => wpcY C F m n lv b l' w' Q | e => Q e l' w'
  | .cond c x y, l, w, Q => match ov l c with | some (.bool t) => brB t (wpcY C F m n lv x l w Q) (wpcY C F m n lv y l w Q) | _ => False
  | .block id b, l, w, Q => wpcY C F m n lv b l w fun e l' w' => match e with | .exit j => (match Nat.beq j id with | true => Q .normal l' w' | false => Q (.exit j) l' w') | e => Q e l' w'
  | .loop b, l, w, Q =>
    match fid b with
    | some i =>
      match lkN lv i with
      | some vk =>
        match lks l (vk.map (·.1)) with
        | some xs0 =>
          ∃ (I : Cur (vk.map (·.2)) (World → Prop)) (μ : Cur (vk.map (·.2)) (World → Nat)), dec (fun _ => False) (vk.map (·.2)) I xs0 w ∧
            allL (vk.map (·.2)) [] fun xs => ∀ w', dec (fun _ => False) (vk.map (·.2)) I xs w' →
              wpcY C F m n lv b (zipl (vk.map (·.1)) xs (rmA (asg b) l)) w' fun e l'' w'' =>
                match e with
                | .normal =>
                  match lks l'' (vk.map (·.1)) with
                  | some ys => dec (fun _ => False) (vk.map (·.2)) I ys w'' ∧ dec (fun _ => 0) (vk.map (·.2)) μ ys w'' < dec (fun _ => 0) (vk.map (·.2)) μ xs w'
                  | none => False
                | e => Q e l'' w''
        | none => False
      | none => False
    | none => False
  | _, _, _, _ => False
theorem wpcY_sound (C : Orc P) {F : Fence} (hF : Fa P F) {m n : Nat} {ds : List Deferred} {lv : List (Nat × List (Nat × Kd))} : ∀ (c : Code) (l : Fl) (a : Act) (w : World) (Q : Exit → Fl → World → Prop) (R : Exit → Act → World → Prop), HasD n ds a l → wpcY C F m n lv c l w Q →
    (∀ e l' a' w', HasD n ds a' l' → Q e l' w' → Fr (asg c) a a' → R e a' w') → c.wpIn F m P R a w := by
  intro c
  induction c with
  | skip => intro l a w Q R ha h hR; exact wpIn_skip (hR _ _ _ _ ha h (Fr.refl _ _))
  | label i => intro l a w Q R ha h hR; exact h.elim
  | ret => intro l a w Q R ha h hR; exact wpIn_ret (hR _ _ _ _ ha h (Fr.refl _ _))
  | exit i => intro l a w Q R ha h hR; exact wpIn_exit (hR _ _ _ _ ha h (Fr.refl _ _))
  | goto i => intro l a w Q R ha h hR; exact h.elim
  | rangeFunc => intro l a w Q R ha h hR; exact h.elim
  | scope => intro l a w Q R ha h hR; exact h.elim
  | refuse => intro l a w Q R ha h hR; exact h.elim
  | region id ops d =>
    intro l a w Q R ha h hR
    cases d with
    | false => exact wpIn_region_list (wopsY_sound C hF ops.toList l a w ha h fun l' a' w' h1 h2 h3 => hR _ _ _ _ h1 h2 h3)
    | true => exact h.elim
  | seq x y ihx ihy =>
    intro l a w Q R ha h hR
    have hx : ∀ t, t ∈ asg x → t ∈ asg (.seq x y) := fun t ht => List.mem_append_left _ ht
    have hy : ∀ t, t ∈ asg y → t ∈ asg (.seq x y) := fun t ht => List.mem_append_right _ ht
    refine wpIn_seq (ihx l a w _ _ ha h fun e l' a' w' h1 h2 h3 => ?_)
    cases e with
    | normal => exact ihy l' a' w' Q R h1 h2 fun e l'' a'' w'' k1 k2 k3 => hR _ _ _ _ k1 k2 ((h3.mono hx).trans (k3.mono hy))
    | _ => exact hR _ _ _ _ h1 h2 (h3.mono hx)
  | cond c x y ihx ihy =>
    intro l a w Q R ha h hR
    simp only [wpcY] at h
    split at h
    · rename_i t ht
      have hb := brB_iff.1 h
      refine wpIn_cond_split (t := t) (ha.ov ht) (fun e => ihx l a w Q R ha (hb.1 e) fun e l' a' w' h1 h2 h3 => hR _ _ _ _ h1 h2 (h3.mono fun t ht => List.mem_append_left _ ht))
        (fun e => ihy l a w Q R ha (hb.2 e) fun e l' a' w' h1 h2 h3 => hR _ _ _ _ h1 h2 (h3.mono fun t ht => List.mem_append_right _ ht))
    · exact h.elim
  | block id b ih =>
    intro l a w Q R ha h hR
    refine wpIn_block (ih l a w _ _ ha h fun e l' a' w' h1 h2 h3 => ?_)
    cases e with
    | exit j =>
      simp only [Exit.inBlock]
      simp only at h2
      split at h2
      · rename_i hj
        rw [if_pos (Nat.eq_of_beq_eq_true hj)]
        exact hR _ _ _ _ h1 h2 h3
      · rename_i hj
        rw [if_neg (fun e => by subst e; simp at hj)]
        exact hR _ _ _ _ h1 h2 h3
    | _ => exact hR _ _ _ _ h1 h2 h3
  | loop b ih =>
    intro l a w Q R ha h hR
    simp only [wpcY] at h
    split at h
    · split at h
      · rename_i vk _
        split at h
        · rename_i xs0 hxs
          obtain ⟨I, μ, h0, hround⟩ := h
          have lt : ∀ {a : Act} {l : Fl} {xs : List Value}, HasD n ds a l → lks l (vk.map (·.1)) = some xs → (vk.map (·.1)).map (fun t => a.tmps.getD t undef) = xs := fun {a l xs} h e => lks_tmps (⟨h.size, rfl, h.get⟩ : Has n { a with defers := [] } l) e
          refine wpIn_loop (fun a' w' => ∃ xs, HasD n ds a' (zipl (vk.map (·.1)) xs (rmA (asg b) l)) ∧ (vk.map (·.1)).map (fun t => a'.tmps.getD t undef) = xs ∧ dec (fun _ => False) (vk.map (·.2)) I xs w' ∧ Fr (asg b) a a')
            (fun a' w' => dec (fun _ => 0) (vk.map (·.2)) μ ((vk.map (·.1)).map (fun t => a'.tmps.getD t undef)) w') ⟨xs0, HasD.loop ha ha hxs (Fr.refl _ _), lt ha hxs, h0, Fr.refl _ _⟩ ?_
          rintro a' w' ⟨xs, h1, h2, h3, h4⟩
          have hr := allL_dec (F := fun xs => ∀ w', dec (fun _ => False) (vk.map (·.2)) I xs w' → _) _ [] I xs hround h3
          have hr := hr w' h3
          simp only [List.nil_append] at hr
          refine ih _ a' w' _ _ h1 hr fun e l'' a'' w'' k1 k2 k3 => ?_
          cases e with
          | normal =>
            simp only at k2
            split at k2
            · rename_i ys hys
              refine ⟨⟨ys, HasD.loop ha k1 hys (h4.trans k3), lt k1 hys, k2.1, h4.trans k3⟩, ?_⟩
              rw [lt k1 hys, h2]
              exact k2.2
            · exact k2.elim
          | _ => exact hR _ _ _ _ k1 k2 (h4.trans k3)
        · exact h.elim
      · exact h.elim
    · exact h.elim
end
end Go.Proofs.Ytgffaimgnmfifaa

/- Maps as lists of entries: ranges over them, deletions. -/
set_option maxRecDepth 100000
namespace Go.Proofs.Ytgffaimgnmfifaa
open Go.RowKit

/-- An entry: key, value, when it was born; what the value reads as. -/
structure Et where
  k : Int
  v : Sl
  n : Nat
  l : List Int
def enE (e : Et) : MapEntry := ⟨.int .i64 e.k, e.v.val, e.n⟩
structure MR (w : World) (b : Nat) (xs : List Et) : Prop where
  heap : ∃ clock, w.heap[b]? = some (.map (xs.map enE).toArray clock) ∧ ∀ e ∈ xs, e.n < clock
  keys : (xs.map (·.k)).Nodup
  born : (xs.map (·.n)).Nodup
theorem MR.chg {S : Nat → Prop} {w w' : World} {b : Nat} {xs : List Et} (h : MR w b xs) (c : Chg S w w') (hS : ¬ S b) : MR w' b xs := by
  obtain ⟨clock, h1, h2⟩ := h.heap
  exact ⟨⟨clock, c.row h1 hS, h2⟩, h.keys, h.born⟩
theorem MR.no {w w' : World} {b : Nat} {xs : List Et} (h : MR w b xs) (c : Chg No w w') : MR w' b xs := h.chg c (fun h => h)
theorem MR.lt {w : World} {b : Nat} {xs : List Et} (h : MR w b xs) : b < w.heap.size := by
  obtain ⟨clock, h1, _⟩ := h.heap
  exact (Array.getElem?_eq_some_iff.1 h1).1
theorem MR.new {w w' : World} {b : Nat} (hb : b = w.heap.size) (hw : w' = World.alloc w (.map #[] 0)) : MR w' b [] := by
  subst hb hw
  exact ⟨⟨0, heap_alloc_new w _, fun _ h => by cases h⟩, List.nodup_nil, List.nodup_nil⟩
/-- What a map says of a key. -/
def mgt (xs : List Et) (k : Int) : Option Et := xs.find? fun e => decide (e.k = k)
theorem mgt_some {xs : List Et} {k : Int} {e : Et} (h : mgt xs k = some e) : e ∈ xs ∧ e.k = k := ⟨List.mem_of_find?_eq_some h, by simpa using List.find?_some h⟩
theorem mgt_none {xs : List Et} {k : Int} (h : mgt xs k = none) : ∀ e ∈ xs, e.k ≠ k := fun e he => by simpa using List.find?_eq_none.1 h e he
theorem mgt_mem {xs : List Et} (hn : (xs.map (·.k)).Nodup) {e : Et} (he : e ∈ xs) : mgt xs e.k = some e := by
  induction xs with
  | nil => cases he
  | cons a r ih =>
    unfold mgt
    rw [List.find?_cons]
    rw [List.map_cons, List.nodup_cons] at hn
    rcases List.mem_cons.1 he with e1 | e1
    · subst e1; rw [decide_eq_true rfl]
    · have : a.k ≠ e.k := fun h => hn.1 (by rw [h]; exact List.mem_map.2 ⟨e, e1, rfl⟩)
      rw [decide_eq_false this]
      exact ih hn.2 e1
section
variable {P : Program} {w : World} {b : Nat} {xs : List Et} {T kt et : TypeId}
theorem keys_en (xs : List Et) : (xs.map enE).map (·.key) = (xs.map (·.k)).map ekI := by simp [enE, ekI, Function.comp_def]
/-- Where a key stands. -/
theorem ix_mgt : ∀ (xs : List Et) (k : Int), (ixK (xs.map (·.k)) k = none ∧ mgt xs k = none) ∨ ∃ j e, ixK (xs.map (·.k)) k = some j ∧ mgt xs k = some e ∧ xs[j]? = some e
  | [], k => Or.inl ⟨rfl, rfl⟩
  | a :: r, k => by
    unfold mgt
    rw [List.map_cons, ixK_cons, List.find?_cons]
    by_cases h : a.k = k
    · rw [if_pos h, decide_eq_true h]
      exact Or.inr ⟨0, a, rfl, rfl, rfl⟩
    · rw [if_neg h, decide_eq_false h]
      rcases ix_mgt r k with ⟨h1, h2⟩ | ⟨j, e, h1, h2, h3⟩
      · exact Or.inl ⟨by rw [h1]; rfl, h2⟩
      · exact Or.inr ⟨j + 1, e, by rw [h1]; rfl, h2, h3⟩
theorem find_en (ok : KeyOk P kt ekI) (w : World) (xs : List Et) (k : Int) : (Instr.findKey kt (ekI k) (xs.map enE).toArray.toList).run P w = .ok ((ixK (xs.map (·.k)) k).bind fun j => (xs[j]?).map fun e => (j, e.v.val)) w := by
  have := ok.find w (xs.map enE) (xs.map (·.k)) k (keys_en xs)
  rw [List.toList_toArray, this]
  congr 1
  cases ixK (xs.map (·.k)) k with
  | none => rfl
  | some j =>
    simp only [Option.bind_some, List.getElem?_map, Option.map_map]
    rfl
theorem mr_lookup (hT : P.underlying T = some (.map kt et)) (ok : KeyOk P kt ekI) (hz : ∀ w, (zeroValue et).run P w = .ok (.slice none 0 0) w) (h : MR w b xs) (k : Int) (two : Bool) :
    (Instr.lookup T (.map (some b)) (.int .i64 k) two).run P w = .ok (if two = true then .tuple #[((mgt xs k).map (·.v)).getD nilS |>.val, .bool (mgt xs k).isSome] else (((mgt xs k).map (·.v)).getD nilS).val) w := by
  obtain ⟨clock, h1, _⟩ := h.heap
  have hf := find_en ok w xs k
  unfold Instr.lookup
  have hc : (Instr.checkKey (xs.map enE).toArray.isEmpty 10000 kt (.int .i64 k)).run P w = .ok () w := ok.check w _ k
  have hf' : (Instr.findKey kt (.int .i64 k) (xs.map enE).toArray.toList).run P w = _ := hf
  simp only [Sem.run_bind, run_underlying hT, Result.andThen_ok, gObj h1, Sem.run_pure, hc, hf']
  rcases ix_mgt xs k with ⟨g1, g2⟩ | ⟨j, e, g1, g2, g3⟩
  · rw [g1, g2]
    simp only [Option.bind_none, Sem.run_bind, hz, Result.andThen_ok, Sem.run_pure]
    rfl
  · rw [g1, g2]
    simp only [Option.bind_some, g3, Option.map_some, Sem.run_pure, Result.andThen_ok]
    rfl
theorem mn_lookup (hT : P.underlying T = some (.map kt et)) (ok : KeyOk P kt ekI) (hz : ∀ w, (zeroValue et).run P w = .ok (.slice none 0 0) w) (w : World) (k : Int) (two : Bool) :
    (Instr.lookup T (.map none) (.int .i64 k) two).run P w = .ok (if two = true then .tuple #[nilS.val, .bool false] else nilS.val) w := by
  have hf := find_en ok w [] k
  unfold Instr.lookup
  have hc : (Instr.checkKey (#[] : Array MapEntry).isEmpty 10000 kt (.int .i64 k)).run P w = .ok () w := ok.check w _ k
  have hf' : (Instr.findKey kt (.int .i64 k) (#[] : Array MapEntry).toList).run P w = .ok none w := hf
  simp only [Sem.run_bind, run_underlying hT, Result.andThen_ok, Sem.run_pure, hc, hf', hz]
  rfl
theorem set_chg (h1 : ∃ o, w.heap[b]? = some o) (o' : Obj) : Chg (fun j => j = b) w { w with heap := w.heap.setIfInBounds b o' } := by
  obtain ⟨o, h1⟩ := h1
  exact ⟨rfl, rfl, rfl, by simp, fun q _ hq => (hpSet h1).2 q hq⟩
theorem mr_delete (hT : P.underlying T = some (.map kt et)) (ok : KeyOk P kt ekI) (h : MR w b xs) (k : Int) (t2 ty : TypeId) :
    ∃ w', (Builtin.delete_ #[T, t2] ty #[.map (some b), .int .i64 k]).run P w = .ok (.tuple #[]) w' ∧ MR w' b (xs.filter fun e => decide (e.k ≠ k)) ∧ Chg (fun j => j = b) w w' := by
  obtain ⟨clock, h1, h2⟩ := h.heap
  have hf' : (Instr.findKey kt (.int .i64 k) (xs.map enE).toArray.toList).run P w = _ := find_en ok w xs k
  have hc : (Instr.checkKey (xs.map enE).toArray.isEmpty 10000 kt (.int .i64 k)).run P w = .ok () w := ok.check w _ k
  unfold Builtin.delete_
  have e1 : (#[T, t2] : Array TypeId)[0]? = some T := rfl
  have e2 : (#[Value.map (some b), .int .i64 k] : Array Value)[0]? = some (.map (some b)) := rfl
  have e3 : (#[Value.map (some b), .int .i64 k] : Array Value)[1]? = some (.int .i64 k) := rfl
  rw [e1, e2, e3]
  simp only [Sem.run_bind, run_underlying hT, Result.andThen_ok, gObj h1, hc, hf', Sem.run_pure]
  rcases ix_mgt xs k with ⟨g1, g2⟩ | ⟨j, e, g1, g2, g3⟩
  · rw [g1]
    simp only [Option.bind_none, Sem.run_bind, sObj _ h1, Sem.run_pure, Result.andThen_ok]
    refine ⟨_, rfl, ?_, set_chg ⟨_, h1⟩ _⟩
    have : (xs.filter fun e => decide (e.k ≠ k)) = xs := List.filter_eq_self.2 fun e he => decide_eq_true (mgt_none g2 e he)
    rw [this]
    exact ⟨⟨clock, (hpSet h1).1, h2⟩, h.keys, h.born⟩
  · rw [g1]
    simp only [Option.bind_some, g3, Option.map_some]
    have he : ((xs.map enE).toArray.eraseIdxIfInBounds j) = ((xs.filter fun e => decide (e.k ≠ k)).map enE).toArray := by
      have hj : j < xs.length := (List.getElem?_eq_some_iff.1 g3).1
      have hk : e.k = k := (mgt_some g2).2
      have hx : xs.eraseIdx j = xs.filter fun e => decide (e.k ≠ k) := by
        have hsplit : xs = xs.take j ++ e :: xs.drop (j + 1) := by
          have : xs[j] = e := by rw [List.getElem?_eq_getElem hj] at g3; exact Option.some.inj g3
          rw [← this, ← List.drop_eq_getElem_cons hj, List.take_append_drop]
        have hnd := h.keys
        rw [hsplit, List.map_append, List.map_cons] at hnd
        have hnd2 := List.nodup_append.1 hnd
        have n1 : ∀ a ∈ xs.take j, a.k ≠ k := fun a ha hh => hnd2.2.2 a.k (List.mem_map.2 ⟨a, ha, rfl⟩) e.k List.mem_cons_self (by rw [hh, hk])
        have n2 : ∀ a ∈ xs.drop (j + 1), a.k ≠ k := fun a ha hh => (List.nodup_cons.1 hnd2.2.1).1 (by rw [hk, ← hh]; exact List.mem_map.2 ⟨a, ha, rfl⟩)
        have e1 : xs.eraseIdx j = xs.take j ++ xs.drop (j + 1) := List.eraseIdx_eq_take_drop_succ ..
        rw [e1]
        conv => rhs; rw [hsplit, List.filter_append, List.filter_cons]
        rw [if_neg (by simp [hk]), List.filter_eq_self.2 fun a ha => decide_eq_true (n1 a ha), List.filter_eq_self.2 fun a ha => decide_eq_true (n2 a ha)]
      rw [← hx]
      have : ((xs.map enE).toArray.eraseIdxIfInBounds j).toList = (xs.eraseIdx j).map enE := by
        rw [Array.eraseIdxIfInBounds, dif_pos (by simpa using hj)]
        simp only [Array.toList_eraseIdx, List.toList_toArray]
        rw [List.eraseIdx_eq_take_drop_succ, List.eraseIdx_eq_take_drop_succ, List.map_append, List.map_take, List.map_drop]
      rw [← this, Array.toArray_toList]
    rw [he]
    simp only [Sem.run_bind, sObj _ h1, Sem.run_pure, Result.andThen_ok]
    refine ⟨_, rfl, ⟨⟨clock, (hpSet h1).1, fun a ha => h2 a (List.mem_filter.1 ha).1⟩, ?_, ?_⟩, set_chg ⟨_, h1⟩ _⟩
    · exact h.keys.sublist (List.Sublist.map _ List.filter_sublist)
    · exact h.born.sublist (List.Sublist.map _ List.filter_sublist)
theorem mn_delete (hT : P.underlying T = some (.map kt et)) (ok : KeyOk P kt ekI) (w : World) (k : Int) (t2 ty : TypeId) :
    (Builtin.delete_ #[T, t2] ty #[.map none, .int .i64 k]).run P w = .ok (.tuple #[]) w := by
  have hc : (Instr.checkKey true 10000 kt (.int .i64 k)).run P w = .ok () w := ok.check w _ k
  unfold Builtin.delete_
  have e1 : (#[T, t2] : Array TypeId)[0]? = some T := rfl
  have e2 : (#[Value.map none, .int .i64 k] : Array Value)[0]? = some (.map none) := rfl
  have e3 : (#[Value.map none, .int .i64 k] : Array Value)[1]? = some (.int .i64 k) := rfl
  rw [e1, e2, e3]
  simp only [Sem.run_bind, run_underlying hT, Result.andThen_ok, hc, Sem.run_pure]
/-- Behind an update: the key's entry is the new one. -/
def mup (xs : List Et) (k : Int) (v : Sl) (l : List Int) (n : Nat) : List Et := if (mgt xs k).isSome = true then xs.map fun e => if e.k = k then ⟨k, v, e.n, l⟩ else e else xs ++ [⟨k, v, n, l⟩]
theorem mr_update (hT : P.underlying T = some (.map kt et)) (ok : KeyOk P kt ekI) (h : MR w b xs) (k : Int) (v : Sl) (l : List Int) :
    ∃ n w', (Instr.mapUpdate T (.map (some b)) (.int .i64 k) v.val).run P w = .ok () w' ∧ MR w' b (mup xs k v l n) ∧ Chg (fun j => j = b) w w' := by
  obtain ⟨clock, h1, h2⟩ := h.heap
  have hf' : (Instr.findKey kt (.int .i64 k) (xs.map enE).toArray.toList).run P w = _ := find_en ok w xs k
  have hc : (Instr.checkKey false 10000 kt (.int .i64 k)).run P w = .ok () w := ok.check w _ k
  unfold Instr.mapUpdate
  simp only [Sem.run_bind, run_underlying hT, Result.andThen_ok, gObj h1, Sem.run_pure, hc, hf']
  refine ⟨clock, ?_⟩
  rcases ix_mgt xs k with ⟨g1, g2⟩ | ⟨j, e, g1, g2, g3⟩
  · rw [g1]
    simp only [Option.bind_none]
    refine ⟨_, sObj _ h1, ?_, set_chg ⟨_, h1⟩ _⟩
    unfold mup
    rw [g2, if_neg (by decide)]
    refine ⟨⟨clock + 1, ?_, fun a ha => ?_⟩, ?_, ?_⟩
    · rw [(hpSet h1).1]; simp [enE]
    · rcases List.mem_append.1 ha with ha | ha
      · have := h2 a ha; omega
      · rw [List.mem_singleton.1 ha]; exact Nat.lt_succ_self _
    · rw [List.map_append]
      refine List.nodup_append.2 ⟨h.keys, by simp, fun a ha c hc => ?_⟩
      obtain ⟨e, he, rfl⟩ := List.mem_map.1 ha
      have : c = k := by simpa using hc
      rw [this]; exact mgt_none g2 e he
    · rw [List.map_append]
      refine List.nodup_append.2 ⟨h.born, by simp, fun a ha c hc => ?_⟩
      obtain ⟨e, he, rfl⟩ := List.mem_map.1 ha
      have : c = clock := by simpa using hc
      have := h2 e he
      omega
  · rw [g1]
    have hj : j < xs.length := (List.getElem?_eq_some_iff.1 g3).1
    have hk : e.k = k := (mgt_some g2).2
    have hks : (Instr.keyThatStays ((((xs.map enE).toArray[j]?).map (·.key)).getD (.int .i64 k)) (.int .i64 k)).run P w = .ok (.int .i64 k) w := by
      have : (xs.map enE).toArray[j]? = some (enE e) := by simp [g3]
      rw [this]
      simp only [Option.map_some, Option.getD_some, enE, hk]
      unfold Instr.keyThatStays
      have : Instr.sameBits 10000 (.int .i64 k) (.int .i64 k) = true := ok.same k
      rw [if_pos this]; rfl
    simp only [Option.bind_some, g3, Option.map_some, Sem.run_bind, hks, Result.andThen_ok]
    refine ⟨_, sObj _ h1, ?_, set_chg ⟨_, h1⟩ _⟩
    unfold mup
    rw [g2, if_pos (show (some e).isSome = true from rfl)]
    have hm : ((xs.map enE).toArray.modify j fun e => { e with key := .int .i64 k, val := v.val }) = ((xs.map fun e => if e.k = k then (⟨k, v, e.n, l⟩ : Et) else e).map enE).toArray := by
      apply Array.ext'
      apply List.ext_getElem?
      intro q
      simp only [Array.getElem?_toList, Array.getElem?_modify, List.getElem?_toArray, List.getElem?_map]
      by_cases hq : j = q
      · subst hq
        rw [if_pos rfl, g3]
        simp [enE, hk]
      · rw [if_neg hq]
        cases hx : xs[q]? with
        | none => rfl
        | some a =>
          have ne : a.k ≠ k := fun hh => hq (by
            obtain ⟨hq1, hq2⟩ := List.getElem?_eq_some_iff.1 hx
            obtain ⟨hj1, hj2⟩ := List.getElem?_eq_some_iff.1 g3
            have pw := List.pairwise_iff_getElem.1 h.keys
            rcases Nat.lt_trichotomy j q with g | g | g
            · exact (pw j q (by simpa using hj1) (by simpa using hq1) g (by rw [List.getElem_map, List.getElem_map, hj2, hq2, hk, hh])).elim
            · exact g
            · exact (pw q j (by simpa using hq1) (by simpa using hj1) g (by rw [List.getElem_map, List.getElem_map, hj2, hq2, hk, hh])).elim)
          simp [ne]
    rw [hm]
    refine ⟨⟨clock, (hpSet h1).1, fun a ha => ?_⟩, ?_, ?_⟩
    · obtain ⟨e2, he2, rfl⟩ := List.mem_map.1 ha
      have := h2 e2 he2
      split
      · exact this
      · exact this
    · have : (xs.map fun e => if e.k = k then (⟨k, v, e.n, l⟩ : Et) else e).map (·.k) = xs.map (·.k) := by
        rw [List.map_map]
        refine List.map_congr_left fun a _ => ?_
        simp only [Function.comp]
        by_cases hh : a.k = k
        · rw [if_pos hh, hh]
        · rw [if_neg hh]
      rw [this]; exact h.keys
    · have : (xs.map fun e => if e.k = k then (⟨k, v, e.n, l⟩ : Et) else e).map (·.n) = xs.map (·.n) := by
        rw [List.map_map]
        refine List.map_congr_left fun a _ => ?_
        simp only [Function.comp]
        split <;> rfl
      rw [this]; exact h.born
end
end Go.Proofs.Ytgffaimgnmfifaa

/- Ranges over maps: each entry once, in some order. -/
set_option maxRecDepth 100000
namespace Go.Proofs.Ytgffaimgnmfifaa
open Go.RowKit

theorem getO {P : Program} {w : World} {r : Nat} {m : Option Nat} {c l : Nat} {s : Array Nat} (hb : w.heap[r]? = some (.mapIter m c s l)) : (getObj r).run P w = .ok (.mapIter m c s l) w := by
  simp [getObj, Sem.run, hb]
theorem setO {P : Program} {w : World} {r : Nat} {m : Option Nat} {c l : Nat} {s : Array Nat} (o' : Obj) (hb : w.heap[r]? = some (.mapIter m c s l)) : (setObj r o').run P w = .ok () { w with heap := w.heap.setIfInBounds r o' } := by
  simp [setObj, Sem.run, hb]
/-- A range over a map, under way: what has come. -/
structure IT (w : World) (it b : Nat) (xs done : List Et) : Prop where
  heap : ∃ clock, w.heap[b]? = some (.map (xs.map enE).toArray clock) ∧ (∀ e ∈ xs, e.n < clock) ∧ w.heap[it]? = some (.mapIter (some b) clock (done.map (·.n)).toArray clock)
  keys : (xs.map (·.k)).Nodup
  born : (xs.map (·.n)).Nodup
  sub : ∀ e ∈ done, e ∈ xs
  once : (done.map (·.n)).Nodup
theorem IT.mr {w : World} {it b : Nat} {xs done : List Et} (h : IT w it b xs done) : MR w b xs := by
  obtain ⟨clock, h1, h2, _⟩ := h.heap
  exact ⟨⟨clock, h1, h2⟩, h.keys, h.born⟩
theorem IT.same {w w' : World} {it b : Nat} {xs done : List Et} (h : IT w it b xs done) (h1 : w'.heap[b]? = w.heap[b]?) (h2 : w'.heap[it]? = w.heap[it]?) : IT w' it b xs done := by
  obtain ⟨clock, a, c, d⟩ := h.heap
  exact ⟨⟨clock, h1.trans a, c, h2.trans d⟩, h.keys, h.born, h.sub, h.once⟩
theorem IT.chg {S : Nat → Prop} {w w' : World} {it b : Nat} {xs done : List Et} (h : IT w it b xs done) (c : Chg S w w') (h1 : ¬ S b) (h2 : ¬ S it) : IT w' it b xs done := by
  obtain ⟨clock, a, e, d⟩ := h.heap
  exact ⟨⟨clock, c.row a h1, e, c.row d h2⟩, h.keys, h.born, h.sub, h.once⟩
theorem IT.lt {w : World} {it b : Nat} {xs done : List Et} (h : IT w it b xs done) : it < w.heap.size ∧ b < w.heap.size := by
  obtain ⟨clock, a, e, d⟩ := h.heap
  exact ⟨(Array.getElem?_eq_some_iff.1 d).1, (Array.getElem?_eq_some_iff.1 a).1⟩
/-- What is still to come. -/
def itL (xs done : List Et) : List Et := xs.filter fun e => !((done.map (·.n)).contains e.n)
theorem itL_mem {xs done : List Et} {e : Et} : e ∈ itL xs done ↔ e ∈ xs ∧ e.n ∉ done.map (·.n) := by
  unfold itL
  rw [List.mem_filter]
  simp
section
variable {P : Program} {w : World} {b it : Nat} {xs done : List Et} {T kt et : TypeId}
theorem mr_range (hT : P.underlying T = some (.map kt et)) (h : MR w b xs) : ∃ w', (Instr.range T (.map (some b))).run P w = .ok (.pointer (some ⟨w.heap.size, 0, none⟩)) w' ∧ IT w' w.heap.size b xs [] ∧ Chg No w w' ∧ w'.heap.size = w.heap.size + 1 := by
  obtain ⟨clock, h1, h2⟩ := h.heap
  unfold Instr.range
  simp only [Sem.run_bind, run_underlying hT, Result.andThen_ok, gObj h1, Sem.run_pure]
  refine ⟨w.alloc (.mapIter (some b) clock #[] clock), rfl, ⟨⟨clock, ?_, h2, heap_alloc_new w _⟩, h.keys, h.born, (fun e he => by cases he), List.nodup_nil⟩, Chg.alloc _ _ _, by simp⟩
  exact (Chg.alloc No w _).row h1 (fun h => h)
theorem mn_range (hT : P.underlying T = some (.map kt et)) (w : World) : ∃ w', (Instr.range T (.map none)).run P w = .ok (.pointer (some ⟨w.heap.size, 0, none⟩)) w' ∧ w'.heap[w.heap.size]? = some (.mapIter none 0 #[] 0) ∧ Chg No w w' ∧ w'.heap.size = w.heap.size + 1 := by
  unfold Instr.range
  simp only [Sem.run_bind, run_underlying hT, Result.andThen_ok, Sem.run_pure]
  exact ⟨w.alloc (.mapIter none 0 #[] 0), rfl, heap_alloc_new w _, Chg.alloc _ _ _, by simp⟩
theorem mn_next (h : w.heap[it]? = some (.mapIter none 0 #[] 0)) (ty : TypeId) : (Instr.next (.pointer (some ⟨it, 0, none⟩)) false ty).run P w = .ok (.tuple #[.bool false]) w := by
  unfold Instr.next
  simp only [Sem.run_bind, getO h, Result.andThen_ok, Sem.run_pure]
theorem mr_next (h : IT w it b xs done) (ty : TypeId) :
    ((∀ e ∈ xs, e.n ∈ done.map (·.n)) ∧ (Instr.next (.pointer (some ⟨it, 0, none⟩)) false ty).run P w = .ok (.tuple #[.bool false]) w) ∨
    (∃ e w', e ∈ xs ∧ e.n ∉ done.map (·.n) ∧ (Instr.next (.pointer (some ⟨it, 0, none⟩)) false ty).run P w = .ok (.tuple #[.bool true, .int .i64 e.k, e.v.val]) w' ∧ IT w' it b xs (done ++ [e]) ∧ Chg (fun k => k = it) w w') := by
  obtain ⟨clock, h1, h2, h3⟩ := h.heap
  have hne : b ≠ it := fun e => by rw [e, h3] at h1; cases h1
  have hcond : (!(done.map (·.n)).toArray.isEmpty && !(xs.map enE).toArray.isEmpty && (xs.map enE).toArray.all fun x => decide (x.born ≥ clock)) = false := by
    cases hx : xs with
    | nil => simp
    | cons a r =>
      have ha := h2 a (by rw [hx]; exact List.mem_cons_self)
      have : ((a :: r).map enE).toArray.all (fun x => decide (x.born ≥ clock)) = false := by
        simp only [List.all_toArray, List.map_cons, List.all_cons]
        have : decide ((enE a).born ≥ clock) = false := decide_eq_false (by show ¬ a.n ≥ clock; omega)
        rw [this]; rfl
      rw [this, Bool.and_false]
  have hleft : ((xs.map enE).toArray.filter fun e => !(done.map (·.n)).toArray.contains e.born) = ((itL xs done).map enE).toArray := by
    rw [List.filter_toArray]
    unfold itL
    rw [List.filter_map]
    congr 2
    refine List.filter_congr fun a _ => ?_
    show (!(done.map (·.n)).toArray.contains a.n) = _
    rw [List.contains_toArray]
  have hold : (((itL xs done).map enE).toArray.filter fun e => decide (e.born < clock)) = ((itL xs done).map enE).toArray := by
    rw [List.filter_toArray, List.filter_eq_self.2]
    intro a ha
    obtain ⟨e, he, rfl⟩ := List.mem_map.1 ha
    exact decide_eq_true (h2 e (itL_mem.1 he).1)
  have hnew : (((itL xs done).map enE).toArray.filter fun e => decide (e.born ≥ clock)) = #[] := by
    rw [List.filter_toArray]
    have : ((itL xs done).map enE).filter (fun e => decide (e.born ≥ clock)) = [] := List.filter_eq_nil_iff.2 fun a ha => by
      obtain ⟨e, he, rfl⟩ := List.mem_map.1 ha
      have := h2 e (itL_mem.1 he).1
      simp [enE]; omega
    rw [this]
  unfold Instr.next
  simp only [Sem.run_bind, getO h3, Result.andThen_ok, gObj h1, hcond, hleft, hold, hnew, Bool.false_eq_true, if_false, Sem.run_pure, Array.append_empty]
  by_cases hL : itL xs done = []
  · left
    refine ⟨fun e he => Classical.byContradiction fun hn => ?_, ?_⟩
    · have : e ∈ itL xs done := itL_mem.2 ⟨he, hn⟩
      rw [hL] at this; cases this
    · rw [hL]
      simp [run_choose_drew, Question.forced]
  · right
    obtain ⟨i, w1, hch, hi, hw1⟩ : ∃ i w1, (choose (.mapNext (itL xs done).length)).run P w = .ok i w1 ∧ i < (itL xs done).length ∧ (w1 = w ∨ w1 = w.drew) := by
      have hpos : 0 < (itL xs done).length := List.length_pos_iff.2 hL
      rw [run_choose_drew]
      by_cases hf : (Question.mapNext (itL xs done).length).forced = true
      · rw [if_pos hf]; exact ⟨0, w, rfl, hpos, Or.inl rfl⟩
      · rw [if_neg hf]; exact ⟨_, w.drew, rfl, Nat.mod_lt _ hpos, Or.inr rfl⟩
    have hheap : w1.heap = w.heap := by rcases hw1 with e | e <;> rw [e] <;> rfl
    have c1 : Chg No w w1 := by
      rcases hw1 with e | e
      · rw [e]; exact Chg.refl _ _
      · rw [e]; exact Chg.drew _ _
    obtain ⟨e, he⟩ : ∃ e, (itL xs done)[i]? = some e := ⟨_, List.getElem?_eq_getElem hi⟩
    obtain ⟨m1, m2⟩ := itL_mem.1 (List.mem_of_getElem? he)
    have hsz : ((#[] : Array (Option MapEntry)) ++ ((itL xs done).map enE).toArray.map some).size = (itL xs done).length := by simp
    have hat : ((#[] : Array (Option MapEntry)) ++ ((itL xs done).map enE).toArray.map some)[i]? = some (some (enE e)) := by simp [he]
    have hemp : ((itL xs done).map enE).toArray.isEmpty = false := by
      cases hx : itL xs done with
      | nil => exact absurd hx hL
      | cons a r => rfl
    have h3' : w1.heap[it]? = some (.mapIter (some b) clock (done.map (·.n)).toArray clock) := by rw [hheap]; exact h3
    simp only [hemp, Bool.false_eq_true, if_false, hsz, hch, Result.andThen_ok, hat, setO _ h3', Sem.run_bind, Sem.run_pure]
    have c2 := set_chg (w := w1) (b := it) ⟨_, h3'⟩ (.mapIter (some b) clock ((done.map (·.n)).toArray.push e.n) clock)
    refine ⟨e, _, m1, m2, rfl, ⟨⟨clock, ?_, h2, ?_⟩, h.keys, h.born, fun a ha => ?_, ?_⟩, c1.trans c2 (fun _ _ h => h.elim) (fun _ _ h => h)⟩
    · have : w1.heap[b]? = some (.map (xs.map enE).toArray clock) := by rw [hheap]; exact h1
      exact c2.row this hne
    · show (w1.heap.setIfInBounds it _)[it]? = _
      have hlt : it < w1.heap.size := (Array.getElem?_eq_some_iff.1 h3').1
      simp [hlt, enE]
    · rcases List.mem_append.1 ha with ha | ha
      · exact h.sub a ha
      · rw [List.mem_singleton.1 ha]; exact m1
    · rw [List.map_append]
      refine List.nodup_append.2 ⟨h.once, by simp, fun a ha c hc => ?_⟩
      have : c = e.n := by simpa using hc
      rw [this]; exact fun hh => m2 (hh ▸ ha)
theorem mr_entry {e : Et} (h : IT w it b xs (done ++ [e])) : (Instr.entry (.pointer (some ⟨it, 0, none⟩))).run P w = .ok (.tuple #[.int .i64 e.k, e.v.val]) w := by
  obtain ⟨clock, h1, h2, h3⟩ := h.heap
  have hm : e ∈ xs := h.sub e (List.mem_append.2 (Or.inr List.mem_cons_self))
  have hb : ((done ++ [e]).map (·.n)).toArray.back? = some e.n := by simp
  have hf : (xs.map enE).toArray.find? (fun x => x.born == e.n) = some (enE e) := by
    rw [List.find?_toArray]
    have : ∀ l : List Et, (l.map (·.n)).Nodup → e ∈ l → (l.map enE).find? (fun x => x.born == e.n) = some (enE e) := by
      intro l
      induction l with
      | nil => intro _ he; cases he
      | cons a r ih =>
        intro hn he
        rw [List.map_cons, List.nodup_cons] at hn
        rw [List.map_cons, List.find?_cons]
        rcases List.mem_cons.1 he with e1 | e1
        · subst e1
          have : ((enE e).born == e.n) = true := by simp [enE]
          rw [this]
        · have ne : a.n ≠ e.n := fun hh => hn.1 (by rw [hh]; exact List.mem_map.2 ⟨e, e1, rfl⟩)
          have : ((enE a).born == e.n) = false := by simpa [enE] using ne
          rw [this]
          exact ih hn.2 e1
    exact this xs h.born hm
  unfold Instr.entry
  simp only [Sem.run_bind, getO h3, Result.andThen_ok, hb, gObj h1, bne_self_eq_false, Bool.false_eq_true, if_false, hf, Sem.run_pure]
  rfl
theorem nat_le : ∀ {l m : List Nat}, l.Nodup → (∀ a ∈ l, a ∈ m) → l.length ≤ m.length
  | [], _, _, _ => Nat.zero_le _
  | a :: r, m, hn, hs => by
    rw [List.nodup_cons] at hn
    have hm := hs a List.mem_cons_self
    have := nat_le (m := m.erase a) hn.2 fun x hx => (List.mem_erase_of_ne (fun e : x = a => hn.1 (e ▸ hx))).2 (hs x (List.mem_cons_of_mem _ hx))
    rw [List.length_erase_of_mem hm] at this
    have hp : 0 < m.length := List.length_pos_of_mem hm
    rw [List.length_cons]; omega
/-- When nothing is left, all have come, each once. -/
theorem IT.all (h : IT w it b xs done) (ha : ∀ e ∈ xs, e.n ∈ done.map (·.n)) : (∀ e, e ∈ done ↔ e ∈ xs) ∧ done.length = xs.length := by
  have inj : ∀ {a c : Et}, a ∈ xs → c ∈ xs → a.n = c.n → a = c := by
    intro a c ha hc hn
    obtain ⟨i, hi, rfl⟩ := List.mem_iff_getElem.1 ha
    obtain ⟨j, hj, rfl⟩ := List.mem_iff_getElem.1 hc
    have pw := List.pairwise_iff_getElem.1 h.born
    rcases Nat.lt_trichotomy i j with g | g | g
    · exact (pw i j (by simpa using hi) (by simpa using hj) g (by rw [List.getElem_map, List.getElem_map, hn])).elim
    · subst g; rfl
    · exact (pw j i (by simpa using hj) (by simpa using hi) g (by rw [List.getElem_map, List.getElem_map, hn])).elim
  have mem : ∀ e, e ∈ done ↔ e ∈ xs := fun e => ⟨h.sub e, fun he => by
    obtain ⟨a, h1, h2⟩ := List.mem_map.1 (ha e he)
    rw [← inj (h.sub a h1) he h2]; exact h1⟩
  refine ⟨mem, Nat.le_antisymm ?_ ?_⟩
  · have := nat_le h.once fun a ha => by
      obtain ⟨e, he, rfl⟩ := List.mem_map.1 ha
      exact List.mem_map.2 ⟨e, h.sub e he, rfl⟩
    rw [List.length_map, List.length_map] at this; exact this
  · have := nat_le h.born fun a hA => by
      obtain ⟨e, he, rfl⟩ := List.mem_map.1 hA
      exact ha e he
    rw [List.length_map, List.length_map] at this; exact this
theorem IT.more {e : Et} (h : IT w it b xs done) (he : e ∈ xs) (hn : e.n ∉ done.map (·.n)) : done.length < xs.length := by
  have n1 : ((done ++ [e]).map (·.n)).Nodup := by
    rw [List.map_append]
    refine List.nodup_append.2 ⟨h.once, by simp, fun a ha c hc => ?_⟩
    have : c = e.n := by simpa using hc
    rw [this]; exact fun hh => hn (hh ▸ ha)
  have := nat_le n1 (m := xs.map (·.n)) fun a ha => by
    obtain ⟨x, hx, rfl⟩ := List.mem_map.1 ha
    rcases List.mem_append.1 hx with hx | hx
    · exact List.mem_map.2 ⟨x, h.sub x hx, rfl⟩
    · rw [List.mem_singleton.1 hx]; exact List.mem_map.2 ⟨e, he, rfl⟩
  rw [List.length_map, List.length_map, List.length_append, List.length_singleton] at this; omega
end
end Go.Proofs.Ytgffaimgnmfifaa

/- Functions of Maps, read without their frames; that each is enough. Printed by a program of mine (wip/lift/gen.py). -/
set_option maxRecDepth 100000
namespace Go.Proofs.Ytgffaimgnmfifaa
open Go.RowKit

-- maps.Values[map[int][]int,int,[]int]
def maps_Values_map_int_sl_int_int_sl_int_sh (m_1 : Option Nat) (w : World) (K : Value → World → Prop) : Prop :=
 ∀ (b2 : Nat) (w3 : World), b2 = w.heap.size → w3 = World.alloc w (.cells #[.map m_1] T_map_int_sl_int) →
 K (.func (.func fn_maps_Values_map_int_sl_int_int_sl_int_1) #[] #[.pointer (some ⟨b2, 0, none⟩)]) w3
def maps_Values_map_int_sl_int_int_sl_int_an : An := ⟨[], [], []⟩
theorem maps_Values_map_int_sl_int_int_sl_int_lift {m_1 : Option Nat} {w : World} {K : Value → World → Prop} (h : maps_Values_map_int_sl_int_int_sl_int_sh m_1 w K) : Calls Try.prog fn_maps_Values_map_int_sl_int_int_sl_int #[.map m_1] w fun e w' => ∃ v, e = .returned v ∧ K v w' :=
   lift_calls (A := maps_Values_map_int_sl_int_int_sl_int_an) (c := bodyOf Try.f23) (args := [.map m_1]) orc orc_wide Try.func23 (by kernel_rfl) (by kernel_rfl) (Eq.mp (by kernel_rfl : maps_Values_map_int_sl_int_int_sl_int_sh m_1 w K = wpc orc Try.f23.ntmps maps_Values_map_int_sl_int_int_sl_int_an (bodyOf Try.f23) (argl 0 [.map m_1]) w (retQ orc Try.f23.results.toList K)) h)

-- maps.Values[map[int][]int,int,[]int]$1
def maps_Values_map_int_sl_int_int_sl_int_1_sh (yield1 : Value) (c2 : Nat) (w : World) (K : Value → World → Prop) : Prop :=
 ∃ m3 : Option Nat, w.cell? ⟨c2, 0, none⟩ = some (.map m3) ∧
 ∃ (b4 : Nat) (w5 : World), (Instr.range T_map_int_sl_int (.map m3)).run Try.prog w = .ok (.pointer (some ⟨b4, 0, none⟩)) w5 ∧
 ∃ (I1 : World → Prop) (μ1 : World → Nat), I1  w5 ∧ ∀ (w6 : World), I1  w6 →
 ((∃ w7 : World, (Instr.next (.pointer (some ⟨b4, 0, none⟩)) false T_x).run Try.prog w6 = .ok (.tuple #[.bool false]) w7 ∧
 K (.tuple #[]) w7) ∨
  (∃ (k9 v10 : Value) (w8 : World), (Instr.next (.pointer (some ⟨b4, 0, none⟩)) false T_x).run Try.prog w6 = .ok (.tuple #[.bool true, k9, v10]) w8 ∧
 ∃ (n11 : Int) (s12 : Sl) (w13 : World), (Instr.entry (.pointer (some ⟨b4, 0, none⟩))).run Try.prog w8 = .ok (.tuple #[.int .i64 n11, s12.val]) w13 ∧
 ∃ (g14 : FuncId) (fs15 cs16 : Array Value), (yield1 : Value) = .func (.func g14) fs15 cs16 ∧ (∀ args w, (callFunc g14 args).run Try.prog w = .ok (.enter g14 args) w) ∧
 Calls Try.prog g14 ((fs15.toList ++ [(s12.val : Value)]) ++ cs16.toList).toArray w13 fun e17 w18 => ∃ b19 : Bool, e17 = .returned (.bool b19) ∧
 brB (!b19)
 (K (.tuple #[]) w18)
 (I1  w18 ∧ μ1  w18 < μ1  w6)))
def maps_Values_map_int_sl_int_int_sl_int_1_an : An := ⟨[(1, [])], [], []⟩
theorem maps_Values_map_int_sl_int_int_sl_int_1_lift {yield1 : Value} {c2 : Nat} {w : World} {K : Value → World → Prop} (h : maps_Values_map_int_sl_int_int_sl_int_1_sh yield1 c2 w K) : Calls Try.prog fn_maps_Values_map_int_sl_int_int_sl_int_1 #[yield1, .pointer (some ⟨c2, 0, none⟩)] w fun e w' => ∃ v, e = .returned v ∧ K v w' :=
   lift_calls (A := maps_Values_map_int_sl_int_int_sl_int_1_an) (c := bodyOf Try.f56) (args := [yield1, .pointer (some ⟨c2, 0, none⟩)]) orc orc_wide Try.func56 (by kernel_rfl) (by kernel_rfl) (Eq.mp (by kernel_rfl : maps_Values_map_int_sl_int_int_sl_int_1_sh yield1 c2 w K = wpc orc Try.f56.ntmps maps_Values_map_int_sl_int_int_sl_int_1_an (bodyOf Try.f56) (argl 0 [yield1, .pointer (some ⟨c2, 0, none⟩)]) w (retQ orc Try.f56.results.toList K)) h)

end Go.Proofs.Ytgffaimgnmfifaa

/- Blocks laid out and written (lines of StA, for seats without machines). -/
set_option maxRecDepth 100000
namespace Go.Proofs.Ytgffaimgnmfifaa
open Go.RowKit

theorem trN {x y z : World} (h : Chg No x y) (k : Chg No y z) : Chg No x z := h.trans k (fun _ _ h => h) (fun _ _ h => h)
theorem wr_in {x : Int} (h : -9223372036854775808 ≤ x ∧ x ≤ 9223372036854775807) : wr x = x := wr_of h.1 h.2
theorem newOb {w w1 w2 : World} {b : Nat} {T : TypeId} (zs vs : List Value) (hl : zs.length = vs.length) (hb : b = w.heap.size) (hw : w1 = World.alloc w (.cells zs.toArray T)) : wrOk w1 ⟨b, 0, none⟩ vs.length ∧ (w2 = stW w1 ⟨b, 0, none⟩ 0 vs → Ob w2 b vs T ∧ Chg No w w2) := by
  have ho : Ob w1 b zs T := by rw [hw, hb]; exact Ob.new w zs T
  have hc : Chg No w w1 := by rw [hw]; exact Chg.alloc _ _ _
  refine ⟨ho.wr (by omega), fun h2 => ⟨?_, ?_⟩⟩
  · have := Ob.st (vs := vs) (k := 0) (i := 0) ho
    rw [show wrL zs (0 + 0) vs = vs from wrL_whole hl] at this
    rw [h2]; exact this
  · rw [h2]
    exact hc.trans (Chg.st (S := fun k => k = b) rfl) (fun _ _ h => h) (fun k hk he => by subst he; omega)
theorem al {w w' : World} {o : Obj} (hw : w' = World.alloc w o) : Chg No w w' := by rw [hw]; exact Chg.alloc _ _ _
theorem dw {w w' : World} (hw : w' = World.drew w) : Chg No w w' := by rw [hw]; exact Chg.drew _ _
theorem Ob.up {w w' : World} {b k : Nat} {cs vs cs' : List Value} {T : TypeId} (h : Ob w b cs T) (hl : k + vs.length ≤ cs.length) (hc : wrL cs k vs = cs') (hw : w' = stW w ⟨b, k, none⟩ 0 vs) : Ob w' b cs' T ∧ Chg (fun j => j = b) w w' := by
  refine ⟨?_, by rw [hw]; exact Chg.st (S := fun j => j = b) rfl⟩
  have := Ob.st (vs := vs) (k := k) (i := 0) h
  rw [hw, ← hc]; exact this

end Go.Proofs.Ytgffaimgnmfifaa

/- maps.Values at map[int][]int: its iterator hands on each value once, whatever is done with it. -/
set_option maxRecDepth 100000
namespace Go.Proofs.Ytgffaimgnmfifaa
open Go.RowKit

theorem liftY_calls (C : Orc Try.prog) {m : Nat} {lv : List (Nat × List (Nat × Kd))} {f : FuncId} {fn : Func} {c : Code} {args : List Value} {w : World} {K : Value → World → Prop} (hf : Try.prog.funcs[f]? = some fn) (hb : fn.body = some c)
    (hsz : Nat.ble args.length fn.ntmps = true) (h : wpcY C Fence.wide m fn.ntmps lv c (argl 0 args) w (retQ C fn.results.toList K)) : CallsIn Fence.wide m Try.prog f args.toArray w fun e w' => ∃ v, e = .returned v ∧ K v w' := by
  refine callsIn_of_wp hf hb trivial ?_
  have hsz := Nat.le_of_ble_eq_true hsz
  have ha : Has fn.ntmps { tmps := args.toArray ++ Array.replicate (fn.ntmps - args.toArray.size) undef, defers := [] } (argl 0 args) := by
    refine ⟨by simp; omega, rfl, fun t v ht => ?_⟩
    obtain ⟨k, rfl, h2⟩ := argl_get ht
    have hk : k < args.length := (List.getElem?_eq_some_iff.1 h2).1
    simp only [Nat.zero_add]
    rw [Array.getElem?_append_left (by simpa using hk)]
    simpa using h2
  have fin : ∀ l' a' w', HasD fn.ntmps [] a' l' → (rsK C.ts l' fn.results.toList [] w' fun vs => match vs with | [v] => K v w' | vs => K (.tuple vs.toArray) w') →
      a'.defers = [] ∧ ∃ v, (results fn a'.tmps).run Try.prog w' = .ok v w' ∧ ∃ v', Ending.returned v = .returned v' ∧ K v' w' := by
    intro l' a' w' h1 h2
    obtain ⟨vs, h3, h4⟩ := rsK_run C (⟨h1.size, h1.defers, h1.get⟩ : Has fn.ntmps a' l') _ _ h2
    simp only [List.nil_append] at h4
    have h5 : (results fn a'.tmps).run Try.prog w' = .ok (if h : vs.toArray.size = 1 then vs.toArray[0] else .tuple vs.toArray) w' := by
      unfold results
      rw [Array.mapM_eq_mapM_toList]
      simp only [Sem.run_bind, map_eq_pure_bind, Sem.run_pure]
      exact congrArg (fun r : Result (List Value) => (r.andThen (fun a w' => Result.ok a.toArray w')).andThen (fun a w' => Result.ok (if h : a.size = 1 then a[0] else Value.tuple a) w')) h3
    refine ⟨h1.defers, _, h5, _, rfl, ?_⟩
    match vs, h4 with
    | [], h4 => exact h4
    | [v], h4 => exact h4
    | x :: y :: r, h4 => simpa using h4
  refine wpcY_sound C fa_wide c (argl 0 args) _ w _ _ ha.d h fun e l' a' w' h1 h2 _ => ?_
  cases e with
  | normal => exact fin l' a' w' h1 h2
  | ret => exact fin l' a' w' h1 h2
  | _ => exact h2.elim
/-- The iterator of maps.Values, read without its frame. -/
def vals_sh (m y c2 : Nat) (w : World) (K : Value → World → Prop) : Prop :=
  ∃ m3 : Option Nat, w.cell? ⟨c2, 0, none⟩ = some (.map m3) ∧
  ∃ (b4 : Nat) (w5 : World), (Instr.range T_map_int_sl_int (.map m3)).run Try.prog w = .ok (.pointer (some ⟨b4, 0, none⟩)) w5 ∧
  ∃ (I1 : World → Prop) (μ1 : World → Nat), I1 w5 ∧ ∀ (w6 : World), I1 w6 →
  ((∃ w7 : World, (Instr.next (.pointer (some ⟨b4, 0, none⟩)) false T_x).run Try.prog w6 = .ok (.tuple #[.bool false]) w7 ∧ K (.tuple #[]) w7) ∨
   (∃ (k9 v10 : Value) (w8 : World), (Instr.next (.pointer (some ⟨b4, 0, none⟩)) false T_x).run Try.prog w6 = .ok (.tuple #[.bool true, k9, v10]) w8 ∧
    ∃ (n11 : Int) (s12 : Sl) (w13 : World), (Instr.entry (.pointer (some ⟨b4, 0, none⟩))).run Try.prog w8 = .ok (.tuple #[.int .i64 n11, s12.val]) w13 ∧
    YieldAt Fence.wide (m - 1) Try.prog y ([] ++ [(s12.val : Value)]).toArray w13 fun e17 w18 => ∃ b19 : Bool, e17 = .returned (.bool b19) ∧
    brB (!b19) (K (.tuple #[]) w18) (I1 w18 ∧ μ1 w18 < μ1 w6)))
theorem vals_lift {m y c2 : Nat} {w : World} {K : Value → World → Prop} (h : vals_sh m y c2 w K) : CallsIn Fence.wide m Try.prog fn_maps_Values_map_int_sl_int_int_sl_int_1 #[.func (.yield y) #[] #[], .pointer (some ⟨c2, 0, none⟩)] w fun e w' => ∃ v, e = .returned v ∧ K v w' :=
  liftY_calls orc (m := m) (lv := [(1, [])]) (c := bodyOf Try.f56) (args := [.func (.yield y) #[] #[], .pointer (some ⟨c2, 0, none⟩)]) Try.func56 (by kernel_rfl) (by kernel_rfl) (Eq.mp (by kernel_rfl : vals_sh m y c2 w K = wpcY orc Fence.wide m Try.f56.ntmps [(1, [])] (bodyOf Try.f56) (argl 0 [.func (.yield y) #[] #[], .pointer (some ⟨c2, 0, none⟩)]) w (retQ orc Try.f56.results.toList K)) h)
theorem mapT : Try.prog.underlying T_map_int_sl_int = some (.map T_int T_sl_int) := by kernel_rfl
theorem mapK : KeyOk Try.prog T_int ekI := ints_keyOk (by kernel_rfl)
theorem mapZ (w : World) : (zeroValue T_sl_int).run Try.prog w = .ok (.slice none 0 0) w := by kernel_rfl
/-- A map, or none. -/
def MO (w : World) (m : Option Nat) (xs : List Et) : Prop := match m with
  | none => xs = []
  | some b => MR w b xs
theorem MO.chg {S : Nat → Prop} {w w' : World} {m : Option Nat} {xs : List Et} (h : MO w m xs) (c : Chg S w w') (hS : ∀ b, m = some b → ¬ S b) : MO w' m xs := by
  cases m with
  | none => exact h
  | some b => exact MR.chg h c (hS b rfl)
theorem MO.no {w w' : World} {m : Option Nat} {xs : List Et} (h : MO w m xs) (c : Chg No w w') : MO w' m xs := h.chg c (fun _ _ h => h)
theorem yield_mono {F : Fence} {m : Nat} {P : Program} {l : Nat} {args : Array Value} {W : World} {R R' : Ending → World → Prop} (h : YieldAt F m P l args W R) (hr : ∀ e w, R e w → R' e w) : YieldAt F m P l args W R' := by
  obtain ⟨fn, tmps, a, b, h1, h2⟩ := h
  exact ⟨fn, tmps, a, b, h1, h2.mono hr⟩
/-- How many have come. -/
def itN (w : World) (it : Nat) : Nat := match w.heap[it]? with
  | some (.mapIter _ _ s _) => s.size
  | _ => 0
theorem IT.cnt {w : World} {it b : Nat} {xs done : List Et} (h : IT w it b xs done) : itN w it = done.length := by
  obtain ⟨clock, _, _, h3⟩ := h.heap
  unfold itN
  rw [h3]; simp
theorem values_any {m y c2 : Nat} {w : World} {mb : Option Nat} {xs : List Et} (hm : MO w mb xs) (hc : w.cell? ⟨c2, 0, none⟩ = some (.map mb)) (J : List Et → World → Prop) (h0 : J [] w)
    (hJ : ∀ done W W', J done W → Chg (fun k => k = w.heap.size) W W' → J done W')
    (hY : ∀ done e W, J done W → e ∈ xs → done.length < xs.length → w.heap.size < W.heap.size → YieldAt Fence.wide (m - 1) Try.prog y ([] ++ [(e.v.val : Value)]).toArray W fun e' W' => e' = .returned (.bool true) ∧ J (done ++ [e]) W' ∧ W.heap.size ≤ W'.heap.size ∧ ∀ k, k = w.heap.size ∨ mb = some k → W'.heap[k]? = W.heap[k]?) :
    CallsIn Fence.wide m Try.prog fn_maps_Values_map_int_sl_int_int_sl_int_1 #[.func (.yield y) #[] #[], .pointer (some ⟨c2, 0, none⟩)] w fun e w' => (∃ v, e = .returned v) ∧ ∃ done, (∀ e, e ∈ done ↔ e ∈ xs) ∧ done.length = xs.length ∧ J done w' := by
  refine (vals_lift (K := fun _ w' => ∃ done, (∀ e, e ∈ done ↔ e ∈ xs) ∧ done.length = xs.length ∧ J done w') ?_).mono (by rintro e w' ⟨v, rfl, h⟩; exact ⟨⟨v, rfl⟩, h⟩)
  refine ⟨mb, hc, ?_⟩
  cases mb with
  | none =>
    have hx : xs = [] := hm
    subst hx
    obtain ⟨w5, r5, i5, c5, z5⟩ := mn_range mapT w
    refine ⟨_, w5, r5, fun W => W.heap[w.heap.size]? = some (.mapIter none 0 #[] 0) ∧ J [] W, fun _ => 0, ⟨i5, hJ _ _ _ h0 (c5.mono fun _ _ h => h.elim)⟩, ?_⟩
    rintro w6 ⟨i6, j6⟩
    exact Or.inl ⟨w6, mn_next i6 _, [], fun e => Iff.rfl, rfl, j6⟩
  | some b =>
    obtain ⟨w5, r5, i5, c5, z5⟩ := mr_range mapT (show MR w b xs from hm)
    refine ⟨_, w5, r5, fun W => ∃ done, IT W w.heap.size b xs done ∧ J done W, fun W => xs.length - itN W w.heap.size, ⟨[], i5, hJ _ _ _ h0 (c5.mono fun _ _ h => h.elim)⟩, ?_⟩
    rintro w6 ⟨done, i6, j6⟩
    rcases mr_next i6 T_x with ⟨ha, hn⟩ | ⟨e, w8, m1, m2, hn, i8, c8⟩
    · refine Or.inl ⟨w6, hn, done, ?_, ?_, j6⟩
      · exact (i6.all ha).1
      · exact (i6.all ha).2
    · refine Or.inr ⟨_, _, w8, hn, e.k, e.v, w8, mr_entry i8, ?_⟩
      have hlt := i6.more m1 m2
      refine yield_mono (hY done e w8 (hJ _ _ _ j6 c8) m1 hlt i8.lt.1) ?_
      rintro _ w18 ⟨rfl, j18, z18, k18⟩
      refine ⟨true, rfl, brB_f ?_⟩
      have i18 := i8.same (k18 b (Or.inr rfl)) (k18 _ (Or.inl rfl))
      refine ⟨⟨_, i18, j18⟩, ?_⟩
      show xs.length - itN w18 w.heap.size < xs.length - itN w6 w.heap.size
      rw [i18.cnt, i6.cnt, List.length_append, List.length_singleton]; omega
end Go.Proofs.Ytgffaimgnmfifaa

/- A range over a function, in general: the loop's record, a round, what is behind it. Over any program. -/
set_option maxRecDepth 100000
namespace Go.Proofs.Ytgffaimgnmfifaa
open Go.RowKit

section
variable {P : Program}
/-- The loop's record. -/
def lrec (fn : FuncId) (tmps : Array Value) (ps : Array Tmp) (a b : Code) (D : Nat) (st : LoopState) (pe : Option Code) : Loop := { state := st, pending := pe, fn, tmps, params := ps, assign := a, body := b, defers := D }
theorem putObj_chg {W : World} {r : Nat} {o : Obj} (o' : Obj) (h : W.heap[r]? = some o) : Chg (fun k => k = r) W (W.putObj r o') := by
  refine ⟨rfl, rfl, rfl, ?_, fun q _ hq => World.putObj_heap_other hq⟩
  simp
theorem rf_any {n : Nat} {g : Operand} {ps : Array Tmp} {assign body : Code} {Q : Exit → Act → World → Prop} {a : Act} {w : World} {gf : Nat} {lb : Array Value}
    (hg : a.eval g = .func (.func gf) #[] lb) (eg : ∀ args w, (callFunc gf args).run P w = .ok (.enter gf args) w)
    (h : ∀ fn W1, W1.heap[w.heap.size + 1]? = some (.loop (lrec fn a.tmps ps assign body w.heap.size .ready none)) → W1.heap[w.heap.size]? = some (.deferred (some [])) → Chg No w W1 → W1.heap.size = w.heap.size + 2 →
      CallsIn Fence.wide (n - 1) P gf (#[.func (.yield (w.heap.size + 1)) #[] #[]] ++ lb) W1 fun e W3 => (∃ v, e = .returned v) ∧ W3.heap[w.heap.size + 1]? = some (.loop (lrec fn a.tmps ps assign body w.heap.size .ready none)) ∧
        ∀ W4, Chg (fun k => k = w.heap.size + 1) W3 W4 → Q .normal { a with defers := { target := .collected w.heap.size, args := #[] } :: a.defers } W4) :
    (Code.rangeFunc g ps assign body).wpIn Fence.wide n P Q a w := by
  refine wpIn_rangeFunc ?_
  intro fn hfn
  obtain ⟨W1, hW1⟩ : ∃ W1, (w.alloc (.deferred (some []))).alloc (.loop (lrec fn a.tmps ps assign body w.heap.size .ready none)) = W1 := ⟨_, rfl⟩
  have hL1 : W1.heap[w.heap.size + 1]? = some (.loop (lrec fn a.tmps ps assign body w.heap.size .ready none)) := by
    rw [← hW1]; have := World.alloc_heap_new (w.alloc (.deferred (some []))) (.loop (lrec fn a.tmps ps assign body w.heap.size .ready none)); rwa [World.size_alloc] at this
  have hK1 : W1.heap[w.heap.size]? = some (.deferred (some [])) := by
    rw [← hW1]; exact (Below.heap_alloc _ _ _ (by simp)).trans (World.alloc_heap_new w _)
  have hc : Chg No w W1 := by rw [← hW1]; exact (Chg.alloc _ _ _).trans (Chg.alloc _ _ _) (fun _ _ h => h) (fun _ _ h => h)
  have hs : W1.heap.size = w.heap.size + 2 := by rw [← hW1]; simp
  refine ⟨w.heap.size + 1, [{ target := .collected w.heap.size, args := #[] }], W1, { target := .fn (.func gf) lb, args := #[.func (.yield (w.heap.size + 1)) #[] #[]] }, W1, gf,
    #[.func (.yield (w.heap.size + 1)) #[] #[]] ++ lb, W1, ?_, ?_, ?_, ?_, (fun h => by cases h), ?_⟩
  · rw [← hW1]; exact run_enterLoop_outer _ _ _ _ _
  · simp only [resolve, hg]
    simp [go_sem]
  · intro f' hf'; exact trivial
  · simp [invoke, go_sem, eg]
  · refine (h fn W1 hL1 hK1 hc hs).mono ?_
    rintro e W3 ⟨⟨v, rfl⟩, hl, hq⟩
    exact ⟨none, _, run_endLoop hl (by simp [lrec]), hq _ (putObj_chg _ hl)⟩
theorem HasD.arg {N : Nat} {ds : List Deferred} {a : Act} {l : Fl} (h : HasD N ds a l) {t : Nat} (ht : t < N) (v : Value) : HasD N [] { tmps := a.tmps.setIfInBounds t v, defers := [] } ((t, v) :: l) := by
  refine ⟨by simpa using h.size, rfl, fun k u hk => ?_⟩
  have hs := h.size
  rw [lkN_cons] at hk
  by_cases e : t = k
  · rw [if_pos e] at hk; subst e
    show (a.tmps.setIfInBounds t v)[t]? = some u
    rw [Array.getElem?_setIfInBounds_self_of_lt (by omega), ← Option.some.inj hk]
  · rw [if_neg e] at hk
    show (a.tmps.setIfInBounds t v)[k]? = some u
    rw [Array.getElem?_setIfInBounds_ne e]
    exact h.get _ _ hk
theorem results_one {fn : Func} {tmps : Array Value} {t : Nat} {v : Value} (w : World) (hr : fn.results = #[.tmp t]) (h : tmps[t]? = some v) : (results fn tmps).run P w = .ok v w := by
  have ev : tmps.getD t undef = v := by simp [h]
  unfold results
  rw [hr, Array.mapM_eq_mapM_toList]
  simp only [List.mapM_cons, List.mapM_nil, Sem.run_bind, map_eq_pure_bind, Sem.run_pure, Result.andThen_ok, ev]
  rfl
theorem hasArgs {N : Nat} {args : List Value} (h : args.length ≤ N) : HasD N [] { tmps := args.toArray ++ Array.replicate (N - args.toArray.size) undef, defers := [] } (argl 0 args) := by
  refine ⟨by simp; omega, rfl, fun t v ht => ?_⟩
  obtain ⟨k, rfl, h2⟩ := argl_get ht
  have hk : k < args.length := (List.getElem?_eq_some_iff.1 h2).1
  simp only [Nat.zero_add]
  rw [Array.getElem?_append_left (by simpa using hk)]
  simpa using h2
theorem rf_round (C : Orc P) {y m N t D : Nat} {fn : FuncId} {tmps : Array Value} {assign body : Code} {W : World} {v : Value} {l : Fl} {R : World → Prop}
    (hl : W.heap[y]? = some (.loop (lrec fn tmps #[t] assign body D .ready none))) (ha : HasD N [] { tmps := tmps.setIfInBounds t v, defers := [] } l)
    (h : wpcY C (Fence.wide.inRound y) m N [] assign l W fun e l1 w1 => e = .normal ∧ w1 = W ∧ ∀ W2, Chg (fun k => k = y) W W2 → W2.heap[y]? = some (.loop (lrec fn tmps #[t] assign body D .busy none)) →
      wpcY C (Fence.wide.inRound y) m N [] body l1 W2 fun e _ W3 => match e with | .normal => W3.heap[y]? = W2.heap[y]? ∧ ∀ W4, Chg (fun k => k = y) W3 W4 → W4.heap[y]? = some (.loop (lrec fn tmps #[t] assign body D .ready none)) → R W4 | _ => False) :
    YieldAt Fence.wide m P y #[v] W fun e W' => e = .returned (.bool true) ∧ R W' := by
  have hy := run_yield (P := P) (args := #[v]) hl rfl
  refine ⟨fn, _, assign, body, hy, ?_⟩
  have e1 : ((lrec fn tmps #[t] assign body D .ready none).params.zip #[v]).foldl (fun (tmps : Array Value) (x : Tmp × Value) => tmps.setIfInBounds x.1 x.2) (lrec fn tmps #[t] assign body D .ready none).tmps = tmps.setIfInBounds t v := by
    simp [lrec]
  rw [e1]
  refine roundIn_of_wpIn trivial (wpcY_sound C (fa_round y) assign l _ W _ _ ha h fun e l1 a1 w1 ha1 hq _ => ?_)
  obtain ⟨rfl, rfl, h2⟩ := hq
  have hlt : y < w1.heap.size := (Array.getElem?_eq_some_iff.1 hl).1
  refine ⟨_, run_beginRound hl rfl, ?_⟩
  have hb : (w1.putObj y (.loop { lrec fn tmps #[t] assign body D .ready none with state := .busy })).heap[y]? = some (.loop (lrec fn tmps #[t] assign body D .busy none)) := World.putObj_heap_same hlt
  refine wpcY_sound C (fa_round y) body l1 a1 _ _ _ ha1 (h2 _ (putObj_chg _ hl) hb) fun e l2 a2 W3 _ hq _ => ?_
  have hn : e = .normal := by cases e <;> first | rfl | exact hq.elim
  subst hn
  obtain ⟨h3, h4⟩ := hq
  have h3' := h3.trans hb
  refine ⟨_, _, run_endRound none h3', rfl, h4 _ (putObj_chg _ h3') ?_⟩
  exact World.putObj_heap_same (Array.getElem?_eq_some_iff.1 h3').1
end
end Go.Proofs.Ytgffaimgnmfifaa

/- slices.Collect of a map's values. -/
set_option maxRecDepth 100000
namespace Go.Proofs.Ytgffaimgnmfifaa
open Go.RowKit

def slI : Enc Sl := slE T_sl_int
theorem slOk : EncOk Try.prog slI T_sl_sl_int := EncOk.of (z := .slice none 0 0) (by kernel_rfl) (by kernel_rfl) (by kernel_rfl)
def sA : Code → Code
  | .seq a _ => a
  | c => c
def sB : Code → Code
  | .seq _ b => b
  | c => c
def bA : Code → Code
  | .block _ b => b
  | c => c
def rfA : Code → Code
  | .rangeFunc _ _ a _ => a
  | c => c
def rfB : Code → Code
  | .rangeFunc _ _ _ b => b
  | c => c
def as0 (c : Code) : Code := sA c
def as1 (c : Code) : Code := sA (sA (sB c))
def asF (c : Code) : Code := bA (sB (sA (sB c)))
def as4 (c : Code) : Code := sA (sB (sB c))
theorem as_shape : Try.f55.body = some (.seq (as0 (bodyOf Try.f55)) (.seq (.seq (as1 (bodyOf Try.f55)) (.block 0 (.rangeFunc (.tmp 6) #[7] (rfA (asF (bodyOf Try.f55))) (rfB (asF (bodyOf Try.f55)))))) (.seq (as4 (bodyOf Try.f55)) .ret))) := by kernel_rfl
def sqV (c2 : Nat) : Value := .func (.func fn_maps_Values_map_int_sl_int_int_sl_int_1) #[] #[.pointer (some ⟨c2, 0, none⟩)]
theorem as0_sh {F : Fence} {m : Nat} {v1 : Value} {w : World} {Q : Exit → Fl → World → Prop} :
    wpcY orc F m 13 [] (as0 (bodyOf Try.f55)) [(0, .slice none 0 0), (1, v1)] w Q = ∀ (b : Nat) (w1 : World), b = w.heap.size → w1 = World.alloc w (.cells #[.slice none 0 0] T_sl_sl_int) → Q .normal [(4, .slice none 0 0), (2, .pointer (some ⟨b, 0, none⟩)), (0, .slice none 0 0), (1, v1)] w1 := by kernel_rfl
theorem as1_sh {F : Fence} {m b : Nat} {v1 : Value} {w : World} {Q : Exit → Fl → World → Prop} :
    wpcY orc F m 13 [] (as1 (bodyOf Try.f55)) [(4, .slice none 0 0), (2, .pointer (some ⟨b, 0, none⟩)), (0, .slice none 0 0), (1, v1)] w Q = Q .normal [(6, v1), (4, .slice none 0 0), (2, .pointer (some ⟨b, 0, none⟩)), (0, .slice none 0 0), (1, v1)] w := by kernel_rfl
theorem asA_sh {F : Fence} {m b : Nat} {v v1 : Value} {w : World} {Q : Exit → Fl → World → Prop} :
    wpcY orc F m 13 [] (rfA (asF (bodyOf Try.f55))) [(7, v), (6, v1), (4, .slice none 0 0), (2, .pointer (some ⟨b, 0, none⟩)), (0, .slice none 0 0), (1, v1)] w Q = Q .normal [(5, v), (7, v), (6, v1), (4, .slice none 0 0), (2, .pointer (some ⟨b, 0, none⟩)), (0, .slice none 0 0), (1, v1)] w := by kernel_rfl
/-- What the body of the loop does. -/
def asB_sh (b : Nat) (v : Sl) (w : World) (Q : World → Prop) : Prop :=
  ∃ s8 : Sl, w.cell? ⟨b, 0, none⟩ = some s8.val ∧ ∀ (b10 : Nat) (w2 : World), b10 = w.heap.size → w2 = World.alloc w (.cells #[v.val] T_sl_int) →
  ∃ s11 : Sl, ∃ w3 : World, (Builtin.append_ #[T_sl_sl_int, T_sl_sl_int] T_sl_sl_int #[s8.val, .slice (some ⟨b10, 0, none⟩) 1 1]).run Try.prog w2 = .ok s11.val w3 ∧
  wrOk w3 ⟨b, 0, none⟩ 1 ∧ ∀ w4 : World, w4 = stW w3 ⟨b, 0, none⟩ 0 [s11.val] → Q w4
theorem asB_eq {F : Fence} {m b : Nat} {v : Sl} {v1 : Value} {w : World} {Q : World → Prop} :
    asB_sh b v w Q = wpcY orc F m 13 [] (rfB (asF (bodyOf Try.f55))) [(5, v.val), (7, v.val), (6, v1), (4, .slice none 0 0), (2, .pointer (some ⟨b, 0, none⟩)), (0, .slice none 0 0), (1, v1)] w fun e _ w' => match e with | .normal => Q w' | _ => False := by kernel_rfl
theorem as4_sh {F : Fence} {m b : Nat} {v1 : Value} {w : World} {Q : Exit → Fl → World → Prop} :
    wpcY orc F m 13 [] (as4 (bodyOf Try.f55)) [(6, v1), (4, .slice none 0 0), (2, .pointer (some ⟨b, 0, none⟩)), (0, .slice none 0 0), (1, v1)] w Q = ∃ s : Sl, w.cell? ⟨b, 0, none⟩ = some s.val ∧ Q .normal [(4, s.val), (12, s.val), (6, v1), (4, .slice none 0 0), (2, .pointer (some ⟨b, 0, none⟩)), (0, .slice none 0 0), (1, v1)] w := by kernel_rfl
/-- Between two rounds. -/
structure CJ (w : World) (lp : Obj) (y D bx it : Nat) (done : List Et) (W : World) : Prop where
  l : W.heap[y]? = some lp
  d : W.heap[D]? = some (.deferred (some []))
  row : ∃ s, Ob W bx [s.val] T_sl_sl_int ∧ Ow slI W s (done.map (·.v)) ∧ ∀ k, s.blk = some k → it < k
  ch : Chg No w W
theorem appendSeq_any {w : World} {c2 : Nat} {mb : Option Nat} {xs : List Et} (hm : MO w mb xs) (hc : w.cell? ⟨c2, 0, none⟩ = some (.map mb)) (hl : xs.length ≤ 1000000) :
    Calls Try.prog fn_slices_AppendSeq_sl_sl_int_sl_int #[.slice none 0 0, sqV c2] w fun e w' => ∃ s : Sl, e = .returned s.val ∧ ∃ done : List Et, (∀ e, e ∈ done ↔ e ∈ xs) ∧ done.length = xs.length ∧ Ow slI w' s (done.map (·.v)) ∧ Chg No w w' ∧ ∀ k, s.blk = some k → w.heap.size ≤ k := by
  refine (callsIn_wide (n := 5)).1 (callsIn_of_wp_marks Try.func55 as_shape trivial ?_)
  have ha : HasD 13 [] { tmps := #[.slice none 0 0, sqV c2] ++ Array.replicate (13 - 2) undef, defers := [] } [(0, .slice none 0 0), (1, sqV c2)] := hasArgs (args := [.slice none 0 0, sqV c2]) (by simp)
  rw [show Try.f55.ntmps = 13 by kernel_rfl]
  refine wpIn_seq (wpcY_sound orc fa_wide (lv := []) _ [(0, .slice none 0 0), (1, sqV c2)] _ w (fun e l w1 => e = .normal ∧ l = [(4, .slice none 0 0), (2, .pointer (some ⟨w.heap.size, 0, none⟩)), (0, .slice none 0 0), (1, sqV c2)] ∧ w1 = World.alloc w (.cells #[.slice none 0 0] T_sl_sl_int)) _ ha ?_ fun e l1 a1 w1 ha1 hq _ => ?_)
  · rw [as0_sh]; rintro b w1 rfl rfl; exact ⟨rfl, rfl, rfl⟩
  obtain ⟨rfl, rfl, hw1⟩ := hq
  have c1 : Chg No w w1 := by rw [hw1]; exact Chg.alloc _ _ _
  have s1 : w1.heap.size = w.heap.size + 1 := by rw [hw1]; simp
  have ob1 : Ob w1 w.heap.size [.slice none 0 0] T_sl_sl_int := by rw [hw1]; exact Ob.new w _ _
  refine wpIn_seq (wpIn_seq (wpcY_sound orc fa_wide (lv := []) _ _ a1 w1 (fun e l w2 => e = .normal ∧ l = [(6, sqV c2), (4, .slice none 0 0), (2, .pointer (some ⟨w.heap.size, 0, none⟩)), (0, .slice none 0 0), (1, sqV c2)] ∧ w1 = w2) _ ha1 ?_ fun e l2 a2 w2 ha2 hq _ => ?_))
  · rw [as1_sh]; exact ⟨rfl, rfl, rfl⟩
  obtain ⟨rfl, rfl, rfl⟩ := hq
  refine wpIn_block (rf_any (gf := fn_maps_Values_map_int_sl_int_int_sl_int_1) (lb := #[.pointer (some ⟨c2, 0, none⟩)]) (ha2.ov (x := .tmp 6) rfl) (orc.sok fn_maps_Values_map_int_sl_int_int_sl_int_1 _ rfl) ?_)
  intro fn W1 hy hD hc1 hs1
  have cW : Chg No w W1 := c1.trans hc1 (fun _ _ h => h) (fun _ _ h => h)
  have hmW : MO W1 mb xs := hm.no cW
  have hcW : W1.cell? ⟨c2, 0, none⟩ = some (.map mb) := cW.cell hc (fun h => h)
  refine (values_any (m := 5 - 1) hmW hcW (CJ w (.loop (lrec fn a2.tmps #[7] (rfA (asF (bodyOf Try.f55))) (rfB (asF (bodyOf Try.f55))) w1.heap.size .ready none)) (w1.heap.size + 1) w1.heap.size w.heap.size W1.heap.size) ⟨hy, hD, ⟨nilS, ob1.no hc1, Ow.nil _ _, fun k hk => by cases hk⟩, cW⟩ ?_ ?_).mono ?_
  · rintro done W W' ⟨j1, j2, ⟨s, j3, j4, j5⟩, j6⟩ hC
    refine ⟨hC.row j1 (by omega), hC.row j2 (by omega), ⟨s, j3.chg hC (by omega), j4.chg hC (fun k hk => by have := j5 k hk; omega), j5⟩, j6.trans hC (fun _ _ h => h) (fun k hk he => by omega)⟩
  · rintro done e W ⟨j1, j2, ⟨s, j3, j4, j5⟩, j6⟩ he hlt hsz
    have hlen : (done.map (·.v)).length = done.length := List.length_map _
    refine yield_mono (rf_round orc j1 (ha2.arg (t := 7) (by decide) _) (R := fun W' => CJ w (.loop (lrec fn a2.tmps #[7] (rfA (asF (bodyOf Try.f55))) (rfB (asF (bodyOf Try.f55))) w1.heap.size .ready none)) (w1.heap.size + 1) w1.heap.size w.heap.size W1.heap.size (done ++ [e]) W' ∧ W.heap.size ≤ W'.heap.size ∧ ∀ k, k = W1.heap.size ∨ mb = some k → W'.heap[k]? = W.heap[k]?) ?_) (fun e' w' h => h)
    rw [asA_sh]
    refine ⟨rfl, rfl, fun W2 c2' hb2 => ?_⟩
    refine Eq.mp asB_eq ?_
    have j3b := j3.chg c2' (by omega)
    have j4b := j4.chg c2' (fun k hk => by have := j5 k hk; omega)
    refine ⟨s, j3b.cell rfl, fun b10 w2' hb hw => ?_⟩
    have c3 : Chg No W2 w2' := by rw [hw]; exact Chg.alloc _ _ _
    have hlit : Ow slI w2' ⟨some ⟨b10, 0, none⟩, 1, 1⟩ [e.v] := by rw [hw, hb]; exact Ow.lit W2 [e.v] [e.v.val] rfl (by unfold maxLen; simp)
    have hs2 : W.heap.size ≤ W2.heap.size := c2'.size
    refine app_ok slOk rfl rfl (j4b.no c3) hlit.rd (by rw [hlen]; show (done.length + 1) * 24 ≤ _; omega) (by rw [hlen]; show done.length + 1 ≤ maxLen; unfold maxLen; omega) ?_
    intro s' w3 o5 c5 bk5
    have nb : ∀ k, s.blk = some k → k ≠ w.heap.size ∧ k ≠ w1.heap.size ∧ k ≠ w1.heap.size + 1 := fun k hk => by have := j5 k hk; omega
    have j3c := (j3b.no c3).chg c5 (fun h => (nb _ h).1 rfl)
    refine ⟨j3c.wr (by simp), fun w4 h4 => ?_⟩
    obtain ⟨o6, c6⟩ := j3c.up (cs' := [s'.val]) (k := 0) (vs := [s'.val]) (by simp) rfl h4
    have hb10 : W1.heap.size < b10 := by omega
    have hbk : ∀ k, s'.blk = some k → W1.heap.size < k := fun k hk => by
      rcases bk5 with h | h
      · rw [h] at hk; exact j5 k hk
      · rw [h] at hk; cases hk
        have := c3.size; omega
    have hy3 : w3.heap[w1.heap.size + 1]? = W2.heap[w1.heap.size + 1]? := (c5.block _ (by have := c3.size; omega) (fun h => (nb _ h).2.2 rfl)).trans (c3.block _ (by omega) (fun h => h))
    refine ⟨(c6.block _ (by have := c3.size; have := c5.size; omega) (by omega)).trans hy3, fun W4 c7 h7 => ?_⟩
    have cA : Chg (fun k => k = w1.heap.size + 1 ∨ k = w.heap.size ∨ s.blk = some k) W W4 :=
      c2'.trans (c3.trans (c5.trans (c6.trans c7 (U := fun k => k = w1.heap.size + 1 ∨ k = w.heap.size) (fun _ _ h => Or.inr h) (fun _ _ h => Or.inl h)) (U := fun k => k = w1.heap.size + 1 ∨ k = w.heap.size ∨ s.blk = some k) (fun _ _ h => Or.inr (Or.inr h)) (fun _ _ h => h.elim Or.inl (fun h => Or.inr (Or.inl h)))) (fun _ _ h => h.elim) (fun _ _ h => h)) (fun _ _ h => Or.inl h) (fun _ _ h => h)
    have hn : ∀ k, (k < w.heap.size ∨ k = w1.heap.size ∨ k = W1.heap.size) → ¬ (k = w1.heap.size + 1 ∨ k = w.heap.size ∨ s.blk = some k) := fun k hk h => by
      rcases h with h | h | h
      · omega
      · omega
      · have := j5 k h; omega
    refine ⟨⟨h7, cA.row j2 (hn _ (by omega)), ⟨s', o6.chg c7 (by omega), ?_, hbk⟩, j6.trans cA (fun _ _ h => h) (fun k hk h => hn k (Or.inl hk) h)⟩, cA.size, fun k hk => cA.block k ?_ (hn k ?_)⟩
    · have := (o5.chg c6 (fun k hk => by have := hbk k hk; omega)).chg c7 (fun k hk => by have := hbk k hk; omega)
      rw [List.map_append]; exact this
    · rcases hk with rfl | rfl
      · exact hsz
      · have := MR.lt hmW; omega
    · rcases hk with rfl | rfl
      · exact Or.inr (Or.inr rfl)
      · exact Or.inl (MR.lt hm)
  · rintro e W3 ⟨hv, done, hd1, hd2, ⟨j1, j2, ⟨s, j3, j4, j5⟩, j6⟩⟩
    refine ⟨hv, j1, fun W4 c4 => ?_⟩
    have ha3 : HasD 13 [{ target := .collected w1.heap.size, args := #[] }] { a2 with defers := { target := .collected w1.heap.size, args := #[] } :: a2.defers } [(6, sqV c2), (4, .slice none 0 0), (2, .pointer (some ⟨w.heap.size, 0, none⟩)), (0, .slice none 0 0), (1, sqV c2)] := ⟨ha2.size, by rw [ha2.defers], ha2.get⟩
    have j3' := j3.chg c4 (by omega)
    have j4' := j4.chg c4 (fun k hk => by have := j5 k hk; omega)
    have j2' := c4.row j2 (by omega)
    refine wpIn_seq (wpcY_sound orc fa_wide (lv := []) _ _ _ W4 (fun e l w5 => e = .normal ∧ lkN l 4 = some s.val ∧ W4 = w5) _ ha3 ?_ fun e l5 a5 w5 ha5 hq _ => ?_)
    · rw [as4_sh]; exact ⟨s, j3'.cell rfl, rfl, rfl, rfl⟩
    obtain ⟨rfl, hl5, rfl⟩ := hq
    refine wpIn_ret ?_
    show LeavesInM Fence.wide 5 Try.prog Try.f55 a5.tmps _ a5.defers .returning W4
    rw [ha5.defers]
    refine ⟨(fun h => by cases h), Or.inl ⟨_, _, rfl, run_takeDeferred j2', ?_⟩⟩
    have c5 : Chg (fun k => k = w1.heap.size) W4 (W4.putObj w1.heap.size (.deferred none)) := putObj_chg _ j2'
    refine ⟨s.val, ?_, s, rfl, done, hd1, hd2, j4'.chg c5 (fun k hk => by have := j5 k hk; omega), ?_, fun k hk => by have := j5 k hk; omega⟩
    · exact results_one _ (by kernel_rfl) (ha5.get 4 _ hl5)
    · exact (j6.trans c4 (fun _ _ h => h) (fun k hk h => by omega)).trans c5 (fun _ _ h => h) (fun k hk h => by omega)
end Go.Proofs.Ytgffaimgnmfifaa

/- slices.Sort and slices.Compact at lists of numbers: the shelf's contracts at this program. (Laid by the kit's own tools; see mksol.py.) -/
set_option maxRecDepth 100000
namespace Go.Proofs.Ytgffaimgnmfifaa
def lays189_ren : Go.Shelf.Ren := ⟨fun | 189 => 20 | 125 => 53 | 257 => 52 | 128 => 78 | 129 => 79 | 294 => 70 | 295 => 71 | 296 => 72 | 297 => 73 | 298 => 74 | 299 => 75 | 216 => 68 | 300 => 76 | 301 => 77 | 328 => 82 | 329 => 83 | 330 => 84 | 331 => 85 | 332 => 86 | 215 => 81 | 343 => 87 | n => n, fun | 28 => 22 | 3 => 3 | 46 => 73 | 0 => 0 | 51 => 110 | 53 => 112 | 4 => 4 | 183 => 104 | 182 => 103 | 131 => 69 | 5 => 5 | 9 => 9 | 218 => 114 | 222 => 118 | 228 => 121 | 229 => 122 | n => n, fun | n => n⟩
theorem lays189 : Go.Proofs.Lays.n189 Try.prog lays189_ren := {
  mixed := by kernel_rfl
  f125 := Try.func53.trans (congrArg some (by kernel_rfl))
  f128 := Try.func78.trans (congrArg some (by kernel_rfl))
  f129 := Try.func79.trans (congrArg some (by kernel_rfl))
  f189 := Try.func20.trans (congrArg some (by kernel_rfl))
  f215 := Try.func81.trans (congrArg some (by kernel_rfl))
  f216 := Try.func68.trans (congrArg some (by kernel_rfl))
  f257 := Try.func52.trans (congrArg some (by kernel_rfl))
  f294 := Try.func70.trans (congrArg some (by kernel_rfl))
  f295 := Try.func71.trans (congrArg some (by kernel_rfl))
  f296 := Try.func72.trans (congrArg some (by kernel_rfl))
  f297 := Try.func73.trans (congrArg some (by kernel_rfl))
  f298 := Try.func74.trans (congrArg some (by kernel_rfl))
  f299 := Try.func75.trans (congrArg some (by kernel_rfl))
  f300 := Try.func76.trans (congrArg some (by kernel_rfl))
  f301 := Try.func77.trans (congrArg some (by kernel_rfl))
  f328 := Try.func82.trans (congrArg some (by kernel_rfl))
  f329 := Try.func83.trans (congrArg some (by kernel_rfl))
  f330 := Try.func84.trans (congrArg some (by kernel_rfl))
  f331 := Try.func85.trans (congrArg some (by kernel_rfl))
  f332 := Try.func86.trans (congrArg some (by kernel_rfl))
  f343 := Try.func87.trans (congrArg some (by kernel_rfl))
  t0 := Try.underlying0
  a0 := Try.isAgg0
  z0 := Try.sizeOf0
  v0 := Try.zeroValue0
  t3 := Try.underlying3
  a3 := Try.isAgg3
  z3 := Try.sizeOf3
  v3 := Try.zeroValue3
  t4 := Try.underlying4
  a4 := Try.isAgg4
  z4 := Try.sizeOf4
  v4 := Try.zeroValue4
  t5 := Try.underlying5
  a5 := Try.isAgg5
  z5 := Try.sizeOf5
  v5 := Try.zeroValue5
  t9 := Try.underlying9
  a9 := Try.isAgg9
  z9 := Try.sizeOf9
  v9 := Try.zeroValue9
  t28 := Try.underlying22
  a28 := Try.isAgg22
  z28 := Try.sizeOf22
  v28 := Try.zeroValue22
  t46 := Try.underlying73
  a46 := Try.isAgg73
  z46 := Try.sizeOf73
  v46 := Try.zeroValue73
  t51 := Try.underlying110
  a51 := Try.isAgg110
  z51 := Try.sizeOf110
  v51 := Try.zeroValue110
  t53 := Try.underlying112
  a53 := Try.isAgg112
  z53 := Try.sizeOf112
  v53 := Try.zeroValue112
  t131 := Try.underlying69
  a131 := Try.isAgg69
  z131 := Try.sizeOf69
  v131 := Try.zeroValue69
  t182 := Try.underlying103
  a182 := Try.isAgg103
  z182 := Try.sizeOf103
  v182 := Try.zeroValue103
  t183 := Try.underlying104
  a183 := Try.isAgg104
  z183 := Try.sizeOf104
  v183 := Try.zeroValue104
  t218 := Try.underlying114
  a218 := Try.isAgg114
  z218 := Try.sizeOf114
  v218 := Try.zeroValue114
  t222 := Try.underlying118
  a222 := Try.isAgg118
  z222 := Try.sizeOf118
  v222 := Try.zeroValue118
  t228 := Try.underlying121
  a228 := Try.isAgg121
  z228 := Try.sizeOf121
  v228 := Try.zeroValue121
  t229 := Try.underlying122
  a229 := Try.isAgg122
  z229 := Try.sizeOf122
  v229 := Try.zeroValue122 }
open Go.Sort Go.RowKit in
theorem slices_Sort_int (blk off cap : Nat) (zs : List Int) (w : World) (hH : Holds (Value.int .i64) w blk off zs.toArray) (hblk : blk < w.heap.size) (hsz : zs.length < 4611686018427387904) :
    Calls Try.prog 20 #[.slice (some ⟨blk, off, none⟩) zs.length cap] w fun e w' =>
      e = .returned (.tuple #[]) ∧ ∃ n os, w' = grow (putRow (Value.int .i64) (Sort.ahead w n) blk off (zs.mergeSort fun x y => decide (x ≤ y)).toArray) os := Any.slices_Sort_int lays189 blk off cap zs w hH hblk hsz
def laysNm220_ren : Go.Shelf.Ren := ⟨fun | 20 => 50 | n => n, fun | 22 => 22 | 3 => 3 | 4 => 4 | 0 => 0 | n => n, fun | n => n⟩
theorem laysNm220 : Go.Proofs.Lays2.n20 Try.prog laysNm220_ren := {
  mixed := by kernel_rfl
  f20 := Try.func50.trans (congrArg some (by kernel_rfl))
  t0 := Try.underlying0
  a0 := Try.isAgg0
  z0 := Try.sizeOf0
  v0 := Try.zeroValue0
  t3 := Try.underlying3
  a3 := Try.isAgg3
  z3 := Try.sizeOf3
  v3 := Try.zeroValue3
  t4 := Try.underlying4
  a4 := Try.isAgg4
  z4 := Try.sizeOf4
  v4 := Try.zeroValue4
  t22 := Try.underlying22
  a22 := Try.isAgg22
  z22 := Try.sizeOf22
  v22 := Try.zeroValue22
  i3 := by kernel_rfl }
open Go.RowKit Go.Lib Go.Sort in
theorem slices_Compact_int (blk off cap : Nat) (zs : List Int) (w : World) (hH : Holds (Value.int .i64) w blk off zs.toArray) (hsz : zs.length ≤ 9223372036854775807) (hcap : zs.length ≤ cap) :
    Calls Try.prog 50 #[.slice (some ⟨blk, off, none⟩) zs.length cap] w fun e w' => e = .returned (.slice (some ⟨blk, off, none⟩) (Lib.compact zs).length cap) ∧ ∃ q, w' = putRow (Value.int .i64) (Sort.ahead w q) blk off (Lib.compact zs ++ List.replicate (zs.length - (Lib.compact zs).length) 0).toArray := Any.slices_Compact_int laysNm220 blk off cap zs w hH hsz hcap
open Go.RowKit Go.Lib Go.Sort in
theorem slices_Compact_int_empty (a : Option Addr) (cap : Nat) (w : World) :
    Calls Try.prog 50 #[.slice a 0 cap] w fun e w' => e = .returned (.slice a 0 cap) ∧ w' = w := Any.slices_Compact_int_empty laysNm220 a cap w
def laysNm225_ren : Go.Shelf.Ren := ⟨fun | 25 => 51 | 31 => 68 | 32 => 69 | 37 => 81 | n => n, fun | 22 => 22 | 3 => 3 | 4 => 4 | 40 => 73 | 0 => 0 | n => n, fun | n => n⟩
theorem laysNm225 : Go.Proofs.Lays2.n25 Try.prog laysNm225_ren := {
  mixed := by kernel_rfl
  f25 := Try.func51.trans (congrArg some (by kernel_rfl))
  f31 := Try.func68.trans (congrArg some (by kernel_rfl))
  f32 := Try.func69.trans (congrArg some (by kernel_rfl))
  f37 := Try.func81.trans (congrArg some (by kernel_rfl))
  t0 := Try.underlying0
  a0 := Try.isAgg0
  z0 := Try.sizeOf0
  v0 := Try.zeroValue0
  t3 := Try.underlying3
  a3 := Try.isAgg3
  z3 := Try.sizeOf3
  v3 := Try.zeroValue3
  t4 := Try.underlying4
  a4 := Try.isAgg4
  z4 := Try.sizeOf4
  v4 := Try.zeroValue4
  t22 := Try.underlying22
  a22 := Try.isAgg22
  z22 := Try.sizeOf22
  v22 := Try.zeroValue22
  t40 := Try.underlying73
  a40 := Try.isAgg73
  z40 := Try.sizeOf73
  v40 := Try.zeroValue73 }
open Go.RowKit Go.Lib in
theorem slices_BinarySearch_int (b off n c : Nat) (zs : List Int) (x : Int) (w : World) (hz : n ≤ zs.length) (hbig : n < 4611686018427387904) (hc : ∀ j, j < zs.length → w.cell? ⟨b, off + j, none⟩ = some (.int .i64 (zs.getD j 0))) (hs : (zs.take n).Pairwise (· ≤ ·)) :
    Calls Try.prog 51 #[.slice (some ⟨b, off, none⟩) n c, .int .i64 x] w fun e w' => e = .returned (.tuple #[.int .i64 ((zs.take n).countP (· < x) : Nat), .bool ((zs.take n).contains x)]) ∧ ∃ q, w' = w.drewN q := Any.slices_BinarySearch_int laysNm225 b off n c zs x w hz hbig hc hs
open Go.RowKit Go.Sort in
theorem slices_Sort_int_none (p : Option Addr) (cap : Nat) (w : World) :
    Calls Try.prog 20 #[.slice p 0 cap] w fun e w' => e = .returned (.tuple #[]) ∧ w' = w := Any.slices_Sort_int_none lays189 p cap w
end Go.Proofs.Ytgffaimgnmfifaa

/- Lists of numbers that are sorted, each once. No program in sight. -/
set_option maxRecDepth 100000
namespace Go.Proofs.Ytgffaimgnmfifaa
open Go.RowKit

theorem uniq_lt : ∀ {l m : List Int}, l.Pairwise (· < ·) → m.Pairwise (· < ·) → (∀ x, x ∈ l ↔ x ∈ m) → l = m
  | [], [], _, _, _ => rfl
  | [], b :: m, _, _, h => absurd ((h b).2 (List.mem_cons.2 (Or.inl rfl))) (by simp)
  | a :: l, [], _, _, h => absurd ((h a).1 (List.mem_cons.2 (Or.inl rfl))) (by simp)
  | a :: l, b :: m, hl, hm, h => by
    obtain ⟨l1, l2⟩ := List.pairwise_cons.1 hl
    obtain ⟨m1, m2⟩ := List.pairwise_cons.1 hm
    have e : a = b := by
      rcases List.mem_cons.1 ((h a).1 (List.mem_cons.2 (Or.inl rfl))) with e | e
      · exact e
      rcases List.mem_cons.1 ((h b).2 (List.mem_cons.2 (Or.inl rfl))) with e' | e'
      · exact e'.symm
      · have := m1 a e; have := l1 b e'; omega
    subst e
    congr 1
    refine uniq_lt l2 m2 fun x => ⟨fun hx => ?_, fun hx => ?_⟩
    · rcases List.mem_cons.1 ((h x).1 (List.mem_cons.2 (Or.inr hx))) with e | e
      · have := l1 x hx; omega
      · exact e
    · rcases List.mem_cons.1 ((h x).2 (List.mem_cons.2 (Or.inr hx))) with e | e
      · have := m1 x hx; omega
      · exact e
theorem cUp (d : Array Int) (hs : ∀ i j, i ≤ j → j < d.size → d[i]! ≤ d[j]!) : ∀ m, m ≤ d.size → (Lib.compactUpTo d m).Pairwise (· < ·) ∧ ∀ x, x ∈ Lib.compactUpTo d m ↔ ∃ j, j < m ∧ d[j]! = x
  | 0, _ => ⟨List.Pairwise.nil, fun x => ⟨(fun h => by cases h), fun ⟨j, h, _⟩ => by omega⟩⟩
  | m + 1, hm => by
    obtain ⟨h1, h2⟩ := cUp d hs m (by omega)
    rw [Lib.compactUpTo_succ]
    by_cases hk : Lib.keeps d m = true
    · rw [if_pos hk]
      have hk' : m = 0 ∨ d[m]! ≠ d[m - 1]! := of_decide_eq_true hk
      refine ⟨List.pairwise_append.2 ⟨h1, List.pairwise_singleton _ _, fun a ha b hb => ?_⟩, fun x => ?_⟩
      · rw [List.mem_singleton.1 hb]
        obtain ⟨j, hj, rfl⟩ := (h2 a).1 ha
        have p1 := hs j (m - 1) (by omega) (by omega)
        have p2 := hs (m - 1) m (by omega) (by omega)
        have p3 := hk'.resolve_left (by omega)
        omega
      · rw [List.mem_append, List.mem_singleton, h2]
        refine ⟨fun h => ?_, fun ⟨j, hj, e⟩ => ?_⟩
        · rcases h with ⟨j, hj, e⟩ | h
          · exact ⟨j, by omega, e⟩
          · exact ⟨m, by omega, h.symm⟩
        · by_cases hjm : j = m
          · subst hjm; exact Or.inr e.symm
          · exact Or.inl ⟨j, by omega, e⟩
    · rw [if_neg hk, List.append_nil]
      have hk' : ¬ (m = 0 ∨ d[m]! ≠ d[m - 1]!) := fun h => hk (decide_eq_true h)
      have hm0 : m ≠ 0 := fun h => hk' (Or.inl h)
      have he : d[m]! = d[m - 1]! := Classical.byContradiction fun h => hk' (Or.inr h)
      refine ⟨h1, fun x => ?_⟩
      rw [h2]
      refine ⟨fun ⟨j, hj, e⟩ => ⟨j, by omega, e⟩, fun ⟨j, hj, e⟩ => ?_⟩
      by_cases hjm : j = m
      · exact ⟨m - 1, by omega, by rw [← he, ← hjm]; exact e⟩
      · exact ⟨j, by omega, e⟩
/-- A list, sorted, each of its numbers once. -/
def sortI (zs : List Int) : List Int := zs.mergeSort fun x y => decide (x ≤ y)
def onceI (zs : List Int) : List Int := Lib.compact (sortI zs)
theorem sortI_len (zs : List Int) : (sortI zs).length = zs.length := List.length_mergeSort _
theorem sortI_le (zs : List Int) : (sortI zs).Pairwise (· ≤ ·) := by
  have h := List.pairwise_mergeSort (le := fun x y : Int => decide (x ≤ y)) (fun a b c h1 h2 => by
    have h1 := of_decide_eq_true h1
    have h2 := of_decide_eq_true h2
    exact decide_eq_true (by omega)) (fun a b => by
    by_cases h : a ≤ b
    · simp [h]
    · simp [show b ≤ a by omega]) zs
  exact h.imp fun h => of_decide_eq_true h
theorem onceI_ok (zs : List Int) : (onceI zs).Pairwise (· < ·) ∧ ∀ x, x ∈ onceI zs ↔ x ∈ zs := by
  have hp := sortI_le zs
  obtain ⟨l, hl⟩ : ∃ l, l = sortI zs := ⟨_, rfl⟩
  have hm : ∀ x, x ∈ l ↔ x ∈ zs := fun x => by rw [hl]; exact List.mem_mergeSort
  unfold onceI
  rw [← hl] at hp ⊢
  have hg : ∀ j, j < l.length → l.toArray[j]! = l[j]! := fun j hj => by simp
  have hs : ∀ i j, i ≤ j → j < l.toArray.size → l.toArray[i]! ≤ l.toArray[j]! := fun i j hij hj => by
    have hj : j < l.length := by simpa using hj
    rw [hg i (by omega), hg j hj, List.getElem!_eq_getElem?_getD, List.getElem!_eq_getElem?_getD, List.getElem?_eq_getElem (by omega), List.getElem?_eq_getElem hj]
    show l[i] ≤ l[j]
    rcases Nat.lt_or_ge i j with h | h
    · exact List.pairwise_iff_getElem.1 hp i j (by omega) hj h
    · have : i = j := by omega
      subst this; exact Int.le_refl _
  obtain ⟨h1, h2⟩ := cUp l.toArray hs l.length (by simp)
  refine ⟨h1, fun x => ?_⟩
  show x ∈ Lib.compactUpTo l.toArray l.length ↔ _
  rw [h2 x, ← hm x]
  refine ⟨fun ⟨j, hj, e⟩ => ?_, fun h => ?_⟩
  · rw [hg j hj, List.getElem!_eq_getElem?_getD, List.getElem?_eq_getElem hj] at e
    have e : l[j] = x := e
    rw [← e]; exact List.getElem_mem hj
  · obtain ⟨j, hj, e⟩ := List.getElem_of_mem h
    refine ⟨j, hj, ?_⟩
    rw [hg j hj, List.getElem!_eq_getElem?_getD, List.getElem?_eq_getElem hj]
    exact e
/-- The marked ones of the first n places. -/
def inN (l : List Int) (n : Nat) : List Int := ((List.range n).map fun k => ((k : Nat) : Int)).filter fun x => decide (x ∈ l)
theorem inN_succ (l : List Int) (n : Nat) : inN l (n + 1) = inN l n ++ (if (n : Int) ∈ l then [(n : Int)] else []) := by
  unfold inN
  rw [List.range_succ, List.map_append, List.filter_append]
  congr 1
  by_cases h : (n : Int) ∈ l <;> simp [h]
theorem inN_ok (l : List Int) : ∀ n : Nat, (inN l n).Pairwise (· < ·) ∧ (∀ x, x ∈ inN l n ↔ x ∈ l ∧ 0 ≤ x ∧ x < n) ∧ (inN l n).length ≤ n
  | 0 => ⟨List.Pairwise.nil, fun x => ⟨(fun h => by cases h), fun h => by omega⟩, Nat.le_refl _⟩
  | n + 1 => by
    obtain ⟨h1, h2, h3⟩ := inN_ok l n
    rw [inN_succ]
    by_cases h : (n : Int) ∈ l
    · rw [if_pos h]
      refine ⟨List.pairwise_append.2 ⟨h1, List.pairwise_singleton _ _, fun a ha b hb => ?_⟩, fun x => ?_, by simp; omega⟩
      · rw [List.mem_singleton.1 hb]
        have := (h2 a).1 ha
        omega
      · rw [List.mem_append, List.mem_singleton, h2]
        refine ⟨fun g => ?_, fun g => ?_⟩
        · rcases g with g | g
          · exact ⟨g.1, by omega, by omega⟩
          · rw [g]; exact ⟨h, by omega, by omega⟩
        · by_cases hx : x = n
          · exact Or.inr hx
          · exact Or.inl ⟨g.1, by omega, by omega⟩
    · rw [if_neg h, List.append_nil]
      refine ⟨h1, fun x => ?_, by omega⟩
      rw [h2]
      refine ⟨fun g => ⟨g.1, by omega, by omega⟩, fun g => ⟨g.1, by omega, ?_⟩⟩
      have : x ≠ n := fun e => h (by rw [← e]; exact g.1)
      omega
theorem once_in {l : List Int} {n : Nat} (h : ∀ x ∈ l, 0 ≤ x ∧ x < n) : onceI l = inN l n := by
  obtain ⟨h1, h2⟩ := onceI_ok l
  obtain ⟨g1, g2, _⟩ := inN_ok l n
  refine uniq_lt h1 g1 fun x => ?_
  rw [h2, g2]
  exact ⟨fun g => ⟨g, h x g⟩, fun g => g.1⟩
theorem onceI_len (l : List Int) : (onceI l).length ≤ l.length := by
  have := Lib.compact_length_le (sortI l)
  rw [sortI_len] at this
  exact this
end Go.Proofs.Ytgffaimgnmfifaa

/- slices.Sort and slices.Compact of a list of numbers that lies in a block of its own. -/
set_option maxRecDepth 100000
namespace Go.Proofs.Ytgffaimgnmfifaa
open Go.RowKit

theorem flI (xs : List Int) : fl intE xs = xs.map (Value.int .i64) := by
  induction xs with
  | nil => rfl
  | cons x xs ih => rw [fl_cons, ih]; rfl
theorem ow_cases {w : World} {s : Sl} {xs : List Int} (h : Ow intE w s xs) : (xs = [] ∧ s = nilS) ∨ ∃ g cur, s.val = .slice (some ⟨g, 0, none⟩) xs.length s.cap ∧ w.heap[g]? = some (.cells cur T_int (0, 0)) ∧ xs.length ≤ s.cap ∧ s.cap ≤ maxLen ∧ cur.size = s.cap * 1 ∧ cur.toList.take xs.length = xs.map (Value.int .i64) := by
  obtain ⟨ptr, len, cap⟩ := s
  rcases h.2 with ⟨h1, h2⟩ | ⟨g, cap', cur, h1, _, h3, h4, h5, h6, h7⟩
  · have h1 : Value.slice ptr len cap = .slice none 0 0 := h1
    injection h1 with e1 e2 e3
    subst e1 e2 e3
    exact Or.inl ⟨List.eq_nil_of_length_eq_zero h2, rfl⟩
  · have h1 : Value.slice ptr len cap = .slice (some ⟨g, 0, none⟩) xs.length cap' := h1
    injection h1 with e1 e2 e3
    subst e1 e2 e3
    refine Or.inr ⟨g, cur, rfl, h3, h4, h5, h6, ?_⟩
    rw [flI] at h7
    have h7 : cur.toList.take (xs.length * 1) = _ := h7
    rw [Nat.mul_one] at h7; exact h7
theorem sort_any {w : World} {s : Sl} {xs : List Int} (h : Ow intE w s xs) (hl : xs.length ≤ 100000000) :
    Calls Try.prog fn_slices_Sort_sl_int_int #[s.val] w fun e w' => e = .returned (.tuple #[]) ∧ Ow intE w' s (sortI xs) ∧ Chg (fun k => s.blk = some k) w w' := by
  rcases ow_cases h with ⟨rfl, rfl⟩ | ⟨g, cur, hv, hb, h4, h5, h6, h7⟩
  · refine (slices_Sort_int_none none 0 w).mono ?_
    rintro e w' ⟨rfl, rfl⟩
    have e0 : sortI [] = [] := by simp [sortI]
    rw [e0]
    exact ⟨rfl, Ow.nil _ _, Chg.refl _ _⟩
  · have hg : g < w.heap.size := (Array.getElem?_eq_some_iff.1 hb).1
    rw [hv]
    refine (slices_Sort_int g 0 s.cap xs w (holds_of_blockI hb h7) hg (by omega)).mono ?_
    rintro e w' ⟨rfl, n, os, rfl⟩
    refine ⟨rfl, ?_, Chg.grown (grownBy_sortedI _) (fun k hk => ?_)⟩
    · have o := ownsRow_sortedI (base := 0) (n := n) (os := os) (ts := sortI xs) (ss := xs) (sortI_len xs) (Nat.zero_le _) hb h4 h5 h6
      show World.ownsRow _ 0 T_int 1 s.val (sortI xs).length (fl intE (sortI xs))
      rw [flI, hv, sortI_len]; exact o
    · unfold Sl.blk; rw [hv]; exact hk
theorem compact_any {w : World} {s : Sl} {xs : List Int} (h : Ow intE w s xs) (hl : xs.length ≤ 100000000) :
    Calls Try.prog fn_slices_Compact_sl_int_int #[s.val] w fun e w' => ∃ s' : Sl, e = .returned s'.val ∧ Ow intE w' s' (Lib.compact xs) ∧ s'.blk = s.blk ∧ Chg (fun k => s.blk = some k) w w' := by
  rcases ow_cases h with ⟨rfl, rfl⟩ | ⟨g, cur, hv, hb, h4, h5, h6, h7⟩
  · refine (slices_Compact_int_empty none 0 w).mono ?_
    rintro e w' ⟨rfl, rfl⟩
    exact ⟨nilS, rfl, Ow.nil _ _, rfl, Chg.refl _ _⟩
  · have hc := Lib.compact_length_le xs
    obtain ⟨ys, hys⟩ : ∃ ys, ys = Lib.compact xs ++ List.replicate (xs.length - (Lib.compact xs).length) 0 := ⟨_, rfl⟩
    have hyl : ys.length = xs.length := by rw [hys]; simp; omega
    rw [hv]
    refine (slices_Compact_int g 0 s.cap xs w (holds_of_blockI hb h7) (by omega) h4).mono ?_
    rintro e w' ⟨rfl, q, rfl⟩
    rw [← hys, ← Sort.grow_empty (Sort.putRow (Value.int .i64) (Sort.ahead w q) g 0 ys.toArray)]
    have o := ownsRow_sortedI (base := 0) (n := q) (os := #[]) (ts := ys) (ss := xs) hyl (Nat.zero_le _) hb h4 h5 h6
    have o' : Ow intE (Sort.grow (Sort.putRow (Value.int .i64) (Sort.ahead w q) g 0 ys.toArray) #[]) ⟨some ⟨g, 0, none⟩, xs.length, s.cap⟩ ys := by
      show World.ownsRow _ 0 T_int 1 _ ys.length (fl intE ys)
      rw [flI, hyl]; exact o
    refine ⟨⟨some ⟨g, 0, none⟩, (Lib.compact xs).length, s.cap⟩, rfl, ?_, ?_, Chg.grown (grownBy_sortedI _) (fun k hk => ?_)⟩
    · have := o'.take (n := (Lib.compact xs).length) (by omega)
      rw [hys, List.take_left] at this
      rw [hys]; exact this
    · show some g = s.blk
      unfold Sl.blk; rw [hv]; rfl
    · unfold Sl.blk; rw [hv]; exact hk
end Go.Proofs.Ytgffaimgnmfifaa

/- Functions of Watch, read without their frames; that each is enough. Printed by a program of mine (wip/lift/gen.py). -/
set_option maxRecDepth 100000
namespace Go.Proofs.Ytgffaimgnmfifaa
open Go.RowKit

-- (*holloway/watch.Watch).Add
def watch_Watch_Add_sh (w_1 : Nat) (start2 : Int) (cells3 : Sl) (w : World) (K : Value → World → Prop) : Prop :=
 ∃ J3 : World → Prop, (∀ (w10 : World), J3  w10 →
 ∀ w11 : World, w11 = World.drew w10 →
 ∃ S12 : World → Prop, S12 w11 ∧
 ∃ m13 : Option Nat, held S12 ⟨w_1, 0, none⟩ (.map m13) ∧
 Calls Try.prog fn_watch_tidy #[cells3.val] w11 fun e14 w15 => ∃ s16 : Sl, e14 = .returned (s16.val) ∧
 S12 w15 ∧
 ∃ w17 : World, (Instr.mapUpdate T_map_int_sl_int (.map m13) (.int .i64 start2) (s16.val)).run Try.prog w15 = .ok () w17 ∧
 K (.tuple #[]) w17) ∧
 ∃ m4 : Option Nat, w.cell? ⟨w_1, 0, none⟩ = some (.map m4) ∧
 ∃ b5 : Bool, ∃ w6 : World, ((do eqGuard .eql T_map_int_sl_int (.tmp 11) (.const (.map none)) (.map m4) (.map none); binOp .eql T_map_int_sl_int (.map m4) (.map none) : Sem Value)).run Try.prog w = .ok (.bool b5) w6 ∧
 brB b5
 (∀ (b7 : Nat) (w8 : World), b7 = w6.heap.size → w8 = World.alloc w6 (.map #[] 0) →
 wrOk w8 ⟨w_1, 0, none⟩ 1 ∧ ∀ w9 : World, w9 = stW w8 ⟨w_1, 0, none⟩ 0 [.map (some b7)] →
 J3  w9)
 (J3  w6)
def watch_Watch_Add_an : An := ⟨[], [(3, (7, .st 0 (.st 1 (.st 2 (.st 3 (.st 4 (.st 5 (.ef 6 .done)))))), 1))], [(3, [])]⟩
theorem watch_Watch_Add_lift {w_1 : Nat} {start2 : Int} {cells3 : Sl} {w : World} {K : Value → World → Prop} (h : watch_Watch_Add_sh w_1 start2 cells3 w K) : Calls Try.prog fn_watch_Watch_Add #[.pointer (some ⟨w_1, 0, none⟩), .int .i64 start2, cells3.val] w fun e w' => ∃ v, e = .returned v ∧ K v w' :=
   lift_calls (A := watch_Watch_Add_an) (c := bodyOf Try.f7) (args := [.pointer (some ⟨w_1, 0, none⟩), .int .i64 start2, cells3.val]) orc orc_wide Try.func7 (by kernel_rfl) (by kernel_rfl) (Eq.mp (by kernel_rfl : watch_Watch_Add_sh w_1 start2 cells3 w K = wpc orc Try.f7.ntmps watch_Watch_Add_an (bodyOf Try.f7) (argl 0 [.pointer (some ⟨w_1, 0, none⟩), .int .i64 start2, cells3.val]) w (retQ orc Try.f7.results.toList K)) h)

-- (*holloway/watch.Watch).Touch
def watch_Watch_Touch_sh (w_1 : Nat) (cells2 : Sl) (w : World) (K : Value → World → Prop) : Prop :=
 ∃ m3 : Option Nat, w.cell? ⟨w_1, 0, none⟩ = some (.map m3) ∧
 ∃ (b4 : Nat) (w5 : World), (Instr.range T_map_int_sl_int (.map m3)).run Try.prog w = .ok (.pointer (some ⟨b4, 0, none⟩)) w5 ∧
 ∃ (I1 : Sl → World → Prop) (μ1 : Sl → World → Nat), I1 (⟨none, 0, 0⟩ : Sl) w5 ∧ ∀ (out17 : Sl) (w6 : World), I1 out17 w6 →
 ((∃ w7 : World, (Instr.next (.pointer (some ⟨b4, 0, none⟩)) false T_x).run Try.prog w6 = .ok (.tuple #[.bool false]) w7 ∧
 ∃ (I2 : Int → World → Prop) (μ2 : Int → World → Nat), I2 (0 : Int) w7 ∧ ∀ (n25 : Int) (w24 : World), I2 n25 w24 →
 brB (decide (n25 < (out17.len : Int)))
 (∃ a26 : Addr, out17.ptr = some a26 ∧ 0 ≤ n25 ∧ n25 < (out17.len : Int) ∧
 ∃ n27 : Int, w24.cell? (Addr.add a26 (Int.toNat n25 * 1)) = some (.int .i64 n27) ∧
 ∃ m28 : Option Nat, w24.cell? ⟨w_1, 0, none⟩ = some (.map m28) ∧
 ∃ v29 : Value, ∃ w30 : World, (Builtin.delete_ #[T_map_int_sl_int, T_int] T_x #[.map m28, .int .i64 n27]).run Try.prog w24 = .ok v29 w30 ∧
 I2 (wr (n25 + (1 : Int))) w30 ∧ μ2 (wr (n25 + (1 : Int))) w30 < μ2 n25 w24)
 (Calls Try.prog fn_slices_Sort_sl_int_int #[out17.val] w24 fun e31 w32 => e31 = .returned (.tuple #[]) ∧
 K (out17.val) w32)) ∨
  (∃ (k9 v10 : Value) (w8 : World), (Instr.next (.pointer (some ⟨b4, 0, none⟩)) false T_x).run Try.prog w6 = .ok (.tuple #[.bool true, k9, v10]) w8 ∧
 ∃ (n11 : Int) (s12 : Sl) (w13 : World), (Instr.entry (.pointer (some ⟨b4, 0, none⟩))).run Try.prog w8 = .ok (.tuple #[.int .i64 n11, s12.val]) w13 ∧
 Calls Try.prog fn_watch_made #[s12.val, cells2.val] w13 fun e14 w15 => ∃ b16 : Bool, e14 = .returned (.bool b16) ∧
 brB b16
 (∀ (b18 : Nat) (w19 : World), b18 = w15.heap.size → w19 = World.alloc w15 (.cells #[.int .i64 n11] T_int) →
 ∃ s20 : Sl, ∃ w21 : World, (Builtin.append_ #[T_sl_int, T_sl_int] T_sl_int #[out17.val, .slice (some ⟨b18, 0, none⟩) 1 1]).run Try.prog w19 = .ok (s20.val) w21 ∧
 (I1 s20 w21 ∧ μ1 s20 w21 < μ1 out17 w6))
 ((I1 out17 w15 ∧ μ1 out17 w15 < μ1 out17 w6))))
def watch_Watch_Touch_an : An := ⟨[(5, [(5, .sl)]), (10, [(32, .int .i64)])], [], []⟩
theorem watch_Watch_Touch_lift {w_1 : Nat} {cells2 : Sl} {w : World} {K : Value → World → Prop} (h : watch_Watch_Touch_sh w_1 cells2 w K) : Calls Try.prog fn_watch_Watch_Touch #[.pointer (some ⟨w_1, 0, none⟩), cells2.val] w fun e w' => ∃ v, e = .returned v ∧ K v w' :=
   lift_calls (A := watch_Watch_Touch_an) (c := bodyOf Try.f8) (args := [.pointer (some ⟨w_1, 0, none⟩), cells2.val]) orc orc_wide Try.func8 (by kernel_rfl) (by kernel_rfl) (Eq.mp (by kernel_rfl : watch_Watch_Touch_sh w_1 cells2 w K = wpc orc Try.f8.ntmps watch_Watch_Touch_an (bodyOf Try.f8) (argl 0 [.pointer (some ⟨w_1, 0, none⟩), cells2.val]) w (retQ orc Try.f8.results.toList K)) h)

-- (*holloway/watch.Watch).Drop
def watch_Watch_Drop_sh (w_1 : Nat) (start2 : Int) (w : World) (K : Value → World → Prop) : Prop :=
 ∃ m3 : Option Nat, w.cell? ⟨w_1, 0, none⟩ = some (.map m3) ∧
 ∃ (v5 : Value) (b6 : Bool) (w4 : World), (Instr.lookup T_map_int_sl_int (.map m3) (.int .i64 start2) true).run Try.prog w = .ok (.tuple #[v5, .bool b6]) w4 ∧
 ∃ m7 : Option Nat, w4.cell? ⟨w_1, 0, none⟩ = some (.map m7) ∧
 ∃ v8 : Value, ∃ w9 : World, (Builtin.delete_ #[T_map_int_sl_int, T_int] T_x #[.map m7, .int .i64 start2]).run Try.prog w4 = .ok v8 w9 ∧
 K (.bool b6) w9
def watch_Watch_Drop_an : An := ⟨[], [], []⟩
theorem watch_Watch_Drop_lift {w_1 : Nat} {start2 : Int} {w : World} {K : Value → World → Prop} (h : watch_Watch_Drop_sh w_1 start2 w K) : Calls Try.prog fn_watch_Watch_Drop #[.pointer (some ⟨w_1, 0, none⟩), .int .i64 start2] w fun e w' => ∃ v, e = .returned v ∧ K v w' :=
   lift_calls (A := watch_Watch_Drop_an) (c := bodyOf Try.f9) (args := [.pointer (some ⟨w_1, 0, none⟩), .int .i64 start2]) orc orc_wide Try.func9 (by kernel_rfl) (by kernel_rfl) (Eq.mp (by kernel_rfl : watch_Watch_Drop_sh w_1 start2 w K = wpc orc Try.f9.ntmps watch_Watch_Drop_an (bodyOf Try.f9) (argl 0 [.pointer (some ⟨w_1, 0, none⟩), .int .i64 start2]) w (retQ orc Try.f9.results.toList K)) h)

-- (*holloway/watch.Watch).Cells
def watch_Watch_Cells_sh (w_1 : Nat) (w : World) (K : Value → World → Prop) : Prop :=
 ∃ m2 : Option Nat, w.cell? ⟨w_1, 0, none⟩ = some (.map m2) ∧
 Calls Try.prog fn_maps_Values_map_int_sl_int_int_sl_int #[.map m2] w fun e3 w4 => ∃ v5 : Value, e3 = .returned (v5) ∧
 Calls Try.prog fn_slices_Collect_sl_int #[v5] w4 fun e6 w7 => ∃ s8 : Sl, e6 = .returned (s8.val) ∧
 Calls Try.prog fn_slices_Concat_sl_int_int #[s8.val] w7 fun e9 w10 => ∃ s11 : Sl, e9 = .returned (s11.val) ∧
 Calls Try.prog fn_watch_tidy #[s11.val] w10 fun e12 w13 => ∃ s14 : Sl, e12 = .returned (s14.val) ∧
 K (s14.val) w13
def watch_Watch_Cells_an : An := ⟨[], [], []⟩
theorem watch_Watch_Cells_lift {w_1 : Nat} {w : World} {K : Value → World → Prop} (h : watch_Watch_Cells_sh w_1 w K) : Calls Try.prog fn_watch_Watch_Cells #[.pointer (some ⟨w_1, 0, none⟩)] w fun e w' => ∃ v, e = .returned v ∧ K v w' :=
   lift_calls (A := watch_Watch_Cells_an) (c := bodyOf Try.f10) (args := [.pointer (some ⟨w_1, 0, none⟩)]) orc orc_wide Try.func10 (by kernel_rfl) (by kernel_rfl) (Eq.mp (by kernel_rfl : watch_Watch_Cells_sh w_1 w K = wpc orc Try.f10.ntmps watch_Watch_Cells_an (bodyOf Try.f10) (argl 0 [.pointer (some ⟨w_1, 0, none⟩)]) w (retQ orc Try.f10.results.toList K)) h)

-- (*holloway/watch.Watch).Of
def watch_Watch_Of_sh (w_1 : Nat) (start2 : Int) (w : World) (K : Value → World → Prop) : Prop :=
 ∃ m3 : Option Nat, w.cell? ⟨w_1, 0, none⟩ = some (.map m3) ∧
 ∃ s5 : Sl, ∃ w4 : World, (Instr.lookup T_map_int_sl_int (.map m3) (.int .i64 start2) false).run Try.prog w = .ok (s5.val) w4 ∧
 Calls Try.prog fn_slices_Clone_sl_int_int #[s5.val] w4 fun e6 w7 => ∃ s8 : Sl, e6 = .returned (s8.val) ∧
 K (s8.val) w7
def watch_Watch_Of_an : An := ⟨[], [], []⟩
theorem watch_Watch_Of_lift {w_1 : Nat} {start2 : Int} {w : World} {K : Value → World → Prop} (h : watch_Watch_Of_sh w_1 start2 w K) : Calls Try.prog fn_watch_Watch_Of #[.pointer (some ⟨w_1, 0, none⟩), .int .i64 start2] w fun e w' => ∃ v, e = .returned v ∧ K v w' :=
   lift_calls (A := watch_Watch_Of_an) (c := bodyOf Try.f16) (args := [.pointer (some ⟨w_1, 0, none⟩), .int .i64 start2]) orc orc_wide Try.func16 (by kernel_rfl) (by kernel_rfl) (Eq.mp (by kernel_rfl : watch_Watch_Of_sh w_1 start2 w K = wpc orc Try.f16.ntmps watch_Watch_Of_an (bodyOf Try.f16) (argl 0 [.pointer (some ⟨w_1, 0, none⟩), .int .i64 start2]) w (retQ orc Try.f16.results.toList K)) h)

-- holloway/watch.tidy
def watch_tidy_sh (l_1 : Sl) (w : World) (K : Value → World → Prop) : Prop :=
 Calls Try.prog fn_slices_Clone_sl_int_int #[l_1.val] w fun e2 w3 => ∃ s4 : Sl, e2 = .returned (s4.val) ∧
 Calls Try.prog fn_slices_Sort_sl_int_int #[s4.val] w3 fun e5 w6 => e5 = .returned (.tuple #[]) ∧
 Calls Try.prog fn_slices_Compact_sl_int_int #[s4.val] w6 fun e7 w8 => ∃ s9 : Sl, e7 = .returned (s9.val) ∧
 K (s9.val) w8
def watch_tidy_an : An := ⟨[], [], []⟩
theorem watch_tidy_lift {l_1 : Sl} {w : World} {K : Value → World → Prop} (h : watch_tidy_sh l_1 w K) : Calls Try.prog fn_watch_tidy #[l_1.val] w fun e w' => ∃ v, e = .returned v ∧ K v w' :=
   lift_calls (A := watch_tidy_an) (c := bodyOf Try.f18) (args := [l_1.val]) orc orc_wide Try.func18 (by kernel_rfl) (by kernel_rfl) (Eq.mp (by kernel_rfl : watch_tidy_sh l_1 w K = wpc orc Try.f18.ntmps watch_tidy_an (bodyOf Try.f18) (argl 0 [l_1.val]) w (retQ orc Try.f18.results.toList K)) h)

-- holloway/watch.made
def watch_made_sh (of1 : Sl) (cells2 : Sl) (w : World) (K : Value → World → Prop) : Prop :=
 ∃ (I1 : Int → World → Prop) (μ1 : Int → World → Nat), I1 (0 : Int) w ∧ ∀ (n4 : Int) (w3 : World), I1 n4 w3 →
 brB (decide (n4 < (cells2.len : Int)))
 (∃ a5 : Addr, cells2.ptr = some a5 ∧ 0 ≤ n4 ∧ n4 < (cells2.len : Int) ∧
 ∃ n6 : Int, w3.cell? (Addr.add a5 (Int.toNat n4 * 1)) = some (.int .i64 n6) ∧
 Calls Try.prog fn_slices_BinarySearch_sl_int_int #[of1.val, .int .i64 n6] w3 fun e7 w8 => ∃ n9 : Int, ∃ b10 : Bool, e7 = .returned (.tuple #[.int .i64 n9, .bool b10]) ∧
 brB b10
 (K (.bool true) w8)
 (I1 (wr (n4 + (1 : Int))) w8 ∧ μ1 (wr (n4 + (1 : Int))) w8 < μ1 n4 w3))
 (K (.bool false) w3)
def watch_made_an : An := ⟨[(2, [(11, .int .i64)])], [], []⟩
theorem watch_made_lift {of1 : Sl} {cells2 : Sl} {w : World} {K : Value → World → Prop} (h : watch_made_sh of1 cells2 w K) : Calls Try.prog fn_watch_made #[of1.val, cells2.val] w fun e w' => ∃ v, e = .returned v ∧ K v w' :=
   lift_calls (A := watch_made_an) (c := bodyOf Try.f19) (args := [of1.val, cells2.val]) orc orc_wide Try.func19 (by kernel_rfl) (by kernel_rfl) (Eq.mp (by kernel_rfl : watch_made_sh of1 cells2 w K = wpc orc Try.f19.ntmps watch_made_an (bodyOf Try.f19) (argl 0 [of1.val, cells2.val]) w (retQ orc Try.f19.results.toList K)) h)

-- (*holloway/watch.Watch).Add:nil
def watch_Watch_Add_nil_sh (start1 : Int) (cells2 : Sl) (w : World) (K : Value → World → Prop) : Prop :=
 K (.tuple #[]) w
def watch_Watch_Add_nil_an : An := ⟨[], [], []⟩
theorem watch_Watch_Add_nil_lift {start1 : Int} {cells2 : Sl} {w : World} {K : Value → World → Prop} (h : watch_Watch_Add_nil_sh start1 cells2 w K) : Calls Try.prog fn_watch_Watch_Add #[.pointer none, .int .i64 start1, cells2.val] w fun e w' => ∃ v, e = .returned v ∧ K v w' :=
   lift_calls (A := watch_Watch_Add_nil_an) (c := bodyOf Try.f7) (args := [.pointer none, .int .i64 start1, cells2.val]) orc orc_wide Try.func7 (by kernel_rfl) (by kernel_rfl) (Eq.mp (by kernel_rfl : watch_Watch_Add_nil_sh start1 cells2 w K = wpc orc Try.f7.ntmps watch_Watch_Add_nil_an (bodyOf Try.f7) (argl 0 [.pointer none, .int .i64 start1, cells2.val]) w (retQ orc Try.f7.results.toList K)) h)

-- (*holloway/watch.Watch).Touch:nil
def watch_Watch_Touch_nil_sh (cells1 : Sl) (w : World) (K : Value → World → Prop) : Prop :=
 K (.slice none 0 0) w
def watch_Watch_Touch_nil_an : An := ⟨[], [], []⟩
theorem watch_Watch_Touch_nil_lift {cells1 : Sl} {w : World} {K : Value → World → Prop} (h : watch_Watch_Touch_nil_sh cells1 w K) : Calls Try.prog fn_watch_Watch_Touch #[.pointer none, cells1.val] w fun e w' => ∃ v, e = .returned v ∧ K v w' :=
   lift_calls (A := watch_Watch_Touch_nil_an) (c := bodyOf Try.f8) (args := [.pointer none, cells1.val]) orc orc_wide Try.func8 (by kernel_rfl) (by kernel_rfl) (Eq.mp (by kernel_rfl : watch_Watch_Touch_nil_sh cells1 w K = wpc orc Try.f8.ntmps watch_Watch_Touch_nil_an (bodyOf Try.f8) (argl 0 [.pointer none, cells1.val]) w (retQ orc Try.f8.results.toList K)) h)

-- (*holloway/watch.Watch).Drop:nil
def watch_Watch_Drop_nil_sh (start1 : Int) (w : World) (K : Value → World → Prop) : Prop :=
 K (.bool false) w
def watch_Watch_Drop_nil_an : An := ⟨[], [], []⟩
theorem watch_Watch_Drop_nil_lift {start1 : Int} {w : World} {K : Value → World → Prop} (h : watch_Watch_Drop_nil_sh start1 w K) : Calls Try.prog fn_watch_Watch_Drop #[.pointer none, .int .i64 start1] w fun e w' => ∃ v, e = .returned v ∧ K v w' :=
   lift_calls (A := watch_Watch_Drop_nil_an) (c := bodyOf Try.f9) (args := [.pointer none, .int .i64 start1]) orc orc_wide Try.func9 (by kernel_rfl) (by kernel_rfl) (Eq.mp (by kernel_rfl : watch_Watch_Drop_nil_sh start1 w K = wpc orc Try.f9.ntmps watch_Watch_Drop_nil_an (bodyOf Try.f9) (argl 0 [.pointer none, .int .i64 start1]) w (retQ orc Try.f9.results.toList K)) h)

-- (*holloway/watch.Watch).Cells:nil
def watch_Watch_Cells_nil_sh  (w : World) (K : Value → World → Prop) : Prop :=
 K (.slice none 0 0) w
def watch_Watch_Cells_nil_an : An := ⟨[], [], []⟩
theorem watch_Watch_Cells_nil_lift  {w : World} {K : Value → World → Prop} (h : watch_Watch_Cells_nil_sh  w K) : Calls Try.prog fn_watch_Watch_Cells #[.pointer none] w fun e w' => ∃ v, e = .returned v ∧ K v w' :=
   lift_calls (A := watch_Watch_Cells_nil_an) (c := bodyOf Try.f10) (args := [.pointer none]) orc orc_wide Try.func10 (by kernel_rfl) (by kernel_rfl) (Eq.mp (by kernel_rfl : watch_Watch_Cells_nil_sh  w K = wpc orc Try.f10.ntmps watch_Watch_Cells_nil_an (bodyOf Try.f10) (argl 0 [.pointer none]) w (retQ orc Try.f10.results.toList K)) h)

-- (*holloway/watch.Watch).Of:nil
def watch_Watch_Of_nil_sh (start1 : Int) (w : World) (K : Value → World → Prop) : Prop :=
 K (.slice none 0 0) w
def watch_Watch_Of_nil_an : An := ⟨[], [], []⟩
theorem watch_Watch_Of_nil_lift {start1 : Int} {w : World} {K : Value → World → Prop} (h : watch_Watch_Of_nil_sh start1 w K) : Calls Try.prog fn_watch_Watch_Of #[.pointer none, .int .i64 start1] w fun e w' => ∃ v, e = .returned v ∧ K v w' :=
   lift_calls (A := watch_Watch_Of_nil_an) (c := bodyOf Try.f16) (args := [.pointer none, .int .i64 start1]) orc orc_wide Try.func16 (by kernel_rfl) (by kernel_rfl) (Eq.mp (by kernel_rfl : watch_Watch_Of_nil_sh start1 w K = wpc orc Try.f16.ntmps watch_Watch_Of_nil_an (bodyOf Try.f16) (argl 0 [.pointer none, .int .i64 start1]) w (retQ orc Try.f16.results.toList K)) h)

end Go.Proofs.Ytgffaimgnmfifaa

/- watch: lists sorted, each once; whether some are among others; all lists of a map behind each other. -/
set_option maxRecDepth 100000
namespace Go.Proofs.Ytgffaimgnmfifaa
open Go.RowKit

theorem brB_t' {b : Bool} {P Q : Prop} (h : b = true) (p : P) : brB b P Q := by rw [h]; exact brB_t p
theorem brB_f' {b : Bool} {P Q : Prop} (h : b = false) (q : Q) : brB b P Q := by rw [h]; exact brB_f q
theorem Rd.chg0 {S : Nat → Prop} {w w' : World} {s : Sl} {xs : List Int} (h : Rd intE w s xs) (c : Chg S w w') (hS : xs ≠ [] → ∀ k, s.blk = some k → ¬ S k) : Rd intE w' s xs := by
  by_cases hx : xs = []
  · subst hx
    obtain ⟨ao, cap, h1, h2, h3, h4, h5⟩ := h
    exact ⟨ao, cap, h1, h2, h3, h4, fun j u hu => by cases hu⟩
  · exact h.chg c (hS hx)
theorem Rd.blkLt {w : World} {s : Sl} {xs : List Int} (h : Rd intE w s xs) (hx : xs ≠ []) : ∀ k, s.blk = some k → k < w.heap.size := by
  intro k hk
  obtain ⟨x, hx0⟩ : ∃ x, xs[0]? = some x := by
    cases xs with
    | nil => exact absurd rfl hx
    | cons a r => exact ⟨a, rfl⟩
  obtain ⟨a, ha, hc⟩ := h.at hx0
  have h1 := hc 0 _ rfl
  rw [blk_ptr ha] at hk
  have e : a.block = k := Option.some.inj hk
  rw [← e]
  have hb : ((a.add (0 * intE.sz)).add 0).block = a.block := by rw [add_block, add_block]
  refine Classical.byContradiction fun hn => ?_
  have ho : w.heap[((a.add (0 * intE.sz)).add 0).block]? = Option.none := by rw [hb]; exact Array.getElem?_eq_none (by omega)
  unfold World.cell? at h1
  rw [ho] at h1
  cases h1
theorem tidy_any {w : World} {s : Sl} {xs : List Int} (h : Rd intE w s xs) (hl : xs.length ≤ 10000000) :
    Calls Try.prog fn_watch_tidy #[s.val] w fun e w' => ∃ s' : Sl, e = .returned s'.val ∧ Ow intE w' s' (onceI xs) ∧ Chg No w w' ∧ ∀ k, s'.blk = some k → w.heap.size ≤ k := by
  refine (watch_tidy_lift (K := fun v w' => ∃ s' : Sl, v = s'.val ∧ Ow intE w' s' (onceI xs) ∧ Chg No w w' ∧ ∀ k, s'.blk = some k → w.heap.size ≤ k) ?_).mono (by rintro e w' ⟨v, rfl, s', rfl, h⟩; exact ⟨s', rfl, h⟩)
  unfold watch_tidy_sh
  refine (clone_ints h (by omega)).mono ?_
  rintro e w3 ⟨s4, rfl, o4, c4, b4, _⟩
  refine ⟨s4, rfl, ?_⟩
  refine (sort_any o4 (by omega)).mono ?_
  rintro e w6 ⟨rfl, o6, c6⟩
  refine ⟨rfl, ?_⟩
  refine (compact_any o6 (by rw [sortI_len]; omega)).mono ?_
  rintro e w8 ⟨s9, rfl, o9, b9, c9⟩
  refine ⟨s9, rfl, s9, rfl, o9, ?_, fun k hk => b4 k (b9 ▸ hk)⟩
  exact (c4.trans c6 (U := No) (fun _ _ h => h) (fun k hk h => by have := b4 k h; omega)).trans c9 (fun _ _ h => h) (fun k hk h => by have := b4 k h; omega)
theorem addA0 (q : Addr) : q.add 0 = q := by unfold Addr.add; simp
theorem isNaN_any (x : Int) (w : World) : Calls Try.prog fn_slices_isNaN_int #[.int .i64 x] w fun e w' => e = .returned (.bool false) ∧ w = w' := by
  refine (slices_isNaN_int_lift (K := fun v w' => v = .bool false ∧ w = w') ?_).mono (by rintro e w' ⟨v, rfl, rfl, h⟩; exact ⟨rfl, h⟩)
  unfold slices_isNaN_int_sh
  exact ⟨by simp, rfl⟩
/-- slices.BinarySearch in a list that rises. -/
theorem search_any {w : World} {s : Sl} {xs : List Int} (h : Ow intE w s xs) (hl : xs.length ≤ 10000000) (hs : xs.Pairwise (· ≤ ·)) (x : Int) :
    Calls Try.prog fn_slices_BinarySearch_sl_int_int #[s.val, .int .i64 x] w fun e w' => ∃ n : Int, e = .returned (.tuple #[.int .i64 n, .bool (decide (x ∈ xs))]) ∧ Chg No w w' := by
  rcases ow_cases h with ⟨rfl, rfl⟩ | ⟨g, cur, hv, hb, h4, h5, h6, h7⟩
  · refine (slices_BinarySearch_sl_int_int_lift (K := fun v w' => v = .tuple #[.int .i64 0, .bool false] ∧ w = w') ?_).mono (by rintro e w' ⟨v, rfl, rfl, rfl⟩; exact ⟨0, by simp, Chg.refl _ _⟩)
    unfold slices_BinarySearch_sl_int_int_sh
    refine ⟨fun i j w' => i = 0 ∧ j = 0 ∧ w = w', fun _ _ _ => 0, ⟨rfl, rfl, rfl⟩, ?_⟩
    rintro i j w3 ⟨rfl, rfl, rfl⟩
    exact brB_f (brB_f ⟨rfl, rfl⟩)
  · have hg : g < w.heap.size := (Array.getElem?_eq_some_iff.1 hb).1
    have hcell : ∀ j, j < xs.length → w.cell? ⟨g, 0 + j, none⟩ = some (.int .i64 (xs.getD j 0)) := by
      intro j hj
      have h8 : (cur.toList.take xs.length)[j]? = (xs.map (Value.int .i64))[j]? := by rw [h7]
      rw [List.getElem?_take, if_pos hj, List.getElem?_map, List.getElem?_eq_getElem hj] at h8
      rw [Nat.zero_add]
      simp only [World.cell?, hb]
      rw [← Array.getElem?_toList, h8]
      simp [List.getD_eq_getElem?_getD, List.getElem?_eq_getElem hj]
    rw [hv]
    refine (slices_BinarySearch_int g 0 xs.length s.cap xs x w (Nat.le_refl _) (by omega) hcell (by rw [List.take_length]; exact hs)).mono ?_
    rintro e w' ⟨rfl, q, rfl⟩
    rw [List.take_length]
    have e : xs.contains x = decide (x ∈ xs) := by rw [Bool.eq_iff_iff]; simp
    exact ⟨_, by rw [← e], Chg.qt ⟨q, rfl⟩⟩
def hitB (l cs : List Int) : Bool := cs.any fun c => decide (c ∈ l)
theorem hitB_iff {l cs : List Int} : hitB l cs = true ↔ ∃ c ∈ cs, c ∈ l := by unfold hitB; simp
theorem made_any {w : World} {s t : Sl} {l cs : List Int} (h : Ow intE w s l) (hl : l.length ≤ 10000000) (hs : l.Pairwise (· ≤ ·)) (ht : Rd intE w t cs) (hc : cs.length ≤ 1000000) :
    Calls Try.prog fn_watch_made #[s.val, t.val] w fun e w' => e = .returned (.bool (hitB l cs)) ∧ Chg No w w' := by
  refine (watch_made_lift (K := fun v w' => v = .bool (hitB l cs) ∧ Chg No w w') ?_).mono (by rintro e w' ⟨v, rfl, rfl, h⟩; exact ⟨rfl, h⟩)
  unfold watch_made_sh
  have hlen := ht.len
  refine ⟨fun n w3 => 0 ≤ n ∧ n ≤ cs.length ∧ Chg No w w3 ∧ ∀ c ∈ cs.take n.toNat, c ∉ l, fun n _ => cs.length - n.toNat, ⟨by omega, by omega, Chg.refl _ _, by simp⟩, ?_⟩
  rintro n w3 ⟨n0, n1, c3, hn⟩
  rw [hlen]
  refine brB_of (fun hd => ?_) (fun hd => ?_)
  · have hd := of_decide_eq_true hd
    obtain ⟨c, hcc⟩ : ∃ c, cs[n.toNat]? = some c := ⟨_, List.getElem?_eq_getElem (by omega)⟩
    obtain ⟨a, ha, hcell⟩ := (ht.no c3).at hcc
    refine ⟨a, ha, n0, hd, c, ?_, ?_⟩
    · have := hcell 0 _ rfl
      rw [addA0] at this; exact this
    · refine (search_any (h.no c3) hl hs c).mono ?_
      rintro e w8 ⟨m, rfl, c8⟩
      refine ⟨m, _, rfl, brB_of (fun hh => ?_) (fun hh => ?_)⟩
      · refine ⟨?_, c3.trans c8 (fun _ _ h => h) (fun _ _ h => h)⟩
        rw [hitB_iff.2 ⟨c, List.mem_of_getElem? hcc, of_decide_eq_true hh⟩]
      · rw [wr_of (by omega) (by omega)]
        have et : (n + 1).toNat = n.toNat + 1 := by omega
        refine ⟨⟨by omega, by omega, c3.trans c8 (fun _ _ h => h) (fun _ _ h => h), fun d hd' => ?_⟩, by show cs.length - (n + 1).toNat < cs.length - n.toNat; omega⟩
        rw [et, List.take_add_one, hcc] at hd'
        rcases List.mem_append.1 hd' with hd' | hd'
        · exact hn d hd'
        · have : d = c := by simpa using hd'
          rw [this]; exact of_decide_eq_false hh
  · have hd := of_decide_eq_false hd
    refine ⟨?_, c3⟩
    have : hitB l cs = false := by
      cases hq : hitB l cs with
      | false => rfl
      | true =>
        obtain ⟨c, h1, h2⟩ := hitB_iff.1 hq
        have : cs.take n.toNat = cs := List.take_of_length_le (by omega)
        exact absurd h2 (hn c (by rw [this]; exact h1))
    rw [this]
theorem fl_zeros : ∀ m : Nat, List.replicate m (Value.int .i64 0) = fl intE (List.replicate m 0)
  | 0 => rfl
  | m + 1 => by rw [List.replicate_succ, List.replicate_succ, fl_cons, fl_zeros m]; rfl
theorem appZ {w : World} {s : Sl} {v : Value} {xs : List Int} {n : Int} {m : Nat} (hv : v = s.val) (hn : n = (m : Int)) (ho : Ow intE w s xs) (hl : xs.length + m ≤ 1000000) {G : Sl → World → Prop} (k : ∀ (s' : Sl) (w' : World), Ow intE w' s' (xs ++ List.replicate m 0) → Chg (fun k => s.blk = some k) w w' → (s'.blk = s.blk ∨ s'.blk = some w.heap.size) → G s' w') :
    ∃ s' : Sl, ∃ w' : World, (Builtin.append_ #[T_sl_int, T_int] T_sl_int #[v, .int .i64 n]).run Try.prog w = .ok s'.val w' ∧ G s' w' := by
  subst hv hn
  obtain ⟨i, z, hi, hz, h1, h2, h3⟩ := intOk.info
  have hz0 : z = .int .i64 0 := by
    have e : (Try.prog.info? T_int).bind (·.zero) = some (.int .i64 0) := by kernel_rfl
    have hi' : Try.prog.info? T_int = some i := hi
    rw [hi'] at e
    exact Option.some.inj (hz.symm.trans e)
  subst hz0
  obtain ⟨v', w', hr, ho', hg, hbk⟩ := run_append_zeros (P := Try.prog) w T_sl_int T_int T_sl_int T_int i (.int .i64 0) intOk.und Try.underlying3 hi hz h1 rfl rfl s.val xs.length (fl intE xs) ho m hl (by rw [h2]; decide)
  obtain ⟨ao, cap, rfl⟩ := Own.form ho'
  have hf : fl intE xs ++ List.replicate m (Value.int .i64 0) = fl intE (xs ++ List.replicate m 0) := by
    rw [fl_append, fl_zeros]
  refine ⟨⟨ao, xs.length + m, cap⟩, w', hr, k _ _ ?_ (Chg.grown hg (fun k hk => hk)) hbk⟩
  unfold Ow
  rw [List.length_append, List.length_replicate, ← hf]
  exact ho'
/-- slices.Grow of none. -/
theorem grow_none {w : World} {n : Int} (h0 : 0 ≤ n) (h1 : n ≤ 1000000) :
    Calls Try.prog fn_slices_Grow_sl_int_int #[.slice none 0 0, .int .i64 n] w fun e w' => ∃ s : Sl, e = .returned s.val ∧ Ow intE w' s [] ∧ Chg No w w' ∧ ∀ k, s.blk = some k → w.heap.size ≤ k := by
  refine (slices_Grow_sl_int_int_lift (s_1 := nilS) (K := fun v w' => ∃ s : Sl, v = s.val ∧ Ow intE w' s [] ∧ Chg No w w' ∧ ∀ k, s.blk = some k → w.heap.size ≤ k) ?_).mono (by rintro e w' ⟨v, rfl, s', rfl, h⟩; exact ⟨s', rfl, h⟩)
  unfold slices_Grow_sl_int_int_sh
  refine brB_f' (decide_eq_false (by omega)) ?_
  have e0 : wr (n - wr (((nilS.cap : Nat) : Int) - ((nilS.len : Nat) : Int))) = n := by
    have : wr (((nilS.cap : Nat) : Int) - ((nilS.len : Nat) : Int)) = 0 := wr_of (by decide) (by decide)
    rw [this, wr_of (by omega) (by omega)]; omega
  rw [e0]
  refine brB_of (fun hd => ?_) (fun hd => ?_)
  · refine ⟨by decide, by decide, ?_⟩
    intro s3 hs3
    have e3 : s3 = nilS := by rw [hs3, sub0]; rfl
    subst e3
    refine appZ rfl (m := n.toNat) (by omega) (Ow.nil intE w) (by simp only [List.length_nil]; omega) ?_
    intro s4 w5 o4 c5 b4
    refine ⟨by decide, by show (0 : Int) ≤ _; omega, ?_⟩
    intro s6 hs6
    rw [sub0] at hs6
    have b6 : s6.blk = s4.blk := by rw [hs6]; unfold Sl.blk Sl.val; cases s4.ptr <;> rfl
    refine ⟨s6, rfl, ?_, c5.mono (fun k _ h => by cases h), fun k hk => ?_⟩
    · rw [hs6]
      have := o4.take (n := 0) (Nat.zero_le _)
      rw [List.take_zero] at this
      exact this
    · rw [b6] at hk
      rcases b4 with h | h
      · rw [h] at hk; cases hk
      · have := Option.some.inj (h.symm.trans hk); omega
  · exact ⟨nilS, rfl, Ow.nil _ _, Chg.refl _ _, fun k hk => by cases hk⟩
/-- slices.Concat. -/
theorem concat_any {w : World} {s : Sl} {es : List Et} (h : Ow slI w s (es.map (·.v))) (he : ∀ e ∈ es, Ow intE w e.v e.l ∧ e.l.length ≤ 1000) (hn : es.length ≤ 1000) :
    Calls Try.prog fn_slices_Concat_sl_int_int #[s.val] w fun e w' => ∃ s' : Sl, e = .returned s'.val ∧ Ow intE w' s' (es.flatMap (·.l)) ∧ Chg No w w' ∧ ∀ k, s'.blk = some k → w.heap.size ≤ k := by
  refine (slices_Concat_sl_int_int_lift (K := fun v w' => ∃ s' : Sl, v = s'.val ∧ Ow intE w' s' (es.flatMap (·.l)) ∧ Chg No w w' ∧ ∀ k, s'.blk = some k → w.heap.size ≤ k) ?_).mono (by rintro e w' ⟨v, rfl, s', rfl, h⟩; exact ⟨s', rfl, h⟩)
  unfold slices_Concat_sl_int_int_sh
  have hlen : s.len = es.length := by have := h.rd.len; rw [List.length_map] at this; exact this
  have hsum : ∀ n, ((es.take n).flatMap (·.l)).length ≤ n * 1000 := by
    intro n
    induction n with
    | zero => simp
    | succ n ih =>
      rw [List.take_add_one, List.flatMap_append, List.length_append]
      cases hx : es[n]? with
      | none => simp only [Option.toList_none, List.flatMap_nil, List.length_nil]; omega
      | some e =>
        have := (he e (List.mem_of_getElem? hx)).2
        simp only [Option.toList_some, List.flatMap_singleton]; omega
  have hcellv : ∀ (w2 : World), Chg No w w2 → ∀ (n : Int), 0 ≤ n → n < es.length → ∃ e a, es[n.toNat]? = some e ∧ s.ptr = some a ∧ w2.cell? (a.add (n.toNat * 1)) = some e.v.val := by
    intro w2 c2 n n0 n1
    obtain ⟨e, hx⟩ : ∃ e, es[n.toNat]? = some e := ⟨_, List.getElem?_eq_getElem (by omega)⟩
    obtain ⟨a, ha, hcell⟩ := ((h.rd).no c2).at (i := n.toNat) (x := e.v) (by rw [List.getElem?_map, hx]; rfl)
    refine ⟨e, a, hx, ha, ?_⟩
    have := hcell 0 _ rfl
    rw [addA0] at this; exact this
  have hstep : ∀ (n : Int) (e : Et), 0 ≤ n → es[n.toNat]? = some e → (es.take (n + 1).toNat).flatMap (·.l) = (es.take n.toNat).flatMap (·.l) ++ e.l := by
    intro n e n0 hx
    rw [show (n + 1).toNat = n.toNat + 1 by omega, List.take_add_one, hx, List.flatMap_append]
    simp
  refine ⟨fun size n w2 => w = w2 ∧ 0 ≤ n ∧ n ≤ es.length ∧ size = ((es.take n.toNat).flatMap (·.l)).length, fun _ n _ => es.length - n.toNat, ⟨rfl, by omega, by omega, by simp⟩, ?_⟩
  rintro size n w2 ⟨rfl, n0, n1, rfl⟩
  rw [hlen]
  have hsz := hsum n.toNat
  refine brB_of (fun hd => ?_) (fun hd => ?_)
  · have hd := of_decide_eq_true hd
    obtain ⟨e, a, hx, ha, hc⟩ := hcellv w (Chg.refl _ _) n n0 hd
    have hel := (he e (List.mem_of_getElem? hx))
    have hl5 := hel.1.rd.len
    have hw : wr ((((es.take n.toNat).flatMap (·.l)).length : Int) + (e.v.len : Int)) = (((es.take (n + 1).toNat).flatMap (·.l)).length : Int) := by
      rw [hstep n e n0 hx, List.length_append, hl5, wr_of (by omega) (by omega)]; omega
    refine ⟨a, ha, n0, hd, e.v, hc, ?_⟩
    rw [hw, wr_of (x := n + 1) (by omega) (by omega)]
    exact brB_f' (decide_eq_false (by omega)) ⟨⟨rfl, by omega, by omega, rfl⟩, by show es.length - (n + 1).toNat < es.length - n.toNat; omega⟩
  · have hd := of_decide_eq_false hd
    refine (grow_none (by omega) (by omega)).mono ?_
    rintro e w8 ⟨s9, rfl, o9, c9, b9⟩
    refine ⟨s9, rfl, ?_⟩
    refine ⟨fun ns n w' => 0 ≤ n ∧ n ≤ es.length ∧ Ow intE w' ns ((es.take n.toNat).flatMap (·.l)) ∧ Chg No w w' ∧ ∀ k, ns.blk = some k → w.heap.size ≤ k, fun _ n _ => es.length - n.toNat, ⟨by omega, by omega, by simpa using o9, c9, b9⟩, ?_⟩
    rintro ns m w10 ⟨m0, m1, o10, c10, b10⟩
    have hsz := hsum m.toNat
    refine brB_of (fun hd => ?_) (fun hd => ?_)
    · have hd := of_decide_eq_true hd
      obtain ⟨e, a, hx, ha, hc⟩ := hcellv w10 c10 m m0 hd
      have hel := (he e (List.mem_of_getElem? hx))
      refine ⟨a, ha, m0, hd, e.v, hc, ?_⟩
      refine app_ok intOk rfl rfl o10 (hel.1.no c10).rd (by show _ * 8 ≤ _; omega) (by unfold maxLen; omega) ?_
      intro s15 w16 o15 c15 b15
      rw [wr_of (x := m + 1) (by omega) (by omega)]
      refine ⟨⟨by omega, by omega, by rw [hstep m e m0 hx]; exact o15, c10.trans c15 (fun _ _ h => h) (fun k hk h => by have := b10 k h; omega), fun k hk => ?_⟩, by show es.length - (m + 1).toNat < es.length - m.toNat; omega⟩
      rcases b15 with hh | hh
      · exact b10 k (hh ▸ hk)
      · have := Option.some.inj (hh.symm.trans hk)
        have := c10.size; omega
    · have hd := of_decide_eq_false hd
      have : es.take m.toNat = es := List.take_of_length_le (by omega)
      rw [this] at o10
      exact ⟨ns, rfl, o10, c10, b10⟩
/-- All values of a map, behind each other. -/
theorem collect_any {w : World} {mb : Option Nat} {xs : List Et} (hm : MO w mb xs) (hl : xs.length ≤ 1000000) {K : Sl → World → Prop}
    (k : ∀ (s : Sl) (w' : World) (done : List Et), (∀ e, e ∈ done ↔ e ∈ xs) → done.length = xs.length → Ow slI w' s (done.map (·.v)) → Chg No w w' → (∀ k, s.blk = some k → w.heap.size ≤ k) → K s w') :
    Calls Try.prog fn_maps_Values_map_int_sl_int_int_sl_int #[.map mb] w fun e3 w4 => ∃ v5 : Value, e3 = .returned (v5) ∧
      Calls Try.prog fn_slices_Collect_sl_int #[v5] w4 fun e6 w7 => ∃ s8 : Sl, e6 = .returned (s8.val) ∧ K s8 w7 := by
  refine (maps_Values_map_int_sl_int_int_sl_int_lift (K := fun v w' => ∃ c2, v = sqV c2 ∧ w'.cell? ⟨c2, 0, none⟩ = some (.map mb) ∧ Chg No w w') ?_).mono ?_
  · unfold maps_Values_map_int_sl_int_int_sl_int_sh
    rintro b w3 rfl rfl
    exact ⟨_, rfl, (Ob.new w [.map mb] _).cell rfl, Chg.alloc _ _ _⟩
  rintro e w4 ⟨v, rfl, c2, rfl, hc, c4⟩
  refine ⟨_, rfl, ?_⟩
  refine (slices_Collect_sl_int_lift (K := fun v w' => ∃ s : Sl, v = s.val ∧ K s w') ?_).mono (by rintro e w' ⟨v, rfl, s', rfl, h⟩; exact ⟨s', rfl, h⟩)
  unfold slices_Collect_sl_int_sh
  refine (appendSeq_any (hm.no c4) hc hl).mono ?_
  rintro e w3 ⟨s, rfl, done, d1, d2, o, c, b⟩
  exact ⟨s, rfl, s, rfl, k s w3 done d1 d2 o (c4.trans c (fun _ _ h => h) (fun _ _ h => h)) (fun q hq => Nat.le_trans c4.size (b q hq))⟩
end Go.Proofs.Ytgffaimgnmfifaa

/- watch: what a watch holds, its methods. -/
set_option maxRecDepth 100000
namespace Go.Proofs.Ytgffaimgnmfifaa
open Go.RowKit

/-- A map of lists: each list rises, lies in a block of its own in B. -/
structure MAt (B : Nat → Prop) (w : World) (mb : Option Nat) (xs : List Et) : Prop where
  mo : MO w mb xs
  el : ∀ e ∈ xs, Ow intE w e.v e.l ∧ e.l.Pairwise (· < ·) ∧ e.l.length ≤ 1000 ∧ ∀ k, e.v.blk = some k → B k ∧ mb ≠ some k
  bb : ∀ b, mb = some b → B b
/-- What a map says of each key. -/
def Fit (xs : List Et) (f : Int → Option (List Int)) : Prop := ∀ k, (mgt xs k).map (·.l) = f k
theorem MAt.chg {B S : Nat → Prop} {w w' : World} {mb : Option Nat} {xs : List Et} (h : MAt B w mb xs) (c : Chg S w w') (hS : ∀ k, B k → ¬ S k) : MAt B w' mb xs :=
  ⟨h.mo.chg c (fun b e => hS b (h.bb b e)), fun e he => ⟨(h.el e he).1.chg c (fun k hk => hS k ((h.el e he).2.2.2 k hk).1), (h.el e he).2⟩, h.bb⟩
theorem MAt.wid {B B' : Nat → Prop} {w : World} {mb : Option Nat} {xs : List Et} (h : MAt B w mb xs) (hb : ∀ k, B k → B' k) : MAt B' w mb xs :=
  ⟨h.mo, fun e he => ⟨(h.el e he).1, (h.el e he).2.1, (h.el e he).2.2.1, fun k hk => ⟨hb k ((h.el e he).2.2.2 k hk).1, ((h.el e he).2.2.2 k hk).2⟩⟩, fun b e => hb b (h.bb b e)⟩
theorem MO.lt {w : World} {mb : Option Nat} {xs : List Et} (h : MO w mb xs) {b : Nat} (e : mb = some b) : b < w.heap.size := by subst e; exact MR.lt h
theorem MAt.nar {B : Nat → Prop} {w : World} {mb : Option Nat} {xs : List Et} (h : MAt B w mb xs) : MAt (fun k => B k ∧ k < w.heap.size) w mb xs :=
  ⟨h.mo, fun e he => ⟨(h.el e he).1, (h.el e he).2.1, (h.el e he).2.2.1, fun k hk => ⟨⟨((h.el e he).2.2.2 k hk).1, (h.el e he).1.lt hk⟩, ((h.el e he).2.2.2 k hk).2⟩⟩, fun b e => ⟨h.bb b e, h.mo.lt e⟩⟩
theorem MAt.none (B : Nat → Prop) (w : World) : MAt B w none [] := ⟨rfl, (fun e he => by cases he), (fun b e => by cases e)⟩
theorem fit_none : Fit [] fun _ => none := fun _ => rfl
theorem mgt_del (xs : List Et) (k q : Int) : mgt (xs.filter fun e => decide (e.k ≠ k)) q = if q = k then none else mgt xs q := by
  unfold mgt
  rw [List.find?_filter]
  by_cases h : q = k
  · rw [if_pos h]
    refine List.find?_eq_none.2 fun e _ => ?_
    subst h
    by_cases h2 : e.k = q <;> simp [h2]
  · rw [if_neg h]
    congr 1
    funext e
    by_cases h2 : e.k = q
    · simp [h2, h]
    · simp [h2]
theorem fit_del {xs : List Et} {f : Int → Option (List Int)} (h : Fit xs f) (k : Int) : Fit (xs.filter fun e => decide (e.k ≠ k)) fun q => if q = k then none else f q := by
  intro q
  show _ = if q = k then none else f q
  rw [mgt_del]
  by_cases hq : q = k
  · rw [if_pos hq, if_pos hq]; rfl
  · rw [if_neg hq, if_neg hq]; exact h q
theorem fit_up {xs : List Et} {f : Int → Option (List Int)} (h : Fit xs f) (k : Int) (v : Sl) (l : List Int) (n : Nat) : Fit (mup xs k v l n) fun q => if q = k then some l else f q := by
  intro q
  show _ = if q = k then some l else f q
  unfold mup
  split
  · rename_i hs
    have : mgt (xs.map fun e => if e.k = k then (⟨k, v, e.n, l⟩ : Et) else e) q = (mgt xs q).map fun e => if e.k = k then (⟨k, v, e.n, l⟩ : Et) else e := by
      unfold mgt
      rw [List.find?_map]
      congr 2
      funext e
      simp only [Function.comp]
      by_cases h2 : e.k = k <;> simp [h2]
    rw [this]
    by_cases hq : q = k
    · rw [if_pos hq]
      subst hq
      obtain ⟨e, he⟩ := Option.isSome_iff_exists.1 hs
      rw [he]
      have := (mgt_some he).2
      simp [this]
    · rw [if_neg hq, ← h q]
      cases hm : mgt xs q with
      | none => rfl
      | some e =>
        have := (mgt_some hm).2
        have : e.k ≠ k := fun h2 => hq (by rw [← this, h2])
        simp [this]
  · rename_i hs
    have hnone : mgt xs k = none := by simpa using hs
    unfold mgt
    rw [List.find?_append]
    by_cases hq : q = k
    · rw [if_pos hq]
      subst hq
      unfold mgt at hnone
      rw [hnone]
      simp
    · rw [if_neg hq, ← h q]
      unfold mgt
      have : ([(⟨k, v, n, l⟩ : Et)].find? fun e => decide (e.k = q)) = none := by
        simp [List.find?_cons, show ¬ (k = q) from fun h2 => hq h2.symm]
      rw [this, Option.or_none]
theorem mup_len (xs : List Et) (k : Int) (v : Sl) (l : List Int) (n : Nat) : (mup xs k v l n).length ≤ xs.length + 1 := by
  unfold mup
  split
  · rw [List.length_map]; omega
  · rw [List.length_append]; simp
theorem mup_mem {xs : List Et} {k : Int} {v : Sl} {l : List Int} {n : Nat} {e : Et} (h : e ∈ mup xs k v l n) : e ∈ xs ∨ (e.v = v ∧ e.l = l) := by
  unfold mup at h
  split at h
  · obtain ⟨a, ha, rfl⟩ := List.mem_map.1 h
    split
    · exact Or.inr ⟨rfl, rfl⟩
    · exact Or.inl ha
  · rcases List.mem_append.1 h with h | h
    · exact Or.inl h
    · rw [List.mem_singleton.1 h]; exact Or.inr ⟨rfl, rfl⟩
theorem ma_delete {B : Nat → Prop} {w : World} {mb : Option Nat} {xs : List Et} (h : MAt B w mb xs) (k : Int) {G : World → Prop} (kk : ∀ w', MAt B w' mb (xs.filter fun e => decide (e.k ≠ k)) → Chg (fun j => mb = some j) w w' → G w') :
    ∃ v8 : Value, ∃ w9 : World, (Builtin.delete_ #[T_map_int_sl_int, T_int] T_x #[.map mb, .int .i64 k]).run Try.prog w = .ok v8 w9 ∧ G w9 := by
  cases mb with
  | none =>
    have hx : xs = [] := h.mo
    subst hx
    exact ⟨_, w, mn_delete mapT mapK w k _ _, kk w (MAt.none B w) (Chg.refl _ _)⟩
  | some b =>
    obtain ⟨w', r, m, c⟩ := mr_delete mapT mapK (show MR w b xs from h.mo) k T_int T_x
    have c' : Chg (fun j => some b = some j) w w' := c.mono (fun j _ e => by rw [show j = b from e])
    refine ⟨_, w', r, kk w' ⟨m, fun e he => ?_, h.bb⟩ c'⟩
    obtain ⟨h1, h2, h3, h4⟩ := h.el e (List.mem_filter.1 he).1
    exact ⟨h1.chg c (fun q hq e2 => (h4 q hq).2 (by rw [show q = b from e2])), h2, h3, h4⟩
theorem ma_has {B : Nat → Prop} {w : World} {mb : Option Nat} {xs : List Et} {f : Int → Option (List Int)} (h : MAt B w mb xs) (hf : Fit xs f) (k : Int) : ∃ v : Value, (Instr.lookup T_map_int_sl_int (.map mb) (.int .i64 k) true).run Try.prog w = .ok (.tuple #[v, .bool (f k).isSome]) w := by
  cases mb with
  | none =>
    have hx : xs = [] := h.mo
    subst hx
    refine ⟨nilS.val, ?_⟩
    rw [mn_lookup mapT mapK mapZ w k true, ← hf k]
    rfl
  | some b =>
    rw [mr_lookup mapT mapK mapZ (show MR w b xs from h.mo) k true]
    refine ⟨(((mgt xs k).map (·.v)).getD nilS).val, ?_⟩
    rw [if_pos rfl, ← hf k, Option.isSome_map]
theorem ma_get {B : Nat → Prop} {w : World} {mb : Option Nat} {xs : List Et} {f : Int → Option (List Int)} (h : MAt B w mb xs) (hf : Fit xs f) (k : Int) : ∃ s : Sl, (Instr.lookup T_map_int_sl_int (.map mb) (.int .i64 k) false).run Try.prog w = .ok s.val w ∧ Ow intE w s ((f k).getD []) ∧ ((f k).getD []).length ≤ 1000 := by
  cases mb with
  | none =>
    have hx : xs = [] := h.mo
    subst hx
    refine ⟨nilS, mn_lookup mapT mapK mapZ w k false, ?_⟩
    rw [← hf k]
    exact ⟨Ow.nil _ _, Nat.zero_le _⟩
  | some b =>
    refine ⟨((mgt xs k).map (·.v)).getD nilS, by rw [mr_lookup mapT mapK mapZ (show MR w b xs from h.mo) k false]; rfl, ?_⟩
    rw [← hf k]
    cases hm : mgt xs k with
    | none => exact ⟨Ow.nil _ _, Nat.zero_le _⟩
    | some e =>
      have := h.el e (mgt_some hm).1
      exact ⟨this.1, this.2.2.1⟩
theorem ma_update {B : Nat → Prop} {w : World} {b : Nat} {xs : List Et} (h : MAt B w (some b) xs) (k : Int) {v : Sl} {l : List Int} (hv : Ow intE w v l) (hl : l.Pairwise (· < ·)) (hn : l.length ≤ 1000) (hb : ∀ q, v.blk = some q → B q ∧ q ≠ b) {G : World → Prop}
    (kk : ∀ n w', MAt B w' (some b) (mup xs k v l n) → Chg (fun j => j = b) w w' → G w') :
    ∃ w' : World, (Instr.mapUpdate T_map_int_sl_int (.map (some b)) (.int .i64 k) v.val).run Try.prog w = .ok () w' ∧ G w' := by
  obtain ⟨n, w', r, m, c⟩ := mr_update mapT mapK (show MR w b xs from h.mo) k v l
  refine ⟨w', r, kk n w' ⟨m, fun e he => ?_, h.bb⟩ c⟩
  rcases mup_mem he with he | ⟨e1, e2⟩
  · obtain ⟨h1, h2, h3, h4⟩ := h.el e he
    exact ⟨h1.chg c (fun q hq e2 => (h4 q hq).2 (by rw [show q = b from e2])), h2, h3, h4⟩
  · rw [e1, e2]
    exact ⟨hv.chg c (fun q hq e => (hb q hq).2 e), hl, hn, fun q hq => ⟨(hb q hq).1, fun e => (hb q hq).2 (Option.some.inj e).symm⟩⟩
/-- A watch at block c: what it says of each start. -/
def WA (B : Nat → Prop) (w : World) (c n : Nat) (f : Int → Option (List Int)) : Prop := ∃ mb xs, Ob w c [.map mb] T_watch_Watch ∧ MAt B w mb xs ∧ Fit xs f ∧ xs.length ≤ n ∧ B c
theorem WA.chg {B S : Nat → Prop} {w w' : World} {c n : Nat} {f : Int → Option (List Int)} (h : WA B w c n f) (ch : Chg S w w') (hS : ∀ k, B k → ¬ S k) : WA B w' c n f := by
  obtain ⟨mb, xs, h1, h2, h3, h4, h5⟩ := h
  exact ⟨mb, xs, h1.chg ch (hS c h5), h2.chg ch hS, h3, h4, h5⟩
theorem WA.wid {B B' : Nat → Prop} {w : World} {c n : Nat} {f : Int → Option (List Int)} (h : WA B w c n f) (hb : ∀ k, B k → B' k) : WA B' w c n f := by
  obtain ⟨mb, xs, h1, h2, h3, h4, h5⟩ := h
  exact ⟨mb, xs, h1, h2.wid hb, h3, h4, hb c h5⟩
theorem WA.nar {B : Nat → Prop} {w : World} {c n : Nat} {f : Int → Option (List Int)} (h : WA B w c n f) : WA (fun k => B k ∧ k < w.heap.size) w c n f := by
  obtain ⟨mb, xs, h1, h2, h3, h4, h5⟩ := h
  exact ⟨mb, xs, h1, h2.nar, h3, h4, h5, h1.lt⟩
theorem WA.new {B : Nat → Prop} {w w' : World} {c : Nat} (hc : c = w.heap.size) (hw : w' = World.alloc w (.cells #[.map none] T_watch_Watch)) (hB : B c) (n : Nat) : WA B w' c n fun _ => none := by
  refine ⟨none, [], ?_, MAt.none _ _, fit_none, Nat.zero_le _, hB⟩
  rw [hw, hc]; exact Ob.new w _ _
theorem mr_ne {w : World} {b c : Nat} {xs : List Et} {cs : List Value} {T : TypeId} (h : MR w b xs) (ho : Ob w c cs T) : c ≠ b := by
  rintro rfl
  obtain ⟨clock, h1, _⟩ := h.heap
  unfold Ob at ho
  rw [h1] at ho; cases ho
theorem map_isnil (m : Option Nat) (x : Operand) (w : World) : ((do eqGuard .eql T_map_int_sl_int x (.const (.map none)) (.map m) (.map none); binOp .eql T_map_int_sl_int (.map m) (.map none) : Sem Value)).run Try.prog w = .ok (.bool m.isNone) w := by
  cases m with
  | none => kernel_rfl
  | some b => kernel_rfl
theorem add_any {B : Nat → Prop} {w : World} {c n : Nat} {f : Int → Option (List Int)} {s : Sl} {cs : List Int} (h : WA B w c n f) (hB : ∀ k, w.heap.size ≤ k → B k) (hs : Rd intE w s cs) (hb : cs ≠ [] → ∀ k, s.blk = some k → ¬ B k) (hl : cs.length ≤ 1000) (start : Int) :
    Calls Try.prog fn_watch_Watch_Add #[.pointer (some ⟨c, 0, none⟩), .int .i64 start, s.val] w fun e w' => e = .returned (.tuple #[]) ∧ WA B w' c (n + 1) (fun q => if q = start then some (onceI cs) else f q) ∧ Chg B w w' := by
  refine (watch_Watch_Add_lift (K := fun v w' => v = .tuple #[] ∧ WA B w' c (n + 1) (fun q => if q = start then some (onceI cs) else f q) ∧ Chg B w w') ?_).mono (by rintro e w' ⟨v, rfl, rfl, h⟩; exact ⟨rfl, h⟩)
  unfold watch_Watch_Add_sh
  obtain ⟨mb, xs, h1, h2, h3, h4, h5⟩ := h
  refine ⟨fun w' => ∃ b xs, Ob w' c [.map (some b)] T_watch_Watch ∧ MAt B w' (some b) xs ∧ Fit xs f ∧ xs.length ≤ n ∧ Chg B w w', ?_, ?_⟩
  · rintro w10 ⟨b, xs, o1, m1, f1, l1, c1⟩ w11 hw
    have c11 : Chg No w10 w11 := dw hw
    refine ⟨fun w' => w'.cell? ⟨c, 0, none⟩ = some (.map (some b)), (o1.no c11).cell rfl, some b, fun _ h => h, ?_⟩
    refine (tidy_any ((hs.chg0 c1 hb).no c11) (by omega)).mono ?_
    rintro e w15 ⟨s', rfl, o15, c15, b15⟩
    have o1' := (o1.no c11).no c15
    refine ⟨s', rfl, o1'.cell rfl, ?_⟩
    have m1' := (m1.chg c11 (fun _ _ h => h)).chg c15 (fun _ _ h => h)
    have hon := onceI_ok cs
    refine ma_update m1' start o15 hon.1 (Nat.le_trans (onceI_len cs) hl) (fun q hq => ⟨hB q (Nat.le_trans (Nat.le_trans c1.size c11.size) (b15 q hq)), fun e => ?_⟩) ?_
    · have := b15 q hq
      have := MR.lt (show MR w11 b xs from (m1.chg c11 (fun _ _ h => h)).mo)
      omega
    intro nb w17 m17 c17
    refine ⟨rfl, ⟨some b, _, o1'.chg c17 (fun e => mr_ne (show MR w15 b xs from m1'.mo) o1' e), m17, fit_up f1 _ _ _ _, Nat.le_trans (mup_len ..) (by omega), h5⟩, ?_⟩
    exact ((c1.trans c11 (U := B) (fun _ _ h => h) (fun _ _ h => h.elim)).trans c15 (U := B) (fun _ _ h => h) (fun _ _ h => h.elim)).trans c17 (fun _ _ h => h) (fun k _ h => by rw [show k = b from h]; exact m1.bb b rfl)
  · refine ⟨mb, h1.cell rfl, _, w, map_isnil mb _ w, ?_⟩
    cases mb with
    | none =>
      have hx : xs = [] := h2.mo
      subst hx
      refine brB_t ?_
      intro b7 w8 hb7 hw8
      have c8 : Chg No w w8 := al hw8
      have o8 := h1.no c8
      refine ⟨o8.wr (by simp), fun w9 hw9 => ?_⟩
      obtain ⟨o9, c9⟩ := o8.up (cs' := [.map (some b7)]) (k := 0) (vs := [.map (some b7)]) (by simp) rfl hw9
      have m8 : MR w8 b7 [] := MR.new hb7 hw8
      have hne : b7 ≠ c := fun e => by have := h1.lt; omega
      refine ⟨b7, [], o9, ⟨MR.chg m8 c9 hne, (fun e he => by cases he), fun b e => hB b (by cases e; omega)⟩, h3, h4, ?_⟩
      exact c8.trans c9 (fun _ _ h => h.elim) (fun k _ h => by rw [show k = c from h]; exact h5)
    | some b => exact brB_f ⟨b, xs, h1, h2, h3, h4, Chg.refl _ _⟩
theorem drop_any {B : Nat → Prop} {w : World} {c n : Nat} {f : Int → Option (List Int)} (h : WA B w c n f) (start : Int) :
    Calls Try.prog fn_watch_Watch_Drop #[.pointer (some ⟨c, 0, none⟩), .int .i64 start] w fun e w' => e = .returned (.bool (f start).isSome) ∧ WA B w' c n (fun q => if q = start then none else f q) ∧ Chg B w w' := by
  refine (watch_Watch_Drop_lift (K := fun v w' => v = .bool (f start).isSome ∧ WA B w' c n (fun q => if q = start then none else f q) ∧ Chg B w w') ?_).mono (by rintro e w' ⟨v, rfl, rfl, h⟩; exact ⟨rfl, h⟩)
  unfold watch_Watch_Drop_sh
  obtain ⟨mb, xs, h1, h2, h3, h4, h5⟩ := h
  obtain ⟨v, hv⟩ := ma_has h2 h3 start
  refine ⟨mb, h1.cell rfl, v, _, w, hv, mb, h1.cell rfl, ?_⟩
  refine ma_delete h2 start fun w9 m9 c9 => ⟨rfl, ⟨mb, _, h1.chg c9 (fun e => ?_), m9, fit_del h3 start, Nat.le_trans (List.length_filter_le ..) h4, h5⟩, c9.mono (fun k _ e => h2.bb k e)⟩
  cases mb with
  | none => cases e
  | some b => exact mr_ne (show MR w b xs from h2.mo) h1 (Option.some.inj e).symm
theorem of_any {B : Nat → Prop} {w : World} {c n : Nat} {f : Int → Option (List Int)} (h : WA B w c n f) (start : Int) :
    Calls Try.prog fn_watch_Watch_Of #[.pointer (some ⟨c, 0, none⟩), .int .i64 start] w fun e w' => ∃ s : Sl, e = .returned s.val ∧ Ow intE w' s ((f start).getD []) ∧ Chg No w w' ∧ ∀ k, s.blk = some k → w.heap.size ≤ k := by
  refine (watch_Watch_Of_lift (K := fun v w' => ∃ s : Sl, v = s.val ∧ Ow intE w' s ((f start).getD []) ∧ Chg No w w' ∧ ∀ k, s.blk = some k → w.heap.size ≤ k) ?_).mono (by rintro e w' ⟨v, rfl, s', rfl, h⟩; exact ⟨s', rfl, h⟩)
  unfold watch_Watch_Of_sh
  obtain ⟨mb, xs, h1, h2, h3, h4, h5⟩ := h
  obtain ⟨s, hs, o, hl⟩ := ma_get h2 h3 start
  refine ⟨mb, h1.cell rfl, s, w, hs, ?_⟩
  refine (clone_ints o.rd (by omega)).mono ?_
  rintro e w3 ⟨s4, rfl, o4, c4, b4, _⟩
  exact ⟨s4, rfl, s4, rfl, o4, c4, b4⟩
/-- All cells that are watched: a list that rises, with just these. -/
theorem cells_any {B : Nat → Prop} {w : World} {c n : Nat} {f : Int → Option (List Int)} (h : WA B w c n f) (hn : n ≤ 1000) :
    Calls Try.prog fn_watch_Watch_Cells #[.pointer (some ⟨c, 0, none⟩)] w fun e w' => ∃ (s : Sl) (r : List Int), e = .returned s.val ∧ Ow intE w' s r ∧ r.Pairwise (· < ·) ∧ (∀ x, x ∈ r ↔ ∃ k l, f k = some l ∧ x ∈ l) ∧ r.length ≤ n * 1000 ∧ Chg No w w' ∧ ∀ k, s.blk = some k → w.heap.size ≤ k := by
  refine (watch_Watch_Cells_lift (K := fun v w' => ∃ (s : Sl) (r : List Int), v = s.val ∧ Ow intE w' s r ∧ r.Pairwise (· < ·) ∧ (∀ x, x ∈ r ↔ ∃ k l, f k = some l ∧ x ∈ l) ∧ r.length ≤ n * 1000 ∧ Chg No w w' ∧ ∀ k, s.blk = some k → w.heap.size ≤ k) ?_).mono (by rintro e w' ⟨v, rfl, s', r, rfl, h⟩; exact ⟨s', r, rfl, h⟩)
  unfold watch_Watch_Cells_sh
  obtain ⟨mb, xs, h1, h2, h3, h4, h5⟩ := h
  refine ⟨mb, h1.cell rfl, ?_⟩
  refine collect_any h2.mo (by omega) fun s8 w7 done d1 d2 o8 c7 b7 => ?_
  have hel : ∀ e ∈ done, Ow intE w7 e.v e.l ∧ e.l.length ≤ 1000 := fun e he => by
    have := h2.el e ((d1 e).1 he)
    exact ⟨this.1.no c7, this.2.2.1⟩
  refine (concat_any o8 hel (by omega)).mono ?_
  rintro e w10 ⟨s11, rfl, o11, c10, b11⟩
  have hlen : (done.flatMap (·.l)).length ≤ done.length * 1000 := by
    have : ∀ ds : List Et, (∀ e ∈ ds, e.l.length ≤ 1000) → (ds.flatMap (·.l)).length ≤ ds.length * 1000 := by
      intro ds
      induction ds with
      | nil => intro _; simp
      | cons a r ih =>
        intro hd
        have h1 := hd a List.mem_cons_self
        have h2 := ih fun e he => hd e (List.mem_cons_of_mem _ he)
        rw [List.flatMap_cons, List.length_append, List.length_cons]; omega
    exact this done fun e he => (hel e he).2
  have hlen2 : done.length * 1000 ≤ n * 1000 := Nat.mul_le_mul_right _ (by omega)
  refine ⟨s11, rfl, ?_⟩
  refine (tidy_any o11.rd (by omega)).mono ?_
  rintro e w13 ⟨s14, rfl, o14, c13, b14⟩
  have hon := onceI_ok (done.flatMap (·.l))
  refine ⟨s14, rfl, s14, _, rfl, o14, hon.1, fun x => ?_, Nat.le_trans (onceI_len _) (Nat.le_trans hlen hlen2), (c7.trans c10 (U := No) (fun _ _ h => h) (fun _ _ h => h)).trans c13 (fun _ _ h => h) (fun _ _ h => h), fun k hk => Nat.le_trans (Nat.le_trans c7.size c10.size) (b14 k hk)⟩
  rw [hon.2, List.mem_flatMap]
  constructor
  · rintro ⟨e, he, hx⟩
    refine ⟨e.k, e.l, ?_, hx⟩
    rw [← h3 e.k]
    cases mb with
    | none =>
      have hx : xs = [] := h2.mo
      subst hx
      exact absurd ((d1 e).1 he) (by simp)
    | some b => rw [mgt_mem (MR.keys (show MR w b xs from h2.mo)) ((d1 e).1 he)]; rfl
  · rintro ⟨k, l, hk, hx⟩
    rw [← h3 k] at hk
    obtain ⟨e, he, rfl⟩ := Option.map_eq_some_iff.1 hk
    exact ⟨e, (d1 e).2 (mgt_some he).1, hx⟩
theorem add_none (start : Int) (s : Sl) (w : World) : Calls Try.prog fn_watch_Watch_Add #[.pointer none, .int .i64 start, s.val] w fun e w' => e = .returned (.tuple #[]) ∧ w = w' := by
  refine (watch_Watch_Add_nil_lift (K := fun v w' => v = .tuple #[] ∧ w = w') ?_).mono (by rintro e w' ⟨v, rfl, rfl, h⟩; exact ⟨rfl, h⟩)
  exact ⟨rfl, rfl⟩
theorem touch_none (s : Sl) (w : World) : Calls Try.prog fn_watch_Watch_Touch #[.pointer none, s.val] w fun e w' => e = .returned nilS.val ∧ w = w' := by
  refine (watch_Watch_Touch_nil_lift (K := fun v w' => v = nilS.val ∧ w = w') ?_).mono (by rintro e w' ⟨v, rfl, rfl, h⟩; exact ⟨rfl, h⟩)
  exact ⟨rfl, rfl⟩
theorem drop_none (start : Int) (w : World) : Calls Try.prog fn_watch_Watch_Drop #[.pointer none, .int .i64 start] w fun e w' => e = .returned (.bool false) ∧ w = w' := by
  refine (watch_Watch_Drop_nil_lift (K := fun v w' => v = .bool false ∧ w = w') ?_).mono (by rintro e w' ⟨v, rfl, rfl, h⟩; exact ⟨rfl, h⟩)
  exact ⟨rfl, rfl⟩
theorem cells_none (w : World) : Calls Try.prog fn_watch_Watch_Cells #[.pointer none] w fun e w' => e = .returned nilS.val ∧ w = w' := by
  refine (watch_Watch_Cells_nil_lift (K := fun v w' => v = nilS.val ∧ w = w') ?_).mono (by rintro e w' ⟨v, rfl, rfl, h⟩; exact ⟨rfl, h⟩)
  exact ⟨rfl, rfl⟩
theorem of_none (start : Int) (w : World) : Calls Try.prog fn_watch_Watch_Of #[.pointer none, .int .i64 start] w fun e w' => e = .returned nilS.val ∧ w = w' := by
  refine (watch_Watch_Of_nil_lift (K := fun v w' => v = nilS.val ∧ w = w') ?_).mono (by rintro e w' ⟨v, rfl, rfl, h⟩; exact ⟨rfl, h⟩)
  exact ⟨rfl, rfl⟩
end Go.Proofs.Ytgffaimgnmfifaa

/- Functions of Hollowaylaw22, read without their frames; that each is enough. Printed by a program of mine (wip/lift/gen.py). -/
set_option maxRecDepth 100000
namespace Go.Proofs.Ytgffaimgnmfifaa
open Go.RowKit

-- holloway/hollowaylaw22.WatchEach
def hollowaylaw22_WatchEach_sh (start1 : Int) (l_2 : Sl) (other3 : Int) (w : World) (K : Value → World → Prop) : Prop :=
 ∃ J3 : Bool → World → Prop, (∀ (b8 : Bool) (w7 : World), J3 b8 w7 →
 brB b8
 (Calls Try.prog fn_hollowaylaw22_alive #[] w7 fun e9 w10 => ∃ b11 : Bool, e9 = .returned (.bool b11) ∧
 K (.bool b11) w10)
 (∃ (I1 : Int → World → Prop) (μ1 : Int → World → Nat), I1 (0 : Int) w7 ∧ ∀ (n13 : Int) (w12 : World), I1 n13 w12 →
 brB (decide (n13 < (l_2.len : Int)))
 (∃ J9 : World → Prop, (∀ (w49 : World), J9  w49 →
 I1 (wr (n13 + (1 : Int))) w49 ∧ μ1 (wr (n13 + (1 : Int))) w49 < μ1 n13 w12) ∧
 ∃ a14 : Addr, l_2.ptr = some a14 ∧ 0 ≤ n13 ∧ n13 < (l_2.len : Int) ∧
 ∃ n15 : Int, w12.cell? (Addr.add a14 (Int.toNat n13 * 1)) = some (.int .i64 n15) ∧
 ∀ (b16 : Nat) (w17 : World), b16 = w12.heap.size → w17 = World.alloc w12 (.cells #[.map none] T_watch_Watch) →
 Calls Try.prog fn_watch_Watch_Add #[.pointer (some ⟨b16, 0, none⟩), .int .i64 start1, l_2.val] w17 fun e18 w19 => e18 = .returned (.tuple #[]) ∧
 ∃ (I2 : Bool → Int → World → Prop) (μ2 : Bool → Int → World → Nat), I2 false (0 : Int) w19 ∧ ∀ (in24 : Bool) (n21 : Int) (w20 : World), I2 in24 n21 w20 →
 brB (decide (n21 < (l_2.len : Int)))
 (∃ J18 : Bool → World → Prop, (∀ (in50 : Bool) (w25 : World), J18 in50 w25 →
 I2 in50 (wr (n21 + (1 : Int))) w25 ∧ μ2 in50 (wr (n21 + (1 : Int))) w25 < μ2 in24 n21 w20) ∧
 ∃ a22 : Addr, l_2.ptr = some a22 ∧ 0 ≤ n21 ∧ n21 < (l_2.len : Int) ∧
 ∃ n23 : Int, w20.cell? (Addr.add a22 (Int.toNat n21 * 1)) = some (.int .i64 n23) ∧
 brB in24
 (J18 true w20)
 (J18 (n23 == other3) w20))
 (∀ (b26 : Nat) (w27 : World), b26 = w20.heap.size → w27 = World.alloc w20 (.cells #[.int .i64 other3] T_int) →
 Calls Try.prog fn_watch_Watch_Touch #[.pointer (some ⟨b16, 0, none⟩), .slice (some ⟨b26, 0, none⟩) 1 1] w27 fun e28 w29 => ∃ s30 : Sl, e28 = .returned (s30.val) ∧
 brB in24
 (∃ J24 : Bool → World → Prop, (∀ (b39 : Bool) (w38 : World), J24 b39 w38 →
 brB b39
 (K (.bool false) w38)
 (J9  w38)) ∧
 brB ((s30.len : Int) != (1 : Int))
 (J24 true w29)
 (∃ a31 : Addr, s30.ptr = some a31 ∧ 0 ≤ (0 : Int) ∧ (0 : Int) < (s30.len : Int) ∧
 ∃ n32 : Int, w29.cell? (Addr.add a31 (Int.toNat (0 : Int) * 1)) = some (.int .i64 n32) ∧
 brB (n32 != start1)
 (J24 true w29)
 (∀ (b33 : Nat) (w34 : World), b33 = w29.heap.size → w34 = World.alloc w29 (.cells #[.int .i64 n15] T_int) →
 Calls Try.prog fn_watch_Watch_Touch #[.pointer (some ⟨b16, 0, none⟩), .slice (some ⟨b33, 0, none⟩) 1 1] w34 fun e35 w36 => ∃ s37 : Sl, e35 = .returned (s37.val) ∧
 J24 ((s37.len : Int) != (0 : Int)) w36)))
 (∀ (b40 : Nat) (w41 : World), b40 = w29.heap.size → w41 = World.alloc w29 (.cells #[.int .i64 n15] T_int) →
 Calls Try.prog fn_watch_Watch_Touch #[.pointer (some ⟨b16, 0, none⟩), .slice (some ⟨b40, 0, none⟩) 1 1] w41 fun e42 w43 => ∃ s44 : Sl, e42 = .returned (s44.val) ∧
 ∃ J27 : Bool → World → Prop, (∀ (b48 : Bool) (w47 : World), J27 b48 w47 →
 brB b48
 (K (.bool false) w47)
 (J9  w47)) ∧
 brB ((s30.len : Int) != (0 : Int))
 (J27 true w43)
 (brB ((s44.len : Int) != (1 : Int))
 (J27 true w43)
 (∃ a45 : Addr, s44.ptr = some a45 ∧ 0 ≤ (0 : Int) ∧ (0 : Int) < (s44.len : Int) ∧
 ∃ n46 : Int, w43.cell? (Addr.add a45 (Int.toNat (0 : Int) * 1)) = some (.int .i64 n46) ∧
 J27 (n46 != start1) w43)))))
 (K (.bool true) w12))) ∧
 brB ((l_2.len : Int) == (0 : Int))
 (J3 true w)
 (brB (decide ((l_2.len : Int) > (30 : Int)))
 (J3 true w)
 (Calls Try.prog fn_hollowaylaw22_alive #[] w fun e4 w5 => ∃ b6 : Bool, e4 = .returned (.bool b6) ∧
 J3 (!b6) w5))
def hollowaylaw22_WatchEach_an : An := ⟨[(4, [(30, .int .i64)]), (10, [(10, .bool), (42, .int .i64)])], [], [(2, [(26, .bool)]), (13, [(10, .bool)]), (17, [(75, .bool)]), (20, [(94, .bool)]), (21, [])]⟩
theorem hollowaylaw22_WatchEach_lift {start1 : Int} {l_2 : Sl} {other3 : Int} {w : World} {K : Value → World → Prop} (h : hollowaylaw22_WatchEach_sh start1 l_2 other3 w K) : Calls Try.prog fn_hollowaylaw22_WatchEach #[.int .i64 start1, l_2.val, .int .i64 other3] w fun e w' => ∃ v, e = .returned v ∧ K v w' :=
   lift_calls (A := hollowaylaw22_WatchEach_an) (c := bodyOf Try.f3) (args := [.int .i64 start1, l_2.val, .int .i64 other3]) orc orc_wide Try.func3 (by kernel_rfl) (by kernel_rfl) (Eq.mp (by kernel_rfl : hollowaylaw22_WatchEach_sh start1 l_2 other3 w K = wpc orc Try.f3.ntmps hollowaylaw22_WatchEach_an (bodyOf Try.f3) (argl 0 [.int .i64 start1, l_2.val, .int .i64 other3]) w (retQ orc Try.f3.results.toList K)) h)

-- holloway/hollowaylaw22.WatchAnew
def hollowaylaw22_WatchAnew_sh (start1 : Int) (a_2 : Sl) (b_3 : Sl) (x_4 : Int) (w : World) (K : Value → World → Prop) : Prop :=
 ∃ J3 : Bool → World → Prop, (∀ (b9 : Bool) (w8 : World), J3 b9 w8 →
 brB b9
 (Calls Try.prog fn_hollowaylaw22_alive #[] w8 fun e10 w11 => ∃ b12 : Bool, e10 = .returned (.bool b12) ∧
 K (.bool b12) w11)
 (∀ (b13 : Nat) (w14 : World), b13 = w8.heap.size → w14 = World.alloc w8 (.cells #[.map none] T_watch_Watch) →
 Calls Try.prog fn_watch_Watch_Add #[.pointer (some ⟨b13, 0, none⟩), .int .i64 start1, a_2.val] w14 fun e15 w16 => e15 = .returned (.tuple #[]) ∧
 Calls Try.prog fn_watch_Watch_Add #[.pointer (some ⟨b13, 0, none⟩), .int .i64 start1, b_3.val] w16 fun e17 w18 => e17 = .returned (.tuple #[]) ∧
 ∃ (I1 : Bool → Int → World → Prop) (μ1 : Bool → Int → World → Nat), I1 false (0 : Int) w18 ∧ ∀ (in23 : Bool) (n20 : Int) (w19 : World), I1 in23 n20 w19 →
 brB (decide (n20 < (b_3.len : Int)))
 (∃ J13 : Bool → World → Prop, (∀ (in42 : Bool) (w24 : World), J13 in42 w24 →
 I1 in42 (wr (n20 + (1 : Int))) w24 ∧ μ1 in42 (wr (n20 + (1 : Int))) w24 < μ1 in23 n20 w19) ∧
 ∃ a21 : Addr, b_3.ptr = some a21 ∧ 0 ≤ n20 ∧ n20 < (b_3.len : Int) ∧
 ∃ n22 : Int, w19.cell? (Addr.add a21 (Int.toNat n20 * 1)) = some (.int .i64 n22) ∧
 brB in23
 (J13 true w19)
 (J13 (n22 == x_4) w19))
 (∀ (b25 : Nat) (w26 : World), b25 = w19.heap.size → w26 = World.alloc w19 (.cells #[.int .i64 x_4] T_int) →
 Calls Try.prog fn_watch_Watch_Touch #[.pointer (some ⟨b13, 0, none⟩), .slice (some ⟨b25, 0, none⟩) 1 1] w26 fun e27 w28 => ∃ s29 : Sl, e27 = .returned (s29.val) ∧
 ∃ J17 : Bool → World → Prop, (∀ (b33 : Bool) (w32 : World), J17 b33 w32 →
 brB b33
 (K (.bool false) w32)
 (Calls Try.prog fn_watch_Watch_Drop #[.pointer (some ⟨b13, 0, none⟩), .int .i64 start1] w32 fun e34 w35 => ∃ b36 : Bool, e34 = .returned (.bool b36) ∧
 brB (b36 == (!in23))
 (Calls Try.prog fn_watch_Watch_Cells #[.pointer (some ⟨b13, 0, none⟩)] w35 fun e37 w38 => ∃ s39 : Sl, e37 = .returned (s39.val) ∧
 K (.bool ((s39.len : Int) == (0 : Int))) w38)
 (K (.bool false) w35))) ∧
 brB (!(((s29.len : Int) == (1 : Int)) == in23))
 (J17 true w28)
 (brB in23
 (∃ a30 : Addr, s29.ptr = some a30 ∧ 0 ≤ (0 : Int) ∧ (0 : Int) < (s29.len : Int) ∧
 ∃ n31 : Int, w28.cell? (Addr.add a30 (Int.toNat (0 : Int) * 1)) = some (.int .i64 n31) ∧
 J17 (n31 != start1) w28)
 (J17 false w28))))) ∧
 brB (decide ((a_2.len : Int) > (30 : Int)))
 (J3 true w)
 (brB (decide ((b_3.len : Int) > (30 : Int)))
 (J3 true w)
 (Calls Try.prog fn_hollowaylaw22_alive #[] w fun e5 w6 => ∃ b7 : Bool, e5 = .returned (.bool b7) ∧
 J3 (!b7) w6))
def hollowaylaw22_WatchAnew_an : An := ⟨[(8, [(10, .bool), (39, .int .i64)])], [], [(2, [(25, .bool)]), (11, [(10, .bool)]), (14, [(68, .bool)])]⟩
theorem hollowaylaw22_WatchAnew_lift {start1 : Int} {a_2 : Sl} {b_3 : Sl} {x_4 : Int} {w : World} {K : Value → World → Prop} (h : hollowaylaw22_WatchAnew_sh start1 a_2 b_3 x_4 w K) : Calls Try.prog fn_hollowaylaw22_WatchAnew #[.int .i64 start1, a_2.val, b_3.val, .int .i64 x_4] w fun e w' => ∃ v, e = .returned v ∧ K v w' :=
   lift_calls (A := hollowaylaw22_WatchAnew_an) (c := bodyOf Try.f4) (args := [.int .i64 start1, a_2.val, b_3.val, .int .i64 x_4]) orc orc_wide Try.func4 (by kernel_rfl) (by kernel_rfl) (Eq.mp (by kernel_rfl : hollowaylaw22_WatchAnew_sh start1 a_2 b_3 x_4 w K = wpc orc Try.f4.ntmps hollowaylaw22_WatchAnew_an (bodyOf Try.f4) (argl 0 [.int .i64 start1, a_2.val, b_3.val, .int .i64 x_4]) w (retQ orc Try.f4.results.toList K)) h)

-- holloway/hollowaylaw22.WatchPlays
def hollowaylaw22_WatchPlays_sh (l_1 : Sl) (ask2 : Int) (w : World) (K : Value → World → Prop) : Prop :=
 ∃ J3 : Bool → World → Prop, (∀ (b7 : Bool) (w6 : World), J3 b7 w6 →
 brB b7
 (Calls Try.prog fn_hollowaylaw22_alive #[] w6 fun e8 w9 => ∃ b10 : Bool, e8 = .returned (.bool b10) ∧
 K (.bool b10) w9)
 (∀ (b11 : Nat) (w12 : World), b11 = w6.heap.size → w12 = World.alloc w6 (.cells #[.map none] T_watch_Watch) →
 ∀ (b13 : Nat) (w14 : World), b13 = w12.heap.size → w14 = World.alloc w12 (.map #[] 0) →
 ∀ (b15 : Nat) (w16 : World), b15 = w14.heap.size → w16 = World.alloc w14 (.cells #[.slice none 0 0, .slice none 0 0, .slice none 0 0, .slice none 0 0, .slice none 0 0, .slice none 0 0, .slice none 0 0, .slice none 0 0, .slice none 0 0, .slice none 0 0, .slice none 0 0, .slice none 0 0] T_hollowaybook_Book) →
 ∃ (I1 : Int → World → Prop) (μ1 : Int → World → Nat), I1 (0 : Int) w16 ∧ ∀ (i18 : Int) (w17 : World), I1 i18 w17 →
 brB (decide (i18 < (l_1.len : Int)))
 (∃ a19 : Addr, l_1.ptr = some a19 ∧ 0 ≤ i18 ∧ i18 < (l_1.len : Int) ∧
 ∃ n_Kind20 : Int, ∃ n_Start21 : Int, ∃ s_L22 : Sl, w17.cell? (Addr.add a19 (Int.toNat i18 * 3)) = some (.int .i64 n_Kind20) ∧ w17.cell? (Addr.add (Addr.add a19 (Int.toNat i18 * 3)) 1) = some (.int .i64 n_Start21) ∧ w17.cell? (Addr.add (Addr.add a19 (Int.toNat i18 * 3)) 2) = some (s_L22.val) ∧
 ∀ (b23 : Nat) (w24 : World), b23 = w17.heap.size → w24 = World.alloc w17 (.cells #[.int .i64 (0 : Int), .int .i64 (0 : Int), .slice none 0 0] T_hollowaylaw22_Op) →
 wrOk w24 ⟨b23, 0, none⟩ 3 ∧ ∀ w25 : World, w25 = stW w24 ⟨b23, 0, none⟩ 0 [.int .i64 n_Kind20, .int .i64 n_Start21, s_L22.val] →
 ∃ s26 : Sl, w25.cell? ⟨b23, 2, none⟩ = some (s26.val) ∧
 brB (decide ((s26.len : Int) > (40 : Int)))
 (K (.bool true) w25)
 (∃ s27 : Sl, w25.cell? ⟨b23, 2, none⟩ = some (s27.val) ∧
 Calls Try.prog fn_hollowaybook_LentInts #[s27.val] w25 fun e28 w29 => ∃ s30 : Sl, e28 = .returned (s30.val) ∧
 ∃ J18 : World → Prop, (∀ (w98 : World), J18  w98 →
 ∃ s99 : Sl, w98.cell? ⟨b23, 2, none⟩ = some (s99.val) ∧
 Calls Try.prog fn_hollowaybook_StaysInts #[s30.val, s99.val] w98 fun e100 w101 => ∃ b102 : Bool, e100 = .returned (.bool b102) ∧
 brB (!b102)
 (K (.bool false) w101)
 (∃ (b103 : Nat) (w104 : World), (Instr.range T_map_int_sl_int (.map (some b13))).run Try.prog w101 = .ok (.pointer (some ⟨b103, 0, none⟩)) w104 ∧
 ∃ (I6 : Sl → World → Prop) (μ6 : Sl → World → Nat), I6 (⟨none, 0, 0⟩ : Sl) w104 ∧ ∀ (all113 : Sl) (w105 : World), I6 all113 w105 →
 ((∃ w106 : World, (Instr.next (.pointer (some ⟨b103, 0, none⟩)) false T_x).run Try.prog w105 = .ok (.tuple #[.bool false]) w106 ∧
 Calls Try.prog fn_watch_Watch_Cells #[.pointer (some ⟨b11, 0, none⟩)] w106 fun e116 w117 => ∃ s118 : Sl, e116 = .returned (s118.val) ∧
 Calls Try.prog fn_watch_Watch_Of #[.pointer (some ⟨b11, 0, none⟩), .int .i64 ask2] w117 fun e119 w120 => ∃ s121 : Sl, e119 = .returned (s121.val) ∧
 Calls Try.prog fn_hollowaybook_Book_Ints #[.pointer (some ⟨b15, 0, none⟩), s118.val] w120 fun e122 w123 => e122 = .returned (.tuple #[]) ∧
 Calls Try.prog fn_hollowaybook_Book_Ints #[.pointer (some ⟨b15, 0, none⟩), s121.val] w123 fun e124 w125 => e124 = .returned (.tuple #[]) ∧
 ∃ J71 : Bool → World → Prop, (∀ (b138 : Bool) (w137 : World), J71 b138 w137 →
 brB b138
 (K (.bool false) w137)
 (I1 (wr (i18 + (1 : Int))) w137 ∧ μ1 (wr (i18 + (1 : Int))) w137 < μ1 i18 w17)) ∧
 Calls Try.prog fn_hollowaylaw22_rise #[all113.val] w125 fun e126 w127 => ∃ s128 : Sl, e126 = .returned (s128.val) ∧
 Calls Try.prog fn_hollowaybook_SameInts #[s118.val, s128.val] w127 fun e129 w130 => ∃ b131 : Bool, e129 = .returned (.bool b131) ∧
 brB (!b131)
 (J71 true w130)
 (∃ s133 : Sl, ∃ w132 : World, (Instr.lookup T_map_int_sl_int (.map (some b13)) (.int .i64 ask2) false).run Try.prog w130 = .ok (s133.val) w132 ∧
 Calls Try.prog fn_hollowaybook_SameInts #[s121.val, s133.val] w132 fun e134 w135 => ∃ b136 : Bool, e134 = .returned (.bool b136) ∧
 J71 (!b136) w135)) ∨
  (∃ (k108 v109 : Value) (w107 : World), (Instr.next (.pointer (some ⟨b103, 0, none⟩)) false T_x).run Try.prog w105 = .ok (.tuple #[.bool true, k108, v109]) w107 ∧
 ∃ (n110 : Int) (s111 : Sl) (w112 : World), (Instr.entry (.pointer (some ⟨b103, 0, none⟩))).run Try.prog w107 = .ok (.tuple #[.int .i64 n110, s111.val]) w112 ∧
 ∃ s114 : Sl, ∃ w115 : World, (Builtin.append_ #[T_sl_int, T_sl_int] T_sl_int #[all113.val, s111.val]).run Try.prog w112 = .ok (s114.val) w115 ∧
 I6 s114 w115 ∧ μ6 s114 w115 < μ6 all113 w105)))) ∧
 ∃ n31 : Int, w29.cell? ⟨b23, 0, none⟩ = some (.int .i64 n31) ∧
 brB (n31 == (1 : Int))
 (∃ n32 : Int, w29.cell? ⟨b23, 1, none⟩ = some (.int .i64 n32) ∧
 Calls Try.prog fn_watch_Watch_Add #[.pointer (some ⟨b11, 0, none⟩), .int .i64 n32, s30.val] w29 fun e33 w34 => e33 = .returned (.tuple #[]) ∧
 ∀ w35 : World, w35 = World.drew w34 →
 ∃ S36 : World → Prop, S36 w35 ∧
 ∃ n37 : Int, held S36 ⟨b23, 1, none⟩ (.int .i64 n37) ∧
 ∃ s38 : Sl, held S36 ⟨b23, 2, none⟩ (s38.val) ∧
 Calls Try.prog fn_hollowaylaw22_rise #[s38.val] w35 fun e39 w40 => ∃ s41 : Sl, e39 = .returned (s41.val) ∧
 S36 w40 ∧
 ∃ w42 : World, (Instr.mapUpdate T_map_int_sl_int (.map (some b13)) (.int .i64 n37) (s41.val)).run Try.prog w40 = .ok () w42 ∧
 J18  w42)
 (brB (n31 == (2 : Int))
 (∃ n43 : Int, w29.cell? ⟨b23, 1, none⟩ = some (.int .i64 n43) ∧
 ∃ (v45 : Value) (b46 : Bool) (w44 : World), (Instr.lookup T_map_int_sl_int (.map (some b13)) (.int .i64 n43) true).run Try.prog w29 = .ok (.tuple #[v45, .bool b46]) w44 ∧
 ∃ n47 : Int, w44.cell? ⟨b23, 1, none⟩ = some (.int .i64 n47) ∧
 Calls Try.prog fn_watch_Watch_Drop #[.pointer (some ⟨b11, 0, none⟩), .int .i64 n47] w44 fun e48 w49 => ∃ b50 : Bool, e48 = .returned (.bool b50) ∧
 brB (!(b50 == b46))
 (K (.bool false) w49)
 (∃ n51 : Int, w49.cell? ⟨b23, 1, none⟩ = some (.int .i64 n51) ∧
 ∃ v52 : Value, ∃ w53 : World, (Builtin.delete_ #[T_map_int_sl_int, T_int] T_x #[.map (some b13), .int .i64 n51]).run Try.prog w49 = .ok v52 w53 ∧
 J18  w53))
 (∃ (b54 : Nat) (w55 : World), (Instr.range T_map_int_sl_int (.map (some b13))).run Try.prog w29 = .ok (.pointer (some ⟨b54, 0, none⟩)) w55 ∧
 ∃ (I2 : Sl → World → Prop) (μ2 : Sl → World → Nat), I2 (⟨none, 0, 0⟩ : Sl) w55 ∧ ∀ (want76 : Sl) (w56 : World), I2 want76 w56 →
 ((∃ w57 : World, (Instr.next (.pointer (some ⟨b54, 0, none⟩)) false T_x).run Try.prog w56 = .ok (.tuple #[.bool false]) w57 ∧
 Calls Try.prog fn_hollowaylaw22_rise #[want76.val] w57 fun e81 w82 => ∃ s83 : Sl, e81 = .returned (s83.val) ∧
 ∃ (I5 : Int → World → Prop) (μ5 : Int → World → Nat), I5 (0 : Int) w82 ∧ ∀ (n85 : Int) (w84 : World), I5 n85 w84 →
 brB (decide (n85 < (s83.len : Int)))
 (∃ a86 : Addr, s83.ptr = some a86 ∧ 0 ≤ n85 ∧ n85 < (s83.len : Int) ∧
 ∃ n87 : Int, w84.cell? (Addr.add a86 (Int.toNat n85 * 1)) = some (.int .i64 n87) ∧
 ∃ v88 : Value, ∃ w89 : World, (Builtin.delete_ #[T_map_int_sl_int, T_int] T_x #[.map (some b13), .int .i64 n87]).run Try.prog w84 = .ok v88 w89 ∧
 I5 (wr (n85 + (1 : Int))) w89 ∧ μ5 (wr (n85 + (1 : Int))) w89 < μ5 n85 w84)
 (Calls Try.prog fn_watch_Watch_Touch #[.pointer (some ⟨b11, 0, none⟩), s30.val] w84 fun e90 w91 => ∃ s92 : Sl, e90 = .returned (s92.val) ∧
 Calls Try.prog fn_hollowaybook_Book_Ints #[.pointer (some ⟨b15, 0, none⟩), s92.val] w91 fun e93 w94 => e93 = .returned (.tuple #[]) ∧
 Calls Try.prog fn_hollowaybook_SameInts #[s92.val, s83.val] w94 fun e95 w96 => ∃ b97 : Bool, e95 = .returned (.bool b97) ∧
 brB (!b97)
 (K (.bool false) w96)
 (J18  w96))) ∨
  (∃ (k59 v60 : Value) (w58 : World), (Instr.next (.pointer (some ⟨b54, 0, none⟩)) false T_x).run Try.prog w56 = .ok (.tuple #[.bool true, k59, v60]) w58 ∧
 ∃ (n61 : Int) (s62 : Sl) (w63 : World), (Instr.entry (.pointer (some ⟨b54, 0, none⟩))).run Try.prog w58 = .ok (.tuple #[.int .i64 n61, s62.val]) w63 ∧
 ∃ (I3 : Bool → Int → World → Prop) (μ3 : Bool → Int → World → Nat), I3 false (0 : Int) w63 ∧ ∀ (in75 : Bool) (n65 : Int) (w64 : World), I3 in75 n65 w64 →
 brB (decide (n65 < (s62.len : Int)))
 (∃ a66 : Addr, s62.ptr = some a66 ∧ 0 ≤ n65 ∧ n65 < (s62.len : Int) ∧
 ∃ n67 : Int, w64.cell? (Addr.add a66 (Int.toNat n65 * 1)) = some (.int .i64 n67) ∧
 ∃ s68 : Sl, w64.cell? ⟨b23, 2, none⟩ = some (s68.val) ∧
 ∃ (I4 : Bool → Int → World → Prop) (μ4 : Bool → Int → World → Nat), I4 in75 (0 : Int) w64 ∧ ∀ (in73 : Bool) (n70 : Int) (w69 : World), I4 in73 n70 w69 →
 brB (decide (n70 < (s68.len : Int)))
 (∃ J44 : Bool → World → Prop, (∀ (in162 : Bool) (w74 : World), J44 in162 w74 →
 I4 in162 (wr (n70 + (1 : Int))) w74 ∧ μ4 in162 (wr (n70 + (1 : Int))) w74 < μ4 in73 n70 w69) ∧
 ∃ a71 : Addr, s68.ptr = some a71 ∧ 0 ≤ n70 ∧ n70 < (s68.len : Int) ∧
 ∃ n72 : Int, w69.cell? (Addr.add a71 (Int.toNat n70 * 1)) = some (.int .i64 n72) ∧
 brB in73
 (J44 true w69)
 (J44 (n67 == n72) w69))
 (I3 in73 (wr (n65 + (1 : Int))) w69 ∧ μ3 in73 (wr (n65 + (1 : Int))) w69 < μ3 in75 n65 w64))
 (brB in75
 (∀ (b77 : Nat) (w78 : World), b77 = w64.heap.size → w78 = World.alloc w64 (.cells #[.int .i64 n61] T_int) →
 ∃ s79 : Sl, ∃ w80 : World, (Builtin.append_ #[T_sl_int, T_sl_int] T_sl_int #[want76.val, .slice (some ⟨b77, 0, none⟩) 1 1]).run Try.prog w78 = .ok (s79.val) w80 ∧
 I2 s79 w80 ∧ μ2 s79 w80 < μ2 want76 w56)
 (I2 want76 w64 ∧ μ2 want76 w64 < μ2 want76 w56))))))))
 (∀ (b139 : Nat) (w140 : World), b139 = w17.heap.size → w140 = World.alloc w17 (.cells #[.int .i64 (1 : Int)] T_int) →
 Calls Try.prog fn_watch_Watch_Add #[.pointer none, .int .i64 (1 : Int), .slice (some ⟨b139, 0, none⟩) 1 1] w140 fun e141 w142 => e141 = .returned (.tuple #[]) ∧
 Calls Try.prog fn_watch_Watch_Drop #[.pointer none, .int .i64 (1 : Int)] w142 fun e143 w144 => ∃ b145 : Bool, e143 = .returned (.bool b145) ∧
 brB (!b145)
 (∀ (b146 : Nat) (w147 : World), b146 = w144.heap.size → w147 = World.alloc w144 (.cells #[.int .i64 (1 : Int)] T_int) →
 Calls Try.prog fn_watch_Watch_Touch #[.pointer none, .slice (some ⟨b146, 0, none⟩) 1 1] w147 fun e148 w149 => ∃ s150 : Sl, e148 = .returned (s150.val) ∧
 Calls Try.prog fn_watch_Watch_Cells #[.pointer none] w149 fun e151 w152 => ∃ s153 : Sl, e151 = .returned (s153.val) ∧
 Calls Try.prog fn_watch_Watch_Of #[.pointer none, .int .i64 (1 : Int)] w152 fun e154 w155 => ∃ s156 : Sl, e154 = .returned (s156.val) ∧
 brB ((wr ((wr ((s150.len : Int) + (s153.len : Int))) + (s156.len : Int))) == (0 : Int))
 (Calls Try.prog fn_hollowaybook_Book_Apart #[.pointer (some ⟨b15, 0, none⟩)] w155 fun e157 w158 => ∃ b159 : Bool, e157 = .returned (.bool b159) ∧
 K (.bool b159) w158)
 (K (.bool false) w155))
 (K (.bool false) w144)))) ∧
 brB (decide ((l_1.len : Int) > (60 : Int)))
 (J3 true w)
 (Calls Try.prog fn_hollowaylaw22_alive #[] w fun e3 w4 => ∃ b5 : Bool, e3 = .returned (.bool b5) ∧
 J3 (!b5) w4)
def hollowaylaw22_WatchPlays_an : An := ⟨[(7, [(8, .int .i64)]), (16, [(13, .sl)]), (20, [(16, .bool), (71, .int .i64)]), (23, [(16, .bool), (78, .int .i64)]), (32, [(99, .int .i64)]), (52, [(24, .sl)])], [(42, (6, .st 0 (.st 1 (.st 2 (.st 3 (.st 4 (.ef 5 .done))))), 1))], [(2, [(36, .bool)]), (26, [(16, .bool)]), (59, [(184, .bool)]), (48, [])]⟩
theorem hollowaylaw22_WatchPlays_lift {l_1 : Sl} {ask2 : Int} {w : World} {K : Value → World → Prop} (h : hollowaylaw22_WatchPlays_sh l_1 ask2 w K) : Calls Try.prog fn_hollowaylaw22_WatchPlays #[l_1.val, .int .i64 ask2] w fun e w' => ∃ v, e = .returned v ∧ K v w' :=
   lift_calls (A := hollowaylaw22_WatchPlays_an) (c := bodyOf Try.f5) (args := [l_1.val, .int .i64 ask2]) orc orc_wide Try.func5 (by kernel_rfl) (by kernel_rfl) (Eq.mp (by kernel_rfl : hollowaylaw22_WatchPlays_sh l_1 ask2 w K = wpc orc Try.f5.ntmps hollowaylaw22_WatchPlays_an (bodyOf Try.f5) (argl 0 [l_1.val, .int .i64 ask2]) w (retQ orc Try.f5.results.toList K)) h)

-- holloway/hollowaylaw22.alive
def hollowaylaw22_alive_sh  (w : World) (K : Value → World → Prop) : Prop :=
 ∀ (b1 : Nat) (w2 : World), b1 = w.heap.size → w2 = World.alloc w (.cells #[.map none] T_watch_Watch) →
 ∀ (b3 : Nat) (w4 : World), b3 = w2.heap.size → w4 = World.alloc w2 (.cells #[.int .i64 (5 : Int), .int .i64 (6 : Int)] T_int) →
 Calls Try.prog fn_watch_Watch_Add #[.pointer (some ⟨b1, 0, none⟩), .int .i64 (5 : Int), .slice (some ⟨b3, 0, none⟩) 2 2] w4 fun e5 w6 => e5 = .returned (.tuple #[]) ∧
 ∀ (b7 : Nat) (w8 : World), b7 = w6.heap.size → w8 = World.alloc w6 (.cells #[.int .i64 (6 : Int), .int .i64 (7 : Int)] T_int) →
 Calls Try.prog fn_watch_Watch_Add #[.pointer (some ⟨b1, 0, none⟩), .int .i64 (9 : Int), .slice (some ⟨b7, 0, none⟩) 2 2] w8 fun e9 w10 => e9 = .returned (.tuple #[]) ∧
 ∀ (b11 : Nat) (w12 : World), b11 = w10.heap.size → w12 = World.alloc w10 (.cells #[.int .i64 (6 : Int)] T_int) →
 Calls Try.prog fn_watch_Watch_Touch #[.pointer (some ⟨b1, 0, none⟩), .slice (some ⟨b11, 0, none⟩) 1 1] w12 fun e13 w14 => ∃ s15 : Sl, e13 = .returned (s15.val) ∧
 brB ((s15.len : Int) == (2 : Int))
 (∃ a16 : Addr, s15.ptr = some a16 ∧ 0 ≤ (0 : Int) ∧ (0 : Int) < (s15.len : Int) ∧
 ∃ n17 : Int, w14.cell? (Addr.add a16 (Int.toNat (0 : Int) * 1)) = some (.int .i64 n17) ∧
 brB (n17 == (5 : Int))
 (∃ a18 : Addr, s15.ptr = some a18 ∧ 0 ≤ (1 : Int) ∧ (1 : Int) < (s15.len : Int) ∧
 ∃ n19 : Int, w14.cell? (Addr.add a18 (Int.toNat (1 : Int) * 1)) = some (.int .i64 n19) ∧
 brB (n19 == (9 : Int))
 (Calls Try.prog fn_watch_Watch_Cells #[.pointer (some ⟨b1, 0, none⟩)] w14 fun e20 w21 => ∃ s22 : Sl, e20 = .returned (s22.val) ∧
 K (.bool ((s22.len : Int) == (0 : Int))) w21)
 (K (.bool false) w14))
 (K (.bool false) w14))
 (K (.bool false) w14)
def hollowaylaw22_alive_an : An := ⟨[], [], []⟩
theorem hollowaylaw22_alive_lift  {w : World} {K : Value → World → Prop} (h : hollowaylaw22_alive_sh  w K) : Calls Try.prog fn_hollowaylaw22_alive #[] w fun e w' => ∃ v, e = .returned v ∧ K v w' :=
   lift_calls (A := hollowaylaw22_alive_an) (c := bodyOf Try.f6) (args := []) orc orc_wide Try.func6 (by kernel_rfl) (by kernel_rfl) (Eq.mp (by kernel_rfl : hollowaylaw22_alive_sh  w K = wpc orc Try.f6.ntmps hollowaylaw22_alive_an (bodyOf Try.f6) (argl 0 []) w (retQ orc Try.f6.results.toList K)) h)

-- holloway/hollowaylaw22.rise
def hollowaylaw22_rise_j1 (I2 : Int → World → Prop) (k6 : Int) (μ2 : Int → World → Nat) (w4 : World) (out7 : Sl) (l_1 : Sl) (i3 : Int) (J7 : Sl → World → Prop) (b15 : Bool) (w14 : World) (_K : Value → World → Prop) : Prop :=
 brB b15
 (I2 (wr (k6 + (1 : Int))) w14 ∧ μ2 (wr (k6 + (1 : Int))) w14 < μ2 k6 w4)
 (∃ J12 : Bool → World → Prop, (∀ (b22 : Bool) (w21 : World), J12 b22 w21 →
 brB b22
 (∀ w23 : World, w23 = World.drew w21 →
 ∃ S24 : World → Prop, S24 w23 ∧
 0 ≤ k6 ∧ k6 ≤ (out7.cap : Int) ∧ 
 ∃ a25 : Addr, l_1.ptr = some a25 ∧ 0 ≤ i3 ∧ i3 < (l_1.len : Int) ∧
 ∃ n26 : Int, held S24 (Addr.add a25 (Int.toNat i3 * 1)) (.int .i64 n26) ∧
 0 ≤ k6 ∧ k6 ≤ (out7.len : Int) ∧ 
 (∃ s27 : Sl, ∃ w28 : World, (Builtin.append_ #[T_sl_int, T_sl_int] T_sl_int #[.slice none 0 0, (Sl.sub out7.ptr out7.cap 0 (Int.toNat k6) 1).val]).run Try.prog w23 = .ok (s27.val) w28 ∧
 S24 w28 ∧
 ∀ (b29 : Nat) (w30 : World), b29 = w28.heap.size → w30 = World.alloc w28 (.cells #[.int .i64 n26] T_int) →
 S24 w30 ∧
 ∃ s31 : Sl, ∃ w32 : World, (Builtin.append_ #[T_sl_int, T_sl_int] T_sl_int #[s27.val, .slice (some ⟨b29, 0, none⟩) 1 1]).run Try.prog w30 = .ok (s31.val) w32 ∧
 S24 w32 ∧
 ∃ s33 : Sl, ∃ w34 : World, (Builtin.append_ #[T_sl_int, T_sl_int] T_sl_int #[s31.val, (Sl.sub out7.ptr out7.cap (Int.toNat k6) out7.len 1).val]).run Try.prog w32 = .ok (s33.val) w34 ∧
 J7 s33 w34) ∧
 (∀ (b35 : Nat) (w36 : World), b35 = w23.heap.size → w36 = World.alloc w23 (.cells #[.int .i64 n26] T_int) →
 S24 w36 ∧
 ∃ s37 : Sl, ∃ w38 : World, (Builtin.append_ #[T_sl_int, T_sl_int] T_sl_int #[.slice none 0 0, (Sl.sub out7.ptr out7.cap 0 (Int.toNat k6) 1).val]).run Try.prog w36 = .ok (s37.val) w38 ∧
 S24 w38 ∧
 ∃ s39 : Sl, ∃ w40 : World, (Builtin.append_ #[T_sl_int, T_sl_int] T_sl_int #[s37.val, .slice (some ⟨b35, 0, none⟩) 1 1]).run Try.prog w38 = .ok (s39.val) w40 ∧
 S24 w40 ∧
 ∃ s41 : Sl, ∃ w42 : World, (Builtin.append_ #[T_sl_int, T_sl_int] T_sl_int #[s39.val, (Sl.sub out7.ptr out7.cap (Int.toNat k6) out7.len 1).val]).run Try.prog w40 = .ok (s41.val) w42 ∧
 J7 s41 w42))
 (J7 out7 w21)) ∧
 ∀ w16 : World, w16 = World.drew w14 →
 brB (k6 == (out7.len : Int))
 (J12 true w16)
 (∃ a17 : Addr, out7.ptr = some a17 ∧ 0 ≤ k6 ∧ k6 < (out7.len : Int) ∧
 ∃ n18 : Int, held (Lw w16) (Addr.add a17 (Int.toNat k6 * 1)) (.int .i64 n18) ∧
 ∃ a19 : Addr, l_1.ptr = some a19 ∧ 0 ≤ i3 ∧ i3 < (l_1.len : Int) ∧
 ∃ n20 : Int, held (Lw w16) (Addr.add a19 (Int.toNat i3 * 1)) (.int .i64 n20) ∧
 J12 (n18 != n20) w16))
def hollowaylaw22_rise_sh (l_1 : Sl) (w : World) (K : Value → World → Prop) : Prop :=
 ∃ (I1 : Sl → Int → World → Prop) (μ1 : Sl → Int → World → Nat), I1 (⟨none, 0, 0⟩ : Sl) (0 : Int) w ∧ ∀ (out7 : Sl) (i3 : Int) (w2 : World), I1 out7 i3 w2 →
 brB (decide (i3 < (l_1.len : Int)))
 (∃ J7 : Sl → World → Prop, (∀ (out44 : Sl) (w43 : World), J7 out44 w43 →
 I1 out44 (wr (i3 + (1 : Int))) w43 ∧ μ1 out44 (wr (i3 + (1 : Int))) w43 < μ1 out7 i3 w2) ∧
 ∃ (I2 : Int → World → Prop) (μ2 : Int → World → Nat), I2 (0 : Int) w2 ∧ ∀ (k6 : Int) (w4 : World), I2 k6 w4 →
 ∀ w5 : World, w5 = World.drew w4 →
 brB (decide (k6 < (out7.len : Int)))
 (∃ a8 : Addr, out7.ptr = some a8 ∧ 0 ≤ k6 ∧ k6 < (out7.len : Int) ∧
 ∃ n9 : Int, held (Lw w5) (Addr.add a8 (Int.toNat k6 * 1)) (.int .i64 n9) ∧
 ∃ a10 : Addr, l_1.ptr = some a10 ∧ 0 ≤ i3 ∧ i3 < (l_1.len : Int) ∧
 ∃ n11 : Int, held (Lw w5) (Addr.add a10 (Int.toNat i3 * 1)) (.int .i64 n11) ∧
 hollowaylaw22_rise_j1 I2 k6 (μ2) w4 out7 l_1 i3 J7 (decide (n9 < n11)) w5 K)
 (hollowaylaw22_rise_j1 I2 k6 (μ2) w4 out7 l_1 i3 J7 false w5 K))
 (K (out7.val) w2)
def hollowaylaw22_rise_an : An := ⟨[(3, [(3, .sl), (4, .int .i64)]), (6, [(5, .int .i64)])], [(6, (15, .st 0 (.st 1 (.st 2 (.st 3 (.st 4 (.st 5 (.st 6 (.st 7 (.st 8 (.st 9 (.st 10 (.st 11 (.st 12 (.st 13 (.st 14 .done)))))))))))))), 0)), (8, (15, .st 0 (.st 1 (.st 2 (.st 3 (.st 4 (.st 5 (.st 6 (.st 7 (.st 8 (.st 9 (.st 10 (.st 11 (.st 12 (.st 13 (.st 14 .done)))))))))))))), 0)), (9, (13, .st 0 (.st 1 (.st 2 (.st 4 (.st 5 (.st 6 (.st 7 (.st 10 (.st 11 (.st 12 (.two 3 (.ef 8 (.ef 9 .done)) 8 (.ef 3 (.ef 9 .done)))))))))))), 1))], [(9, [(43, .bool)]), (4, [(3, .sl)])]⟩
theorem hollowaylaw22_rise_lift {l_1 : Sl} {w : World} {K : Value → World → Prop} (h : hollowaylaw22_rise_sh l_1 w K) : Calls Try.prog fn_hollowaylaw22_rise #[l_1.val] w fun e w' => ∃ v, e = .returned v ∧ K v w' :=
   lift_calls (A := hollowaylaw22_rise_an) (c := bodyOf Try.f12) (args := [l_1.val]) orc orc_wide Try.func12 (by kernel_rfl) (by kernel_rfl) (Eq.mp (by kernel_rfl : hollowaylaw22_rise_sh l_1 w K = wpc orc Try.f12.ntmps hollowaylaw22_rise_an (bodyOf Try.f12) (argl 0 [l_1.val]) w (retQ orc Try.f12.results.toList K)) h)

end Go.Proofs.Ytgffaimgnmfifaa

/- watch: what is touched; the law's own sorting. -/
set_option maxRecDepth 100000
namespace Go.Proofs.Ytgffaimgnmfifaa
open Go.RowKit

/-- What is touched: the starts of which a cell is among these, rising; they are watched no more. -/
def TouchOk (f : Int → Option (List Int)) (cs r : List Int) : Prop := r.Pairwise (· < ·) ∧ ∀ k, k ∈ r ↔ ∃ l, f k = some l ∧ hitB l cs = true
theorem sortI_once {l : List Int} (h : l.Nodup) : (sortI l).Pairwise (· < ·) ∧ ∀ x, x ∈ sortI l ↔ x ∈ l := by
  have hm : ∀ x, x ∈ sortI l ↔ x ∈ l := fun x => List.mem_mergeSort
  refine ⟨?_, hm⟩
  have hp := sortI_le l
  have hn : (sortI l).Nodup := (List.mergeSort_perm l _).nodup_iff.2 h
  have : (sortI l).Pairwise fun a b => a ≤ b ∧ a ≠ b := List.pairwise_and_iff.2 ⟨hp, hn⟩
  exact this.imp fun h => by omega
theorem touch_any {B : Nat → Prop} {w : World} {c n : Nat} {f : Int → Option (List Int)} {s : Sl} {cs : List Int} (h : WA B w c n f) (hB : ∀ k, B k → k < w.heap.size) (hs : Rd intE w s cs) (hl : cs.length ≤ 1000) (hn : n ≤ 1000) :
    Calls Try.prog fn_watch_Watch_Touch #[.pointer (some ⟨c, 0, none⟩), s.val] w fun e w' => ∃ (t : Sl) (r : List Int), e = .returned t.val ∧ Ow intE w' t r ∧ TouchOk f cs r ∧ r.length ≤ n ∧ WA B w' c n (fun q => if q ∈ r then none else f q) ∧ Chg B w w' ∧ ∀ k, t.blk = some k → w.heap.size ≤ k := by
  refine (watch_Watch_Touch_lift (K := fun v w' => ∃ (t : Sl) (r : List Int), v = t.val ∧ Ow intE w' t r ∧ TouchOk f cs r ∧ r.length ≤ n ∧ WA B w' c n (fun q => if q ∈ r then none else f q) ∧ Chg B w w' ∧ ∀ k, t.blk = some k → w.heap.size ≤ k) ?_).mono (by rintro e w' ⟨v, rfl, t, r, rfl, h⟩; exact ⟨t, r, rfl, h⟩)
  unfold watch_Watch_Touch_sh
  have hw0 := h
  obtain ⟨mb, xs, h1, h2, h3, h4, h5⟩ := h
  refine ⟨mb, h1.cell rfl, ?_⟩
  cases mb with
  | none =>
    have hx : xs = [] := h2.mo
    subst hx
    have hf : ∀ k, f k = none := fun k => (h3 k).symm
    obtain ⟨w5, r5, i5, c5, z5⟩ := mn_range mapT w
    refine ⟨_, w5, r5, fun out W => out = nilS ∧ w5 = W, fun _ _ => 0, ⟨rfl, rfl⟩, ?_⟩
    rintro out w6 ⟨rfl, rfl⟩
    refine Or.inl ⟨w5, mn_next i5 _, fun m W => m = 0 ∧ w5 = W, fun _ _ => 0, ⟨rfl, rfl⟩, ?_⟩
    rintro m w24 ⟨rfl, rfl⟩
    refine brB_f' rfl ?_
    refine (sort_any (Ow.nil intE w5) (Nat.zero_le _)).mono ?_
    rintro e w32 ⟨rfl, o32, c32⟩
    have cc : Chg No w w32 := c5.trans c32 (fun _ _ h => h) (fun _ _ h => by cases h)
    have e0 : sortI [] = [] := by simp [sortI]
    rw [e0] at o32
    refine ⟨rfl, nilS, [], rfl, o32, ⟨List.Pairwise.nil, fun k => ⟨(fun h => by cases h), fun ⟨l, hl, _⟩ => by rw [hf k] at hl; cases hl⟩⟩, Nat.zero_le _, ?_, cc.mono (fun _ _ h => h.elim), fun k hk => by cases hk⟩
    have ef : (fun q => if q ∈ ([] : List Int) then none else f q) = f := by funext q; simp
    rw [ef]
    exact hw0.chg cc (fun _ _ h => h)
  | some b =>
    have hm : MR w b xs := h2.mo
    have hbl := hm.lt
    obtain ⟨w5, r5, i5, c5, z5⟩ := mr_range mapT hm
    refine ⟨_, w5, r5, fun out W => ∃ done, IT W w.heap.size b xs done ∧ Ow intE W out ((done.filter fun e => hitB e.l cs).map (·.k)) ∧ Chg No w W ∧ ∀ k, out.blk = some k → w.heap.size < k, fun _ W => xs.length - itN W w.heap.size, ⟨[], i5, Ow.nil _ _, c5, fun k hk => by cases hk⟩, ?_⟩
    rintro out w6 ⟨done, i6, o6, c6, b6⟩
    rcases mr_next i6 T_x with ⟨ha, hnx⟩ | ⟨e, w8, m1, m2, hnx, i8, c8⟩
    · obtain ⟨d1, d2⟩ := i6.all ha
      refine Or.inl ⟨w6, hnx, ?_⟩
      obtain ⟨outs, houts⟩ : ∃ outs, outs = (done.filter fun e => hitB e.l cs).map (·.k) := ⟨_, rfl⟩
      rw [← houts] at o6
      have hol : outs.length ≤ xs.length := by
        rw [houts, List.length_map]; exact Nat.le_trans (List.length_filter_le ..) (Nat.le_of_eq d2)
      have hmem : ∀ k, k ∈ outs ↔ ∃ l, f k = some l ∧ hitB l cs = true := fun k => by
        rw [houts, List.mem_map]
        constructor
        · rintro ⟨e, he, rfl⟩
          obtain ⟨he1, he2⟩ := List.mem_filter.1 he
          refine ⟨e.l, ?_, he2⟩
          rw [← h3 e.k, mgt_mem hm.keys ((d1 e).1 he1)]; rfl
        · rintro ⟨l, hk, hh⟩
          rw [← h3 k] at hk
          obtain ⟨e, he, rfl⟩ := Option.map_eq_some_iff.1 hk
          exact ⟨e, List.mem_filter.2 ⟨(d1 e).2 (mgt_some he).1, hh⟩, (mgt_some he).2⟩
      have hnd : outs.Nodup := by
        have hk2 : (done.map (·.k)).Nodup := by
          have hnn : done.Nodup := (List.pairwise_map.1 i6.once).imp fun h e => h (by rw [e])
          refine List.pairwise_map.2 (hnn.imp_of_mem fun {x y} hx hy hne he => hne ?_)
          have p1 := mgt_mem hm.keys ((d1 x).1 hx)
          have p2 := mgt_mem hm.keys ((d1 y).1 hy)
          rw [he] at p1
          exact Option.some.inj (p1.symm.trans p2)
        rw [houts]
        exact hk2.sublist (List.Sublist.map _ List.filter_sublist)
      have hlen := o6.rd.len
      refine ⟨fun m W => 0 ≤ m ∧ m ≤ outs.length ∧ (∃ ys, MAt B W (some b) ys ∧ Fit ys (fun q => if q ∈ outs.take m.toNat then none else f q) ∧ ys.length ≤ n) ∧ Ob W c [.map (some b)] T_watch_Watch ∧ Ow intE W out outs ∧ Chg B w W, fun m _ => outs.length - m.toNat, ⟨by omega, by omega, ⟨xs, h2.chg c6 (fun _ _ h => h), by simpa using h3, h4⟩, h1.no c6, o6, c6.mono (fun _ _ h => h.elim)⟩, ?_⟩
      rintro m w24 ⟨m0, m1, ⟨ys, my, fy, ly⟩, o24, ow24, c24⟩
      rw [hlen]
      refine brB_of (fun hd => ?_) (fun hd => ?_)
      · have hd := of_decide_eq_true hd
        obtain ⟨x, hx⟩ : ∃ x, outs[m.toNat]? = some x := ⟨_, List.getElem?_eq_getElem (by omega)⟩
        obtain ⟨a, ha2, hcell⟩ := ow24.rd.at hx
        refine ⟨a, ha2, m0, hd, x, ?_, some b, o24.cell rfl, ?_⟩
        · have := hcell 0 _ rfl
          rw [addA0] at this; exact this
        refine ma_delete my x fun w30 m30 c30 => ?_
        rw [wr_of (by omega) (by omega)]
        have c30' : Chg (fun j => j = b) w24 w30 := c30.mono (fun j _ e => (Option.some.inj e).symm)
        refine ⟨⟨by omega, by omega, ⟨_, m30, ?_, Nat.le_trans (List.length_filter_le ..) ly⟩, o24.chg c30' (fun e => mr_ne (show MR w24 b ys from my.mo) o24 e), ow24.chg c30' (fun k hk e => by have := b6 k hk; omega), c24.trans c30' (fun _ _ h => h) (fun k _ e => by rw [show k = b from e]; exact h2.bb b rfl)⟩, by show outs.length - (m + 1).toNat < outs.length - m.toNat; omega⟩
        have := fit_del fy x
        have et : outs.take (m + 1).toNat = outs.take m.toNat ++ [x] := by
          rw [show (m + 1).toNat = m.toNat + 1 by omega, List.take_add_one, hx]; rfl
        rw [et]
        refine fun q => (this q).trans ?_
        show (if q = x then none else if q ∈ outs.take m.toNat then none else f q) = if q ∈ outs.take m.toNat ++ [x] then none else f q
        by_cases h1 : q = x
        · simp [h1]
        · by_cases h2 : q ∈ outs.take m.toNat <;> simp [h1, h2]
      · have hd := of_decide_eq_false hd
        have et : outs.take m.toNat = outs := List.take_of_length_le (by omega)
        rw [et] at fy
        refine (sort_any ow24 (by omega)).mono ?_
        rintro e w32 ⟨rfl, o32, c32⟩
        obtain ⟨s1, s2⟩ := sortI_once hnd
        have hnb : ∀ k, B k → ¬ out.blk = some k := fun k hk e => by
          have := b6 k e
          have := hB k hk
          omega
        have eq : (fun q => if q ∈ sortI outs then none else f q) = fun q => if q ∈ outs then none else f q := by
          funext q
          by_cases hq : q ∈ outs
          · rw [if_pos hq, if_pos ((s2 q).2 hq)]
          · rw [if_neg hq, if_neg (fun h => hq ((s2 q).1 h))]
        refine ⟨rfl, out, sortI outs, rfl, o32, ⟨s1, fun k => (s2 k).trans (hmem k)⟩, by rw [sortI_len]; omega, ?_, c24.trans c32 (fun _ _ h => h) (fun k hk e => by have := b6 k e; omega), fun k hk => Nat.le_of_lt (b6 k hk)⟩
        rw [eq]
        exact ⟨some b, ys, o24.chg c32 (hnb c h5), my.chg c32 hnb, fy, ly, h5⟩
    · refine Or.inr ⟨_, _, w8, hnx, e.k, e.v, w8, mr_entry i8, ?_⟩
      have c8' : Chg No w w8 := c6.trans c8 (fun _ _ h => h) (fun k hk e => by omega)
      obtain ⟨e1, e2, e3, e4⟩ := h2.el e m1
      have hlt := i6.more m1 m2
      refine (made_any (e1.no c8') (by omega) (e2.imp fun h => by omega) (hs.no c8') (by omega)).mono ?_
      rintro e' w15 ⟨rfl, c15⟩
      have i15 := i8.chg c15 (fun h => h) (fun h => h)
      have o15 : Ow intE w15 out ((done.filter fun e => hitB e.l cs).map (·.k)) := (o6.chg c8 (fun k hk e => by have := b6 k hk; omega)).no c15
      have c15' : Chg No w w15 := c8'.trans c15 (fun _ _ h => h) (fun _ _ h => h)
      have hdl : ((done.filter fun e => hitB e.l cs).map (·.k)).length ≤ 1000 := by
        rw [List.length_map]
        have := List.length_filter_le (fun e : Et => hitB e.l cs) done
        omega
      refine ⟨_, rfl, brB_of (fun hh => ?_) (fun hh => ?_)⟩
      · intro b18 w19 hb18 hw19
        have c19 : Chg No w15 w19 := al hw19
        have hlit : Ow intE w19 ⟨some ⟨b18, 0, none⟩, 1, 1⟩ [e.k] := by rw [hw19, hb18]; exact Ow.lit w15 [e.k] [.int .i64 e.k] rfl (by unfold maxLen; simp)
        refine app_ok intOk rfl rfl (o15.no c19) hlit.rd (by show (_ + 1) * 8 ≤ _; omega) (by show _ + 1 ≤ _; unfold maxLen; omega) ?_
        intro s20 w21 o21 c21 b21
        have hsz : w.heap.size < w15.heap.size := Nat.lt_of_lt_of_le i8.lt.1 c15.size
        have i21 := (i15.chg c19 (fun h => h) (fun h => h)).chg c21 (fun h => by have := b6 _ h; omega) (fun h => by have := b6 _ h; omega)
        refine ⟨⟨_, i21, ?_, (c15'.trans c19 (U := No) (fun _ _ h => h) (fun _ _ h => h)).trans c21 (fun _ _ h => h) (fun k hk h => by have := b6 _ h; omega), fun k hk => ?_⟩, ?_⟩
        · rw [List.filter_append, List.map_append, List.filter_cons, if_pos hh]; exact o21
        · rcases b21 with h | h
          · exact b6 k (h ▸ hk)
          · have := Option.some.inj (h.symm.trans hk)
            have := c19.size; omega
        · show xs.length - itN w21 w.heap.size < xs.length - itN w6 w.heap.size
          rw [i21.cnt, i6.cnt, List.length_append, List.length_singleton]; omega
      · refine ⟨⟨_, i15, ?_, c15', b6⟩, ?_⟩
        · rw [List.filter_append, List.map_append, List.filter_cons, if_neg (by rw [hh]; decide)]
          simpa using o15
        · show xs.length - itN w15 w.heap.size < xs.length - itN w6 w.heap.size
          rw [i15.cnt, i6.cnt, List.length_append, List.length_singleton]; omega
end Go.Proofs.Ytgffaimgnmfifaa
