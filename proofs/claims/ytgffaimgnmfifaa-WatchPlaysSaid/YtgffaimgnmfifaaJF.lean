/- Maps; taking away what is known: the plain law, the package forward. -/
import Derived.Test.YtgffaimgnmfifaaJ2
import Derived.WideKeyRuns

/- Maps in memory, over any program: what they say, behind updates too. -/
set_option maxRecDepth 100000
namespace Go.Proofs.Ytgffaimgnmfifaa
open Go.RowKit

theorem gObj {P : Program} {w : World} {r : Nat} {es : Array MapEntry} {clock : Nat} (hb : w.heap[r]? = some (.map es clock)) : (getObj r).run P w = .ok (.map es clock) w := by
  simp [getObj, Sem.run, hb]
theorem sObj {P : Program} {w : World} {r : Nat} {es : Array MapEntry} {clock : Nat} (o : Obj) (hb : w.heap[r]? = some (.map es clock)) : (setObj r o).run P w = .ok () { w with heap := w.heap.setIfInBounds r o } := by
  simp [setObj, Sem.run, hb]
theorem hpSet {w : World} {r : Nat} {o o' : Obj} (hb : w.heap[r]? = some o) : (w.heap.setIfInBounds r o')[r]? = some o' ∧ ∀ r', r' ≠ r → (w.heap.setIfInBounds r o')[r']? = w.heap[r']? := by
  have hlt : r < w.heap.size := (Array.getElem?_eq_some_iff.1 hb).1
  exact ⟨by simp [hlt], fun r' hne => by simp [Ne.symm hne]⟩
section
variable {P : Program} {κ ν : Type} [DecidableEq κ]
def ixK (ks : List κ) (k : κ) : Option Nat := ks.findIdx? fun a => decide (a = k)
theorem ixK_nil (k : κ) : ixK [] k = none := rfl
theorem ixK_cons (a : κ) (ks : List κ) (k : κ) : ixK (a :: ks) k = if a = k then some 0 else (ixK ks k).map (· + 1) := by
  unfold ixK; rw [List.findIdx?_cons]
  by_cases h : a = k
  · rw [if_pos h, if_pos (decide_eq_true h)]
  · rw [if_neg h, if_neg (by simpa using h)]
def gtK (xs : List (κ × ν)) (k : κ) : Option ν := (xs.find? fun p => decide (p.1 = k)).map (·.2)
theorem gtK_nil (k : κ) : gtK ([] : List (κ × ν)) k = none := rfl
theorem gtK_cons (a : κ × ν) (xs : List (κ × ν)) (k : κ) : gtK (a :: xs) k = if a.1 = k then some a.2 else gtK xs k := by
  unfold gtK; rw [List.find?_cons]
  by_cases h : a.1 = k
  · rw [if_pos h, decide_eq_true h]; rfl
  · rw [if_neg h, decide_eq_false h]
theorem ix_gt : ∀ (xs : List (κ × ν)) (k : κ), (ixK (xs.map (·.1)) k = none ∧ gtK xs k = none) ∨ ∃ j v, ixK (xs.map (·.1)) k = some j ∧ gtK xs k = some v ∧ xs[j]? = some (k, v)
  | [], k => Or.inl ⟨rfl, rfl⟩
  | a :: xs, k => by
    rw [List.map_cons, ixK_cons, gtK_cons]
    by_cases h : a.1 = k
    · rw [if_pos h, if_pos h]
      exact Or.inr ⟨0, a.2, rfl, rfl, by subst h; rfl⟩
    · rw [if_neg h, if_neg h]
      rcases ix_gt xs k with ⟨h1, h2⟩ | ⟨j, v, h1, h2, h3⟩
      · exact Or.inl ⟨by rw [h1]; rfl, h2⟩
      · exact Or.inr ⟨j + 1, v, by rw [h1]; rfl, h2, h3⟩
theorem gt_set : ∀ (xs : List (κ × ν)) (k : κ) (v : ν) (j : Nat), ixK (xs.map (·.1)) k = some j → ∀ q, gtK (xs.set j (k, v)) q = if q = k then some v else gtK xs q
  | [], k, v, j, h, q => by cases h
  | a :: xs, k, v, j, h, q => by
    rw [List.map_cons, ixK_cons] at h
    by_cases ha : a.1 = k
    · rw [if_pos ha] at h
      cases h
      rw [List.set_cons_zero, gtK_cons, gtK_cons]
      by_cases hq : q = k
      · rw [if_pos hq, if_pos hq.symm]
      · rw [if_neg hq, if_neg (fun e => hq e.symm), if_neg (fun e => hq (by rw [← e, ha]))]
    · rw [if_neg ha] at h
      obtain ⟨i, hi, rfl⟩ := Option.map_eq_some_iff.1 h
      rw [List.set_cons_succ, gtK_cons, gtK_cons, gt_set xs k v i hi q]
      by_cases hq : q = k
      · rw [if_pos hq, if_neg (fun e => ha (by rw [e, hq])), if_pos hq]
      · rw [if_neg hq, if_neg hq]
theorem gt_new : ∀ (xs : List (κ × ν)) (k : κ) (v : ν), ixK (xs.map (·.1)) k = none → ∀ q, gtK (xs ++ [(k, v)]) q = if q = k then some v else gtK xs q
  | [], k, v, _, q => by
    show gtK [(k, v)] q = _
    rw [gtK_cons]
    by_cases hq : q = k
    · rw [if_pos hq, if_pos hq.symm]
    · rw [if_neg hq, if_neg (fun e => hq e.symm)]
  | a :: xs, k, v, h, q => by
    rw [List.map_cons, ixK_cons] at h
    by_cases ha : a.1 = k
    · rw [if_pos ha] at h; cases h
    · rw [if_neg ha] at h
      have hn : ixK (xs.map (·.1)) k = none := by
        cases hh : ixK (xs.map (·.1)) k with
        | none => rfl
        | some j => rw [hh] at h; cases h
      rw [List.cons_append, gtK_cons, gtK_cons, gt_new xs k v hn q]
      by_cases hq : q = k
      · rw [if_pos hq, if_neg (fun e => ha (by rw [e, hq])), if_pos hq]
      · rw [if_neg hq, if_neg hq]
/-- What is asked of a kind of keys. -/
structure KeyOk (P : Program) (kt : TypeId) (eK : κ → Value) : Prop where
  find : ∀ (w : World) (es : List MapEntry) (ks : List κ) (k : κ), es.map (·.key) = ks.map eK → (Instr.findKey kt (eK k) es).run P w = .ok ((ixK ks k).bind fun j => (es[j]?).map fun e => (j, e.val)) w
  check : ∀ (w : World) (b : Bool) (k : κ), (Instr.checkKey b 10000 kt (eK k)).run P w = .ok () w
  same : ∀ k : κ, Instr.sameBits 10000 (eK k) (eK k) = true
/-- Block b is a map that says f. -/
def MpIs (eK : κ → Value) (eV : ν → Value) (w : World) (b : Nat) (f : κ → Option ν) : Prop :=
  ∃ (es : Array MapEntry) (clock : Nat) (xs : List (κ × ν)), w.heap[b]? = some (.map es clock) ∧ es.toList.map (·.key) = (xs.map (·.1)).map eK ∧ es.toList.map (·.val) = (xs.map (·.2)).map eV ∧ ∀ k, f k = gtK xs k
variable {eK : κ → Value} {eV : ν → Value} {w : World} {b : Nat} {f : κ → Option ν}
theorem MpIs.chg {S : Nat → Prop} {w' : World} (h : MpIs eK eV w b f) (c : Chg S w w') (hS : ¬ S b) : MpIs eK eV w' b f := by
  obtain ⟨es, clock, xs, h1, h2⟩ := h
  exact ⟨es, clock, xs, c.row h1 hS, h2⟩
theorem MpIs.no {w' : World} (h : MpIs eK eV w b f) (c : Chg No w w') : MpIs eK eV w' b f := h.chg c (fun h => h)
theorem MpIs.lt (h : MpIs eK eV w b f) : b < w.heap.size := by
  obtain ⟨es, clock, xs, h1, _⟩ := h
  exact (Array.getElem?_eq_some_iff.1 h1).1
theorem MpIs.new (eK : κ → Value) (eV : ν → Value) {w' : World} (hb : b = w.heap.size) (hw : w' = World.alloc w (.map #[] 0)) : MpIs eK eV w' b fun _ => none := by
  subst hb hw
  exact ⟨#[], 0, [], heap_alloc_new w _, rfl, rfl, fun k => rfl⟩
omit [DecidableEq κ] in
theorem es_at {es : Array MapEntry} {xs : List (κ × ν)} (h1 : es.toList.map (·.key) = (xs.map (·.1)).map eK) (h2 : es.toList.map (·.val) = (xs.map (·.2)).map eV) {j : Nat} {k : κ} {v : ν} (hx : xs[j]? = some (k, v)) : ∃ e, es.toList[j]? = some e ∧ e.key = eK k ∧ e.val = eV v := by
  have a1 : (es.toList.map (·.key))[j]? = some (eK k) := by rw [h1]; simp [hx]
  have a2 : (es.toList.map (·.val))[j]? = some (eV v) := by rw [h2]; simp [hx]
  rw [List.getElem?_map] at a1 a2
  obtain ⟨e, he, hk⟩ := Option.map_eq_some_iff.1 a1
  rw [he] at a2
  exact ⟨e, he, hk, by simpa using a2⟩
theorem mp_lookup {T kt et : TypeId} (hT : P.underlying T = some (.map kt et)) (ok : KeyOk P kt eK) {z : ν} (hz : ∀ w, (zeroValue et).run P w = .ok (eV z) w) (h : MpIs eK eV w b f) (k : κ) (two : Bool) :
    (Instr.lookup T (.map (some b)) (eK k) two).run P w = .ok (if two = true then .tuple #[eV ((f k).getD z), .bool (f k).isSome] else eV ((f k).getD z)) w := by
  obtain ⟨es, clock, xs, h1, h2, h3, h4⟩ := h
  have hf := ok.find w es.toList (xs.map (·.1)) k h2
  unfold Instr.lookup
  simp only [Sem.run_bind, run_underlying hT, Result.andThen_ok, gObj h1, Sem.run_pure, ok.check, hf]
  rw [h4 k]
  rcases ix_gt xs k with ⟨g1, g2⟩ | ⟨j, v, g1, g2, g3⟩
  · rw [g1, g2]
    simp only [Option.bind_none, Sem.run_bind, hz, Result.andThen_ok, Sem.run_pure]
    rfl
  · obtain ⟨e, e1, e2, e3⟩ := es_at h2 h3 g3
    rw [g1, g2]
    simp only [Option.bind_some, e1, Option.map_some, Sem.run_pure, Result.andThen_ok, e3]
    rfl
theorem mp_update {T kt et : TypeId} (hT : P.underlying T = some (.map kt et)) (ok : KeyOk P kt eK) (h : MpIs eK eV w b f) (k : κ) (v : ν) :
    ∃ w', (Instr.mapUpdate T (.map (some b)) (eK k) (eV v)).run P w = .ok () w' ∧ MpIs eK eV w' b (fun q => if q = k then some v else f q) ∧ Chg (fun j => j = b) w w' := by
  obtain ⟨es, clock, xs, h1, h2, h3, h4⟩ := h
  have hf := ok.find w es.toList (xs.map (·.1)) k h2
  have hset : ∀ o, Chg (fun j => j = b) w { w with heap := w.heap.setIfInBounds b o } := fun o => ⟨rfl, rfl, rfl, by simp, fun q _ hq => (hpSet h1).2 q hq⟩
  unfold Instr.mapUpdate
  simp only [Sem.run_bind, run_underlying hT, Result.andThen_ok, gObj h1, Sem.run_pure, ok.check, hf]
  rcases ix_gt xs k with ⟨g1, g2⟩ | ⟨j, u, g1, g2, g3⟩
  · rw [g1]
    simp only [Option.bind_none]
    refine ⟨_, sObj _ h1, ⟨_, _, xs ++ [(k, v)], (hpSet h1).1, by simp [h2], by simp [h3], fun q => ?_⟩, hset _⟩
    rw [gt_new xs k v g1 q]; dsimp only; rw [h4 q]
  · obtain ⟨e, e1, e2, e3⟩ := es_at h2 h3 g3
    rw [g1]
    have e1' : es[j]? = some e := by simpa using e1
    have hks : (Instr.keyThatStays (((es[j]?).map (·.key)).getD (eK k)) (eK k)).run P w = .ok (eK k) w := by
      rw [e1']
      simp only [Option.map_some, Option.getD_some, e2]
      unfold Instr.keyThatStays
      rw [ok.same k]; rfl
    simp only [Option.bind_some, e1, Option.map_some, Sem.run_bind, hks, Result.andThen_ok]
    have hmod : (es.modify j fun e => { e with key := eK k, val := eV v }).toList = es.toList.set j { e with key := eK k, val := eV v } := by
      apply List.ext_getElem?
      intro q
      rw [List.getElem?_set]
      have hlt : j < es.toList.length := (List.getElem?_eq_some_iff.1 e1).1
      by_cases hq : j = q
      · subst hq
        rw [if_pos rfl, if_pos hlt]
        have : j < es.size := by simpa using hlt
        have hej : es[j] = e := by
          have := (Array.getElem?_eq_some_iff.1 e1').2; exact this
        simp [Array.getElem?_modify, this, hej]
      · rw [if_neg hq]
        simp [Array.getElem?_modify, hq]
    refine ⟨_, sObj _ h1, ⟨_, _, xs.set j (k, v), (hpSet h1).1, ?_, ?_, fun q => ?_⟩, hset _⟩
    · rw [hmod, List.map_set, h2, List.map_set, List.map_set]
    · rw [hmod, List.map_set, h3, List.map_set, List.map_set]
    · rw [gt_set xs k v j g1 q]; dsimp only; rw [h4 q]
theorem mp_clear {T kt et ty : TypeId} (hT : P.underlying T = some (.map kt et)) (h : MpIs eK eV w b f) :
    ∃ w', (Builtin.clear_ #[T] ty #[.map (some b)]).run P w = .ok (.tuple #[]) w' ∧ MpIs eK eV w' b (fun _ => none) ∧ Chg (fun j => j = b) w w' := by
  obtain ⟨es, clock, xs, h1, h2, h3, h4⟩ := h
  refine ⟨{ w with heap := w.heap.setIfInBounds b (.map #[] clock) }, ?_, ⟨#[], clock, [], (hpSet h1).1, rfl, rfl, fun k => rfl⟩, ⟨rfl, rfl, rfl, by simp, fun q _ hq => (hpSet h1).2 q hq⟩⟩
  unfold Builtin.clear_
  simp only [Sem.run_bind]
  have e1 : (#[T] : Array TypeId)[0]? = some T := rfl
  have e2 : (#[Value.map (some b)] : Array Value)[0]? = some (.map (some b)) := rfl
  rw [e1, e2]
  simp only [Sem.run_bind, run_underlying hT, Result.andThen_ok, gObj h1, sObj _ h1, Sem.run_pure]
end
/-! ### Keys: numbers, pairs of numbers -/
section
variable {P : Program}
def ekI (k : Int) : Value := .int .i64 k
def ekP (k : Int × Int) : Value := .agg #[.int .i64 k.1, .int .i64 k.2]
theorem findNow_ints (k : Int) : ∀ (es : List MapEntry) (ks : List Int) (i : Nat), es.map (·.key) = ks.map ekI → Instr.findNow (.int .i64) (ekI k) es i = some ((ixK ks k).bind fun j => (es[j]?).map fun e => (i + j, e.val))
  | [], [], i, _ => rfl
  | [], _ :: _, i, h => by simp at h
  | _ :: _, [], i, h => by simp at h
  | e :: es, a :: ks, i, h => by
    simp only [List.map_cons, List.cons.injEq] at h
    rw [ixK_cons]
    unfold Instr.findNow
    rw [h.1]
    by_cases ha : a = k
    · rw [if_pos ha]
      have : Instr.sameNow (.int .i64) (ekI k) (ekI a) = some true := by simp [Instr.sameNow, ekI, ha]
      rw [this]; rfl
    · rw [if_neg ha]
      have : Instr.sameNow (.int .i64) (ekI k) (ekI a) = some false := by
        simp only [Instr.sameNow, ekI, if_true]
        congr 1
        simpa using fun e => ha e.symm
      rw [this]
      show Instr.findNow _ _ es (i + 1) = _
      rw [findNow_ints k es ks (i + 1) h.2]
      cases ixK ks k with
      | none => rfl
      | some j => simp [Nat.add_assoc, Nat.add_comm 1 j]
theorem ints_keyOk {kt : TypeId} (hk : P.underlying kt = some (.int .i64)) : KeyOk P kt ekI := by
  refine ⟨fun w es ks k h => ?_, fun w b k => ?_, fun k => ?_⟩
  · have := findNow_ints k es ks 0 h
    simp only [Nat.zero_add] at this
    simp [Instr.findKey, run_underlying hk, Result.andThen, this]
  · unfold Instr.checkKey
    simp only [Sem.run_bind, run_underlying hk, Result.andThen_ok, ekI, Sem.run_pure]
  · simp [Instr.sameBits, ekI]
theorem findAsking_pairs {kt : TypeId} (heq : ∀ (w : World) (a c : Int × Int), (Op.equal kt (ekP a) (ekP c)).run P w = .ok (decide (a = c)) w) (w : World) (k : Int × Int) : ∀ (es : List MapEntry) (ks : List (Int × Int)) (i : Nat), es.map (·.key) = ks.map ekP → (Instr.findAsking kt (ekP k) es i).run P w = .ok ((ixK ks k).bind fun j => (es[j]?).map fun e => (i + j, e.val)) w
  | [], [], i, _ => by simp [Instr.findAsking, ixK_nil, Sem.run_pure]
  | [], _ :: _, i, h => by simp at h
  | _ :: _, [], i, h => by simp at h
  | e :: es, a :: ks, i, h => by
    simp only [List.map_cons, List.cons.injEq] at h
    rw [ixK_cons]
    unfold Instr.findAsking
    rw [h.1]
    simp only [Sem.run_bind, heq, Result.andThen_ok]
    by_cases ha : a = k
    · rw [if_pos ha, if_pos (by simpa using ha.symm)]; rfl
    · rw [if_neg ha, if_neg (by simpa using fun e => ha e.symm)]
      rw [findAsking_pairs heq w k es ks (i + 1) h.2]
      cases ixK ks k with
      | none => rfl
      | some j => simp [Nat.add_assoc, Nat.add_comm 1 j]
theorem equal_pairs {kt e : TypeId} {i : TypeInfo} (hk : P.underlying kt = some (.array 2 e)) (he : P.underlying e = some (.int .i64)) (hi : P.info? e = some i) (hc : P.cellsOf e = 1) (hagg : ∀ w, (isAgg e).run P w = .ok false w) (w : World) (a c : Int × Int) : (Op.equal kt (ekP a) (ekP c)).run P w = .ok (decide (a = c)) w := by
  have hp0 : ∀ (x y : Value) (w : World), (part e #[x, y] 0).run P w = .ok x w := fun x y w => by simp [part, Sem.run_bind, hagg, Result.andThen_ok, Sem.run_pure]
  have hp1 : ∀ (x y : Value) (w : World), (part e #[x, y] 1).run P w = .ok y w := fun x y w => by simp [part, Sem.run_bind, hagg, Result.andThen_ok, Sem.run_pure]
  have heq : ∀ (d : Nat) (x y : Int) (w : World), (Op.equalIn (d + 1) e (.int .i64 x) (.int .i64 y)).run P w = .ok (x == y) w := fun d x y w => by
    unfold Op.equalIn
    simp only [Sem.run_bind, run_underlying he, Result.andThen_ok, if_true, Sem.run_pure]
  unfold Op.equal
  have hm : Op.maxDepth = 9998 + 1 + 1 := rfl
  rw [hm, ekP, ekP, run_equalIn_array w (9998 + 1) _ _ hk hi, hc]
  show (Op.eqItems (9998 + 1) e 1 _ _ [0, 1]).run P w = _
  obtain ⟨a1, a2⟩ := a
  obtain ⟨c1, c2⟩ := c
  have e0 : (0 * 1 : Nat) = 0 := rfl
  have e1 : (1 * 1 : Nat) = 1 := rfl
  unfold Op.eqItems
  rw [e0]
  simp only [Sem.run_bind, hp0, Result.andThen_ok, heq]
  by_cases h1 : a1 = c1
  · subst h1
    have hb : (a1 == a1) = true := by simp
    rw [hb]
    simp only [Bool.not_true, Bool.false_eq_true, if_false]
    unfold Op.eqItems
    rw [e1]
    simp only [Sem.run_bind, hp1, Result.andThen_ok, heq]
    by_cases h2 : a2 = c2
    · subst h2
      have hb : (a2 == a2) = true := by simp
      rw [hb]
      simp [Op.eqItems, Sem.run_pure]
    · have hb : (a2 == c2) = false := by simpa using h2
      rw [hb]
      simp [Sem.run_pure, h2]
  · have hb : (a1 == c1) = false := by simpa using h1
    rw [hb]
    simp [Sem.run_pure, h1]
theorem pairs_keyOk {kt e : TypeId} {i : TypeInfo} (hk : P.underlying kt = some (.array 2 e)) (he : P.underlying e = some (.int .i64)) (hi : P.info? e = some i) (hc : P.cellsOf e = 1) (hagg : ∀ w, (isAgg e).run P w = .ok false w) (hck : ∀ (w : World) (b : Bool) (k : Int × Int), (Instr.checkKey b 10000 kt (ekP k)).run P w = .ok () w) : KeyOk P kt ekP := by
  refine ⟨fun w es ks k h => ?_, hck, fun k => ?_⟩
  · rw [run_findKey_eq w (by rw [hk])]
    have := findAsking_pairs (fun w a c => equal_pairs hk he hi hc hagg w a c) w k es ks 0 h
    simp only [Nat.zero_add] at this
    exact this
  · simp [Instr.sameBits, ekP]
end
end Go.Proofs.Ytgffaimgnmfifaa
