/- The walk of ForwardLoads. -/
import Derived.Test.YtblmoilneiffgaaJF
import Derived.Test.YtblmoilneiffgaaJ7

/- Traces of loads and stores of few places. No program in sight. -/
set_option maxRecDepth 100000
namespace Go.Proofs.Ytblmoilneiffgaa
open Go.RowKit

theorem and3 (a : Int) : 0 ≤ iand .i64 a 3 ∧ iand .i64 a 3 ≤ 3 := by
  have h : ((BitVec.ofInt 64 a &&& BitVec.ofInt 64 3).toNat : Int) = ((BitVec.ofInt 64 a).toNat % 4 : Nat) := by
    rw [BitVec.toNat_and]
    have e : (BitVec.ofInt 64 3).toNat = 2 ^ 2 - 1 := by decide
    rw [e, Nat.and_two_pow_sub_one_eq_mod]
  unfold iand
  rw [show IntKind.bits .i64 = 64 from rfl, h, IntKind.wrap_i64]
  omega
/-- The four places, a load, a store. -/
def FlI (k : Nat) (i : In5) : Prop := (k < 4 ∧ ∃ j : Int, (0 ≤ j ∧ j ≤ 3) ∧ i = ⟨2, j, 0, 0, 0⟩) ∨ (4 ≤ k ∧ ((∃ b : Int, (0 ≤ b ∧ b ≤ 3) ∧ i = ⟨5, 0, b, 0, 0⟩) ∨ ∃ b c : Int, (0 ≤ b ∧ b ≤ 3) ∧ (0 ≤ c ∧ c ≤ 3) ∧ i = ⟨6, 0, b, c, 0⟩))
def FlL (l : List In5) : Prop := ∀ (k : Nat) (i : In5), l[k]? = some i → FlI k i
theorem FlL.snoc {l : List In5} (h : FlL l) {i : In5} (hi : FlI l.length i) : FlL (l ++ [i]) := fun k j hj => by
  by_cases hk : k < l.length
  · rw [List.getElem?_append_left hk] at hj; exact h k j hj
  · have hk2 : k = l.length := by have := (List.getElem?_eq_some_iff.1 hj).1; simp at this; omega
    subst hk2
    rw [List.getElem?_append_right (Nat.le_refl _), Nat.sub_self] at hj
    cases hj; exact hi
/-- Places of loads. -/
def LdL (l : List In5) (ps : List Int) : Prop := ∀ p ∈ ps, 0 ≤ p ∧ p < l.length ∧ (atL l p).a = 5
theorem LdL.more {l : List In5} {ps : List Int} (h : LdL l ps) (i : In5) : LdL (l ++ [i]) ps := fun p hp => by
  obtain ⟨a, b, c⟩ := h p hp
  exact ⟨a, by rw [List.length_append]; omega, by rw [atL_app _ a b]; exact c⟩
def flT (l : List In5) (ps : List Int) : TrG := ⟨5, 4, 0, 20, 0, l, [⟨7, 0, [0], []⟩, ⟨8, 2, [], []⟩, ⟨9, 3, ps, []⟩], 2, []⟩
theorem fl_slot {l : List In5} (h : FlL l) (h4 : 4 ≤ l.length) {p : Int} (h0 : 0 ≤ p) (h1 : p ≤ 3) : givesV (atL l p).a = true := by
  obtain ⟨i, hi⟩ : ∃ i, l[p.toNat]? = some i := ⟨_, List.getElem?_eq_getElem (by omega)⟩
  have e : atL l p = i := by
    have := atL_get hi
    rw [show ((p.toNat : Nat) : Int) = p by omega] at this; exact this
  rw [e]
  rcases h _ i hi with ⟨_, j, _, rfl⟩ | ⟨h5, _⟩
  · rfl
  · omega
theorem flT_right {l : List In5} {ps : List Int} (h : FlL l) (h4 : 4 ≤ l.length) (h1 : l.length ≤ 1000) (hp : LdL l ps) (h20 : ps.length ≤ 20) : RightV (flT l ps) := by
  have slot : ∀ (k : Nat) (qs : List Int), 4 ≤ k → (∀ q ∈ qs, 0 ≤ q ∧ q ≤ 3) → NamedV (flT l ps) qs k := fun k qs hk hq q hqq => by
    obtain ⟨a, b⟩ := hq q hqq
    exact ⟨a, by omega, fl_slot h h4 a b⟩
  have ex0 : ∀ k : Nat, 4 ≤ k → OutV (flT l ps) 0 k := fun k hk => ⟨Int.le_refl _, by show (0 : Int) < ((3 : Nat) : Int); decide, slot k [0] hk (fun q hq => by simp at hq; omega), fun q hq => by cases hq⟩
  refine ⟨⟨h1, by show 3 ≤ 300; decide, by show (0 : Int) ≤ 5 ∧ (5 : Int) ≤ 2999; decide, by show (0 : Int) ≤ 4 ∧ (4 : Int) ≤ 48; decide, by show (0 : Int) ≤ 20 ∧ (20 : Int) ≤ 48; decide, by show (0 : Int) ≤ 0 ∧ (0 : Int) ≤ 48; decide, by show (0 : Int) ≤ 0 ∧ (0 : Int) ≤ 48; decide⟩, fun k i hi => ?_, fun k o ho => ?_, fun k c hc => by simp [flT] at hc, ?_, by show (1 : Int) ≤ 3; decide⟩
  · have hi : l[k]? = some i := hi
    have hlt : k < l.length := (List.getElem?_eq_some_iff.1 hi).1
    rcases h k i hi with ⟨_, j, hj, rfl⟩ | ⟨hk, ⟨b, hb, rfl⟩ | ⟨b, c, hb, hc, rfl⟩⟩
    · refine ⟨by show (1 : Int) ≤ 2 ∧ (2 : Int) ≤ 12; decide, (fun h => by cases h), fun _ => ?_, (fun h => by cases h), fun q hq => ?_, fun x hx => ?_⟩
      · show 0 ≤ j ∧ j ≤ (4 : Int) - 1; omega
      · exact absurd hq (by simp [usesV])
      · exact absurd hx (by simp [outsV])
    · refine ⟨by show (1 : Int) ≤ 5 ∧ (5 : Int) ≤ 12; decide, (fun h => by cases h), (fun h => by cases h), (fun h => by cases h), ?_, fun x hx => ?_⟩
      · refine slot k _ hk (fun q hq => ?_)
        have : q = b := by simpa [usesV] using hq
        omega
      · have : x = 0 := by simpa [outsV] using hx
        subst this; exact ex0 k hk
    · refine ⟨by show (1 : Int) ≤ 6 ∧ (6 : Int) ≤ 12; decide, (fun h => by cases h), (fun h => by cases h), (fun h => by cases h), ?_, fun x hx => ?_⟩
      · refine slot k _ hk (fun q hq => ?_)
        have : q = b ∨ q = c := by simpa [usesV] using hq
        omega
      · have : x = 0 := by simpa [outsV] using hx
        subst this; exact ex0 k hk
  · match k, ho with
    | 0, ho =>
      have : o = ⟨7, 0, [0], []⟩ := by simpa [flT] using ho.symm
      subst this
      exact ⟨by show (0 : Int) ≤ 0 ∧ (0 : Int) ≤ 120; decide, by show (0 : Int) ≤ 7 ∧ (7 : Int) ≤ 2999; decide, by show ((1 : Nat) : Int) ≤ 4 + 20; decide, by show ((0 : Nat) : Int) ≤ 0 + 0; decide⟩
    | 1, ho =>
      have : o = ⟨8, 2, [], []⟩ := by simpa [flT] using ho.symm
      subst this
      exact ⟨by show (0 : Int) ≤ 2 ∧ (2 : Int) ≤ 120; decide, by show (0 : Int) ≤ 8 ∧ (8 : Int) ≤ 2999; decide, by show ((0 : Nat) : Int) ≤ 4 + 20; decide, by show ((0 : Nat) : Int) ≤ 0 + 0; decide⟩
    | 2, ho =>
      have : o = ⟨9, 3, ps, []⟩ := by simpa [flT] using ho.symm
      subst this
      exact ⟨by show (0 : Int) ≤ 3 ∧ (3 : Int) ≤ 120; decide, by show (0 : Int) ≤ 9 ∧ (9 : Int) ≤ 2999; decide, by show (ps.length : Int) ≤ 4 + 20; omega, by show ((0 : Nat) : Int) ≤ 0 + 0; decide⟩
    | k + 3, ho => simp [flT] at ho
  · refine ⟨by show (0 : Int) ≤ 2; decide, by show (2 : Int) < ((3 : Nat) : Int); decide, fun p hpp => ?_, fun p hpp => by cases hpp⟩
    obtain ⟨a, b, c⟩ := hp p hpp
    refine ⟨a, b, ?_⟩
    show givesV (atL l p).a = true
    rw [c]; rfl
theorem flT_in {l : List In5} {ps : List Int} (h : FlL l) : InT (flT l ps) := fun i hi h1 => by
  obtain ⟨k, hk⟩ := List.getElem?_of_mem (show i ∈ l from hi)
  rcases h k i hk with ⟨_, j, _, rfl⟩ | ⟨_, ⟨b, _, rfl⟩ | ⟨b, c, _, _, rfl⟩⟩ <;> cases h1
def flS (stack mem : List Int) : StV := ⟨5, 0, stack, [], mem, bs [], bs [], 0, 0, 0⟩
theorem flS_may {l : List In5} {ps stack mem : List Int} (h4 : 4 ≤ stack.length) (h20 : stack.length ≤ 20) : mayV (flT l ps) (flS stack mem) = true := by
  refine decide_eq_true ⟨rfl, rfl, ?_, ?_, ?_, ?_⟩
  · show (4 : Int) ≤ stack.length; omega
  · show (stack.length : Int) + 20 ≤ 48; omega
  · show (0 : Int) ≤ ((0 : Nat) : Int); decide
  · show ((0 : Nat) : Int) + 0 ≤ 48; decide
end Go.Proofs.Ytblmoilneiffgaa

/- ForwardLoads: the walk. -/
set_option maxRecDepth 100000
namespace Go.Proofs.Ytblmoilneiffgaa
open Go.RowKit

/-- The trace as it is laid so far. -/
structure FlAt (pe : Bool) (w0 w : World) (b16 b14 : Nat) (sI sL : Sl) (is : List In5) (lds : List Int) : Prop where
  ob : Ob w b16 (trP ⟨5, 4, 0, 20, 0, sI, ⟨some ⟨b14, 0, none⟩, 2, 2⟩, 0, nilS⟩) T_api_Trace
  ins : Ow insE w sI is
  lo : Ow intE w sL lds
  fl : FlL is
  ld : ∀ p ∈ lds, 0 ≤ p ∧ ((p < is.length ∧ (atL is p).a = 5) ∨ (pe = true ∧ p = is.length))
  few : lds.length ≤ 20
  iN : ∀ j, sI.blk = some j → w0.heap.size ≤ j
  lN : ∀ j, sL.blk = some j → w0.heap.size ≤ j ∧ sI.blk ≠ some j
  chg : Chg (fun k => k = b16) w0 w
section
variable {pe : Bool} {w0 w : World} {b16 b14 : Nat} {sI sL : Sl} {is : List In5} {lds : List Int}
theorem FlAt.no {w' : World} (h : FlAt pe w0 w b16 b14 sI sL is lds) (c : Chg No w w') : FlAt pe w0 w' b16 b14 sI sL is lds :=
  ⟨h.ob.no c, h.ins.no c, h.lo.no c, h.fl, h.ld, h.few, h.iN, h.lN, h.chg.trans c (fun _ _ h => h) (fun _ _ h => h.elim)⟩
/-- One more instruction. -/
theorem FlAt.app {wI w2 : World} {b : Nat} {i : In5} (h : FlAt pe w0 w b16 b14 sI sL is lds) (hb16 : b16 < w0.heap.size) (kI : Chg No wI w0) (hbI : wI.heap.size ≤ b16) (hi : FlI is.length i) (hpe : pe = true → i.a = 5) (hl : is.length ≤ 1000) (hb : b = w.heap.size) (hw : w2 = World.alloc w (.cells (insC i).toArray T_api_Ins)) {G : Sl → World → Prop}
    (k : ∀ (s' : Sl) (w' : World), wrOk w' ⟨b16, 5, none⟩ 1 → (∀ w3, w3 = stW w' ⟨b16, 5, none⟩ 0 [s'.val] → FlAt false w0 w3 b16 b14 s' sL (is ++ [i]) lds) → G s' w') :
    ∃ s' : Sl, ∃ w' : World, (Builtin.append_ #[T_sl_api_Ins, T_sl_api_Ins] T_sl_api_Ins #[sI.val, .slice (some ⟨b, 0, none⟩) 1 1]).run Try.prog w2 = .ok s'.val w' ∧ G s' w' := by
  have z0 := h.chg.size
  have zI := kI.size
  have c0 : Chg No wI w := kI.trans h.chg (fun _ _ h => h) (fun j hj he => by omega)
  refine app1_gen (w0 := wI) insOk (by decide) (x := i) rfl hb hw h.ins c0 (fun j hj => by have := h.iN j hj; omega) (by omega) ?_
  intro s' w' g' c' cl b'
  have hbs : ∀ j, s'.blk = some j → w0.heap.size ≤ j := fun j hj => by
    rcases (b' j hj).2 with e | e
    · exact h.iN j e
    · omega
  have o' := h.ob.chg cl (fun he => by have := h.iN _ he; omega)
  have l' := h.lo.chg cl (fun j hj he => (h.lN j hj).2 he)
  have hlt : ∀ j, sL.blk = some j → j < w.heap.size := fun j hj => h.lo.lt hj
  refine k s' w' (o'.wr (by simp [trP])) (fun w3 hw3 => ?_)
  obtain ⟨o3, c3⟩ := o'.up (k := 5) (vs := [s'.val]) (cs' := trP ⟨5, 4, 0, 20, 0, s', ⟨some ⟨b14, 0, none⟩, 2, 2⟩, 0, nilS⟩) (by simp [trP]) rfl hw3
  refine ⟨o3, g'.chg c3 (fun j hj he => by have := hbs j hj; omega), l'.chg c3 (fun j hj he => by have := (h.lN j hj).1; omega), h.fl.snoc hi, fun p hp => ?_, h.few, hbs, fun j hj => ⟨(h.lN j hj).1, fun he => ?_⟩, (h.chg.trans cl (fun _ _ h => h) (fun j hj he => by have := h.iN j he; omega)).trans c3 (fun _ _ h => h) (fun _ _ h => h)⟩
  · obtain ⟨p0, hp⟩ := h.ld p hp
    rw [List.length_append]
    refine ⟨p0, Or.inl ?_⟩
    rcases hp with ⟨p1, p2⟩ | ⟨p1, p2⟩
    · exact ⟨by omega, by rw [atL_app _ p0 p1]; exact p2⟩
    · exact ⟨by simp; omega, by rw [atL_end p2]; exact hpe p1⟩
  · rcases (b' j he).2 with e | e
    · exact (h.lN j hj).2 e
    · have := hlt j hj; omega
theorem FlAt.plain (h : FlAt false w0 w b16 b14 sI sL is lds) : LdL is lds := fun p hp => by
  obtain ⟨p0, h1 | h1⟩ := h.ld p hp
  · exact ⟨p0, h1⟩
  · cases h1.1
end
theorem forwardLoads_walk (l st me : Sl) (ls sts mes : List Int) (w : World) (hl : Rd intE w l ls) (hs : Rd intE w st sts) (hme : Rd intE w me mes) (hi1 : InL sts) (hi2 : InL mes) :
    Calls Try.prog fn_hollowaylaw18_ForwardLoads #[l.val, st.val, me.val] w fun e w' => e = .returned (.bool true) ∧ Chg No w w' := by
  refine (hollowaylaw18_ForwardLoads_lift (K := fun v w' => v = .bool true ∧ Chg No w w') ?_).mono (by rintro e w' ⟨v, rfl, rfl, h⟩; exact ⟨rfl, h⟩)
  unfold hollowaylaw18_ForwardLoads_sh
  have hll := hl.len
  have hsl := hs.len
  have hml := hme.len
  refine ⟨fun b w' => (b = false → ls.length ≤ 40 ∧ 4 ≤ sts.length ∧ sts.length ≤ 20 ∧ mes.length ≤ 30) ∧ Chg No w w', ?_, ?_⟩
  rotate_left
  · refine brB_of (fun _ => ⟨(fun h => by cases h), Chg.refl _ _⟩) (fun h1 => brB_of (fun _ => ⟨(fun h => by cases h), Chg.refl _ _⟩) (fun h2 => brB_of (fun _ => ⟨(fun h => by cases h), Chg.refl _ _⟩) (fun h3 => brB_of (fun _ => ⟨(fun h => by cases h), Chg.refl _ _⟩) (fun h4 => ?_))))
    have h1 := of_decide_eq_false h1
    have h2 := of_decide_eq_false h2
    have h3 := of_decide_eq_false h3
    have h4 := of_decide_eq_false h4
    refine (alive18_any _).mono ?_
    rintro e w5 ⟨rfl, c5⟩
    exact ⟨_, rfl, fun _ => ⟨by omega, by omega, by omega, by omega⟩, c5⟩
  rintro b w7 ⟨hb, c7⟩
  refine brB_of (fun _ => ?_) (fun hf => ?_)
  · refine (alive18_any _).mono ?_
    rintro e w10 ⟨rfl, c10⟩
    exact ⟨_, rfl, rfl, trN c7 c10⟩
  obtain ⟨g1, g2, g3, g4⟩ := hb hf
  intro b12 w13 hb12 hw13 b14 w15 hb14 hw15 b16 w17 hb16 hw17
  obtain ⟨g13, c13⟩ := lit1 0 hb12 hw13
  obtain ⟨g15, c15⟩ := litOus [⟨7, 0, ⟨some ⟨b12, 0, none⟩, 1, 1⟩, nilS⟩, ⟨8, 2, nilS, nilS⟩] _ rfl hb14 hw15 (by simp)
  have hn := fun (w2 : World) => newOb (w2 := w2) (T := T_api_Trace) (trP ⟨0, 0, 0, 0, 0, nilS, nilS, 0, nilS⟩) (trP ⟨5, 4, 0, 20, 0, nilS, ⟨some ⟨b14, 0, none⟩, 2, 2⟩, 0, nilS⟩) rfl hb16 hw17
  refine ⟨(hn w17).1, fun w18 hw18 => ?_⟩
  obtain ⟨o18, c18⟩ := (hn w18).2 hw18
  have k18 : Chg No w w18 := trN (trN (trN c7 c13) c15) c18
  have z13 : w13.heap.size = w7.heap.size + 1 := by rw [hw13]; simp
  have z15 : w15.heap.size = w13.heap.size + 1 := by rw [hw15]; simp
  have z7 := c7.size
  have hb16lt := o18.lt
  have hbI : w.heap.size ≤ b16 := by omega
  have g15' := g15.no c18
  have g13' := (g13.no c15).no c18
  have f0 : FlAt false w18 w18 b16 b14 nilS nilS [] [] := ⟨o18, Ow.nil _ _, Ow.nil _ _, (fun k i h => by simp at h), (fun p hp => by cases hp), Nat.zero_le _, (fun j hj => by cases hj), (fun j hj => by cases hj), Chg.refl _ _⟩
  refine ⟨fun n w' => ∃ (k : Nat) (sI : Sl) (is : List In5), n = k ∧ k ≤ 4 ∧ is.length = k ∧ FlAt false w18 w' b16 b14 sI nilS is [], fun n _ => 4 - n.toNat, ⟨0, nilS, [], rfl, by omega, rfl, f0⟩, ?_⟩
  rintro n w19 ⟨k, sI, is, rfl, hk, hlen, f19⟩
  refine brB_of (fun hlt => ?_) (fun hlt => ?_)
  · have hlt : k < 4 := by have := of_decide_eq_true hlt; omega
    refine ⟨sI, f19.ob.cell rfl, ?_⟩
    intro b22 w23 hb22 hw23
    refine f19.app hb16lt k18 hbI (i := ⟨2, (k : Int), 0, 0, 0⟩) (Or.inl ⟨by omega, k, by omega, rfl⟩) (fun h => by cases h) (by omega) hb22 hw23 ?_
    intro s24 w25 hwr hst
    refine ⟨hwr, fun w26 hw26 => ?_⟩
    rw [wr_in (by omega)]
    exact ⟨⟨k + 1, s24, _, by omega, by omega, by simp; omega, hst w26 hw26⟩, by show 4 - Int.toNat ((k : Int) + 1) < 4 - Int.toNat (k : Int); omega⟩
  have hlt : k = 4 := by have := of_decide_eq_false hlt; omega
  subst hlt
  refine ⟨fun lo n w' => ∃ (k : Nat) (sI : Sl) (is : List In5) (lds : List Int), n = k ∧ k ≤ ls.length ∧ is.length = 4 + k ∧ FlAt false w18 w' b16 b14 sI lo is lds, fun _ n _ => ls.length - n.toNat, ⟨0, sI, is, [], rfl, Nat.zero_le _, by omega, f19⟩, ?_⟩
  clear f19 hlen
  clear sI is
  rintro lo n w27 ⟨k, sI, is, lds, rfl, hk, hlen, f27⟩
  have k27 : Chg No w w27 := k18.trans f27.chg (fun _ _ h => h) (fun j hj he => by omega)
  refine brB_of (fun hlt => ?_) (fun hlt => ?_)
  · have hlt : k < ls.length := by simp at hlt; omega
    obtain ⟨x, hx⟩ : ∃ x, ls[k]? = some x := ⟨_, List.getElem?_eq_getElem hlt⟩
    have ixw : ∀ {w' : World}, Chg No w w' → ∀ {G : Addr → Prop}, (∀ a, (∀ w'', Chg No w w'' → w''.cell? (Addr.add a (Int.toNat (k : Int) * 1)) = some (.int .i64 x)) → G a) → ∃ a : Addr, l.ptr = some a ∧ 0 ≤ (k : Int) ∧ (k : Int) < (l.len : Int) ∧ G a := fun c => fun kk =>
      (hl.no c).ix (i := (k : Int)) (by omega) (by rw [Int.toNat_natCast]; exact hx) fun a ha _ => kk a fun w'' c'' => by
        obtain ⟨a2, ha2, hc2⟩ := (hl.no c'').at hx
        rw [ha] at ha2; cases ha2
        have q := hc2 0 _ rfl
        rw [add0] at q; rw [Int.toNat_natCast]; exact q
    refine ⟨fun lo' w' => ∃ (sI : Sl) (is : List In5) (lds : List Int), is.length = 4 + (k + 1) ∧ FlAt false w18 w' b16 b14 sI lo' is lds, ?_, ?_⟩
    · rintro lo' w60 ⟨sI', is', lds', h1, h2⟩
      rw [wr_in (by omega)]
      exact ⟨⟨k + 1, sI', is', lds', by omega, by omega, h1, h2⟩, by show ls.length - Int.toNat ((k : Int) + 1) < ls.length - Int.toNat (k : Int); omega⟩
    refine ixw k27 fun a hcell => ⟨x, hcell _ k27, brB_of (fun hev => ?_) (fun hod => ?_)⟩
    · refine ⟨fun lo' w' => ∃ lds' : List Int, FlAt true w18 w' b16 b14 sI lo' is lds', ?_, ?_⟩
      · rintro lo' w37 ⟨lds', f37⟩ w38 hw38
        have c38 := dw hw38
        have f38 := f37.no c38
        have k38 : Chg No w w38 := k18.trans f38.chg (fun _ _ h => h) (fun j hj he => by omega)
        refine ⟨fun w' => Chg No w38 w', Chg.refl _ _, sI, Ob.held (fun w' c => f38.ob.no c) rfl, ixw k38 fun a hcell => ⟨x, fun w' c => hcell w' (trN k38 c), by decide, Chg.refl _ _, ?_⟩⟩
        intro b43 w44 hb43 hw44
        refine ⟨al hw44, f38.app hb16lt k18 hbI (i := ⟨5, 0, iand .i64 (ishr .i64 x 1) 3, 0, 0⟩) (Or.inr ⟨by omega, Or.inl ⟨_, and3 _, rfl⟩⟩) (fun _ => rfl) (by omega) hb43 hw44 ?_⟩
        intro s45 w46 hwr hst
        exact ⟨hwr, fun w47 hw47 => ⟨s45, _, lds', by simp; omega, hst w47 hw47⟩⟩
      · have hlo : lo.len = lds.length := f27.lo.rd.len
        have up : FlAt true w18 w27 b16 b14 sI lo is lds := ⟨f27.ob, f27.ins, f27.lo, f27.fl, fun p hp => by
          obtain ⟨a1, a2⟩ := f27.ld p hp
          exact ⟨a1, a2.elim Or.inl (fun h => by cases h.1)⟩, f27.few, f27.iN, f27.lN, f27.chg⟩
        refine brB_of (fun hfew => ?_) (fun hfew => ⟨lds, up⟩)
        have hfew : lds.length < 20 := by have := of_decide_eq_true hfew; omega
        refine ⟨sI, f27.ob.cell rfl, ?_⟩
        have hsI : sI.len = is.length := f27.ins.rd.len
        rw [hsI]
        intro b33 w34 hb33 hw34
        have z27 := f27.chg.size
        refine app1_gen (w0 := w) intOk (by decide) (x := (is.length : Int)) rfl hb33 hw34 f27.lo k27 (fun j hj => by have := (f27.lN j hj).1; omega) (by omega) ?_
        intro s35 w36 g36 c36 cl b36
        have hIlt : ∀ j, sI.blk = some j → j < w27.heap.size := fun j hj => f27.ins.lt hj
        refine ⟨lds ++ [(is.length : Int)], f27.ob.chg cl (fun he => by have := (f27.lN _ he).1; omega), f27.ins.chg cl (fun j hj he => (f27.lN j he).2 hj), g36, f27.fl, fun p hp => ?_, by simp; omega, f27.iN, fun j hj => ?_, f27.chg.trans cl (fun _ _ h => h) (fun j hj he => by have := (f27.lN j he).1; omega)⟩
        · rcases List.mem_append.1 hp with hp | hp
          · exact up.ld p hp
          · have : p = is.length := by simpa using hp
            exact ⟨by omega, Or.inr ⟨rfl, this⟩⟩
        · rcases (b36 j hj).2 with e | e
          · exact f27.lN j e
          · exact ⟨by omega, fun he => by have := hIlt j he; omega⟩
    · intro w48 hw48
      have c48 := dw hw48
      have f48 := f27.no c48
      have k48 := trN k27 c48
      refine ⟨fun w' => Chg No w48 w', Chg.refl _ _, sI, Ob.held (fun w' c => f48.ob.no c) rfl, ixw k48 fun a hcell => ⟨x, fun w' c => hcell w' (trN k48 c), by decide, ixw k48 fun a hcell => ⟨x, fun w' c => hcell w' (trN k48 c), by decide, Chg.refl _ _, ?_⟩⟩⟩
      intro b55 w56 hb55 hw56
      refine ⟨al hw56, f48.app hb16lt k18 hbI (i := ⟨6, 0, iand .i64 (ishr .i64 x 1) 3, iand .i64 (ishr .i64 x 3) 3, 0⟩) (Or.inr ⟨by omega, Or.inr ⟨_, _, and3 _, and3 _, rfl⟩⟩) (fun h => by cases h) (by omega) hb55 hw56 ?_⟩
      intro s57 w58 hwr hst
      exact ⟨hwr, fun w59 hw59 => ⟨s57, _, lds, by simp; omega, hst w59 hw59⟩⟩
  have hlt : k = ls.length := by simp at hlt; omega
  subst hlt
  have g27 := g15'.chg f27.chg (fun j hj he => by have : b14 = j := Option.some.inj hj; omega)
  have g12 := g13'.chg f27.chg (fun j hj he => by have : b12 = j := Option.some.inj hj; omega)
  have z27 := f27.chg.size
  refine ⟨⟨some ⟨b14, 0, none⟩, 2, 2⟩, f27.ob.cell rfl, ?_⟩
  intro b62 w63 hb62 hw63
  refine app1_gen (w0 := w) ousOk (by decide) (x := ⟨9, 3, lo, nilS⟩) rfl hb62 hw63 g27 k27 (fun j hj => by have : b14 = j := Option.some.inj hj; omega) (by show 2 ≤ _; decide) ?_
  intro s64 w65 g65 c65 cl b65
  have hob : ∀ j, s64.blk = some j → w7.heap.size ≤ j ∧ j ≠ b16 := fun j hj => by
    rcases (b65 j hj).2 with e | e
    · have : b14 = j := Option.some.inj e; omega
    · omega
  have ob65 := f27.ob.chg cl (fun he => by have : b14 = b16 := Option.some.inj he; omega)
  have ins65 := f27.ins.chg cl (fun j hj he => by have : b14 = j := Option.some.inj he; have := f27.iN j hj; omega)
  have lo65 := f27.lo.chg cl (fun j hj he => by have : b14 = j := Option.some.inj he; have := (f27.lN j hj).1; omega)
  have g12' := g12.chg cl (fun j hj he => by have : b14 = j := Option.some.inj he; have : b12 = j := Option.some.inj hj; omega)
  refine ⟨ob65.wr (by simp [trP]), fun w66 hw66 => ?_⟩
  obtain ⟨ob66, c66⟩ := ob65.up (k := 6) (vs := [s64.val]) (cs' := trP ⟨5, 4, 0, 20, 0, sI, s64, 0, nilS⟩) (by simp [trP]) rfl hw66
  refine ⟨ob66.wr (by simp [trP]), fun w67 hw67 => ?_⟩
  obtain ⟨r13, c67⟩ := ob66.up (k := 7) (vs := [.int .i64 2]) (cs' := trP ⟨5, 4, 0, 20, 0, sI, s64, 2, nilS⟩) (by simp [trP]) rfl hw67
  have c6567 : Chg (fun j => j = b16) w65 w67 := c66.trans c67 (fun _ _ h => h) (fun _ _ h => h)
  have k67 : Chg No w w67 := c65.trans c6567 (fun _ _ h => h) (fun j hj he => by omega)
  have hR := flT_right (ps := lds) f27.fl (by omega) (by omega) f27.plain f27.few
  have hInT := flT_in (ps := lds) f27.fl
  have ht67 : TrIs Any w67 ⟨5, 4, 0, 20, 0, sI, s64, 2, nilS⟩ (flT is lds) :=
    tris ⟨rfl, rfl, rfl, rfl, rfl, rfl⟩ (ins65.chg c6567 (fun j hj he => by have := f27.iN j hj; omega)).rd (g65.chg c6567 (fun j hj he => by have := hob j hj; omega)).rd (ous_cons ⟨rfl, rfl⟩ (g12'.chg c6567 (fun j hj he => by have : b12 = j := Option.some.inj hj; omega)).rd (Rd.nil _ _) (ous_cons ⟨rfl, rfl⟩ (Rd.nil _ _) (Rd.nil _ _) (ous_cons ⟨rfl, rfl⟩ (lo65.chg c6567 (fun j hj he => by have := (f27.lN j hj).1; omega)).rd (Rd.nil _ _) (ous_nil _)))) (Rd.nil _ _)
  refine ⟨_, _, _, _, _, _, _, _, _, r13.cell rfl, r13.cell rfl, r13.cell rfl, r13.cell rfl, r13.cell rfl, r13.cell rfl, r13.cell rfl, r13.cell rfl, r13.cell rfl, (wdo_any _ ht67).mono ?_⟩
  rintro e w78 ⟨r, rfl, t', rfl, c78, h78⟩
  have h78 : TrOw (fun k => w67.heap.size ≤ k) w78 t' (fwdT (flT is lds)) := by
    rcases h78 with ⟨hno, _⟩ | ⟨_, h⟩
    · exact absurd hR hno
    · exact h
  refine ⟨_, _, _, _, _, _, _, _, _, rfl, ?_⟩
  intro b88 w89 hb88 hw89
  have hn := fun (w2 : World) => newOb (w2 := w2) (T := T_api_Trace) (trP ⟨0, 0, 0, 0, 0, nilS, nilS, 0, nilS⟩) (trP t') rfl hb88 hw89
  refine ⟨(hn w89).1, fun w90 hw90 => ?_⟩
  obtain ⟨o90, c90⟩ := (hn w90).2 hw90
  have k90 := trN (trN k67 c78) c90
  have ha := h78.is.no c90
  have hfR := fwd_ok.right _ hR
  have t13 := (r13.no c78).no c90
  have ht90 := (ht67.no c78).no c90
  refine ⟨fun b w' => b = false ∧ Chg No w90 w', ?_, ?_⟩
  rotate_left
  · refine ⟨_, _, _, _, _, _, _, _, _, t13.cell rfl, t13.cell rfl, t13.cell rfl, t13.cell rfl, t13.cell rfl, t13.cell rfl, t13.cell rfl, t13.cell rfl, t13.cell rfl, (rright_any _ ht90).mono ?_⟩
    rintro e w101 ⟨b, rfl, hb, c101⟩
    rw [hb.2 hR]
    have o101 := o90.no c101
    refine ⟨_, rfl, brB_f ⟨_, _, _, _, _, _, _, _, _, o101.cell rfl, o101.cell rfl, o101.cell rfl, o101.cell rfl, o101.cell rfl, o101.cell rfl, o101.cell rfl, o101.cell rfl, o101.cell rfl, (rright_any _ (ha.no c101)).mono ?_⟩⟩
    rintro e w113 ⟨b, rfl, hb, c113⟩
    rw [hb.2 hfR]
    exact ⟨_, rfl, rfl, trN c101 c113⟩
  rintro b w115 ⟨rfl, c115⟩
  refine brB_f ?_
  have k115 := trN k90 c115
  intro b117 w118 hb117 hw118
  have hn := fun (w2 : World) => newOb (w2 := w2) (T := T_api_State) (stC st0) (stC ⟨5, 0, st, nilS, me, bs [], bs [], 0, 0, 0⟩) rfl hb117 hw118
  refine ⟨(hn w118).1, fun w119 hw119 => ?_⟩
  obtain ⟨o119, c119⟩ := (hn w119).2 hw119
  have c90119 := trN c115 c119
  have k119 := trN k90 c90119
  have hs119 : StIs Any w119 ⟨5, 0, st, nilS, me, bs [], bs [], 0, 0, 0⟩ (flS sts mes) := stis ⟨rfl, rfl, rfl, rfl, rfl, rfl, rfl⟩ (hs.no k119) (Rd.nil _ _) (hme.no k119)
  have hm : mayV (flT is lds) (flS sts mes) = true := flS_may g2 g3
  have hfm : mayV (fwdT (flT is lds)) (flS sts mes) = true := (fwd_ok.may _ _).trans hm
  have htx : TxOk (flS sts mes) := ⟨by show (0 : Nat) ≤ _; decide, by show (0 : Nat) ≤ _; decide, by show (0 : Int) ≤ 0; decide⟩
  have j3 : InL (flS sts mes).back := fun x hx => by cases hx
  have v13 := t13.no c90119
  have v88 := o90.no c90119
  refine ⟨_, _, _, _, _, _, _, _, _, v13.cell rfl, v13.cell rfl, v13.cell rfl, v13.cell rfl, v13.cell rfl, v13.cell rfl, v13.cell rfl, v13.cell rfl, v13.cell rfl, ?_⟩
  refine ⟨_, _, _, _, _, _, _, _, _, _, o119.cell rfl, o119.cell rfl, o119.cell rfl, o119.cell rfl, o119.cell rfl, o119.cell rfl, o119.cell rfl, o119.cell rfl, o119.cell rfl, o119.cell rfl, ?_⟩
  intro b139 w140 hb139 hw140
  obtain ⟨g140, c140⟩ := lit1 3 hb139 hw140
  have c90140 := trN c90119 c140
  refine (rrun_any _ _ (ht90.no c90140) hR (hs119.no c140) (waS := ⟨some ⟨b139, 0, none⟩, 1, 1⟩) (wl := [3]) g140.rd hm (by show mes.length ≤ _; omega) htx hInT hi2 hi1 j3).mono ?_
  rintro e w142 ⟨Sx, rfl, hSx, c142⟩
  refine ⟨_, _, _, _, _, _, _, _, _, _, _, _, rfl, ?_⟩
  intro b155 w156 hb155 hw156
  have hn := fun (w2 : World) => newOb (w2 := w2) (T := T_api_State) (stC st0) (stC Sx) rfl hb155 hw156
  refine ⟨(hn w156).1, fun w157 hw157 => ?_⟩
  obtain ⟨o157, c157⟩ := (hn w157).2 hw157
  have c90157 := trN (trN c90140 c142) c157
  have y88 := o90.no c90157
  have y117 := ((o119.no c140).no c142).no c157
  refine ⟨_, _, _, _, _, _, _, _, _, y88.cell rfl, y88.cell rfl, y88.cell rfl, y88.cell rfl, y88.cell rfl, y88.cell rfl, y88.cell rfl, y88.cell rfl, y88.cell rfl, ?_⟩
  refine ⟨_, _, _, _, _, _, _, _, _, _, y117.cell rfl, y117.cell rfl, y117.cell rfl, y117.cell rfl, y117.cell rfl, y117.cell rfl, y117.cell rfl, y117.cell rfl, y117.cell rfl, y117.cell rfl, ?_⟩
  intro b177 w178 hb177 hw178
  obtain ⟨g178, c178⟩ := lit1 3 hb177 hw178
  have c90178 := trN c90157 c178
  refine (rrun_any _ _ (ha.no c90178) hfR ((((hs119.no c140).no c142).no c157).no c178) (waS := ⟨some ⟨b177, 0, none⟩, 1, 1⟩) (wl := [3]) g178.rd hfm (by show mes.length ≤ _; omega) htx (fwd_ok.inT _ hR hInT) hi2 hi1 j3).mono ?_
  rintro e w180 ⟨Sy, rfl, hSy, c180⟩
  refine ⟨_, _, _, _, _, _, _, _, _, _, _, _, rfl, ?_⟩
  intro b193 w194 hb193 hw194
  have hn := fun (w2 : World) => newOb (w2 := w2) (T := T_api_State) (stC st0) (stC Sy) rfl hb193 hw194
  refine ⟨(hn w194).1, fun w195 hw195 => ?_⟩
  obtain ⟨o195, c195⟩ := (hn w195).2 hw195
  intro w196 hw196
  have c196 := dw hw196
  have c157196 := trN (trN (trN c178 c180) c195) c196
  have c90196 := trN c90157 c157196
  have k196 := trN k90 c90196
  have z155 := o157.no c157196
  have z193 := o195.no c196
  have v16 := t13.no c90196
  have v88' := o90.no c90196
  have hx : StIs Any w196 Sx (endV (flT is lds) (runG (flT is lds) (flS sts mes) [3])) := stis hSx.nums ((hSx.st.no c157).no c157196).rd ((hSx.bk.no c157).no c157196).rd ((hSx.me.no c157).no c157196).rd
  obtain ⟨gr1, gr2, gr3⟩ := fwd_ok.runs (flT is lds) (flS sts mes) [3] hR
  have hy : StIs Any w196 Sy (endV (flT is lds) (runG (flT is lds) (flS sts mes) [3])) := by
    rw [← gr1]
    exact stis hSy.nums ((hSy.st.no c195).no c196).rd ((hSy.bk.no c195).no c196).rd ((hSy.me.no c195).no c196).rd
  have dd : ∀ {b : Nat} {cs : List Value} {T : TypeId}, Ob w196 b cs T → ∀ {j : Nat} {u : Value}, cs[j]? = some u → held (fun w' => Chg No w196 w') ⟨b, j, none⟩ u := fun o => fun h => Ob.held (fun w' c => o.no c) h
  refine ⟨fun w' => Chg No w196 w', Chg.refl _ _, _, _, _, _, _, _, _, _, _, _, dd z155 rfl, dd z155 rfl, dd z155 rfl, dd z155 rfl, dd z155 rfl, dd z155 rfl, dd z155 rfl, dd z155 rfl, dd z155 rfl, dd z155 rfl, ?_⟩
  refine ⟨_, _, _, _, _, _, _, _, _, _, dd z193 rfl, dd z193 rfl, dd z193 rfl, dd z193 rfl, dd z193 rfl, dd z193 rfl, dd z193 rfl, dd z193 rfl, dd z193 rfl, dd z193 rfl, (sameState_any Sx Sy hx hy).mono ?_⟩
  rintro e w219 ⟨rfl, c219⟩
  rw [gr2]
  refine ⟨_, rfl, c219, brB_t ?_⟩
  rw [show (decide ((runG (flT is lds) (flS sts mes) [3]).2.hit ≥ 0) == decide ((runG (flT is lds) (flS sts mes) [3]).2.hit ≥ 0)) = true by simp]
  obtain ⟨x0, x1⟩ := runG_out hR (flS sts mes) [3]
  obtain ⟨y0, y1⟩ := runG_out hfR (flS sts mes) [3]
  have gip : (outAt (fwdT (flT is lds)) (runG (fwdT (flT is lds)) (flS sts mes) [3]).1).ip = (outAt (flT is lds) (runG (flT is lds) (flS sts mes) [3]).1).ip := congrArg StV.ip gr1
  have hv1 := ht90.no c90196
  have hv2 := ha.no c90196
  obtain ⟨os, hos, hov⟩ := hv1.outs
  obtain ⟨os', hos', hov'⟩ := hv2.outs
  obtain ⟨o, ho⟩ : ∃ o, os[(runG (flT is lds) (flS sts mes) [3]).1.toNat]? = some o := ⟨_, List.getElem?_eq_getElem (by rw [hov.1]; omega)⟩
  obtain ⟨o', ho'⟩ : ∃ o, os'[(runG (fwdT (flT is lds)) (flS sts mes) [3]).1.toNat]? = some o := ⟨_, List.getElem?_eq_getElem (by rw [hov'.1]; omega)⟩
  obtain ⟨e1, e2, _⟩ := hov.2 _ _ _ ho (outAt_ix x0 x1)
  obtain ⟨f1, f2, _⟩ := hov'.2 _ _ _ ho' (outAt_ix y0 y1)
  have ix : ∀ {s : Sl} {oss : List OuC} {oo : OuC} {q : Int}, Rd ouE w196 s oss → oss[q.toNat]? = some oo → 0 ≤ q → ∀ {G : Addr → Prop}, (∀ a, (∀ {j : Nat} {u : Value}, (ouC oo)[j]? = some u → held (fun w' => Chg No w196 w') (Addr.add (Addr.add a (Int.toNat q * 4)) j) u) → G a) → ∃ a : Addr, s.ptr = some a ∧ 0 ≤ q ∧ q < (s.len : Int) ∧ G a := fun hr hq q0 => fun kk =>
    hr.ix q0 hq fun a ha _ => kk a fun hj w' c => by
      obtain ⟨a2, ha2, hc2⟩ := (hr.no c).at hq
      rw [ha] at ha2; cases ha2
      exact hc2 _ _ hj
  refine brB_t ⟨s64, dd v16 rfl, ix hos ho x0 fun a q => ⟨o.ip, by have := q (j := 0) rfl; rw [add0] at this; exact this, t'.outs, dd v88' rfl, ix hos' ho' y0 fun a' q' => ⟨o'.ip, by have := q' (j := 0) rfl; rw [add0] at this; exact this, ?_⟩⟩⟩
  rw [show (o.ip == o'.ip) = true by rw [e1, f1, gip]; simp]
  refine brB_t ⟨s64, dd v16 rfl, ix hos ho x0 fun a q => ⟨o.steps, q rfl, t'.outs, dd v88' rfl, ix hos' ho' y0 fun a' q' => ⟨o'.steps, q' rfl, ?_, trN k196 c219⟩⟩⟩
  rw [e2, f2, gr3]; simp
end Go.Proofs.Ytblmoilneiffgaa
