/- WordsPlay: a round of the loop, its end, and the whole walk. -/
import Derived.Test.YtijoigpggphajaaWdPlay
set_option maxRecDepth 100000
namespace Go.Proofs.Ytijoigpggphajaa
open Go.RowKit

theorem addCL_out {l : List Wd} {x : Wd} (h : wordOk x.name = false) : addC l x = -16 ∧ addL l x = l := by unfold addC addL; rw [if_pos h, if_pos h]; exact ⟨rfl, rfl⟩
theorem addCL_full {l : List Wd} {x : Wd} (h : wordOk x.name = true) (h2 : 200 ≤ l.length) : addC l x = -8 ∧ addL l x = l := by
  simp [addC, addL, h, h2]
theorem addCL_in {l : List Wd} {x : Wd} (h : wordOk x.name = true) (h2 : ¬ 200 ≤ l.length) : addC l x = 0 ∧ addL l x = l ++ [x] := by
  simp [addC, addL, h, h2]

theorem wordsPlay_walk (l : Sl) (os : List OpV) (ask other : ByteArray) (ha : ask.size ≤ 9223372036854775807) (w : World) (hr : Rd opvE w l os) : Calls Try.prog fn_hollowaylaw7_WordsPlay #[l.val, .string ask, .string other] w fun e w' => e = .returned (.bool true) ∧ Chg No w w' := by
  refine (hollowaylaw7_WordsPlay_lift (K := fun r w' => r = .bool true ∧ Chg No w w') ?_).mono (by rintro e w' ⟨r, rfl, rfl, h⟩; exact ⟨rfl, h⟩)
  unfold hollowaylaw7_WordsPlay_sh
  refine ⟨fun b w' => (b = false → l.len ≤ 60 ∧ ask.size ≤ 60 ∧ other.size ≤ 60) ∧ Chg No w w', ?_, ?_⟩
  · rintro b w7 ⟨hb, c7⟩
    refine brB_of (fun _ => ?_) (fun hf => ?_)
    · refine (alive7_any _).mono ?_
      rintro e w10 ⟨rfl, c10⟩
      exact ⟨_, rfl, rfl, trN c7 c10⟩
    obtain ⟨hl60, ha60, ho60⟩ := hb hf
    refine (wnew_any _).mono ?_
    rintro e w13 ⟨p, rfl, h13, c13⟩
    refine ⟨_, rfl, ?_⟩
    refine (refWords_any _).mono ?_
    rintro e w16 ⟨s17, rfl, h16, c16, b16⟩
    refine ⟨_, rfl, brB_f ?_⟩
    intro b18 w19 hb18 hw19
    have hlen := hr.len
    have s7 := c7.size
    have s13 := c13.size
    have s16 := c16.size
    have o19 : Ob w19 b18 (bookW nilS nilS) T_hollowaybook_Book := by rw [hw19, hb18]; exact Ob.new w16 (bookW nilS nilS) T_hollowaybook_Book
    have c19 : Chg No w16 w19 := by rw [hw19]; exact Chg.alloc _ _ _
    have s19 : w19.heap.size = w16.heap.size + 1 := by rw [hw19]; simp
    have start : WPx (fun k => w7.heap.size ≤ k ∧ k < w13.heap.size) (fun k => k = b18) w w19 p s17 newL newL b18 := by
      refine ⟨(h13.nar.no c16).no c19, h16.no c19, BkW.empty o19 rfl, fun k hk => ⟨by omega, by omega, fun he => by omega⟩, fun k hk => ⟨by omega, by omega⟩, fun k hk => ⟨by have := b16 k hk; omega, fun he => by have := b16 k hk; omega, fun he => by have := h16.lt hk; omega⟩, trN (trN c7 c13) (trN c16 c19)⟩
    refine ⟨fun p' s i w' => ∃ (k pn : Nat) (B D : Nat → Prop) (m : List Wd), i = k ∧ k ≤ os.length ∧ p' = some ⟨pn, 0, none⟩ ∧ WPx B D w w' pn s m m b18 ∧ Gd m, fun _ _ i _ => os.length - i.toNat, ⟨0, p, _, _, newL, rfl, Nat.zero_le _, rfl, start, newL_good⟩, ?_⟩
    rintro p' want i w20 ⟨k, pn, B, D, m, rfl, hk, rfl, hx, hg⟩
    refine brB_of (fun hlt => ?_) (fun hlt => ?_)
    · -- a round
      have hlt : k < os.length := by simp at hlt; omega
      obtain ⟨o, ho⟩ : ∃ o, os[k]? = some o := ⟨_, List.getElem?_eq_getElem hlt⟩
      refine (hr.no hx.chg).ix (i := (k : Int)) (by omega) (by rw [Int.toNat_natCast]; exact ho) fun a _ hcell => ?_
      have q0 := hcell 0 _ rfl
      rw [add0] at q0
      refine ⟨o.kind, o.n, o.x.name, o.x.xt, o.x.op, o.x.imm, q0, hcell 1 _ rfl, hcell 2 _ rfl, hcell 3 _ rfl, hcell 4 _ rfl, hcell 5 _ rfl, ?_⟩
      intro b29 w30 hb29 hw30
      obtain ⟨f1, f2⟩ := oput o hb29 hw30
      refine ⟨f1, fun w31 hw31 => ?_⟩
      obtain ⟨o31, c31⟩ := f2 w31 hw31
      have x31 := hx.no c31
      refine ⟨_, o31.cell rfl, brB_of (fun _ => ⟨rfl, x31.chg⟩) (fun h100 => ?_)⟩
      have h100 : o.x.name.size ≤ 100 := by have := of_decide_eq_false h100; omega
      have hwl := hx.want.rd.len
      have hwc := hx.want.rd.capL
      have hg200 := hg.1
      refine ⟨fun p' s ok w' => ∃ (pn : Nat) (B D : Nat → Prop) (m : List Wd), p' = some ⟨pn, 0, none⟩ ∧ ok = true ∧ WPx B D w w' pn s m m b18 ∧ Gd m, ?_, o.kind, o31.cell rfl, ?_⟩
      · -- behind the switch
        rintro p99 want' ok w98 ⟨pn', B', D', m', rfl, rfl, x98, g98⟩
        have hw98 := x98.want.rd.len
        have hc98 := x98.want.rd.capL
        have hm' := g98.1
        refine (wall_any x98.dic (by omega)).mono ?_
        rintro e w101 ⟨s102, rfl, h102, c101, b102⟩
        refine ⟨s102, rfl, ?_⟩
        have x101 := x98.no c101
        have z101 := c101.size
        refine (bookWords_any (x101.book.wid (D' := upT D' w101.heap.size) (fun k hk => Or.inl hk)) (fun k hk => Or.inr hk) h102.ox (by omega) (D' := fun k => upT D' w101.heap.size k ∨ s102.blk = some k) (fun k hk => Or.inl hk) (fun k hk => ⟨Or.inr hk, ?_⟩)).mono ?_
        · rintro (hd | hd)
          · have := b102 k hk; have := (x98.bD k hd).2; omega
          · have := h102.lt hk; omega
        rintro e w104 ⟨rfl, k104, c104⟩
        refine ⟨rfl, ?_⟩
        have cD : Chg D' w101 w104 := c104.mono (fun k hk h => h.elim id fun h => by omega)
        have z104 := c104.size
        have z98 := x98.chg.size
        have r104 : Ow wdE w104 s102 m' := h102.chg cD (fun k hk hd => by have := b102 k hk; have := (x98.bD k hd).2; omega)
        have x104 : WPx B' (fun k => (upT D' w101.heap.size k ∨ s102.blk = some k) ∧ k < w104.heap.size) w w104 pn' want' m' m' b18 := by
          refine ⟨x101.dic.chg cD (fun k hk hd => (x101.bB k hk).2.2 hd), x101.want.chg cD (fun k hk => (x101.bs k hk).2.2), k104.nar, fun k hk => ⟨(x101.bB k hk).1, by have := (x101.bB k hk).2.1; omega, ?_⟩, fun k hk => ⟨?_, hk.2⟩, fun k hk => ⟨(x101.bs k hk).1, (x101.bs k hk).2.1, ?_⟩, x101.chg.trans cD (fun _ _ h => h) (fun k hk hb => by have := (x101.bD k hb).1; omega)⟩
          · rintro ⟨(hd | hd) | hd, _⟩
            · exact (x101.bB k hk).2.2 hd
            · have := (x101.bB k hk).2.1; omega
            · have := b102 k hd; have := (x98.bB k hk).2.1; omega
          · rcases hk.1 with (hd | hd) | hd
            · exact (x98.bD k hd).1
            · omega
            · have := b102 k hd; omega
          · rintro ⟨(hd | hd) | hd, _⟩
            · exact (x101.bs k hk).2.2 hd
            · have := x101.want.lt hk; omega
            · have := b102 k hd; have := x98.want.lt hk; omega
        refine (wfind_any ask x104.dic (fun x hx => by have := g98.size x hx; omega)).mono ?_
        rintro e w106 ⟨rfl, c106⟩
        have x106 := x104.no c106
        refine ⟨_, _, _, _, _, rfl, ?_⟩
        intro b112 w113 hb112 hw113
        obtain ⟨f3, f4⟩ := wput ((fnd ask m').getD wd0) hb112 hw113
        refine ⟨f3, fun w114 hw114 => ?_⟩
        obtain ⟨o114, c114⟩ := f4 w114 hw114
        have x114 := x106.no c114
        refine (refFind_any ask (by omega) x114.want.rd (fun x hx => by have := g98.size x hx; omega)).mono ?_
        rintro e w117 ⟨n, rfl, hn, c117⟩
        refine ⟨n, rfl, ?_⟩
        have x117 := x114.no c117
        have o117 := o114.no c117
        have r117 : Ow wdE w117 s102 m' := ((r104.no c106).no c114).no c117
        refine ⟨fun b w' => b = false ∧ Chg No w117 w', ?_, ?_⟩
        · rintro b w151 ⟨rfl, c151⟩
          refine brB_f ?_
          rw [wr_of (by omega) (by omega)]
          exact ⟨⟨k + 1, pn', _, _, m', by omega, by omega, rfl, x117.no c151, g98⟩, by show os.length - Int.toNat ((k : Int) + 1) < os.length - Int.toNat (k : Int); omega⟩
        intro w119 hw119
        have c119 : Chg No w117 w119 := by rw [hw119]; exact Chg.drew _ _
        refine ⟨fun w' => Chg No w117 w', c119, brB_f ?_⟩
        refine (sameWords_ok s102 want' m' w119 (r117.no c119).rd (x117.want.no c119).rd).mono ?_
        rintro e w123 ⟨rfl, c123⟩
        refine ⟨_, rfl, trN c119 c123, brB_f ?_⟩
        have k123 := trN c119 c123
        refine (wlen_any (x117.dic.no k123)).mono ?_
        rintro e w126 ⟨rfl, rfl⟩
        refine ⟨_, rfl, k123, ?_⟩
        rw [hw98, show ((m'.length : Int) != (m'.length : Int)) = false by simp]
        refine brB_f ?_
        have hc : ∀ {j : Nat} {v : Value}, (wdC ((fnd ask m').getD wd0))[j]? = some v → held (fun w' => Chg No w117 w') ⟨b112, j, none⟩ v := fun hj => Ob.held (fun w' hw' => o117.no hw') hj
        rcases hn with ⟨rfl, hf⟩ | ⟨j, x, rfl, hj, hf⟩
        · rw [hf]
          refine brB_f (brB_f (brB_t ?_))
          rw [hf] at hc
          refine ⟨_, _, _, _, hc rfl, hc rfl, hc rfl, hc rfl, k123, false, w123, ?_, rfl, k123⟩
          exact wd_nsame wd0 _ _ w123
        · rw [hf, show (!(Option.isSome (some x) == decide ((j : Int) ≥ 0))) = false by simp]
          refine brB_f (brB_t ?_)
          rw [hf] at hc
          refine ⟨_, _, _, _, hc rfl, hc rfl, hc rfl, hc rfl, ?_⟩
          rw [← hw98]
          refine (x117.want.rd).ix (i := (j : Int)) (by omega) (by rw [Int.toNat_natCast]; exact hj) fun a ha' hcell => ?_
          have hh : ∀ {i : Nat} {u : Value}, (wdE.e x)[i]? = some u → held (fun w' => Chg No w117 w') ((a.add (Int.toNat (j : Int) * wdE.sz)).add i) u := fun hu w' hw' => by
            refine hw'.cell (hcell _ _ hu) ?_
            exact fun h => h
          have h0 := hh (i := 0) rfl
          rw [add0] at h0
          refine ⟨_, _, _, _, h0, hh (i := 1) rfl, hh (i := 2) rfl, hh (i := 3) rfl, false, w123, wd_nsame x _ _ w123, k123, ?_⟩
          exact brB_f (brB_f ⟨rfl, k123⟩)
      · -- the switch
        refine brB_of (fun h1 => ?_) (fun h1 => brB_of (fun h2 => ?_) (fun h2 => brB_of (fun h3 => ?_) (fun h3 => ?_)))
        · -- Add
          refine ⟨fun s c w' => c = addC m o.x ∧ WPx B D w w' pn s m (addL m o.x) b18 ∧ Chg No w31 w', ?_, o.x.name, o31.cell rfl, ?_⟩
          · rintro s c w57 ⟨rfl, x57, c57⟩
            have o57 := o31.no c57
            refine ⟨_, _, _, _, o57.cell rfl, o57.cell rfl, o57.cell rfl, o57.cell rfl, ?_⟩
            refine (x57.add o.x (by omega)).mono ?_
            rintro e w64 ⟨rfl, x64, _⟩
            exact ⟨_, rfl, pn, _, D, _, rfl, by simp, x64, hg.add o.x⟩
          refine (ref_word o.x.name (by omega) w31).mono ?_
          rintro e w36 ⟨rfl, rfl⟩
          refine ⟨_, rfl, brB_of (fun hw => ?_) (fun hw => ?_)⟩
          · obtain ⟨e1, e2⟩ := addCL_out (l := m) (x := o.x) (by simpa using hw)
            rw [e1, e2]
            exact ⟨rfl, x31, Chg.refl _ _⟩
          have hw : wordOk o.x.name = true := by simpa using hw
          rw [hwl]
          refine brB_of (fun hm => ?_) (fun hm => ?_)
          · obtain ⟨e1, e2⟩ := addCL_full (l := m) (x := o.x) hw (by have := of_decide_eq_true hm; omega)
            rw [e1, e2]
            exact ⟨rfl, x31, Chg.refl _ _⟩
          obtain ⟨e1, e2⟩ := addCL_in (l := m) (x := o.x) hw (by have := of_decide_eq_false hm; omega)
          rw [e1, e2]
          intro w39 hw39
          have c39 : Chg No w31 w39 := by rw [hw39]; exact Chg.drew _ _
          have x39 := x31.no c39
          have hc : ∀ {j : Nat} {v : Value}, (opvC o)[j]? = some v → held (fun w' => Chg No w31 w') ⟨b29, j, none⟩ v := fun hj => Ob.held (fun w' hw' => o31.no hw') hj
          refine ⟨fun w' => Chg No w31 w', c39, _, _, _, _, hc rfl, hc rfl, hc rfl, hc rfl, ?_, ?_⟩
          · refine appNil rfl x39.want.rd (by omega) ?_
            intro s45 w46 h46 c46 b46
            refine ⟨trN c39 c46, fun b47 w48 hb47 hw48 => ?_⟩
            have c48 : Chg No w46 w48 := by rw [hw48]; exact Chg.alloc _ _ _
            have l48 : Ow wdE w48 ⟨some ⟨b47, 0, none⟩, 1, 1⟩ [o.x] := by
              rw [hw48, hb47]; exact Ow.lit (E := wdE) w46 [o.x] (wdC o.x) (by rw [fl_one]; rfl) (by show 1 ≤ maxLen; unfold maxLen; omega)
            have k48 := trN (trN c39 c46) c48
            refine ⟨k48, appOne rfl rfl (h46.no c48) l48.rd (by omega) ?_⟩
            intro s49 w50 h50 c50 b50
            have z46 := c46.size
            have z48 := c48.size
            have c' : Chg No w39 w50 := (trN c46 c48).trans c50 (fun _ _ h => h) (fun j hj he => by have := b46 j he; omega)
            refine ⟨rfl, x39.new c' h50 (fun j hj => ?_), trN c39 c'⟩
            rcases b50 with hh | hh
            · rw [hh] at hj; exact b46 j hj
            · have := Option.some.inj (hh.symm.trans hj); omega
          · intro b51 w52 hb51 hw52
            have c52 : Chg No w39 w52 := by rw [hw52]; exact Chg.alloc _ _ _
            have l52 : Ow wdE w52 ⟨some ⟨b51, 0, none⟩, 1, 1⟩ [o.x] := by
              rw [hw52, hb51]; exact Ow.lit (E := wdE) w39 [o.x] (wdC o.x) (by rw [fl_one]; rfl) (by show 1 ≤ maxLen; unfold maxLen; omega)
            refine ⟨trN c39 c52, appNil rfl (x39.want.no c52).rd (by omega) ?_⟩
            intro s53 w54 h54 c54 b54
            refine ⟨trN (trN c39 c52) c54, appOne rfl rfl h54 (l52.no c54).rd (by omega) ?_⟩
            intro s55 w56 h56 c56 b56
            have z52 := c52.size
            have z54 := c54.size
            have c' : Chg No w39 w56 := (trN c52 c54).trans c56 (fun _ _ h => h) (fun j hj he => by have := b54 j he; omega)
            refine ⟨rfl, x39.new c' h56 (fun j hj => ?_), trN c39 c'⟩
            rcases b56 with hh | hh
            · rw [hh] at hj; have := b54 j hj; omega
            · have := Option.some.inj (hh.symm.trans hj); omega
        · -- Cut
          refine ⟨fun b w' => b = decide (0 ≤ o.n ∧ o.n ≤ m.length) ∧ w' = w31, ?_, ?_⟩
          · rintro b w69 ⟨rfl, rfl⟩
            refine ⟨_, o31.cell rfl, ?_⟩
            refine (x31.cut o.n).mono ?_
            rintro e w72 ⟨rfl, x72, c72⟩
            refine ⟨_, rfl, brB_of (fun hm => ?_) (fun hm => ?_)⟩
            · have hm := of_decide_eq_true hm
              rw [if_pos hm] at x72
              have o72 : Ob w72 b29 (opvC o) T_hollowaylaw7_Op := o31.chg c72 (fun hb => by have := (hx.bB b29 hb).2.1; omega)
              refine ⟨_, o72.cell rfl, hm.1, by omega, fun s76 hs76 => ?_⟩
              rw [sub0] at hs76
              have ht := x72.want.rd.take (n := o.n.toNat) (by omega)
              refine appNil rfl (t := s76) (by rw [hs76]; exact ht) (by rw [List.length_take]; omega) ?_
              intro s77 w78 h78 c78 b78
              exact ⟨pn, _, D, _, rfl, by simp, x72.new c78 h78 b78, hg.take _⟩
            · have hm := of_decide_eq_false hm
              rw [if_neg hm] at x72
              exact ⟨pn, _, D, _, rfl, by simp, x72, hg⟩
          · refine ⟨_, o31.cell rfl, brB_of (fun h0 => ⟨_, o31.cell rfl, ?_, rfl⟩) (fun h0 => ⟨?_, rfl⟩)⟩
            · have h0 := of_decide_eq_true h0
              rw [hwl, Bool.eq_iff_iff]; simp; omega
            · have h0 := of_decide_eq_false h0
              symm; apply decide_eq_false; omega
        · -- Immediate
          refine x31.imm.mono ?_
          rintro e w80 ⟨rfl, x80, c80⟩
          refine ⟨_, rfl, ?_⟩
          rw [hwl]
          have hd : decide ((m.length : Int) > 0) = decide (0 < m.length) := by rw [Bool.eq_iff_iff]; simp
          rw [hd]
          refine brB_of (fun h0 => ?_) (fun h0 => ?_)
          · have h0 := of_decide_eq_true h0
            refine appNil rfl x80.want.rd (by omega) ?_
            intro s82 w83 h83 c83 b83
            have x83 := x80.new c83 h83 b83
            have hl83 := h83.rd.len
            have hi : (wr ((s82.len : Int) - 1)) = (m.length : Int) - 1 := by rw [hl83, wr_of (by omega) (by omega)]
            rw [hi]
            obtain ⟨x, hx'⟩ : ∃ x, m[m.length - 1]? = some x := ⟨_, List.getElem?_eq_getElem (by omega)⟩
            obtain ⟨a84, ha84, _⟩ := h83.rd.at hx'
            rw [show Int.toNat ((m.length : Int) - 1) = m.length - 1 by omega]
            obtain ⟨e1, e2⟩ := h83.set1 ha84 (k := m.length - 1) (j := 3) (x' := { x with imm := true }) (u := .bool true) hx' (by decide) rfl
            refine ⟨a84, ha84, by omega, by omega, e1, fun w85 hw85 => ?_⟩
            have hb := blk_ptr ha84
            have c85 : Chg (fun k => k = a84.block) w83 w85 := by rw [hw85]; exact Chg.st (S := fun k => k = a84.block) (by rw [add_block, add_block])
            have z83 := b83 _ hb
            have hl : immL m = m.set (m.length - 1) { x with imm := true } := by
              unfold immL; rw [List.getLast?_eq_getElem?, hx']
            have c' : Chg No w80 w85 := c83.trans c85 (fun _ _ h => h) (fun j hj he => by omega)
            refine ⟨pn, _, D, immL m, rfl, by simp, x80.new c' ?_ b83, hg.imm⟩
            rw [hw85, hl]; exact e2
          · have h0 : m = [] := List.eq_nil_of_length_eq_zero (by have := of_decide_eq_false h0; omega)
            subst h0
            exact ⟨pn, _, D, [], rfl, by simp, x80, hg⟩
        · -- Copy
          refine (wcopy_any x31.dic (by omega)).mono ?_
          rintro e w87 ⟨q, rfl, h87, c87⟩
          have x87 := x31.no c87
          refine ⟨_, rfl, brB_f ?_⟩
          refine (x87.add ⟨bs [97, 110, 111, 116, 104, 101, 114], 0, 0, false⟩ (by decide)).mono ?_
          rintro e w90 ⟨rfl, x90, c90⟩
          refine ⟨_, rfl, x90.imm.mono ?_⟩
          rintro e w93 ⟨rfl, x93, c93⟩
          refine ⟨_, rfl, (x93.cut 3).mono ?_⟩
          rintro e w96 ⟨rfl, x96, c96⟩
          refine ⟨_, rfl, ?_⟩
          have z87 := c87.size
          have z90 := c90.size
          have z93 := c93.size
          have z96 := c96.size
          have z31 := x31.chg.size
          have q87 := h87.nar
          have nB : ∀ k, w31.heap.size ≤ k → ¬ B k := fun k h hb => by have := (x31.bB k hb).2.1; omega
          have q90 := q87.chg c90 (fun k hk hb => nB k hk.1 hb)
          have q93 := q90.chg c93 (fun k hk hb => by
            obtain ⟨h | h, _⟩ := hb
            · exact nB k hk.1 h
            · omega)
          have q96 := q93.chg c96 (fun k hk hb => by
            obtain ⟨⟨h | h, _⟩ | h, _⟩ := hb
            · exact nB k hk.1 h
            · omega
            · omega)
          exact ⟨q, _, D, m, rfl, rfl, x96.swap q96 (fun k hk => ⟨by omega, by omega, fun hd => by have := (x31.bD k hd).2; omega, fun hs => by have := x31.want.lt hs; omega⟩), hg⟩
    · -- the end
      refine (findN_any _ _).mono ?_
      rintro e w154 ⟨rfl, c154⟩
      have x154 := hx.no c154
      refine ⟨_, _, _, _, _, rfl, ?_⟩
      intro b160 w161 hb160 hw161
      obtain ⟨f3, f4⟩ := wput wd0 hb160 hw161
      refine ⟨f3, fun w162 hw162 => ?_⟩
      obtain ⟨_, c162⟩ := f4 w162 hw162
      have x162 := x154.no c162
      refine (addN_any ⟨bs [120], 0, 0, false⟩ _).mono ?_
      rintro e w164 ⟨rfl, c164⟩
      have x164 := x162.no c164
      refine ⟨_, rfl, brB_t (brB_t ?_)⟩
      refine (immN_any _).mono ?_
      rintro e w167 ⟨rfl, rfl⟩
      refine ⟨_, rfl, brB_t ?_⟩
      refine (cutN_any _ _).mono ?_
      rintro e w170 ⟨rfl, rfl⟩
      refine ⟨_, rfl, brB_t ?_⟩
      refine (lenN_any _).mono ?_
      rintro e w173 ⟨rfl, rfl⟩
      refine ⟨_, rfl, ?_⟩
      refine (allN_any _).mono ?_
      rintro e w176 ⟨rfl, rfl⟩
      refine ⟨_, rfl, brB_t ?_⟩
      refine (copyN_any _).mono ?_
      rintro e w179 ⟨rfl, rfl⟩
      refine ⟨_, rfl, brB_t ?_⟩
      refine (wsame_any _ _ (by omega) _).mono ?_
      rintro e w182 ⟨rfl, q182⟩
      have x182 := x164.no (Chg.qt q182)
      refine ⟨_, rfl, ?_⟩
      refine (refSame_any _ _ _ (by omega) (by omega)).mono ?_
      rintro e w185 ⟨rfl, c185⟩
      have x185 := x182.no c185
      refine ⟨_, rfl, ?_⟩
      rw [beq_self_eq_true]
      refine brB_t ?_
      refine (right_name _ (by omega) _).mono ?_
      rintro e w188 ⟨rfl, rfl⟩
      refine ⟨_, rfl, ?_⟩
      refine (ref_word _ (by omega) _).mono ?_
      rintro e w191 ⟨rfl, rfl⟩
      refine ⟨_, rfl, ?_⟩
      rw [beq_self_eq_true]
      refine brB_t ?_
      refine x185.book.apart.mono ?_
      rintro e w194 ⟨rfl, c194⟩
      have z := x185.chg.size
      exact ⟨_, rfl, rfl, x185.chg.trans c194 (fun _ _ h => h) (fun k hk hd => by have := (x185.bD k hd).1; omega)⟩
  · refine brB_of (fun h => ⟨(fun h => by cases h), Chg.refl _ _⟩) (fun h1 => brB_of (fun h => ⟨(fun h => by cases h), Chg.refl _ _⟩) (fun h2 => brB_of (fun h => ⟨(fun h => by cases h), Chg.refl _ _⟩) (fun h3 => ?_)))
    refine (alive7_any _).mono ?_
    rintro e w5 ⟨rfl, c5⟩
    refine ⟨_, rfl, fun _ => ?_, c5⟩
    have h1 := of_decide_eq_false h1
    have h2 := of_decide_eq_false h2
    have h3 := of_decide_eq_false h3
    omega
end Go.Proofs.Ytijoigpggphajaa
