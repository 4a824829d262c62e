/- The walk of ForwardHolds. -/
import Derived.Test.YtblmoilneiffgaaJF
import Derived.Test.YtblmoilneiffgaaJ7
import Derived.Test.YtblmoilneiffgaaJ3

/- ForwardHolds: the walk. -/
set_option maxRecDepth 100000
namespace Go.Proofs.Ytblmoilneiffgaa
open Go.RowKit

theorem forwardHolds_walk {D D' : Nat → Prop} (t : TrP) (S : StC) {v : TrG} {s : StV} (wS : Sl) (wl : List Int) (w : World) (ht : TrIs D w t v) (h : StIs D' w S s) (hwa : Rd intE w wS wl) (hir : ∀ i ∈ v.ins, Cn.In i.b) (hi1 : InL s.mem) (hi2 : InL s.stack) (hi3 : InL s.back) :
    Calls Try.prog fn_hollowaylaw18_ForwardHolds #[.agg (trP t).toArray, .agg (stC S).toArray, wS.val] w fun e w' => e = .returned (.bool true) ∧ Chg No w w' := by
  refine (hollowaylaw18_ForwardHolds_lift (K := fun v w' => v = .bool true ∧ Chg No w w') ?_).mono (by rintro e w' ⟨v, rfl, rfl, h⟩; exact ⟨rfl, h⟩)
  unfold hollowaylaw18_ForwardHolds_sh
  have ok := fwd_ok
  intro b21 w22 hb21 hw22 b23 w24 hb23 hw24
  have c22 := al hw22
  have c24 := al hw24
  have z22 : w22.heap.size = w.heap.size + 1 := by rw [hw22]; simp
  have z24 : w24.heap.size = w22.heap.size + 1 := by rw [hw24]; simp
  have o21 : Ob w24 b21 (trP t) T_api_Trace := by
    have : Ob w22 b21 (trP t) T_api_Trace := by rw [hw22, hb21]; exact Ob.new w (trP t) T_api_Trace
    exact this.no c24
  have o23 : Ob w24 b23 (stC S) T_api_State := by rw [hw24, hb23]; exact Ob.new w22 (stC S) T_api_State
  have k24 := trN c22 c24
  obtain ⟨m1, m2, m3, m4, m5, m6, m7⟩ := h.nums
  obtain ⟨n1, n2, n3, n4, n5, n6⟩ := ht.nums
  refine ⟨fun b w' => (b = false → LightS s ∧ RightV v) ∧ Chg No w24 w', ?_, ?_⟩
  · rintro b w65 ⟨hb, c65⟩
    have k65 := trN k24 c65
    refine brB_of (fun _ => ?_) (fun hf => ?_)
    · refine (alive18_any _).mono ?_
      rintro e w68 ⟨rfl, c68⟩
      exact ⟨_, rfl, rfl, trN k65 c68⟩
    obtain ⟨hL, hR⟩ := hb hf
    have gs := hL.right.st
    have gb := hL.right.bk
    have gm := hL.me
    obtain ⟨q1, q2, q3, q4, q5, q6, q7⟩ := hR.head
    have p21 := o21.no c65
    have p23 := o23.no c65
    have z65 := k65.size
    have z65' := c65.size
    refine ⟨t.start, p21.cell rfl, p23.wr (by simp [stC]), fun w71 hw71 => ?_⟩
    obtain ⟨o71, c71⟩ := p23.up (k := 0) (vs := [.int .i64 t.start]) (cs' := stC { S with ip := t.start }) (by simp [stC]) rfl hw71
    refine ⟨o71.wr (by simp [stC]), fun w72 hw72 => ?_⟩
    obtain ⟨o72, c72⟩ := o71.up (k := 8) (vs := [.int .i64 0]) (cs' := stC { S with ip := t.start, status := 0 }) (by simp [stC]) rfl hw72
    have cX : Chg (fun k => k = b23) w65 w72 := c71.trans c72 (fun _ _ h => h) (fun _ _ h => h)
    have k72 : Chg No w w72 := k65.trans cX (fun _ _ h => h) (fun k hk he => by omega)
    have r21 := p21.chg cX (fun he => by omega)
    obtain ⟨S1, hS1⟩ : ∃ S1 : StC, S1 = { S with ip := t.start, status := 0 } := ⟨_, rfl⟩
    obtain ⟨s1, hs1⟩ : ∃ s1 : StV, s1 = { s with ip := v.start, status := 0 } := ⟨_, rfl⟩
    have hst : StIs D' w72 S1 s1 := by
      rw [hS1, hs1]
      exact ⟨⟨n1, m2, m3, m4, m5, rfl, m7⟩, h.st.no k72, h.bk.no k72, h.me.no k72, h.stD, h.bkD, h.meD⟩
    have hlen1 : s1.stack.length ≤ 48 ∧ s1.back.length ≤ 48 ∧ s1.mem.length ≤ 700 := by rw [hs1]; exact ⟨gs, gb, gm⟩
    have htx : TxOk s1 := by rw [hs1]; exact hL.tx
    have j1 : InL s1.mem := by rw [hs1]; exact hi1
    have j2 : InL s1.stack := by rw [hs1]; exact hi2
    have j3 : InL s1.back := by rw [hs1]; exact hi3
    rw [← hS1] at o72
    refine ⟨_, _, _, _, _, _, _, _, _, r21.cell rfl, r21.cell rfl, r21.cell rfl, r21.cell rfl, r21.cell rfl, r21.cell rfl, r21.cell rfl, r21.cell rfl, r21.cell rfl, ?_⟩
    refine ⟨_, _, _, _, _, _, _, _, _, _, o72.cell rfl, o72.cell rfl, o72.cell rfl, o72.cell rfl, o72.cell rfl, o72.cell rfl, o72.cell rfl, o72.cell rfl, o72.cell rfl, o72.cell rfl, ?_⟩
    refine (rmay_any t S1 (ht.no k72) hst (by omega) (by omega) (by omega) (by omega)).mono ?_
    rintro e w93 ⟨rfl, c93⟩
    have k93 := trN k72 c93
    refine ⟨_, rfl, brB_of (fun _ => ⟨rfl, k93⟩) (fun hm => ?_)⟩
    have hm : mayV v s1 = true := by simpa using hm
    have s21 := r21.no c93
    have s23 := o72.no c93
    refine ⟨_, _, _, _, _, _, _, _, _, s21.cell rfl, s21.cell rfl, s21.cell rfl, s21.cell rfl, s21.cell rfl, s21.cell rfl, s21.cell rfl, s21.cell rfl, s21.cell rfl, (wdo_any t (ht.no k93)).mono ?_⟩
    rintro e w105 ⟨r, rfl, t', rfl, c105, h105⟩
    have h105 : TrOw (fun k => w93.heap.size ≤ k) w105 t' (fwdT v) := by
      rcases h105 with ⟨hno, _⟩ | ⟨_, h⟩
      · exact absurd hR hno
      · exact h
    have k105 := trN k93 c105
    refine ⟨_, _, _, _, _, _, _, _, _, rfl, ?_⟩
    intro b115 w116 hb115 hw116
    have hn := fun (w2 : World) => newOb (w2 := w2) (T := T_api_Trace) (trP ⟨0, 0, 0, 0, 0, nilS, nilS, 0, nilS⟩) (trP t') rfl hb115 hw116
    refine ⟨(hn w116).1, fun w117 hw117 => ?_⟩
    obtain ⟨o117, c117⟩ := (hn w117).2 hw117
    have k117 := trN k105 c117
    have ha : TrIs _ w117 t' (fwdT v) := h105.is.no c117
    have hfR := ok.right v hR
    have hfm : mayV (fwdT v) s1 = true := (ok.may v s1).trans hm
    obtain ⟨u1, u2, u3, u4, u5, u6, u7⟩ := hfR.head
    have c93117 := trN c105 c117
    have t21 := s21.no c93117
    have t23 := s23.no c93117
    have hst117 := hst.no (trN c93 c93117)
    refine ⟨fun b w' => b = false ∧ Chg No w117 w', ?_, ?_⟩
    · rintro b w152 ⟨rfl, c152⟩
      have k152 := trN k117 c152
      have x21 := t21.no c152
      have x23 := t23.no c152
      have x115 := o117.no c152
      refine brB_f ⟨_, _, _, _, _, _, _, _, _, x21.cell rfl, x21.cell rfl, x21.cell rfl, x21.cell rfl, x21.cell rfl, x21.cell rfl, x21.cell rfl, x21.cell rfl, x21.cell rfl, ?_⟩
      refine ⟨_, _, _, _, _, _, _, _, _, _, x23.cell rfl, x23.cell rfl, x23.cell rfl, x23.cell rfl, x23.cell rfl, x23.cell rfl, x23.cell rfl, x23.cell rfl, x23.cell rfl, x23.cell rfl, ?_⟩
      refine (rrun_any t S1 (ht.no k152) hR (hst117.no c152) (hwa.no k152) hm (by omega) htx (fun i hi _ => hir i hi) j1 j2 j3).mono ?_
      rintro e w174 ⟨Sx, rfl, hSx, c174⟩
      refine ⟨_, _, _, _, _, _, _, _, _, _, _, _, rfl, ?_⟩
      intro b187 w188 hb187 hw188
      have hn := fun (w2 : World) => newOb (w2 := w2) (T := T_api_State) (stC st0) (stC Sx) rfl hb187 hw188
      refine ⟨(hn w188).1, fun w189 hw189 => ?_⟩
      obtain ⟨o189, c189⟩ := (hn w189).2 hw189
      have c152189 := trN c174 c189
      have k189 := trN k152 c152189
      have y115 := x115.no c152189
      have y23 := x23.no c152189
      refine ⟨_, _, _, _, _, _, _, _, _, y115.cell rfl, y115.cell rfl, y115.cell rfl, y115.cell rfl, y115.cell rfl, y115.cell rfl, y115.cell rfl, y115.cell rfl, y115.cell rfl, ?_⟩
      refine ⟨_, _, _, _, _, _, _, _, _, _, y23.cell rfl, y23.cell rfl, y23.cell rfl, y23.cell rfl, y23.cell rfl, y23.cell rfl, y23.cell rfl, y23.cell rfl, y23.cell rfl, y23.cell rfl, ?_⟩
      refine (rrun_any t' S1 ((ha.no c152).no c152189) hfR ((hst117.no c152).no c152189) (hwa.no k189) hfm (by omega) htx (ok.inT v hR (fun i hi _ => hir i hi)) j1 j2 j3).mono ?_
      rintro e w210 ⟨Sy, rfl, hSy, c210⟩
      refine ⟨_, _, _, _, _, _, _, _, _, _, _, _, rfl, ?_⟩
      intro b223 w224 hb223 hw224
      have hn := fun (w2 : World) => newOb (w2 := w2) (T := T_api_State) (stC st0) (stC Sy) rfl hb223 hw224
      refine ⟨(hn w224).1, fun w225 hw225 => ?_⟩
      obtain ⟨o225, c225⟩ := (hn w225).2 hw225
      intro w226 hw226
      have c226 := dw hw226
      have c189226 := trN (trN c210 c225) c226
      have k226 := trN k189 c189226
      have c152226 := trN c152189 c189226
      have z187 := o189.no c189226
      have z223 := o225.no c226
      have v21 := x21.no c152226
      have v115 := x115.no c152226
      have hx : StIs Any w226 Sx (endV v (runG v s1 wl)) := stis hSx.nums ((hSx.st.no c189).no c189226).rd ((hSx.bk.no c189).no c189226).rd ((hSx.me.no c189).no c189226).rd
      have hy : StIs Any w226 Sy (endV v (runG v s1 wl)) := by
        obtain ⟨g1, _, _⟩ := ok.runs v s1 wl hR
        rw [← g1]
        exact stis hSy.nums ((hSy.st.no c225).no c226).rd ((hSy.bk.no c225).no c226).rd ((hSy.me.no c225).no c226).rd
      have d187 : ∀ {j : Nat} {u : Value}, (stC Sx)[j]? = some u → held (fun w' => Chg No w226 w') ⟨b187, j, none⟩ u := fun h => Ob.held (fun w' c => z187.no c) h
      have d223 : ∀ {j : Nat} {u : Value}, (stC Sy)[j]? = some u → held (fun w' => Chg No w226 w') ⟨b223, j, none⟩ u := fun h => Ob.held (fun w' c => z223.no c) h
      refine ⟨fun w' => Chg No w226 w', Chg.refl _ _, _, _, _, _, _, _, _, _, _, _, d187 rfl, d187 rfl, d187 rfl, d187 rfl, d187 rfl, d187 rfl, d187 rfl, d187 rfl, d187 rfl, d187 rfl, ?_⟩
      refine ⟨_, _, _, _, _, _, _, _, _, _, d223 rfl, d223 rfl, d223 rfl, d223 rfl, d223 rfl, d223 rfl, d223 rfl, d223 rfl, d223 rfl, d223 rfl, (sameState_any Sx Sy hx hy).mono ?_⟩
      rintro e w249 ⟨rfl, c249⟩
      obtain ⟨g1, g2, g3⟩ := ok.runs v s1 wl hR
      rw [g2]
      refine ⟨_, rfl, c249, brB_t ?_⟩
      rw [show (decide ((runG v s1 wl).2.hit ≥ 0) == decide ((runG v s1 wl).2.hit ≥ 0)) = true by simp]
      obtain ⟨x0, x1⟩ := runG_out hR s1 wl
      obtain ⟨y0, y1⟩ := runG_out hfR s1 wl
      have gip : (outAt (fwdT v) (runG (fwdT v) s1 wl).1).ip = (outAt v (runG v s1 wl).1).ip := by
        have := congrArg StV.ip g1
        exact this
      obtain ⟨os, hos, hov⟩ := ht.outs
      obtain ⟨os', hos', hov'⟩ := h105.outs
      obtain ⟨o, ho⟩ : ∃ o, os[(runG v s1 wl).1.toNat]? = some o := ⟨_, List.getElem?_eq_getElem (by rw [hov.1]; omega)⟩
      obtain ⟨o', ho'⟩ : ∃ o, os'[(runG (fwdT v) s1 wl).1.toNat]? = some o := ⟨_, List.getElem?_eq_getElem (by rw [hov'.1]; omega)⟩
      obtain ⟨e1, e2, _⟩ := hov.2 _ _ _ ho (outAt_ix x0 x1)
      obtain ⟨f1, f2, _⟩ := hov'.2 _ _ _ ho' (outAt_ix y0 y1)
      have c105226 : Chg No w105 w226 := trN (trN c117 c152) c152226
      have d21 : ∀ {j : Nat} {u : Value}, (trP t)[j]? = some u → held (fun w' => Chg No w226 w') ⟨b21, j, none⟩ u := fun h => Ob.held (fun w' c => v21.no c) h
      have d115 : ∀ {j : Nat} {u : Value}, (trP t')[j]? = some u → held (fun w' => Chg No w226 w') ⟨b115, j, none⟩ u := fun h => Ob.held (fun w' c => v115.no c) h
      have ix : ∀ {G : Addr → Prop}, (∀ a, (∀ {j : Nat} {u : Value}, (ouC o)[j]? = some u → held (fun w' => Chg No w226 w') (Addr.add (Addr.add a (Int.toNat (runG v s1 wl).1 * 4)) j) u) → G a) → ∃ a : Addr, t.outs.ptr = some a ∧ 0 ≤ (runG v s1 wl).1 ∧ (runG v s1 wl).1 < (t.outs.len : Int) ∧ G a := fun kk =>
        (hos.no k226).ix x0 ho fun a ha hcell => kk a fun hj w' c => by
          obtain ⟨a2, ha2, hc2⟩ := ((hos.no k226).no c).at ho
          rw [ha] at ha2; cases ha2
          exact hc2 _ _ hj
      have ix' : ∀ {G : Addr → Prop}, (∀ a, (∀ {j : Nat} {u : Value}, (ouC o')[j]? = some u → held (fun w' => Chg No w226 w') (Addr.add (Addr.add a (Int.toNat (runG (fwdT v) s1 wl).1 * 4)) j) u) → G a) → ∃ a : Addr, t'.outs.ptr = some a ∧ 0 ≤ (runG (fwdT v) s1 wl).1 ∧ (runG (fwdT v) s1 wl).1 < (t'.outs.len : Int) ∧ G a := fun kk =>
        (hos'.rd.no c105226).ix y0 ho' fun a ha hcell => kk a fun hj w' c => by
          obtain ⟨a2, ha2, hc2⟩ := ((hos'.rd.no c105226).no c).at ho'
          rw [ha] at ha2; cases ha2
          exact hc2 _ _ hj
      refine brB_t ⟨t.outs, d21 rfl, ix fun a q => ⟨o.steps, q rfl, t'.outs, d115 rfl, ix' fun a' q' => ⟨o'.steps, q' rfl, ?_⟩⟩⟩
      rw [show (o.steps == o'.steps) = true by rw [e2, f2, g3]; simp]
      refine brB_t ⟨t.outs, d21 rfl, ix fun a q => ⟨o.ip, by have := q (j := 0) rfl; rw [add0] at this; exact this, t'.outs, d115 rfl, ix' fun a' q' => ⟨o'.ip, by have := q' (j := 0) rfl; rw [add0] at this; exact this, ?_, trN k226 c249⟩⟩⟩
      rw [e1, f1, gip]; simp
    · refine ⟨_, _, _, _, _, _, _, _, _, o117.cell rfl, o117.cell rfl, o117.cell rfl, o117.cell rfl, o117.cell rfl, o117.cell rfl, o117.cell rfl, o117.cell rfl, o117.cell rfl, (rright_any t' ha).mono ?_⟩
      rintro e w128 ⟨b, rfl, hb, c128⟩
      rw [hb.2 hfR]
      have y115 := o117.no c128
      have y23 := t23.no c128
      refine ⟨_, rfl, brB_f ⟨_, _, _, _, _, _, _, _, _, y115.cell rfl, y115.cell rfl, y115.cell rfl, y115.cell rfl, y115.cell rfl, y115.cell rfl, y115.cell rfl, y115.cell rfl, y115.cell rfl, ?_⟩⟩
      refine ⟨_, _, _, _, _, _, _, _, _, _, y23.cell rfl, y23.cell rfl, y23.cell rfl, y23.cell rfl, y23.cell rfl, y23.cell rfl, y23.cell rfl, y23.cell rfl, y23.cell rfl, y23.cell rfl, ?_⟩
      refine (rmay_any t' S1 (ha.no c128) (hst117.no c128) (by omega) (by omega) (by omega) (by omega)).mono ?_
      rintro e w150 ⟨rfl, c150⟩
      rw [hfm]
      exact ⟨_, rfl, rfl, trN c128 c150⟩
  · refine ⟨_, _, _, _, _, _, _, _, _, o21.cell rfl, o21.cell rfl, o21.cell rfl, o21.cell rfl, o21.cell rfl, o21.cell rfl, o21.cell rfl, o21.cell rfl, o21.cell rfl, (light14_any t (ht.no k24)).mono ?_⟩
    rintro e w35 ⟨b, rfl, hb, c35⟩
    have p23 := o23.no c35
    refine ⟨b, rfl, brB_of (fun _ => ⟨(fun h => by cases h), c35⟩) (fun hb0 => ?_)⟩
    refine ⟨_, _, _, _, _, _, _, _, _, _, p23.cell rfl, p23.cell rfl, p23.cell rfl, p23.cell rfl, p23.cell rfl, p23.cell rfl, p23.cell rfl, p23.cell rfl, p23.cell rfl, p23.cell rfl, (light9_any S (h.no (trN k24 c35))).mono ?_⟩
    rintro e w48 ⟨b2, rfl, hb2, c48⟩
    have c48' := trN c35 c48
    have p21 := o21.no c48'
    refine ⟨b2, rfl, brB_of (fun _ => ⟨(fun h => by cases h), c48'⟩) (fun hb20 => brB_of (fun _ => ⟨(fun h => by cases h), c48'⟩) (fun _ => ?_))⟩
    have hL := hb2.1 (by simpa using hb20)
    refine ⟨_, _, _, _, _, _, _, _, _, p21.cell rfl, p21.cell rfl, p21.cell rfl, p21.cell rfl, p21.cell rfl, p21.cell rfl, p21.cell rfl, p21.cell rfl, p21.cell rfl, (rright_any t (ht.no (trN k24 c48'))).mono ?_⟩
    rintro e w60 ⟨b3, rfl, hb3, c60⟩
    refine ⟨b3, rfl, brB_of (fun _ => ⟨(fun h => by cases h), trN c48' c60⟩) (fun hb30 => ?_)⟩
    have hR := hb3.1 (by simpa using hb30)
    refine (alive18_any _).mono ?_
    rintro e w63 ⟨rfl, c63⟩
    exact ⟨_, rfl, fun _ => ⟨hL, hR⟩, trN (trN c48' c60) c63⟩
end Go.Proofs.Ytblmoilneiffgaa
