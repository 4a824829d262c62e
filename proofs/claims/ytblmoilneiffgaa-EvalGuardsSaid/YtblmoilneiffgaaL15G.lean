/- The law's first call (chapter 15), EvalGuards. -/
import Derived.Test.YtblmoilneiffgaaLw
import Derived.Test.YtblmoilneiffgaaRfB
import Derived.Test.YtblmoilneiffgaaEvK
import Derived.Test.YtblmoilneiffgaaFoH
import Derived.Test.YtblmoilneiffgaaShHollowaylaw15
set_option maxRecDepth 100000
namespace Go.Proofs.Ytblmoilneiffgaa
open Go.RowKit

/-- Literals. -/
theorem litIns {w w' : World} {b : Nat} (xs : List In5) (cs : List Value) (hcs : cs = fl insE xs) (hb : b = w.heap.size) (hw : w' = World.alloc w (.cells cs.toArray T_api_Ins)) (hl : xs.length ≤ 100) : Ow insE w' ⟨some ⟨b, 0, none⟩, xs.length, xs.length⟩ xs ∧ Chg No w w' := by
  rw [hw, hb]
  exact ⟨Ow.lit (E := insE) w xs cs hcs (by unfold maxLen; omega), Chg.alloc _ _ _⟩
theorem litOus {w w' : World} {b : Nat} (xs : List OuC) (cs : List Value) (hcs : cs = fl ouE xs) (hb : b = w.heap.size) (hw : w' = World.alloc w (.cells cs.toArray T_api_Out)) (hl : xs.length ≤ 100) : Ow ouE w' ⟨some ⟨b, 0, none⟩, xs.length, xs.length⟩ xs ∧ Chg No w w' := by
  rw [hw, hb]
  exact ⟨Ow.lit (E := ouE) w xs cs hcs (by unfold maxLen; omega), Chg.alloc _ _ _⟩
def Any : Nat → Prop := fun _ => True
def outsOf (w : World) (os : List OuC) (vs : List OuV) : Prop := OusIs Any w os vs
theorem ous_nil (w : World) : OusIs Any w [] [] := ⟨rfl, fun i o v h => by simp at h⟩
theorem ous_cons {w : World} {o : OuC} {v : OuV} {os : List OuC} {vs : List OuV} (h1 : o.ip = v.ip ∧ o.steps = v.steps) (h2 : Rd intE w o.stack v.stack) (h3 : Rd intE w o.back v.back) (h : OusIs Any w os vs) : OusIs Any w (o :: os) (v :: vs) := by
  refine ⟨by simp [h.1], fun i o' v' ho hv => ?_⟩
  cases i with
  | zero =>
    have ho : o = o' := by simpa using ho
    have hv : v = v' := by simpa using hv
    subst ho hv
    exact ⟨h1.1, h1.2, h2, h3, fun _ _ => trivial, fun _ _ => trivial⟩
  | succ i => exact h.2 i o' v' (by simpa using ho) (by simpa using hv)
/-- A trace's cells and what it says. -/
theorem tris {w : World} {t : TrP} {v : TrG} {os : List OuC} (h1 : t.start = v.start ∧ t.slots = v.slots ∧ t.backs = v.backs ∧ t.grow = v.grow ∧ t.growBack = v.growBack ∧ t.last = v.last) (h2 : Rd insE w t.ins v.ins) (h3 : Rd ouE w t.outs os) (h4 : OusIs Any w os v.outs) (h5 : Rd intE w t.cells v.cells) : TrIs Any w t v :=
  ⟨h1, h2, ⟨os, h3, h4⟩, h5, fun _ _ => trivial, fun _ _ => trivial, fun _ _ => trivial⟩
theorem stis {w : World} {S : StC} {s : StV} (h : StNums S s) (h1 : Rd intE w S.stack s.stack) (h2 : Rd intE w S.back s.back) (h3 : Rd intE w S.mem s.mem) : StIs Any w S s := ⟨h, h1, h2, h3, fun _ _ => trivial, fun _ _ => trivial, fun _ _ => trivial⟩
def alT : TrG := ⟨5, 1, 0, 0, 0, [⟨2, 0, 0, 0, 0⟩, ⟨4, 11, 0, 0, 0⟩], [⟨7, 2, [1], []⟩], 0, []⟩
def alS : StV := { bootV 20 (bs []) with ip := 5, status := 0, stack := [3, 4] }
theorem al_may : mayV alT alS = true := by decide +kernel
theorem al_run : runG alT alS [] = (0, ⟨alS, [4, 8], -1⟩) := by
  have h1 : runG alT alS [] = goV (idA 2) [] 0 [⟨2, 0, 0, 0, 0⟩, ⟨4, 11, 0, 0, 0⟩] 0 (en0 2 alS) := rfl
  rw [h1, goV_val (s := alS) (v := 4) rfl, goV_val (s := alS) (v := Cn.two 11 4 4) rfl]
  have h2 : Cn.two 11 4 4 = 8 := by decide +kernel
  rw [h2]; rfl
theorem alive15_any (w : World) : Calls Try.prog fn_hollowaylaw15_alive #[] w fun e w' => e = .returned (.bool true) ∧ Chg No w w' := by
  refine (hollowaylaw15_alive_lift (K := fun v w' => v = .bool true ∧ Chg No w w') ?_).mono (by rintro e w' ⟨v, rfl, rfl, h⟩; exact ⟨rfl, h⟩)
  unfold hollowaylaw15_alive_sh
  intro b1 w2 hb1 hw2 b3 w4 hb3 hw4 b5 w6 hb5 hw6 b7 w8 hb7 hw8
  obtain ⟨g2, c2⟩ := litIns alT.ins _ rfl hb1 hw2 (by decide)
  obtain ⟨g4, c4⟩ := lit1 1 hb3 hw4
  obtain ⟨g6, c6⟩ := litOus [⟨7, 2, ⟨some ⟨b3, 0, none⟩, 1, 1⟩, nilS⟩] _ rfl hb5 hw6 (by simp)
  have hn := fun (w2 : World) => newOb (w2 := w2) (T := T_api_Trace) (trP ⟨0, 0, 0, 0, 0, nilS, nilS, 0, nilS⟩) (trP ⟨5, 1, 0, 0, 0, ⟨some ⟨b1, 0, none⟩, 2, 2⟩, ⟨some ⟨b5, 0, none⟩, 1, 1⟩, 0, nilS⟩) rfl hb7 hw8
  refine ⟨(hn w8).1, fun w9 hw9 => ?_⟩
  obtain ⟨o9, c9⟩ := (hn w9).2 hw9
  have k9 : Chg No w w9 := trN (trN (trN c2 c4) c6) c9
  have ht9 : TrIs Any w9 ⟨5, 1, 0, 0, 0, ⟨some ⟨b1, 0, none⟩, 2, 2⟩, ⟨some ⟨b5, 0, none⟩, 1, 1⟩, 0, nilS⟩ alT :=
    tris ⟨rfl, rfl, rfl, rfl, rfl, rfl⟩ (((g2.no c4).no c6).no c9).rd (g6.no c9).rd (ous_cons ⟨rfl, rfl⟩ ((g4.no c6).no c9).rd (Rd.nil _ _) (ous_nil _)) (Rd.nil _ _)
  refine (r9boot_any 20 (bs []) (M := 20) (by decide) w9).mono ?_
  rintro e w11 ⟨S, rfl, hS, c11⟩
  refine ⟨_, _, _, _, _, _, _, _, _, _, rfl, ?_⟩
  intro b22 w23 hb22 hw23
  have hn := fun (w2 : World) => newOb (w2 := w2) (T := T_api_State) (stC st0) (stC S) rfl hb22 hw23
  refine ⟨(hn w23).1, fun w24 hw24 => ?_⟩
  obtain ⟨o24, c24⟩ := (hn w24).2 hw24
  intro b25 w26 hb25 hw26
  obtain ⟨g26, c26⟩ := lit2 3 4 hb25 hw26
  have o26 := o24.no c26
  refine ⟨o26.wr (by simp [stC]), fun w27 hw27 => ?_⟩
  obtain ⟨o27, c27⟩ := o26.up (k := 0) (vs := [.int .i64 5]) (cs' := stC { S with ip := 5 }) (by simp [stC]) rfl hw27
  refine ⟨o27.wr (by simp [stC]), fun w28 hw28 => ?_⟩
  obtain ⟨o28, c28⟩ := o27.up (k := 8) (vs := [.int .i64 0]) (cs' := stC { S with ip := 5, status := 0 }) (by simp [stC]) rfl hw28
  refine ⟨o28.wr (by simp [stC]), fun w29 hw29 => ?_⟩
  obtain ⟨o29, c29⟩ := o28.up (k := 2) (vs := [(⟨some ⟨b25, 0, none⟩, 2, 2⟩ : Sl).val]) (cs' := stC { S with ip := 5, status := 0, stack := ⟨some ⟨b25, 0, none⟩, 2, 2⟩ }) (by simp [stC]) rfl hw29
  have z9 := k9.size
  have z11 := c11.size
  have z24 := c24.size
  have z26 := c26.size
  have cX : Chg (fun k => k = b22) w26 w29 := (c27.trans c28 (fun _ _ h => h) (fun _ _ h => h)).trans c29 (fun _ _ h => h) (fun _ _ h => h)
  have z29 := cX.size
  have hb22lt := o24.lt
  have z23 : b22 = w11.heap.size := hb22
  have k29 : Chg No w w29 := (trN (trN (trN k9 c11) c24) c26).trans cX (fun _ _ h => h) (fun k hk he => by omega)
  have o9' : Ob w29 b7 _ T_api_Trace := (((o9.no c11).no c24).no c26).chg cX (fun he => by have := o9.lt; omega)
  have ht29 : TrIs Any w29 _ alT := ht9.no ((trN (trN c11 c24) c26).trans cX (fun _ _ h => h) (fun k hk he => by omega))
  obtain ⟨m1, m2, m3, m4, m5, m6, m7⟩ := hS.nums
  have hst : StIs Any w29 { S with ip := 5, status := 0, stack := ⟨some ⟨b25, 0, none⟩, 2, 2⟩ } alS := by
    have hme : Rd intE w29 S.mem (bootM 20) := ((hS.me.no c24).no c26).rd.chg cX (fun k hk he => by have := hS.me.lt hk; omega)
    have hbk : Rd intE w29 S.back [] := ((hS.bk.no c24).no c26).rd.chg cX (fun k hk he => by have := hS.bk.lt hk; omega)
    exact stis ⟨rfl, m2, m3, m4, m5, rfl, m7⟩ (g26.rd.chg cX (fun k hk he => by have : b25 = k := Option.some.inj hk; omega)) hbk hme
  refine ⟨_, _, _, _, _, _, _, _, _, o9'.cell rfl, o9'.cell rfl, o9'.cell rfl, o9'.cell rfl, o9'.cell rfl, o9'.cell rfl, o9'.cell rfl, o9'.cell rfl, o9'.cell rfl, ?_⟩
  refine ⟨_, _, _, _, _, _, _, _, _, _, o29.cell rfl, o29.cell rfl, o29.cell rfl, o29.cell rfl, o29.cell rfl, o29.cell rfl, o29.cell rfl, o29.cell rfl, o29.cell rfl, o29.cell rfl, ?_⟩
  have hR : RightV alT := rightB_ok (by decide +kernel)
  refine (erun_any ⟨5, 1, 0, 0, 0, ⟨some ⟨b1, 0, none⟩, 2, 2⟩, ⟨some ⟨b5, 0, none⟩, 1, 1⟩, 0, nilS⟩ { S with ip := 5, status := 0, stack := ⟨some ⟨b25, 0, none⟩, 2, 2⟩ } ht29 hR hst (waS := nilS) (wl := []) (Rd.nil _ _) (by decide) (by decide) (by decide) ⟨by decide, by decide, by decide⟩).mono ?_
  rintro e w50 ⟨S', rfl, hS', c50⟩
  have e1 : outX alT alS [] = 0 := by unfold outX; rw [if_pos al_may, al_run]
  have e2 : outN alT alS [] = 2 := by unfold outN; rw [if_pos al_may, al_run]; rfl
  have e3 : outH alT alS [] = false := by unfold outH; rw [if_pos al_may, al_run]; rfl
  have e4 : outS alT alS [] = { alS with ip := 7, stack := [3, 8] } := by unfold outS; rw [if_pos al_may, al_run]; rfl
  rw [e4] at hS'
  refine ⟨_, _, _, _, _, _, _, _, _, _, _, _, _, rfl, ?_⟩
  rw [e1, e2, e3]
  intro b64 w65 hb64 hw65 b66 w67 hb66 hw67
  have c65 := al hw65
  have c67 := al hw67
  have z65 : w65.heap.size = w50.heap.size + 1 := by rw [hw65]; simp
  have z67 : w67.heap.size = w65.heap.size + 1 := by rw [hw67]; simp
  have o64 : Ob w67 b64 (stC st0) T_api_State := by
    have : Ob w65 b64 (stC st0) T_api_State := by rw [hw65, hb64]; exact Ob.new w50 (stC st0) T_api_State
    exact this.no c67
  have o66 : Ob w67 b66 [.int .i64 0, .int .i64 0, .bool false] T_eval_Done := by rw [hw67, hb66]; exact Ob.new w65 [.int .i64 0, .int .i64 0, .bool false] T_eval_Done
  refine ⟨o64.wr (by simp [stC]), fun w68 hw68 => ?_⟩
  obtain ⟨p64, c68⟩ := o64.up (k := 0) (vs := stC S') (cs' := stC S') (by simp [stC]) rfl hw68
  have p66 := o66.chg c68 (fun he => by omega)
  refine ⟨p66.wr (by simp), fun w69 hw69 => ?_⟩
  obtain ⟨q66, c69⟩ := p66.up (k := 0) (vs := [.int .i64 0, .int .i64 2, .bool false]) (cs' := [.int .i64 0, .int .i64 2, .bool false]) (by simp) rfl hw69
  have q64 := p64.chg c69 (fun he => by omega)
  have cY : Chg (fun k => k = b64 ∨ k = b66) w50 w69 := ((trN c65 c67).trans c68 (U := fun k => k = b64 ∨ k = b66) (fun _ _ h => h.elim) (fun _ _ h => Or.inl h)).trans c69 (fun _ _ h => h) (fun _ _ h => Or.inr h)
  have k69 : Chg No w w69 := (trN k29 c50).trans cY (fun _ _ h => h) (fun k hk he => by have := k29.size; have := c50.size; omega)
  refine ⟨_, _, _, q66.cell rfl, q66.cell rfl, q66.cell rfl, _, _, done_eql _ _ _ _ _ _ _ _ _, ?_⟩
  rw [show decide ((0 : Int) = 0 ∧ (2 : Int) = 2 ∧ false = false) = true by decide]
  have hst' : Rd intE w69 S'.stack [3, 8] := hS'.st.rd.chg cY (fun k hk he => by have := hS'.st.lt hk; omega)
  have hsl : S'.stack.len = 2 := hst'.len
  have hip : S'.ip = 7 := hS'.nums.1
  refine brB_t ⟨S'.ip, q64.cell rfl, ?_⟩
  rw [hip]
  refine brB_t ⟨S'.stack, q64.cell rfl, ?_⟩
  rw [show ((S'.stack.len : Int) == 2) = true by rw [hsl]; rfl]
  refine brB_t ⟨S'.stack, q64.cell rfl, hst'.ix (i := 1) (x := 8) (by omega) rfl fun a _ hcell => ?_⟩
  have q1 := hcell 0 _ rfl
  rw [add0] at q1
  refine ⟨8, q1, brB_t ?_⟩
  have o9'' : Ob w69 b7 _ T_api_Trace := (o9'.no c50).chg cY (fun he => by have := o9'.lt; have := c50.size; omega)
  have o29' := (o29.no c50).chg cY (fun he => by have := o29.lt; have := c50.size; omega)
  have kk : Chg No w29 w69 := c50.trans cY (fun _ _ h => h) (fun k hk he => by have := c50.size; omega)
  refine ⟨_, _, _, _, _, _, _, _, _, o9''.cell rfl, o9''.cell rfl, o9''.cell rfl, o9''.cell rfl, o9''.cell rfl, o9''.cell rfl, o9''.cell rfl, o9''.cell rfl, o9''.cell rfl, ?_⟩
  refine ⟨_, _, _, _, _, _, _, _, _, _, o29'.cell rfl, o29'.cell rfl, o29'.cell rfl, o29'.cell rfl, o29'.cell rfl, o29'.cell rfl, o29'.cell rfl, o29'.cell rfl, o29'.cell rfl, o29'.cell rfl, ?_⟩
  refine (emay_any ⟨5, 1, 0, 0, 0, ⟨some ⟨b1, 0, none⟩, 2, 2⟩, ⟨some ⟨b5, 0, none⟩, 1, 1⟩, 0, nilS⟩ { S with ip := 5, status := 0, stack := ⟨some ⟨b25, 0, none⟩, 2, 2⟩ } (ht29.no kk) (hst.no kk) (by decide) (by decide) (by decide) (by decide)).mono ?_
  rintro e w100 ⟨rfl, c100⟩
  rw [al_may]
  exact ⟨_, rfl, rfl, trN k69 c100⟩
end Go.Proofs.Ytblmoilneiffgaa
