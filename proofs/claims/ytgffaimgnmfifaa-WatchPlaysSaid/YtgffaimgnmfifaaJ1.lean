/- The lift: a function's code, read without its frame. -/
import Derived.WalkKit
import Derived.Deep.QuietTactic
import Derived.Lib.Hide
import Derived.StillTail
import Derived.OrdersHeld
import Derived.Deep.RegionHeld3

/- Small words that all texts of this seat use: a world behind some draws ('Qt'), endings whose results are numbers or flags. -/
namespace Go.Proofs.Ytgffaimgnmfifaa
open Go.RowKit

/-- The world behind some draws: nothing else has turned. -/
def Qt (w w' : World) : Prop := ∃ n, w.drewN n = w'
theorem Qt.refl (w : World) : Qt w w := ⟨0, rfl⟩
theorem Qt.drewN (w : World) (n : Nat) : Qt w (w.drewN n) := ⟨n, rfl⟩
theorem Qt.trans {a b c : World} (h : Qt a b) (k : Qt b c) : Qt a c := by
  obtain ⟨n, rfl⟩ := h; obtain ⟨m, rfl⟩ := k; exact ⟨n + m, (World.drewN_drewN a n m).symm⟩
theorem Qt.below {w w' : World} (h : Qt w w') (B : Nat) : Below B w w' := by
  obtain ⟨n, rfl⟩ := h; exact ⟨rfl, rfl, rfl, Nat.le_refl _, fun _ _ => rfl⟩
theorem Qt.grown {w w' : World} (h : Qt w w') : Grown w w' := by
  obtain ⟨n, rfl⟩ := h
  induction n with
  | zero => exact Grown.refl _
  | succ n ih => exact ih.drew
/-- For 'go_quiet': a call under such a contract. -/
theorem Qt.quiet {P : Program} {f : FuncId} {args : Array Value} {w : World} {n : Nat} {v : Value} (h : Calls P f args (w.drewN n) fun e w' => e = .returned v ∧ Qt (w.drewN n) w') :
    Calls P f args (w.drewN n) fun e w' => e = .returned v ∧ ∃ m, w' = w.drewN m :=
  h.mono fun _ _ ⟨he, m, hw⟩ => ⟨he, n + m, by rw [← hw, World.drewN_drewN]⟩

theorem ret_i {k : IntKind} {a b : Int} (h : a = b) : Ending.returned (.int k a) = .returned (.int k b) := by rw [h]
theorem ret_b {x y : Bool} (h : x = y) : Ending.returned (.bool x) = .returned (.bool y) := by rw [h]
theorem ret_ib {k : IntKind} {a b : Int} {x y : Bool} (h : a = b) (h' : x = y) : Ending.returned (.tuple #[.int k a, .bool x]) = .returned (.tuple #[.int k b, .bool y]) := by rw [h, h']
theorem ret_ii {a b c d : Int} (h : a = b) (h' : c = d) : Ending.returned (.tuple #[.int .i64 a, .int .i64 c]) = .returned (.tuple #[.int .i64 b, .int .i64 d]) := by rw [h, h']
theorem ret_iib {a b c d : Int} {x y : Bool} (h : a = b) (h' : c = d) (h'' : x = y) : Ending.returned (.tuple #[.int .i64 a, .int .i64 c, .bool x]) = .returned (.tuple #[.int .i64 b, .int .i64 d, .bool y]) := by rw [h, h', h'']
end Go.Proofs.Ytgffaimgnmfifaa

/- The lift: a function's code, read without its frame. 'wpc' says, by recursion on the code, what is enough for a run; frames are lists of what the slots hold. Over any program. -/
namespace Go.Proofs.Ytgffaimgnmfifaa
open Go.RowKit

/-! ### Values by kinds -/
inductive Kd where
  | int (k : IntKind) | bool | str | ptr | sl | mp | val | blk
structure Sl where
  ptr : Option Addr
  len : Nat
  cap : Nat
@[reducible] def Sl.val (s : Sl) : Value := .slice s.ptr s.len s.cap

/-- Some values of these kinds. -/
def exL : List Kd → List Value → (List Value → Prop) → Prop
  | [], acc, F => F acc
  | .int k :: r, acc, F => ∃ n : Int, exL r (acc ++ [.int k n]) F
  | .bool :: r, acc, F => ∃ b : Bool, exL r (acc ++ [.bool b]) F
  | .str :: r, acc, F => ∃ s : ByteArray, exL r (acc ++ [.string s]) F
  | .ptr :: r, acc, F => ∃ p : Option Addr, exL r (acc ++ [.pointer p]) F
  | .sl :: r, acc, F => ∃ s : Sl, exL r (acc ++ [s.val]) F
  | .mp :: r, acc, F => ∃ m : Option Nat, exL r (acc ++ [.map m]) F
  | .val :: r, acc, F => ∃ v : Value, exL r (acc ++ [v]) F
  | .blk :: r, acc, F => ∃ b : Nat, exL r (acc ++ [.pointer (some ⟨b, 0, none⟩)]) F
theorem exL_of {F : List Value → Prop} : ∀ {ks acc}, exL ks acc F → ∃ vs, F vs
  | [], acc, h => ⟨acc, h⟩
  | .int _ :: _, _, ⟨_, h⟩ => exL_of h
  | .bool :: _, _, ⟨_, h⟩ => exL_of h
  | .str :: _, _, ⟨_, h⟩ => exL_of h
  | .ptr :: _, _, ⟨_, h⟩ => exL_of h
  | .sl :: _, _, ⟨_, h⟩ => exL_of h
  | .mp :: _, _, ⟨_, h⟩ => exL_of h
  | .val :: _, _, ⟨_, h⟩ => exL_of h
  | .blk :: _, _, ⟨_, h⟩ => exL_of h
/-- A type: is it a struct or an array; the kinds of its cells. -/
def exV (i : Bool × List Kd) (F : Value → Prop) : Prop :=
  match i with
  | (true, ks) => exL ks [] fun vs => F (.agg vs.toArray)
  | (false, ks) => exL ks [] fun vs => match vs with | [v] => F v | _ => False
theorem exV_of {i : Bool × List Kd} {F : Value → Prop} (h : exV i F) : ∃ v, F v := by
  obtain ⟨b, ks⟩ := i
  cases b
  · obtain ⟨vs, h⟩ := exL_of h
    match vs, h with
    | [v], h => exact ⟨v, h⟩
  · obtain ⟨vs, h⟩ := exL_of h; exact ⟨_, h⟩
def exT : List (Bool × List Kd) → List Value → (List Value → Prop) → Prop
  | [], acc, F => F acc
  | i :: r, acc, F => exV i fun v => exT r (acc ++ [v]) F
theorem exT_of {F : List Value → Prop} : ∀ {is acc}, exT is acc F → ∃ vs, F vs
  | [], acc, h => ⟨acc, h⟩
  | _ :: _, _, h => by obtain ⟨_, h⟩ := exV_of h; exact exT_of h
/-- What a function hands back. -/
def exR (r : List (Bool × List Kd)) (F : Value → Prop) : Prop :=
  match r with
  | [] => F (.tuple #[])
  | [i] => exV i F
  | is => exT is [] fun vs => F (.tuple vs.toArray)
theorem exR_of {r : List (Bool × List Kd)} {F : Value → Prop} (h : exR r F) : ∃ v, F v := by
  match r, h with
  | [], h => exact ⟨_, h⟩
  | [i], h => exact exV_of h
  | _ :: _ :: _, h => obtain ⟨_, h⟩ := exT_of h; exact ⟨_, h⟩

/-! ### What is known of the program -/
inductive Tk where
  | int (k : IntKind) | bool | str | ptr | sl (e : TypeId) | st (fs : List (Nat × TypeId)) | arr (n : Nat) (e : TypeId) | other
def Tk.fits : Tk → TypeDesc → Prop
  | .int k, d => d = .int k
  | .bool, d => d = .bool
  | .str, d => d = .string
  | .ptr, d => ∃ e, d = .pointer e
  | .sl e, d => d = .slice e
  | .st fs, d => ∃ fields : Array Field, d = .struct fields ∧ fields.toList.map (fun f => (f.offset, f.type)) = fs
  | .arr n e, d => d = .array n e
  | .other, _ => True
structure Ti where
  tk : Tk
  agg : Bool
  ks : List Kd
structure TiOk (P : Program) (t : TypeId) (i : Ti) : Prop where
  und : ∃ d, (∀ w, (underlying t).run P w = .ok d w) ∧ i.tk.fits d
  agg : ∀ w, (isAgg t).run P w = .ok i.agg w
  size : ∀ w, (sizeOf t).run P w = .ok i.ks.length w

def lkN {α : Type} : List (Nat × α) → Nat → Option α
  | [], _ => none
  | (t, v) :: r, k => match Nat.beq t k with | true => some v | false => lkN r k
structure Orc (P : Program) where
  ts : List (Nat × Ti)
  tok : ∀ t i, lkN ts t = some i → TiOk P t i
  sg : List (Nat × List (Bool × List Kd))
  sok : ∀ f r, lkN sg f = some r → ∀ args w, (callFunc f args).run P w = .ok (.enter f args) w

/-! ### Frames as lists -/
abbrev Fl := List (Nat × Value)
def ov (l : Fl) : Operand → Option Value
  | .tmp t => lkN l t
  | .const v => some v
  | .global g => some (.pointer (some ⟨g, 0, none⟩))
  | .func f => some (.func (.func f) #[] #[])
structure Has (n : Nat) (a : Act) (l : Fl) : Prop where
  size : a.tmps.size = n
  defers : a.defers = []
  get : ∀ t v, lkN l t = some v → a.tmps[t]? = some v
theorem Has.ov {n : Nat} {a : Act} {l : Fl} (h : Has n a l) {x : Operand} {v : Value} (hx : ov l x = some v) : a.eval x = v := by
  cases x with
  | tmp t => have := h.get t v hx; simp [Act.eval, this]
  | const u => simpa [Go.Proofs.Ytgffaimgnmfifaa.ov, Act.eval] using hx
  | global g => simpa [Go.Proofs.Ytgffaimgnmfifaa.ov, Act.eval] using hx
  | func f => simpa [Go.Proofs.Ytgffaimgnmfifaa.ov, Act.eval] using hx
theorem lkN_cons {α : Type} (t k : Nat) (v : α) (l : List (Nat × α)) : lkN ((t, v) :: l) k = if t = k then some v else lkN l k := by
  simp only [lkN]
  by_cases h : t = k
  · subst h; simp
  · rw [if_neg h]
    cases hb : Nat.beq t k with
    | true => exact absurd (Nat.eq_of_beq_eq_true hb) h
    | false => rfl
theorem Has.put {n : Nat} {a : Act} {l : Fl} (h : Has n a l) {d : Nat} (hd : d < n) (v : Value) : Has n (a.put (some d) v) ((d, v) :: l) := by
  refine ⟨by simpa [Act.put] using h.size, by simpa [Act.put] using h.defers, fun t u ht => ?_⟩
  rw [lkN_cons] at ht
  by_cases e : d = t
  · subst e
    rw [if_pos rfl] at ht
    injection ht with ht
    subst ht
    have : d < a.tmps.size := by rw [h.size]; exact hd
    simp [Act.put, this]
  · rw [if_neg e] at ht
    have := h.get t u ht
    simpa [Act.put, Array.getElem?_setIfInBounds_ne e] using this
/-- A slot that holds what it is known to hold, told once more. -/
theorem Has.know {n : Nat} {a : Act} {l : Fl} (h : Has n a l) {t : Nat} {v : Value} (hv : lkN l t = some v) : Has n a ((t, v) :: l) :=
  ⟨h.size, h.defers, fun k u hk => by
    rw [lkN_cons] at hk
    by_cases e : t = k
    · subst e; rw [if_pos rfl] at hk; injection hk with hk; subst hk; exact h.get _ _ hv
    · rw [if_neg e] at hk; exact h.get _ _ hk⟩

/-! ### A test -/
def brB (b : Bool) (A B : Prop) : Prop := match b with | true => A | false => B
theorem brB_iff {b : Bool} {A B : Prop} : brB b A B ↔ (b = true → A) ∧ (b = false → B) := by cases b <;> simp [brB]
theorem brB_t {A B : Prop} (h : A) : brB true A B := h
theorem brB_f {A B : Prop} (h : B) : brB false A B := h
theorem brB_of {b : Bool} {A B : Prop} (h : b = true → A) (k : b = false → B) : brB b A B := brB_iff.2 ⟨h, k⟩

/-! ### An operation -/
def un (v : Option Value) (F : Value → Prop) : Prop := match v with | some v => F v | none => False
def kq : IntKind → IntKind → Bool
  | .i8, .i8 | .i16, .i16 | .i32, .i32 | .i64, .i64 | .u8, .u8 | .u16, .u16 | .u32, .u32 | .u64, .u64 => true
  | _, _ => false
theorem kq_eq {a b : IntKind} (h : kq a b = true) : a = b := by cases a <;> cases b <;> simp_all [kq]
def iand (k : IntKind) (a b : Int) : Int := k.wrap (BitVec.ofInt k.bits a &&& BitVec.ofInt k.bits b).toNat
def ior (k : IntKind) (a b : Int) : Int := k.wrap (BitVec.ofInt k.bits a ||| BitVec.ofInt k.bits b).toNat
def ixor (k : IntKind) (a b : Int) : Int := k.wrap (BitVec.ofInt k.bits a ^^^ BitVec.ofInt k.bits b).toNat
def ishl (k : IntKind) (a b : Int) : Int := k.wrap (a * 2 ^ (min b.toNat k.bits))
def ishr (k : IntKind) (a b : Int) : Int := a.fdiv (2 ^ (min b.toNat k.bits))
def imin (x y : Int) : Int := if y < x then y else x
def imax (x y : Int) : Int := if y > x then y else x
def binI (op : BinOp) (k : IntKind) (a b : Int) (F : Value → Prop) : Prop :=
  match op with
  | .add => F (.int k (k.wrap (a + b)))
  | .sub => F (.int k (k.wrap (a - b)))
  | .mul => F (.int k (k.wrap (a * b)))
  | .quo => b ≠ 0 ∧ F (.int k (k.wrap (a.tdiv b)))
  | .rem => b ≠ 0 ∧ F (.int k (a.tmod b))
  | .and => F (.int k (iand k a b))
  | .or => F (.int k (ior k a b))
  | .xor => F (.int k (ixor k a b))
  | .eql => F (.bool (a == b))
  | .neq => F (.bool (a != b))
  | .lss => F (.bool (decide (a < b)))
  | .leq => F (.bool (decide (a ≤ b)))
  | .gtr => F (.bool (decide (a > b)))
  | .geq => F (.bool (decide (a ≥ b)))
  | _ => False
def shI (op : BinOp) (k : IntKind) (a b : Int) (F : Value → Prop) : Prop :=
  match op with
  | .shl => 0 ≤ b ∧ F (.int k (ishl k a b))
  | .shr => 0 ≤ b ∧ F (.int k (ishr k a b))
  | _ => False
def binS (op : BinOp) (a b : ByteArray) (F : Value → Prop) : Prop :=
  match op with
  | .add => (a.size : Int) + b.size ≤ 9223372036854775807 ∧ F (.string (a ++ b))
  | .eql => F (.bool (a.toList == b.toList))
  | .neq => F (.bool (!(a.toList == b.toList)))
  | _ => False
def binN (op : BinOp) (b : Bool) (F : Value → Prop) : Prop :=
  match op with
  | .eql => F (.bool b)
  | .neq => F (.bool (!b))
  | _ => False
def bin (C : List (Nat × Ti)) (op : BinOp) (t : TypeId) (x y : Value) (F : Value → Prop) : Prop :=
  match x, y with
  | .int k a, .int k' b =>
    match op with
    | .shl => shI op k a b F
    | .shr => shI op k a b F
    | _ => match kq k k' with | true => binI op k a b F | false => False
  | .string a, .string b => binS op a b F
  | .bool a, .bool b => match lkN C t with | some { tk := .bool, .. } => binN op (a == b) F | _ => False
  | .pointer p, .pointer none => match lkN C t with | some { tk := .ptr, .. } => binN op p.isNone F | _ => False
  | .slice p _ _, .slice none _ _ => match lkN C t with | some { tk := .sl _, .. } => binN op p.isNone F | _ => False
  | _, _ => False
/-- What a run of a part answers. -/
def evK {α : Type} (r : Result α) (F : α → World → Prop) : Prop := match r with | .ok v w => F v w | .halt _ _ => False
/-- What a run answers, whose kinds are known. -/
def rawK (r : Result Value) (i : Bool × List Kd) (F : Value → World → Prop) : Prop := exV i fun v => ∃ w', r = .ok v w' ∧ F v w'
def cellsAt (w : World) (p : Addr) : Nat → List Value → Prop → Prop
  | _, [], G => G
  | i, v :: r, G => w.cell? (p.add i) = some v ∧ cellsAt w p (i + 1) r G
def ldV (i : Bool × List Kd) (w : World) (p : Addr) (F : Value → Prop) : Prop :=
  match i with
  | (true, ks) =>
    match Nat.blt 24 ks.length with
    | true => ∃ cs : List Value, cs.length = ks.length ∧ (∀ (i : Nat) (u : Value), cs[i]? = some u → w.cell? (p.add i) = some u) ∧ F (.agg cs.toArray)
    | false => exL ks [] fun vs => match Nat.beq vs.length ks.length with | true => cellsAt w p 0 vs (F (.agg vs.toArray)) | false => False
  | (false, ks) => exL ks [] fun vs => match vs with | [v] => w.cell? p = some v ∧ F v | _ => False
def ocK (v : Value) (G : Prop) : Prop := match v with | .agg _ => False | .tuple _ => False | _ => G
/-- n cells from p on may be written. -/
def wrOk (w : World) (p : Addr) (n : Nat) : Prop := ∀ i, i < n → (∃ u, w.cell? (p.add i) = some u) ∧ w.frozen? (p.add i) = false
/-- The world with these cells written. -/
def stW (w : World) (p : Addr) : Nat → List Value → World
  | _, [] => w
  | i, v :: r => stW (w.setCell (p.add i) v) p (i + 1) r
def ocs : List Value → Prop → Prop
  | [], G => G
  | v :: r, G => ocK v (ocs r G)
def stAt (p : Addr) (vs : List Value) (w : World) (G : World → Prop) : Prop := ocs vs (wrOk w p vs.length ∧ ∀ w1, w1 = stW w p 0 vs → G w1)
def vcells : Value → List Value
  | .agg cs => cs.toList
  | v => [v]
def Sl.sub (o : Option Addr) (cap : Nat) (lo hi : Nat) (size : Nat) : Sl := ⟨if cap = lo then o else o.map (·.add (lo * size)), hi - lo, cap - lo⟩
def oint (l : Fl) : Option Operand → Option (Option Int)
  | none => some none
  | some x => match ov l x with | some (.int _ n) => some (some n) | _ => none
def ovs (l : Fl) : List Operand → List Value → (List Value → Prop) → Prop
  | [], acc, F => F acc
  | x :: r, acc, F => match ov l x with | some v => ovs l r (acc ++ [v]) F | none => False
/-- The frame as a function, for operations that are run as they stand. -/
def sg (l : Fl) (x : Operand) : Value := (ov l x).getD undef
def allIn (l : Fl) : List Operand → Bool
  | [] => true
  | x :: r => match ov l x with | some _ => allIn l r | none => false

def nn (p : Option Addr) (G : Addr → Prop) : Prop := match p with | some a => G a | none => False
def sb (s : ByteArray) (j : Int) : Int := ((s.data[j.toNat]?).getD 0).toNat
def slK (o : Option Addr) (n c : Nat) (lo hi : Option Int) (size : Nat) (G : Sl → Prop) : Prop :=
  match lo, hi with
  | none, none => ∀ s' : Sl, s' = Sl.sub o c 0 n size → G s'
  | some l, none => 0 ≤ l ∧ l ≤ n ∧ ∀ s' : Sl, s' = Sl.sub o c l.toNat n size → G s'
  | none, some h => 0 ≤ h ∧ h ≤ c ∧ ∀ s' : Sl, s' = Sl.sub o c 0 h.toNat size → G s'
  | some l, some h => 0 ≤ l ∧ l ≤ h ∧ h ≤ c ∧ ∀ s' : Sl, s' = Sl.sub o c l.toNat h.toNat size → G s'
def slK3 (o : Option Addr) (c : Nat) (lo : Option Int) (h m : Int) (size : Nat) (G : Sl → Prop) : Prop :=
  match lo with
  | none => 0 ≤ h ∧ h ≤ m ∧ m ≤ c ∧ ∀ s' : Sl, s' = Sl.sub o m.toNat 0 h.toNat size → G s'
  | some l => 0 ≤ l ∧ l ≤ h ∧ h ≤ m ∧ m ≤ c ∧ ∀ s' : Sl, s' = Sl.sub o m.toNat l.toNat h.toNat size → G s'
def stK (s : ByteArray) (lo hi : Option Int) (G : ByteArray → Prop) : Prop :=
  match lo, hi with
  | none, none => G (s.extract 0 s.size)
  | some l, none => 0 ≤ l ∧ l ≤ s.size ∧ G (s.extract l.toNat s.size)
  | none, some h => 0 ≤ h ∧ h ≤ s.size ∧ G (s.extract 0 h.toNat)
  | some l, some h => 0 ≤ l ∧ l ≤ h ∧ h ≤ s.size ∧ G (s.extract l.toNat h.toNat)
def Does (P : Program) (r : Result Next) (F : Value → World → Prop) : Prop :=
  match r with
  | .ok (.value v) w' => F v w'
  | .ok .skip w' => F undef w'
  | .ok (.enter f args) w' => Calls P f args w' fun e w'' => ∃ v, e = .returned v ∧ F v w''
  | _ => False
/-- A new block. -/
def newK (r : Result Next) (F : Value → World → Prop) : Prop :=
  match r with
  | .ok (.value (.pointer (some p))) w1 => ∀ (b : Nat) (w2 : World), b = p.block → w2 = w1 → F (.pointer (some ⟨b, p.off, p.spot⟩)) w2
  | .ok (.value (.slice (some p) n c)) w1 => ∀ (b : Nat) (w2 : World), b = p.block → w2 = w1 → F (.slice (some ⟨b, p.off, p.spot⟩) n c) w2
  | _ => False
theorem newK_does {P : Program} {r : Result Next} {F : Value → World → Prop} (h : newK r F) : Does P r F := by
  unfold newK at h
  split at h
  · exact h _ _ rfl rfl
  · exact h _ _ rfl rfl
  · exact h.elim
def blt {P : Program} (C : Orc P) (b : Builtin) (ts : Array TypeId) (ty : TypeId) (w : World) (vs : List Value) (F : Value → World → Prop) : Prop :=
  match b, vs with
  | .len, [.slice _ n _] => match ts[0]? with | some t => (match lkN C.ts t with | some { tk := .sl _, .. } => F (.int .i64 n) w | _ => False) | none => False
  | .len, [.string s] => match ts[0]? with | some t => (match lkN C.ts t with | some { tk := .str, .. } => F (.int .i64 s.size) w | _ => False) | none => False
  | .cap, [.slice _ _ n] => match ts[0]? with | some t => (match lkN C.ts t with | some { tk := .sl _, .. } => F (.int .i64 n) w | _ => False) | none => False
  | .min, [.int k x, .int _ y] => F (.int k (imin x y)) w
  | .max, [.int k x, .int _ y] => F (.int k (imax x y)) w
  | .append, vs => rawK ((Builtin.append_ ts ty vs.toArray).run P w) (false, [.sl]) F
  | .copy, vs => rawK ((Builtin.copy_ ts ty vs.toArray).run P w) (false, [.int .i64]) F
  | .len, vs => rawK ((Builtin.len_ ts ty vs.toArray).run P w) (false, [.int .i64]) F
  | .unsafeString, vs => rawK ((Builtin.unsafeString_ ts ty vs.toArray).run P w) (false, [.str]) F
  | .delete, vs => ∃ v w', (Builtin.delete_ ts ty vs.toArray).run P w = .ok v w' ∧ F v w'
  | .clear, vs => ∃ v w', (Builtin.clear_ ts ty vs.toArray).run P w = .ok v w' ∧ F v w'
  | _, _ => False
/-- What is enough for an operation, in a frame that holds l. -/
def wo {P : Program} (C : Orc P) (l : Fl) (o : Oper) (w : World) (F : Value → World → Prop) : Prop :=
  match o.op with
  | .move x => un (ov l x) fun v => F v w
  | .assign x => un (ov l x) fun v => F v w
  | .pick c a b =>
    match ov l c with
    | some (.bool t) => brB t (un (ov l a) fun v => F v w) (un (ov l b) fun v => F v w)
    | _ => False
  | .load t a =>
    match lkN C.ts t, ov l a with
    | some i, some (.pointer (some p)) => ldV (i.agg, i.ks) w p fun v => F v w
    | _, _ => False
  | .store t a x =>
    match lkN C.ts t, ov l a, ov l x with
    | some i, some (.pointer (some p)), some v =>
      match Nat.beq (vcells v).length i.ks.length with | true => stAt p (vcells v) w (fun w' => F undef w') | false => False
    | _, _, _ => False
  | .nilCheck x =>
    match ov l x with
    | some (.pointer p) => nn p fun a => F (.pointer (some a)) w
    | _ => False
  | .binOp op t x y _ =>
    match ov l y with
    | some .nilIface =>
      match ov l x with
      | some a => rawK ((do eqGuard op t x y a .nilIface; binOp op t a .nilIface : Sem Value).run P w) (false, [.bool]) F
      | none => False
    | _ =>
    match ov l x, ov l y with
    | some (.agg a), some (.agg b) => rawK ((do eqGuard op t x y (.agg a) (.agg b); binOp op t (.agg a) (.agg b) : Sem Value).run P w) (false, [.bool]) F
    | some (.map a), some (.map none) => rawK ((do eqGuard op t x y (.map a) (.map none); binOp op t (.map a) (.map none) : Sem Value).run P w) (false, [.bool]) F
    | some a, some b => bin C.ts op t a b fun v => F v w
    | _, _ => False
  | .unOp op _ x =>
    match op, ov l x with
    | .not, some (.bool b) => F (.bool (!b)) w
    | .neg, some (.int k n) => F (.int k (k.wrap (0 - n))) w
    | .xor, some (.int k n) => F (.int k (ixor k (if k.signed then -1 else k.max) n)) w
    | _, _ => False
  | .extract x i => match ov l x with | some (.tuple vs) => un vs[i]? fun v => F v w | _ => False
  | .fieldAddr t x f =>
    match lkN C.ts t, ov l x with
    | some { tk := .st fs, .. }, some (.pointer (some p)) =>
      match fs[f]? with
      | some (off, t') => match lkN C.ts t' with | some { ks := _ :: _, .. } => F (.pointer (some (p.add off))) w | _ => False
      | none => False
    | _, _ => False
  | .indexAddr t x i =>
    match lkN C.ts t, ov l x, ov l i with
    | some { tk := .sl e, .. }, some (.slice o n _), some (.int _ j) =>
      match lkN C.ts e with | some ie => ∃ p, o = some p ∧ 0 ≤ j ∧ j < n ∧ F (.pointer (some (p.add (j.toNat * ie.ks.length)))) w | none => False
    | some { tk := .arr n e, .. }, some (.pointer (some p)), some (.int _ j) =>
      match lkN C.ts e with | some ie => 0 ≤ j ∧ j < n ∧ F (.pointer (some (p.add (j.toNat * ie.ks.length)))) w | none => False
    | _, _, _ => False
  | .index t x i =>
    match lkN C.ts t, ov l x, ov l i with
    | some { tk := .str, .. }, some (.string s), some (.int _ j) => 0 ≤ j ∧ j < s.size ∧ F (.int .u8 (sb s j)) w
    | some { tk := .arr _ e, .. }, some v, some (.int k j) => match lkN C.ts e with | some ie => rawK ((Instr.index t v (.int k j)).run P w) (ie.agg, ie.ks) F | none => False
    | _, _, _ => False
  | .slice t x lo hi none =>
    match lkN C.ts t, ov l x, oint l lo, oint l hi with
    | some { tk := .sl e, .. }, some (.slice o n c), some lo', some hi' => match lkN C.ts e with | some ie => slK o n c lo' hi' ie.ks.length fun s => F s.val w | none => False
    | some { tk := .str, .. }, some (.string s), some lo', some hi' => stK s lo' hi' fun s' => F (.string s') w
    | _, _, _, _ => False
  | .slice t x lo (some hi) (some mx) =>
    match lkN C.ts t, ov l x, oint l lo, ov l hi, ov l mx with
    | some { tk := .sl e, .. }, some (.slice o _ c), some lo', some (.int _ h), some (.int _ m) => match lkN C.ts e with | some ie => slK3 o c lo' h m ie.ks.length fun s => F s.val w | none => False
    | _, _, _, _, _ => False
  | .convert s d x =>
    match ov l x, lkN C.ts d, lkN C.ts s with
    | some (.int _ n), some { tk := .int k, .. }, some _ => F (.int k (k.wrap n)) w
    | some v, some i, some _ => rawK ((convert s d v).run P w) (i.agg, i.ks) F
    | _, _, _ => False
  | .makeSlice t a b => match ov l a, ov l b with | some x, some y => rawK ((Instr.makeSlice t x y).run P w) (false, [.sl]) F | _, _ => False
  | .lookup t x i ok =>
    match ov l x, ov l i, lkN C.ts o.type with
    | some a, some b, some ti => rawK ((Instr.lookup t a b ok).run P w) (ti.agg, ti.ks) F
    | some a, some b, none => match ok with | true => ∃ (v : Value) (c : Bool) (w' : World), (Instr.lookup t a b ok).run P w = .ok (.tuple #[v, .bool c]) w' ∧ F (.tuple #[v, .bool c]) w' | false => False
    | _, _, _ => False
  | .range t x =>
    match ov l x with
    | some a => ∃ (b : Nat) (w1 : World), (Instr.range t a).run P w = .ok (.pointer (some ⟨b, 0, none⟩)) w1 ∧ F (.pointer (some ⟨b, 0, none⟩)) w1
    | none => False
  | .next x false =>
    match ov l x with
    | some a => (∃ w1 : World, (Instr.next a false o.type).run P w = .ok (.tuple #[.bool false]) w1 ∧ F (.tuple #[.bool false]) w1) ∨ (∃ (k v : Value) (w1 : World), (Instr.next a false o.type).run P w = .ok (.tuple #[.bool true, k, v]) w1 ∧ F (.tuple #[.bool true, k, v]) w1)
    | none => False
  | .next _ true => False
  | .entry x =>
    match ov l x with
    | some a => ∃ (n : Int) (s : Sl) (w1 : World), (Instr.entry a).run P w = .ok (.tuple #[.int .i64 n, s.val]) w1 ∧ F (.tuple #[.int .i64 n, s.val]) w1
    | none => False
  | .panic _ => False
  | .makeMap _ none => ∀ (b : Nat) (w1 : World), b = w.heap.size → w1 = World.alloc w (.map #[] 0) → F (.map (some b)) w1
  | .makeMap _ (some _) => False
  | .mapUpdate t m k x =>
    match ov l m, ov l k, ov l x with
    | some a, some b, some c => ∃ w', (Instr.mapUpdate t a b c).run P w = .ok () w' ∧ F undef w'
    | _, _, _ => False
  | .call c =>
    match c.callee with
    | .value (.func g) =>
      match lkN C.sg g with
      | some r => ovs l c.args.toList [] fun vs => Calls P g vs.toArray w fun e w' => exR r fun v => e = .returned v ∧ F v w'
      | none => False
    | .value f =>
      match ov l f with
      | some v => ∃ (g : FuncId) (fs cs : Array Value), v = .func (.func g) fs cs ∧ (∀ args w, (callFunc g args).run P w = .ok (.enter g args) w) ∧
          ovs l c.args.toList fs.toList fun vs => Calls P g (vs ++ cs.toList).toArray w fun e w' => (match lkN C.ts o.type with | some i => exV (i.agg, i.ks) fun v => e = .returned v ∧ F v w' | none => e = .returned (.tuple #[]) ∧ F (.tuple #[]) w')
      | none => False
    | .builtin b => ovs l c.args.toList [] fun vs => blt C b c.argTypes o.type w vs F
    | .invoke .. => False
  | .select .. => False
  | .box .. => match allIn l o.op.operands.toList with | true => newK ((execOp (sg l) o).run P w) F | false => False
  | .alloc _ => newK ((execOp (sg l) o).run P w) F
  | .buildSlice .. => match allIn l o.op.operands.toList with | true => newK ((execOp (sg l) o).run P w) F | false => False
  | _ => match allIn l o.op.operands.toList with | true => Does P ((execOp (sg l) o).run P w) F | false => False

/-! ### That it is enough -/
section
variable {P : Program}
theorem ovs_of {ρ : Operand → Value} {l : Fl} (hρ : ∀ x v, ov l x = some v → ρ x = v) {F : List Value → Prop} :
    ∀ {xs acc}, ovs l xs acc F → F (acc ++ xs.map ρ)
  | [], acc, h => by simpa [ovs] using h
  | x :: r, acc, h => by
    unfold ovs at h
    split at h
    · rename_i v hv
      have := ovs_of hρ h
      simpa [hρ _ _ hv] using this
    · exact h.elim
theorem allIn_of {ρ : Operand → Value} {l : Fl} (hρ : ∀ x v, ov l x = some v → ρ x = v) : ∀ {xs}, allIn l xs = true → ∀ x ∈ xs, ρ x = sg l x
  | [], _, x, hx => by cases hx
  | y :: r, h, x, hx => by
    unfold allIn at h
    split at h
    · rename_i v hv
      cases hx with
      | head => rw [hρ _ _ hv]; unfold sg; rw [hv]; rfl
      | tail _ hx => exact allIn_of hρ h x hx
    · cases h
theorem cellsAt_run {w : World} {p : Addr} {G : Prop} : ∀ (vs : List Value) (i : Nat) (acc : Array Value), cellsAt w p i vs G →
    (loadCellsFrom p i vs.length acc).run P w = .ok (acc ++ vs.toArray) w ∧ G
  | [], i, acc, h => ⟨by simp [loadCellsFrom, Sem.run_pure], h⟩
  | v :: r, i, acc, h => by
    obtain ⟨h1, h2⟩ := h
    obtain ⟨h3, h4⟩ := cellsAt_run r (i + 1) (acc.push v) h2
    refine ⟨?_, h4⟩
    simp only [List.length_cons, loadCellsFrom, Sem.run_bind, load, Sem.run, h1, Result.andThen_ok, h3]
    congr 1
    simp
theorem cell?_set {w : World} {a b : Addr} {u v : Value} (h : w.cell? b = some u) : ∃ u', (w.setCell a v).cell? b = some u' := cell?_setCell_some (w := w) (p := a) (x := v) (q := b) (v := u) h
theorem bigAt_run {w : World} {p : Addr} : ∀ (vs : List Value) (i : Nat) (acc : Array Value), (∀ (j : Nat) (u : Value), vs[j]? = some u → w.cell? (p.add (i + j)) = some u) →
    (loadCellsFrom p i vs.length acc).run P w = .ok (acc ++ vs.toArray) w
  | [], i, acc, h => by simp [loadCellsFrom, Sem.run_pure]
  | v :: r, i, acc, h => by
    have h1 : w.cell? (p.add i) = some v := by have := h 0 v rfl; simpa using this
    have h3 := bigAt_run r (i + 1) (acc.push v) (fun j u hu => by have := h (j + 1) u (by simpa using hu); rwa [show i + (j + 1) = i + 1 + j by omega] at this)
    simp only [List.length_cons, loadCellsFrom, Sem.run_bind, load, Sem.run, h1, Result.andThen_ok, h3]
    congr 1
    simp
theorem stAt_run0 {p : Addr} : ∀ (vs : List Value) (i : Nat) (w : World), (∀ v ∈ vs, (∀ a, v ≠ .agg a) ∧ (∀ a, v ≠ .tuple a)) → (∀ j, i ≤ j → j < i + vs.length → (∃ u, w.cell? (p.add j) = some u) ∧ w.frozen? (p.add j) = false) →
    (storeCells p vs i).run P w = .ok () (stW w p i vs)
  | [], i, w, _, _ => by simp [storeCells, Sem.run_pure, stW]
  | v :: r, i, w, hv, h => by
    obtain ⟨ha, ht⟩ := hv v (by simp)
    obtain ⟨⟨u, hu⟩, hf⟩ := h i (Nat.le_refl _) (by simp)
    have hs : (store (p.add i) v).run P w = .ok () (w.setCell (p.add i) v) := by
      cases v <;> first | exact absurd rfl (ha _) | exact absurd rfl (ht _) | simp [store, Sem.run, hu, hf]
    have hr := stAt_run0 r (i + 1) (w.setCell (p.add i) v) (fun x hx => hv x (by simp [hx])) (fun j h1 h2 => by
      obtain ⟨⟨u, hu⟩, hf⟩ := h j (by omega) (by simp; omega)
      exact ⟨cell?_set hu, by rw [World.frozen?_setCell]; exact hf⟩)
    simp only [storeCells, Sem.run_bind, hs, Result.andThen_ok, hr, stW]
theorem ocs_of {G : Prop} : ∀ {vs : List Value}, ocs vs G → (∀ v ∈ vs, (∀ a, v ≠ .agg a) ∧ (∀ a, v ≠ .tuple a)) ∧ G
  | [], h => ⟨by simp, h⟩
  | v :: r, h => by
    unfold ocs ocK at h
    split at h
    · exact h.elim
    · exact h.elim
    · rename_i h1 h2
      obtain ⟨h3, h4⟩ := ocs_of h
      exact ⟨fun x hx => by
        cases hx with
        | head => exact ⟨h1, h2⟩
        | tail _ hx => exact h3 x hx, h4⟩
theorem stAt_run {p : Addr} {G : World → Prop} (vs : List Value) (w : World) (h : stAt p vs w G) : ∃ w', (storeCells p vs).run P w = .ok () w' ∧ G w' := by
  obtain ⟨h1, h2, h3⟩ := ocs_of h
  exact ⟨_, stAt_run0 vs 0 w h1 (fun j _ hj => h2 j (by omega)), h3 _ rfl⟩
theorem vcells_eq (v : Value) : v.cells.toList = vcells v := by cases v <;> rfl
theorem ldV_run {i : Ti} {t : TypeId} (hi : TiOk P t i) {w : World} {p : Addr} {F : Value → Prop} (h : ldV (i.agg, i.ks) w p F) : ∃ v, (loadVar t p).run P w = .ok v w ∧ F v := by
  unfold ldV at h
  simp only [loadVar, Sem.run_bind, hi.agg, Result.andThen_ok]
  split at h
  · rename_i b ks hb
    injection hb with h1 h2
    subst h2
    split at h
    · obtain ⟨cs, hl, hc, h4⟩ := h
      refine ⟨_, ?_, h4⟩
      rw [h1]
      simp only [if_true, Sem.run_bind, hi.size, Result.andThen_ok, loadCells, ← hl, bigAt_run cs 0 #[] (fun j u hu => by have := hc j u hu; simpa using this), Sem.run_pure]
      simp
    · obtain ⟨vs, h⟩ := exL_of h
      split at h
      · rename_i hl
        have hl := Nat.eq_of_beq_eq_true hl
        obtain ⟨h3, h4⟩ := cellsAt_run (P := P) vs 0 #[] h
        refine ⟨_, ?_, h4⟩
        rw [h1]
        simp only [if_true, Sem.run_bind, hi.size, Result.andThen_ok, loadCells, ← hl, h3, Sem.run_pure]
        simp
      · exact h.elim
  · rename_i b ks hb
    injection hb with h1 h2
    obtain ⟨vs, h⟩ := exL_of h
    split at h
    · refine ⟨_, ?_, h.2⟩
      rw [h1]
      simp [load, Sem.run, h.1]
    · exact h.elim
end
end Go.Proofs.Ytgffaimgnmfifaa

/- The lift, continued: what is enough for an operation is enough. -/
namespace Go.Proofs.Ytgffaimgnmfifaa
open Go.RowKit

section
variable {P : Program}
theorem und_of {t : TypeId} {i : Ti} (hi : TiOk P t i) : ∃ d, (∀ w, (underlying t).run P w = .ok d w) ∧ i.tk.fits d := hi.und

theorem rawK_of {r : Result Value} {i : Bool × List Kd} {F : Value → World → Prop} (h : rawK r i F) : ∃ v w', r = .ok v w' ∧ F v w' := by
  obtain ⟨v, w', h⟩ := exV_of h; exact ⟨v, w', h⟩

theorem run_v (s : Sem Value) (w : World) {v : Value} {w' : World} (h : s.run P w = .ok v w') : (do pure (.value (← s)) : Sem Next).run P w = .ok (.value v) w' := by
  simp [Sem.run_bind, h, Sem.run_pure]
theorem does_v {s : Sem Value} {w : World} {v : Value} {w' : World} {F : Value → World → Prop} (h : s.run P w = .ok v w') (hF : F v w') : Does P ((do pure (.value (← s)) : Sem Next).run P w) F := by
  rw [run_v s w h]; exact hF

theorem binI_run {op : BinOp} {k : IntKind} {a b : Int} {F : Value → Prop} (w : World) (h1 : op ≠ .shl) (h2 : op ≠ .shr) (h : binI op k a b F) (t : TypeId) : ∃ v, (binOp op t (.int k a) (.int k b)).run P w = .ok v w ∧ F v := by
  cases op <;> simp only [binI] at h
  case add => exact ⟨_, by simp [binOp, Op.intArith, Sem.run_pure], h⟩
  case sub => exact ⟨_, by simp [binOp, Op.intArith, Sem.run_pure], h⟩
  case mul => exact ⟨_, by simp [binOp, Op.intArith, Sem.run_pure], h⟩
  case quo => exact ⟨_, by simp [binOp, Op.intDiv, h.1, Sem.run_pure], h.2⟩
  case rem => exact ⟨_, by simp [binOp, Op.intDiv, h.1, Sem.run_pure], h.2⟩
  case and => exact ⟨_, by simp [binOp, Op.intBits, Sem.run_pure, iand], h⟩
  case or => exact ⟨_, by simp [binOp, Op.intBits, Sem.run_pure, ior], h⟩
  case xor => exact ⟨_, by simp [binOp, Op.intBits, Sem.run_pure, ixor], h⟩
  case eql => exact ⟨_, by simp [binOp, Op.intCmp, Sem.run_pure], h⟩
  case neq => exact ⟨_, by simp [binOp, Op.intCmp, Sem.run_pure], h⟩
  case lss => exact ⟨_, by simp [binOp, Op.intCmp, Sem.run_pure], h⟩
  case leq => exact ⟨_, by simp [binOp, Op.intCmp, Sem.run_pure], h⟩
  case gtr => exact ⟨_, by simp [binOp, Op.intCmp, Sem.run_pure], h⟩
  case geq => exact ⟨_, by simp [binOp, Op.intCmp, Sem.run_pure], h⟩
theorem shI_run {op : BinOp} {k k' : IntKind} {a b : Int} {F : Value → Prop} (w : World) (h : shI op k a b F) (t : TypeId) : ∃ v, (binOp op t (.int k a) (.int k' b)).run P w = .ok v w ∧ F v := by
  cases op <;> simp only [shI] at h
  case shl => exact ⟨_, by have : ¬ b < 0 := by omega
                           simp [binOp, Op.shift, this, Sem.run_pure, ishl], h.2⟩
  case shr => exact ⟨_, by have : ¬ b < 0 := by omega
                           simp [binOp, Op.shift, this, Sem.run_pure, ishr], h.2⟩
theorem binS_run {op : BinOp} {a b : ByteArray} {F : Value → Prop} (w : World) (h : binS op a b F) (t : TypeId) : ∃ v, (binOp op t (.string a) (.string b)).run P w = .ok v w ∧ F v := by
  cases op <;> simp only [binS] at h
  case add =>
    refine ⟨_, ?_, h.2⟩
    have h1 := h.1
    have : ¬ ((a.size + b.size : Nat) : Int) > IntKind.i64.max := by
      show ¬ ((a.size + b.size : Nat) : Int) > 9223372036854775807
      omega
    simp only [binOp, Op.stringOp, this, if_false, Sem.run_pure]
  case eql => exact ⟨_, by simp [binOp, Op.stringOp, Sem.run_pure], h⟩
  case neq => exact ⟨_, by simp [binOp, Op.stringOp, Sem.run_pure], h⟩
theorem binN_run {op : BinOp} {b : Bool} {F : Value → Prop} {x y : Value} {t : TypeId} (w : World) (hx : ∀ k n, x ≠ .int k n) (hs : ∀ s, x ≠ .string s) (hf : ∀ k n, x ≠ .float k n) (hc : ∀ k m n, x ≠ .complex k m n)
    (he : (Op.equal t x y).run P w = .ok b w) (h : binN op b F) : ∃ v, (binOp op t x y).run P w = .ok v w ∧ F v := by
  cases op <;> simp only [binN] at h <;> first
    | exact h.elim
    | exact ⟨_, by cases x <;> first | exact absurd rfl (hx _ _) | exact absurd rfl (hs _) | exact absurd rfl (hf _ _) | exact absurd rfl (hc _ _ _) | simp [binOp, Sem.run_bind, he, Sem.run_pure], h⟩
theorem eqIn_step (t : TypeId) (a b : Value) : Op.equal t a b = Op.equalIn (9999 + 1) t a b := rfl
theorem eq_bool {t : TypeId} (w : World) (h : ∀ w, (underlying t).run P w = .ok .bool w) (a b : Bool) : (Op.equal t (.bool a) (.bool b)).run P w = .ok (a == b) w := by
  rw [eqIn_step, Op.equalIn]
  simp only [Sem.run_bind, h, Result.andThen_ok, Sem.run_pure]
theorem eq_ptr {t e : TypeId} (w : World) (h : ∀ w, (underlying t).run P w = .ok (.pointer e) w) (p : Option Addr) : (Op.equal t (.pointer p) (.pointer none)).run P w = .ok p.isNone w := by
  rw [eqIn_step, Op.equalIn]
  cases p <;> simp only [Sem.run_bind, h, Result.andThen_ok, Sem.run_pure, Option.isNone]
theorem eq_sl {t e : TypeId} (w : World) (h : ∀ w, (underlying t).run P w = .ok (.slice e) w) (p : Option Addr) (n c n' c' : Nat) : (Op.equal t (.slice p n c) (.slice none n' c')).run P w = .ok p.isNone w := by
  rw [eqIn_step, Op.equalIn]
  cases p <;> simp only [Sem.run_bind, h, Result.andThen_ok, Sem.run_pure, Option.isNone]
theorem eqGuard_run {op : BinOp} {t : TypeId} {x y : Operand} {a b : Value} (w : World) (h1 : a ≠ .nilIface) (h2 : ∀ c, a ≠ .agg c) : (eqGuard op t x y a b).run P w = .ok () w := by
  unfold eqGuard
  cases op <;> simp [Sem.run_pure] <;> (cases a <;> first | exact absurd rfl h1 | exact absurd rfl (h2 _) | (cases b <;> simp [Sem.run_pure]))

theorem bin_run (C : Orc P) {op : BinOp} {t : TypeId} {a b : Value} {F : Value → Prop} (w : World) (h : bin C.ts op t a b F) :
    (∃ v, (binOp op t a b).run P w = .ok v w ∧ F v) ∧ a ≠ .nilIface ∧ (∀ c, a ≠ .agg c) := by
  unfold bin at h
  split at h
  · refine ⟨?_, by simp, by simp⟩
    split at h
    · exact shI_run w h t
    · exact shI_run w h t
    · split at h
      · rename_i hk
        obtain rfl := kq_eq hk
        exact binI_run w (by assumption) (by assumption) h t
      · exact h.elim
  · exact ⟨binS_run w h t, by simp, by simp⟩
  · refine ⟨?_, by simp, by simp⟩
    split at h
    · rename_i hl
      obtain ⟨d, hd, rfl⟩ := (C.tok _ _ hl).und
      exact binN_run w (by simp) (by simp) (by simp) (by simp) (eq_bool w hd _ _) h
    · exact h.elim
  · refine ⟨?_, by simp, by simp⟩
    split at h
    · rename_i hl
      obtain ⟨d, hd, e, rfl⟩ := (C.tok _ _ hl).und
      exact binN_run w (by simp) (by simp) (by simp) (by simp) (eq_ptr w hd _) h
    · exact h.elim
  · refine ⟨?_, by simp, by simp⟩
    split at h
    · rename_i hl
      obtain ⟨d, hd, rfl⟩ := (C.tok _ _ hl).und
      exact binN_run w (by simp) (by simp) (by simp) (by simp) (eq_sl w hd _ _ _ _ _) h
    · exact h.elim
  · exact h.elim

theorem slK_run {o : Option Addr} {n c : Nat} {lo hi : Option Int} {size : Nat} {G : Sl → Prop} (w : World) (t e : TypeId) (ht : ∀ w, (underlying t).run P w = .ok (.slice e) w) (hs : ∀ w, (sizeOf e).run P w = .ok size w)
    (kl kh : IntKind) (h : slK o n c lo hi size G) : ∃ s' : Sl, (Instr.sliceAt t (.slice o n c) (lo.map (.int kl)) (hi.map (.int kh)) none).run P w = .ok s'.val w ∧ G s' := by
  unfold slK at h
  cases lo <;> cases hi <;> simp only at h
  · exact ⟨_, by simp [Instr.sliceAt, Instr.slice, Instr.sliceBounds, Sem.run_bind, ht, hs, Sem.run_pure, Sl.sub], h _ rfl⟩
  · exact ⟨_, by simp [Instr.sliceAt, Instr.slice, Instr.sliceBounds, Instr.sliceBound, asIntOf, Sem.run_bind, ht, hs, Sem.run_pure, Sl.sub, h.1, h.2.1], h.2.2 _ rfl⟩
  · exact ⟨_, by simp [Instr.sliceAt, Instr.slice, Instr.sliceBounds, Instr.sliceBound, asIntOf, Sem.run_bind, ht, hs, Sem.run_pure, Sl.sub, h.1, h.2.1], h.2.2 _ rfl⟩
  · rename_i l hh
    obtain ⟨m, rfl⟩ := Int.eq_ofNat_of_zero_le (show 0 ≤ hh by have := h.1; have := h.2.1; omega)
    obtain ⟨q, rfl⟩ := Int.eq_ofNat_of_zero_le h.1
    obtain ⟨-, h2, h3, h4⟩ := h
    have h2 : q ≤ m := by omega
    exact ⟨_, by simp [Instr.sliceAt, Instr.slice, Instr.sliceBounds, Instr.sliceBound, asIntOf, Sem.run_bind, ht, hs, Sem.run_pure, Sl.sub, h2, Int.ofNat_le.1 h3], h4 _ rfl⟩
theorem slK3_run {o : Option Addr} {n c : Nat} {lo : Option Int} {h m : Int} {size : Nat} {G : Sl → Prop} (w : World) (t e : TypeId) (ht : ∀ w, (underlying t).run P w = .ok (.slice e) w) (hs : ∀ w, (sizeOf e).run P w = .ok size w)
    (kl kh km : IntKind) (hh : slK3 o c lo h m size G) : ∃ s' : Sl, (Instr.sliceAt t (.slice o n c) (lo.map (.int kl)) (some (.int kh h)) (some (.int km m))).run P w = .ok s'.val w ∧ G s' := by
  unfold slK3 at hh
  cases lo with
  | none =>
    simp only at hh
    obtain ⟨h1, h2, h3, h4⟩ := hh
    obtain ⟨a, rfl⟩ := Int.eq_ofNat_of_zero_le h1
    obtain ⟨b, rfl⟩ := Int.eq_ofNat_of_zero_le (show 0 ≤ m by omega)
    exact ⟨_, by simp [Instr.sliceAt, Instr.slice, Instr.sliceBounds, Instr.sliceBound, asIntOf, Sem.run_bind, ht, hs, Sem.run_pure, Sl.sub, Int.ofNat_le.1 h2, Int.ofNat_le.1 h3], h4 _ rfl⟩
  | some l =>
    simp only at hh
    obtain ⟨h0, h1, h2, h3, h4⟩ := hh
    obtain ⟨q, rfl⟩ := Int.eq_ofNat_of_zero_le h0
    obtain ⟨a, rfl⟩ := Int.eq_ofNat_of_zero_le (show 0 ≤ h by omega)
    obtain ⟨b, rfl⟩ := Int.eq_ofNat_of_zero_le (show 0 ≤ m by omega)
    exact ⟨_, by simp [Instr.sliceAt, Instr.slice, Instr.sliceBounds, Instr.sliceBound, asIntOf, Sem.run_bind, ht, hs, Sem.run_pure, Sl.sub, Int.ofNat_le.1 h1, Int.ofNat_le.1 h2, Int.ofNat_le.1 h3], h4 _ rfl⟩
theorem stK_run {s : ByteArray} {lo hi : Option Int} {G : ByteArray → Prop} (w : World) (t : TypeId) (ht : ∀ w, (underlying t).run P w = .ok .string w)
    (kl kh : IntKind) (h : stK s lo hi G) : ∃ s', (Instr.sliceAt t (.string s) (lo.map (.int kl)) (hi.map (.int kh)) none).run P w = .ok (.string s') w ∧ G s' := by
  unfold stK at h
  cases lo <;> cases hi <;> simp only at h
  · exact ⟨_, by simp [Instr.sliceAt, Instr.slice, Instr.sliceBounds, Sem.run_bind, ht, Sem.run_pure], h⟩
  · exact ⟨_, by simp [Instr.sliceAt, Instr.slice, Instr.sliceBounds, Instr.sliceBound, asIntOf, Sem.run_bind, ht, Sem.run_pure, h.1, h.2.1], h.2.2⟩
  · exact ⟨_, by simp [Instr.sliceAt, Instr.slice, Instr.sliceBounds, Instr.sliceBound, asIntOf, Sem.run_bind, ht, Sem.run_pure, h.1, h.2.1], h.2.2⟩
  · rename_i l hh
    obtain ⟨m, rfl⟩ := Int.eq_ofNat_of_zero_le (show 0 ≤ hh by have := h.1; have := h.2.1; omega)
    obtain ⟨q, rfl⟩ := Int.eq_ofNat_of_zero_le h.1
    obtain ⟨-, h2, h3, h4⟩ := h
    have h2 : q ≤ m := by omega
    exact ⟨_, by simp [Instr.sliceAt, Instr.slice, Instr.sliceBounds, Instr.sliceBound, asIntOf, Sem.run_bind, ht, Sem.run_pure, h2, Int.ofNat_le.1 h3], h4⟩
theorem oint_of {l : Fl} {ρ : Operand → Value} (hρ : ∀ x v, ov l x = some v → ρ x = v) {x : Option Operand} {n : Option Int} (h : oint l x = some n) : ∃ k, x.map ρ = n.map (Value.int k) := by
  cases x with
  | none => simp only [oint, Option.some.injEq] at h; subst h; exact ⟨.i64, rfl⟩
  | some x =>
    simp only [oint] at h
    split at h
    · rename_i k m hv
      injection h with h; subst h
      exact ⟨k, by simp [hρ _ _ hv]⟩
    · cases h

theorem blt_run (C : Orc P) {b : Builtin} {ts : Array TypeId} {ty : TypeId} {w : World} {vs : List Value} {cs : Array Bool} {F : Value → World → Prop} (h : blt C b ts ty w vs F) :
    Does P ((builtin b ts ty cs vs.toArray).run P w) F := by
  unfold blt at h
  split at h
  · split at h
    · rename_i t ht
      split at h
      · rename_i hl
        obtain ⟨d, hd, rfl⟩ := (C.tok _ _ hl).und
        refine does_v (v := .int .i64 _) (w' := w) ?_ h
        simp [Builtin.len_, ht, Sem.run_bind, hd, Sem.run_pure, goInt]
      · exact h.elim
    · exact h.elim
  · split at h
    · rename_i t ht
      split at h
      · rename_i hl
        obtain ⟨d, hd, rfl⟩ := (C.tok _ _ hl).und
        refine does_v (v := .int .i64 _) (w' := w) ?_ h
        simp [Builtin.len_, ht, Sem.run_bind, hd, Sem.run_pure, goInt]
      · exact h.elim
    · exact h.elim
  · split at h
    · rename_i t ht
      split at h
      · rename_i hl
        obtain ⟨d, hd, rfl⟩ := (C.tok _ _ hl).und
        refine does_v (v := .int .i64 _) (w' := w) ?_ h
        simp [Builtin.cap_, ht, Sem.run_bind, hd, Sem.run_pure, goInt]
      · exact h.elim
    · exact h.elim
  · exact does_v (by simp [Builtin.min_, Builtin.min2, Sem.run_pure, Sem.run_bind, imin]) h
  · exact does_v (by simp [Builtin.max_, Builtin.max2, Sem.run_pure, Sem.run_bind, imax]) h
  · obtain ⟨v, w', h1, h2⟩ := rawK_of h; exact does_v h1 h2
  · obtain ⟨v, w', h1, h2⟩ := rawK_of h; exact does_v h1 h2
  · obtain ⟨v, w', h1, h2⟩ := rawK_of h; exact does_v h1 h2
  · obtain ⟨v, w', h1, h2⟩ := rawK_of h; exact does_v h1 h2
  · obtain ⟨v, w', h1, h2⟩ := h; exact does_v h1 h2
  · obtain ⟨v, w', h1, h2⟩ := h; exact does_v h1 h2
  · exact h.elim
end
end Go.Proofs.Ytgffaimgnmfifaa

/- The lift, continued: an operation of a frame runs as 'wo' says; regions; code. -/
namespace Go.Proofs.Ytgffaimgnmfifaa
open Go.RowKit

section
variable {P : Program}
set_option maxHeartbeats 1000000 in
theorem wo_sound (C : Orc P) {l : Fl} {o : Oper} {w : World} {F : Value → World → Prop} {ρ : Operand → Value} (hρ : ∀ x v, ov l x = some v → ρ x = v) (h : wo C l o w F) : Does P ((execOp ρ o).run P w) F := by
  obtain ⟨dst, op, ty, pos, after, guard⟩ := o
  have fall : (∀ cs b, op ≠ .select cs b) → (match allIn l op.operands.toList with | true => Does P ((execOp (sg l) ⟨dst, op, ty, pos, after, guard⟩).run P w) F | false => False) →
      Does P ((execOp ρ ⟨dst, op, ty, pos, after, guard⟩).run P w) F := by
    intro hs h
    split at h
    · rename_i ha
      rw [execOp_congr (ρ := ρ) (ρ' := sg l) ⟨dst, op, ty, pos, after, guard⟩ hs (fun x hx => allIn_of hρ ha x (by simpa using hx))]
      exact h
    · exact h.elim
  have fall2 : (∀ cs b, op ≠ .select cs b) → (match allIn l op.operands.toList with | true => newK ((execOp (sg l) ⟨dst, op, ty, pos, after, guard⟩).run P w) F | false => False) →
      Does P ((execOp ρ ⟨dst, op, ty, pos, after, guard⟩).run P w) F := by
    intro hs h
    refine fall hs ?_
    split at h
    · exact newK_does h
    · exact h.elim
  cases op
  case select => exact h.elim
  case box => exact fall2 (by simp) h
  case buildSlice => exact fall2 (by simp) h
  case alloc e => exact newK_does h
  case move x =>
    simp only [wo, un] at h
    split at h
    · rename_i v hv; simp only [execOp, hρ _ _ hv, Sem.run_pure]; exact h
    · exact h.elim
  case assign x =>
    simp only [wo, un] at h
    split at h
    · rename_i v hv; simp only [execOp, hρ _ _ hv, Sem.run_pure]; exact h
    · exact h.elim
  case pick c a b =>
    simp only [wo, un] at h
    split at h
    · rename_i t ht
      have h := brB_iff.1 h
      cases t
      · have h := h.2 rfl
        split at h
        · rename_i v hv; simp only [execOp, hρ _ _ ht, hρ _ _ hv, asBool, Sem.run_bind, Sem.run_pure, Result.andThen_ok]; exact h
        · exact h.elim
      · have h := h.1 rfl
        split at h
        · rename_i v hv; simp only [execOp, hρ _ _ ht, hρ _ _ hv, asBool, Sem.run_bind, Sem.run_pure, Result.andThen_ok]; exact h
        · exact h.elim
    · exact h.elim
  case load t a =>
    simp only [wo] at h
    split at h
    · rename_i i p hi hp
      obtain ⟨v, h1, h2⟩ := ldV_run (C.tok _ _ hi) h
      refine does_v (v := v) (w' := w) ?_ h2
      simp only [Instr.loadAt, Instr.sureAddr, hρ _ _ hp, Sem.run_bind, Sem.run_pure, Result.andThen_ok, h1]
    · exact h.elim
  case store t a x =>
    simp only [wo] at h
    split at h
    · rename_i i p v hi hp hv
      split at h
      · rename_i hl
        have hl := Nat.eq_of_beq_eq_true hl
        obtain ⟨w', h1, h2⟩ := stAt_run (P := P) (vcells v) w h
        have : (Instr.storeAt t (ρ a) (ρ x)).run P w = .ok () w' := by
          have hsz : v.cells.size = i.ks.length := by rw [← hl, ← vcells_eq]; simp
          simp only [Instr.storeAt, Instr.sureAddr, hρ _ _ hp, hρ _ _ hv, storeVar, Sem.run_bind, Sem.run_pure, Result.andThen_ok, (C.tok _ _ hi).size, hsz, ne_eq, not_true, if_false, vcells_eq, h1]
        simp only [execOp, Sem.run_bind, this, Result.andThen_ok, Sem.run_pure]
        exact h2
      · exact h.elim
    · exact h.elim
  case nilCheck x =>
    simp only [wo] at h
    split at h
    · rename_i p hp
      unfold nn at h
      split at h
      · simp only [execOp, hρ _ _ hp, Sem.run_pure]; exact h
      · exact h.elim
    · exact h.elim
  case binOp op t x y u =>
    simp only [wo] at h
    split at h
    · rename_i hb
      split at h
      · rename_i a ha
        obtain ⟨v, w', h1, h2⟩ := rawK_of h
        refine does_v (v := v) (w' := w') ?_ h2
        rw [hρ _ _ ha, hρ _ _ hb]; exact h1
      · exact h.elim
    split at h
    · rename_i a b ha hb
      obtain ⟨v, w', h1, h2⟩ := rawK_of h
      refine does_v (v := v) (w' := w') ?_ h2
      rw [hρ _ _ ha, hρ _ _ hb]; exact h1
    · rename_i a ha hb
      obtain ⟨v, w', h1, h2⟩ := rawK_of h
      refine does_v (v := v) (w' := w') ?_ h2
      rw [hρ _ _ ha, hρ _ _ hb]; exact h1
    · rename_i a b _ _ ha hb
      obtain ⟨⟨v, h1, h2⟩, h3, h4⟩ := bin_run C w h
      refine does_v (v := v) (w' := w) ?_ h2
      rw [hρ _ _ ha, hρ _ _ hb]
      simp only [Sem.run_bind, eqGuard_run w h3 h4, Result.andThen_ok, h1]
    · exact h.elim
  case unOp op t x =>
    simp only [wo] at h
    split at h
    · rename_i b hb; exact does_v (w' := w) (by rw [hρ _ _ hb]; simp only [Op.unary, Sem.run_pure]) h
    · rename_i k n hb; exact does_v (w' := w) (by rw [hρ _ _ hb]; simp only [Op.unary, Op.intArith, Sem.run_pure]) h
    · rename_i k n hb; exact does_v (w' := w) (by rw [hρ _ _ hb]; simp only [Op.unary, Op.intBits, Sem.run_pure, ixor]) h
    · exact h.elim
  case extract x i =>
    simp only [wo, un] at h
    split at h
    · rename_i vs hv
      split at h
      · rename_i v hi
        refine does_v (w' := w) ?_ h
        simp only [hρ _ _ hv, Instr.extract, hi, Sem.run_pure]
      · exact h.elim
    · exact h.elim
  case fieldAddr t x f =>
    simp only [wo] at h
    split at h
    · rename_i fs agg ks p hi hp
      split at h
      · rename_i off t' hf
        split at h
        · rename_i tk agg' k ks' hi'
          obtain ⟨d, hd, fields, rfl, rfl⟩ := (C.tok _ _ hi).und
          have hs := (C.tok _ _ hi').size
          refine does_v (w' := w) ?_ h
          simp only [List.getElem?_map, Array.getElem?_toList, Option.map_eq_some_iff] at hf
          obtain ⟨fd, hf1, hf2⟩ := hf
          injection hf2 with e1 e2
          subst e1 e2
          simp only [Instr.fieldAt, hρ _ _ hp, Instr.sureAddr, Sem.run_bind, hd, Result.andThen_ok, hf1, Sem.run_pure, fieldPlace, hs]
          simp [Sem.run_pure]
        · exact h.elim
      · exact h.elim
    · exact h.elim
  case indexAddr t x i =>
    simp only [wo] at h
    split at h
    · rename_i e agg ks o n c k j hi hx hj
      split at h
      · rename_i ie hie
        obtain ⟨p, rfl, h1, h2, h3⟩ := h
        obtain ⟨d, hd, rfl⟩ := (C.tok _ _ hi).und
        refine does_v (w' := w) ?_ h3
        simp [Instr.indexAt, hρ _ _ hx, hρ _ _ hj, asIntOf, Sem.run_bind, Sem.run_pure, hd, h1, h2, (C.tok _ _ hie).size]
      · exact h.elim
    · rename_i n e agg ks p k j hi hx hj
      split at h
      · rename_i ie hie
        obtain ⟨h1, h2, h3⟩ := h
        obtain ⟨d, hd, rfl⟩ := (C.tok _ _ hi).und
        refine does_v (w' := w) ?_ h3
        simp [Instr.indexAt, Instr.sureAddr, hρ _ _ hx, hρ _ _ hj, asIntOf, Sem.run_bind, Sem.run_pure, hd, h1, h2, (C.tok _ _ hie).size]
      · exact h.elim
    · exact h.elim
  case index t x i =>
    simp only [wo] at h
    split at h
    · rename_i agg ks s k j hi hx hj
      obtain ⟨h1, h2, h3⟩ := h
      obtain ⟨d, hd, rfl⟩ := (C.tok _ _ hi).und
      refine does_v (w' := w) ?_ h3
      have hlt : j.toNat < s.size := by omega
      have hb : s[j.toNat]? = some (s[j.toNat]'hlt) := getElem?_pos s j.toNat hlt
      simp only [Instr.index, hρ _ _ hx, hρ _ _ hj, asIntOf, Sem.run_bind, Sem.run_pure, Result.andThen_ok, hd, h1, if_true, hb, sb]
      have hlt2 : j.toNat < s.data.size := hlt
      rw [Array.getElem?_eq_getElem hlt2]
      rfl
    · rename_i n e agg ks v k j hi hx hj
      split at h
      · obtain ⟨v, w', h1, h2⟩ := rawK_of h
        refine does_v (v := v) (w' := w') ?_ h2
        rw [hρ _ _ hx, hρ _ _ hj]; exact h1
      · exact h.elim
    · exact h.elim
  case slice t x lo hi mx =>
    cases mx with
    | some m =>
      cases hi with
      | none => exact fall (by simp) h
      | some hi =>
        simp only [wo] at h
        split at h
        · rename_i e agg ks o n c lo' kh hh km mm ht hx hlo hhi hmx
          split at h
          · rename_i ie hie
            obtain ⟨d, hd, rfl⟩ := (C.tok _ _ ht).und
            obtain ⟨kl, hl⟩ := oint_of hρ hlo
            obtain ⟨s', h1, h2⟩ := slK3_run (n := n) w t e hd (C.tok _ _ hie).size kl kh km h
            refine does_v (w' := w) ?_ h2
            simp only [Option.map_some]
            rw [hρ _ _ hx, hl, hρ _ _ hhi, hρ _ _ hmx]; exact h1
          · exact h.elim
        · exact h.elim
    | none =>
      simp only [wo] at h
      split at h
      · rename_i e agg ks o n c lo' hi' ht hx hlo hhi
        split at h
        · rename_i ie hie
          obtain ⟨d, hd, rfl⟩ := (C.tok _ _ ht).und
          obtain ⟨kl, hl⟩ := oint_of hρ hlo
          obtain ⟨kh, hh⟩ := oint_of hρ hhi
          obtain ⟨s', h1, h2⟩ := slK_run w t e hd (C.tok _ _ hie).size kl kh h
          refine does_v (w' := w) ?_ h2
          rw [hρ _ _ hx, hl, hh]; exact h1
        · exact h.elim
      · rename_i agg ks s lo' hi' ht hx hlo hhi
        obtain ⟨d, hd, rfl⟩ := (C.tok _ _ ht).und
        obtain ⟨kl, hl⟩ := oint_of hρ hlo
        obtain ⟨kh, hh⟩ := oint_of hρ hhi
        obtain ⟨s', h1, h2⟩ := stK_run w t hd kl kh h
        refine does_v (w' := w) ?_ h2
        rw [hρ _ _ hx, hl, hh]; exact h1
      · exact h.elim
  case convert s d x =>
    simp only [wo] at h
    split at h
    · rename_i k' n k agg ks i hx hd hs
      obtain ⟨dd, hdd, rfl⟩ := (C.tok _ _ hd).und
      obtain ⟨ds, hds, _⟩ := (C.tok _ _ hs).und
      refine does_v (w' := w) ?_ h
      simp [convert, hρ _ _ hx, Sem.run_bind, hdd, hds, Conv.intToInt, Sem.run_pure]
    · rename_i v i i' _ hx hd hs
      obtain ⟨v', w', h1, h2⟩ := rawK_of h
      refine does_v (v := v') (w' := w') ?_ h2
      rw [hρ _ _ hx]; exact h1
    · exact h.elim
  case makeSlice t a b =>
    simp only [wo] at h
    split at h
    · rename_i x y hx hy
      obtain ⟨v', w', h1, h2⟩ := rawK_of h
      refine does_v (v := v') (w' := w') ?_ h2
      rw [hρ _ _ hx, hρ _ _ hy]; exact h1
    · exact h.elim
  case lookup t x i ok =>
    simp only [wo] at h
    split at h
    · rename_i a b ti hx hi ht
      obtain ⟨v', w', h1, h2⟩ := rawK_of h
      refine does_v (v := v') (w' := w') ?_ h2
      rw [hρ _ _ hx, hρ _ _ hi]; exact h1
    · rename_i a b hx hi ht
      split at h
      · obtain ⟨v', c, w', h1, h2⟩ := h
        refine does_v (v := .tuple #[v', .bool c]) (w' := w') ?_ h2
        rw [hρ _ _ hx, hρ _ _ hi]; exact h1
      · exact h.elim
    · exact h.elim
  case range t x =>
    simp only [wo] at h
    split at h
    · rename_i a ha
      obtain ⟨b, w', h1, h2⟩ := h
      refine does_v (w' := w') ?_ h2
      rw [hρ _ _ ha]; exact h1
    · exact h.elim
  case next x s =>
    cases s with
    | true => exact h.elim
    | false =>
      simp only [wo] at h
      split at h
      · rename_i a ha
        rcases h with ⟨w', h1, h2⟩ | ⟨k, v, w', h1, h2⟩
        · refine does_v (w' := w') ?_ h2
          rw [hρ _ _ ha]; exact h1
        · refine does_v (w' := w') ?_ h2
          rw [hρ _ _ ha]; exact h1
      · exact h.elim
  case entry x =>
    simp only [wo] at h
    split at h
    · rename_i a ha
      obtain ⟨n, s, w', h1, h2⟩ := h
      refine does_v (w' := w') ?_ h2
      rw [hρ _ _ ha]; exact h1
    · exact h.elim
  case panic x => exact h.elim
  case makeMap t r =>
    cases r with
    | none => exact does_v (s := Instr.makeMap t none) rfl (h _ _ rfl rfl)
    | some _ => exact h.elim
  case mapUpdate t m k x =>
    simp only [wo] at h
    split at h
    · rename_i a b c ha hb hc
      obtain ⟨w', h1, h2⟩ := h
      simp only [execOp, hρ _ _ ha, hρ _ _ hb, hρ _ _ hc, Sem.run_bind, h1, Result.andThen_ok, Sem.run_pure]
      exact h2
    · exact h.elim
  case call c =>
    obtain ⟨callee, args, ats⟩ := c
    cases callee
    case invoke => exact h.elim
    case value f =>
      cases f with
      | func g =>
        simp only [wo] at h
        split at h
        · rename_i r hr
          have h := ovs_of hρ h
          have hc := C.sok _ _ hr
          have hf := hρ (.func g) _ rfl
          have e1 : (execOp ρ ⟨dst, .call ⟨.value (.func g), args, ats⟩, ty, pos, after, guard⟩).run P w = .ok (.enter g (([] ++ args.toList.map ρ).toArray)) w := by
            simp only [execOp, resolve, hf, Deferred.ofValue, Sem.run_bind, Sem.run_pure, Result.andThen_ok, invoke]
            rw [hc]
            congr 2
            simp only [List.nil_append, Array.append_empty, Array.empty_append]
            rw [← Array.toList_map, Array.toArray_toList]
          rw [e1]
          exact h.mono fun e w' h => exR_of h
        · exact h.elim
      | _ =>
        simp only [wo] at h
        split at h
        · rename_i v hf
          obtain ⟨g, fs, cs, hv, hc, h⟩ := h
          have h := ovs_of hρ h
          rw [hv] at hf
          have e1 : ∀ x, ρ x = .func (.func g) fs cs → (execOp ρ ⟨dst, .call ⟨.value x, args, ats⟩, ty, pos, after, guard⟩).run P w = .ok (.enter g (((fs.toList ++ args.toList.map ρ) ++ cs.toList).toArray)) w := fun x hx => by
            simp only [execOp, resolve, hx, Deferred.ofValue, Sem.run_bind, Sem.run_pure, Result.andThen_ok, invoke]
            rw [hc]
            congr 2
            simp
          rw [e1 _ (hρ _ _ hf)]
          refine h.mono fun e w' h => ?_
          split at h
          · exact exV_of h
          · exact ⟨_, h⟩
        · exact h.elim
    case builtin b =>
      simp only [wo] at h
      have h := ovs_of hρ h
      have h := blt_run (cs := args.map fun | .const _ => true | _ => false) C h
      have e2 : args.map ρ = ([] ++ args.toList.map ρ).toArray := by rw [List.nil_append, ← Array.toList_map, Array.toArray_toList]
      simp only [execOp, resolve, Sem.run_bind, Sem.run_pure, Result.andThen_ok, invoke]
      rw [e2]
      exact h
  all_goals exact fall (by simp) h
end
end Go.Proofs.Ytgffaimgnmfifaa

/- The lift, continued: regions, code, calls. -/
namespace Go.Proofs.Ytgffaimgnmfifaa
open Go.RowKit

/-! ### Regions -/
def pd (n : Nat) (l : Fl) (dst : Option Nat) (v : Value) (G : Fl → Prop) : Prop :=
  match dst with
  | none => G l
  | some d => match Nat.blt d n with | true => G ((d, v) :: l) | false => False
def gv (all : List Oper) (l : Fl) (j : Nat) : Option (Nat × Bool) :=
  match all[j]? with
  | some o => match o.dst with
    | some t => match lkN l t with | some (.bool b) => some (t, b) | _ => none
    | none => none
  | none => none
/-- The guard was itself passed over. -/
def gu (all : List Oper) (l : Fl) (j : Nat) : Bool :=
  match all[j]? with
  | some o => match o.dst with
    | some t => match lkN l t with | some (.tuple _) => true | _ => false
    | none => false
  | none => false
def wops {P : Program} (C : Orc P) (n : Nat) (all : List Oper) : List Oper → Fl → World → (Fl → World → Prop) → Prop
  | [], l, w, K => K l w
  | o :: r, l, w, K =>
    match o.guard with
    | none => wo C l o w fun v w' => pd n l o.dst v fun l' => wops C n all r l' w' K
    | some (j, want) =>
      match gv all l j with
      | some (t, b) =>
        brB b
          (match want with
           | true => wo C ((t, .bool true) :: l) o w fun v w' => pd n ((t, .bool true) :: l) o.dst v fun l' => wops C n all r l' w' K
           | false => pd n ((t, .bool true) :: l) o.dst undef fun l' => wops C n all r l' w K)
          (match want with
           | false => wo C ((t, .bool false) :: l) o w fun v w' => pd n ((t, .bool false) :: l) o.dst v fun l' => wops C n all r l' w' K
           | true => pd n ((t, .bool false) :: l) o.dst undef fun l' => wops C n all r l' w K)
      | none => match gu all l j with | true => pd n l o.dst undef fun l' => wops C n all r l' w K | false => False
def dsts : List Oper → List Nat
  | [] => []
  | o :: r => match o.dst with | some d => d :: dsts r | none => dsts r

section
variable {P : Program}
theorem Has.pd {n : Nat} {a : Act} {l : Fl} (h : Has n a l) {dst : Option Nat} {v : Value} {G : Fl → Prop} (hg : pd n l dst v G) : ∃ l', Has n (a.put dst v) l' ∧ G l' := by
  unfold Go.Proofs.Ytgffaimgnmfifaa.pd at hg
  split at hg
  · exact ⟨l, h, hg⟩
  · split at hg
    · rename_i hd
      exact ⟨_, h.put (by simpa [Nat.blt_eq] using hd) v, hg⟩
    · exact hg.elim
theorem put_other {a : Act} {dst : Option Nat} {v : Value} {t : Nat} (h : ∀ d, dst = some d → d ≠ t) : (a.put dst v).tmps[t]? = a.tmps[t]? := by
  cases dst with
  | none => rfl
  | some d => simp [Act.put, Array.getElem?_setIfInBounds_ne (h d rfl)]
theorem gv_of {ops : Array Oper} {n : Nat} {a : Act} {l : Fl} (h : Has n a l) {j t : Nat} {b : Bool} (hg : gv ops.toList l j = some (t, b)) : yielded ops a.tmps j = some b ∧ lkN l t = some (.bool b) := by
  unfold gv at hg
  split at hg
  · rename_i o ho
    split at hg
    · rename_i t' ht
      split at hg
      · rename_i b' hb
        injection hg with hg; injection hg with e1 e2; subst e1 e2
        refine ⟨?_, hb⟩
        have h1 := h.get _ _ hb
        have h2 : ops[j]? = some o := by simpa using ho
        simp [yielded, h2, ht, h1]
      · cases hg
    · cases hg
  · cases hg
theorem gu_of {ops : Array Oper} {n : Nat} {a : Act} {l : Fl} (h : Has n a l) {j : Nat} (hg : gu ops.toList l j = true) : yielded ops a.tmps j = none := by
  unfold gu at hg
  split at hg
  · rename_i o ho
    split at hg
    · rename_i t' ht
      split at hg
      · rename_i vs hb
        have h1 := h.get _ _ hb
        have h2 : ops[j]? = some o := by simpa using ho
        simp [yielded, h2, ht, h1]
      · cases hg
    · cases hg
  · cases hg
theorem wp_of_does {o : Oper} {a : Act} {w : World} {F : Value → World → Prop} {K : Act → World → Prop} {Q : Exit → Act → World → Prop} (h : Does P ((execOp a.eval o).run P w) F)
    (hK : ∀ v w', F v w' → K (a.put o.dst v) w') : o.wp P a w K Q := by
  unfold Oper.wp
  generalize (execOp a.eval o).run P w = r at h
  cases r with
  | ok x w' =>
    cases x <;> simp only [Does] at h <;> simp only [Oper.upon]
    case value v => exact hK _ _ h
    case skip => exact hK _ _ h
    case enter f args =>
      exact h.mono fun e w'' ⟨v, he, hF⟩ => by subst he; exact hK _ _ hF
    all_goals exact h.elim
  | halt x w' => exact h.elim
theorem wops_sound (C : Orc P) {n : Nat} {ops : Array Oper} {Q : Exit → Act → World → Prop} {K : Fl → World → Prop} : ∀ (r : List Oper) (l : Fl) (a : Act) (w : World), Has n a l → wops C n ops.toList r l w K →
    (∀ l' a' w', Has n a' l' → K l' w' → (∀ t, t ∉ dsts r → a'.tmps[t]? = a.tmps[t]?) → Q .normal a' w') → wpList P ops Q r a w
  | [], l, a, w, ha, h, hK => hK l a w ha h fun _ _ => rfl
  | o :: r, l, a, w, ha, h, hK => by
    have rest : ∀ v w' l', Has n (a.put o.dst v) l' → wops C n ops.toList r l' w' K → wpList P ops Q r (a.put o.dst v) w' := by
      intro v w' l' ha' h'
      refine wops_sound C r l' _ w' ha' h' fun l'' a'' w'' h1 h2 h3 => hK l'' a'' w'' h1 h2 fun t ht => ?_
      unfold dsts at ht
      cases hd : o.dst with
      | none => rw [hd] at ht h3; rw [h3 t ht]; exact put_other (by simp)
      | some d =>
        rw [hd] at ht h3
        simp only [List.mem_cons, not_or] at ht
        rw [h3 t ht.2]; exact put_other (by rintro _ ⟨⟩; exact fun e => ht.1 e.symm)
    have exec : ∀ l1, Has n a l1 → Region.wanted o (yielded ops a.tmps) = true → wo C l1 o w (fun v w' => pd n l1 o.dst v fun l' => wops C n ops.toList r l' w' K) → wpList P ops Q (o :: r) a w := by
      intro l1 h1 hw h2
      unfold wpList
      rw [if_pos hw]
      refine .inl (wp_of_does (wo_sound C (fun x v hx => h1.ov hx) h2) fun v w' h3 => ?_)
      obtain ⟨l', h4, h5⟩ := h1.pd h3
      exact rest v w' l' h4 h5
    have skip : ∀ l1, Has n a l1 → Region.wanted o (yielded ops a.tmps) = false → pd n l1 o.dst undef (fun l' => wops C n ops.toList r l' w K) → wpList P ops Q (o :: r) a w := by
      intro l1 h1 hw h2
      unfold wpList
      rw [if_neg (by rw [hw]; simp)]
      obtain ⟨l', h4, h5⟩ := h1.pd h2
      exact rest _ w l' h4 h5
    unfold wops at h
    split at h
    · rename_i hg
      exact exec l ha (by simp [Region.wanted, hg]) h
    · rename_i j want hg
      split at h
      · rename_i t b hgv
        obtain ⟨hy, hl⟩ := gv_of ha hgv
        have hb := brB_iff.1 h
        cases b
        · have hb := hb.2 rfl
          cases want
          · exact exec _ (ha.know hl) (by simp [Region.wanted, hg, hy]) hb
          · exact skip _ (ha.know hl) (by simp [Region.wanted, hg, hy]) hb
        · have hb := hb.1 rfl
          cases want
          · exact skip _ (ha.know hl) (by simp [Region.wanted, hg, hy]) hb
          · exact exec _ (ha.know hl) (by simp [Region.wanted, hg, hy]) hb
      · split at h
        · rename_i hu
          exact skip l ha (by simp [Region.wanted, hg, gu_of ha hu]) h
        · exact h.elim
end

/-! ### Loops: what holds of the slots, by their kinds -/
def KT : Kd → Type
  | .int _ => Int | .bool => Bool | .str => ByteArray | .ptr => Option Addr | .sl => Sl | .mp => Option Nat | .val => Value | .blk => Nat
def Cur : List Kd → Type → Type
  | [], X => X
  | k :: r, X => KT k → Cur r X
def dec {X : Type} (bad : X) : (ks : List Kd) → Cur ks X → List Value → X
  | [], f, vs => match vs with | [] => f | _ => bad
  | .int k :: r, f, vs => match vs with | .int k' n :: vs => (match kq k k' with | true => dec bad r (f n) vs | false => bad) | _ => bad
  | .bool :: r, f, vs => match vs with | .bool b :: vs => dec bad r (f b) vs | _ => bad
  | .str :: r, f, vs => match vs with | .string s :: vs => dec bad r (f s) vs | _ => bad
  | .ptr :: r, f, vs => match vs with | .pointer p :: vs => dec bad r (f p) vs | _ => bad
  | .sl :: r, f, vs => match vs with | .slice p n c :: vs => dec bad r (f (⟨p, n, c⟩ : Sl)) vs | _ => bad
  | .mp :: r, f, vs => match vs with | .map m :: vs => dec bad r (f m) vs | _ => bad
  | .val :: r, f, vs => match vs with | v :: vs => dec bad r (f v) vs | _ => bad
  | .blk :: r, f, vs => match vs with | .pointer (some ⟨b, 0, none⟩) :: vs => dec bad r (f b) vs | _ => bad
def allL : List Kd → List Value → (List Value → Prop) → Prop
  | [], acc, F => F acc
  | .int k :: r, acc, F => ∀ n : Int, allL r (acc ++ [.int k n]) F
  | .bool :: r, acc, F => ∀ b : Bool, allL r (acc ++ [.bool b]) F
  | .str :: r, acc, F => ∀ s : ByteArray, allL r (acc ++ [.string s]) F
  | .ptr :: r, acc, F => ∀ p : Option Addr, allL r (acc ++ [.pointer p]) F
  | .sl :: r, acc, F => ∀ s : Sl, allL r (acc ++ [s.val]) F
  | .mp :: r, acc, F => ∀ m : Option Nat, allL r (acc ++ [.map m]) F
  | .val :: r, acc, F => ∀ v : Value, allL r (acc ++ [v]) F
  | .blk :: r, acc, F => ∀ b : Nat, allL r (acc ++ [.pointer (some ⟨b, 0, none⟩)]) F
theorem allL_dec {F : List Value → Prop} {w : World} : ∀ (ks : List Kd) (acc : List Value) (I : Cur ks (World → Prop)) (vs : List Value), allL ks acc F → dec (fun _ => False) ks I vs w → F (acc ++ vs) := by
  intro ks
  induction ks with
  | nil =>
    intro acc I vs h hd
    cases vs with
    | nil => simpa [allL] using h
    | cons v vs => exact hd.elim
  | cons k r ih =>
    intro acc I vs h hd
    cases vs with
    | nil => cases k <;> exact hd.elim
    | cons v vs =>
      have fin : ∀ (I' : Cur r (World → Prop)), allL r (acc ++ [v]) F → dec (fun _ => False) r I' vs w → F (acc ++ v :: vs) := fun I' h1 h2 => by
        have := ih (acc ++ [v]) I' vs h1 h2
        simpa using this
      cases k with
      | int k =>
        cases v with
        | int k' n =>
          change (match kq k k' with | true => dec (fun _ => False) r (I n) vs | false => (fun _ => False)) w at hd
          cases hk : kq k k' with
          | true => rw [hk] at hd; obtain rfl := kq_eq hk; exact fin (I n) (h n) hd
          | false => rw [hk] at hd; exact hd.elim
        | _ => exact hd.elim
      | bool => cases v with
        | bool b => exact fin (I b) (h b) hd
        | _ => exact hd.elim
      | str => cases v with
        | string b => exact fin (I b) (h b) hd
        | _ => exact hd.elim
      | ptr => cases v with
        | pointer b => exact fin (I b) (h b) hd
        | _ => exact hd.elim
      | sl => cases v with
        | slice p n c => exact fin (I (⟨p, n, c⟩ : Sl)) (h ⟨p, n, c⟩) hd
        | _ => exact hd.elim
      | mp => cases v with
        | map b => exact fin (I b) (h b) hd
        | _ => exact hd.elim
      | val => exact fin (I v) (h v) hd
      | blk => cases v with
        | pointer p =>
          match p, hd, fin with
          | some ⟨b, 0, none⟩, hd, fin => exact fin (I b) (h b) hd
          | some ⟨b, k + 1, none⟩, hd, fin => exact hd.elim
          | some ⟨b, 0, some _⟩, hd, fin => exact hd.elim
          | some ⟨b, k + 1, some _⟩, hd, fin => exact hd.elim
          | none, hd, fin => exact hd.elim
        | _ => exact hd.elim
def lks (l : Fl) : List Nat → Option (List Value)
  | [] => some []
  | t :: r => match lkN l t with | some v => (match lks l r with | some vs => some (v :: vs) | none => none) | none => none
def zipl : List Nat → List Value → Fl → Fl
  | t :: ts, v :: vs, l => (t, v) :: zipl ts vs l
  | _, _, l => l
def memB (t : Nat) : List Nat → Bool
  | [] => false
  | x :: r => match Nat.beq x t with | true => true | false => memB t r
def rmA (A : List Nat) : Fl → Fl
  | [] => []
  | (t, v) :: r => match memB t A with | true => rmA A r | false => (t, v) :: rmA A r
def subB (A : List Nat) : List Nat → Bool
  | [] => true
  | t :: r => match memB t A with | true => subB A r | false => false
theorem memB_iff {t : Nat} : ∀ {A : List Nat}, memB t A = true ↔ t ∈ A
  | [] => by simp [memB]
  | x :: r => by
    unfold memB
    by_cases h : x = t
    · subst h; simp
    · have : Nat.beq x t = false := by
        cases hb : Nat.beq x t with
        | true => exact absurd (Nat.eq_of_beq_eq_true hb) h
        | false => rfl
      simp [this, memB_iff, Ne.symm h]
theorem rmA_get {A : List Nat} {t : Nat} {v : Value} : ∀ {l : Fl}, lkN (rmA A l) t = some v → t ∉ A ∧ lkN l t = some v
  | [], h => by simp [rmA, lkN] at h
  | (k, u) :: r, h => by
    unfold rmA at h
    split at h
    · rename_i hm
      obtain ⟨h1, h2⟩ := rmA_get h
      refine ⟨h1, ?_⟩
      rw [lkN_cons, if_neg (fun e => h1 (by subst e; exact memB_iff.1 hm))]; exact h2
    · rename_i hm
      rw [lkN_cons] at h ⊢
      by_cases e : k = t
      · subst e
        rw [if_pos rfl] at h ⊢
        exact ⟨fun hk => (by rw [memB_iff.2 hk] at hm; cases hm), h⟩
      · rw [if_neg e] at h ⊢
        exact rmA_get h
theorem zipl_get {l : Fl} {t : Nat} {v : Value} : ∀ {ts : List Nat} {vs : List Value}, lkN (zipl ts vs l) t = some v → (t ∈ ts ∧ ∃ i : Nat, ts[i]? = some t ∧ vs[i]? = some v) ∨ lkN l t = some v
  | [], vs, h => .inr (by cases vs <;> exact h)
  | k :: ts, [], h => .inr h
  | k :: ts, u :: vs, h => by
    unfold zipl at h
    rw [lkN_cons] at h
    by_cases e : k = t
    · rw [if_pos e] at h; injection h with h; subst h e
      exact .inl ⟨by simp, 0, rfl, rfl⟩
    · rw [if_neg e] at h
      rcases zipl_get h with ⟨h1, i, h2, h3⟩ | h
      · exact .inl ⟨by simp [h1], i + 1, h2, h3⟩
      · exact .inr h
theorem lks_get {l : Fl} : ∀ {ts : List Nat} {vs : List Value}, lks l ts = some vs → ∀ (i t : Nat) (v : Value), ts[i]? = some t → vs[i]? = some v → lkN l t = some v
  | [], vs, h, i, t, v, h1, h2 => by simp at h1
  | k :: ts, vs, h, i, t, v, h1, h2 => by
    unfold lks at h
    split at h
    · rename_i u hu
      split at h
      · rename_i us hus
        injection h with h; subst h
        cases i with
        | zero => simp at h1 h2; subst h1 h2; exact hu
        | succ i => exact lks_get hus i t v (by simpa using h1) (by simpa using h2)
      · cases h
    · cases h
theorem lks_tmps {n : Nat} {a : Act} {l : Fl} (ha : Has n a l) : ∀ {ts : List Nat} {vs : List Value}, lks l ts = some vs → ts.map (fun t => a.tmps.getD t undef) = vs
  | [], vs, h => by simp [lks] at h; simp [h]
  | k :: ts, vs, h => by
    unfold lks at h
    split at h
    · rename_i u hu
      split at h
      · rename_i us hus
        injection h with h; subst h
        have h1 := ha.get _ _ hu
        have h2 := lks_tmps ha hus
        simp only [List.map_cons, h2]
        congr 1
        simp [h1]
      · cases h
    · cases h
end Go.Proofs.Ytgffaimgnmfifaa

/- The lift, continued: operations that leave the world alone, whatever order is drawn. -/
namespace Go.Proofs.Ytgffaimgnmfifaa
open Go.RowKit

def stb : Op → Bool
  | .move _ | .assign _ | .pick .. | .load .. | .nilCheck _ | .binOp .. | .unOp .. | .extract .. | .fieldAddr .. | .indexAddr .. | .index .. | .slice .. | .convert .. => true
  | .call c => match c.callee with | .builtin .len => true | .builtin .min => true | .builtin .max => true | _ => false
  | _ => false
/-- In every world of S the cell holds it. -/
def held (S : World → Prop) (p : Addr) (v : Value) : Prop := ∀ w, S w → w.cell? p = some v
def cellsAtS (S : World → Prop) (p : Addr) : Nat → List Value → Prop → Prop
  | _, [], G => G
  | i, v :: r, G => held S (p.add i) v ∧ cellsAtS S p (i + 1) r G
def ldS (i : Bool × List Kd) (S : World → Prop) (p : Addr) (F : Value → Prop) : Prop :=
  match i with
  | (true, ks) => exL ks [] fun vs => match Nat.beq vs.length ks.length with | true => cellsAtS S p 0 vs (F (.agg vs.toArray)) | false => False
  | (false, ks) => exL ks [] fun vs => match vs with | [v] => held S p v ∧ F v | _ => False
def slQ (o : Option Addr) (n c : Nat) (lo hi : Option Int) (size : Nat) (G : Sl → Prop) : Prop :=
  match lo, hi with
  | none, none => G (Sl.sub o c 0 n size)
  | some l, none => 0 ≤ l ∧ l ≤ n ∧ G (Sl.sub o c l.toNat n size)
  | none, some h => 0 ≤ h ∧ h ≤ c ∧ G (Sl.sub o c 0 h.toNat size)
  | some l, some h => 0 ≤ l ∧ l ≤ h ∧ h ≤ c ∧ G (Sl.sub o c l.toNat h.toNat size)
def bltQ {P : Program} (C : Orc P) (b : Builtin) (ts : Array TypeId) (vs : List Value) (F : Value → Prop) : Prop :=
  match b, vs with
  | .len, [.slice _ n _] => match ts[0]? with | some t => (match lkN C.ts t with | some { tk := .sl _, .. } => F (.int .i64 n) | _ => False) | none => False
  | .len, [.string s] => match ts[0]? with | some t => (match lkN C.ts t with | some { tk := .str, .. } => F (.int .i64 s.size) | _ => False) | none => False
  | .min, [.int k x, .int _ y] => F (.int k (imin x y))
  | .max, [.int k x, .int _ y] => F (.int k (imax x y))
  | _, _ => False
/-- What is enough for an operation that leaves the world alone, in every world of a class. -/
def wq {P : Program} (C : Orc P) (l : Fl) (o : Oper) (S : World → Prop) (F : Value → Prop) : Prop :=
  match o.op with
  | .move x => un (ov l x) F
  | .assign x => un (ov l x) F
  | .pick c a b =>
    match ov l c with
    | some (.bool t) => brB t (un (ov l a) F) (un (ov l b) F)
    | _ => False
  | .load t a =>
    match lkN C.ts t, ov l a with
    | some i, some (.pointer (some p)) => ldS (i.agg, i.ks) S p F
    | _, _ => False
  | .nilCheck x =>
    match ov l x with
    | some (.pointer p) => nn p fun a => F (.pointer (some a))
    | _ => False
  | .binOp op t x y _ => match ov l x, ov l y with | some a, some b => bin C.ts op t a b F | _, _ => False
  | .unOp op _ x =>
    match op, ov l x with
    | .not, some (.bool b) => F (.bool (!b))
    | .neg, some (.int k n) => F (.int k (k.wrap (0 - n)))
    | .xor, some (.int k n) => F (.int k (ixor k (if k.signed then -1 else k.max) n))
    | _, _ => False
  | .extract x i => match ov l x with | some (.tuple vs) => un vs[i]? F | _ => False
  | .fieldAddr t x f =>
    match lkN C.ts t, ov l x with
    | some { tk := .st fs, .. }, some (.pointer (some p)) =>
      match fs[f]? with
      | some (off, t') => match lkN C.ts t' with | some { ks := _ :: _, .. } => F (.pointer (some (p.add off))) | _ => False
      | none => False
    | _, _ => False
  | .indexAddr t x i =>
    match lkN C.ts t, ov l x, ov l i with
    | some { tk := .sl e, .. }, some (.slice o n _), some (.int _ j) =>
      match lkN C.ts e with | some ie => ∃ p, o = some p ∧ 0 ≤ j ∧ j < n ∧ F (.pointer (some (p.add (j.toNat * ie.ks.length)))) | none => False
    | some { tk := .arr n e, .. }, some (.pointer (some p)), some (.int _ j) =>
      match lkN C.ts e with | some ie => 0 ≤ j ∧ j < n ∧ F (.pointer (some (p.add (j.toNat * ie.ks.length)))) | none => False
    | _, _, _ => False
  | .index t x i =>
    match lkN C.ts t, ov l x, ov l i with
    | some { tk := .str, .. }, some (.string s), some (.int _ j) => 0 ≤ j ∧ j < s.size ∧ F (.int .u8 (sb s j))
    | _, _, _ => False
  | .slice t x lo hi none =>
    match lkN C.ts t, ov l x, oint l lo, oint l hi with
    | some { tk := .sl e, .. }, some (.slice o n c), some lo', some hi' => match lkN C.ts e with | some ie => slQ o n c lo' hi' ie.ks.length fun s => F s.val | none => False
    | some { tk := .str, .. }, some (.string s), some lo', some hi' => stK s lo' hi' fun s' => F (.string s')
    | _, _, _, _ => False
  | .convert s d x =>
    match ov l x, lkN C.ts d, lkN C.ts s with
    | some (.int _ n), some { tk := .int k, .. }, some _ => F (.int k (k.wrap n))
    | _, _, _ => False
  | .call c =>
    match c.callee with
    | .builtin b => ovs l c.args.toList [] fun vs => bltQ C b c.argTypes vs F
    | _ => False
  | _ => False

section
variable {P : Program}
/-- The operation yields v in every world of the class, and leaves it alone. -/
def Yld (P : Program) (o : Oper) (ρ : Operand → Value) (S : World → Prop) (v : Value) : Prop := ∀ w, S w → (execOp ρ o).run P w = .ok (.value v) w
theorem cellsAtS_run {S : World → Prop} {p : Addr} {G : Prop} : ∀ (vs : List Value) (i : Nat), cellsAtS S p i vs G →
    (∀ w, S w → ∀ acc : Array Value, (loadCellsFrom p i vs.length acc).run P w = .ok (acc ++ vs.toArray) w) ∧ G
  | [], i, h => ⟨fun w _ acc => by simp [loadCellsFrom, Sem.run_pure], h⟩
  | v :: r, i, h => by
    obtain ⟨h1, h2⟩ := h
    obtain ⟨h3, h4⟩ := cellsAtS_run r (i + 1) h2
    refine ⟨fun w hw acc => ?_, h4⟩
    simp only [List.length_cons, loadCellsFrom, Sem.run_bind, load, Sem.run, h1 w hw, Result.andThen_ok, h3 w hw]
    congr 1
    simp
theorem ldS_run {i : Ti} {t : TypeId} (hi : TiOk P t i) {S : World → Prop} {p : Addr} {F : Value → Prop} (h : ldS (i.agg, i.ks) S p F) : ∃ v, (∀ w, S w → (loadVar t p).run P w = .ok v w) ∧ F v := by
  unfold ldS at h
  simp only [loadVar, Sem.run_bind, hi.agg, Result.andThen_ok]
  split at h
  · rename_i b ks hb
    injection hb with h1 h2
    subst h2
    obtain ⟨vs, h⟩ := exL_of h
    split at h
    · rename_i hl
      have hl := Nat.eq_of_beq_eq_true hl
      obtain ⟨h3, h4⟩ := cellsAtS_run (P := P) vs 0 h
      refine ⟨_, fun w hw => ?_, h4⟩
      rw [h1]
      simp only [if_true, Sem.run_bind, hi.size, Result.andThen_ok, loadCells, ← hl, h3 w hw, Sem.run_pure]
      simp
    · exact h.elim
  · rename_i b ks hb
    injection hb with h1 h2
    obtain ⟨vs, h⟩ := exL_of h
    split at h
    · refine ⟨_, fun w hw => ?_, h.2⟩
      rw [h1]
      simp [load, Sem.run, h.1 w hw]
    · exact h.elim
theorem slQ_run {o : Option Addr} {n c : Nat} {lo hi : Option Int} {size : Nat} {G : Sl → Prop} (t e : TypeId) (ht : ∀ w, (underlying t).run P w = .ok (.slice e) w) (hs : ∀ w, (sizeOf e).run P w = .ok size w)
    (kl kh : IntKind) (h : slQ o n c lo hi size G) : ∃ s' : Sl, (∀ w, (Instr.sliceAt t (.slice o n c) (lo.map (.int kl)) (hi.map (.int kh)) none).run P w = .ok s'.val w) ∧ G s' := by
  have key : ∀ s', (slK o n c lo hi size (fun x => x = s')) → ∀ w, (Instr.sliceAt t (.slice o n c) (lo.map (.int kl)) (hi.map (.int kh)) none).run P w = .ok s'.val w := fun s' h w => by
    obtain ⟨x, h1, rfl⟩ := slK_run w t e ht hs kl kh h
    exact h1
  unfold slQ at h
  cases lo <;> cases hi <;> simp only at h
  · exact ⟨_, key _ (fun s' e => e), h⟩
  · exact ⟨_, key _ ⟨h.1, h.2.1, fun s' e => e⟩, h.2.2⟩
  · exact ⟨_, key _ ⟨h.1, h.2.1, fun s' e => e⟩, h.2.2⟩
  · exact ⟨_, key _ ⟨h.1, h.2.1, h.2.2.1, fun s' e => e⟩, h.2.2.2⟩
theorem stQ_run {s : ByteArray} {lo hi : Option Int} {G : ByteArray → Prop} (t : TypeId) (ht : ∀ w, (underlying t).run P w = .ok .string w)
    (kl kh : IntKind) (h : stK s lo hi G) : ∃ s', (∀ w, (Instr.sliceAt t (.string s) (lo.map (.int kl)) (hi.map (.int kh)) none).run P w = .ok (.string s') w) ∧ G s' := by
  have key : ∀ s', (stK s lo hi (fun x => x = s')) → ∀ w, (Instr.sliceAt t (.string s) (lo.map (.int kl)) (hi.map (.int kh)) none).run P w = .ok (.string s') w := fun s' h w => by
    obtain ⟨x, h1, rfl⟩ := stK_run w t ht kl kh h
    exact h1
  unfold stK at h
  cases lo <;> cases hi <;> simp only at h
  · exact ⟨_, key _ rfl, h⟩
  · exact ⟨_, key _ ⟨h.1, h.2.1, rfl⟩, h.2.2⟩
  · exact ⟨_, key _ ⟨h.1, h.2.1, rfl⟩, h.2.2⟩
  · exact ⟨_, key _ ⟨h.1, h.2.1, h.2.2.1, rfl⟩, h.2.2.2⟩

theorem binI_Q {op : BinOp} {k : IntKind} {a b : Int} {F : Value → Prop} (h : binI op k a b F) : ∃ v, F v ∧ binI op k a b (· = v) := by
  cases op <;> simp only [binI] at h ⊢ <;> first | exact h.elim | exact ⟨_, h, rfl⟩ | exact ⟨_, h.2, h.1, rfl⟩
theorem shI_Q {op : BinOp} {k : IntKind} {a b : Int} {F : Value → Prop} (h : shI op k a b F) : ∃ v, F v ∧ shI op k a b (· = v) := by
  cases op <;> simp only [shI] at h ⊢ <;> first | exact h.elim | exact ⟨_, h.2, h.1, rfl⟩
theorem binS_Q {op : BinOp} {a b : ByteArray} {F : Value → Prop} (h : binS op a b F) : ∃ v, F v ∧ binS op a b (· = v) := by
  cases op <;> simp only [binS] at h ⊢ <;> first | exact h.elim | exact ⟨_, h, rfl⟩ | exact ⟨_, h.2, h.1, rfl⟩
theorem binN_Q {op : BinOp} {b : Bool} {F : Value → Prop} (h : binN op b F) : ∃ v, F v ∧ binN op b (· = v) := by
  cases op <;> simp only [binN] at h ⊢ <;> first | exact h.elim | exact ⟨_, h, rfl⟩
theorem bin_Q {C : List (Nat × Ti)} {op : BinOp} {t : TypeId} {a b : Value} {F : Value → Prop} (h : bin C op t a b F) : ∃ v, F v ∧ bin C op t a b (· = v) := by
  unfold bin at h
  split at h
  · rename_i k x k' y
    split at h
    · exact shI_Q h
    · exact shI_Q h
    · rename_i h1 h2
      split at h
      · rename_i hk
        obtain ⟨v, h3, h4⟩ := binI_Q h
        refine ⟨v, h3, ?_⟩
        cases op <;> first | exact absurd rfl h1 | exact absurd rfl h2 | (simp only [bin, hk]; exact h4)
      · exact h.elim
  · obtain ⟨v, h3, h4⟩ := binS_Q h; exact ⟨v, h3, h4⟩
  · split at h
    · rename_i hl; obtain ⟨v, h3, h4⟩ := binN_Q h; exact ⟨v, h3, by simp only [bin, hl]; exact h4⟩
    · exact h.elim
  · split at h
    · rename_i hl; obtain ⟨v, h3, h4⟩ := binN_Q h; exact ⟨v, h3, by simp only [bin, hl]; exact h4⟩
    · exact h.elim
  · split at h
    · rename_i hl; obtain ⟨v, h3, h4⟩ := binN_Q h; exact ⟨v, h3, by simp only [bin, hl]; exact h4⟩
    · exact h.elim
  · exact h.elim
theorem bin_runS (C : Orc P) {op : BinOp} {t : TypeId} {a b : Value} {F : Value → Prop} (h : bin C.ts op t a b F) :
    ∃ v, (∀ w, (binOp op t a b).run P w = .ok v w) ∧ F v ∧ a ≠ .nilIface ∧ (∀ c, a ≠ .agg c) := by
  obtain ⟨v, h1, h2⟩ := bin_Q h
  refine ⟨v, fun w => ?_, h1, (bin_run C default h2).2⟩
  obtain ⟨u, h3, rfl⟩ := (bin_run C w h2).1
  exact h3
theorem blt_runS (C : Orc P) {b : Builtin} {ts : Array TypeId} {ty : TypeId} {vs : List Value} {cs : Array Bool} {F : Value → Prop} (h : bltQ C b ts vs F) :
    ∃ v, (∀ w, (builtin b ts ty cs vs.toArray).run P w = .ok (.value v) w) ∧ F v := by
  unfold bltQ at h
  split at h
  · split at h
    · rename_i t ht
      split at h
      · rename_i hl
        obtain ⟨d, hd, rfl⟩ := (C.tok _ _ hl).und
        exact ⟨_, fun w => run_v _ w (by simp [Builtin.len_, ht, Sem.run_bind, hd, Sem.run_pure, goInt]), h⟩
      · exact h.elim
    · exact h.elim
  · split at h
    · rename_i t ht
      split at h
      · rename_i hl
        obtain ⟨d, hd, rfl⟩ := (C.tok _ _ hl).und
        exact ⟨_, fun w => run_v _ w (by simp [Builtin.len_, ht, Sem.run_bind, hd, Sem.run_pure, goInt]), h⟩
      · exact h.elim
    · exact h.elim
  · exact ⟨_, fun w => run_v _ w (by simp [Builtin.min_, Builtin.min2, Sem.run_pure, Sem.run_bind, imin]), h⟩
  · exact ⟨_, fun w => run_v _ w (by simp [Builtin.max_, Builtin.max2, Sem.run_pure, Sem.run_bind, imax]), h⟩
  · exact h.elim

set_option maxHeartbeats 1000000 in
theorem wq_sound (C : Orc P) {l : Fl} {o : Oper} {S : World → Prop} {F : Value → Prop} {ρ : Operand → Value} (hρ : ∀ x v, ov l x = some v → ρ x = v) (h : wq C l o S F) : ∃ v, Yld P o ρ S v ∧ F v := by
  obtain ⟨dst, op, ty, pos, after, guard⟩ := o
  cases op
  case move x =>
    simp only [wq, un] at h
    split at h
    · rename_i v hv; exact ⟨v, fun w _ => by simp only [execOp, hρ _ _ hv, Sem.run_pure], h⟩
    · exact h.elim
  case assign x =>
    simp only [wq, un] at h
    split at h
    · rename_i v hv; exact ⟨v, fun w _ => by simp only [execOp, hρ _ _ hv, Sem.run_pure], h⟩
    · exact h.elim
  case pick c a b =>
    simp only [wq, un] at h
    split at h
    · rename_i t ht
      have h := brB_iff.1 h
      cases t
      · have h := h.2 rfl
        split at h
        · rename_i v hv; exact ⟨v, fun w _ => by simp [execOp, hρ _ _ ht, hρ _ _ hv, asBool, Sem.run_bind, Sem.run_pure], h⟩
        · exact h.elim
      · have h := h.1 rfl
        split at h
        · rename_i v hv; exact ⟨v, fun w _ => by simp [execOp, hρ _ _ ht, hρ _ _ hv, asBool, Sem.run_bind, Sem.run_pure], h⟩
        · exact h.elim
    · exact h.elim
  case load t a =>
    simp only [wq] at h
    split at h
    · rename_i i p hi hp
      obtain ⟨v, h1, h2⟩ := ldS_run (C.tok _ _ hi) h
      refine ⟨v, fun w hw => run_v _ w ?_, h2⟩
      simp only [Instr.loadAt, Instr.sureAddr, hρ _ _ hp, Sem.run_bind, Sem.run_pure, Result.andThen_ok, h1 w hw]
    · exact h.elim
  case nilCheck x =>
    simp only [wq] at h
    split at h
    · rename_i p hp
      unfold nn at h
      split at h
      · exact ⟨_, fun w _ => by simp only [execOp, hρ _ _ hp, Sem.run_pure], h⟩
      · exact h.elim
    · exact h.elim
  case binOp op t x y u =>
    simp only [wq] at h
    split at h
    · rename_i a b ha hb
      obtain ⟨v, h1, h2, h3, h4⟩ := bin_runS C h
      refine ⟨v, fun w _ => run_v _ w ?_, h2⟩
      rw [hρ _ _ ha, hρ _ _ hb]
      simp only [Sem.run_bind, eqGuard_run w h3 h4, Result.andThen_ok, h1]
    · exact h.elim
  case unOp op t x =>
    simp only [wq] at h
    split at h
    · rename_i b hb; exact ⟨_, fun w _ => run_v _ w (by rw [hρ _ _ hb]; simp only [Op.unary, Sem.run_pure]), h⟩
    · rename_i k n hb; exact ⟨_, fun w _ => run_v _ w (by rw [hρ _ _ hb]; simp only [Op.unary, Op.intArith, Sem.run_pure]), h⟩
    · rename_i k n hb; exact ⟨_, fun w _ => run_v _ w (by rw [hρ _ _ hb]; simp only [Op.unary, Op.intBits, Sem.run_pure, ixor]), h⟩
    · exact h.elim
  case extract x i =>
    simp only [wq, un] at h
    split at h
    · rename_i vs hv
      split at h
      · rename_i v hi
        exact ⟨_, fun w _ => run_v _ w (by simp only [hρ _ _ hv, Instr.extract, hi, Sem.run_pure]), h⟩
      · exact h.elim
    · exact h.elim
  case fieldAddr t x f =>
    simp only [wq] at h
    split at h
    · rename_i fs agg ks p hi hp
      split at h
      · rename_i off t' hf
        split at h
        · rename_i tk agg' k ks' hi'
          obtain ⟨d, hd, fields, rfl, rfl⟩ := (C.tok _ _ hi).und
          have hs := (C.tok _ _ hi').size
          refine ⟨_, fun w _ => run_v _ w ?_, h⟩
          simp only [List.getElem?_map, Array.getElem?_toList, Option.map_eq_some_iff] at hf
          obtain ⟨fd, hf1, hf2⟩ := hf
          injection hf2 with e1 e2
          subst e1 e2
          simp only [Instr.fieldAt, hρ _ _ hp, Instr.sureAddr, Sem.run_bind, hd, Result.andThen_ok, hf1, Sem.run_pure, fieldPlace, hs]
          simp [Sem.run_pure]
        · exact h.elim
      · exact h.elim
    · exact h.elim
  case indexAddr t x i =>
    simp only [wq] at h
    split at h
    · rename_i e agg ks o n c k j hi hx hj
      split at h
      · rename_i ie hie
        obtain ⟨p, rfl, h1, h2, h3⟩ := h
        obtain ⟨d, hd, rfl⟩ := (C.tok _ _ hi).und
        refine ⟨_, fun w _ => run_v _ w ?_, h3⟩
        simp [Instr.indexAt, hρ _ _ hx, hρ _ _ hj, asIntOf, Sem.run_bind, Sem.run_pure, hd, h1, h2, (C.tok _ _ hie).size]
      · exact h.elim
    · rename_i n e agg ks p k j hi hx hj
      split at h
      · rename_i ie hie
        obtain ⟨h1, h2, h3⟩ := h
        obtain ⟨d, hd, rfl⟩ := (C.tok _ _ hi).und
        refine ⟨_, fun w _ => run_v _ w ?_, h3⟩
        simp [Instr.indexAt, Instr.sureAddr, hρ _ _ hx, hρ _ _ hj, asIntOf, Sem.run_bind, Sem.run_pure, hd, h1, h2, (C.tok _ _ hie).size]
      · exact h.elim
    · exact h.elim
  case index t x i =>
    simp only [wq] at h
    split at h
    · rename_i agg ks s k j hi hx hj
      obtain ⟨h1, h2, h3⟩ := h
      obtain ⟨d, hd, rfl⟩ := (C.tok _ _ hi).und
      refine ⟨_, fun w _ => run_v _ w ?_, h3⟩
      have hlt : j.toNat < s.size := by omega
      have hb : s[j.toNat]? = some (s[j.toNat]'hlt) := getElem?_pos s j.toNat hlt
      simp only [Instr.index, hρ _ _ hx, hρ _ _ hj, asIntOf, Sem.run_bind, Sem.run_pure, Result.andThen_ok, hd, h1, if_true, hb, sb]
      have hlt2 : j.toNat < s.data.size := hlt
      rw [Array.getElem?_eq_getElem hlt2]
      rfl
    · exact h.elim
  case slice t x lo hi mx =>
    cases mx with
    | some m => exact h.elim
    | none =>
      simp only [wq] at h
      split at h
      · rename_i e agg ks o n c lo' hi' ht hx hlo hhi
        split at h
        · rename_i ie hie
          obtain ⟨d, hd, rfl⟩ := (C.tok _ _ ht).und
          obtain ⟨kl, hl⟩ := oint_of hρ hlo
          obtain ⟨kh, hh⟩ := oint_of hρ hhi
          obtain ⟨s', h1, h2⟩ := slQ_run t e hd (C.tok _ _ hie).size kl kh h
          refine ⟨_, fun w _ => run_v _ w ?_, h2⟩
          rw [hρ _ _ hx, hl, hh]; exact h1 w
        · exact h.elim
      · rename_i agg ks s lo' hi' ht hx hlo hhi
        obtain ⟨d, hd, rfl⟩ := (C.tok _ _ ht).und
        obtain ⟨kl, hl⟩ := oint_of hρ hlo
        obtain ⟨kh, hh⟩ := oint_of hρ hhi
        obtain ⟨s', h1, h2⟩ := stQ_run t hd kl kh h
        refine ⟨_, fun w _ => run_v _ w ?_, h2⟩
        rw [hρ _ _ hx, hl, hh]; exact h1 w
      · exact h.elim
  case convert s d x =>
    simp only [wq] at h
    split at h
    · rename_i k' n k agg ks i hx hd hs
      obtain ⟨dd, hdd, rfl⟩ := (C.tok _ _ hd).und
      obtain ⟨ds, hds, _⟩ := (C.tok _ _ hs).und
      refine ⟨_, fun w _ => run_v _ w ?_, h⟩
      simp [convert, hρ _ _ hx, Sem.run_bind, hdd, hds, Conv.intToInt, Sem.run_pure]
    · exact h.elim
  case call c =>
    obtain ⟨callee, args, ats⟩ := c
    cases callee
    case invoke => exact h.elim
    case value f => exact h.elim
    case builtin b =>
      simp only [wq] at h
      have h := ovs_of hρ h
      obtain ⟨v, h1, h2⟩ := blt_runS (ty := ty) (cs := args.map fun | .const _ => true | _ => false) C h
      have e2 : args.map ρ = ([] ++ args.toList.map ρ).toArray := by rw [List.nil_append, ← Array.toList_map, Array.toArray_toList]
      refine ⟨v, fun w _ => ?_, h2⟩
      simp only [execOp, resolve, Sem.run_bind, Sem.run_pure, Result.andThen_ok, invoke]
      rw [e2]
      exact h1 w
  all_goals exact h.elim
end
end Go.Proofs.Ytgffaimgnmfifaa

/- The lift, continued: regions that draw their order. Their head: operations that leave the world alone (taken first), and others that come one by one; their tail: a chain that waits for the whole head. 'S' is what holds of the worlds of the head. -/
namespace Go.Proofs.Ytgffaimgnmfifaa
open Go.RowKit

section
variable {P : Program} {ops : Array Oper} {Q : Exit → Act → World → Prop} {md : Region.Mode} {S : World → Prop}
/-- Whatever order is picked from here on, and S holds behind every operation of the head. -/
def wpAnyT (P : Program) (md : Region.Mode) (ops : Array Oper) (Q : Exit → Act → World → Prop) (S : World → Prop) (n : Nat) : Nat → Array Bool → Act → World → Prop
  | 0, listed, a, w => Region.ready md ops listed = [] ∧ Q .normal a w
  | fuel + 1, listed, a, w =>
    (Region.ready md ops listed = [] → Q .normal a w) ∧
    ∀ i ∈ Region.ready md ops listed, wpOp P ops Q i (fun a' w' => (i < n → S w') ∧ wpAnyT P md ops Q S n fuel (listed.setIfInBounds i true) a' w') a w
theorem wpAny_of_T {n : Nat} : ∀ (fuel : Nat) (listed : Array Bool) (a : Act) (w : World), wpAnyT P md ops Q S n fuel listed a w → wpAny P md ops Q fuel listed a w
  | 0, _, _, _, h => h
  | fuel + 1, _, _, _, h => ⟨h.1, fun i hi => wpOp_mono (fun a' w' h' => wpAny_of_T fuel _ a' w' h'.2) (h.2 i hi)⟩

/-- An operation of the head may be taken first, if it yields in every world of S and all others are apart from it, or wait for it. -/
theorem wpAnyT_first {n i : Nat} {oi : Oper} {v : Value} (hi : ops[i]? = some oi) (hin : i < n) (hsel : ∀ (j : Nat) (o : Oper) cs b, ops[j]? = some o → o.op ≠ .select cs b)
    (hQ : ∀ c a w, Q (.panic c) (a.put oi.dst v) w → Q (.panic c) a w)
    (tw : ∀ listed, HeadInv md ops n listed → listed.getD i true = false → ∀ t, n ≤ t → t ∉ Region.ready md ops listed) :
    ∀ (fuel : Nat) (listed : Array Bool) (a : Act) (w : World), HeadInv md ops n listed →
      (∀ j oj, ops[j]? = some oj → j ≠ i → listed.getD j true = false → (∀ e ∈ oj.after, Region.binds md e = true → e.on ≠ i) → oi.apart ops oj = true) →
      i ∈ Region.ready md ops listed → YieldsIf P ops S oi v a → S w →
      wpAnyT P md ops Q S n fuel (listed.setIfInBounds i true) (a.put oi.dst v) w → wpAnyT P md ops Q S n (fuel + 1) listed a w := by
  intro fuel
  induction fuel with
  | zero =>
    intro listed a w _ _ hr hy hS H
    refine ⟨fun h => (by rw [h] at hr; cases hr), fun j hj => ?_⟩
    by_cases hji : j = i
    · subst hji; exact hy.wpOp hi hS ⟨fun _ => hS, H⟩
    · have := ready_mono hj hji
      rw [H.1] at this
      cases this
  | succ fuel ih =>
    intro listed a w inv hfree hr hy hS H
    refine ⟨fun h => (by rw [h] at hr; cases hr), fun j hj => ?_⟩
    by_cases hji : j = i
    · subst hji; exact hy.wpOp hi hS ⟨fun _ => hS, H⟩
    · have hun := (mem_ready.1 hr).1
      have hjn : j < n := by
        rcases Nat.lt_or_ge j n with h | h
        · exact h
        · exact absurd hj (tw listed inv hun j h)
      have h1 := H.2 j (ready_mono hj hji)
      obtain ⟨hjun, oj, hoj, hall⟩ := mem_ready.1 hj
      have hnot : ∀ e ∈ oj.after, Region.binds md e = true → e.on ≠ i := fun e he hb heq => by
        have h1 := hall e he hb
        rw [heq, getD_both hun] at h1
        cases h1
      have h2 := wpOp_putIf hoj (hfree j oj hoj hji hjun hnot) (fun cs b => hsel i oi cs b hi) (fun cs b => hsel j oj cs b hoj) hQ hy h1
      have hfree' : ∀ k ok, ops[k]? = some ok → k ≠ i → (listed.setIfInBounds j true).getD k true = false →
          (∀ e ∈ ok.after, Region.binds md e = true → e.on ≠ i) → oi.apart ops ok = true := fun k ok hk hki hun hno => by
        refine hfree k ok hk hki ?_ hno
        by_cases hjk : j = k
        · subst hjk; exact hjun
        · rw [getD_set_ne true hjk] at hun; exact hun
      refine wpOp_mono (fun a' w' h3 => ⟨h3.2.1, ih (listed.setIfInBounds j true) a' w' (inv.set hj hjn) hfree' (ready_mono hr (Ne.symm hji)) h3.1 (h3.2.1 hjn) ?_⟩) h2
      rw [Array.setIfInBounds_comm _ _ hji]
      exact h3.2.2
/-- The tail: a chain. -/
theorem wpAnyT_seq {n : Nat} : ∀ (l : List Oper) (k : Nat) (listed : Array Bool) (a : Act) (w : World), n ≤ k → (∀ j, l[j]? = ops[k + j]?) →
    Region.seqB md ops l.length k listed = true → wpList P ops Q l a w → wpAnyT P md ops Q S n l.length listed a w
  | [], _, _, _, _, _, _, hB, h => ⟨by simpa [Region.seqB] using hB, h⟩
  | o :: l, k, listed, a, w, hk, hl, hB, h => by
    have h0 : ops[k]? = some o := by simpa using (hl 0).symm
    simp only [List.length_cons, Region.seqB, Bool.and_eq_true, decide_eq_true_eq] at hB
    refine ⟨fun h1 => (by rw [hB.1] at h1; cases h1), fun i hi => ?_⟩
    rw [hB.1] at hi
    have hik : i = k := by simpa using hi
    subst hik
    have hw : wpOp P ops Q i (wpList P ops Q l) a w := by unfold wpOp; simp only [h0]; exact h
    exact wpOp_mono (fun a' w' h' => ⟨fun h => absurd hk (by omega), wpAnyT_seq l (i + 1) _ a' w' (by omega) (fun j => by have := hl (j + 1); simpa [Nat.add_assoc, Nat.add_comm 1 j] using this) hB.2 h'⟩) hw
end

/-! ### The order of a head -/
inductive Od where
  | done
  | st (i : Nat) (r : Od)
  | ef (i : Nat) (r : Od)
  | two (i : Nat) (a : Od) (j : Nat) (b : Od)
  | par (is : List (Nat × Bool × List Kd)) (r : Od)
  | log (is : List (Nat × Bool × List Kd)) (r : Od)
def Od.len : Od → Nat
  | .done => 0
  | .st _ r => r.len + 1
  | .ef _ r => r.len + 1
  | .two _ a _ _ => a.len + 1
  | .par is r => is.length + r.len
  | .log is r => is.length + r.len
/-- One behind the other they may be taken. -/
def okCh (ops : Array Oper) : List Nat → Array Bool → Bool
  | [], _ => true
  | i :: r, listed => (Region.ready .any ops listed).contains i && okCh ops r (listed.setIfInBounds i true)
/-- It waits for that one. -/
def waitsB (o : Oper) (i : Nat) : Bool := o.after.toList.any fun e => Region.binds .any e && Nat.beq e.on i
def wOf (ops : Array Oper) (q i : Nat) : Bool := match ops[q]? with | some o => waitsB o i | none => false
/-- It waits for that one, itself or by others of these. -/
def covB (ops : Array Oper) (is : List Nat) (o : Oper) (i : Nat) : Bool := waitsB o i || is.any fun q => waitsB o q && (wOf ops q i || is.any fun r => wOf ops q r && wOf ops r i)
/-- Nothing else is ready while any of these is not done: each other one waits for all of them, or for another one that is not done. -/
def okPar (ops : Array Oper) (is : List Nat) (listed : Array Bool) : Bool :=
  (List.range ops.size).all fun j => listed.getD j true || memB j is || (match ops[j]? with
    | some o => is.all (covB ops is o) || (List.range ops.size).any fun q => !listed.getD q true && !memB q is && waitsB o q
    | none => false)
def setB (is : List Nat) (listed : Array Bool) : Array Bool := is.foldl (fun l i => l.setIfInBounds i true) listed
def nodB : List Nat → Bool
  | [] => true
  | x :: r => (match memB x r with | true => false | false => true) && nodB r
/-- What is checked of it. -/
def okOd (ops : Array Oper) (n : Nat) : Od → Array Bool → Bool
  | .done, listed => Region.seqB .any ops (ops.size - n) n listed
  | .st i r, listed => Nat.blt i n && (match ops[i]? with | some o => stb o.op | none => false) && (Region.ready .any ops listed).contains i && Region.free .any ops listed i && okOd ops n r (listed.setIfInBounds i true)
  | .ef i r, listed => Nat.blt i n && decide (Region.ready .any ops listed = [i]) && okOd ops n r (listed.setIfInBounds i true)
  | .two i a j b, listed => Nat.blt i n && Nat.blt j n && decide (Region.ready .any ops listed = [i, j]) && Nat.beq a.len b.len && okOd ops n a (listed.setIfInBounds i true) && okOd ops n b (listed.setIfInBounds j true)
  | .par is r, listed => (is.map (·.1)).all (fun i => Nat.blt i n) && (nodB (is.map (·.1)) && (okCh ops (is.map (·.1)) listed && (okPar ops (is.map (·.1)) listed && okOd ops n r (setB (is.map (·.1)) listed))))
  | .log is r, listed => (is.map (·.1)).all (fun i => Nat.blt i n) && (nodB (is.map (·.1)) && (okCh ops (is.map (·.1)) listed && (okPar ops (is.map (·.1)) listed && okOd ops n r (setB (is.map (·.1)) listed))))
def okDr (ops : Array Oper) (n : Nat) (od : Od) : Bool :=
  Region.noSelect ops && (Nat.beq n ops.size || (decide (n < ops.size) && Region.sinkB .any ops n && Region.chainB .any ops n)) && Nat.beq od.len n && okOd ops n od (Array.replicate ops.size false)
/-- One operation of a region, with its guard. -/
def wg (all : List Oper) (n : Nat) (o : Oper) (l : Fl) (E : Fl → (Value → Prop) → Prop) (G : Fl → Prop) : Prop :=
  match o.guard with
  | none => E l fun v => pd n l o.dst v G
  | some (j, want) =>
    match gv all l j with
    | some (t, b) =>
      brB b
        (match want with
         | true => E ((t, .bool true) :: l) fun v => pd n ((t, .bool true) :: l) o.dst v G
         | false => pd n ((t, .bool true) :: l) o.dst undef G)
        (match want with
         | false => E ((t, .bool false) :: l) fun v => pd n ((t, .bool false) :: l) o.dst v G
         | true => pd n ((t, .bool false) :: l) o.dst undef G)
    | none => match gu all l j with | true => pd n l o.dst undef G | false => False
def wge (all : List Oper) (n : Nat) (o : Oper) (l : Fl) (w : World) (E : Fl → (Value → World → Prop) → Prop) (G : Fl → World → Prop) : Prop :=
  match o.guard with
  | none => E l fun v w' => pd n l o.dst v fun l' => G l' w'
  | some (j, want) =>
    match gv all l j with
    | some (t, b) =>
      brB b
        (match want with
         | true => E ((t, .bool true) :: l) fun v w' => pd n ((t, .bool true) :: l) o.dst v fun l' => G l' w'
         | false => pd n ((t, .bool true) :: l) o.dst undef fun l' => G l' w)
        (match want with
         | false => E ((t, .bool false) :: l) fun v w' => pd n ((t, .bool false) :: l) o.dst v fun l' => G l' w'
         | true => pd n ((t, .bool false) :: l) o.dst undef fun l' => G l' w)
    | none => match gu all l j with | true => pd n l o.dst undef fun l' => G l' w | false => False
/-! ### Operations that come in any order -/
/-- A value of these cells. -/
def mkA (ag : Bool) (vs : List Value) : Option Value :=
  match ag, vs with
  | true, vs => some (.agg vs.toArray)
  | false, [v] => some v
  | _, _ => none
def decA (ag : Bool) (ks : List Kd) (Φ : Cur ks (World → Prop)) (v : Value) (w : World) : Prop :=
  match ag, v with
  | true, .agg cs => dec (fun _ => False) ks Φ cs.toList w
  | true, _ => False
  | false, v => dec (fun _ => False) ks Φ [v] w
structure Sp where
  i : Nat
  ag : Bool
  ks : List Kd
  Φ : Cur ks (World → Prop)
/-- The slots that they fill. -/
def pds (all : List Oper) : List Nat → List Nat
  | [] => []
  | i :: r => match all[i]? with
    | some o => match o.dst with | some d => d :: pds all r | none => pds all r
    | none => pds all r
def parOk (n : Nat) (all : List Oper) : List Nat → Bool
  | [] => true
  | i :: r => (match all[i]? with
    | some o => (match o.guard, o.dst with | none, some d => Nat.blt d n | _, _ => false)
    | none => false) && parOk n all r
def parA {P : Program} (C : Orc P) (all : List Oper) (S : World → Prop) (T : World → World → Prop) (l0 : Fl) : List (Nat × Bool × List Kd) → List Sp → (List Sp → Prop) → Prop
  | [], acc, G => G acc
  | (i, ag, ks) :: r, acc, G => match all[i]? with
    | some o => ∃ Φ : Cur ks (World → Prop), (allL ks [] fun vs => ∀ w w', T w w' → dec (fun _ => False) ks Φ vs w → dec (fun _ => False) ks Φ vs w') ∧ (∀ w, S w → wo C l0 o w fun v w' => S w' ∧ T w w' ∧ decA ag ks Φ v w') ∧ parA C all S T l0 r (acc ++ [⟨i, ag, ks, Φ⟩]) G
    | none => False
def parB (n : Nat) (all : List Oper) (w : World) (K : Fl → World → Prop) : List Sp → Fl → Prop
  | [], l => K l w
  | s :: r, l => match all[s.i]? with
    | some o => allL s.ks [] fun vs => dec (fun _ => False) s.ks s.Φ vs w → (match mkA s.ag vs with | some v => pd n l o.dst v fun l' => parB n all w K r l' | none => False)
    | none => False
/-- Values of these kinds. -/
def fitC : (ks : List Kd) → Cur ks (World → Prop)
  | [] => fun _ => True
  | .int _ :: r => fun _ => fitC r
  | .bool :: r => fun _ => fitC r
  | .str :: r => fun _ => fitC r
  | .ptr :: r => fun _ => fitC r
  | .sl :: r => fun _ => fitC r
  | .mp :: r => fun _ => fitC r
  | .val :: r => fun _ => fitC r
  | .blk :: r => fun _ => fitC r
def logV (ag : Bool) (ks : List Kd) (i : Nat) (lg : List (Nat × List Value)) (Z : List (Nat × List Value) → World → Prop) (v : Value) (w : World) : Prop :=
  match ag, v with
  | true, .agg cs => dec (fun _ => False) ks (fitC ks) cs.toList w ∧ Z (lg ++ [(i, cs.toList)]) w
  | true, _ => False
  | false, v => dec (fun _ => False) ks (fitC ks) [v] w ∧ Z (lg ++ [(i, [v])]) w
/-- What is asked of operations that come in any order, when it is kept in mind what came behind what. -/
def logA {P : Program} (C : Orc P) (all : List Oper) (S : World → Prop) (Z : List (Nat × List Value) → World → Prop) (l0 : Fl) : List (Nat × Bool × List Kd) → Prop → Prop
  | [], G => G
  | (i, ag, ks) :: r, G => match all[i]? with
    | some o => (∀ lg w, S w → Z lg w → wo C l0 o w fun v w' => S w' ∧ logV ag ks i lg Z v w') ∧ logA C all S Z l0 r G
    | none => False
def logB (n : Nat) (all : List Oper) (w : World) (lg : List (Nat × List Value)) (K : Fl → World → Prop) : List (Nat × Bool × List Kd) → Fl → Prop
  | [], l => K l w
  | (i, ag, ks) :: r, l => match all[i]? with
    | some o => allL ks [] fun vs => (i, vs) ∈ lg → (match mkA ag vs with | some v => pd n l o.dst v fun l' => logB n all w lg K r l' | none => False)
    | none => False
def wdr {P : Program} (C : Orc P) (n : Nat) (all : List Oper) (S : World → Prop) : Od → Fl → World → (Fl → World → Prop) → Prop
  | .done, l, w, K => K l w
  | .st i r, l, w, K => match all[i]? with
    | some o => wg all n o l (fun l1 F => wq C l1 o S F) fun l' => wdr C n all S r l' w K
    | none => False
  | .ef i r, l, w, K => match all[i]? with
    | some o => wge all n o l w (fun l1 F => wo C l1 o w fun v w' => S w' ∧ F v w') fun l' w' => wdr C n all S r l' w' K
    | none => False
  | .two i a j b, l, w, K =>
    (match all[i]? with
     | some o => wge all n o l w (fun l1 F => wo C l1 o w fun v w' => S w' ∧ F v w') fun l' w' => wdr C n all S a l' w' K
     | none => False) ∧
    (match all[j]? with
     | some o => wge all n o l w (fun l1 F => wo C l1 o w fun v w' => S w' ∧ F v w') fun l' w' => wdr C n all S b l' w' K
     | none => False)
  | .par is r, l, w, K => match parOk n all (is.map (·.1)) && nodB (pds all (is.map (·.1))) with
    | true => ∃ T : World → World → Prop, parA C all S T (rmA (pds all (is.map (·.1))) l) is [] fun sp => ∀ w', S w' → parB n all w' (fun l' w'' => wdr C n all S r l' w'' K) sp (rmA (pds all (is.map (·.1))) l)
    | false => False
  | .log is r, l, w, K => match parOk n all (is.map (·.1)) && nodB (pds all (is.map (·.1))) with
    | true => ∃ Z : List (Nat × List Value) → World → Prop, Z [] w ∧ logA C all S Z (rmA (pds all (is.map (·.1))) l) is (∀ lg w', S w' → Z lg w' → logB n all w' lg (fun l' w'' => wdr C n all S r l' w'' K) is (rmA (pds all (is.map (·.1))) l))
    | false => False
end Go.Proofs.Ytgffaimgnmfifaa

/- The lift, continued: operations that come in any order, each of which is right in every world of a class. -/
namespace Go.Proofs.Ytgffaimgnmfifaa
open Go.RowKit

section
variable {P : Program}
theorem dsts_mem' {o : Oper} {d : Nat} (hd : o.dst = some d) : ∀ {l : List Oper}, o ∈ l → d ∈ dsts l
  | [], h => by cases h
  | x :: r, h => by
    unfold dsts
    cases h with
    | head => rw [hd]; exact List.mem_cons_self
    | tail _ h => have := dsts_mem' hd h; split <;> simp [this]
theorem nodB_iff : ∀ {l : List Nat}, nodB l = true → l.Nodup
  | [], _ => List.nodup_nil
  | x :: r, h => by
    unfold nodB at h
    rw [Bool.and_eq_true] at h
    rw [List.nodup_cons]
    refine ⟨fun hm => ?_, nodB_iff h.2⟩
    rw [memB_iff.2 hm] at h
    cases h.1
theorem setB_size : ∀ (is : List Nat) (L : Array Bool), (setB is L).size = L.size
  | [], L => rfl
  | i :: r, L => by have := setB_size r (L.setIfInBounds i true); unfold setB at this ⊢; simpa using this
theorem setB_get : ∀ (is : List Nat) (L : Array Bool) (j : Nat), j < L.size → ((setB is L).getD j true = true ↔ j ∈ is ∨ L.getD j true = true)
  | [], L, j, _ => by simp [setB]
  | i :: r, L, j, hj => by
    have h := setB_get r (L.setIfInBounds i true) j (by simpa using hj)
    have e : setB (i :: r) L = setB r (L.setIfInBounds i true) := rfl
    rw [e, h]
    by_cases hij : i = j
    · subst hij; simp [hj]
    · rw [getD_set_ne true hij]
      simp [Ne.symm hij]
/-- One of them is ready, as long as one is left. -/
theorem par_ready {ops : Array Oper} : ∀ (is : List Nat) (L0 L : Array Bool), okCh ops is L0 = true → L.size = ops.size → (∀ j, L0.getD j false = true → L.getD j false = true) → (∃ i ∈ is, L.getD i true = false) → ∃ k, k ∈ is ∧ k ∈ Region.ready .any ops L
  | [], _, _, _, _, _, h => by obtain ⟨i, hi, _⟩ := h; cases hi
  | i :: r, L0, L, hc, hs, hsup, h => by
    simp only [okCh, Bool.and_eq_true] at hc
    have hr : i ∈ Region.ready .any ops L0 := by simpa using hc.1
    obtain ⟨_, o, ho, hall⟩ := mem_ready.1 hr
    cases hi : L.getD i true with
    | false => exact ⟨i, by simp, mem_ready.2 ⟨hi, o, ho, fun e he hb => hsup _ (hall e he hb)⟩⟩
    | true =>
      have hlt : i < L.size := by rw [hs]; exact (Array.getElem?_eq_some_iff.1 ho).1
      have hi' : L.getD i false = true := by simp [hlt] at hi ⊢; exact hi
      obtain ⟨j, hj, hjl⟩ := h
      have hj' : j ∈ r := by
        rcases List.mem_cons.1 hj with rfl | hj
        · rw [hi] at hjl; cases hjl
        · exact hj
      obtain ⟨k, h1, h2⟩ := par_ready r (L0.setIfInBounds i true) L hc.2 hs (fun q hq => by
        by_cases hiq : i = q
        · subst hiq; exact hi'
        · rw [getD_set_ne false hiq] at hq; exact hsup q hq) ⟨j, hj', hjl⟩
      exact ⟨k, List.mem_cons_of_mem _ h1, h2⟩
theorem waitsB_of {o : Oper} {i : Nat} (h : waitsB o i = true) : ∃ e ∈ o.after, Region.binds .any e = true ∧ e.on = i := by
  unfold waitsB at h
  obtain ⟨e, he, h⟩ := List.any_eq_true.1 h
  rw [Bool.and_eq_true] at h
  exact ⟨e, by simpa using he, h.1, Nat.eq_of_beq_eq_true h.2⟩
/-- What is asked of each of them. -/
structure SpOk (C : Orc P) (ops : Array Oper) (n nT : Nat) (S : World → Prop) (T : World → World → Prop) (l0 : Fl) (e : Sp) (o : Oper) (d : Nat) : Prop where
  op : ops[e.i]? = some o
  lt : e.i < nT
  guard : o.guard = none
  dst : o.dst = some d
  dn : d < n
  out : ∀ v, lkN l0 d ≠ some v
  keep : ∀ vs w w', T w w' → dec (fun _ => False) e.ks e.Φ vs w → dec (fun _ => False) e.ks e.Φ vs w'
  run : ∀ w, S w → wo C l0 o w fun v w' => S w' ∧ T w w' ∧ decA e.ag e.ks e.Φ v w'
theorem decA_of {ag : Bool} {ks : List Kd} {Φ : Cur ks (World → Prop)} {v : Value} {w : World} (h : decA ag ks Φ v w) : ∃ vs, mkA ag vs = some v ∧ dec (fun _ => False) ks Φ vs w := by
  unfold decA at h
  split at h
  · rename_i cs
    exact ⟨cs.toList, by simp [mkA], h⟩
  · exact h.elim
  · exact ⟨[v], rfl, h⟩
/-- It is done: its slot holds a value that is right. -/
def DoneE (a : Act) (w : World) (e : Sp) (d : Nat) : Prop := ∃ vs v, a.tmps[d]? = some v ∧ mkA e.ag vs = some v ∧ dec (fun _ => False) e.ks e.Φ vs w
theorem allL_dec' {F : List Value → Prop} {ks : List Kd} {I : Cur ks (World → Prop)} {vs : List Value} {w : World} (h : allL ks [] F) (hd : dec (fun _ => False) ks I vs w) : F vs := by
  have := allL_dec ks [] I vs h hd; simpa using this
theorem allL_keep {ks : List Kd} {Φ : Cur ks (World → Prop)} {T : World → World → Prop} (h : allL ks [] fun vs => ∀ w w', T w w' → dec (fun _ => False) ks Φ vs w → dec (fun _ => False) ks Φ vs w') :
    ∀ vs w w', T w w' → dec (fun _ => False) ks Φ vs w → dec (fun _ => False) ks Φ vs w' := fun _ _ _ ht hd => allL_dec' h hd _ _ ht hd
/-- Slots outside A are as they were. -/
def Fr' (A : List Nat) (a a' : Act) : Prop := ∀ t, t ∉ A → a'.tmps[t]? = a.tmps[t]?
theorem par_run (C : Orc P) {n nT : Nat} {ops : Array Oper} {Q : Exit → Act → World → Prop} {S : World → Prop} {T : World → World → Prop} {l0 : Fl} {sp : List Sp} {dOf : Sp → Nat} {L0 : Array Bool} {a0 : Act} {X : Nat}
    (hsp : ∀ e ∈ sp, ∃ o, SpOk C ops n nT S T l0 e o (dOf e)) (hu : ∀ e ∈ sp, ∀ e' ∈ sp, e.i = e'.i → e = e') (hd : ∀ e ∈ sp, ∀ e' ∈ sp, dOf e = dOf e' → e = e')
    (hch : okCh ops (sp.map (·.i)) L0 = true) (hpar : okPar ops (sp.map (·.i)) L0 = true)
    (hend : ∀ (a : Act) (w : World), Has n a l0 → S w → (∀ e ∈ sp, DoneE a w e (dOf e)) → Fr' (dsts ops.toList) a0 a → HeadInv .any ops nT (setB (sp.map (·.i)) L0) → wpAnyT P .any ops Q S nT X (setB (sp.map (·.i)) L0) a w) :
    ∀ (m : Nat) (rem : List Nat) (L : Array Bool) (a : Act) (w : World), rem.length = m → rem.Nodup → (∀ i ∈ rem, i ∈ sp.map (·.i)) → (∀ j, j < ops.size → (L.getD j true = true ↔ (j ∈ sp.map (·.i) ∧ j ∉ rem) ∨ (j ∉ sp.map (·.i) ∧ L0.getD j true = true))) → (∀ j, L0.getD j false = true → L.getD j false = true) →
      HeadInv .any ops nT L → L0.size = ops.size → (∀ i ∈ sp.map (·.i), L0.getD i true = false) → Has n a l0 → S w → (∀ e ∈ sp, e.i ∉ rem → DoneE a w e (dOf e)) → Fr' (dsts ops.toList) a0 a → wpAnyT P .any ops Q S nT (m + X) L a w
  | 0, rem, L, a, w, hm, hnd, hrem, hL, hsup, inv, hs0, hun, ha, hS, hdone, hfr => by
    have hr0 : rem = [] := List.length_eq_zero_iff.1 hm
    subst hr0
    have hLe : L = setB (sp.map (·.i)) L0 := by
      apply Array.ext
      · rw [inv.size, setB_size, hs0]
      · intro j h1 h2
        have h3 := hL j (by rw [← inv.size]; exact h1)
        have h4 := setB_get (sp.map (·.i)) L0 j (by rw [setB_size] at h2; exact h2)
        have e1 : L.getD j true = L[j] := by simp [h1]
        have e2 : (setB (sp.map (·.i)) L0).getD j true = (setB (sp.map (·.i)) L0)[j] := by simp [h2]
        rw [e1] at h3; rw [e2] at h4
        rw [Bool.eq_iff_iff, h3, h4]
        constructor
        · rintro (⟨h, _⟩ | ⟨_, h⟩)
          · exact Or.inl h
          · exact Or.inr h
        · rintro (h | h)
          · exact Or.inl ⟨h, by simp⟩
          · by_cases hj : j ∈ sp.map (·.i)
            · exact Or.inl ⟨hj, by simp⟩
            · exact Or.inr ⟨hj, h⟩
    rw [Nat.zero_add]
    subst hLe
    exact hend a w ha hS (fun e he => hdone e he (by simp)) hfr inv
  | m + 1, rem, L, a, w, hm, hnd, hrem, hL, hsup, inv, hs0, hun, ha, hS, hdone, hfr => by
    obtain ⟨i0, hi0⟩ : ∃ i, i ∈ rem := by
      cases rem with
      | nil => cases hm
      | cons x r => exact ⟨x, by simp⟩
    have remF : ∀ i ∈ rem, L.getD i true = false := fun i hi => by
      obtain ⟨e, he, rfl⟩ := List.mem_map.1 (hrem i hi)
      obtain ⟨o, ho⟩ := hsp e he
      have h3 := hL e.i ((Array.getElem?_eq_some_iff.1 ho.op).1)
      cases hc : L.getD e.i true with
      | false => rfl
      | true =>
        rcases h3.1 hc with ⟨_, h⟩ | ⟨h, _⟩
        · exact absurd hi h
        · exact absurd (hrem _ hi) h
    obtain ⟨k0, _, hk0⟩ := par_ready (sp.map (·.i)) L0 L hch inv.size hsup ⟨i0, hrem i0 hi0, remF i0 hi0⟩
    -- only those that are left are ready
    have only : ∀ k ∈ Region.ready .any ops L, k ∈ rem := by
      intro k hk
      obtain ⟨hk1, o, ho, hall⟩ := mem_ready.1 hk
      have hklt := (Array.getElem?_eq_some_iff.1 ho).1
      have h3 := hL k hklt
      by_cases hks : k ∈ sp.map (·.i)
      · by_cases hkr : k ∈ rem
        · exact hkr
        · exact absurd (h3.2 (Or.inl ⟨hks, hkr⟩)) (by rw [hk1]; decide)
      · exfalso
        have hk0' : L0.getD k true = false := by
          cases hc : L0.getD k true with
          | false => rfl
          | true => exact absurd (h3.2 (Or.inr ⟨hks, hc⟩)) (by rw [hk1]; decide)
        have hp := List.all_eq_true.1 hpar k (List.mem_range.2 hklt)
        rw [hk0', ho] at hp
        have hmk : memB k (sp.map (·.i)) = false := by
          cases hc : memB k (sp.map (·.i)) with
          | false => rfl
          | true => exact absurd (memB_iff.1 hc) hks
        rw [hmk] at hp
        simp only [Bool.false_or, Bool.or_eq_true] at hp
        rcases hp with hp | hp
        · have hc := List.all_eq_true.1 hp i0 (hrem i0 hi0)
          have no : ∀ q oq, ops[q]? = some oq → L.getD q false = true → waitsB oq i0 = true → False := fun q oq hq hl hwt => by
            obtain ⟨e, he, hb, heq⟩ := waitsB_of hwt
            have := inv.closed q oq hq hl e he hb
            rw [heq, getD_both (remF i0 hi0)] at this; cases this
          have wof : ∀ {q r : Nat}, wOf ops q r = true → ∃ oq, ops[q]? = some oq ∧ waitsB oq r = true := fun {q r} h => by
            unfold wOf at h; split at h
            · rename_i oq hq; exact ⟨oq, hq, h⟩
            · cases h
          unfold covB at hc
          rw [Bool.or_eq_true] at hc
          rcases hc with hc | hc
          · obtain ⟨e, he, hb, heq⟩ := waitsB_of hc
            have := hall e he hb
            rw [heq, getD_both (remF i0 hi0)] at this; cases this
          · obtain ⟨q, _, hc⟩ := List.any_eq_true.1 hc
            rw [Bool.and_eq_true, Bool.or_eq_true] at hc
            obtain ⟨e, he, hb, heq⟩ := waitsB_of hc.1
            have hq := hall e he hb
            rw [heq] at hq
            rcases hc.2 with hc | hc
            · obtain ⟨oq, h1, h2⟩ := wof hc
              exact no q oq h1 hq h2
            · obtain ⟨r, _, hc⟩ := List.any_eq_true.1 hc
              rw [Bool.and_eq_true] at hc
              obtain ⟨oq, h1, h2⟩ := wof hc.1
              obtain ⟨e2, he2, hb2, heq2⟩ := waitsB_of h2
              have hr := inv.closed q oq h1 hq e2 he2 hb2
              rw [heq2] at hr
              obtain ⟨or_, h3, h4⟩ := wof hc.2
              exact no r or_ h3 hr h4
        · obtain ⟨q, hq, hp⟩ := List.any_eq_true.1 hp
          simp only [Bool.and_eq_true, Bool.not_eq_true'] at hp
          obtain ⟨⟨hq1, hq2⟩, hq3⟩ := hp
          obtain ⟨e, he, hb, heq⟩ := waitsB_of hq3
          have hqe := hall e he hb
          rw [heq] at hqe
          have hqlt := List.mem_range.1 hq
          have hqs : q ∉ sp.map (·.i) := fun h => by rw [memB_iff.2 h] at hq2; cases hq2
          have h4 := hL q hqlt
          have hqL : L.getD q true = true := by
            have hlt : q < L.size := by rw [inv.size]; exact hqlt
            simp [hlt] at hqe ⊢; exact hqe
          rcases h4.1 hqL with ⟨h, _⟩ | ⟨_, h⟩
          · exact hqs h
          · rw [hq1] at h; cases h
    have step : ∀ k ∈ Region.ready .any ops L, wpOp P ops Q k (fun a' w' => (k < nT → S w') ∧ wpAnyT P .any ops Q S nT (m + X) (L.setIfInBounds k true) a' w') a w := by
      intro k hk
      have hkr := only k hk
      obtain ⟨e, he, rfl⟩ := List.mem_map.1 (hrem k hkr)
      obtain ⟨o, ok⟩ := hsp e he
      have hw : Region.wanted o (yielded ops a.tmps) = true := by simp [Region.wanted, ok.guard]
      unfold wpOp
      simp only [ok.op, hw, if_true]
      refine .inl (wp_of_does (wo_sound C (fun x v hx => ha.ov hx) (ok.run w hS)) fun v w' h3 => ?_)
      obtain ⟨hS', hT, hdv⟩ := h3
      refine ⟨fun _ => hS', ?_⟩
      rw [ok.dst]
      have hmem : dOf e ∈ dsts ops.toList := dsts_mem' ok.dst (List.mem_of_getElem? (i := e.i) (by simpa using ok.op))
      have hnd' : (rem.erase e.i).Nodup := hnd.erase _
      have hin : ∀ j, j ∈ rem.erase e.i ↔ j ≠ e.i ∧ j ∈ rem := fun j => List.Nodup.mem_erase_iff hnd
      refine par_run C hsp hu hd hch hpar hend m (rem.erase e.i) (L.setIfInBounds e.i true) (a.put (some (dOf e)) v) w' (by rw [List.length_erase_of_mem hkr]; omega) hnd' (fun i hi => hrem i ((hin i).1 hi).2) (fun j hj => ?_) (fun j hj => getD_set_true (hsup j hj)) (inv.set hk ok.lt) hs0 hun ?_ hS' (fun e' he' hr' => ?_) ?_
      · by_cases hje : e.i = j
        · subst hje
          have hlt : e.i < L.size := by rw [inv.size]; exact hj
          have : (L.setIfInBounds e.i true).getD e.i true = true := by simp [hlt]
          refine ⟨fun _ => Or.inl ⟨List.mem_map_of_mem he, fun h => ((hin _).1 h).1 rfl⟩, fun _ => this⟩
        · rw [getD_set_ne true hje, hL j hj]
          constructor
          · rintro (⟨h1, h2⟩ | h)
            · exact Or.inl ⟨h1, fun h => h2 ((hin _).1 h).2⟩
            · exact Or.inr h
          · rintro (⟨h1, h2⟩ | h)
            · exact Or.inl ⟨h1, fun h => h2 ((hin _).2 ⟨fun e => hje e.symm, h⟩)⟩
            · exact Or.inr h
      · refine ⟨by simpa [Act.put] using ha.size, by simpa [Act.put] using ha.defers, fun t u ht => ?_⟩
        have hne : dOf e ≠ t := fun h => by subst h; exact ok.out u ht
        rw [put_other (fun d hd' => by injection hd' with hd'; subst hd'; exact hne)]
        exact ha.get t u ht
      · by_cases hee : e' = e
        · subst hee
          obtain ⟨vs, h1, h2⟩ := decA_of hdv
          refine ⟨vs, v, ?_, h1, h2⟩
          have : dOf e' < a.tmps.size := by rw [ha.size]; exact ok.dn
          simp [Act.put, this]
        · have hr2 : e'.i ∉ rem := fun h => hr' ((hin _).2 ⟨fun h2 => hee (hu e' he' e he h2), h⟩)
          obtain ⟨vs, u, h1, h2, h3⟩ := hdone e' he' hr2
          obtain ⟨o', ok'⟩ := hsp e' he'
          refine ⟨vs, u, ?_, h2, ok'.keep vs w w' hT h3⟩
          rw [put_other (fun d hd' => by injection hd' with hd'; subst hd'; exact fun h => hee (hd e' he' e he h.symm))]
          exact h1
      · intro t ht
        rw [put_other (fun d hd' => by injection hd' with hd'; subst hd'; exact fun h => ht (h ▸ hmem))]
        exact hfr t ht
    rw [Nat.add_right_comm]
    exact ⟨fun h => (by rw [h] at hk0; cases hk0), step⟩
/-- Their values, put into a frame one by one. -/
theorem parB_of {n : Nat} {ops : Array Oper} {K : Fl → World → Prop} {dOf : Sp → Nat} {a : Act} {w : World} : ∀ (sp : List Sp) (l : Fl), Has n a l → (∀ e ∈ sp, (∃ o, ops[e.i]? = some o ∧ o.dst = some (dOf e)) ∧ DoneE a w e (dOf e)) → parB n ops.toList w K sp l → ∃ l', Has n a l' ∧ K l' w
  | [], l, ha, _, h => ⟨l, ha, h⟩
  | e :: r, l, ha, hd, h => by
    obtain ⟨⟨o, ho, hdst⟩, vs, v, h1, h2, h3⟩ := hd e (by simp)
    unfold parB at h
    split at h
    · rename_i o' ho'
      have ho' : ops[e.i]? = some o' := by simpa using ho'
      rw [ho] at ho'; cases ho'
      have hF := allL_dec' h h3 h3
      rw [h2] at hF
      obtain ⟨l', h4, h5⟩ := ha.pd hF
      have hput : a.put o.dst v = a := by
        rw [hdst]
        obtain ⟨hlt, heq⟩ := Array.getElem?_eq_some_iff.1 h1
        have : a.tmps.setIfInBounds (dOf e) v = a.tmps := by
          apply Array.ext
          · simp
          · intro j j1 j2
            by_cases hj : dOf e = j
            · subst hj; simp [heq]
            · rw [Array.getElem_setIfInBounds_ne _ hj]
        simp only [Act.put, this]
      rw [hput] at h4
      exact parB_of r l' h4 (fun e' he' => hd e' (List.mem_cons_of_mem _ he')) h5
    · exact h.elim
/-- What is asked of them, all together. -/
theorem parA_of (C : Orc P) {all : List Oper} {S : World → Prop} {T : World → World → Prop} {l0 : Fl} {G : List Sp → Prop} : ∀ (is : List (Nat × Bool × List Kd)) (acc : List Sp), parA C all S T l0 is acc G →
    ∃ sp, G (acc ++ sp) ∧ sp.map (·.i) = is.map (·.1) ∧ ∀ e ∈ sp, ∃ o, all[e.i]? = some o ∧ (∀ vs w w', T w w' → dec (fun _ => False) e.ks e.Φ vs w → dec (fun _ => False) e.ks e.Φ vs w') ∧ ∀ w, S w → wo C l0 o w fun v w' => S w' ∧ T w w' ∧ decA e.ag e.ks e.Φ v w'
  | [], acc, h => ⟨[], by simpa [parA] using h, rfl, fun e he => by cases he⟩
  | (i, ag, ks) :: r, acc, h => by
    unfold parA at h
    split at h
    · rename_i o ho
      obtain ⟨Φ, h1, h2, h3⟩ := h
      obtain ⟨sp, h4, h5, h6⟩ := parA_of C r _ h3
      refine ⟨⟨i, ag, ks, Φ⟩ :: sp, by simpa using h4, by simp [h5], fun e he => ?_⟩
      rcases List.mem_cons.1 he with rfl | he
      · exact ⟨o, ho, allL_keep h1, h2⟩
      · exact h6 e he
    · exact h.elim
theorem parOk_of {n : Nat} {all : List Oper} : ∀ {is : List Nat}, parOk n all is = true → ∀ i ∈ is, ∃ o d, all[i]? = some o ∧ o.guard = none ∧ o.dst = some d ∧ d < n
  | [], _, i, h => by cases h
  | x :: r, h, i, hi => by
    unfold parOk at h
    rw [Bool.and_eq_true] at h
    rcases List.mem_cons.1 hi with rfl | hi
    · have h1 := h.1
      split at h1
      · rename_i o ho
        split at h1
        · rename_i d hg hd
          exact ⟨o, d, ho, hg, hd, by simpa [Nat.blt_eq] using h1⟩
        · cases h1
      · cases h1
    · exact parOk_of h.2 i hi
/-- The slot of one of them. -/
def dAt (all : List Oper) (i : Nat) : Nat := match all[i]? with | some o => (match o.dst with | some d => d | none => 0) | none => 0
theorem pds_map {n : Nat} {all : List Oper} : ∀ {is : List Nat}, parOk n all is = true → pds all is = is.map (dAt all)
  | [], _ => rfl
  | x :: r, h => by
    obtain ⟨o, d, ho, _, hd, _⟩ := parOk_of h x (by simp)
    unfold parOk at h
    rw [Bool.and_eq_true] at h
    have e := pds_map h.2
    unfold pds
    rw [ho]
    dsimp only
    rw [hd]
    dsimp only
    rw [e, List.map_cons]
    congr 1
    unfold dAt; rw [ho]; dsimp only; rw [hd]
theorem nodup_inj {l : List Nat} {f : Nat → Nat} (h : (l.map f).Nodup) : ∀ x ∈ l, ∀ y ∈ l, f x = f y → x = y := by
  induction l with
  | nil => intro x hx; cases hx
  | cons a r ih =>
    rw [List.map_cons, List.nodup_cons] at h
    intro x hx y hy e
    rcases List.mem_cons.1 hx with hx | hx
    · rcases List.mem_cons.1 hy with hy | hy
      · rw [hx, hy]
      · exact absurd (List.mem_map.2 ⟨y, hy, by rw [← e, hx]⟩) h.1
    · rcases List.mem_cons.1 hy with hy | hy
      · exact absurd (List.mem_map.2 ⟨x, hx, by rw [e, hy]⟩) h.1
      · exact ih h.2 x hx y hy e
theorem sp_inj {sp : List Sp} (h : (sp.map (·.i)).Nodup) : ∀ e ∈ sp, ∀ e' ∈ sp, e.i = e'.i → e = e' := by
  induction sp with
  | nil => intro e he; cases he
  | cons a r ih =>
    rw [List.map_cons, List.nodup_cons] at h
    intro x hx y hy e
    rcases List.mem_cons.1 hx with hx | hx
    · rcases List.mem_cons.1 hy with hy | hy
      · rw [hx, hy]
      · exact absurd (List.mem_map.2 ⟨y, hy, by rw [← e, hx]⟩) h.1
    · rcases List.mem_cons.1 hy with hy | hy
      · exact absurd (List.mem_map.2 ⟨x, hx, by rw [e, hy]⟩) h.1
      · exact ih h.2 x hx y hy e
end
end Go.Proofs.Ytgffaimgnmfifaa

/- The lift, continued: operations that come in any order, with a log of what came behind what. -/
namespace Go.Proofs.Ytgffaimgnmfifaa
open Go.RowKit

section
variable {P : Program}
structure LgOk (C : Orc P) (ops : Array Oper) (n nT : Nat) (S : World → Prop) (Z : List (Nat × List Value) → World → Prop) (l0 : Fl) (e : Nat × Bool × List Kd) (o : Oper) (d : Nat) : Prop where
  op : ops[e.1]? = some o
  lt : e.1 < nT
  guard : o.guard = none
  dst : o.dst = some d
  dn : d < n
  out : ∀ v, lkN l0 d ≠ some v
  run : ∀ lg w, S w → Z lg w → wo C l0 o w fun v w' => S w' ∧ logV e.2.1 e.2.2 e.1 lg Z v w'
theorem fitC_any : ∀ {ks : List Kd} {vs : List Value} {w w' : World}, dec (fun _ => False) ks (fitC ks) vs w → dec (fun _ => False) ks (fitC ks) vs w' := by
  intro ks
  induction ks with
  | nil => intro vs w w' h; cases vs with | nil => exact trivial | cons v vs => exact h.elim
  | cons k r ih =>
    intro vs w w' h
    cases vs with
    | nil => cases k <;> exact h.elim
    | cons v vs =>
      cases k with
      | int k =>
        cases v with
        | int k' n =>
          change (match kq k k' with | true => dec (fun _ => False) r (fitC r) vs | false => (fun _ => False)) w at h
          change (match kq k k' with | true => dec (fun _ => False) r (fitC r) vs | false => (fun _ => False)) w'
          cases hk : kq k k' with
          | true => rw [hk] at h; exact ih h
          | false => rw [hk] at h; exact h.elim
        | _ => exact h.elim
      | bool => cases v with
        | bool b => exact ih (vs := vs) h
        | _ => exact h.elim
      | str => cases v with
        | string b => exact ih (vs := vs) h
        | _ => exact h.elim
      | ptr => cases v with
        | pointer b => exact ih (vs := vs) h
        | _ => exact h.elim
      | sl => cases v with
        | slice p n c => exact ih (vs := vs) h
        | _ => exact h.elim
      | mp => cases v with
        | map b => exact ih (vs := vs) h
        | _ => exact h.elim
      | val => exact ih (vs := vs) h
      | blk => cases v with
        | pointer p =>
          match p, h with
          | some ⟨b, 0, none⟩, h => exact ih (vs := vs) h
          | some ⟨b, k + 1, none⟩, h => exact h.elim
          | some ⟨b, 0, some _⟩, h => exact h.elim
          | some ⟨b, k + 1, some _⟩, h => exact h.elim
          | none, h => exact h.elim
        | _ => exact h.elim
theorem logV_of {ag : Bool} {ks : List Kd} {i : Nat} {lg : List (Nat × List Value)} {Z : List (Nat × List Value) → World → Prop} {v : Value} {w : World} (h : logV ag ks i lg Z v w) : ∃ vs, mkA ag vs = some v ∧ dec (fun _ => False) ks (fitC ks) vs w ∧ Z (lg ++ [(i, vs)]) w := by
  unfold logV at h
  split at h
  · rename_i cs
    exact ⟨cs.toList, by simp [mkA], h⟩
  · exact h.elim
  · exact ⟨[v], rfl, h⟩
/-- It is done: its slot holds a value of its kinds, and the log has it. -/
def DoneL (a : Act) (w : World) (lg : List (Nat × List Value)) (e : Nat × Bool × List Kd) (d : Nat) : Prop := ∃ vs v, a.tmps[d]? = some v ∧ mkA e.2.1 vs = some v ∧ dec (fun _ => False) e.2.2 (fitC e.2.2) vs w ∧ (e.1, vs) ∈ lg
theorem log_run (C : Orc P) {n nT : Nat} {ops : Array Oper} {Q : Exit → Act → World → Prop} {S : World → Prop} {Z : List (Nat × List Value) → World → Prop} {l0 : Fl} {sp : List (Nat × Bool × List Kd)} {dOf : Nat × Bool × List Kd → Nat} {L0 : Array Bool} {a0 : Act} {X : Nat}
    (hsp : ∀ e ∈ sp, ∃ o, LgOk C ops n nT S Z l0 e o (dOf e)) (hu : ∀ e ∈ sp, ∀ e' ∈ sp, e.1 = e'.1 → e = e') (hd : ∀ e ∈ sp, ∀ e' ∈ sp, dOf e = dOf e' → e = e')
    (hch : okCh ops (sp.map (·.1)) L0 = true) (hpar : okPar ops (sp.map (·.1)) L0 = true)
    (hend : ∀ (a : Act) (w : World), Has n a l0 → S w → (∃ lg, Z lg w ∧ ∀ e ∈ sp, DoneL a w lg e (dOf e)) → Fr' (dsts ops.toList) a0 a → HeadInv .any ops nT (setB (sp.map (·.1)) L0) → wpAnyT P .any ops Q S nT X (setB (sp.map (·.1)) L0) a w) :
    ∀ (m : Nat) (rem : List Nat) (L : Array Bool) (a : Act) (w : World), rem.length = m → rem.Nodup → (∀ i ∈ rem, i ∈ sp.map (·.1)) → (∀ j, j < ops.size → (L.getD j true = true ↔ (j ∈ sp.map (·.1) ∧ j ∉ rem) ∨ (j ∉ sp.map (·.1) ∧ L0.getD j true = true))) → (∀ j, L0.getD j false = true → L.getD j false = true) →
      HeadInv .any ops nT L → L0.size = ops.size → (∀ i ∈ sp.map (·.1), L0.getD i true = false) → Has n a l0 → S w → (∃ lg, Z lg w ∧ ∀ e ∈ sp, e.1 ∉ rem → DoneL a w lg e (dOf e)) → Fr' (dsts ops.toList) a0 a → wpAnyT P .any ops Q S nT (m + X) L a w
  | 0, rem, L, a, w, hm, hnd, hrem, hL, hsup, inv, hs0, hun, ha, hS, hdone, hfr => by
    have hr0 : rem = [] := List.length_eq_zero_iff.1 hm
    subst hr0
    have hLe : L = setB (sp.map (·.1)) L0 := by
      apply Array.ext
      · rw [inv.size, setB_size, hs0]
      · intro j h1 h2
        have h3 := hL j (by rw [← inv.size]; exact h1)
        have h4 := setB_get (sp.map (·.1)) L0 j (by rw [setB_size] at h2; exact h2)
        have e1 : L.getD j true = L[j] := by simp [h1]
        have e2 : (setB (sp.map (·.1)) L0).getD j true = (setB (sp.map (·.1)) L0)[j] := by simp [h2]
        rw [e1] at h3; rw [e2] at h4
        rw [Bool.eq_iff_iff, h3, h4]
        constructor
        · rintro (⟨h, _⟩ | ⟨_, h⟩)
          · exact Or.inl h
          · exact Or.inr h
        · rintro (h | h)
          · exact Or.inl ⟨h, by simp⟩
          · by_cases hj : j ∈ sp.map (·.1)
            · exact Or.inl ⟨hj, by simp⟩
            · exact Or.inr ⟨hj, h⟩
    rw [Nat.zero_add]
    subst hLe
    exact hend a w ha hS (by obtain ⟨lg, h1, h2⟩ := hdone; exact ⟨lg, h1, fun e he => h2 e he (by simp)⟩) hfr inv
  | m + 1, rem, L, a, w, hm, hnd, hrem, hL, hsup, inv, hs0, hun, ha, hS, hdone, hfr => by
    obtain ⟨i0, hi0⟩ : ∃ i, i ∈ rem := by
      cases rem with
      | nil => cases hm
      | cons x r => exact ⟨x, by simp⟩
    have remF : ∀ i ∈ rem, L.getD i true = false := fun i hi => by
      obtain ⟨e, he, rfl⟩ := List.mem_map.1 (hrem i hi)
      obtain ⟨o, ho⟩ := hsp e he
      have h3 := hL e.1 ((Array.getElem?_eq_some_iff.1 ho.op).1)
      cases hc : L.getD e.1 true with
      | false => rfl
      | true =>
        rcases h3.1 hc with ⟨_, h⟩ | ⟨h, _⟩
        · exact absurd hi h
        · exact absurd (hrem _ hi) h
    obtain ⟨k0, _, hk0⟩ := par_ready (sp.map (·.1)) L0 L hch inv.size hsup ⟨i0, hrem i0 hi0, remF i0 hi0⟩
    -- only those that are left are ready
    have only : ∀ k ∈ Region.ready .any ops L, k ∈ rem := by
      intro k hk
      obtain ⟨hk1, o, ho, hall⟩ := mem_ready.1 hk
      have hklt := (Array.getElem?_eq_some_iff.1 ho).1
      have h3 := hL k hklt
      by_cases hks : k ∈ sp.map (·.1)
      · by_cases hkr : k ∈ rem
        · exact hkr
        · exact absurd (h3.2 (Or.inl ⟨hks, hkr⟩)) (by rw [hk1]; decide)
      · exfalso
        have hk0' : L0.getD k true = false := by
          cases hc : L0.getD k true with
          | false => rfl
          | true => exact absurd (h3.2 (Or.inr ⟨hks, hc⟩)) (by rw [hk1]; decide)
        have hp := List.all_eq_true.1 hpar k (List.mem_range.2 hklt)
        rw [hk0', ho] at hp
        have hmk : memB k (sp.map (·.1)) = false := by
          cases hc : memB k (sp.map (·.1)) with
          | false => rfl
          | true => exact absurd (memB_iff.1 hc) hks
        rw [hmk] at hp
        simp only [Bool.false_or, Bool.or_eq_true] at hp
        rcases hp with hp | hp
        · have hc := List.all_eq_true.1 hp i0 (hrem i0 hi0)
          have no : ∀ q oq, ops[q]? = some oq → L.getD q false = true → waitsB oq i0 = true → False := fun q oq hq hl hwt => by
            obtain ⟨e, he, hb, heq⟩ := waitsB_of hwt
            have := inv.closed q oq hq hl e he hb
            rw [heq, getD_both (remF i0 hi0)] at this; cases this
          have wof : ∀ {q r : Nat}, wOf ops q r = true → ∃ oq, ops[q]? = some oq ∧ waitsB oq r = true := fun {q r} h => by
            unfold wOf at h; split at h
            · rename_i oq hq; exact ⟨oq, hq, h⟩
            · cases h
          unfold covB at hc
          rw [Bool.or_eq_true] at hc
          rcases hc with hc | hc
          · obtain ⟨e, he, hb, heq⟩ := waitsB_of hc
            have := hall e he hb
            rw [heq, getD_both (remF i0 hi0)] at this; cases this
          · obtain ⟨q, _, hc⟩ := List.any_eq_true.1 hc
            rw [Bool.and_eq_true, Bool.or_eq_true] at hc
            obtain ⟨e, he, hb, heq⟩ := waitsB_of hc.1
            have hq := hall e he hb
            rw [heq] at hq
            rcases hc.2 with hc | hc
            · obtain ⟨oq, h1, h2⟩ := wof hc
              exact no q oq h1 hq h2
            · obtain ⟨r, _, hc⟩ := List.any_eq_true.1 hc
              rw [Bool.and_eq_true] at hc
              obtain ⟨oq, h1, h2⟩ := wof hc.1
              obtain ⟨e2, he2, hb2, heq2⟩ := waitsB_of h2
              have hr := inv.closed q oq h1 hq e2 he2 hb2
              rw [heq2] at hr
              obtain ⟨or_, h3, h4⟩ := wof hc.2
              exact no r or_ h3 hr h4
        · obtain ⟨q, hq, hp⟩ := List.any_eq_true.1 hp
          simp only [Bool.and_eq_true, Bool.not_eq_true'] at hp
          obtain ⟨⟨hq1, hq2⟩, hq3⟩ := hp
          obtain ⟨e, he, hb, heq⟩ := waitsB_of hq3
          have hqe := hall e he hb
          rw [heq] at hqe
          have hqlt := List.mem_range.1 hq
          have hqs : q ∉ sp.map (·.1) := fun h => by rw [memB_iff.2 h] at hq2; cases hq2
          have h4 := hL q hqlt
          have hqL : L.getD q true = true := by
            have hlt : q < L.size := by rw [inv.size]; exact hqlt
            simp [hlt] at hqe ⊢; exact hqe
          rcases h4.1 hqL with ⟨h, _⟩ | ⟨_, h⟩
          · exact hqs h
          · rw [hq1] at h; cases h
    have step : ∀ k ∈ Region.ready .any ops L, wpOp P ops Q k (fun a' w' => (k < nT → S w') ∧ wpAnyT P .any ops Q S nT (m + X) (L.setIfInBounds k true) a' w') a w := by
      intro k hk
      have hkr := only k hk
      obtain ⟨e, he, rfl⟩ := List.mem_map.1 (hrem k hkr)
      obtain ⟨o, ok⟩ := hsp e he
      have hw : Region.wanted o (yielded ops a.tmps) = true := by simp [Region.wanted, ok.guard]
      unfold wpOp
      simp only [ok.op, hw, if_true]
      obtain ⟨lg, hZ, hdone⟩ := hdone
      refine .inl (wp_of_does (wo_sound C (fun x v hx => ha.ov hx) (ok.run lg w hS hZ)) fun v w' h3 => ?_)
      obtain ⟨hS', hdv⟩ := h3
      obtain ⟨vs, hmk, hfit, hZ'⟩ := logV_of hdv
      refine ⟨fun _ => hS', ?_⟩
      rw [ok.dst]
      have hmem : dOf e ∈ dsts ops.toList := dsts_mem' ok.dst (List.mem_of_getElem? (i := e.1) (by simpa using ok.op))
      have hnd' : (rem.erase e.1).Nodup := hnd.erase _
      have hin : ∀ j, j ∈ rem.erase e.1 ↔ j ≠ e.1 ∧ j ∈ rem := fun j => List.Nodup.mem_erase_iff hnd
      refine log_run C hsp hu hd hch hpar hend m (rem.erase e.1) (L.setIfInBounds e.1 true) (a.put (some (dOf e)) v) w' (by rw [List.length_erase_of_mem hkr]; omega) hnd' (fun i hi => hrem i ((hin i).1 hi).2) (fun j hj => ?_) (fun j hj => getD_set_true (hsup j hj)) (inv.set hk ok.lt) hs0 hun ?_ hS' ⟨lg ++ [(e.1, vs)], hZ', fun e' he' hr' => ?_⟩ ?_
      · by_cases hje : e.1 = j
        · subst hje
          have hlt : e.1 < L.size := by rw [inv.size]; exact hj
          have : (L.setIfInBounds e.1 true).getD e.1 true = true := by simp [hlt]
          refine ⟨fun _ => Or.inl ⟨List.mem_map_of_mem he, fun h => ((hin _).1 h).1 rfl⟩, fun _ => this⟩
        · rw [getD_set_ne true hje, hL j hj]
          constructor
          · rintro (⟨h1, h2⟩ | h)
            · exact Or.inl ⟨h1, fun h => h2 ((hin _).1 h).2⟩
            · exact Or.inr h
          · rintro (⟨h1, h2⟩ | h)
            · exact Or.inl ⟨h1, fun h => h2 ((hin _).2 ⟨fun e => hje e.symm, h⟩)⟩
            · exact Or.inr h
      · refine ⟨by simpa [Act.put] using ha.size, by simpa [Act.put] using ha.defers, fun t u ht => ?_⟩
        have hne : dOf e ≠ t := fun h => by subst h; exact ok.out u ht
        rw [put_other (fun d hd' => by injection hd' with hd'; subst hd'; exact hne)]
        exact ha.get t u ht
      · by_cases hee : e' = e
        · subst hee
          refine ⟨vs, v, ?_, hmk, hfit, by simp⟩
          have : dOf e' < a.tmps.size := by rw [ha.size]; exact ok.dn
          simp [Act.put, this]
        · have hr2 : e'.1 ∉ rem := fun h => hr' ((hin _).2 ⟨fun h2 => hee (hu e' he' e he h2), h⟩)
          obtain ⟨vs', u, h1, h2, h3, h4⟩ := hdone e' he' hr2
          refine ⟨vs', u, ?_, h2, fitC_any h3, List.mem_append_left _ h4⟩
          rw [put_other (fun d hd' => by injection hd' with hd'; subst hd'; exact fun h => hee (hd e' he' e he h.symm))]
          exact h1
      · intro t ht
        rw [put_other (fun d hd' => by injection hd' with hd'; subst hd'; exact fun h => ht (h ▸ hmem))]
        exact hfr t ht
    rw [Nat.add_right_comm]
    exact ⟨fun h => (by rw [h] at hk0; cases hk0), step⟩

/-- Their values, put into a frame one by one. -/
theorem logB_of {n : Nat} {ops : Array Oper} {K : Fl → World → Prop} {dOf : Nat × Bool × List Kd → Nat} {a : Act} {w : World} {lg : List (Nat × List Value)} : ∀ (sp : List (Nat × Bool × List Kd)) (l : Fl), Has n a l → (∀ e ∈ sp, (∃ o, ops[e.1]? = some o ∧ o.dst = some (dOf e)) ∧ DoneL a w lg e (dOf e)) → logB n ops.toList w lg K sp l → ∃ l', Has n a l' ∧ K l' w
  | [], l, ha, _, h => ⟨l, ha, h⟩
  | e :: r, l, ha, hd, h => by
    obtain ⟨⟨o, ho, hdst⟩, vs, v, h1, h2, h3, h3'⟩ := hd e (by simp)
    unfold logB at h
    split at h
    · rename_i o' ho'
      have ho' : ops[e.1]? = some o' := by simpa using ho'
      rw [ho] at ho'; cases ho'
      have hF := allL_dec' h h3 h3'
      rw [h2] at hF
      obtain ⟨l', h4, h5⟩ := ha.pd hF
      have hput : a.put o.dst v = a := by
        rw [hdst]
        obtain ⟨hlt, heq⟩ := Array.getElem?_eq_some_iff.1 h1
        have : a.tmps.setIfInBounds (dOf e) v = a.tmps := by
          apply Array.ext
          · simp
          · intro j j1 j2
            by_cases hj : dOf e = j
            · subst hj; simp [heq]
            · rw [Array.getElem_setIfInBounds_ne _ hj]
        simp only [Act.put, this]
      rw [hput] at h4
      exact logB_of r l' h4 (fun e' he' => hd e' (List.mem_cons_of_mem _ he')) h5
    · exact h.elim
/-- What is asked of them, all together. -/
theorem logA_of (C : Orc P) {all : List Oper} {S : World → Prop} {Z : List (Nat × List Value) → World → Prop} {l0 : Fl} {G : Prop} : ∀ (is : List (Nat × Bool × List Kd)), logA C all S Z l0 is G →
    G ∧ ∀ e ∈ is, ∃ o, all[e.1]? = some o ∧ ∀ lg w, S w → Z lg w → wo C l0 o w fun v w' => S w' ∧ logV e.2.1 e.2.2 e.1 lg Z v w'
  | [], h => ⟨by simpa [logA] using h, fun e he => by cases he⟩
  | (i, ag, ks) :: r, h => by
    unfold logA at h
    split at h
    · rename_i o ho
      obtain ⟨h4, h6⟩ := logA_of C r h.2
      refine ⟨h4, fun e he => ?_⟩
      rcases List.mem_cons.1 he with rfl | he
      · exact ⟨o, ho, h.1⟩
      · exact h6 e he
    · exact h.elim
theorem ks_inj {sp : List (Nat × Bool × List Kd)} (h : (sp.map (·.1)).Nodup) : ∀ e ∈ sp, ∀ e' ∈ sp, e.1 = e'.1 → e = e' := by
  induction sp with
  | nil => intro e he; cases he
  | cons a r ih =>
    rw [List.map_cons, List.nodup_cons] at h
    intro x hx y hy e
    rcases List.mem_cons.1 hx with hx | hx
    · rcases List.mem_cons.1 hy with hy | hy
      · rw [hx, hy]
      · exact absurd (List.mem_map.2 ⟨y, hy, by rw [← e, hx]⟩) h.1
    · rcases List.mem_cons.1 hy with hy | hy
      · exact absurd (List.mem_map.2 ⟨x, hx, by rw [e, hy]⟩) h.1
      · exact ih h.2 x hx y hy e
end
end Go.Proofs.Ytgffaimgnmfifaa

/- The lift, continued: regions that draw their order run as 'wdr' says. -/
namespace Go.Proofs.Ytgffaimgnmfifaa
open Go.RowKit

section
variable {P : Program}
theorem dsts_mem {o : Oper} {d : Nat} (hd : o.dst = some d) : ∀ {l : List Oper}, o ∈ l → d ∈ dsts l
  | [], h => by cases h
  | x :: r, h => by
    unfold dsts
    cases h with
    | head => rw [hd]; exact List.mem_cons_self
    | tail _ h => have := dsts_mem hd h; split <;> simp [this]
/-- Slots outside A are as they were. -/
def Fr (A : List Nat) (a a' : Act) : Prop := ∀ t, t ∉ A → a'.tmps[t]? = a.tmps[t]?
theorem Fr.refl (A : List Nat) (a : Act) : Fr A a a := fun _ _ => rfl
theorem Fr.trans {A : List Nat} {a b c : Act} (h : Fr A a b) (k : Fr A b c) : Fr A a c := fun t ht => (k t ht).trans (h t ht)
theorem Fr.put {A : List Nat} {a : Act} {dst : Option Nat} {v : Value} (h : ∀ d, dst = some d → d ∈ A) : Fr A a (a.put dst v) := fun t ht => put_other fun d hd e => ht (e ▸ h d hd)

theorem wg_of (C : Orc P) {ops : Array Oper} {n : Nat} {o : Oper} {l : Fl} {a : Act} {S : World → Prop} {G : Fl → Prop} (ha : Has n a l) (h : wg ops.toList n o l (fun l1 F => wq C l1 o S F) G) :
    ∃ v l', YieldsIf P ops S o v a ∧ Has n (a.put o.dst v) l' ∧ G l' := by
  have exec : ∀ l1, Has n a l1 → Region.wanted o (yielded ops a.tmps) = true → wq C l1 o S (fun v => pd n l1 o.dst v G) → ∃ v l', YieldsIf P ops S o v a ∧ Has n (a.put o.dst v) l' ∧ G l' := by
    intro l1 h1 hw h2
    obtain ⟨v, h3, h4⟩ := wq_sound C (fun x v hx => h1.ov hx) h2
    obtain ⟨l', h5, h6⟩ := h1.pd h4
    exact ⟨v, l', .inl ⟨hw, h3⟩, h5, h6⟩
  have skip : ∀ l1, Has n a l1 → Region.wanted o (yielded ops a.tmps) = false → pd n l1 o.dst undef G → ∃ v l', YieldsIf P ops S o v a ∧ Has n (a.put o.dst v) l' ∧ G l' := by
    intro l1 h1 hw h2
    obtain ⟨l', h5, h6⟩ := h1.pd h2
    exact ⟨_, l', .inr ⟨hw, rfl⟩, h5, h6⟩
  unfold wg at h
  split at h
  · rename_i hg
    exact exec l ha (by simp [Region.wanted, hg]) h
  · rename_i j want hg
    split at h
    · rename_i t b hgv
      obtain ⟨hy, hl⟩ := gv_of ha hgv
      have hb := brB_iff.1 h
      cases b
      · have hb := hb.2 rfl
        cases want
        · exact exec _ (ha.know hl) (by simp [Region.wanted, hg, hy]) hb
        · exact skip _ (ha.know hl) (by simp [Region.wanted, hg, hy]) hb
      · have hb := hb.1 rfl
        cases want
        · exact skip _ (ha.know hl) (by simp [Region.wanted, hg, hy]) hb
        · exact exec _ (ha.know hl) (by simp [Region.wanted, hg, hy]) hb
    · split at h
      · rename_i hu
        exact skip l ha (by simp [Region.wanted, hg, gu_of ha hu]) h
      · exact h.elim
theorem wge_of (C : Orc P) {ops : Array Oper} {n i : Nat} {o : Oper} {l : Fl} {a : Act} {w : World} {S : World → Prop} {Q : Exit → Act → World → Prop} {G : Fl → World → Prop} (hi : ops[i]? = some o) (ha : Has n a l) (hS : S w)
    (h : wge ops.toList n o l w (fun l1 F => wo C l1 o w fun v w' => S w' ∧ F v w') G) :
    wpOp P ops Q i (fun a' w' => S w' ∧ ∃ v l', a' = a.put o.dst v ∧ Has n a' l' ∧ G l' w') a w := by
  have exec : ∀ l1, Has n a l1 → Region.wanted o (yielded ops a.tmps) = true → wo C l1 o w (fun v w' => S w' ∧ pd n l1 o.dst v fun l' => G l' w') →
      wpOp P ops Q i (fun a' w' => S w' ∧ ∃ v l', a' = a.put o.dst v ∧ Has n a' l' ∧ G l' w') a w := by
    intro l1 h1 hw h2
    unfold wpOp
    simp only [hi, hw, if_true]
    refine .inl (wp_of_does (wo_sound C (fun x v hx => h1.ov hx) h2) fun v w' h3 => ?_)
    obtain ⟨l', h5, h6⟩ := h1.pd h3.2
    exact ⟨h3.1, v, l', rfl, h5, h6⟩
  have skip : ∀ l1, Has n a l1 → Region.wanted o (yielded ops a.tmps) = false → pd n l1 o.dst undef (fun l' => G l' w) →
      wpOp P ops Q i (fun a' w' => S w' ∧ ∃ v l', a' = a.put o.dst v ∧ Has n a' l' ∧ G l' w') a w := by
    intro l1 h1 hw h2
    unfold wpOp
    simp only [hi, hw, Bool.false_eq_true, if_false]
    obtain ⟨l', h5, h6⟩ := h1.pd h2
    exact ⟨hS, _, l', rfl, h5, h6⟩
  unfold wge at h
  split at h
  · rename_i hg
    exact exec l ha (by simp [Region.wanted, hg]) h
  · rename_i j want hg
    split at h
    · rename_i t b hgv
      obtain ⟨hy, hl⟩ := gv_of ha hgv
      have hb := brB_iff.1 h
      cases b
      · have hb := hb.2 rfl
        cases want
        · exact exec _ (ha.know hl) (by simp [Region.wanted, hg, hy]) hb
        · exact skip _ (ha.know hl) (by simp [Region.wanted, hg, hy]) hb
      · have hb := hb.1 rfl
        cases want
        · exact skip _ (ha.know hl) (by simp [Region.wanted, hg, hy]) hb
        · exact exec _ (ha.know hl) (by simp [Region.wanted, hg, hy]) hb
    · split at h
      · rename_i hu
        exact skip l ha (by simp [Region.wanted, hg, gu_of ha hu]) h
      · exact h.elim

theorem ready_lt {ops : Array Oper} {md : Region.Mode} {listed : Array Bool} {t : Nat} (h : t ∈ Region.ready md ops listed) : t < ops.size := by
  obtain ⟨_, o, ho, _⟩ := mem_ready.1 h
  exact (Array.getElem?_eq_some_iff.1 ho).1
theorem eff_step {ops : Array Oper} {Q : Exit → Act → World → Prop} {S : World → Prop} {nT fuel : Nat} {listed : Array Bool} {a : Act} {w : World} {i : Nat} (hr : i ∈ Region.ready .any ops listed)
    (hone : ∀ k ∈ Region.ready .any ops listed, wpOp P ops Q k (fun a' w' => S w' ∧ wpAnyT P .any ops Q S nT fuel (listed.setIfInBounds k true) a' w') a w) :
    wpAnyT P .any ops Q S nT (fuel + 1) listed a w :=
  ⟨fun h => (by rw [h] at hr; cases hr), fun k hk => wpOp_mono (fun _ _ h => ⟨fun _ => h.1, h.2⟩) (hone k hk)⟩

theorem wdr_sound (C : Orc P) {n nT : Nat} {ops : Array Oper} {Q : Exit → Act → World → Prop} {S : World → Prop} {K : Fl → World → Prop} (hQ : ∀ c a w, ¬ Q (.panic c) a w) (hsel : Region.noSelect ops = true) (hnT : nT ≤ ops.size)
    (tw : ∀ listed i, i < nT → HeadInv .any ops nT listed → listed.getD i true = false → ∀ t, nT ≤ t → t ∉ Region.ready .any ops listed) :
    ∀ (od : Od) (listed : Array Bool) (l : Fl) (a : Act) (w : World), HeadInv .any ops nT listed → okOd ops nT od listed = true → Has n a l → S w → wdr C n ops.toList S od l w K →
      (∀ l' a' w', Has n a' l' → K l' w' → Fr (dsts ops.toList) a a' → wpList P ops Q (ops.toList.drop nT) a' w') → wpAnyT P .any ops Q S nT (od.len + (ops.size - nT)) listed a w := by
  intro od
  induction od with
  | done =>
    intro listed l a w inv hok ha hS h hK
    have h1 := hK l a w ha h (Fr.refl _ _)
    have hlen : (ops.toList.drop nT).length = ops.size - nT := by simp
    have := wpAnyT_seq (P := P) (Q := Q) (S := S) (n := nT) (md := .any) (ops := ops) (ops.toList.drop nT) nT listed a w (Nat.le_refl _) (fun j => by simp [List.getElem?_drop]) (by rw [hlen]; exact hok) h1
    rw [hlen] at this
    simpa [Od.len] using this
  | st i r ih =>
    intro listed l a w inv hok ha hS h hK
    simp only [okOd, Bool.and_eq_true] at hok
    obtain ⟨⟨⟨⟨h1, _⟩, h2⟩, h3⟩, h4⟩ := hok
    have hin : i < nT := by simpa [Nat.blt_eq] using h1
    have hr : i ∈ Region.ready .any ops listed := by simpa using h2
    unfold wdr at h
    split at h
    · rename_i o ho
      have ho' : ops[i]? = some o := by simpa using ho
      obtain ⟨v, l', h5, h6, h7⟩ := wg_of C ha h
      have hmem : ∀ d, o.dst = some d → d ∈ dsts ops.toList := fun d hd => dsts_mem hd (List.mem_of_getElem? ho)
      have hrec := ih (listed.setIfInBounds i true) l' (a.put o.dst v) w (inv.set hr hin) h4 h6 hS h7 fun l'' a'' w'' k1 k2 k3 => hK l'' a'' w'' k1 k2 ((Fr.put hmem).trans k3)
      have := wpAnyT_first (P := P) (Q := Q) (S := S) ho' hin (Region.noSelect_spec hsel) (fun c a w hc => absurd hc (hQ c _ w)) (fun listed inv hun => tw listed i hin inv hun) (r.len + (ops.size - nT)) listed a w inv (Region.free_spec ho' h3) hr h5 hS hrec
      simpa [Od.len, Nat.add_right_comm] using this
    · exact h.elim
  | ef i r ih =>
    intro listed l a w inv hok ha hS h hK
    simp only [okOd, Bool.and_eq_true, decide_eq_true_eq] at hok
    obtain ⟨⟨h1, h2⟩, h4⟩ := hok
    have hin : i < nT := by simpa [Nat.blt_eq] using h1
    have hr : i ∈ Region.ready .any ops listed := by rw [h2]; simp
    unfold wdr at h
    split at h
    · rename_i o ho
      have ho' : ops[i]? = some o := by simpa using ho
      have hmem : ∀ d, o.dst = some d → d ∈ dsts ops.toList := fun d hd => dsts_mem hd (List.mem_of_getElem? ho)
      have hop := wge_of (Q := Q) C ho' ha hS h
      have : wpAnyT P .any ops Q S nT (r.len + (ops.size - nT) + 1) listed a w := eff_step hr fun k hk => by
        rw [h2] at hk
        have hk : k = i := by simpa using hk
        subst hk
        refine wpOp_mono (fun a' w' h5 => ?_) hop
        obtain ⟨h6, v, l', rfl, h7, h8⟩ := h5
        exact ⟨h6, ih _ l' _ w' (inv.set hr hin) h4 h7 h6 h8 fun l'' a'' w'' k1 k2 k3 => hK l'' a'' w'' k1 k2 ((Fr.put hmem).trans k3)⟩
      simpa [Od.len, Nat.add_right_comm] using this
    · exact h.elim
  | two i x j y ihx ihy =>
    intro listed l a w inv hok ha hS h hK
    simp only [okOd, Bool.and_eq_true, decide_eq_true_eq] at hok
    obtain ⟨⟨⟨⟨⟨h1, h1'⟩, h2⟩, hlen⟩, h4⟩, h4'⟩ := hok
    have hin : i < nT := by simpa [Nat.blt_eq] using h1
    have hjn : j < nT := by simpa [Nat.blt_eq] using h1'
    have hlen := Nat.eq_of_beq_eq_true hlen
    have hr : i ∈ Region.ready .any ops listed := by rw [h2]; simp
    have hr' : j ∈ Region.ready .any ops listed := by rw [h2]; simp
    obtain ⟨ha1, ha2⟩ := (show _ ∧ _ from h)
    have : wpAnyT P .any ops Q S nT (x.len + (ops.size - nT) + 1) listed a w := eff_step hr fun k hk => by
      rw [h2] at hk
      have hk : k = i ∨ k = j := by simpa using hk
      rcases hk with rfl | rfl
      · split at ha1
        · rename_i o ho
          have ho' : ops[k]? = some o := by simpa using ho
          have hmem : ∀ d, o.dst = some d → d ∈ dsts ops.toList := fun d hd => dsts_mem hd (List.mem_of_getElem? ho)
          refine wpOp_mono (fun a' w' h5 => ?_) (wge_of (Q := Q) C ho' ha hS ha1)
          obtain ⟨h6, v, l', rfl, h7, h8⟩ := h5
          exact ⟨h6, ihx _ l' _ w' (inv.set hr hin) h4 h7 h6 h8 fun l'' a'' w'' k1 k2 k3 => hK l'' a'' w'' k1 k2 ((Fr.put hmem).trans k3)⟩
        · exact ha1.elim
      · split at ha2
        · rename_i o ho
          have ho' : ops[k]? = some o := by simpa using ho
          have hmem : ∀ d, o.dst = some d → d ∈ dsts ops.toList := fun d hd => dsts_mem hd (List.mem_of_getElem? ho)
          refine wpOp_mono (fun a' w' h5 => ?_) (wge_of (Q := Q) C ho' ha hS ha2)
          obtain ⟨h6, v, l', rfl, h7, h8⟩ := h5
          exact ⟨h6, by rw [hlen]; exact ihy _ l' _ w' (inv.set hr' hjn) h4' h7 h6 h8 fun l'' a'' w'' k1 k2 k3 => hK l'' a'' w'' k1 k2 ((Fr.put hmem).trans k3)⟩
        · exact ha2.elim
    simpa [Od.len, Nat.add_right_comm] using this
  | par is r ih =>
    intro listed l a w inv hok ha hS h hK
    simp only [okOd, Bool.and_eq_true] at hok
    obtain ⟨hlt, hnod, hch, hpar, hrest⟩ := hok
    unfold wdr at h
    split at h
    · rename_i hpk
      rw [Bool.and_eq_true] at hpk
      obtain ⟨hpk1, hpk2⟩ := hpk
      obtain ⟨T, h⟩ := h
      obtain ⟨sp, hG, hmap, hspec⟩ := parA_of C is [] h
      rw [List.nil_append] at hG
      have hpm := pds_map hpk1
      rw [hpm] at hpk2 hG hspec
      have hnd := nodB_iff hnod
      have hnd2 := nodB_iff hpk2
      rw [← hmap] at hlt hch hpar hrest hnd hnd2 hpm hG hspec
      have hlen : sp.length = is.length := by have := congrArg List.length hmap; simpa using this
      have hmem : ∀ e ∈ sp, e.i ∈ sp.map (·.i) := fun e he => List.mem_map_of_mem he
      have hpk1' : parOk n ops.toList (sp.map (·.i)) = true := by rw [hmap]; exact hpk1
      have hinj : ∀ e ∈ sp, ∀ e' ∈ sp, e.i = e'.i → e = e' := sp_inj hnd
      have hsp : ∀ e ∈ sp, ∃ o, SpOk C ops n nT S T (rmA ((sp.map (·.i)).map (dAt ops.toList)) l) e o (dAt ops.toList e.i) := by
        intro e he
        obtain ⟨o, ho, hk, hrun⟩ := hspec e he
        obtain ⟨o', d, ho', hg, hdst, hdn⟩ := parOk_of hpk1' e.i (hmem e he)
        rw [ho] at ho'; cases ho'
        have hd : dAt ops.toList e.i = d := by unfold dAt; rw [ho]; dsimp only; rw [hdst]
        refine ⟨o, by simpa using ho, ?_, hg, by rw [hd]; exact hdst, by rw [hd]; exact hdn, fun v hv => ?_, hk, hrun⟩
        · have := List.all_eq_true.1 hlt e.i (hmem e he)
          simpa [Nat.blt_eq] using this
        · exact (rmA_get hv).1 (List.mem_map_of_mem (hmem e he))
      have ha0 : Has n a (rmA ((sp.map (·.i)).map (dAt ops.toList)) l) := ⟨ha.size, ha.defers, fun t v ht => ha.get t v (rmA_get ht).2⟩
      have hun : ∀ (is : List Nat) (L : Array Bool), okCh ops is L = true → is.Nodup → ∀ i ∈ is, L.getD i true = false := by
        intro is
        induction is with
        | nil => intro L _ _ i hi; cases hi
        | cons x r ih =>
          intro L hc hn i hi
          simp only [okCh, Bool.and_eq_true] at hc
          rw [List.nodup_cons] at hn
          have hx : x ∈ Region.ready .any ops L := by simpa using hc.1
          rcases List.mem_cons.1 hi with hi | hi
          · rw [hi]; exact (mem_ready.1 hx).1
          · have := ih _ hc.2 hn.2 i hi
            rw [getD_set_ne true (fun e => hn.1 (by rw [e]; exact hi))] at this
            exact this
      have := par_run C (Q := Q) (a0 := a) (X := r.len + (ops.size - nT)) (dOf := fun e => dAt ops.toList e.i) hsp hinj (fun e he e' he' hde => hinj e he e' he' (nodup_inj hnd2 _ (hmem e he) _ (hmem e' he') hde)) hch hpar (fun a' w' ha' hS' hdone hfr inv' => by
        obtain ⟨l', h5, h6⟩ := parB_of (ops := ops) (K := fun l' w'' => wdr C n ops.toList S r l' w'' K) (dOf := fun e => dAt ops.toList e.i) sp _ ha' (fun e he => ⟨by obtain ⟨o, ok⟩ := hsp e he; exact ⟨o, ok.op, ok.dst⟩, hdone e he⟩) (hG w' hS')
        exact ih _ l' a' w' inv' hrest h5 hS' h6 fun l'' a'' w'' k1 k2 k3 => hK l'' a'' w'' k1 k2 (Fr.trans (fun t ht => hfr t ht) k3)) sp.length (sp.map (·.i)) listed a w (by simp) hnd (fun i hi => hi) (fun j hj => by
          constructor
          · intro h
            by_cases hjs : j ∈ sp.map (·.i)
            · rw [hun _ _ hch hnd j hjs] at h; cases h
            · exact Or.inr ⟨hjs, h⟩
          · rintro (⟨h1, h2⟩ | h)
            · exact absurd h1 h2
            · exact h.2) (fun j h => h) inv inv.size (hun _ _ hch hnd) ha0 hS (fun e he hr => absurd (hmem e he) hr) (fun t _ => rfl)
      rw [hlen] at this
      simpa [Od.len, Nat.add_assoc] using this
    · exact h.elim
  | log is r ih =>
    intro listed l a w inv hok ha hS h hK
    simp only [okOd, Bool.and_eq_true] at hok
    obtain ⟨hlt, hnod, hch, hpar, hrest⟩ := hok
    unfold wdr at h
    split at h
    · rename_i hpk
      rw [Bool.and_eq_true] at hpk
      obtain ⟨hpk1, hpk2⟩ := hpk
      obtain ⟨Z, hZ0, h⟩ := h
      obtain ⟨hG, hspec⟩ := logA_of C is h
      have hpm := pds_map hpk1
      rw [hpm] at hpk2 hG hspec
      have hnd := nodB_iff hnod
      have hnd2 := nodB_iff hpk2
      have hmem : ∀ e ∈ is, e.1 ∈ is.map (·.1) := fun e he => List.mem_map_of_mem he
      have hpk1' : parOk n ops.toList (is.map (·.1)) = true := hpk1
      have hinj : ∀ e ∈ is, ∀ e' ∈ is, e.1 = e'.1 → e = e' := ks_inj hnd
      have hsp : ∀ e ∈ is, ∃ o, LgOk C ops n nT S Z (rmA ((is.map (·.1)).map (dAt ops.toList)) l) e o (dAt ops.toList e.1) := by
        intro e he
        obtain ⟨o, ho, hrun⟩ := hspec e he
        obtain ⟨o', d, ho', hg, hdst, hdn⟩ := parOk_of hpk1' e.1 (hmem e he)
        rw [ho] at ho'; cases ho'
        have hd : dAt ops.toList e.1 = d := by unfold dAt; rw [ho]; dsimp only; rw [hdst]
        refine ⟨o, by simpa using ho, ?_, hg, by rw [hd]; exact hdst, by rw [hd]; exact hdn, fun v hv => ?_, hrun⟩
        · have := List.all_eq_true.1 hlt e.1 (hmem e he)
          simpa [Nat.blt_eq] using this
        · exact (rmA_get hv).1 (List.mem_map_of_mem (hmem e he))
      have ha0 : Has n a (rmA ((is.map (·.1)).map (dAt ops.toList)) l) := ⟨ha.size, ha.defers, fun t v ht => ha.get t v (rmA_get ht).2⟩
      have hun : ∀ (is : List Nat) (L : Array Bool), okCh ops is L = true → is.Nodup → ∀ i ∈ is, L.getD i true = false := by
        intro is
        induction is with
        | nil => intro L _ _ i hi; cases hi
        | cons x r ih =>
          intro L hc hn i hi
          simp only [okCh, Bool.and_eq_true] at hc
          rw [List.nodup_cons] at hn
          have hx : x ∈ Region.ready .any ops L := by simpa using hc.1
          rcases List.mem_cons.1 hi with hi | hi
          · rw [hi]; exact (mem_ready.1 hx).1
          · have := ih _ hc.2 hn.2 i hi
            rw [getD_set_ne true (fun e => hn.1 (by rw [e]; exact hi))] at this
            exact this
      have := log_run C (Q := Q) (a0 := a) (X := r.len + (ops.size - nT)) (dOf := fun e => dAt ops.toList e.1) hsp hinj (fun e he e' he' hde => hinj e he e' he' (nodup_inj hnd2 _ (hmem e he) _ (hmem e' he') hde)) hch hpar (fun a' w' ha' hS' hdone hfr inv' => by
        obtain ⟨lg, hZl, hdone⟩ := hdone
        obtain ⟨l', h5, h6⟩ := logB_of (ops := ops) (K := fun l' w'' => wdr C n ops.toList S r l' w'' K) (dOf := fun e => dAt ops.toList e.1) is _ ha' (fun e he => ⟨by obtain ⟨o, ok⟩ := hsp e he; exact ⟨o, ok.op, ok.dst⟩, hdone e he⟩) (hG lg w' hS' hZl)
        exact ih _ l' a' w' inv' hrest h5 hS' h6 fun l'' a'' w'' k1 k2 k3 => hK l'' a'' w'' k1 k2 (Fr.trans (fun t ht => hfr t ht) k3)) is.length (is.map (·.1)) listed a w (by simp) hnd (fun i hi => hi) (fun j hj => by
          constructor
          · intro h
            by_cases hjs : j ∈ is.map (·.1)
            · rw [hun _ _ hch hnd j hjs] at h; cases h
            · exact Or.inr ⟨hjs, h⟩
          · rintro (⟨h1, h2⟩ | h)
            · exact absurd h1 h2
            · exact h.2) (fun j h => h) inv inv.size (hun _ _ hch hnd) ha0 hS ⟨[], hZ0, fun e he hr => absurd (hmem e he) hr⟩ (fun t _ => rfl)
      simpa [Od.len, Nat.add_assoc] using this
    · exact h.elim

/-- A region that draws its order. -/
def wpd {P : Program} (C : Orc P) (n : Nat) (ops : Array Oper) (nT : Nat) (od : Od) (S : World → Prop) (l : Fl) (w : World) (K : Fl → World → Prop) : Prop :=
  S w.drew ∧ wdr C n ops.toList S od l w.drew fun l' w' => wops C n ops.toList (ops.toList.drop nT) l' w' K
theorem dsts_drop {t : Nat} : ∀ {l : List Oper} {k : Nat}, t ∉ dsts l → t ∉ dsts (l.drop k)
  | [], k, h => by simpa using h
  | o :: r, 0, h => h
  | o :: r, k + 1, h => by
    simp only [List.drop_succ_cons]
    refine dsts_drop ?_
    unfold dsts at h
    split at h
    · exact fun hm => h (List.mem_cons_of_mem _ hm)
    · exact h
theorem wpd_sound (C : Orc P) {id n nT : Nat} {ops : Array Oper} {od : Od} {S : World → Prop} {l : Fl} {a : Act} {w : World} {K : Fl → World → Prop} {Q : Exit → Act → World → Prop} (hm : P.follows .mixedOrders = true)
    (hok : okDr ops nT od = true) (ha : Has n a l) (h : wpd C n ops nT od S l w K) (hK : ∀ l' a' w', Has n a' l' → K l' w' → Fr (dsts ops.toList) a a' → Q .normal a' w') : (Code.region id ops true).wp P Q a w := by
  refine wp_region_noPanic ?_
  simp only [okDr, Bool.and_eq_true, Bool.or_eq_true, decide_eq_true_eq] at hok
  obtain ⟨⟨⟨hsel, hn⟩, hlen⟩, hod⟩ := hok
  have hlen := Nat.eq_of_beq_eq_true hlen
  have hnT : nT ≤ ops.size := by
    rcases hn with hn | hn
    · exact Nat.le_of_eq (Nat.eq_of_beq_eq_true hn)
    · exact Nat.le_of_lt hn.1.1
  have inv0 : HeadInv .any ops nT (Array.replicate ops.size false) :=
    ⟨by simp, fun j oj _ hl => (by rw [getD_replicate_false] at hl; cases hl), fun t _ ht => getD_in (by simpa using ht) (getD_replicate_false _ _)⟩
  have tw : ∀ (listed : Array Bool) (i : Nat), i < nT → HeadInv .any ops nT listed → listed.getD i true = false → ∀ t, nT ≤ t → t ∉ Region.ready .any ops listed := by
    intro listed i hin inv hun t ht hr
    have hlt := ready_lt hr
    rcases hn with hn | hn
    · have := Nat.eq_of_beq_eq_true hn; omega
    · exact tail_waits hn.1.2 hn.2 hn.1.1 inv _ i rfl hin hun t ht hr
  refine wp_region_any hm (wpAny_of_T (S := S) (n := nT) _ _ _ _ ?_)
  have := wdr_sound C (Q := NoPanic Q) (fun c a w => by unfold NoPanic; simp) hsel hnT tw od (Array.replicate ops.size false) l a w.drew inv0 hod ha h.1 h.2 fun l' a' w' k1 k2 k3 =>
    wops_sound C (ops.toList.drop nT) l' a' w' k1 k2 fun l'' a'' w'' m1 m2 m3 => by
      show Q .normal a'' w''
      exact hK l'' a'' w'' m1 m2 (k3.trans fun t ht => m3 t (dsts_drop ht))
  rw [hlen, show nT + (ops.size - nT) = ops.size by omega] at this
  exact this
end
end Go.Proofs.Ytgffaimgnmfifaa

/- The lift, continued: regions that draw their order, in two halves. S holds of the worlds ahead of one operation, R of all of them; what that operation waits for is looked at in worlds of S alone. -/
namespace Go.Proofs.Ytgffaimgnmfifaa
open Go.RowKit

section
variable {P : Program} {ops : Array Oper} {Q : Exit → Act → World → Prop} {md : Region.Mode}
def half (S R : World → Prop) (k : Nat) (L : Array Bool) (w : World) : Prop := if L.getD k true = true then R w else S w
theorem half_set {S R : World → Prop} {k i : Nat} (h : i ≠ k) (L : Array Bool) : half S R k (L.setIfInBounds i true) = half S R k L := by
  funext w; unfold half; rw [getD_set_ne true h]
/-- Whatever order is picked from here on, and Z holds behind every operation of the head. -/
def wpAnyU (P : Program) (md : Region.Mode) (ops : Array Oper) (Q : Exit → Act → World → Prop) (Z : Array Bool → World → Prop) (n : Nat) : Nat → Array Bool → Act → World → Prop
  | 0, listed, a, w => Region.ready md ops listed = [] ∧ Q .normal a w
  | fuel + 1, listed, a, w =>
    (Region.ready md ops listed = [] → Q .normal a w) ∧
    ∀ i ∈ Region.ready md ops listed, wpOp P ops Q i (fun a' w' => (i < n → Z (listed.setIfInBounds i true) w') ∧ wpAnyU P md ops Q Z n fuel (listed.setIfInBounds i true) a' w') a w
theorem wpAny_of_U {Z : Array Bool → World → Prop} {n : Nat} : ∀ (fuel : Nat) (listed : Array Bool) (a : Act) (w : World), wpAnyU P md ops Q Z n fuel listed a w → wpAny P md ops Q fuel listed a w
  | 0, _, _, _, h => h
  | fuel + 1, _, _, _, h => ⟨h.1, fun i hi => wpOp_mono (fun a' w' h' => wpAny_of_U fuel _ a' w' h'.2) (h.2 i hi)⟩
theorem wpAnyU_first {Z : Array Bool → World → Prop} {Y : World → Prop} {n i : Nat} {oi : Oper} {v : Value} (hi : ops[i]? = some oi) (hin : i < n) (hsel : ∀ (j : Nat) (o : Oper) cs b, ops[j]? = some o → o.op ≠ .select cs b)
    (hQ : ∀ c a w, Q (.panic c) (a.put oi.dst v) w → Q (.panic c) a w)
    (tw : ∀ listed, HeadInv md ops n listed → listed.getD i true = false → ∀ t, n ≤ t → t ∉ Region.ready md ops listed)
    (hZ : ∀ L w, HeadInv md ops n L → L.getD i true = false → Z L w → Y w) (hZi : ∀ L, Z (L.setIfInBounds i true) = Z L) :
    ∀ (fuel : Nat) (listed : Array Bool) (a : Act) (w : World), HeadInv md ops n listed →
      (∀ j oj, ops[j]? = some oj → j ≠ i → listed.getD j true = false → (∀ e ∈ oj.after, Region.binds md e = true → e.on ≠ i) → oi.apart ops oj = true) →
      i ∈ Region.ready md ops listed → YieldsIf P ops Y oi v a → Z listed w →
      wpAnyU P md ops Q Z n fuel (listed.setIfInBounds i true) (a.put oi.dst v) w → wpAnyU P md ops Q Z n (fuel + 1) listed a w := by
  intro fuel
  induction fuel with
  | zero =>
    intro listed a w inv _ hr hy hS H
    refine ⟨fun h => (by rw [h] at hr; cases hr), fun j hj => ?_⟩
    by_cases hji : j = i
    · subst hji; exact hy.wpOp hi (hZ _ _ inv (mem_ready.1 hr).1 hS) ⟨fun _ => by rw [hZi]; exact hS, H⟩
    · have := ready_mono hj hji
      rw [H.1] at this
      cases this
  | succ fuel ih =>
    intro listed a w inv hfree hr hy hS H
    refine ⟨fun h => (by rw [h] at hr; cases hr), fun j hj => ?_⟩
    by_cases hji : j = i
    · subst hji; exact hy.wpOp hi (hZ _ _ inv (mem_ready.1 hr).1 hS) ⟨fun _ => by rw [hZi]; exact hS, H⟩
    · have hun := (mem_ready.1 hr).1
      have hjn : j < n := by
        rcases Nat.lt_or_ge j n with h | h
        · exact h
        · exact absurd hj (tw listed inv hun j h)
      have h1 := H.2 j (ready_mono hj hji)
      obtain ⟨hjun, oj, hoj, hall⟩ := mem_ready.1 hj
      have hnot : ∀ e ∈ oj.after, Region.binds md e = true → e.on ≠ i := fun e he hb heq => by
        have h1 := hall e he hb
        rw [heq, getD_both hun] at h1
        cases h1
      have h2 := wpOp_putIf hoj (hfree j oj hoj hji hjun hnot) (fun cs b => hsel i oi cs b hi) (fun cs b => hsel j oj cs b hoj) hQ hy h1
      have hfree' : ∀ k ok, ops[k]? = some ok → k ≠ i → (listed.setIfInBounds j true).getD k true = false →
          (∀ e ∈ ok.after, Region.binds md e = true → e.on ≠ i) → oi.apart ops ok = true := fun k ok hk hki hun hno => by
        refine hfree k ok hk hki ?_ hno
        by_cases hjk : j = k
        · subst hjk; exact hjun
        · rw [getD_set_ne true hjk] at hun; exact hun
      refine wpOp_mono (fun a' w' h3 => ?_) h2
      have hz : Z (listed.setIfInBounds j true) w' := by
        have := h3.2.1 hjn
        rw [Array.setIfInBounds_comm _ _ (Ne.symm hji), hZi] at this
        exact this
      refine ⟨fun _ => hz, ih (listed.setIfInBounds j true) a' w' (inv.set hj hjn) hfree' (ready_mono hr (Ne.symm hji)) h3.1 hz ?_⟩
      rw [Array.setIfInBounds_comm _ _ hji]
      exact h3.2.2
theorem wpAnyU_seq {Z : Array Bool → World → Prop} {n : Nat} : ∀ (l : List Oper) (k : Nat) (listed : Array Bool) (a : Act) (w : World), n ≤ k → (∀ j, l[j]? = ops[k + j]?) →
    Region.seqB md ops l.length k listed = true → wpList P ops Q l a w → wpAnyU P md ops Q Z n l.length listed a w
  | [], _, _, _, _, _, _, hB, h => ⟨by simpa [Region.seqB] using hB, h⟩
  | o :: l, k, listed, a, w, hk, hl, hB, h => by
    have h0 : ops[k]? = some o := by simpa using (hl 0).symm
    simp only [List.length_cons, Region.seqB, Bool.and_eq_true, decide_eq_true_eq] at hB
    refine ⟨fun h1 => (by rw [hB.1] at h1; cases h1), fun i hi => ?_⟩
    rw [hB.1] at hi
    have hik : i = k := by simpa using hi
    subst hik
    have hw : wpOp P ops Q i (wpList P ops Q l) a w := by unfold wpOp; simp only [h0]; exact h
    exact wpOp_mono (fun a' w' h' => ⟨fun h => absurd hk (by omega), wpAnyU_seq l (i + 1) _ a' w' (by omega) (fun j => by have := hl (j + 1); simpa [Nat.add_assoc, Nat.add_comm 1 j] using this) hB.2 h'⟩) hw
end
/-- That operation waits for this one. -/
def wkB (all : List Oper) (k i : Nat) : Bool := match all[k]? with | some o => waitsB o i | none => false
def wdk {P : Program} (C : Orc P) (n : Nat) (all : List Oper) (S R : World → Prop) (k : Nat) : Od → Bool → Fl → World → (Fl → World → Prop) → Prop
  | .done, _, l, w, K => K l w
  | .st i r, b, l, w, K =>
    match Nat.beq i k with
    | true => False
    | false => match all[i]? with
      | some o => wg all n o l (fun l1 F => wq C l1 o (match wkB all k i with | true => S | false => R) F) fun l' => wdk C n all S R k r b l' w K
      | none => False
  | .ef i r, b, l, w, K => match all[i]? with
    | some o => wge all n o l w (fun l1 F => wo C l1 o w fun v w' => (match b || Nat.beq i k with | true => R | false => S) w' ∧ F v w') fun l' w' => wdk C n all S R k r (b || Nat.beq i k) l' w' K
    | none => False
  | .two _ _ _ _, _, _, _, _ => False
  | .par _ _, _, _, _, _ => False
  | .log _ _, _, _, _, _ => False
section
variable {P : Program}
theorem effU_step {ops : Array Oper} {Q : Exit → Act → World → Prop} {Z : Array Bool → World → Prop} {nT fuel : Nat} {listed : Array Bool} {a : Act} {w : World} {i : Nat} (hr : i ∈ Region.ready .any ops listed)
    (hone : ∀ k ∈ Region.ready .any ops listed, wpOp P ops Q k (fun a' w' => Z (listed.setIfInBounds k true) w' ∧ wpAnyU P .any ops Q Z nT fuel (listed.setIfInBounds k true) a' w') a w) :
    wpAnyU P .any ops Q Z nT (fuel + 1) listed a w :=
  ⟨fun h => (by rw [h] at hr; cases hr), fun k hk => wpOp_mono (fun _ _ h => ⟨fun _ => h.1, h.2⟩) (hone k hk)⟩
theorem wdk_sound (C : Orc P) {n nT k : Nat} {ops : Array Oper} {Q : Exit → Act → World → Prop} {S R : World → Prop} {K : Fl → World → Prop} (hSR : ∀ w, S w → R w) (hk : k < ops.size) (hQ : ∀ c a w, ¬ Q (.panic c) a w) (hsel : Region.noSelect ops = true) (hnT : nT ≤ ops.size)
    (tw : ∀ listed i, i < nT → HeadInv .any ops nT listed → listed.getD i true = false → ∀ t, nT ≤ t → t ∉ Region.ready .any ops listed) :
    ∀ (od : Od) (listed : Array Bool) (l : Fl) (a : Act) (w : World), HeadInv .any ops nT listed → okOd ops nT od listed = true → Has n a l → half S R k listed w → wdk C n ops.toList S R k od (listed.getD k true) l w K →
      (∀ l' a' w', Has n a' l' → K l' w' → Fr (dsts ops.toList) a a' → wpList P ops Q (ops.toList.drop nT) a' w') → wpAnyU P .any ops Q (half S R k) nT (od.len + (ops.size - nT)) listed a w := by
  have toR : ∀ L w, half S R k L w → R w := fun L w h => by
    unfold half at h; split at h
    · exact h
    · exact hSR _ h
  intro od
  induction od with
  | done =>
    intro listed l a w inv hok ha hS h hK
    have h1 := hK l a w ha h (Fr.refl _ _)
    have hlen : (ops.toList.drop nT).length = ops.size - nT := by simp
    have := wpAnyU_seq (P := P) (Q := Q) (Z := half S R k) (n := nT) (md := .any) (ops := ops) (ops.toList.drop nT) nT listed a w (Nat.le_refl _) (fun j => by simp [List.getElem?_drop]) (by rw [hlen]; exact hok) h1
    rw [hlen] at this
    simpa [Od.len] using this
  | st i r ih =>
    intro listed l a w inv hok ha hS h hK
    simp only [okOd, Bool.and_eq_true] at hok
    obtain ⟨⟨⟨⟨h1, _⟩, h2⟩, h3⟩, h4⟩ := hok
    have hin : i < nT := by simpa [Nat.blt_eq] using h1
    have hr : i ∈ Region.ready .any ops listed := by simpa using h2
    unfold wdk at h
    split at h
    · exact h.elim
    · rename_i hne
      have hne : i ≠ k := fun e => by rw [e] at hne; simp at hne
      split at h
      · rename_i o ho
        have ho' : ops[i]? = some o := by simpa using ho
        obtain ⟨v, l', h5, h6, h7⟩ := wg_of C ha h
        have hmem : ∀ d, o.dst = some d → d ∈ dsts ops.toList := fun d hd => dsts_mem hd (List.mem_of_getElem? ho)
        have hrec := ih (listed.setIfInBounds i true) l' (a.put o.dst v) w (inv.set hr hin) h4 h6 (by rw [half_set hne]; exact hS) (by rw [getD_set_ne true hne]; exact h7) fun l'' a'' w'' k1 k2 k3 => hK l'' a'' w'' k1 k2 ((Fr.put hmem).trans k3)
        have := wpAnyU_first (P := P) (Q := Q) (Z := half S R k) ho' hin (Region.noSelect_spec hsel) (fun c a w hc => absurd hc (hQ c _ w)) (fun listed inv hun => tw listed i hin inv hun) (fun L w invL hun hz => by
          cases hwk : wkB ops.toList k i
          · exact toR _ _ hz
          · unfold wkB at hwk
            split at hwk
            · rename_i ok hok
              have hok' : ops[k]? = some ok := by simpa using hok
              unfold waitsB at hwk
              obtain ⟨e, he, hb⟩ := List.any_eq_true.1 hwk
              obtain ⟨hb1, hb2⟩ := Bool.and_eq_true_iff.1 hb
              have hon := Nat.eq_of_beq_eq_true hb2
              have hf : L.getD k false = false := by
                rcases hx : L.getD k false with _ | _
                · rfl
                · have := invL.closed k ok hok' hx e (by simpa using he) hb1
                  rw [hon, getD_both hun] at this; cases this
              have hkt : L.getD k true = false := getD_in (by rw [invL.size]; exact hk) hf
              unfold half at hz
              rw [hkt] at hz
              simpa using hz
            · cases hwk) (half_set hne) (r.len + (ops.size - nT)) listed a w inv (Region.free_spec ho' h3) hr h5 hS hrec
        simpa [Od.len, Nat.add_right_comm] using this
      · exact h.elim
  | ef i r ih =>
    intro listed l a w inv hok ha hS h hK
    simp only [okOd, Bool.and_eq_true, decide_eq_true_eq] at hok
    obtain ⟨⟨h1, h2⟩, h4⟩ := hok
    have hin : i < nT := by simpa [Nat.blt_eq] using h1
    have hr : i ∈ Region.ready .any ops listed := by rw [h2]; simp
    have hflag : (listed.setIfInBounds i true).getD k true = (listed.getD k true || Nat.beq i k) := by
      by_cases hik : i = k
      · subst hik
        have : (listed.setIfInBounds i true).getD i true = true := by
          have hlt : i < (listed.setIfInBounds i true).size := by simp [inv.size, hk]
          simp [Array.getD, hlt]
        rw [this]; simp
      · rw [getD_set_ne true hik]
        have : Nat.beq i k = false := by
          rcases hx : Nat.beq i k with _ | _
          · rfl
          · exact absurd (Nat.eq_of_beq_eq_true hx) hik
        rw [this]; simp
    have hhalf : ∀ w', (match (listed.getD k true || Nat.beq i k) with | true => R | false => S) w' ↔ half S R k (listed.setIfInBounds i true) w' := fun w' => by
      unfold half
      rw [hflag]
      cases (listed.getD k true || Nat.beq i k) <;> simp
    have hcur : (match (listed.getD k true || Nat.beq i k) with | true => R | false => S) w := by
      have hS' := hS
      unfold half at hS'
      rcases hx : (listed.getD k true || Nat.beq i k) with _ | _
      · have : listed.getD k true = false := by
          rcases hy : listed.getD k true with _ | _
          · rfl
          · rw [hy] at hx; simp at hx
        rw [this] at hS'
        simpa using hS'
      · exact toR _ _ hS
    unfold wdk at h
    split at h
    · rename_i o ho
      have ho' : ops[i]? = some o := by simpa using ho
      have hmem : ∀ d, o.dst = some d → d ∈ dsts ops.toList := fun d hd => dsts_mem hd (List.mem_of_getElem? ho)
      have hop := wge_of (Q := Q) C ho' ha hcur h
      have : wpAnyU P .any ops Q (half S R k) nT (r.len + (ops.size - nT) + 1) listed a w := effU_step hr fun j hj => by
        rw [h2] at hj
        have hj : j = i := by simpa using hj
        subst hj
        refine wpOp_mono (fun a' w' h5 => ?_) hop
        obtain ⟨h6, v, l', rfl, h7, h8⟩ := h5
        have h6 := (hhalf w').1 h6
        exact ⟨h6, ih _ l' _ w' (inv.set hr hin) h4 h7 h6 (by rw [hflag]; exact h8) fun l'' a'' w'' k1 k2 k3 => hK l'' a'' w'' k1 k2 ((Fr.put hmem).trans k3)⟩
      simpa [Od.len, Nat.add_right_comm] using this
    · exact h.elim
  | two i x j y ihx ihy => intro listed l a w inv hok ha hS h hK; exact h.elim
  | par is r ih => intro listed l a w inv hok ha hS h hK; exact h.elim
  | log is r ih => intro listed l a w inv hok ha hS h hK; exact h.elim
theorem wdk_region (C : Orc P) {id n nT k : Nat} {ops : Array Oper} {od : Od} {S R : World → Prop} {l : Fl} {a : Act} {w : World} {K : Fl → World → Prop} {Q : Exit → Act → World → Prop} (hm : P.follows .mixedOrders = true) (hSR : ∀ w, S w → R w) (hk : k < ops.size)
    (hok : okDr ops nT od = true) (ha : Has n a l) (h : S w.drew ∧ wdk C n ops.toList S R k od false l w.drew fun l' w' => wops C n ops.toList (ops.toList.drop nT) l' w' K) (hK : ∀ l' a' w', Has n a' l' → K l' w' → Fr (dsts ops.toList) a a' → Q .normal a' w') : (Code.region id ops true).wp P Q a w := by
  refine wp_region_noPanic ?_
  simp only [okDr, Bool.and_eq_true, Bool.or_eq_true, decide_eq_true_eq] at hok
  obtain ⟨⟨⟨hsel, hn⟩, hlen⟩, hod⟩ := hok
  have hlen := Nat.eq_of_beq_eq_true hlen
  have hnT : nT ≤ ops.size := by
    rcases hn with hn | hn
    · exact Nat.le_of_eq (Nat.eq_of_beq_eq_true hn)
    · exact Nat.le_of_lt hn.1.1
  have inv0 : HeadInv .any ops nT (Array.replicate ops.size false) :=
    ⟨by simp, fun j oj _ hl => (by rw [getD_replicate_false] at hl; cases hl), fun t _ ht => getD_in (by simpa using ht) (getD_replicate_false _ _)⟩
  have tw : ∀ (listed : Array Bool) (i : Nat), i < nT → HeadInv .any ops nT listed → listed.getD i true = false → ∀ t, nT ≤ t → t ∉ Region.ready .any ops listed := by
    intro listed i hin inv hun t ht hr
    have hlt := ready_lt hr
    rcases hn with hn | hn
    · have := Nat.eq_of_beq_eq_true hn; omega
    · exact tail_waits hn.1.2 hn.2 hn.1.1 inv _ i rfl hin hun t ht hr
  have hk0 : (Array.replicate ops.size false).getD k true = false := getD_in (by simpa using hk) (getD_replicate_false _ _)
  refine wp_region_any hm (wpAny_of_U (Z := half S R k) (n := nT) _ _ _ _ ?_)
  have := wdk_sound C (Q := NoPanic Q) hSR hk (fun c a w => by unfold NoPanic; simp) hsel hnT tw od (Array.replicate ops.size false) l a w.drew inv0 hod ha (by unfold half; rw [hk0]; simpa using h.1) (by rw [hk0]; exact h.2) fun l' a' w' k1 k2 k3 =>
    wops_sound C (ops.toList.drop nT) l' a' w' k1 k2 fun l'' a'' w'' m1 m2 m3 => by
      show Q .normal a'' w''
      exact hK l'' a'' w'' m1 m2 (k3.trans fun t ht => m3 t (dsts_drop ht))
  rw [hlen, show nT + (ops.size - nT) = ops.size by omega] at this
  exact this
end
end Go.Proofs.Ytgffaimgnmfifaa

/- The lift, continued: code and calls. -/
namespace Go.Proofs.Ytgffaimgnmfifaa
open Go.RowKit

/-- Which slots a loop's rounds hand on (by the loop's first region); which slots are handed on where ways meet again (by the first region of what follows); how a region that draws is gone through (by its number): where its tail begins, the order of its head, what holds of the worlds (0: it is one world; 1: what the prover says; 2: nothing; k + 3: in two halves, see LiftS, with operation k between them). -/
structure An where
  lv : List (Nat × List (Nat × Kd))
  dr : List (Nat × (Nat × Od × Nat))
  jn : List (Nat × List (Nat × Kd)) := []
def fid : Code → Option Nat
  | .region id _ _ => some id
  | .seq a b => match fid a with | some i => some i | none => fid b
  | .cond _ a b => match fid a with | some i => some i | none => fid b
  | .block _ b => fid b
  | .loop b => fid b
  | _ => none
def asg : Code → List Nat
  | .region _ ops _ => dsts ops.toList
  | .seq a b => asg a ++ asg b
  | .cond _ a b => asg a ++ asg b
  | .block _ b => asg b
  | .loop b => asg b
  | _ => []
def jnOf (A : An) (i : Option Nat) : Option (List (Nat × Kd)) := match i with | some i => lkN A.jn i | none => none
def Lw (w : World) : World → Prop := fun w' => w' = w
def Tt : World → Prop := fun _ => True
def wpc {P : Program} (C : Orc P) (n : Nat) (A : An) : Code → Fl → World → (Exit → Fl → World → Prop) → Prop
  | .skip, l, w, Q => Q .normal l w
  | .label _, l, w, Q => Q .normal l w
  | .ret, l, w, Q => Q .ret l w
  | .exit id, l, w, Q => Q (.exit id) l w
  | .region id ops d, l, w, Q =>
    match d with
    | false => wops C n ops.toList ops.toList l w fun l' w' => Q .normal l' w'
    | true =>
      match lkN A.dr id with
      | some (nT, od, m) =>
        match okDr ops nT od with
        | true =>
          match m with
          | 0 => ∀ w1, w1 = w.drew → wdr C n ops.toList (Lw w1) od l w1 fun l' w' => wops C n ops.toList (ops.toList.drop nT) l' w' fun l'' w'' => Q .normal l'' w''
          | 1 => ∀ w1, w1 = w.drew → ∃ S : World → Prop, S w1 ∧ wdr C n ops.toList S od l w1 fun l' w' => wops C n ops.toList (ops.toList.drop nT) l' w' fun l'' w'' => Q .normal l'' w''
          | 2 => ∀ w1, w1 = w.drew → wdr C n ops.toList Tt od l w1 fun l' w' => wops C n ops.toList (ops.toList.drop nT) l' w' fun l'' w'' => Q .normal l'' w''
          | k + 3 => match Nat.blt k ops.size with
            | true => ∀ w1, w1 = w.drew → ∃ S R : World → Prop, (∀ w', S w' → R w') ∧ S w1 ∧ wdk C n ops.toList S R k od false l w1 fun l' w' => wops C n ops.toList (ops.toList.drop nT) l' w' fun l'' w'' => Q .normal l'' w''
            | false => False
        | false => False
      | none => False
  | .seq a b, l, w, Q =>
    match jnOf A (fid b) with
    | some vk =>
      ∃ J : Cur (vk.map (·.2)) (World → Prop),
        (allL (vk.map (·.2)) [] fun xs => ∀ w', dec (fun _ => False) (vk.map (·.2)) J xs w' → wpc C n A b (zipl (vk.map (·.1)) xs (rmA (asg a) l)) w' Q) ∧
        wpc C n A a l w fun e l' w' =>
          match e with
          | .normal =>
            match lks l' (vk.map (·.1)) with
            | some ys => dec (fun _ => False) (vk.map (·.2)) J ys w'
            | none => False
          | e => Q e l' w'
    | none => wpc C n A a l w fun e l' w' => match e with | .normal => wpc C n A b l' w' Q | e => Q e l' w'
  | .cond c x y, l, w, Q => match ov l c with | some (.bool t) => brB t (wpc C n A x l w Q) (wpc C n A y l w Q) | _ => False
  | .block id b, l, w, Q => wpc C n A b l w fun e l' w' => match e with | .exit j => (match Nat.beq j id with | true => Q .normal l' w' | false => Q (.exit j) l' w') | e => Q e l' w'
  | .loop b, l, w, Q =>
    match fid b with
    | some i =>
      match lkN A.lv i with
      | some vk =>
        match lks l (vk.map (·.1)) with
        | some xs0 =>
          ∃ (I : Cur (vk.map (·.2)) (World → Prop)) (μ : Cur (vk.map (·.2)) (World → Nat)), dec (fun _ => False) (vk.map (·.2)) I xs0 w ∧
            allL (vk.map (·.2)) [] fun xs => ∀ w', dec (fun _ => False) (vk.map (·.2)) I xs w' →
              wpc C n A b (zipl (vk.map (·.1)) xs (rmA (asg b) l)) w' fun e l'' w'' =>
                match e with
                | .normal =>
                  match lks l'' (vk.map (·.1)) with
                  | some ys => dec (fun _ => False) (vk.map (·.2)) I ys w'' ∧ dec (fun _ => 0) (vk.map (·.2)) μ ys w'' < dec (fun _ => 0) (vk.map (·.2)) μ xs w'
                  | none => False
                | e => Q e l'' w''
        | none => False
      | none => False
    | none => False
  | _, _, _, _ => False

section
variable {P : Program}
theorem Fr.mono {A B : List Nat} {a b : Act} (h : Fr A a b) (hs : ∀ t, t ∈ A → t ∈ B) : Fr B a b := fun t ht => h t fun hA => ht (hs t hA)
theorem Has.loop {n : Nat} {a a' : Act} {l l'' : Fl} {A ts : List Nat} {ys : List Value} (ha : Has n a l) (h'' : Has n a' l'') (hy : lks l'' ts = some ys) (hf : Fr A a a') : Has n a' (zipl ts ys (rmA A l)) :=
  ⟨h''.size, h''.defers, fun t v ht => by
    rcases zipl_get ht with ⟨_, i, h1, h2⟩ | h
    · exact h''.get _ _ (lks_get hy i t v h1 h2)
    · obtain ⟨h1, h2⟩ := rmA_get h
      rw [hf t h1]; exact ha.get _ _ h2⟩
theorem wpc_sound (C : Orc P) (hm : P.follows .mixedOrders = true) {n : Nat} {A : An} : ∀ (c : Code) (l : Fl) (a : Act) (w : World) (Q : Exit → Fl → World → Prop) (R : Exit → Act → World → Prop), Has n a l → wpc C n A c l w Q →
    (∀ e l' a' w', Has n a' l' → Q e l' w' → Fr (asg c) a a' → R e a' w') → c.wp P R a w := by
  intro c
  induction c with
  | skip => intro l a w Q R ha h hR; exact wp_skip (hR _ _ _ _ ha h (Fr.refl _ _))
  | label i => intro l a w Q R ha h hR; exact wp_label (hR _ _ _ _ ha h (Fr.refl _ _))
  | ret => intro l a w Q R ha h hR; exact wp_ret (hR _ _ _ _ ha h (Fr.refl _ _))
  | exit i => intro l a w Q R ha h hR; exact wp_exit (hR _ _ _ _ ha h (Fr.refl _ _))
  | goto i => intro l a w Q R ha h hR; exact h.elim
  | rangeFunc => intro l a w Q R ha h hR; exact h.elim
  | scope => intro l a w Q R ha h hR; exact h.elim
  | refuse => intro l a w Q R ha h hR; exact h.elim
  | region id ops d =>
    intro l a w Q R ha h hR
    cases d with
    | false =>
      exact wp_region_list (wops_sound C ops.toList l a w ha h fun l' a' w' h1 h2 h3 => hR _ _ _ _ h1 h2 h3)
    | true =>
      simp only [wpc] at h
      split at h
      · rename_i nT od m _
        split at h
        · rename_i hok
          split at h
          · exact wpd_sound C (S := Lw w.drew) hm hok ha ⟨rfl, h _ rfl⟩ fun l' a' w' h1 h2 h3 => hR _ _ _ _ h1 h2 h3
          · obtain ⟨S, h⟩ := h _ rfl
            exact wpd_sound C (S := S) hm hok ha h fun l' a' w' h1 h2 h3 => hR _ _ _ _ h1 h2 h3
          · exact wpd_sound C (S := Tt) hm hok ha ⟨trivial, h _ rfl⟩ fun l' a' w' h1 h2 h3 => hR _ _ _ _ h1 h2 h3
          · split at h
            · rename_i hlt
              obtain ⟨S, R0, hSR, h⟩ := h _ rfl
              exact wdk_region C (S := S) (R := R0) hm hSR (by simpa [Nat.blt_eq] using hlt) hok ha h fun l' a' w' h1 h2 h3 => hR _ _ _ _ h1 h2 h3
            · exact h.elim
        · exact h.elim
      · exact h.elim
  | seq x y ihx ihy =>
    intro l a w Q R ha h hR
    have hx : ∀ t, t ∈ asg x → t ∈ asg (.seq x y) := fun t ht => List.mem_append_left _ ht
    have hy : ∀ t, t ∈ asg y → t ∈ asg (.seq x y) := fun t ht => List.mem_append_right _ ht
    simp only [wpc] at h
    split at h
    · rename_i vk _
      obtain ⟨J, hJ, h⟩ := h
      refine wp_seq (ihx l a w _ _ ha h fun e l' a' w' h1 h2 h3 => ?_)
      cases e with
      | normal =>
        simp only at h2
        split at h2
        · rename_i ys hys
          have hr := allL_dec (F := fun xs => ∀ w', dec (fun _ => False) (vk.map (·.2)) J xs w' → wpc C n A y (zipl (vk.map (·.1)) xs (rmA (asg x) l)) w' Q) _ [] J ys hJ h2
          have hr := hr w' h2
          simp only [List.nil_append] at hr
          exact ihy _ a' w' Q R (Has.loop ha h1 hys h3) hr fun e l'' a'' w'' k1 k2 k3 => hR _ _ _ _ k1 k2 ((h3.mono hx).trans (k3.mono hy))
        · exact h2.elim
      | _ => exact hR _ _ _ _ h1 h2 (h3.mono hx)
    · refine wp_seq (ihx l a w _ _ ha h fun e l' a' w' h1 h2 h3 => ?_)
      cases e with
      | normal => exact ihy l' a' w' Q R h1 h2 fun e l'' a'' w'' k1 k2 k3 => hR _ _ _ _ k1 k2 ((h3.mono hx).trans (k3.mono hy))
      | _ => exact hR _ _ _ _ h1 h2 (h3.mono hx)
  | cond c x y ihx ihy =>
    intro l a w Q R ha h hR
    simp only [wpc] at h
    split at h
    · rename_i t ht
      have hb := brB_iff.1 h
      refine wp_cond_split (t := t) (ha.ov ht) (fun e => ihx l a w Q R ha (hb.1 e) fun e l' a' w' h1 h2 h3 => hR _ _ _ _ h1 h2 (h3.mono fun t ht => List.mem_append_left _ ht))
        (fun e => ihy l a w Q R ha (hb.2 e) fun e l' a' w' h1 h2 h3 => hR _ _ _ _ h1 h2 (h3.mono fun t ht => List.mem_append_right _ ht))
    · exact h.elim
  | block id b ih =>
    intro l a w Q R ha h hR
    refine wp_block (ih l a w _ _ ha h fun e l' a' w' h1 h2 h3 => ?_)
    cases e with
    | exit j =>
      simp only [Exit.inBlock]
      simp only at h2
      split at h2
      · rename_i hj
        rw [if_pos (Nat.eq_of_beq_eq_true hj)]
        exact hR _ _ _ _ h1 h2 h3
      · rename_i hj
        rw [if_neg (fun e => by subst e; simp at hj)]
        exact hR _ _ _ _ h1 h2 h3
    | _ => exact hR _ _ _ _ h1 h2 h3
  | loop b ih =>
    intro l a w Q R ha h hR
    simp only [wpc] at h
    split at h
    · split at h
      · rename_i vk _
        split at h
        · rename_i xs0 hxs
          obtain ⟨I, μ, h0, hround⟩ := h
          refine wp_loop (fun a' w' => ∃ xs, Has n a' (zipl (vk.map (·.1)) xs (rmA (asg b) l)) ∧ (vk.map (·.1)).map (fun t => a'.tmps.getD t undef) = xs ∧ dec (fun _ => False) (vk.map (·.2)) I xs w' ∧ Fr (asg b) a a')
            (fun a' w' => dec (fun _ => 0) (vk.map (·.2)) μ ((vk.map (·.1)).map (fun t => a'.tmps.getD t undef)) w') ⟨xs0, Has.loop ha ha hxs (Fr.refl _ _), lks_tmps ha hxs, h0, Fr.refl _ _⟩ ?_
          rintro a' w' ⟨xs, h1, h2, h3, h4⟩
          have hr := allL_dec (F := fun xs => ∀ w', dec (fun _ => False) (vk.map (·.2)) I xs w' → _) _ [] I xs hround h3
          have hr := hr w' h3
          simp only [List.nil_append] at hr
          refine ih _ a' w' _ _ h1 hr fun e l'' a'' w'' k1 k2 k3 => ?_
          cases e with
          | normal =>
            simp only at k2
            split at k2
            · rename_i ys hys
              refine ⟨⟨ys, Has.loop ha k1 hys (h4.trans k3), lks_tmps k1 hys, k2.1, h4.trans k3⟩, ?_⟩
              rw [lks_tmps k1 hys, h2]
              exact k2.2
            · exact k2.elim
          | _ => exact hR _ _ _ _ k1 k2 (h4.trans k3)
        · exact h.elim
      · exact h.elim
    · exact h.elim

/-! ### Calls -/
def rsK (C : List (Nat × Ti)) (l : Fl) : List ResultVar → List Value → World → (List Value → Prop) → Prop
  | [], acc, _, F => F acc
  | .tmp t :: r, acc, w, F => match lkN l t with | some v => rsK C l r (acc ++ [v]) w F | none => False
  | .cell a t :: r, acc, w, F =>
    match lkN C t, lkN l a with
    | some i, some (.pointer (some p)) => ldV (i.agg, i.ks) w p fun v => rsK C l r (acc ++ [v]) w F
    | _, _ => False
def retQ {P : Program} (C : Orc P) (rs : List ResultVar) (K : Value → World → Prop) : Exit → Fl → World → Prop := fun e l w =>
  match e with
  | .normal => rsK C.ts l rs [] w fun vs => match vs with | [v] => K v w | vs => K (.tuple vs.toArray) w
  | .ret => rsK C.ts l rs [] w fun vs => match vs with | [v] => K v w | vs => K (.tuple vs.toArray) w
  | _ => False
def argl : Nat → List Value → Fl
  | _, [] => []
  | i, v :: r => (i, v) :: argl (i + 1) r
theorem argl_get : ∀ {vs : List Value} {i t : Nat} {v : Value}, lkN (argl i vs) t = some v → ∃ k, t = i + k ∧ vs[k]? = some v
  | [], i, t, v, h => by simp [argl, lkN] at h
  | u :: r, i, t, v, h => by
    unfold argl at h
    rw [lkN_cons] at h
    by_cases e : i = t
    · rw [if_pos e] at h; injection h with h; subst h e; exact ⟨0, rfl, rfl⟩
    · rw [if_neg e] at h
      obtain ⟨k, h1, h2⟩ := argl_get h
      exact ⟨k + 1, by omega, by simpa using h2⟩
theorem mapM_list {α β : Type} (f : α → Sem β) : ∀ (xs : List α), List.mapM f xs = (match xs with | [] => pure [] | x :: r => do let y ← f x; let ys ← List.mapM f r; pure (y :: ys))
  | [] => rfl
  | x :: r => by rw [List.mapM_cons]
theorem rsK_run (C : Orc P) {n : Nat} {a : Act} {l : Fl} (ha : Has n a l) {w : World} {F : List Value → Prop} : ∀ (rs : List ResultVar) (acc : List Value), rsK C.ts l rs acc w F →
    ∃ vs, (List.mapM (fun (r : ResultVar) => (match r with | .tmp t => pure (a.tmps.getD t undef) | .cell b t => do loadVar t (← asAddr (a.tmps.getD b undef)) : Sem Value)) rs).run P w = .ok vs w ∧ F (acc ++ vs)
  | [], acc, h => ⟨[], by simp [Sem.run_pure], by simpa [rsK] using h⟩
  | .tmp t :: r, acc, h => by
    unfold rsK at h
    split at h
    · rename_i v hv
      obtain ⟨vs, h1, h2⟩ := rsK_run C ha r _ h
      have hg := ha.get _ _ hv
      refine ⟨v :: vs, ?_, by simpa using h2⟩
      rw [List.mapM_cons]
      simp only [Sem.run_bind, Sem.run_pure, Result.andThen_ok, h1]
      simp [hg]
    · exact h.elim
  | .cell b t :: r, acc, h => by
    unfold rsK at h
    split at h
    · rename_i i p hi hp
      obtain ⟨v, h3, h4⟩ := ldV_run (C.tok _ _ hi) h
      obtain ⟨vs, h1, h2⟩ := rsK_run C ha r _ h4
      have hg := ha.get _ _ hp
      refine ⟨v :: vs, ?_, by simpa using h2⟩
      have hg2 : a.tmps.getD b undef = .pointer (some p) := by simp [hg]
      rw [List.mapM_cons]
      have hA : (asAddr (.pointer (some p))).run P w = .ok p w := by simp [asAddr, Sem.run_pure]
      simp only [hg2, hA, Sem.run_bind, Sem.run_pure, Result.andThen_ok, h3, h1]
    · exact h.elim
theorem lift_calls (C : Orc P) (hm : P.follows .mixedOrders = true) {A : An} {f : FuncId} {fn : Func} {c : Code} {args : List Value} {w : World} {K : Value → World → Prop} (hf : P.funcs[f]? = some fn) (hb : fn.body = some c)
    (hsz : Nat.ble args.length fn.ntmps = true) (h : wpc C fn.ntmps A c (argl 0 args) w (retQ C fn.results.toList K)) : Calls P f args.toArray w fun e w' => ∃ v, e = .returned v ∧ K v w' := by
  refine calls_of_wp hf hb ?_
  have hsz := Nat.le_of_ble_eq_true hsz
  have ha : Has fn.ntmps { tmps := args.toArray ++ Array.replicate (fn.ntmps - args.toArray.size) undef, defers := [] } (argl 0 args) := by
    refine ⟨by simp; omega, rfl, fun t v ht => ?_⟩
    obtain ⟨k, rfl, h2⟩ := argl_get ht
    have hk : k < args.length := (List.getElem?_eq_some_iff.1 h2).1
    simp only [Nat.zero_add]
    rw [Array.getElem?_append_left (by simpa using hk)]
    simpa using h2
  have fin : ∀ l' a' w', Has fn.ntmps a' l' → (rsK C.ts l' fn.results.toList [] w' fun vs => match vs with | [v] => K v w' | vs => K (.tuple vs.toArray) w') →
      a'.defers = [] ∧ ∃ v, (results fn a'.tmps).run P w' = .ok v w' ∧ ∃ v', Ending.returned v = .returned v' ∧ K v' w' := by
    intro l' a' w' h1 h2
    obtain ⟨vs, h3, h4⟩ := rsK_run C h1 _ _ h2
    simp only [List.nil_append] at h4
    have h5 : (results fn a'.tmps).run P w' = .ok (if h : vs.toArray.size = 1 then vs.toArray[0] else .tuple vs.toArray) w' := by
      unfold results
      rw [Array.mapM_eq_mapM_toList]
      simp only [Sem.run_bind, map_eq_pure_bind, Sem.run_pure]
      exact congrArg (fun r : Result (List Value) => (r.andThen (fun a w' => Result.ok a.toArray w')).andThen (fun a w' => Result.ok (if h : a.size = 1 then a[0] else Value.tuple a) w')) h3
    refine ⟨h1.defers, _, h5, _, rfl, ?_⟩
    match vs, h4 with
    | [], h4 => exact h4
    | [v], h4 => exact h4
    | x :: y :: r, h4 => simpa using h4
  refine wpc_sound C hm c (argl 0 args) _ w _ _ ha h fun e l' a' w' h1 h2 _ => ?_
  cases e with
  | normal => exact fin l' a' w' h1 h2
  | ret => exact fin l' a' w' h1 h2
  | _ => exact h2.elim
end

/-! ### Words that the printed texts use -/
@[reducible] def wr (x : Int) : Int := IntKind.wrap .i64 x
@[reducible] def bs (l : List UInt8) : ByteArray := ⟨l.toArray⟩
def bodyOf (fn : Func) : Code := match fn.body with | some c => c | none => .skip
def AllTi (P : Program) : List (Nat × Ti) → Prop
  | [] => True
  | (t, i) :: r => TiOk P t i ∧ AllTi P r
def AllSg (P : Program) : List (Nat × List (Bool × List Kd)) → Prop
  | [] => True
  | (f, _) :: r => (∀ args w, (callFunc f args).run P w = .ok (.enter f args) w) ∧ AllSg P r
theorem allTi_of {P : Program} : ∀ {ts : List (Nat × Ti)}, AllTi P ts → ∀ t i, lkN ts t = some i → TiOk P t i
  | [], _, t, i, h => by simp [lkN] at h
  | (k, j) :: r, ha, t, i, h => by
    rw [lkN_cons] at h
    by_cases e : k = t
    · rw [if_pos e] at h; injection h with h; subst h e; exact ha.1
    · rw [if_neg e] at h; exact allTi_of ha.2 t i h
theorem allSg_of {P : Program} : ∀ {ts : List (Nat × List (Bool × List Kd))}, AllSg P ts → ∀ f r, lkN ts f = some r → ∀ args w, (callFunc f args).run P w = .ok (.enter f args) w
  | [], _, t, i, h => by simp [lkN] at h
  | (k, j) :: r, ha, t, i, h => by
    rw [lkN_cons] at h
    by_cases e : k = t
    · rw [if_pos e] at h; subst e; exact ha.1
    · rw [if_neg e] at h; exact allSg_of ha.2 t i h
end Go.Proofs.Ytgffaimgnmfifaa
