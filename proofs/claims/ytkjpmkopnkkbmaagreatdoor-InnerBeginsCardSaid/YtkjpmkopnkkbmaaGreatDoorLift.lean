/- The lift: a function's code, read without its frame. 'wpc' says, by recursion on the code, what is enough for a run; frames are lists of what the slots hold. Over any program. -/
import Derived.Test.YtkjpmkopnkkbmaaGreatDoorBase
namespace Go.Proofs.YtkjpmkopnkkbmaaGreatDoor
open Go.RowKit

/-! ### Values by kinds -/
inductive Kd where
  | int (k : IntKind) | bool | str | ptr | sl | mp | val | blk
structure Sl where
  ptr : Option Addr
  len : Nat
  cap : Nat
@[reducible] def Sl.val (s : Sl) : Value := .slice s.ptr s.len s.cap

/-- Some values of these kinds. -/
def exL : List Kd → List Value → (List Value → Prop) → Prop
  | [], acc, F => F acc
  | .int k :: r, acc, F => ∃ n : Int, exL r (acc ++ [.int k n]) F
  | .bool :: r, acc, F => ∃ b : Bool, exL r (acc ++ [.bool b]) F
  | .str :: r, acc, F => ∃ s : ByteArray, exL r (acc ++ [.string s]) F
  | .ptr :: r, acc, F => ∃ p : Option Addr, exL r (acc ++ [.pointer p]) F
  | .sl :: r, acc, F => ∃ s : Sl, exL r (acc ++ [s.val]) F
  | .mp :: r, acc, F => ∃ m : Option Nat, exL r (acc ++ [.map m]) F
  | .val :: r, acc, F => ∃ v : Value, exL r (acc ++ [v]) F
  | .blk :: r, acc, F => ∃ b : Nat, exL r (acc ++ [.pointer (some ⟨b, 0, none⟩)]) F
theorem exL_of {F : List Value → Prop} : ∀ {ks acc}, exL ks acc F → ∃ vs, F vs
  | [], acc, h => ⟨acc, h⟩
  | .int _ :: _, _, ⟨_, h⟩ => exL_of h
  | .bool :: _, _, ⟨_, h⟩ => exL_of h
  | .str :: _, _, ⟨_, h⟩ => exL_of h
  | .ptr :: _, _, ⟨_, h⟩ => exL_of h
  | .sl :: _, _, ⟨_, h⟩ => exL_of h
  | .mp :: _, _, ⟨_, h⟩ => exL_of h
  | .val :: _, _, ⟨_, h⟩ => exL_of h
  | .blk :: _, _, ⟨_, h⟩ => exL_of h
/-- A type: is it a struct or an array; the kinds of its cells. -/
def exV (i : Bool × List Kd) (F : Value → Prop) : Prop :=
  match i with
  | (true, ks) => exL ks [] fun vs => F (.agg vs.toArray)
  | (false, ks) => exL ks [] fun vs => match vs with | [v] => F v | _ => False
theorem exV_of {i : Bool × List Kd} {F : Value → Prop} (h : exV i F) : ∃ v, F v := by
  obtain ⟨b, ks⟩ := i
  cases b
  · obtain ⟨vs, h⟩ := exL_of h
    match vs, h with
    | [v], h => exact ⟨v, h⟩
  · obtain ⟨vs, h⟩ := exL_of h; exact ⟨_, h⟩
def exT : List (Bool × List Kd) → List Value → (List Value → Prop) → Prop
  | [], acc, F => F acc
  | i :: r, acc, F => exV i fun v => exT r (acc ++ [v]) F
theorem exT_of {F : List Value → Prop} : ∀ {is acc}, exT is acc F → ∃ vs, F vs
  | [], acc, h => ⟨acc, h⟩
  | _ :: _, _, h => by obtain ⟨_, h⟩ := exV_of h; exact exT_of h
/-- What a function hands back. -/
def exR (r : List (Bool × List Kd)) (F : Value → Prop) : Prop :=
  match r with
  | [] => F (.tuple #[])
  | [i] => exV i F
  | is => exT is [] fun vs => F (.tuple vs.toArray)
theorem exR_of {r : List (Bool × List Kd)} {F : Value → Prop} (h : exR r F) : ∃ v, F v := by
  match r, h with
  | [], h => exact ⟨_, h⟩
  | [i], h => exact exV_of h
  | _ :: _ :: _, h => obtain ⟨_, h⟩ := exT_of h; exact ⟨_, h⟩

/-! ### What is known of the program -/
inductive Tk where
  | int (k : IntKind) | bool | str | ptr | sl (e : TypeId) | st (fs : List (Nat × TypeId)) | arr (n : Nat) (e : TypeId) | other
def Tk.fits : Tk → TypeDesc → Prop
  | .int k, d => d = .int k
  | .bool, d => d = .bool
  | .str, d => d = .string
  | .ptr, d => ∃ e, d = .pointer e
  | .sl e, d => d = .slice e
  | .st fs, d => ∃ fields : Array Field, d = .struct fields ∧ fields.toList.map (fun f => (f.offset, f.type)) = fs
  | .arr n e, d => d = .array n e
  | .other, _ => True
structure Ti where
  tk : Tk
  agg : Bool
  ks : List Kd
structure TiOk (P : Program) (t : TypeId) (i : Ti) : Prop where
  und : ∃ d, (∀ w, (underlying t).run P w = .ok d w) ∧ i.tk.fits d
  agg : ∀ w, (isAgg t).run P w = .ok i.agg w
  size : ∀ w, (sizeOf t).run P w = .ok i.ks.length w

def lkN {α : Type} : List (Nat × α) → Nat → Option α
  | [], _ => none
  | (t, v) :: r, k => match Nat.beq t k with | true => some v | false => lkN r k
structure Orc (P : Program) where
  ts : List (Nat × Ti)
  tok : ∀ t i, lkN ts t = some i → TiOk P t i
  sg : List (Nat × List (Bool × List Kd))
  sok : ∀ f r, lkN sg f = some r → ∀ args w, (callFunc f args).run P w = .ok (.enter f args) w

/-! ### Frames as lists -/
abbrev Fl := List (Nat × Value)
def ov (l : Fl) : Operand → Option Value
  | .tmp t => lkN l t
  | .const v => some v
  | .global g => some (.pointer (some ⟨g, 0, none⟩))
  | .func f => some (.func (.func f) #[] #[])
structure Has (n : Nat) (a : Act) (l : Fl) : Prop where
  size : a.tmps.size = n
  defers : a.defers = []
  get : ∀ t v, lkN l t = some v → a.tmps[t]? = some v
theorem Has.ov {n : Nat} {a : Act} {l : Fl} (h : Has n a l) {x : Operand} {v : Value} (hx : ov l x = some v) : a.eval x = v := by
  cases x with
  | tmp t => have := h.get t v hx; simp [Act.eval, this]
  | const u => simpa [Go.Proofs.YtkjpmkopnkkbmaaGreatDoor.ov, Act.eval] using hx
  | global g => simpa [Go.Proofs.YtkjpmkopnkkbmaaGreatDoor.ov, Act.eval] using hx
  | func f => simpa [Go.Proofs.YtkjpmkopnkkbmaaGreatDoor.ov, Act.eval] using hx
theorem lkN_cons {α : Type} (t k : Nat) (v : α) (l : List (Nat × α)) : lkN ((t, v) :: l) k = if t = k then some v else lkN l k := by
  simp only [lkN]
  by_cases h : t = k
  · subst h; simp
  · rw [if_neg h]
    cases hb : Nat.beq t k with
    | true => exact absurd (Nat.eq_of_beq_eq_true hb) h
    | false => rfl
theorem Has.put {n : Nat} {a : Act} {l : Fl} (h : Has n a l) {d : Nat} (hd : d < n) (v : Value) : Has n (a.put (some d) v) ((d, v) :: l) := by
  refine ⟨by simpa [Act.put] using h.size, by simpa [Act.put] using h.defers, fun t u ht => ?_⟩
  rw [lkN_cons] at ht
  by_cases e : d = t
  · subst e
    rw [if_pos rfl] at ht
    injection ht with ht
    subst ht
    have : d < a.tmps.size := by rw [h.size]; exact hd
    simp [Act.put, this]
  · rw [if_neg e] at ht
    have := h.get t u ht
    simpa [Act.put, Array.getElem?_setIfInBounds_ne e] using this
/-- A slot that holds what it is known to hold, told once more. -/
theorem Has.know {n : Nat} {a : Act} {l : Fl} (h : Has n a l) {t : Nat} {v : Value} (hv : lkN l t = some v) : Has n a ((t, v) :: l) :=
  ⟨h.size, h.defers, fun k u hk => by
    rw [lkN_cons] at hk
    by_cases e : t = k
    · subst e; rw [if_pos rfl] at hk; injection hk with hk; subst hk; exact h.get _ _ hv
    · rw [if_neg e] at hk; exact h.get _ _ hk⟩

/-! ### A test -/
def brB (b : Bool) (A B : Prop) : Prop := match b with | true => A | false => B
theorem brB_iff {b : Bool} {A B : Prop} : brB b A B ↔ (b = true → A) ∧ (b = false → B) := by cases b <;> simp [brB]
theorem brB_t {A B : Prop} (h : A) : brB true A B := h
theorem brB_f {A B : Prop} (h : B) : brB false A B := h
theorem brB_of {b : Bool} {A B : Prop} (h : b = true → A) (k : b = false → B) : brB b A B := brB_iff.2 ⟨h, k⟩

/-! ### An operation -/
def un (v : Option Value) (F : Value → Prop) : Prop := match v with | some v => F v | none => False
def kq : IntKind → IntKind → Bool
  | .i8, .i8 | .i16, .i16 | .i32, .i32 | .i64, .i64 | .u8, .u8 | .u16, .u16 | .u32, .u32 | .u64, .u64 => true
  | _, _ => false
theorem kq_eq {a b : IntKind} (h : kq a b = true) : a = b := by cases a <;> cases b <;> simp_all [kq]
def iand (k : IntKind) (a b : Int) : Int := k.wrap (BitVec.ofInt k.bits a &&& BitVec.ofInt k.bits b).toNat
def ior (k : IntKind) (a b : Int) : Int := k.wrap (BitVec.ofInt k.bits a ||| BitVec.ofInt k.bits b).toNat
def ixor (k : IntKind) (a b : Int) : Int := k.wrap (BitVec.ofInt k.bits a ^^^ BitVec.ofInt k.bits b).toNat
def ishl (k : IntKind) (a b : Int) : Int := k.wrap (a * 2 ^ (min b.toNat k.bits))
def ishr (k : IntKind) (a b : Int) : Int := a.fdiv (2 ^ (min b.toNat k.bits))
def imin (x y : Int) : Int := if y < x then y else x
def imax (x y : Int) : Int := if y > x then y else x
def binI (op : BinOp) (k : IntKind) (a b : Int) (F : Value → Prop) : Prop :=
  match op with
  | .add => F (.int k (k.wrap (a + b)))
  | .sub => F (.int k (k.wrap (a - b)))
  | .mul => F (.int k (k.wrap (a * b)))
  | .quo => b ≠ 0 ∧ F (.int k (k.wrap (a.tdiv b)))
  | .rem => b ≠ 0 ∧ F (.int k (a.tmod b))
  | .and => F (.int k (iand k a b))
  | .or => F (.int k (ior k a b))
  | .xor => F (.int k (ixor k a b))
  | .eql => F (.bool (a == b))
  | .neq => F (.bool (a != b))
  | .lss => F (.bool (decide (a < b)))
  | .leq => F (.bool (decide (a ≤ b)))
  | .gtr => F (.bool (decide (a > b)))
  | .geq => F (.bool (decide (a ≥ b)))
  | _ => False
def shI (op : BinOp) (k : IntKind) (a b : Int) (F : Value → Prop) : Prop :=
  match op with
  | .shl => 0 ≤ b ∧ F (.int k (ishl k a b))
  | .shr => 0 ≤ b ∧ F (.int k (ishr k a b))
  | _ => False
def binS (op : BinOp) (a b : ByteArray) (F : Value → Prop) : Prop :=
  match op with
  | .add => (a.size : Int) + b.size ≤ 9223372036854775807 ∧ F (.string (a ++ b))
  | .eql => F (.bool (a.toList == b.toList))
  | .neq => F (.bool (!(a.toList == b.toList)))
  | _ => False
def binN (op : BinOp) (b : Bool) (F : Value → Prop) : Prop :=
  match op with
  | .eql => F (.bool b)
  | .neq => F (.bool (!b))
  | _ => False
def bin (C : List (Nat × Ti)) (op : BinOp) (t : TypeId) (x y : Value) (F : Value → Prop) : Prop :=
  match x, y with
  | .int k a, .int k' b =>
    match op with
    | .shl => shI op k a b F
    | .shr => shI op k a b F
    | _ => match kq k k' with | true => binI op k a b F | false => False
  | .string a, .string b => binS op a b F
  | .bool a, .bool b => match lkN C t with | some { tk := .bool, .. } => binN op (a == b) F | _ => False
  | .pointer p, .pointer none => match lkN C t with | some { tk := .ptr, .. } => binN op p.isNone F | _ => False
  | .slice p _ _, .slice none _ _ => match lkN C t with | some { tk := .sl _, .. } => binN op p.isNone F | _ => False
  | _, _ => False
/-- What a run of a part answers. -/
def evK {α : Type} (r : Result α) (F : α → World → Prop) : Prop := match r with | .ok v w => F v w | .halt _ _ => False
/-- What a run answers, whose kinds are known. -/
def rawK (r : Result Value) (i : Bool × List Kd) (F : Value → World → Prop) : Prop := exV i fun v => ∃ w', r = .ok v w' ∧ F v w'
def cellsAt (w : World) (p : Addr) : Nat → List Value → Prop → Prop
  | _, [], G => G
  | i, v :: r, G => w.cell? (p.add i) = some v ∧ cellsAt w p (i + 1) r G
def ldV (i : Bool × List Kd) (w : World) (p : Addr) (F : Value → Prop) : Prop :=
  match i with
  | (true, ks) =>
    match Nat.blt 24 ks.length with
    | true => ∃ cs : List Value, cs.length = ks.length ∧ (∀ (i : Nat) (u : Value), cs[i]? = some u → w.cell? (p.add i) = some u) ∧ F (.agg cs.toArray)
    | false => exL ks [] fun vs => match Nat.beq vs.length ks.length with | true => cellsAt w p 0 vs (F (.agg vs.toArray)) | false => False
  | (false, ks) => exL ks [] fun vs => match vs with | [v] => w.cell? p = some v ∧ F v | _ => False
def ocK (v : Value) (G : Prop) : Prop := match v with | .agg _ => False | .tuple _ => False | _ => G
/-- n cells from p on may be written. -/
def wrOk (w : World) (p : Addr) (n : Nat) : Prop := ∀ i, i < n → (∃ u, w.cell? (p.add i) = some u) ∧ w.frozen? (p.add i) = false
/-- The world with these cells written. -/
def stW (w : World) (p : Addr) : Nat → List Value → World
  | _, [] => w
  | i, v :: r => stW (w.setCell (p.add i) v) p (i + 1) r
def ocs : List Value → Prop → Prop
  | [], G => G
  | v :: r, G => ocK v (ocs r G)
def stAt (p : Addr) (vs : List Value) (w : World) (G : World → Prop) : Prop := ocs vs (wrOk w p vs.length ∧ ∀ w1, w1 = stW w p 0 vs → G w1)
def vcells : Value → List Value
  | .agg cs => cs.toList
  | v => [v]
def Sl.sub (o : Option Addr) (cap : Nat) (lo hi : Nat) (size : Nat) : Sl := ⟨if cap = lo then o else o.map (·.add (lo * size)), hi - lo, cap - lo⟩
def oint (l : Fl) : Option Operand → Option (Option Int)
  | none => some none
  | some x => match ov l x with | some (.int _ n) => some (some n) | _ => none
def ovs (l : Fl) : List Operand → List Value → (List Value → Prop) → Prop
  | [], acc, F => F acc
  | x :: r, acc, F => match ov l x with | some v => ovs l r (acc ++ [v]) F | none => False
/-- The frame as a function, for operations that are run as they stand. -/
def sg (l : Fl) (x : Operand) : Value := (ov l x).getD undef
def allIn (l : Fl) : List Operand → Bool
  | [] => true
  | x :: r => match ov l x with | some _ => allIn l r | none => false

def nn (p : Option Addr) (G : Addr → Prop) : Prop := match p with | some a => G a | none => False
def sb (s : ByteArray) (j : Int) : Int := ((s.data[j.toNat]?).getD 0).toNat
def slK (o : Option Addr) (n c : Nat) (lo hi : Option Int) (size : Nat) (G : Sl → Prop) : Prop :=
  match lo, hi with
  | none, none => ∀ s' : Sl, s' = Sl.sub o c 0 n size → G s'
  | some l, none => 0 ≤ l ∧ l ≤ n ∧ ∀ s' : Sl, s' = Sl.sub o c l.toNat n size → G s'
  | none, some h => 0 ≤ h ∧ h ≤ c ∧ ∀ s' : Sl, s' = Sl.sub o c 0 h.toNat size → G s'
  | some l, some h => 0 ≤ l ∧ l ≤ h ∧ h ≤ c ∧ ∀ s' : Sl, s' = Sl.sub o c l.toNat h.toNat size → G s'
def slK3 (o : Option Addr) (c : Nat) (lo : Option Int) (h m : Int) (size : Nat) (G : Sl → Prop) : Prop :=
  match lo with
  | none => 0 ≤ h ∧ h ≤ m ∧ m ≤ c ∧ ∀ s' : Sl, s' = Sl.sub o m.toNat 0 h.toNat size → G s'
  | some l => 0 ≤ l ∧ l ≤ h ∧ h ≤ m ∧ m ≤ c ∧ ∀ s' : Sl, s' = Sl.sub o m.toNat l.toNat h.toNat size → G s'
def stK (s : ByteArray) (lo hi : Option Int) (G : ByteArray → Prop) : Prop :=
  match lo, hi with
  | none, none => G (s.extract 0 s.size)
  | some l, none => 0 ≤ l ∧ l ≤ s.size ∧ G (s.extract l.toNat s.size)
  | none, some h => 0 ≤ h ∧ h ≤ s.size ∧ G (s.extract 0 h.toNat)
  | some l, some h => 0 ≤ l ∧ l ≤ h ∧ h ≤ s.size ∧ G (s.extract l.toNat h.toNat)
def Does (P : Program) (r : Result Next) (F : Value → World → Prop) : Prop :=
  match r with
  | .ok (.value v) w' => F v w'
  | .ok .skip w' => F undef w'
  | .ok (.enter f args) w' => Calls P f args w' fun e w'' => ∃ v, e = .returned v ∧ F v w''
  | _ => False
/-- A new block. -/
def newK (r : Result Next) (F : Value → World → Prop) : Prop :=
  match r with
  | .ok (.value (.pointer (some p))) w1 => ∀ (b : Nat) (w2 : World), b = p.block → w2 = w1 → F (.pointer (some ⟨b, p.off, p.spot⟩)) w2
  | .ok (.value (.slice (some p) n c)) w1 => ∀ (b : Nat) (w2 : World), b = p.block → w2 = w1 → F (.slice (some ⟨b, p.off, p.spot⟩) n c) w2
  | _ => False
theorem newK_does {P : Program} {r : Result Next} {F : Value → World → Prop} (h : newK r F) : Does P r F := by
  unfold newK at h
  split at h
  · exact h _ _ rfl rfl
  · exact h _ _ rfl rfl
  · exact h.elim
def blt {P : Program} (C : Orc P) (b : Builtin) (ts : Array TypeId) (ty : TypeId) (w : World) (vs : List Value) (F : Value → World → Prop) : Prop :=
  match b, vs with
  | .len, [.slice _ n _] => match ts[0]? with | some t => (match lkN C.ts t with | some { tk := .sl _, .. } => F (.int .i64 n) w | _ => False) | none => False
  | .len, [.string s] => match ts[0]? with | some t => (match lkN C.ts t with | some { tk := .str, .. } => F (.int .i64 s.size) w | _ => False) | none => False
  | .min, [.int k x, .int _ y] => F (.int k (imin x y)) w
  | .max, [.int k x, .int _ y] => F (.int k (imax x y)) w
  | .append, vs => rawK ((Builtin.append_ ts ty vs.toArray).run P w) (false, [.sl]) F
  | .copy, vs => rawK ((Builtin.copy_ ts ty vs.toArray).run P w) (false, [.int .i64]) F
  | .len, vs => rawK ((Builtin.len_ ts ty vs.toArray).run P w) (false, [.int .i64]) F
  | .unsafeString, vs => rawK ((Builtin.unsafeString_ ts ty vs.toArray).run P w) (false, [.str]) F
  | .delete, vs => ∃ v w', (Builtin.delete_ ts ty vs.toArray).run P w = .ok v w' ∧ F v w'
  | .clear, vs => ∃ v w', (Builtin.clear_ ts ty vs.toArray).run P w = .ok v w' ∧ F v w'
  | _, _ => False
/-- What is enough for an operation, in a frame that holds l. -/
def wo {P : Program} (C : Orc P) (l : Fl) (o : Oper) (w : World) (F : Value → World → Prop) : Prop :=
  match o.op with
  | .move x => un (ov l x) fun v => F v w
  | .assign x => un (ov l x) fun v => F v w
  | .pick c a b =>
    match ov l c with
    | some (.bool t) => brB t (un (ov l a) fun v => F v w) (un (ov l b) fun v => F v w)
    | _ => False
  | .load t a =>
    match lkN C.ts t, ov l a with
    | some i, some (.pointer (some p)) => ldV (i.agg, i.ks) w p fun v => F v w
    | _, _ => False
  | .store t a x =>
    match lkN C.ts t, ov l a, ov l x with
    | some i, some (.pointer (some p)), some v =>
      match Nat.beq (vcells v).length i.ks.length with | true => stAt p (vcells v) w (fun w' => F undef w') | false => False
    | _, _, _ => False
  | .nilCheck x =>
    match ov l x with
    | some (.pointer p) => nn p fun a => F (.pointer (some a)) w
    | _ => False
  | .binOp op t x y _ =>
    match ov l y with
    | some .nilIface =>
      match ov l x with
      | some a => rawK ((do eqGuard op t x y a .nilIface; binOp op t a .nilIface : Sem Value).run P w) (false, [.bool]) F
      | none => False
    | _ =>
    match ov l x, ov l y with
    | some (.agg a), some (.agg b) => rawK ((do eqGuard op t x y (.agg a) (.agg b); binOp op t (.agg a) (.agg b) : Sem Value).run P w) (false, [.bool]) F
    | some a, some b => bin C.ts op t a b fun v => F v w
    | _, _ => False
  | .unOp op _ x =>
    match op, ov l x with
    | .not, some (.bool b) => F (.bool (!b)) w
    | .neg, some (.int k n) => F (.int k (k.wrap (0 - n))) w
    | .xor, some (.int k n) => F (.int k (ixor k (if k.signed then -1 else k.max) n)) w
    | _, _ => False
  | .extract x i => match ov l x with | some (.tuple vs) => un vs[i]? fun v => F v w | _ => False
  | .fieldAddr t x f =>
    match lkN C.ts t, ov l x with
    | some { tk := .st fs, .. }, some (.pointer (some p)) =>
      match fs[f]? with
      | some (off, t') => match lkN C.ts t' with | some { ks := _ :: _, .. } => F (.pointer (some (p.add off))) w | _ => False
      | none => False
    | _, _ => False
  | .indexAddr t x i =>
    match lkN C.ts t, ov l x, ov l i with
    | some { tk := .sl e, .. }, some (.slice o n _), some (.int _ j) =>
      match lkN C.ts e with | some ie => ∃ p, o = some p ∧ 0 ≤ j ∧ j < n ∧ F (.pointer (some (p.add (j.toNat * ie.ks.length)))) w | none => False
    | some { tk := .arr n e, .. }, some (.pointer (some p)), some (.int _ j) =>
      match lkN C.ts e with | some ie => 0 ≤ j ∧ j < n ∧ F (.pointer (some (p.add (j.toNat * ie.ks.length)))) w | none => False
    | _, _, _ => False
  | .index t x i =>
    match lkN C.ts t, ov l x, ov l i with
    | some { tk := .str, .. }, some (.string s), some (.int _ j) => 0 ≤ j ∧ j < s.size ∧ F (.int .u8 (sb s j)) w
    | some { tk := .arr _ e, .. }, some v, some (.int k j) => match lkN C.ts e with | some ie => rawK ((Instr.index t v (.int k j)).run P w) (ie.agg, ie.ks) F | none => False
    | _, _, _ => False
  | .slice t x lo hi none =>
    match lkN C.ts t, ov l x, oint l lo, oint l hi with
    | some { tk := .sl e, .. }, some (.slice o n c), some lo', some hi' => match lkN C.ts e with | some ie => slK o n c lo' hi' ie.ks.length fun s => F s.val w | none => False
    | some { tk := .str, .. }, some (.string s), some lo', some hi' => stK s lo' hi' fun s' => F (.string s') w
    | _, _, _, _ => False
  | .slice t x lo (some hi) (some mx) =>
    match lkN C.ts t, ov l x, oint l lo, ov l hi, ov l mx with
    | some { tk := .sl e, .. }, some (.slice o _ c), some lo', some (.int _ h), some (.int _ m) => match lkN C.ts e with | some ie => slK3 o c lo' h m ie.ks.length fun s => F s.val w | none => False
    | _, _, _, _, _ => False
  | .convert s d x =>
    match ov l x, lkN C.ts d, lkN C.ts s with
    | some (.int _ n), some { tk := .int k, .. }, some _ => F (.int k (k.wrap n)) w
    | some v, some i, some _ => rawK ((convert s d v).run P w) (i.agg, i.ks) F
    | _, _, _ => False
  | .makeSlice t a b => match ov l a, ov l b with | some x, some y => rawK ((Instr.makeSlice t x y).run P w) (false, [.sl]) F | _, _ => False
  | .lookup t x i ok =>
    match ov l x, ov l i, lkN C.ts o.type with
    | some a, some b, some ti => rawK ((Instr.lookup t a b ok).run P w) (ti.agg, ti.ks) F
    | some a, some b, none => match ok with | true => ∃ (v : Value) (c : Bool) (w' : World), (Instr.lookup t a b ok).run P w = .ok (.tuple #[v, .bool c]) w' ∧ F (.tuple #[v, .bool c]) w' | false => False
    | _, _, _ => False
  | .makeMap _ none => ∀ (b : Nat) (w1 : World), b = w.heap.size → w1 = World.alloc w (.map #[] 0) → F (.map (some b)) w1
  | .makeMap _ (some _) => False
  | .mapUpdate t m k x =>
    match ov l m, ov l k, ov l x with
    | some a, some b, some c => ∃ w', (Instr.mapUpdate t a b c).run P w = .ok () w' ∧ F undef w'
    | _, _, _ => False
  | .call c =>
    match c.callee with
    | .value (.func g) =>
      match lkN C.sg g with
      | some r => ovs l c.args.toList [] fun vs => Calls P g vs.toArray w fun e w' => exR r fun v => e = .returned v ∧ F v w'
      | none => False
    | .value f =>
      match ov l f with
      | some v => ∃ (g : FuncId) (fs cs : Array Value), v = .func (.func g) fs cs ∧ (∀ args w, (callFunc g args).run P w = .ok (.enter g args) w) ∧
          ovs l c.args.toList fs.toList fun vs => Calls P g (vs ++ cs.toList).toArray w fun e w' => (match lkN C.ts o.type with | some i => exV (i.agg, i.ks) fun v => e = .returned v ∧ F v w' | none => e = .returned (.tuple #[]) ∧ F (.tuple #[]) w')
      | none => False
    | .builtin b => ovs l c.args.toList [] fun vs => blt C b c.argTypes o.type w vs F
    | .invoke .. => False
  | .select .. => False
  | .box .. => match allIn l o.op.operands.toList with | true => newK ((execOp (sg l) o).run P w) F | false => False
  | .alloc _ => newK ((execOp (sg l) o).run P w) F
  | .buildSlice .. => match allIn l o.op.operands.toList with | true => newK ((execOp (sg l) o).run P w) F | false => False
  | _ => match allIn l o.op.operands.toList with | true => Does P ((execOp (sg l) o).run P w) F | false => False

/-! ### That it is enough -/
section
variable {P : Program}
theorem ovs_of {ρ : Operand → Value} {l : Fl} (hρ : ∀ x v, ov l x = some v → ρ x = v) {F : List Value → Prop} :
    ∀ {xs acc}, ovs l xs acc F → F (acc ++ xs.map ρ)
  | [], acc, h => by simpa [ovs] using h
  | x :: r, acc, h => by
    unfold ovs at h
    split at h
    · rename_i v hv
      have := ovs_of hρ h
      simpa [hρ _ _ hv] using this
    · exact h.elim
theorem allIn_of {ρ : Operand → Value} {l : Fl} (hρ : ∀ x v, ov l x = some v → ρ x = v) : ∀ {xs}, allIn l xs = true → ∀ x ∈ xs, ρ x = sg l x
  | [], _, x, hx => by cases hx
  | y :: r, h, x, hx => by
    unfold allIn at h
    split at h
    · rename_i v hv
      cases hx with
      | head => rw [hρ _ _ hv]; unfold sg; rw [hv]; rfl
      | tail _ hx => exact allIn_of hρ h x hx
    · cases h
theorem cellsAt_run {w : World} {p : Addr} {G : Prop} : ∀ (vs : List Value) (i : Nat) (acc : Array Value), cellsAt w p i vs G →
    (loadCellsFrom p i vs.length acc).run P w = .ok (acc ++ vs.toArray) w ∧ G
  | [], i, acc, h => ⟨by simp [loadCellsFrom, Sem.run_pure], h⟩
  | v :: r, i, acc, h => by
    obtain ⟨h1, h2⟩ := h
    obtain ⟨h3, h4⟩ := cellsAt_run r (i + 1) (acc.push v) h2
    refine ⟨?_, h4⟩
    simp only [List.length_cons, loadCellsFrom, Sem.run_bind, load, Sem.run, h1, Result.andThen_ok, h3]
    congr 1
    simp
theorem cell?_set {w : World} {a b : Addr} {u v : Value} (h : w.cell? b = some u) : ∃ u', (w.setCell a v).cell? b = some u' := cell?_setCell_some (w := w) (p := a) (x := v) (q := b) (v := u) h
theorem bigAt_run {w : World} {p : Addr} : ∀ (vs : List Value) (i : Nat) (acc : Array Value), (∀ (j : Nat) (u : Value), vs[j]? = some u → w.cell? (p.add (i + j)) = some u) →
    (loadCellsFrom p i vs.length acc).run P w = .ok (acc ++ vs.toArray) w
  | [], i, acc, h => by simp [loadCellsFrom, Sem.run_pure]
  | v :: r, i, acc, h => by
    have h1 : w.cell? (p.add i) = some v := by have := h 0 v rfl; simpa using this
    have h3 := bigAt_run r (i + 1) (acc.push v) (fun j u hu => by have := h (j + 1) u (by simpa using hu); rwa [show i + (j + 1) = i + 1 + j by omega] at this)
    simp only [List.length_cons, loadCellsFrom, Sem.run_bind, load, Sem.run, h1, Result.andThen_ok, h3]
    congr 1
    simp
theorem stAt_run0 {p : Addr} : ∀ (vs : List Value) (i : Nat) (w : World), (∀ v ∈ vs, (∀ a, v ≠ .agg a) ∧ (∀ a, v ≠ .tuple a)) → (∀ j, i ≤ j → j < i + vs.length → (∃ u, w.cell? (p.add j) = some u) ∧ w.frozen? (p.add j) = false) →
    (storeCells p vs i).run P w = .ok () (stW w p i vs)
  | [], i, w, _, _ => by simp [storeCells, Sem.run_pure, stW]
  | v :: r, i, w, hv, h => by
    obtain ⟨ha, ht⟩ := hv v (by simp)
    obtain ⟨⟨u, hu⟩, hf⟩ := h i (Nat.le_refl _) (by simp)
    have hs : (store (p.add i) v).run P w = .ok () (w.setCell (p.add i) v) := by
      cases v <;> first | exact absurd rfl (ha _) | exact absurd rfl (ht _) | simp [store, Sem.run, hu, hf]
    have hr := stAt_run0 r (i + 1) (w.setCell (p.add i) v) (fun x hx => hv x (by simp [hx])) (fun j h1 h2 => by
      obtain ⟨⟨u, hu⟩, hf⟩ := h j (by omega) (by simp; omega)
      exact ⟨cell?_set hu, by rw [World.frozen?_setCell]; exact hf⟩)
    simp only [storeCells, Sem.run_bind, hs, Result.andThen_ok, hr, stW]
theorem ocs_of {G : Prop} : ∀ {vs : List Value}, ocs vs G → (∀ v ∈ vs, (∀ a, v ≠ .agg a) ∧ (∀ a, v ≠ .tuple a)) ∧ G
  | [], h => ⟨by simp, h⟩
  | v :: r, h => by
    unfold ocs ocK at h
    split at h
    · exact h.elim
    · exact h.elim
    · rename_i h1 h2
      obtain ⟨h3, h4⟩ := ocs_of h
      exact ⟨fun x hx => by
        cases hx with
        | head => exact ⟨h1, h2⟩
        | tail _ hx => exact h3 x hx, h4⟩
theorem stAt_run {p : Addr} {G : World → Prop} (vs : List Value) (w : World) (h : stAt p vs w G) : ∃ w', (storeCells p vs).run P w = .ok () w' ∧ G w' := by
  obtain ⟨h1, h2, h3⟩ := ocs_of h
  exact ⟨_, stAt_run0 vs 0 w h1 (fun j _ hj => h2 j (by omega)), h3 _ rfl⟩
theorem vcells_eq (v : Value) : v.cells.toList = vcells v := by cases v <;> rfl
theorem ldV_run {i : Ti} {t : TypeId} (hi : TiOk P t i) {w : World} {p : Addr} {F : Value → Prop} (h : ldV (i.agg, i.ks) w p F) : ∃ v, (loadVar t p).run P w = .ok v w ∧ F v := by
  unfold ldV at h
  simp only [loadVar, Sem.run_bind, hi.agg, Result.andThen_ok]
  split at h
  · rename_i b ks hb
    injection hb with h1 h2
    subst h2
    split at h
    · obtain ⟨cs, hl, hc, h4⟩ := h
      refine ⟨_, ?_, h4⟩
      rw [h1]
      simp only [if_true, Sem.run_bind, hi.size, Result.andThen_ok, loadCells, ← hl, bigAt_run cs 0 #[] (fun j u hu => by have := hc j u hu; simpa using this), Sem.run_pure]
      simp
    · obtain ⟨vs, h⟩ := exL_of h
      split at h
      · rename_i hl
        have hl := Nat.eq_of_beq_eq_true hl
        obtain ⟨h3, h4⟩ := cellsAt_run (P := P) vs 0 #[] h
        refine ⟨_, ?_, h4⟩
        rw [h1]
        simp only [if_true, Sem.run_bind, hi.size, Result.andThen_ok, loadCells, ← hl, h3, Sem.run_pure]
        simp
      · exact h.elim
  · rename_i b ks hb
    injection hb with h1 h2
    obtain ⟨vs, h⟩ := exL_of h
    split at h
    · refine ⟨_, ?_, h.2⟩
      rw [h1]
      simp [load, Sem.run, h.1]
    · exact h.elim
end
end Go.Proofs.YtkjpmkopnkkbmaaGreatDoor
